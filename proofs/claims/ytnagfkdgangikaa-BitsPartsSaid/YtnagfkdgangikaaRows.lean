/-
  No cell of these rows narrows 'for every input' (looked for: loops, veiled, ifaces, maps, wideKeys, modest, calm, conditions, laid).
  DERIVED. THE GIVEN ROWS OF THIS SEAT. 8 by the template 'for every input the law returns true; each argument reads behind the call as it read before'; 0 by the template 'total and deterministic' (their statements: YtnagfkdgangikaaTotals.lean).
  GIVEN WITH THE SEED: the statements are not yours to turn. If you find one false, say at which input.
  Laid BY PROGRAM, IN A SANDBOX (cutbox-rows.mjs): the forced cells as the released guide's own fill.sh prints them over the translation 438c6051387f5728… (all of the seat's roots in one cut). By AI agents, Wed Nov 11 2026. No macro, syntax, notation, axiom, sorry.
-/
import Derived.Test.YtnagfkdgangikaaChecked
import GoSem.Claim
import GoSem.ClaimJoined
import GoSem.ClaimMapViews
import Derived.JoinedTies
import Derived.KernelRfl
namespace Go.Proofs.Ytnagfkdgangikaa
/- THE CELL 'sum', in the pinned program and in every row, IS THE sha256 OF THE DUMP (.gsa) THAT YtnagfkdgangikaaProg.lean LOADS. Nothing in Lean hashes anything: it is a label: what it is worth is what the hold of that sum in a sandbox is worth. -/
noncomputable def Try.pinned : Pinned := { name := "ytnagfkdgangikaa", sum := "438c6051387f57286cf1f6baddb1526996365d02e26c09fb382780196ad21ee2", checked := Try.checked }
namespace Rows
def none {H : Type} : Left H := { results := [], args := [] }

/-- 'saturatelaw01.BitsMasks': WHATEVER THE INPUT: true; the input reads as it did. -/
def bitsMasksSpec : ChangeSpec := { name := "bitsMasks", fn := fun _ => fun
  | [d1, d2] => { results := [.lit (.bool true)], args := [d1, d2] }
  | _ => none }
def bitsMasksRow : OpenClaim := { program := "ytnagfkdgangikaa", sum := "438c6051387f57286cf1f6baddb1526996365d02e26c09fb382780196ad21ee2", func := "saturate/saturatelaw01.BitsMasks", spec := "bitsMasks", apart := false }
def BitsMasksSaid : Prop := bitsMasksRow.holds Try.pinned (OpenSpec.ofChange bitsMasksSpec)

/-- ITS FALSE NEIGHBOUR: 'it returns false'. Refute it at one input. -/
def bitsMasksWrong : ChangeSpec := { name := "bitsMasks", fn := fun _ => fun
  | [d1, d2] => { results := [.lit (.bool false)], args := [d1, d2] }
  | _ => none }
def BitsMasksWrongFalsely : Prop := bitsMasksRow.holds Try.pinned (OpenSpec.ofChange bitsMasksWrong)

/-- 'saturatelaw01.BitsSums': WHATEVER THE INPUT: true; the input reads as it did. -/
def bitsSumsSpec : ChangeSpec := { name := "bitsSums", fn := fun _ => fun
  | [d1, d2, d3] => { results := [.lit (.bool true)], args := [d1, d2, d3] }
  | _ => none }
def bitsSumsRow : OpenClaim := { program := "ytnagfkdgangikaa", sum := "438c6051387f57286cf1f6baddb1526996365d02e26c09fb382780196ad21ee2", func := "saturate/saturatelaw01.BitsSums", spec := "bitsSums", apart := false }
def BitsSumsSaid : Prop := bitsSumsRow.holds Try.pinned (OpenSpec.ofChange bitsSumsSpec)

/-- ITS FALSE NEIGHBOUR: 'it returns false'. Refute it at one input. -/
def bitsSumsWrong : ChangeSpec := { name := "bitsSums", fn := fun _ => fun
  | [d1, d2, d3] => { results := [.lit (.bool false)], args := [d1, d2, d3] }
  | _ => none }
def BitsSumsWrongFalsely : Prop := bitsSumsRow.holds Try.pinned (OpenSpec.ofChange bitsSumsWrong)

/-- 'saturatelaw01.BitsShifts': WHATEVER THE INPUT: true; the input reads as it did. -/
def bitsShiftsSpec : ChangeSpec := { name := "bitsShifts", fn := fun _ => fun
  | [d1, d2, d3] => { results := [.lit (.bool true)], args := [d1, d2, d3] }
  | _ => none }
def bitsShiftsRow : OpenClaim := { program := "ytnagfkdgangikaa", sum := "438c6051387f57286cf1f6baddb1526996365d02e26c09fb382780196ad21ee2", func := "saturate/saturatelaw01.BitsShifts", spec := "bitsShifts", apart := false }
def BitsShiftsSaid : Prop := bitsShiftsRow.holds Try.pinned (OpenSpec.ofChange bitsShiftsSpec)

/-- ITS FALSE NEIGHBOUR: 'it returns false'. Refute it at one input. -/
def bitsShiftsWrong : ChangeSpec := { name := "bitsShifts", fn := fun _ => fun
  | [d1, d2, d3] => { results := [.lit (.bool false)], args := [d1, d2, d3] }
  | _ => none }
def BitsShiftsWrongFalsely : Prop := bitsShiftsRow.holds Try.pinned (OpenSpec.ofChange bitsShiftsWrong)

/-- 'saturatelaw01.BitsCompares': WHATEVER THE INPUT: true; the input reads as it did. -/
def bitsComparesSpec : ChangeSpec := { name := "bitsCompares", fn := fun _ => fun
  | [d1, d2, d3] => { results := [.lit (.bool true)], args := [d1, d2, d3] }
  | _ => none }
def bitsComparesRow : OpenClaim := { program := "ytnagfkdgangikaa", sum := "438c6051387f57286cf1f6baddb1526996365d02e26c09fb382780196ad21ee2", func := "saturate/saturatelaw01.BitsCompares", spec := "bitsCompares", apart := false }
def BitsComparesSaid : Prop := bitsComparesRow.holds Try.pinned (OpenSpec.ofChange bitsComparesSpec)

/-- ITS FALSE NEIGHBOUR: 'it returns false'. Refute it at one input. -/
def bitsComparesWrong : ChangeSpec := { name := "bitsCompares", fn := fun _ => fun
  | [d1, d2, d3] => { results := [.lit (.bool false)], args := [d1, d2, d3] }
  | _ => none }
def BitsComparesWrongFalsely : Prop := bitsComparesRow.holds Try.pinned (OpenSpec.ofChange bitsComparesWrong)

/-- 'saturatelaw01.BitsLogic': WHATEVER THE INPUT: true; the input reads as it did. -/
def bitsLogicSpec : ChangeSpec := { name := "bitsLogic", fn := fun _ => fun
  | [d1, d2, d3] => { results := [.lit (.bool true)], args := [d1, d2, d3] }
  | _ => none }
def bitsLogicRow : OpenClaim := { program := "ytnagfkdgangikaa", sum := "438c6051387f57286cf1f6baddb1526996365d02e26c09fb382780196ad21ee2", func := "saturate/saturatelaw01.BitsLogic", spec := "bitsLogic", apart := false }
def BitsLogicSaid : Prop := bitsLogicRow.holds Try.pinned (OpenSpec.ofChange bitsLogicSpec)

/-- ITS FALSE NEIGHBOUR: 'it returns false'. Refute it at one input. -/
def bitsLogicWrong : ChangeSpec := { name := "bitsLogic", fn := fun _ => fun
  | [d1, d2, d3] => { results := [.lit (.bool false)], args := [d1, d2, d3] }
  | _ => none }
def BitsLogicWrongFalsely : Prop := bitsLogicRow.holds Try.pinned (OpenSpec.ofChange bitsLogicWrong)

/-- 'saturatelaw01.BitsQuotients': WHATEVER THE INPUT: true; the input reads as it did. -/
def bitsQuotientsSpec : ChangeSpec := { name := "bitsQuotients", fn := fun _ => fun
  | [d1, d2, d3] => { results := [.lit (.bool true)], args := [d1, d2, d3] }
  | _ => none }
def bitsQuotientsRow : OpenClaim := { program := "ytnagfkdgangikaa", sum := "438c6051387f57286cf1f6baddb1526996365d02e26c09fb382780196ad21ee2", func := "saturate/saturatelaw01.BitsQuotients", spec := "bitsQuotients", apart := false }
def BitsQuotientsSaid : Prop := bitsQuotientsRow.holds Try.pinned (OpenSpec.ofChange bitsQuotientsSpec)

/-- ITS FALSE NEIGHBOUR: 'it returns false'. Refute it at one input. -/
def bitsQuotientsWrong : ChangeSpec := { name := "bitsQuotients", fn := fun _ => fun
  | [d1, d2, d3] => { results := [.lit (.bool false)], args := [d1, d2, d3] }
  | _ => none }
def BitsQuotientsWrongFalsely : Prop := bitsQuotientsRow.holds Try.pinned (OpenSpec.ofChange bitsQuotientsWrong)

/-- 'saturatelaw01.BitsParts': WHATEVER THE INPUT: true; the input reads as it did. -/
def bitsPartsSpec : ChangeSpec := { name := "bitsParts", fn := fun _ => fun
  | [d] => { results := [.lit (.bool true)], args := [d] }
  | _ => none }
def bitsPartsRow : OpenClaim := { program := "ytnagfkdgangikaa", sum := "438c6051387f57286cf1f6baddb1526996365d02e26c09fb382780196ad21ee2", func := "saturate/saturatelaw01.BitsParts", spec := "bitsParts", apart := false }
def BitsPartsSaid : Prop := bitsPartsRow.holds Try.pinned (OpenSpec.ofChange bitsPartsSpec)

/-- ITS FALSE NEIGHBOUR: 'it returns false'. Refute it at one input. -/
def bitsPartsWrong : ChangeSpec := { name := "bitsParts", fn := fun _ => fun
  | [d] => { results := [.lit (.bool false)], args := [d] }
  | _ => none }
def BitsPartsWrongFalsely : Prop := bitsPartsRow.holds Try.pinned (OpenSpec.ofChange bitsPartsWrong)

/-- 'saturatelaw01.BitsDivides': WHATEVER THE INPUT: true; the input reads as it did. -/
def bitsDividesSpec : ChangeSpec := { name := "bitsDivides", fn := fun _ => fun
  | [d1, d2, d3] => { results := [.lit (.bool true)], args := [d1, d2, d3] }
  | _ => none }
def bitsDividesRow : OpenClaim := { program := "ytnagfkdgangikaa", sum := "438c6051387f57286cf1f6baddb1526996365d02e26c09fb382780196ad21ee2", func := "saturate/saturatelaw01.BitsDivides", spec := "bitsDivides", apart := false }
def BitsDividesSaid : Prop := bitsDividesRow.holds Try.pinned (OpenSpec.ofChange bitsDividesSpec)

/-- ITS FALSE NEIGHBOUR: 'it returns false'. Refute it at one input. -/
def bitsDividesWrong : ChangeSpec := { name := "bitsDivides", fn := fun _ => fun
  | [d1, d2, d3] => { results := [.lit (.bool false)], args := [d1, d2, d3] }
  | _ => none }
def BitsDividesWrongFalsely : Prop := bitsDividesRow.holds Try.pinned (OpenSpec.ofChange bitsDividesWrong)

/- THE SECOND FORM. 'bulk': how many values and letters a reading holds, each counted each time it is reached (what is shared counts as often as it is met; a slice's spare places count too). A statement '..UptoSaid' is the law's where the arguments, and the package variables that the reading takes, are together of bulk at most 1048576: NARROWER than '..Said'. Prove '..Said' where nothing that the law and all that it calls make is longer than what came in: it says more and counts as full. Else prove '..UptoSaid'. A law counts once. -/
mutual
def uptoBulk {H : Type} : DataW H → Nat
  | .lit (.string bytes) => bytes.length + 1
  | .lit _ => 1
  | .nil => 1
  | .ptr d => uptoBulk d + 1
  | .slice elems spare => uptoBulkAll elems + uptoBulkAll spare + 1
  | .agg parts => uptoBulkAll parts + 1
  | .iface _ d => uptoBulk d + 1
  | .map entries => uptoBulkEntries entries + 1
  | .held _ => 1
def uptoBulkAll {H : Type} : List (DataW H) → Nat
  | [] => 0
  | d :: r => uptoBulk d + uptoBulkAll r
def uptoBulkEntries {H : Type} : List (Lit × DataW H) → Nat
  | [] => 0
  | x :: r => uptoBulkEntry x + uptoBulkEntries r
def uptoBulkEntry {H : Type} : Lit × DataW H → Nat
  | (.string bytes, d) => bytes.length + uptoBulk d + 1
  | (_, d) => uptoBulk d + 1
 end
def uptoSmall : (H : Type) → List (DataW H) → Bool := fun _ ds => decide (uptoBulkAll ds ≤ 1048576)
def OpenSpec.upto (s : _root_.Go.ChangeSpec) : _root_.Go.OpenSpec := { _root_.Go.OpenSpec.ofChange s with cond := some uptoSmall }

/-- 'saturatelaw01.BitsMasks', WHERE WHAT IT READS IS OF BULK AT MOST 1048576: true; the input reads as it did. -/
def bitsMasksUptoRow : OpenClaim := { program := "ytnagfkdgangikaa", sum := "438c6051387f57286cf1f6baddb1526996365d02e26c09fb382780196ad21ee2", func := "saturate/saturatelaw01.BitsMasks", spec := "bitsMasks", apart := false, narrowed := true }
def BitsMasksUptoSaid : Prop := bitsMasksUptoRow.holds Try.pinned (OpenSpec.upto bitsMasksSpec)

/-- 'saturatelaw01.BitsSums', WHERE WHAT IT READS IS OF BULK AT MOST 1048576: true; the input reads as it did. -/
def bitsSumsUptoRow : OpenClaim := { program := "ytnagfkdgangikaa", sum := "438c6051387f57286cf1f6baddb1526996365d02e26c09fb382780196ad21ee2", func := "saturate/saturatelaw01.BitsSums", spec := "bitsSums", apart := false, narrowed := true }
def BitsSumsUptoSaid : Prop := bitsSumsUptoRow.holds Try.pinned (OpenSpec.upto bitsSumsSpec)

/-- 'saturatelaw01.BitsShifts', WHERE WHAT IT READS IS OF BULK AT MOST 1048576: true; the input reads as it did. -/
def bitsShiftsUptoRow : OpenClaim := { program := "ytnagfkdgangikaa", sum := "438c6051387f57286cf1f6baddb1526996365d02e26c09fb382780196ad21ee2", func := "saturate/saturatelaw01.BitsShifts", spec := "bitsShifts", apart := false, narrowed := true }
def BitsShiftsUptoSaid : Prop := bitsShiftsUptoRow.holds Try.pinned (OpenSpec.upto bitsShiftsSpec)

/-- 'saturatelaw01.BitsCompares', WHERE WHAT IT READS IS OF BULK AT MOST 1048576: true; the input reads as it did. -/
def bitsComparesUptoRow : OpenClaim := { program := "ytnagfkdgangikaa", sum := "438c6051387f57286cf1f6baddb1526996365d02e26c09fb382780196ad21ee2", func := "saturate/saturatelaw01.BitsCompares", spec := "bitsCompares", apart := false, narrowed := true }
def BitsComparesUptoSaid : Prop := bitsComparesUptoRow.holds Try.pinned (OpenSpec.upto bitsComparesSpec)

/-- 'saturatelaw01.BitsLogic', WHERE WHAT IT READS IS OF BULK AT MOST 1048576: true; the input reads as it did. -/
def bitsLogicUptoRow : OpenClaim := { program := "ytnagfkdgangikaa", sum := "438c6051387f57286cf1f6baddb1526996365d02e26c09fb382780196ad21ee2", func := "saturate/saturatelaw01.BitsLogic", spec := "bitsLogic", apart := false, narrowed := true }
def BitsLogicUptoSaid : Prop := bitsLogicUptoRow.holds Try.pinned (OpenSpec.upto bitsLogicSpec)

/-- 'saturatelaw01.BitsQuotients', WHERE WHAT IT READS IS OF BULK AT MOST 1048576: true; the input reads as it did. -/
def bitsQuotientsUptoRow : OpenClaim := { program := "ytnagfkdgangikaa", sum := "438c6051387f57286cf1f6baddb1526996365d02e26c09fb382780196ad21ee2", func := "saturate/saturatelaw01.BitsQuotients", spec := "bitsQuotients", apart := false, narrowed := true }
def BitsQuotientsUptoSaid : Prop := bitsQuotientsUptoRow.holds Try.pinned (OpenSpec.upto bitsQuotientsSpec)

/-- 'saturatelaw01.BitsParts', WHERE WHAT IT READS IS OF BULK AT MOST 1048576: true; the input reads as it did. -/
def bitsPartsUptoRow : OpenClaim := { program := "ytnagfkdgangikaa", sum := "438c6051387f57286cf1f6baddb1526996365d02e26c09fb382780196ad21ee2", func := "saturate/saturatelaw01.BitsParts", spec := "bitsParts", apart := false, narrowed := true }
def BitsPartsUptoSaid : Prop := bitsPartsUptoRow.holds Try.pinned (OpenSpec.upto bitsPartsSpec)

/-- 'saturatelaw01.BitsDivides', WHERE WHAT IT READS IS OF BULK AT MOST 1048576: true; the input reads as it did. -/
def bitsDividesUptoRow : OpenClaim := { program := "ytnagfkdgangikaa", sum := "438c6051387f57286cf1f6baddb1526996365d02e26c09fb382780196ad21ee2", func := "saturate/saturatelaw01.BitsDivides", spec := "bitsDivides", apart := false, narrowed := true }
def BitsDividesUptoSaid : Prop := bitsDividesUptoRow.holds Try.pinned (OpenSpec.upto bitsDividesSpec)

end Rows
end Go.Proofs.Ytnagfkdgangikaa
