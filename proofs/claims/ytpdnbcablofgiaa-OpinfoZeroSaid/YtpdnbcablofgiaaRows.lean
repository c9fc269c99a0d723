/-
  No cell of these rows narrows 'for every input' (looked for: loops, veiled, ifaces, maps, wideKeys, modest, calm, conditions, laid).
  DERIVED. THE GIVEN ROWS OF THIS SEAT. 4 by the template 'for every input the law returns true; each argument reads behind the call as it read before'; 0 by the template 'total and deterministic' (their statements: YtpdnbcablofgiaaTotals.lean).
  GIVEN WITH THE SEED: the statements are not yours to turn. If you find one false, say at which input.
  Laid BY PROGRAM, IN A SANDBOX (cutbox-rows.mjs): the forced cells as the released guide's own fill.sh prints them over the translation 86d82df4dd1b6b07… (all of the seat's roots in one cut). By AI agents, Wed Nov 11 2026. No macro, syntax, notation, axiom, sorry.
-/
import Derived.Test.YtpdnbcablofgiaaChecked
import GoSem.Claim
import GoSem.ClaimJoined
import GoSem.ClaimMapViews
import Derived.JoinedTies
import Derived.KernelRfl
namespace Go.Proofs.Ytpdnbcablofgiaa
/- THE CELL 'sum', in the pinned program and in every row, IS THE sha256 OF THE DUMP (.gsa) THAT YtpdnbcablofgiaaProg.lean LOADS. Nothing in Lean hashes anything: it is a label: what it is worth is what the hold of that sum in a sandbox is worth. -/
noncomputable def Try.pinned : Pinned := { name := "ytpdnbcablofgiaa", sum := "86d82df4dd1b6b07adfa04bb0da58d7074714b9938a2c18b083e156d2154cc96", checked := Try.checked }
namespace Rows
def none {H : Type} : Left H := { results := [], args := [] }

/-- 'saturatelaw04.OpinfoWidths': WHATEVER THE INPUT: true; the input reads as it did. -/
def opinfoWidthsSpec : ChangeSpec := { name := "opinfoWidths", fn := fun _ => fun
  | [d] => { results := [.lit (.bool true)], args := [d] }
  | _ => none }
def opinfoWidthsRow : OpenClaim := { program := "ytpdnbcablofgiaa", sum := "86d82df4dd1b6b07adfa04bb0da58d7074714b9938a2c18b083e156d2154cc96", func := "saturate/saturatelaw04.OpinfoWidths", spec := "opinfoWidths", apart := false }
def OpinfoWidthsSaid : Prop := opinfoWidthsRow.holds Try.pinned (OpenSpec.ofChange opinfoWidthsSpec)

/-- ITS FALSE NEIGHBOUR: 'it returns false'. Refute it at one input. -/
def opinfoWidthsWrong : ChangeSpec := { name := "opinfoWidths", fn := fun _ => fun
  | [d] => { results := [.lit (.bool false)], args := [d] }
  | _ => none }
def OpinfoWidthsWrongFalsely : Prop := opinfoWidthsRow.holds Try.pinned (OpenSpec.ofChange opinfoWidthsWrong)

/-- 'saturatelaw04.OpinfoZero': WHATEVER THE INPUT: true; the input reads as it did. -/
def opinfoZeroSpec : ChangeSpec := { name := "opinfoZero", fn := fun _ => fun
  | [d] => { results := [.lit (.bool true)], args := [d] }
  | _ => none }
def opinfoZeroRow : OpenClaim := { program := "ytpdnbcablofgiaa", sum := "86d82df4dd1b6b07adfa04bb0da58d7074714b9938a2c18b083e156d2154cc96", func := "saturate/saturatelaw04.OpinfoZero", spec := "opinfoZero", apart := false }
def OpinfoZeroSaid : Prop := opinfoZeroRow.holds Try.pinned (OpenSpec.ofChange opinfoZeroSpec)

/-- ITS FALSE NEIGHBOUR: 'it returns false'. Refute it at one input. -/
def opinfoZeroWrong : ChangeSpec := { name := "opinfoZero", fn := fun _ => fun
  | [d] => { results := [.lit (.bool false)], args := [d] }
  | _ => none }
def OpinfoZeroWrongFalsely : Prop := opinfoZeroRow.holds Try.pinned (OpenSpec.ofChange opinfoZeroWrong)

/-- 'saturatelaw04.OpinfoOps': WHATEVER THE INPUT: true; the input reads as it did. -/
def opinfoOpsSpec : ChangeSpec := { name := "opinfoOps", fn := fun _ => fun
  | [] => { results := [.lit (.bool true)], args := [] }
  | _ => none }
def opinfoOpsRow : OpenClaim := { program := "ytpdnbcablofgiaa", sum := "86d82df4dd1b6b07adfa04bb0da58d7074714b9938a2c18b083e156d2154cc96", func := "saturate/saturatelaw04.OpinfoOps", spec := "opinfoOps", apart := false }
def OpinfoOpsSaid : Prop := opinfoOpsRow.holds Try.pinned (OpenSpec.ofChange opinfoOpsSpec)

/-- ITS FALSE NEIGHBOUR: 'it returns false'. Refute it at one input. -/
def opinfoOpsWrong : ChangeSpec := { name := "opinfoOps", fn := fun _ => fun
  | [] => { results := [.lit (.bool false)], args := [] }
  | _ => none }
def OpinfoOpsWrongFalsely : Prop := opinfoOpsRow.holds Try.pinned (OpenSpec.ofChange opinfoOpsWrong)

/-- 'saturatelaw04.OpinfoKinds': WHATEVER THE INPUT: true; the input reads as it did. -/
def opinfoKindsSpec : ChangeSpec := { name := "opinfoKinds", fn := fun _ => fun
  | [d] => { results := [.lit (.bool true)], args := [d] }
  | _ => none }
def opinfoKindsRow : OpenClaim := { program := "ytpdnbcablofgiaa", sum := "86d82df4dd1b6b07adfa04bb0da58d7074714b9938a2c18b083e156d2154cc96", func := "saturate/saturatelaw04.OpinfoKinds", spec := "opinfoKinds", apart := false }
def OpinfoKindsSaid : Prop := opinfoKindsRow.holds Try.pinned (OpenSpec.ofChange opinfoKindsSpec)

/-- ITS FALSE NEIGHBOUR: 'it returns false'. Refute it at one input. -/
def opinfoKindsWrong : ChangeSpec := { name := "opinfoKinds", fn := fun _ => fun
  | [d] => { results := [.lit (.bool false)], args := [d] }
  | _ => none }
def OpinfoKindsWrongFalsely : Prop := opinfoKindsRow.holds Try.pinned (OpenSpec.ofChange opinfoKindsWrong)

/- THE SECOND FORM. 'bulk': how many values and letters a reading holds, each counted each time it is reached (what is shared counts as often as it is met; a slice's spare places count too). A statement '..UptoSaid' is the law's where the arguments, and the package variables that the reading takes, are together of bulk at most 1048576: NARROWER than '..Said'. Prove '..Said' where nothing that the law and all that it calls make is longer than what came in: it says more and counts as full. Else prove '..UptoSaid'. A law counts once. -/
mutual
def uptoBulk {H : Type} : DataW H → Nat
  | .lit (.string bytes) => bytes.length + 1
  | .lit _ => 1
  | .nil => 1
  | .ptr d => uptoBulk d + 1
  | .slice elems spare => uptoBulkAll elems + uptoBulkAll spare + 1
  | .agg parts => uptoBulkAll parts + 1
  | .iface _ d => uptoBulk d + 1
  | .map entries => uptoBulkEntries entries + 1
  | .held _ => 1
def uptoBulkAll {H : Type} : List (DataW H) → Nat
  | [] => 0
  | d :: r => uptoBulk d + uptoBulkAll r
def uptoBulkEntries {H : Type} : List (Lit × DataW H) → Nat
  | [] => 0
  | x :: r => uptoBulkEntry x + uptoBulkEntries r
def uptoBulkEntry {H : Type} : Lit × DataW H → Nat
  | (.string bytes, d) => bytes.length + uptoBulk d + 1
  | (_, d) => uptoBulk d + 1
 end
def uptoSmall : (H : Type) → List (DataW H) → Bool := fun _ ds => decide (uptoBulkAll ds ≤ 1048576)
def OpenSpec.upto (s : _root_.Go.ChangeSpec) : _root_.Go.OpenSpec := { _root_.Go.OpenSpec.ofChange s with cond := some uptoSmall }

/-- 'saturatelaw04.OpinfoWidths', WHERE WHAT IT READS IS OF BULK AT MOST 1048576: true; the input reads as it did. -/
def opinfoWidthsUptoRow : OpenClaim := { program := "ytpdnbcablofgiaa", sum := "86d82df4dd1b6b07adfa04bb0da58d7074714b9938a2c18b083e156d2154cc96", func := "saturate/saturatelaw04.OpinfoWidths", spec := "opinfoWidths", apart := false, narrowed := true }
def OpinfoWidthsUptoSaid : Prop := opinfoWidthsUptoRow.holds Try.pinned (OpenSpec.upto opinfoWidthsSpec)

/-- 'saturatelaw04.OpinfoZero', WHERE WHAT IT READS IS OF BULK AT MOST 1048576: true; the input reads as it did. -/
def opinfoZeroUptoRow : OpenClaim := { program := "ytpdnbcablofgiaa", sum := "86d82df4dd1b6b07adfa04bb0da58d7074714b9938a2c18b083e156d2154cc96", func := "saturate/saturatelaw04.OpinfoZero", spec := "opinfoZero", apart := false, narrowed := true }
def OpinfoZeroUptoSaid : Prop := opinfoZeroUptoRow.holds Try.pinned (OpenSpec.upto opinfoZeroSpec)

/-- 'saturatelaw04.OpinfoOps', WHERE WHAT IT READS IS OF BULK AT MOST 1048576: true; the input reads as it did. -/
def opinfoOpsUptoRow : OpenClaim := { program := "ytpdnbcablofgiaa", sum := "86d82df4dd1b6b07adfa04bb0da58d7074714b9938a2c18b083e156d2154cc96", func := "saturate/saturatelaw04.OpinfoOps", spec := "opinfoOps", apart := false, narrowed := true }
def OpinfoOpsUptoSaid : Prop := opinfoOpsUptoRow.holds Try.pinned (OpenSpec.upto opinfoOpsSpec)

/-- 'saturatelaw04.OpinfoKinds', WHERE WHAT IT READS IS OF BULK AT MOST 1048576: true; the input reads as it did. -/
def opinfoKindsUptoRow : OpenClaim := { program := "ytpdnbcablofgiaa", sum := "86d82df4dd1b6b07adfa04bb0da58d7074714b9938a2c18b083e156d2154cc96", func := "saturate/saturatelaw04.OpinfoKinds", spec := "opinfoKinds", apart := false, narrowed := true }
def OpinfoKindsUptoSaid : Prop := opinfoKindsUptoRow.holds Try.pinned (OpenSpec.upto opinfoKindsSpec)

end Rows
end Go.Proofs.Ytpdnbcablofgiaa
