/-
  NARROWER THAN 'FOR EVERY INPUT', by the rows' own cells (each row's printed sentence says how): FactsOf: loops · FactsSound: loops.
  DERIVED. THE GIVEN ROWS OF THIS SEAT. 6 by the template 'for every input the law returns true; each argument reads behind the call as it read before'; 0 by the template 'total and deterministic' (their statements: YtcihbcffokjgjaaGreatTotals.lean).
  GIVEN WITH THE SEED: the statements are not yours to turn. If you find one false, say at which input.
  Laid BY PROGRAM, IN A SANDBOX (cutbox-rows.mjs): the forced cells as the released guide's own fill.sh prints them over the translation f3d2d3f4591a153d… (all of the seat's roots in one cut). By AI agents, Wed Nov 11 2026. No macro, syntax, notation, axiom, sorry.
-/
import Derived.Test.YtcihbcffokjgjaaGreatChecked
import GoSem.Claim
import GoSem.ClaimJoined
import GoSem.ClaimMapViews
import Derived.JoinedTies
import Derived.KernelRfl
namespace Go.Proofs.YtcihbcffokjgjaaGreat
/- THE CELL 'sum', in the pinned program and in every row, IS THE sha256 OF THE DUMP (.gsa) THAT YtcihbcffokjgjaaGreatProg.lean LOADS. Nothing in Lean hashes anything: it is a label: what it is worth is what the hold of that sum in a sandbox is worth. -/
noncomputable def Tryz.pinned : Pinned := { name := "ytcihbcffokjgjaagreat", sum := "f3d2d3f4591a153d0facd0b1b15e02bf921d90e02c95909f44f56b803e690bf7", checked := Tryz.checked }
namespace Rows
def none {H : Type} : Left H := { results := [], args := [] }

/-- 'saturatelaw14.FactsApply': WHATEVER THE INPUT: true; the input reads as it did. -/
def factsApplySpec : ChangeSpec := { name := "factsApply", fn := fun _ => fun
  | [d1, d2, d3, d4] => { results := [.lit (.bool true)], args := [d1, d2, d3, d4] }
  | _ => none }
def factsApplyRow : OpenClaim := { program := "ytcihbcffokjgjaagreat", sum := "f3d2d3f4591a153d0facd0b1b15e02bf921d90e02c95909f44f56b803e690bf7", func := "saturate/saturatelaw14.FactsApply", spec := "factsApply", inPlace := ["math/bits.Add64"], unfollowed := true, recurses := true, apart := false }
def FactsApplySaid : Prop := factsApplyRow.holds Tryz.pinned (OpenSpec.ofChange factsApplySpec)

/-- ITS FALSE NEIGHBOUR: 'it returns false'. Refute it at one input. -/
def factsApplyWrong : ChangeSpec := { name := "factsApply", fn := fun _ => fun
  | [d1, d2, d3, d4] => { results := [.lit (.bool false)], args := [d1, d2, d3, d4] }
  | _ => none }
def FactsApplyWrongFalsely : Prop := factsApplyRow.holds Tryz.pinned (OpenSpec.ofChange factsApplyWrong)

/-- 'saturatelaw14.FactsOf': WHATEVER THE INPUT: true; the input reads as it did. -/
def factsOfSpec : ChangeSpec := { name := "factsOf", fn := fun _ => fun
  | [d] => { results := [.lit (.bool true)], args := [d] }
  | _ => none }
def factsOfRow : OpenClaim := { program := "ytcihbcffokjgjaagreat", sum := "f3d2d3f4591a153d0facd0b1b15e02bf921d90e02c95909f44f56b803e690bf7", func := "saturate/saturatelaw14.FactsOf", spec := "factsOf", inPlace := ["math/bits.Add64"], unfollowed := true, recurses := true, loops := true, apart := false }
def FactsOfSaid : Prop := factsOfRow.holds Tryz.pinned (OpenSpec.ofChange factsOfSpec)

/-- ITS FALSE NEIGHBOUR: 'it returns false'. Refute it at one input. -/
def factsOfWrong : ChangeSpec := { name := "factsOf", fn := fun _ => fun
  | [d] => { results := [.lit (.bool false)], args := [d] }
  | _ => none }
def FactsOfWrongFalsely : Prop := factsOfRow.holds Tryz.pinned (OpenSpec.ofChange factsOfWrong)

/-- 'saturatelaw14.FactsPairs': WHATEVER THE INPUT: true; the input reads as it did. -/
def factsPairsSpec : ChangeSpec := { name := "factsPairs", fn := fun _ => fun
  | [d1, d2] => { results := [.lit (.bool true)], args := [d1, d2] }
  | _ => none }
def factsPairsRow : OpenClaim := { program := "ytcihbcffokjgjaagreat", sum := "f3d2d3f4591a153d0facd0b1b15e02bf921d90e02c95909f44f56b803e690bf7", func := "saturate/saturatelaw14.FactsPairs", spec := "factsPairs", inPlace := ["math/bits.Add64"], unfollowed := true, recurses := true, apart := false }
def FactsPairsSaid : Prop := factsPairsRow.holds Tryz.pinned (OpenSpec.ofChange factsPairsSpec)

/-- ITS FALSE NEIGHBOUR: 'it returns false'. Refute it at one input. -/
def factsPairsWrong : ChangeSpec := { name := "factsPairs", fn := fun _ => fun
  | [d1, d2] => { results := [.lit (.bool false)], args := [d1, d2] }
  | _ => none }
def FactsPairsWrongFalsely : Prop := factsPairsRow.holds Tryz.pinned (OpenSpec.ofChange factsPairsWrong)

/-- 'saturatelaw14.FactsApplySound': WHATEVER THE INPUT: true; the input reads as it did. -/
def factsApplySoundSpec : ChangeSpec := { name := "factsApplySound", fn := fun _ => fun
  | [d1, d2, d3, d4, d5] => { results := [.lit (.bool true)], args := [d1, d2, d3, d4, d5] }
  | _ => none }
def factsApplySoundRow : OpenClaim := { program := "ytcihbcffokjgjaagreat", sum := "f3d2d3f4591a153d0facd0b1b15e02bf921d90e02c95909f44f56b803e690bf7", func := "saturate/saturatelaw14.FactsApplySound", spec := "factsApplySound", inPlace := ["math/bits.Add64"], unfollowed := true, recurses := true, apart := false }
def FactsApplySoundSaid : Prop := factsApplySoundRow.holds Tryz.pinned (OpenSpec.ofChange factsApplySoundSpec)

/-- ITS FALSE NEIGHBOUR: 'it returns false'. Refute it at one input. -/
def factsApplySoundWrong : ChangeSpec := { name := "factsApplySound", fn := fun _ => fun
  | [d1, d2, d3, d4, d5] => { results := [.lit (.bool false)], args := [d1, d2, d3, d4, d5] }
  | _ => none }
def FactsApplySoundWrongFalsely : Prop := factsApplySoundRow.holds Tryz.pinned (OpenSpec.ofChange factsApplySoundWrong)

/-- 'saturatelaw14.FactsSound': WHATEVER THE INPUT: true; the input reads as it did. -/
def factsSoundSpec : ChangeSpec := { name := "factsSound", fn := fun _ => fun
  | [d1, d2] => { results := [.lit (.bool true)], args := [d1, d2] }
  | _ => none }
def factsSoundRow : OpenClaim := { program := "ytcihbcffokjgjaagreat", sum := "f3d2d3f4591a153d0facd0b1b15e02bf921d90e02c95909f44f56b803e690bf7", func := "saturate/saturatelaw14.FactsSound", spec := "factsSound", inPlace := ["math/bits.Add64"], unfollowed := true, recurses := true, loops := true, apart := false }
def FactsSoundSaid : Prop := factsSoundRow.holds Tryz.pinned (OpenSpec.ofChange factsSoundSpec)

/-- ITS FALSE NEIGHBOUR: 'it returns false'. Refute it at one input. -/
def factsSoundWrong : ChangeSpec := { name := "factsSound", fn := fun _ => fun
  | [d1, d2] => { results := [.lit (.bool false)], args := [d1, d2] }
  | _ => none }
def FactsSoundWrongFalsely : Prop := factsSoundRow.holds Tryz.pinned (OpenSpec.ofChange factsSoundWrong)

/-- 'saturatelaw14.FactsReduces': WHATEVER THE INPUT: true; the input reads as it did. -/
def factsReducesSpec : ChangeSpec := { name := "factsReduces", fn := fun _ => fun
  | [d1, d2, d3] => { results := [.lit (.bool true)], args := [d1, d2, d3] }
  | _ => none }
def factsReducesRow : OpenClaim := { program := "ytcihbcffokjgjaagreat", sum := "f3d2d3f4591a153d0facd0b1b15e02bf921d90e02c95909f44f56b803e690bf7", func := "saturate/saturatelaw14.FactsReduces", spec := "factsReduces", inPlace := ["math/bits.Add64"], unfollowed := true, recurses := true, apart := false }
def FactsReducesSaid : Prop := factsReducesRow.holds Tryz.pinned (OpenSpec.ofChange factsReducesSpec)

/-- ITS FALSE NEIGHBOUR: 'it returns false'. Refute it at one input. -/
def factsReducesWrong : ChangeSpec := { name := "factsReduces", fn := fun _ => fun
  | [d1, d2, d3] => { results := [.lit (.bool false)], args := [d1, d2, d3] }
  | _ => none }
def FactsReducesWrongFalsely : Prop := factsReducesRow.holds Tryz.pinned (OpenSpec.ofChange factsReducesWrong)

/- THE SECOND FORM. 'bulk': how many values and letters a reading holds, each counted each time it is reached (what is shared counts as often as it is met; a slice's spare places count too). A statement '..UptoSaid' is the law's where the arguments, and the package variables that the reading takes, are together of bulk at most 1048576: NARROWER than '..Said'. Prove '..Said' where nothing that the law and all that it calls make is longer than what came in: it says more and counts as full. Else prove '..UptoSaid'. A law counts once. -/
mutual
def uptoBulk {H : Type} : DataW H → Nat
  | .lit (.string bytes) => bytes.length + 1
  | .lit _ => 1
  | .nil => 1
  | .ptr d => uptoBulk d + 1
  | .slice elems spare => uptoBulkAll elems + uptoBulkAll spare + 1
  | .agg parts => uptoBulkAll parts + 1
  | .iface _ d => uptoBulk d + 1
  | .map entries => uptoBulkEntries entries + 1
  | .held _ => 1
def uptoBulkAll {H : Type} : List (DataW H) → Nat
  | [] => 0
  | d :: r => uptoBulk d + uptoBulkAll r
def uptoBulkEntries {H : Type} : List (Lit × DataW H) → Nat
  | [] => 0
  | x :: r => uptoBulkEntry x + uptoBulkEntries r
def uptoBulkEntry {H : Type} : Lit × DataW H → Nat
  | (.string bytes, d) => bytes.length + uptoBulk d + 1
  | (_, d) => uptoBulk d + 1
 end
def uptoSmall : (H : Type) → List (DataW H) → Bool := fun _ ds => decide (uptoBulkAll ds ≤ 1048576)
def OpenSpec.upto (s : _root_.Go.ChangeSpec) : _root_.Go.OpenSpec := { _root_.Go.OpenSpec.ofChange s with cond := some uptoSmall }

/-- 'saturatelaw14.FactsApply', WHERE WHAT IT READS IS OF BULK AT MOST 1048576: true; the input reads as it did. -/
def factsApplyUptoRow : OpenClaim := { program := "ytcihbcffokjgjaagreat", sum := "f3d2d3f4591a153d0facd0b1b15e02bf921d90e02c95909f44f56b803e690bf7", func := "saturate/saturatelaw14.FactsApply", spec := "factsApply", inPlace := ["math/bits.Add64"], unfollowed := true, recurses := true, apart := false, narrowed := true }
def FactsApplyUptoSaid : Prop := factsApplyUptoRow.holds Tryz.pinned (OpenSpec.upto factsApplySpec)

/-- 'saturatelaw14.FactsOf', WHERE WHAT IT READS IS OF BULK AT MOST 1048576: true; the input reads as it did. -/
def factsOfUptoRow : OpenClaim := { program := "ytcihbcffokjgjaagreat", sum := "f3d2d3f4591a153d0facd0b1b15e02bf921d90e02c95909f44f56b803e690bf7", func := "saturate/saturatelaw14.FactsOf", spec := "factsOf", inPlace := ["math/bits.Add64"], unfollowed := true, recurses := true, loops := true, apart := false, narrowed := true }
def FactsOfUptoSaid : Prop := factsOfUptoRow.holds Tryz.pinned (OpenSpec.upto factsOfSpec)

/-- 'saturatelaw14.FactsPairs', WHERE WHAT IT READS IS OF BULK AT MOST 1048576: true; the input reads as it did. -/
def factsPairsUptoRow : OpenClaim := { program := "ytcihbcffokjgjaagreat", sum := "f3d2d3f4591a153d0facd0b1b15e02bf921d90e02c95909f44f56b803e690bf7", func := "saturate/saturatelaw14.FactsPairs", spec := "factsPairs", inPlace := ["math/bits.Add64"], unfollowed := true, recurses := true, apart := false, narrowed := true }
def FactsPairsUptoSaid : Prop := factsPairsUptoRow.holds Tryz.pinned (OpenSpec.upto factsPairsSpec)

/-- 'saturatelaw14.FactsApplySound', WHERE WHAT IT READS IS OF BULK AT MOST 1048576: true; the input reads as it did. -/
def factsApplySoundUptoRow : OpenClaim := { program := "ytcihbcffokjgjaagreat", sum := "f3d2d3f4591a153d0facd0b1b15e02bf921d90e02c95909f44f56b803e690bf7", func := "saturate/saturatelaw14.FactsApplySound", spec := "factsApplySound", inPlace := ["math/bits.Add64"], unfollowed := true, recurses := true, apart := false, narrowed := true }
def FactsApplySoundUptoSaid : Prop := factsApplySoundUptoRow.holds Tryz.pinned (OpenSpec.upto factsApplySoundSpec)

/-- 'saturatelaw14.FactsSound', WHERE WHAT IT READS IS OF BULK AT MOST 1048576: true; the input reads as it did. -/
def factsSoundUptoRow : OpenClaim := { program := "ytcihbcffokjgjaagreat", sum := "f3d2d3f4591a153d0facd0b1b15e02bf921d90e02c95909f44f56b803e690bf7", func := "saturate/saturatelaw14.FactsSound", spec := "factsSound", inPlace := ["math/bits.Add64"], unfollowed := true, recurses := true, loops := true, apart := false, narrowed := true }
def FactsSoundUptoSaid : Prop := factsSoundUptoRow.holds Tryz.pinned (OpenSpec.upto factsSoundSpec)

/-- 'saturatelaw14.FactsReduces', WHERE WHAT IT READS IS OF BULK AT MOST 1048576: true; the input reads as it did. -/
def factsReducesUptoRow : OpenClaim := { program := "ytcihbcffokjgjaagreat", sum := "f3d2d3f4591a153d0facd0b1b15e02bf921d90e02c95909f44f56b803e690bf7", func := "saturate/saturatelaw14.FactsReduces", spec := "factsReduces", inPlace := ["math/bits.Add64"], unfollowed := true, recurses := true, apart := false, narrowed := true }
def FactsReducesUptoSaid : Prop := factsReducesUptoRow.holds Tryz.pinned (OpenSpec.upto factsReducesSpec)

end Rows
end Go.Proofs.YtcihbcffokjgjaaGreat
