/-
  No cell of these rows narrows 'for every input' (looked for: loops, veiled, ifaces, maps, wideKeys, modest, calm, conditions, laid).
  DERIVED. THE GIVEN ROWS OF THIS SEAT. 6 by the template 'for every input the law returns true; each argument reads behind the call as it read before'; 0 by the template 'total and deterministic' (their statements: YtchahcaccneinaaTotals.lean).
  GIVEN WITH THE SEED: the statements are not yours to turn. If you find one false, say at which input.
  Laid BY PROGRAM, IN A SANDBOX (cutbox-rows.mjs): the forced cells as the released guide's own fill.sh prints them over the translation c170f8beb9351552… (all of the seat's roots in one cut). By AI agents, Wed Nov 11 2026. No macro, syntax, notation, axiom, sorry.
-/
import Derived.Test.YtchahcaccneinaaChecked
import GoSem.Claim
import GoSem.ClaimJoined
import GoSem.ClaimMapViews
import Derived.JoinedTies
import Derived.KernelRfl
namespace Go.Proofs.Ytchahcaccneinaa
/- THE CELL 'sum', in the pinned program and in every row, IS THE sha256 OF THE DUMP (.gsa) THAT YtchahcaccneinaaProg.lean LOADS. Nothing in Lean hashes anything: it is a label: what it is worth is what the hold of that sum in a sandbox is worth. -/
noncomputable def Try.pinned : Pinned := { name := "ytchahcaccneinaa", sum := "c170f8beb93515522711ae70931f0262582db16c8ac291cb64e1360c191c8909", checked := Try.checked }
namespace Rows
def none {H : Type} : Left H := { results := [], args := [] }

/-- 'saturatelaw13.RangesApply': WHATEVER THE INPUT: true; the input reads as it did. -/
def rangesApplySpec : ChangeSpec := { name := "rangesApply", fn := fun _ => fun
  | [d] => { results := [.lit (.bool true)], args := [d] }
  | _ => none }
def rangesApplyRow : OpenClaim := { program := "ytchahcaccneinaa", sum := "c170f8beb93515522711ae70931f0262582db16c8ac291cb64e1360c191c8909", func := "saturate/saturatelaw13.RangesApply", spec := "rangesApply", inPlace := ["math/bits.Add64"], apart := false }
def RangesApplySaid : Prop := rangesApplyRow.holds Try.pinned (OpenSpec.ofChange rangesApplySpec)

/-- ITS FALSE NEIGHBOUR: 'it returns false'. Refute it at one input. -/
def rangesApplyWrong : ChangeSpec := { name := "rangesApply", fn := fun _ => fun
  | [d] => { results := [.lit (.bool false)], args := [d] }
  | _ => none }
def RangesApplyWrongFalsely : Prop := rangesApplyRow.holds Try.pinned (OpenSpec.ofChange rangesApplyWrong)

/-- 'saturatelaw13.RangesSound': WHATEVER THE INPUT: true; the input reads as it did. -/
def rangesSoundSpec : ChangeSpec := { name := "rangesSound", fn := fun _ => fun
  | [d1, d2] => { results := [.lit (.bool true)], args := [d1, d2] }
  | _ => none }
def rangesSoundRow : OpenClaim := { program := "ytchahcaccneinaa", sum := "c170f8beb93515522711ae70931f0262582db16c8ac291cb64e1360c191c8909", func := "saturate/saturatelaw13.RangesSound", spec := "rangesSound", inPlace := ["math/bits.Add64"], apart := false }
def RangesSoundSaid : Prop := rangesSoundRow.holds Try.pinned (OpenSpec.ofChange rangesSoundSpec)

/-- ITS FALSE NEIGHBOUR: 'it returns false'. Refute it at one input. -/
def rangesSoundWrong : ChangeSpec := { name := "rangesSound", fn := fun _ => fun
  | [d1, d2] => { results := [.lit (.bool false)], args := [d1, d2] }
  | _ => none }
def RangesSoundWrongFalsely : Prop := rangesSoundRow.holds Try.pinned (OpenSpec.ofChange rangesSoundWrong)

/-- 'saturatelaw13.RangesElements': WHATEVER THE INPUT: true; the input reads as it did. -/
def rangesElementsSpec : ChangeSpec := { name := "rangesElements", fn := fun _ => fun
  | [d1, d2, d3] => { results := [.lit (.bool true)], args := [d1, d2, d3] }
  | _ => none }
def rangesElementsRow : OpenClaim := { program := "ytchahcaccneinaa", sum := "c170f8beb93515522711ae70931f0262582db16c8ac291cb64e1360c191c8909", func := "saturate/saturatelaw13.RangesElements", spec := "rangesElements", inPlace := ["math/bits.Add64"], apart := false }
def RangesElementsSaid : Prop := rangesElementsRow.holds Try.pinned (OpenSpec.ofChange rangesElementsSpec)

/-- ITS FALSE NEIGHBOUR: 'it returns false'. Refute it at one input. -/
def rangesElementsWrong : ChangeSpec := { name := "rangesElements", fn := fun _ => fun
  | [d1, d2, d3] => { results := [.lit (.bool false)], args := [d1, d2, d3] }
  | _ => none }
def RangesElementsWrongFalsely : Prop := rangesElementsRow.holds Try.pinned (OpenSpec.ofChange rangesElementsWrong)

/-- 'saturatelaw13.RangesPairs': WHATEVER THE INPUT: true; the input reads as it did. -/
def rangesPairsSpec : ChangeSpec := { name := "rangesPairs", fn := fun _ => fun
  | [d1, d2, d3] => { results := [.lit (.bool true)], args := [d1, d2, d3] }
  | _ => none }
def rangesPairsRow : OpenClaim := { program := "ytchahcaccneinaa", sum := "c170f8beb93515522711ae70931f0262582db16c8ac291cb64e1360c191c8909", func := "saturate/saturatelaw13.RangesPairs", spec := "rangesPairs", inPlace := ["math/bits.Add64"], apart := false }
def RangesPairsSaid : Prop := rangesPairsRow.holds Try.pinned (OpenSpec.ofChange rangesPairsSpec)

/-- ITS FALSE NEIGHBOUR: 'it returns false'. Refute it at one input. -/
def rangesPairsWrong : ChangeSpec := { name := "rangesPairs", fn := fun _ => fun
  | [d1, d2, d3] => { results := [.lit (.bool false)], args := [d1, d2, d3] }
  | _ => none }
def RangesPairsWrongFalsely : Prop := rangesPairsRow.holds Try.pinned (OpenSpec.ofChange rangesPairsWrong)

/-- 'saturatelaw13.RangesBounds': WHATEVER THE INPUT: true; the input reads as it did. -/
def rangesBoundsSpec : ChangeSpec := { name := "rangesBounds", fn := fun _ => fun
  | [d1, d2, d3] => { results := [.lit (.bool true)], args := [d1, d2, d3] }
  | _ => none }
def rangesBoundsRow : OpenClaim := { program := "ytchahcaccneinaa", sum := "c170f8beb93515522711ae70931f0262582db16c8ac291cb64e1360c191c8909", func := "saturate/saturatelaw13.RangesBounds", spec := "rangesBounds", inPlace := ["math/bits.Add64"], apart := false }
def RangesBoundsSaid : Prop := rangesBoundsRow.holds Try.pinned (OpenSpec.ofChange rangesBoundsSpec)

/-- ITS FALSE NEIGHBOUR: 'it returns false'. Refute it at one input. -/
def rangesBoundsWrong : ChangeSpec := { name := "rangesBounds", fn := fun _ => fun
  | [d1, d2, d3] => { results := [.lit (.bool false)], args := [d1, d2, d3] }
  | _ => none }
def RangesBoundsWrongFalsely : Prop := rangesBoundsRow.holds Try.pinned (OpenSpec.ofChange rangesBoundsWrong)

/-- 'saturatelaw13.RangesLeast': WHATEVER THE INPUT: true; the input reads as it did. -/
def rangesLeastSpec : ChangeSpec := { name := "rangesLeast", fn := fun _ => fun
  | [d1, d2, d3] => { results := [.lit (.bool true)], args := [d1, d2, d3] }
  | _ => none }
def rangesLeastRow : OpenClaim := { program := "ytchahcaccneinaa", sum := "c170f8beb93515522711ae70931f0262582db16c8ac291cb64e1360c191c8909", func := "saturate/saturatelaw13.RangesLeast", spec := "rangesLeast", inPlace := ["math/bits.Add64"], apart := false }
def RangesLeastSaid : Prop := rangesLeastRow.holds Try.pinned (OpenSpec.ofChange rangesLeastSpec)

/-- ITS FALSE NEIGHBOUR: 'it returns false'. Refute it at one input. -/
def rangesLeastWrong : ChangeSpec := { name := "rangesLeast", fn := fun _ => fun
  | [d1, d2, d3] => { results := [.lit (.bool false)], args := [d1, d2, d3] }
  | _ => none }
def RangesLeastWrongFalsely : Prop := rangesLeastRow.holds Try.pinned (OpenSpec.ofChange rangesLeastWrong)

/- THE SECOND FORM. 'bulk': how many values and letters a reading holds, each counted each time it is reached (what is shared counts as often as it is met; a slice's spare places count too). A statement '..UptoSaid' is the law's where the arguments, and the package variables that the reading takes, are together of bulk at most 1048576: NARROWER than '..Said'. Prove '..Said' where nothing that the law and all that it calls make is longer than what came in: it says more and counts as full. Else prove '..UptoSaid'. A law counts once. -/
mutual
def uptoBulk {H : Type} : DataW H → Nat
  | .lit (.string bytes) => bytes.length + 1
  | .lit _ => 1
  | .nil => 1
  | .ptr d => uptoBulk d + 1
  | .slice elems spare => uptoBulkAll elems + uptoBulkAll spare + 1
  | .agg parts => uptoBulkAll parts + 1
  | .iface _ d => uptoBulk d + 1
  | .map entries => uptoBulkEntries entries + 1
  | .held _ => 1
def uptoBulkAll {H : Type} : List (DataW H) → Nat
  | [] => 0
  | d :: r => uptoBulk d + uptoBulkAll r
def uptoBulkEntries {H : Type} : List (Lit × DataW H) → Nat
  | [] => 0
  | x :: r => uptoBulkEntry x + uptoBulkEntries r
def uptoBulkEntry {H : Type} : Lit × DataW H → Nat
  | (.string bytes, d) => bytes.length + uptoBulk d + 1
  | (_, d) => uptoBulk d + 1
 end
def uptoSmall : (H : Type) → List (DataW H) → Bool := fun _ ds => decide (uptoBulkAll ds ≤ 1048576)
def OpenSpec.upto (s : _root_.Go.ChangeSpec) : _root_.Go.OpenSpec := { _root_.Go.OpenSpec.ofChange s with cond := some uptoSmall }

/-- 'saturatelaw13.RangesApply', WHERE WHAT IT READS IS OF BULK AT MOST 1048576: true; the input reads as it did. -/
def rangesApplyUptoRow : OpenClaim := { program := "ytchahcaccneinaa", sum := "c170f8beb93515522711ae70931f0262582db16c8ac291cb64e1360c191c8909", func := "saturate/saturatelaw13.RangesApply", spec := "rangesApply", inPlace := ["math/bits.Add64"], apart := false, narrowed := true }
def RangesApplyUptoSaid : Prop := rangesApplyUptoRow.holds Try.pinned (OpenSpec.upto rangesApplySpec)

/-- 'saturatelaw13.RangesSound', WHERE WHAT IT READS IS OF BULK AT MOST 1048576: true; the input reads as it did. -/
def rangesSoundUptoRow : OpenClaim := { program := "ytchahcaccneinaa", sum := "c170f8beb93515522711ae70931f0262582db16c8ac291cb64e1360c191c8909", func := "saturate/saturatelaw13.RangesSound", spec := "rangesSound", inPlace := ["math/bits.Add64"], apart := false, narrowed := true }
def RangesSoundUptoSaid : Prop := rangesSoundUptoRow.holds Try.pinned (OpenSpec.upto rangesSoundSpec)

/-- 'saturatelaw13.RangesElements', WHERE WHAT IT READS IS OF BULK AT MOST 1048576: true; the input reads as it did. -/
def rangesElementsUptoRow : OpenClaim := { program := "ytchahcaccneinaa", sum := "c170f8beb93515522711ae70931f0262582db16c8ac291cb64e1360c191c8909", func := "saturate/saturatelaw13.RangesElements", spec := "rangesElements", inPlace := ["math/bits.Add64"], apart := false, narrowed := true }
def RangesElementsUptoSaid : Prop := rangesElementsUptoRow.holds Try.pinned (OpenSpec.upto rangesElementsSpec)

/-- 'saturatelaw13.RangesPairs', WHERE WHAT IT READS IS OF BULK AT MOST 1048576: true; the input reads as it did. -/
def rangesPairsUptoRow : OpenClaim := { program := "ytchahcaccneinaa", sum := "c170f8beb93515522711ae70931f0262582db16c8ac291cb64e1360c191c8909", func := "saturate/saturatelaw13.RangesPairs", spec := "rangesPairs", inPlace := ["math/bits.Add64"], apart := false, narrowed := true }
def RangesPairsUptoSaid : Prop := rangesPairsUptoRow.holds Try.pinned (OpenSpec.upto rangesPairsSpec)

/-- 'saturatelaw13.RangesBounds', WHERE WHAT IT READS IS OF BULK AT MOST 1048576: true; the input reads as it did. -/
def rangesBoundsUptoRow : OpenClaim := { program := "ytchahcaccneinaa", sum := "c170f8beb93515522711ae70931f0262582db16c8ac291cb64e1360c191c8909", func := "saturate/saturatelaw13.RangesBounds", spec := "rangesBounds", inPlace := ["math/bits.Add64"], apart := false, narrowed := true }
def RangesBoundsUptoSaid : Prop := rangesBoundsUptoRow.holds Try.pinned (OpenSpec.upto rangesBoundsSpec)

/-- 'saturatelaw13.RangesLeast', WHERE WHAT IT READS IS OF BULK AT MOST 1048576: true; the input reads as it did. -/
def rangesLeastUptoRow : OpenClaim := { program := "ytchahcaccneinaa", sum := "c170f8beb93515522711ae70931f0262582db16c8ac291cb64e1360c191c8909", func := "saturate/saturatelaw13.RangesLeast", spec := "rangesLeast", inPlace := ["math/bits.Add64"], apart := false, narrowed := true }
def RangesLeastUptoSaid : Prop := rangesLeastUptoRow.holds Try.pinned (OpenSpec.upto rangesLeastSpec)

end Rows
end Go.Proofs.Ytchahcaccneinaa
