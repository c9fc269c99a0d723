/-
  No cell of these rows narrows 'for every input' (looked for: loops, veiled, ifaces, maps, wideKeys, modest, calm, conditions, laid).
  DERIVED. THE GIVEN ROWS OF THIS SEAT. 7 by the template 'for every input the law returns true; each argument reads behind the call as it read before'; 0 by the template 'total and deterministic' (their statements: YtbfniopkadaheaaTotals.lean).
  GIVEN WITH THE SEED: the statements are not yours to turn. If you find one false, say at which input.
  Laid BY PROGRAM, IN A SANDBOX (cutbox-rows.mjs): the forced cells as the released guide's own fill.sh prints them over the translation 3973ba78f0c259b8… (all of the seat's roots in one cut). By AI agents, Wed Nov 11 2026. No macro, syntax, notation, axiom, sorry.
-/
import Derived.Test.YtbfniopkadaheaaChecked
import GoSem.Claim
import GoSem.ClaimJoined
import GoSem.ClaimMapViews
import Derived.JoinedTies
import Derived.KernelRfl
namespace Go.Proofs.Ytbfniopkadaheaa
/- THE CELL 'sum', in the pinned program and in every row, IS THE sha256 OF THE DUMP (.gsa) THAT YtbfniopkadaheaaProg.lean LOADS. Nothing in Lean hashes anything: it is a label: what it is worth is what the hold of that sum in a sandbox is worth. -/
noncomputable def Try.pinned : Pinned := { name := "ytbfniopkadaheaa", sum := "3973ba78f0c259b8bf70c677374b2facd7cf6b401a625399d7082e89a0460e40", checked := Try.checked }
namespace Rows
def none {H : Type} : Left H := { results := [], args := [] }

/-- 'saturatelaw12.KnownApply': WHATEVER THE INPUT: true; the input reads as it did. -/
def knownApplySpec : ChangeSpec := { name := "knownApply", fn := fun _ => fun
  | [d] => { results := [.lit (.bool true)], args := [d] }
  | _ => none }
def knownApplyRow : OpenClaim := { program := "ytbfniopkadaheaa", sum := "3973ba78f0c259b8bf70c677374b2facd7cf6b401a625399d7082e89a0460e40", func := "saturate/saturatelaw12.KnownApply", spec := "knownApply", apart := false }
def KnownApplySaid : Prop := knownApplyRow.holds Try.pinned (OpenSpec.ofChange knownApplySpec)

/-- ITS FALSE NEIGHBOUR: 'it returns false'. Refute it at one input. -/
def knownApplyWrong : ChangeSpec := { name := "knownApply", fn := fun _ => fun
  | [d] => { results := [.lit (.bool false)], args := [d] }
  | _ => none }
def KnownApplyWrongFalsely : Prop := knownApplyRow.holds Try.pinned (OpenSpec.ofChange knownApplyWrong)

/-- 'saturatelaw12.KnownBest': WHATEVER THE INPUT: true; the input reads as it did. -/
def knownBestSpec : ChangeSpec := { name := "knownBest", fn := fun _ => fun
  | [d] => { results := [.lit (.bool true)], args := [d] }
  | _ => none }
def knownBestRow : OpenClaim := { program := "ytbfniopkadaheaa", sum := "3973ba78f0c259b8bf70c677374b2facd7cf6b401a625399d7082e89a0460e40", func := "saturate/saturatelaw12.KnownBest", spec := "knownBest", apart := false }
def KnownBestSaid : Prop := knownBestRow.holds Try.pinned (OpenSpec.ofChange knownBestSpec)

/-- ITS FALSE NEIGHBOUR: 'it returns false'. Refute it at one input. -/
def knownBestWrong : ChangeSpec := { name := "knownBest", fn := fun _ => fun
  | [d] => { results := [.lit (.bool false)], args := [d] }
  | _ => none }
def KnownBestWrongFalsely : Prop := knownBestRow.holds Try.pinned (OpenSpec.ofChange knownBestWrong)

/-- 'saturatelaw12.KnownPairs': WHATEVER THE INPUT: true; the input reads as it did. -/
def knownPairsSpec : ChangeSpec := { name := "knownPairs", fn := fun _ => fun
  | [d1, d2, d3] => { results := [.lit (.bool true)], args := [d1, d2, d3] }
  | _ => none }
def knownPairsRow : OpenClaim := { program := "ytbfniopkadaheaa", sum := "3973ba78f0c259b8bf70c677374b2facd7cf6b401a625399d7082e89a0460e40", func := "saturate/saturatelaw12.KnownPairs", spec := "knownPairs", apart := false }
def KnownPairsSaid : Prop := knownPairsRow.holds Try.pinned (OpenSpec.ofChange knownPairsSpec)

/-- ITS FALSE NEIGHBOUR: 'it returns false'. Refute it at one input. -/
def knownPairsWrong : ChangeSpec := { name := "knownPairs", fn := fun _ => fun
  | [d1, d2, d3] => { results := [.lit (.bool false)], args := [d1, d2, d3] }
  | _ => none }
def KnownPairsWrongFalsely : Prop := knownPairsRow.holds Try.pinned (OpenSpec.ofChange knownPairsWrong)

/-- 'saturatelaw12.KnownSound': WHATEVER THE INPUT: true; the input reads as it did. -/
def knownSoundSpec : ChangeSpec := { name := "knownSound", fn := fun _ => fun
  | [d1, d2] => { results := [.lit (.bool true)], args := [d1, d2] }
  | _ => none }
def knownSoundRow : OpenClaim := { program := "ytbfniopkadaheaa", sum := "3973ba78f0c259b8bf70c677374b2facd7cf6b401a625399d7082e89a0460e40", func := "saturate/saturatelaw12.KnownSound", spec := "knownSound", apart := false }
def KnownSoundSaid : Prop := knownSoundRow.holds Try.pinned (OpenSpec.ofChange knownSoundSpec)

/-- ITS FALSE NEIGHBOUR: 'it returns false'. Refute it at one input. -/
def knownSoundWrong : ChangeSpec := { name := "knownSound", fn := fun _ => fun
  | [d1, d2] => { results := [.lit (.bool false)], args := [d1, d2] }
  | _ => none }
def KnownSoundWrongFalsely : Prop := knownSoundRow.holds Try.pinned (OpenSpec.ofChange knownSoundWrong)

/-- 'saturatelaw12.KnownMonotone': WHATEVER THE INPUT: true; the input reads as it did. -/
def knownMonotoneSpec : ChangeSpec := { name := "knownMonotone", fn := fun _ => fun
  | [d1, d2] => { results := [.lit (.bool true)], args := [d1, d2] }
  | _ => none }
def knownMonotoneRow : OpenClaim := { program := "ytbfniopkadaheaa", sum := "3973ba78f0c259b8bf70c677374b2facd7cf6b401a625399d7082e89a0460e40", func := "saturate/saturatelaw12.KnownMonotone", spec := "knownMonotone", apart := false }
def KnownMonotoneSaid : Prop := knownMonotoneRow.holds Try.pinned (OpenSpec.ofChange knownMonotoneSpec)

/-- ITS FALSE NEIGHBOUR: 'it returns false'. Refute it at one input. -/
def knownMonotoneWrong : ChangeSpec := { name := "knownMonotone", fn := fun _ => fun
  | [d1, d2] => { results := [.lit (.bool false)], args := [d1, d2] }
  | _ => none }
def KnownMonotoneWrongFalsely : Prop := knownMonotoneRow.holds Try.pinned (OpenSpec.ofChange knownMonotoneWrong)

/-- 'saturatelaw12.KnownBounds': WHATEVER THE INPUT: true; the input reads as it did. -/
def knownBoundsSpec : ChangeSpec := { name := "knownBounds", fn := fun _ => fun
  | [d1, d2, d3, d4] => { results := [.lit (.bool true)], args := [d1, d2, d3, d4] }
  | _ => none }
def knownBoundsRow : OpenClaim := { program := "ytbfniopkadaheaa", sum := "3973ba78f0c259b8bf70c677374b2facd7cf6b401a625399d7082e89a0460e40", func := "saturate/saturatelaw12.KnownBounds", spec := "knownBounds", apart := false }
def KnownBoundsSaid : Prop := knownBoundsRow.holds Try.pinned (OpenSpec.ofChange knownBoundsSpec)

/-- ITS FALSE NEIGHBOUR: 'it returns false'. Refute it at one input. -/
def knownBoundsWrong : ChangeSpec := { name := "knownBounds", fn := fun _ => fun
  | [d1, d2, d3, d4] => { results := [.lit (.bool false)], args := [d1, d2, d3, d4] }
  | _ => none }
def KnownBoundsWrongFalsely : Prop := knownBoundsRow.holds Try.pinned (OpenSpec.ofChange knownBoundsWrong)

/-- 'saturatelaw12.KnownElements': WHATEVER THE INPUT: true; the input reads as it did. -/
def knownElementsSpec : ChangeSpec := { name := "knownElements", fn := fun _ => fun
  | [d1, d2, d3] => { results := [.lit (.bool true)], args := [d1, d2, d3] }
  | _ => none }
def knownElementsRow : OpenClaim := { program := "ytbfniopkadaheaa", sum := "3973ba78f0c259b8bf70c677374b2facd7cf6b401a625399d7082e89a0460e40", func := "saturate/saturatelaw12.KnownElements", spec := "knownElements", apart := false }
def KnownElementsSaid : Prop := knownElementsRow.holds Try.pinned (OpenSpec.ofChange knownElementsSpec)

/-- ITS FALSE NEIGHBOUR: 'it returns false'. Refute it at one input. -/
def knownElementsWrong : ChangeSpec := { name := "knownElements", fn := fun _ => fun
  | [d1, d2, d3] => { results := [.lit (.bool false)], args := [d1, d2, d3] }
  | _ => none }
def KnownElementsWrongFalsely : Prop := knownElementsRow.holds Try.pinned (OpenSpec.ofChange knownElementsWrong)

/- THE SECOND FORM. 'bulk': how many values and letters a reading holds, each counted each time it is reached (what is shared counts as often as it is met; a slice's spare places count too). A statement '..UptoSaid' is the law's where the arguments, and the package variables that the reading takes, are together of bulk at most 1048576: NARROWER than '..Said'. Prove '..Said' where nothing that the law and all that it calls make is longer than what came in: it says more and counts as full. Else prove '..UptoSaid'. A law counts once. -/
mutual
def uptoBulk {H : Type} : DataW H → Nat
  | .lit (.string bytes) => bytes.length + 1
  | .lit _ => 1
  | .nil => 1
  | .ptr d => uptoBulk d + 1
  | .slice elems spare => uptoBulkAll elems + uptoBulkAll spare + 1
  | .agg parts => uptoBulkAll parts + 1
  | .iface _ d => uptoBulk d + 1
  | .map entries => uptoBulkEntries entries + 1
  | .held _ => 1
def uptoBulkAll {H : Type} : List (DataW H) → Nat
  | [] => 0
  | d :: r => uptoBulk d + uptoBulkAll r
def uptoBulkEntries {H : Type} : List (Lit × DataW H) → Nat
  | [] => 0
  | x :: r => uptoBulkEntry x + uptoBulkEntries r
def uptoBulkEntry {H : Type} : Lit × DataW H → Nat
  | (.string bytes, d) => bytes.length + uptoBulk d + 1
  | (_, d) => uptoBulk d + 1
 end
def uptoSmall : (H : Type) → List (DataW H) → Bool := fun _ ds => decide (uptoBulkAll ds ≤ 1048576)
def OpenSpec.upto (s : _root_.Go.ChangeSpec) : _root_.Go.OpenSpec := { _root_.Go.OpenSpec.ofChange s with cond := some uptoSmall }

/-- 'saturatelaw12.KnownApply', WHERE WHAT IT READS IS OF BULK AT MOST 1048576: true; the input reads as it did. -/
def knownApplyUptoRow : OpenClaim := { program := "ytbfniopkadaheaa", sum := "3973ba78f0c259b8bf70c677374b2facd7cf6b401a625399d7082e89a0460e40", func := "saturate/saturatelaw12.KnownApply", spec := "knownApply", apart := false, narrowed := true }
def KnownApplyUptoSaid : Prop := knownApplyUptoRow.holds Try.pinned (OpenSpec.upto knownApplySpec)

/-- 'saturatelaw12.KnownBest', WHERE WHAT IT READS IS OF BULK AT MOST 1048576: true; the input reads as it did. -/
def knownBestUptoRow : OpenClaim := { program := "ytbfniopkadaheaa", sum := "3973ba78f0c259b8bf70c677374b2facd7cf6b401a625399d7082e89a0460e40", func := "saturate/saturatelaw12.KnownBest", spec := "knownBest", apart := false, narrowed := true }
def KnownBestUptoSaid : Prop := knownBestUptoRow.holds Try.pinned (OpenSpec.upto knownBestSpec)

/-- 'saturatelaw12.KnownPairs', WHERE WHAT IT READS IS OF BULK AT MOST 1048576: true; the input reads as it did. -/
def knownPairsUptoRow : OpenClaim := { program := "ytbfniopkadaheaa", sum := "3973ba78f0c259b8bf70c677374b2facd7cf6b401a625399d7082e89a0460e40", func := "saturate/saturatelaw12.KnownPairs", spec := "knownPairs", apart := false, narrowed := true }
def KnownPairsUptoSaid : Prop := knownPairsUptoRow.holds Try.pinned (OpenSpec.upto knownPairsSpec)

/-- 'saturatelaw12.KnownSound', WHERE WHAT IT READS IS OF BULK AT MOST 1048576: true; the input reads as it did. -/
def knownSoundUptoRow : OpenClaim := { program := "ytbfniopkadaheaa", sum := "3973ba78f0c259b8bf70c677374b2facd7cf6b401a625399d7082e89a0460e40", func := "saturate/saturatelaw12.KnownSound", spec := "knownSound", apart := false, narrowed := true }
def KnownSoundUptoSaid : Prop := knownSoundUptoRow.holds Try.pinned (OpenSpec.upto knownSoundSpec)

/-- 'saturatelaw12.KnownMonotone', WHERE WHAT IT READS IS OF BULK AT MOST 1048576: true; the input reads as it did. -/
def knownMonotoneUptoRow : OpenClaim := { program := "ytbfniopkadaheaa", sum := "3973ba78f0c259b8bf70c677374b2facd7cf6b401a625399d7082e89a0460e40", func := "saturate/saturatelaw12.KnownMonotone", spec := "knownMonotone", apart := false, narrowed := true }
def KnownMonotoneUptoSaid : Prop := knownMonotoneUptoRow.holds Try.pinned (OpenSpec.upto knownMonotoneSpec)

/-- 'saturatelaw12.KnownBounds', WHERE WHAT IT READS IS OF BULK AT MOST 1048576: true; the input reads as it did. -/
def knownBoundsUptoRow : OpenClaim := { program := "ytbfniopkadaheaa", sum := "3973ba78f0c259b8bf70c677374b2facd7cf6b401a625399d7082e89a0460e40", func := "saturate/saturatelaw12.KnownBounds", spec := "knownBounds", apart := false, narrowed := true }
def KnownBoundsUptoSaid : Prop := knownBoundsUptoRow.holds Try.pinned (OpenSpec.upto knownBoundsSpec)

/-- 'saturatelaw12.KnownElements', WHERE WHAT IT READS IS OF BULK AT MOST 1048576: true; the input reads as it did. -/
def knownElementsUptoRow : OpenClaim := { program := "ytbfniopkadaheaa", sum := "3973ba78f0c259b8bf70c677374b2facd7cf6b401a625399d7082e89a0460e40", func := "saturate/saturatelaw12.KnownElements", spec := "knownElements", apart := false, narrowed := true }
def KnownElementsUptoSaid : Prop := knownElementsUptoRow.holds Try.pinned (OpenSpec.upto knownElementsSpec)

end Rows
end Go.Proofs.Ytbfniopkadaheaa
