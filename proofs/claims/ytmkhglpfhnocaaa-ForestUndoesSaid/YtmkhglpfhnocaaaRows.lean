/-
  No cell of these rows narrows 'for every input' (looked for: loops, veiled, ifaces, maps, wideKeys, modest, calm, conditions, laid).
  DERIVED. THE GIVEN ROWS OF THIS SEAT. 8 by the template 'for every input the law returns true; each argument reads behind the call as it read before'; 0 by the template 'total and deterministic' (their statements: YtmkhglpfhnocaaaTotals.lean).
  GIVEN WITH THE SEED: the statements are not yours to turn. If you find one false, say at which input.
  Laid BY PROGRAM, IN A SANDBOX (cutbox-rows.mjs): the forced cells as the released guide's own fill.sh prints them over the translation 27af651aba20db27… (all of the seat's roots in one cut). By AI agents, Wed Nov 11 2026. No macro, syntax, notation, axiom, sorry.
-/
import Derived.Test.YtmkhglpfhnocaaaChecked
import GoSem.Claim
import GoSem.ClaimJoined
import GoSem.ClaimMapViews
import Derived.JoinedTies
import Derived.KernelRfl
namespace Go.Proofs.Ytmkhglpfhnocaaa
/- THE CELL 'sum', in the pinned program and in every row, IS THE sha256 OF THE DUMP (.gsa) THAT YtmkhglpfhnocaaaProg.lean LOADS. Nothing in Lean hashes anything: it is a label: what it is worth is what the hold of that sum in a sandbox is worth. -/
noncomputable def Try.pinned : Pinned := { name := "ytmkhglpfhnocaaa", sum := "27af651aba20db27c3513c69a03173607449b21ed7a53b6c642f25343627ce3e", checked := Try.checked }
namespace Rows
def none {H : Type} : Left H := { results := [], args := [] }

/-- 'saturatelaw17.ForestReverses': WHATEVER THE INPUT: true; the input reads as it did. -/
def forestReversesSpec : ChangeSpec := { name := "forestReverses", fn := fun _ => fun
  | [d1, d2, d3] => { results := [.lit (.bool true)], args := [d1, d2, d3] }
  | _ => none }
def forestReversesRow : OpenClaim := { program := "ytmkhglpfhnocaaa", sum := "27af651aba20db27c3513c69a03173607449b21ed7a53b6c642f25343627ce3e", func := "saturate/saturatelaw17.ForestReverses", spec := "forestReverses", unfollowed := true, recurses := true, apart := false }
def ForestReversesSaid : Prop := forestReversesRow.holds Try.pinned (OpenSpec.ofChange forestReversesSpec)

/-- ITS FALSE NEIGHBOUR: 'it returns false'. Refute it at one input. -/
def forestReversesWrong : ChangeSpec := { name := "forestReverses", fn := fun _ => fun
  | [d1, d2, d3] => { results := [.lit (.bool false)], args := [d1, d2, d3] }
  | _ => none }
def ForestReversesWrongFalsely : Prop := forestReversesRow.holds Try.pinned (OpenSpec.ofChange forestReversesWrong)

/-- 'saturatelaw17.ForestStays': WHATEVER THE INPUT: true; the input reads as it did. -/
def forestStaysSpec : ChangeSpec := { name := "forestStays", fn := fun _ => fun
  | [d1, d2, d3, d4] => { results := [.lit (.bool true)], args := [d1, d2, d3, d4] }
  | _ => none }
def forestStaysRow : OpenClaim := { program := "ytmkhglpfhnocaaa", sum := "27af651aba20db27c3513c69a03173607449b21ed7a53b6c642f25343627ce3e", func := "saturate/saturatelaw17.ForestStays", spec := "forestStays", unfollowed := true, recurses := true, apart := false }
def ForestStaysSaid : Prop := forestStaysRow.holds Try.pinned (OpenSpec.ofChange forestStaysSpec)

/-- ITS FALSE NEIGHBOUR: 'it returns false'. Refute it at one input. -/
def forestStaysWrong : ChangeSpec := { name := "forestStays", fn := fun _ => fun
  | [d1, d2, d3, d4] => { results := [.lit (.bool false)], args := [d1, d2, d3, d4] }
  | _ => none }
def ForestStaysWrongFalsely : Prop := forestStaysRow.holds Try.pinned (OpenSpec.ofChange forestStaysWrong)

/-- 'saturatelaw17.ForestPlays': WHATEVER THE INPUT: true; the input reads as it did. -/
def forestPlaysSpec : ChangeSpec := { name := "forestPlays", fn := fun _ => fun
  | [d] => { results := [.lit (.bool true)], args := [d] }
  | _ => none }
def forestPlaysRow : OpenClaim := { program := "ytmkhglpfhnocaaa", sum := "27af651aba20db27c3513c69a03173607449b21ed7a53b6c642f25343627ce3e", func := "saturate/saturatelaw17.ForestPlays", spec := "forestPlays", unfollowed := true, recurses := true, apart := false }
def ForestPlaysSaid : Prop := forestPlaysRow.holds Try.pinned (OpenSpec.ofChange forestPlaysSpec)

/-- ITS FALSE NEIGHBOUR: 'it returns false'. Refute it at one input. -/
def forestPlaysWrong : ChangeSpec := { name := "forestPlays", fn := fun _ => fun
  | [d] => { results := [.lit (.bool false)], args := [d] }
  | _ => none }
def ForestPlaysWrongFalsely : Prop := forestPlaysRow.holds Try.pinned (OpenSpec.ofChange forestPlaysWrong)

/-- 'saturatelaw17.ForestPaths': WHATEVER THE INPUT: true; the input reads as it did. -/
def forestPathsSpec : ChangeSpec := { name := "forestPaths", fn := fun _ => fun
  | [d1, d2, d3] => { results := [.lit (.bool true)], args := [d1, d2, d3] }
  | _ => none }
def forestPathsRow : OpenClaim := { program := "ytmkhglpfhnocaaa", sum := "27af651aba20db27c3513c69a03173607449b21ed7a53b6c642f25343627ce3e", func := "saturate/saturatelaw17.ForestPaths", spec := "forestPaths", unfollowed := true, recurses := true, apart := false }
def ForestPathsSaid : Prop := forestPathsRow.holds Try.pinned (OpenSpec.ofChange forestPathsSpec)

/-- ITS FALSE NEIGHBOUR: 'it returns false'. Refute it at one input. -/
def forestPathsWrong : ChangeSpec := { name := "forestPaths", fn := fun _ => fun
  | [d1, d2, d3] => { results := [.lit (.bool false)], args := [d1, d2, d3] }
  | _ => none }
def ForestPathsWrongFalsely : Prop := forestPathsRow.holds Try.pinned (OpenSpec.ofChange forestPathsWrong)

/-- 'saturatelaw17.ForestChains': WHATEVER THE INPUT: true; the input reads as it did. -/
def forestChainsSpec : ChangeSpec := { name := "forestChains", fn := fun _ => fun
  | [d1, d2, d3] => { results := [.lit (.bool true)], args := [d1, d2, d3] }
  | _ => none }
def forestChainsRow : OpenClaim := { program := "ytmkhglpfhnocaaa", sum := "27af651aba20db27c3513c69a03173607449b21ed7a53b6c642f25343627ce3e", func := "saturate/saturatelaw17.ForestChains", spec := "forestChains", unfollowed := true, recurses := true, apart := false }
def ForestChainsSaid : Prop := forestChainsRow.holds Try.pinned (OpenSpec.ofChange forestChainsSpec)

/-- ITS FALSE NEIGHBOUR: 'it returns false'. Refute it at one input. -/
def forestChainsWrong : ChangeSpec := { name := "forestChains", fn := fun _ => fun
  | [d1, d2, d3] => { results := [.lit (.bool false)], args := [d1, d2, d3] }
  | _ => none }
def ForestChainsWrongFalsely : Prop := forestChainsRow.holds Try.pinned (OpenSpec.ofChange forestChainsWrong)

/-- 'saturatelaw17.ForestUndoes': WHATEVER THE INPUT: true; the input reads as it did. -/
def forestUndoesSpec : ChangeSpec := { name := "forestUndoes", fn := fun _ => fun
  | [d1, d2, d3, d4] => { results := [.lit (.bool true)], args := [d1, d2, d3, d4] }
  | _ => none }
def forestUndoesRow : OpenClaim := { program := "ytmkhglpfhnocaaa", sum := "27af651aba20db27c3513c69a03173607449b21ed7a53b6c642f25343627ce3e", func := "saturate/saturatelaw17.ForestUndoes", spec := "forestUndoes", unfollowed := true, recurses := true, apart := false }
def ForestUndoesSaid : Prop := forestUndoesRow.holds Try.pinned (OpenSpec.ofChange forestUndoesSpec)

/-- ITS FALSE NEIGHBOUR: 'it returns false'. Refute it at one input. -/
def forestUndoesWrong : ChangeSpec := { name := "forestUndoes", fn := fun _ => fun
  | [d1, d2, d3, d4] => { results := [.lit (.bool false)], args := [d1, d2, d3, d4] }
  | _ => none }
def ForestUndoesWrongFalsely : Prop := forestUndoesRow.holds Try.pinned (OpenSpec.ofChange forestUndoesWrong)

/-- 'saturatelaw17.ForestOwns': WHATEVER THE INPUT: true; the input reads as it did. -/
def forestOwnsSpec : ChangeSpec := { name := "forestOwns", fn := fun _ => fun
  | [d1, d2, d3] => { results := [.lit (.bool true)], args := [d1, d2, d3] }
  | _ => none }
def forestOwnsRow : OpenClaim := { program := "ytmkhglpfhnocaaa", sum := "27af651aba20db27c3513c69a03173607449b21ed7a53b6c642f25343627ce3e", func := "saturate/saturatelaw17.ForestOwns", spec := "forestOwns", unfollowed := true, recurses := true, apart := false }
def ForestOwnsSaid : Prop := forestOwnsRow.holds Try.pinned (OpenSpec.ofChange forestOwnsSpec)

/-- ITS FALSE NEIGHBOUR: 'it returns false'. Refute it at one input. -/
def forestOwnsWrong : ChangeSpec := { name := "forestOwns", fn := fun _ => fun
  | [d1, d2, d3] => { results := [.lit (.bool false)], args := [d1, d2, d3] }
  | _ => none }
def ForestOwnsWrongFalsely : Prop := forestOwnsRow.holds Try.pinned (OpenSpec.ofChange forestOwnsWrong)

/-- 'saturatelaw17.ForestNil': WHATEVER THE INPUT: true; the input reads as it did. -/
def forestNilSpec : ChangeSpec := { name := "forestNil", fn := fun _ => fun
  | [d1, d2, d3] => { results := [.lit (.bool true)], args := [d1, d2, d3] }
  | _ => none }
def forestNilRow : OpenClaim := { program := "ytmkhglpfhnocaaa", sum := "27af651aba20db27c3513c69a03173607449b21ed7a53b6c642f25343627ce3e", func := "saturate/saturatelaw17.ForestNil", spec := "forestNil", unfollowed := true, recurses := true, apart := false }
def ForestNilSaid : Prop := forestNilRow.holds Try.pinned (OpenSpec.ofChange forestNilSpec)

/-- ITS FALSE NEIGHBOUR: 'it returns false'. Refute it at one input. -/
def forestNilWrong : ChangeSpec := { name := "forestNil", fn := fun _ => fun
  | [d1, d2, d3] => { results := [.lit (.bool false)], args := [d1, d2, d3] }
  | _ => none }
def ForestNilWrongFalsely : Prop := forestNilRow.holds Try.pinned (OpenSpec.ofChange forestNilWrong)

/- THE SECOND FORM. 'bulk': how many values and letters a reading holds, each counted each time it is reached (what is shared counts as often as it is met; a slice's spare places count too). A statement '..UptoSaid' is the law's where the arguments, and the package variables that the reading takes, are together of bulk at most 1048576: NARROWER than '..Said'. Prove '..Said' where nothing that the law and all that it calls make is longer than what came in: it says more and counts as full. Else prove '..UptoSaid'. A law counts once. -/
mutual
def uptoBulk {H : Type} : DataW H → Nat
  | .lit (.string bytes) => bytes.length + 1
  | .lit _ => 1
  | .nil => 1
  | .ptr d => uptoBulk d + 1
  | .slice elems spare => uptoBulkAll elems + uptoBulkAll spare + 1
  | .agg parts => uptoBulkAll parts + 1
  | .iface _ d => uptoBulk d + 1
  | .map entries => uptoBulkEntries entries + 1
  | .held _ => 1
def uptoBulkAll {H : Type} : List (DataW H) → Nat
  | [] => 0
  | d :: r => uptoBulk d + uptoBulkAll r
def uptoBulkEntries {H : Type} : List (Lit × DataW H) → Nat
  | [] => 0
  | x :: r => uptoBulkEntry x + uptoBulkEntries r
def uptoBulkEntry {H : Type} : Lit × DataW H → Nat
  | (.string bytes, d) => bytes.length + uptoBulk d + 1
  | (_, d) => uptoBulk d + 1
 end
def uptoSmall : (H : Type) → List (DataW H) → Bool := fun _ ds => decide (uptoBulkAll ds ≤ 1048576)
def OpenSpec.upto (s : _root_.Go.ChangeSpec) : _root_.Go.OpenSpec := { _root_.Go.OpenSpec.ofChange s with cond := some uptoSmall }

/-- 'saturatelaw17.ForestReverses', WHERE WHAT IT READS IS OF BULK AT MOST 1048576: true; the input reads as it did. -/
def forestReversesUptoRow : OpenClaim := { program := "ytmkhglpfhnocaaa", sum := "27af651aba20db27c3513c69a03173607449b21ed7a53b6c642f25343627ce3e", func := "saturate/saturatelaw17.ForestReverses", spec := "forestReverses", unfollowed := true, recurses := true, apart := false, narrowed := true }
def ForestReversesUptoSaid : Prop := forestReversesUptoRow.holds Try.pinned (OpenSpec.upto forestReversesSpec)

/-- 'saturatelaw17.ForestStays', WHERE WHAT IT READS IS OF BULK AT MOST 1048576: true; the input reads as it did. -/
def forestStaysUptoRow : OpenClaim := { program := "ytmkhglpfhnocaaa", sum := "27af651aba20db27c3513c69a03173607449b21ed7a53b6c642f25343627ce3e", func := "saturate/saturatelaw17.ForestStays", spec := "forestStays", unfollowed := true, recurses := true, apart := false, narrowed := true }
def ForestStaysUptoSaid : Prop := forestStaysUptoRow.holds Try.pinned (OpenSpec.upto forestStaysSpec)

/-- 'saturatelaw17.ForestPlays', WHERE WHAT IT READS IS OF BULK AT MOST 1048576: true; the input reads as it did. -/
def forestPlaysUptoRow : OpenClaim := { program := "ytmkhglpfhnocaaa", sum := "27af651aba20db27c3513c69a03173607449b21ed7a53b6c642f25343627ce3e", func := "saturate/saturatelaw17.ForestPlays", spec := "forestPlays", unfollowed := true, recurses := true, apart := false, narrowed := true }
def ForestPlaysUptoSaid : Prop := forestPlaysUptoRow.holds Try.pinned (OpenSpec.upto forestPlaysSpec)

/-- 'saturatelaw17.ForestPaths', WHERE WHAT IT READS IS OF BULK AT MOST 1048576: true; the input reads as it did. -/
def forestPathsUptoRow : OpenClaim := { program := "ytmkhglpfhnocaaa", sum := "27af651aba20db27c3513c69a03173607449b21ed7a53b6c642f25343627ce3e", func := "saturate/saturatelaw17.ForestPaths", spec := "forestPaths", unfollowed := true, recurses := true, apart := false, narrowed := true }
def ForestPathsUptoSaid : Prop := forestPathsUptoRow.holds Try.pinned (OpenSpec.upto forestPathsSpec)

/-- 'saturatelaw17.ForestChains', WHERE WHAT IT READS IS OF BULK AT MOST 1048576: true; the input reads as it did. -/
def forestChainsUptoRow : OpenClaim := { program := "ytmkhglpfhnocaaa", sum := "27af651aba20db27c3513c69a03173607449b21ed7a53b6c642f25343627ce3e", func := "saturate/saturatelaw17.ForestChains", spec := "forestChains", unfollowed := true, recurses := true, apart := false, narrowed := true }
def ForestChainsUptoSaid : Prop := forestChainsUptoRow.holds Try.pinned (OpenSpec.upto forestChainsSpec)

/-- 'saturatelaw17.ForestUndoes', WHERE WHAT IT READS IS OF BULK AT MOST 1048576: true; the input reads as it did. -/
def forestUndoesUptoRow : OpenClaim := { program := "ytmkhglpfhnocaaa", sum := "27af651aba20db27c3513c69a03173607449b21ed7a53b6c642f25343627ce3e", func := "saturate/saturatelaw17.ForestUndoes", spec := "forestUndoes", unfollowed := true, recurses := true, apart := false, narrowed := true }
def ForestUndoesUptoSaid : Prop := forestUndoesUptoRow.holds Try.pinned (OpenSpec.upto forestUndoesSpec)

/-- 'saturatelaw17.ForestOwns', WHERE WHAT IT READS IS OF BULK AT MOST 1048576: true; the input reads as it did. -/
def forestOwnsUptoRow : OpenClaim := { program := "ytmkhglpfhnocaaa", sum := "27af651aba20db27c3513c69a03173607449b21ed7a53b6c642f25343627ce3e", func := "saturate/saturatelaw17.ForestOwns", spec := "forestOwns", unfollowed := true, recurses := true, apart := false, narrowed := true }
def ForestOwnsUptoSaid : Prop := forestOwnsUptoRow.holds Try.pinned (OpenSpec.upto forestOwnsSpec)

/-- 'saturatelaw17.ForestNil', WHERE WHAT IT READS IS OF BULK AT MOST 1048576: true; the input reads as it did. -/
def forestNilUptoRow : OpenClaim := { program := "ytmkhglpfhnocaaa", sum := "27af651aba20db27c3513c69a03173607449b21ed7a53b6c642f25343627ce3e", func := "saturate/saturatelaw17.ForestNil", spec := "forestNil", unfollowed := true, recurses := true, apart := false, narrowed := true }
def ForestNilUptoSaid : Prop := forestNilUptoRow.holds Try.pinned (OpenSpec.upto forestNilSpec)

end Rows
end Go.Proofs.Ytmkhglpfhnocaaa
