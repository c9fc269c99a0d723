/-
  NARROWER THAN 'FOR EVERY INPUT', by the rows' own cells (each row's printed sentence says how): OpinfoNames: laid · OpinfoBack: laid.
  DERIVED. THE GIVEN ROWS OF THIS SEAT. 2 by the template 'for every input the law returns true; each argument reads behind the call as it read before'; 0 by the template 'total and deterministic' (their statements: YtpdnbcablofgiaaDoorTotals.lean).
  GIVEN WITH THE SEED: the statements are not yours to turn. If you find one false, say at which input.
  Laid BY PROGRAM, IN A SANDBOX (cutbox-rows.mjs): the forced cells as the released guide's own fill.sh prints them over the translation 9dfd4a7f92e440f4… (all of the seat's roots in one cut). By AI agents, Wed Nov 11 2026. No macro, syntax, notation, axiom, sorry.
-/
import Derived.Test.YtpdnbcablofgiaaDoorChecked
import GoSem.Claim
import GoSem.ClaimJoined
import GoSem.ClaimMapViews
import Derived.JoinedTies
import Derived.KernelRfl
namespace Go.Proofs.YtpdnbcablofgiaaDoor
/- THE CELL 'sum', in the pinned program and in every row, IS THE sha256 OF THE DUMP (.gsa) THAT YtpdnbcablofgiaaDoorProg.lean LOADS. Nothing in Lean hashes anything: it is a label: what it is worth is what the hold of that sum in a sandbox is worth. -/
noncomputable def Tryd.pinned : Pinned := { name := "ytpdnbcablofgiaadoor", sum := "9dfd4a7f92e440f4a6ad48941462eaf035b8073f3eed8b40ff08bae50c27f25f", checked := Tryd.checked }
namespace Rows
def none {H : Type} : Left H := { results := [], args := [] }

/- WHAT THE LISTED PACKAGE-LEVEL VARIABLES READ AS WHEN THE CALL BEGINS. Each datum BY PROGRAM (the guide's laid-datum.mjs) off the statement by which the dump's own 'gosem.cut.vars' lays the variable. In a bare row this is a premise. The card (YtpdnbcablofgiaaDoorCards.lean) ties it to the program's text. -/
def laid_saturate_opinfo_names {H : Type} : DataW H := .agg [.lit (.string []), .lit (.string [118, 97, 114]), .lit (.string [99, 111, 110, 115, 116]), .lit (.string [110, 111, 116]), .lit (.string [110, 101, 103]), .lit (.string [97, 110, 100]), .lit (.string [111, 114]), .lit (.string [120, 111, 114]), .lit (.string [97, 100, 100]), .lit (.string [115, 117, 98]), .lit (.string [109, 117, 108]), .lit (.string [117, 100, 105, 118]), .lit (.string [117, 114, 101, 109]), .lit (.string [115, 104, 108]), .lit (.string [108, 115, 104, 114]), .lit (.string [97, 115, 104, 114]), .lit (.string [101, 113]), .lit (.string [117, 108, 116]), .lit (.string [115, 108, 116]), .lit (.string [105, 116, 101]), .lit (.string [99, 111, 110, 99, 97, 116]), .lit (.string [101, 120, 116, 114, 97, 99, 116]), .lit (.string [122, 101, 120, 116]), .lit (.string [115, 101, 120, 116]), .lit (.string [104, 111, 108, 101]), .lit (.string [110, 117, 109]), .lit (.string [101, 118, 97, 108])]

/-- 'saturatelaw04.OpinfoNames': WHATEVER THE INPUT: true; the input reads as it did. -/
def opinfoNamesSpec : ChangeSpec := { name := "opinfoNames", fn := fun _ => fun
  | [d1, d2] => { results := [.lit (.bool true)], args := [d1, d2] }
  | _ => none }
def opinfoNamesRow : OpenClaim := { program := "ytpdnbcablofgiaadoor", sum := "9dfd4a7f92e440f4a6ad48941462eaf035b8073f3eed8b40ff08bae50c27f25f", func := "saturate/saturatelaw04.OpinfoNames", spec := "opinfoNames", named := ["saturate/opinfo.names"], apart := false, laid := [("saturate/opinfo.names", laid_saturate_opinfo_names)] }
def OpinfoNamesSaid : Prop := opinfoNamesRow.holds Tryd.pinned (OpenSpec.ofChange opinfoNamesSpec)

/-- ITS FALSE NEIGHBOUR: 'it returns false'. Refute it at one input. -/
def opinfoNamesWrong : ChangeSpec := { name := "opinfoNames", fn := fun _ => fun
  | [d1, d2] => { results := [.lit (.bool false)], args := [d1, d2] }
  | _ => none }
def OpinfoNamesWrongFalsely : Prop := opinfoNamesRow.holds Tryd.pinned (OpenSpec.ofChange opinfoNamesWrong)

/-- 'saturatelaw04.OpinfoBack': WHATEVER THE INPUT: true; the input reads as it did. -/
def opinfoBackSpec : ChangeSpec := { name := "opinfoBack", fn := fun _ => fun
  | [d1, d2, d3] => { results := [.lit (.bool true)], args := [d1, d2, d3] }
  | _ => none }
def opinfoBackRow : OpenClaim := { program := "ytpdnbcablofgiaadoor", sum := "9dfd4a7f92e440f4a6ad48941462eaf035b8073f3eed8b40ff08bae50c27f25f", func := "saturate/saturatelaw04.OpinfoBack", spec := "opinfoBack", named := ["saturate/opinfo.names"], apart := false, laid := [("saturate/opinfo.names", laid_saturate_opinfo_names)] }
def OpinfoBackSaid : Prop := opinfoBackRow.holds Tryd.pinned (OpenSpec.ofChange opinfoBackSpec)

/-- ITS FALSE NEIGHBOUR: 'it returns false'. Refute it at one input. -/
def opinfoBackWrong : ChangeSpec := { name := "opinfoBack", fn := fun _ => fun
  | [d1, d2, d3] => { results := [.lit (.bool false)], args := [d1, d2, d3] }
  | _ => none }
def OpinfoBackWrongFalsely : Prop := opinfoBackRow.holds Tryd.pinned (OpenSpec.ofChange opinfoBackWrong)

/- THE SECOND FORM. 'bulk': how many values and letters a reading holds, each counted each time it is reached (what is shared counts as often as it is met; a slice's spare places count too). A statement '..UptoSaid' is the law's where the arguments, and the package variables that the reading takes, are together of bulk at most 1048576: NARROWER than '..Said'. Prove '..Said' where nothing that the law and all that it calls make is longer than what came in: it says more and counts as full. Else prove '..UptoSaid'. A law counts once. -/
mutual
def uptoBulk {H : Type} : DataW H → Nat
  | .lit (.string bytes) => bytes.length + 1
  | .lit _ => 1
  | .nil => 1
  | .ptr d => uptoBulk d + 1
  | .slice elems spare => uptoBulkAll elems + uptoBulkAll spare + 1
  | .agg parts => uptoBulkAll parts + 1
  | .iface _ d => uptoBulk d + 1
  | .map entries => uptoBulkEntries entries + 1
  | .held _ => 1
def uptoBulkAll {H : Type} : List (DataW H) → Nat
  | [] => 0
  | d :: r => uptoBulk d + uptoBulkAll r
def uptoBulkEntries {H : Type} : List (Lit × DataW H) → Nat
  | [] => 0
  | x :: r => uptoBulkEntry x + uptoBulkEntries r
def uptoBulkEntry {H : Type} : Lit × DataW H → Nat
  | (.string bytes, d) => bytes.length + uptoBulk d + 1
  | (_, d) => uptoBulk d + 1
 end
def uptoSmall : (H : Type) → List (DataW H) → Bool := fun _ ds => decide (uptoBulkAll ds ≤ 1048576)
def OpenSpec.upto (s : _root_.Go.ChangeSpec) : _root_.Go.OpenSpec := { _root_.Go.OpenSpec.ofChange s with cond := some uptoSmall }

/-- 'saturatelaw04.OpinfoNames', WHERE WHAT IT READS IS OF BULK AT MOST 1048576: true; the input reads as it did. -/
def opinfoNamesUptoRow : OpenClaim := { program := "ytpdnbcablofgiaadoor", sum := "9dfd4a7f92e440f4a6ad48941462eaf035b8073f3eed8b40ff08bae50c27f25f", func := "saturate/saturatelaw04.OpinfoNames", spec := "opinfoNames", named := ["saturate/opinfo.names"], apart := false, laid := [("saturate/opinfo.names", laid_saturate_opinfo_names)], narrowed := true }
def OpinfoNamesUptoSaid : Prop := opinfoNamesUptoRow.holds Tryd.pinned (OpenSpec.upto opinfoNamesSpec)

/-- 'saturatelaw04.OpinfoBack', WHERE WHAT IT READS IS OF BULK AT MOST 1048576: true; the input reads as it did. -/
def opinfoBackUptoRow : OpenClaim := { program := "ytpdnbcablofgiaadoor", sum := "9dfd4a7f92e440f4a6ad48941462eaf035b8073f3eed8b40ff08bae50c27f25f", func := "saturate/saturatelaw04.OpinfoBack", spec := "opinfoBack", named := ["saturate/opinfo.names"], apart := false, laid := [("saturate/opinfo.names", laid_saturate_opinfo_names)], narrowed := true }
def OpinfoBackUptoSaid : Prop := opinfoBackUptoRow.holds Tryd.pinned (OpenSpec.upto opinfoBackSpec)

end Rows
end Go.Proofs.YtpdnbcablofgiaaDoor
