/-
  NARROWER THAN 'FOR EVERY INPUT', by the rows' own cells (each row's printed sentence says how): ExecJoins: laid · ExecReduces: laid · ExecRuns: laid · ExecEquals: laid · ExecSteps: laid · ExecTraces: laid · ExecFrames: laid.
  DERIVED. THE GIVEN ROWS OF THIS SEAT. 7 by the template 'for every input the law returns true; each argument reads behind the call as it read before'; 0 by the template 'total and deterministic' (their statements: YtkmehmlcccdnbaaDoorTotals.lean).
  GIVEN WITH THE SEED: the statements are not yours to turn. If you find one false, say at which input.
  Laid BY PROGRAM, IN A SANDBOX (cutbox-rows.mjs): the forced cells as the released guide's own fill.sh prints them over the translation 1661640089714a68… (all of the seat's roots in one cut). By AI agents, Wed Nov 11 2026. No macro, syntax, notation, axiom, sorry.
-/
import Derived.Test.YtkmehmlcccdnbaaDoorChecked
import GoSem.Claim
import GoSem.ClaimJoined
import GoSem.ClaimMapViews
import Derived.JoinedTies
import Derived.KernelRfl
namespace Go.Proofs.YtkmehmlcccdnbaaDoor
/- THE CELL 'sum', in the pinned program and in every row, IS THE sha256 OF THE DUMP (.gsa) THAT YtkmehmlcccdnbaaDoorProg.lean LOADS. Nothing in Lean hashes anything: it is a label: what it is worth is what the hold of that sum in a sandbox is worth. -/
noncomputable def Tryd.pinned : Pinned := { name := "ytkmehmlcccdnbaadoor", sum := "1661640089714a6828f51240252c85ee61bb380f47eabf9a721823a89e9c21fc", checked := Tryd.checked }
namespace Rows
def none {H : Type} : Left H := { results := [], args := [] }

/- WHAT THE LISTED PACKAGE-LEVEL VARIABLES READ AS WHEN THE CALL BEGINS. Each datum BY PROGRAM (the guide's laid-datum.mjs) off the statement by which the dump's own 'gosem.cut.vars' lays the variable. In a bare row this is a premise. The card (YtkmehmlcccdnbaaDoorCards.lean) ties it to the program's text. -/
def laid_saturate_isa_operations {H : Type} : DataW H := .agg [.agg [.lit (.string [110, 111, 112]), .lit (.int .i64 0)], .agg [.lit (.string [109, 111, 118, 105]), .lit (.int .i64 0)], .agg [.lit (.string [109, 111, 118]), .lit (.int .i64 1)], .agg [.lit (.string [110, 111, 116]), .lit (.int .i64 1)], .agg [.lit (.string [110, 101, 103]), .lit (.int .i64 1)], .agg [.lit (.string [97, 110, 100]), .lit (.int .i64 2)], .agg [.lit (.string [111, 114]), .lit (.int .i64 2)], .agg [.lit (.string [120, 111, 114]), .lit (.int .i64 2)], .agg [.lit (.string [97, 100, 100]), .lit (.int .i64 2)], .agg [.lit (.string [115, 117, 98]), .lit (.int .i64 2)], .agg [.lit (.string [109, 117, 108]), .lit (.int .i64 2)], .agg [.lit (.string [100, 105, 118]), .lit (.int .i64 2)], .agg [.lit (.string [114, 101, 109]), .lit (.int .i64 2)], .agg [.lit (.string [115, 104, 108]), .lit (.int .i64 2)], .agg [.lit (.string [115, 104, 114]), .lit (.int .i64 2)], .agg [.lit (.string [115, 97, 114]), .lit (.int .i64 2)], .agg [.lit (.string [101, 113]), .lit (.int .i64 2)], .agg [.lit (.string [117, 108, 116]), .lit (.int .i64 2)], .agg [.lit (.string [115, 108, 116]), .lit (.int .i64 2)], .agg [.lit (.string [115, 101, 108]), .lit (.int .i64 3)]]

/-- 'saturatelaw49.ExecJoins': WHATEVER THE INPUT: true; the input reads as it did. -/
def execJoinsSpec : ChangeSpec := { name := "execJoins", fn := fun _ => fun
  | [d1, d2, d3] => { results := [.lit (.bool true)], args := [d1, d2, d3] }
  | _ => none }
def execJoinsRow : OpenClaim := { program := "ytkmehmlcccdnbaadoor", sum := "1661640089714a6828f51240252c85ee61bb380f47eabf9a721823a89e9c21fc", func := "saturate/saturatelaw49.ExecJoins", spec := "execJoins", unfollowed := true, recurses := true, named := ["saturate/isa.operations"], apart := false, laid := [("saturate/isa.operations", laid_saturate_isa_operations)] }
def ExecJoinsSaid : Prop := execJoinsRow.holds Tryd.pinned (OpenSpec.ofChange execJoinsSpec)

/-- ITS FALSE NEIGHBOUR: 'it returns false'. Refute it at one input. -/
def execJoinsWrong : ChangeSpec := { name := "execJoins", fn := fun _ => fun
  | [d1, d2, d3] => { results := [.lit (.bool false)], args := [d1, d2, d3] }
  | _ => none }
def ExecJoinsWrongFalsely : Prop := execJoinsRow.holds Tryd.pinned (OpenSpec.ofChange execJoinsWrong)

/-- 'saturatelaw49.ExecReduces': WHATEVER THE INPUT: true; the input reads as it did. -/
def execReducesSpec : ChangeSpec := { name := "execReduces", fn := fun _ => fun
  | [d1, d2] => { results := [.lit (.bool true)], args := [d1, d2] }
  | _ => none }
def execReducesRow : OpenClaim := { program := "ytkmehmlcccdnbaadoor", sum := "1661640089714a6828f51240252c85ee61bb380f47eabf9a721823a89e9c21fc", func := "saturate/saturatelaw49.ExecReduces", spec := "execReduces", unfollowed := true, recurses := true, named := ["saturate/isa.operations"], apart := false, laid := [("saturate/isa.operations", laid_saturate_isa_operations)] }
def ExecReducesSaid : Prop := execReducesRow.holds Tryd.pinned (OpenSpec.ofChange execReducesSpec)

/-- ITS FALSE NEIGHBOUR: 'it returns false'. Refute it at one input. -/
def execReducesWrong : ChangeSpec := { name := "execReduces", fn := fun _ => fun
  | [d1, d2] => { results := [.lit (.bool false)], args := [d1, d2] }
  | _ => none }
def ExecReducesWrongFalsely : Prop := execReducesRow.holds Tryd.pinned (OpenSpec.ofChange execReducesWrong)

/-- 'saturatelaw49.ExecRuns': WHATEVER THE INPUT: true; the input reads as it did. -/
def execRunsSpec : ChangeSpec := { name := "execRuns", fn := fun _ => fun
  | [d1, d2] => { results := [.lit (.bool true)], args := [d1, d2] }
  | _ => none }
def execRunsRow : OpenClaim := { program := "ytkmehmlcccdnbaadoor", sum := "1661640089714a6828f51240252c85ee61bb380f47eabf9a721823a89e9c21fc", func := "saturate/saturatelaw49.ExecRuns", spec := "execRuns", unfollowed := true, recurses := true, named := ["saturate/isa.operations"], apart := false, laid := [("saturate/isa.operations", laid_saturate_isa_operations)] }
def ExecRunsSaid : Prop := execRunsRow.holds Tryd.pinned (OpenSpec.ofChange execRunsSpec)

/-- ITS FALSE NEIGHBOUR: 'it returns false'. Refute it at one input. -/
def execRunsWrong : ChangeSpec := { name := "execRuns", fn := fun _ => fun
  | [d1, d2] => { results := [.lit (.bool false)], args := [d1, d2] }
  | _ => none }
def ExecRunsWrongFalsely : Prop := execRunsRow.holds Tryd.pinned (OpenSpec.ofChange execRunsWrong)

/-- 'saturatelaw49.ExecEquals': WHATEVER THE INPUT: true; the input reads as it did. -/
def execEqualsSpec : ChangeSpec := { name := "execEquals", fn := fun _ => fun
  | [d1, d2, d3] => { results := [.lit (.bool true)], args := [d1, d2, d3] }
  | _ => none }
def execEqualsRow : OpenClaim := { program := "ytkmehmlcccdnbaadoor", sum := "1661640089714a6828f51240252c85ee61bb380f47eabf9a721823a89e9c21fc", func := "saturate/saturatelaw49.ExecEquals", spec := "execEquals", unfollowed := true, recurses := true, named := ["saturate/isa.operations"], apart := false, laid := [("saturate/isa.operations", laid_saturate_isa_operations)] }
def ExecEqualsSaid : Prop := execEqualsRow.holds Tryd.pinned (OpenSpec.ofChange execEqualsSpec)

/-- ITS FALSE NEIGHBOUR: 'it returns false'. Refute it at one input. -/
def execEqualsWrong : ChangeSpec := { name := "execEquals", fn := fun _ => fun
  | [d1, d2, d3] => { results := [.lit (.bool false)], args := [d1, d2, d3] }
  | _ => none }
def ExecEqualsWrongFalsely : Prop := execEqualsRow.holds Tryd.pinned (OpenSpec.ofChange execEqualsWrong)

/-- 'saturatelaw49.ExecSteps': WHATEVER THE INPUT: true; the input reads as it did. -/
def execStepsSpec : ChangeSpec := { name := "execSteps", fn := fun _ => fun
  | [d1, d2, d3] => { results := [.lit (.bool true)], args := [d1, d2, d3] }
  | _ => none }
def execStepsRow : OpenClaim := { program := "ytkmehmlcccdnbaadoor", sum := "1661640089714a6828f51240252c85ee61bb380f47eabf9a721823a89e9c21fc", func := "saturate/saturatelaw49.ExecSteps", spec := "execSteps", unfollowed := true, recurses := true, named := ["saturate/isa.operations"], apart := false, laid := [("saturate/isa.operations", laid_saturate_isa_operations)] }
def ExecStepsSaid : Prop := execStepsRow.holds Tryd.pinned (OpenSpec.ofChange execStepsSpec)

/-- ITS FALSE NEIGHBOUR: 'it returns false'. Refute it at one input. -/
def execStepsWrong : ChangeSpec := { name := "execSteps", fn := fun _ => fun
  | [d1, d2, d3] => { results := [.lit (.bool false)], args := [d1, d2, d3] }
  | _ => none }
def ExecStepsWrongFalsely : Prop := execStepsRow.holds Tryd.pinned (OpenSpec.ofChange execStepsWrong)

/-- 'saturatelaw49.ExecTraces': WHATEVER THE INPUT: true; the input reads as it did. -/
def execTracesSpec : ChangeSpec := { name := "execTraces", fn := fun _ => fun
  | [d1, d2] => { results := [.lit (.bool true)], args := [d1, d2] }
  | _ => none }
def execTracesRow : OpenClaim := { program := "ytkmehmlcccdnbaadoor", sum := "1661640089714a6828f51240252c85ee61bb380f47eabf9a721823a89e9c21fc", func := "saturate/saturatelaw49.ExecTraces", spec := "execTraces", unfollowed := true, recurses := true, named := ["saturate/isa.operations"], apart := false, laid := [("saturate/isa.operations", laid_saturate_isa_operations)] }
def ExecTracesSaid : Prop := execTracesRow.holds Tryd.pinned (OpenSpec.ofChange execTracesSpec)

/-- ITS FALSE NEIGHBOUR: 'it returns false'. Refute it at one input. -/
def execTracesWrong : ChangeSpec := { name := "execTraces", fn := fun _ => fun
  | [d1, d2] => { results := [.lit (.bool false)], args := [d1, d2] }
  | _ => none }
def ExecTracesWrongFalsely : Prop := execTracesRow.holds Tryd.pinned (OpenSpec.ofChange execTracesWrong)

/-- 'saturatelaw49.ExecFrames': WHATEVER THE INPUT: true; the input reads as it did. -/
def execFramesSpec : ChangeSpec := { name := "execFrames", fn := fun _ => fun
  | [d1, d2, d3, d4, d5] => { results := [.lit (.bool true)], args := [d1, d2, d3, d4, d5] }
  | _ => none }
def execFramesRow : OpenClaim := { program := "ytkmehmlcccdnbaadoor", sum := "1661640089714a6828f51240252c85ee61bb380f47eabf9a721823a89e9c21fc", func := "saturate/saturatelaw49.ExecFrames", spec := "execFrames", unfollowed := true, recurses := true, named := ["saturate/isa.operations"], apart := false, laid := [("saturate/isa.operations", laid_saturate_isa_operations)] }
def ExecFramesSaid : Prop := execFramesRow.holds Tryd.pinned (OpenSpec.ofChange execFramesSpec)

/-- ITS FALSE NEIGHBOUR: 'it returns false'. Refute it at one input. -/
def execFramesWrong : ChangeSpec := { name := "execFrames", fn := fun _ => fun
  | [d1, d2, d3, d4, d5] => { results := [.lit (.bool false)], args := [d1, d2, d3, d4, d5] }
  | _ => none }
def ExecFramesWrongFalsely : Prop := execFramesRow.holds Tryd.pinned (OpenSpec.ofChange execFramesWrong)

/- THE SECOND FORM. 'bulk': how many values and letters a reading holds, each counted each time it is reached (what is shared counts as often as it is met; a slice's spare places count too). A statement '..UptoSaid' is the law's where the arguments, and the package variables that the reading takes, are together of bulk at most 1048576: NARROWER than '..Said'. Prove '..Said' where nothing that the law and all that it calls make is longer than what came in: it says more and counts as full. Else prove '..UptoSaid'. A law counts once. -/
mutual
def uptoBulk {H : Type} : DataW H → Nat
  | .lit (.string bytes) => bytes.length + 1
  | .lit _ => 1
  | .nil => 1
  | .ptr d => uptoBulk d + 1
  | .slice elems spare => uptoBulkAll elems + uptoBulkAll spare + 1
  | .agg parts => uptoBulkAll parts + 1
  | .iface _ d => uptoBulk d + 1
  | .map entries => uptoBulkEntries entries + 1
  | .held _ => 1
def uptoBulkAll {H : Type} : List (DataW H) → Nat
  | [] => 0
  | d :: r => uptoBulk d + uptoBulkAll r
def uptoBulkEntries {H : Type} : List (Lit × DataW H) → Nat
  | [] => 0
  | x :: r => uptoBulkEntry x + uptoBulkEntries r
def uptoBulkEntry {H : Type} : Lit × DataW H → Nat
  | (.string bytes, d) => bytes.length + uptoBulk d + 1
  | (_, d) => uptoBulk d + 1
 end
def uptoSmall : (H : Type) → List (DataW H) → Bool := fun _ ds => decide (uptoBulkAll ds ≤ 1048576)
def OpenSpec.upto (s : _root_.Go.ChangeSpec) : _root_.Go.OpenSpec := { _root_.Go.OpenSpec.ofChange s with cond := some uptoSmall }

/-- 'saturatelaw49.ExecJoins', WHERE WHAT IT READS IS OF BULK AT MOST 1048576: true; the input reads as it did. -/
def execJoinsUptoRow : OpenClaim := { program := "ytkmehmlcccdnbaadoor", sum := "1661640089714a6828f51240252c85ee61bb380f47eabf9a721823a89e9c21fc", func := "saturate/saturatelaw49.ExecJoins", spec := "execJoins", unfollowed := true, recurses := true, named := ["saturate/isa.operations"], apart := false, laid := [("saturate/isa.operations", laid_saturate_isa_operations)], narrowed := true }
def ExecJoinsUptoSaid : Prop := execJoinsUptoRow.holds Tryd.pinned (OpenSpec.upto execJoinsSpec)

/-- 'saturatelaw49.ExecReduces', WHERE WHAT IT READS IS OF BULK AT MOST 1048576: true; the input reads as it did. -/
def execReducesUptoRow : OpenClaim := { program := "ytkmehmlcccdnbaadoor", sum := "1661640089714a6828f51240252c85ee61bb380f47eabf9a721823a89e9c21fc", func := "saturate/saturatelaw49.ExecReduces", spec := "execReduces", unfollowed := true, recurses := true, named := ["saturate/isa.operations"], apart := false, laid := [("saturate/isa.operations", laid_saturate_isa_operations)], narrowed := true }
def ExecReducesUptoSaid : Prop := execReducesUptoRow.holds Tryd.pinned (OpenSpec.upto execReducesSpec)

/-- 'saturatelaw49.ExecRuns', WHERE WHAT IT READS IS OF BULK AT MOST 1048576: true; the input reads as it did. -/
def execRunsUptoRow : OpenClaim := { program := "ytkmehmlcccdnbaadoor", sum := "1661640089714a6828f51240252c85ee61bb380f47eabf9a721823a89e9c21fc", func := "saturate/saturatelaw49.ExecRuns", spec := "execRuns", unfollowed := true, recurses := true, named := ["saturate/isa.operations"], apart := false, laid := [("saturate/isa.operations", laid_saturate_isa_operations)], narrowed := true }
def ExecRunsUptoSaid : Prop := execRunsUptoRow.holds Tryd.pinned (OpenSpec.upto execRunsSpec)

/-- 'saturatelaw49.ExecEquals', WHERE WHAT IT READS IS OF BULK AT MOST 1048576: true; the input reads as it did. -/
def execEqualsUptoRow : OpenClaim := { program := "ytkmehmlcccdnbaadoor", sum := "1661640089714a6828f51240252c85ee61bb380f47eabf9a721823a89e9c21fc", func := "saturate/saturatelaw49.ExecEquals", spec := "execEquals", unfollowed := true, recurses := true, named := ["saturate/isa.operations"], apart := false, laid := [("saturate/isa.operations", laid_saturate_isa_operations)], narrowed := true }
def ExecEqualsUptoSaid : Prop := execEqualsUptoRow.holds Tryd.pinned (OpenSpec.upto execEqualsSpec)

/-- 'saturatelaw49.ExecSteps', WHERE WHAT IT READS IS OF BULK AT MOST 1048576: true; the input reads as it did. -/
def execStepsUptoRow : OpenClaim := { program := "ytkmehmlcccdnbaadoor", sum := "1661640089714a6828f51240252c85ee61bb380f47eabf9a721823a89e9c21fc", func := "saturate/saturatelaw49.ExecSteps", spec := "execSteps", unfollowed := true, recurses := true, named := ["saturate/isa.operations"], apart := false, laid := [("saturate/isa.operations", laid_saturate_isa_operations)], narrowed := true }
def ExecStepsUptoSaid : Prop := execStepsUptoRow.holds Tryd.pinned (OpenSpec.upto execStepsSpec)

/-- 'saturatelaw49.ExecTraces', WHERE WHAT IT READS IS OF BULK AT MOST 1048576: true; the input reads as it did. -/
def execTracesUptoRow : OpenClaim := { program := "ytkmehmlcccdnbaadoor", sum := "1661640089714a6828f51240252c85ee61bb380f47eabf9a721823a89e9c21fc", func := "saturate/saturatelaw49.ExecTraces", spec := "execTraces", unfollowed := true, recurses := true, named := ["saturate/isa.operations"], apart := false, laid := [("saturate/isa.operations", laid_saturate_isa_operations)], narrowed := true }
def ExecTracesUptoSaid : Prop := execTracesUptoRow.holds Tryd.pinned (OpenSpec.upto execTracesSpec)

/-- 'saturatelaw49.ExecFrames', WHERE WHAT IT READS IS OF BULK AT MOST 1048576: true; the input reads as it did. -/
def execFramesUptoRow : OpenClaim := { program := "ytkmehmlcccdnbaadoor", sum := "1661640089714a6828f51240252c85ee61bb380f47eabf9a721823a89e9c21fc", func := "saturate/saturatelaw49.ExecFrames", spec := "execFrames", unfollowed := true, recurses := true, named := ["saturate/isa.operations"], apart := false, laid := [("saturate/isa.operations", laid_saturate_isa_operations)], narrowed := true }
def ExecFramesUptoSaid : Prop := execFramesUptoRow.holds Tryd.pinned (OpenSpec.upto execFramesSpec)

end Rows
end Go.Proofs.YtkmehmlcccdnbaaDoor
