/-
  DERIVED. GIVEN WITH THE SEED: THE CARDS: each row of YtkmehmlcccdnbaaDoorRows.lean that lists a variable, with what it lists TIED to the program's text (the seventh form; the later family's looks); each row that meets fmt, with fmt's text TOLD by the authors' own Lean function (tested against real Go, not proved from fmt's source: count such statements apart). THE CARD IS WHAT COUNTS. Prove the row's statement (the work); the ties are given (YtkmehmlcccdnbaaDoorTie.lean); close each card by the builder's one call (the guide's Derived/Test/ToyasCard.lean, 'card_holds'). Laid BY PROGRAM, IN A SANDBOX (cutbox-door.mjs). By AI agents, Wed Nov 11 2026. No macro, syntax, notation, axiom, sorry.
-/
import Derived.Test.YtkmehmlcccdnbaaDoorRows
import GoSem.ClaimSeven
namespace Go.Proofs.YtkmehmlcccdnbaaDoor
namespace Rows

/-- THE TIED CARD OF 'saturatelaw49.ExecJoins'. -/
def execJoinsCard : Claim7 := { stood := { row := execJoinsRow, standIns := [], harness := (true, "801260faa5de2052b961aa4d2a538cf16847e490dfe55b35fc0458e7d00f1520"), looks := true }, kinds := [], alts := [], laidByText := true, laidKinds := [.widerDeep], laidTests := true, laidLooks := .later }
def ExecJoinsCardSaid : Prop := Claim7.holds Tryd.pinned (.plain (OpenSpec.ofChange execJoinsSpec)) execJoinsCard

/-- THE TIED CARD OF 'saturatelaw49.ExecReduces'. -/
def execReducesCard : Claim7 := { stood := { row := execReducesRow, standIns := [], harness := (true, "801260faa5de2052b961aa4d2a538cf16847e490dfe55b35fc0458e7d00f1520"), looks := true }, kinds := [], alts := [], laidByText := true, laidKinds := [.widerDeep], laidTests := true, laidLooks := .later }
def ExecReducesCardSaid : Prop := Claim7.holds Tryd.pinned (.plain (OpenSpec.ofChange execReducesSpec)) execReducesCard

/-- THE TIED CARD OF 'saturatelaw49.ExecRuns'. -/
def execRunsCard : Claim7 := { stood := { row := execRunsRow, standIns := [], harness := (true, "801260faa5de2052b961aa4d2a538cf16847e490dfe55b35fc0458e7d00f1520"), looks := true }, kinds := [], alts := [], laidByText := true, laidKinds := [.widerDeep], laidTests := true, laidLooks := .later }
def ExecRunsCardSaid : Prop := Claim7.holds Tryd.pinned (.plain (OpenSpec.ofChange execRunsSpec)) execRunsCard

/-- THE TIED CARD OF 'saturatelaw49.ExecEquals'. -/
def execEqualsCard : Claim7 := { stood := { row := execEqualsRow, standIns := [], harness := (true, "801260faa5de2052b961aa4d2a538cf16847e490dfe55b35fc0458e7d00f1520"), looks := true }, kinds := [], alts := [], laidByText := true, laidKinds := [.widerDeep], laidTests := true, laidLooks := .later }
def ExecEqualsCardSaid : Prop := Claim7.holds Tryd.pinned (.plain (OpenSpec.ofChange execEqualsSpec)) execEqualsCard

/-- THE TIED CARD OF 'saturatelaw49.ExecSteps'. -/
def execStepsCard : Claim7 := { stood := { row := execStepsRow, standIns := [], harness := (true, "801260faa5de2052b961aa4d2a538cf16847e490dfe55b35fc0458e7d00f1520"), looks := true }, kinds := [], alts := [], laidByText := true, laidKinds := [.widerDeep], laidTests := true, laidLooks := .later }
def ExecStepsCardSaid : Prop := Claim7.holds Tryd.pinned (.plain (OpenSpec.ofChange execStepsSpec)) execStepsCard

/-- THE TIED CARD OF 'saturatelaw49.ExecTraces'. -/
def execTracesCard : Claim7 := { stood := { row := execTracesRow, standIns := [], harness := (true, "801260faa5de2052b961aa4d2a538cf16847e490dfe55b35fc0458e7d00f1520"), looks := true }, kinds := [], alts := [], laidByText := true, laidKinds := [.widerDeep], laidTests := true, laidLooks := .later }
def ExecTracesCardSaid : Prop := Claim7.holds Tryd.pinned (.plain (OpenSpec.ofChange execTracesSpec)) execTracesCard

/-- THE TIED CARD OF 'saturatelaw49.ExecFrames'. -/
def execFramesCard : Claim7 := { stood := { row := execFramesRow, standIns := [], harness := (true, "801260faa5de2052b961aa4d2a538cf16847e490dfe55b35fc0458e7d00f1520"), looks := true }, kinds := [], alts := [], laidByText := true, laidKinds := [.widerDeep], laidTests := true, laidLooks := .later }
def ExecFramesCardSaid : Prop := Claim7.holds Tryd.pinned (.plain (OpenSpec.ofChange execFramesSpec)) execFramesCard

/-- THE SECOND FORM's CARD OF 'saturatelaw49.ExecJoins'. -/
def execJoinsUptoCard : Claim7 := { stood := { row := execJoinsUptoRow, standIns := [], harness := (true, "801260faa5de2052b961aa4d2a538cf16847e490dfe55b35fc0458e7d00f1520"), looks := true }, kinds := [], alts := [], laidByText := true, laidKinds := [.widerDeep], laidTests := true, laidLooks := .later }
def ExecJoinsUptoCardSaid : Prop := Claim7.holds Tryd.pinned (.plain (OpenSpec.upto execJoinsSpec)) execJoinsUptoCard

/-- THE SECOND FORM's CARD OF 'saturatelaw49.ExecReduces'. -/
def execReducesUptoCard : Claim7 := { stood := { row := execReducesUptoRow, standIns := [], harness := (true, "801260faa5de2052b961aa4d2a538cf16847e490dfe55b35fc0458e7d00f1520"), looks := true }, kinds := [], alts := [], laidByText := true, laidKinds := [.widerDeep], laidTests := true, laidLooks := .later }
def ExecReducesUptoCardSaid : Prop := Claim7.holds Tryd.pinned (.plain (OpenSpec.upto execReducesSpec)) execReducesUptoCard

/-- THE SECOND FORM's CARD OF 'saturatelaw49.ExecRuns'. -/
def execRunsUptoCard : Claim7 := { stood := { row := execRunsUptoRow, standIns := [], harness := (true, "801260faa5de2052b961aa4d2a538cf16847e490dfe55b35fc0458e7d00f1520"), looks := true }, kinds := [], alts := [], laidByText := true, laidKinds := [.widerDeep], laidTests := true, laidLooks := .later }
def ExecRunsUptoCardSaid : Prop := Claim7.holds Tryd.pinned (.plain (OpenSpec.upto execRunsSpec)) execRunsUptoCard

/-- THE SECOND FORM's CARD OF 'saturatelaw49.ExecEquals'. -/
def execEqualsUptoCard : Claim7 := { stood := { row := execEqualsUptoRow, standIns := [], harness := (true, "801260faa5de2052b961aa4d2a538cf16847e490dfe55b35fc0458e7d00f1520"), looks := true }, kinds := [], alts := [], laidByText := true, laidKinds := [.widerDeep], laidTests := true, laidLooks := .later }
def ExecEqualsUptoCardSaid : Prop := Claim7.holds Tryd.pinned (.plain (OpenSpec.upto execEqualsSpec)) execEqualsUptoCard

/-- THE SECOND FORM's CARD OF 'saturatelaw49.ExecSteps'. -/
def execStepsUptoCard : Claim7 := { stood := { row := execStepsUptoRow, standIns := [], harness := (true, "801260faa5de2052b961aa4d2a538cf16847e490dfe55b35fc0458e7d00f1520"), looks := true }, kinds := [], alts := [], laidByText := true, laidKinds := [.widerDeep], laidTests := true, laidLooks := .later }
def ExecStepsUptoCardSaid : Prop := Claim7.holds Tryd.pinned (.plain (OpenSpec.upto execStepsSpec)) execStepsUptoCard

/-- THE SECOND FORM's CARD OF 'saturatelaw49.ExecTraces'. -/
def execTracesUptoCard : Claim7 := { stood := { row := execTracesUptoRow, standIns := [], harness := (true, "801260faa5de2052b961aa4d2a538cf16847e490dfe55b35fc0458e7d00f1520"), looks := true }, kinds := [], alts := [], laidByText := true, laidKinds := [.widerDeep], laidTests := true, laidLooks := .later }
def ExecTracesUptoCardSaid : Prop := Claim7.holds Tryd.pinned (.plain (OpenSpec.upto execTracesSpec)) execTracesUptoCard

/-- THE SECOND FORM's CARD OF 'saturatelaw49.ExecFrames'. -/
def execFramesUptoCard : Claim7 := { stood := { row := execFramesUptoRow, standIns := [], harness := (true, "801260faa5de2052b961aa4d2a538cf16847e490dfe55b35fc0458e7d00f1520"), looks := true }, kinds := [], alts := [], laidByText := true, laidKinds := [.widerDeep], laidTests := true, laidLooks := .later }
def ExecFramesUptoCardSaid : Prop := Claim7.holds Tryd.pinned (.plain (OpenSpec.upto execFramesSpec)) execFramesUptoCard
end Rows
end Go.Proofs.YtkmehmlcccdnbaaDoor
