/-
  DERIVED. GIVEN WITH THE SEED: THE CARDS: each row of YtpdnbcablofgiaaDoorRows.lean that lists a variable, with what it lists TIED to the program's text (the seventh form; the later family's looks); each row that meets fmt, with fmt's text TOLD by the authors' own Lean function (tested against real Go, not proved from fmt's source: count such statements apart). THE CARD IS WHAT COUNTS. Prove the row's statement (the work); the ties are given (YtpdnbcablofgiaaDoorTie.lean); close each card by the builder's one call (the guide's Derived/Test/ToyasCard.lean, 'card_holds'). Laid BY PROGRAM, IN A SANDBOX (cutbox-door.mjs). By AI agents, Wed Nov 11 2026. No macro, syntax, notation, axiom, sorry.
-/
import Derived.Test.YtpdnbcablofgiaaDoorRows
import GoSem.ClaimSeven
namespace Go.Proofs.YtpdnbcablofgiaaDoor
namespace Rows

/-- THE TIED CARD OF 'saturatelaw04.OpinfoNames'. -/
def opinfoNamesCard : Claim7 := { stood := { row := opinfoNamesRow, standIns := [], harness := (true, "ed4e9f7069cb1fffe08de7228599df69f014fc15b962b9a0064954b2cd3e8f66"), looks := false }, kinds := [], alts := [], laidByText := true, laidKinds := [.data], laidTests := true, laidLooks := .later }
def OpinfoNamesCardSaid : Prop := Claim7.holds Tryd.pinned (.plain (OpenSpec.ofChange opinfoNamesSpec)) opinfoNamesCard

/-- THE TIED CARD OF 'saturatelaw04.OpinfoBack'. -/
def opinfoBackCard : Claim7 := { stood := { row := opinfoBackRow, standIns := [], harness := (true, "ed4e9f7069cb1fffe08de7228599df69f014fc15b962b9a0064954b2cd3e8f66"), looks := false }, kinds := [], alts := [], laidByText := true, laidKinds := [.data], laidTests := true, laidLooks := .later }
def OpinfoBackCardSaid : Prop := Claim7.holds Tryd.pinned (.plain (OpenSpec.ofChange opinfoBackSpec)) opinfoBackCard

/-- THE SECOND FORM's CARD OF 'saturatelaw04.OpinfoNames'. -/
def opinfoNamesUptoCard : Claim7 := { stood := { row := opinfoNamesUptoRow, standIns := [], harness := (true, "ed4e9f7069cb1fffe08de7228599df69f014fc15b962b9a0064954b2cd3e8f66"), looks := false }, kinds := [], alts := [], laidByText := true, laidKinds := [.data], laidTests := true, laidLooks := .later }
def OpinfoNamesUptoCardSaid : Prop := Claim7.holds Tryd.pinned (.plain (OpenSpec.upto opinfoNamesSpec)) opinfoNamesUptoCard

/-- THE SECOND FORM's CARD OF 'saturatelaw04.OpinfoBack'. -/
def opinfoBackUptoCard : Claim7 := { stood := { row := opinfoBackUptoRow, standIns := [], harness := (true, "ed4e9f7069cb1fffe08de7228599df69f014fc15b962b9a0064954b2cd3e8f66"), looks := false }, kinds := [], alts := [], laidByText := true, laidKinds := [.data], laidTests := true, laidLooks := .later }
def OpinfoBackUptoCardSaid : Prop := Claim7.holds Tryd.pinned (.plain (OpenSpec.upto opinfoBackSpec)) opinfoBackUptoCard
end Rows
end Go.Proofs.YtpdnbcablofgiaaDoor
