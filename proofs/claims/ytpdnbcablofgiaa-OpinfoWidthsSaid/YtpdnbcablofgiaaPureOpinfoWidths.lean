/- For every operator, width, value and list of operand widths, Width returns what the reference returns, and the examples of the document hold. Conditions: none beyond the kinds of the numbers. -/
import Derived.Test.YtpdnbcablofgiaaFunAll0
import Derived.Test.YtpdnbcablofgiaaQAllx6
import Derived.Test.YtpdnbcablofgiaaStOpinfoWidths
namespace Go.Proofs.Ytpdnbcablofgiaa.Pure
open Go Go.RowKit Go.Proofs.Ytpdnbcablofgiaa.QAll Go.Proofs.YtpdnbcablofgiaaW.PrintWords Go.Proofs.YtpdnbcablofgiaaW.PrintLast Go.Proofs.Ytpdnbcablofgiaa.Bv Go.Proofs.Ytpdnbcablofgiaa.Op
set_option linter.unusedVariables false
set_option linter.unusedSimpArgs false
theorem OpinfoWidths : St.OpinfoWidths := by
  intro op w v l hop hw hv hl
  obtain ⟨x, rfl, hx⟩ := u64_of hv
  refine ⟨1000, ?_⟩
  unfold saturatelaw04_OpinfoWidths.f
  simp only [opinfo_Width_eq hx hl.1 (k := 1000) (by decide), saturateref04_Width_eq hx hl.1 (k := 1000) (by decide), lives_eq, Option.bind_some, if_true]
end Go.Proofs.Ytpdnbcablofgiaa.Pure
