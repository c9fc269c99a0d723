/- Ops returns the 26 operators in increasing order, and the examples of the document hold. -/
import Derived.Test.YtpdnbcablofgiaaFunAll0
import Derived.Test.YtpdnbcablofgiaaQAllx6
namespace Go.Proofs.Ytpdnbcablofgiaa.Pure
open Go Go.RowKit Go.Proofs.Ytpdnbcablofgiaa.QAll Go.Proofs.YtpdnbcablofgiaaW.PrintWords Go.Proofs.YtpdnbcablofgiaaW.PrintLast Go.Proofs.Ytpdnbcablofgiaa.Bv Go.Proofs.Ytpdnbcablofgiaa.Op
set_option linter.unusedVariables false
set_option linter.unusedSimpArgs false
theorem OpinfoOps : saturatelaw04_OpinfoOps.Pure := ⟨1000, by decide +kernel⟩
end Go.Proofs.Ytpdnbcablofgiaa.Pure
