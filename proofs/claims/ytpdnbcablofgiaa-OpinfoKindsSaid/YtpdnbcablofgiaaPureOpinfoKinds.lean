/- For every number of an operator, Arity, Commutes, Leaf and Pattern return what the reference returns, and the examples of the document hold. Conditions: none beyond the kind of the number. -/
import Derived.Test.YtpdnbcablofgiaaFunAll0
import Derived.Test.YtpdnbcablofgiaaQAllx7
namespace Go.Proofs.Ytpdnbcablofgiaa.Pure
open Go Go.RowKit Go.Proofs.Ytpdnbcablofgiaa.QAll Go.Proofs.YtpdnbcablofgiaaW.PrintWords Go.Proofs.YtpdnbcablofgiaaW.PrintLast Go.Proofs.Ytpdnbcablofgiaa.Bv Go.Proofs.Ytpdnbcablofgiaa.Op
set_option linter.unusedVariables false
set_option linter.unusedSimpArgs false
theorem OpinfoKinds : saturatelaw04_OpinfoKinds.Pure := by
  intro op h
  refine ⟨1000, ?_⟩
  unfold saturatelaw04_OpinfoKinds.f
  simp only [opinfo_Arity_eq (k := 1000) (by decide), saturateref04_Arity_eq (k := 1000) (by decide), opinfo_Commutes_eq, saturateref04_Commutes_eq (k := 1000) (by decide), opinfo_Leaf_eq (k := 1000) (by decide), saturateref04_Leaf_eq (k := 1000) (by decide), opinfo_Pattern_eq, saturateref04_Pattern_eq (k := 1000) (by decide), lives_eq, Option.bind_some, beq_self_eq_true, if_true]
end Go.Proofs.Ytpdnbcablofgiaa.Pure
