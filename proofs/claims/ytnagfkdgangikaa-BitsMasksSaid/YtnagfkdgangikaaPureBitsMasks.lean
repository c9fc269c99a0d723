/- For every width and every value, Mask, Cut and Signed return what the reference returns, and the examples of the document hold. Conditions: none beyond the kinds of the numbers. -/
import Derived.Test.YtnagfkdgangikaaFunAll0
import Derived.Test.YtnagfkdgangikaaQAllx2
namespace Go.Proofs.Ytnagfkdgangikaa.Pure
open Go Go.RowKit Go.Proofs.Ytnagfkdgangikaa.QAll Go.Proofs.YtnagfkdgangikaaW.PrintWords Go.Proofs.YtnagfkdgangikaaW.PrintLast Go.Proofs.Ytnagfkdgangikaa.Bv
set_option linter.unusedVariables false
set_option linter.unusedSimpArgs false
theorem BitsMasks : saturatelaw01_BitsMasks.Pure := by
  intro a0 a1 h0 h1
  obtain ⟨x, rfl, hx⟩ := u64_of h1
  refine ⟨1000, ?_⟩
  unfold saturatelaw01_BitsMasks.f
  simp only [bits_Mask_eq, saturateref01_Mask_eq (k := 1000) (by decide), bits_Cut_eq a0 hx, saturateref01_Cut_eq (k := 1000) (by decide) a0 hx, bits_Signed_eq a0 hx, saturateref01_Signed_eq (k := 1000) (by decide) a0 hx, lives_eq, Option.bind_some, if_true]
end Go.Proofs.Ytnagfkdgangikaa.Pure
