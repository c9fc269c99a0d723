/- For every width and all values, Eq, Ult and Slt return what the reference returns, and the examples of the document hold. Conditions: none beyond the kinds of the numbers. -/
import Derived.Test.YtnagfkdgangikaaFunAll0
import Derived.Test.YtnagfkdgangikaaQAllx3
namespace Go.Proofs.Ytnagfkdgangikaa.Pure
open Go Go.RowKit Go.Proofs.Ytnagfkdgangikaa.QAll Go.Proofs.YtnagfkdgangikaaW.PrintWords Go.Proofs.YtnagfkdgangikaaW.PrintLast Go.Proofs.Ytnagfkdgangikaa.Bv
set_option linter.unusedVariables false
set_option linter.unusedSimpArgs false
theorem BitsCompares : saturatelaw01_BitsCompares.Pure := by
  intro a0 a1 a2 h0 h1 h2
  obtain ⟨x, rfl, hx⟩ := u64_of h1
  obtain ⟨y, rfl, hy⟩ := u64_of h2
  refine ⟨1000, ?_⟩
  unfold saturatelaw01_BitsCompares.f
  simp only [bits_Eq_eq a0 hx hy, saturateref01_Eq_eq (k := 1000) (by decide) a0 hx hy, bits_Ult_eq a0 hx hy, saturateref01_Ult_eq (k := 1000) (by decide) a0 hx hy, bits_Slt_eq a0 hx hy, saturateref01_Slt_eq (k := 1000) (by decide) a0 hx hy, lives_eq, Option.bind_some, if_true]
end Go.Proofs.Ytnagfkdgangikaa.Pure
