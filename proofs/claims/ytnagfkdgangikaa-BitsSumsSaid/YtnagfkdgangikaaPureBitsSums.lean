/- For every width and all values, Add, Sub, Neg and Mul return what the reference returns, and the examples of the document hold. Conditions: none beyond the kinds of the numbers. -/
import Derived.Test.YtnagfkdgangikaaFunAll0
import Derived.Test.YtnagfkdgangikaaQAllx2
namespace Go.Proofs.Ytnagfkdgangikaa.Pure
open Go Go.RowKit Go.Proofs.Ytnagfkdgangikaa.QAll Go.Proofs.YtnagfkdgangikaaW.PrintWords Go.Proofs.YtnagfkdgangikaaW.PrintLast Go.Proofs.Ytnagfkdgangikaa.Bv
set_option linter.unusedVariables false
set_option linter.unusedSimpArgs false
theorem BitsSums : saturatelaw01_BitsSums.Pure := by
  intro a0 a1 a2 h0 h1 h2
  obtain ⟨x, rfl, hx⟩ := u64_of h1
  obtain ⟨y, rfl, hy⟩ := u64_of h2
  refine ⟨1000, ?_⟩
  unfold saturatelaw01_BitsSums.f
  simp only [bits_Add_eq a0 (x := x) (y := y), saturateref01_Add_eq (k := 1000) (by decide) a0 hx hy, bits_Sub_eq a0 (x := x) hy, saturateref01_Sub_eq (k := 1000) (by decide) a0 hx hy, bits_Neg_eq a0 hx, saturateref01_Neg_eq (k := 1000) (by decide) a0 hx, bits_Mul_eq a0 (x := x) (y := y), saturateref01_Mul_eq (k := 1000) (by decide) a0 hx hy, lives_eq, Option.bind_some, if_true]
end Go.Proofs.Ytnagfkdgangikaa.Pure
