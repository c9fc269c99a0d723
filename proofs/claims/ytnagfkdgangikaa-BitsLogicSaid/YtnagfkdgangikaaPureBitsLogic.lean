/- For every width and all values, Not, And, Or and Xor return what the reference returns, and the examples of the document hold. Conditions: none beyond the kinds of the numbers. -/
import Derived.Test.YtnagfkdgangikaaFunAll0
import Derived.Test.YtnagfkdgangikaaQAllx4
namespace Go.Proofs.Ytnagfkdgangikaa.Pure
open Go Go.RowKit Go.Proofs.Ytnagfkdgangikaa.QAll Go.Proofs.YtnagfkdgangikaaW.PrintWords Go.Proofs.YtnagfkdgangikaaW.PrintLast Go.Proofs.Ytnagfkdgangikaa.Bv
set_option linter.unusedVariables false
set_option linter.unusedSimpArgs false
theorem BitsLogic : saturatelaw01_BitsLogic.Pure := by
  intro a0 a1 a2 h0 h1 h2
  obtain ⟨x, rfl, hx⟩ := u64_of h1
  obtain ⟨y, rfl, hy⟩ := u64_of h2
  refine ⟨1000, ?_⟩
  unfold saturatelaw01_BitsLogic.f
  simp only [bits_Not_eq a0 hx, saturateref01_Not_eq (k := 1000) (by decide) a0 hx, bits_And_eq a0 hx hy, saturateref01_And_eq (k := 1000) (by decide) a0 hx hy, bits_Or_eq a0 hx hy, saturateref01_Or_eq (k := 1000) (by decide) a0 hx hy, bits_Xor_eq a0 hx hy, saturateref01_Xor_eq (k := 1000) (by decide) a0 hx hy, lives_eq, Option.bind_some, if_true]
end Go.Proofs.Ytnagfkdgangikaa.Pure
