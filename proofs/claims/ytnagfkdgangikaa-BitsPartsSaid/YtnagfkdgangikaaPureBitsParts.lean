/- For all widths, values and indexes, Concat, Extract and Sext return what the reference returns, and the examples of the document hold. Conditions: none beyond the kinds of the numbers. -/
import Derived.Test.YtnagfkdgangikaaFunAll0
import Derived.Test.YtnagfkdgangikaaQAllx6
import Derived.Test.YtnagfkdgangikaaStBitsParts
namespace Go.Proofs.Ytnagfkdgangikaa.Pure
open Go Go.RowKit Go.Proofs.Ytnagfkdgangikaa.QAll Go.Proofs.YtnagfkdgangikaaW.PrintWords Go.Proofs.YtnagfkdgangikaaW.PrintLast Go.Proofs.Ytnagfkdgangikaa.Bv
set_option linter.unusedVariables false
set_option linter.unusedSimpArgs false
theorem BitsParts : St.BitsParts := by
  intro v w low a b hv hw hl ha hb
  obtain ⟨x, rfl, hx⟩ := u64_of ha
  obtain ⟨y, rfl, hy⟩ := u64_of hb
  refine ⟨1000, ?_⟩
  unfold saturatelaw01_BitsParts.f
  have e : ∃ z, bits_Extract.f low w x = some z ∧ saturateref01_Extract.f 1000 low w x = some z := by
    by_cases h : low < 0
    · exact ⟨0, bits_Extract_neg h w x, saturateref01_Extract_neg (by decide) h w x⟩
    · obtain ⟨n, rfl⟩ := Int.eq_ofNat_of_zero_le (by omega : 0 ≤ low)
      exact ⟨_, bits_Extract_eq n w hx, saturateref01_Extract_eq (by decide) n w hx⟩
  obtain ⟨z, e1, e2⟩ := e
  simp only [bits_Concat_eq v w hx hy, saturateref01_Concat_eq (k := 1000) (by decide) v w hx hy, e1, e2, bits_Sext_eq v w hx, saturateref01_Sext_eq (k := 1000) (by decide) v w hx, lives_eq, Option.bind_some, if_true]
end Go.Proofs.Ytnagfkdgangikaa.Pure
