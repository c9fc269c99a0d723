/- FactsOf, in plain words: the facts of a term, or the error of its check, are the reference's. -/
import Derived.Test.YtcihbcffokjgjaaGreatOStFactsOf
import Derived.Test.YtcihbcffokjgjaaGreatOFl
namespace Go.Proofs.YtcihbcffokjgjaaGreat.Th
open Go Go.RowKit Go.Proofs.YtcihbcffokjgjaaGreat.Ev Go.Proofs.YtcihbcffokjgjaaGreat.Fn Go.Proofs.YtcihbcffokjgjaaGreat.Bv
set_option linter.unusedVariables false
set_option linter.unusedSimpArgs false
set_option maxRecDepth 100000
theorem of_abs (v : Unit → Option Bool) {e} (hv : v () = some true) (fu : Nat) {t : Tm} (hw : wfT t) : saturatelaw14_FactsOf.gv v e fu t = some true := by
  unfold saturatelaw14_FactsOf.gv
  obtain ⟨b, h1, h2⟩ := light_eq hw
  rw [Tm.eta', h1, Option.bind_some]
  cases b with
  | false => rw [Bool.not_false, cond_true, hv]; rfl
  | true =>
    have ok := h2 rfl
    rw [Bool.not_true, cond_false, of_prog ok, of_ref ok, hv]
    simp only [Option.bind_some, beq_self_eq_true, Bool.and_self, cond_true]
theorem FactsOf : St.FactsOf := by
  intro t hw
  have q := @of_abs (fun a => saturatelaw14_lives.f) ⟨saturatelaw14_lives.con⟩ lives14_true (fuel0 + 1) t hw
  delta saturatelaw14_FactsOf.f
  exact q
end Go.Proofs.YtcihbcffokjgjaaGreat.Th
