/- RangesApply, in plain words: the program's Apply returns what the reference's returns. -/
import Derived.Test.YtchahcaccneinaaStRangesApply
import Derived.Test.YtchahcaccneinaaTz
namespace Go.Proofs.Ytchahcaccneinaa.Th
open Go Go.RowKit Go.Proofs.Ytchahcaccneinaa.Ev Go.Proofs.Ytchahcaccneinaa.Fn Go.Proofs.Ytchahcaccneinaa.Bv
set_option linter.unusedVariables false
set_option linter.unusedSimpArgs false
theorem RangesApply : St.RangesApply := by
  intro op w x n g m lo hi _ _ hx0 _ _ _ hlo _
  obtain ⟨x, rfl, hx⟩ := u64_of hx0
  have hl : ∀ i, 0 ≤ lo i := fun i => by obtain ⟨y, hy, _⟩ := u64_of (hlo i); omega
  unfold saturatelaw13_RangesApply.f
  simp only [apply_prog hx n m g lo hi hl, apply_ref hx n m g lo hi hl, lives_true, Option.bind_some, beq_self_eq_true, Bool.and_self, cond_true]
end Go.Proofs.Ytchahcaccneinaa.Th
