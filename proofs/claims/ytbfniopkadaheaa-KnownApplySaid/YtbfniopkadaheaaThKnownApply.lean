/- KnownApply, in plain words: the program's Apply on known bits returns what the reference's returns. -/
import Derived.Test.YtbfniopkadaheaaStKnownApply
import Derived.Test.YtbfniopkadaheaaKg
namespace Go.Proofs.Ytbfniopkadaheaa.Th
open Go Go.RowKit Go.Proofs.Ytbfniopkadaheaa.Ev Go.Proofs.Ytbfniopkadaheaa.Fn Go.Proofs.Ytbfniopkadaheaa.Bv
set_option linter.unusedVariables false
set_option linter.unusedSimpArgs false
theorem few_some (a : Int × Int × Int × (Nat × (Nat → Int)) × (Nat × (Nat → Int) × (Nat → Int))) : ∃ b, saturatelaw12_few.f a = some b := by
  unfold saturatelaw12_few.f
  cases decide ((a.2.2.2.1.1 : Int) ≤ 5) <;> exact ⟨_, rfl⟩
theorem KnownApply : St.KnownApply := by
  intro op w x n g m z o _ _ hx0 _ _ _ hz ho
  obtain ⟨x, rfl, hx⟩ := u64_of hx0
  obtain ⟨b, hb⟩ := few_some (op, w, (x : Int), (n, g), (m, z, o))
  unfold saturatelaw12_KnownApply.f
  simp only at hb ⊢
  simp only [apply_prog12 hx n m (nums_of hz) (nums_of ho), apply_ref12 hx n m (nums_of hz) (nums_of ho), lives12_true, hb, Option.bind_some, beq_self_eq_true, Bool.and_self, cond_true]
  cases b <;> rfl
end Go.Proofs.Ytbfniopkadaheaa.Th
