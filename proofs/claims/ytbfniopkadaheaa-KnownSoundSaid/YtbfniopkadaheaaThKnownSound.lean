/- KnownSound, in plain words: if every operand's element contains its value, Apply's element contains the operator's value. -/
import Derived.Test.YtbfniopkadaheaaStKnownSound
import Derived.Test.YtbfniopkadaheaaKn
namespace Go.Proofs.Ytbfniopkadaheaa.Th
open Go Go.RowKit Go.Proofs.Ytbfniopkadaheaa.Ev Go.Proofs.Ytbfniopkadaheaa.Fn Go.Proofs.Ytbfniopkadaheaa.Bv
set_option linter.unusedVariables false
set_option linter.unusedSimpArgs false
set_option maxRecDepth 100000
theorem few_some (a : Int × Int × Int × (Nat × (Nat → Int)) × (Nat × (Nat → Int) × (Nat → Int))) : ∃ b, saturatelaw12_few.f a = some b := by
  unfold saturatelaw12_few.f
  cases decide ((a.2.2.2.1.1 : Int) ≤ 5) <;> exact ⟨_, rfl⟩
theorem KnownSound : St.KnownSound := by
  intro op w x n g m z o N y _ _ hx0 _ _ _ hz ho _ hy
  obtain ⟨x, rfl, hx⟩ := u64_of hx0
  obtain ⟨b, hb⟩ := few_some (op, w, (x : Int), (n, g), (m, z, o))
  have nz := nums_of hz
  have no := nums_of ho
  have ny := nums_of hy
  unfold saturatelaw12_KnownSound.f
  have hfu : 1000 < fuel0 + 1 := by unfold fuel0; omega
  generalize fuel0 + 1 = fu at *
  unfold saturatelaw12_KnownSound.g
  simp only at hb ⊢
  rw [hb, Option.bind_some, lives12_true, Option.bind_some]
  cases b with
  | false => rfl
  | true =>
    rw [Bool.not_true, cond_false]
    by_cases hN : N = m
    · subst hN
      rw [show ((N : Int) != (N : Int)) = false from bne_self_eq_false _, cond_false]
      by_cases h1 : op = 1
      · rw [show (op == 1) = true by rw [beq_iff_eq]; exact h1, cond_true]
      · rw [show (op == 1) = false by rw [beq_eq_false_iff_ne]; exact h1, cond_false, apply_prog12 hx n N nz no, Option.bind_some, saturateref12_Refused_eq hx, Option.bind_some]
        unfold kresS
        by_cases hc : (chkS op w x n N g).2 ≠ 0
        · rw [if_pos hc]
          simp only
          rw [show ((chkS op w x n N g).2 != (chkS op w x n N g).2) = false from bne_self_eq_false _, cond_false, show ((chkS op w x n N g).2 != 0) = true by rw [bne_iff_ne]; exact hc, cond_true]
        · have hc0 := Decidable.not_not.1 hc
          rw [if_neg hc]
          simp only
          rw [hc0, show ((0 : Int) != 0) = false from rfl, cond_false, cond_false]
          obtain ⟨rfl, hn, _, _, hg, r, hr, r1, r2, hcas⟩ := chk_cas hc0
          have := sound_j10 fu op w h1 hx nz no ny hc0 hr N fu 0 rfl (by omega) (by omega) (fun j hj => by omega)
          rw [hr, Int.toNat_natCast]
          exact this
    · rw [show ((N : Int) != (m : Int)) = true by rw [bne_iff_ne]; omega, cond_true]
end Go.Proofs.Ytbfniopkadaheaa.Th
