/- KnownBest, in plain words: for the operators that are promised to be best, Apply returns the join of all values' elements. -/
import Derived.Test.YtbfniopkadaheaaStKnownBest
import Derived.Test.YtbfniopkadaheaaKq
namespace Go.Proofs.Ytbfniopkadaheaa.Th
open Go Go.RowKit Go.Proofs.Ytbfniopkadaheaa.Ev Go.Proofs.Ytbfniopkadaheaa.Fn Go.Proofs.Ytbfniopkadaheaa.Bv
set_option linter.unusedVariables false
set_option linter.unusedSimpArgs false
set_option maxRecDepth 100000
theorem few_some (a : Int × Int × Int × (Nat × (Nat → Int)) × (Nat × (Nat → Int) × (Nat → Int))) : ∃ b, saturatelaw12_few.f a = some b := by
  unfold saturatelaw12_few.f
  cases decide ((a.2.2.2.1.1 : Int) ≤ 5) <;> exact ⟨_, rfl⟩
theorem KnownBest : St.KnownBest := by
  intro op w x n g m z o _ _ hx0 _ _ _ hz ho
  obtain ⟨x, rfl, hx⟩ := u64_of hx0
  obtain ⟨b, hb⟩ := few_some (op, w, (x : Int), (n, g), (m, z, o))
  have nz := nums_of hz
  have no := nums_of ho
  unfold saturatelaw12_KnownBest.f
  have hfu : ∃ fu, fuel0 + 1 = fu + 1000 := ⟨fuel0 - 999, by unfold fuel0; omega⟩
  obtain ⟨fu, hfu⟩ := hfu
  rw [hfu]
  clear hfu
  unfold saturatelaw12_KnownBest.g
  simp only at hb ⊢
  rw [saturateref12_Refused_eq hx, Option.bind_some, hb, Option.bind_some, lives12_true, Option.bind_some]
  by_cases hc : (chkS op w x n m g).2 ≠ 0
  · rw [show ((chkS op w x n m g).2 != 0) = true by rw [bne_iff_ne]; exact hc, cond_true]
  · have hc0 := Decidable.not_not.1 hc
    rw [show ((chkS op w x n m g).2 != 0) = false by rw [bne_eq_false_iff_eq]; exact hc0, cond_false]
    obtain ⟨rfl, hn, _, _, hg, r, hr, r1, r2, hcas⟩ := chk_cas hc0
    by_cases h0 : m = 0
    · subst h0; rfl
    · rw [show ((m : Int) == 0) = false by rw [beq_eq_false_iff_ne]; omega, cond_false]
      cases b with
      | false => rfl
      | true =>
        rw [Bool.not_true, cond_false]
        obtain ⟨b2, hb2, hbest⟩ := best_eq nz no hc0
        rw [hb2, Option.bind_some]
        cases b2 with
        | false => rfl
        | true =>
          rw [Bool.not_true, cond_false, hr]
          have h1 : op ≠ 1 := by
            rintro rfl
            rcases hcas with ⟨_, q⟩ | ⟨q, _⟩ | ⟨q, _⟩ | ⟨q, _⟩ | ⟨q, _⟩ | ⟨q, _⟩ | ⟨q, _⟩
            · exact h0 q
            all_goals omega
          exact best_j6 fu h1 hx nz no h0 hc0 hr (hbest rfl) m (fu + 1000) 0 rfl (by omega) (by omega) (by simp [Sof])
end Go.Proofs.Ytbfniopkadaheaa.Th
