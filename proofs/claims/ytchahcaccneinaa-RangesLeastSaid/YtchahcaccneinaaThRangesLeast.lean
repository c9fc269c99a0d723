/- RangesLeast, in plain words: Join is the least range that contains both, Meet the greatest that both contain. -/
import Derived.Test.YtchahcaccneinaaStRangesLeast
import Derived.Test.YtchahcaccneinaaTr
namespace Go.Proofs.Ytchahcaccneinaa.Th
open Go Go.RowKit Go.Proofs.Ytchahcaccneinaa.Ev Go.Proofs.Ytchahcaccneinaa.Fn Go.Proofs.Ytchahcaccneinaa.Bv
set_option linter.unusedVariables false
set_option linter.unusedSimpArgs false
theorem RangesLeast : St.RangesLeast := by
  intro w a0 a1 b0 b1 c0 c1 v _ ha0 _ hb0 _ hc0 _ hv0
  obtain ⟨a0, rfl, _⟩ := u64_of ha0
  obtain ⟨b0, rfl, _⟩ := u64_of hb0
  obtain ⟨c0, rfl, _⟩ := u64_of hc0
  obtain ⟨v, rfl, hv⟩ := u64_of hv0
  have hM := MM_nn w
  have na := nrm_ok hM (r := ((a0 : Int), a1)) (by exact Int.natCast_nonneg _)
  have nb := nrm_ok hM (r := ((b0 : Int), b1)) (by exact Int.natCast_nonneg _)
  have nc := nrm_ok hM (r := ((c0 : Int), c1)) (by exact Int.natCast_nonneg _)
  unfold saturatelaw13_RangesLeast.f saturatelaw13_RangesLeast.g
  simp only [saturatelaw13_RangesLeast.p7_eq, saturatelaw13_RangesLeast.p5_eq, ranges_Meet_eq, ranges_Join_eq, ranges_Leq_eq, ranges_Has_eq w _ hv, lives_true, Option.bind_some]
  generalize nrm (MM w) ((a0 : Int), a1) = x at *
  generalize nrm (MM w) ((b0 : Int), b1) = y at *
  generalize nrm (MM w) ((c0 : Int), c1) = z at *
  generalize MM w = M at *
  generalize (vcut (W w) v : Int) = q at *
  obtain ⟨x0, x1⟩ := x
  obtain ⟨y0, y1⟩ := y
  obtain ⟨z0, z1⟩ := z
  simp only at na nb nc
  have m1 := mn_l x0 y0; have m2 := mn_r x0 y0; have m3 := mn_c x0 y0
  have m4 := mx_l x1 y1; have m5 := mx_r x1 y1; have m6 := mx_c x1 y1
  have m7 := mx_l x0 y0; have m8 := mx_r x0 y0; have m9 := mx_c x0 y0
  have l1 := mn_l x1 y1; have l2 := mn_r x1 y1; have l3 := mn_c x1 y1
  have hj : nrm M (jn (x0, x1) (y0, y1)) = jn (x0, x1) (y0, y1) := nrm_of (by unfold jn; simp only; omega) (by unfold jn; simp only; omega)
  simp only [hj]
  by_cases hm : (mtt (x0, x1) (y0, y1)).1 > (mtt (x0, x1) (y0, y1)).2
  · simp only [if_pos hm]
    unfold mtt at hm
    unfold jn
    simp only at hm ⊢
    have k1 : ¬ ((x0 ≤ z0 ∧ z1 ≤ x1) ∧ (y0 ≤ z0 ∧ z1 ≤ y1)) := by omega
    have k2 : ¬ ((x0 ≤ q ∧ q ≤ x1) ∧ (y0 ≤ q ∧ q ≤ y1)) := by omega
    have k3 : (z0 ≤ x0 ∧ x1 ≤ z1) → (z0 ≤ y0 ∧ y1 ≤ z1) → (z0 ≤ mn x0 y0 ∧ mx x1 y1 ≤ z1) := by omega
    by_cases b1 : z0 ≤ x0 ∧ x1 ≤ z1 <;> by_cases b2 : z0 ≤ y0 ∧ y1 ≤ z1 <;> by_cases b3 : x0 ≤ z0 ∧ z1 ≤ x1 <;> by_cases b4 : y0 ≤ z0 ∧ z1 ≤ y1 <;> by_cases b5 : x0 ≤ q ∧ q ≤ x1 <;> by_cases b6 : y0 ≤ q ∧ q ≤ y1 <;>
      first
      | (exfalso; omega)
      | (have k4 := k3 b1 b2; simp only [b1, b2, k4, b3, b4, b5, b6, and_self, and_true, and_false, true_and, false_and, decide_true, decide_false, cond_true, cond_false, Bool.not_true, Bool.not_false, beq_self_eq_true]; done)
      | (simp only [b1, b2, b3, b4, b5, b6, and_self, and_true, and_false, true_and, false_and, decide_true, decide_false, cond_true, cond_false, Bool.not_true, Bool.not_false, beq_self_eq_true]; done)
  · simp only [if_neg hm]
    have hmt : nrm M (mtt (x0, x1) (y0, y1)) = mtt (x0, x1) (y0, y1) := nrm_of (by omega) (by unfold mtt; simp only; omega)
    simp only [hmt]
    unfold mtt at hm ⊢
    unfold jn
    simp only at hm ⊢
    have k1 : (x0 ≤ z0 ∧ z1 ≤ x1) → (y0 ≤ z0 ∧ z1 ≤ y1) → (mx x0 y0 ≤ z0 ∧ z1 ≤ mn x1 y1) := by omega
    have k2 : (mx x0 y0 ≤ q ∧ q ≤ mn x1 y1) ↔ ((x0 ≤ q ∧ q ≤ x1) ∧ (y0 ≤ q ∧ q ≤ y1)) := by omega
    have k3 : (z0 ≤ x0 ∧ x1 ≤ z1) → (z0 ≤ y0 ∧ y1 ≤ z1) → (z0 ≤ mn x0 y0 ∧ mx x1 y1 ≤ z1) := by omega
    simp only [k2]
    by_cases b1 : z0 ≤ x0 ∧ x1 ≤ z1 <;> by_cases b2 : z0 ≤ y0 ∧ y1 ≤ z1 <;> by_cases b3 : x0 ≤ z0 ∧ z1 ≤ x1 <;> by_cases b4 : y0 ≤ z0 ∧ z1 ≤ y1 <;> by_cases b5 : x0 ≤ q ∧ q ≤ x1 <;> by_cases b6 : y0 ≤ q ∧ q ≤ y1 <;>
      first
      | (exfalso; omega)
      | (have k4 := k3 b1 b2; have k5 := k1 b3 b4; simp only [b1, b2, b3, b4, b5, b6, k4, k5, and_self, and_true, and_false, true_and, false_and, decide_true, decide_false, cond_true, cond_false, Bool.not_true, Bool.not_false, beq_self_eq_true]; done)
      | (have k4 := k3 b1 b2; simp only [b1, b2, b3, b4, b5, b6, k4, and_self, and_true, and_false, true_and, false_and, decide_true, decide_false, cond_true, cond_false, Bool.not_true, Bool.not_false, beq_self_eq_true]; done)
      | (have k5 := k1 b3 b4; simp only [b1, b2, b3, b4, b5, b6, k5, and_self, and_true, and_false, true_and, false_and, decide_true, decide_false, cond_true, cond_false, Bool.not_true, Bool.not_false, beq_self_eq_true]; done)
      | (simp only [b1, b2, b3, b4, b5, b6, and_self, and_true, and_false, true_and, false_and, decide_true, decide_false, cond_true, cond_false, Bool.not_true, Bool.not_false, beq_self_eq_true]; done)
end Go.Proofs.Ytchahcaccneinaa.Th
