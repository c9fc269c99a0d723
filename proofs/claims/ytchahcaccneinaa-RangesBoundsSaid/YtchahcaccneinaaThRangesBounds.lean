/- RangesBounds, in plain words: Meet and Join are bounds, and tell Leq. -/
import Derived.Test.YtchahcaccneinaaStRangesBounds
import Derived.Test.YtchahcaccneinaaTr
namespace Go.Proofs.Ytchahcaccneinaa.Th
open Go Go.RowKit Go.Proofs.Ytchahcaccneinaa.Ev Go.Proofs.Ytchahcaccneinaa.Fn Go.Proofs.Ytchahcaccneinaa.Bv
set_option linter.unusedVariables false
set_option linter.unusedSimpArgs false
theorem RangesBounds : St.RangesBounds := by
  intro w a0 a1 b0 b1 _ ha0 _ hb0 _
  obtain ⟨a0, rfl, _⟩ := u64_of ha0
  obtain ⟨b0, rfl, _⟩ := u64_of hb0
  have hM := MM_nn w
  have na := nrm_ok hM (r := ((a0 : Int), a1)) (by exact Int.natCast_nonneg _)
  have nb := nrm_ok hM (r := ((b0 : Int), b1)) (by exact Int.natCast_nonneg _)
  unfold saturatelaw13_RangesBounds.f saturatelaw13_RangesBounds.g
  simp only [saturatelaw13_RangesBounds.p7_eq, ranges_Meet_eq, ranges_Join_eq, ranges_Leq_eq, ranges_Valid_eq, lives_true, Option.bind_some]
  generalize nrm (MM w) ((a0 : Int), a1) = x at *
  generalize nrm (MM w) ((b0 : Int), b1) = y at *
  generalize MM w = M at *
  obtain ⟨x0, x1⟩ := x
  obtain ⟨y0, y1⟩ := y
  simp only at na nb
  have m1 := mn_l x0 y0; have m2 := mn_r x0 y0; have m3 := mn_c x0 y0
  have m4 := mx_l x1 y1; have m5 := mx_r x1 y1; have m6 := mx_c x1 y1
  have m7 := mx_l x0 y0; have m8 := mx_r x0 y0; have m9 := mx_c x0 y0
  have l1 := mn_l x1 y1; have l2 := mn_r x1 y1; have l3 := mn_c x1 y1
  have hj : nrm M (jn (x0, x1) (y0, y1)) = jn (x0, x1) (y0, y1) := nrm_of (by unfold jn; simp only; omega) (by unfold jn; simp only; omega)
  have hjj : ∀ z0 z1 : Int, jn (z0, z1) (z0, z1) = (z0, z1) := fun z0 z1 => by
    have := mn_c z0 z0; have := mx_c z1 z1
    unfold jn; simp only [Prod.mk.injEq]; omega
  rw [hjj, hjj]
  simp only [hj]
  by_cases hm : (mtt (x0, x1) (y0, y1)).1 > (mtt (x0, x1) (y0, y1)).2
  · have ht : nrm M (0, M) = (0, M) := nrm_of hM (Int.le_refl _)
    simp only [if_pos hm]
    unfold mtt at hm
    unfold jn
    simp only at hm
    have e1 : ¬ (y0 ≤ x0 ∧ x1 ≤ y1) := by omega
    have e2 : ¬ (mn x0 y0 = y0 ∧ mx x1 y1 = y1) := by omega
    have e3 : mn x0 y0 ≤ x0 ∧ x1 ≤ mx x1 y1 := by omega
    have e4 : mn x0 y0 ≤ y0 ∧ y1 ≤ mx x1 y1 := by omega
    have e5 : mn x0 y0 ≤ mx x1 y1 ∧ mx x1 y1 ≤ M := by omega
    have e2' : (mn x0 y0 == y0 && (mx x1 y1 == y1 && true)) = false := by
      rw [Bool.eq_false_iff]; intro h; simp at h; exact e2 h
    simp only [e1, e3, e4, e5, e2', ht]
    simp [hM]
  · simp only [if_neg hm]
    have hmt : nrm M (mtt (x0, x1) (y0, y1)) = mtt (x0, x1) (y0, y1) := nrm_of (by omega) (by unfold mtt; simp only; omega)
    simp only [hmt]
    unfold mtt at hm ⊢
    unfold jn
    simp only at hm
    have e3 : mn x0 y0 ≤ x0 ∧ x1 ≤ mx x1 y1 := by omega
    have e4 : mn x0 y0 ≤ y0 ∧ y1 ≤ mx x1 y1 := by omega
    have e5 : mn x0 y0 ≤ mx x1 y1 ∧ mx x1 y1 ≤ M := by omega
    have e6 : mx x0 y0 ≤ mn x1 y1 ∧ mn x1 y1 ≤ M := by omega
    have e7 : x0 ≤ mx x0 y0 ∧ mn x1 y1 ≤ x1 := by omega
    have e8 : y0 ≤ mx x0 y0 ∧ mn x1 y1 ≤ y1 := by omega
    by_cases hl : y0 ≤ x0 ∧ x1 ≤ y1
    · have g1 : mn x0 y0 = y0 := by omega
      have g2 : mx x1 y1 = y1 := by omega
      have g3 : mx x0 y0 = x0 := by omega
      have g4 : mn x1 y1 = x1 := by omega
      simp [g1, g2, g3, g4, hl, na, nb]
    · have e2' : (mn x0 y0 == y0 && (mx x1 y1 == y1 && true)) = false := by
        rw [Bool.eq_false_iff]; intro h; simp at h; omega
      simp only [e3, e4, e5, e6, e7, e8, hl, e2', and_self, decide_true, decide_false]
      simp
end Go.Proofs.Ytchahcaccneinaa.Th
