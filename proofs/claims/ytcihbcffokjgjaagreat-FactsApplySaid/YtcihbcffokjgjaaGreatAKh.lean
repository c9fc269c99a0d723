/- Every result is an element of the result's width, and every operator is monotone. -/
import Derived.Test.YtcihbcffokjgjaaGreatAKg
namespace Go.Proofs.YtcihbcffokjgjaaGreat.Fn
open Go Go.RowKit Go.Proofs.YtcihbcffokjgjaaGreat.Ev Go.Proofs.YtcihbcffokjgjaaGreat.Bv
set_option linter.unusedVariables false
set_option linter.unusedSimpArgs false

theorem El.mk' {w : Nat} (hw : w ≤ 64) {k : Nat × Nat} (h1 : k.1 ≤ vmask w) (h2 : k.2 ≤ vmask w) (hd : ∀ i, k.1.testBit i = true → k.2.testBit i = false) : El w k := by
  have hm := vmask_lt hw
  have l1 : k.1 < U64 := Nat.lt_of_le_of_lt h1 hm
  have l2 : k.2 < U64 := Nat.lt_of_le_of_lt h2 hm
  refine ⟨l1, l2, (kok_iff hw l1 l2).2 ⟨bits_ext fun i => ?_, h1, h2⟩⟩
  have := hd i
  rw [Nat.testBit_and, Nat.zero_testBit]
  revert this; cases k.1.testBit i <;> cases k.2.testBit i <;> decide
theorem el_top {w : Nat} (hw : w ≤ 64) : El w (0, 0) := El.mk' hw (Nat.zero_le _) (Nat.zero_le _) (fun i h => by simp at h)
theorem and_le_mask {w x y : Nat} (h : x ≤ vmask w) : x &&& y ≤ vmask w := Nat.le_trans Nat.and_le_left h
theorem vmask_mono {m n : Nat} (h : m ≤ n) : vmask m ≤ vmask n := by have := Nat.pow_le_pow_right (n := 2) (by decide) h; unfold vmask; omega
theorem uFG {v x : Nat} {k : Nat × Nat} (hk : El v k) (op : Int) (i : Nat) : uF op x v k i = true → uG op x v k i = false := by
  have h1 := hk.dis (i + x)
  have h2 := hk.dis i
  have h3 := hk.dis (v - 1)
  unfold uF uG
  split
  · exact h1
  · split
    · exact h2
    · split
      · exact h3
      · intro _; rfl
theorem el_una {op : Int} {r x v : Nat} {k : Nat × Nat} (hk : El v k) (v2 : v ≤ 64) (r2 : r ≤ 64) (hr : op = 3 ∨ op = 4 → r = v) : El r (kunaS op r x v k) := by
  unfold kunaS
  split
  · obtain rfl := hr (by omega)
    exact El.mk' v2 (hk.m2 v2) (hk.m1 v2) (fun i h => by
      have := hk.dis i
      revert this h; cases k.1.testBit i <;> cases k.2.testBit i <;> simp)
  · split
    · obtain rfl := hr (by omega)
      exact el_sum v2 _ _ _
    · exact El.of_bits r2 fun i _ => uFG hk op i
theorem el_bin {op : Int} {r v u : Nat} {a b : Nat × Nat} (h5 : 5 ≤ op) (h20 : op ≤ 20) (h19 : op ≠ 19) (ha : El v a) (hb : El u b) (v1 : 1 ≤ v) (v2 : v ≤ 64) (u2 : u ≤ 64) (r1 : 1 ≤ r) (r2 : r ≤ 64) (hu : op ≠ 20 → u = v) (hr : 5 ≤ op ∧ op ≤ 15 → r = v) (hr1 : op = 16 → r = 1) (hr20 : op = 20 → r = v + u) : El r (kbinS op r v u a b) := by
  unfold kbinS
  split
  · obtain rfl := hu (by omega)
    obtain rfl := hr (by omega)
    refine El.mk' v2 (or_le_mask.2 ⟨ha.m1 v2, hb.m1 v2⟩) (and_le_mask (ha.m2 v2)) fun i => ?_
    have h1 := ha.dis i
    have h2 := hb.dis i
    simp only [Nat.testBit_or, Nat.testBit_and]
    revert h1 h2; cases a.1.testBit i <;> cases a.2.testBit i <;> cases b.1.testBit i <;> cases b.2.testBit i <;> decide
  · split
    · obtain rfl := hu (by omega)
      obtain rfl := hr (by omega)
      refine El.mk' v2 (and_le_mask (ha.m1 v2)) (or_le_mask.2 ⟨ha.m2 v2, hb.m2 v2⟩) fun i => ?_
      have h1 := ha.dis i
      have h2 := hb.dis i
      simp only [Nat.testBit_or, Nat.testBit_and]
      revert h1 h2; cases a.1.testBit i <;> cases a.2.testBit i <;> cases b.1.testBit i <;> cases b.2.testBit i <;> decide
    · split
      · obtain rfl := hu (by omega)
        obtain rfl := hr (by omega)
        refine El.mk' v2 (or_le_mask.2 ⟨and_le_mask (ha.m1 v2), and_le_mask (ha.m2 v2)⟩) (or_le_mask.2 ⟨and_le_mask (ha.m1 v2), and_le_mask (ha.m2 v2)⟩) fun i => ?_
        have h1 := ha.dis i
        have h2 := hb.dis i
        simp only [Nat.testBit_or, Nat.testBit_and]
        revert h1 h2; cases a.1.testBit i <;> cases a.2.testBit i <;> cases b.1.testBit i <;> cases b.2.testBit i <;> decide
      · split
        · obtain rfl := hr (by omega); exact el_sum v2 _ _ _
        · split
          · obtain rfl := hr (by omega); exact el_sum v2 _ _ _
          · split
            · obtain rfl := hr20 (by omega)
              unfold kconS
              rw [concat_bld r2 _ _ (lt_of_le_mask (ha.m1 v2)) (lt_of_le_mask (hb.m1 u2)), concat_bld r2 _ _ (lt_of_le_mask (ha.m2 v2)) (lt_of_le_mask (hb.m2 u2))]
              exact El.of_bits r2 fun i _ => cFG ha hb i
            · split
              · obtain rfl := hr1 (by omega)
                unfold keqS
                split
                · exact el_cst (by decide) (by decide) _
                · split
                  · exact el_cst (by decide) (by decide) _
                  · exact el_top (by decide)
              · split
                · obtain rfl := hr (by omega)
                  split
                  · exact el_sh ha v2 _
                  · exact el_top v2
                · split
                  · obtain rfl := hr (by omega)
                    unfold ktimS
                    split
                    · exact el_cst v1 v2 _
                    · exact El.mk' v2 (vmask_mono (Nat.min_le_left _ _)) (Nat.zero_le _) (fun i _ => Nat.zero_testBit i)
                  · unfold kexS
                    split
                    · exact el_cst r1 r2 _
                    · split
                      · obtain rfl := hr (by omega)
                        exact el_rem ha v2
                      · exact el_top r2
theorem el_ite {r : Nat} {c a b : Nat × Nat} (r2 : r ≤ 64) (ha : El r a) (hb : El r b) : El r (kiteS c a b) := by
  unfold kiteS
  split
  · split
    · exact ha
    · exact hb
  · refine El.mk' r2 (and_le_mask (ha.m1 r2)) (and_le_mask (ha.m2 r2)) fun i => ?_
    have h1 := ha.dis i
    simp only [Nat.testBit_and]
    revert h1; cases a.1.testBit i <;> cases a.2.testBit i <;> cases b.1.testBit i <;> cases b.2.testBit i <;> decide

/-! ### monotone -/
end Go.Proofs.YtcihbcffokjgjaaGreat.Fn
