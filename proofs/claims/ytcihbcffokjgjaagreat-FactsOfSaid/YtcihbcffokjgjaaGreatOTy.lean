/- Every result is an element of the result's width, and every operator is monotone. Results of Apply: elements, and monotone; the law's loop over joins. The checks ahead of Apply, by the program and by the reference: one specification that both meet; and what Apply does after them, with the loop over the operands worked out. The result of each operator on ranges: one specification that program and reference both meet. -/
import Derived.Test.YtcihbcffokjgjaaGreatOKg
import Derived.Test.YtcihbcffokjgjaaGreatOF10
import Derived.Test.YtcihbcffokjgjaaGreatOF11
import Derived.Test.YtcihbcffokjgjaaGreatOF3
import Derived.Test.YtcihbcffokjgjaaGreatOF12
import Derived.Test.YtcihbcffokjgjaaGreatOTr
namespace Go.Proofs.YtcihbcffokjgjaaGreat.Fn
open Go Go.RowKit Go.Proofs.YtcihbcffokjgjaaGreat.Ev Go.Proofs.YtcihbcffokjgjaaGreat.Bv
set_option linter.unusedVariables false
set_option linter.unusedSimpArgs false
theorem El.mk' {w : Nat} (hw : w ≤ 64) {k : Nat × Nat} (h1 : k.1 ≤ vmask w) (h2 : k.2 ≤ vmask w) (hd : ∀ i, k.1.testBit i = true → k.2.testBit i = false) : El w k := by
  have hm := vmask_lt hw
  have l1 : k.1 < U64 := Nat.lt_of_le_of_lt h1 hm
  have l2 : k.2 < U64 := Nat.lt_of_le_of_lt h2 hm
  refine ⟨l1, l2, (kok_iff hw l1 l2).2 ⟨bits_ext fun i => ?_, h1, h2⟩⟩
  have := hd i
  rw [Nat.testBit_and, Nat.zero_testBit]
  revert this; cases k.1.testBit i <;> cases k.2.testBit i <;> decide
theorem el_top {w : Nat} (hw : w ≤ 64) : El w (0, 0) := El.mk' hw (Nat.zero_le _) (Nat.zero_le _) (fun i h => by simp at h)
theorem and_le_mask {w x y : Nat} (h : x ≤ vmask w) : x &&& y ≤ vmask w := Nat.le_trans Nat.and_le_left h
theorem vmask_mono {m n : Nat} (h : m ≤ n) : vmask m ≤ vmask n := by have := Nat.pow_le_pow_right (n := 2) (by decide) h; unfold vmask; omega
theorem uFG {v x : Nat} {k : Nat × Nat} (hk : El v k) (op : Int) (i : Nat) : uF op x v k i = true → uG op x v k i = false := by
  have h1 := hk.dis (i + x)
  have h2 := hk.dis i
  have h3 := hk.dis (v - 1)
  unfold uF uG
  split
  · exact h1
  · split
    · exact h2
    · split
      · exact h3
      · intro _; rfl
theorem el_una {op : Int} {r x v : Nat} {k : Nat × Nat} (hk : El v k) (v2 : v ≤ 64) (r2 : r ≤ 64) (hr : op = 3 ∨ op = 4 → r = v) : El r (kunaS op r x v k) := by
  unfold kunaS
  split
  · obtain rfl := hr (by omega)
    exact El.mk' v2 (hk.m2 v2) (hk.m1 v2) (fun i h => by
      have := hk.dis i
      revert this h; cases k.1.testBit i <;> cases k.2.testBit i <;> simp)
  · split
    · obtain rfl := hr (by omega)
      exact el_sum v2 _ _ _
    · exact El.of_bits r2 fun i _ => uFG hk op i
theorem el_bin {op : Int} {r v u : Nat} {a b : Nat × Nat} (h5 : 5 ≤ op) (h20 : op ≤ 20) (h19 : op ≠ 19) (ha : El v a) (hb : El u b) (v1 : 1 ≤ v) (v2 : v ≤ 64) (u2 : u ≤ 64) (r1 : 1 ≤ r) (r2 : r ≤ 64) (hu : op ≠ 20 → u = v) (hr : 5 ≤ op ∧ op ≤ 15 → r = v) (hr1 : op = 16 → r = 1) (hr20 : op = 20 → r = v + u) : El r (kbinS op r v u a b) := by
  unfold kbinS
  split
  · obtain rfl := hu (by omega)
    obtain rfl := hr (by omega)
    refine El.mk' v2 (or_le_mask.2 ⟨ha.m1 v2, hb.m1 v2⟩) (and_le_mask (ha.m2 v2)) fun i => ?_
    have h1 := ha.dis i
    have h2 := hb.dis i
    simp only [Nat.testBit_or, Nat.testBit_and]
    revert h1 h2; cases a.1.testBit i <;> cases a.2.testBit i <;> cases b.1.testBit i <;> cases b.2.testBit i <;> decide
  · split
    · obtain rfl := hu (by omega)
      obtain rfl := hr (by omega)
      refine El.mk' v2 (and_le_mask (ha.m1 v2)) (or_le_mask.2 ⟨ha.m2 v2, hb.m2 v2⟩) fun i => ?_
      have h1 := ha.dis i
      have h2 := hb.dis i
      simp only [Nat.testBit_or, Nat.testBit_and]
      revert h1 h2; cases a.1.testBit i <;> cases a.2.testBit i <;> cases b.1.testBit i <;> cases b.2.testBit i <;> decide
    · split
      · obtain rfl := hu (by omega)
        obtain rfl := hr (by omega)
        refine El.mk' v2 (or_le_mask.2 ⟨and_le_mask (ha.m1 v2), and_le_mask (ha.m2 v2)⟩) (or_le_mask.2 ⟨and_le_mask (ha.m1 v2), and_le_mask (ha.m2 v2)⟩) fun i => ?_
        have h1 := ha.dis i
        have h2 := hb.dis i
        simp only [Nat.testBit_or, Nat.testBit_and]
        revert h1 h2; cases a.1.testBit i <;> cases a.2.testBit i <;> cases b.1.testBit i <;> cases b.2.testBit i <;> decide
      · split
        · obtain rfl := hr (by omega); exact el_sum v2 _ _ _
        · split
          · obtain rfl := hr (by omega); exact el_sum v2 _ _ _
          · split
            · obtain rfl := hr20 (by omega)
              unfold kconS
              rw [concat_bld r2 _ _ (lt_of_le_mask (ha.m1 v2)) (lt_of_le_mask (hb.m1 u2)), concat_bld r2 _ _ (lt_of_le_mask (ha.m2 v2)) (lt_of_le_mask (hb.m2 u2))]
              exact El.of_bits r2 fun i _ => cFG ha hb i
            · split
              · obtain rfl := hr1 (by omega)
                unfold keqS
                split
                · exact el_cst (by decide) (by decide) _
                · split
                  · exact el_cst (by decide) (by decide) _
                  · exact el_top (by decide)
              · split
                · obtain rfl := hr (by omega)
                  split
                  · exact el_sh ha v2 _
                  · exact el_top v2
                · split
                  · obtain rfl := hr (by omega)
                    unfold ktimS
                    split
                    · exact el_cst v1 v2 _
                    · exact El.mk' v2 (vmask_mono (Nat.min_le_left _ _)) (Nat.zero_le _) (fun i _ => Nat.zero_testBit i)
                  · unfold kexS
                    split
                    · exact el_cst r1 r2 _
                    · split
                      · obtain rfl := hr (by omega)
                        exact el_rem ha v2
                      · exact el_top r2
theorem el_ite {r : Nat} {c a b : Nat × Nat} (r2 : r ≤ 64) (ha : El r a) (hb : El r b) : El r (kiteS c a b) := by
  unfold kiteS
  split
  · split
    · exact ha
    · exact hb
  · refine El.mk' r2 (and_le_mask (ha.m1 r2)) (and_le_mask (ha.m2 r2)) fun i => ?_
    have h1 := ha.dis i
    simp only [Nat.testBit_and]
    revert h1; cases a.1.testBit i <;> cases a.2.testBit i <;> cases b.1.testBit i <;> cases b.2.testBit i <;> decide
end Go.Proofs.YtcihbcffokjgjaaGreat.Fn
namespace Go.Proofs.YtcihbcffokjgjaaGreat.Fn
open Go Go.RowKit Go.Proofs.YtcihbcffokjgjaaGreat.Ev Go.Proofs.YtcihbcffokjgjaaGreat.Bv
set_option linter.unusedVariables false
set_option linter.unusedSimpArgs false
set_option maxRecDepth 100000
def Cas (op : Int) (r x n : Nat) (g : Nat → Int) : Prop :=
  ((op = 1 ∨ op = 2) ∧ n = 0) ∨ ((op = 3 ∨ op = 4) ∧ n = 1 ∧ (r : Int) = g 0) ∨
    ((op = 21 ∨ op = 22 ∨ op = 23) ∧ n = 1 ∧ (op = 21 → (x : Int) + r ≤ g 0) ∧ (op = 22 ∨ op = 23 → g 0 ≤ r)) ∨
    (op = 19 ∧ n = 3 ∧ g 0 = 1 ∧ g 1 = r ∧ g 2 = r) ∨ (op = 20 ∧ n = 2 ∧ (r : Int) = g 0 + g 1) ∨
    ((op = 16 ∨ op = 17 ∨ op = 18) ∧ n = 2 ∧ g 1 = g 0 ∧ (r : Int) = 1) ∨ ((5 ≤ op ∧ op ≤ 15) ∧ n = 2 ∧ g 1 = g 0 ∧ (r : Int) = g 0)
theorem chk_cas {op w : Int} {x n m : Nat} {g : Nat → Int} (h : (chkS op w x n m g).2 = 0) :
    m = n ∧ n ≤ 3 ∧ 1 ≤ op ∧ op ≤ 23 ∧ (∀ i, i < n → 1 ≤ g i ∧ g i ≤ 64) ∧ ∃ r : Nat, (chkS op w x n m g).1 = (r : Int) ∧ 1 ≤ r ∧ r ≤ 64 ∧ Cas op r x n g := by
  obtain ⟨h1, h2, rfl, ha, hg, he, e0, e1⟩ := chkS_ok h
  have ar := arity_in (op := op) (by omega) (by omega)
  obtain ⟨r1, r2, hcases⟩ := widthT_ok h1 h2 ha hg e0 e1
  obtain ⟨r, hr, r1, r2⟩ := nat_of r1 r2
  refine ⟨rfl, by omega, h1, h2, hg, r, by rw [he]; exact hr, r1, r2, ?_⟩
  rw [hr] at hcases
  exact hcases
theorem el_val {op : Int} {r x n : Nat} {g : Nat → Int} {e : Nat → Nat × Nat} (hc : Cas op r x n g) (hg : ∀ i, i < n → 1 ≤ g i ∧ g i ≤ 64) (he : ∀ i, i < n → El (g i).toNat (e i)) (r1 : 1 ≤ r) (r2 : r ≤ 64) : El r (kvalS op r x g e) := by
  unfold kvalS
  rcases hc with ⟨hop, rfl⟩ | ⟨hop, rfl, hr⟩ | ⟨hop, rfl, hr, hr2⟩ | ⟨rfl, rfl, g0, g1, g2⟩ | ⟨rfl, rfl, hr⟩ | ⟨hop, rfl, g1, hr⟩ | ⟨hop, rfl, g1, hr⟩
  · rcases hop with rfl | rfl
    · rw [if_pos rfl]; exact el_top r2
    · rw [if_neg (by decide), if_pos rfl]; exact el_cst r1 r2 _
  · rw [if_neg (by omega), if_neg (by omega), if_neg (by omega), if_pos (by omega)]
    have := hg 0 (by omega)
    exact el_una (he 0 (by omega)) (by omega) r2 (fun _ => by omega)
  · rw [if_neg (by omega), if_neg (by omega), if_neg (by omega), if_pos (by omega)]
    have := hg 0 (by omega)
    exact el_una (he 0 (by omega)) (by omega) r2 (fun h => by omega)
  · rw [if_neg (by decide), if_neg (by decide), if_pos rfl]
    have h1 := he 1 (by omega)
    have h2 := he 2 (by omega)
    rw [show (g 1).toNat = r by omega] at h1
    rw [show (g 2).toNat = r by omega] at h2
    exact el_ite r2 h1 h2
  · rw [if_neg (by decide), if_neg (by decide), if_neg (by decide), if_neg (by decide)]
    have := hg 0 (by omega)
    have := hg 1 (by omega)
    exact el_bin (by decide) (by decide) (by decide) (he 0 (by omega)) (he 1 (by omega)) (by omega) (by omega) (by omega) r1 r2 (fun h => absurd rfl h) (fun h => by omega) (fun h => absurd h (by decide)) (fun _ => by omega)
  · rw [if_neg (by omega), if_neg (by omega), if_neg (by omega), if_neg (by omega)]
    have := hg 0 (by omega)
    have := hg 1 (by omega)
    exact el_bin (by omega) (by omega) (by omega) (he 0 (by omega)) (he 1 (by omega)) (by omega) (by omega) (by omega) r1 r2 (fun h => by omega) (fun h => by omega) (fun h => by omega) (fun h => by omega)
  · rw [if_neg (by omega), if_neg (by omega), if_neg (by omega), if_neg (by omega)]
    have := hg 0 (by omega)
    have := hg 1 (by omega)
    exact el_bin (by omega) (by omega) (by omega) (he 0 (by omega)) (he 1 (by omega)) (by omega) (by omega) (by omega) r1 r2 (fun h => by omega) (fun h => by omega) (fun h => by omega) (fun h => by omega)
end Go.Proofs.YtcihbcffokjgjaaGreat.Fn
namespace Go.Proofs.YtcihbcffokjgjaaGreat.Fn
open Go Go.RowKit Go.Proofs.YtcihbcffokjgjaaGreat.Ev Go.Proofs.YtcihbcffokjgjaaGreat.Bv
set_option linter.unusedVariables false
set_option linter.unusedSimpArgs false
set_option maxRecDepth 100000
open Classical in
theorem ranges_check_j10 (fu : Nat) {r : Int} {n : Nat} {g : Nat → Int} (hl : n ≤ 1000) (d : Nat) : ∀ k i b, i + d = n → d < k →
    ranges_check.j10 (fu + 1) k r b n (n : Int) (i : Int) n g = some (if b = true ∨ ∃ j, i ≤ j ∧ j < n ∧ g j = 0 then (0, 3) else (r, 0)) := by
  induction d with
  | zero =>
    intro k i b hi hk
    obtain ⟨k, rfl⟩ : ∃ m, k = m + 1 := ⟨k - 1, by omega⟩
    obtain rfl : i = n := by omega
    have : ¬ ∃ j, i ≤ j ∧ j < i ∧ g j = 0 := by rintro ⟨j, h1, h2, _⟩; omega
    rw [ranges_check.j10_succ, bifd_neg (by omega)]
    cases b <;> simp [this]
  | succ d ih =>
    intro k i b hi hk
    obtain ⟨k, rfl⟩ : ∃ m, k = m + 1 := ⟨k - 1, by omega⟩
    rw [ranges_check.j10_succ, bifd_pos (by omega), bifd_pos (by omega), bifd_pos (by omega)]
    simp only [ranges_check.p13_eq]
    rw [wrapi, wrapi_succ (by omega), Int.toNat_natCast]
    have hex : (∃ j, i ≤ j ∧ j < n ∧ g j = 0) ↔ g i = 0 ∨ ∃ j, i + 1 ≤ j ∧ j < n ∧ g j = 0 := by
      constructor
      · rintro ⟨j, h1, h2, h3⟩
        rcases Nat.lt_or_ge i j with h | h
        · exact .inr ⟨j, h, h2, h3⟩
        · obtain rfl : j = i := by omega
          exact .inl h3
      · rintro (h | ⟨j, h1, h2, h3⟩)
        · exact ⟨i, Nat.le_refl _, by omega, h⟩
        · exact ⟨j, by omega, h2, h3⟩
    rw [hex]
    cases b with
    | true =>
      rw [cond_true, ih k (i + 1) true (by omega) (by omega)]; simp
    | false =>
      rw [cond_false, ih k (i + 1) _ (by omega) (by omega)]; simp
open Classical in
theorem saturateref13_Refused_j9 (fu : Nat) {r : Int} {n : Nat} {g : Nat → Int} (hl : n ≤ 1000) (d : Nat) : ∀ k i, i + d = n → d < k →
    saturateref13_Refused.j9 fu k n r (i : Int) n g = some (if r = 0 ∨ ∃ j, i ≤ j ∧ j < n ∧ g j = 0 then (0, 3) else (r, 0)) := by
  induction d with
  | zero =>
    intro k i hi hk
    obtain ⟨k, rfl⟩ : ∃ m, k = m + 1 := ⟨k - 1, by omega⟩
    obtain rfl : i = n := by omega
    have : ¬ ∃ j, i ≤ j ∧ j < i ∧ g j = 0 := by rintro ⟨j, h1, h2, _⟩; omega
    rw [saturateref13_Refused.j9_succ, bifd_neg (by omega)]
    by_cases h : r = 0
    · simp [this, h]
    · rw [show (r == 0) = false by simpa using h]; simp [this, h]
  | succ d ih =>
    intro k i hi hk
    obtain ⟨k, rfl⟩ : ∃ m, k = m + 1 := ⟨k - 1, by omega⟩
    rw [saturateref13_Refused.j9_succ, bifd_pos (by omega), bifd_pos (by omega), bifd_pos (by omega)]
    rw [wrapi, wrapi_succ (by omega), Int.toNat_natCast]
    have hex : (∃ j, i ≤ j ∧ j < n ∧ g j = 0) ↔ g i = 0 ∨ ∃ j, i + 1 ≤ j ∧ j < n ∧ g j = 0 := by
      constructor
      · rintro ⟨j, h1, h2, h3⟩
        rcases Nat.lt_or_ge i j with h | h
        · exact .inr ⟨j, h, h2, h3⟩
        · obtain rfl : j = i := by omega
          exact .inl h3
      · rintro (h | ⟨j, h1, h2, h3⟩)
        · exact ⟨i, Nat.le_refl _, by omega, h⟩
        · exact ⟨j, by omega, h2, h3⟩
    rw [hex]
    by_cases h : g i = 0
    · simp [h]
    · rw [show (g i == 0) = false by simpa using h, cond_false, ih k (i + 1) (by omega) (by omega)]; simp [h]
theorem ranges_check_eq {op w : Int} {x : Nat} (hx : x < 18446744073709551616) (n m : Nat) (g lo hi : Nat → Int) : ranges_check.f op w x (n, g) (m, lo, hi) = some (chkS op w x n m g) := by
  unfold ranges_check.f ranges_check.g chkS
  simp only [opinfo_Width_eq hx, opinfo_Pattern_eq, Option.bind_some]
  by_cases h1 : m ≠ n
  · rw [if_pos h1, show ((m : Int) != (n : Int)) = true by rw [bne_iff_ne]; omega]; rfl
  · rw [if_neg h1, show ((m : Int) != (n : Int)) = false by rw [bne_eq_false_iff_eq]; omega, cond_false]
    by_cases h2 : (widthS op w x n g).2 ≠ 0
    · rw [if_pos h2, show ((widthS op w x n g).2 != 0) = true by rw [bne_iff_ne]; exact h2]; rfl
    · rw [if_neg h2, show ((widthS op w x n g).2 != 0) = false by rw [bne_eq_false_iff_eq]; exact Decidable.not_not.1 h2, cond_false]
      by_cases h3 : op = 24 ∨ op = 25 ∨ op = 26
      · rw [if_pos h3, bifd_pos h3]
      · rw [if_neg h3, bifd_neg h3]
        have hs := widthS_small (Decidable.not_not.1 h2)
        have hn : n ≤ 1000 := by omega
        have := ranges_check_j10 fuel0 (r := (widthS op w x n g).1) (g := g) hn n (fuel0 + 1) 0 ((widthS op w x n g).1 == 0) (by omega) (fuel_gt hn)
        rw [show ((0 : Nat) : Int) = 0 from rfl] at this
        rw [this]; simp
theorem saturateref13_Refused_eq {op w : Int} {x : Nat} (hx : x < 18446744073709551616) (n m : Nat) (g : Nat → Int) : saturateref13_Refused.f op w x (n, g) (m : Int) = some (chkS op w x n m g) := by
  unfold saturateref13_Refused.f saturateref13_Refused.g chkS
  simp only [saturateref04_Width_eq hx, saturateref04_Pattern_eq, Option.bind_some]
  by_cases h1 : m ≠ n
  · rw [if_pos h1, show ((m : Int) != (n : Int)) = true by rw [bne_iff_ne]; omega]; rfl
  · rw [if_neg h1, show ((m : Int) != (n : Int)) = false by rw [bne_eq_false_iff_eq]; omega, cond_false]
    by_cases h2 : (widthS op w x n g).2 ≠ 0
    · rw [if_pos h2, show ((widthS op w x n g).2 != 0) = true by rw [bne_iff_ne]; exact h2]; rfl
    · rw [if_neg h2, show ((widthS op w x n g).2 != 0) = false by rw [bne_eq_false_iff_eq]; exact Decidable.not_not.1 h2, cond_false]
      by_cases h3 : op = 24 ∨ op = 25 ∨ op = 26
      · rw [if_pos h3, bifd_pos h3]
      · rw [if_neg h3, bifd_neg h3]
        have hs := widthS_small (Decidable.not_not.1 h2)
        have hn : n ≤ 1000 := by omega
        have := saturateref13_Refused_j9 (fuel0 + 1) (r := (widthS op w x n g).1) (g := g) hn n (fuel0 + 1) 0 (by omega) (fuel_gt hn)
        rw [show ((0 : Nat) : Int) = 0 from rfl] at this
        rw [this]; simp
theorem ap0 (fu k : Nat) (op r x : Int) (g lo hi : Nat → Int) : ranges_Apply.j6 fu (k + 1) op x 0 r 0 0 ((0 : Nat) : Int) 0 0 g 0 lo hi 0 0 0 (fun _ => 0) (fun _ => 0) =
    bif op == 2 then (ranges_Const.f r x).bind fun t => some ((t.1, t.2), 0) else (ranges_Top.f r).bind fun t => some ((t.1, t.2), 0) := by kernel_rfl
theorem ap1 (fu k : Nat) (op r x : Int) (g lo hi : Nat → Int) : ranges_Apply.j6 fu (k + 2) op x 1 r 0 1 ((1 : Nat) : Int) 0 1 g 1 lo hi 0 0 0 (fun _ => 0) (fun _ => 0) =
    (ranges_norm.f (g 0) (lo 0, hi 0)).bind fun p => (ranges_unary.f op r x (g 0) (p.1, p.2)).bind fun t => some ((t.1, t.2), 0) := by kernel_rfl
theorem ap2 (fu k : Nat) (op r x : Int) (g lo hi : Nat → Int) : ranges_Apply.j6 fu (k + 3) op x 2 r 0 2 ((2 : Nat) : Int) 0 2 g 2 lo hi 0 0 0 (fun _ => 0) (fun _ => 0) =
    (ranges_norm.f (g 0) (lo 0, hi 0)).bind fun p => (ranges_norm.f (g 1) (lo 1, hi 1)).bind fun q => (ranges_binary.f op (g 0) (g 1) (p.1, p.2) (q.1, q.2)).bind fun t => some ((t.1, t.2), 0) := by kernel_rfl
theorem ap3 (fu k : Nat) (op r x : Int) (g lo hi : Nat → Int) : ranges_Apply.j6 fu (k + 4) op x 3 r 0 3 ((3 : Nat) : Int) 0 3 g 3 lo hi 0 0 0 (fun _ => 0) (fun _ => 0) =
    (ranges_norm.f (g 0) (lo 0, hi 0)).bind fun p => (ranges_norm.f (g 1) (lo 1, hi 1)).bind fun q => (ranges_norm.f (g 2) (lo 2, hi 2)).bind fun s =>
      (ranges_single.f (p.1, p.2)).bind fun b => bif !b then (ranges_Join.f r (q.1, q.2) (s.1, s.2)).bind fun t => some ((t.1, t.2), 0) else bif p.1 == 1 then some ((q.1, q.2), 0) else some ((s.1, s.2), 0) := by kernel_rfl
end Go.Proofs.YtcihbcffokjgjaaGreat.Fn
namespace Go.Proofs.YtcihbcffokjgjaaGreat.Fn
open Go Go.RowKit Go.Proofs.YtcihbcffokjgjaaGreat.Ev Go.Proofs.YtcihbcffokjgjaaGreat.Bv
set_option linter.unusedVariables false
set_option linter.unusedSimpArgs false
set_option maxRecDepth 100000
def cst (p : Nat × Nat) : Int × Int := ((p.1 : Int), (p.2 : Int))
def topS (r : Nat) : Nat × Nat := (0, vmask r)
def flS (x : Nat) : Nat := vmask (len8 x)
def sumS (v l h m k : Nat) : Nat × Nat := if decide (l + m ≤ vmask v) = decide (h + k ≤ vmask v) then (vadd v l m, vadd v h k) else topS v
def difS (v l h m k : Nat) : Nat × Nat := if decide (l < k) = decide (h < m) then (vsub v l k, vsub v h m) else topS v
def mulS (v l h m k : Nat) : Nat × Nat := if h * k ≤ vmask v then (l * m, h * k) else topS v
def divS (v l h m k : Nat) : Nat × Nat := if m = 0 then topS v else (l / k, h / m)
def remS (l h m k : Nat) : Nat × Nat := if h < m then (l, h) else if 0 < m then (0, min h (k - 1)) else (0, h)
def shlS (v l h m k : Nat) : Nat × Nat := if m ≠ k then topS v else if v ≤ m then (0, 0) else if vmask v >>> m < h then topS v else (l <<< m, h <<< m)
def shrS (l h m k : Nat) : Nat × Nat := if m ≠ k then (0, h) else (l >>> m, h >>> m)
def sarS (v l h m k : Nat) : Nat × Nat := if h < 2 ^ (v - 1) then shrS l h m k else topS v
def truS (a b : Prop) [Decidable a] [Decidable b] : Nat × Nat := if a then (1, 1) else if b then (0, 0) else (0, 1)
def eqlS (l h m k : Nat) : Nat × Nat := truS (l = h ∧ m = k ∧ l = m) (h < m ∨ k < l)
def ultS (l h m k : Nat) : Nat × Nat := truS (h < m) (k ≤ l)
def sltS (v l h m k : Nat) : Nat × Nat := if (h < 2 ^ (v - 1) ∧ k < 2 ^ (v - 1)) ∨ (2 ^ (v - 1) ≤ l ∧ 2 ^ (v - 1) ≤ m) then ultS l h m k else (0, 1)
def oneS (op : Int) (r v x l h : Nat) : Nat × Nat :=
  if op = 3 then (vmask r - h, vmask r - l) else if op = 4 then (if l = 0 ∧ 0 < h then topS r else (vneg r h, vneg r l))
  else if op = 21 then (if x = 0 ∧ h ≤ vmask r then (l, h) else if x + r = v then (l >>> x, h >>> x) else topS r)
  else if op = 23 then (if 2 ^ (v - 1) ≤ l then (vsext v r l, vsext v r h) else if 2 ^ (v - 1) ≤ h then topS r else (l, h)) else (l, h)
def twoS (op : Int) (v u l h m k : Nat) : Nat × Nat :=
  if op = 5 then (0, min h k) else if op = 6 then (max l m, flS (h ||| k)) else if op = 7 then (0, flS (h ||| k)) else if op = 8 then sumS v l h m k else if op = 9 then difS v l h m k
  else if op = 10 then mulS v l h m k else if op = 11 then divS v l h m k else if op = 12 then remS l h m k else if op = 13 then shlS v l h m k else if op = 14 then shrS l h m k else if op = 15 then sarS v l h m k
  else if op = 16 then eqlS l h m k else if op = 17 then ultS l h m k else if op = 18 then sltS v l h m k else (vconcat v u l m, vconcat v u h k)
theorem Add64_eq (x y : Nat) : bits_Add64.f x y 0 = some ((((x + y) % 18446744073709551616 : Nat) : Int), (((x + y) / 18446744073709551616 : Nat) : Int)) := by
  unfold bits_Add64.f
  have h1 : decide ((0 : Int) ≤ (x : Int)) = true := decide_eq_true (by omega)
  have h2 : decide ((0 : Int) ≤ (y : Int)) = true := decide_eq_true (by omega)
  rw [h1, h2]
  simp only [Int.le_refl, decide_true, Bool.and_self, Bool.true_and, Int.reduceLE, cond_true]
  congr 1
theorem half_eq {v : Nat} (h : 1 ≤ v) : vmask v >>> 1 + 1 = 2 ^ (v - 1) ∧ vmask v / 2 + 1 = 2 ^ (v - 1) := by
  have := two_pow_pred h
  have := pw_pos (v - 1)
  rw [Nat.shiftRight_eq_div_pow]; unfold vmask; omega
theorem mul_split {a b x y : Nat} (hx : x < 18446744073709551616) (hy : y < 18446744073709551616) : x * y = (x / 4294967296) * (y / 4294967296) * 18446744073709551616 + ((x / 4294967296) * (y % 4294967296) + (x % 4294967296) * (y / 4294967296)) * 4294967296 + (x % 4294967296) * (y % 4294967296) := by
  have h1 := Nat.div_add_mod x 4294967296
  have h2 := Nat.div_add_mod y 4294967296
  generalize x / 4294967296 = p at *
  generalize x % 4294967296 = q at *
  generalize y / 4294967296 = s at *
  generalize y % 4294967296 = t at *
  subst h1 h2
  rw [Nat.add_mul, Nat.mul_add, Nat.mul_add]
  have e1 : 4294967296 * p * (4294967296 * s) = p * s * 18446744073709551616 := by
    rw [Nat.mul_mul_mul_comm]; omega
  have e2 : 4294967296 * p * t = p * t * 4294967296 := by rw [Nat.mul_assoc, Nat.mul_comm]
  have e3 : q * (4294967296 * s) = q * s * 4294967296 := by rw [Nat.mul_left_comm, Nat.mul_comm]
  omega
theorem mul_le {a b : Nat} (ha : a ≤ 4294967295) (hb : b ≤ 4294967295) : a * b ≤ 18446744065119617025 := Nat.mul_le_mul ha hb
theorem Mul64_eq {x y : Nat} (hx : x < 18446744073709551616) (hy : y < 18446744073709551616) : bits_Mul64.f x y = some (((x * y / 18446744073709551616 : Nat) : Int), ((x * y % 18446744073709551616 : Nat) : Int)) := by
  unfold bits_Mul64.f
  have m : ∀ {z : Nat}, z < 18446744073709551616 → Go.bits .and .u64 (z : Int) 4294967295 = ((z % 4294967296 : Nat) : Int) := fun {z} hz => by
    rw [show (4294967295 : Int) = ((2 ^ 32 - 1 : Nat) : Int) from rfl, and64 hz (by decide), and_mask]
  have s : ∀ {z : Nat}, z < 18446744073709551616 → shr .u64 (z : Int) 32 = ((z / 4294967296 : Nat) : Int) := fun {z} hz => by
    rw [show (32 : Int) = ((32 : Nat) : Int) from rfl, shr64 hz, Nat.shiftRight_eq_div_pow]
  have p : ∀ {a b : Nat}, a ≤ 4294967295 → b ≤ 4294967295 → IntKind.u64.wrap ((a : Int) * (b : Int)) = ((a * b : Nat) : Int) := fun {a b} ha hb => by
    have := mul_le ha hb
    rw [wrapu_mul, Nat.mod_eq_of_lt (by omega)]
  have q : ∀ {a b : Nat}, a + b < 18446744073709551616 → IntKind.u64.wrap ((a : Int) + (b : Int)) = ((a + b : Nat) : Int) := fun {a b} h => by
    rw [wrapu_add, Nat.mod_eq_of_lt h]
  have hx1 : x / 4294967296 ≤ 4294967295 := by omega
  have hx0 : x % 4294967296 ≤ 4294967295 := by omega
  have hy1 : y / 4294967296 ≤ 4294967295 := by omega
  have hy0 : y % 4294967296 ≤ 4294967295 := by omega
  have b11 := mul_le hx1 hy1
  have b10 := mul_le hx1 hy0
  have b01 := mul_le hx0 hy1
  have b00 := mul_le hx0 hy0
  have e := mul_split (a := 0) (b := 0) hx hy
  have e5 := wrapu_mul x y
  rw [e5, s hx, s hy, m hx, m hy, p hx1 hy1, p hx1 hy0, p hx0 hy0, p hx0 hy1, s (show x % 4294967296 * (y % 4294967296) < _ by omega), q (by omega), s (by omega), m (by omega), q (by omega), q (by omega), s (by omega), q (by omega)]
  congr 1
  refine Prod.ext ?_ rfl
  simp only
  rw [e]
  congr 1
  omega
theorem fill_prog {x : Nat} (hx : x < 18446744073709551616) : ranges_Fill.f x = some (flS x : Int) := by
  obtain ⟨n, hn, h64⟩ := len_ex hx
  have aux : ∀ {p q : Nat}, IsLen x p → IsLen x q → p ≤ q := fun {p q} hp hq => by
    rcases Nat.lt_or_ge q p with hlt | hge
    · rcases hp.2 with h0 | h0
      · omega
      · have := Nat.pow_le_pow_right (n := 2) (by decide) (show q ≤ p - 1 by omega)
        have := hq.1
        omega
    · exact hge
  have e : n = len8 x := Nat.le_antisymm (aux hn (isLen_len8 x)) (aux (isLen_len8 x) hn)
  rw [ranges_Fill_eq hx hn h64, e]; rfl
theorem fill_ref {x : Nat} (hx : x < 18446744073709551616) : saturateref13_Fill.f x = some (flS x : Int) := by
  obtain ⟨n, hn, h64⟩ := len_ex hx
  have := ranges_Fill_eq hx hn h64
  rw [fill_prog hx] at this
  rw [saturateref13_Fill_eq hn h64, ← this]
section
variable {v l h m k : Nat}
theorem MMn (h1 : 1 ≤ v) (h2 : v ≤ 64) : MM (v : Int) = (vmask v : Int) := by unfold MM; rw [W_of h1 h2]
theorem cut64 (h2 : v ≤ 64) (x : Nat) : vcut v (x % 18446744073709551616) = x % 2 ^ v := by unfold vcut; rw [mod64_mod h2]
theorem beqd (a b : Bool) : (a == b) = decide (a = b) := by cases a <;> cases b <;> rfl
theorem dec_not {p q : Prop} [Decidable p] [Decidable q] (h : p ↔ ¬ q) : decide p = !decide q := by by_cases hq : q <;> simp [hq, h]
theorem sum_prog (h1 : 1 ≤ v) (h2 : v ≤ 64) (hl : l ≤ h) (hh : h ≤ vmask v) (hm : m ≤ k) (hk : k ≤ vmask v) : ranges_sum.f (v : Int) ((l : Int), (h : Int)) ((m : Int), (k : Int)) = some (cst (sumS v l h m k)) := by
  have hM := vmask_lt h2
  unfold ranges_sum.f ranges_sum.g
  simp only [bits_Mask_eq, Add64_eq, ranges_Top_eq, Option.bind_some, W_of h1 h2, MMn h1 h2, ranges_sum.p7_eq]
  rw [bits_Cut_eq _ (Nat.mod_lt _ (by decide)), bits_Cut_eq _ (Nat.mod_lt _ (by decide)), W_of h1 h2, cut64 h2, cut64 h2]
  simp only [Option.bind_some]
  have e1 : ∀ a b : Nat, (((a / 18446744073709551616 : Nat) : Int) == 0) = decide (a < 18446744073709551616) := fun a b => by
    by_cases ha : a < 18446744073709551616
    · rw [Nat.div_eq_of_lt ha, decide_eq_true ha]; rfl
    · rw [decide_eq_false ha]
      have : 1 ≤ a / 18446744073709551616 := by omega
      rw [beq_eq_false_iff_ne]; omega
  simp only [e1 _ 0]
  unfold sumS
  by_cases a1 : h + k < 18446744073709551616
  · have a2 : l + m < 18446744073709551616 := by omega
    rw [bifd_pos a2, bifd_pos a1, Nat.mod_eq_of_lt a1, Nat.mod_eq_of_lt a2]
    simp only [Int.ofNat_le, beqd]
    by_cases hc : decide (l + m ≤ vmask v) = decide (h + k ≤ vmask v)
    · rw [if_pos hc, decide_eq_true hc]; rfl
    · rw [if_neg hc, decide_eq_false hc]; rfl
  · rw [show decide (h + k ≤ vmask v) = false from decide_eq_false (by omega)]
    rw [bifd_neg a1, bifd_neg a1]
    by_cases a2 : l + m < 18446744073709551616
    · rw [bifd_pos a2, Nat.mod_eq_of_lt a2]
      simp only [Int.ofNat_le, beqd]
      by_cases hc : decide (l + m ≤ vmask v) = false
      · rw [if_pos hc, decide_eq_true hc]; rfl
      · rw [if_neg hc, decide_eq_false hc]; rfl
    · rw [bifd_neg a2, if_pos (decide_eq_false (by omega))]; rfl
theorem dif_prog (h1 : 1 ≤ v) (h2 : v ≤ 64) (hl : l ≤ h) (hh : h ≤ vmask v) (hm : m ≤ k) (hk : k ≤ vmask v) : ranges_difference.f (v : Int) ((l : Int), (h : Int)) ((m : Int), (k : Int)) = some (cst (difS v l h m k)) := by
  have hM := vmask_lt h2
  unfold ranges_difference.f difS
  simp only [ranges_Top_eq, Option.bind_some, MMn h1 h2, Int.ofNat_lt, beqd]
  rw [wrapu_sub (by omega), wrapu_sub (by omega), bits_Cut_eq _ (Nat.mod_lt _ (by decide)), bits_Cut_eq _ (Nat.mod_lt _ (by decide)), W_of h1 h2, sub_cut h2 _ (by omega), sub_cut h2 _ (by omega)]
  by_cases hc : decide (l < k) = decide (h < m)
  · rw [if_pos hc, decide_eq_true hc]; rfl
  · rw [if_neg hc, decide_eq_false hc]; rfl
theorem mul_prog (h1 : 1 ≤ v) (h2 : v ≤ 64) (hl : l ≤ h) (hh : h ≤ vmask v) (hm : m ≤ k) (hk : k ≤ vmask v) : ranges_product.f (v : Int) ((l : Int), (h : Int)) ((m : Int), (k : Int)) = some (cst (mulS v l h m k)) := by
  have hM := vmask_lt h2
  unfold ranges_product.f mulS
  rw [Mul64_eq (by omega) (by omega), bits_Mask_eq, W_of h1 h2, ranges_Top_eq, MMn h1 h2, wrapu_mul]
  simp only [Option.bind_some]
  have hlm : l * m ≤ h * k := Nat.mul_le_mul hl hm
  by_cases a : h * k < 18446744073709551616
  · rw [Nat.div_eq_of_lt a, Nat.mod_eq_of_lt a, Nat.mod_eq_of_lt (by omega)]
    rw [show (((0 : Nat) : Int) != 0) = false from rfl, cond_false]
    by_cases hc : h * k ≤ vmask v
    · rw [if_pos hc, bifd_neg (by omega)]; rfl
    · rw [if_neg hc, bifd_pos (by omega)]; rfl
  · have : 1 ≤ h * k / 18446744073709551616 := by generalize h * k = z at *; omega
    rw [show (((h * k / 18446744073709551616 : Nat) : Int) != 0) = true by rw [bne_iff_ne]; omega, cond_true, if_neg (by omega)]; rfl
theorem div_prog (h1 : 1 ≤ v) (h2 : v ≤ 64) (hl : l ≤ h) (hh : h ≤ vmask v) (hm : m ≤ k) (hk : k ≤ vmask v) : ranges_quotient.f (v : Int) ((l : Int), (h : Int)) ((m : Int), (k : Int)) = some (cst (divS v l h m k)) := by
  have hM := vmask_lt h2
  unfold ranges_quotient.f divS
  rw [ranges_Top_eq, MMn h1 h2]
  simp only [Option.bind_some]
  by_cases hc : m = 0
  · subst hc; rfl
  · rw [if_neg hc, show ((m : Int) == 0) = false by rw [beq_eq_false_iff_ne]; omega, cond_false, bifd_neg (by omega), bifd_neg (by omega), tdiv_nat, tdiv_nat]
    have := Nat.div_le_self l k
    have := Nat.div_le_self h m
    rw [wrapu_of (by omega), wrapu_of (by omega)]; rfl
theorem mn_min (a b : Nat) : mn (a : Int) (b : Int) = ((min a b : Nat) : Int) := by unfold mn; split <;> omega
theorem mx_max (a b : Nat) : mx (a : Int) (b : Int) = ((max a b : Nat) : Int) := by unfold mx; split <;> omega
theorem rem_prog (hk : k < 18446744073709551616) (hm : m ≤ k) : ranges_remainder.f ((l : Int), (h : Int)) ((m : Int), (k : Int)) = some (cst (remS l h m k)) := by
  unfold ranges_remainder.f remS
  by_cases a : h < m
  · rw [bifd_pos (by omega), if_pos a]; rfl
  · rw [bifd_neg (by omega), if_neg a]
    by_cases b : 0 < m
    · rw [bifd_pos (by omega), if_pos b, show (k : Int) - 1 = ((k - 1 : Nat) : Int) by omega, wrapu_of (by omega), mn_min]; rfl
    · rw [bifd_neg (by omega), if_neg b]; rfl
theorem rem_ref (hk : k < 18446744073709551616) (hm : m ≤ k) : saturateref13_urem.f ((l : Int), (h : Int)) ((m : Int), (k : Int)) = some (cst (remS l h m k)) := by
  unfold saturateref13_urem.f remS
  by_cases a : h < m
  · rw [bifd_pos (by omega), if_pos a]; rfl
  · rw [bifd_neg (by omega), if_neg a]
    by_cases b : 0 < m
    · rw [bifd_pos (by omega), if_pos b, show (k : Int) - 1 = ((k - 1 : Nat) : Int) by omega, wrapu_of (by omega), mn_min]; rfl
    · rw [bifd_neg (by omega), if_neg b]; rfl
theorem p6_shr (fu fm : Nat) (hl : l < 18446744073709551616) (hh : h < 18446744073709551616) (hm : m < 18446744073709551616) : ranges_shift.p6 (fm + 1) fu (l : Int) (h : Int) (m : Int) (k : Int) 0 0 = some (cst (shrS l h m k)) := by
  rw [ranges_shift.p6_eq]; unfold ranges_single.f shrS
  simp only [Option.bind_some, beq_nat]
  by_cases a : m = k
  · rw [if_neg (by simpa using a), decide_eq_true a, Bool.not_true, cond_false, bifd_neg (by omega), bifd_neg (by omega), shr64 hl, shr64 hh]; rfl
  · rw [if_pos a, decide_eq_false a]; rfl
theorem half_shr (h1 : 1 ≤ v) (h2 : v ≤ 64) : shr .u64 (vmask v : Int) 1 = ((2 ^ (v - 1) - 1 : Nat) : Int) := by
  rw [show (1 : Int) = ((1 : Nat) : Int) from rfl, shr64 (vmask_lt h2)]
  have := (half_eq h1).1
  congr 1; omega
theorem shift_prog (h1 : 1 ≤ v) (h2 : v ≤ 64) (hl : l ≤ h) (hh : h ≤ vmask v) (hm : m ≤ k) (hk : k ≤ vmask v) {op : Int} (ho : op = 13 ∨ op = 14 ∨ op = 15) :
    ranges_shift.f op (v : Int) ((l : Int), (h : Int)) ((m : Int), (k : Int)) = some (cst (if op = 13 then shlS v l h m k else if op = 14 then shrS l h m k else sarS v l h m k)) := by
  have hM := vmask_lt h2
  have hp := pw_pos (v - 1)
  unfold ranges_shift.f ranges_shift.g
  simp only [bits_Mask_eq, ranges_Top_eq, W_of h1 h2, MMn h1 h2, Option.bind_some, half_shr h1 h2, p6_shr (l := l) (h := h) (m := m) (k := k) _ _ (by omega) (by omega) (by omega)]
  rcases ho with rfl | rfl | rfl
  · simp only [Int.reduceBEq, cond_false, cond_true, Int.reduceEq, if_true, if_false]
    unfold ranges_single.f shlS
    simp only [Option.bind_some, beq_nat]
    by_cases a : m = k
    · rw [if_neg (by simpa using a), decide_eq_true a, Bool.not_true, cond_false, wrapu_of (by omega)]
      by_cases b : v ≤ m
      · rw [if_pos b, bifd_pos (by omega)]; rfl
      · rw [if_neg b, bifd_neg (by omega), bifd_neg (by omega), shr64 hM]
        by_cases c : vmask v >>> m < h
        · rw [if_pos c, bifd_pos (by omega)]; rfl
        · rw [if_neg c, bifd_neg (by omega), bifd_neg (by omega), bifd_neg (by omega), shl64, shl64]
          have hs : h <<< m < 18446744073709551616 := by
            rw [Nat.shiftLeft_eq]
            have : h ≤ vmask v / 2 ^ m := by rw [← Nat.shiftRight_eq_div_pow]; omega
            have := Nat.mul_le_mul_right (2 ^ m) this
            have := Nat.div_mul_le_self (vmask v) (2 ^ m)
            omega
          have hs2 : l <<< m < 18446744073709551616 := by
            rw [Nat.shiftLeft_eq] at hs ⊢
            have := Nat.mul_le_mul_right (2 ^ m) hl
            omega
          rw [Nat.mod_eq_of_lt hs, Nat.mod_eq_of_lt hs2]; rfl
    · rw [if_pos a, decide_eq_false a]; rfl
  · simp only [Int.reduceBEq, cond_false, cond_true, Int.reduceEq, if_true, if_false]
  · simp only [Int.reduceBEq, cond_false, cond_true, Int.reduceEq, if_true, if_false]
    unfold sarS
    by_cases a : h < 2 ^ (v - 1)
    · rw [if_pos a, bifd_neg (by omega)]
    · rw [if_neg a, bifd_pos (by omega)]; rfl
theorem mask1 : vmask 1 = 1 := rfl
theorem W1 : W 1 = 1 := by decide
theorem Top1 : ranges_Top.f 1 = some (0, 1) := by rw [ranges_Top_eq]; unfold MM; rw [W1]; rfl
theorem truS_bif (a b : Prop) [Decidable a] [Decidable b] : (bif decide a then some ((1 : Int), (1 : Int)) else bif decide b then some (0, 0) else some (0, 1)) = some (cst (truS a b)) := by
  unfold truS; by_cases ha : a <;> by_cases hb : b <;> simp [ha, hb, cst]
theorem cmp_p12 (fu fm : Nat) : ranges_compare.p12 (fm + 1) fu (l : Int) (h : Int) (m : Int) (k : Int) 0 0 = some (cst (ultS l h m k)) := by
  rw [ranges_compare.p12_eq]; simp only [Top1, Option.bind_some]
  unfold ultS
  rw [← truS_bif]
  simp only [Int.ofNat_lt, ge_iff_le, Int.ofNat_le]
theorem cmp_prog (h1 : 1 ≤ v) (h2 : v ≤ 64) (hl : l ≤ h) (hh : h ≤ vmask v) (hm : m ≤ k) (hk : k ≤ vmask v) {op : Int} (ho : op = 16 ∨ op = 17 ∨ op = 18) :
    ranges_compare.f op (v : Int) ((l : Int), (h : Int)) ((m : Int), (k : Int)) = some (cst (if op = 16 then eqlS l h m k else if op = 17 then ultS l h m k else sltS v l h m k)) := by
  have hM := vmask_lt h2
  have hp := pw_pos (v - 1)
  unfold ranges_compare.f ranges_compare.g
  simp only [bits_Mask_eq, W_of h1 h2, Option.bind_some, half_shr h1 h2, cmp_p12, ranges_compare.p9_eq, Top1]
  rcases ho with rfl | rfl | rfl
  · simp only [Int.reduceBEq, cond_false, cond_true, Int.reduceEq, if_true, if_false]
    unfold ranges_single.f eqlS truS
    simp only [Option.bind_some, beq_nat]
    by_cases a : h < m
    · rw [bifd_pos (by omega), if_neg (by omega), if_pos (.inl a)]; rfl
    · rw [bifd_neg (by omega)]
      by_cases b : k < l
      · rw [bifd_pos (by omega), if_neg (by omega), if_pos (.inr b)]; rfl
      · rw [bifd_neg (by omega)]
        by_cases c : l = h ∧ m = k
        · rw [bifd_pos c.1, bifd_pos c.2, if_pos (by omega)]; rfl
        · rw [if_neg (by omega), if_neg (by omega)]
          by_cases d : l = h
          · rw [bifd_pos d, bifd_neg (by omega)]; rfl
          · rw [bifd_neg d]; rfl
  · simp only [Int.reduceBEq, cond_false, cond_true, Int.reduceEq, if_true, if_false]
  · simp only [Int.reduceBEq, cond_false, cond_true, Int.reduceEq, if_true, if_false]
    unfold sltS
    by_cases a : 2 ^ (v - 1) ≤ h
    · rw [bifd_pos (by omega)]
      by_cases b : 2 ^ (v - 1) ≤ l
      · rw [bifd_neg (by omega)]
        by_cases c : 2 ^ (v - 1) ≤ m
        · rw [bifd_neg (by omega), if_pos (.inr ⟨b, c⟩)]
        · rw [bifd_pos (by omega), if_neg (by omega)]; rfl
      · rw [bifd_pos (by omega), if_neg (by omega)]; rfl
    · rw [bifd_neg (by omega)]
      by_cases b : 2 ^ (v - 1) ≤ k
      · rw [bifd_pos (by omega), bifd_pos (by omega), if_neg (by omega)]; rfl
      · rw [bifd_neg (by omega), if_pos (.inl (by omega))]
theorem or_ltv (hv : v ≤ 64) (hh : h ≤ vmask v) (hk : k ≤ vmask v) : h ||| k < 18446744073709551616 := by
  have hp := pw_pos v
  have : h ||| k < 2 ^ v := Nat.or_lt_two_pow (by unfold vmask at hh; omega) (by unfold vmask at hk; omega)
  have := pw_le hv
  omega
theorem binary_prog {u : Nat} (h1 : 1 ≤ v) (h2 : v ≤ 64) (u1 : 1 ≤ u) (u2 : u ≤ 64) (hl : l ≤ h) (hh : h ≤ vmask v) (hm : m ≤ k) (hk : k ≤ vmask u) {op : Int} (ho : 5 ≤ op) (ho2 : op ≤ 20) (ho3 : op ≠ 19) (huv : op ≠ 20 → u = v) :
    ranges_binary.f op (v : Int) (u : Int) ((l : Int), (h : Int)) ((m : Int), (k : Int)) = some (cst (twoS op v u l h m k)) := by
  have hM := vmask_lt h2
  have hN := vmask_lt u2
  have hs : op = 5 ∨ op = 6 ∨ op = 7 ∨ op = 8 ∨ op = 9 ∨ op = 10 ∨ op = 11 ∨ op = 12 ∨ op = 13 ∨ op = 14 ∨ op = 15 ∨ op = 16 ∨ op = 17 ∨ op = 18 ∨ op = 20 := by omega
  unfold ranges_binary.f twoS
  by_cases h20 : op = 20
  · subst h20
    simp only [Int.reduceBEq, cond_false, cond_true, Int.reduceEq, if_true, if_false, bits_Concat_eq _ _ (show l < 18446744073709551616 by omega) (show m < 18446744073709551616 by omega), bits_Concat_eq _ _ (show h < 18446744073709551616 by omega) (show k < 18446744073709551616 by omega), Option.bind_some, W_of h1 h2, W_of u1 u2]
    rfl
  · obtain rfl := huv h20
    have hor := or_ltv h2 hh hk
    have hs' : op = 5 ∨ op = 6 ∨ op = 7 ∨ op = 8 ∨ op = 9 ∨ op = 10 ∨ op = 11 ∨ op = 12 ∨ op = 13 ∨ op = 14 ∨ op = 15 ∨ op = 16 ∨ op = 17 ∨ op = 18 := by omega
    clear hs
    rcases hs' with rfl | rfl | rfl | rfl | rfl | rfl | rfl | rfl | rfl | rfl | rfl | rfl | rfl | rfl
    all_goals simp only [Int.reduceBEq, cond_false, cond_true, Int.reduceEq, if_true, if_false]
    · rw [mn_min]; rfl
    · rw [or64 (by omega) (by omega), fill_prog hor, mx_max]; rfl
    · rw [or64 (by omega) (by omega), fill_prog hor]; rfl
    · rw [sum_prog h1 h2 hl hh hm hk]; rfl
    · rw [dif_prog h1 h2 hl hh hm hk]; rfl
    · rw [mul_prog h1 h2 hl hh hm hk]; rfl
    · rw [div_prog h1 h2 hl hh hm hk]; rfl
    · rw [rem_prog (by omega) hm]; rfl
    · rw [shift_prog h1 h2 hl hh hm hk (by decide)]; rfl
    · rw [shift_prog h1 h2 hl hh hm hk (by decide)]; rfl
    · rw [shift_prog h1 h2 hl hh hm hk (by decide)]; rfl
    · rw [cmp_prog h1 h2 hl hh hm hk (by decide)]; rfl
    · rw [cmp_prog h1 h2 hl hh hm hk (by decide)]; rfl
    · rw [cmp_prog h1 h2 hl hh hm hk (by decide)]; rfl
theorem unary_prog {r x : Nat} (h1 : 1 ≤ v) (h2 : v ≤ 64) (r1 : 1 ≤ r) (r2 : r ≤ 64) (hx : x < 18446744073709551616) (hl : l ≤ h) (hh : h ≤ vmask v) {op : Int} (ho : op = 3 ∨ op = 4 ∨ op = 21 ∨ op = 22 ∨ op = 23) (hr : op = 3 ∨ op = 4 → r = v) (hr2 : op = 21 → x + r ≤ v) :
    ranges_unary.f op (r : Int) (x : Int) (v : Int) ((l : Int), (h : Int)) = some (cst (oneS op r v x l h)) := by
  have hM := vmask_lt h2
  have hR := vmask_lt r2
  have hp := pw_pos (v - 1)
  unfold ranges_unary.f ranges_unary.g oneS
  simp only [bits_Mask_eq, W_of h1 h2, W_of r1 r2, Option.bind_some, half_shr h1 h2, ranges_unary.p8_eq, ranges_unary.p12_eq, ranges_unary.p21_eq, ranges_Top_eq, MMn r1 r2, bits_Neg_eq _ (show l < 18446744073709551616 by omega), bits_Neg_eq _ (show h < 18446744073709551616 by omega), bits_Sext_eq _ _ (show l < 18446744073709551616 by omega), bits_Sext_eq _ _ (show h < 18446744073709551616 by omega)]
  rcases ho with rfl | rfl | rfl | rfl | rfl
  all_goals simp only [Int.reduceBEq, cond_false, cond_true, Int.reduceEq, if_true, if_false]
  · obtain rfl := hr (.inl rfl)
    rw [wrapu_sub_le hR (by omega), wrapu_sub_le hR (by omega)]; rfl
  · by_cases a : l = 0
    · subst a
      rw [show (((0 : Nat) : Int) == 0) = true from rfl, cond_true]
      by_cases b : 0 < h
      · rw [bifd_pos (by omega), if_pos ⟨rfl, b⟩]; rfl
      · rw [bifd_neg (by omega), if_neg (by omega)]; rfl
    · rw [show ((l : Int) == 0) = false by rw [beq_eq_false_iff_ne]; omega, cond_false, if_neg (by omega)]; rfl
  · have hxv := hr2 rfl
    rw [wrapu_of (by omega), wrapu_of (by omega), wrapu_add, Nat.mod_eq_of_lt (by omega), beq_nat, shr64 (by omega), shr64 (by omega)]
    have e : (bif decide (x + r = v) then bif decide ((x : Int) < 0) then none else bif decide ((x : Int) < 0) then none else some (((l >>> x : Nat) : Int), ((h >>> x : Nat) : Int)) else some ((0 : Int), (vmask r : Int))) = some (cst (if x + r = v then (l >>> x, h >>> x) else topS r)) := by
      by_cases c : x + r = v
      · rw [bifd_pos c, if_pos c, bifd_neg (by omega), bifd_neg (by omega)]; rfl
      · rw [bifd_neg c, if_neg c]; rfl
    rw [e]
    by_cases a : x = 0
    · rw [show ((x : Int) == 0) = true by subst a; rfl, cond_true]
      by_cases b : h ≤ vmask r
      · rw [bifd_pos (by omega), if_pos ⟨a, b⟩]; rfl
      · rw [bifd_neg (by omega), if_neg (show ¬ (x = 0 ∧ h ≤ vmask r) from fun c => b c.2)]
    · rw [show ((x : Int) == 0) = false by rw [beq_eq_false_iff_ne]; omega, cond_false, if_neg (show ¬ (x = 0 ∧ h ≤ vmask r) from fun c => a c.1)]
  · rfl
  · by_cases a : 2 ^ (v - 1) ≤ l
    · rw [if_pos a, bifd_pos (by omega)]; rfl
    · rw [if_neg a, bifd_neg (by omega)]
      by_cases b : 2 ^ (v - 1) ≤ h
      · rw [if_pos b, bifd_pos (by omega)]; rfl
      · rw [if_neg b, bifd_neg (by omega)]; rfl
theorem ref_half_eq (h1 : 1 ≤ v) (h2 : v ≤ 64) : saturateref13_half.f (v : Int) = some ((2 ^ (v - 1) : Nat) : Int) := by
  have hM := vmask_lt h2
  have := (half_eq h1).2
  have := Nat.div_le_self (vmask v) 2
  unfold saturateref13_half.f
  rw [saturateref01_Mask_eq, W_of h1 h2, Option.bind_some, show (2 : Int) = ((2 : Nat) : Int) from rfl, tdiv_nat, wrapu_of (by omega), show (1 : Int) = ((1 : Nat) : Int) from rfl, wrapu_add, Nat.mod_eq_of_lt (by omega)]
  congr 2
theorem vneg_small (h2 : v ≤ 64) {a : Nat} (ha : 0 < a) (hb : a ≤ vmask v) : vneg v a = vmask v - a + 1 := by
  have hp := pw_pos v
  unfold vneg
  unfold vmask at *
  rw [Nat.mod_eq_of_lt (show a < 2 ^ v by omega), Nat.mod_eq_of_lt (by omega)]; omega
theorem neg_ref {r : Nat} (r1 : 1 ≤ r) (r2 : r ≤ 64) (hl : l ≤ h) (hh : h ≤ vmask r) : saturateref13_neg.f (vmask r : Int) ((l : Int), (h : Int)) = some (cst (if l = 0 ∧ 0 < h then topS r else (vneg r h, vneg r l))) := by
  have hR := vmask_lt r2
  unfold saturateref13_neg.f
  by_cases a : h = 0
  · subst a
    obtain rfl : l = 0 := by omega
    have : vneg r 0 = 0 := by unfold vneg; rw [Nat.zero_mod, Nat.sub_zero, Nat.mod_self]
    rw [if_neg (by omega), this]; rfl
  · rw [show ((h : Int) == 0) = false by rw [beq_eq_false_iff_ne]; omega, cond_false]
    by_cases b : l = 0
    · subst b
      rw [if_pos ⟨rfl, by omega⟩]; rfl
    · rw [show ((l : Int) == 0) = false by rw [beq_eq_false_iff_ne]; omega, cond_false, if_neg (by omega), wrapu_sub_le hR (by omega), wrapu_sub_le hR (by omega), show (1 : Int) = ((1 : Nat) : Int) from rfl, wrapu_add, wrapu_add, Nat.mod_eq_of_lt (by omega), Nat.mod_eq_of_lt (by omega), vneg_small r2 (by omega) hh, vneg_small r2 (by omega) (by omega)]; rfl
theorem lt_two_pow' (n : Nat) : n < 2 ^ n := Nat.lt_two_pow_self
theorem vlshr_small {w a x : Nat} (ha : a ≤ vmask w) (hx : x < 2 ^ w) : vlshr w a x = a >>> x := by
  have hp := pw_pos w
  unfold vlshr
  unfold vmask at ha
  rw [Nat.mod_eq_of_lt (by omega), Nat.mod_eq_of_lt hx]
theorem extract_ref {r x : Nat} (h1 : 1 ≤ v) (h2 : v ≤ 64) (r1 : 1 ≤ r) (r2 : r ≤ 64) (hl : l ≤ h) (hh : h ≤ vmask v) (hxv : x + r ≤ v) :
    saturateref13_extract.f (r : Int) (x : Int) (v : Int) ((l : Int), (h : Int)) = some (cst (if x = 0 ∧ h ≤ vmask r then (l, h) else if x + r = v then (l >>> x, h >>> x) else topS r)) := by
  have hM := vmask_lt h2
  have hx2 : x < 2 ^ v := by have := lt_two_pow' v; omega
  unfold saturateref13_extract.f saturateref13_extract.g
  simp only [saturateref13_extract.p3_eq, saturateref01_Mask_eq, W_of h1 h2, W_of r1 r2, saturateref13_Top_eq, MMn r1 r2, Option.bind_some, saturateref01_Lshr_eq _ (show l < 18446744073709551616 by omega) (show x < 18446744073709551616 by omega), saturateref01_Lshr_eq _ (show h < 18446744073709551616 by omega) (show x < 18446744073709551616 by omega), vlshr_small (show l ≤ vmask v by omega) hx2, vlshr_small hh hx2]
  rw [wrapu_of (by omega), wrapu_of (by omega), wrapu_add, Nat.mod_eq_of_lt (by omega), beq_nat]
  have e : (bif decide (x + r = v) then some (((l >>> x : Nat) : Int), ((h >>> x : Nat) : Int)) else some ((0 : Int), (vmask r : Int))) = some (cst (if x + r = v then (l >>> x, h >>> x) else topS r)) := by
    by_cases c : x + r = v
    · rw [bifd_pos c, if_pos c]; rfl
    · rw [bifd_neg c, if_neg c]; rfl
  rw [e]
  by_cases a : x = 0
  · rw [show ((x : Int) == 0) = true by subst a; rfl, cond_true]
    by_cases b : h ≤ vmask r
    · rw [bifd_pos (by omega), if_pos ⟨a, b⟩]; rfl
    · rw [bifd_neg (by omega), if_neg (show ¬ (x = 0 ∧ h ≤ vmask r) from fun c => b c.2)]
  · rw [show ((x : Int) == 0) = false by rw [beq_eq_false_iff_ne]; omega, cond_false, if_neg (show ¬ (x = 0 ∧ h ≤ vmask r) from fun c => a c.1)]
theorem sext_ref {r : Nat} (h1 : 1 ≤ v) (h2 : v ≤ 64) (r1 : 1 ≤ r) (r2 : r ≤ 64) (hl : l ≤ h) (hh : h ≤ vmask v) :
    saturateref13_sext.f (r : Int) (v : Int) ((l : Int), (h : Int)) = some (cst (if 2 ^ (v - 1) ≤ l then (vsext v r l, vsext v r h) else if 2 ^ (v - 1) ≤ h then topS r else (l, h))) := by
  have hM := vmask_lt h2
  unfold saturateref13_sext.f
  simp only [ref_half_eq h1 h2, saturateref13_Top_eq, MMn r1 r2, Option.bind_some, saturateref01_Sext_eq _ _ (show l < 18446744073709551616 by omega), saturateref01_Sext_eq _ _ (show h < 18446744073709551616 by omega), W_of h1 h2, W_of r1 r2]
  by_cases a : 2 ^ (v - 1) ≤ l
  · rw [if_pos a, bifd_neg (by omega), bifd_pos (by omega)]; rfl
  · rw [if_neg a]
    by_cases b : 2 ^ (v - 1) ≤ h
    · rw [if_pos b, bifd_neg (by omega), bifd_neg (by omega)]; rfl
    · rw [if_neg b, bifd_pos (by omega)]; rfl
theorem sum_ref (h1 : 1 ≤ v) (h2 : v ≤ 64) (hl : l ≤ h) (hh : h ≤ vmask v) (hm : m ≤ k) (hk : k ≤ vmask v) : saturateref13_add.f (v : Int) ((l : Int), (h : Int)) ((m : Int), (k : Int)) = some (cst (sumS v l h m k)) := by
  have hM := vmask_lt h2
  unfold saturateref13_add.f saturateref13_over.f
  simp only [saturateref01_Mask_eq, saturateref13_Top_eq, Option.bind_some, W_of h1 h2, MMn h1 h2, saturateref01_Add_eq _ (show l < 18446744073709551616 by omega) (show m < 18446744073709551616 by omega), saturateref01_Add_eq _ (show h < 18446744073709551616 by omega) (show k < 18446744073709551616 by omega)]
  rw [wrapu_sub_le hM (by omega), wrapu_sub_le hM (by omega)]
  have e1 : decide ((h : Int) > ((vmask v - k : Nat) : Int)) = !decide (h + k ≤ vmask v) := dec_not (by omega)
  have e2 : decide ((l : Int) > ((vmask v - m : Nat) : Int)) = !decide (l + m ≤ vmask v) := dec_not (by omega)
  rw [e1, e2]; unfold sumS
  cases decide (h + k ≤ vmask v) <;> cases decide (l + m ≤ vmask v) <;> rfl
theorem dif_ref (h1 : 1 ≤ v) (h2 : v ≤ 64) (hl : l ≤ h) (hh : h ≤ vmask v) (hm : m ≤ k) (hk : k ≤ vmask v) : saturateref13_sub.f (v : Int) ((l : Int), (h : Int)) ((m : Int), (k : Int)) = some (cst (difS v l h m k)) := by
  have hM := vmask_lt h2
  unfold saturateref13_sub.f difS
  simp only [saturateref13_Top_eq, Option.bind_some, W_of h1 h2, MMn h1 h2, saturateref01_Sub_eq _ (show l < 18446744073709551616 by omega) (show k < 18446744073709551616 by omega), saturateref01_Sub_eq _ (show h < 18446744073709551616 by omega) (show m < 18446744073709551616 by omega), Int.ofNat_lt]
  cases decide (l < k) <;> cases decide (h < m) <;> rfl
theorem mul_ref (h1 : 1 ≤ v) (h2 : v ≤ 64) (hl : l ≤ h) (hh : h ≤ vmask v) (hm : m ≤ k) (hk : k ≤ vmask v) : saturateref13_mul.f (v : Int) ((l : Int), (h : Int)) ((m : Int), (k : Int)) = some (cst (mulS v l h m k)) := by
  have hM := vmask_lt h2
  have hlm : l * m ≤ h * k := Nat.mul_le_mul hl hm
  unfold saturateref13_mul.f saturateref13_mul.g mulS
  simp only [saturateref01_Mask_eq, saturateref13_Top_eq, Option.bind_some, W_of h1 h2, MMn h1 h2, saturateref13_mul.p3_eq, wrapu_mul, tdiv_nat]
  by_cases a : 0 < k
  · have hd : h * k ≤ vmask v ↔ h ≤ vmask v / k := (Nat.le_div_iff_mul_le a).symm
    have := Nat.div_le_self (vmask v) k
    have hw := wrapu_of (show vmask v / k < 18446744073709551616 by omega)
    rw [bifd_pos (by omega), bifd_neg (by omega)]
    simp only [hw]
    by_cases b : h * k ≤ vmask v
    · have := hd.1 b
      rw [if_pos b, bifd_neg (by omega), Nat.mod_eq_of_lt (by omega), Nat.mod_eq_of_lt (by omega)]; rfl
    · have : ¬ h ≤ vmask v / k := fun e => b (hd.2 e)
      rw [if_neg b, bifd_pos (by omega)]; rfl
  · obtain rfl : k = 0 := by omega
    obtain rfl : m = 0 := by omega
    rw [bifd_neg (by omega), if_pos (by omega)]; rfl
theorem shl_ref (h1 : 1 ≤ v) (h2 : v ≤ 64) (hl : l ≤ h) (hh : h ≤ vmask v) (hm : m ≤ k) (hk : k ≤ vmask v) : saturateref13_shl.f (v : Int) ((l : Int), (h : Int)) ((m : Int), (k : Int)) = some (cst (shlS v l h m k)) := by
  have hM := vmask_lt h2
  unfold saturateref13_shl.f shlS
  simp only [saturateref01_Mask_eq, saturateref13_Top_eq, Option.bind_some, W_of h1 h2, MMn h1 h2]
  by_cases a : m = k
  · subst a
    rw [if_neg (by simp), show ((m : Int) != (m : Int)) = false from bne_self_eq_false _, cond_false, wrapu_of (by omega)]
    by_cases b : v ≤ m
    · rw [if_pos b, bifd_pos (by omega)]; rfl
    · have hm64 : m < 2 ^ 64 := lt_pw (by omega)
      have hmv : m < 2 ^ v := by have := lt_two_pow' v; omega
      have hM2 : vmask v ≤ vmask 64 := by unfold vmask; rw [p64]; unfold vmask at hM; omega
      rw [if_neg b, bifd_neg (by omega), show (64 : Int) = ((64 : Nat) : Int) from rfl, saturateref01_Lshr_eq _ hM (by omega), W_of (by decide) (by decide), vlshr_small hM2 hm64, Option.bind_some]
      by_cases c : vmask v >>> m < h
      · rw [if_pos c, bifd_pos (by omega)]; rfl
      · rw [if_neg c, bifd_neg (by omega), saturateref01_Shl_eq _ (by omega) (by omega), Option.bind_some, saturateref01_Shl_eq _ (by omega) (by omega), Option.bind_some, W_of h1 h2]
        have hs : h <<< m ≤ vmask v := by
          rw [Nat.shiftLeft_eq]
          have : h ≤ vmask v / 2 ^ m := by rw [← Nat.shiftRight_eq_div_pow]; omega
          have := Nat.mul_le_mul_right (2 ^ m) this
          have := Nat.div_mul_le_self (vmask v) (2 ^ m)
          omega
        have hs2 : l <<< m ≤ vmask v := by
          rw [Nat.shiftLeft_eq] at hs ⊢
          have := Nat.mul_le_mul_right (2 ^ m) hl
          omega
        have hp := pw_pos v
        have e : ∀ a, a <<< m ≤ vmask v → vshl v a m = a <<< m := fun a ha => by
          unfold vshl; unfold vmask at ha
          rw [Nat.mod_eq_of_lt hmv, Nat.mod_eq_of_lt (by omega)]
        rw [e _ hs, e _ hs2]; rfl
  · rw [if_pos a, show ((m : Int) != (k : Int)) = true by rw [bne_iff_ne]; omega]; rfl
theorem shr_ref (h1 : 1 ≤ v) (h2 : v ≤ 64) (hl : l ≤ h) (hh : h ≤ vmask v) (hm : m ≤ k) (hk : k ≤ vmask v) : saturateref13_lshr.f (v : Int) ((l : Int), (h : Int)) ((m : Int), (k : Int)) = some (cst (shrS l h m k)) := by
  have hM := vmask_lt h2
  have hp := pw_pos v
  unfold saturateref13_lshr.f shrS
  by_cases a : m = k
  · subst a
    have hmv : m < 2 ^ v := by unfold vmask at hk; omega
    rw [if_neg (by simp), show ((m : Int) != (m : Int)) = false from bne_self_eq_false _, cond_false, saturateref01_Lshr_eq _ (by omega) (by omega), Option.bind_some, saturateref01_Lshr_eq _ (by omega) (by omega), Option.bind_some, W_of h1 h2, vlshr_small (by omega) hmv, vlshr_small hh hmv]; rfl
  · rw [if_pos a, show ((m : Int) != (k : Int)) = true by rw [bne_iff_ne]; omega]; rfl
theorem truth_ref (a b : Prop) [Decidable a] [Decidable b] : saturateref13_truth.f (decide a) (decide b) = some (cst (truS a b)) := by
  unfold saturateref13_truth.f; exact truS_bif a b
theorem ult_ref : saturateref13_ult.f ((l : Int), (h : Int)) ((m : Int), (k : Int)) = some (cst (ultS l h m k)) := by
  unfold saturateref13_ult.f
  simp only [Int.ofNat_lt, ge_iff_le, Int.ofNat_le, truth_ref, Option.bind_some]; rfl
theorem slt_ref (h1 : 1 ≤ v) (h2 : v ≤ 64) (hl : l ≤ h) (hm : m ≤ k) : saturateref13_slt.f (v : Int) ((l : Int), (h : Int)) ((m : Int), (k : Int)) = some (cst (sltS v l h m k)) := by
  unfold saturateref13_slt.f saturateref13_slt.g sltS
  simp only [ref_half_eq h1 h2, saturateref13_slt.p4_eq, ult_ref, Option.bind_some]
  by_cases a : h < 2 ^ (v - 1)
  · rw [bifd_pos (by omega)]
    by_cases b : k < 2 ^ (v - 1)
    · rw [bifd_pos (by omega), if_pos (.inl ⟨a, b⟩)]
    · rw [bifd_neg (by omega), bifd_neg (by omega), if_neg (by omega)]; rfl
  · rw [bifd_neg (by omega)]
    by_cases b : 2 ^ (v - 1) ≤ l
    · rw [bifd_pos (by omega)]
      by_cases c : 2 ^ (v - 1) ≤ m
      · rw [bifd_pos (by omega), if_pos (.inr ⟨b, c⟩)]
      · rw [bifd_neg (by omega), if_neg (by omega)]; rfl
    · rw [bifd_neg (by omega), if_neg (by omega)]; rfl
theorem two_ref {r : Nat} (h1 : 1 ≤ v) (h2 : v ≤ 64) (hl : l ≤ h) (hh : h ≤ vmask v) (hm : m ≤ k) (hk : k ≤ vmask v) {op : Int} (ho : 5 ≤ op) (ho2 : op ≤ 18) (hr : op ≤ 15 → r = v) :
    saturateref13_two.f op (r : Int) (v : Int) ((l : Int), (h : Int)) ((m : Int), (k : Int)) = some (cst (twoS op v v l h m k)) := by
  have hM := vmask_lt h2
  have hor := or_ltv h2 hh hk
  have hs : op = 5 ∨ op = 6 ∨ op = 7 ∨ op = 8 ∨ op = 9 ∨ op = 10 ∨ op = 11 ∨ op = 12 ∨ op = 13 ∨ op = 14 ∨ op = 15 ∨ op = 16 ∨ op = 17 ∨ op = 18 := by omega
  unfold saturateref13_two.f twoS
  rcases hs with rfl | rfl | rfl | rfl | rfl | rfl | rfl | rfl | rfl | rfl | rfl | rfl | rfl | rfl
  all_goals simp only [Int.reduceBEq, cond_false, cond_true, Int.reduceEq, if_true, if_false]
  · rw [mn_min]; rfl
  · rw [or64 (by omega) (by omega), fill_ref hor, mx_max]; rfl
  · rw [or64 (by omega) (by omega), fill_ref hor]; rfl
  · rw [hr (by decide), sum_ref h1 h2 hl hh hm hk]; rfl
  · rw [hr (by decide), dif_ref h1 h2 hl hh hm hk]; rfl
  · rw [hr (by decide), mul_ref h1 h2 hl hh hm hk]; rfl
  · rw [hr (by decide), saturateref13_Top_eq, MMn h1 h2]; unfold divS
    simp only [Option.bind_some]
    by_cases hc : m = 0
    · subst hc; rfl
    · rw [if_neg hc, show ((m : Int) == 0) = false by rw [beq_eq_false_iff_ne]; omega, cond_false, bifd_neg (by omega), bifd_neg (by omega), tdiv_nat, tdiv_nat]
      have := Nat.div_le_self l k
      have := Nat.div_le_self h m
      rw [wrapu_of (by omega), wrapu_of (by omega)]; rfl
  · rw [rem_ref (by omega) hm]; rfl
  · rw [hr (by decide), shl_ref h1 h2 hl hh hm hk]; rfl
  · rw [hr (by decide), shr_ref h1 h2 hl hh hm hk]; rfl
  · rw [hr (by decide), shr_ref h1 h2 hl hh hm hk, ref_half_eq h1 h2, saturateref13_Top_eq, MMn h1 h2]; unfold sarS
    simp only [Option.bind_some]
    by_cases a : h < 2 ^ (v - 1)
    · rw [if_pos a, bifd_pos (by omega)]
    · rw [if_neg a, bifd_neg (by omega)]; rfl
  · unfold eqlS
    by_cases a : l = h
    · subst a
      rw [show ((l : Int) == (l : Int)) = true from beq_self_eq_true _, cond_true]
      have e : (((l : Int) == (m : Int)) && (((l : Int) == (k : Int)) && true)) = decide (l = l ∧ m = k ∧ l = m) := by
        rw [beq_nat, beq_nat]
        by_cases x1 : l = m <;> by_cases x2 : l = k <;> simp [x1, x2] <;> omega
      rw [e]
      by_cases b : l < m
      · rw [bifd_pos (by omega), show true = decide (l < m ∨ k < l) from (decide_eq_true (.inl b)).symm, truth_ref]; rfl
      · rw [bifd_neg (by omega), show decide ((k : Int) < (l : Int)) = decide (l < m ∨ k < l) by rw [decide_eq_decide]; omega, truth_ref]; rfl
    · rw [show ((l : Int) == (h : Int)) = false by rw [beq_eq_false_iff_ne]; omega, cond_false, show false = decide (l = h ∧ m = k ∧ l = m) from (decide_eq_false (by omega)).symm]
      by_cases b : h < m
      · rw [bifd_pos (by omega), show true = decide (h < m ∨ k < l) from (decide_eq_true (.inl b)).symm, truth_ref]; rfl
      · rw [bifd_neg (by omega), show decide ((k : Int) < (l : Int)) = decide (h < m ∨ k < l) by rw [decide_eq_decide]; omega, truth_ref]; rfl
  · rw [ult_ref]; rfl
  · rw [slt_ref h1 h2 hl hm]; rfl
end
end Go.Proofs.YtcihbcffokjgjaaGreat.Fn
