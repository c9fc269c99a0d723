/- Every result is an element of the result's width, and every operator is monotone. -/
import Derived.Test.YtbfniopkadaheaaKg
namespace Go.Proofs.Ytbfniopkadaheaa.Fn
open Go Go.RowKit Go.Proofs.Ytbfniopkadaheaa.Ev Go.Proofs.Ytbfniopkadaheaa.Bv
set_option linter.unusedVariables false
set_option linter.unusedSimpArgs false

/-- a says at least what b says. -/
def Le (a b : Nat × Nat) : Prop := ∀ i, (b.1.testBit i = true → a.1.testBit i = true) ∧ (b.2.testBit i = true → a.2.testBit i = true)
theorem or_eq_iff {x y : Nat} : x ||| y = x ↔ ∀ i, y.testBit i = true → x.testBit i = true := by
  constructor
  · intro h i
    have := bit_of h i
    rw [Nat.testBit_or] at this
    revert this; cases x.testBit i <;> cases y.testBit i <;> decide
  · intro h
    refine bits_ext fun i => ?_
    have := h i
    rw [Nat.testBit_or]
    revert this; cases x.testBit i <;> cases y.testBit i <;> decide
theorem kle_iff {a b : Nat × Nat} : kle a b ↔ Le a b := by
  unfold kle Le
  rw [or_eq_iff, or_eq_iff]
  exact ⟨fun h i => ⟨h.1 i, h.2 i⟩, fun h => ⟨fun i => (h i).1, fun i => (h i).2⟩⟩
theorem le_refl' (a : Nat × Nat) : Le a a := fun i => ⟨id, id⟩
theorem le_top (a : Nat × Nat) : Le a (0, 0) := fun i => ⟨fun h => by simp at h, fun h => by simp at h⟩
theorem le_trans' {a b c : Nat × Nat} (h1 : Le a b) (h2 : Le b c) : Le a c := fun i => ⟨fun h => (h1 i).1 ((h2 i).1 h), fun h => (h1 i).2 ((h2 i).2 h)⟩
theorem le_bld {n : Nat} {f g f' g' : Nat → Bool} (h : ∀ i, i < n → (f' i = true → f i = true) ∧ (g' i = true → g i = true)) : Le (bld f n, bld g n) (bld f' n, bld g' n) := by
  intro i
  show ((bld f' n).testBit i = true → (bld f n).testBit i = true) ∧ ((bld g' n).testBit i = true → (bld g n).testBit i = true)
  rw [testBit_bld, testBit_bld, testBit_bld, testBit_bld]
  by_cases hi : i < n
  · have := h i hi
    rw [decide_eq_true hi]; simpa using this
  · rw [decide_eq_false hi]; exact ⟨fun h => by simp at h, fun h => by simp at h⟩
theorem El.mk' {w : Nat} (hw : w ≤ 64) {k : Nat × Nat} (h1 : k.1 ≤ vmask w) (h2 : k.2 ≤ vmask w) (hd : ∀ i, k.1.testBit i = true → k.2.testBit i = false) : El w k := by
  have hm := vmask_lt hw
  have l1 : k.1 < U64 := Nat.lt_of_le_of_lt h1 hm
  have l2 : k.2 < U64 := Nat.lt_of_le_of_lt h2 hm
  refine ⟨l1, l2, (kok_iff hw l1 l2).2 ⟨bits_ext fun i => ?_, h1, h2⟩⟩
  have := hd i
  rw [Nat.testBit_and, Nat.zero_testBit]
  revert this; cases k.1.testBit i <;> cases k.2.testBit i <;> decide
theorem el_top {w : Nat} (hw : w ≤ 64) : El w (0, 0) := El.mk' hw (Nat.zero_le _) (Nat.zero_le _) (fun i h => by simp at h)
theorem and_le_mask {w x y : Nat} (h : x ≤ vmask w) : x &&& y ≤ vmask w := Nat.le_trans Nat.and_le_left h
theorem vmask_mono {m n : Nat} (h : m ≤ n) : vmask m ≤ vmask n := by have := Nat.pow_le_pow_right (n := 2) (by decide) h; unfold vmask; omega
theorem uFG {v x : Nat} {k : Nat × Nat} (hk : El v k) (op : Int) (i : Nat) : uF op x v k i = true → uG op x v k i = false := by
  have h1 := hk.dis (i + x)
  have h2 := hk.dis i
  have h3 := hk.dis (v - 1)
  unfold uF uG
  split
  · exact h1
  · split
    · exact h2
    · split
      · exact h3
      · intro _; rfl
theorem el_una {op : Int} {r x v : Nat} {k : Nat × Nat} (hk : El v k) (v2 : v ≤ 64) (r2 : r ≤ 64) (hr : op = 3 ∨ op = 4 → r = v) : El r (kunaS op r x v k) := by
  unfold kunaS
  split
  · obtain rfl := hr (by omega)
    exact El.mk' v2 (hk.m2 v2) (hk.m1 v2) (fun i h => by
      have := hk.dis i
      revert this h; cases k.1.testBit i <;> cases k.2.testBit i <;> simp)
  · split
    · obtain rfl := hr (by omega)
      exact el_sum v2 _ _ _
    · exact El.of_bits r2 fun i _ => uFG hk op i
theorem el_bin {op : Int} {r v u : Nat} {a b : Nat × Nat} (h5 : 5 ≤ op) (h20 : op ≤ 20) (h19 : op ≠ 19) (ha : El v a) (hb : El u b) (v1 : 1 ≤ v) (v2 : v ≤ 64) (u2 : u ≤ 64) (r1 : 1 ≤ r) (r2 : r ≤ 64) (hu : op ≠ 20 → u = v) (hr : 5 ≤ op ∧ op ≤ 15 → r = v) (hr1 : op = 16 → r = 1) (hr20 : op = 20 → r = v + u) : El r (kbinS op r v u a b) := by
  unfold kbinS
  split
  · obtain rfl := hu (by omega)
    obtain rfl := hr (by omega)
    refine El.mk' v2 (or_le_mask.2 ⟨ha.m1 v2, hb.m1 v2⟩) (and_le_mask (ha.m2 v2)) fun i => ?_
    have h1 := ha.dis i
    have h2 := hb.dis i
    simp only [Nat.testBit_or, Nat.testBit_and]
    revert h1 h2; cases a.1.testBit i <;> cases a.2.testBit i <;> cases b.1.testBit i <;> cases b.2.testBit i <;> decide
  · split
    · obtain rfl := hu (by omega)
      obtain rfl := hr (by omega)
      refine El.mk' v2 (and_le_mask (ha.m1 v2)) (or_le_mask.2 ⟨ha.m2 v2, hb.m2 v2⟩) fun i => ?_
      have h1 := ha.dis i
      have h2 := hb.dis i
      simp only [Nat.testBit_or, Nat.testBit_and]
      revert h1 h2; cases a.1.testBit i <;> cases a.2.testBit i <;> cases b.1.testBit i <;> cases b.2.testBit i <;> decide
    · split
      · obtain rfl := hu (by omega)
        obtain rfl := hr (by omega)
        refine El.mk' v2 (or_le_mask.2 ⟨and_le_mask (ha.m1 v2), and_le_mask (ha.m2 v2)⟩) (or_le_mask.2 ⟨and_le_mask (ha.m1 v2), and_le_mask (ha.m2 v2)⟩) fun i => ?_
        have h1 := ha.dis i
        have h2 := hb.dis i
        simp only [Nat.testBit_or, Nat.testBit_and]
        revert h1 h2; cases a.1.testBit i <;> cases a.2.testBit i <;> cases b.1.testBit i <;> cases b.2.testBit i <;> decide
      · split
        · obtain rfl := hr (by omega); exact el_sum v2 _ _ _
        · split
          · obtain rfl := hr (by omega); exact el_sum v2 _ _ _
          · split
            · obtain rfl := hr20 (by omega)
              unfold kconS
              rw [concat_bld r2 _ _ (lt_of_le_mask (ha.m1 v2)) (lt_of_le_mask (hb.m1 u2)), concat_bld r2 _ _ (lt_of_le_mask (ha.m2 v2)) (lt_of_le_mask (hb.m2 u2))]
              exact El.of_bits r2 fun i _ => cFG ha hb i
            · split
              · obtain rfl := hr1 (by omega)
                unfold keqS
                split
                · exact el_cst (by decide) (by decide) _
                · split
                  · exact el_cst (by decide) (by decide) _
                  · exact el_top (by decide)
              · split
                · obtain rfl := hr (by omega)
                  split
                  · exact el_sh ha v2 _
                  · exact el_top v2
                · split
                  · obtain rfl := hr (by omega)
                    unfold ktimS
                    split
                    · exact el_cst v1 v2 _
                    · exact El.mk' v2 (vmask_mono (Nat.min_le_left _ _)) (Nat.zero_le _) (fun i _ => Nat.zero_testBit i)
                  · unfold kexS
                    split
                    · exact el_cst r1 r2 _
                    · split
                      · obtain rfl := hr (by omega)
                        exact el_rem ha v2
                      · exact el_top r2
theorem el_ite {r : Nat} {c a b : Nat × Nat} (r2 : r ≤ 64) (ha : El r a) (hb : El r b) : El r (kiteS c a b) := by
  unfold kiteS
  split
  · split
    · exact ha
    · exact hb
  · refine El.mk' r2 (and_le_mask (ha.m1 r2)) (and_le_mask (ha.m2 r2)) fun i => ?_
    have h1 := ha.dis i
    simp only [Nat.testBit_and]
    revert h1; cases a.1.testBit i <;> cases a.2.testBit i <;> cases b.1.testBit i <;> cases b.2.testBit i <;> decide

/-! ### monotone -/
theorem le_one {w : Nat} (hw : w ≤ 64) {a b : Nat × Nat} (ha : El w a) (hb : El w b) (h : Le a b) (h1 : kone w b) : a = b := by
  refine Prod.ext (bits_ext fun i => ?_) (bits_ext fun i => ?_) <;>
  · have q := kone_bit hw hb h1 i
    have g := h i
    have d1 := ha.dis i
    have d2 := hb.dis i
    by_cases hi : i < w
    · rw [decide_eq_true hi] at q
      revert q g d1 d2
      cases a.1.testBit i <;> cases a.2.testBit i <;> cases b.1.testBit i <;> cases b.2.testBit i <;> decide
    · first | rw [ha.b1 hw (by omega), hb.b1 hw (by omega)] | rw [ha.b2 hw (by omega), hb.b2 hw (by omega)]
theorem chain4 {p' p q q' : Bool} (h1 : p' = true → p = true) (h2 : p = true → q = true) (h3 : q = true → q' = true) (h : (p' == q') = true) : p = p' ∧ q = p' ∧ q' = p' := by
  revert h1 h2 h3 h; cases p' <;> cases p <;> cases q <;> cases q' <;> decide
theorem dis_of {a : Nat × Nat} (ka : a.1 &&& a.2 = 0) (j : Nat) (hj : j < 64) : a.2.testBit j = true → (vnot 64 a.1).testBit j = true := by
  have := bit_of ka j
  rw [Nat.testBit_and, Nat.zero_testBit] at this
  rw [vnot64_bit hj]
  revert this; cases a.1.testBit j <;> cases a.2.testBit j <;> decide
theorem le_sum {w c : Nat} (hc : c ≤ 1) (hw : w ≤ 64) {a b a' b' : Nat × Nat} (ka : a.1 &&& a.2 = 0) (kb : b.1 &&& b.2 = 0) (h1 : Le a a') (h2 : Le b b') : Le (ksum w c a b) (ksum w c a' b') := by
  refine le_bld fun i hi => ?_
  have key : opn c a'.2 b'.2 (vnot 64 a'.1) (vnot 64 b'.1) i = false → opn c a.2 b.2 (vnot 64 a.1) (vnot 64 b.1) i = false ∧ sbit c a.2 b.2 i = sbit c a'.2 b'.2 i := by
    unfold opn
    intro h
    rw [Bool.not_eq_false', Bool.and_eq_true, Bool.and_eq_true] at h
    have mv : ∀ {x x' : Nat × Nat}, Le x x' → ∀ j, j < 64 → (vnot 64 x.1).testBit j = true → (vnot 64 x'.1).testBit j = true := by
      intro x x' hx j hj
      rw [vnot64_bit hj, vnot64_bit hj]
      have := (hx j).1
      revert this; cases x.1.testBit j <;> cases x'.1.testBit j <;> decide
    obtain ⟨e1, e2, e3⟩ := chain4 (h1 i).2 (dis_of ka i (by omega)) (mv h1 i (by omega)) h.1.1
    obtain ⟨f1, f2, f3⟩ := chain4 (h2 i).2 (dis_of kb i (by omega)) (mv h2 i (by omega)) h.1.2
    obtain ⟨g1, g2, g3⟩ := chain4 (car_mono hc i (fun j _ => (h1 j).2) (fun j _ => (h2 j).2)) (car_mono hc i (fun j hj => dis_of ka j (by omega)) (fun j hj => dis_of kb j (by omega))) (car_mono hc i (fun j hj => mv h1 j (by omega)) (fun j hj => mv h2 j (by omega))) h.2
    unfold sbit
    rw [e1, e2, f1, f2, g1, g2]
    simp
  unfold sumZ sumO
  cases ho : opn c a'.2 b'.2 (vnot 64 a'.1) (vnot 64 b'.1) i with
  | true => exact ⟨fun h => by simp at h, fun h => by simp at h⟩
  | false =>
    obtain ⟨k1, k2⟩ := key ho
    rw [k1, k2]; exact ⟨id, id⟩
theorem le_swap {a b : Nat × Nat} (h : Le a b) : Le (a.2, a.1) (b.2, b.1) := fun i => ⟨(h i).2, (h i).1⟩
theorem le_una {op : Int} {r x v : Nat} {a b : Nat × Nat} (ha : El v a) (v1 : 1 ≤ v) (v2 : v ≤ 64) (h : Le a b) : Le (kunaS op r x v a) (kunaS op r x v b) := by
  unfold kunaS
  split
  · exact le_swap h
  · split
    · refine le_sum (by decide) v2 (el_cst v1 v2 0).and ?_ (le_refl' _) (le_swap h)
      rw [Nat.and_comm]; exact ha.and
    · refine le_bld fun i _ => ?_
      unfold uF uG
      split
      · exact h _
      · split
        · exact h _
        · split
          · exact h _
          · exact ⟨id, id⟩
theorem le_mov {w : Nat} (hw : w ≤ 64) {a b : Nat × Nat} (h : Le a b) {by_ : Int} {fz fo fz' fo' : Bool} (h1 : fz' = true → fz = true) (h2 : fo' = true → fo = true) : Le (kmovS w a by_ fz fo) (kmovS w b by_ fz' fo') := by
  refine le_bld fun i hi => ?_
  unfold mF mG shf
  by_cases q : (i : Int) + by_ < (w : Int)
  · rw [if_pos q, if_pos q, if_pos q, if_pos q]
    by_cases q2 : 0 ≤ (i : Int) + by_
    · rw [if_pos q2, if_pos q2, if_pos q2, if_pos q2, vnot64_bit (by omega), vnot64_bit (by omega), Bool.not_not, Bool.not_not]; exact h _
    · rw [if_neg q2, if_neg q2, if_neg q2, if_neg q2]; exact ⟨id, id⟩
  · rw [if_neg q, if_neg q, if_neg q, if_neg q, Bool.not_not, Bool.not_not]; exact ⟨h1, h2⟩
theorem le_sh {op : Int} {w : Nat} (hw : w ≤ 64) {a b : Nat × Nat} (h : Le a b) (n : Nat) : Le (kshS op w a n) (kshS op w b n) := by
  unfold kshS
  split
  · exact le_mov hw h id id
  · split
    · exact le_mov hw h id id
    · exact le_mov hw h (h _).1 (h _).2
theorem lowF_mono {f g : Nat → Bool} (h : ∀ i, f i = true → g i = true) (d : Nat) : ∀ i, lowF f d i ≤ lowF g d i := by
  induction d with
  | zero => intro i; exact Nat.le_refl _
  | succ d ih =>
    intro i
    rw [lowF_succ, lowF_succ]
    cases hf : f i with
    | false =>
      have h1 := lowF_ge g d (i + 1)
      rw [if_neg (by decide)]; split <;> omega
    | true => rw [h i hf]; simpa using ih (i + 1)
theorem klow_mono {w : Nat} {a b : Nat × Nat} (h : Le a b) : klow w b ≤ klow w a := lowF_mono (fun i => (h i).1) w 0
theorem klow_bits {w : Nat} {k : Nat × Nat} {j : Nat} (h : j < klow w k) : k.1.testBit j = true := lowF_all _ w 0 j (Nat.zero_le _) h
theorem low_dvd {x n : Nat} (h : ∀ j, j < n → x.testBit j = false) : 2 ^ n ∣ x := by
  apply Nat.dvd_of_mod_eq_zero
  refine bits_ext fun i => ?_
  rw [Nat.testBit_mod_two_pow, Nat.zero_testBit]
  by_cases hi : i < n
  · rw [h i hi]; simp
  · rw [decide_eq_false hi]; rfl
theorem dvd_low {x n : Nat} (h : 2 ^ n ∣ x) {j : Nat} (hj : j < n) : x.testBit j = false := by
  obtain ⟨q, rfl⟩ := h
  rw [Nat.mul_comm, Nat.testBit_mul_two_pow, decide_eq_false (by omega)]; rfl
theorem mul_low {w : Nat} {a b : Nat × Nat} (ha : El w a) (hb : El w b) {j : Nat} (hj : j < ktim w a b) : (a.2 * b.2).testBit j = false := by
  have h1 : 2 ^ klow w a ∣ a.2 := low_dvd fun j hj => ha.dis j (klow_bits hj)
  have h2 : 2 ^ klow w b ∣ b.2 := low_dvd fun j hj => hb.dis j (klow_bits hj)
  have h3 := Nat.mul_dvd_mul h1 h2
  rw [← Nat.pow_add] at h3
  exact dvd_low h3 (by unfold ktim at hj; omega)
theorem le_low {n : Nat} {a : Nat × Nat} (h : ∀ j, j < n → a.1.testBit j = true) : Le a (vmask n, 0) := fun i => ⟨fun hi => by
  simp only [testBit_mask, decide_eq_true_iff] at hi
  exact h i hi, fun hi => by simp at hi⟩
theorem le_tim {w : Nat} (w1 : 1 ≤ w) (w2 : w ≤ 64) {a b a' b' : Nat × Nat} (ha : El w a) (hb : El w b) (ha' : El w a') (hb' : El w b') (h1 : Le a a') (h2 : Le b b') : Le (ktimS w a b) (ktimS w a' b') := by
  unfold ktimS
  by_cases q : kone w a' ∧ kone w b'
  · rw [le_one w2 ha ha' h1 q.1, le_one w2 hb hb' h2 q.2]; exact le_refl' _
  · rw [if_neg q]
    have m1 := klow_mono (w := w) h1
    have m2 := klow_mono (w := w) h2
    refine le_low fun j hj => ?_
    have hj2 : j < ktim w a b := by unfold ktim at hj ⊢; omega
    have hjw : j < w := by unfold ktim at hj; omega
    split
    · rw [kcst_bit1, decide_eq_true hjw]
      unfold vmul
      rw [Nat.testBit_mod_two_pow, mul_low ha hb hj2]; simp
    · simp only [testBit_mask]; exact decide_eq_true hj2
theorem le_ex {op : Int} {w r : Nat} (w1 : 1 ≤ w) (w2 : w ≤ 64) (hr : op = 12 → r = w) {a b a' b' : Nat × Nat} (ha : El w a) (hb : El w b) (ha' : El w a') (hb' : El w b') (h1 : Le a a') (h2 : Le b b') : Le (kexS op w r a b) (kexS op w r a' b') := by
  unfold kexS
  by_cases q : kone w a' ∧ kone w b'
  · rw [le_one w2 ha ha' h1 q.1, le_one w2 hb hb' h2 q.2]; exact le_refl' _
  · rw [if_neg q]
    by_cases q2 : op = 12 ∧ kone w b' ∧ ones b'.2 = 1
    · obtain ⟨rfl, k1, k2⟩ := q2
      obtain rfl := hr rfl
      obtain rfl := le_one w2 hb hb' h2 k1
      obtain ⟨m, hm, e⟩ := ones_one hb.l2 k2
      have hmw : m < r := by
        have h2 := lt_of_le_mask (hb.m2 w2)
        rw [e] at h2
        exact (Nat.pow_lt_pow_iff_right (by decide)).1 h2
      rw [if_pos (show (12 : Int) = 12 ∧ kone r b ∧ ones b.2 = 1 from ⟨rfl, k1, k2⟩), if_pos (show (12 : Int) = 12 ∧ kone r b ∧ ones b.2 = 1 from ⟨rfl, k1, k2⟩), e, klog_pow]
      by_cases q3 : kone r a
      · rw [if_pos (show kone r a ∧ kone r b from ⟨q3, k1⟩)]
        intro i
        rw [kcst_bit1, kcst_bit2]
        have hv : kval 12 r a.2 (2 ^ m) = a.2 % 2 ^ m := by
          show vurem r a.2 (2 ^ m) = _
          unfold vurem
          have hp := pw_pos m
          have hlt := Nat.pow_lt_pow_right (a := 2) (by decide) hmw
          rw [Nat.mod_eq_of_lt hlt, if_neg (by omega), cut_of_le (ha.m2 w2)]
        rw [hv, Nat.testBit_mod_two_pow]
        show ((bld _ r).testBit i = true → _) ∧ ((bld _ r).testBit i = true → _)
        rw [testBit_bld, testBit_bld]
        have h3 := h1 i
        have h4 := ha.dis i
        by_cases hi : i < r
        · rw [decide_eq_true hi]
          by_cases hj : i < m
          · rw [decide_eq_true hj, if_pos hj, if_pos hj]
            revert h3 h4; cases a.1.testBit i <;> cases a.2.testBit i <;> cases a'.1.testBit i <;> cases a'.2.testBit i <;> decide
          · rw [decide_eq_false hj, if_neg hj, if_neg hj]; simp
        · rw [decide_eq_false hi]; simp
      · rw [if_neg (show ¬ (kone r a ∧ kone r b) from fun h => q3 h.1)]
        refine le_bld fun i _ => ?_
        split
        · exact h1 i
        · exact ⟨id, id⟩
    · rw [if_neg q2]; exact le_top _
theorem le_eq {w : Nat} (w2 : w ≤ 64) {a b a' b' : Nat × Nat} (ha : El w a) (hb : El w b) (ha' : El w a') (hb' : El w b') (h1 : Le a a') (h2 : Le b b') : Le (keqS w a b) (keqS w a' b') := by
  unfold keqS
  have sub : ∀ {x y x' y' : Nat}, (∀ i, x'.testBit i = true → x.testBit i = true) → (∀ i, y'.testBit i = true → y.testBit i = true) → x' &&& y' ≠ 0 → x &&& y ≠ 0 := by
    intro x y x' y' hx hy hn e
    refine hn (bits_ext fun i => ?_)
    have q := bit_of e i
    have hx := hx i
    have hy := hy i
    rw [Nat.testBit_and, Nat.zero_testBit] at q ⊢
    revert q hx hy; cases x.testBit i <;> cases y.testBit i <;> cases x'.testBit i <;> cases y'.testBit i <;> decide
  by_cases q : a'.1 &&& b'.2 ≠ 0 ∨ a'.2 &&& b'.1 ≠ 0
  · have : a.1 &&& b.2 ≠ 0 ∨ a.2 &&& b.1 ≠ 0 := by
      rcases q with q | q
      · exact .inl (sub (fun i => (h1 i).1) (fun i => (h2 i).2) q)
      · exact .inr (sub (fun i => (h1 i).2) (fun i => (h2 i).1) q)
    rw [if_pos q, if_pos this]; exact le_refl' _
  · rw [if_neg q]
    by_cases q2 : kone w a' ∧ kone w b' ∧ a'.2 = b'.2
    · obtain rfl := le_one w2 ha ha' h1 q2.1
      obtain rfl := le_one w2 hb hb' h2 q2.2.1
      rw [if_neg q]; exact le_refl' _
    · rw [if_neg q2]; exact le_top _
theorem le_con {v u : Nat} (huv : v + u ≤ 64) {a b a' b' : Nat × Nat} (ha : El v a) (hb : El u b) (ha' : El v a') (hb' : El u b') (h1 : Le a a') (h2 : Le b b') : Le (kconS v u a b) (kconS v u a' b') := by
  unfold kconS
  rw [concat_bld huv _ _ (lt_of_le_mask (ha.m1 (by omega))) (lt_of_le_mask (hb.m1 (by omega))), concat_bld huv _ _ (lt_of_le_mask (ha.m2 (by omega))) (lt_of_le_mask (hb.m2 (by omega))),
    concat_bld huv _ _ (lt_of_le_mask (ha'.m1 (by omega))) (lt_of_le_mask (hb'.m1 (by omega))), concat_bld huv _ _ (lt_of_le_mask (ha'.m2 (by omega))) (lt_of_le_mask (hb'.m2 (by omega)))]
  refine le_bld fun i _ => ?_
  unfold cF
  split
  · exact h1 _
  · exact h2 _
theorem mono_or {x y x' y' : Bool} (h1 : x' = true → x = true) (h2 : y' = true → y = true) : (x' || y') = true → (x || y) = true := by
  revert h1 h2; cases x <;> cases y <;> cases x' <;> cases y' <;> decide
theorem mono_and {x y x' y' : Bool} (h1 : x' = true → x = true) (h2 : y' = true → y = true) : (x' && y') = true → (x && y) = true := by
  revert h1 h2; cases x <;> cases y <;> cases x' <;> cases y' <;> decide
theorem le_bin {op : Int} {r v u : Nat} (v1 : 1 ≤ v) (v2 : v ≤ 64) (huv : op = 20 → v + u ≤ 64) (hu : op ≠ 20 → u = v) (hr : op = 12 → r = v) {a b a' b' : Nat × Nat} (ha : El v a) (hb : El u b) (ha' : El v a') (hb' : El u b') (h1 : Le a a') (h2 : Le b b') : Le (kbinS op r v u a b) (kbinS op r v u a' b') := by
  unfold kbinS
  have bits : ∀ i, (a'.1.testBit i = true → a.1.testBit i = true) ∧ (a'.2.testBit i = true → a.2.testBit i = true) ∧ (b'.1.testBit i = true → b.1.testBit i = true) ∧ (b'.2.testBit i = true → b.2.testBit i = true) := fun i => ⟨(h1 i).1, (h1 i).2, (h2 i).1, (h2 i).2⟩
  split
  · intro i
    obtain ⟨q1, q2, q3, q4⟩ := bits i
    simp only [Nat.testBit_or, Nat.testBit_and]
    exact ⟨mono_or q1 q3, mono_and q2 q4⟩
  · split
    · intro i
      obtain ⟨q1, q2, q3, q4⟩ := bits i
      simp only [Nat.testBit_or, Nat.testBit_and]
      exact ⟨mono_and q1 q3, mono_or q2 q4⟩
    · split
      · intro i
        obtain ⟨q1, q2, q3, q4⟩ := bits i
        simp only [Nat.testBit_or, Nat.testBit_and]
        exact ⟨mono_or (mono_and q1 q3) (mono_and q2 q4), mono_or (mono_and q1 q4) (mono_and q2 q3)⟩
      · split
        · exact le_sum (by decide) v2 ha.and hb.and h1 h2
        · split
          · exact le_sum (by decide) v2 ha.and (by rw [Nat.and_comm]; exact hb.and) h1 (le_swap h2)
          · split
            · exact le_con (huv (by omega)) ha hb ha' hb' h1 h2
            · obtain rfl := hu (by omega)
              split
              · exact le_eq v2 ha hb ha' hb' h1 h2
              · split
                · by_cases q : kone u b'
                  · obtain rfl := le_one v2 hb hb' h2 q
                    rw [if_pos q, if_pos q]; exact le_sh v2 h1 _
                  · rw [if_neg q]; exact le_top _
                · split
                  · exact le_tim v1 v2 ha hb ha' hb' h1 h2
                  · exact le_ex v1 v2 hr ha hb ha' hb' h1 h2
theorem le_ite {c a b c' a' b' : Nat × Nat} (hc : El 1 c) (hc' : El 1 c') (h0 : Le c c') (h1 : Le a a') (h2 : Le b b') : Le (kiteS c a b) (kiteS c' a' b') := by
  unfold kiteS
  by_cases q : kone 1 c'
  · obtain rfl := le_one (by decide) hc hc' h0 q
    rw [if_pos q, if_pos q]
    split
    · exact h1
    · exact h2
  · rw [if_neg q]
    have e : ∀ i, (a'.1 &&& b'.1).testBit i = true → a.1.testBit i = true ∧ b.1.testBit i = true := fun i h => by
      rw [Nat.testBit_and, Bool.and_eq_true] at h; exact ⟨(h1 i).1 h.1, (h2 i).1 h.2⟩
    have f : ∀ i, (a'.2 &&& b'.2).testBit i = true → a.2.testBit i = true ∧ b.2.testBit i = true := fun i h => by
      rw [Nat.testBit_and, Bool.and_eq_true] at h; exact ⟨(h1 i).2 h.1, (h2 i).2 h.2⟩
    split
    · split
      · exact fun i => ⟨fun h => (e i h).1, fun h => (f i h).1⟩
      · exact fun i => ⟨fun h => (e i h).2, fun h => (f i h).2⟩
    · exact fun i => ⟨fun h => by have := e i h; rw [Nat.testBit_and, this.1, this.2]; rfl, fun h => by have := f i h; rw [Nat.testBit_and, this.1, this.2]; rfl⟩
end Go.Proofs.Ytbfniopkadaheaa.Fn
