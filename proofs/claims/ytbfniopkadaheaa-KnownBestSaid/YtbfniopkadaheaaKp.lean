/- The best element: where the result leaves a bit open, operands' values reach both values of the bit. -/
import Derived.Test.YtbfniopkadaheaaKn
namespace Go.Proofs.Ytbfniopkadaheaa.Fn
open Go Go.RowKit Go.Proofs.Ytbfniopkadaheaa.Ev Go.Proofs.Ytbfniopkadaheaa.Bv
set_option linter.unusedVariables false
set_option linter.unusedSimpArgs false
set_option maxRecDepth 100000

/-- Bit i of the element's values may be c. -/
def may (k : Nat × Nat) (i : Nat) (c : Bool) : Prop := (c = true → k.1.testBit i = false) ∧ (c = false → k.2.testBit i = false)
/-- The value y of width w is the element's. -/
def inK (w : Nat) (k : Nat × Nat) (y : Nat) : Prop := y < 2 ^ w ∧ ∀ j, (k.1.testBit j = true → y.testBit j = false) ∧ (k.2.testBit j = true → y.testBit j = true)
theorem inK_has {w : Nat} {k : Nat × Nat} {y : Nat} : inK w k y ↔ y < 2 ^ w ∧ khas k y := by
  unfold inK khas
  constructor
  · rintro ⟨h1, h⟩
    refine ⟨h1, bits_ext fun i => ?_, bits_ext fun i => ?_⟩ <;>
    · have q := h i
      rw [Nat.testBit_and]
      first | rw [Nat.zero_testBit] | skip
      revert q; cases k.1.testBit i <;> cases k.2.testBit i <;> cases y.testBit i <;> decide
  · rintro ⟨h1, h2, h3⟩
    refine ⟨h1, fun i => ?_⟩
    have q1 := bit_of h2 i
    have q2 := bit_of h3 i
    rw [Nat.testBit_and] at q1 q2
    rw [Nat.zero_testBit] at q1
    revert q1 q2; cases k.1.testBit i <;> cases k.2.testBit i <;> cases y.testBit i <;> decide
theorem in_least {w : Nat} (hw : w ≤ 64) {k : Nat × Nat} (hk : El w k) : inK w k k.2 :=
  ⟨lt_of_le_mask (hk.m2 hw), fun j => ⟨hk.dis j, id⟩⟩
theorem pick {w : Nat} (hw : w ≤ 64) {k : Nat × Nat} (hk : El w k) {i : Nat} (hi : i < w) {c : Bool} (h : may k i c) : ∃ y, inK w k y ∧ y.testBit i = c ∧ ∀ j, j ≠ i → y.testBit j = k.2.testBit j := by
  cases c with
  | false => exact ⟨k.2, in_least hw hk, h.2 rfl, fun _ _ => rfl⟩
  | true =>
    have h1 := h.1 rfl
    have hb : ∀ j, (k.2 ||| 2 ^ i).testBit j = (k.2.testBit j || decide (i = j)) := fun j => by rw [Nat.testBit_or, Nat.testBit_two_pow]
    refine ⟨k.2 ||| 2 ^ i, ⟨Nat.or_lt_two_pow (lt_of_le_mask (hk.m2 hw)) (Nat.pow_lt_pow_right (by decide) hi), fun j => ?_⟩, ?_, fun j hj => ?_⟩
    · rw [hb]
      by_cases e : i = j
      · subst e; rw [h1]; simp
      · rw [decide_eq_false e, Bool.or_false]; exact ⟨hk.dis j, id⟩
    · rw [hb]; simp
    · rw [hb, decide_eq_false (fun e => hj e.symm), Bool.or_false]
/-- A sum's bit: one of the values, and the other if it is open. -/
theorem sum_tight {w c : Nat} (hc : c ≤ 1) (hw : w ≤ 64) {a b : Nat × Nat} (ha : El w a) (hb : El w b) {i : Nat} (hi : i < w) {s : Bool} (h : may (ksum w c a b) i s) : ∃ x y, inK w a x ∧ inK w b y ∧ (x + y + c).testBit i = s := by
  have lo : (a.2 + b.2 + c).testBit i = sbit c a.2 b.2 i := add_bit hc _ _ _
  by_cases e : sbit c a.2 b.2 i = s
  · exact ⟨a.2, b.2, in_least hw ha, in_least hw hb, by rw [lo, e]⟩
  · have ho : opn c a.2 b.2 (vnot 64 a.1) (vnot 64 b.1) i = true := by
      unfold may ksum at h
      simp only [testBit_bld, decide_eq_true hi, Bool.true_and] at h
      unfold sumZ sumO at h
      revert h e
      cases opn c a.2 b.2 (vnot 64 a.1) (vnot 64 b.1) i <;> cases sbit c a.2 b.2 i <;> cases s <;> decide
    have hne : sbit c a.2 b.2 i = !s := by revert e; cases sbit c a.2 b.2 i <;> cases s <;> decide
    have dis : ∀ {k : Nat × Nat}, El w k → (k.2.testBit i == (vnot 64 k.1).testBit i) = false → k.1.testBit i = false ∧ k.2.testBit i = false := by
      intro k hk q
      have := hk.dis i
      rw [vnot64_bit (by omega)] at q
      revert this q; cases k.1.testBit i <;> cases k.2.testBit i <;> decide
    unfold sbit at hne
    cases qa : (a.2.testBit i == (vnot 64 a.1).testBit i) with
    | false =>
      obtain ⟨z1, z2⟩ := dis ha qa
      obtain ⟨x, hx, hxi, hxj⟩ := pick hw ha hi (c := true) ⟨fun _ => z1, fun q => by cases q⟩
      refine ⟨x, b.2, hx, in_least hw hb, ?_⟩
      rw [add_bit hc, hxi, car_congr hc i (fun j hj => hxj j (by omega)) (fun j _ => rfl)]
      revert hne; rw [z2]
      cases b.2.testBit i <;> cases car c a.2 b.2 i <;> cases s <;> decide
    | true =>
      cases qb : (b.2.testBit i == (vnot 64 b.1).testBit i) with
      | false =>
        obtain ⟨z1, z2⟩ := dis hb qb
        obtain ⟨y, hy, hyi, hyj⟩ := pick hw hb hi (c := true) ⟨fun _ => z1, fun q => by cases q⟩
        refine ⟨a.2, y, in_least hw ha, hy, ?_⟩
        rw [add_bit hc, hyi, car_congr hc i (fun j _ => rfl) (fun j hj => hyj j (by omega))]
        revert hne; rw [z2]
        cases a.2.testBit i <;> cases car c a.2 b.2 i <;> cases s <;> decide
      | true =>
        have top : ∀ {k : Nat × Nat}, El w k → inK w k (vnot w k.1) := fun {k} hk => ⟨vnot_lt' _ _, fun j => by
          rw [testBit_vnot]
          by_cases q : j < w
          · have := hk.dis j
            rw [decide_eq_true q]; revert this; cases k.1.testBit j <;> cases k.2.testBit j <;> decide
          · rw [decide_eq_false q, hk.b2 hw (by omega)]; simp⟩
        refine ⟨vnot w a.1, vnot w b.1, top ha, top hb, ?_⟩
        have nb : ∀ (k : Nat × Nat) j, j < w → (vnot w k.1).testBit j = (vnot 64 k.1).testBit j := fun k j hj => by rw [testBit_vnot, testBit_vnot, decide_eq_true hj, decide_eq_true (show j < 64 by omega)]
        rw [add_bit hc, nb a i hi, nb b i hi, car_congr hc i (fun j hj => nb a j (by omega)) (fun j hj => nb b j (by omega))]
        unfold opn at ho
        rw [qa, qb] at ho
        revert ho hne qa qb
        cases a.2.testBit i <;> cases b.2.testBit i <;> cases (vnot 64 a.1).testBit i <;> cases (vnot 64 b.1).testBit i <;> cases car c a.2 b.2 i <;> cases car c (vnot 64 a.1) (vnot 64 b.1) i <;> cases s <;> decide
theorem vnot_vnot {w y : Nat} (h : y < 2 ^ w) : vnot w (vnot w y) = y := by unfold vnot; rw [Nat.mod_eq_of_lt h, Nat.mod_eq_of_lt (show 2 ^ w - 1 - y < 2 ^ w by omega)]; omega
theorem in_swap {w : Nat} (hw : w ≤ 64) {k : Nat × Nat} (hk : El w k) {y : Nat} (h : inK w (k.2, k.1) y) : inK w k (vnot w y) :=
  ⟨vnot_lt' _ _, fun j => by
    have q := h.2 j
    simp only at q
    rw [testBit_vnot]
    by_cases e : j < w
    · rw [decide_eq_true e]; revert q; cases k.1.testBit j <;> cases k.2.testBit j <;> cases y.testBit j <;> decide
    · rw [hk.b1 hw (by omega), hk.b2 hw (by omega)]; simp⟩
theorem el_swap {w : Nat} (hw : w ≤ 64) {k : Nat × Nat} (hk : El w k) : El w (k.2, k.1) := El.mk' hw (hk.m2 hw) (hk.m1 hw) (fun i h => by
  have := hk.dis i
  revert this h; simp only; cases k.1.testBit i <;> cases k.2.testBit i <;> simp)
theorem sub_tight {w : Nat} (hw : w ≤ 64) {a b : Nat × Nat} (ha : El w a) (hb : El w b) {i : Nat} (hi : i < w) {s : Bool} (h : may (ksum w 1 a (b.2, b.1)) i s) : ∃ x y, inK w a x ∧ inK w b y ∧ (vsub w x y).testBit i = s := by
  obtain ⟨x, y, hx, hy, he⟩ := sum_tight (by decide) hw ha (el_swap hw hb) hi h
  refine ⟨x, vnot w y, hx, in_swap hw hb hy, ?_⟩
  rw [← he]
  refine bit_mod ?_ hi
  unfold vsub
  rw [Nat.mod_mod, Nat.mod_eq_of_lt (vnot_lt' w y)]
  have h1 := hy.1
  unfold vnot
  rw [Nat.mod_eq_of_lt h1]; congr 1; omega
theorem in_cst {w x y : Nat} (h : inK w (kcst w x) y) : y % 2 ^ w = x % 2 ^ w := bits_ext fun i => by
  have q := h.2 i
  rw [kcst_bit1, kcst_bit2] at q
  rw [Nat.testBit_mod_two_pow, Nat.testBit_mod_two_pow]
  revert q; cases decide (i < w) <;> cases x.testBit i <;> cases y.testBit i <;> decide
theorem una_tight {op : Int} {r x v : Nat} {k : Nat × Nat} (hk : El v k) (v1 : 1 ≤ v) (v2 : v ≤ 64) (ho : op = 3 ∨ op = 4 ∨ op = 21 ∨ op = 22 ∨ op = 23) (hr : op = 3 ∨ op = 4 → r = v) (hx : op = 21 → x + r ≤ v) {i : Nat} (hi : i < r) {s : Bool} (h : may (kunaS op r x v k) i s) : ∃ y, inK v k y ∧ (vunaS op r x v y).testBit i = s := by
  unfold kunaS at h
  unfold vunaS
  rcases ho with rfl | rfl | rfl | rfl | rfl
  · obtain rfl := hr (.inl rfl)
    simp only [Int.reduceEq, if_true, if_false] at h ⊢
    obtain ⟨y, hy, hyi, _⟩ := pick v2 hk hi (c := !s) (by
      unfold may at h ⊢
      revert h; cases s <;> simp)
    refine ⟨y, hy, ?_⟩
    rw [testBit_vnot, decide_eq_true hi, hyi]; simp
  · obtain rfl := hr (.inr rfl)
    simp only [Int.reduceEq, if_true, if_false] at h ⊢
    obtain ⟨z, y, hz, hy, he⟩ := sub_tight v2 (el_cst v1 v2 0) hk hi h
    refine ⟨y, hy, ?_⟩
    rw [← he]
    have e := in_cst hz
    rw [Nat.zero_mod, Nat.mod_eq_of_lt hz.1] at e
    subst e
    unfold vneg vsub; rw [Nat.zero_add]
  · have := hx rfl
    simp only [Int.reduceEq, if_true, if_false] at h ⊢
    obtain ⟨y, hy, hyi, _⟩ := pick v2 hk (i := i + x) (by omega) (c := s) (by
      unfold may at h ⊢
      simp only [testBit_bld, decide_eq_true hi, Bool.true_and, uF, uG, if_true] at h
      exact h)
    refine ⟨y, hy, ?_⟩
    unfold vextract
    rw [Nat.testBit_mod_two_pow, decide_eq_true hi, Nat.testBit_shiftRight, Nat.add_comm, hyi]; rfl
  · simp only [Int.reduceEq, if_false] at h ⊢
    by_cases q : i < v
    · obtain ⟨y, hy, hyi, _⟩ := pick v2 hk q (c := s) (by
        unfold may at h ⊢
        simp only [testBit_bld, decide_eq_true hi, Bool.true_and, uF, uG, Int.reduceEq, if_false, if_pos q] at h
        exact h)
      exact ⟨y, hy, hyi⟩
    · unfold may at h
      simp only [testBit_bld, decide_eq_true hi, Bool.true_and, uF, uG, Int.reduceEq, if_false, if_neg q] at h
      cases s with
      | true => exact absurd (h.1 rfl) (by decide)
      | false => exact ⟨k.2, in_least v2 hk, hk.b2 v2 (by omega)⟩
  · simp only [Int.reduceEq, if_false, if_true] at h ⊢
    have hm : min i (v - 1) < v := by omega
    obtain ⟨y, hy, hyi, _⟩ := pick v2 hk hm (c := s) (by
      unfold may at h ⊢
      simp only [testBit_bld, decide_eq_true hi, Bool.true_and, uF, uG, Int.reduceEq, if_false, if_true] at h
      by_cases q : i < v
      · rw [if_pos q, if_pos q] at h; rw [show min i (v - 1) = i by omega]; exact h
      · rw [if_neg q, if_neg q] at h; rw [show min i (v - 1) = v - 1 by omega]; exact h)
    refine ⟨y, hy, ?_⟩
    unfold vsext
    rw [testBit_bld, decide_eq_true hi, hyi]; rfl
theorem one_in {w : Nat} (hw : w ≤ 64) {k : Nat × Nat} (hk : El w k) (h1 : kone w k) (w1 : 1 ≤ w) : k = kcst w k.2 := le_one hw hk (el_cst w1 hw _) (fun i => by
  rw [kcst_bit1, kcst_bit2]
  have := kone_bit hw hk h1 i
  rw [this]
  cases decide (i < w) <;> simp) (kone_cst w1 hw _)
/-- Which operators with two operands are best. -/
def Best2 (op : Int) (v : Nat) (b : Nat × Nat) : Prop := op = 5 ∨ op = 6 ∨ op = 7 ∨ op = 8 ∨ op = 9 ∨ op = 20 ∨ ((op = 13 ∨ op = 14 ∨ op = 15) ∧ kone v b) ∨ (op = 12 ∧ kone v b ∧ ones b.2 = 1)
theorem mov_may {w : Nat} (hw : w ≤ 64) {a : Nat × Nat} {by_ : Int} {fz fo : Bool} {i : Nat} (hi : i < w) {s : Bool} (h : may (kmovS w a by_ fz fo) i s) :
    (∃ m : Nat, (i : Int) + by_ = (m : Int) ∧ m < w ∧ may a m s) ∨ ((i : Int) + by_ < 0 ∧ s = false) ∨ ((w : Int) ≤ (i : Int) + by_ ∧ (s = true → fz = false) ∧ (s = false → fo = false)) := by
  unfold may kmovS at h
  simp only [testBit_bld, decide_eq_true hi, Bool.true_and, mF, mG, shf] at h
  by_cases q : (i : Int) + by_ < (w : Int)
  · by_cases q2 : 0 ≤ (i : Int) + by_
    · obtain ⟨m, hm⟩ : ∃ m : Nat, (i : Int) + by_ = (m : Int) := ⟨((i : Int) + by_).toNat, by omega⟩
      rw [if_pos q, if_pos q, if_pos q2, if_pos q2, hm, Int.toNat_natCast, vnot64_bit (by omega), Bool.not_not] at h
      exact .inl ⟨m, hm, by omega, h⟩
    · rw [if_pos q, if_pos q, if_neg q2, if_neg q2] at h
      refine .inr (.inl ⟨by omega, ?_⟩)
      cases s with
      | false => rfl
      | true => exact absurd (h.1 rfl) (by decide)
  · rw [if_neg q, if_neg q, Bool.not_not] at h
    exact .inr (.inr ⟨by omega, h⟩)
theorem shf_tight0 {w : Nat} (hw : w ≤ 64) {a : Nat × Nat} (ha : El w a) (by_ : Int) {i : Nat} (hi : i < w) {s : Bool} (h : may (kmovS w a by_ true false) i s) : ∃ y, inK w a y ∧ (bld (shf w y by_ false) w).testBit i = s := by
  rcases mov_may hw hi h with ⟨m, hm, hmw, h2⟩ | ⟨hn, rfl⟩ | ⟨hn, h1, h2⟩
  · obtain ⟨y, hy, hyi, _⟩ := pick hw ha hmw h2
    refine ⟨y, hy, ?_⟩
    rw [testBit_bld, decide_eq_true hi]; unfold shf
    rw [if_pos (by omega), if_pos (by omega), hm, Int.toNat_natCast, hyi]; rfl
  · refine ⟨a.2, in_least hw ha, ?_⟩
    rw [testBit_bld, decide_eq_true hi]; unfold shf
    rw [if_pos (by omega), if_neg (by omega)]; rfl
  · refine ⟨a.2, in_least hw ha, ?_⟩
    rw [testBit_bld, decide_eq_true hi]; unfold shf
    rw [if_neg (by omega)]
    cases s with
    | false => rfl
    | true => exact absurd (h1 rfl) (by decide)
theorem shf_tight1 {w : Nat} (w1 : 1 ≤ w) (hw : w ≤ 64) {a : Nat × Nat} (ha : El w a) (n : Nat) {i : Nat} (hi : i < w) {s : Bool} (h : may (kmovS w a (n : Int) (a.1.testBit (w - 1)) (a.2.testBit (w - 1))) i s) : ∃ y, inK w a y ∧ (bld (shf w y (n : Int) (y.testBit (w - 1))) w).testBit i = s := by
  rcases mov_may hw hi h with ⟨m, hm, hmw, h2⟩ | ⟨hn, rfl⟩ | ⟨hn, h1, h2⟩
  · obtain ⟨y, hy, hyi, _⟩ := pick hw ha hmw h2
    refine ⟨y, hy, ?_⟩
    rw [testBit_bld, decide_eq_true hi]; unfold shf
    rw [if_pos (by omega), if_pos (by omega), hm, Int.toNat_natCast, hyi]; rfl
  · omega
  · obtain ⟨y, hy, hyi, _⟩ := pick hw ha (show w - 1 < w by omega) (c := s) ⟨h1, h2⟩
    refine ⟨y, hy, ?_⟩
    rw [testBit_bld, decide_eq_true hi]; unfold shf
    rw [if_neg (by omega), hyi]; rfl
theorem bin_tight {op : Int} {r v u : Nat} {a b : Nat × Nat} (hbest : Best2 op v b) (ha : El v a) (hb : El u b) (v1 : 1 ≤ v) (v2 : v ≤ 64) (u1 : 1 ≤ u) (u2 : u ≤ 64) (hu : op ≠ 20 → u = v) (hr : 5 ≤ op ∧ op ≤ 15 → r = v) (huv : op = 20 → v + u ≤ 64 ∧ r = v + u) {i : Nat} (hi : i < r) {s : Bool} (h : may (kbinS op r v u a b) i s) :
    ∃ x y, inK v a x ∧ inK u b y ∧ (vbinS op v u x y).testBit i = s := by
  unfold kbinS at h
  rcases hbest with rfl | rfl | rfl | rfl | rfl | rfl | ⟨ho, hk⟩ | ⟨rfl, hk, h1⟩
  · obtain rfl := hu (by decide)
    obtain rfl := hr (by decide)
    simp only [Int.reduceEq, if_true] at h
    have d1 := ha.dis i
    have d2 := hb.dis i
    have : ∃ c d, may a i c ∧ may b i d ∧ (c && d) = s := by
      unfold may at h ⊢
      simp only [Nat.testBit_or, Nat.testBit_and] at h
      revert h d1 d2
      cases a.1.testBit i <;> cases a.2.testBit i <;> cases b.1.testBit i <;> cases b.2.testBit i <;> cases s <;> first | decide | (intro _ q _; exact absurd (q rfl) (by decide)) | (intro q _ _; exact absurd (q rfl) (by decide)) | (intro _ _ q; exact absurd (q.1 rfl) (by decide)) | (intro _ _ q; exact absurd (q.2 rfl) (by decide)) | (intro _ _ _; exact ⟨true, true, by decide⟩) | (intro _ _ _; exact ⟨false, false, by decide⟩) | (intro _ _ _; exact ⟨true, false, by decide⟩) | (intro _ _ _; exact ⟨false, true, by decide⟩)
    obtain ⟨c, d, hc, hd, he⟩ := this
    obtain ⟨x, hx, hxi, _⟩ := pick v2 ha hi hc
    obtain ⟨y, hy, hyi, _⟩ := pick v2 hb hi hd
    refine ⟨x, y, hx, hy, ?_⟩
    show (vand r x y).testBit i = s
    unfold vand; rw [Nat.testBit_mod_two_pow, decide_eq_true hi, Nat.testBit_and, hxi, hyi, he]; rfl
  · obtain rfl := hu (by decide)
    obtain rfl := hr (by decide)
    simp only [Int.reduceEq, if_true, if_false] at h
    have d1 := ha.dis i
    have d2 := hb.dis i
    have : ∃ c d, may a i c ∧ may b i d ∧ (c || d) = s := by
      unfold may at h ⊢
      simp only [Nat.testBit_or, Nat.testBit_and] at h
      revert h d1 d2
      cases a.1.testBit i <;> cases a.2.testBit i <;> cases b.1.testBit i <;> cases b.2.testBit i <;> cases s <;> first | decide | (intro _ q _; exact absurd (q rfl) (by decide)) | (intro q _ _; exact absurd (q rfl) (by decide)) | (intro _ _ q; exact absurd (q.1 rfl) (by decide)) | (intro _ _ q; exact absurd (q.2 rfl) (by decide)) | (intro _ _ _; exact ⟨true, true, by decide⟩) | (intro _ _ _; exact ⟨false, false, by decide⟩) | (intro _ _ _; exact ⟨true, false, by decide⟩) | (intro _ _ _; exact ⟨false, true, by decide⟩)
    obtain ⟨c, d, hc, hd, he⟩ := this
    obtain ⟨x, hx, hxi, _⟩ := pick v2 ha hi hc
    obtain ⟨y, hy, hyi, _⟩ := pick v2 hb hi hd
    refine ⟨x, y, hx, hy, ?_⟩
    show (vor r x y).testBit i = s
    unfold vor; rw [Nat.testBit_mod_two_pow, decide_eq_true hi, Nat.testBit_or, hxi, hyi, he]; rfl
  · obtain rfl := hu (by decide)
    obtain rfl := hr (by decide)
    simp only [Int.reduceEq, if_true, if_false] at h
    have d1 := ha.dis i
    have d2 := hb.dis i
    have : ∃ c d, may a i c ∧ may b i d ∧ (c ^^ d) = s := by
      unfold may at h ⊢
      simp only [Nat.testBit_or, Nat.testBit_and] at h
      revert h d1 d2
      cases a.1.testBit i <;> cases a.2.testBit i <;> cases b.1.testBit i <;> cases b.2.testBit i <;> cases s <;> first | decide | (intro _ q _; exact absurd (q rfl) (by decide)) | (intro q _ _; exact absurd (q rfl) (by decide)) | (intro _ _ q; exact absurd (q.1 rfl) (by decide)) | (intro _ _ q; exact absurd (q.2 rfl) (by decide)) | (intro _ _ _; exact ⟨true, true, by decide⟩) | (intro _ _ _; exact ⟨false, false, by decide⟩) | (intro _ _ _; exact ⟨true, false, by decide⟩) | (intro _ _ _; exact ⟨false, true, by decide⟩)
    obtain ⟨c, d, hc, hd, he⟩ := this
    obtain ⟨x, hx, hxi, _⟩ := pick v2 ha hi hc
    obtain ⟨y, hy, hyi, _⟩ := pick v2 hb hi hd
    refine ⟨x, y, hx, hy, ?_⟩
    show (vxor r x y).testBit i = s
    unfold vxor; rw [Nat.testBit_mod_two_pow, decide_eq_true hi, Nat.testBit_xor, hxi, hyi, he]; rfl
  · obtain rfl := hu (by decide)
    obtain rfl := hr (by decide)
    simp only [Int.reduceEq, if_true, if_false] at h
    obtain ⟨x, y, hx, hy, he⟩ := sum_tight (by decide) v2 ha hb hi h
    refine ⟨x, y, hx, hy, ?_⟩
    show (vadd r x y).testBit i = s
    unfold vadd; rw [Nat.testBit_mod_two_pow, decide_eq_true hi, ← he]; rfl
  · obtain rfl := hu (by decide)
    obtain rfl := hr (by decide)
    simp only [Int.reduceEq, if_true, if_false] at h
    exact sub_tight v2 ha hb hi h
  · obtain ⟨h64, rfl⟩ := huv rfl
    simp only [Int.reduceEq, if_true, if_false] at h
    unfold may kconS at h
    rw [concat_bld h64 _ _ (lt_of_le_mask (ha.m1 v2)) (lt_of_le_mask (hb.m1 u2)), concat_bld h64 _ _ (lt_of_le_mask (ha.m2 v2)) (lt_of_le_mask (hb.m2 u2))] at h
    simp only [testBit_bld, decide_eq_true hi, Bool.true_and, cF] at h
    by_cases q : u ≤ i
    · rw [if_pos q, if_pos q] at h
      obtain ⟨x, hx, hxi, _⟩ := pick v2 ha (show i - u < v by omega) (c := s) h
      refine ⟨x, b.2, hx, in_least u2 hb, ?_⟩
      show (vconcat v u x b.2).testBit i = s
      rw [concat_bld h64 _ _ hx.1 (lt_of_le_mask (hb.m2 u2)), testBit_bld, decide_eq_true hi]; unfold cF; rw [if_pos q, hxi]; rfl
    · rw [if_neg q, if_neg q] at h
      obtain ⟨y, hy, hyi, _⟩ := pick u2 hb (show i < u by omega) (c := s) h
      refine ⟨a.2, y, in_least v2 ha, hy, ?_⟩
      show (vconcat v u a.2 y).testBit i = s
      rw [concat_bld h64 _ _ (lt_of_le_mask (ha.m2 v2)) hy.1, testBit_bld, decide_eq_true hi]; unfold cF; rw [if_neg q, hyi]; rfl
  · obtain rfl := hu (by omega)
    obtain rfl := hr (by omega)
    have s3 : b.2 % 2 ^ r = b.2 := cut_of_le (hb.m2 v2)
    have hb2 := in_least v2 hb
    rcases ho with rfl | rfl | rfl
    · simp only [Int.reduceEq, if_true, if_false, true_or, or_true] at h
      rw [if_pos hk] at h
      unfold kshS at h
      rw [if_pos rfl] at h
      obtain ⟨x, hx, he⟩ := shf_tight0 v2 ha _ hi h
      refine ⟨x, b.2, hx, hb2, ?_⟩
      show (vshl r x b.2).testBit i = s
      rw [← shf_shl v2, s3]; exact he
    · simp only [Int.reduceEq, if_true, if_false, true_or, or_true, false_or] at h
      rw [if_pos hk] at h
      unfold kshS at h
      rw [if_neg (by decide), if_pos rfl] at h
      obtain ⟨x, hx, he⟩ := shf_tight0 v2 ha _ hi h
      refine ⟨x, b.2, hx, hb2, ?_⟩
      show (vlshr r x b.2).testBit i = s
      rw [← shf_lshr v2, s3]; exact he
    · simp only [Int.reduceEq, if_true, if_false, true_or, or_true, false_or] at h
      rw [if_pos hk] at h
      unfold kshS at h
      rw [if_neg (by decide), if_neg (by decide)] at h
      obtain ⟨x, hx, he⟩ := shf_tight1 v1 v2 ha _ hi h
      refine ⟨x, b.2, hx, hb2, ?_⟩
      show (vashr r x b.2).testBit i = s
      rw [← shf_ashr v2, s3]; exact he
  · obtain rfl := hu (by decide)
    obtain rfl := hr (by decide)
    simp only [Int.reduceEq, if_false, or_self] at h
    unfold kexS at h
    have hb2 := in_least v2 hb
    by_cases q : kone r a ∧ kone r b
    · rw [if_pos q] at h
      refine ⟨a.2, b.2, in_least v2 ha, hb2, ?_⟩
      show (kval 12 r a.2 b.2).testBit i = s
      unfold may at h
      rw [kcst_bit1, kcst_bit2, decide_eq_true hi] at h
      revert h; cases (kval 12 r a.2 b.2).testBit i <;> cases s <;> decide
    · obtain ⟨m, hm, e⟩ := ones_one hb.l2 h1
      have hmw : m < r := by
        have h2 := lt_of_le_mask (hb.m2 v2)
        rw [e] at h2
        exact (Nat.pow_lt_pow_iff_right (by decide)).1 h2
      rw [if_neg q, if_pos ⟨rfl, hk, h1⟩, e, klog_pow] at h
      unfold may kremS at h
      simp only [testBit_bld, decide_eq_true hi, Bool.true_and] at h
      have hv : ∀ x, x < 2 ^ r → vbinS 12 r r x b.2 = x % 2 ^ m := fun x hx => by
        show vurem r x b.2 = _
        unfold vurem
        have hp := pw_pos m
        have hlt := Nat.pow_lt_pow_right (a := 2) (by decide) hmw
        rw [e, Nat.mod_eq_of_lt hlt, if_neg (by omega), Nat.mod_eq_of_lt hx]
      by_cases q2 : i < m
      · rw [if_pos q2, if_pos q2] at h
        obtain ⟨x, hx, hxi, _⟩ := pick v2 ha hi (c := s) h
        exact ⟨x, b.2, hx, hb2, by rw [hv x hx.1, Nat.testBit_mod_two_pow, decide_eq_true q2, hxi]; rfl⟩
      · rw [if_neg q2, if_neg q2] at h
        refine ⟨a.2, b.2, in_least v2 ha, hb2, ?_⟩
        rw [hv _ (lt_of_le_mask (ha.m2 v2)), Nat.testBit_mod_two_pow, decide_eq_false q2]
        cases s with
        | false => rfl
        | true => exact absurd (h.1 rfl) (by decide)
theorem ite_tight {r : Nat} {c a b : Nat × Nat} (hc : El 1 c) (ha : El r a) (hb : El r b) (r2 : r ≤ 64) {i : Nat} (hi : i < r) {s : Bool} (h : may (kiteS c a b) i s) :
    ∃ z x y, inK 1 c z ∧ inK r a x ∧ inK r b y ∧ (if z = 1 then x else y).testBit i = s := by
  unfold kiteS at h
  by_cases q : kone 1 c
  · rw [if_pos q] at h
    have hz := in_least (by decide) hc
    by_cases q2 : c.2 = 1
    · rw [if_pos q2] at h
      obtain ⟨x, hx, hxi, _⟩ := pick r2 ha hi h
      exact ⟨c.2, x, b.2, hz, hx, in_least r2 hb, by rw [if_pos q2]; exact hxi⟩
    · rw [if_neg q2] at h
      obtain ⟨y, hy, hyi, _⟩ := pick r2 hb hi h
      exact ⟨c.2, a.2, y, hz, in_least r2 ha, hy, by rw [if_neg q2]; exact hyi⟩
  · rw [if_neg q] at h
    have hb0 : c.1.testBit 0 = false ∧ c.2.testBit 0 = false := by
      have hn : ¬ kunk 1 c = 0 := q
      have h0 : (kunk 1 c).testBit 0 = true := by
        cases q3 : (kunk 1 c).testBit 0 with
        | true => rfl
        | false =>
          refine absurd (bits_ext fun j => ?_) hn
          cases j with
          | zero => rw [q3]; simp
          | succ j => rw [kunk_bit hc.l1 hc.l2 (by decide), decide_eq_false (by omega)]; simp
      rw [kunk_bit hc.l1 hc.l2 (by decide)] at h0
      revert h0; cases c.1.testBit 0 <;> cases c.2.testBit 0 <;> decide
    have pz : ∀ d : Bool, ∃ z, inK 1 c z ∧ (z = 1 ↔ d = true) := fun d => by
      obtain ⟨z, hz, hzi, _⟩ := pick (by decide) hc (i := 0) (by decide) (c := d) ⟨fun _ => hb0.1, fun _ => hb0.2⟩
      refine ⟨z, hz, ?_⟩
      have h2 := hz.1
      have : z = 0 ∨ z = 1 := by omega
      rcases this with rfl | rfl
      · rw [← hzi]; decide
      · rw [← hzi]; decide
    have d1 := ha.dis i
    have d2 := hb.dis i
    have : may a i s ∨ may b i s := by
      unfold may at h ⊢
      simp only [Nat.testBit_and] at h
      revert h d1 d2
      cases a.1.testBit i <;> cases a.2.testBit i <;> cases b.1.testBit i <;> cases b.2.testBit i <;> cases s <;> decide
    rcases this with h | h
    · obtain ⟨z, hz, hz1⟩ := pz true
      obtain ⟨x, hx, hxi, _⟩ := pick r2 ha hi h
      exact ⟨z, x, b.2, hz, hx, in_least r2 hb, by rw [if_pos (hz1.2 rfl)]; exact hxi⟩
    · obtain ⟨z, hz, hz1⟩ := pz false
      obtain ⟨y, hy, hyi, _⟩ := pick r2 hb hi h
      exact ⟨z, a.2, y, hz, in_least r2 ha, hy, by rw [if_neg (fun e => absurd (hz1.1 e) (by decide))]; exact hyi⟩
/-- The operators promised to be best. -/
def BestOp (op : Int) (g : Nat → Int) (e : Nat → Nat × Nat) : Prop := op = 3 ∨ op = 4 ∨ op = 19 ∨ op = 21 ∨ op = 22 ∨ op = 23 ∨ Best2 op (g 1).toNat (e 1)
theorem val_tight {op : Int} {r x n : Nat} {g : Nat → Int} {e : Nat → Nat × Nat} (hbest : BestOp op g e) (hc : Cas op r x n g) (hn0 : n ≠ 0) (hg : ∀ i, i < n → 1 ≤ g i ∧ g i ≤ 64) (he : ∀ i, i < n → El (g i).toNat (e i)) (r2 : r ≤ 64) {i : Nat} (hi : i < r) {s : Bool} (h : may (kvalS op r x g e) i s) :
    ∃ y : Nat → Nat, (∀ j, j < n → inK (g j).toNat (e j) (y j)) ∧ (vvalS op r x g y).testBit i = s := by
  have two : (∃ a b, inK (g 0).toNat (e 0) a ∧ inK (g 1).toNat (e 1) b ∧ (vbinS op (g 0).toNat (g 1).toNat a b).testBit i = s) → n = 2 → op ≠ 2 → op ≠ 19 → ¬ (op = 3 ∨ op = 4 ∨ op = 21 ∨ op = 22 ∨ op = 23) → ∃ y : Nat → Nat, (∀ j, j < n → inK (g j).toNat (e j) (y j)) ∧ (vvalS op r x g y).testBit i = s := by
    rintro ⟨a, b, ha, hb, hv⟩ rfl q1 q2 q3
    refine ⟨fun j => if j = 0 then a else b, fun j hj => ?_, ?_⟩
    · have : j = 0 ∨ j = 1 := by omega
      rcases this with rfl | rfl
      · exact ha
      · exact hb
    · unfold vvalS; rw [if_neg q1, if_neg q2, if_neg q3]; exact hv
  unfold kvalS at h
  unfold vvalS at *
  rcases hc with ⟨hop, rfl⟩ | ⟨hop, rfl, hr⟩ | ⟨hop, rfl, hr, hr2⟩ | ⟨rfl, rfl, g0, g1, g2⟩ | ⟨rfl, rfl, hr⟩ | ⟨hop, rfl, g1, hr⟩ | ⟨hop, rfl, g1, hr⟩
  · exact absurd rfl hn0
  · rw [if_neg (by omega), if_neg (by omega), if_neg (by omega), if_pos (by omega)] at h
    have := hg 0 (by omega)
    obtain ⟨y, hy, hv⟩ := una_tight (he 0 (by omega)) (by omega) (by omega) (by omega) (fun _ => by omega) (by omega) hi h
    refine ⟨fun _ => y, fun j hj => by obtain rfl : j = 0 := by omega
                                       exact hy, ?_⟩
    rw [if_neg (by omega), if_neg (by omega), if_pos (by omega)]; exact hv
  · rw [if_neg (by omega), if_neg (by omega), if_neg (by omega), if_pos (by omega)] at h
    have := hg 0 (by omega)
    obtain ⟨y, hy, hv⟩ := una_tight (he 0 (by omega)) (by omega) (by omega) (by omega) (by omega) (fun q => by have := hr q; omega) hi h
    refine ⟨fun _ => y, fun j hj => by obtain rfl : j = 0 := by omega
                                       exact hy, ?_⟩
    rw [if_neg (by omega), if_neg (by omega), if_pos (by omega)]; exact hv
  · rw [if_neg (by decide), if_neg (by decide), if_pos rfl] at h
    have h0 := he 0 (by omega)
    have h1 := he 1 (by omega)
    have h2 := he 2 (by omega)
    rw [show (g 0).toNat = 1 by omega] at h0
    rw [show (g 1).toNat = r by omega] at h1
    rw [show (g 2).toNat = r by omega] at h2
    obtain ⟨z, a, b, hz, ha, hb, hv⟩ := ite_tight h0 h1 h2 r2 hi h
    refine ⟨fun j => if j = 0 then z else if j = 1 then a else b, fun j hj => ?_, ?_⟩
    · have : j = 0 ∨ j = 1 ∨ j = 2 := by omega
      rcases this with rfl | rfl | rfl
      · rw [show (g 0).toNat = 1 by omega]; exact hz
      · rw [show (g 1).toNat = r by omega]; exact ha
      · rw [show (g 2).toNat = r by omega]; exact hb
    · rw [if_neg (by decide), if_pos rfl]; exact hv
  · rw [if_neg (by decide), if_neg (by decide), if_neg (by decide), if_neg (by decide)] at h
    have := hg 0 (by omega)
    have := hg 1 (by omega)
    exact two (bin_tight (op := 20) (Or.inr (Or.inr (Or.inr (Or.inr (Or.inr (Or.inl rfl)))))) (he 0 (by omega)) (he 1 (by omega)) (by omega) (by omega) (by omega) (by omega) (fun q => absurd rfl q) (fun q => by omega) (fun q => by omega) hi h) rfl (by decide) (by decide) (by decide)
  all_goals
    rw [if_neg (by omega), if_neg (by omega), if_neg (by omega), if_neg (by omega)] at h
    have := hg 0 (by omega)
    have := hg 1 (by omega)
    have hb2 : Best2 op (g 1).toNat (e 1) := by
      unfold BestOp at hbest
      rcases hbest with q | q | q | q | q | q | q
      all_goals first | exact q | (exfalso; omega)
    rw [g1] at hb2
    exact two (bin_tight hb2 (he 0 (by omega)) (he 1 (by omega)) (by omega) (by omega) (by omega) (by omega) (fun q => by omega) (fun q => by omega) (fun q => by omega) hi h) rfl (by omega) (by omega) (by omega)
end Go.Proofs.Ytbfniopkadaheaa.Fn
