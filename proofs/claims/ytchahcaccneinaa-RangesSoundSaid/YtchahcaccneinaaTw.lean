/- Each operator's result on ranges contains its value: a plain law of numbers. -/
import Derived.Test.YtchahcaccneinaaTy
import Derived.Test.YtchahcaccneinaaTd
namespace Go.Proofs.Ytchahcaccneinaa.Fn
open Go Go.RowKit Go.Proofs.Ytchahcaccneinaa.Ev Go.Proofs.Ytchahcaccneinaa.Bv
set_option linter.unusedVariables false
set_option linter.unusedSimpArgs false

/-- The range p of width r contains y. -/
def Snd (r : Nat) (p : Nat × Nat) (y : Nat) : Prop := p.1 ≤ y ∧ y ≤ p.2 ∧ p.2 ≤ vmask r
def oneV (op : Int) (r v x a : Nat) : Nat := if op = 3 then vnot v a else if op = 4 then vneg v a else if op = 21 then vextract x r a else if op = 23 then vsext v r a else a
def twoV (op : Int) (v u a b : Nat) : Nat :=
  if op = 5 then vand v a b else if op = 6 then vor v a b else if op = 7 then vxor v a b else if op = 8 then vadd v a b else if op = 9 then vsub v a b else if op = 10 then vmul v a b
  else if op = 11 then vudiv v a b else if op = 12 then vurem v a b else if op = 13 then vshl v a b else if op = 14 then vlshr v a b else if op = 15 then vashr v a b
  else if op = 16 then veq v a b else if op = 17 then vult v a b else if op = 18 then vslt v a b else vconcat v u a b
section
variable {v u l h m k a b r : Nat}
theorem le_mask {x v : Nat} (h : x < 2 ^ v) : x ≤ vmask v := by unfold vmask; omega
theorem lt_of_mask {x v : Nat} (h : x ≤ vmask v) : x < 2 ^ v := by have := pw_pos v; unfold vmask at h; omega
theorem snd_top {y : Nat} (h : y < 2 ^ r) : Snd r (topS r) y := ⟨Nat.zero_le _, le_mask h, Nat.le_refl _⟩
theorem mod_lt' (x v : Nat) : x % 2 ^ v < 2 ^ v := Nat.mod_lt _ (pw_pos v)
theorem len_le {x : Nat} (hx : x < 2 ^ v) : len8 x ≤ v := by
  have := isLen_len8 x
  rcases this.2 with h0 | h0
  · omega
  · rcases Nat.lt_or_ge v (len8 x) with hlt | hge
    · have := Nat.pow_le_pow_right (n := 2) (by decide) (show v ≤ len8 x - 1 by omega)
      omega
    · exact hge
theorem fl_le {x : Nat} (hx : x < 2 ^ v) : flS x ≤ vmask v := by
  have := Nat.pow_le_pow_right (n := 2) (by decide) (len_le hx)
  unfold flS vmask; omega
theorem snd_and (hl : l ≤ a) (ha : a ≤ h) (hh : h ≤ vmask v) (hm : m ≤ b) (hb : b ≤ k) (hk : k ≤ vmask v) : Snd v (0, min h k) (vand v a b) := by
  have h1 : a &&& b ≤ a := Nat.and_le_left
  have h2 : a &&& b ≤ b := Nat.and_le_right
  have h3 := lt_of_mask (Nat.le_trans ha hh)
  have e : vand v a b = a &&& b := Nat.mod_eq_of_lt (by omega)
  rw [e]
  exact ⟨Nat.zero_le _, by show _ ≤ min h k; omega, by show min h k ≤ _; omega⟩
theorem or_bound (ha : a ≤ h) (hb : b ≤ k) : a < 2 ^ len8 (h ||| k) ∧ b < 2 ^ len8 (h ||| k) := by
  have := (isLen_len8 (h ||| k)).1
  have h1 : h ≤ h ||| k := Nat.left_le_or
  have h2 : k ≤ h ||| k := Nat.right_le_or
  omega
theorem snd_or (hl : l ≤ a) (ha : a ≤ h) (hh : h ≤ vmask v) (hm : m ≤ b) (hb : b ≤ k) (hk : k ≤ vmask v) : Snd v (max l m, flS (h ||| k)) (vor v a b) := by
  have h1 : a ≤ a ||| b := Nat.left_le_or
  have h2 : b ≤ a ||| b := Nat.right_le_or
  have e : vor v a b = a ||| b := Nat.mod_eq_of_lt (Nat.or_lt_two_pow (lt_of_mask (Nat.le_trans ha hh)) (lt_of_mask (Nat.le_trans hb hk)))
  obtain ⟨b1, b2⟩ := or_bound ha hb
  rw [e]
  exact ⟨by show max l m ≤ _; omega, le_mask (Nat.or_lt_two_pow b1 b2), fl_le (Nat.or_lt_two_pow (lt_of_mask hh) (lt_of_mask hk))⟩
theorem snd_xor (hl : l ≤ a) (ha : a ≤ h) (hh : h ≤ vmask v) (hm : m ≤ b) (hb : b ≤ k) (hk : k ≤ vmask v) : Snd v (0, flS (h ||| k)) (vxor v a b) := by
  have e : vxor v a b = a ^^^ b := Nat.mod_eq_of_lt (Nat.xor_lt_two_pow (lt_of_mask (Nat.le_trans ha hh)) (lt_of_mask (Nat.le_trans hb hk)))
  obtain ⟨b1, b2⟩ := or_bound ha hb
  rw [e]
  exact ⟨Nat.zero_le _, le_mask (Nat.xor_lt_two_pow b1 b2), fl_le (Nat.or_lt_two_pow (lt_of_mask hh) (lt_of_mask hk))⟩
theorem mod_big {x P : Nat} (h1 : P ≤ x) (h2 : x < 2 * P) : x % P = x - P := by
  rw [Nat.mod_eq_sub_mod h1, Nat.mod_eq_of_lt (by omega)]
theorem snd_sum (hl : l ≤ a) (ha : a ≤ h) (hh : h ≤ vmask v) (hm : m ≤ b) (hb : b ≤ k) (hk : k ≤ vmask v) : Snd v (sumS v l h m k) (vadd v a b) := by
  unfold sumS
  by_cases c : decide (l + m ≤ vmask v) = decide (h + k ≤ vmask v)
  · rw [if_pos c]
    have hp := pw_pos v
    unfold vadd
    by_cases d : h + k ≤ vmask v
    · unfold vmask at *
      rw [Nat.mod_eq_of_lt (show a + b < 2 ^ v by omega), Nat.mod_eq_of_lt (show l + m < 2 ^ v by omega), Nat.mod_eq_of_lt (show h + k < 2 ^ v by omega)]
      exact ⟨by show l + m ≤ _; omega, by show _ ≤ h + k; omega, d⟩
    · have d2 : ¬ l + m ≤ vmask v := by rw [decide_eq_decide] at c; exact fun e => d (c.1 e)
      unfold vmask at *
      rw [mod_big (x := a + b) (by omega) (by omega), mod_big (x := l + m) (by omega) (by omega), mod_big (x := h + k) (by omega) (by omega)]
      exact ⟨by show l + m - _ ≤ _; omega, by show _ ≤ h + k - _; omega, by show h + k - _ ≤ 2 ^ v - 1; omega⟩
  · rw [if_neg c]; exact snd_top (mod_lt' _ _)
theorem sub_ge (h1 : a < 2 ^ v) (h2 : b ≤ a) : vsub v a b = a - b := by
  unfold vsub
  rw [Nat.mod_eq_of_lt (show b < 2 ^ v by omega), mod_big (by omega) (by omega)]; omega
theorem sub_lt' (h1 : b < 2 ^ v) (h2 : a < b) : vsub v a b = a + 2 ^ v - b := by
  unfold vsub
  rw [Nat.mod_eq_of_lt h1, Nat.mod_eq_of_lt (by omega)]; omega
theorem snd_dif (hl : l ≤ a) (ha : a ≤ h) (hh : h ≤ vmask v) (hm : m ≤ b) (hb : b ≤ k) (hk : k ≤ vmask v) : Snd v (difS v l h m k) (vsub v a b) := by
  unfold difS
  have p1 := lt_of_mask hh
  have p2 := lt_of_mask hk
  by_cases c : decide (l < k) = decide (h < m)
  · rw [if_pos c]
    rw [decide_eq_decide] at c
    by_cases d : l < k
    · have d2 := c.1 d
      rw [sub_lt' (a := a) (b := b) (by omega) (by omega), sub_lt' p2 d, sub_lt' (by omega) d2]
      unfold Snd vmask; simp only; omega
    · have d2 : ¬ h < m := fun e => d (c.2 e)
      rw [sub_ge (a := a) (b := b) (by omega) (by omega), sub_ge (a := l) (b := k) (by omega) (by omega), sub_ge (a := h) (b := m) (by omega) (by omega)]
      unfold Snd vmask; simp only; omega
  · rw [if_neg c]; exact snd_top (mod_lt' _ _)
theorem snd_mul (hl : l ≤ a) (ha : a ≤ h) (hh : h ≤ vmask v) (hm : m ≤ b) (hb : b ≤ k) (hk : k ≤ vmask v) : Snd v (mulS v l h m k) (vmul v a b) := by
  unfold mulS
  by_cases c : h * k ≤ vmask v
  · rw [if_pos c]
    have h1 : a * b ≤ h * k := Nat.mul_le_mul ha hb
    have h2 : l * m ≤ a * b := Nat.mul_le_mul hl hm
    have e : vmul v a b = a * b := Nat.mod_eq_of_lt (lt_of_mask (by omega))
    rw [e]; exact ⟨h2, h1, c⟩
  · rw [if_neg c]; exact snd_top (mod_lt' _ _)
theorem vudiv_lt' (v a b : Nat) : vudiv v a b < 2 ^ v := by
  unfold vudiv
  have := pw_pos v
  split
  · omega
  · have := Nat.div_le_self (a % 2 ^ v) (b % 2 ^ v)
    have := mod_lt' a v
    omega
theorem snd_div (hl : l ≤ a) (ha : a ≤ h) (hh : h ≤ vmask v) (hm : m ≤ b) (hb : b ≤ k) (hk : k ≤ vmask v) : Snd v (divS v l h m k) (vudiv v a b) := by
  have p1 := lt_of_mask hh
  have p2 := lt_of_mask hk
  unfold divS
  by_cases c : m = 0
  · rw [if_pos c]; exact snd_top (vudiv_lt' _ _ _)
  · rw [if_neg c]; unfold vudiv
    rw [Nat.mod_eq_of_lt (show b < 2 ^ v by omega), Nat.mod_eq_of_lt (show a < 2 ^ v by omega), if_neg (by omega)]
    exact ⟨Nat.div_le_div hl hb (by omega), Nat.div_le_div ha hm c, Nat.le_trans (Nat.div_le_self _ _) hh⟩
theorem snd_rem (hl : l ≤ a) (ha : a ≤ h) (hh : h ≤ vmask v) (hm : m ≤ b) (hb : b ≤ k) (hk : k ≤ vmask v) : Snd v (remS l h m k) (vurem v a b) := by
  have p1 := lt_of_mask hh
  have p2 := lt_of_mask hk
  unfold remS vurem
  rw [Nat.mod_eq_of_lt (show b < 2 ^ v by omega), Nat.mod_eq_of_lt (show a < 2 ^ v by omega)]
  by_cases c : h < m
  · rw [if_pos c, if_neg (by omega), Nat.mod_eq_of_lt (by omega)]; exact ⟨hl, ha, hh⟩
  · rw [if_neg c]
    have hle := Nat.mod_le a b
    by_cases d : 0 < m
    · have := Nat.mod_lt a (show 0 < b by omega)
      rw [if_pos d, if_neg (by omega)]
      exact ⟨Nat.zero_le _, by show _ ≤ min h (k - 1); omega, by show min h (k - 1) ≤ _; omega⟩
    · rw [if_neg d]
      refine ⟨Nat.zero_le _, ?_, hh⟩
      show _ ≤ h
      split <;> omega
theorem shl_le {x y n : Nat} (h : x ≤ y) : x <<< n ≤ y <<< n := by rw [Nat.shiftLeft_eq, Nat.shiftLeft_eq]; exact Nat.mul_le_mul_right _ h
theorem shr_mono {x y n : Nat} (h : x ≤ y) : x >>> n ≤ y >>> n := by rw [Nat.shiftRight_eq_div_pow, Nat.shiftRight_eq_div_pow]; exact Nat.div_le_div_right h
theorem snd_shl (h1 : 1 ≤ v) (hl : l ≤ a) (ha : a ≤ h) (hh : h ≤ vmask v) (hm : m ≤ b) (hb : b ≤ k) (hk : k ≤ vmask v) : Snd v (shlS v l h m k) (vshl v a b) := by
  unfold shlS
  by_cases c : m ≠ k
  · rw [if_pos c]; exact snd_top (mod_lt' _ _)
  · rw [if_neg c]
    obtain rfl : b = m := by omega
    have e : b % 2 ^ v = b := Nat.mod_eq_of_lt (lt_of_mask (by omega))
    by_cases d : v ≤ b
    · rw [if_pos d]
      have : vshl v a b = 0 := by unfold vshl; rw [e, far_shl a d]
      rw [this]; exact ⟨Nat.le_refl _, Nat.le_refl _, Nat.zero_le _⟩
    · rw [if_neg d]
      by_cases f : vmask v >>> b < h
      · rw [if_pos f]; exact snd_top (mod_lt' _ _)
      · rw [if_neg f]
        have hs : h <<< b ≤ vmask v := by
          rw [Nat.shiftLeft_eq]
          have : h ≤ vmask v / 2 ^ b := by rw [← Nat.shiftRight_eq_div_pow]; omega
          have := Nat.mul_le_mul_right (2 ^ b) this
          have := Nat.div_mul_le_self (vmask v) (2 ^ b)
          omega
        have ha2 := shl_le (n := b) ha
        have : vshl v a b = a <<< b := by unfold vshl; rw [e, Nat.mod_eq_of_lt (lt_of_mask (by omega))]
        rw [this]; exact ⟨shl_le hl, ha2, hs⟩
theorem snd_shr (hl : l ≤ a) (ha : a ≤ h) (hh : h ≤ vmask v) (hm : m ≤ b) (hb : b ≤ k) (hk : k ≤ vmask v) : Snd v (shrS l h m k) (vlshr v a b) := by
  have e : vlshr v a b = a >>> b := by unfold vlshr; rw [Nat.mod_eq_of_lt (lt_of_mask (by omega)), Nat.mod_eq_of_lt (lt_of_mask (by omega))]
  rw [e]; unfold shrS
  by_cases c : m ≠ k
  · rw [if_pos c]; exact ⟨Nat.zero_le _, Nat.le_trans (shr_le _ _) ha, hh⟩
  · rw [if_neg c]
    obtain rfl : b = m := by omega
    exact ⟨shr_mono hl, shr_mono ha, Nat.le_trans (shr_le _ _) hh⟩
theorem vashr_lt' (v a b : Nat) : vashr v a b < 2 ^ v := by
  unfold vashr
  split
  · exact sub_lt_pw v _
  · exact Nat.lt_of_le_of_lt (shr_le _ _) (mod_lt' _ _)
theorem top_off {x v : Nat} (h1 : 1 ≤ v) (hx : x < 2 ^ (v - 1)) : x.testBit (v - 1) = false := testBit_ge hx (Nat.le_refl _)
theorem top_on {x v : Nat} (h1 : 1 ≤ v) (hx : 2 ^ (v - 1) ≤ x) (h2 : x < 2 ^ v) : x.testBit (v - 1) = true := by
  rw [testBit_top h1, Nat.mod_eq_of_lt h2]; exact decide_eq_true hx
theorem snd_sar (h1 : 1 ≤ v) (hl : l ≤ a) (ha : a ≤ h) (hh : h ≤ vmask v) (hm : m ≤ b) (hb : b ≤ k) (hk : k ≤ vmask v) : Snd v (sarS v l h m k) (vashr v a b) := by
  unfold sarS
  by_cases c : h < 2 ^ (v - 1)
  · rw [if_pos c]
    have e : vashr v a b = vlshr v a b := by unfold vashr; rw [top_off h1 (by omega)]; rfl
    rw [e]; exact snd_shr hl ha hh hm hb hk
  · rw [if_neg c]; exact snd_top (vashr_lt' _ _ _)
theorem snd_truth (p q s : Prop) [Decidable p] [Decidable q] [Decidable s] (h1 : p → s) (h2 : q → ¬ s) : Snd 1 (truS p q) (if s then 1 else 0) := by
  unfold truS Snd
  by_cases hp : p
  · rw [if_pos hp, if_pos (h1 hp)]; decide
  · rw [if_neg hp]
    by_cases hq : q
    · rw [if_pos hq, if_neg (h2 hq)]; decide
    · rw [if_neg hq]; split <;> decide
theorem snd_eql (hl : l ≤ a) (ha : a ≤ h) (hh : h ≤ vmask v) (hm : m ≤ b) (hb : b ≤ k) (hk : k ≤ vmask v) : Snd 1 (eqlS l h m k) (veq v a b) := by
  unfold eqlS veq
  rw [Nat.mod_eq_of_lt (lt_of_mask (show a ≤ vmask v by omega)), Nat.mod_eq_of_lt (lt_of_mask (show b ≤ vmask v by omega))]
  exact snd_truth _ _ _ (by omega) (by omega)
theorem snd_ult (hl : l ≤ a) (ha : a ≤ h) (hh : h ≤ vmask v) (hm : m ≤ b) (hb : b ≤ k) (hk : k ≤ vmask v) : Snd 1 (ultS l h m k) (vult v a b) := by
  unfold ultS vult
  rw [Nat.mod_eq_of_lt (lt_of_mask (show a ≤ vmask v by omega)), Nat.mod_eq_of_lt (lt_of_mask (show b ≤ vmask v by omega))]
  exact snd_truth _ _ _ (by omega) (by omega)
theorem snd_slt (h1 : 1 ≤ v) (hl : l ≤ a) (ha : a ≤ h) (hh : h ≤ vmask v) (hm : m ≤ b) (hb : b ≤ k) (hk : k ≤ vmask v) : Snd 1 (sltS v l h m k) (vslt v a b) := by
  have p1 := lt_of_mask hh
  have p2 := lt_of_mask hk
  unfold sltS
  by_cases c : (h < 2 ^ (v - 1) ∧ k < 2 ^ (v - 1)) ∨ (2 ^ (v - 1) ≤ l ∧ 2 ^ (v - 1) ≤ m)
  · rw [if_pos c]
    have e : vslt v a b = vult v a b := by
      unfold vslt vult sgn
      rw [Nat.mod_eq_of_lt (show a < 2 ^ v by omega), Nat.mod_eq_of_lt (show b < 2 ^ v by omega)]
      rcases c with c | c
      · rw [top_off h1 (show a < 2 ^ (v - 1) by omega), top_off h1 (show b < 2 ^ (v - 1) by omega)]
        simp
      · rw [top_on h1 (show 2 ^ (v - 1) ≤ a by omega) (by omega), top_on h1 (show 2 ^ (v - 1) ≤ b by omega) (by omega)]
        simp only [if_true]
        by_cases hab : a < b
        · rw [if_pos (by omega), if_pos hab]
        · rw [if_neg (by omega), if_neg hab]
    rw [e]; exact snd_ult hl ha hh hm hb hk
  · rw [if_neg c]
    refine ⟨Nat.zero_le _, ?_, Nat.le_refl _⟩
    show vslt v a b ≤ 1
    unfold vslt; split <;> omega
theorem concat_small (huv : v + u ≤ 64) (ha : a < 2 ^ v) (hb : b < 2 ^ u) : vconcat v u a b = a * 2 ^ u + b := by
  unfold vconcat
  have hlt : a <<< u < 2 ^ 64 := by
    rw [Nat.shiftLeft_eq]
    have h1 : a * 2 ^ u < 2 ^ v * 2 ^ u := Nat.mul_lt_mul_of_pos_right ha (pw_pos u)
    rw [← Nat.pow_add] at h1
    exact Nat.lt_of_lt_of_le h1 (Nat.pow_le_pow_right (by decide) huv)
  rw [Nat.mod_eq_of_lt ha, Nat.mod_eq_of_lt hb, Nat.mod_eq_of_lt hlt, Nat.shiftLeft_eq]
  have := Nat.two_pow_add_eq_or_of_lt hb a
  rw [Nat.mul_comm, ← this]
theorem snd_concat (huv : v + u ≤ 64) (hl : l ≤ a) (ha : a ≤ h) (hh : h ≤ vmask v) (hm : m ≤ b) (hb : b ≤ k) (hk : k ≤ vmask u) : Snd (v + u) (vconcat v u l m, vconcat v u h k) (vconcat v u a b) := by
  have p1 := lt_of_mask hh
  have p2 := lt_of_mask hk
  rw [concat_small huv (a := a) (b := b) (by omega) (by omega), concat_small huv (a := l) (b := m) (by omega) (by omega), concat_small huv p1 p2]
  have e1 := Nat.mul_le_mul_right (2 ^ u) hl
  have e2 := Nat.mul_le_mul_right (2 ^ u) ha
  have e3 : h * 2 ^ u ≤ (2 ^ v - 1) * 2 ^ u := Nat.mul_le_mul_right _ hh
  rw [Nat.sub_mul, Nat.one_mul] at e3
  have hv := pw_pos v
  have e4 : 2 ^ u ≤ 2 ^ v * 2 ^ u := Nat.le_mul_of_pos_left _ hv
  unfold Snd vmask
  unfold vmask at hk
  rw [Nat.pow_add]
  simp only
  omega
theorem snd_two (op : Int) (ho : 5 ≤ op) (ho2 : op ≤ 20) (ho3 : op ≠ 19) (h1 : 1 ≤ v) (huv : op ≠ 20 → u = v) (huv2 : op = 20 → v + u ≤ 64) (hl : l ≤ a) (ha : a ≤ h) (hh : h ≤ vmask v) (hm : m ≤ b) (hb : b ≤ k) (hk : k ≤ vmask u) :
    Snd (if op = 20 then v + u else if 16 ≤ op then 1 else v) (twoS op v u l h m k) (twoV op v u a b) := by
  unfold twoS twoV
  by_cases h20 : op = 20
  · subst h20
    simp only [Int.reduceEq, if_true, if_false]
    exact snd_concat (huv2 rfl) hl ha hh hm hb hk
  · obtain rfl := huv h20
    have hs : op = 5 ∨ op = 6 ∨ op = 7 ∨ op = 8 ∨ op = 9 ∨ op = 10 ∨ op = 11 ∨ op = 12 ∨ op = 13 ∨ op = 14 ∨ op = 15 ∨ op = 16 ∨ op = 17 ∨ op = 18 := by omega
    rcases hs with rfl | rfl | rfl | rfl | rfl | rfl | rfl | rfl | rfl | rfl | rfl | rfl | rfl | rfl
    all_goals simp only [Int.reduceEq, Int.reduceLE, if_true, if_false]
    · exact snd_and hl ha hh hm hb hk
    · exact snd_or hl ha hh hm hb hk
    · exact snd_xor hl ha hh hm hb hk
    · exact snd_sum hl ha hh hm hb hk
    · exact snd_dif hl ha hh hm hb hk
    · exact snd_mul hl ha hh hm hb hk
    · exact snd_div hl ha hh hm hb hk
    · exact snd_rem hl ha hh hm hb hk
    · exact snd_shl h1 hl ha hh hm hb hk
    · exact snd_shr hl ha hh hm hb hk
    · exact snd_sar h1 hl ha hh hm hb hk
    · exact snd_eql hl ha hh hm hb hk
    · exact snd_ult hl ha hh hm hb hk
    · exact snd_slt h1 hl ha hh hm hb hk
theorem vsext_on (h1 : 1 ≤ v) (hr : v ≤ r) (h64 : r ≤ 64) (ha : 2 ^ (v - 1) ≤ a) (ha2 : a < 2 ^ v) : vsext v r a = a + (2 ^ r - 2 ^ v) := by
  rw [← s64_cut h1 (by omega) h64]
  unfold s64 vcut
  rw [top_on h1 ha ha2, if_pos rfl, Nat.mod_eq_of_lt ha2]
  have hP := pw_dvd64 h64
  have hq := pw_pos (64 - r)
  have hvr := Nat.pow_le_pow_right (n := 2) (by decide) hr
  generalize 2 ^ (64 - r) = q at *
  generalize 2 ^ r = R at *
  generalize 2 ^ v = P at *
  obtain ⟨e, rfl⟩ : ∃ e, q = e + 1 := ⟨q - 1, by omega⟩
  rw [Nat.mul_add, Nat.mul_one] at hP
  rw [show a + (18446744073709551616 - P) = R * e + (a + (R - P)) by omega, Nat.mul_add_mod, Nat.mod_eq_of_lt (by omega)]
theorem vsext_off (h1 : 1 ≤ v) (hr : v ≤ r) (h64 : r ≤ 64) (ha : a < 2 ^ (v - 1)) : vsext v r a = a := by
  have := two_pow_pred h1
  have hvr := Nat.pow_le_pow_right (n := 2) (by decide) hr
  rw [← s64_cut h1 (by omega) h64]
  unfold s64 vcut
  rw [top_off h1 ha, if_neg (by decide), Nat.mod_eq_of_lt (show a < 2 ^ v by omega), Nat.mod_eq_of_lt (by omega)]
theorem vneg_pos (ha0 : 0 < a) (ha : a < 2 ^ v) : vneg v a = 2 ^ v - a := by
  unfold vneg; rw [Nat.mod_eq_of_lt ha, Nat.mod_eq_of_lt (by omega)]
theorem vneg_zero : vneg v 0 = 0 := by unfold vneg; rw [Nat.zero_mod, Nat.sub_zero, Nat.mod_self]
theorem snd_one {x : Nat} (op : Int) (ho : op = 3 ∨ op = 4 ∨ op = 21 ∨ op = 22 ∨ op = 23) (h1 : 1 ≤ v) (r1 : 1 ≤ r) (r2 : r ≤ 64) (hr : op = 3 ∨ op = 4 → r = v) (hr2 : op = 21 → x + r ≤ v) (hr3 : op = 22 ∨ op = 23 → v ≤ r) (hl : l ≤ a) (ha : a ≤ h) (hh : h ≤ vmask v) :
    Snd r (oneS op r v x l h) (oneV op r v x a) := by
  have p1 := lt_of_mask hh
  unfold oneS oneV
  rcases ho with rfl | rfl | rfl | rfl | rfl
  all_goals simp only [Int.reduceEq, if_true, if_false]
  · obtain rfl := hr (.inl rfl)
    unfold Snd vnot vmask; rw [Nat.mod_eq_of_lt (show a < 2 ^ r by omega)]; simp only; omega
  · obtain rfl := hr (.inr rfl)
    by_cases c : l = 0 ∧ 0 < h
    · rw [if_pos c]; exact snd_top (mod_lt' _ _)
    · rw [if_neg c]
      by_cases d : h = 0
      · obtain rfl : a = 0 := by omega
        obtain rfl : l = 0 := by omega
        subst d
        rw [vneg_zero]; exact ⟨Nat.le_refl _, Nat.le_refl _, Nat.zero_le _⟩
      · rw [vneg_pos (a := a) (by omega) (by omega), vneg_pos (a := l) (by omega) (by omega), vneg_pos (a := h) (by omega) (by omega)]
        unfold Snd vmask; simp only; omega
  · have hxv := hr2 rfl
    by_cases c : x = 0 ∧ h ≤ vmask r
    · rw [if_pos c]
      have e : vextract x r a = a := by unfold vextract; rw [c.1, Nat.shiftRight_zero, Nat.mod_eq_of_lt (lt_of_mask (by omega))]
      rw [e]; exact ⟨hl, ha, c.2⟩
    · rw [if_neg c]
      by_cases d : x + r = v
      · rw [if_pos d]
        have hs : h >>> x < 2 ^ r := by
          rw [Nat.shiftRight_eq_div_pow, Nat.div_lt_iff_lt_mul (pw_pos x), ← Nat.pow_add, Nat.add_comm, d]; exact p1
        have hm := shr_mono (n := x) ha
        have e : vextract x r a = a >>> x := by unfold vextract; rw [Nat.mod_eq_of_lt (by omega)]
        rw [e]; exact ⟨shr_mono hl, hm, le_mask hs⟩
      · rw [if_neg d]; exact snd_top (mod_lt' _ _)
  · have hvr := Nat.pow_le_pow_right (n := 2) (by decide) (hr3 (.inl rfl))
    exact ⟨hl, ha, le_mask (by omega)⟩
  · have hv := hr3 (.inr rfl)
    have hvr := Nat.pow_le_pow_right (n := 2) (by decide) hv
    by_cases c : 2 ^ (v - 1) ≤ l
    · rw [if_pos c, vsext_on (a := a) h1 hv r2 (by omega) (by omega), vsext_on (a := l) h1 hv r2 (by omega) (by omega), vsext_on (a := h) h1 hv r2 (by omega) p1]
      unfold Snd vmask; simp only; omega
    · rw [if_neg c]
      by_cases d : 2 ^ (v - 1) ≤ h
      · rw [if_pos d]; exact snd_top (bld_lt _ _)
      · rw [if_neg d, vsext_off (a := a) h1 hv r2 (by omega)]; exact ⟨hl, ha, le_mask (by omega)⟩
end
end Go.Proofs.Ytchahcaccneinaa.Fn
