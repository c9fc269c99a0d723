/- The lowest and the highest bit of a word, in plain words. -/
import Derived.Test.YtnagfkdgangikaaDoorF0
import Derived.Test.YtnagfkdgangikaaDoorTb
import Derived.Test.YtnagfkdgangikaaDoorTr
namespace Go.Proofs.YtnagfkdgangikaaDoor.Fn
open Go Go.RowKit Go.Proofs.YtnagfkdgangikaaDoor.Ev Go.Proofs.YtnagfkdgangikaaDoor.Bv
set_option linter.unusedVariables false
set_option linter.unusedSimpArgs false

theorem lives01_true : saturatelaw01_lives.f = some true := by kernel_rfl
theorem top_bit {x l : Nat} (h : IsLen x l) (hl : 0 < l) : x.testBit (l - 1) = true := by
  obtain ⟨h1, h2⟩ := h
  have h2 : 2 ^ (l - 1) ≤ x := h2.resolve_left (by omega)
  rw [Nat.testBit_eq_decide_div_mod_eq]
  have h3 : 2 ^ l = 2 * 2 ^ (l - 1) := by rw [show l = (l - 1) + 1 by omega, Nat.pow_succ, Nat.add_sub_cancel]; omega
  have h4 : x / 2 ^ (l - 1) = 1 := by
    rw [Nat.div_eq_iff (Nat.two_pow_pos _)]
    omega
  rw [h4]
  rfl
theorem no_bit {x l i : Nat} (h : IsLen x l) (hi : l ≤ i) : x.testBit i = false :=
  Nat.testBit_lt_two_pow (Nat.lt_of_lt_of_le h.1 (Nat.pow_le_pow_right (by decide) hi))

theorem saturateref01_Highest_j2 (fu : Nat) {x l : Nat} (hx : x < 18446744073709551616) (hl : IsLen x l) (d : Nat) : ∀ (k i : Nat), i - l = d → l ≤ i → i ≤ 64 → d < k → saturateref01_Highest.j2 fu k x ((i : Int) - 1) = some ((l : Int) - 1) := by
  induction d with
  | zero =>
    intro k i hd hi h64 hk
    obtain ⟨k, rfl⟩ : ∃ m, k = m + 1 := ⟨k - 1, by omega⟩
    obtain rfl : i = l := by omega
    rw [saturateref01_Highest.j2_succ]
    by_cases h0 : i = 0
    · subst h0
      rw [bifd_neg (by omega)]
      rfl
    · rw [bifd_pos (by omega), show ((i : Int) - 1) = ((i - 1 : Nat) : Int) by omega, saturateref01_Bit_eq hx, Option.bind_some, top_bit hl (by omega)]
      rfl
  | succ d ih =>
    intro k i hd hi h64 hk
    obtain ⟨k, rfl⟩ : ∃ m, k = m + 1 := ⟨k - 1, by omega⟩
    rw [saturateref01_Highest.j2_succ, bifd_pos (by omega), show ((i : Int) - 1) = ((i - 1 : Nat) : Int) by omega, saturateref01_Bit_eq hx, Option.bind_some, no_bit hl (by omega), wrapi, wrapi_of (by omega) (by omega)]
    exact ih k (i - 1) (by omega) (by omega) (by omega) (by omega)
theorem Highest_eq {x : Nat} (hx : x < 18446744073709551616) : ∃ r : Int, bits_Highest.f (x : Int) = some r ∧ saturateref01_Highest.f (x : Int) = some r := by
  obtain ⟨l, e, hl, h64⟩ := bits_Len64_eq hx
  refine ⟨(l : Int) - 1, ?_, ?_⟩
  · unfold bits_Highest.f
    rw [e, Option.bind_some, wrapi, wrapi_of (by omega) (by omega)]
  · unfold saturateref01_Highest.f saturateref01_Highest.g
    exact saturateref01_Highest_j2 _ hx hl (64 - l) (fuel0 + 1) 64 rfl h64 (by decide) (by unfold fuel0; omega)

theorem odd_part : ∀ (n x : Nat), x ≤ n → x ≠ 0 → ∃ t q, x = 2 ^ t * (2 * q + 1)
  | 0, x, h, h0 => absurd (Nat.le_zero.1 h) h0
  | n + 1, x, h, h0 => by
    rcases Nat.mod_two_eq_zero_or_one x with hm | hm
    · obtain ⟨t, q, e⟩ := odd_part n (x / 2) (by omega) (by omega)
      refine ⟨t + 1, q, ?_⟩
      rw [Nat.pow_succ, Nat.mul_comm (2 ^ t) 2, Nat.mul_assoc, ← e]
      omega
    · exact ⟨0, x / 2, by rw [Nat.pow_zero, Nat.one_mul]; omega⟩
theorem bit_x {t q j : Nat} : (2 ^ t * (2 * q + 1)).testBit j = if j < t then false else (2 * q + 1).testBit (j - t) := by
  have := Nat.testBit_two_pow_mul_add (2 * q + 1) (Nat.two_pow_pos t) j
  rw [Nat.add_zero, Nat.zero_testBit] at this
  exact this
theorem bit_x1 {t q j : Nat} : (2 ^ t * (2 * q + 1) - 1).testBit j = if j < t then (2 ^ t - 1).testBit j else (2 * q).testBit (j - t) := by
  have hp := Nat.two_pow_pos t
  have := Nat.testBit_two_pow_mul_add (2 * q) (show 2 ^ t - 1 < 2 ^ t by omega) j
  rw [← this]
  congr 1
  rw [Nat.mul_add, Nat.mul_one]
  omega
theorem bit_odd (q s : Nat) : (2 * q + 1).testBit (s + 1) = q.testBit s := by
  rw [Nat.testBit_succ]; congr 1; omega
theorem bit_even (q s : Nat) : (2 * q).testBit (s + 1) = q.testBit s := by
  rw [Nat.testBit_succ]; congr 1; omega
theorem low_bit {x t q : Nat} (hx : x < 18446744073709551616) (e : x = 2 ^ t * (2 * q + 1)) : x &&& (18446744073709551616 - x) = 2 ^ t := by
  have hp := Nat.two_pow_pos t
  have h0 : 0 < x := by rw [e]; exact Nat.mul_pos hp (by omega)
  apply Nat.eq_of_testBit_eq
  intro j
  have h1 : (18446744073709551616 - x).testBit j = (decide (j < 64) && !(x - 1).testBit j) := by
    have := Nat.testBit_two_pow_sub_succ (n := 64) (x := x - 1) (by rw [p64]; omega) j
    rw [p64, show x - 1 + 1 = x by omega] at this
    exact this
  rw [Nat.testBit_and, h1, Nat.testBit_two_pow]
  by_cases h64 : j < 64
  · rw [decide_eq_true h64, Bool.true_and, e, bit_x, bit_x1]
    by_cases hj : j < t
    · rw [if_pos hj, Bool.false_and, decide_eq_false (by omega)]
    · rw [if_neg hj, if_neg hj]
      rcases Nat.eq_or_lt_of_le (Nat.le_of_not_lt hj) with h | h
      · subst h
        rw [Nat.sub_self, decide_eq_true rfl, Nat.testBit_zero, Nat.testBit_zero, decide_eq_true (by omega), decide_eq_false (by omega)]
        rfl
      · obtain ⟨s, rfl⟩ : ∃ s, j = t + s + 1 := ⟨j - t - 1, by omega⟩
        rw [show t + s + 1 - t = s + 1 by omega, bit_odd, bit_even, decide_eq_false (by omega)]
        cases q.testBit s <;> rfl
  · have hxb : x.testBit j = false := Nat.testBit_lt_two_pow (Nat.lt_of_lt_of_le (lt_pw hx) (Nat.pow_le_pow_right (by decide) (by omega)))
    have ht : t < 64 := by
      refine Nat.lt_of_not_le fun h => ?_
      have h2 := Nat.pow_le_pow_right (n := 2) (by decide) h
      rw [p64] at h2
      have : 2 ^ t * 1 ≤ 2 ^ t * (2 * q + 1) := Nat.mul_le_mul_left _ (by omega)
      omega
    rw [hxb, Bool.false_and, decide_eq_false (by omega)]
theorem t_lt {x t q : Nat} (hx : x < 18446744073709551616) (e : x = 2 ^ t * (2 * q + 1)) : t < 64 := by
  refine Nat.lt_of_not_le fun h => ?_
  have h2 := Nat.pow_le_pow_right (n := 2) (by decide) h
  rw [p64] at h2
  have : 2 ^ t * 1 ≤ 2 ^ t * (2 * q + 1) := Nat.mul_le_mul_left _ (by omega)
  omega
theorem tz_all : ∀ t : Fin 64, ((2 ^ t.1 * 285870213051353865) % 18446744073709551616) >>> 58 < 64 ∧ gtab0_0 (((2 ^ t.1 * 285870213051353865) % 18446744073709551616) >>> 58) = (t.1 : Int) := by decide +kernel
theorem Trailing_eq {x t q : Nat} (hx : x < 18446744073709551616) (e : x = 2 ^ t * (2 * q + 1)) : bits_TrailingZeros64.f (x : Int) = some (t : Int) := by
  have ht := t_lt hx e
  have h0 : 0 < x := by rw [e]; exact Nat.mul_pos (Nat.two_pow_pos t) (by omega)
  obtain ⟨z1, z2⟩ := tz_all ⟨t, ht⟩
  simp only at z1 z2
  have hi : shr .u64 (IntKind.u64.wrap ((Go.bits .and .u64 (x : Int) (IntKind.u64.wrap (0 - (x : Int)))) * 285870213051353865)) 58 = ((((2 ^ t * 285870213051353865) % 18446744073709551616) >>> 58 : Nat) : Int) := by
    rw [Int.zero_sub, wrapu_neg hx, Nat.mod_eq_of_lt (by omega), and64 hx (by omega), low_bit hx e]
    have := wrapu_mul (2 ^ t) 285870213051353865
    rw [show ((285870213051353865 : Nat) : Int) = (285870213051353865 : Int) from rfl] at this
    rw [this]
    exact shr64 (n := 58) (Nat.mod_lt _ (by decide))
  unfold bits_TrailingZeros64.f
  rw [hi]
  generalize (2 ^ t * 285870213051353865) % 18446744073709551616 >>> 58 = y at z1 z2
  have hne : ((x : Int) == 0) = false := by
    rw [beq_eq_false_iff_ne]; omega
  rw [hne, cond_false, bifd_pos (by omega), bifd_pos (by omega), Int.toNat_natCast, z2, wrapi, wrapi_of (by omega) (by omega)]

theorem saturateref01_Lowest_j2 (fu : Nat) {x t : Nat} (hx : x < 18446744073709551616) (ht : t < 64) (h1 : x.testBit t = true) (h2 : ∀ j, j < t → x.testBit j = false) (d : Nat) : ∀ (k i : Nat), t - i = d → i ≤ t → d < k → saturateref01_Lowest.j2 fu k x (i : Int) = some (t : Int) := by
  induction d with
  | zero =>
    intro k i hd hi hk
    obtain ⟨k, rfl⟩ : ∃ m, k = m + 1 := ⟨k - 1, by omega⟩
    obtain rfl : i = t := by omega
    rw [saturateref01_Lowest.j2_succ, bifd_pos (by omega), saturateref01_Bit_eq hx, Option.bind_some, h1]
    rfl
  | succ d ih =>
    intro k i hd hi hk
    obtain ⟨k, rfl⟩ : ∃ m, k = m + 1 := ⟨k - 1, by omega⟩
    rw [saturateref01_Lowest.j2_succ, bifd_pos (by omega), saturateref01_Bit_eq hx, Option.bind_some, h2 i (by omega), wrapi, wrapi_succ (by omega)]
    exact ih k (i + 1) (by omega) (by omega) (by omega)
theorem saturateref01_Lowest_0 (fu : Nat) (d : Nat) : ∀ (k i : Nat), 64 - i = d → i ≤ 64 → d < k → saturateref01_Lowest.j2 fu k ((0 : Nat) : Int) (i : Int) = some (-1) := by
  induction d with
  | zero =>
    intro k i hd hi hk
    obtain ⟨k, rfl⟩ : ∃ m, k = m + 1 := ⟨k - 1, by omega⟩
    rw [saturateref01_Lowest.j2_succ, bifd_neg (by omega)]
  | succ d ih =>
    intro k i hd hi hk
    obtain ⟨k, rfl⟩ : ∃ m, k = m + 1 := ⟨k - 1, by omega⟩
    rw [saturateref01_Lowest.j2_succ, bifd_pos (by omega), saturateref01_Bit_eq (by decide), Option.bind_some, Nat.zero_testBit, wrapi, wrapi_succ (by omega)]
    exact ih k (i + 1) (by omega) (by omega) (by omega)
theorem Lowest_eq {x : Nat} (hx : x < 18446744073709551616) : ∃ r : Int, bits_Lowest.f (x : Int) = some r ∧ saturateref01_Lowest.f (x : Int) = some r := by
  by_cases h0 : x = 0
  · subst h0
    refine ⟨-1, rfl, ?_⟩
    unfold saturateref01_Lowest.f saturateref01_Lowest.g
    exact saturateref01_Lowest_0 _ 64 (fuel0 + 1) 0 rfl (by decide) (by unfold fuel0; decide)
  · obtain ⟨t, q, e⟩ := odd_part x x (Nat.le_refl _) h0
    have ht := t_lt hx e
    have hne : ((x : Int) == 0) = false := by
      rw [beq_eq_false_iff_ne]; omega
    refine ⟨(t : Int), ?_, ?_⟩
    · unfold bits_Lowest.f
      rw [hne, cond_false, Trailing_eq hx e, Option.bind_some]
    · unfold saturateref01_Lowest.f saturateref01_Lowest.g
      refine saturateref01_Lowest_j2 _ hx ht ?_ (fun j hj => ?_) t (fuel0 + 1) 0 rfl (Nat.zero_le _) (by unfold fuel0; omega)
      · rw [e, bit_x, if_neg (Nat.lt_irrefl _), Nat.sub_self, Nat.testBit_zero, decide_eq_true (by omega)]
      · rw [e, bit_x, if_pos hj]
end Go.Proofs.YtnagfkdgangikaaDoor.Fn
