/- What the printed functions return, in the words of the theory: one section for each function. -/
import Derived.Test.YtnagfkdgangikaaBv
import Derived.Test.YtnagfkdgangikaaQAllx1
import Derived.Test.YtnagfkdgangikaaQAllx2
import Derived.Test.YtnagfkdgangikaaQAllx3
import Derived.Test.YtnagfkdgangikaaQAllx4
import Derived.Test.YtnagfkdgangikaaQAllx5
namespace Go.Proofs.Ytnagfkdgangikaa.Pure
open Go Go.RowKit Go.Proofs.Ytnagfkdgangikaa.QAll Go.Proofs.YtnagfkdgangikaaW.PrintWords Go.Proofs.YtnagfkdgangikaaW.PrintLast Go.Proofs.Ytnagfkdgangikaa.Bv
set_option linter.unusedVariables false
set_option linter.unusedSimpArgs false
theorem bits_clamp_eq (a : Int) : bits_clamp.f a = some (W a : Int) := by unfold bits_clamp.f; rw [W_int]
theorem bits_Mask_eq (a : Int) : bits_Mask.f a = some (vmask (W a) : Int) := by
  unfold bits_Mask.f; rw [bits_clamp_eq]; simp only [Option.bind_some]
  rw [wrapi_64, if_pos (Int.natCast_nonneg _), show (18446744073709551615 : Int) = ((18446744073709551615 : Nat) : Int) from rfl, shr64 (by decide), mask_shr (W_le a)]
theorem saturateref01_W_eq (a : Int) : saturateref01_W.f a = some (W a : Int) := by unfold saturateref01_W.f; rw [W_int]
theorem saturateref01_Mask_l0_eq (d : Nat) : ∀ (k i w : Nat), w ≤ 64 → w - i = d → i ≤ w → d < k → saturateref01_Mask.l0 k (vmask i : Int) w i = some (vmask w : Int) := by
  induction d with
  | zero =>
    intro k i w hw hd hi hk
    obtain ⟨k, rfl⟩ : ∃ m, k = m + 1 := ⟨k - 1, by omega⟩
    obtain rfl : i = w := by omega
    unfold saturateref01_Mask.l0; rw [if_neg (by omega)]
  | succ d ih =>
    intro k i w hw hd hi hk
    obtain ⟨k, rfl⟩ : ∃ m, k = m + 1 := ⟨k - 1, by omega⟩
    unfold saturateref01_Mask.l0; rw [if_pos (by omega), wrapi_succ (by omega), mask_step (by omega)]
    exact ih k (i + 1) w hw (by omega) (by omega) (by omega)
theorem saturateref01_Mask_eq {k : Nat} (hk : 66 ≤ k) (a : Int) : saturateref01_Mask.f k a = some (vmask (W a) : Int) := by
  unfold saturateref01_Mask.f; rw [saturateref01_W_eq]; simp only [Option.bind_some]
  exact saturateref01_Mask_l0_eq (W a) k 0 (W a) (W_le a) (by omega) (by omega) (by have := W_le a; omega)
theorem bits_Cut_eq (a : Int) {x : Nat} (hx : x < 18446744073709551616) : bits_Cut.f a x = some (vcut (W a) x : Int) := by
  unfold bits_Cut.f; rw [bits_Mask_eq]; simp only [Option.bind_some]
  rw [and64 hx (vmask_lt (W_le a))]; unfold vmask vcut; rw [and_mask]
theorem saturateref01_Bit_eq {x : Nat} (hx : x < 18446744073709551616) (i : Nat) : saturateref01_Bit.f x i = some ((x.testBit i).toNat : Int) := by
  unfold saturateref01_Bit.f
  rw [if_neg (by omega)]
  by_cases h : 63 < i
  · rw [if_pos (by omega), testBit_ge (lt_pw hx) (by omega)]; rfl
  · rw [if_neg (by omega), wrapu_of (by omega), if_pos (Int.natCast_nonneg _), shr64 hx, show (1 : Int) = ((1 : Nat) : Int) from rfl, and64 (Nat.lt_of_le_of_lt (shr_le _ _) hx) (by decide)]
    rw [Nat.and_one_is_mod, Nat.toNat_testBit, Nat.shiftRight_eq_div_pow]
theorem saturateref01_Bit_neg {i : Int} (h : i < 0) (x : Int) : saturateref01_Bit.f x i = some 0 := by
  unfold saturateref01_Bit.f; rw [if_pos h]
theorem saturateref01_Cut_l0_eq {x : Nat} (hx : x < 18446744073709551616) (d : Nat) : ∀ (k i w : Nat), w ≤ 64 → w - i = d → i ≤ w → d < k → saturateref01_Cut.l0 k x (bld x.testBit i : Int) w i = some (bld x.testBit w : Int) := by
  induction d with
  | zero =>
    intro k i w hw hd hi hk
    obtain ⟨k, rfl⟩ : ∃ m, k = m + 1 := ⟨k - 1, by omega⟩
    obtain rfl : i = w := by omega
    unfold saturateref01_Cut.l0; rw [if_neg (by omega)]
  | succ d ih =>
    intro k i w hw hd hi hk
    obtain ⟨k, rfl⟩ : ∃ m, k = m + 1 := ⟨k - 1, by omega⟩
    unfold saturateref01_Cut.l0; rw [if_pos (by omega), saturateref01_Bit_eq hx, wrapu_of (by omega)]; simp only [Option.bind_some]
    rw [if_pos (Int.natCast_nonneg _), wrapi_succ (by omega), bld_step x.testBit (by omega)]
    exact ih k (i + 1) w hw (by omega) (by omega) (by omega)
theorem saturateref01_Cut_eq {k : Nat} (hk : 66 ≤ k) (a : Int) {x : Nat} (hx : x < 18446744073709551616) : saturateref01_Cut.f k a x = some (vcut (W a) x : Int) := by
  unfold saturateref01_Cut.f; rw [saturateref01_W_eq]; simp only [Option.bind_some]
  have := saturateref01_Cut_l0_eq hx (W a) k 0 (W a) (W_le a) (by omega) (by omega) (by have := W_le a; omega)
  rw [bld_cut x (W a)] at this; exact this
theorem bits_Signed_eq (a : Int) {x : Nat} (hx : x < 18446744073709551616) : bits_Signed.f a x = some (sgn (W a) x) := by
  unfold bits_Signed.f; rw [bits_clamp_eq]; simp only [Option.bind_some]
  rw [wrapi_64, if_pos (Int.natCast_nonneg _), shl64, signed_shifts (W_pos a) (W_le a)]
theorem saturateref01_Negative_eq (a : Int) {x : Nat} (hx : x < 18446744073709551616) : saturateref01_Negative.f a x = some (x.testBit (W a - 1)) := by
  unfold saturateref01_Negative.f; rw [saturateref01_W_eq]; simp only [Option.bind_some]
  rw [wrapi_pred (W_pos a) (W_le a), saturateref01_Bit_eq hx]; simp only [Option.bind_some]
  cases x.testBit (W a - 1) <;> rfl
theorem saturateref01_Signed_eq {k : Nat} (hk : 66 ≤ k) (a : Int) {x : Nat} (hx : x < 18446744073709551616) : saturateref01_Signed.f k a x = some (sgn (W a) x) := by
  unfold saturateref01_Signed.f; rw [saturateref01_Cut_eq hk a hx, saturateref01_Negative_eq a hx, saturateref01_Mask_eq hk a]; simp only [Option.bind_some]
  have h1 := W_pos a
  have h2 := W_le a
  have h3 := sgn_range (x := x) h1 h2
  have h4 := testBit_top (x := x) h1
  have h5 := Nat.mod_lt x (pw_pos (W a))
  have h6 := two_pow_pred h1
  have h7 := pw_le h2
  unfold sgn at h3 ⊢
  unfold vmask vcut
  by_cases ht : x.testBit (W a - 1)
  · rw [ht] at h4
    have h8 : 2 ^ (W a - 1) ≤ x % 2 ^ W a := by simpa using h4.symm
    rw [if_pos ht, if_pos ht, wrapu_sub_le (by omega) (by omega)]
    rw [wrapi_of (a := ((2 ^ W a - 1 - x % 2 ^ W a : Nat) : Int)) (by omega) (by omega), wrapi_of (a := -_) (by omega) (by omega), wrapi_of (by omega) (by omega)]
    congr 1; omega
  · have ht' : x.testBit (W a - 1) = false := by simpa using ht
    rw [ht'] at h4
    have h8 : ¬ 2 ^ (W a - 1) ≤ x % 2 ^ W a := by simpa using h4.symm
    rw [if_neg ht, if_neg ht, wrapi_of (by omega) (by omega)]
theorem bits_Add_eq (a : Int) {x y : Nat} : bits_Add.f a x y = some (vadd (W a) x y : Int) := by
  unfold bits_Add.f; rw [wrapu_add, bits_Cut_eq a (Nat.mod_lt _ (by decide))]; simp only [Option.bind_some]
  unfold vcut vadd; rw [mod64_mod (W_le a)]
theorem bits_Sub_eq (a : Int) {x y : Nat} (hy : y < 18446744073709551616) : bits_Sub.f a x y = some (vsub (W a) x y : Int) := by
  unfold bits_Sub.f; rw [wrapu_sub hy, bits_Cut_eq a (Nat.mod_lt _ (by decide))]; simp only [Option.bind_some]
  rw [sub_cut (W_le a) x hy]
theorem bits_shift_j0_eq {k : Nat} (hk : 1 ≤ k) (a : Int) {x n : Nat} (hx : x < 18446744073709551616) :
    bits_shift.j0 k (vcut (W a) x : Int) (n : Int) (decide ((n : Int) ≥ (IntKind.u64.wrap (W a : Int)))) = some (((x % 2 ^ W a) >>> n : Nat) : Int) := by
  obtain ⟨k, rfl⟩ : ∃ m, k = m + 1 := ⟨k - 1, by omega⟩
  have hw := W_le a
  simp only [bits_shift.j0]
  rw [wrapu_of (by omega), if_pos (Int.natCast_nonneg _), shr64 (vcut_lt x hw)]
  unfold vcut
  by_cases h : W a ≤ n
  · rw [if_pos (by simpa using h), far_shr x h]; rfl
  · rw [if_neg (by simpa using h)]
theorem bits_shift_shl {k : Nat} (hk : 1 ≤ k) (a : Int) {x y : Nat} (hx : x < 18446744073709551616) (hy : y < 18446744073709551616) : bits_shift.f k 0 a x y = some (vshl (W a) x y : Int) := by
  have hw := W_le a
  unfold bits_shift.f
  rw [bits_Cut_eq a hx, bits_Cut_eq a hy, bits_clamp_eq]; simp only [Option.bind_some]
  rw [if_neg (by decide), if_neg (by decide), wrapu_of (by omega)]
  unfold vshl
  by_cases h : W a ≤ vcut (W a) y
  · rw [if_pos (by omega)]
    unfold vcut at h
    rw [far_shl x h]; rfl
  · rw [if_neg (by omega), if_pos (Int.natCast_nonneg _), shl64, bits_Cut_eq a (Nat.mod_lt _ (by decide))]; simp only [Option.bind_some]
    unfold vcut
    rw [mod64_mod hw, Nat.mod_two_pow_shiftLeft_mod_two_pow]
theorem bits_shift_lshr {k : Nat} (hk : 1 ≤ k) (a : Int) {x y : Nat} (hx : x < 18446744073709551616) (hy : y < 18446744073709551616) : bits_shift.f k 1 a x y = some (vlshr (W a) x y : Int) := by
  unfold bits_shift.f
  rw [bits_Cut_eq a hx, bits_Cut_eq a hy, bits_clamp_eq]; simp only [Option.bind_some]
  rw [if_neg (by decide), if_pos trivial, bits_shift_j0_eq hk a hx]
  rfl
theorem bits_shift_ashr {k : Nat} (hk : 1 ≤ k) (a : Int) {x y : Nat} (hx : x < 18446744073709551616) (hy : y < 18446744073709551616) : bits_shift.f k 2 a x y = some (vashr (W a) x y : Int) := by
  have hw := W_le a
  unfold bits_shift.f
  rw [bits_Cut_eq a hx, bits_Cut_eq a hy, bits_clamp_eq]; simp only [Option.bind_some]
  rw [if_pos trivial, bits_Signed_eq a (vcut_lt x hw), sgn_cut (W_pos a), bits_shift_j0_eq hk a hx, bits_Mask_eq]; simp only [Option.bind_some]
  rw [wrapu_of (by omega)]
  unfold vashr
  by_cases ht : x.testBit (W a - 1)
  · rw [if_pos ((sgn_neg (W_pos a)).2 ht), if_pos ht]
    by_cases h : W a ≤ vcut (W a) y
    · rw [if_pos (by omega)]
      unfold vcut at h
      rw [far_sub _ h]
    · rw [if_neg (by omega), if_pos (Int.natCast_nonneg _), signed_shr (W_pos a) hw ht (by omega), bits_Cut_eq a (Nat.lt_of_le_of_lt (Nat.sub_le _ _) (by decide))]; simp only [Option.bind_some]
      rw [signed_shr_cut hw]; rfl
  · rw [if_neg (fun h => ht ((sgn_neg (W_pos a)).1 h)), if_neg ht]; rfl
theorem bits_Ashr_eq {k : Nat} (hk : 1 ≤ k) (a : Int) {x y : Nat} (hx : x < 18446744073709551616) (hy : y < 18446744073709551616) : bits_Ashr.f k a x y = some (vashr (W a) x y : Int) := by
  unfold bits_Ashr.f; rw [bits_shift_ashr hk a hx hy]; rfl
theorem bits_flag_eq (p : Prop) [Decidable p] : bits_flag.f (decide p) = some ((if p then 1 else 0 : Nat) : Int) := by
  unfold bits_flag.f; by_cases h : p <;> simp [h]
theorem bits_Slt_eq (a : Int) {x y : Nat} (hx : x < 18446744073709551616) (hy : y < 18446744073709551616) : bits_Slt.f a x y = some (vslt (W a) x y : Int) := by
  unfold bits_Slt.f; rw [bits_Signed_eq a hx, bits_Signed_eq a hy]; simp only [Option.bind_some]
  rw [bits_flag_eq]; rfl
theorem bits_Udiv_eq (a : Int) {x y : Nat} (hx : x < 18446744073709551616) (hy : y < 18446744073709551616) : bits_Udiv.f a x y = some (vudiv (W a) x y : Int) := by
  unfold bits_Udiv.f; rw [bits_Cut_eq a hx, bits_Cut_eq a hy, bits_Mask_eq]; simp only [Option.bind_some]
  have hl := vudiv_lt x y (W_le a)
  unfold vudiv at *
  unfold vcut
  by_cases h : y % 2 ^ W a = 0
  · rw [if_pos (by rw [h]; rfl), if_pos h]; rfl
  · rw [if_neg h] at hl
    rw [if_neg (by omega), if_neg h, tdiv_nat, wrapu_of hl]
theorem lives_eq : saturatelaw01_lives.f 1000 = some true := by decide +kernel
theorem saturateref01_Add_l0_eq {x y : Nat} (hx : x < 18446744073709551616) (hy : y < 18446744073709551616) (d : Nat) : ∀ (k i w z c : Nat), w ≤ 64 → w - i = d → i ≤ w → d < k → z < 2 ^ i → c ≤ 1 → z + c * 2 ^ i = x % 2 ^ i + y % 2 ^ i →
    saturateref01_Add.l0 k x y z c w i = some (vadd w x y : Int) := by
  induction d with
  | zero =>
    intro k i w z c hw hd hi hk hz hc he
    obtain ⟨k, rfl⟩ : ∃ m, k = m + 1 := ⟨k - 1, by omega⟩
    obtain rfl : i = w := by omega
    unfold saturateref01_Add.l0; rw [if_neg (by omega)]
    unfold vadd
    rw [Nat.add_mod, ← he, Nat.add_mul_mod_self_right, Nat.mod_eq_of_lt hz]
  | succ d ih =>
    intro k i w z c hw hd hi hk hz hc he
    obtain ⟨k, rfl⟩ : ∃ m, k = m + 1 := ⟨k - 1, by omega⟩
    unfold saturateref01_Add.l0; rw [if_pos (by omega), saturateref01_Bit_eq hx, saturateref01_Bit_eq hy, wrapu_of (by omega)]; simp only [Option.bind_some]
    have hb1 := toNat_le (x.testBit i)
    have hb2 := toNat_le (y.testBit i)
    have hx1 := mod_succ x i
    have hy1 := mod_succ y i
    rw [if_pos (Int.natCast_nonneg _), wrapi_succ (by omega), ← Int.natCast_add, wrapu_of (by omega), ← Int.natCast_add, wrapu_of (by omega)]
    generalize (x.testBit i).toNat = b1 at *
    generalize (y.testBit i).toNat = b2 at *
    rw [show (2 : Int) = ((2 : Nat) : Int) from rfl, tmod_nat, tdiv_nat, wrapu_of (by omega), put_bit hz (by omega) (by omega)]
    have hp : 2 ^ (i + 1) = 2 * 2 ^ i := by rw [Nat.pow_succ, Nat.mul_comm]
    refine ih k (i + 1) w _ _ hw (by omega) (by omega) (by omega) ?_ (by omega) ?_
    · rw [hp]
      have : (b1 + b2 + c) % 2 * 2 ^ i ≤ 1 * 2 ^ i := Nat.mul_le_mul_right _ (by omega)
      omega
    · rw [hx1, hy1, hp]
      have e1 : (b1 + b2 + c) / 2 * (2 * 2 ^ i) = ((b1 + b2 + c) / 2 * 2) * 2 ^ i := by rw [Nat.mul_assoc]
      have e2 : (b1 + b2 + c) % 2 * 2 ^ i + ((b1 + b2 + c) / 2 * 2) * 2 ^ i = (b1 + b2 + c) * 2 ^ i := by rw [← Nat.add_mul]; congr 1; omega
      have e3 : (b1 + b2 + c) * 2 ^ i = b1 * 2 ^ i + b2 * 2 ^ i + c * 2 ^ i := by rw [Nat.add_mul, Nat.add_mul]
      rw [e1]; omega
theorem saturateref01_Add_eq {k : Nat} (hk : 66 ≤ k) (a : Int) {x y : Nat} (hx : x < 18446744073709551616) (hy : y < 18446744073709551616) : saturateref01_Add.f k a x y = some (vadd (W a) x y : Int) := by
  unfold saturateref01_Add.f; rw [saturateref01_W_eq]; simp only [Option.bind_some]
  exact saturateref01_Add_l0_eq hx hy (W a) k 0 (W a) 0 0 (W_le a) (by omega) (by omega) (by have := W_le a; omega) (by simp) (by omega) (by simp [Nat.mod_one])
theorem saturateref01_Not_eq {k : Nat} (hk : 66 ≤ k) (a : Int) {x : Nat} (hx : x < 18446744073709551616) : saturateref01_Not.f k a x = some (vnot (W a) x : Int) := by
  unfold saturateref01_Not.f; rw [saturateref01_Mask_eq hk a, saturateref01_Cut_eq hk a hx]; simp only [Option.bind_some]
  rw [wrapu_sub_le (vmask_lt (W_le a)) (by unfold vmask vcut; have := Nat.mod_lt x (pw_pos (W a)); omega)]; rfl
theorem saturateref01_Neg_eq {k : Nat} (hk : 66 ≤ k) (a : Int) {x : Nat} (hx : x < 18446744073709551616) : saturateref01_Neg.f k a x = some (vneg (W a) x : Int) := by
  unfold saturateref01_Neg.f; rw [saturateref01_Not_eq hk a hx]; simp only [Option.bind_some]
  rw [show (1 : Int) = ((1 : Nat) : Int) from rfl, saturateref01_Add_eq hk a (vnot_lt x (W_le a)) (by decide)]; simp only [Option.bind_some]
  have := Nat.mod_lt x (pw_pos (W a))
  unfold vadd vneg vnot
  rw [show 2 ^ W a - 1 - x % 2 ^ W a + 1 = 2 ^ W a - x % 2 ^ W a by omega]
theorem saturateref01_Sub_eq {k : Nat} (hk : 66 ≤ k) (a : Int) {x y : Nat} (hx : x < 18446744073709551616) (hy : y < 18446744073709551616) : saturateref01_Sub.f k a x y = some (vsub (W a) x y : Int) := by
  unfold saturateref01_Sub.f; rw [saturateref01_Neg_eq hk a hy]; simp only [Option.bind_some]
  rw [saturateref01_Add_eq hk a hx (vneg_lt y (W_le a))]; simp only [Option.bind_some]
  unfold vadd vneg vsub; rw [Nat.add_mod_mod]
theorem bits_Neg_eq (a : Int) {x : Nat} (hx : x < 18446744073709551616) : bits_Neg.f a x = some (vneg (W a) x : Int) := by
  unfold bits_Neg.f; rw [wrapu_neg hx, bits_Cut_eq a (Nat.mod_lt _ (by decide))]; simp only [Option.bind_some]
  have := sub_cut (W_le a) 0 hx
  rw [Nat.zero_add] at this
  rw [this]; unfold vsub vneg; rw [Nat.zero_add]
theorem bits_Mul_eq (a : Int) {x y : Nat} : bits_Mul.f a x y = some (vmul (W a) x y : Int) := by
  unfold bits_Mul.f; rw [wrapu_mul, bits_Cut_eq a (Nat.mod_lt _ (by decide))]; simp only [Option.bind_some]
  unfold vcut vmul; rw [mod64_mod (W_le a)]
theorem saturateref01_Mul_l0_eq (a : Int) {x y : Nat} (hx : x < 18446744073709551616) (hy : y < 18446744073709551616) (n : Nat) : ∀ (k : Nat), n + 70 < k → n ≤ 64 →
    saturateref01_Mul.l0 k a x y (vmul (W a) x (y % 2 ^ W a / 2 ^ n) : Int) ((n : Int) - 1) = some (vmul (W a) x (y % 2 ^ W a) : Int) ∨ W a < n := by
  induction n with
  | zero =>
    intro k hk hn
    obtain ⟨k, rfl⟩ : ∃ m, k = m + 1 := ⟨k - 1, by omega⟩
    left
    unfold saturateref01_Mul.l0; rw [if_neg (by omega)]; simp
  | succ n ih =>
    intro k hk hn
    by_cases hw : W a < n + 1
    · exact .inr hw
    left
    obtain ⟨k, rfl⟩ : ∃ m, k = m + 1 := ⟨k - 1, by omega⟩
    have hih := (ih k (by omega) (by omega)).resolve_right (by omega)
    have e : (((n + 1 : Nat) : Int) - 1) = (n : Int) := by omega
    have hl := vmul_lt x (y % 2 ^ W a / 2 ^ (n + 1)) (W_le a)
    have hd := div_succ (y % 2 ^ W a) n
    have ht : (y % 2 ^ W a).testBit n = y.testBit n := by rw [Nat.testBit_mod_two_pow]; have : n < W a := by omega
                                                          simp [this]
    rw [ht] at hd
    unfold saturateref01_Mul.l0; rw [e, if_pos (Int.natCast_nonneg _), saturateref01_Add_eq (by omega) a hl hl, saturateref01_Bit_eq hy]; simp only [Option.bind_some]
    rw [wrapi_of (a := (n : Int) - 1) (by omega) (by omega)]
    generalize y % 2 ^ W a / 2 ^ (n + 1) = q at *
    cases hb : y.testBit n with
    | false =>
      rw [if_neg (by decide)]
      rw [hb] at hd
      rw [show vadd (W a) (vmul (W a) x q) (vmul (W a) x q) = vmul (W a) x (y % 2 ^ W a / 2 ^ n) by
        rw [hd]; unfold vadd vmul; rw [← Nat.add_mod, ← Nat.mul_add]; congr 2; simp; omega]
      exact hih
    | true =>
      rw [if_pos (show ((true.toNat : Nat) : Int) = 1 from rfl), saturateref01_Add_eq (by omega) a (vadd_lt _ _ (W_le a)) hx]; simp only [Option.bind_some]
      rw [hb] at hd
      rw [show vadd (W a) (vadd (W a) (vmul (W a) x q) (vmul (W a) x q)) x = vmul (W a) x (y % 2 ^ W a / 2 ^ n) by
        rw [hd]; unfold vadd vmul; rw [← Nat.add_mod, Nat.mod_add_mod]; congr 1
        rw [show true.toNat = 1 from rfl, Nat.mul_add, Nat.mul_one, Nat.two_mul, Nat.mul_add]]
      exact hih
theorem saturateref01_Mul_eq {k : Nat} (hk : 200 ≤ k) (a : Int) {x y : Nat} (hx : x < 18446744073709551616) (hy : y < 18446744073709551616) : saturateref01_Mul.f k a x y = some (vmul (W a) x y : Int) := by
  have h1 := W_le a
  have h2 := W_pos a
  unfold saturateref01_Mul.f; rw [saturateref01_W_eq]; simp only [Option.bind_some]
  have h := (saturateref01_Mul_l0_eq a hx hy (W a) k (by omega) h1).resolve_right (by omega)
  rw [Nat.div_eq_of_lt (Nat.mod_lt _ (pw_pos _))] at h
  rw [wrapi_of (a := (W a : Int) - 1) (by omega) (by omega)]
  have e0 : vmul (W a) x 0 = 0 := by unfold vmul; simp
  rw [e0] at h
  have e1 : vmul (W a) x (y % 2 ^ W a) = vmul (W a) x y := by unfold vmul; rw [Nat.mul_mod_mod]
  rw [e1] at h
  exact h
theorem bits_Shl_eq {k : Nat} (hk : 1 ≤ k) (a : Int) {x y : Nat} (hx : x < 18446744073709551616) (hy : y < 18446744073709551616) : bits_Shl.f k a x y = some (vshl (W a) x y : Int) := by
  unfold bits_Shl.f; rw [bits_shift_shl hk a hx hy]; rfl
theorem saturateref01_shift_l0_eq (a : Int) {x : Nat} (hx : x < 18446744073709551616) (by_ : Int) (h1 : -64 ≤ by_) (h2 : by_ ≤ 64) (fill : Bool) (d : Nat) : ∀ (k i : Nat), W a - i = d → i ≤ W a → d < k →
    saturateref01_shift.l0 k a x by_ (fill.toNat : Int) (bld (shf (W a) x by_ fill) i : Int) (W a) i = some (bld (shf (W a) x by_ fill) (W a) : Int) := by
  have hw := W_le a
  induction d with
  | zero =>
    intro k i hd hi hk
    obtain ⟨k, rfl⟩ : ∃ m, k = m + 1 := ⟨k - 1, by omega⟩
    obtain rfl : i = W a := by omega
    unfold saturateref01_shift.l0; rw [if_neg (by omega)]
  | succ d ih =>
    intro k i hd hi hk
    obtain ⟨k, rfl⟩ : ∃ m, k = m + 1 := ⟨k - 1, by omega⟩
    have hn := ih k (i + 1) (by omega) (by omega) (by omega)
    have hst := bld_step (shf (W a) x by_ fill) (i := i) (by omega)
    unfold saturateref01_shift.l0; rw [if_pos (by omega), saturateref01_W_eq, wrapu_of (by omega), wrapi_succ (by omega), wrapi_of (a := (i : Int) + by_) (by omega) (by omega), if_pos (Int.natCast_nonneg _)]; simp only [Option.bind_some]
    by_cases hlt : (i : Int) + by_ < (W a : Int)
    · rw [if_pos hlt]
      by_cases h0 : 0 ≤ (i : Int) + by_
      · have e : (i : Int) + by_ = (((i : Int) + by_).toNat : Int) := by omega
        rw [e, saturateref01_Bit_eq hx]; simp only [Option.bind_some]
        rw [if_pos (Int.natCast_nonneg _)]
        have hf : shf (W a) x by_ fill i = x.testBit ((i : Int) + by_).toNat := by unfold shf; rw [if_pos hlt, if_pos h0]
        rw [hf] at hst; rw [hst]; exact hn
      · rw [saturateref01_Bit_neg (by omega)]; simp only [Option.bind_some]
        rw [if_pos (Int.natCast_nonneg _)]
        have hf : shf (W a) x by_ fill i = false := by unfold shf; rw [if_pos hlt, if_neg h0]
        rw [hf] at hst; rw [show (0 : Int) = (false.toNat : Int) from rfl, hst]; exact hn
    · rw [if_neg hlt]
      have hf : shf (W a) x by_ fill i = fill := by unfold shf; rw [if_neg hlt]
      rw [hf] at hst; rw [hst]; exact hn
theorem saturateref01_shift_eq {k : Nat} (hk : 66 ≤ k) (a : Int) {x : Nat} (hx : x < 18446744073709551616) (by_ : Int) (h1 : -64 ≤ by_) (h2 : by_ ≤ 64) (fill : Bool) :
    saturateref01_shift.f k a x by_ (fill.toNat : Int) = some (bld (shf (W a) x by_ fill) (W a) : Int) := by
  unfold saturateref01_shift.f; rw [saturateref01_W_eq]; simp only [Option.bind_some]
  exact saturateref01_shift_l0_eq a hx by_ h1 h2 fill (W a) k 0 (by omega) (by omega) (by have := W_le a; omega)
theorem saturateref01_by_eq {k : Nat} (hk : 66 ≤ k) (a : Int) {y : Nat} (hy : y < 18446744073709551616) : saturateref01_by.f k a y = some ((min (y % 2 ^ W a) 64 : Nat) : Int) := by
  unfold saturateref01_by.f; rw [saturateref01_Cut_eq hk a hy]; simp only [Option.bind_some]
  unfold vcut
  generalize y % 2 ^ W a = n
  congr 1
  unfold mn; split
  · rw [wrapi_of (by omega) (by omega)]; omega
  · rw [wrapi_of (by omega) (by omega)]; omega
theorem saturateref01_Shl_eq {k : Nat} (hk : 66 ≤ k) (a : Int) {x y : Nat} (hx : x < 18446744073709551616) (hy : y < 18446744073709551616) : saturateref01_Shl.f k a x y = some (vshl (W a) x y : Int) := by
  unfold saturateref01_Shl.f; rw [saturateref01_by_eq hk a hy]; simp only [Option.bind_some]
  rw [wrapi_of (a := -_) (by omega) (by omega), show (0 : Int) = (false.toNat : Int) from rfl, saturateref01_shift_eq hk a hx _ (by omega) (by omega)]; simp only [Option.bind_some]
  rw [shf_shl (W_le a)]
theorem bits_Lshr_eq {k : Nat} (hk : 1 ≤ k) (a : Int) {x y : Nat} (hx : x < 18446744073709551616) (hy : y < 18446744073709551616) : bits_Lshr.f k a x y = some (vlshr (W a) x y : Int) := by
  unfold bits_Lshr.f; rw [bits_shift_lshr hk a hx hy]; rfl
theorem saturateref01_Lshr_eq {k : Nat} (hk : 66 ≤ k) (a : Int) {x y : Nat} (hx : x < 18446744073709551616) (hy : y < 18446744073709551616) : saturateref01_Lshr.f k a x y = some (vlshr (W a) x y : Int) := by
  unfold saturateref01_Lshr.f; rw [saturateref01_by_eq hk a hy]; simp only [Option.bind_some]
  rw [show (0 : Int) = (false.toNat : Int) from rfl, saturateref01_shift_eq hk a hx _ (by omega) (by omega)]; simp only [Option.bind_some]
  rw [shf_lshr (W_le a)]
theorem saturateref01_Ashr_eq {k : Nat} (hk : 66 ≤ k) (a : Int) {x y : Nat} (hx : x < 18446744073709551616) (hy : y < 18446744073709551616) : saturateref01_Ashr.f k a x y = some (vashr (W a) x y : Int) := by
  unfold saturateref01_Ashr.f; rw [saturateref01_by_eq hk a hy, saturateref01_W_eq]; simp only [Option.bind_some]
  rw [wrapi_pred (W_pos a) (W_le a), saturateref01_Bit_eq hx]; simp only [Option.bind_some]
  rw [saturateref01_shift_eq hk a hx _ (by omega) (by omega)]; simp only [Option.bind_some]
  rw [shf_ashr (W_le a)]
theorem bits_Eq_eq (a : Int) {x y : Nat} (hx : x < 18446744073709551616) (hy : y < 18446744073709551616) : bits_Eq.f a x y = some (veq (W a) x y : Int) := by
  unfold bits_Eq.f; rw [bits_Cut_eq a hx, bits_Cut_eq a hy]; simp only [Option.bind_some]
  rw [beq_nat, bits_flag_eq]; rfl
theorem saturateref01_truth_eq (p : Prop) [Decidable p] : saturateref01_truth.f (decide p) = some ((if p then 1 else 0 : Nat) : Int) := by
  unfold saturateref01_truth.f; by_cases h : p <;> simp [h]
theorem saturateref01_Eq_eq {k : Nat} (hk : 66 ≤ k) (a : Int) {x y : Nat} (hx : x < 18446744073709551616) (hy : y < 18446744073709551616) : saturateref01_Eq.f k a x y = some (veq (W a) x y : Int) := by
  unfold saturateref01_Eq.f; rw [saturateref01_Cut_eq hk a hx, saturateref01_Cut_eq hk a hy]; simp only [Option.bind_some]
  rw [beq_nat, saturateref01_truth_eq]; rfl
theorem bits_Ult_eq (a : Int) {x y : Nat} (hx : x < 18446744073709551616) (hy : y < 18446744073709551616) : bits_Ult.f a x y = some (vult (W a) x y : Int) := by
  unfold bits_Ult.f; rw [bits_Cut_eq a hx, bits_Cut_eq a hy]; simp only [Option.bind_some]
  rw [bits_flag_eq]; unfold vult vcut; simp only [Int.ofNat_lt, Option.bind_some]
theorem saturateref01_Ult_eq {k : Nat} (hk : 66 ≤ k) (a : Int) {x y : Nat} (hx : x < 18446744073709551616) (hy : y < 18446744073709551616) : saturateref01_Ult.f k a x y = some (vult (W a) x y : Int) := by
  unfold saturateref01_Ult.f; rw [saturateref01_Cut_eq hk a hx, saturateref01_Cut_eq hk a hy]; simp only [Option.bind_some]
  rw [saturateref01_truth_eq]; unfold vult vcut; simp only [Int.ofNat_lt, Option.bind_some]
theorem saturateref01_Slt_eq {k : Nat} (hk : 66 ≤ k) (a : Int) {x y : Nat} (hx : x < 18446744073709551616) (hy : y < 18446744073709551616) : saturateref01_Slt.f k a x y = some (vslt (W a) x y : Int) := by
  unfold saturateref01_Slt.f; rw [saturateref01_Signed_eq hk a hx, saturateref01_Signed_eq hk a hy]; simp only [Option.bind_some]
  rw [saturateref01_truth_eq]; rfl
theorem bits_Not_eq (a : Int) {x : Nat} (hx : x < 18446744073709551616) : bits_Not.f a x = some (vnot (W a) x : Int) := by
  unfold bits_Not.f
  rw [show (18446744073709551615 : Int) = ((18446744073709551615 : Nat) : Int) from rfl, xor64 (by decide) hx, bits_Cut_eq a (by rw [← p64]; exact Nat.xor_lt_two_pow (by decide) (lt_pw hx))]; simp only [Option.bind_some]
  rw [not_cut (W_le a)]
theorem bits_And_eq (a : Int) {x y : Nat} (hx : x < 18446744073709551616) (hy : y < 18446744073709551616) : bits_And.f a x y = some (vand (W a) x y : Int) := by
  unfold bits_And.f; rw [and64 hx hy, bits_Cut_eq a (by rw [← p64]; exact Nat.and_lt_two_pow _ (lt_pw hy))]; rfl
theorem saturateref01_And_l0_eq {x y : Nat} (hx : x < 18446744073709551616) (hy : y < 18446744073709551616) (d : Nat) : ∀ (k i w : Nat), w ≤ 64 → w - i = d → i ≤ w → d < k →
    saturateref01_And.l0 k x y (bld (fun j => x.testBit j && y.testBit j) i : Int) w i = some (bld (fun j => x.testBit j && y.testBit j) w : Int) := by
  induction d with
  | zero =>
    intro k i w hw hd hi hk
    obtain ⟨k, rfl⟩ : ∃ m, k = m + 1 := ⟨k - 1, by omega⟩
    obtain rfl : i = w := by omega
    unfold saturateref01_And.l0; rw [if_neg (by omega)]
  | succ d ih =>
    intro k i w hw hd hi hk
    obtain ⟨k, rfl⟩ : ∃ m, k = m + 1 := ⟨k - 1, by omega⟩
    have hst := bld_step (fun j => x.testBit j && y.testBit j) (i := i) (by omega)
    have hn := ih k (i + 1) w hw (by omega) (by omega) (by omega)
    unfold saturateref01_And.l0; rw [if_pos (by omega), saturateref01_Bit_eq hx, saturateref01_Bit_eq hy, wrapu_of (by omega)]; simp only [Option.bind_some]
    rw [wrapi_succ (by omega)]
    have hb : bld (fun j => x.testBit j && y.testBit j) (i + 1) = bld (fun j => x.testBit j && y.testBit j) i ||| ((x.testBit i && y.testBit i).toNat <<< i) := rfl
    cases h1 : x.testBit i with
    | false =>
      rw [if_neg (by decide)]
      rw [hb, h1] at hn; simpa using hn
    | true =>
      rw [if_pos (show ((true.toNat : Nat) : Int) = 1 from rfl)]
      cases h2 : y.testBit i with
      | false =>
        rw [if_neg (by decide)]
        rw [hb, h1, h2] at hn; simpa using hn
      | true =>
        rw [if_pos (show ((true.toNat : Nat) : Int) = 1 from rfl), if_pos (Int.natCast_nonneg _)]
        simp only [h1, h2] at hst
        rw [show (1 : Int) = ((true && true).toNat : Int) from rfl, hst]; exact hn
theorem saturateref01_And_eq {k : Nat} (hk : 66 ≤ k) (a : Int) {x y : Nat} (hx : x < 18446744073709551616) (hy : y < 18446744073709551616) : saturateref01_And.f k a x y = some (vand (W a) x y : Int) := by
  unfold saturateref01_And.f; rw [saturateref01_W_eq]; simp only [Option.bind_some]
  have := saturateref01_And_l0_eq hx hy (W a) k 0 (W a) (W_le a) (by omega) (by omega) (by have := W_le a; omega)
  rw [show bld (fun j => x.testBit j && y.testBit j) (W a) = vand (W a) x y from bld_eq (Nat.mod_lt _ (pw_pos _)) (fun i hi => by unfold vand; simp [hi])] at this; exact this
theorem bits_Or_eq (a : Int) {x y : Nat} (hx : x < 18446744073709551616) (hy : y < 18446744073709551616) : bits_Or.f a x y = some (vor (W a) x y : Int) := by
  unfold bits_Or.f; rw [or64 hx hy, bits_Cut_eq a (by rw [← p64]; exact Nat.or_lt_two_pow (lt_pw hx) (lt_pw hy))]; rfl
theorem saturateref01_Or_eq {k : Nat} (hk : 66 ≤ k) (a : Int) {x y : Nat} (hx : x < 18446744073709551616) (hy : y < 18446744073709551616) : saturateref01_Or.f k a x y = some (vor (W a) x y : Int) := by
  unfold saturateref01_Or.f; rw [saturateref01_Not_eq hk a hx, saturateref01_Not_eq hk a hy]; simp only [Option.bind_some]
  rw [saturateref01_And_eq hk a (vnot_lt x (W_le a)) (vnot_lt y (W_le a))]; simp only [Option.bind_some]
  rw [saturateref01_Not_eq hk a (vand_lt _ _ (W_le a))]; simp only [Option.bind_some]
  rw [vor_eq]
theorem bits_Xor_eq (a : Int) {x y : Nat} (hx : x < 18446744073709551616) (hy : y < 18446744073709551616) : bits_Xor.f a x y = some (vxor (W a) x y : Int) := by
  unfold bits_Xor.f; rw [xor64 hx hy, bits_Cut_eq a (by rw [← p64]; exact Nat.xor_lt_two_pow (lt_pw hx) (lt_pw hy))]; rfl
theorem saturateref01_Xor_eq {k : Nat} (hk : 66 ≤ k) (a : Int) {x y : Nat} (hx : x < 18446744073709551616) (hy : y < 18446744073709551616) : saturateref01_Xor.f k a x y = some (vxor (W a) x y : Int) := by
  unfold saturateref01_Xor.f; rw [saturateref01_Or_eq hk a hx hy, saturateref01_And_eq hk a hx hy]; simp only [Option.bind_some]
  rw [wrapu_sub_le (vor_lt _ _ (W_le a)) (vand_le_vor _ _ _), vxor_eq]
theorem saturateref01_divide_l0_eq {x y : Nat} (hx : x < 18446744073709551616) (hy : y < 18446744073709551616) (hy0 : 0 < y) (n : Nat) : ∀ (k Q r : Nat), n < k → n ≤ 64 → r < y → x / 2 ^ n = Q * y + r →
    saturateref01_divide.l0 k x y ((Q * 2 ^ n : Nat) : Int) r ((n : Int) - 1) = some (((x / y : Nat) : Int), ((x % y : Nat) : Int)) := by
  induction n with
  | zero =>
    intro k Q r hk hn hr he
    obtain ⟨k, rfl⟩ : ∃ m, k = m + 1 := ⟨k - 1, by omega⟩
    unfold saturateref01_divide.l0; rw [if_neg (by omega)]
    simp at he
    have h1 : x / y = Q := by rw [he, Nat.mul_comm, Nat.mul_add_div hy0, Nat.div_eq_of_lt hr]; simp
    have h2 : x % y = r := by rw [he, Nat.mul_comm, Nat.mul_add_mod, Nat.mod_eq_of_lt hr]
    rw [h1, h2]; simp
  | succ n ih =>
    intro k Q r hk hn hr he
    obtain ⟨k, rfl⟩ : ∃ m, k = m + 1 := ⟨k - 1, by omega⟩
    have e : (((n + 1 : Nat) : Int) - 1) = (n : Int) := by omega
    have hd := div_succ x n
    have hbt := toNat_le (x.testBit n)
    have hQ : Q * 2 ^ (n + 1) ≤ x := by
      have h1 : Q ≤ x / 2 ^ (n + 1) := by rw [he]; have := Nat.le_mul_of_pos_right Q hy0; omega
      exact Nat.le_trans (Nat.mul_le_mul_right _ h1) (Nat.div_mul_le_self _ _)
    have hp : 2 ^ (n + 1) = 2 * 2 ^ n := by rw [Nat.pow_succ, Nat.mul_comm]
    have e63 : (63 : Int) = ((63 : Nat) : Int) := rfl
    have h63 : r.testBit 63 = decide (9223372036854775808 ≤ r) := by
      have := testBit_top (w := 64) (x := r) (by decide)
      rw [show (64 : Nat) - 1 = 63 from rfl, p63, p64, Nat.mod_eq_of_lt (by omega)] at this; exact this
    unfold saturateref01_divide.l0; rw [e, if_pos (Int.natCast_nonneg _), e63, saturateref01_Bit_eq (by omega), saturateref01_Bit_eq hx, wrapu_of (by omega)]; simp only [Option.bind_some]
    rw [if_pos (Int.natCast_nonneg _)]
    rw [wrapi_of (a := (n : Int) - 1) (by omega) (by omega), show (2 : Int) = ((2 : Nat) : Int) from rfl, wrapu_mul, wrapu_add]
    rw [he] at hd
    have hq1 : Go.bits .or .u64 ((Q * 2 ^ (n + 1) : Nat) : Int) (shl .u64 1 (n : Int)) = (((2 * Q + 1) * 2 ^ n : Nat) : Int) := by
      have e1 : (1 : Int) = ((1 : Nat) : Int) := rfl
      have h2n : 2 ^ n < 18446744073709551616 := by rw [← p64]; exact Nat.pow_lt_pow_right (by decide) (by omega)
      rw [e1, shl64, Nat.one_shiftLeft, Nat.mod_eq_of_lt h2n, or64 (by omega) h2n]
      congr 1
      have := Nat.two_pow_add_eq_or_of_lt (i := n + 1) (b := 2 ^ n) (by rw [hp]; have := pw_pos n; omega) Q
      rw [Nat.mul_comm Q, ← this, hp, Nat.add_mul, Nat.one_mul, Nat.mul_right_comm]
    generalize (x.testBit n).toNat = b at *
    have hr2 : (r * 2 % 18446744073709551616 + b) % 18446744073709551616 = (2 * r + b) % 18446744073709551616 := by omega
    rw [hr2]
    have fin1 : y ≤ 2 * r + b → x / 2 ^ n = (2 * Q + 1) * y + (2 * r + b - y) := by
      intro h
      rw [hd, Nat.add_mul, Nat.mul_assoc]; omega
    have fin0 : x / 2 ^ n = (2 * Q) * y + (2 * r + b) := by rw [hd, Nat.mul_assoc]; omega
    have hs : y ≤ 2 * r + b → IntKind.u64.wrap ((((2 * r + b) % 18446744073709551616 : Nat) : Int) - (y : Int)) = ((2 * r + b - y : Nat) : Int) := by
      intro h
      rw [wrapu_sub hy]; omega
    rw [h63]
    by_cases ho : 9223372036854775808 ≤ r
    · rw [if_pos (by simp [ho]), hs (by omega), hq1]
      exact ih k (2 * Q + 1) _ (by omega) (by omega) (by omega) (fin1 (by omega))
    · rw [if_neg (by simp [ho])]
      by_cases hge : y ≤ 2 * r + b
      · rw [if_pos (by omega), hs hge, hq1]
        exact ih k (2 * Q + 1) _ (by omega) (by omega) (by omega) (fin1 hge)
      · rw [if_neg (by omega), Nat.mod_eq_of_lt (by omega)]
        have := ih k (2 * Q) (2 * r + b) (by omega) (by omega) (by omega) fin0
        rw [show Q * 2 ^ (n + 1) = 2 * Q * 2 ^ n by rw [hp, Nat.mul_left_comm, Nat.mul_assoc]]
        exact this
theorem saturateref01_divide_eq {k : Nat} (hk : 66 ≤ k) {x y : Nat} (hx : x < 18446744073709551616) (hy : y < 18446744073709551616) (hy0 : 0 < y) : saturateref01_divide.f k x y = some (((x / y : Nat) : Int), ((x % y : Nat) : Int)) := by
  unfold saturateref01_divide.f
  have := saturateref01_divide_l0_eq hx hy hy0 64 k 0 0 (by omega) (by omega) hy0 (by rw [Nat.div_eq_of_lt (lt_pw hx)]; simp)
  simpa using this
theorem saturateref01_Udiv_eq {k : Nat} (hk : 66 ≤ k) (a : Int) {x y : Nat} (hx : x < 18446744073709551616) (hy : y < 18446744073709551616) : saturateref01_Udiv.f k a x y = some (vudiv (W a) x y : Int) := by
  unfold saturateref01_Udiv.f; rw [saturateref01_Cut_eq hk a hx, saturateref01_Cut_eq hk a hy, saturateref01_Mask_eq hk a]; simp only [Option.bind_some]
  unfold vudiv
  by_cases h : y % 2 ^ W a = 0
  · rw [if_pos (by unfold vcut; rw [h]; rfl), if_pos h]; rfl
  · rw [if_neg (by unfold vcut; omega), if_neg h, saturateref01_divide_eq hk (vcut_lt x (W_le a)) (vcut_lt y (W_le a)) (by unfold vcut; omega)]; rfl
theorem bits_Urem_eq (a : Int) {x y : Nat} (hx : x < 18446744073709551616) (hy : y < 18446744073709551616) : bits_Urem.f a x y = some (vurem (W a) x y : Int) := by
  unfold bits_Urem.f; rw [bits_Cut_eq a hx, bits_Cut_eq a hy]; simp only [Option.bind_some]
  unfold vurem vcut
  by_cases h : y % 2 ^ W a = 0
  · rw [if_pos (by rw [h]; rfl), if_pos h]
  · rw [if_neg (by omega), if_neg h, tmod_nat]
theorem saturateref01_Urem_eq {k : Nat} (hk : 66 ≤ k) (a : Int) {x y : Nat} (hx : x < 18446744073709551616) (hy : y < 18446744073709551616) : saturateref01_Urem.f k a x y = some (vurem (W a) x y : Int) := by
  unfold saturateref01_Urem.f; rw [saturateref01_Cut_eq hk a hx, saturateref01_Cut_eq hk a hy]; simp only [Option.bind_some]
  unfold vurem
  by_cases h : y % 2 ^ W a = 0
  · rw [if_pos (by unfold vcut; rw [h]; rfl), if_pos h]; rfl
  · rw [if_neg (by unfold vcut; omega), if_neg h, saturateref01_divide_eq hk (vcut_lt x (W_le a)) (vcut_lt y (W_le a)) (by unfold vcut; omega)]; rfl
theorem bits_Concat_eq (v w : Int) {x y : Nat} (hx : x < 18446744073709551616) (hy : y < 18446744073709551616) : bits_Concat.f v w x y = some (vconcat (W v) (W w) x y : Int) := by
  unfold bits_Concat.f; rw [bits_Cut_eq v hx, bits_clamp_eq, bits_Cut_eq w hy]; simp only [Option.bind_some]
  rw [if_pos (Int.natCast_nonneg _), shl64, or64 (Nat.mod_lt _ (by decide)) (vcut_lt y (W_le w))]
  unfold vconcat vcut; rw [p64]
theorem saturateref01_Concat_l0_eq (w : Int) {x y : Nat} (hx : x < 18446744073709551616) (d : Nat) : ∀ (k i v : Nat), v ≤ 64 → v - i = d → i ≤ v → d < k →
    saturateref01_Concat.l0 k w x (vconcat i (W w) x y : Int) v i = some (vconcat v (W w) x y : Int) := by
  have h1 := W_pos w
  have h2 := W_le w
  induction d with
  | zero =>
    intro k i v hw hd hi hk
    obtain ⟨k, rfl⟩ : ∃ m, k = m + 1 := ⟨k - 1, by omega⟩
    obtain rfl : i = v := by omega
    unfold saturateref01_Concat.l0; rw [if_neg (by omega)]
  | succ d ih =>
    intro k i v hw hd hi hk
    obtain ⟨k, rfl⟩ : ∃ m, k = m + 1 := ⟨k - 1, by omega⟩
    have hn := ih k (i + 1) v hw (by omega) (by omega) (by omega)
    unfold saturateref01_Concat.l0
    rw [if_pos (by omega), saturateref01_W_eq, Option.bind_some, wrapi_of (a := (i : Int) + (W w : Int)) (by omega) (by omega), wrapi_succ (by omega)]
    by_cases hlt : i + W w < 64
    · rw [if_pos (by omega), saturateref01_Bit_eq hx, Option.bind_some, Option.bind_some, wrapi_of (a := (i : Int) + (W w : Int)) (by omega) (by omega), ← Int.natCast_add, wrapu_of (by omega), if_pos (Int.natCast_nonneg _), concat_step h2 hlt]; exact hn
    · rw [if_neg (by omega)]
      rw [concat_over (i := i) (w := W w) (a := x) (b := y) (by omega)] at hn; exact hn
theorem saturateref01_Concat_eq {k : Nat} (hk : 66 ≤ k) (v w : Int) {x y : Nat} (hx : x < 18446744073709551616) (hy : y < 18446744073709551616) : saturateref01_Concat.f k v w x y = some (vconcat (W v) (W w) x y : Int) := by
  unfold saturateref01_Concat.f; rw [saturateref01_Cut_eq hk w hy, saturateref01_W_eq]; simp only [Option.bind_some]
  have := saturateref01_Concat_l0_eq w (y := y) hx (W v) k 0 (W v) (W_le v) (by omega) (by omega) (by have := W_le v; omega)
  rw [concat_zero] at this; exact this
theorem bits_Extract_eq (low : Nat) (w : Int) {x : Nat} (hx : x < 18446744073709551616) : bits_Extract.f low w x = some (vextract low (W w) x : Int) := by
  unfold bits_Extract.f
  rw [if_neg (by omega), if_pos (Int.natCast_nonneg _), shr64 hx, bits_Cut_eq w (Nat.lt_of_le_of_lt (shr_le _ _) hx)]; rfl
theorem bits_Extract_neg {low : Int} (h : low < 0) (w : Int) (x : Int) : bits_Extract.f low w x = some 0 := by
  unfold bits_Extract.f; rw [if_pos h]
theorem saturateref01_Extract_l0_eq (low : Nat) (hlow : low ≤ 63) {x : Nat} (hx : x < 18446744073709551616) (d : Nat) : ∀ (k i w : Nat), w ≤ 64 → w - i = d → i ≤ w → d < k →
    saturateref01_Extract.l0 k low x (bld (fun j => x.testBit (low + j)) i : Int) w i = some (bld (fun j => x.testBit (low + j)) w : Int) := by
  induction d with
  | zero =>
    intro k i w hw hd hi hk
    obtain ⟨k, rfl⟩ : ∃ m, k = m + 1 := ⟨k - 1, by omega⟩
    obtain rfl : i = w := by omega
    unfold saturateref01_Extract.l0; rw [if_neg (by omega)]
  | succ d ih =>
    intro k i w hw hd hi hk
    obtain ⟨k, rfl⟩ : ∃ m, k = m + 1 := ⟨k - 1, by omega⟩
    unfold saturateref01_Extract.l0; rw [if_pos (by omega), wrapi_of (a := (low : Int) + (i : Int)) (by omega) (by omega), ← Int.natCast_add, saturateref01_Bit_eq hx, wrapu_of (by omega)]; simp only [Option.bind_some]
    rw [if_pos (Int.natCast_nonneg _), wrapi_succ (by omega), bld_step (fun j => x.testBit (low + j)) (by omega)]
    exact ih k (i + 1) w hw (by omega) (by omega) (by omega)
theorem saturateref01_Extract_neg {k : Nat} (hk : 66 ≤ k) {low : Int} (h : low < 0) (w x : Int) : saturateref01_Extract.f k low w x = some 0 := by
  obtain ⟨k, rfl⟩ : ∃ m, k = m + 1 := ⟨k - 1, by omega⟩
  unfold saturateref01_Extract.f; rw [if_pos h]
  simp only [saturateref01_Extract.j0]; rw [if_pos trivial]
theorem saturateref01_Extract_eq {k : Nat} (hk : 67 ≤ k) (low : Nat) (w : Int) {x : Nat} (hx : x < 18446744073709551616) : saturateref01_Extract.f k low w x = some (vextract low (W w) x : Int) := by
  obtain ⟨k, rfl⟩ : ∃ m, k = m + 1 := ⟨k - 1, by omega⟩
  unfold saturateref01_Extract.f; rw [if_neg (by omega)]
  simp only [saturateref01_Extract.j0]
  by_cases h : 63 < low
  · rw [if_pos (by simp; omega), extract_far hx (by omega)]; rfl
  · rw [if_neg (by simp; omega), saturateref01_W_eq]; simp only [Option.bind_some]
    have := saturateref01_Extract_l0_eq low (by omega) hx (W w) k 0 (W w) (W_le w) (by omega) (by omega) (by have := W_le w; omega)
    rw [bld_extract low (W w) x] at this; exact this
theorem bits_Sext_eq (v w : Int) {x : Nat} (hx : x < 18446744073709551616) : bits_Sext.f v w x = some (vsext (W v) (W w) x : Int) := by
  unfold bits_Sext.f; rw [bits_Signed_eq v hx]; simp only [Option.bind_some]
  rw [sgn_wrap (W_pos v) (W_le v), bits_Cut_eq w (s64_lt (W_le v) x)]; simp only [Option.bind_some]
  rw [s64_cut (W_pos v) (W_le v) (W_le w)]
theorem saturateref01_Sext_l0_eq (v : Int) {x : Nat} (hx : x < 18446744073709551616) (d : Nat) : ∀ (k i w : Nat), w ≤ 64 → w - i = d → i ≤ w → d < k →
    saturateref01_Sext.l0 k v x (bld (fun j => x.testBit (min j (W v - 1))) i : Int) w i = some (bld (fun j => x.testBit (min j (W v - 1))) w : Int) := by
  have h1 := W_pos v
  have h2 := W_le v
  induction d with
  | zero =>
    intro k i w hw hd hi hk
    obtain ⟨k, rfl⟩ : ∃ m, k = m + 1 := ⟨k - 1, by omega⟩
    obtain rfl : i = w := by omega
    unfold saturateref01_Sext.l0; rw [if_neg (by omega)]
  | succ d ih =>
    intro k i w hw hd hi hk
    obtain ⟨k, rfl⟩ : ∃ m, k = m + 1 := ⟨k - 1, by omega⟩
    have e : mn (i : Int) ((W v - 1 : Nat) : Int) = ((min i (W v - 1) : Nat) : Int) := by unfold mn; split <;> omega
    unfold saturateref01_Sext.l0; rw [if_pos (by omega), saturateref01_W_eq]; simp only [Option.bind_some]
    rw [wrapi_pred h1 h2, e, saturateref01_Bit_eq hx, wrapu_of (by omega)]; simp only [Option.bind_some]
    rw [if_pos (Int.natCast_nonneg _), wrapi_succ (by omega), bld_step (fun j => x.testBit (min j (W v - 1))) (by omega)]
    exact ih k (i + 1) w hw (by omega) (by omega) (by omega)
theorem saturateref01_Sext_eq {k : Nat} (hk : 66 ≤ k) (v w : Int) {x : Nat} (hx : x < 18446744073709551616) : saturateref01_Sext.f k v w x = some (vsext (W v) (W w) x : Int) := by
  unfold saturateref01_Sext.f; rw [saturateref01_W_eq]; simp only [Option.bind_some]
  exact saturateref01_Sext_l0_eq v hx (W w) k 0 (W w) (W_le w) (by omega) (by omega) (by have := W_le w; omega)
end Go.Proofs.Ytnagfkdgangikaa.Pure
