/- The rest of the reference's functions of the bit vectors, in the words of the theory. -/
import Derived.Test.YtkmehmlcccdnbaaDoorF4
import Derived.Test.YtkmehmlcccdnbaaDoorTc
namespace Go.Proofs.YtkmehmlcccdnbaaDoor.Fn
open Go Go.RowKit Go.Proofs.YtkmehmlcccdnbaaDoor.Ev Go.Proofs.YtkmehmlcccdnbaaDoor.Bv
set_option linter.unusedVariables false
set_option linter.unusedSimpArgs false

theorem beq_one (b : Bool) : ((b.toNat : Int) == 1) = b := by cases b <;> rfl
theorem saturateref01_Negative_eq (a : Int) {x : Nat} (hx : x < 18446744073709551616) : saturateref01_Negative.f a x = some (x.testBit (W a - 1)) := by
  unfold saturateref01_Negative.f; rw [saturateref01_W_eq]; simp only [Option.bind_some]
  rw [wrapi, wrapi_pred (W_pos a) (W_le a), saturateref01_Bit_eq hx]; simp only [Option.bind_some]
  rw [beq_one]
theorem saturateref01_Signed_eq (a : Int) {x : Nat} (hx : x < 18446744073709551616) : saturateref01_Signed.f a x = some (sgn (W a) x) := by
  unfold saturateref01_Signed.f; rw [saturateref01_Cut_eq a hx, saturateref01_Negative_eq a hx, saturateref01_Mask_eq a]; simp only [Option.bind_some, wrapi]
  have h1 := W_pos a
  have h2 := W_le a
  have h3 := sgn_range (x := x) h1 h2
  have h4 := testBit_top (x := x) h1
  have h5 := Nat.mod_lt x (pw_pos (W a))
  have h6 := two_pow_pred h1
  have h7 := pw_le h2
  unfold sgn at h3 ⊢
  unfold vmask vcut
  by_cases ht : x.testBit (W a - 1)
  · rw [ht] at h4
    have h8 : 2 ^ (W a - 1) ≤ x % 2 ^ W a := by simpa using h4.symm
    rw [ht, cond_true, if_pos rfl, wrapu_sub_le (by omega) (by omega)]
    rw [wrapi_of (a := ((2 ^ W a - 1 - x % 2 ^ W a : Nat) : Int)) (by omega) (by omega), wrapi_of (a := 0 - _) (by omega) (by omega), wrapi_of (by omega) (by omega)]
    congr 1; omega
  · have ht' : x.testBit (W a - 1) = false := by simpa using ht
    rw [ht'] at h4
    have h8 : ¬ 2 ^ (W a - 1) ≤ x % 2 ^ W a := by simpa using h4.symm
    rw [ht', cond_false, if_neg (by decide), wrapi_of (by omega) (by omega)]
theorem saturateref01_And_j3 (fu : Nat) {x y : Nat} (hx : x < 18446744073709551616) (hy : y < 18446744073709551616) (d : Nat) : ∀ (k i w : Nat), w ≤ 64 → w - i = d → i ≤ w → d < k →
    saturateref01_And.j3 (fu + 1) k x y (bld (fun j => x.testBit j && y.testBit j) i : Int) w i = some (bld (fun j => x.testBit j && y.testBit j) w : Int) := by
  induction d with
  | zero =>
    intro k i w hw hd hi hk
    obtain ⟨k, rfl⟩ : ∃ m, k = m + 1 := ⟨k - 1, by omega⟩
    obtain rfl : i = w := by omega
    rw [saturateref01_And.j3_succ, bifd_neg (by omega)]
  | succ d ih =>
    intro k i w hw hd hi hk
    obtain ⟨k, rfl⟩ : ∃ m, k = m + 1 := ⟨k - 1, by omega⟩
    have hst := bld_step (fun j => x.testBit j && y.testBit j) (i := i) (by omega)
    have hn := ih k (i + 1) w hw (by omega) (by omega) (by omega)
    rw [saturateref01_And.j3_succ, bifd_pos (by omega)]
    simp only [saturateref01_And.p7_eq, saturateref01_Bit_eq hx, saturateref01_Bit_eq hy, Option.bind_some, beq_one]
    rw [wrapu_of (by omega), wrapi, wrapi_succ (by omega), bifd_neg (by omega)]
    have hb : bld (fun j => x.testBit j && y.testBit j) (i + 1) = bld (fun j => x.testBit j && y.testBit j) i ||| ((x.testBit i && y.testBit i).toNat <<< i) := rfl
    cases h1 : x.testBit i with
    | false =>
      rw [cond_false]
      rw [hb, h1] at hn; simpa using hn
    | true =>
      rw [cond_true]
      cases h2 : y.testBit i with
      | false =>
        rw [cond_false]
        rw [hb, h1, h2] at hn; simpa using hn
      | true =>
        rw [cond_true]
        simp only [h1, h2] at hst
        rw [show (1 : Int) = ((true && true).toNat : Int) from rfl, hst]; exact hn
theorem saturateref01_And_eq (a : Int) {x y : Nat} (hx : x < 18446744073709551616) (hy : y < 18446744073709551616) : saturateref01_And.f a x y = some (vand (W a) x y : Int) := by
  unfold saturateref01_And.f saturateref01_And.g; rw [saturateref01_W_eq]; simp only [Option.bind_some]
  have hw := W_le a
  have := saturateref01_And_j3 fuel0 hx hy (W a) (fuel0 + 1) 0 (W a) (W_le a) (by omega) (by omega) (fuel_gt (by omega))
  rw [show bld (fun j => x.testBit j && y.testBit j) (W a) = vand (W a) x y from bld_eq (Nat.mod_lt _ (pw_pos _)) (fun i hi => by unfold vand; simp [hi])] at this; exact this
theorem saturateref01_Or_eq (a : Int) {x y : Nat} (hx : x < 18446744073709551616) (hy : y < 18446744073709551616) : saturateref01_Or.f a x y = some (vor (W a) x y : Int) := by
  unfold saturateref01_Or.f; rw [saturateref01_Not_eq a hx, saturateref01_Not_eq a hy]; simp only [Option.bind_some]
  rw [saturateref01_And_eq a (vnot_lt x (W_le a)) (vnot_lt y (W_le a))]; simp only [Option.bind_some]
  rw [saturateref01_Not_eq a (vand_lt _ _ (W_le a))]; simp only [Option.bind_some]
  rw [vor_eq]
theorem saturateref01_Xor_eq (a : Int) {x y : Nat} (hx : x < 18446744073709551616) (hy : y < 18446744073709551616) : saturateref01_Xor.f a x y = some (vxor (W a) x y : Int) := by
  unfold saturateref01_Xor.f; rw [saturateref01_Or_eq a hx hy, saturateref01_And_eq a hx hy]; simp only [Option.bind_some]
  rw [wrapu_sub_le (vor_lt _ _ (W_le a)) (vand_le_vor _ _ _), vxor_eq]
theorem saturateref01_Mul_j3 (fu : Nat) (a : Int) {x y : Nat} (hx : x < 18446744073709551616) (hy : y < 18446744073709551616) (n : Nat) : ∀ (k : Nat), n < k → n ≤ 64 →
    saturateref01_Mul.j3 (fu + 1) k a x y (vmul (W a) x (y % 2 ^ W a / 2 ^ n) : Int) ((n : Int) - 1) = some (vmul (W a) x (y % 2 ^ W a) : Int) ∨ W a < n := by
  induction n with
  | zero =>
    intro k hk hn
    obtain ⟨k, rfl⟩ : ∃ m, k = m + 1 := ⟨k - 1, by omega⟩
    left
    rw [saturateref01_Mul.j3_succ, bifd_neg (by omega)]; simp
  | succ n ih =>
    intro k hk hn
    by_cases hw : W a < n + 1
    · exact .inr hw
    left
    obtain ⟨k, rfl⟩ : ∃ m, k = m + 1 := ⟨k - 1, by omega⟩
    have hih := (ih k (by omega) (by omega)).resolve_right (by omega)
    have e : (((n + 1 : Nat) : Int) - 1) = (n : Int) := by omega
    have hl := vmul_lt x (y % 2 ^ W a / 2 ^ (n + 1)) (W_le a)
    have hd := div_succ (y % 2 ^ W a) n
    have ht : (y % 2 ^ W a).testBit n = y.testBit n := by rw [Nat.testBit_mod_two_pow]; have : n < W a := by omega
                                                          simp [this]
    rw [ht] at hd
    rw [saturateref01_Mul.j3_succ, e, bifd_pos (Int.natCast_nonneg _)]
    simp only [saturateref01_Mul.p4_eq]
    rw [saturateref01_Add_eq a hl hl, saturateref01_Bit_eq hy]; simp only [Option.bind_some]
    rw [wrapi, wrapi_of (a := (n : Int) - 1) (by omega) (by omega), beq_one]
    generalize y % 2 ^ W a / 2 ^ (n + 1) = q at *
    cases hb : y.testBit n with
    | false =>
      rw [cond_false]
      rw [hb] at hd
      rw [show vadd (W a) (vmul (W a) x q) (vmul (W a) x q) = vmul (W a) x (y % 2 ^ W a / 2 ^ n) by
        rw [hd]; unfold vadd vmul; rw [← Nat.add_mod, ← Nat.mul_add]; congr 2; simp; omega]
      exact hih
    | true =>
      rw [cond_true, saturateref01_Add_eq a (vadd_lt _ _ (W_le a)) hx]; simp only [Option.bind_some]
      rw [hb] at hd
      rw [show vadd (W a) (vadd (W a) (vmul (W a) x q) (vmul (W a) x q)) x = vmul (W a) x (y % 2 ^ W a / 2 ^ n) by
        rw [hd]; unfold vadd vmul; rw [← Nat.add_mod, Nat.mod_add_mod]; congr 1
        rw [show true.toNat = 1 from rfl, Nat.mul_add, Nat.mul_one, Nat.two_mul, Nat.mul_add]]
      exact hih
theorem saturateref01_Mul_eq (a : Int) {x y : Nat} (hx : x < 18446744073709551616) (hy : y < 18446744073709551616) : saturateref01_Mul.f a x y = some (vmul (W a) x y : Int) := by
  have h1 := W_le a
  have h2 := W_pos a
  unfold saturateref01_Mul.f saturateref01_Mul.g; rw [saturateref01_W_eq]; simp only [Option.bind_some]
  have h := (saturateref01_Mul_j3 fuel0 a hx hy (W a) (fuel0 + 1) (fuel_gt (by omega)) h1).resolve_right (by omega)
  rw [Nat.div_eq_of_lt (Nat.mod_lt _ (pw_pos _))] at h
  rw [wrapi, wrapi_of (a := (W a : Int) - 1) (by omega) (by omega)]
  have e0 : vmul (W a) x 0 = 0 := by unfold vmul; simp
  rw [e0] at h
  have e1 : vmul (W a) x (y % 2 ^ W a) = vmul (W a) x y := by unfold vmul; rw [Nat.mul_mod_mod]
  rw [e1] at h
  exact h
theorem saturateref01_divide_j3 (fu : Nat) {x y : Nat} (hx : x < 18446744073709551616) (hy : y < 18446744073709551616) (hy0 : 0 < y) (n : Nat) : ∀ (k Q r : Nat), n < k → n ≤ 64 → r < y → x / 2 ^ n = Q * y + r →
    saturateref01_divide.j3 (fu + 1) k x y ((Q * 2 ^ n : Nat) : Int) r ((n : Int) - 1) = some (((x / y : Nat) : Int), ((x % y : Nat) : Int)) := by
  induction n with
  | zero =>
    intro k Q r hk hn hr he
    obtain ⟨k, rfl⟩ : ∃ m, k = m + 1 := ⟨k - 1, by omega⟩
    rw [saturateref01_divide.j3_succ, bifd_neg (by omega)]
    simp at he
    have h1 : x / y = Q := by rw [he, Nat.mul_comm, Nat.mul_add_div hy0, Nat.div_eq_of_lt hr]; simp
    have h2 : x % y = r := by rw [he, Nat.mul_comm, Nat.mul_add_mod, Nat.mod_eq_of_lt hr]
    rw [h1, h2]; simp
  | succ n ih =>
    intro k Q r hk hn hr he
    obtain ⟨k, rfl⟩ : ∃ m, k = m + 1 := ⟨k - 1, by omega⟩
    have e : (((n + 1 : Nat) : Int) - 1) = (n : Int) := by omega
    have hd := div_succ x n
    have hbt := toNat_le (x.testBit n)
    have hQ : Q * 2 ^ (n + 1) ≤ x := by
      have h1 : Q ≤ x / 2 ^ (n + 1) := by rw [he]; have := Nat.le_mul_of_pos_right Q hy0; omega
      exact Nat.le_trans (Nat.mul_le_mul_right _ h1) (Nat.div_mul_le_self _ _)
    have hp : 2 ^ (n + 1) = 2 * 2 ^ n := by rw [Nat.pow_succ, Nat.mul_comm]
    have e63 : (63 : Int) = ((63 : Nat) : Int) := rfl
    have h63 : r.testBit 63 = decide (9223372036854775808 ≤ r) := by
      have := testBit_top (w := 64) (x := r) (by decide)
      rw [show (64 : Nat) - 1 = 63 from rfl, p63, p64, Nat.mod_eq_of_lt (by omega)] at this; exact this
    rw [saturateref01_divide.j3_succ, e, bifd_pos (Int.natCast_nonneg _)]
    simp only [saturateref01_divide.p4_eq]
    rw [e63, saturateref01_Bit_eq (by omega), saturateref01_Bit_eq hx, wrapu_of (by omega)]; simp only [Option.bind_some]
    rw [bifd_neg (by omega), beq_one]
    rw [wrapi, wrapi_of (a := (n : Int) - 1) (by omega) (by omega), show (2 : Int) = ((2 : Nat) : Int) from rfl]
    simp only [wrapu_mul, wrapu_add]
    rw [he] at hd
    have hq1 : Go.bits .or .u64 ((Q * 2 ^ (n + 1) : Nat) : Int) (shl .u64 1 (n : Int)) = (((2 * Q + 1) * 2 ^ n : Nat) : Int) := by
      have e1 : (1 : Int) = ((1 : Nat) : Int) := rfl
      have h2n : 2 ^ n < 18446744073709551616 := by rw [← p64]; exact Nat.pow_lt_pow_right (by decide) (by omega)
      rw [e1, shl64, Nat.one_shiftLeft, Nat.mod_eq_of_lt h2n, or64 (by omega) h2n]
      congr 1
      have := Nat.two_pow_add_eq_or_of_lt (i := n + 1) (b := 2 ^ n) (by rw [hp]; have := pw_pos n; omega) Q
      rw [Nat.mul_comm Q, ← this, hp, Nat.add_mul, Nat.one_mul, Nat.mul_right_comm]
    generalize (x.testBit n).toNat = b at *
    have hr2 : (r * 2 % 18446744073709551616 + b) % 18446744073709551616 = (2 * r + b) % 18446744073709551616 := by omega
    rw [hr2]
    have fin1 : y ≤ 2 * r + b → x / 2 ^ n = (2 * Q + 1) * y + (2 * r + b - y) := by
      intro h
      rw [hd, Nat.add_mul, Nat.mul_assoc]; omega
    have fin0 : x / 2 ^ n = (2 * Q) * y + (2 * r + b) := by rw [hd, Nat.mul_assoc]; omega
    have hs : y ≤ 2 * r + b → IntKind.u64.wrap ((((2 * r + b) % 18446744073709551616 : Nat) : Int) - (y : Int)) = ((2 * r + b - y : Nat) : Int) := by
      intro h
      rw [wrapu_sub hy]; omega
    rw [h63]
    by_cases ho : 9223372036854775808 ≤ r
    · rw [decide_eq_true ho, cond_true, hs (by omega), hq1]
      exact ih k (2 * Q + 1) _ (by omega) (by omega) (by omega) (fin1 (by omega))
    · rw [decide_eq_false ho, cond_false]
      by_cases hge : y ≤ 2 * r + b
      · rw [bifd_pos (by omega), hs hge, hq1]
        exact ih k (2 * Q + 1) _ (by omega) (by omega) (by omega) (fin1 hge)
      · rw [bifd_neg (by omega), Nat.mod_eq_of_lt (by omega)]
        have := ih k (2 * Q) (2 * r + b) (by omega) (by omega) (by omega) fin0
        rw [show Q * 2 ^ (n + 1) = 2 * Q * 2 ^ n by rw [hp, Nat.mul_left_comm, Nat.mul_assoc]]
        exact this
theorem saturateref01_divide_eq {x y : Nat} (hx : x < 18446744073709551616) (hy : y < 18446744073709551616) (hy0 : 0 < y) : saturateref01_divide.f x y = some (((x / y : Nat) : Int), ((x % y : Nat) : Int)) := by
  unfold saturateref01_divide.f saturateref01_divide.g
  have := saturateref01_divide_j3 fuel0 hx hy hy0 64 (fuel0 + 1) 0 0 (fuel_gt (by decide)) (by omega) hy0 (by rw [Nat.div_eq_of_lt (lt_pw hx)]; simp)
  simpa using this
theorem saturateref01_Udiv_eq (a : Int) {x y : Nat} (hx : x < 18446744073709551616) (hy : y < 18446744073709551616) : saturateref01_Udiv.f a x y = some (vudiv (W a) x y : Int) := by
  unfold saturateref01_Udiv.f; rw [saturateref01_Cut_eq a hx, saturateref01_Cut_eq a hy, saturateref01_Mask_eq a]; simp only [Option.bind_some]
  unfold vudiv
  by_cases h : y % 2 ^ W a = 0
  · rw [show ((vcut (W a) y : Int) == 0) = true by unfold vcut; rw [h]; rfl, cond_true, if_pos h]; rfl
  · rw [show ((vcut (W a) y : Int) == 0) = false by rw [beq_eq_false_iff_ne]; unfold vcut; omega, cond_false, if_neg h, saturateref01_divide_eq (vcut_lt x (W_le a)) (vcut_lt y (W_le a)) (by unfold vcut; omega)]; rfl
theorem saturateref01_Urem_eq (a : Int) {x y : Nat} (hx : x < 18446744073709551616) (hy : y < 18446744073709551616) : saturateref01_Urem.f a x y = some (vurem (W a) x y : Int) := by
  unfold saturateref01_Urem.f; rw [saturateref01_Cut_eq a hx, saturateref01_Cut_eq a hy]; simp only [Option.bind_some]
  unfold vurem
  by_cases h : y % 2 ^ W a = 0
  · rw [show ((vcut (W a) y : Int) == 0) = true by unfold vcut; rw [h]; rfl, cond_true, if_pos h]; rfl
  · rw [show ((vcut (W a) y : Int) == 0) = false by rw [beq_eq_false_iff_ne]; unfold vcut; omega, cond_false, if_neg h, saturateref01_divide_eq (vcut_lt x (W_le a)) (vcut_lt y (W_le a)) (by unfold vcut; omega)]; rfl
theorem saturateref01_Ashr_eq (a : Int) {x y : Nat} (hx : x < 18446744073709551616) (hy : y < 18446744073709551616) : saturateref01_Ashr.f a x y = some (vashr (W a) x y : Int) := by
  unfold saturateref01_Ashr.f; rw [saturateref01_by_eq a hy, saturateref01_W_eq]; simp only [Option.bind_some]
  rw [wrapi, wrapi_pred (W_pos a) (W_le a), saturateref01_Bit_eq hx]; simp only [Option.bind_some]
  rw [saturateref01_shift_eq a hx _ (by omega) (by omega)]; simp only [Option.bind_some]
  rw [shf_ashr (W_le a)]
theorem saturateref01_truth_eq (p : Prop) [Decidable p] : saturateref01_truth.f (decide p) = some ((if p then 1 else 0 : Nat) : Int) := by
  unfold saturateref01_truth.f; by_cases h : p <;> simp [h]
theorem saturateref01_Eq_eq (a : Int) {x y : Nat} (hx : x < 18446744073709551616) (hy : y < 18446744073709551616) : saturateref01_Eq.f a x y = some (veq (W a) x y : Int) := by
  unfold saturateref01_Eq.f; rw [saturateref01_Cut_eq a hx, saturateref01_Cut_eq a hy]; simp only [Option.bind_some]
  rw [beq_nat, saturateref01_truth_eq]; rfl
theorem saturateref01_Ult_eq (a : Int) {x y : Nat} (hx : x < 18446744073709551616) (hy : y < 18446744073709551616) : saturateref01_Ult.f a x y = some (vult (W a) x y : Int) := by
  unfold saturateref01_Ult.f; rw [saturateref01_Cut_eq a hx, saturateref01_Cut_eq a hy]; simp only [Option.bind_some]
  rw [saturateref01_truth_eq]; unfold vult vcut; simp only [Int.ofNat_lt, Option.bind_some]
theorem saturateref01_Slt_eq (a : Int) {x y : Nat} (hx : x < 18446744073709551616) (hy : y < 18446744073709551616) : saturateref01_Slt.f a x y = some (vslt (W a) x y : Int) := by
  unfold saturateref01_Slt.f; rw [saturateref01_Signed_eq a hx, saturateref01_Signed_eq a hy]; simp only [Option.bind_some]
  rw [saturateref01_truth_eq]; rfl
end Go.Proofs.YtkmehmlcccdnbaaDoor.Fn
