/- More functions of the bit vectors (program and reference), in the words of the theory. -/
import Derived.Test.YtkmehmlcccdnbaaDoorF0
import Derived.Test.YtkmehmlcccdnbaaDoorF4
import Derived.Test.YtkmehmlcccdnbaaDoorTb
namespace Go.Proofs.YtkmehmlcccdnbaaDoor.Fn
open Go Go.RowKit Go.Proofs.YtkmehmlcccdnbaaDoor.Ev Go.Proofs.YtkmehmlcccdnbaaDoor.Bv
set_option linter.unusedVariables false
set_option linter.unusedSimpArgs false

theorem bits_Signed_eq (a : Int) {x : Nat} (hx : x < 18446744073709551616) : bits_Signed.f a x = some (sgn (W a) x) := by
  unfold bits_Signed.f; rw [bits_clamp_eq]; simp only [Option.bind_some, wrapi]
  rw [wrapi_64, bifd_neg (by omega), bifd_neg (by omega), shl64, signed_shifts (W_pos a) (W_le a)]
theorem bits_Neg_eq (a : Int) {x : Nat} (hx : x < 18446744073709551616) : bits_Neg.f a x = some (vneg (W a) x : Int) := by
  unfold bits_Neg.f; rw [Int.zero_sub, wrapu_neg hx, bits_Cut_eq a (Nat.mod_lt _ (by decide))]; simp only [Option.bind_some]
  have := sub_cut (W_le a) 0 hx
  rw [Nat.zero_add] at this
  rw [this]; unfold vsub vneg; rw [Nat.zero_add]
theorem saturateref01_Not_eq (a : Int) {x : Nat} (hx : x < 18446744073709551616) : saturateref01_Not.f a x = some (vnot (W a) x : Int) := by
  unfold saturateref01_Not.f; rw [saturateref01_Mask_eq a, saturateref01_Cut_eq a hx]; simp only [Option.bind_some]
  rw [wrapu_sub_le (vmask_lt (W_le a)) (by unfold vmask vcut; have := Nat.mod_lt x (pw_pos (W a)); omega)]; rfl
theorem saturateref01_Add_j3 (fu : Nat) {x y : Nat} (hx : x < 18446744073709551616) (hy : y < 18446744073709551616) (d : Nat) : ∀ (k i w z c : Nat), w ≤ 64 → w - i = d → i ≤ w → d < k → z < 2 ^ i → c ≤ 1 → z + c * 2 ^ i = x % 2 ^ i + y % 2 ^ i →
    saturateref01_Add.j3 fu k x y z c w i = some (vadd w x y : Int) := by
  induction d with
  | zero =>
    intro k i w z c hw hd hi hk hz hc he
    obtain ⟨k, rfl⟩ : ∃ m, k = m + 1 := ⟨k - 1, by omega⟩
    obtain rfl : i = w := by omega
    rw [saturateref01_Add.j3_succ, bifd_neg (by omega)]
    unfold vadd
    rw [Nat.add_mod, ← he, Nat.add_mul_mod_self_right, Nat.mod_eq_of_lt hz]
  | succ d ih =>
    intro k i w z c hw hd hi hk hz hc he
    obtain ⟨k, rfl⟩ : ∃ m, k = m + 1 := ⟨k - 1, by omega⟩
    rw [saturateref01_Add.j3_succ, bifd_pos (by omega), saturateref01_Bit_eq hx, saturateref01_Bit_eq hy, wrapu_of (n := i) (by omega)]; simp only [Option.bind_some]
    have hb1 := toNat_le (x.testBit i)
    have hb2 := toNat_le (y.testBit i)
    have hx1 := mod_succ x i
    have hy1 := mod_succ y i
    rw [bifd_neg (by omega), wrapi, wrapi_succ (by omega), ← Int.natCast_add, wrapu_of (by omega), ← Int.natCast_add, wrapu_of (by omega)]
    generalize (x.testBit i).toNat = b1 at *
    generalize (y.testBit i).toNat = b2 at *
    rw [show (2 : Int) = ((2 : Nat) : Int) from rfl, tmod_nat, tdiv_nat, wrapu_of (by omega), put_bit hz (by omega) (by omega)]
    have hp : 2 ^ (i + 1) = 2 * 2 ^ i := by rw [Nat.pow_succ, Nat.mul_comm]
    refine ih k (i + 1) w _ _ hw (by omega) (by omega) (by omega) ?_ (by omega) ?_
    · rw [hp]
      have : (b1 + b2 + c) % 2 * 2 ^ i ≤ 1 * 2 ^ i := Nat.mul_le_mul_right _ (by omega)
      omega
    · rw [hx1, hy1, hp]
      have e1 : (b1 + b2 + c) / 2 * (2 * 2 ^ i) = ((b1 + b2 + c) / 2 * 2) * 2 ^ i := by rw [Nat.mul_assoc]
      have e2 : (b1 + b2 + c) % 2 * 2 ^ i + ((b1 + b2 + c) / 2 * 2) * 2 ^ i = (b1 + b2 + c) * 2 ^ i := by rw [← Nat.add_mul]; congr 1; omega
      have e3 : (b1 + b2 + c) * 2 ^ i = b1 * 2 ^ i + b2 * 2 ^ i + c * 2 ^ i := by rw [Nat.add_mul, Nat.add_mul]
      rw [e1]; omega
theorem fuel_gt {n : Nat} (h : n ≤ 1000) : n < fuel0 + 1 := by unfold fuel0; omega
theorem saturateref01_Add_eq (a : Int) {x y : Nat} (hx : x < 18446744073709551616) (hy : y < 18446744073709551616) : saturateref01_Add.f a x y = some (vadd (W a) x y : Int) := by
  unfold saturateref01_Add.f saturateref01_Add.g; rw [saturateref01_W_eq]; simp only [Option.bind_some]
  have hw := W_le a
  exact saturateref01_Add_j3 (fuel0 + 1) hx hy (W a) (fuel0 + 1) 0 (W a) 0 0 (W_le a) (by omega) (by omega) (fuel_gt (by omega)) (by simp) (by omega) (by simp [Nat.mod_one])
theorem saturateref01_Neg_eq (a : Int) {x : Nat} (hx : x < 18446744073709551616) : saturateref01_Neg.f a x = some (vneg (W a) x : Int) := by
  unfold saturateref01_Neg.f; rw [saturateref01_Not_eq a hx]; simp only [Option.bind_some]
  rw [show (1 : Int) = ((1 : Nat) : Int) from rfl, saturateref01_Add_eq a (vnot_lt x (W_le a)) (by decide)]; simp only [Option.bind_some]
  have := Nat.mod_lt x (pw_pos (W a))
  unfold vadd vneg vnot
  rw [show 2 ^ W a - 1 - x % 2 ^ W a + 1 = 2 ^ W a - x % 2 ^ W a by omega]
theorem saturateref01_Sub_eq (a : Int) {x y : Nat} (hx : x < 18446744073709551616) (hy : y < 18446744073709551616) : saturateref01_Sub.f a x y = some (vsub (W a) x y : Int) := by
  unfold saturateref01_Sub.f; rw [saturateref01_Neg_eq a hy]; simp only [Option.bind_some]
  rw [saturateref01_Add_eq a hx (vneg_lt y (W_le a))]; simp only [Option.bind_some]
  unfold vadd vneg vsub; rw [Nat.add_mod_mod]
theorem saturateref01_shift_j3 (fu : Nat) (a : Int) {x : Nat} (hx : x < 18446744073709551616) (by_ : Int) (h1 : -64 ≤ by_) (h2 : by_ ≤ 64) (fill : Bool) (d : Nat) : ∀ (k i : Nat), W a - i = d → i ≤ W a → d < k →
    saturateref01_shift.j3 (fu + 1) k a x by_ (fill.toNat : Int) (bld (shf (W a) x by_ fill) i : Int) (W a) i = some (bld (shf (W a) x by_ fill) (W a) : Int) := by
  have hw := W_le a
  induction d with
  | zero =>
    intro k i hd hi hk
    obtain ⟨k, rfl⟩ : ∃ m, k = m + 1 := ⟨k - 1, by omega⟩
    obtain rfl : i = W a := by omega
    rw [saturateref01_shift.j3_succ, bifd_neg (by omega)]
  | succ d ih =>
    intro k i hd hi hk
    obtain ⟨k, rfl⟩ : ∃ m, k = m + 1 := ⟨k - 1, by omega⟩
    have hn := ih k (i + 1) (by omega) (by omega) (by omega)
    have hst := bld_step (shf (W a) x by_ fill) (i := i) (by omega)
    rw [saturateref01_shift.j3_succ, bifd_pos (by omega), saturateref01_W_eq, Option.bind_some]
    simp only [saturateref01_shift.p8_eq, wrapi]
    rw [wrapu_of (n := i) (by omega), wrapi_succ (by omega), wrapi_of (a := (i : Int) + by_) (by omega) (by omega)]
    by_cases hlt : (i : Int) + by_ < (W a : Int)
    · rw [bifd_pos hlt]
      by_cases h0 : 0 ≤ (i : Int) + by_
      · have e : (i : Int) + by_ = (((i : Int) + by_).toNat : Int) := by omega
        rw [e, saturateref01_Bit_eq hx, Option.bind_some, bifd_neg (by omega)]
        have hf : shf (W a) x by_ fill i = x.testBit ((i : Int) + by_).toNat := by unfold shf; rw [if_pos hlt, if_pos h0]
        rw [hf] at hst; rw [hst]; exact hn
      · rw [saturateref01_Bit_neg (by omega), Option.bind_some, bifd_neg (by omega)]
        have hf : shf (W a) x by_ fill i = false := by unfold shf; rw [if_pos hlt, if_neg h0]
        rw [hf] at hst; rw [show (0 : Int) = (false.toNat : Int) from rfl, hst]; exact hn
    · rw [bifd_neg hlt, bifd_neg (by omega)]
      have hf : shf (W a) x by_ fill i = fill := by unfold shf; rw [if_neg hlt]
      rw [hf] at hst; rw [hst]; exact hn
theorem saturateref01_shift_eq (a : Int) {x : Nat} (hx : x < 18446744073709551616) (by_ : Int) (h1 : -64 ≤ by_) (h2 : by_ ≤ 64) (fill : Bool) :
    saturateref01_shift.f a x by_ (fill.toNat : Int) = some (bld (shf (W a) x by_ fill) (W a) : Int) := by
  unfold saturateref01_shift.f saturateref01_shift.g; rw [saturateref01_W_eq]; simp only [Option.bind_some]
  have hw := W_le a
  exact saturateref01_shift_j3 fuel0 a hx by_ h1 h2 fill (W a) (fuel0 + 1) 0 (by omega) (by omega) (fuel_gt (by omega))
theorem saturateref01_by_eq (a : Int) {y : Nat} (hy : y < 18446744073709551616) : saturateref01_by.f a y = some ((min (y % 2 ^ W a) 64 : Nat) : Int) := by
  unfold saturateref01_by.f; rw [saturateref01_Cut_eq a hy]; simp only [Option.bind_some, wrapi]
  unfold vcut
  generalize y % 2 ^ W a = n
  congr 1
  unfold mn; split
  · rw [wrapi_of (by omega) (by omega)]; omega
  · rw [wrapi_of (by omega) (by omega)]; omega
theorem saturateref01_Shl_eq (a : Int) {x y : Nat} (hx : x < 18446744073709551616) (hy : y < 18446744073709551616) : saturateref01_Shl.f a x y = some (vshl (W a) x y : Int) := by
  unfold saturateref01_Shl.f; rw [saturateref01_by_eq a hy]; simp only [Option.bind_some, wrapi, Int.zero_sub]
  rw [wrapi_of (a := -_) (by omega) (by omega), show (0 : Int) = (false.toNat : Int) from rfl, saturateref01_shift_eq a hx _ (by omega) (by omega)]; simp only [Option.bind_some]
  rw [shf_shl (W_le a)]
theorem saturateref01_Lshr_eq (a : Int) {x y : Nat} (hx : x < 18446744073709551616) (hy : y < 18446744073709551616) : saturateref01_Lshr.f a x y = some (vlshr (W a) x y : Int) := by
  unfold saturateref01_Lshr.f; rw [saturateref01_by_eq a hy]; simp only [Option.bind_some]
  rw [show (0 : Int) = (false.toNat : Int) from rfl, saturateref01_shift_eq a hx _ (by omega) (by omega)]; simp only [Option.bind_some]
  rw [shf_lshr (W_le a)]
end Go.Proofs.YtkmehmlcccdnbaaDoor.Fn
