/- The program's functions of the bit vectors, in the words of the theory. -/
import Derived.Test.YtkmehmlcccdnbaaDoorF0
import Derived.Test.YtkmehmlcccdnbaaDoorTc
namespace Go.Proofs.YtkmehmlcccdnbaaDoor.Fn
open Go Go.RowKit Go.Proofs.YtkmehmlcccdnbaaDoor.Ev Go.Proofs.YtkmehmlcccdnbaaDoor.Bv
set_option linter.unusedVariables false
set_option linter.unusedSimpArgs false

theorem bits_Add_eq (a : Int) {x y : Nat} : bits_Add.f a x y = some (vadd (W a) x y : Int) := by
  unfold bits_Add.f; rw [wrapu_add, bits_Cut_eq a (Nat.mod_lt _ (by decide))]; simp only [Option.bind_some]
  unfold vcut vadd; rw [mod64_mod (W_le a)]
theorem bits_Sub_eq (a : Int) {x y : Nat} (hy : y < 18446744073709551616) : bits_Sub.f a x y = some (vsub (W a) x y : Int) := by
  unfold bits_Sub.f; rw [wrapu_sub hy, bits_Cut_eq a (Nat.mod_lt _ (by decide))]; simp only [Option.bind_some]
  rw [sub_cut (W_le a) x hy]
theorem bits_Mul_eq (a : Int) {x y : Nat} : bits_Mul.f a x y = some (vmul (W a) x y : Int) := by
  unfold bits_Mul.f; rw [wrapu_mul, bits_Cut_eq a (Nat.mod_lt _ (by decide))]; simp only [Option.bind_some]
  unfold vcut vmul; rw [mod64_mod (W_le a)]
theorem bits_shift_p10 (m fu : Nat) (a : Int) {x n : Nat} (hx : x < 18446744073709551616) :
    bits_shift.p10 (m + 1) fu (vcut (W a) x : Int) (n : Int) (decide ((n : Int) ≥ (IntKind.u64.wrap (W a : Int)))) = some (((x % 2 ^ W a) >>> n : Nat) : Int) := by
  have hw := W_le a
  rw [bits_shift.p10_eq, wrapu_of (by omega), bifd_neg (show ¬ ((n : Int) < 0) by omega), shr64 (vcut_lt x hw)]
  unfold vcut
  by_cases h : W a ≤ n
  · rw [bifd_pos (by omega), far_shr x h]; rfl
  · rw [bifd_neg (by omega)]
theorem bits_shift_shl (a : Int) {x y : Nat} (hx : x < 18446744073709551616) (hy : y < 18446744073709551616) : bits_shift.f 0 a x y = some (vshl (W a) x y : Int) := by
  have hw := W_le a
  unfold bits_shift.f bits_shift.g
  rw [bits_Cut_eq a hx, bits_Cut_eq a hy, bits_clamp_eq]; simp only [Option.bind_some]
  rw [show ((0 : Int) == 2) = false from rfl, show ((0 : Int) == 1) = false from rfl, cond_false, cond_false, wrapu_of (by omega)]
  unfold vshl
  by_cases h : W a ≤ vcut (W a) y
  · rw [bifd_pos (by omega)]
    unfold vcut at h
    rw [far_shl x h]; rfl
  · rw [bifd_neg (by omega), bifd_neg (by omega), shl64, bits_Cut_eq a (Nat.mod_lt _ (by decide))]; simp only [Option.bind_some]
    unfold vcut
    rw [mod64_mod hw, Nat.mod_two_pow_shiftLeft_mod_two_pow]
theorem bits_shift_lshr (a : Int) {x y : Nat} (hx : x < 18446744073709551616) (hy : y < 18446744073709551616) : bits_shift.f 1 a x y = some (vlshr (W a) x y : Int) := by
  unfold bits_shift.f bits_shift.g
  rw [bits_Cut_eq a hx, bits_Cut_eq a hy, bits_clamp_eq]; simp only [Option.bind_some]
  rw [show ((1 : Int) == 2) = false from rfl, show ((1 : Int) == 1) = true from rfl, cond_false, cond_true, bits_shift_p10 _ _ a hx]
  rfl
theorem bits_shift_ashr (a : Int) {x y : Nat} (hx : x < 18446744073709551616) (hy : y < 18446744073709551616) : bits_shift.f 2 a x y = some (vashr (W a) x y : Int) := by
  have hw := W_le a
  unfold bits_shift.f bits_shift.g
  rw [bits_Cut_eq a hx, bits_Cut_eq a hy, bits_clamp_eq]; simp only [Option.bind_some]
  rw [show ((2 : Int) == 2) = true from rfl, cond_true, bits_Signed_eq a (vcut_lt x hw), sgn_cut (W_pos a), bits_shift_p10 _ _ a hx, bits_Mask_eq]; simp only [Option.bind_some]
  rw [wrapu_of (by omega)]
  unfold vashr
  by_cases ht : x.testBit (W a - 1)
  · rw [bifd_pos ((sgn_neg (W_pos a)).2 ht), if_pos ht]
    by_cases h : W a ≤ vcut (W a) y
    · rw [bifd_pos (by omega)]
      unfold vcut at h
      rw [far_sub _ h]
    · rw [bifd_neg (by omega), bifd_neg (by omega), signed_shr (W_pos a) hw ht (by omega), bits_Cut_eq a (Nat.lt_of_le_of_lt (Nat.sub_le _ _) (by decide))]; simp only [Option.bind_some]
      rw [signed_shr_cut hw]; rfl
  · rw [bifd_neg (fun h => ht ((sgn_neg (W_pos a)).1 h)), if_neg ht]; rfl
theorem bits_Shl_eq (a : Int) {x y : Nat} (hx : x < 18446744073709551616) (hy : y < 18446744073709551616) : bits_Shl.f a x y = some (vshl (W a) x y : Int) := by
  unfold bits_Shl.f; rw [bits_shift_shl a hx hy]; rfl
theorem bits_Lshr_eq (a : Int) {x y : Nat} (hx : x < 18446744073709551616) (hy : y < 18446744073709551616) : bits_Lshr.f a x y = some (vlshr (W a) x y : Int) := by
  unfold bits_Lshr.f; rw [bits_shift_lshr a hx hy]; rfl
theorem bits_Ashr_eq (a : Int) {x y : Nat} (hx : x < 18446744073709551616) (hy : y < 18446744073709551616) : bits_Ashr.f a x y = some (vashr (W a) x y : Int) := by
  unfold bits_Ashr.f; rw [bits_shift_ashr a hx hy]; rfl
theorem bits_flag_eq (p : Prop) [Decidable p] : bits_flag.f (decide p) = some ((if p then 1 else 0 : Nat) : Int) := by
  unfold bits_flag.f; by_cases h : p <;> simp [h]
theorem bits_Slt_eq (a : Int) {x y : Nat} (hx : x < 18446744073709551616) (hy : y < 18446744073709551616) : bits_Slt.f a x y = some (vslt (W a) x y : Int) := by
  unfold bits_Slt.f; rw [bits_Signed_eq a hx, bits_Signed_eq a hy]; simp only [Option.bind_some]
  rw [bits_flag_eq]; rfl
end Go.Proofs.YtkmehmlcccdnbaaDoor.Fn
