/- What the functions of the bit vectors (program and reference) return, in the words of the theory. -/
import Derived.Test.YtnagfkdgangikaaDoorF0
import Derived.Test.YtnagfkdgangikaaDoorBw
namespace Go.Proofs.YtnagfkdgangikaaDoor.Fn
open Go Go.RowKit Go.Proofs.YtnagfkdgangikaaDoor.Ev Go.Proofs.YtnagfkdgangikaaDoor.Bv
set_option linter.unusedVariables false
set_option linter.unusedSimpArgs false

theorem bifd_pos {α : Type} {p : Prop} [Decidable p] (h : p) {a b : α} : (bif decide p then a else b) = a := by simp [h]
theorem bifd_neg {α : Type} {p : Prop} [Decidable p] (h : ¬p) {a b : α} : (bif decide p then a else b) = b := by simp [h]

theorem bits_clamp_eq (a : Int) : bits_clamp.f a = some (W a : Int) := by unfold bits_clamp.f; rw [W_int]
theorem bits_Mask_eq (a : Int) : bits_Mask.f a = some (vmask (W a) : Int) := by
  unfold bits_Mask.f; rw [bits_clamp_eq]; simp only [Option.bind_some]
  rw [wrapi, wrapi_64, bifd_neg (by omega), show (18446744073709551615 : Int) = ((18446744073709551615 : Nat) : Int) from rfl, shr64 (by decide), mask_shr (W_le a)]
theorem bits_Cut_eq (a : Int) {x : Nat} (hx : x < 18446744073709551616) : bits_Cut.f a x = some (vcut (W a) x : Int) := by
  unfold bits_Cut.f; rw [bits_Mask_eq]; simp only [Option.bind_some]
  rw [and64 hx (vmask_lt (W_le a))]; unfold vmask vcut; rw [and_mask]
theorem saturateref01_Bit_eq {x : Nat} (hx : x < 18446744073709551616) (i : Nat) : saturateref01_Bit.f x i = some ((x.testBit i).toNat : Int) := by
  unfold saturateref01_Bit.f
  rw [bifd_neg (by omega)]
  by_cases h : 63 < i
  · rw [bifd_pos (by omega), testBit_ge (lt_pw hx) (by omega)]; rfl
  · rw [bifd_neg (by omega), wrapu_of (by omega), bifd_neg (by omega), shr64 hx, show (1 : Int) = ((1 : Nat) : Int) from rfl, and64 (Nat.lt_of_le_of_lt (shr_le _ _) hx) (by decide)]
    rw [Nat.and_one_is_mod, Nat.toNat_testBit, Nat.shiftRight_eq_div_pow]
theorem saturateref01_Bit_neg {i : Int} (h : i < 0) (x : Int) : saturateref01_Bit.f x i = some 0 := by
  unfold saturateref01_Bit.f; rw [bifd_pos h]
end Go.Proofs.YtnagfkdgangikaaDoor.Fn
