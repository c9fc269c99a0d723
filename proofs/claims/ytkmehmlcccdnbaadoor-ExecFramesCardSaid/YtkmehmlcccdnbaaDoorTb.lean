/- What the functions of the bit vectors (program and reference) return, in the words of the theory. -/
import Derived.Test.YtkmehmlcccdnbaaDoorF0
import Derived.Test.YtkmehmlcccdnbaaDoorF4
import Derived.Test.YtkmehmlcccdnbaaDoorBw
namespace Go.Proofs.YtkmehmlcccdnbaaDoor.Fn
open Go Go.RowKit Go.Proofs.YtkmehmlcccdnbaaDoor.Ev Go.Proofs.YtkmehmlcccdnbaaDoor.Bv
set_option linter.unusedVariables false
set_option linter.unusedSimpArgs false

theorem bifd_pos {α : Type} {p : Prop} [Decidable p] (h : p) {a b : α} : (bif decide p then a else b) = a := by simp [h]
theorem bifd_neg {α : Type} {p : Prop} [Decidable p] (h : ¬p) {a b : α} : (bif decide p then a else b) = b := by simp [h]

theorem bits_clamp_eq (a : Int) : bits_clamp.f a = some (W a : Int) := by unfold bits_clamp.f; rw [W_int]
theorem saturateref01_W_eq (a : Int) : saturateref01_W.f a = some (W a : Int) := by unfold saturateref01_W.f; rw [W_int]
theorem bits_Mask_eq (a : Int) : bits_Mask.f a = some (vmask (W a) : Int) := by
  unfold bits_Mask.f; rw [bits_clamp_eq]; simp only [Option.bind_some]
  rw [wrapi, wrapi_64, bifd_neg (by omega), show (18446744073709551615 : Int) = ((18446744073709551615 : Nat) : Int) from rfl, shr64 (by decide), mask_shr (W_le a)]
theorem bits_Cut_eq (a : Int) {x : Nat} (hx : x < 18446744073709551616) : bits_Cut.f a x = some (vcut (W a) x : Int) := by
  unfold bits_Cut.f; rw [bits_Mask_eq]; simp only [Option.bind_some]
  rw [and64 hx (vmask_lt (W_le a))]; unfold vmask vcut; rw [and_mask]
theorem saturateref01_Bit_eq {x : Nat} (hx : x < 18446744073709551616) (i : Nat) : saturateref01_Bit.f x i = some ((x.testBit i).toNat : Int) := by
  unfold saturateref01_Bit.f
  rw [bifd_neg (by omega)]
  by_cases h : 63 < i
  · rw [bifd_pos (by omega), testBit_ge (lt_pw hx) (by omega)]; rfl
  · rw [bifd_neg (by omega), wrapu_of (by omega), bifd_neg (by omega), shr64 hx, show (1 : Int) = ((1 : Nat) : Int) from rfl, and64 (Nat.lt_of_le_of_lt (shr_le _ _) hx) (by decide)]
    rw [Nat.and_one_is_mod, Nat.toNat_testBit, Nat.shiftRight_eq_div_pow]
theorem saturateref01_Bit_neg {i : Int} (h : i < 0) (x : Int) : saturateref01_Bit.f x i = some 0 := by
  unfold saturateref01_Bit.f; rw [bifd_pos h]
theorem saturateref01_Mask_j3 (fu d : Nat) : ∀ (k i w : Nat), w ≤ 64 → w - i = d → i ≤ w → d < k → saturateref01_Mask.j3 fu k (vmask i : Int) w i = some (vmask w : Int) := by
  induction d with
  | zero =>
    intro k i w hw hd hi hk
    obtain ⟨k, rfl⟩ : ∃ m, k = m + 1 := ⟨k - 1, by omega⟩
    obtain rfl : i = w := by omega
    rw [saturateref01_Mask.j3_succ, bifd_neg (by omega)]
  | succ d ih =>
    intro k i w hw hd hi hk
    obtain ⟨k, rfl⟩ : ∃ m, k = m + 1 := ⟨k - 1, by omega⟩
    rw [saturateref01_Mask.j3_succ, bifd_pos (by omega), wrapi, wrapi_succ (by omega), mask_step (by omega)]
    exact ih k (i + 1) w hw (by omega) (by omega) (by omega)
theorem saturateref01_Mask_eq (a : Int) : saturateref01_Mask.f a = some (vmask (W a) : Int) := by
  unfold saturateref01_Mask.f saturateref01_Mask.g; rw [saturateref01_W_eq]; simp only [Option.bind_some]
  have := W_le a
  exact saturateref01_Mask_j3 (fuel0 + 1) (W a) (fuel0 + 1) 0 (W a) (W_le a) (by omega) (by omega) (by unfold fuel0; omega)
theorem saturateref01_Cut_j3 (fu : Nat) {x : Nat} (hx : x < 18446744073709551616) (d : Nat) : ∀ (k i w : Nat), w ≤ 64 → w - i = d → i ≤ w → d < k → saturateref01_Cut.j3 fu k x (bld x.testBit i : Int) w i = some (bld x.testBit w : Int) := by
  induction d with
  | zero =>
    intro k i w hw hd hi hk
    obtain ⟨k, rfl⟩ : ∃ m, k = m + 1 := ⟨k - 1, by omega⟩
    obtain rfl : i = w := by omega
    rw [saturateref01_Cut.j3_succ, bifd_neg (by omega)]
  | succ d ih =>
    intro k i w hw hd hi hk
    obtain ⟨k, rfl⟩ : ∃ m, k = m + 1 := ⟨k - 1, by omega⟩
    rw [saturateref01_Cut.j3_succ, bifd_pos (by omega), saturateref01_Bit_eq hx, wrapu_of (by omega)]; simp only [Option.bind_some]
    rw [bifd_neg (by omega), wrapi, wrapi_succ (by omega), bld_step x.testBit (by omega)]
    exact ih k (i + 1) w hw (by omega) (by omega) (by omega)
theorem saturateref01_Cut_eq (a : Int) {x : Nat} (hx : x < 18446744073709551616) : saturateref01_Cut.f a x = some (vcut (W a) x : Int) := by
  unfold saturateref01_Cut.f saturateref01_Cut.g; rw [saturateref01_W_eq]; simp only [Option.bind_some]
  have h := saturateref01_Cut_j3 (fuel0 + 1) hx (W a) (fuel0 + 1) 0 (W a) (W_le a) (by omega) (by omega) (by have := W_le a; unfold fuel0; omega)
  rw [bld_eq (Nat.mod_lt x (pw_pos (W a))) (fun i hi => by rw [Nat.testBit_mod_two_pow]; simp [hi])] at h
  exact h
end Go.Proofs.YtkmehmlcccdnbaaDoor.Fn
