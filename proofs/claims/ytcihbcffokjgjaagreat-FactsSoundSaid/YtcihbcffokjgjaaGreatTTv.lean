/- Bit vectors as whole numbers: what Go's operations on uint64 and int64 come to, and the words in which the proofs of this seat say what the functions return. Plain arithmetic: no program and no memory. What the functions of the bit vectors (program and reference) return, in the words of the theory. Terms: their sizes; counting, measuring and copying them. Lists of values as functions, built up one by one. -/
import Derived.Test.YtcihbcffokjgjaaGreatTEvC
import Derived.Laws.BitsLemmas
import Derived.Test.YtcihbcffokjgjaaGreatTF1
import Derived.Test.YtcihbcffokjgjaaGreatTF2
import Derived.Test.YtcihbcffokjgjaaGreatTF9
import Derived.Test.YtcihbcffokjgjaaGreatTF0
import Derived.Test.YtcihbcffokjgjaaGreatTF14
import Derived.Test.YtcihbcffokjgjaaGreatTOpT
namespace Go.Proofs.YtcihbcffokjgjaaGreat.Bv
open Go Go.RowKit Go.Proofs.YtcihbcffokjgjaaGreat.Ev
set_option linter.unusedVariables false
theorem shr_eq (k : IntKind) (x y : Int) : shr k x y = x / 2 ^ min y.toNat k.bits := by
  unfold shr
  exact Int.fdiv_eq_ediv_of_nonneg _ (Int.le_of_lt (Int.pow_pos (by decide)))
theorem wrapi (a : Int) : IntKind.i64.wrap a = wrap64 a := by simp only [IntKind.wrap, IntKind.bits, IntKind.signed, wrap64]; simp <;> omega
theorem p64 : (2 : Nat) ^ 64 = 18446744073709551616 := by rfl
theorem p63 : (2 : Nat) ^ 63 = 9223372036854775808 := by rfl
theorem pow_cast (n : Nat) : (2 : Int) ^ n = ((2 ^ n : Nat) : Int) := by rw [Int.natCast_pow]; rfl
def W (a : Int) : Nat := (mn (mx a 1) 64).toNat
theorem W_pos (a : Int) : 1 ≤ W a := by unfold W mn mx; repeat' split <;> omega
theorem W_le (a : Int) : W a ≤ 64 := by unfold W mn mx; repeat' split <;> omega
theorem W_int (a : Int) : mn (mx a 1) 64 = (W a : Int) := by unfold W mn mx; repeat' split <;> omega
theorem W_of {n : Nat} (h1 : 1 ≤ n) (h2 : n ≤ 64) : W (n : Int) = n := by unfold W mn mx; repeat' split <;> omega
theorem W_of' {a : Int} (h1 : 1 ≤ a) (h2 : a ≤ 64) : (W a : Int) = a := by unfold W mn mx; repeat' split <;> omega
theorem pw_le {w : Nat} (h : w ≤ 64) : 2 ^ w ≤ 18446744073709551616 := by
  have := Nat.pow_le_pow_right (n := 2) (by decide) h
  rw [p64] at this; exact this
theorem pw_pos (w : Nat) : 0 < 2 ^ w := Nat.two_pow_pos w
theorem mod_lt64 {w : Nat} (x : Nat) (h : w ≤ 64) : x % 2 ^ w < 18446744073709551616 := Nat.lt_of_lt_of_le (Nat.mod_lt _ (pw_pos w)) (pw_le h)
theorem lt_pw {x : Nat} (h : x < 18446744073709551616) : x < 2 ^ 64 := by rw [p64]; exact h
theorem u64_of {a : Int} (h : (Lit.int .u64 a).wf = true) : ∃ n : Nat, a = (n : Int) ∧ n < 18446744073709551616 := by
  simp [Lit.wf, IntKind.min, IntKind.max, IntKind.signed, IntKind.bits] at h
  exact ⟨a.toNat, by omega, by omega⟩
theorem i64_of {a : Int} (h : (Lit.int .i64 a).wf = true) : -9223372036854775808 ≤ a ∧ a ≤ 9223372036854775807 := by
  simp [Lit.wf, IntKind.min, IntKind.max, IntKind.signed, IntKind.bits] at h
  omega
theorem wrapu (a : Int) : IntKind.u64.wrap a = a % 18446744073709551616 := by simp [IntKind.wrap, IntKind.bits, IntKind.signed]
theorem wrapu_of {n : Nat} (h : n < 18446744073709551616) : IntKind.u64.wrap (n : Int) = (n : Int) := by rw [wrapu]; omega
theorem wrapi_of {a : Int} (h1 : -9223372036854775808 ≤ a) (h2 : a ≤ 9223372036854775807) : wrap64 a = a := by unfold wrap64; omega
theorem wrapi_succ {n : Nat} (h : n < 9223372036854775807) : wrap64 ((n : Int) + 1) = ((n + 1 : Nat) : Int) := by unfold wrap64; omega
theorem wrapi_64 (a : Int) : wrap64 (64 - (W a : Int)) = ((64 - W a : Nat) : Int) := by
  have := W_le a
  have := W_pos a
  unfold wrap64; omega
theorem wrapu_add (x y : Nat) : IntKind.u64.wrap ((x : Int) + (y : Int)) = (((x + y) % 18446744073709551616 : Nat) : Int) := by rw [wrapu]; omega
theorem wrapu_mul (x y : Nat) : IntKind.u64.wrap ((x : Int) * (y : Int)) = (((x * y) % 18446744073709551616 : Nat) : Int) := by
  rw [wrapu]; rw [← Int.natCast_mul]; omega
theorem wrapu_sub {x y : Nat} (hy : y < 18446744073709551616) : IntKind.u64.wrap ((x : Int) - (y : Int)) = (((x + (18446744073709551616 - y)) % 18446744073709551616 : Nat) : Int) := by rw [wrapu]; omega
theorem wrapu_sub_le {x y : Nat} (hx : x < 18446744073709551616) (hy : y ≤ x) : IntKind.u64.wrap ((x : Int) - (y : Int)) = ((x - y : Nat) : Int) := by rw [wrapu]; omega
theorem wrapu_neg {y : Nat} (hy : y < 18446744073709551616) : IntKind.u64.wrap (-(y : Int)) = (((18446744073709551616 - y) % 18446744073709551616 : Nat) : Int) := by rw [wrapu]; omega
theorem mod_bits {x : Nat} (hx : x < 18446744073709551616) : x % 2 ^ IntKind.bits .u64 = x := Nat.mod_eq_of_lt (lt_pw hx)
theorem and64 {x y : Nat} (hx : x < 18446744073709551616) (hy : y < 18446744073709551616) : Go.bits .and .u64 (x : Int) (y : Int) = ((x &&& y : Nat) : Int) := by
  simp only [Go.bits, BitVec.ofInt_natCast, BitVec.toNat_and, BitVec.toNat_ofNat, mod_bits hx, mod_bits hy]
  exact wrapu_of (by rw [← p64]; exact Nat.and_lt_two_pow _ (lt_pw hy))
theorem or64 {x y : Nat} (hx : x < 18446744073709551616) (hy : y < 18446744073709551616) : Go.bits .or .u64 (x : Int) (y : Int) = ((x ||| y : Nat) : Int) := by
  simp only [Go.bits, BitVec.ofInt_natCast, BitVec.toNat_or, BitVec.toNat_ofNat, mod_bits hx, mod_bits hy]
  exact wrapu_of (by rw [← p64]; exact Nat.or_lt_two_pow (lt_pw hx) (lt_pw hy))
theorem xor64 {x y : Nat} (hx : x < 18446744073709551616) (hy : y < 18446744073709551616) : Go.bits .xor .u64 (x : Int) (y : Int) = ((x ^^^ y : Nat) : Int) := by
  simp only [Go.bits, BitVec.ofInt_natCast, BitVec.toNat_xor, BitVec.toNat_ofNat, mod_bits hx, mod_bits hy]
  exact wrapu_of (by rw [← p64]; exact Nat.xor_lt_two_pow (lt_pw hx) (lt_pw hy))
theorem andNot64 {x y : Nat} (hx : x < 18446744073709551616) (hy : y < 18446744073709551616) : Go.bits .andNot .u64 (x : Int) (y : Int) = ((x &&& (18446744073709551615 - y) : Nat) : Int) := by
  simp only [Go.bits, BitVec.ofInt_natCast, BitVec.toNat_and, BitVec.toNat_not, BitVec.toNat_ofNat, mod_bits hx, mod_bits hy]
  rw [show (2 : Nat) ^ IntKind.bits .u64 - 1 - y = 18446744073709551615 - y from rfl]
  exact wrapu_of (Nat.lt_of_le_of_lt Nat.and_le_left hx)
theorem shl64 (x n : Nat) : shl .u64 (x : Int) (n : Int) = (((x <<< n) % 18446744073709551616 : Nat) : Int) := by
  unfold shl
  rw [wrapu]
  have e : (IntKind.bits .u64) = 64 := rfl
  rw [e, Int.toNat_natCast, Nat.shiftLeft_eq]
  by_cases h : n ≤ 64
  · rw [Nat.min_eq_left h, pow_cast, ← Int.natCast_mul]; omega
  · rw [Nat.min_eq_right (by omega)]
    obtain ⟨d, rfl⟩ : ∃ d, n = 64 + d := ⟨n - 64, by omega⟩
    have h2 : x * 2 ^ (64 + d) = (x * 2 ^ d) * 18446744073709551616 := by rw [Nat.pow_add, p64, Nat.mul_comm (18446744073709551616), Nat.mul_assoc]
    rw [h2, pow_cast, ← Int.natCast_mul, p64, Nat.mul_mod_left]
    omega
theorem shr64 {x n : Nat} (hx : x < 18446744073709551616) : shr .u64 (x : Int) (n : Int) = ((x >>> n : Nat) : Int) := by
  rw [shr_eq]
  have e : (IntKind.bits .u64) = 64 := rfl
  rw [e, Int.toNat_natCast, Nat.shiftRight_eq_div_pow]
  by_cases h : n ≤ 64
  · rw [Nat.min_eq_left h, pow_cast, ← Int.natCast_ediv]
  · rw [Nat.min_eq_right (by omega)]
    have h1 : x / 2 ^ n = 0 := Nat.div_eq_of_lt (Nat.lt_of_lt_of_le (lt_pw hx) (Nat.pow_le_pow_right (by decide) (by omega)))
    have h2 : x / 2 ^ 64 = 0 := Nat.div_eq_of_lt (lt_pw hx)
    rw [h1, pow_cast, ← Int.natCast_ediv, h2]
theorem toNat_lt (b : Bool) : b.toNat < 18446744073709551616 := by cases b <;> decide
def bld (f : Nat → Bool) : Nat → Nat
  | 0 => 0
  | n + 1 => bld f n ||| ((f n).toNat <<< n)
theorem testBit_toNat_shl (b : Bool) (n j : Nat) : (b.toNat <<< n).testBit j = (decide (n = j) && b) := by
  rw [Nat.testBit_shiftLeft, Nat.testBit_bool_toNat]
  by_cases h : n = j
  · subst h; simp
  · by_cases h2 : n ≤ j
    · have : ¬ (j - n = 0) := by omega
      simp [h, this]
    · simp [h, h2]
theorem testBit_bld (f : Nat → Bool) (n j : Nat) : (bld f n).testBit j = (decide (j < n) && f j) := by
  induction n with
  | zero => simp [bld]
  | succ n ih =>
    rw [bld, Nat.testBit_or, ih, testBit_toNat_shl]
    by_cases h : n = j
    · subst h; simp
    · by_cases h2 : j < n
      · have : j < n + 1 := by omega
        simp [h, h2, this]
      · have : ¬ j < n + 1 := by omega
        simp [h, h2, this]
theorem bld_lt (f : Nat → Bool) (n : Nat) : bld f n < 2 ^ n :=
  Nat.lt_pow_two_of_testBit _ (fun i hi => by rw [testBit_bld]; simp; omega)
theorem bld_lt64 (f : Nat → Bool) {n : Nat} (h : n ≤ 64) : bld f n < 18446744073709551616 := Nat.lt_of_lt_of_le (bld_lt f n) (pw_le h)
theorem bld_congr {f g : Nat → Bool} {n : Nat} (h : ∀ i, i < n → f i = g i) : bld f n = bld g n := by
  apply Nat.eq_of_testBit_eq
  intro i
  rw [testBit_bld, testBit_bld]
  by_cases hi : i < n
  · simp [hi, h i hi]
  · simp [hi]
theorem bld_eq {f : Nat → Bool} {n x : Nat} (hx : x < 2 ^ n) (h : ∀ i, i < n → f i = x.testBit i) : bld f n = x := by
  apply Nat.eq_of_testBit_eq
  intro i
  rw [testBit_bld]
  by_cases hi : i < n
  · simp [hi, h i hi]
  · rw [Nat.testBit_lt_two_pow (Nat.lt_of_lt_of_le hx (Nat.pow_le_pow_right (by decide) (by omega)))]
    simp [hi]
theorem bld_step (f : Nat → Bool) {i : Nat} (hi : i < 64) : Go.bits .or .u64 ((bld f i : Nat) : Int) (shl .u64 (((f i).toNat : Nat) : Int) (i : Int)) = ((bld f (i + 1) : Nat) : Int) := by
  have h1 : ((f i).toNat <<< i) < 2 ^ 64 := Nat.lt_pow_two_of_testBit _ (fun j hj => by rw [testBit_toNat_shl]; simp; omega)
  rw [shl64, Nat.mod_eq_of_lt (by rw [← p64]; exact h1), or64 (bld_lt64 f (by omega)) (by rw [← p64]; exact h1)]
  rfl
def vmask (w : Nat) : Nat := 2 ^ w - 1
def vcut (w x : Nat) : Nat := x % 2 ^ w
def sgn (w x : Nat) : Int := if x.testBit (w - 1) then ((x % 2 ^ w : Nat) : Int) - ((2 ^ w : Nat) : Int) else ((x % 2 ^ w : Nat) : Int)
def vnot (w a : Nat) : Nat := 2 ^ w - 1 - a % 2 ^ w
def vand (w a b : Nat) : Nat := (a &&& b) % 2 ^ w
def vor (w a b : Nat) : Nat := (a ||| b) % 2 ^ w
def vxor (w a b : Nat) : Nat := (a ^^^ b) % 2 ^ w
def vadd (w a b : Nat) : Nat := (a + b) % 2 ^ w
def vneg (w a : Nat) : Nat := (2 ^ w - a % 2 ^ w) % 2 ^ w
def vsub (w a b : Nat) : Nat := (a + (2 ^ w - b % 2 ^ w)) % 2 ^ w
def vmul (w a b : Nat) : Nat := (a * b) % 2 ^ w
def vudiv (w a b : Nat) : Nat := if b % 2 ^ w = 0 then 2 ^ w - 1 else (a % 2 ^ w) / (b % 2 ^ w)
def vurem (w a b : Nat) : Nat := if b % 2 ^ w = 0 then a % 2 ^ w else (a % 2 ^ w) % (b % 2 ^ w)
def vshl (w a b : Nat) : Nat := (a <<< (b % 2 ^ w)) % 2 ^ w
def vlshr (w a b : Nat) : Nat := (a % 2 ^ w) >>> (b % 2 ^ w)
def vashr (w a b : Nat) : Nat := if a.testBit (w - 1) then 2 ^ w - 1 - ((2 ^ w - 1 - a % 2 ^ w) >>> (b % 2 ^ w)) else (a % 2 ^ w) >>> (b % 2 ^ w)
def veq (w a b : Nat) : Nat := if a % 2 ^ w = b % 2 ^ w then 1 else 0
def vult (w a b : Nat) : Nat := if a % 2 ^ w < b % 2 ^ w then 1 else 0
def vslt (w a b : Nat) : Nat := if sgn w a < sgn w b then 1 else 0
def vconcat (v w a b : Nat) : Nat := (((a % 2 ^ v) <<< w) % 2 ^ 64) ||| (b % 2 ^ w)
def vextract (low w x : Nat) : Nat := (x >>> low) % 2 ^ w
def vsext (v w x : Nat) : Nat := bld (fun i => x.testBit (min i (v - 1))) w
theorem sub_lt_pw (w x : Nat) : 2 ^ w - 1 - x < 2 ^ w := by have := pw_pos w; omega
theorem vmask_lt {w : Nat} (h : w ≤ 64) : vmask w < 18446744073709551616 := by have := pw_le h; have := pw_pos w; unfold vmask; omega
theorem vcut_lt {w : Nat} (x : Nat) (h : w ≤ 64) : vcut w x < 18446744073709551616 := mod_lt64 x h
theorem vnot_lt {w : Nat} (x : Nat) (h : w ≤ 64) : vnot w x < 18446744073709551616 := by have := pw_le h; have := pw_pos w; unfold vnot; omega
theorem vand_lt {w : Nat} (a b : Nat) (h : w ≤ 64) : vand w a b < 18446744073709551616 := mod_lt64 _ h
theorem vor_lt {w : Nat} (a b : Nat) (h : w ≤ 64) : vor w a b < 18446744073709551616 := mod_lt64 _ h
theorem vxor_lt {w : Nat} (a b : Nat) (h : w ≤ 64) : vxor w a b < 18446744073709551616 := mod_lt64 _ h
theorem vadd_lt {w : Nat} (a b : Nat) (h : w ≤ 64) : vadd w a b < 18446744073709551616 := mod_lt64 _ h
theorem vneg_lt {w : Nat} (a : Nat) (h : w ≤ 64) : vneg w a < 18446744073709551616 := mod_lt64 _ h
theorem vsub_lt {w : Nat} (a b : Nat) (h : w ≤ 64) : vsub w a b < 18446744073709551616 := mod_lt64 _ h
theorem vmul_lt {w : Nat} (a b : Nat) (h : w ≤ 64) : vmul w a b < 18446744073709551616 := mod_lt64 _ h
theorem vudiv_lt {w : Nat} (a b : Nat) (h : w ≤ 64) : vudiv w a b < 18446744073709551616 := by
  unfold vudiv; split
  · exact vmask_lt h
  · exact Nat.lt_of_le_of_lt (Nat.div_le_self _ _) (mod_lt64 _ h)
theorem vurem_lt {w : Nat} (a b : Nat) (h : w ≤ 64) : vurem w a b < 18446744073709551616 := by
  unfold vurem; split
  · exact mod_lt64 _ h
  · exact Nat.lt_of_le_of_lt (Nat.mod_le _ _) (mod_lt64 _ h)
theorem vshl_lt {w : Nat} (a b : Nat) (h : w ≤ 64) : vshl w a b < 18446744073709551616 := mod_lt64 _ h
theorem shr_le (x n : Nat) : x >>> n ≤ x := by rw [Nat.shiftRight_eq_div_pow]; exact Nat.div_le_self _ _
theorem vlshr_lt {w : Nat} (a b : Nat) (h : w ≤ 64) : vlshr w a b < 18446744073709551616 := Nat.lt_of_le_of_lt (shr_le _ _) (mod_lt64 _ h)
theorem vashr_lt {w : Nat} (a b : Nat) (h : w ≤ 64) : vashr w a b < 18446744073709551616 := by
  unfold vashr; split
  · have := pw_le h; have := pw_pos w
    generalize (2 ^ w - 1 - a % 2 ^ w) >>> (b % 2 ^ w) = t
    omega
  · exact Nat.lt_of_le_of_lt (shr_le _ _) (mod_lt64 _ h)
theorem vconcat_lt {v w : Nat} (a b : Nat) (h : w ≤ 64) : vconcat v w a b < 18446744073709551616 := by
  unfold vconcat; rw [← p64]
  exact Nat.or_lt_two_pow (Nat.mod_lt _ (pw_pos _)) (lt_pw (mod_lt64 _ h))
theorem vextract_lt {w : Nat} (a b : Nat) (h : w ≤ 64) : vextract a w b < 18446744073709551616 := mod_lt64 _ h
theorem vsext_lt {w : Nat} (v x : Nat) (h : w ≤ 64) : vsext v w x < 18446744073709551616 := bld_lt64 _ h
theorem and_mask (x : Nat) (w : Nat) : x &&& (2 ^ w - 1) = x % 2 ^ w := Nat.and_two_pow_sub_one_eq_mod x w
theorem mod64_mod {w : Nat} (h : w ≤ 64) (x : Nat) : x % 18446744073709551616 % 2 ^ w = x % 2 ^ w := by
  have : 2 ^ w ∣ 18446744073709551616 := by rw [← p64]; exact Nat.pow_dvd_pow 2 h
  exact Nat.mod_mod_of_dvd x this
theorem testBit_vnot (w a i : Nat) : (vnot w a).testBit i = (decide (i < w) && !a.testBit i) := by
  unfold vnot
  have h1 := Nat.mod_lt a (pw_pos w)
  have e : 2 ^ w - 1 - a % 2 ^ w = 2 ^ w - (a % 2 ^ w + 1) := by omega
  rw [e, Nat.testBit_two_pow_sub_succ h1, Nat.testBit_mod_two_pow]
  by_cases h : i < w <;> simp [h]
theorem testBit_ge {x w i : Nat} (h : x < 2 ^ w) (hi : w ≤ i) : x.testBit i = false := Nat.testBit_lt_two_pow (Nat.lt_of_lt_of_le h (Nat.pow_le_pow_right (by decide) hi))
theorem add_disjoint (a : Nat) : ∀ b, a &&& b = 0 → a + b = a ||| b := by
  induction a using Nat.strongRecOn with
  | ind a ih =>
    intro b h
    by_cases ha : a = 0
    · subst ha; simp
    · have hd : (a / 2) &&& (b / 2) = 0 := by rw [← Nat.and_div_two, h]
      have h1 := ih (a / 2) (by omega) (b / 2) hd
      have hm : a % 2 = 0 ∨ b % 2 = 0 := by
        have hh : ¬ ((a &&& b) % 2 = 1) := by rw [h]; decide
        rw [Nat.and_mod_two_eq_one] at hh
        omega
      have h2 : (a ||| b) / 2 = a / 2 ||| b / 2 := Nat.or_div_two
      have h3 : ((a ||| b) % 2 = 1) ↔ (a % 2 = 1 ∨ b % 2 = 1) := Nat.or_mod_two_eq_one
      omega
theorem and_add_xor (a b : Nat) : (a &&& b) + (a ^^^ b) = a ||| b := by
  rw [add_disjoint]
  · apply Nat.eq_of_testBit_eq; intro i
    simp only [Nat.testBit_or, Nat.testBit_and, Nat.testBit_xor]
    cases a.testBit i <;> cases b.testBit i <;> rfl
  · apply Nat.eq_of_testBit_eq; intro i
    simp only [Nat.testBit_and, Nat.testBit_xor, Nat.zero_testBit]
    cases a.testBit i <;> cases b.testBit i <;> rfl
theorem vor_eq (w a b : Nat) : vnot w (vand w (vnot w a) (vnot w b)) = vor w a b := by
  apply Nat.eq_of_testBit_eq; intro i
  rw [testBit_vnot]
  unfold vand vor
  simp only [Nat.testBit_mod_two_pow, Nat.testBit_and, Nat.testBit_or, testBit_vnot]
  by_cases h : i < w <;> simp [h]
theorem vxor_eq (w a b : Nat) : vor w a b - vand w a b = vxor w a b := by
  have h := and_add_xor (a % 2 ^ w) (b % 2 ^ w)
  unfold vor vand vxor
  rw [Nat.or_mod_two_pow, Nat.and_mod_two_pow, Nat.xor_mod_two_pow]
  omega
theorem vand_le_vor (w a b : Nat) : vand w a b ≤ vor w a b := by
  have h := and_add_xor (a % 2 ^ w) (b % 2 ^ w)
  unfold vor vand
  rw [Nat.or_mod_two_pow, Nat.and_mod_two_pow]
  omega
theorem two_pow_pred {w : Nat} (h : 1 ≤ w) : 2 ^ w = 2 * 2 ^ (w - 1) := by
  obtain ⟨v, rfl⟩ : ∃ v, w = v + 1 := ⟨w - 1, by omega⟩
  rw [Nat.pow_succ, Nat.add_sub_cancel, Nat.mul_comm]
theorem testBit_top {w x : Nat} (h : 1 ≤ w) : x.testBit (w - 1) = decide (2 ^ (w - 1) ≤ x % 2 ^ w) := by
  have h1 : (x % 2 ^ w).testBit (w - 1) = x.testBit (w - 1) := by
    rw [Nat.testBit_mod_two_pow]; have : w - 1 < w := by omega
    simp [this]
  rw [← h1]
  have hlt := Nat.mod_lt x (pw_pos w)
  have hp := two_pow_pred h
  by_cases hle : 2 ^ (w - 1) ≤ x % 2 ^ w
  · simp only [hle, decide_true]
    apply Nat.testBit_of_two_pow_le_and_two_pow_add_one_gt hle
    have : w - 1 + 1 = w := by omega
    rw [this]; exact hlt
  · simp only [hle, decide_false]
    exact Nat.testBit_lt_two_pow (by omega)
theorem sgn_lo {w x : Nat} (h : 1 ≤ w) : -((2 ^ (w - 1) : Nat) : Int) ≤ sgn w x ∧ sgn w x < ((2 ^ (w - 1) : Nat) : Int) := by
  unfold sgn
  have hp := two_pow_pred h
  have hlt := Nat.mod_lt x (pw_pos w)
  rw [testBit_top h]
  generalize x % 2 ^ w = r at *
  generalize 2 ^ w = P at *
  generalize 2 ^ (w - 1) = H at *
  by_cases hle : H ≤ r
  · simp only [hle, decide_true, if_true]; omega
  · rw [if_neg (by simpa using hle)]; omega
theorem sgn_range {w x : Nat} (h : 1 ≤ w) (h2 : w ≤ 64) : -9223372036854775808 ≤ sgn w x ∧ sgn w x ≤ 9223372036854775807 := by
  have h1 := sgn_lo (x := x) h
  have h3 : 2 ^ (w - 1) ≤ 9223372036854775808 := by rw [← p63]; exact Nat.pow_le_pow_right (by decide) (by omega)
  omega
theorem mask_shr {w : Nat} (h : w ≤ 64) : 18446744073709551615 >>> (64 - w) = vmask w := by
  unfold vmask
  have e : (18446744073709551615 : Nat) = 2 ^ 64 - 1 := by rw [p64]
  apply Nat.eq_of_testBit_eq; intro i
  rw [e, Nat.testBit_shiftRight, Nat.testBit_two_pow_sub_one, Nat.testBit_two_pow_sub_one]
  by_cases hi : i < w
  · have : 64 - w + i < 64 := by omega
    simp [hi, this]
  · have : ¬ 64 - w + i < 64 := by omega
    simp [hi, this]
theorem signed_shifts {w x : Nat} (h1 : 1 ≤ w) (h2 : w ≤ 64) : shr .i64 (wrap64 (((x <<< (64 - w)) % 18446744073709551616 : Nat) : Int)) ((64 - w : Nat) : Int) = sgn w x := by
  have hb : (IntKind.bits .i64) = 64 := rfl
  rw [shr_eq]
  rw [hb, Int.toNat_natCast, Nat.min_eq_left (by omega), Nat.shiftLeft_eq]
  have hP : 2 ^ w * 2 ^ (64 - w) = 18446744073709551616 := by rw [← Nat.pow_add, ← p64]; congr 1; omega
  have hH : 2 ^ (w - 1) * 2 ^ (64 - w) = 9223372036854775808 := by rw [← Nat.pow_add, ← p63]; congr 1; omega
  rw [← hP, Nat.mul_mod_mul_right]
  unfold sgn
  rw [testBit_top h1]
  have hp := two_pow_pred h1
  have hlt := Nat.mod_lt x (pw_pos w)
  have hq := pw_pos (64 - w)
  generalize x % 2 ^ w = r at *
  generalize 2 ^ w = P at *
  generalize 2 ^ (w - 1) = H at *
  rw [pow_cast]
  generalize 2 ^ (64 - w) = q at *
  have hr : r * q < 18446744073709551616 := by rw [← hP]; exact Nat.mul_lt_mul_of_pos_right hlt hq
  by_cases hle : H ≤ r
  · simp only [hle, decide_true, if_true]
    have h3 : 9223372036854775808 ≤ r * q := by rw [← hH]; exact Nat.mul_le_mul_right q hle
    have : wrap64 ((r * q : Nat) : Int) = ((r : Int) - (P : Int)) * (q : Int) := by
      rw [Int.sub_mul, ← Int.natCast_mul, ← Int.natCast_mul, hP]
      unfold wrap64; omega
    rw [this, Int.mul_ediv_cancel _ (by omega)]
  · simp only [hle, decide_false]
    have h3 : r * q < 9223372036854775808 := by rw [← hH]; exact Nat.mul_lt_mul_of_pos_right (by omega) hq
    have : wrap64 ((r * q : Nat) : Int) = (r : Int) * (q : Int) := by
      rw [← Int.natCast_mul]
      unfold wrap64; omega
    rw [this, Int.mul_ediv_cancel _ (by omega)]
    simp
theorem tdiv_nat (m n : Nat) : Int.tdiv (m : Int) (n : Int) = ((m / n : Nat) : Int) := rfl
theorem tmod_nat (m n : Nat) : Int.tmod (m : Int) (n : Int) = ((m % n : Nat) : Int) := rfl
theorem wrapi_pred {w : Nat} (h1 : 1 ≤ w) (h2 : w ≤ 64) : wrap64 ((w : Int) - 1) = ((w - 1 : Nat) : Int) := by unfold wrap64; omega
theorem beq_nat (m n : Nat) : ((m : Int) == (n : Int)) = decide (m = n) := by
  by_cases h : m = n
  · subst h; simp
  · have : ¬ ((m : Int) = (n : Int)) := by omega
    simp [h, this]
theorem pw_dvd64 {w : Nat} (h : w ≤ 64) : 2 ^ w * 2 ^ (64 - w) = 18446744073709551616 := by rw [← Nat.pow_add, ← p64]; congr 1; omega
theorem sub_cut {w : Nat} (hw : w ≤ 64) (x : Nat) {y : Nat} (hy : y < 18446744073709551616) : vcut w ((x + (18446744073709551616 - y)) % 18446744073709551616) = vsub w x y := by
  unfold vcut vsub
  rw [mod64_mod hw]
  have hP := pw_dvd64 hw
  have hd := Nat.div_add_mod y (2 ^ w)
  have hm := Nat.mod_lt y (pw_pos w)
  generalize y / 2 ^ w = c at *
  generalize y % 2 ^ w = r at *
  generalize 2 ^ (64 - w) = q at *
  have hp := pw_pos w
  generalize 2 ^ w = P at *
  have hc : c < q := by
    apply Nat.lt_of_mul_lt_mul_left (a := P)
    omega
  obtain ⟨e, rfl⟩ : ∃ e, q = c + 1 + e := ⟨q - c - 1, by omega⟩
  have h3 : P * (c + 1 + e) = P * c + P + P * e := by rw [Nat.mul_add, Nat.mul_add, Nat.mul_one]
  rw [show x + (18446744073709551616 - y) = (x + (P - r)) + P * e by omega, Nat.add_mul_mod_self_left]
theorem testBit_all (i : Nat) : (18446744073709551615 : Nat).testBit i = decide (i < 64) := by
  have e : (18446744073709551615 : Nat) = 2 ^ 64 - 1 := by rw [p64]
  rw [e, Nat.testBit_two_pow_sub_one]
theorem not_cut {w x : Nat} (hw : w ≤ 64) : vcut w (18446744073709551615 ^^^ x) = vnot w x := by
  apply Nat.eq_of_testBit_eq; intro i
  rw [testBit_vnot]; unfold vcut
  rw [Nat.testBit_mod_two_pow, Nat.testBit_xor, testBit_all]
  by_cases h : i < w
  · have : i < 64 := by omega
    simp [h, this]
  · simp [h]
theorem far_shr (x : Nat) {w n : Nat} (h : w ≤ n) : (x % 2 ^ w) >>> n = 0 := by
  rw [Nat.shiftRight_eq_div_pow]
  exact Nat.div_eq_of_lt (Nat.lt_of_lt_of_le (Nat.mod_lt _ (pw_pos w)) (Nat.pow_le_pow_right (by decide) h))
theorem far_shl (x : Nat) {w n : Nat} (h : w ≤ n) : (x <<< n) % 2 ^ w = 0 := by
  obtain ⟨d, rfl⟩ : ∃ d, n = w + d := ⟨n - w, by omega⟩
  rw [Nat.shiftLeft_eq, Nat.pow_add, Nat.mul_left_comm, Nat.mul_mod_right]
theorem sgn_cut {w : Nat} (h : 1 ≤ w) (x : Nat) : sgn w (vcut w x) = sgn w x := by
  unfold sgn vcut
  rw [testBit_top h, testBit_top h, Nat.mod_mod]
theorem sgn_neg {w x : Nat} (h : 1 ≤ w) : sgn w x < 0 ↔ x.testBit (w - 1) = true := by
  have h5 := Nat.mod_lt x (pw_pos w)
  unfold sgn
  by_cases ht : x.testBit (w - 1)
  · rw [if_pos ht]; simp only [ht, iff_true]; omega
  · rw [if_neg ht]; simp only [ht]; simp; omega
theorem far_sub {w n : Nat} (x : Nat) (h : w ≤ n) : 2 ^ w - 1 - ((2 ^ w - 1 - x % 2 ^ w) >>> n) = vmask w := by
  have : (2 ^ w - 1 - x % 2 ^ w) >>> n = 0 := by
    rw [Nat.shiftRight_eq_div_pow]
    exact Nat.div_eq_of_lt (Nat.lt_of_lt_of_le (sub_lt_pw w _) (Nat.pow_le_pow_right (by decide) h))
  rw [this]; rfl
theorem signed_shr {w x n : Nat} (h1 : 1 ≤ w) (h2 : w ≤ 64) (ht : x.testBit (w - 1) = true) (hn : n < 64) : IntKind.u64.wrap (shr .i64 (sgn w x) (n : Int)) = ((18446744073709551615 - ((2 ^ w - 1 - x % 2 ^ w) >>> n) : Nat) : Int) := by
  have hb : (IntKind.bits .i64) = 64 := rfl
  have hlt := Nat.mod_lt x (pw_pos w)
  have h7 := pw_le h2
  rw [shr_eq]; unfold sgn
  rw [if_pos ht, hb, Int.toNat_natCast, Nat.min_eq_left (by omega), Nat.shiftRight_eq_div_pow]
  have hle := Nat.div_le_self (2 ^ w - 1 - x % 2 ^ w) (2 ^ n)
  generalize x % 2 ^ w = r at *
  generalize 2 ^ w = P at *
  have hq := pw_pos n
  rw [pow_cast]
  generalize 2 ^ n = q at *
  have e3 : (r : Int) - (P : Int) = -((P - 1 - r : Nat) : Int) - 1 := by omega
  have hm := Nat.div_add_mod (P - 1 - r) q
  have hml := Nat.mod_lt (P - 1 - r) hq
  generalize P - 1 - r = s at *
  generalize s / q = t at *
  generalize s % q = u at *
  have e4 : (r : Int) - (P : Int) = (q : Int) * (-(t : Int) - 1) + ((q - 1 - u : Nat) : Int) := by
    rw [e3, ← hm, Int.mul_sub, Int.mul_neg]
    rw [← Int.natCast_mul]; omega
  rw [e4, Int.mul_add_ediv_left _ _ (by omega), Int.ediv_eq_zero_of_lt (by omega) (by omega), wrapu]
  omega
theorem signed_shr_cut {w : Nat} (hw : w ≤ 64) {x n : Nat} : vcut w (18446744073709551615 - ((2 ^ w - 1 - x % 2 ^ w) >>> n)) = 2 ^ w - 1 - ((2 ^ w - 1 - x % 2 ^ w) >>> n) := by
  have hle := shr_le (2 ^ w - 1 - x % 2 ^ w) n
  have hs := sub_lt_pw w (x % 2 ^ w)
  generalize (2 ^ w - 1 - x % 2 ^ w) >>> n = t at *
  have hP := pw_dvd64 hw
  have hq := pw_pos (64 - w)
  unfold vcut
  generalize 2 ^ (64 - w) = q at *
  generalize 2 ^ w = P at *
  obtain ⟨e, rfl⟩ : ∃ e, q = e + 1 := ⟨q - 1, by omega⟩
  rw [Nat.mul_add, Nat.mul_one] at hP
  rw [show 18446744073709551615 - t = P * e + (P - 1 - t) by omega, Nat.mul_add_mod, Nat.mod_eq_of_lt (by omega)]
def s64 (v x : Nat) : Nat := if x.testBit (v - 1) then x % 2 ^ v + (18446744073709551616 - 2 ^ v) else x % 2 ^ v
theorem s64_lt {v : Nat} (h : v ≤ 64) (x : Nat) : s64 v x < 18446744073709551616 := by
  have := pw_le h
  have := Nat.mod_lt x (pw_pos v)
  unfold s64; split <;> omega
theorem sgn_wrap {v x : Nat} (h1 : 1 ≤ v) (h2 : v ≤ 64) : IntKind.u64.wrap (sgn v x) = (s64 v x : Int) := by
  have := pw_le h2
  have := Nat.mod_lt x (pw_pos v)
  rw [wrapu]; unfold sgn s64; split <;> omega
theorem testBit_s64 {v x i : Nat} (h1 : 1 ≤ v) (h2 : v ≤ 64) (hi : i < 64) : (s64 v x).testBit i = x.testBit (min i (v - 1)) := by
  have hlt := Nat.mod_lt x (pw_pos v)
  unfold s64
  by_cases ht : x.testBit (v - 1)
  · rw [if_pos ht]
    have hP := pw_dvd64 h2
    have hq := pw_pos (64 - v)
    have e : x % 2 ^ v + (18446744073709551616 - 2 ^ v) = 2 ^ v * (2 ^ (64 - v) - 1) + x % 2 ^ v := by
      rw [Nat.mul_sub, Nat.mul_one, hP]; omega
    rw [e, Nat.testBit_two_pow_mul_add _ hlt]
    by_cases hv : i < v
    · rw [if_pos hv, Nat.testBit_mod_two_pow, Nat.min_eq_left (by omega)]; simp [hv]
    · rw [if_neg hv, Nat.testBit_two_pow_sub_one, Nat.min_eq_right (by omega), ht]
      simp; omega
  · rw [if_neg ht, Nat.testBit_mod_two_pow]
    have ht' : x.testBit (v - 1) = false := by simpa using ht
    by_cases hv : i < v
    · rw [Nat.min_eq_left (by omega)]; simp [hv]
    · rw [Nat.min_eq_right (by omega), ht']; simp [hv]
theorem s64_cut {v w x : Nat} (h1 : 1 ≤ v) (h2 : v ≤ 64) (hw : w ≤ 64) : vcut w (s64 v x) = vsext v w x := by
  unfold vsext vcut
  symm
  apply bld_eq (Nat.mod_lt _ (pw_pos w))
  intro i hi
  rw [Nat.testBit_mod_two_pow, testBit_s64 h1 h2 (by omega)]; simp [hi]
theorem mask_step {i : Nat} (hi : i < 64) : IntKind.u64.wrap (IntKind.u64.wrap ((vmask i : Int) * 2) + 1) = (vmask (i + 1) : Int) := by
  have h := pw_le (w := i + 1) (by omega)
  have hp : 2 ^ (i + 1) = 2 * 2 ^ i := by rw [Nat.pow_succ, Nat.mul_comm]
  have := pw_pos i
  unfold vmask
  rw [wrapu, wrapu, hp]
  rw [hp] at h
  omega
theorem toNat_le (b : Bool) : b.toNat ≤ 1 := by cases b <;> decide
theorem mod_succ (x i : Nat) : x % 2 ^ (i + 1) = x % 2 ^ i + (x.testBit i).toNat * 2 ^ i := by
  rw [Nat.mod_pow_succ, Nat.toNat_testBit, Nat.mul_comm]
theorem div_succ (x n : Nat) : x / 2 ^ n = 2 * (x / 2 ^ (n + 1)) + (x.testBit n).toNat := by
  rw [Nat.toNat_testBit, Nat.pow_succ, ← Nat.div_div_eq_div_mul]
  have := Nat.div_add_mod (x / 2 ^ n) 2
  omega
theorem put_bit {z i b : Nat} (hz : z < 2 ^ i) (hb : b ≤ 1) (hi : i < 64) : Go.bits .or .u64 (z : Int) (shl .u64 (b : Int) (i : Int)) = ((z + b * 2 ^ i : Nat) : Int) := by
  have h2 : 2 ^ (i + 1) ≤ 18446744073709551616 := pw_le (by omega)
  have hp : 2 ^ (i + 1) = 2 * 2 ^ i := by rw [Nat.pow_succ, Nat.mul_comm]
  have hbi : b * 2 ^ i ≤ 2 ^ i := by have := Nat.mul_le_mul_right (2 ^ i) hb; omega
  rw [shl64, Nat.shiftLeft_eq, Nat.mod_eq_of_lt (by have := pw_pos i; omega), or64 (by omega) (by have := pw_pos i; omega)]
  congr 1
  have := Nat.two_pow_add_eq_or_of_lt hz b
  rw [Nat.or_comm, Nat.mul_comm b, ← this, Nat.add_comm]
def shf (w x : Nat) (by_ : Int) (fill : Bool) (i : Nat) : Bool := if (i : Int) + by_ < (w : Int) then (if 0 ≤ (i : Int) + by_ then x.testBit ((i : Int) + by_).toNat else false) else fill
theorem shf_shl {w : Nat} (hw : w ≤ 64) (x y : Nat) : bld (shf w x (-((min (y % 2 ^ w) 64 : Nat) : Int)) false) w = vshl w x y := by
  unfold vshl
  apply bld_eq (Nat.mod_lt _ (pw_pos w))
  intro i hi
  rw [Nat.testBit_mod_two_pow, Nat.testBit_shiftLeft]
  generalize y % 2 ^ w = n
  unfold shf
  rw [if_pos (by omega)]
  by_cases h : n ≤ i
  · rw [if_pos (by omega)]
    have : ((i : Int) + -((min n 64 : Nat) : Int)).toNat = i - n := by omega
    rw [this]; simp [hi, h]
  · rw [if_neg (by omega)]; simp [h]
theorem shf_lshr {w : Nat} (hw : w ≤ 64) (x y : Nat) : bld (shf w x ((min (y % 2 ^ w) 64 : Nat) : Int) false) w = vlshr w x y := by
  unfold vlshr
  have hlt : (x % 2 ^ w) >>> (y % 2 ^ w) < 2 ^ w := Nat.lt_of_le_of_lt (shr_le _ _) (Nat.mod_lt _ (pw_pos w))
  apply bld_eq hlt
  intro i hi
  rw [Nat.testBit_shiftRight, Nat.testBit_mod_two_pow]
  generalize y % 2 ^ w = n
  unfold shf
  by_cases h : n + i < w
  · rw [if_pos (by omega), if_pos (by omega)]
    have : ((i : Int) + ((min n 64 : Nat) : Int)).toNat = n + i := by omega
    rw [this]; simp [h]
  · rw [if_neg (by omega)]; simp [h]
theorem shf_ashr {w : Nat} (hw : w ≤ 64) (x y : Nat) : bld (shf w x ((min (y % 2 ^ w) 64 : Nat) : Int) (x.testBit (w - 1))) w = vashr w x y := by
  have hlt := Nat.mod_lt x (pw_pos w)
  unfold vashr
  by_cases ht : x.testBit (w - 1)
  · rw [if_pos ht]
    have hs := sub_lt_pw w (x % 2 ^ w)
    have hle := shr_le (2 ^ w - 1 - x % 2 ^ w) (y % 2 ^ w)
    have hu : (2 ^ w - 1 - x % 2 ^ w) >>> (y % 2 ^ w) < 2 ^ w := by omega
    apply bld_eq (by generalize (2 ^ w - 1 - x % 2 ^ w) >>> (y % 2 ^ w) = t at *; omega)
    intro i hi
    have e1 : 2 ^ w - 1 - (2 ^ w - 1 - x % 2 ^ w) >>> (y % 2 ^ w) = 2 ^ w - ((2 ^ w - 1 - x % 2 ^ w) >>> (y % 2 ^ w) + 1) := by
      generalize (2 ^ w - 1 - x % 2 ^ w) >>> (y % 2 ^ w) = t
      omega
    have e2 : 2 ^ w - 1 - x % 2 ^ w = vnot w x := rfl
    rw [e1, Nat.testBit_two_pow_sub_succ hu, e2, Nat.testBit_shiftRight, testBit_vnot]
    generalize y % 2 ^ w = n
    unfold shf
    by_cases h : n + i < w
    · rw [if_pos (by omega), if_pos (by omega)]
      have : ((i : Int) + ((min n 64 : Nat) : Int)).toNat = n + i := by omega
      rw [this]; simp [h, hi]
    · rw [if_neg (by omega), ht]; simp [h, hi]
  · have ht' : x.testBit (w - 1) = false := by simpa using ht
    rw [if_neg ht, ht', shf_lshr hw]; rfl
theorem testBit_vconcat (v w a b i : Nat) : (vconcat v w a b).testBit i = ((decide (i < 64) && (decide (w ≤ i) && (decide (i - w < v) && a.testBit (i - w)))) || (decide (i < w) && b.testBit i)) := by
  unfold vconcat
  simp only [Nat.testBit_or, Nat.testBit_mod_two_pow, Nat.testBit_shiftLeft, ge_iff_le]
theorem concat_zero (w a b : Nat) : vconcat 0 w a b = vcut w b := by
  unfold vconcat vcut
  simp [Nat.mod_one]
theorem concat_over {i w a b : Nat} (h : 64 ≤ i + w) : vconcat (i + 1) w a b = vconcat i w a b := by
  apply Nat.eq_of_testBit_eq; intro j
  rw [testBit_vconcat, testBit_vconcat]
  by_cases h1 : j < 64
  · by_cases h2 : w ≤ j
    · have e : decide (j - w < i + 1) = decide (j - w < i) := by simp; omega
      rw [e]
    · simp [h2]
  · simp [h1]
theorem concat_step {i w a b : Nat} (hw : w ≤ 64) (h : i + w < 64) : Go.bits .or .u64 (vconcat i w a b : Int) (shl .u64 ((a.testBit i).toNat : Int) ((i + w : Nat) : Int)) = (vconcat (i + 1) w a b : Int) := by
  have h1 : ((a.testBit i).toNat <<< (i + w)) < 2 ^ 64 := Nat.lt_pow_two_of_testBit _ (fun j hj => by rw [testBit_toNat_shl]; simp; omega)
  rw [shl64, Nat.mod_eq_of_lt (by rw [← p64]; exact h1), or64 (vconcat_lt a b hw) (by rw [← p64]; exact h1)]
  congr 1
  apply Nat.eq_of_testBit_eq; intro j
  rw [Nat.testBit_or, testBit_toNat_shl, testBit_vconcat, testBit_vconcat]
  by_cases e : i + w = j
  · subst e
    have e1 : i + w - w = i := by omega
    have e2 : ¬ i + w < w := by omega
    simp [h, e1, e2]
  · by_cases h2 : w ≤ j
    · have e3 : decide (j - w < i + 1) = decide (j - w < i) := by simp; omega
      rw [e3]; simp [e]
    · simp [h2, e]
theorem extract_far {x low w : Nat} (hx : x < 18446744073709551616) (h : 64 ≤ low) : vextract low w x = 0 := by
  unfold vextract
  rw [Nat.shiftRight_eq_div_pow, Nat.div_eq_of_lt (Nat.lt_of_lt_of_le (lt_pw hx) (Nat.pow_le_pow_right (by decide) h)), Nat.zero_mod]
theorem bld_extract (low w x : Nat) : bld (fun j => x.testBit (low + j)) w = vextract low w x := by
  unfold vextract
  apply bld_eq (Nat.mod_lt _ (pw_pos w))
  intro i hi
  rw [Nat.testBit_mod_two_pow, Nat.testBit_shiftRight]; simp [hi]
end Go.Proofs.YtcihbcffokjgjaaGreat.Bv
namespace Go.Proofs.YtcihbcffokjgjaaGreat.Fn
open Go Go.RowKit Go.Proofs.YtcihbcffokjgjaaGreat.Ev Go.Proofs.YtcihbcffokjgjaaGreat.Bv
set_option linter.unusedVariables false
set_option linter.unusedSimpArgs false
theorem bifd_pos {α : Type} {p : Prop} [Decidable p] (h : p) {a b : α} : (bif decide p then a else b) = a := by simp [h]
theorem bifd_neg {α : Type} {p : Prop} [Decidable p] (h : ¬p) {a b : α} : (bif decide p then a else b) = b := by simp [h]
theorem bits_clamp_eq (a : Int) : bits_clamp.f a = some (W a : Int) := by unfold bits_clamp.f; rw [W_int]
theorem saturateref01_W_eq (a : Int) : saturateref01_W.f a = some (W a : Int) := by unfold saturateref01_W.f; rw [W_int]
theorem bits_Mask_eq (a : Int) : bits_Mask.f a = some (vmask (W a) : Int) := by
  unfold bits_Mask.f; rw [bits_clamp_eq]; simp only [Option.bind_some]
  rw [wrapi, wrapi_64, bifd_neg (by omega), show (18446744073709551615 : Int) = ((18446744073709551615 : Nat) : Int) from rfl, shr64 (by decide), mask_shr (W_le a)]
theorem bits_Cut_eq (a : Int) {x : Nat} (hx : x < 18446744073709551616) : bits_Cut.f a x = some (vcut (W a) x : Int) := by
  unfold bits_Cut.f; rw [bits_Mask_eq]; simp only [Option.bind_some]
  rw [and64 hx (vmask_lt (W_le a))]; unfold vmask vcut; rw [and_mask]
theorem saturateref01_Bit_eq {x : Nat} (hx : x < 18446744073709551616) (i : Nat) : saturateref01_Bit.f x i = some ((x.testBit i).toNat : Int) := by
  unfold saturateref01_Bit.f
  rw [bifd_neg (by omega)]
  by_cases h : 63 < i
  · rw [bifd_pos (by omega), testBit_ge (lt_pw hx) (by omega)]; rfl
  · rw [bifd_neg (by omega), wrapu_of (by omega), bifd_neg (by omega), shr64 hx, show (1 : Int) = ((1 : Nat) : Int) from rfl, and64 (Nat.lt_of_le_of_lt (shr_le _ _) hx) (by decide)]
    rw [Nat.and_one_is_mod, Nat.toNat_testBit, Nat.shiftRight_eq_div_pow]
theorem saturateref01_Bit_neg {i : Int} (h : i < 0) (x : Int) : saturateref01_Bit.f x i = some 0 := by
  unfold saturateref01_Bit.f; rw [bifd_pos h]
theorem saturateref01_Mask_j3 (fu d : Nat) : ∀ (k i w : Nat), w ≤ 64 → w - i = d → i ≤ w → d < k → saturateref01_Mask.j3 fu k (vmask i : Int) w i = some (vmask w : Int) := by
  induction d with
  | zero =>
    intro k i w hw hd hi hk
    obtain ⟨k, rfl⟩ : ∃ m, k = m + 1 := ⟨k - 1, by omega⟩
    obtain rfl : i = w := by omega
    rw [saturateref01_Mask.j3_succ, bifd_neg (by omega)]
  | succ d ih =>
    intro k i w hw hd hi hk
    obtain ⟨k, rfl⟩ : ∃ m, k = m + 1 := ⟨k - 1, by omega⟩
    rw [saturateref01_Mask.j3_succ, bifd_pos (by omega), wrapi, wrapi_succ (by omega), mask_step (by omega)]
    exact ih k (i + 1) w hw (by omega) (by omega) (by omega)
theorem saturateref01_Mask_eq (a : Int) : saturateref01_Mask.f a = some (vmask (W a) : Int) := by
  unfold saturateref01_Mask.f saturateref01_Mask.g; rw [saturateref01_W_eq]; simp only [Option.bind_some]
  have := W_le a
  exact saturateref01_Mask_j3 (fuel0 + 1) (W a) (fuel0 + 1) 0 (W a) (W_le a) (by omega) (by omega) (by unfold fuel0; omega)
theorem saturateref01_Cut_j3 (fu : Nat) {x : Nat} (hx : x < 18446744073709551616) (d : Nat) : ∀ (k i w : Nat), w ≤ 64 → w - i = d → i ≤ w → d < k → saturateref01_Cut.j3 fu k x (bld x.testBit i : Int) w i = some (bld x.testBit w : Int) := by
  induction d with
  | zero =>
    intro k i w hw hd hi hk
    obtain ⟨k, rfl⟩ : ∃ m, k = m + 1 := ⟨k - 1, by omega⟩
    obtain rfl : i = w := by omega
    rw [saturateref01_Cut.j3_succ, bifd_neg (by omega)]
  | succ d ih =>
    intro k i w hw hd hi hk
    obtain ⟨k, rfl⟩ : ∃ m, k = m + 1 := ⟨k - 1, by omega⟩
    rw [saturateref01_Cut.j3_succ, bifd_pos (by omega), saturateref01_Bit_eq hx, wrapu_of (by omega)]; simp only [Option.bind_some]
    rw [bifd_neg (by omega), wrapi, wrapi_succ (by omega), bld_step x.testBit (by omega)]
    exact ih k (i + 1) w hw (by omega) (by omega) (by omega)
theorem saturateref01_Cut_eq (a : Int) {x : Nat} (hx : x < 18446744073709551616) : saturateref01_Cut.f a x = some (vcut (W a) x : Int) := by
  unfold saturateref01_Cut.f saturateref01_Cut.g; rw [saturateref01_W_eq]; simp only [Option.bind_some]
  have h := saturateref01_Cut_j3 (fuel0 + 1) hx (W a) (fuel0 + 1) 0 (W a) (W_le a) (by omega) (by omega) (by have := W_le a; unfold fuel0; omega)
  rw [bld_eq (Nat.mod_lt x (pw_pos (W a))) (fun i hi => by rw [Nat.testBit_mod_two_pow]; simp [hi])] at h
  exact h
end Go.Proofs.YtcihbcffokjgjaaGreat.Fn
namespace Go.Proofs.YtcihbcffokjgjaaGreat.Fn
open Go Go.RowKit Go.Proofs.YtcihbcffokjgjaaGreat.Ev Go.Proofs.YtcihbcffokjgjaaGreat.Bv
set_option linter.unusedVariables false
set_option linter.unusedSimpArgs false
set_option maxRecDepth 100000
mutual
def szT : Tm → Nat
  | .mk _ _ _ _ kids => szL kids + 1
def szL : List Tm → Nat
  | [] => 0
  | t :: l => szT t + szL l
end
mutual
def dpT : Tm → Nat
  | .mk _ _ _ _ kids => dpL kids + 1
def dpL : List Tm → Nat
  | [] => 0
  | t :: l => max (dpT t) (dpL l)
end
theorem Tm.eta' (t : Tm) : Tm.mk t.op t.width t.val t.name t.kids = t := by cases t; rfl
theorem szT_eq (t : Tm) : szT t = szL t.kids + 1 := by cases t; unfold szT; rfl
theorem dpT_eq (t : Tm) : dpT t = dpL t.kids + 1 := by cases t; unfold dpT; rfl
theorem szL_cons (t : Tm) (l : List Tm) : szL (t :: l) = szT t + szL l := by rw [szL]
theorem dpL_cons (t : Tm) (l : List Tm) : dpL (t :: l) = max (dpT t) (dpL l) := by rw [dpL]
theorem szL_nil : szL [] = 0 := by unfold szL; rfl
theorem dpL_nil : dpL [] = 0 := by unfold dpL; rfl
theorem szL_len : ∀ l : List Tm, l.length ≤ szL l
  | [] => Nat.zero_le _
  | t :: l => by have := szL_len l; have := szT_eq t; rw [szL_cons, List.length_cons]; omega
theorem szL_mem : ∀ {l : List Tm} {i : Nat} {t : Tm}, l[i]? = some t → szT t ≤ szL l ∧ dpT t ≤ dpL l
  | [], i, t, h => by simp at h
  | u :: l, 0, t, h => by simp at h; subst h; rw [szL_cons, dpL_cons]; omega
  | u :: l, i + 1, t, h => by have := szL_mem (l := l) (by simpa using h); rw [szL_cons, dpL_cons]; omega
theorem wfT_kids {t : Tm} (h : wfT t) : t.kids.length ≤ maxLen ∧ wfL t.kids := by cases t; unfold wfT at h; exact ⟨h.2.2.2.2.1, h.2.2.2.2.2⟩
theorem wfT_nums {t : Tm} (h : wfT t) : (Lit.int .i64 t.op).wf = true ∧ (Lit.int .i64 t.width).wf = true ∧ (Lit.int .u64 t.val).wf = true ∧ t.name.size ≤ maxLen := by cases t; unfold wfT at h; exact ⟨h.1, h.2.1, h.2.2.1, h.2.2.2.1⟩
theorem maxLen_is : maxLen = 9223372036854775807 := rfl
theorem drop_cons {α : Type} {K : List α} {i : Nat} {t : α} {ks : List α} (h : K.drop i = t :: ks) : i < K.length ∧ K[i]? = some t ∧ K.drop (i + 1) = ks := by
  have h1 : i < K.length := by
    rcases Nat.lt_or_ge i K.length with c | c
    · exact c
    · rw [List.drop_eq_nil_of_le c] at h; cases h
  have h2 : K[i]? = some t := by
    have : (K.drop i)[0]? = some t := by rw [h]; rfl
    rwa [List.getElem?_drop, Nat.add_zero] at this
  refine ⟨h1, h2, ?_⟩
  rw [← List.drop_drop, h]; rfl
theorem drop_nil {α : Type} {K : List α} {i : Nat} (h : K.drop i = []) (hi : i ≤ K.length) : i = K.length := by
  have : (K.drop i).length = 0 := by rw [h]; rfl
  rw [List.length_drop] at this
  omega
def cntS (t : Tm) (d l : Int) : Int := if (dpT t : Int) ≤ d ∧ (szT t : Int) ≤ l then l - szT t else -1
def cntL : List Tm → Int → Int → Int
  | [], d, l => l
  | t :: ks, d, l => if 0 ≤ l then cntL ks d (cntS t d l) else l
theorem cntS_ge (t : Tm) (d l : Int) : -1 ≤ cntS t d l := by unfold cntS; split <;> omega
theorem cntS_le (t : Tm) (d l : Int) (h : -1 ≤ l) : cntS t d l ≤ l := by unfold cntS; split <;> omega
theorem cntL_neg : ∀ (ks : List Tm) (d : Int), cntL ks d (-1) = -1
  | [], d => rfl
  | t :: ks, d => by unfold cntL; rw [if_neg (by decide)]
theorem cntL_eq : ∀ (ks : List Tm) (d l : Int), 0 ≤ d → 0 ≤ l → cntL ks d l = if (dpL ks : Int) ≤ d ∧ (szL ks : Int) ≤ l then l - szL ks else -1
  | [], d, l, hd, hl => by unfold cntL; rw [dpL_nil, szL_nil, if_pos (by omega)]; simp
  | t :: ks, d, l, hd, hl => by
    unfold cntL
    rw [if_pos hl, dpL_cons, szL_cons]
    unfold cntS
    by_cases h : (dpT t : Int) ≤ d ∧ (szT t : Int) ≤ l
    · rw [if_pos h, cntL_eq ks d _ hd (by omega)]
      by_cases h2 : (dpL ks : Int) ≤ d ∧ (szL ks : Int) ≤ l - szT t
      · rw [if_pos h2, if_pos (by omega)]; omega
      · rw [if_neg h2, if_neg (by omega)]
    · rw [if_neg h, cntL_neg, if_neg (by omega)]
theorem count_j5 (rec : Tm × Int × Int × Unit → Option Int) (hrec) (fu : Nat) {d : Int} (h1 : 1 ≤ d) (h2 : d ≤ 100) (K : List Tm) (hK : K.length ≤ maxLen) (hr : ∀ (i : Nat) t, K[i]? = some t → ∀ l : Int, -1 ≤ l → l ≤ 5000 → rec (t, d - 1, l, ()) = some (cntS t (d - 1) l)) (c0 c1 c2 : Int) (c3 : ByteArray) :
    ∀ (ks : List Tm) (i k : Nat) (l : Int), K.drop i = ks → i ≤ K.length → ks.length < k → -1 ≤ l → l ≤ 5000 → saturateref06_count.j5 rec hrec (fu + 1) k d l (i : Int) c0 c1 c2 c3 K = some (cntL ks (d - 1) l)
  | [], i, k, l, hd, hi, hk, l1, l2 => by
    obtain ⟨k, rfl⟩ : ∃ m, k = m + 1 := ⟨k - 1, by omega⟩
    obtain rfl := drop_nil hd hi
    rw [saturateref06_count.j5_succ, bifd_neg (by omega), saturateref06_count.p8_eq]; rfl
  | t :: ks, i, k, l, hd, hi, hk, l1, l2 => by
    obtain ⟨k, rfl⟩ : ∃ m, k = m + 1 := ⟨k - 1, by rw [List.length_cons] at hk; omega⟩
    obtain ⟨h3, h4, h5⟩ := drop_cons hd
    rw [maxLen_is] at hK
    rw [saturateref06_count.j5_succ, bifd_pos (by omega)]
    unfold cntL
    by_cases hl : 0 ≤ l
    · rw [bifd_pos hl, bifd_pos (by omega), bifd_pos (by omega), Int.toNat_natCast, h4, Option.bind_some, Tm.eta', wrapi, wrapi_of (by omega) (by omega), hr i t h4 l l1 l2, Option.bind_some, wrapi, wrapi_succ (by omega), if_pos hl]
      exact count_j5 rec hrec fu h1 h2 K (by rw [maxLen_is]; omega) hr c0 c1 c2 c3 ks (i + 1) k _ h5 (by omega) (by rw [List.length_cons] at hk; omega) (cntS_ge _ _ _) (by have := cntS_le t (d - 1) l l1; omega)
    · rw [bifd_neg hl, saturateref06_count.p8_eq, if_neg hl]
theorem count_FC : ∀ (n : Nat) (t : Tm) (d l : Int), wfT t → 0 ≤ d → d < n → d ≤ 100 → -1 ≤ l → l ≤ 5000 → (saturateref06_count.FC n).1 (t, d, l, ()) = some (cntS t d l) := by
  intro n
  induction n with
  | zero =>
    intro t d l hw hd0 hd hd2 l1 l2
    omega
  | succ n ih =>
    intro t d l hw hd0 hd hd2 l1 l2
    show saturateref06_count.g (saturateref06_count.FC n).1 (saturateref06_count.FC n).2 (fuel0 + 1) t d l = _
    have hf : 9223372036854775807 < fuel0 + 1 := by unfold fuel0; omega
    generalize fuel0 = fu at hf
    unfold saturateref06_count.g
    have := szT_eq t
    have := dpT_eq t
    by_cases h1 : d < 1
    · rw [bifd_pos h1]; unfold cntS; rw [if_neg (by omega)]
    · rw [bifd_neg h1]
      by_cases h2 : l < 1
      · rw [bifd_pos h2]; unfold cntS; rw [if_neg (by omega)]
      · obtain ⟨k1, k2⟩ := wfT_kids hw
        rw [bifd_neg h2, wrapi, wrapi_of (by omega) (by omega)]
        have := count_j5 (saturateref06_count.FC n).1 (saturateref06_count.FC n).2 fu (d := d) (by omega) hd2 t.kids k1 (fun i u hu m m1 m2 => ih u (d - 1) m (wfL_get k2 i u hu) (by omega) (by omega) (by omega) m1 m2) t.op t.width t.val t.name t.kids 0 (fu + 1) (l - 1) rfl (Nat.zero_le _) (by rw [maxLen_is] at k1; omega) (by omega) (by omega)
        rw [show ((0 : Nat) : Int) = 0 from rfl] at this
        rw [this, cntL_eq _ _ _ (by omega) (by omega)]
        unfold cntS
        by_cases h3 : (dpL t.kids : Int) ≤ d - 1 ∧ (szL t.kids : Int) ≤ l - 1
        · rw [if_pos h3, if_pos (by omega)]; congr 1; omega
        · rw [if_neg h3, if_neg (by omega)]
theorem count_eq {t : Tm} (hw : wfT t) {d l : Int} (hd : 0 ≤ d) (hd2 : d ≤ 100) (l1 : -1 ≤ l) (l2 : l ≤ 5000) : saturateref06_count.f t d l = some (cntS t d l) := by
  unfold saturateref06_count.f
  exact count_FC deep0 t d l hw hd (by unfold deep0; omega) hd2 l1 l2
def msS (t : Tm) (l d : Int) : Int × Bool := if (dpT t : Int) ≤ d ∧ (szT t : Int) ≤ l then (l - szT t, true) else (0, false)
def msL : List Tm → Int → Int → Int × Bool
  | [], l, d => (l, true)
  | t :: ks, l, d => if (dpT t : Int) ≤ d ∧ (szT t : Int) ≤ l then msL ks (l - szT t) d else (0, false)
theorem msL_eq : ∀ (ks : List Tm) (l d : Int), 0 ≤ d → 0 ≤ l → msL ks l d = if (dpL ks : Int) ≤ d ∧ (szL ks : Int) ≤ l then (l - szL ks, true) else (0, false)
  | [], l, d, hd, hl => by unfold msL; rw [dpL_nil, szL_nil, if_pos (by omega)]; simp
  | t :: ks, l, d, hd, hl => by
    unfold msL
    rw [dpL_cons, szL_cons]
    by_cases h : (dpT t : Int) ≤ d ∧ (szT t : Int) ≤ l
    · rw [if_pos h, msL_eq ks _ d hd (by omega)]
      by_cases h2 : (dpL ks : Int) ≤ d ∧ (szL ks : Int) ≤ l - szT t
      · rw [if_pos h2, if_pos (by omega)]; congr 1; omega
      · rw [if_neg h2, if_neg (by omega)]
    · rw [if_neg h, if_neg (by omega)]
theorem measure_j5 (rec : Tm × Int × Int × Unit → Option (Int × Bool)) (hrec) (fu : Nat) {d : Int} (h1 : 1 ≤ d) (h2 : d ≤ 100) (K : List Tm) (hK : K.length ≤ maxLen) (hr : ∀ (i : Nat) t, K[i]? = some t → ∀ l : Int, 0 ≤ l → l ≤ 5000 → rec (t, l, d - 1, ()) = some (msS t l (d - 1))) :
    ∀ (ks : List Tm) (i k : Nat) (l : Int), K.drop i = ks → i ≤ K.length → ks.length < k → 0 ≤ l → l ≤ 5000 → term_measure.j5 rec hrec fu k l d K (K.length : Int) (i : Int) = some (msL ks l (d - 1))
  | [], i, k, l, hd, hi, hk, l1, l2 => by
    obtain ⟨k, rfl⟩ : ∃ m, k = m + 1 := ⟨k - 1, by omega⟩
    obtain rfl := drop_nil hd hi
    rw [term_measure.j5_succ, bifd_neg (by omega)]; rfl
  | t :: ks, i, k, l, hd, hi, hk, l1, l2 => by
    obtain ⟨k, rfl⟩ : ∃ m, k = m + 1 := ⟨k - 1, by rw [List.length_cons] at hk; omega⟩
    obtain ⟨h3, h4, h5⟩ := drop_cons hd
    rw [maxLen_is] at hK
    rw [term_measure.j5_succ, bifd_pos (by omega), bifd_pos (by omega), bifd_pos (by omega), Int.toNat_natCast, h4, Option.bind_some, Tm.eta', wrapi, wrapi_of (by omega) (by omega), hr i t h4 l l1 l2, Option.bind_some]
    unfold msL msS
    by_cases hl : (dpT t : Int) ≤ d - 1 ∧ (szT t : Int) ≤ l
    · rw [if_pos hl, if_pos hl]
      simp only [Bool.not_true]
      rw [cond_false, wrapi, wrapi_succ (by omega)]
      exact measure_j5 rec hrec fu h1 h2 K (by rw [maxLen_is]; omega) hr ks (i + 1) k _ h5 (by omega) (by rw [List.length_cons] at hk; omega) (by omega) (by omega)
    · rw [if_neg hl, if_neg hl]; rfl
theorem measure_FC : ∀ (n : Nat) (t : Tm) (l d : Int), wfT t → 0 ≤ d → d < n → d ≤ 100 → 0 ≤ l → l ≤ 5000 → (term_measure.FC n).1 (t, l, d, ()) = some (msS t l d) := by
  intro n
  induction n with
  | zero =>
    intro t l d hw hd0 hd hd2 l1 l2
    omega
  | succ n ih =>
    intro t l d hw hd0 hd hd2 l1 l2
    show term_measure.g (term_measure.FC n).1 (term_measure.FC n).2 (fuel0 + 1) t l d = _
    have hf : 9223372036854775807 < fuel0 + 1 := by unfold fuel0; omega
    generalize fuel0 = fu at hf
    unfold term_measure.g
    have := szT_eq t
    have := dpT_eq t
    by_cases h1 : l < 1
    · rw [bifd_pos h1]; unfold msS; rw [if_neg (by omega)]
    · rw [bifd_neg h1]
      by_cases h2 : d < 1
      · rw [bifd_pos h2]; unfold msS; rw [if_neg (by omega)]
      · obtain ⟨k1, k2⟩ := wfT_kids hw
        rw [bifd_neg h2, wrapi, wrapi_of (by omega) (by omega)]
        have := measure_j5 (term_measure.FC n).1 (term_measure.FC n).2 (fu + 1) (d := d) (by omega) hd2 t.kids k1 (fun i u hu m m1 m2 => ih u m (d - 1) (wfL_get k2 i u hu) (by omega) (by omega) (by omega) m1 m2) t.kids 0 (fu + 1) (l - 1) rfl (Nat.zero_le _) (by rw [maxLen_is] at k1; omega) (by omega) (by omega)
        rw [show ((0 : Nat) : Int) = 0 from rfl] at this
        rw [this, msL_eq _ _ _ (by omega) (by omega)]
        unfold msS
        by_cases h3 : (dpL t.kids : Int) ≤ d - 1 ∧ (szL t.kids : Int) ≤ l - 1
        · rw [if_pos h3, if_pos (by omega)]; congr 2; omega
        · rw [if_neg h3, if_neg (by omega)]
theorem measure_eq {t : Tm} (hw : wfT t) {l d : Int} (hd : 0 ≤ d) (hd2 : d ≤ 100) (l1 : 0 ≤ l) (l2 : l ≤ 5000) : term_measure.f t l d = some (msS t l d) := by
  unfold term_measure.f
  exact measure_FC deep0 t l d hw hd (by unfold deep0; omega) hd2 l1 l2
theorem copy_j4 (rec : Tm × Unit → Option Tm) (hrec) (fu : Nat) (K : List Tm) (hK : K.length ≤ 10000) (hr : ∀ (i : Nat) t, K[i]? = some t → rec (t, ()) = some t) (a0 a1 a2 : Int) (a3 : ByteArray) (a4 : Nat) (c0 c1 c2 : Int) (c3 : ByteArray) (l8 : List Tm) :
    ∀ (ks : List Tm) (i k : Nat) (l7 : List Tm), K.drop i = ks → i ≤ K.length → ks.length < k → l7.length = i → term_Copy.j4 rec hrec fu k K (K.length : Int) (i : Int) a0 a1 a2 a3 a4 c0 c1 c2 c3 i l7 l8 = some (Tm.mk c0 c1 c2 c3 (l7 ++ ks))
  | [], i, k, l7, hd, hi, hk, hl => by
    obtain ⟨k, rfl⟩ : ∃ m, k = m + 1 := ⟨k - 1, by omega⟩
    obtain rfl := drop_nil hd hi
    rw [term_Copy.j4_succ, bifd_neg (by omega), List.append_nil]
  | t :: ks, i, k, l7, hd, hi, hk, hl => by
    obtain ⟨k, rfl⟩ : ∃ m, k = m + 1 := ⟨k - 1, by rw [List.length_cons] at hk; omega⟩
    obtain ⟨h3, h4, h5⟩ := drop_cons hd
    rw [term_Copy.j4_succ, bifd_pos (by omega), bifd_pos (by omega), bifd_pos (by omega), Int.toNat_natCast, h4, Option.bind_some, Tm.eta', hr i t h4, Option.bind_some, Tm.eta', show Nat.ble ((i + 1) * 64) 140737488355328 = true by rw [Nat.ble_eq]; omega, cond_true, wrapi, wrapi_succ (by omega)]
    have := copy_j4 rec hrec fu K hK hr a0 a1 a2 a3 a4 c0 c1 c2 c3 l8 ks (i + 1) k (l7 ++ [t]) h5 (by omega) (by rw [List.length_cons] at hk; omega) (by simp [hl])
    rw [this, List.append_assoc]; rfl
theorem copy_FC : ∀ (n : Nat) (t : Tm), szT t ≤ 10000 → dpT t ≤ n → (term_Copy.FC n).1 (t, ()) = some t := by
  intro n
  induction n with
  | zero => intro t _ h; have := dpT_eq t; omega
  | succ n ih =>
    intro t hs hd
    show term_Copy.g (term_Copy.FC n).1 (term_Copy.FC n).2 (fuel0 + 1) t = _
    have hf : 9223372036854775807 < fuel0 + 1 := by unfold fuel0; omega
    generalize fuel0 = fu at hf
    unfold term_Copy.g
    have e1 := szT_eq t
    have e2 := dpT_eq t
    have e3 := szL_len t.kids
    have := copy_j4 (term_Copy.FC n).1 (term_Copy.FC n).2 (fu + 1) t.kids (by omega) (fun i u hu => ih u (by have := szL_mem hu; omega) (by have := szL_mem hu; omega)) 0 0 0 (ByteArray.mk #[]) 0 t.op t.width t.val t.name [] t.kids 0 (fu + 1) [] rfl (Nat.zero_le _) (by omega) rfl
    rw [show ((0 : Nat) : Int) = 0 from rfl, List.nil_append, Tm.eta'] at this
    exact this
theorem copy_eq {t : Tm} (hs : szT t ≤ 10000) (hd : dpT t ≤ 1000) : term_Copy.f t = some t := by
  unfold term_Copy.f
  exact copy_FC deep0 t hs hd
theorem postT_kids (t : Tm) : postT t = postL t.kids ++ [t] := by cases t; rfl
mutual
theorem postT_len : ∀ t : Tm, (postT t).length = szT t
  | .mk op width val name kids => by
    rw [postT_kids, szT_eq, List.length_append, List.length_singleton]
    show (postL kids).length + 1 = szL kids + 1
    rw [postL_len kids]
theorem postL_len : ∀ l : List Tm, (postL l).length = szL l
  | [] => by unfold postL; rw [szL_nil]; rfl
  | t :: l => by
    rw [show postL (t :: l) = postT t ++ postL l by rw [postL], List.length_append, szL_cons, postT_len t, postL_len l]
end
/- A property of every term under a term: it, and the terms under its operands. -/
mutual
theorem post_all {Q : Tm → Prop} (hQ : ∀ t : Tm, Q t → ∀ (i : Nat) u, t.kids[i]? = some u → Q u) : ∀ t : Tm, Q t → ∀ u ∈ postT t, Q u
  | .mk op width val name kids, h, u, hu => by
    rw [postT_kids, List.mem_append, List.mem_singleton] at hu
    rcases hu with hu | rfl
    · exact postL_all hQ kids (fun i v hv => hQ _ h i v hv) u hu
    · exact h
theorem postL_all {Q : Tm → Prop} (hQ : ∀ t : Tm, Q t → ∀ (i : Nat) u, t.kids[i]? = some u → Q u) : ∀ l : List Tm, (∀ (i : Nat) u, l[i]? = some u → Q u) → ∀ u ∈ postL l, Q u
  | [], h, u, hu => by unfold postL at hu; cases hu
  | t :: l, h, u, hu => by
    rw [show postL (t :: l) = postT t ++ postL l by rw [postL], List.mem_append] at hu
    rcases hu with hu | hu
    · exact post_all hQ t (h 0 t rfl) u hu
    · exact postL_all hQ l (fun i v hv => h (i + 1) v (by simpa using hv)) u hu
end
mutual
theorem small_of : ∀ t : Tm, szT t ≤ 10000 → smallT t = true
  | .mk op width val name kids, h => by
    have e1 := szT_eq (.mk op width val name kids)
    have e3 := szL_len kids
    have e4 : szL (Tm.mk op width val name kids).kids = szL kids := rfl
    unfold smallT
    rw [smallL_of kids (by omega), Bool.and_true, Nat.ble_eq]; omega
theorem smallL_of : ∀ l : List Tm, szL l ≤ 10000 → smallL l = true
  | [], h => by unfold smallL; rfl
  | t :: l, h => by
    rw [szL_cons] at h
    rw [show smallL (t :: l) = (smallT t && smallL l) by rw [smallL], small_of t (by omega), smallL_of l (by omega)]; rfl
end
end Go.Proofs.YtcihbcffokjgjaaGreat.Fn
namespace Go.Proofs.YtcihbcffokjgjaaGreat.Fn
open Go Go.RowKit Go.Proofs.YtcihbcffokjgjaaGreat.Ev Go.Proofs.YtcihbcffokjgjaaGreat.Bv
set_option linter.unusedVariables false
set_option linter.unusedSimpArgs false
set_option maxRecDepth 100000
def tr (v : Nat → Int) (n j : Nat) : Int := if j < n then v j else 0
theorem tr_zero (v : Nat → Int) : tr v 0 = fun _ => 0 := funext fun j => if_neg (Nat.not_lt_zero j)
theorem tr_at {v : Nat → Int} {n j : Nat} (h : j < n) : tr v n j = v j := if_pos h
theorem tr_upd (v : Nat → Int) (n : Nat) : upd n (v n) (tr v n) = tr v (n + 1) := funext fun j => by
  unfold upd tr
  by_cases h : j = n
  · subst h; rw [show Nat.beq j j = true from Nat.beq_refl j, cond_true, if_pos (by omega)]
  · rw [show Nat.beq j n = false by cases e : Nat.beq j n with | true => exact absurd (Nat.eq_of_beq_eq_true e) h | false => rfl, cond_false]
    by_cases h2 : j < n
    · rw [if_pos h2, if_pos (by omega)]
    · rw [if_neg h2, if_neg (by omega)]
theorem tr_cat (v : Nat → Int) (n : Nat) : cat n (tr v n) (fun i => [v n].getD i 0) = tr v (n + 1) := funext fun j => by
  unfold cat tr
  by_cases h : j < n
  · rw [show Nat.blt j n = true by rw [Nat.blt_eq]; exact h, cond_true, if_pos h, if_pos (by omega)]
  · rw [show Nat.blt j n = false by cases e : Nat.blt j n with | true => rw [Nat.blt_eq] at e; omega | false => rfl, cond_false]
    by_cases h2 : j = n
    · subst h2; rw [Nat.sub_self, if_pos (by omega)]; rfl
    · rw [if_neg (by omega)]
      obtain ⟨d, hd⟩ : ∃ d, j - n = d + 1 := ⟨j - n - 1, by omega⟩
      rw [hd]; rfl
theorem ble_of {m n : Nat} (h : m ≤ n) : Nat.ble m n = true := by rw [Nat.ble_eq]; exact h
end Go.Proofs.YtcihbcffokjgjaaGreat.Fn
