/- Bit vectors as whole numbers: what Go's operations on uint64 and int64 come to, and the words in which the proofs of this seat say what the functions return. Plain arithmetic: no program and no memory. What the functions of the bit vectors (program and reference) return, in the words of the theory. What the functions of the known bits return, in plain words: pairs of numbers, bit by bit. The number of one bits: the program's count by parallel sums, and the reference's loop. -/
import Derived.Test.YtcihbcffokjgjaaGreatSEvC
import Derived.Laws.BitsLemmas
import Derived.Test.YtcihbcffokjgjaaGreatSF1
import Derived.Test.YtcihbcffokjgjaaGreatSF2
import Derived.Test.YtcihbcffokjgjaaGreatSF7
import Derived.Test.YtcihbcffokjgjaaGreatSF9
import Derived.Test.YtcihbcffokjgjaaGreatSF11
namespace Go.Proofs.YtcihbcffokjgjaaGreat.Bv
open Go Go.RowKit Go.Proofs.YtcihbcffokjgjaaGreat.Ev
set_option linter.unusedVariables false

theorem shr_eq (k : IntKind) (x y : Int) : shr k x y = x / 2 ^ min y.toNat k.bits := by
  unfold shr
  exact Int.fdiv_eq_ediv_of_nonneg _ (Int.le_of_lt (Int.pow_pos (by decide)))
theorem wrapi (a : Int) : IntKind.i64.wrap a = wrap64 a := by simp only [IntKind.wrap, IntKind.bits, IntKind.signed, wrap64]; simp <;> omega
theorem p64 : (2 : Nat) ^ 64 = 18446744073709551616 := by rfl
theorem p63 : (2 : Nat) ^ 63 = 9223372036854775808 := by rfl
theorem pow_cast (n : Nat) : (2 : Int) ^ n = ((2 ^ n : Nat) : Int) := by rw [Int.natCast_pow]; rfl

/-! ### widths -/
def W (a : Int) : Nat := (mn (mx a 1) 64).toNat
theorem W_pos (a : Int) : 1 ≤ W a := by unfold W mn mx; repeat' split <;> omega
theorem W_le (a : Int) : W a ≤ 64 := by unfold W mn mx; repeat' split <;> omega
theorem W_int (a : Int) : mn (mx a 1) 64 = (W a : Int) := by unfold W mn mx; repeat' split <;> omega
theorem W_of {n : Nat} (h1 : 1 ≤ n) (h2 : n ≤ 64) : W (n : Int) = n := by unfold W mn mx; repeat' split <;> omega
theorem W_of' {a : Int} (h1 : 1 ≤ a) (h2 : a ≤ 64) : (W a : Int) = a := by unfold W mn mx; repeat' split <;> omega
theorem pw_le {w : Nat} (h : w ≤ 64) : 2 ^ w ≤ 18446744073709551616 := by
  have := Nat.pow_le_pow_right (n := 2) (by decide) h
  rw [p64] at this; exact this
theorem pw_pos (w : Nat) : 0 < 2 ^ w := Nat.two_pow_pos w
theorem mod_lt64 {w : Nat} (x : Nat) (h : w ≤ 64) : x % 2 ^ w < 18446744073709551616 := Nat.lt_of_lt_of_le (Nat.mod_lt _ (pw_pos w)) (pw_le h)
theorem lt_pw {x : Nat} (h : x < 18446744073709551616) : x < 2 ^ 64 := by rw [p64]; exact h

/-! ### Go's numbers -/
theorem u64_of {a : Int} (h : (Lit.int .u64 a).wf = true) : ∃ n : Nat, a = (n : Int) ∧ n < 18446744073709551616 := by
  simp [Lit.wf, IntKind.min, IntKind.max, IntKind.signed, IntKind.bits] at h
  exact ⟨a.toNat, by omega, by omega⟩
theorem wrapu (a : Int) : IntKind.u64.wrap a = a % 18446744073709551616 := by simp [IntKind.wrap, IntKind.bits, IntKind.signed]
theorem wrapu_of {n : Nat} (h : n < 18446744073709551616) : IntKind.u64.wrap (n : Int) = (n : Int) := by rw [wrapu]; omega
theorem wrapi_of {a : Int} (h1 : -9223372036854775808 ≤ a) (h2 : a ≤ 9223372036854775807) : wrap64 a = a := by unfold wrap64; omega
theorem wrapi_succ {n : Nat} (h : n < 9223372036854775807) : wrap64 ((n : Int) + 1) = ((n + 1 : Nat) : Int) := by unfold wrap64; omega
theorem wrapi_64 (a : Int) : wrap64 (64 - (W a : Int)) = ((64 - W a : Nat) : Int) := by
  have := W_le a
  have := W_pos a
  unfold wrap64; omega
theorem wrapu_add (x y : Nat) : IntKind.u64.wrap ((x : Int) + (y : Int)) = (((x + y) % 18446744073709551616 : Nat) : Int) := by rw [wrapu]; omega
theorem wrapu_mul (x y : Nat) : IntKind.u64.wrap ((x : Int) * (y : Int)) = (((x * y) % 18446744073709551616 : Nat) : Int) := by
  rw [wrapu]; rw [← Int.natCast_mul]; omega
theorem wrapu_sub {x y : Nat} (hy : y < 18446744073709551616) : IntKind.u64.wrap ((x : Int) - (y : Int)) = (((x + (18446744073709551616 - y)) % 18446744073709551616 : Nat) : Int) := by rw [wrapu]; omega
theorem wrapu_sub_le {x y : Nat} (hx : x < 18446744073709551616) (hy : y ≤ x) : IntKind.u64.wrap ((x : Int) - (y : Int)) = ((x - y : Nat) : Int) := by rw [wrapu]; omega
theorem wrapu_neg {y : Nat} (hy : y < 18446744073709551616) : IntKind.u64.wrap (-(y : Int)) = (((18446744073709551616 - y) % 18446744073709551616 : Nat) : Int) := by rw [wrapu]; omega

theorem mod_bits {x : Nat} (hx : x < 18446744073709551616) : x % 2 ^ IntKind.bits .u64 = x := Nat.mod_eq_of_lt (lt_pw hx)
theorem and64 {x y : Nat} (hx : x < 18446744073709551616) (hy : y < 18446744073709551616) : Go.bits .and .u64 (x : Int) (y : Int) = ((x &&& y : Nat) : Int) := by
  simp only [Go.bits, BitVec.ofInt_natCast, BitVec.toNat_and, BitVec.toNat_ofNat, mod_bits hx, mod_bits hy]
  exact wrapu_of (by rw [← p64]; exact Nat.and_lt_two_pow _ (lt_pw hy))
theorem or64 {x y : Nat} (hx : x < 18446744073709551616) (hy : y < 18446744073709551616) : Go.bits .or .u64 (x : Int) (y : Int) = ((x ||| y : Nat) : Int) := by
  simp only [Go.bits, BitVec.ofInt_natCast, BitVec.toNat_or, BitVec.toNat_ofNat, mod_bits hx, mod_bits hy]
  exact wrapu_of (by rw [← p64]; exact Nat.or_lt_two_pow (lt_pw hx) (lt_pw hy))
theorem xor64 {x y : Nat} (hx : x < 18446744073709551616) (hy : y < 18446744073709551616) : Go.bits .xor .u64 (x : Int) (y : Int) = ((x ^^^ y : Nat) : Int) := by
  simp only [Go.bits, BitVec.ofInt_natCast, BitVec.toNat_xor, BitVec.toNat_ofNat, mod_bits hx, mod_bits hy]
  exact wrapu_of (by rw [← p64]; exact Nat.xor_lt_two_pow (lt_pw hx) (lt_pw hy))
theorem andNot64 {x y : Nat} (hx : x < 18446744073709551616) (hy : y < 18446744073709551616) : Go.bits .andNot .u64 (x : Int) (y : Int) = ((x &&& (18446744073709551615 - y) : Nat) : Int) := by
  simp only [Go.bits, BitVec.ofInt_natCast, BitVec.toNat_and, BitVec.toNat_not, BitVec.toNat_ofNat, mod_bits hx, mod_bits hy]
  rw [show (2 : Nat) ^ IntKind.bits .u64 - 1 - y = 18446744073709551615 - y from rfl]
  exact wrapu_of (Nat.lt_of_le_of_lt Nat.and_le_left hx)
theorem shl64 (x n : Nat) : shl .u64 (x : Int) (n : Int) = (((x <<< n) % 18446744073709551616 : Nat) : Int) := by
  unfold shl
  rw [wrapu]
  have e : (IntKind.bits .u64) = 64 := rfl
  rw [e, Int.toNat_natCast, Nat.shiftLeft_eq]
  by_cases h : n ≤ 64
  · rw [Nat.min_eq_left h, pow_cast, ← Int.natCast_mul]; omega
  · rw [Nat.min_eq_right (by omega)]
    obtain ⟨d, rfl⟩ : ∃ d, n = 64 + d := ⟨n - 64, by omega⟩
    have h2 : x * 2 ^ (64 + d) = (x * 2 ^ d) * 18446744073709551616 := by rw [Nat.pow_add, p64, Nat.mul_comm (18446744073709551616), Nat.mul_assoc]
    rw [h2, pow_cast, ← Int.natCast_mul, p64, Nat.mul_mod_left]
    omega
theorem shr64 {x n : Nat} (hx : x < 18446744073709551616) : shr .u64 (x : Int) (n : Int) = ((x >>> n : Nat) : Int) := by
  rw [shr_eq]
  have e : (IntKind.bits .u64) = 64 := rfl
  rw [e, Int.toNat_natCast, Nat.shiftRight_eq_div_pow]
  by_cases h : n ≤ 64
  · rw [Nat.min_eq_left h, pow_cast, ← Int.natCast_ediv]
  · rw [Nat.min_eq_right (by omega)]
    have h1 : x / 2 ^ n = 0 := Nat.div_eq_of_lt (Nat.lt_of_lt_of_le (lt_pw hx) (Nat.pow_le_pow_right (by decide) (by omega)))
    have h2 : x / 2 ^ 64 = 0 := Nat.div_eq_of_lt (lt_pw hx)
    rw [h1, pow_cast, ← Int.natCast_ediv, h2]

/-! ### bits one by one -/
theorem toNat_lt (b : Bool) : b.toNat < 18446744073709551616 := by cases b <;> decide
/-- The number whose bit i is f i, for each i below n. -/
def bld (f : Nat → Bool) : Nat → Nat
  | 0 => 0
  | n + 1 => bld f n ||| ((f n).toNat <<< n)
theorem testBit_toNat_shl (b : Bool) (n j : Nat) : (b.toNat <<< n).testBit j = (decide (n = j) && b) := by
  rw [Nat.testBit_shiftLeft, Nat.testBit_bool_toNat]
  by_cases h : n = j
  · subst h; simp
  · by_cases h2 : n ≤ j
    · have : ¬ (j - n = 0) := by omega
      simp [h, this]
    · simp [h, h2]
theorem testBit_bld (f : Nat → Bool) (n j : Nat) : (bld f n).testBit j = (decide (j < n) && f j) := by
  induction n with
  | zero => simp [bld]
  | succ n ih =>
    rw [bld, Nat.testBit_or, ih, testBit_toNat_shl]
    by_cases h : n = j
    · subst h; simp
    · by_cases h2 : j < n
      · have : j < n + 1 := by omega
        simp [h, h2, this]
      · have : ¬ j < n + 1 := by omega
        simp [h, h2, this]
theorem bld_lt (f : Nat → Bool) (n : Nat) : bld f n < 2 ^ n :=
  Nat.lt_pow_two_of_testBit _ (fun i hi => by rw [testBit_bld]; simp; omega)
theorem bld_lt64 (f : Nat → Bool) {n : Nat} (h : n ≤ 64) : bld f n < 18446744073709551616 := Nat.lt_of_lt_of_le (bld_lt f n) (pw_le h)
theorem bld_congr {f g : Nat → Bool} {n : Nat} (h : ∀ i, i < n → f i = g i) : bld f n = bld g n := by
  apply Nat.eq_of_testBit_eq
  intro i
  rw [testBit_bld, testBit_bld]
  by_cases hi : i < n
  · simp [hi, h i hi]
  · simp [hi]
theorem bld_eq {f : Nat → Bool} {n x : Nat} (hx : x < 2 ^ n) (h : ∀ i, i < n → f i = x.testBit i) : bld f n = x := by
  apply Nat.eq_of_testBit_eq
  intro i
  rw [testBit_bld]
  by_cases hi : i < n
  · simp [hi, h i hi]
  · rw [Nat.testBit_lt_two_pow (Nat.lt_of_lt_of_le hx (Nat.pow_le_pow_right (by decide) (by omega)))]
    simp [hi]
/-- One round of a loop that sets bit i. -/
theorem bld_step (f : Nat → Bool) {i : Nat} (hi : i < 64) : Go.bits .or .u64 ((bld f i : Nat) : Int) (shl .u64 (((f i).toNat : Nat) : Int) (i : Int)) = ((bld f (i + 1) : Nat) : Int) := by
  have h1 : ((f i).toNat <<< i) < 2 ^ 64 := Nat.lt_pow_two_of_testBit _ (fun j hj => by rw [testBit_toNat_shl]; simp; omega)
  rw [shl64, Nat.mod_eq_of_lt (by rw [← p64]; exact h1), or64 (bld_lt64 f (by omega)) (by rw [← p64]; exact h1)]
  rfl

/-! ### the operations -/
def vmask (w : Nat) : Nat := 2 ^ w - 1
def vcut (w x : Nat) : Nat := x % 2 ^ w
def sgn (w x : Nat) : Int := if x.testBit (w - 1) then ((x % 2 ^ w : Nat) : Int) - ((2 ^ w : Nat) : Int) else ((x % 2 ^ w : Nat) : Int)
def vnot (w a : Nat) : Nat := 2 ^ w - 1 - a % 2 ^ w
def vand (w a b : Nat) : Nat := (a &&& b) % 2 ^ w
def vor (w a b : Nat) : Nat := (a ||| b) % 2 ^ w
def vxor (w a b : Nat) : Nat := (a ^^^ b) % 2 ^ w
def vadd (w a b : Nat) : Nat := (a + b) % 2 ^ w
def vneg (w a : Nat) : Nat := (2 ^ w - a % 2 ^ w) % 2 ^ w
def vsub (w a b : Nat) : Nat := (a + (2 ^ w - b % 2 ^ w)) % 2 ^ w
def vmul (w a b : Nat) : Nat := (a * b) % 2 ^ w
def vudiv (w a b : Nat) : Nat := if b % 2 ^ w = 0 then 2 ^ w - 1 else (a % 2 ^ w) / (b % 2 ^ w)
def vurem (w a b : Nat) : Nat := if b % 2 ^ w = 0 then a % 2 ^ w else (a % 2 ^ w) % (b % 2 ^ w)
def vshl (w a b : Nat) : Nat := (a <<< (b % 2 ^ w)) % 2 ^ w
def vlshr (w a b : Nat) : Nat := (a % 2 ^ w) >>> (b % 2 ^ w)
def vashr (w a b : Nat) : Nat := if a.testBit (w - 1) then 2 ^ w - 1 - ((2 ^ w - 1 - a % 2 ^ w) >>> (b % 2 ^ w)) else (a % 2 ^ w) >>> (b % 2 ^ w)
def veq (w a b : Nat) : Nat := if a % 2 ^ w = b % 2 ^ w then 1 else 0
def vult (w a b : Nat) : Nat := if a % 2 ^ w < b % 2 ^ w then 1 else 0
def vslt (w a b : Nat) : Nat := if sgn w a < sgn w b then 1 else 0
def vconcat (v w a b : Nat) : Nat := (((a % 2 ^ v) <<< w) % 2 ^ 64) ||| (b % 2 ^ w)
def vextract (low w x : Nat) : Nat := (x >>> low) % 2 ^ w
def vsext (v w x : Nat) : Nat := bld (fun i => x.testBit (min i (v - 1))) w

theorem sub_lt_pw (w x : Nat) : 2 ^ w - 1 - x < 2 ^ w := by have := pw_pos w; omega
theorem vmask_lt {w : Nat} (h : w ≤ 64) : vmask w < 18446744073709551616 := by have := pw_le h; have := pw_pos w; unfold vmask; omega
theorem vcut_lt {w : Nat} (x : Nat) (h : w ≤ 64) : vcut w x < 18446744073709551616 := mod_lt64 x h
theorem vnot_lt {w : Nat} (x : Nat) (h : w ≤ 64) : vnot w x < 18446744073709551616 := by have := pw_le h; have := pw_pos w; unfold vnot; omega
theorem vand_lt {w : Nat} (a b : Nat) (h : w ≤ 64) : vand w a b < 18446744073709551616 := mod_lt64 _ h
theorem vor_lt {w : Nat} (a b : Nat) (h : w ≤ 64) : vor w a b < 18446744073709551616 := mod_lt64 _ h
theorem vxor_lt {w : Nat} (a b : Nat) (h : w ≤ 64) : vxor w a b < 18446744073709551616 := mod_lt64 _ h
theorem vadd_lt {w : Nat} (a b : Nat) (h : w ≤ 64) : vadd w a b < 18446744073709551616 := mod_lt64 _ h
theorem vneg_lt {w : Nat} (a : Nat) (h : w ≤ 64) : vneg w a < 18446744073709551616 := mod_lt64 _ h
theorem vsub_lt {w : Nat} (a b : Nat) (h : w ≤ 64) : vsub w a b < 18446744073709551616 := mod_lt64 _ h
theorem vmul_lt {w : Nat} (a b : Nat) (h : w ≤ 64) : vmul w a b < 18446744073709551616 := mod_lt64 _ h
theorem vudiv_lt {w : Nat} (a b : Nat) (h : w ≤ 64) : vudiv w a b < 18446744073709551616 := by
  unfold vudiv; split
  · exact vmask_lt h
  · exact Nat.lt_of_le_of_lt (Nat.div_le_self _ _) (mod_lt64 _ h)
theorem vurem_lt {w : Nat} (a b : Nat) (h : w ≤ 64) : vurem w a b < 18446744073709551616 := by
  unfold vurem; split
  · exact mod_lt64 _ h
  · exact Nat.lt_of_le_of_lt (Nat.mod_le _ _) (mod_lt64 _ h)
theorem vshl_lt {w : Nat} (a b : Nat) (h : w ≤ 64) : vshl w a b < 18446744073709551616 := mod_lt64 _ h
theorem shr_le (x n : Nat) : x >>> n ≤ x := by rw [Nat.shiftRight_eq_div_pow]; exact Nat.div_le_self _ _
theorem vlshr_lt {w : Nat} (a b : Nat) (h : w ≤ 64) : vlshr w a b < 18446744073709551616 := Nat.lt_of_le_of_lt (shr_le _ _) (mod_lt64 _ h)
theorem vashr_lt {w : Nat} (a b : Nat) (h : w ≤ 64) : vashr w a b < 18446744073709551616 := by
  unfold vashr; split
  · have := pw_le h; have := pw_pos w
    generalize (2 ^ w - 1 - a % 2 ^ w) >>> (b % 2 ^ w) = t
    omega
  · exact Nat.lt_of_le_of_lt (shr_le _ _) (mod_lt64 _ h)
theorem vconcat_lt {v w : Nat} (a b : Nat) (h : w ≤ 64) : vconcat v w a b < 18446744073709551616 := by
  unfold vconcat; rw [← p64]
  exact Nat.or_lt_two_pow (Nat.mod_lt _ (pw_pos _)) (lt_pw (mod_lt64 _ h))
theorem vextract_lt {w : Nat} (a b : Nat) (h : w ≤ 64) : vextract a w b < 18446744073709551616 := mod_lt64 _ h
theorem vsext_lt {w : Nat} (v x : Nat) (h : w ≤ 64) : vsext v w x < 18446744073709551616 := bld_lt64 _ h

theorem and_mask (x : Nat) (w : Nat) : x &&& (2 ^ w - 1) = x % 2 ^ w := Nat.and_two_pow_sub_one_eq_mod x w
theorem mod64_mod {w : Nat} (h : w ≤ 64) (x : Nat) : x % 18446744073709551616 % 2 ^ w = x % 2 ^ w := by
  have : 2 ^ w ∣ 18446744073709551616 := by rw [← p64]; exact Nat.pow_dvd_pow 2 h
  exact Nat.mod_mod_of_dvd x this
theorem testBit_vnot (w a i : Nat) : (vnot w a).testBit i = (decide (i < w) && !a.testBit i) := by
  unfold vnot
  have h1 := Nat.mod_lt a (pw_pos w)
  have e : 2 ^ w - 1 - a % 2 ^ w = 2 ^ w - (a % 2 ^ w + 1) := by omega
  rw [e, Nat.testBit_two_pow_sub_succ h1, Nat.testBit_mod_two_pow]
  by_cases h : i < w <;> simp [h]
theorem testBit_ge {x w i : Nat} (h : x < 2 ^ w) (hi : w ≤ i) : x.testBit i = false := Nat.testBit_lt_two_pow (Nat.lt_of_lt_of_le h (Nat.pow_le_pow_right (by decide) hi))
/-- a + b, bit by bit apart. -/
theorem add_disjoint (a : Nat) : ∀ b, a &&& b = 0 → a + b = a ||| b := by
  induction a using Nat.strongRecOn with
  | ind a ih =>
    intro b h
    by_cases ha : a = 0
    · subst ha; simp
    · have hd : (a / 2) &&& (b / 2) = 0 := by rw [← Nat.and_div_two, h]
      have h1 := ih (a / 2) (by omega) (b / 2) hd
      have hm : a % 2 = 0 ∨ b % 2 = 0 := by
        have hh : ¬ ((a &&& b) % 2 = 1) := by rw [h]; decide
        rw [Nat.and_mod_two_eq_one] at hh
        omega
      have h2 : (a ||| b) / 2 = a / 2 ||| b / 2 := Nat.or_div_two
      have h3 : ((a ||| b) % 2 = 1) ↔ (a % 2 = 1 ∨ b % 2 = 1) := Nat.or_mod_two_eq_one
      omega
theorem and_add_xor (a b : Nat) : (a &&& b) + (a ^^^ b) = a ||| b := by
  rw [add_disjoint]
  · apply Nat.eq_of_testBit_eq; intro i
    simp only [Nat.testBit_or, Nat.testBit_and, Nat.testBit_xor]
    cases a.testBit i <;> cases b.testBit i <;> rfl
  · apply Nat.eq_of_testBit_eq; intro i
    simp only [Nat.testBit_and, Nat.testBit_xor, Nat.zero_testBit]
    cases a.testBit i <;> cases b.testBit i <;> rfl
theorem vor_eq (w a b : Nat) : vnot w (vand w (vnot w a) (vnot w b)) = vor w a b := by
  apply Nat.eq_of_testBit_eq; intro i
  rw [testBit_vnot]
  unfold vand vor
  simp only [Nat.testBit_mod_two_pow, Nat.testBit_and, Nat.testBit_or, testBit_vnot]
  by_cases h : i < w <;> simp [h]
theorem vxor_eq (w a b : Nat) : vor w a b - vand w a b = vxor w a b := by
  have h := and_add_xor (a % 2 ^ w) (b % 2 ^ w)
  unfold vor vand vxor
  rw [Nat.or_mod_two_pow, Nat.and_mod_two_pow, Nat.xor_mod_two_pow]
  omega
theorem vand_le_vor (w a b : Nat) : vand w a b ≤ vor w a b := by
  have h := and_add_xor (a % 2 ^ w) (b % 2 ^ w)
  unfold vor vand
  rw [Nat.or_mod_two_pow, Nat.and_mod_two_pow]
  omega
theorem two_pow_pred {w : Nat} (h : 1 ≤ w) : 2 ^ w = 2 * 2 ^ (w - 1) := by
  obtain ⟨v, rfl⟩ : ∃ v, w = v + 1 := ⟨w - 1, by omega⟩
  rw [Nat.pow_succ, Nat.add_sub_cancel, Nat.mul_comm]
theorem testBit_top {w x : Nat} (h : 1 ≤ w) : x.testBit (w - 1) = decide (2 ^ (w - 1) ≤ x % 2 ^ w) := by
  have h1 : (x % 2 ^ w).testBit (w - 1) = x.testBit (w - 1) := by
    rw [Nat.testBit_mod_two_pow]; have : w - 1 < w := by omega
    simp [this]
  rw [← h1]
  have hlt := Nat.mod_lt x (pw_pos w)
  have hp := two_pow_pred h
  by_cases hle : 2 ^ (w - 1) ≤ x % 2 ^ w
  · simp only [hle, decide_true]
    apply Nat.testBit_of_two_pow_le_and_two_pow_add_one_gt hle
    have : w - 1 + 1 = w := by omega
    rw [this]; exact hlt
  · simp only [hle, decide_false]
    exact Nat.testBit_lt_two_pow (by omega)
theorem sgn_lo {w x : Nat} (h : 1 ≤ w) : -((2 ^ (w - 1) : Nat) : Int) ≤ sgn w x ∧ sgn w x < ((2 ^ (w - 1) : Nat) : Int) := by
  unfold sgn
  have hp := two_pow_pred h
  have hlt := Nat.mod_lt x (pw_pos w)
  rw [testBit_top h]
  generalize x % 2 ^ w = r at *
  generalize 2 ^ w = P at *
  generalize 2 ^ (w - 1) = H at *
  by_cases hle : H ≤ r
  · simp only [hle, decide_true, if_true]; omega
  · rw [if_neg (by simpa using hle)]; omega
theorem sgn_range {w x : Nat} (h : 1 ≤ w) (h2 : w ≤ 64) : -9223372036854775808 ≤ sgn w x ∧ sgn w x ≤ 9223372036854775807 := by
  have h1 := sgn_lo (x := x) h
  have h3 : 2 ^ (w - 1) ≤ 9223372036854775808 := by rw [← p63]; exact Nat.pow_le_pow_right (by decide) (by omega)
  omega

theorem mask_shr {w : Nat} (h : w ≤ 64) : 18446744073709551615 >>> (64 - w) = vmask w := by
  unfold vmask
  have e : (18446744073709551615 : Nat) = 2 ^ 64 - 1 := by rw [p64]
  apply Nat.eq_of_testBit_eq; intro i
  rw [e, Nat.testBit_shiftRight, Nat.testBit_two_pow_sub_one, Nat.testBit_two_pow_sub_one]
  by_cases hi : i < w
  · have : 64 - w + i < 64 := by omega
    simp [hi, this]
  · have : ¬ 64 - w + i < 64 := by omega
    simp [hi, this]
/-- The signed value: shifted up and down again. -/
theorem signed_shifts {w x : Nat} (h1 : 1 ≤ w) (h2 : w ≤ 64) : shr .i64 (wrap64 (((x <<< (64 - w)) % 18446744073709551616 : Nat) : Int)) ((64 - w : Nat) : Int) = sgn w x := by
  have hb : (IntKind.bits .i64) = 64 := rfl
  rw [shr_eq]
  rw [hb, Int.toNat_natCast, Nat.min_eq_left (by omega), Nat.shiftLeft_eq]
  have hP : 2 ^ w * 2 ^ (64 - w) = 18446744073709551616 := by rw [← Nat.pow_add, ← p64]; congr 1; omega
  have hH : 2 ^ (w - 1) * 2 ^ (64 - w) = 9223372036854775808 := by rw [← Nat.pow_add, ← p63]; congr 1; omega
  rw [← hP, Nat.mul_mod_mul_right]
  unfold sgn
  rw [testBit_top h1]
  have hp := two_pow_pred h1
  have hlt := Nat.mod_lt x (pw_pos w)
  have hq := pw_pos (64 - w)
  generalize x % 2 ^ w = r at *
  generalize 2 ^ w = P at *
  generalize 2 ^ (w - 1) = H at *
  rw [pow_cast]
  generalize 2 ^ (64 - w) = q at *
  have hr : r * q < 18446744073709551616 := by rw [← hP]; exact Nat.mul_lt_mul_of_pos_right hlt hq
  by_cases hle : H ≤ r
  · simp only [hle, decide_true, if_true]
    have h3 : 9223372036854775808 ≤ r * q := by rw [← hH]; exact Nat.mul_le_mul_right q hle
    have : wrap64 ((r * q : Nat) : Int) = ((r : Int) - (P : Int)) * (q : Int) := by
      rw [Int.sub_mul, ← Int.natCast_mul, ← Int.natCast_mul, hP]
      unfold wrap64; omega
    rw [this, Int.mul_ediv_cancel _ (by omega)]
  · simp only [hle, decide_false]
    have h3 : r * q < 9223372036854775808 := by rw [← hH]; exact Nat.mul_lt_mul_of_pos_right (by omega) hq
    have : wrap64 ((r * q : Nat) : Int) = (r : Int) * (q : Int) := by
      rw [← Int.natCast_mul]
      unfold wrap64; omega
    rw [this, Int.mul_ediv_cancel _ (by omega)]
    simp

theorem tdiv_nat (m n : Nat) : Int.tdiv (m : Int) (n : Int) = ((m / n : Nat) : Int) := rfl
theorem tmod_nat (m n : Nat) : Int.tmod (m : Int) (n : Int) = ((m % n : Nat) : Int) := rfl
theorem wrapi_pred {w : Nat} (h1 : 1 ≤ w) (h2 : w ≤ 64) : wrap64 ((w : Int) - 1) = ((w - 1 : Nat) : Int) := by unfold wrap64; omega
theorem beq_nat (m n : Nat) : ((m : Int) == (n : Int)) = decide (m = n) := by
  by_cases h : m = n
  · subst h; simp
  · have : ¬ ((m : Int) = (n : Int)) := by omega
    simp [h, this]
theorem pw_dvd64 {w : Nat} (h : w ≤ 64) : 2 ^ w * 2 ^ (64 - w) = 18446744073709551616 := by rw [← Nat.pow_add, ← p64]; congr 1; omega
theorem sub_cut {w : Nat} (hw : w ≤ 64) (x : Nat) {y : Nat} (hy : y < 18446744073709551616) : vcut w ((x + (18446744073709551616 - y)) % 18446744073709551616) = vsub w x y := by
  unfold vcut vsub
  rw [mod64_mod hw]
  have hP := pw_dvd64 hw
  have hd := Nat.div_add_mod y (2 ^ w)
  have hm := Nat.mod_lt y (pw_pos w)
  generalize y / 2 ^ w = c at *
  generalize y % 2 ^ w = r at *
  generalize 2 ^ (64 - w) = q at *
  have hp := pw_pos w
  generalize 2 ^ w = P at *
  have hc : c < q := by
    apply Nat.lt_of_mul_lt_mul_left (a := P)
    omega
  obtain ⟨e, rfl⟩ : ∃ e, q = c + 1 + e := ⟨q - c - 1, by omega⟩
  have h3 : P * (c + 1 + e) = P * c + P + P * e := by rw [Nat.mul_add, Nat.mul_add, Nat.mul_one]
  rw [show x + (18446744073709551616 - y) = (x + (P - r)) + P * e by omega, Nat.add_mul_mod_self_left]
theorem testBit_all (i : Nat) : (18446744073709551615 : Nat).testBit i = decide (i < 64) := by
  have e : (18446744073709551615 : Nat) = 2 ^ 64 - 1 := by rw [p64]
  rw [e, Nat.testBit_two_pow_sub_one]
theorem not_cut {w x : Nat} (hw : w ≤ 64) : vcut w (18446744073709551615 ^^^ x) = vnot w x := by
  apply Nat.eq_of_testBit_eq; intro i
  rw [testBit_vnot]; unfold vcut
  rw [Nat.testBit_mod_two_pow, Nat.testBit_xor, testBit_all]
  by_cases h : i < w
  · have : i < 64 := by omega
    simp [h, this]
  · simp [h]
theorem far_shr (x : Nat) {w n : Nat} (h : w ≤ n) : (x % 2 ^ w) >>> n = 0 := by
  rw [Nat.shiftRight_eq_div_pow]
  exact Nat.div_eq_of_lt (Nat.lt_of_lt_of_le (Nat.mod_lt _ (pw_pos w)) (Nat.pow_le_pow_right (by decide) h))
theorem far_shl (x : Nat) {w n : Nat} (h : w ≤ n) : (x <<< n) % 2 ^ w = 0 := by
  obtain ⟨d, rfl⟩ : ∃ d, n = w + d := ⟨n - w, by omega⟩
  rw [Nat.shiftLeft_eq, Nat.pow_add, Nat.mul_left_comm, Nat.mul_mod_right]
theorem sgn_cut {w : Nat} (h : 1 ≤ w) (x : Nat) : sgn w (vcut w x) = sgn w x := by
  unfold sgn vcut
  rw [testBit_top h, testBit_top h, Nat.mod_mod]
theorem sgn_neg {w x : Nat} (h : 1 ≤ w) : sgn w x < 0 ↔ x.testBit (w - 1) = true := by
  have h5 := Nat.mod_lt x (pw_pos w)
  unfold sgn
  by_cases ht : x.testBit (w - 1)
  · rw [if_pos ht]; simp only [ht, iff_true]; omega
  · rw [if_neg ht]; simp only [ht]; simp; omega
theorem far_sub {w n : Nat} (x : Nat) (h : w ≤ n) : 2 ^ w - 1 - ((2 ^ w - 1 - x % 2 ^ w) >>> n) = vmask w := by
  have : (2 ^ w - 1 - x % 2 ^ w) >>> n = 0 := by
    rw [Nat.shiftRight_eq_div_pow]
    exact Nat.div_eq_of_lt (Nat.lt_of_lt_of_le (sub_lt_pw w _) (Nat.pow_le_pow_right (by decide) h))
  rw [this]; rfl
theorem signed_shr {w x n : Nat} (h1 : 1 ≤ w) (h2 : w ≤ 64) (ht : x.testBit (w - 1) = true) (hn : n < 64) : IntKind.u64.wrap (shr .i64 (sgn w x) (n : Int)) = ((18446744073709551615 - ((2 ^ w - 1 - x % 2 ^ w) >>> n) : Nat) : Int) := by
  have hb : (IntKind.bits .i64) = 64 := rfl
  have hlt := Nat.mod_lt x (pw_pos w)
  have h7 := pw_le h2
  rw [shr_eq]; unfold sgn
  rw [if_pos ht, hb, Int.toNat_natCast, Nat.min_eq_left (by omega), Nat.shiftRight_eq_div_pow]
  have hle := Nat.div_le_self (2 ^ w - 1 - x % 2 ^ w) (2 ^ n)
  generalize x % 2 ^ w = r at *
  generalize 2 ^ w = P at *
  have hq := pw_pos n
  rw [pow_cast]
  generalize 2 ^ n = q at *
  have e3 : (r : Int) - (P : Int) = -((P - 1 - r : Nat) : Int) - 1 := by omega
  have hm := Nat.div_add_mod (P - 1 - r) q
  have hml := Nat.mod_lt (P - 1 - r) hq
  generalize P - 1 - r = s at *
  generalize s / q = t at *
  generalize s % q = u at *
  have e4 : (r : Int) - (P : Int) = (q : Int) * (-(t : Int) - 1) + ((q - 1 - u : Nat) : Int) := by
    rw [e3, ← hm, Int.mul_sub, Int.mul_neg]
    rw [← Int.natCast_mul]; omega
  rw [e4, Int.mul_add_ediv_left _ _ (by omega), Int.ediv_eq_zero_of_lt (by omega) (by omega), wrapu]
  omega
theorem signed_shr_cut {w : Nat} (hw : w ≤ 64) {x n : Nat} : vcut w (18446744073709551615 - ((2 ^ w - 1 - x % 2 ^ w) >>> n)) = 2 ^ w - 1 - ((2 ^ w - 1 - x % 2 ^ w) >>> n) := by
  have hle := shr_le (2 ^ w - 1 - x % 2 ^ w) n
  have hs := sub_lt_pw w (x % 2 ^ w)
  generalize (2 ^ w - 1 - x % 2 ^ w) >>> n = t at *
  have hP := pw_dvd64 hw
  have hq := pw_pos (64 - w)
  unfold vcut
  generalize 2 ^ (64 - w) = q at *
  generalize 2 ^ w = P at *
  obtain ⟨e, rfl⟩ : ∃ e, q = e + 1 := ⟨q - 1, by omega⟩
  rw [Nat.mul_add, Nat.mul_one] at hP
  rw [show 18446744073709551615 - t = P * e + (P - 1 - t) by omega, Nat.mul_add_mod, Nat.mod_eq_of_lt (by omega)]
/-- A signed value as a number of 64 bits. -/
def s64 (v x : Nat) : Nat := if x.testBit (v - 1) then x % 2 ^ v + (18446744073709551616 - 2 ^ v) else x % 2 ^ v
theorem s64_lt {v : Nat} (h : v ≤ 64) (x : Nat) : s64 v x < 18446744073709551616 := by
  have := pw_le h
  have := Nat.mod_lt x (pw_pos v)
  unfold s64; split <;> omega
theorem sgn_wrap {v x : Nat} (h1 : 1 ≤ v) (h2 : v ≤ 64) : IntKind.u64.wrap (sgn v x) = (s64 v x : Int) := by
  have := pw_le h2
  have := Nat.mod_lt x (pw_pos v)
  rw [wrapu]; unfold sgn s64; split <;> omega
theorem testBit_s64 {v x i : Nat} (h1 : 1 ≤ v) (h2 : v ≤ 64) (hi : i < 64) : (s64 v x).testBit i = x.testBit (min i (v - 1)) := by
  have hlt := Nat.mod_lt x (pw_pos v)
  unfold s64
  by_cases ht : x.testBit (v - 1)
  · rw [if_pos ht]
    have hP := pw_dvd64 h2
    have hq := pw_pos (64 - v)
    have e : x % 2 ^ v + (18446744073709551616 - 2 ^ v) = 2 ^ v * (2 ^ (64 - v) - 1) + x % 2 ^ v := by
      rw [Nat.mul_sub, Nat.mul_one, hP]; omega
    rw [e, Nat.testBit_two_pow_mul_add _ hlt]
    by_cases hv : i < v
    · rw [if_pos hv, Nat.testBit_mod_two_pow, Nat.min_eq_left (by omega)]; simp [hv]
    · rw [if_neg hv, Nat.testBit_two_pow_sub_one, Nat.min_eq_right (by omega), ht]
      simp; omega
  · rw [if_neg ht, Nat.testBit_mod_two_pow]
    have ht' : x.testBit (v - 1) = false := by simpa using ht
    by_cases hv : i < v
    · rw [Nat.min_eq_left (by omega)]; simp [hv]
    · rw [Nat.min_eq_right (by omega), ht']; simp [hv]
theorem s64_cut {v w x : Nat} (h1 : 1 ≤ v) (h2 : v ≤ 64) (hw : w ≤ 64) : vcut w (s64 v x) = vsext v w x := by
  unfold vsext vcut
  symm
  apply bld_eq (Nat.mod_lt _ (pw_pos w))
  intro i hi
  rw [Nat.testBit_mod_two_pow, testBit_s64 h1 h2 (by omega)]; simp [hi]
theorem mask_step {i : Nat} (hi : i < 64) : IntKind.u64.wrap (IntKind.u64.wrap ((vmask i : Int) * 2) + 1) = (vmask (i + 1) : Int) := by
  have h := pw_le (w := i + 1) (by omega)
  have hp : 2 ^ (i + 1) = 2 * 2 ^ i := by rw [Nat.pow_succ, Nat.mul_comm]
  have := pw_pos i
  unfold vmask
  rw [wrapu, wrapu, hp]
  rw [hp] at h
  omega
theorem toNat_le (b : Bool) : b.toNat ≤ 1 := by cases b <;> decide
theorem mod_succ (x i : Nat) : x % 2 ^ (i + 1) = x % 2 ^ i + (x.testBit i).toNat * 2 ^ i := by
  rw [Nat.mod_pow_succ, Nat.toNat_testBit, Nat.mul_comm]
theorem div_succ (x n : Nat) : x / 2 ^ n = 2 * (x / 2 ^ (n + 1)) + (x.testBit n).toNat := by
  rw [Nat.toNat_testBit, Nat.pow_succ, ← Nat.div_div_eq_div_mul]
  have := Nat.div_add_mod (x / 2 ^ n) 2
  omega
theorem put_bit {z i b : Nat} (hz : z < 2 ^ i) (hb : b ≤ 1) (hi : i < 64) : Go.bits .or .u64 (z : Int) (shl .u64 (b : Int) (i : Int)) = ((z + b * 2 ^ i : Nat) : Int) := by
  have h2 : 2 ^ (i + 1) ≤ 18446744073709551616 := pw_le (by omega)
  have hp : 2 ^ (i + 1) = 2 * 2 ^ i := by rw [Nat.pow_succ, Nat.mul_comm]
  have hbi : b * 2 ^ i ≤ 2 ^ i := by have := Nat.mul_le_mul_right (2 ^ i) hb; omega
  rw [shl64, Nat.shiftLeft_eq, Nat.mod_eq_of_lt (by have := pw_pos i; omega), or64 (by omega) (by have := pw_pos i; omega)]
  congr 1
  have := Nat.two_pow_add_eq_or_of_lt hz b
  rw [Nat.or_comm, Nat.mul_comm b, ← this, Nat.add_comm]
/-- Bit i of a shifted value: by is the distance, and fill what comes in above. -/
def shf (w x : Nat) (by_ : Int) (fill : Bool) (i : Nat) : Bool := if (i : Int) + by_ < (w : Int) then (if 0 ≤ (i : Int) + by_ then x.testBit ((i : Int) + by_).toNat else false) else fill
theorem shf_shl {w : Nat} (hw : w ≤ 64) (x y : Nat) : bld (shf w x (-((min (y % 2 ^ w) 64 : Nat) : Int)) false) w = vshl w x y := by
  unfold vshl
  apply bld_eq (Nat.mod_lt _ (pw_pos w))
  intro i hi
  rw [Nat.testBit_mod_two_pow, Nat.testBit_shiftLeft]
  generalize y % 2 ^ w = n
  unfold shf
  rw [if_pos (by omega)]
  by_cases h : n ≤ i
  · rw [if_pos (by omega)]
    have : ((i : Int) + -((min n 64 : Nat) : Int)).toNat = i - n := by omega
    rw [this]; simp [hi, h]
  · rw [if_neg (by omega)]; simp [h]
theorem shf_lshr {w : Nat} (hw : w ≤ 64) (x y : Nat) : bld (shf w x ((min (y % 2 ^ w) 64 : Nat) : Int) false) w = vlshr w x y := by
  unfold vlshr
  have hlt : (x % 2 ^ w) >>> (y % 2 ^ w) < 2 ^ w := Nat.lt_of_le_of_lt (shr_le _ _) (Nat.mod_lt _ (pw_pos w))
  apply bld_eq hlt
  intro i hi
  rw [Nat.testBit_shiftRight, Nat.testBit_mod_two_pow]
  generalize y % 2 ^ w = n
  unfold shf
  by_cases h : n + i < w
  · rw [if_pos (by omega), if_pos (by omega)]
    have : ((i : Int) + ((min n 64 : Nat) : Int)).toNat = n + i := by omega
    rw [this]; simp [h]
  · rw [if_neg (by omega)]; simp [h]
theorem shf_ashr {w : Nat} (hw : w ≤ 64) (x y : Nat) : bld (shf w x ((min (y % 2 ^ w) 64 : Nat) : Int) (x.testBit (w - 1))) w = vashr w x y := by
  have hlt := Nat.mod_lt x (pw_pos w)
  unfold vashr
  by_cases ht : x.testBit (w - 1)
  · rw [if_pos ht]
    have hs := sub_lt_pw w (x % 2 ^ w)
    have hle := shr_le (2 ^ w - 1 - x % 2 ^ w) (y % 2 ^ w)
    have hu : (2 ^ w - 1 - x % 2 ^ w) >>> (y % 2 ^ w) < 2 ^ w := by omega
    apply bld_eq (by generalize (2 ^ w - 1 - x % 2 ^ w) >>> (y % 2 ^ w) = t at *; omega)
    intro i hi
    have e1 : 2 ^ w - 1 - (2 ^ w - 1 - x % 2 ^ w) >>> (y % 2 ^ w) = 2 ^ w - ((2 ^ w - 1 - x % 2 ^ w) >>> (y % 2 ^ w) + 1) := by
      generalize (2 ^ w - 1 - x % 2 ^ w) >>> (y % 2 ^ w) = t
      omega
    have e2 : 2 ^ w - 1 - x % 2 ^ w = vnot w x := rfl
    rw [e1, Nat.testBit_two_pow_sub_succ hu, e2, Nat.testBit_shiftRight, testBit_vnot]
    generalize y % 2 ^ w = n
    unfold shf
    by_cases h : n + i < w
    · rw [if_pos (by omega), if_pos (by omega)]
      have : ((i : Int) + ((min n 64 : Nat) : Int)).toNat = n + i := by omega
      rw [this]; simp [h, hi]
    · rw [if_neg (by omega), ht]; simp [h, hi]
  · have ht' : x.testBit (w - 1) = false := by simpa using ht
    rw [if_neg ht, ht', shf_lshr hw]; rfl
theorem testBit_vconcat (v w a b i : Nat) : (vconcat v w a b).testBit i = ((decide (i < 64) && (decide (w ≤ i) && (decide (i - w < v) && a.testBit (i - w)))) || (decide (i < w) && b.testBit i)) := by
  unfold vconcat
  simp only [Nat.testBit_or, Nat.testBit_mod_two_pow, Nat.testBit_shiftLeft, ge_iff_le]
theorem concat_zero (w a b : Nat) : vconcat 0 w a b = vcut w b := by
  unfold vconcat vcut
  simp [Nat.mod_one]
theorem concat_over {i w a b : Nat} (h : 64 ≤ i + w) : vconcat (i + 1) w a b = vconcat i w a b := by
  apply Nat.eq_of_testBit_eq; intro j
  rw [testBit_vconcat, testBit_vconcat]
  by_cases h1 : j < 64
  · by_cases h2 : w ≤ j
    · have e : decide (j - w < i + 1) = decide (j - w < i) := by simp; omega
      rw [e]
    · simp [h2]
  · simp [h1]
theorem concat_step {i w a b : Nat} (hw : w ≤ 64) (h : i + w < 64) : Go.bits .or .u64 (vconcat i w a b : Int) (shl .u64 ((a.testBit i).toNat : Int) ((i + w : Nat) : Int)) = (vconcat (i + 1) w a b : Int) := by
  have h1 : ((a.testBit i).toNat <<< (i + w)) < 2 ^ 64 := Nat.lt_pow_two_of_testBit _ (fun j hj => by rw [testBit_toNat_shl]; simp; omega)
  rw [shl64, Nat.mod_eq_of_lt (by rw [← p64]; exact h1), or64 (vconcat_lt a b hw) (by rw [← p64]; exact h1)]
  congr 1
  apply Nat.eq_of_testBit_eq; intro j
  rw [Nat.testBit_or, testBit_toNat_shl, testBit_vconcat, testBit_vconcat]
  by_cases e : i + w = j
  · subst e
    have e1 : i + w - w = i := by omega
    have e2 : ¬ i + w < w := by omega
    simp [h, e1, e2]
  · by_cases h2 : w ≤ j
    · have e3 : decide (j - w < i + 1) = decide (j - w < i) := by simp; omega
      rw [e3]; simp [e]
    · simp [h2, e]
theorem extract_far {x low w : Nat} (hx : x < 18446744073709551616) (h : 64 ≤ low) : vextract low w x = 0 := by
  unfold vextract
  rw [Nat.shiftRight_eq_div_pow, Nat.div_eq_of_lt (Nat.lt_of_lt_of_le (lt_pw hx) (Nat.pow_le_pow_right (by decide) h)), Nat.zero_mod]
theorem bld_extract (low w x : Nat) : bld (fun j => x.testBit (low + j)) w = vextract low w x := by
  unfold vextract
  apply bld_eq (Nat.mod_lt _ (pw_pos w))
  intro i hi
  rw [Nat.testBit_mod_two_pow, Nat.testBit_shiftRight]; simp [hi]
end Go.Proofs.YtcihbcffokjgjaaGreat.Bv
namespace Go.Proofs.YtcihbcffokjgjaaGreat.Fn
open Go Go.RowKit Go.Proofs.YtcihbcffokjgjaaGreat.Ev Go.Proofs.YtcihbcffokjgjaaGreat.Bv
set_option linter.unusedVariables false
set_option linter.unusedSimpArgs false

theorem bifd_pos {α : Type} {p : Prop} [Decidable p] (h : p) {a b : α} : (bif decide p then a else b) = a := by simp [h]
theorem bifd_neg {α : Type} {p : Prop} [Decidable p] (h : ¬p) {a b : α} : (bif decide p then a else b) = b := by simp [h]

theorem bits_clamp_eq (a : Int) : bits_clamp.f a = some (W a : Int) := by unfold bits_clamp.f; rw [W_int]
theorem saturateref01_W_eq (a : Int) : saturateref01_W.f a = some (W a : Int) := by unfold saturateref01_W.f; rw [W_int]
theorem bits_Mask_eq (a : Int) : bits_Mask.f a = some (vmask (W a) : Int) := by
  unfold bits_Mask.f; rw [bits_clamp_eq]; simp only [Option.bind_some]
  rw [wrapi, wrapi_64, bifd_neg (by omega), show (18446744073709551615 : Int) = ((18446744073709551615 : Nat) : Int) from rfl, shr64 (by decide), mask_shr (W_le a)]
theorem bits_Cut_eq (a : Int) {x : Nat} (hx : x < 18446744073709551616) : bits_Cut.f a x = some (vcut (W a) x : Int) := by
  unfold bits_Cut.f; rw [bits_Mask_eq]; simp only [Option.bind_some]
  rw [and64 hx (vmask_lt (W_le a))]; unfold vmask vcut; rw [and_mask]
theorem saturateref01_Bit_eq {x : Nat} (hx : x < 18446744073709551616) (i : Nat) : saturateref01_Bit.f x i = some ((x.testBit i).toNat : Int) := by
  unfold saturateref01_Bit.f
  rw [bifd_neg (by omega)]
  by_cases h : 63 < i
  · rw [bifd_pos (by omega), testBit_ge (lt_pw hx) (by omega)]; rfl
  · rw [bifd_neg (by omega), wrapu_of (by omega), bifd_neg (by omega), shr64 hx, show (1 : Int) = ((1 : Nat) : Int) from rfl, and64 (Nat.lt_of_le_of_lt (shr_le _ _) hx) (by decide)]
    rw [Nat.and_one_is_mod, Nat.toNat_testBit, Nat.shiftRight_eq_div_pow]
theorem saturateref01_Bit_neg {i : Int} (h : i < 0) (x : Int) : saturateref01_Bit.f x i = some 0 := by
  unfold saturateref01_Bit.f; rw [bifd_pos h]
theorem saturateref01_Mask_j3 (fu d : Nat) : ∀ (k i w : Nat), w ≤ 64 → w - i = d → i ≤ w → d < k → saturateref01_Mask.j3 fu k (vmask i : Int) w i = some (vmask w : Int) := by
  induction d with
  | zero =>
    intro k i w hw hd hi hk
    obtain ⟨k, rfl⟩ : ∃ m, k = m + 1 := ⟨k - 1, by omega⟩
    obtain rfl : i = w := by omega
    rw [saturateref01_Mask.j3_succ, bifd_neg (by omega)]
  | succ d ih =>
    intro k i w hw hd hi hk
    obtain ⟨k, rfl⟩ : ∃ m, k = m + 1 := ⟨k - 1, by omega⟩
    rw [saturateref01_Mask.j3_succ, bifd_pos (by omega), wrapi, wrapi_succ (by omega), mask_step (by omega)]
    exact ih k (i + 1) w hw (by omega) (by omega) (by omega)
theorem saturateref01_Mask_eq (a : Int) : saturateref01_Mask.f a = some (vmask (W a) : Int) := by
  unfold saturateref01_Mask.f saturateref01_Mask.g; rw [saturateref01_W_eq]; simp only [Option.bind_some]
  have := W_le a
  exact saturateref01_Mask_j3 (fuel0 + 1) (W a) (fuel0 + 1) 0 (W a) (W_le a) (by omega) (by omega) (by unfold fuel0; omega)
theorem saturateref01_Cut_j3 (fu : Nat) {x : Nat} (hx : x < 18446744073709551616) (d : Nat) : ∀ (k i w : Nat), w ≤ 64 → w - i = d → i ≤ w → d < k → saturateref01_Cut.j3 fu k x (bld x.testBit i : Int) w i = some (bld x.testBit w : Int) := by
  induction d with
  | zero =>
    intro k i w hw hd hi hk
    obtain ⟨k, rfl⟩ : ∃ m, k = m + 1 := ⟨k - 1, by omega⟩
    obtain rfl : i = w := by omega
    rw [saturateref01_Cut.j3_succ, bifd_neg (by omega)]
  | succ d ih =>
    intro k i w hw hd hi hk
    obtain ⟨k, rfl⟩ : ∃ m, k = m + 1 := ⟨k - 1, by omega⟩
    rw [saturateref01_Cut.j3_succ, bifd_pos (by omega), saturateref01_Bit_eq hx, wrapu_of (by omega)]; simp only [Option.bind_some]
    rw [bifd_neg (by omega), wrapi, wrapi_succ (by omega), bld_step x.testBit (by omega)]
    exact ih k (i + 1) w hw (by omega) (by omega) (by omega)
theorem saturateref01_Cut_eq (a : Int) {x : Nat} (hx : x < 18446744073709551616) : saturateref01_Cut.f a x = some (vcut (W a) x : Int) := by
  unfold saturateref01_Cut.f saturateref01_Cut.g; rw [saturateref01_W_eq]; simp only [Option.bind_some]
  have h := saturateref01_Cut_j3 (fuel0 + 1) hx (W a) (fuel0 + 1) 0 (W a) (W_le a) (by omega) (by omega) (by have := W_le a; unfold fuel0; omega)
  rw [bld_eq (Nat.mod_lt x (pw_pos (W a))) (fun i hi => by rw [Nat.testBit_mod_two_pow]; simp [hi])] at h
  exact h
end Go.Proofs.YtcihbcffokjgjaaGreat.Fn
namespace Go.Proofs.YtcihbcffokjgjaaGreat.Fn
open Go Go.RowKit Go.Proofs.YtcihbcffokjgjaaGreat.Ev Go.Proofs.YtcihbcffokjgjaaGreat.Bv
set_option linter.unusedVariables false
set_option linter.unusedSimpArgs false

abbrev U64 : Nat := 18446744073709551616
/-- Is the pair an element, for the mask M? -/
def kok (M z o : Nat) : Prop := z &&& o = 0 ∧ (z ||| o) &&& (18446744073709551615 - M) = 0
instance (M z o : Nat) : Decidable (kok M z o) := inferInstanceAs (Decidable (_ ∧ _))
def kof (M z o : Nat) : Nat × Nat := if kok M z o then (z, o) else (0, 0)
theorem kok_zero (M : Nat) : kok M 0 0 := by unfold kok; simp
theorem kof_kok (M z o : Nat) : kok M (kof M z o).1 (kof M z o).2 := by
  unfold kof; split
  · assumption
  · exact kok_zero M
theorem kof_of {M z o : Nat} (h : kok M z o) : kof M z o = (z, o) := if_pos h
theorem kof_lt {M z o : Nat} (hz : z < U64) (ho : o < U64) : (kof M z o).1 < U64 ∧ (kof M z o).2 < U64 := by
  unfold kof; split
  · exact ⟨hz, ho⟩
  · exact ⟨by decide, by decide⟩
theorem or_lt {a b : Nat} (ha : a < U64) (hb : b < U64) : a ||| b < U64 := by rw [show U64 = 2 ^ 64 from rfl]; exact Nat.or_lt_two_pow ha hb
theorem and_lt {a b : Nat} (hb : b < U64) : a &&& b < U64 := by rw [show U64 = 2 ^ 64 from rfl]; exact Nat.and_lt_two_pow _ hb
abbrev MK (a : Int) : Nat := vmask (W a)
theorem MK_lt (a : Int) : MK a < U64 := vmask_lt (W_le a)

theorem cast0 (n : Nat) : ((n : Int) == 0) = decide (n = 0) := by
  by_cases h : n = 0
  · subst h; rfl
  · rw [decide_eq_false h]; simpa using h
theorem cast0n (n : Nat) : ((n : Int) != 0) = !decide (n = 0) := by unfold bne; rw [cast0]
theorem castb (m n : Nat) : ((m : Int) == (n : Int)) = decide (m = n) := beq_nat m n

theorem known_Valid_eq (a : Int) {z o : Nat} (hz : z < U64) (ho : o < U64) : known_Valid.f a ((z : Int), (o : Int)) = some (decide (kok (MK a) z o)) := by
  unfold known_Valid.f
  simp only
  rw [and64 hz ho, or64 hz ho, bits_Mask_eq, cast0]
  by_cases h : z &&& o = 0
  · rw [bifd_pos h, Option.bind_some, andNot64 (or_lt hz ho) (MK_lt a), cast0]
    congr 1; rw [decide_eq_decide]; unfold kok MK
    exact ⟨fun q => ⟨h, q⟩, fun q => q.2⟩
  · rw [bifd_neg h]
    congr 1; symm; rw [decide_eq_false_iff_not]
    exact fun q => h q.1
theorem known_of_eq (a : Int) {z o : Nat} (hz : z < U64) (ho : o < U64) : known_of.f a ((z : Int), (o : Int)) = some (((kof (MK a) z o).1 : Int), ((kof (MK a) z o).2 : Int)) := by
  unfold known_of.f
  simp only
  rw [known_Valid_eq a hz ho, Option.bind_some]
  unfold kof
  by_cases h : kok (MK a) z o
  · rw [bifd_pos h, if_pos h]
  · rw [bifd_neg h, if_neg h]; rfl
def kdis (x y : Nat × Nat) : Prop := (x.1 ||| y.1) &&& (x.2 ||| y.2) = 0
instance (x y : Nat × Nat) : Decidable (kdis x y) := inferInstanceAs (Decidable (_ = _))
theorem known_Meet_eq (a : Int) {z o z' o' : Nat} (hz : z < U64) (ho : o < U64) (hz' : z' < U64) (ho' : o' < U64) :
    known_Meet.f a ((z : Int), (o : Int)) ((z' : Int), (o' : Int)) = some (if kdis (kof (MK a) z o) (kof (MK a) z' o') then (((((kof (MK a) z o).1 ||| (kof (MK a) z' o').1 : Nat) : Int), (((kof (MK a) z o).2 ||| (kof (MK a) z' o').2 : Nat) : Int)), true) else ((0, 0), false)) := by
  unfold known_Meet.f
  simp only
  rw [known_of_eq a hz ho, known_of_eq a hz' ho', Option.bind_some, Option.bind_some]
  simp only
  have l1 := kof_lt (M := MK a) hz ho
  have l2 := kof_lt (M := MK a) hz' ho'
  rw [or64 l1.1 l2.1, or64 l1.2 l2.2, and64 (or_lt l1.1 l2.1) (or_lt l1.2 l2.2), cast0n]
  by_cases h : kdis (kof (MK a) z o) (kof (MK a) z' o')
  · rw [decide_eq_true (show ((kof (MK a) z o).1 ||| (kof (MK a) z' o').1) &&& ((kof (MK a) z o).2 ||| (kof (MK a) z' o').2) = 0 from h), if_pos h]; rfl
  · rw [decide_eq_false (show ¬ ((kof (MK a) z o).1 ||| (kof (MK a) z' o').1) &&& ((kof (MK a) z o).2 ||| (kof (MK a) z' o').2) = 0 from h), if_neg h]; rfl
theorem known_Join_eq (a : Int) {z o z' o' : Nat} (hz : z < U64) (ho : o < U64) (hz' : z' < U64) (ho' : o' < U64) :
    known_Join.f a ((z : Int), (o : Int)) ((z' : Int), (o' : Int)) = some ((((kof (MK a) z o).1 &&& (kof (MK a) z' o').1 : Nat) : Int), (((kof (MK a) z o).2 &&& (kof (MK a) z' o').2 : Nat) : Int)) := by
  unfold known_Join.f
  simp only
  rw [known_of_eq a hz ho, known_of_eq a hz' ho', Option.bind_some, Option.bind_some]
  have l1 := kof_lt (M := MK a) hz ho
  have l2 := kof_lt (M := MK a) hz' ho'
  rw [and64 l1.1 l2.1, and64 l1.2 l2.2]

/-! ### bit by bit -/
theorem bits_ext {a b : Nat} (h : ∀ i, a.testBit i = b.testBit i) : a = b := Nat.eq_of_testBit_eq h
theorem bit_of {a b : Nat} (h : a = b) (i : Nat) : a.testBit i = b.testBit i := by rw [h]
theorem kok_or {M : Nat} {x y : Nat × Nat} (hx : kok M x.1 x.2) (hy : kok M y.1 y.2) (hd : kdis x y) : kok M (x.1 ||| y.1) (x.2 ||| y.2) := by
  refine ⟨hd, bits_ext fun i => ?_⟩
  have h1 := bit_of hx.2 i
  have h2 := bit_of hy.2 i
  simp only [Nat.testBit_and, Nat.testBit_or, Nat.zero_testBit] at h1 h2 ⊢
  revert h1 h2
  cases x.1.testBit i <;> cases x.2.testBit i <;> cases y.1.testBit i <;> cases y.2.testBit i <;> cases (18446744073709551615 - M).testBit i <;> decide
end Go.Proofs.YtcihbcffokjgjaaGreat.Fn
namespace Go.Proofs.YtcihbcffokjgjaaGreat.Fn
open Go Go.RowKit Go.Proofs.YtcihbcffokjgjaaGreat.Ev Go.Proofs.YtcihbcffokjgjaaGreat.Bv
set_option linter.unusedVariables false
set_option linter.unusedSimpArgs false

/-- How many of the first n bits are one. -/
def cnt (f : Nat → Bool) : Nat → Nat
  | 0 => 0
  | n + 1 => cnt f n + (f n).toNat
theorem cnt_le (f : Nat → Bool) (n : Nat) : cnt f n ≤ n := by
  induction n with
  | zero => exact Nat.le_refl _
  | succ n ih => have := toNat_le (f n); simp only [cnt]; omega
theorem cnt_congr {f g : Nat → Bool} {n : Nat} (h : ∀ i, i < n → f i = g i) : cnt f n = cnt g n := by
  induction n with
  | zero => rfl
  | succ n ih => simp only [cnt]; rw [ih (fun i hi => h i (by omega)), h n (by omega)]
theorem cnt_add (f : Nat → Bool) (m n : Nat) : cnt f (m + n) = cnt f m + cnt (fun i => f (m + i)) n := by
  induction n with
  | zero => simp [cnt]
  | succ n ih => rw [← Nat.add_assoc]; simp only [cnt]; rw [ih]; omega
/-- The ones of a number. -/
def ones (x : Nat) : Nat := cnt x.testBit 64

theorem byte_and {a b : Nat} (ha : a < 256) (hb : b < 256) (r s : Nat) : (a + 256 * r) &&& (b + 256 * s) = (a &&& b) + 256 * (r &&& s) := by
  apply Nat.eq_of_testBit_eq; intro i
  have h : a &&& b < 2 ^ 8 := Nat.and_lt_two_pow _ hb
  rw [Nat.testBit_and, Nat.add_comm a, Nat.add_comm b, Nat.add_comm (a &&& b), show 256 = 2 ^ 8 from rfl, Nat.testBit_two_pow_mul_add r ha, Nat.testBit_two_pow_mul_add s hb, Nat.testBit_two_pow_mul_add _ h]
  split <;> simp
theorem byte_shr {a b s : Nat} (ha : a < 256) (hs : b * 2 ^ s < 256) (r c : Nat) : ((a + 256 * r) >>> s) &&& (b + 256 * c) = ((a >>> s) &&& b) + 256 * ((r >>> s) &&& c) := by
  have hb : b < 2 ^ 8 := by
    have := pw_pos s
    have := Nat.le_mul_of_pos_right b this
    omega
  apply Nat.eq_of_testBit_eq; intro i
  have h : (a >>> s) &&& b < 2 ^ 8 := Nat.and_lt_two_pow _ hb
  rw [Nat.testBit_and, Nat.testBit_shiftRight, Nat.add_comm a, Nat.add_comm b, Nat.add_comm ((a >>> s) &&& b), show 256 = 2 ^ 8 from rfl, Nat.testBit_two_pow_mul_add r ha, Nat.testBit_two_pow_mul_add c hb, Nat.testBit_two_pow_mul_add _ h]
  by_cases hi : i < 8
  · rw [if_pos hi, if_pos hi, Nat.testBit_and, Nat.testBit_shiftRight]
    by_cases hj : s + i < 8
    · rw [if_pos hj]
    · rw [if_neg hj]
      have : b.testBit i = false := by
        have h0 : (b * 2 ^ s).testBit (i + s) = b.testBit i := by rw [Nat.testBit_mul_two_pow]; simp
        rw [← h0]
        exact testBit_ge (w := 8) hs (by omega)
      rw [this]; simp
  · rw [if_neg hi, if_neg (by omega), if_neg hi, Nat.testBit_and, Nat.testBit_shiftRight]
    congr 2; omega

/-- The three sums within bytes, on one byte. -/
def pb1 (b : Nat) : Nat := ((b >>> 1) &&& 85) + (b &&& 85)
def pb2 (b : Nat) : Nat := ((pb1 b >>> 2) &&& 51) + (pb1 b &&& 51)
def pb3 (b : Nat) : Nat := (pb2 b >>> 4) + pb2 b &&& 15
theorem pb_spec : ∀ b : Fin 256, pb1 b.1 < 256 ∧ pb2 b.1 < 69 ∧ pb2 b.1 % 16 ≤ 4 ∧ pb3 b.1 = cnt b.1.testBit 8 := by decide +kernel
/-- The masks, for n bytes. -/
def rep (m : Nat) : Nat → Nat
  | 0 => 0
  | n + 1 => m + 256 * rep m n
/-- A number of n bytes, the bytes mapped. -/
def bmap (f : Nat → Nat) : Nat → Nat → Nat
  | 0, _ => 0
  | n + 1, x => f (x % 256) + 256 * bmap f n (x / 256)
theorem split256 (x : Nat) : x = x % 256 + 256 * (x / 256) := by omega
theorem step1 (n x : Nat) (hx : x < 256 ^ n) : ((x >>> 1) &&& rep 85 n) + (x &&& rep 85 n) = bmap pb1 n x := by
  induction n generalizing x with
  | zero => simp at hx; subst hx; rfl
  | succ n ih =>
    have hd : x / 256 < 256 ^ n := by rw [Nat.div_lt_iff_lt_mul (by decide)]; rw [Nat.pow_succ] at hx; exact hx
    have hi := ih _ hd
    have hb : x % 256 < 256 := Nat.mod_lt _ (by decide)
    unfold rep bmap
    conv => lhs; rw [split256 x]
    rw [byte_shr hb (by decide), byte_and hb (by decide), ← hi]; unfold pb1; omega
theorem bmap_lt (n x : Nat) : ∀ (f : Nat → Nat), (∀ b, b < 256 → f b < 256) → bmap f n x < 256 ^ n := by
  induction n generalizing x with
  | zero => intro f h; simp [bmap]
  | succ n ih =>
    intro f h; unfold bmap
    have := ih (x / 256) f h
    have := h (x % 256) (Nat.mod_lt _ (by decide))
    rw [Nat.pow_succ]; omega
theorem pb_of (x : Nat) : pb1 (x % 256) < 256 ∧ pb2 (x % 256) < 69 ∧ pb2 (x % 256) % 16 ≤ 4 ∧ pb3 (x % 256) = cnt (x % 256).testBit 8 := pb_spec ⟨x % 256, Nat.mod_lt _ (by decide)⟩
theorem pb1_lt {b : Nat} (h : b < 256) : pb1 b < 256 := (pb_spec ⟨b, h⟩).1
theorem pb2_lt {b : Nat} (h : b < 256) : pb2 b < 69 := (pb_spec ⟨b, h⟩).2.1
theorem step2 (n x : Nat) : ((bmap pb1 n x >>> 2) &&& rep 51 n) + (bmap pb1 n x &&& rep 51 n) = bmap pb2 n x := by
  induction n generalizing x with
  | zero => simp [bmap, rep]
  | succ n ih =>
    have hi := ih (x / 256)
    have hb := pb1_lt (Nat.mod_lt x (show 256 > 0 by decide))
    unfold rep bmap
    rw [byte_shr hb (by decide), byte_and hb (by decide), ← hi]; unfold pb2; omega
theorem bmap2_mod (n x : Nat) : bmap pb2 n x % 16 ≤ 4 := by
  cases n with
  | zero => simp [bmap]
  | succ n =>
    have := (pb_of x).2.2.1
    unfold bmap; omega
theorem step3 (n x : Nat) : ((bmap pb2 n x >>> 4) + bmap pb2 n x) &&& rep 15 n = bmap pb3 n x := by
  induction n generalizing x with
  | zero => simp [bmap, rep]
  | succ n ih =>
    have hi := ih (x / 256)
    have hb := pb2_lt (Nat.mod_lt x (show 256 > 0 by decide))
    have hm := bmap2_mod n (x / 256)
    have hl := (pb_of x).2.2.1
    unfold rep bmap
    rw [← hi]
    unfold pb3
    rw [Nat.shiftRight_eq_div_pow, Nat.shiftRight_eq_div_pow, Nat.shiftRight_eq_div_pow, show 2 ^ 4 = 16 from rfl]
    generalize hA : bmap pb2 n (x / 256) = A at *
    generalize pb2 (x % 256) = b at *
    have e : (b + 256 * A) / 16 + (b + 256 * A) = (b / 16 + b + 16 * (A % 16)) + 256 * (A / 16 + A) := by omega
    rw [e, byte_and (by omega) (by decide)]
    congr 1
    rw [show 15 = 2 ^ 4 - 1 from rfl, and_mask, and_mask]; omega
theorem cnt_byte (x m : Nat) : cnt x.testBit (8 + m) = pb3 (x % 256) + cnt (x / 256).testBit m := by
  rw [cnt_add, (pb_of x).2.2.2]
  congr 1
  · apply cnt_congr; intro i hi
    rw [show 256 = 2 ^ 8 from rfl, Nat.testBit_mod_two_pow]; simp [hi]
  · apply cnt_congr; intro i hi
    rw [show 256 = 2 ^ 8 from rfl, Nat.testBit_div_two_pow]
    congr 1; omega
theorem ones_bytes (x : Nat) : ones x = pb3 (x % 256) + (pb3 (x / 256 % 256) + (pb3 (x / 256 / 256 % 256) + (pb3 (x / 256 / 256 / 256 % 256) + (pb3 (x / 256 / 256 / 256 / 256 % 256) + (pb3 (x / 256 / 256 / 256 / 256 / 256 % 256) + (pb3 (x / 256 / 256 / 256 / 256 / 256 / 256 % 256) + pb3 (x / 256 / 256 / 256 / 256 / 256 / 256 / 256 % 256))))))) := by
  unfold ones
  rw [show 64 = 8 + (8 + (8 + (8 + (8 + (8 + (8 + (8 + 0))))))) from rfl]
  simp only [cnt_byte]
  rfl
theorem pb3_le (x : Nat) : pb3 (x % 256) ≤ 8 := by
  rw [(pb_of x).2.2.2]; exact cnt_le _ _
theorem rep85 : rep 85 8 = 6148914691236517205 := by simp [rep]
theorem rep51 : rep 51 8 = 3689348814741910323 := by simp [rep]
theorem rep15 : rep 15 8 = 1085102592571150095 := by simp [rep]
theorem bm1_lt (x : Nat) : bmap pb1 8 x < 18446744073709551616 := bmap_lt 8 x pb1 (fun b h => pb1_lt h)
theorem bm2_lt (x : Nat) : bmap pb2 8 x < 18446744073709551616 := bmap_lt 8 x pb2 (fun b h => by have := pb2_lt h; omega)
theorem bm2_third (n y : Nat) : bmap pb2 n y * 3 < 256 ^ n ∨ n = 0 := by
  induction n generalizing y with
  | zero => exact .inr rfl
  | succ n ih =>
    left
    have h1 := pb2_lt (Nat.mod_lt y (show 256 > 0 by decide))
    have h2 := ih (y / 256)
    unfold bmap
    rcases h2 with h2 | h2
    · rw [Nat.pow_succ]; omega
    · subst h2; simp [bmap]; omega
theorem sw1 {x : Nat} (hx : x < 18446744073709551616) : IntKind.u64.wrap (Go.bits .and .u64 (shr .u64 (x : Int) 1) 6148914691236517205 + Go.bits .and .u64 (x : Int) 6148914691236517205) = (bmap pb1 8 x : Int) := by
  have l : rep 85 8 < 18446744073709551616 := by rw [rep85]; decide
  rw [show (1 : Int) = ((1 : Nat) : Int) from rfl, shr64 hx, show (6148914691236517205 : Int) = ((rep 85 8 : Nat) : Int) by rw [rep85]; rfl, and64 (Nat.lt_of_le_of_lt (shr_le _ _) hx) l, and64 hx l, wrapu_add, step1 8 x hx, Nat.mod_eq_of_lt (bm1_lt x)]
theorem sw2 (x : Nat) : IntKind.u64.wrap (Go.bits .and .u64 (shr .u64 (bmap pb1 8 x : Int) 2) 3689348814741910323 + Go.bits .and .u64 (bmap pb1 8 x : Int) 3689348814741910323) = (bmap pb2 8 x : Int) := by
  have l : rep 51 8 < 18446744073709551616 := by rw [rep51]; decide
  rw [show (2 : Int) = ((2 : Nat) : Int) from rfl, shr64 (bm1_lt x), show (3689348814741910323 : Int) = ((rep 51 8 : Nat) : Int) by rw [rep51]; rfl, and64 (Nat.lt_of_le_of_lt (shr_le _ _) (bm1_lt x)) l, and64 (bm1_lt x) l, wrapu_add, step2, Nat.mod_eq_of_lt (bm2_lt x)]
theorem sw3 (x : Nat) : Go.bits .and .u64 (IntKind.u64.wrap (shr .u64 (bmap pb2 8 x : Int) 4 + (bmap pb2 8 x : Int))) 1085102592571150095 = (bmap pb3 8 x : Int) := by
  have l : rep 15 8 < 18446744073709551616 := by rw [rep15]; decide
  have h := (bm2_third 8 x).resolve_right (by decide)
  have b : bmap pb2 8 x >>> 4 + bmap pb2 8 x < 18446744073709551616 := by
    rw [Nat.shiftRight_eq_div_pow]
    rw [show 256 ^ 8 = 18446744073709551616 from rfl] at h
    omega
  rw [show (4 : Int) = ((4 : Nat) : Int) from rfl, shr64 (bm2_lt x), wrapu_add, Nat.mod_eq_of_lt b, show (1085102592571150095 : Int) = ((rep 15 8 : Nat) : Int) by rw [rep15]; rfl, and64 b l, step3]
theorem sw4 {z n : Nat} (hz : z + z / 2 ^ n < 18446744073709551616) : IntKind.u64.wrap ((z : Int) + shr .u64 (z : Int) (n : Int)) = ((z + z / 2 ^ n : Nat) : Int) := by
  rw [shr64 (Nat.lt_of_le_of_lt (Nat.le_add_right _ _) hz), wrapu_add, Nat.shiftRight_eq_div_pow, Nat.mod_eq_of_lt hz]
theorem sw5 {u : Nat} (h : u < 9223372036854775808) : Go.bits .and .i64 (IntKind.i64.wrap (u : Int)) 127 = ((u % 128 : Nat) : Int) := by
  have ew : IntKind.i64.wrap (u : Int) = (u : Int) := by rw [wrapi, wrapi_of (by omega) (by omega)]
  have hu8 : u < 18446744073709551616 := by omega
  rw [ew]
  simp only [Go.bits, BitVec.ofInt_natCast, BitVec.toNat_and, BitVec.toNat_ofNat]
  have h1 : u % 2 ^ IntKind.bits .i64 = u := mod_bits hu8
  have h2 : (BitVec.ofInt (IntKind.bits .i64) 127).toNat = 127 := by decide
  rw [h1, h2, show 127 = 2 ^ 7 - 1 from rfl, and_mask, wrapi, wrapi_of (by omega) (by omega)]
theorem bm3_eq (x : Nat) : bmap pb3 8 x = pb3 (x % 256) + 256 * (pb3 (x / 256 % 256) + 256 * (pb3 (x / 256 / 256 % 256) + 256 * (pb3 (x / 256 / 256 / 256 % 256) + 256 * (pb3 (x / 256 / 256 / 256 / 256 % 256) + 256 * (pb3 (x / 256 / 256 / 256 / 256 / 256 % 256) + 256 * (pb3 (x / 256 / 256 / 256 / 256 / 256 / 256 % 256) + 256 * (pb3 (x / 256 / 256 / 256 / 256 / 256 / 256 / 256 % 256) + 256 * 0))))))) := by simp only [bmap]
theorem sw6 {c0 c1 c2 c3 c4 c5 c6 c7 z y v u : Nat} (g0 : c0 ≤ 8) (g1 : c1 ≤ 8) (g2 : c2 ≤ 8) (g3 : c3 ≤ 8) (g4 : c4 ≤ 8) (g5 : c5 ≤ 8) (g6 : c6 ≤ 8) (g7 : c7 ≤ 8)
    (hz : z = c0 + 256 * (c1 + 256 * (c2 + 256 * (c3 + 256 * (c4 + 256 * (c5 + 256 * (c6 + 256 * (c7 + 256 * 0)))))))) (hy : y = z + z / 256) (hv : v = y + y / 65536) (hu : u = v + v / 4294967296) :
    y < 18446744073709551616 ∧ v < 18446744073709551616 ∧ u < 9223372036854775808 ∧ u % 128 = c0 + (c1 + (c2 + (c3 + (c4 + (c5 + (c6 + c7)))))) := by
  obtain ⟨t7, h7⟩ : ∃ t, t = c7 + 256 * 0 := ⟨_, rfl⟩
  obtain ⟨t6, h6⟩ : ∃ t, t = c6 + 256 * t7 := ⟨_, rfl⟩
  obtain ⟨t5, h5⟩ : ∃ t, t = c5 + 256 * t6 := ⟨_, rfl⟩
  obtain ⟨t4, h4⟩ : ∃ t, t = c4 + 256 * t5 := ⟨_, rfl⟩
  obtain ⟨t3, h3⟩ : ∃ t, t = c3 + 256 * t4 := ⟨_, rfl⟩
  obtain ⟨t2, h2⟩ : ∃ t, t = c2 + 256 * t3 := ⟨_, rfl⟩
  obtain ⟨t1, h1⟩ : ∃ t, t = c1 + 256 * t2 := ⟨_, rfl⟩
  rw [← h7, ← h6, ← h5, ← h4, ← h3, ← h2, ← h1] at hz
  have a1 : z / 256 = t1 := by rw [hz]; omega
  rw [a1] at hy
  have a2 : y / 65536 = t2 + t3 := by rw [hy, hz, h1, h2]; omega
  rw [a2] at hv
  have a3 : v / 4294967296 = t4 + t5 + t6 + t7 := by
    rw [hv, hy, hz, h1, h2, h3, h4, h5, h6]; clear hz hy hv hu a1 a2; omega
  rw [a3] at hu
  clear a1 a2 a3
  have b : t5 < 16777216 := by omega
  refine ⟨by omega, by omega, by omega, ?_⟩
  have e : u = c0 + (c1 + (c2 + (c3 + (c4 + (c5 + (c6 + c7)))))) + 128 * (2 * (t1 + t2 + t3 + t4 + t5 + t6 + t7)) := by
    omega
  rw [e, Nat.add_mul_mod_self_left, Nat.mod_eq_of_lt (by omega)]
theorem swar {x : Nat} (hx : x < 18446744073709551616) : bits_OnesCount64.f (x : Int) = some (ones x : Int) := by
  unfold bits_OnesCount64.f
  rw [sw1 hx, sw2, sw3]
  obtain ⟨z, hz⟩ : ∃ z, bmap pb3 8 x = z := ⟨_, rfl⟩
  obtain ⟨y, hy⟩ : ∃ y, y = z + z / 256 := ⟨_, rfl⟩
  obtain ⟨v, hv⟩ : ∃ v, v = y + y / 65536 := ⟨_, rfl⟩
  obtain ⟨u, hu⟩ : ∃ u, u = v + v / 4294967296 := ⟨_, rfl⟩
  have e := bm3_eq x
  rw [hz] at e
  obtain ⟨l1, l2, l3, l4⟩ := sw6 (pb3_le x) (pb3_le (x / 256)) (pb3_le (x / 256 / 256)) (pb3_le (x / 256 / 256 / 256)) (pb3_le (x / 256 / 256 / 256 / 256)) (pb3_le (x / 256 / 256 / 256 / 256 / 256)) (pb3_le (x / 256 / 256 / 256 / 256 / 256 / 256)) (pb3_le (x / 256 / 256 / 256 / 256 / 256 / 256 / 256)) e hy hv hu
  rw [hz, show (8 : Int) = ((8 : Nat) : Int) from rfl, show (16 : Int) = ((16 : Nat) : Int) from rfl, show (32 : Int) = ((32 : Nat) : Int) from rfl]
  rw [sw4 (z := z) (n := 8) (by rw [show 2 ^ 8 = 256 from rfl, ← hy]; exact l1), show z + z / 2 ^ 8 = y from hy.symm]
  rw [sw4 (z := y) (n := 16) (by rw [show 2 ^ 16 = 65536 from rfl, ← hv]; exact l2), show y + y / 2 ^ 16 = v from hv.symm]
  rw [sw4 (z := v) (n := 32) (by rw [show 2 ^ 32 = 4294967296 from rfl, ← hu]; omega), show v + v / 2 ^ 32 = u from hu.symm]
  rw [sw5 l3, l4, ones_bytes]
theorem bits_Count_eq {x : Nat} (hx : x < 18446744073709551616) : bits_Count.f (x : Int) = some (ones x : Int) := by
  unfold bits_Count.f; rw [swar hx]; rfl
end Go.Proofs.YtcihbcffokjgjaaGreat.Fn
