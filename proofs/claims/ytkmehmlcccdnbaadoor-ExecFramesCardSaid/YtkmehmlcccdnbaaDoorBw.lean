/- Bit vectors as whole numbers: what Go's operations on uint64 and int64 come to, and the words in which the proofs of this seat say what the functions return. Plain arithmetic: no program and no memory. -/
import Derived.Test.YtkmehmlcccdnbaaDoorEvC
import Derived.Laws.BitsLemmas
namespace Go.Proofs.YtkmehmlcccdnbaaDoor.Bv
open Go Go.RowKit Go.Proofs.YtkmehmlcccdnbaaDoor.Ev
set_option linter.unusedVariables false

theorem shr_eq (k : IntKind) (x y : Int) : shr k x y = x / 2 ^ min y.toNat k.bits := by
  unfold shr
  exact Int.fdiv_eq_ediv_of_nonneg _ (Int.le_of_lt (Int.pow_pos (by decide)))
theorem wrapi (a : Int) : IntKind.i64.wrap a = wrap64 a := by simp only [IntKind.wrap, IntKind.bits, IntKind.signed, wrap64]; simp <;> omega
theorem p64 : (2 : Nat) ^ 64 = 18446744073709551616 := by rfl
theorem p63 : (2 : Nat) ^ 63 = 9223372036854775808 := by rfl
theorem pow_cast (n : Nat) : (2 : Int) ^ n = ((2 ^ n : Nat) : Int) := by rw [Int.natCast_pow]; rfl

/-! ### widths -/
def W (a : Int) : Nat := (mn (mx a 1) 64).toNat
theorem W_pos (a : Int) : 1 ≤ W a := by unfold W mn mx; repeat' split <;> omega
theorem W_le (a : Int) : W a ≤ 64 := by unfold W mn mx; repeat' split <;> omega
theorem W_int (a : Int) : mn (mx a 1) 64 = (W a : Int) := by unfold W mn mx; repeat' split <;> omega
theorem W_of {n : Nat} (h1 : 1 ≤ n) (h2 : n ≤ 64) : W (n : Int) = n := by unfold W mn mx; repeat' split <;> omega
theorem W_of' {a : Int} (h1 : 1 ≤ a) (h2 : a ≤ 64) : (W a : Int) = a := by unfold W mn mx; repeat' split <;> omega
theorem pw_le {w : Nat} (h : w ≤ 64) : 2 ^ w ≤ 18446744073709551616 := by
  have := Nat.pow_le_pow_right (n := 2) (by decide) h
  rw [p64] at this; exact this
theorem pw_pos (w : Nat) : 0 < 2 ^ w := Nat.two_pow_pos w
theorem mod_lt64 {w : Nat} (x : Nat) (h : w ≤ 64) : x % 2 ^ w < 18446744073709551616 := Nat.lt_of_lt_of_le (Nat.mod_lt _ (pw_pos w)) (pw_le h)
theorem lt_pw {x : Nat} (h : x < 18446744073709551616) : x < 2 ^ 64 := by rw [p64]; exact h

/-! ### Go's numbers -/
theorem u64_of {a : Int} (h : (Lit.int .u64 a).wf = true) : ∃ n : Nat, a = (n : Int) ∧ n < 18446744073709551616 := by
  simp [Lit.wf, IntKind.min, IntKind.max, IntKind.signed, IntKind.bits] at h
  exact ⟨a.toNat, by omega, by omega⟩
theorem i64_of {a : Int} (h : (Lit.int .i64 a).wf = true) : -9223372036854775808 ≤ a ∧ a ≤ 9223372036854775807 := by
  simp [Lit.wf, IntKind.min, IntKind.max, IntKind.signed, IntKind.bits] at h
  omega
theorem wrapu (a : Int) : IntKind.u64.wrap a = a % 18446744073709551616 := by simp [IntKind.wrap, IntKind.bits, IntKind.signed]
theorem wrapu_nat (n : Nat) : IntKind.u64.wrap (n : Int) = ((n % 18446744073709551616 : Nat) : Int) := by rw [wrapu]; omega
theorem wrapu_of {n : Nat} (h : n < 18446744073709551616) : IntKind.u64.wrap (n : Int) = (n : Int) := by rw [wrapu]; omega
theorem wrapi_of {a : Int} (h1 : -9223372036854775808 ≤ a) (h2 : a ≤ 9223372036854775807) : wrap64 a = a := by unfold wrap64; omega
theorem wrapi_succ {n : Nat} (h : n < 9223372036854775807) : wrap64 ((n : Int) + 1) = ((n + 1 : Nat) : Int) := by unfold wrap64; omega
theorem wrapi_64 (a : Int) : wrap64 (64 - (W a : Int)) = ((64 - W a : Nat) : Int) := by
  have := W_le a
  have := W_pos a
  unfold wrap64; omega
theorem wrapu_add (x y : Nat) : IntKind.u64.wrap ((x : Int) + (y : Int)) = (((x + y) % 18446744073709551616 : Nat) : Int) := by rw [wrapu]; omega
theorem wrapu_mul (x y : Nat) : IntKind.u64.wrap ((x : Int) * (y : Int)) = (((x * y) % 18446744073709551616 : Nat) : Int) := by
  rw [wrapu]; rw [← Int.natCast_mul]; omega
theorem wrapu_sub {x y : Nat} (hy : y < 18446744073709551616) : IntKind.u64.wrap ((x : Int) - (y : Int)) = (((x + (18446744073709551616 - y)) % 18446744073709551616 : Nat) : Int) := by rw [wrapu]; omega
theorem wrapu_sub_le {x y : Nat} (hx : x < 18446744073709551616) (hy : y ≤ x) : IntKind.u64.wrap ((x : Int) - (y : Int)) = ((x - y : Nat) : Int) := by rw [wrapu]; omega
theorem wrapu_neg {y : Nat} (hy : y < 18446744073709551616) : IntKind.u64.wrap (-(y : Int)) = (((18446744073709551616 - y) % 18446744073709551616 : Nat) : Int) := by rw [wrapu]; omega

theorem mod_bits {x : Nat} (hx : x < 18446744073709551616) : x % 2 ^ IntKind.bits .u64 = x := Nat.mod_eq_of_lt (lt_pw hx)
theorem and64 {x y : Nat} (hx : x < 18446744073709551616) (hy : y < 18446744073709551616) : Go.bits .and .u64 (x : Int) (y : Int) = ((x &&& y : Nat) : Int) := by
  simp only [Go.bits, BitVec.ofInt_natCast, BitVec.toNat_and, BitVec.toNat_ofNat, mod_bits hx, mod_bits hy]
  exact wrapu_of (by rw [← p64]; exact Nat.and_lt_two_pow _ (lt_pw hy))
theorem or64 {x y : Nat} (hx : x < 18446744073709551616) (hy : y < 18446744073709551616) : Go.bits .or .u64 (x : Int) (y : Int) = ((x ||| y : Nat) : Int) := by
  simp only [Go.bits, BitVec.ofInt_natCast, BitVec.toNat_or, BitVec.toNat_ofNat, mod_bits hx, mod_bits hy]
  exact wrapu_of (by rw [← p64]; exact Nat.or_lt_two_pow (lt_pw hx) (lt_pw hy))
theorem xor64 {x y : Nat} (hx : x < 18446744073709551616) (hy : y < 18446744073709551616) : Go.bits .xor .u64 (x : Int) (y : Int) = ((x ^^^ y : Nat) : Int) := by
  simp only [Go.bits, BitVec.ofInt_natCast, BitVec.toNat_xor, BitVec.toNat_ofNat, mod_bits hx, mod_bits hy]
  exact wrapu_of (by rw [← p64]; exact Nat.xor_lt_two_pow (lt_pw hx) (lt_pw hy))
theorem andNot64 {x y : Nat} (hx : x < 18446744073709551616) (hy : y < 18446744073709551616) : Go.bits .andNot .u64 (x : Int) (y : Int) = ((x &&& (18446744073709551615 - y) : Nat) : Int) := by
  simp only [Go.bits, BitVec.ofInt_natCast, BitVec.toNat_and, BitVec.toNat_not, BitVec.toNat_ofNat, mod_bits hx, mod_bits hy]
  rw [show (2 : Nat) ^ IntKind.bits .u64 - 1 - y = 18446744073709551615 - y from rfl]
  exact wrapu_of (Nat.lt_of_le_of_lt Nat.and_le_left hx)
theorem shl64 (x n : Nat) : shl .u64 (x : Int) (n : Int) = (((x <<< n) % 18446744073709551616 : Nat) : Int) := by
  unfold shl
  rw [wrapu]
  have e : (IntKind.bits .u64) = 64 := rfl
  rw [e, Int.toNat_natCast, Nat.shiftLeft_eq]
  by_cases h : n ≤ 64
  · rw [Nat.min_eq_left h, pow_cast, ← Int.natCast_mul]; omega
  · rw [Nat.min_eq_right (by omega)]
    obtain ⟨d, rfl⟩ : ∃ d, n = 64 + d := ⟨n - 64, by omega⟩
    have h2 : x * 2 ^ (64 + d) = (x * 2 ^ d) * 18446744073709551616 := by rw [Nat.pow_add, p64, Nat.mul_comm (18446744073709551616), Nat.mul_assoc]
    rw [h2, pow_cast, ← Int.natCast_mul, p64, Nat.mul_mod_left]
    omega
theorem shr64 {x n : Nat} (hx : x < 18446744073709551616) : shr .u64 (x : Int) (n : Int) = ((x >>> n : Nat) : Int) := by
  rw [shr_eq]
  have e : (IntKind.bits .u64) = 64 := rfl
  rw [e, Int.toNat_natCast, Nat.shiftRight_eq_div_pow]
  by_cases h : n ≤ 64
  · rw [Nat.min_eq_left h, pow_cast, ← Int.natCast_ediv]
  · rw [Nat.min_eq_right (by omega)]
    have h1 : x / 2 ^ n = 0 := Nat.div_eq_of_lt (Nat.lt_of_lt_of_le (lt_pw hx) (Nat.pow_le_pow_right (by decide) (by omega)))
    have h2 : x / 2 ^ 64 = 0 := Nat.div_eq_of_lt (lt_pw hx)
    rw [h1, pow_cast, ← Int.natCast_ediv, h2]

/-! ### bits one by one -/
theorem toNat_lt (b : Bool) : b.toNat < 18446744073709551616 := by cases b <;> decide
/-- The number whose bit i is f i, for each i below n. -/
def bld (f : Nat → Bool) : Nat → Nat
  | 0 => 0
  | n + 1 => bld f n ||| ((f n).toNat <<< n)
theorem testBit_toNat_shl (b : Bool) (n j : Nat) : (b.toNat <<< n).testBit j = (decide (n = j) && b) := by
  rw [Nat.testBit_shiftLeft, Nat.testBit_bool_toNat]
  by_cases h : n = j
  · subst h; simp
  · by_cases h2 : n ≤ j
    · have : ¬ (j - n = 0) := by omega
      simp [h, this]
    · simp [h, h2]
theorem testBit_bld (f : Nat → Bool) (n j : Nat) : (bld f n).testBit j = (decide (j < n) && f j) := by
  induction n with
  | zero => simp [bld]
  | succ n ih =>
    rw [bld, Nat.testBit_or, ih, testBit_toNat_shl]
    by_cases h : n = j
    · subst h; simp
    · by_cases h2 : j < n
      · have : j < n + 1 := by omega
        simp [h, h2, this]
      · have : ¬ j < n + 1 := by omega
        simp [h, h2, this]
theorem bld_lt (f : Nat → Bool) (n : Nat) : bld f n < 2 ^ n :=
  Nat.lt_pow_two_of_testBit _ (fun i hi => by rw [testBit_bld]; simp; omega)
theorem bld_lt64 (f : Nat → Bool) {n : Nat} (h : n ≤ 64) : bld f n < 18446744073709551616 := Nat.lt_of_lt_of_le (bld_lt f n) (pw_le h)
theorem bld_congr {f g : Nat → Bool} {n : Nat} (h : ∀ i, i < n → f i = g i) : bld f n = bld g n := by
  apply Nat.eq_of_testBit_eq
  intro i
  rw [testBit_bld, testBit_bld]
  by_cases hi : i < n
  · simp [hi, h i hi]
  · simp [hi]
theorem bld_eq {f : Nat → Bool} {n x : Nat} (hx : x < 2 ^ n) (h : ∀ i, i < n → f i = x.testBit i) : bld f n = x := by
  apply Nat.eq_of_testBit_eq
  intro i
  rw [testBit_bld]
  by_cases hi : i < n
  · simp [hi, h i hi]
  · rw [Nat.testBit_lt_two_pow (Nat.lt_of_lt_of_le hx (Nat.pow_le_pow_right (by decide) (by omega)))]
    simp [hi]
/-- One round of a loop that sets bit i. -/
theorem bld_step (f : Nat → Bool) {i : Nat} (hi : i < 64) : Go.bits .or .u64 ((bld f i : Nat) : Int) (shl .u64 (((f i).toNat : Nat) : Int) (i : Int)) = ((bld f (i + 1) : Nat) : Int) := by
  have h1 : ((f i).toNat <<< i) < 2 ^ 64 := Nat.lt_pow_two_of_testBit _ (fun j hj => by rw [testBit_toNat_shl]; simp; omega)
  rw [shl64, Nat.mod_eq_of_lt (by rw [← p64]; exact h1), or64 (bld_lt64 f (by omega)) (by rw [← p64]; exact h1)]
  rfl

/-! ### the operations -/
def vmask (w : Nat) : Nat := 2 ^ w - 1
def vcut (w x : Nat) : Nat := x % 2 ^ w
def sgn (w x : Nat) : Int := if x.testBit (w - 1) then ((x % 2 ^ w : Nat) : Int) - ((2 ^ w : Nat) : Int) else ((x % 2 ^ w : Nat) : Int)
def vnot (w a : Nat) : Nat := 2 ^ w - 1 - a % 2 ^ w
def vand (w a b : Nat) : Nat := (a &&& b) % 2 ^ w
def vor (w a b : Nat) : Nat := (a ||| b) % 2 ^ w
def vxor (w a b : Nat) : Nat := (a ^^^ b) % 2 ^ w
def vadd (w a b : Nat) : Nat := (a + b) % 2 ^ w
def vneg (w a : Nat) : Nat := (2 ^ w - a % 2 ^ w) % 2 ^ w
def vsub (w a b : Nat) : Nat := (a + (2 ^ w - b % 2 ^ w)) % 2 ^ w
def vmul (w a b : Nat) : Nat := (a * b) % 2 ^ w
def vudiv (w a b : Nat) : Nat := if b % 2 ^ w = 0 then 2 ^ w - 1 else (a % 2 ^ w) / (b % 2 ^ w)
def vurem (w a b : Nat) : Nat := if b % 2 ^ w = 0 then a % 2 ^ w else (a % 2 ^ w) % (b % 2 ^ w)
def vshl (w a b : Nat) : Nat := (a <<< (b % 2 ^ w)) % 2 ^ w
def vlshr (w a b : Nat) : Nat := (a % 2 ^ w) >>> (b % 2 ^ w)
def vashr (w a b : Nat) : Nat := if a.testBit (w - 1) then 2 ^ w - 1 - ((2 ^ w - 1 - a % 2 ^ w) >>> (b % 2 ^ w)) else (a % 2 ^ w) >>> (b % 2 ^ w)
def veq (w a b : Nat) : Nat := if a % 2 ^ w = b % 2 ^ w then 1 else 0
def vult (w a b : Nat) : Nat := if a % 2 ^ w < b % 2 ^ w then 1 else 0
def vslt (w a b : Nat) : Nat := if sgn w a < sgn w b then 1 else 0
def vconcat (v w a b : Nat) : Nat := (((a % 2 ^ v) <<< w) % 2 ^ 64) ||| (b % 2 ^ w)
def vextract (low w x : Nat) : Nat := (x >>> low) % 2 ^ w
def vsext (v w x : Nat) : Nat := bld (fun i => x.testBit (min i (v - 1))) w

theorem sub_lt_pw (w x : Nat) : 2 ^ w - 1 - x < 2 ^ w := by have := pw_pos w; omega
theorem vmask_lt {w : Nat} (h : w ≤ 64) : vmask w < 18446744073709551616 := by have := pw_le h; have := pw_pos w; unfold vmask; omega
theorem vcut_lt {w : Nat} (x : Nat) (h : w ≤ 64) : vcut w x < 18446744073709551616 := mod_lt64 x h
theorem vnot_lt {w : Nat} (x : Nat) (h : w ≤ 64) : vnot w x < 18446744073709551616 := by have := pw_le h; have := pw_pos w; unfold vnot; omega
theorem vand_lt {w : Nat} (a b : Nat) (h : w ≤ 64) : vand w a b < 18446744073709551616 := mod_lt64 _ h
theorem vor_lt {w : Nat} (a b : Nat) (h : w ≤ 64) : vor w a b < 18446744073709551616 := mod_lt64 _ h
theorem vxor_lt {w : Nat} (a b : Nat) (h : w ≤ 64) : vxor w a b < 18446744073709551616 := mod_lt64 _ h
theorem vadd_lt {w : Nat} (a b : Nat) (h : w ≤ 64) : vadd w a b < 18446744073709551616 := mod_lt64 _ h
theorem vneg_lt {w : Nat} (a : Nat) (h : w ≤ 64) : vneg w a < 18446744073709551616 := mod_lt64 _ h
theorem vsub_lt {w : Nat} (a b : Nat) (h : w ≤ 64) : vsub w a b < 18446744073709551616 := mod_lt64 _ h
theorem vmul_lt {w : Nat} (a b : Nat) (h : w ≤ 64) : vmul w a b < 18446744073709551616 := mod_lt64 _ h
theorem vudiv_lt {w : Nat} (a b : Nat) (h : w ≤ 64) : vudiv w a b < 18446744073709551616 := by
  unfold vudiv; split
  · exact vmask_lt h
  · exact Nat.lt_of_le_of_lt (Nat.div_le_self _ _) (mod_lt64 _ h)
theorem vurem_lt {w : Nat} (a b : Nat) (h : w ≤ 64) : vurem w a b < 18446744073709551616 := by
  unfold vurem; split
  · exact mod_lt64 _ h
  · exact Nat.lt_of_le_of_lt (Nat.mod_le _ _) (mod_lt64 _ h)
theorem vshl_lt {w : Nat} (a b : Nat) (h : w ≤ 64) : vshl w a b < 18446744073709551616 := mod_lt64 _ h
theorem shr_le (x n : Nat) : x >>> n ≤ x := by rw [Nat.shiftRight_eq_div_pow]; exact Nat.div_le_self _ _
theorem vlshr_lt {w : Nat} (a b : Nat) (h : w ≤ 64) : vlshr w a b < 18446744073709551616 := Nat.lt_of_le_of_lt (shr_le _ _) (mod_lt64 _ h)
theorem vashr_lt {w : Nat} (a b : Nat) (h : w ≤ 64) : vashr w a b < 18446744073709551616 := by
  unfold vashr; split
  · have := pw_le h; have := pw_pos w
    generalize (2 ^ w - 1 - a % 2 ^ w) >>> (b % 2 ^ w) = t
    omega
  · exact Nat.lt_of_le_of_lt (shr_le _ _) (mod_lt64 _ h)
theorem vconcat_lt {v w : Nat} (a b : Nat) (h : w ≤ 64) : vconcat v w a b < 18446744073709551616 := by
  unfold vconcat; rw [← p64]
  exact Nat.or_lt_two_pow (Nat.mod_lt _ (pw_pos _)) (lt_pw (mod_lt64 _ h))
theorem vextract_lt {w : Nat} (a b : Nat) (h : w ≤ 64) : vextract a w b < 18446744073709551616 := mod_lt64 _ h
theorem vsext_lt {w : Nat} (v x : Nat) (h : w ≤ 64) : vsext v w x < 18446744073709551616 := bld_lt64 _ h

theorem and_mask (x : Nat) (w : Nat) : x &&& (2 ^ w - 1) = x % 2 ^ w := Nat.and_two_pow_sub_one_eq_mod x w
theorem mod64_mod {w : Nat} (h : w ≤ 64) (x : Nat) : x % 18446744073709551616 % 2 ^ w = x % 2 ^ w := by
  have : 2 ^ w ∣ 18446744073709551616 := by rw [← p64]; exact Nat.pow_dvd_pow 2 h
  exact Nat.mod_mod_of_dvd x this
theorem testBit_vnot (w a i : Nat) : (vnot w a).testBit i = (decide (i < w) && !a.testBit i) := by
  unfold vnot
  have h1 := Nat.mod_lt a (pw_pos w)
  have e : 2 ^ w - 1 - a % 2 ^ w = 2 ^ w - (a % 2 ^ w + 1) := by omega
  rw [e, Nat.testBit_two_pow_sub_succ h1, Nat.testBit_mod_two_pow]
  by_cases h : i < w <;> simp [h]
theorem vnot_lt' (w a : Nat) : vnot w a < 2 ^ w := sub_lt_pw w _
theorem testBit_ge {x w i : Nat} (h : x < 2 ^ w) (hi : w ≤ i) : x.testBit i = false := Nat.testBit_lt_two_pow (Nat.lt_of_lt_of_le h (Nat.pow_le_pow_right (by decide) hi))
/-- a + b, bit by bit apart. -/
theorem add_disjoint (a : Nat) : ∀ b, a &&& b = 0 → a + b = a ||| b := by
  induction a using Nat.strongRecOn with
  | ind a ih =>
    intro b h
    by_cases ha : a = 0
    · subst ha; simp
    · have hd : (a / 2) &&& (b / 2) = 0 := by rw [← Nat.and_div_two, h]
      have h1 := ih (a / 2) (by omega) (b / 2) hd
      have hm : a % 2 = 0 ∨ b % 2 = 0 := by
        have hh : ¬ ((a &&& b) % 2 = 1) := by rw [h]; decide
        rw [Nat.and_mod_two_eq_one] at hh
        omega
      have h2 : (a ||| b) / 2 = a / 2 ||| b / 2 := Nat.or_div_two
      have h3 : ((a ||| b) % 2 = 1) ↔ (a % 2 = 1 ∨ b % 2 = 1) := Nat.or_mod_two_eq_one
      omega
theorem and_add_xor (a b : Nat) : (a &&& b) + (a ^^^ b) = a ||| b := by
  rw [add_disjoint]
  · apply Nat.eq_of_testBit_eq; intro i
    simp only [Nat.testBit_or, Nat.testBit_and, Nat.testBit_xor]
    cases a.testBit i <;> cases b.testBit i <;> rfl
  · apply Nat.eq_of_testBit_eq; intro i
    simp only [Nat.testBit_and, Nat.testBit_xor, Nat.zero_testBit]
    cases a.testBit i <;> cases b.testBit i <;> rfl
theorem vor_eq (w a b : Nat) : vnot w (vand w (vnot w a) (vnot w b)) = vor w a b := by
  apply Nat.eq_of_testBit_eq; intro i
  rw [testBit_vnot]
  unfold vand vor
  simp only [Nat.testBit_mod_two_pow, Nat.testBit_and, Nat.testBit_or, testBit_vnot]
  by_cases h : i < w <;> simp [h]
theorem vxor_eq (w a b : Nat) : vor w a b - vand w a b = vxor w a b := by
  have h := and_add_xor (a % 2 ^ w) (b % 2 ^ w)
  unfold vor vand vxor
  rw [Nat.or_mod_two_pow, Nat.and_mod_two_pow, Nat.xor_mod_two_pow]
  omega
theorem vand_le_vor (w a b : Nat) : vand w a b ≤ vor w a b := by
  have h := and_add_xor (a % 2 ^ w) (b % 2 ^ w)
  unfold vor vand
  rw [Nat.or_mod_two_pow, Nat.and_mod_two_pow]
  omega
theorem two_pow_pred {w : Nat} (h : 1 ≤ w) : 2 ^ w = 2 * 2 ^ (w - 1) := by
  obtain ⟨v, rfl⟩ : ∃ v, w = v + 1 := ⟨w - 1, by omega⟩
  rw [Nat.pow_succ, Nat.add_sub_cancel, Nat.mul_comm]
theorem testBit_top {w x : Nat} (h : 1 ≤ w) : x.testBit (w - 1) = decide (2 ^ (w - 1) ≤ x % 2 ^ w) := by
  have h1 : (x % 2 ^ w).testBit (w - 1) = x.testBit (w - 1) := by
    rw [Nat.testBit_mod_two_pow]; have : w - 1 < w := by omega
    simp [this]
  rw [← h1]
  have hlt := Nat.mod_lt x (pw_pos w)
  have hp := two_pow_pred h
  by_cases hle : 2 ^ (w - 1) ≤ x % 2 ^ w
  · simp only [hle, decide_true]
    apply Nat.testBit_of_two_pow_le_and_two_pow_add_one_gt hle
    have : w - 1 + 1 = w := by omega
    rw [this]; exact hlt
  · simp only [hle, decide_false]
    exact Nat.testBit_lt_two_pow (by omega)
theorem sgn_lo {w x : Nat} (h : 1 ≤ w) : -((2 ^ (w - 1) : Nat) : Int) ≤ sgn w x ∧ sgn w x < ((2 ^ (w - 1) : Nat) : Int) := by
  unfold sgn
  have hp := two_pow_pred h
  have hlt := Nat.mod_lt x (pw_pos w)
  rw [testBit_top h]
  generalize x % 2 ^ w = r at *
  generalize 2 ^ w = P at *
  generalize 2 ^ (w - 1) = H at *
  by_cases hle : H ≤ r
  · simp only [hle, decide_true, if_true]; omega
  · rw [if_neg (by simpa using hle)]; omega
theorem sgn_range {w x : Nat} (h : 1 ≤ w) (h2 : w ≤ 64) : -9223372036854775808 ≤ sgn w x ∧ sgn w x ≤ 9223372036854775807 := by
  have h1 := sgn_lo (x := x) h
  have h3 : 2 ^ (w - 1) ≤ 9223372036854775808 := by rw [← p63]; exact Nat.pow_le_pow_right (by decide) (by omega)
  omega

theorem mask_shr {w : Nat} (h : w ≤ 64) : 18446744073709551615 >>> (64 - w) = vmask w := by
  unfold vmask
  have e : (18446744073709551615 : Nat) = 2 ^ 64 - 1 := by rw [p64]
  apply Nat.eq_of_testBit_eq; intro i
  rw [e, Nat.testBit_shiftRight, Nat.testBit_two_pow_sub_one, Nat.testBit_two_pow_sub_one]
  by_cases hi : i < w
  · have : 64 - w + i < 64 := by omega
    simp [hi, this]
  · have : ¬ 64 - w + i < 64 := by omega
    simp [hi, this]
/-- The signed value: shifted up and down again. -/
theorem signed_shifts {w x : Nat} (h1 : 1 ≤ w) (h2 : w ≤ 64) : shr .i64 (wrap64 (((x <<< (64 - w)) % 18446744073709551616 : Nat) : Int)) ((64 - w : Nat) : Int) = sgn w x := by
  have hb : (IntKind.bits .i64) = 64 := rfl
  rw [shr_eq]
  rw [hb, Int.toNat_natCast, Nat.min_eq_left (by omega), Nat.shiftLeft_eq]
  have hP : 2 ^ w * 2 ^ (64 - w) = 18446744073709551616 := by rw [← Nat.pow_add, ← p64]; congr 1; omega
  have hH : 2 ^ (w - 1) * 2 ^ (64 - w) = 9223372036854775808 := by rw [← Nat.pow_add, ← p63]; congr 1; omega
  rw [← hP, Nat.mul_mod_mul_right]
  unfold sgn
  rw [testBit_top h1]
  have hp := two_pow_pred h1
  have hlt := Nat.mod_lt x (pw_pos w)
  have hq := pw_pos (64 - w)
  generalize x % 2 ^ w = r at *
  generalize 2 ^ w = P at *
  generalize 2 ^ (w - 1) = H at *
  rw [pow_cast]
  generalize 2 ^ (64 - w) = q at *
  have hr : r * q < 18446744073709551616 := by rw [← hP]; exact Nat.mul_lt_mul_of_pos_right hlt hq
  by_cases hle : H ≤ r
  · simp only [hle, decide_true, if_true]
    have h3 : 9223372036854775808 ≤ r * q := by rw [← hH]; exact Nat.mul_le_mul_right q hle
    have : wrap64 ((r * q : Nat) : Int) = ((r : Int) - (P : Int)) * (q : Int) := by
      rw [Int.sub_mul, ← Int.natCast_mul, ← Int.natCast_mul, hP]
      unfold wrap64; omega
    rw [this, Int.mul_ediv_cancel _ (by omega)]
  · simp only [hle, decide_false]
    have h3 : r * q < 9223372036854775808 := by rw [← hH]; exact Nat.mul_lt_mul_of_pos_right (by omega) hq
    have : wrap64 ((r * q : Nat) : Int) = (r : Int) * (q : Int) := by
      rw [← Int.natCast_mul]
      unfold wrap64; omega
    rw [this, Int.mul_ediv_cancel _ (by omega)]
    simp

theorem tdiv_nat (m n : Nat) : Int.tdiv (m : Int) (n : Int) = ((m / n : Nat) : Int) := rfl
theorem tmod_nat (m n : Nat) : Int.tmod (m : Int) (n : Int) = ((m % n : Nat) : Int) := rfl
theorem wrapi_pred {w : Nat} (h1 : 1 ≤ w) (h2 : w ≤ 64) : wrap64 ((w : Int) - 1) = ((w - 1 : Nat) : Int) := by unfold wrap64; omega
theorem beq_nat (m n : Nat) : ((m : Int) == (n : Int)) = decide (m = n) := by
  by_cases h : m = n
  · subst h; simp
  · have : ¬ ((m : Int) = (n : Int)) := by omega
    simp [h, this]
theorem pw_dvd64 {w : Nat} (h : w ≤ 64) : 2 ^ w * 2 ^ (64 - w) = 18446744073709551616 := by rw [← Nat.pow_add, ← p64]; congr 1; omega
theorem sub_cut {w : Nat} (hw : w ≤ 64) (x : Nat) {y : Nat} (hy : y < 18446744073709551616) : vcut w ((x + (18446744073709551616 - y)) % 18446744073709551616) = vsub w x y := by
  unfold vcut vsub
  rw [mod64_mod hw]
  have hP := pw_dvd64 hw
  have hd := Nat.div_add_mod y (2 ^ w)
  have hm := Nat.mod_lt y (pw_pos w)
  generalize y / 2 ^ w = c at *
  generalize y % 2 ^ w = r at *
  generalize 2 ^ (64 - w) = q at *
  have hp := pw_pos w
  generalize 2 ^ w = P at *
  have hc : c < q := by
    apply Nat.lt_of_mul_lt_mul_left (a := P)
    omega
  obtain ⟨e, rfl⟩ : ∃ e, q = c + 1 + e := ⟨q - c - 1, by omega⟩
  have h3 : P * (c + 1 + e) = P * c + P + P * e := by rw [Nat.mul_add, Nat.mul_add, Nat.mul_one]
  rw [show x + (18446744073709551616 - y) = (x + (P - r)) + P * e by omega, Nat.add_mul_mod_self_left]
theorem testBit_all (i : Nat) : (18446744073709551615 : Nat).testBit i = decide (i < 64) := by
  have e : (18446744073709551615 : Nat) = 2 ^ 64 - 1 := by rw [p64]
  rw [e, Nat.testBit_two_pow_sub_one]
theorem not_cut {w x : Nat} (hw : w ≤ 64) : vcut w (18446744073709551615 ^^^ x) = vnot w x := by
  apply Nat.eq_of_testBit_eq; intro i
  rw [testBit_vnot]; unfold vcut
  rw [Nat.testBit_mod_two_pow, Nat.testBit_xor, testBit_all]
  by_cases h : i < w
  · have : i < 64 := by omega
    simp [h, this]
  · simp [h]
theorem far_shr (x : Nat) {w n : Nat} (h : w ≤ n) : (x % 2 ^ w) >>> n = 0 := by
  rw [Nat.shiftRight_eq_div_pow]
  exact Nat.div_eq_of_lt (Nat.lt_of_lt_of_le (Nat.mod_lt _ (pw_pos w)) (Nat.pow_le_pow_right (by decide) h))
theorem far_shl (x : Nat) {w n : Nat} (h : w ≤ n) : (x <<< n) % 2 ^ w = 0 := by
  obtain ⟨d, rfl⟩ : ∃ d, n = w + d := ⟨n - w, by omega⟩
  rw [Nat.shiftLeft_eq, Nat.pow_add, Nat.mul_left_comm, Nat.mul_mod_right]
theorem sgn_cut {w : Nat} (h : 1 ≤ w) (x : Nat) : sgn w (vcut w x) = sgn w x := by
  unfold sgn vcut
  rw [testBit_top h, testBit_top h, Nat.mod_mod]
theorem sgn_neg {w x : Nat} (h : 1 ≤ w) : sgn w x < 0 ↔ x.testBit (w - 1) = true := by
  have h5 := Nat.mod_lt x (pw_pos w)
  unfold sgn
  by_cases ht : x.testBit (w - 1)
  · rw [if_pos ht]; simp only [ht, iff_true]; omega
  · rw [if_neg ht]; simp only [ht]; simp; omega
theorem far_sub {w n : Nat} (x : Nat) (h : w ≤ n) : 2 ^ w - 1 - ((2 ^ w - 1 - x % 2 ^ w) >>> n) = vmask w := by
  have : (2 ^ w - 1 - x % 2 ^ w) >>> n = 0 := by
    rw [Nat.shiftRight_eq_div_pow]
    exact Nat.div_eq_of_lt (Nat.lt_of_lt_of_le (sub_lt_pw w _) (Nat.pow_le_pow_right (by decide) h))
  rw [this]; rfl
theorem signed_shr {w x n : Nat} (h1 : 1 ≤ w) (h2 : w ≤ 64) (ht : x.testBit (w - 1) = true) (hn : n < 64) : IntKind.u64.wrap (shr .i64 (sgn w x) (n : Int)) = ((18446744073709551615 - ((2 ^ w - 1 - x % 2 ^ w) >>> n) : Nat) : Int) := by
  have hb : (IntKind.bits .i64) = 64 := rfl
  have hlt := Nat.mod_lt x (pw_pos w)
  have h7 := pw_le h2
  rw [shr_eq]; unfold sgn
  rw [if_pos ht, hb, Int.toNat_natCast, Nat.min_eq_left (by omega), Nat.shiftRight_eq_div_pow]
  have hle := Nat.div_le_self (2 ^ w - 1 - x % 2 ^ w) (2 ^ n)
  generalize x % 2 ^ w = r at *
  generalize 2 ^ w = P at *
  have hq := pw_pos n
  rw [pow_cast]
  generalize 2 ^ n = q at *
  have e3 : (r : Int) - (P : Int) = -((P - 1 - r : Nat) : Int) - 1 := by omega
  have hm := Nat.div_add_mod (P - 1 - r) q
  have hml := Nat.mod_lt (P - 1 - r) hq
  generalize P - 1 - r = s at *
  generalize s / q = t at *
  generalize s % q = u at *
  have e4 : (r : Int) - (P : Int) = (q : Int) * (-(t : Int) - 1) + ((q - 1 - u : Nat) : Int) := by
    rw [e3, ← hm, Int.mul_sub, Int.mul_neg]
    rw [← Int.natCast_mul]; omega
  rw [e4, Int.mul_add_ediv_left _ _ (by omega), Int.ediv_eq_zero_of_lt (by omega) (by omega), wrapu]
  omega
theorem signed_shr_cut {w : Nat} (hw : w ≤ 64) {x n : Nat} : vcut w (18446744073709551615 - ((2 ^ w - 1 - x % 2 ^ w) >>> n)) = 2 ^ w - 1 - ((2 ^ w - 1 - x % 2 ^ w) >>> n) := by
  have hle := shr_le (2 ^ w - 1 - x % 2 ^ w) n
  have hs := sub_lt_pw w (x % 2 ^ w)
  generalize (2 ^ w - 1 - x % 2 ^ w) >>> n = t at *
  have hP := pw_dvd64 hw
  have hq := pw_pos (64 - w)
  unfold vcut
  generalize 2 ^ (64 - w) = q at *
  generalize 2 ^ w = P at *
  obtain ⟨e, rfl⟩ : ∃ e, q = e + 1 := ⟨q - 1, by omega⟩
  rw [Nat.mul_add, Nat.mul_one] at hP
  rw [show 18446744073709551615 - t = P * e + (P - 1 - t) by omega, Nat.mul_add_mod, Nat.mod_eq_of_lt (by omega)]
/-- A signed value as a number of 64 bits. -/
def s64 (v x : Nat) : Nat := if x.testBit (v - 1) then x % 2 ^ v + (18446744073709551616 - 2 ^ v) else x % 2 ^ v
theorem s64_lt {v : Nat} (h : v ≤ 64) (x : Nat) : s64 v x < 18446744073709551616 := by
  have := pw_le h
  have := Nat.mod_lt x (pw_pos v)
  unfold s64; split <;> omega
theorem sgn_wrap {v x : Nat} (h1 : 1 ≤ v) (h2 : v ≤ 64) : IntKind.u64.wrap (sgn v x) = (s64 v x : Int) := by
  have := pw_le h2
  have := Nat.mod_lt x (pw_pos v)
  rw [wrapu]; unfold sgn s64; split <;> omega
theorem testBit_s64 {v x i : Nat} (h1 : 1 ≤ v) (h2 : v ≤ 64) (hi : i < 64) : (s64 v x).testBit i = x.testBit (min i (v - 1)) := by
  have hlt := Nat.mod_lt x (pw_pos v)
  unfold s64
  by_cases ht : x.testBit (v - 1)
  · rw [if_pos ht]
    have hP := pw_dvd64 h2
    have hq := pw_pos (64 - v)
    have e : x % 2 ^ v + (18446744073709551616 - 2 ^ v) = 2 ^ v * (2 ^ (64 - v) - 1) + x % 2 ^ v := by
      rw [Nat.mul_sub, Nat.mul_one, hP]; omega
    rw [e, Nat.testBit_two_pow_mul_add _ hlt]
    by_cases hv : i < v
    · rw [if_pos hv, Nat.testBit_mod_two_pow, Nat.min_eq_left (by omega)]; simp [hv]
    · rw [if_neg hv, Nat.testBit_two_pow_sub_one, Nat.min_eq_right (by omega), ht]
      simp; omega
  · rw [if_neg ht, Nat.testBit_mod_two_pow]
    have ht' : x.testBit (v - 1) = false := by simpa using ht
    by_cases hv : i < v
    · rw [Nat.min_eq_left (by omega)]; simp [hv]
    · rw [Nat.min_eq_right (by omega), ht']; simp [hv]
theorem s64_cut {v w x : Nat} (h1 : 1 ≤ v) (h2 : v ≤ 64) (hw : w ≤ 64) : vcut w (s64 v x) = vsext v w x := by
  unfold vsext vcut
  symm
  apply bld_eq (Nat.mod_lt _ (pw_pos w))
  intro i hi
  rw [Nat.testBit_mod_two_pow, testBit_s64 h1 h2 (by omega)]; simp [hi]
theorem mask_step {i : Nat} (hi : i < 64) : IntKind.u64.wrap (IntKind.u64.wrap ((vmask i : Int) * 2) + 1) = (vmask (i + 1) : Int) := by
  have h := pw_le (w := i + 1) (by omega)
  have hp : 2 ^ (i + 1) = 2 * 2 ^ i := by rw [Nat.pow_succ, Nat.mul_comm]
  have := pw_pos i
  unfold vmask
  rw [wrapu, wrapu, hp]
  rw [hp] at h
  omega
theorem bld_cut (x w : Nat) : bld x.testBit w = vcut w x := bld_eq (Nat.mod_lt _ (pw_pos w)) (fun i hi => by rw [vcut, Nat.testBit_mod_two_pow]; simp [hi])
theorem toNat_le (b : Bool) : b.toNat ≤ 1 := by cases b <;> decide
theorem mod_succ (x i : Nat) : x % 2 ^ (i + 1) = x % 2 ^ i + (x.testBit i).toNat * 2 ^ i := by
  rw [Nat.mod_pow_succ, Nat.toNat_testBit, Nat.mul_comm]
theorem div_succ (x n : Nat) : x / 2 ^ n = 2 * (x / 2 ^ (n + 1)) + (x.testBit n).toNat := by
  rw [Nat.toNat_testBit, Nat.pow_succ, ← Nat.div_div_eq_div_mul]
  have := Nat.div_add_mod (x / 2 ^ n) 2
  omega
theorem put_bit {z i b : Nat} (hz : z < 2 ^ i) (hb : b ≤ 1) (hi : i < 64) : Go.bits .or .u64 (z : Int) (shl .u64 (b : Int) (i : Int)) = ((z + b * 2 ^ i : Nat) : Int) := by
  have h2 : 2 ^ (i + 1) ≤ 18446744073709551616 := pw_le (by omega)
  have hp : 2 ^ (i + 1) = 2 * 2 ^ i := by rw [Nat.pow_succ, Nat.mul_comm]
  have hbi : b * 2 ^ i ≤ 2 ^ i := by have := Nat.mul_le_mul_right (2 ^ i) hb; omega
  rw [shl64, Nat.shiftLeft_eq, Nat.mod_eq_of_lt (by have := pw_pos i; omega), or64 (by omega) (by have := pw_pos i; omega)]
  congr 1
  have := Nat.two_pow_add_eq_or_of_lt hz b
  rw [Nat.or_comm, Nat.mul_comm b, ← this, Nat.add_comm]
/-- Bit i of a shifted value: by is the distance, and fill what comes in above. -/
def shf (w x : Nat) (by_ : Int) (fill : Bool) (i : Nat) : Bool := if (i : Int) + by_ < (w : Int) then (if 0 ≤ (i : Int) + by_ then x.testBit ((i : Int) + by_).toNat else false) else fill
theorem shf_shl {w : Nat} (hw : w ≤ 64) (x y : Nat) : bld (shf w x (-((min (y % 2 ^ w) 64 : Nat) : Int)) false) w = vshl w x y := by
  unfold vshl
  apply bld_eq (Nat.mod_lt _ (pw_pos w))
  intro i hi
  rw [Nat.testBit_mod_two_pow, Nat.testBit_shiftLeft]
  generalize y % 2 ^ w = n
  unfold shf
  rw [if_pos (by omega)]
  by_cases h : n ≤ i
  · rw [if_pos (by omega)]
    have : ((i : Int) + -((min n 64 : Nat) : Int)).toNat = i - n := by omega
    rw [this]; simp [hi, h]
  · rw [if_neg (by omega)]; simp [h]
theorem shf_lshr {w : Nat} (hw : w ≤ 64) (x y : Nat) : bld (shf w x ((min (y % 2 ^ w) 64 : Nat) : Int) false) w = vlshr w x y := by
  unfold vlshr
  have hlt : (x % 2 ^ w) >>> (y % 2 ^ w) < 2 ^ w := Nat.lt_of_le_of_lt (shr_le _ _) (Nat.mod_lt _ (pw_pos w))
  apply bld_eq hlt
  intro i hi
  rw [Nat.testBit_shiftRight, Nat.testBit_mod_two_pow]
  generalize y % 2 ^ w = n
  unfold shf
  by_cases h : n + i < w
  · rw [if_pos (by omega), if_pos (by omega)]
    have : ((i : Int) + ((min n 64 : Nat) : Int)).toNat = n + i := by omega
    rw [this]; simp [h]
  · rw [if_neg (by omega)]; simp [h]
theorem shf_ashr {w : Nat} (hw : w ≤ 64) (x y : Nat) : bld (shf w x ((min (y % 2 ^ w) 64 : Nat) : Int) (x.testBit (w - 1))) w = vashr w x y := by
  have hlt := Nat.mod_lt x (pw_pos w)
  unfold vashr
  by_cases ht : x.testBit (w - 1)
  · rw [if_pos ht]
    have hs := sub_lt_pw w (x % 2 ^ w)
    have hle := shr_le (2 ^ w - 1 - x % 2 ^ w) (y % 2 ^ w)
    have hu : (2 ^ w - 1 - x % 2 ^ w) >>> (y % 2 ^ w) < 2 ^ w := by omega
    apply bld_eq (by generalize (2 ^ w - 1 - x % 2 ^ w) >>> (y % 2 ^ w) = t at *; omega)
    intro i hi
    have e1 : 2 ^ w - 1 - (2 ^ w - 1 - x % 2 ^ w) >>> (y % 2 ^ w) = 2 ^ w - ((2 ^ w - 1 - x % 2 ^ w) >>> (y % 2 ^ w) + 1) := by
      generalize (2 ^ w - 1 - x % 2 ^ w) >>> (y % 2 ^ w) = t
      omega
    have e2 : 2 ^ w - 1 - x % 2 ^ w = vnot w x := rfl
    rw [e1, Nat.testBit_two_pow_sub_succ hu, e2, Nat.testBit_shiftRight, testBit_vnot]
    generalize y % 2 ^ w = n
    unfold shf
    by_cases h : n + i < w
    · rw [if_pos (by omega), if_pos (by omega)]
      have : ((i : Int) + ((min n 64 : Nat) : Int)).toNat = n + i := by omega
      rw [this]; simp [h, hi]
    · rw [if_neg (by omega), ht]; simp [h, hi]
  · have ht' : x.testBit (w - 1) = false := by simpa using ht
    rw [if_neg ht, ht', shf_lshr hw]; rfl
theorem testBit_vconcat (v w a b i : Nat) : (vconcat v w a b).testBit i = ((decide (i < 64) && (decide (w ≤ i) && (decide (i - w < v) && a.testBit (i - w)))) || (decide (i < w) && b.testBit i)) := by
  unfold vconcat
  simp only [Nat.testBit_or, Nat.testBit_mod_two_pow, Nat.testBit_shiftLeft, ge_iff_le]
theorem concat_zero (w a b : Nat) : vconcat 0 w a b = vcut w b := by
  unfold vconcat vcut
  simp [Nat.mod_one]
theorem concat_over {i w a b : Nat} (h : 64 ≤ i + w) : vconcat (i + 1) w a b = vconcat i w a b := by
  apply Nat.eq_of_testBit_eq; intro j
  rw [testBit_vconcat, testBit_vconcat]
  by_cases h1 : j < 64
  · by_cases h2 : w ≤ j
    · have e : decide (j - w < i + 1) = decide (j - w < i) := by simp; omega
      rw [e]
    · simp [h2]
  · simp [h1]
theorem concat_step {i w a b : Nat} (hw : w ≤ 64) (h : i + w < 64) : Go.bits .or .u64 (vconcat i w a b : Int) (shl .u64 ((a.testBit i).toNat : Int) ((i + w : Nat) : Int)) = (vconcat (i + 1) w a b : Int) := by
  have h1 : ((a.testBit i).toNat <<< (i + w)) < 2 ^ 64 := Nat.lt_pow_two_of_testBit _ (fun j hj => by rw [testBit_toNat_shl]; simp; omega)
  rw [shl64, Nat.mod_eq_of_lt (by rw [← p64]; exact h1), or64 (vconcat_lt a b hw) (by rw [← p64]; exact h1)]
  congr 1
  apply Nat.eq_of_testBit_eq; intro j
  rw [Nat.testBit_or, testBit_toNat_shl, testBit_vconcat, testBit_vconcat]
  by_cases e : i + w = j
  · subst e
    have e1 : i + w - w = i := by omega
    have e2 : ¬ i + w < w := by omega
    simp [h, e1, e2]
  · by_cases h2 : w ≤ j
    · have e3 : decide (j - w < i + 1) = decide (j - w < i) := by simp; omega
      rw [e3]; simp [e]
    · simp [h2, e]
theorem extract_far {x low w : Nat} (hx : x < 18446744073709551616) (h : 64 ≤ low) : vextract low w x = 0 := by
  unfold vextract
  rw [Nat.shiftRight_eq_div_pow, Nat.div_eq_of_lt (Nat.lt_of_lt_of_le (lt_pw hx) (Nat.pow_le_pow_right (by decide) h)), Nat.zero_mod]
theorem bld_extract (low w x : Nat) : bld (fun j => x.testBit (low + j)) w = vextract low w x := by
  unfold vextract
  apply bld_eq (Nat.mod_lt _ (pw_pos w))
  intro i hi
  rw [Nat.testBit_mod_two_pow, Nat.testBit_shiftRight]; simp [hi]
end Go.Proofs.YtkmehmlcccdnbaaDoor.Bv
