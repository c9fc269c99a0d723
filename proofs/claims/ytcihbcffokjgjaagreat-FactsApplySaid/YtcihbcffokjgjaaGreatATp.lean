/- The number of one bits: the program's count by parallel sums, and the reference's loop. -/
import Derived.Test.YtcihbcffokjgjaaGreatAF10
import Derived.Test.YtcihbcffokjgjaaGreatAF2
import Derived.Test.YtcihbcffokjgjaaGreatATb
namespace Go.Proofs.YtcihbcffokjgjaaGreat.Fn
open Go Go.RowKit Go.Proofs.YtcihbcffokjgjaaGreat.Ev Go.Proofs.YtcihbcffokjgjaaGreat.Bv
set_option linter.unusedVariables false
set_option linter.unusedSimpArgs false

/-- How many of the first n bits are one. -/
def cnt (f : Nat → Bool) : Nat → Nat
  | 0 => 0
  | n + 1 => cnt f n + (f n).toNat
theorem cnt_le (f : Nat → Bool) (n : Nat) : cnt f n ≤ n := by
  induction n with
  | zero => exact Nat.le_refl _
  | succ n ih => have := toNat_le (f n); simp only [cnt]; omega
theorem cnt_congr {f g : Nat → Bool} {n : Nat} (h : ∀ i, i < n → f i = g i) : cnt f n = cnt g n := by
  induction n with
  | zero => rfl
  | succ n ih => simp only [cnt]; rw [ih (fun i hi => h i (by omega)), h n (by omega)]
theorem cnt_add (f : Nat → Bool) (m n : Nat) : cnt f (m + n) = cnt f m + cnt (fun i => f (m + i)) n := by
  induction n with
  | zero => simp [cnt]
  | succ n ih => rw [← Nat.add_assoc]; simp only [cnt]; rw [ih]; omega
/-- The ones of a number. -/
def ones (x : Nat) : Nat := cnt x.testBit 64

theorem byte_and {a b : Nat} (ha : a < 256) (hb : b < 256) (r s : Nat) : (a + 256 * r) &&& (b + 256 * s) = (a &&& b) + 256 * (r &&& s) := by
  apply Nat.eq_of_testBit_eq; intro i
  have h : a &&& b < 2 ^ 8 := Nat.and_lt_two_pow _ hb
  rw [Nat.testBit_and, Nat.add_comm a, Nat.add_comm b, Nat.add_comm (a &&& b), show 256 = 2 ^ 8 from rfl, Nat.testBit_two_pow_mul_add r ha, Nat.testBit_two_pow_mul_add s hb, Nat.testBit_two_pow_mul_add _ h]
  split <;> simp
theorem byte_shr {a b s : Nat} (ha : a < 256) (hs : b * 2 ^ s < 256) (r c : Nat) : ((a + 256 * r) >>> s) &&& (b + 256 * c) = ((a >>> s) &&& b) + 256 * ((r >>> s) &&& c) := by
  have hb : b < 2 ^ 8 := by
    have := pw_pos s
    have := Nat.le_mul_of_pos_right b this
    omega
  apply Nat.eq_of_testBit_eq; intro i
  have h : (a >>> s) &&& b < 2 ^ 8 := Nat.and_lt_two_pow _ hb
  rw [Nat.testBit_and, Nat.testBit_shiftRight, Nat.add_comm a, Nat.add_comm b, Nat.add_comm ((a >>> s) &&& b), show 256 = 2 ^ 8 from rfl, Nat.testBit_two_pow_mul_add r ha, Nat.testBit_two_pow_mul_add c hb, Nat.testBit_two_pow_mul_add _ h]
  by_cases hi : i < 8
  · rw [if_pos hi, if_pos hi, Nat.testBit_and, Nat.testBit_shiftRight]
    by_cases hj : s + i < 8
    · rw [if_pos hj]
    · rw [if_neg hj]
      have : b.testBit i = false := by
        have h0 : (b * 2 ^ s).testBit (i + s) = b.testBit i := by rw [Nat.testBit_mul_two_pow]; simp
        rw [← h0]
        exact testBit_ge (w := 8) hs (by omega)
      rw [this]; simp
  · rw [if_neg hi, if_neg (by omega), if_neg hi, Nat.testBit_and, Nat.testBit_shiftRight]
    congr 2; omega

/-- The three sums within bytes, on one byte. -/
def pb1 (b : Nat) : Nat := ((b >>> 1) &&& 85) + (b &&& 85)
def pb2 (b : Nat) : Nat := ((pb1 b >>> 2) &&& 51) + (pb1 b &&& 51)
def pb3 (b : Nat) : Nat := (pb2 b >>> 4) + pb2 b &&& 15
theorem pb_spec : ∀ b : Fin 256, pb1 b.1 < 256 ∧ pb2 b.1 < 69 ∧ pb2 b.1 % 16 ≤ 4 ∧ pb3 b.1 = cnt b.1.testBit 8 := by decide +kernel
/-- The masks, for n bytes. -/
def rep (m : Nat) : Nat → Nat
  | 0 => 0
  | n + 1 => m + 256 * rep m n
/-- A number of n bytes, the bytes mapped. -/
def bmap (f : Nat → Nat) : Nat → Nat → Nat
  | 0, _ => 0
  | n + 1, x => f (x % 256) + 256 * bmap f n (x / 256)
theorem split256 (x : Nat) : x = x % 256 + 256 * (x / 256) := by omega
theorem step1 (n x : Nat) (hx : x < 256 ^ n) : ((x >>> 1) &&& rep 85 n) + (x &&& rep 85 n) = bmap pb1 n x := by
  induction n generalizing x with
  | zero => simp at hx; subst hx; rfl
  | succ n ih =>
    have hd : x / 256 < 256 ^ n := by rw [Nat.div_lt_iff_lt_mul (by decide)]; rw [Nat.pow_succ] at hx; exact hx
    have hi := ih _ hd
    have hb : x % 256 < 256 := Nat.mod_lt _ (by decide)
    unfold rep bmap
    conv => lhs; rw [split256 x]
    rw [byte_shr hb (by decide), byte_and hb (by decide), ← hi]; unfold pb1; omega
theorem bmap_lt (n x : Nat) : ∀ (f : Nat → Nat), (∀ b, b < 256 → f b < 256) → bmap f n x < 256 ^ n := by
  induction n generalizing x with
  | zero => intro f h; simp [bmap]
  | succ n ih =>
    intro f h; unfold bmap
    have := ih (x / 256) f h
    have := h (x % 256) (Nat.mod_lt _ (by decide))
    rw [Nat.pow_succ]; omega
theorem pb_of (x : Nat) : pb1 (x % 256) < 256 ∧ pb2 (x % 256) < 69 ∧ pb2 (x % 256) % 16 ≤ 4 ∧ pb3 (x % 256) = cnt (x % 256).testBit 8 := pb_spec ⟨x % 256, Nat.mod_lt _ (by decide)⟩
theorem pb1_lt {b : Nat} (h : b < 256) : pb1 b < 256 := (pb_spec ⟨b, h⟩).1
theorem pb2_lt {b : Nat} (h : b < 256) : pb2 b < 69 := (pb_spec ⟨b, h⟩).2.1
theorem step2 (n x : Nat) : ((bmap pb1 n x >>> 2) &&& rep 51 n) + (bmap pb1 n x &&& rep 51 n) = bmap pb2 n x := by
  induction n generalizing x with
  | zero => simp [bmap, rep]
  | succ n ih =>
    have hi := ih (x / 256)
    have hb := pb1_lt (Nat.mod_lt x (show 256 > 0 by decide))
    unfold rep bmap
    rw [byte_shr hb (by decide), byte_and hb (by decide), ← hi]; unfold pb2; omega
theorem bmap2_mod (n x : Nat) : bmap pb2 n x % 16 ≤ 4 := by
  cases n with
  | zero => simp [bmap]
  | succ n =>
    have := (pb_of x).2.2.1
    unfold bmap; omega
theorem step3 (n x : Nat) : ((bmap pb2 n x >>> 4) + bmap pb2 n x) &&& rep 15 n = bmap pb3 n x := by
  induction n generalizing x with
  | zero => simp [bmap, rep]
  | succ n ih =>
    have hi := ih (x / 256)
    have hb := pb2_lt (Nat.mod_lt x (show 256 > 0 by decide))
    have hm := bmap2_mod n (x / 256)
    have hl := (pb_of x).2.2.1
    unfold rep bmap
    rw [← hi]
    unfold pb3
    rw [Nat.shiftRight_eq_div_pow, Nat.shiftRight_eq_div_pow, Nat.shiftRight_eq_div_pow, show 2 ^ 4 = 16 from rfl]
    generalize hA : bmap pb2 n (x / 256) = A at *
    generalize pb2 (x % 256) = b at *
    have e : (b + 256 * A) / 16 + (b + 256 * A) = (b / 16 + b + 16 * (A % 16)) + 256 * (A / 16 + A) := by omega
    rw [e, byte_and (by omega) (by decide)]
    congr 1
    rw [show 15 = 2 ^ 4 - 1 from rfl, and_mask, and_mask]; omega
theorem cnt_byte (x m : Nat) : cnt x.testBit (8 + m) = pb3 (x % 256) + cnt (x / 256).testBit m := by
  rw [cnt_add, (pb_of x).2.2.2]
  congr 1
  · apply cnt_congr; intro i hi
    rw [show 256 = 2 ^ 8 from rfl, Nat.testBit_mod_two_pow]; simp [hi]
  · apply cnt_congr; intro i hi
    rw [show 256 = 2 ^ 8 from rfl, Nat.testBit_div_two_pow]
    congr 1; omega
theorem ones_bytes (x : Nat) : ones x = pb3 (x % 256) + (pb3 (x / 256 % 256) + (pb3 (x / 256 / 256 % 256) + (pb3 (x / 256 / 256 / 256 % 256) + (pb3 (x / 256 / 256 / 256 / 256 % 256) + (pb3 (x / 256 / 256 / 256 / 256 / 256 % 256) + (pb3 (x / 256 / 256 / 256 / 256 / 256 / 256 % 256) + pb3 (x / 256 / 256 / 256 / 256 / 256 / 256 / 256 % 256))))))) := by
  unfold ones
  rw [show 64 = 8 + (8 + (8 + (8 + (8 + (8 + (8 + (8 + 0))))))) from rfl]
  simp only [cnt_byte]
  rfl
theorem pb3_le (x : Nat) : pb3 (x % 256) ≤ 8 := by
  rw [(pb_of x).2.2.2]; exact cnt_le _ _
theorem rep85 : rep 85 8 = 6148914691236517205 := by simp [rep]
theorem rep51 : rep 51 8 = 3689348814741910323 := by simp [rep]
theorem rep15 : rep 15 8 = 1085102592571150095 := by simp [rep]
theorem bm1_lt (x : Nat) : bmap pb1 8 x < 18446744073709551616 := bmap_lt 8 x pb1 (fun b h => pb1_lt h)
theorem bm2_lt (x : Nat) : bmap pb2 8 x < 18446744073709551616 := bmap_lt 8 x pb2 (fun b h => by have := pb2_lt h; omega)
theorem bm2_third (n y : Nat) : bmap pb2 n y * 3 < 256 ^ n ∨ n = 0 := by
  induction n generalizing y with
  | zero => exact .inr rfl
  | succ n ih =>
    left
    have h1 := pb2_lt (Nat.mod_lt y (show 256 > 0 by decide))
    have h2 := ih (y / 256)
    unfold bmap
    rcases h2 with h2 | h2
    · rw [Nat.pow_succ]; omega
    · subst h2; simp [bmap]; omega
theorem sw1 {x : Nat} (hx : x < 18446744073709551616) : IntKind.u64.wrap (Go.bits .and .u64 (shr .u64 (x : Int) 1) 6148914691236517205 + Go.bits .and .u64 (x : Int) 6148914691236517205) = (bmap pb1 8 x : Int) := by
  have l : rep 85 8 < 18446744073709551616 := by rw [rep85]; decide
  rw [show (1 : Int) = ((1 : Nat) : Int) from rfl, shr64 hx, show (6148914691236517205 : Int) = ((rep 85 8 : Nat) : Int) by rw [rep85]; rfl, and64 (Nat.lt_of_le_of_lt (shr_le _ _) hx) l, and64 hx l, wrapu_add, step1 8 x hx, Nat.mod_eq_of_lt (bm1_lt x)]
theorem sw2 (x : Nat) : IntKind.u64.wrap (Go.bits .and .u64 (shr .u64 (bmap pb1 8 x : Int) 2) 3689348814741910323 + Go.bits .and .u64 (bmap pb1 8 x : Int) 3689348814741910323) = (bmap pb2 8 x : Int) := by
  have l : rep 51 8 < 18446744073709551616 := by rw [rep51]; decide
  rw [show (2 : Int) = ((2 : Nat) : Int) from rfl, shr64 (bm1_lt x), show (3689348814741910323 : Int) = ((rep 51 8 : Nat) : Int) by rw [rep51]; rfl, and64 (Nat.lt_of_le_of_lt (shr_le _ _) (bm1_lt x)) l, and64 (bm1_lt x) l, wrapu_add, step2, Nat.mod_eq_of_lt (bm2_lt x)]
theorem sw3 (x : Nat) : Go.bits .and .u64 (IntKind.u64.wrap (shr .u64 (bmap pb2 8 x : Int) 4 + (bmap pb2 8 x : Int))) 1085102592571150095 = (bmap pb3 8 x : Int) := by
  have l : rep 15 8 < 18446744073709551616 := by rw [rep15]; decide
  have h := (bm2_third 8 x).resolve_right (by decide)
  have b : bmap pb2 8 x >>> 4 + bmap pb2 8 x < 18446744073709551616 := by
    rw [Nat.shiftRight_eq_div_pow]
    rw [show 256 ^ 8 = 18446744073709551616 from rfl] at h
    omega
  rw [show (4 : Int) = ((4 : Nat) : Int) from rfl, shr64 (bm2_lt x), wrapu_add, Nat.mod_eq_of_lt b, show (1085102592571150095 : Int) = ((rep 15 8 : Nat) : Int) by rw [rep15]; rfl, and64 b l, step3]
theorem sw4 {z n : Nat} (hz : z + z / 2 ^ n < 18446744073709551616) : IntKind.u64.wrap ((z : Int) + shr .u64 (z : Int) (n : Int)) = ((z + z / 2 ^ n : Nat) : Int) := by
  rw [shr64 (Nat.lt_of_le_of_lt (Nat.le_add_right _ _) hz), wrapu_add, Nat.shiftRight_eq_div_pow, Nat.mod_eq_of_lt hz]
theorem sw5 {u : Nat} (h : u < 9223372036854775808) : Go.bits .and .i64 (IntKind.i64.wrap (u : Int)) 127 = ((u % 128 : Nat) : Int) := by
  have ew : IntKind.i64.wrap (u : Int) = (u : Int) := by rw [wrapi, wrapi_of (by omega) (by omega)]
  have hu8 : u < 18446744073709551616 := by omega
  rw [ew]
  simp only [Go.bits, BitVec.ofInt_natCast, BitVec.toNat_and, BitVec.toNat_ofNat]
  have h1 : u % 2 ^ IntKind.bits .i64 = u := mod_bits hu8
  have h2 : (BitVec.ofInt (IntKind.bits .i64) 127).toNat = 127 := by decide
  rw [h1, h2, show 127 = 2 ^ 7 - 1 from rfl, and_mask, wrapi, wrapi_of (by omega) (by omega)]
theorem bm3_eq (x : Nat) : bmap pb3 8 x = pb3 (x % 256) + 256 * (pb3 (x / 256 % 256) + 256 * (pb3 (x / 256 / 256 % 256) + 256 * (pb3 (x / 256 / 256 / 256 % 256) + 256 * (pb3 (x / 256 / 256 / 256 / 256 % 256) + 256 * (pb3 (x / 256 / 256 / 256 / 256 / 256 % 256) + 256 * (pb3 (x / 256 / 256 / 256 / 256 / 256 / 256 % 256) + 256 * (pb3 (x / 256 / 256 / 256 / 256 / 256 / 256 / 256 % 256) + 256 * 0))))))) := by simp only [bmap]
theorem sw6 {c0 c1 c2 c3 c4 c5 c6 c7 z y v u : Nat} (g0 : c0 ≤ 8) (g1 : c1 ≤ 8) (g2 : c2 ≤ 8) (g3 : c3 ≤ 8) (g4 : c4 ≤ 8) (g5 : c5 ≤ 8) (g6 : c6 ≤ 8) (g7 : c7 ≤ 8)
    (hz : z = c0 + 256 * (c1 + 256 * (c2 + 256 * (c3 + 256 * (c4 + 256 * (c5 + 256 * (c6 + 256 * (c7 + 256 * 0)))))))) (hy : y = z + z / 256) (hv : v = y + y / 65536) (hu : u = v + v / 4294967296) :
    y < 18446744073709551616 ∧ v < 18446744073709551616 ∧ u < 9223372036854775808 ∧ u % 128 = c0 + (c1 + (c2 + (c3 + (c4 + (c5 + (c6 + c7)))))) := by
  obtain ⟨t7, h7⟩ : ∃ t, t = c7 + 256 * 0 := ⟨_, rfl⟩
  obtain ⟨t6, h6⟩ : ∃ t, t = c6 + 256 * t7 := ⟨_, rfl⟩
  obtain ⟨t5, h5⟩ : ∃ t, t = c5 + 256 * t6 := ⟨_, rfl⟩
  obtain ⟨t4, h4⟩ : ∃ t, t = c4 + 256 * t5 := ⟨_, rfl⟩
  obtain ⟨t3, h3⟩ : ∃ t, t = c3 + 256 * t4 := ⟨_, rfl⟩
  obtain ⟨t2, h2⟩ : ∃ t, t = c2 + 256 * t3 := ⟨_, rfl⟩
  obtain ⟨t1, h1⟩ : ∃ t, t = c1 + 256 * t2 := ⟨_, rfl⟩
  rw [← h7, ← h6, ← h5, ← h4, ← h3, ← h2, ← h1] at hz
  have a1 : z / 256 = t1 := by rw [hz]; omega
  rw [a1] at hy
  have a2 : y / 65536 = t2 + t3 := by rw [hy, hz, h1, h2]; omega
  rw [a2] at hv
  have a3 : v / 4294967296 = t4 + t5 + t6 + t7 := by
    rw [hv, hy, hz, h1, h2, h3, h4, h5, h6]; clear hz hy hv hu a1 a2; omega
  rw [a3] at hu
  clear a1 a2 a3
  have b : t5 < 16777216 := by omega
  refine ⟨by omega, by omega, by omega, ?_⟩
  have e : u = c0 + (c1 + (c2 + (c3 + (c4 + (c5 + (c6 + c7)))))) + 128 * (2 * (t1 + t2 + t3 + t4 + t5 + t6 + t7)) := by
    omega
  rw [e, Nat.add_mul_mod_self_left, Nat.mod_eq_of_lt (by omega)]
theorem swar {x : Nat} (hx : x < 18446744073709551616) : bits_OnesCount64.f (x : Int) = some (ones x : Int) := by
  unfold bits_OnesCount64.f
  rw [sw1 hx, sw2, sw3]
  obtain ⟨z, hz⟩ : ∃ z, bmap pb3 8 x = z := ⟨_, rfl⟩
  obtain ⟨y, hy⟩ : ∃ y, y = z + z / 256 := ⟨_, rfl⟩
  obtain ⟨v, hv⟩ : ∃ v, v = y + y / 65536 := ⟨_, rfl⟩
  obtain ⟨u, hu⟩ : ∃ u, u = v + v / 4294967296 := ⟨_, rfl⟩
  have e := bm3_eq x
  rw [hz] at e
  obtain ⟨l1, l2, l3, l4⟩ := sw6 (pb3_le x) (pb3_le (x / 256)) (pb3_le (x / 256 / 256)) (pb3_le (x / 256 / 256 / 256)) (pb3_le (x / 256 / 256 / 256 / 256)) (pb3_le (x / 256 / 256 / 256 / 256 / 256)) (pb3_le (x / 256 / 256 / 256 / 256 / 256 / 256)) (pb3_le (x / 256 / 256 / 256 / 256 / 256 / 256 / 256)) e hy hv hu
  rw [hz, show (8 : Int) = ((8 : Nat) : Int) from rfl, show (16 : Int) = ((16 : Nat) : Int) from rfl, show (32 : Int) = ((32 : Nat) : Int) from rfl]
  rw [sw4 (z := z) (n := 8) (by rw [show 2 ^ 8 = 256 from rfl, ← hy]; exact l1), show z + z / 2 ^ 8 = y from hy.symm]
  rw [sw4 (z := y) (n := 16) (by rw [show 2 ^ 16 = 65536 from rfl, ← hv]; exact l2), show y + y / 2 ^ 16 = v from hv.symm]
  rw [sw4 (z := v) (n := 32) (by rw [show 2 ^ 32 = 4294967296 from rfl, ← hu]; omega), show v + v / 2 ^ 32 = u from hu.symm]
  rw [sw5 l3, l4, ones_bytes]
theorem bits_Count_eq {x : Nat} (hx : x < 18446744073709551616) : bits_Count.f (x : Int) = some (ones x : Int) := by
  unfold bits_Count.f; rw [swar hx]; rfl
theorem saturateref01_Count_j3 (fu : Nat) {x : Nat} (hx : x < 18446744073709551616) (d : Nat) : ∀ (k i : Nat), 64 - i = d → i ≤ 64 → d < k → saturateref01_Count.j3 fu k x (cnt x.testBit i : Int) i = some (ones x : Int) := by
  induction d with
  | zero =>
    intro k i hd hi hk
    obtain ⟨k, rfl⟩ : ∃ m, k = m + 1 := ⟨k - 1, by omega⟩
    obtain rfl : i = 64 := by omega
    rw [saturateref01_Count.j3_succ, bifd_neg (by omega)]; rfl
  | succ d ih =>
    intro k i hd hi hk
    obtain ⟨k, rfl⟩ : ∃ m, k = m + 1 := ⟨k - 1, by omega⟩
    have h1 := cnt_le x.testBit i
    have h2 := toNat_le (x.testBit i)
    rw [saturateref01_Count.j3_succ, bifd_pos (by omega), saturateref01_Bit_eq hx, Option.bind_some, wrapi, wrapi, wrapi, wrapi_succ (by omega), wrapi_of (a := ((x.testBit i).toNat : Int)) (by omega) (by omega), wrapi_of (by omega) (by omega)]
    exact ih k (i + 1) (by omega) (by omega) (by omega)
theorem saturateref01_Count_eq {x : Nat} (hx : x < 18446744073709551616) : saturateref01_Count.f (x : Int) = some (ones x : Int) := by
  unfold saturateref01_Count.f saturateref01_Count.g
  exact saturateref01_Count_j3 _ hx 64 _ 0 rfl (by decide) (by unfold fuel0; decide)
end Go.Proofs.YtcihbcffokjgjaaGreat.Fn
