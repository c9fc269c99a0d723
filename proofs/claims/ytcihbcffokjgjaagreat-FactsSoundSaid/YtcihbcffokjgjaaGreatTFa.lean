/- What the functions of the known bits return, in plain words: pairs of numbers, bit by bit. The number of one bits: the program's count by parallel sums, and the reference's loop. What the elements of the known bits are, in the program and in the reference: the same. What the functions of the ranges return, in plain words, and that the program's and the reference's are the same. Facts: the reduction step of the program and of the reference compute the same; what it keeps. -/
import Derived.Test.YtcihbcffokjgjaaGreatTF1
import Derived.Test.YtcihbcffokjgjaaGreatTF2
import Derived.Test.YtcihbcffokjgjaaGreatTF9
import Derived.Test.YtcihbcffokjgjaaGreatTTv
import Derived.Test.YtcihbcffokjgjaaGreatTF12
import Derived.Test.YtcihbcffokjgjaaGreatTF3
namespace Go.Proofs.YtcihbcffokjgjaaGreat.Fn
open Go Go.RowKit Go.Proofs.YtcihbcffokjgjaaGreat.Ev Go.Proofs.YtcihbcffokjgjaaGreat.Bv
set_option linter.unusedVariables false
set_option linter.unusedSimpArgs false
abbrev U64 : Nat := 18446744073709551616
def kok (M z o : Nat) : Prop := z &&& o = 0 ∧ (z ||| o) &&& (18446744073709551615 - M) = 0
instance (M z o : Nat) : Decidable (kok M z o) := inferInstanceAs (Decidable (_ ∧ _))
def kof (M z o : Nat) : Nat × Nat := if kok M z o then (z, o) else (0, 0)
theorem kok_zero (M : Nat) : kok M 0 0 := by unfold kok; simp
theorem kof_kok (M z o : Nat) : kok M (kof M z o).1 (kof M z o).2 := by
  unfold kof; split
  · assumption
  · exact kok_zero M
theorem kof_of {M z o : Nat} (h : kok M z o) : kof M z o = (z, o) := if_pos h
theorem kof_lt {M z o : Nat} (hz : z < U64) (ho : o < U64) : (kof M z o).1 < U64 ∧ (kof M z o).2 < U64 := by
  unfold kof; split
  · exact ⟨hz, ho⟩
  · exact ⟨by decide, by decide⟩
theorem or_lt {a b : Nat} (ha : a < U64) (hb : b < U64) : a ||| b < U64 := by rw [show U64 = 2 ^ 64 from rfl]; exact Nat.or_lt_two_pow ha hb
theorem and_lt {a b : Nat} (hb : b < U64) : a &&& b < U64 := by rw [show U64 = 2 ^ 64 from rfl]; exact Nat.and_lt_two_pow _ hb
abbrev MK (a : Int) : Nat := vmask (W a)
theorem MK_lt (a : Int) : MK a < U64 := vmask_lt (W_le a)
theorem cast0 (n : Nat) : ((n : Int) == 0) = decide (n = 0) := by
  by_cases h : n = 0
  · subst h; rfl
  · rw [decide_eq_false h]; simpa using h
theorem cast0n (n : Nat) : ((n : Int) != 0) = !decide (n = 0) := by unfold bne; rw [cast0]
theorem castb (m n : Nat) : ((m : Int) == (n : Int)) = decide (m = n) := beq_nat m n
theorem known_Valid_eq (a : Int) {z o : Nat} (hz : z < U64) (ho : o < U64) : known_Valid.f a ((z : Int), (o : Int)) = some (decide (kok (MK a) z o)) := by
  unfold known_Valid.f
  simp only
  rw [and64 hz ho, or64 hz ho, bits_Mask_eq, cast0]
  by_cases h : z &&& o = 0
  · rw [bifd_pos h, Option.bind_some, andNot64 (or_lt hz ho) (MK_lt a), cast0]
    congr 1; rw [decide_eq_decide]; unfold kok MK
    exact ⟨fun q => ⟨h, q⟩, fun q => q.2⟩
  · rw [bifd_neg h]
    congr 1; symm; rw [decide_eq_false_iff_not]
    exact fun q => h q.1
theorem known_of_eq (a : Int) {z o : Nat} (hz : z < U64) (ho : o < U64) : known_of.f a ((z : Int), (o : Int)) = some (((kof (MK a) z o).1 : Int), ((kof (MK a) z o).2 : Int)) := by
  unfold known_of.f
  simp only
  rw [known_Valid_eq a hz ho, Option.bind_some]
  unfold kof
  by_cases h : kok (MK a) z o
  · rw [bifd_pos h, if_pos h]
  · rw [bifd_neg h, if_neg h]; rfl
def kdis (x y : Nat × Nat) : Prop := (x.1 ||| y.1) &&& (x.2 ||| y.2) = 0
instance (x y : Nat × Nat) : Decidable (kdis x y) := inferInstanceAs (Decidable (_ = _))
theorem known_Meet_eq (a : Int) {z o z' o' : Nat} (hz : z < U64) (ho : o < U64) (hz' : z' < U64) (ho' : o' < U64) :
    known_Meet.f a ((z : Int), (o : Int)) ((z' : Int), (o' : Int)) = some (if kdis (kof (MK a) z o) (kof (MK a) z' o') then (((((kof (MK a) z o).1 ||| (kof (MK a) z' o').1 : Nat) : Int), (((kof (MK a) z o).2 ||| (kof (MK a) z' o').2 : Nat) : Int)), true) else ((0, 0), false)) := by
  unfold known_Meet.f
  simp only
  rw [known_of_eq a hz ho, known_of_eq a hz' ho', Option.bind_some, Option.bind_some]
  simp only
  have l1 := kof_lt (M := MK a) hz ho
  have l2 := kof_lt (M := MK a) hz' ho'
  rw [or64 l1.1 l2.1, or64 l1.2 l2.2, and64 (or_lt l1.1 l2.1) (or_lt l1.2 l2.2), cast0n]
  by_cases h : kdis (kof (MK a) z o) (kof (MK a) z' o')
  · rw [decide_eq_true (show ((kof (MK a) z o).1 ||| (kof (MK a) z' o').1) &&& ((kof (MK a) z o).2 ||| (kof (MK a) z' o').2) = 0 from h), if_pos h]; rfl
  · rw [decide_eq_false (show ¬ ((kof (MK a) z o).1 ||| (kof (MK a) z' o').1) &&& ((kof (MK a) z o).2 ||| (kof (MK a) z' o').2) = 0 from h), if_neg h]; rfl
theorem known_Join_eq (a : Int) {z o z' o' : Nat} (hz : z < U64) (ho : o < U64) (hz' : z' < U64) (ho' : o' < U64) :
    known_Join.f a ((z : Int), (o : Int)) ((z' : Int), (o' : Int)) = some ((((kof (MK a) z o).1 &&& (kof (MK a) z' o').1 : Nat) : Int), (((kof (MK a) z o).2 &&& (kof (MK a) z' o').2 : Nat) : Int)) := by
  unfold known_Join.f
  simp only
  rw [known_of_eq a hz ho, known_of_eq a hz' ho', Option.bind_some, Option.bind_some]
  have l1 := kof_lt (M := MK a) hz ho
  have l2 := kof_lt (M := MK a) hz' ho'
  rw [and64 l1.1 l2.1, and64 l1.2 l2.2]
theorem bits_ext {a b : Nat} (h : ∀ i, a.testBit i = b.testBit i) : a = b := Nat.eq_of_testBit_eq h
theorem bit_of {a b : Nat} (h : a = b) (i : Nat) : a.testBit i = b.testBit i := by rw [h]
theorem kok_or {M : Nat} {x y : Nat × Nat} (hx : kok M x.1 x.2) (hy : kok M y.1 y.2) (hd : kdis x y) : kok M (x.1 ||| y.1) (x.2 ||| y.2) := by
  refine ⟨hd, bits_ext fun i => ?_⟩
  have h1 := bit_of hx.2 i
  have h2 := bit_of hy.2 i
  simp only [Nat.testBit_and, Nat.testBit_or, Nat.zero_testBit] at h1 h2 ⊢
  revert h1 h2
  cases x.1.testBit i <;> cases x.2.testBit i <;> cases y.1.testBit i <;> cases y.2.testBit i <;> cases (18446744073709551615 - M).testBit i <;> decide
end Go.Proofs.YtcihbcffokjgjaaGreat.Fn
namespace Go.Proofs.YtcihbcffokjgjaaGreat.Fn
open Go Go.RowKit Go.Proofs.YtcihbcffokjgjaaGreat.Ev Go.Proofs.YtcihbcffokjgjaaGreat.Bv
set_option linter.unusedVariables false
set_option linter.unusedSimpArgs false
def cnt (f : Nat → Bool) : Nat → Nat
  | 0 => 0
  | n + 1 => cnt f n + (f n).toNat
theorem cnt_le (f : Nat → Bool) (n : Nat) : cnt f n ≤ n := by
  induction n with
  | zero => exact Nat.le_refl _
  | succ n ih => have := toNat_le (f n); simp only [cnt]; omega
theorem cnt_congr {f g : Nat → Bool} {n : Nat} (h : ∀ i, i < n → f i = g i) : cnt f n = cnt g n := by
  induction n with
  | zero => rfl
  | succ n ih => simp only [cnt]; rw [ih (fun i hi => h i (by omega)), h n (by omega)]
theorem cnt_add (f : Nat → Bool) (m n : Nat) : cnt f (m + n) = cnt f m + cnt (fun i => f (m + i)) n := by
  induction n with
  | zero => simp [cnt]
  | succ n ih => rw [← Nat.add_assoc]; simp only [cnt]; rw [ih]; omega
def ones (x : Nat) : Nat := cnt x.testBit 64
theorem byte_and {a b : Nat} (ha : a < 256) (hb : b < 256) (r s : Nat) : (a + 256 * r) &&& (b + 256 * s) = (a &&& b) + 256 * (r &&& s) := by
  apply Nat.eq_of_testBit_eq; intro i
  have h : a &&& b < 2 ^ 8 := Nat.and_lt_two_pow _ hb
  rw [Nat.testBit_and, Nat.add_comm a, Nat.add_comm b, Nat.add_comm (a &&& b), show 256 = 2 ^ 8 from rfl, Nat.testBit_two_pow_mul_add r ha, Nat.testBit_two_pow_mul_add s hb, Nat.testBit_two_pow_mul_add _ h]
  split <;> simp
theorem byte_shr {a b s : Nat} (ha : a < 256) (hs : b * 2 ^ s < 256) (r c : Nat) : ((a + 256 * r) >>> s) &&& (b + 256 * c) = ((a >>> s) &&& b) + 256 * ((r >>> s) &&& c) := by
  have hb : b < 2 ^ 8 := by
    have := pw_pos s
    have := Nat.le_mul_of_pos_right b this
    omega
  apply Nat.eq_of_testBit_eq; intro i
  have h : (a >>> s) &&& b < 2 ^ 8 := Nat.and_lt_two_pow _ hb
  rw [Nat.testBit_and, Nat.testBit_shiftRight, Nat.add_comm a, Nat.add_comm b, Nat.add_comm ((a >>> s) &&& b), show 256 = 2 ^ 8 from rfl, Nat.testBit_two_pow_mul_add r ha, Nat.testBit_two_pow_mul_add c hb, Nat.testBit_two_pow_mul_add _ h]
  by_cases hi : i < 8
  · rw [if_pos hi, if_pos hi, Nat.testBit_and, Nat.testBit_shiftRight]
    by_cases hj : s + i < 8
    · rw [if_pos hj]
    · rw [if_neg hj]
      have : b.testBit i = false := by
        have h0 : (b * 2 ^ s).testBit (i + s) = b.testBit i := by rw [Nat.testBit_mul_two_pow]; simp
        rw [← h0]
        exact testBit_ge (w := 8) hs (by omega)
      rw [this]; simp
  · rw [if_neg hi, if_neg (by omega), if_neg hi, Nat.testBit_and, Nat.testBit_shiftRight]
    congr 2; omega
def pb1 (b : Nat) : Nat := ((b >>> 1) &&& 85) + (b &&& 85)
def pb2 (b : Nat) : Nat := ((pb1 b >>> 2) &&& 51) + (pb1 b &&& 51)
def pb3 (b : Nat) : Nat := (pb2 b >>> 4) + pb2 b &&& 15
theorem pb_spec : ∀ b : Fin 256, pb1 b.1 < 256 ∧ pb2 b.1 < 69 ∧ pb2 b.1 % 16 ≤ 4 ∧ pb3 b.1 = cnt b.1.testBit 8 := by decide +kernel
def rep (m : Nat) : Nat → Nat
  | 0 => 0
  | n + 1 => m + 256 * rep m n
def bmap (f : Nat → Nat) : Nat → Nat → Nat
  | 0, _ => 0
  | n + 1, x => f (x % 256) + 256 * bmap f n (x / 256)
theorem split256 (x : Nat) : x = x % 256 + 256 * (x / 256) := by omega
theorem step1 (n x : Nat) (hx : x < 256 ^ n) : ((x >>> 1) &&& rep 85 n) + (x &&& rep 85 n) = bmap pb1 n x := by
  induction n generalizing x with
  | zero => simp at hx; subst hx; rfl
  | succ n ih =>
    have hd : x / 256 < 256 ^ n := by rw [Nat.div_lt_iff_lt_mul (by decide)]; rw [Nat.pow_succ] at hx; exact hx
    have hi := ih _ hd
    have hb : x % 256 < 256 := Nat.mod_lt _ (by decide)
    unfold rep bmap
    conv => lhs; rw [split256 x]
    rw [byte_shr hb (by decide), byte_and hb (by decide), ← hi]; unfold pb1; omega
theorem bmap_lt (n x : Nat) : ∀ (f : Nat → Nat), (∀ b, b < 256 → f b < 256) → bmap f n x < 256 ^ n := by
  induction n generalizing x with
  | zero => intro f h; simp [bmap]
  | succ n ih =>
    intro f h; unfold bmap
    have := ih (x / 256) f h
    have := h (x % 256) (Nat.mod_lt _ (by decide))
    rw [Nat.pow_succ]; omega
theorem pb_of (x : Nat) : pb1 (x % 256) < 256 ∧ pb2 (x % 256) < 69 ∧ pb2 (x % 256) % 16 ≤ 4 ∧ pb3 (x % 256) = cnt (x % 256).testBit 8 := pb_spec ⟨x % 256, Nat.mod_lt _ (by decide)⟩
theorem pb1_lt {b : Nat} (h : b < 256) : pb1 b < 256 := (pb_spec ⟨b, h⟩).1
theorem pb2_lt {b : Nat} (h : b < 256) : pb2 b < 69 := (pb_spec ⟨b, h⟩).2.1
theorem step2 (n x : Nat) : ((bmap pb1 n x >>> 2) &&& rep 51 n) + (bmap pb1 n x &&& rep 51 n) = bmap pb2 n x := by
  induction n generalizing x with
  | zero => simp [bmap, rep]
  | succ n ih =>
    have hi := ih (x / 256)
    have hb := pb1_lt (Nat.mod_lt x (show 256 > 0 by decide))
    unfold rep bmap
    rw [byte_shr hb (by decide), byte_and hb (by decide), ← hi]; unfold pb2; omega
theorem bmap2_mod (n x : Nat) : bmap pb2 n x % 16 ≤ 4 := by
  cases n with
  | zero => simp [bmap]
  | succ n =>
    have := (pb_of x).2.2.1
    unfold bmap; omega
theorem step3 (n x : Nat) : ((bmap pb2 n x >>> 4) + bmap pb2 n x) &&& rep 15 n = bmap pb3 n x := by
  induction n generalizing x with
  | zero => simp [bmap, rep]
  | succ n ih =>
    have hi := ih (x / 256)
    have hb := pb2_lt (Nat.mod_lt x (show 256 > 0 by decide))
    have hm := bmap2_mod n (x / 256)
    have hl := (pb_of x).2.2.1
    unfold rep bmap
    rw [← hi]
    unfold pb3
    rw [Nat.shiftRight_eq_div_pow, Nat.shiftRight_eq_div_pow, Nat.shiftRight_eq_div_pow, show 2 ^ 4 = 16 from rfl]
    generalize hA : bmap pb2 n (x / 256) = A at *
    generalize pb2 (x % 256) = b at *
    have e : (b + 256 * A) / 16 + (b + 256 * A) = (b / 16 + b + 16 * (A % 16)) + 256 * (A / 16 + A) := by omega
    rw [e, byte_and (by omega) (by decide)]
    congr 1
    rw [show 15 = 2 ^ 4 - 1 from rfl, and_mask, and_mask]; omega
theorem cnt_byte (x m : Nat) : cnt x.testBit (8 + m) = pb3 (x % 256) + cnt (x / 256).testBit m := by
  rw [cnt_add, (pb_of x).2.2.2]
  congr 1
  · apply cnt_congr; intro i hi
    rw [show 256 = 2 ^ 8 from rfl, Nat.testBit_mod_two_pow]; simp [hi]
  · apply cnt_congr; intro i hi
    rw [show 256 = 2 ^ 8 from rfl, Nat.testBit_div_two_pow]
    congr 1; omega
theorem ones_bytes (x : Nat) : ones x = pb3 (x % 256) + (pb3 (x / 256 % 256) + (pb3 (x / 256 / 256 % 256) + (pb3 (x / 256 / 256 / 256 % 256) + (pb3 (x / 256 / 256 / 256 / 256 % 256) + (pb3 (x / 256 / 256 / 256 / 256 / 256 % 256) + (pb3 (x / 256 / 256 / 256 / 256 / 256 / 256 % 256) + pb3 (x / 256 / 256 / 256 / 256 / 256 / 256 / 256 % 256))))))) := by
  unfold ones
  rw [show 64 = 8 + (8 + (8 + (8 + (8 + (8 + (8 + (8 + 0))))))) from rfl]
  simp only [cnt_byte]
  rfl
theorem pb3_le (x : Nat) : pb3 (x % 256) ≤ 8 := by
  rw [(pb_of x).2.2.2]; exact cnt_le _ _
theorem rep85 : rep 85 8 = 6148914691236517205 := by simp [rep]
theorem rep51 : rep 51 8 = 3689348814741910323 := by simp [rep]
theorem rep15 : rep 15 8 = 1085102592571150095 := by simp [rep]
theorem bm1_lt (x : Nat) : bmap pb1 8 x < 18446744073709551616 := bmap_lt 8 x pb1 (fun b h => pb1_lt h)
theorem bm2_lt (x : Nat) : bmap pb2 8 x < 18446744073709551616 := bmap_lt 8 x pb2 (fun b h => by have := pb2_lt h; omega)
theorem bm2_third (n y : Nat) : bmap pb2 n y * 3 < 256 ^ n ∨ n = 0 := by
  induction n generalizing y with
  | zero => exact .inr rfl
  | succ n ih =>
    left
    have h1 := pb2_lt (Nat.mod_lt y (show 256 > 0 by decide))
    have h2 := ih (y / 256)
    unfold bmap
    rcases h2 with h2 | h2
    · rw [Nat.pow_succ]; omega
    · subst h2; simp [bmap]; omega
theorem sw1 {x : Nat} (hx : x < 18446744073709551616) : IntKind.u64.wrap (Go.bits .and .u64 (shr .u64 (x : Int) 1) 6148914691236517205 + Go.bits .and .u64 (x : Int) 6148914691236517205) = (bmap pb1 8 x : Int) := by
  have l : rep 85 8 < 18446744073709551616 := by rw [rep85]; decide
  rw [show (1 : Int) = ((1 : Nat) : Int) from rfl, shr64 hx, show (6148914691236517205 : Int) = ((rep 85 8 : Nat) : Int) by rw [rep85]; rfl, and64 (Nat.lt_of_le_of_lt (shr_le _ _) hx) l, and64 hx l, wrapu_add, step1 8 x hx, Nat.mod_eq_of_lt (bm1_lt x)]
theorem sw2 (x : Nat) : IntKind.u64.wrap (Go.bits .and .u64 (shr .u64 (bmap pb1 8 x : Int) 2) 3689348814741910323 + Go.bits .and .u64 (bmap pb1 8 x : Int) 3689348814741910323) = (bmap pb2 8 x : Int) := by
  have l : rep 51 8 < 18446744073709551616 := by rw [rep51]; decide
  rw [show (2 : Int) = ((2 : Nat) : Int) from rfl, shr64 (bm1_lt x), show (3689348814741910323 : Int) = ((rep 51 8 : Nat) : Int) by rw [rep51]; rfl, and64 (Nat.lt_of_le_of_lt (shr_le _ _) (bm1_lt x)) l, and64 (bm1_lt x) l, wrapu_add, step2, Nat.mod_eq_of_lt (bm2_lt x)]
theorem sw3 (x : Nat) : Go.bits .and .u64 (IntKind.u64.wrap (shr .u64 (bmap pb2 8 x : Int) 4 + (bmap pb2 8 x : Int))) 1085102592571150095 = (bmap pb3 8 x : Int) := by
  have l : rep 15 8 < 18446744073709551616 := by rw [rep15]; decide
  have h := (bm2_third 8 x).resolve_right (by decide)
  have b : bmap pb2 8 x >>> 4 + bmap pb2 8 x < 18446744073709551616 := by
    rw [Nat.shiftRight_eq_div_pow]
    rw [show 256 ^ 8 = 18446744073709551616 from rfl] at h
    omega
  rw [show (4 : Int) = ((4 : Nat) : Int) from rfl, shr64 (bm2_lt x), wrapu_add, Nat.mod_eq_of_lt b, show (1085102592571150095 : Int) = ((rep 15 8 : Nat) : Int) by rw [rep15]; rfl, and64 b l, step3]
theorem sw4 {z n : Nat} (hz : z + z / 2 ^ n < 18446744073709551616) : IntKind.u64.wrap ((z : Int) + shr .u64 (z : Int) (n : Int)) = ((z + z / 2 ^ n : Nat) : Int) := by
  rw [shr64 (Nat.lt_of_le_of_lt (Nat.le_add_right _ _) hz), wrapu_add, Nat.shiftRight_eq_div_pow, Nat.mod_eq_of_lt hz]
theorem sw5 {u : Nat} (h : u < 9223372036854775808) : Go.bits .and .i64 (IntKind.i64.wrap (u : Int)) 127 = ((u % 128 : Nat) : Int) := by
  have ew : IntKind.i64.wrap (u : Int) = (u : Int) := by rw [wrapi, wrapi_of (by omega) (by omega)]
  have hu8 : u < 18446744073709551616 := by omega
  rw [ew]
  simp only [Go.bits, BitVec.ofInt_natCast, BitVec.toNat_and, BitVec.toNat_ofNat]
  have h1 : u % 2 ^ IntKind.bits .i64 = u := mod_bits hu8
  have h2 : (BitVec.ofInt (IntKind.bits .i64) 127).toNat = 127 := by decide
  rw [h1, h2, show 127 = 2 ^ 7 - 1 from rfl, and_mask, wrapi, wrapi_of (by omega) (by omega)]
theorem bm3_eq (x : Nat) : bmap pb3 8 x = pb3 (x % 256) + 256 * (pb3 (x / 256 % 256) + 256 * (pb3 (x / 256 / 256 % 256) + 256 * (pb3 (x / 256 / 256 / 256 % 256) + 256 * (pb3 (x / 256 / 256 / 256 / 256 % 256) + 256 * (pb3 (x / 256 / 256 / 256 / 256 / 256 % 256) + 256 * (pb3 (x / 256 / 256 / 256 / 256 / 256 / 256 % 256) + 256 * (pb3 (x / 256 / 256 / 256 / 256 / 256 / 256 / 256 % 256) + 256 * 0))))))) := by simp only [bmap]
theorem sw6 {c0 c1 c2 c3 c4 c5 c6 c7 z y v u : Nat} (g0 : c0 ≤ 8) (g1 : c1 ≤ 8) (g2 : c2 ≤ 8) (g3 : c3 ≤ 8) (g4 : c4 ≤ 8) (g5 : c5 ≤ 8) (g6 : c6 ≤ 8) (g7 : c7 ≤ 8)
    (hz : z = c0 + 256 * (c1 + 256 * (c2 + 256 * (c3 + 256 * (c4 + 256 * (c5 + 256 * (c6 + 256 * (c7 + 256 * 0)))))))) (hy : y = z + z / 256) (hv : v = y + y / 65536) (hu : u = v + v / 4294967296) :
    y < 18446744073709551616 ∧ v < 18446744073709551616 ∧ u < 9223372036854775808 ∧ u % 128 = c0 + (c1 + (c2 + (c3 + (c4 + (c5 + (c6 + c7)))))) := by
  obtain ⟨t7, h7⟩ : ∃ t, t = c7 + 256 * 0 := ⟨_, rfl⟩
  obtain ⟨t6, h6⟩ : ∃ t, t = c6 + 256 * t7 := ⟨_, rfl⟩
  obtain ⟨t5, h5⟩ : ∃ t, t = c5 + 256 * t6 := ⟨_, rfl⟩
  obtain ⟨t4, h4⟩ : ∃ t, t = c4 + 256 * t5 := ⟨_, rfl⟩
  obtain ⟨t3, h3⟩ : ∃ t, t = c3 + 256 * t4 := ⟨_, rfl⟩
  obtain ⟨t2, h2⟩ : ∃ t, t = c2 + 256 * t3 := ⟨_, rfl⟩
  obtain ⟨t1, h1⟩ : ∃ t, t = c1 + 256 * t2 := ⟨_, rfl⟩
  rw [← h7, ← h6, ← h5, ← h4, ← h3, ← h2, ← h1] at hz
  have a1 : z / 256 = t1 := by rw [hz]; omega
  rw [a1] at hy
  have a2 : y / 65536 = t2 + t3 := by rw [hy, hz, h1, h2]; omega
  rw [a2] at hv
  have a3 : v / 4294967296 = t4 + t5 + t6 + t7 := by
    rw [hv, hy, hz, h1, h2, h3, h4, h5, h6]; clear hz hy hv hu a1 a2; omega
  rw [a3] at hu
  clear a1 a2 a3
  have b : t5 < 16777216 := by omega
  refine ⟨by omega, by omega, by omega, ?_⟩
  have e : u = c0 + (c1 + (c2 + (c3 + (c4 + (c5 + (c6 + c7)))))) + 128 * (2 * (t1 + t2 + t3 + t4 + t5 + t6 + t7)) := by
    omega
  rw [e, Nat.add_mul_mod_self_left, Nat.mod_eq_of_lt (by omega)]
theorem swar {x : Nat} (hx : x < 18446744073709551616) : bits_OnesCount64.f (x : Int) = some (ones x : Int) := by
  unfold bits_OnesCount64.f
  rw [sw1 hx, sw2, sw3]
  obtain ⟨z, hz⟩ : ∃ z, bmap pb3 8 x = z := ⟨_, rfl⟩
  obtain ⟨y, hy⟩ : ∃ y, y = z + z / 256 := ⟨_, rfl⟩
  obtain ⟨v, hv⟩ : ∃ v, v = y + y / 65536 := ⟨_, rfl⟩
  obtain ⟨u, hu⟩ : ∃ u, u = v + v / 4294967296 := ⟨_, rfl⟩
  have e := bm3_eq x
  rw [hz] at e
  obtain ⟨l1, l2, l3, l4⟩ := sw6 (pb3_le x) (pb3_le (x / 256)) (pb3_le (x / 256 / 256)) (pb3_le (x / 256 / 256 / 256)) (pb3_le (x / 256 / 256 / 256 / 256)) (pb3_le (x / 256 / 256 / 256 / 256 / 256)) (pb3_le (x / 256 / 256 / 256 / 256 / 256 / 256)) (pb3_le (x / 256 / 256 / 256 / 256 / 256 / 256 / 256)) e hy hv hu
  rw [hz, show (8 : Int) = ((8 : Nat) : Int) from rfl, show (16 : Int) = ((16 : Nat) : Int) from rfl, show (32 : Int) = ((32 : Nat) : Int) from rfl]
  rw [sw4 (z := z) (n := 8) (by rw [show 2 ^ 8 = 256 from rfl, ← hy]; exact l1), show z + z / 2 ^ 8 = y from hy.symm]
  rw [sw4 (z := y) (n := 16) (by rw [show 2 ^ 16 = 65536 from rfl, ← hv]; exact l2), show y + y / 2 ^ 16 = v from hv.symm]
  rw [sw4 (z := v) (n := 32) (by rw [show 2 ^ 32 = 4294967296 from rfl, ← hu]; omega), show v + v / 2 ^ 32 = u from hu.symm]
  rw [sw5 l3, l4, ones_bytes]
theorem bits_Count_eq {x : Nat} (hx : x < 18446744073709551616) : bits_Count.f (x : Int) = some (ones x : Int) := by
  unfold bits_Count.f; rw [swar hx]; rfl
end Go.Proofs.YtcihbcffokjgjaaGreat.Fn
namespace Go.Proofs.YtcihbcffokjgjaaGreat.Fn
open Go Go.RowKit Go.Proofs.YtcihbcffokjgjaaGreat.Ev Go.Proofs.YtcihbcffokjgjaaGreat.Bv
set_option linter.unusedVariables false
set_option linter.unusedSimpArgs false
theorem testBit_mask (w i : Nat) : (vmask w).testBit i = decide (i < w) := Nat.testBit_two_pow_sub_one w i
theorem testBit_comp {M : Nat} (hM : M < U64) (i : Nat) : (18446744073709551615 - M).testBit i = (decide (i < 64) && !M.testBit i) := by
  have := testBit_vnot 64 M i
  rw [← this]; unfold vnot; rw [p64, Nat.mod_eq_of_lt hM]
theorem le_mask_of {x w : Nat} (h : x < 2 ^ w) : x ≤ vmask w := by unfold vmask; omega
theorem lt_of_le_mask {x w : Nat} (h : x ≤ vmask w) : x < 2 ^ w := by have := pw_pos w; unfold vmask at h; omega
theorem fits {w x : Nat} (hw : w ≤ 64) (hx : x < U64) : x &&& (18446744073709551615 - vmask w) = 0 ↔ x ≤ vmask w := by
  constructor
  · intro h
    apply le_mask_of
    apply Nat.lt_pow_two_of_testBit
    intro i hi
    have := bit_of h i
    rw [Nat.testBit_and, testBit_comp (vmask_lt hw), testBit_mask, Nat.zero_testBit] at this
    by_cases h64 : i < 64
    · simpa [h64, show ¬ i < w by omega] using this
    · exact testBit_ge (lt_pw hx) (by omega)
  · intro h
    refine bits_ext fun i => ?_
    rw [Nat.testBit_and, testBit_comp (vmask_lt hw), testBit_mask, Nat.zero_testBit]
    by_cases hi : i < w
    · simp [hi]
    · rw [testBit_ge (lt_of_le_mask h) (by omega)]; rfl
theorem or_le_mask {w x y : Nat} : x ||| y ≤ vmask w ↔ x ≤ vmask w ∧ y ≤ vmask w := by
  constructor
  · intro h
    have h1 : x ≤ x ||| y := Nat.left_le_or
    have h2 : y ≤ x ||| y := Nat.right_le_or
    omega
  · intro h
    exact le_mask_of (Nat.or_lt_two_pow (lt_of_le_mask h.1) (lt_of_le_mask h.2))
theorem kok_iff {w z o : Nat} (hw : w ≤ 64) (hz : z < U64) (ho : o < U64) : kok (vmask w) z o ↔ z &&& o = 0 ∧ z ≤ vmask w ∧ o ≤ vmask w := by
  unfold kok
  rw [fits hw (or_lt hz ho), or_le_mask]
theorem saturateref12_Valid_eq (a : Int) {z o : Nat} (hz : z < U64) (ho : o < U64) : saturateref12_Valid.f a ((z : Int), (o : Int)) = some (decide (kok (MK a) z o)) := by
  unfold saturateref12_Valid.f
  simp only
  rw [and64 hz ho, saturateref01_Mask_eq, cast0]
  have h := kok_iff (W_le a) hz ho
  simp only [Option.bind_some, Int.ofNat_le]
  by_cases h1 : z &&& o = 0
  · rw [bifd_pos h1]
    by_cases h2 : z ≤ vmask (W a)
    · rw [bifd_pos h2]; congr 1; rw [decide_eq_decide, h]
      exact ⟨fun q => ⟨h1, h2, q⟩, fun q => q.2.2⟩
    · rw [bifd_neg h2]; congr 1; symm; rw [decide_eq_false_iff_not, h]; exact fun q => h2 q.2.1
  · rw [bifd_neg h1]; congr 1; symm; rw [decide_eq_false_iff_not, h]; exact fun q => h1 q.1
theorem saturateref12_Of_eq (a : Int) {z o : Nat} (hz : z < U64) (ho : o < U64) : saturateref12_Of.f a ((z : Int), (o : Int)) = some (((kof (MK a) z o).1 : Int), ((kof (MK a) z o).2 : Int)) := by
  unfold saturateref12_Of.f saturateref12_Top.f
  simp only
  rw [saturateref12_Valid_eq a hz ho, Option.bind_some]
  unfold kof
  by_cases h : kok (MK a) z o
  · rw [bifd_pos h, if_pos h]
  · rw [bifd_neg h, if_neg h]; rfl
theorem bits_Not_eq (a : Int) {x : Nat} (hx : x < U64) : bits_Not.f a x = some (vnot (W a) x : Int) := by
  unfold bits_Not.f
  rw [show (18446744073709551615 : Int) = ((18446744073709551615 : Nat) : Int) from rfl, xor64 (by decide) hx, bits_Cut_eq a (by rw [← p64]; exact Nat.xor_lt_two_pow (by decide) (lt_pw hx)), Option.bind_some, not_cut (W_le a)]
def kcst (w x : Nat) : Nat × Nat := (vmask w - vcut w x, vcut w x)
theorem known_Const_eq (a : Int) {x : Nat} (hx : x < U64) : known_Const.f a x = some (((kcst (W a) x).1 : Int), ((kcst (W a) x).2 : Int)) := by
  unfold known_Const.f
  rw [bits_Cut_eq a hx, Option.bind_some, bits_Not_eq a (vcut_lt x (W_le a)), Option.bind_some]
  unfold kcst vnot vmask vcut; rw [Nat.mod_mod]
theorem kcst_lt (w x : Nat) (hw : w ≤ 64) : (kcst w x).1 < U64 ∧ (kcst w x).2 < U64 := by
  have := vmask_lt hw
  have := vcut_lt x hw
  unfold kcst U64; simp only; omega
theorem kcst_bit1 (w x i : Nat) : (kcst w x).1.testBit i = (decide (i < w) && !x.testBit i) := by
  rw [← testBit_vnot]; rfl
theorem kcst_bit2 (w x i : Nat) : (kcst w x).2.testBit i = (decide (i < w) && x.testBit i) := by
  unfold kcst vcut; rw [Nat.testBit_mod_two_pow]
theorem kcst_ok (a : Int) (x : Nat) : kok (MK a) (kcst (W a) x).1 (kcst (W a) x).2 := by
  obtain ⟨h1, h2⟩ := kcst_lt (W a) x (W_le a)
  rw [kok_iff (W_le a) h1 h2]
  have hc : vcut (W a) x ≤ vmask (W a) := le_mask_of (Nat.mod_lt _ (pw_pos _))
  refine ⟨bits_ext fun i => ?_, Nat.sub_le _ _, hc⟩
  rw [Nat.testBit_and, kcst_bit1, kcst_bit2, Nat.zero_testBit]
  cases decide (i < W a) <;> cases x.testBit i <;> rfl
def khas (k : Nat × Nat) (x : Nat) : Prop := x &&& k.1 = 0 ∧ x &&& k.2 = k.2
instance (k : Nat × Nat) (x : Nat) : Decidable (khas k x) := inferInstanceAs (Decidable (_ ∧ _))
theorem has_tail {k : Nat × Nat} {x : Nat} (h1 : k.1 < U64) (h2 : k.2 < U64) (hx : x < U64) :
    (bif ((Go.bits .and .u64 (x : Int) (k.1 : Int)) == 0) then some ((Go.bits .and .u64 (x : Int) (k.2 : Int)) == (k.2 : Int)) else some false) = some (decide (khas k x)) := by
  rw [and64 hx h1, and64 hx h2, cast0, castb]
  by_cases h : x &&& k.1 = 0
  · rw [bifd_pos h]; congr 1; rw [decide_eq_decide]; exact ⟨fun q => ⟨h, q⟩, fun q => q.2⟩
  · rw [bifd_neg h]; congr 1; symm; rw [decide_eq_false_iff_not]; exact fun q => h q.1
theorem known_Has_eq (a : Int) {z o x : Nat} (hz : z < U64) (ho : o < U64) (hx : x < U64) : known_Has.f a ((z : Int), (o : Int)) x = some (decide (khas (kof (MK a) z o) (vcut (W a) x))) := by
  unfold known_Has.f
  simp only
  rw [known_of_eq a hz ho, Option.bind_some, bits_Cut_eq a hx, Option.bind_some]
  exact has_tail (kof_lt hz ho).1 (kof_lt hz ho).2 (vcut_lt x (W_le a))
def kunk (w : Nat) (k : Nat × Nat) : Nat := vmask w &&& (18446744073709551615 - (k.1 ||| k.2))
theorem kunk_bit {w : Nat} {k : Nat × Nat} (h1 : k.1 < U64) (h2 : k.2 < U64) (hw : w ≤ 64) (i : Nat) : (kunk w k).testBit i = (decide (i < w) && !(k.1.testBit i || k.2.testBit i)) := by
  unfold kunk
  rw [Nat.testBit_and, testBit_mask, testBit_comp (or_lt h1 h2), Nat.testBit_or]
  by_cases h : i < w
  · simp [h, show i < 64 by omega]
  · simp [h]
theorem kunk_lt {w : Nat} (k : Nat × Nat) (hw : w ≤ 64) : kunk w k < U64 := Nat.lt_of_le_of_lt Nat.and_le_left (vmask_lt hw)
theorem known_unknown_eq (a : Int) {k : Nat × Nat} (h1 : k.1 < U64) (h2 : k.2 < U64) : known_unknown.f a ((k.1 : Int), (k.2 : Int)) = some (kunk (W a) k : Int) := by
  unfold known_unknown.f
  simp only
  rw [bits_Mask_eq, Option.bind_some, or64 h1 h2, andNot64 (vmask_lt (W_le a)) (or_lt h1 h2)]; rfl
def kone (w : Nat) (k : Nat × Nat) : Prop := kunk w k = 0
instance (w : Nat) (k : Nat × Nat) : Decidable (kone w k) := inferInstanceAs (Decidable (_ = _))
theorem known_Single_eq (a : Int) {z o : Nat} (hz : z < U64) (ho : o < U64) : known_Single.f a ((z : Int), (o : Int)) = some (if kone (W a) (kof (MK a) z o) then (((kof (MK a) z o).2 : Int), true) else (0, false)) := by
  unfold known_Single.f
  simp only
  rw [known_of_eq a hz ho, Option.bind_some]
  simp only
  rw [known_unknown_eq a (kof_lt hz ho).1 (kof_lt hz ho).2, Option.bind_some, cast0n]
  by_cases h : kone (W a) (kof (MK a) z o)
  · rw [if_pos h, decide_eq_true (show kunk _ _ = 0 from h)]; rfl
  · rw [if_neg h, decide_eq_false (show ¬ kunk _ _ = 0 from h)]; rfl
end Go.Proofs.YtcihbcffokjgjaaGreat.Fn
namespace Go.Proofs.YtcihbcffokjgjaaGreat.Fn
open Go Go.RowKit Go.Proofs.YtcihbcffokjgjaaGreat.Ev Go.Proofs.YtcihbcffokjgjaaGreat.Bv
set_option linter.unusedVariables false
set_option linter.unusedSimpArgs false
theorem mn_c (a b : Int) : mn a b = a ∨ mn a b = b := by unfold mn; split <;> omega
theorem mx_c (a b : Int) : mx a b = a ∨ mx a b = b := by unfold mx; split <;> omega
def MM (a : Int) : Int := (vmask (W a) : Int)
theorem MM_nn (a : Int) : 0 ≤ MM a := Int.natCast_nonneg _
def nrm (M : Int) (r : Int × Int) : Int × Int := if r.1 ≤ r.2 ∧ r.2 ≤ M then r else (0, M)
theorem nrm_of {M : Int} {r : Int × Int} (h1 : r.1 ≤ r.2) (h2 : r.2 ≤ M) : nrm M r = r := if_pos ⟨h1, h2⟩
theorem nrm_ok {M : Int} (hM : 0 ≤ M) {r : Int × Int} (h : 0 ≤ r.1) : 0 ≤ (nrm M r).1 ∧ (nrm M r).1 ≤ (nrm M r).2 ∧ (nrm M r).2 ≤ M := by
  unfold nrm; split
  · rename_i hc; exact ⟨h, hc⟩
  · exact ⟨Int.le_refl _, hM, Int.le_refl _⟩
theorem ranges_Valid_eq (a : Int) (r : Int × Int) : ranges_Valid.f a r = some (decide (r.1 ≤ r.2 ∧ r.2 ≤ MM a)) := by
  unfold ranges_Valid.f; rw [bits_Mask_eq]; simp only [Option.bind_some]
  by_cases h : r.1 ≤ r.2 <;> simp [h, MM]
theorem ranges_Top_eq (a : Int) : ranges_Top.f a = some (0, MM a) := by unfold ranges_Top.f; rw [bits_Mask_eq]; rfl
theorem ranges_norm_eq (a : Int) (r : Int × Int) : ranges_norm.f a r = some (nrm (MM a) r) := by
  unfold ranges_norm.f; rw [ranges_Valid_eq, ranges_Top_eq]; simp only [Option.bind_some]
  unfold nrm
  by_cases h : r.1 ≤ r.2 ∧ r.2 ≤ MM a
  · simp [h]
  · rw [if_neg h]; simp [h]
theorem ranges_Const_eq (a : Int) {x : Nat} (hx : x < 18446744073709551616) : ranges_Const.f a x = some ((vcut (W a) x : Int), (vcut (W a) x : Int)) := by unfold ranges_Const.f; rw [bits_Cut_eq a hx]; rfl
theorem ranges_Has_eq (a : Int) (r : Int × Int) {x : Nat} (hx : x < 18446744073709551616) : ranges_Has.f a r x = some (decide ((nrm (MM a) r).1 ≤ (vcut (W a) x : Int) ∧ (vcut (W a) x : Int) ≤ (nrm (MM a) r).2)) := by
  unfold ranges_Has.f; rw [ranges_norm_eq, bits_Cut_eq a hx]; simp only [Option.bind_some]
  by_cases h : (nrm (MM a) r).1 ≤ (vcut (W a) x : Int) <;> simp [h]
def jn (x y : Int × Int) : Int × Int := (mn x.1 y.1, mx x.2 y.2)
def mtt (x y : Int × Int) : Int × Int := (mx x.1 y.1, mn x.2 y.2)
theorem ranges_Join_eq (a : Int) (r s : Int × Int) : ranges_Join.f a r s = some (jn (nrm (MM a) r) (nrm (MM a) s)) := by
  unfold ranges_Join.f; rw [ranges_norm_eq, ranges_norm_eq]; rfl
theorem ranges_Meet_eq (a : Int) (r s : Int × Int) : ranges_Meet.f a r s = some (if (mtt (nrm (MM a) r) (nrm (MM a) s)).1 > (mtt (nrm (MM a) r) (nrm (MM a) s)).2 then ((0, MM a), false) else (mtt (nrm (MM a) r) (nrm (MM a) s), true)) := by
  unfold ranges_Meet.f; rw [ranges_norm_eq, ranges_norm_eq, ranges_Top_eq]; simp only [Option.bind_some]
  unfold mtt
  by_cases h : mx (nrm (MM a) r).1 (nrm (MM a) s).1 > mn (nrm (MM a) r).2 (nrm (MM a) s).2
  · rw [bifd_pos h, if_pos h]
  · rw [bifd_neg h, if_neg h]
def IsLen (x n : Nat) : Prop := x < 2 ^ n ∧ (n = 0 ∨ 2 ^ (n - 1) ≤ x)
def len8 (v : Nat) : Nat := if v = 0 then 0 else v.log2 + 1
theorem isLen_len8 (v : Nat) : IsLen v (len8 v) := by
  unfold len8 IsLen
  split
  · rename_i h; subst h; exact ⟨by decide, .inl rfl⟩
  · rename_i h; exact ⟨Nat.lt_log2_self, .inr (by rw [Nat.add_sub_cancel]; exact Nat.log2_self_le h)⟩
theorem IsLen.shift {x n k : Nat} (h : IsLen (x >>> k) n) (hx : 2 ^ k ≤ x) : IsLen x (n + k) := by
  rw [Nat.shiftRight_eq_div_pow] at h
  obtain ⟨h1, h2⟩ := h
  have hp := Nat.two_pow_pos k
  have hq : 1 ≤ x / 2 ^ k := (Nat.one_le_div_iff hp).2 hx
  refine ⟨?_, .inr ?_⟩
  · rw [Nat.pow_add]; exact (Nat.div_lt_iff_lt_mul hp).1 h1
  · rcases h2 with rfl | h2
    · simp at h1; omega
    · have hn : n ≠ 0 := fun e => by subst e; simp at h1; omega
      rw [show n + k - 1 = (n - 1) + k by omega, Nat.pow_add]
      exact (Nat.le_div_iff_mul_le hp).1 h2
theorem p10_all : ∀ v : Fin 256, bits_Len64.p10 1 0 ((v.val : Nat) : Int) 0 = some ((len8 v.val : Nat) : Int) := by decide +kernel
theorem len_tail (c : Bool) (t : Option UInt8) (n : Int) (r : Int) (h : (bif c then t.bind (fun u => some (IntKind.i64.wrap (0 + IntKind.i64.wrap (u.toNat : Int)))) else none) = some r) :
    (bif c then t.bind (fun u => some (IntKind.i64.wrap (n + IntKind.i64.wrap (u.toNat : Int)))) else none) = some (IntKind.i64.wrap (n + r)) := by
  cases c with
  | false => cases h
  | true =>
    cases t with
    | none => cases h
    | some u =>
      simp only [cond_true, Option.bind_some, Option.some.injEq] at h ⊢
      rw [← h]
      have h1 : u.toNat < 256 := u.toNat_lt
      have h2 : IntKind.i64.wrap (u.toNat : Int) = (u.toNat : Int) := by rw [wrapi, wrapi_of (by omega) (by omega)]
      rw [h2, Int.zero_add, h2]
theorem p10_eq {v : Nat} (hv : v < 256) (m fu : Nat) (n : Int) : bits_Len64.p10 (m + 1) fu (v : Int) n = some (IntKind.i64.wrap (n + (len8 v : Int))) := by
  have h := p10_all ⟨v, hv⟩
  simp only at h
  rw [bits_Len64.p10_eq 0 0] at h
  rw [bits_Len64.p10_eq]
  exact len_tail _ _ n _ h
theorem wrap_small {n : Int} (h1 : 0 ≤ n) (h2 : n < 1000) : IntKind.i64.wrap n = n := by rw [wrapi, wrapi_of (by omega) (by omega)]
theorem len8_le {v : Nat} (hv : v < 256) : len8 v ≤ 8 := by
  unfold len8; split
  · omega
  · rename_i h
    have := Nat.log2_self_le h
    rcases Nat.lt_or_ge v.log2 8 with h8 | h8
    · omega
    · have := Nat.pow_le_pow_right (n := 2) (by decide) h8
      have : (2 : Nat) ^ 8 = 256 := rfl
      omega
theorem p7_len {v : Nat} (hv : v < 65536) (m k n : Nat) (hn : n ≤ 56) : ∃ l, bits_Len64.p7 (m + 1) (k + 1) (v : Int) (n : Int) = some ((n + l : Nat) : Int) ∧ IsLen v l ∧ l ≤ 16 := by
  rw [bits_Len64.p7_eq]
  by_cases h : 256 ≤ v
  · have hs : v >>> 8 < 256 := by rw [Nat.shiftRight_eq_div_pow]; omega
    have h8 := len8_le hs
    rw [bifd_pos (by omega), show (8 : Int) = ((8 : Nat) : Int) from rfl, shr64 (by omega), wrap_small (by omega) (by omega), p10_eq hs, wrap_small (by omega) (by omega)]
    exact ⟨len8 (v >>> 8) + 8, by congr 1; omega, (isLen_len8 _).shift (k := 8) h, by omega⟩
  · have h8 := len8_le (show v < 256 by omega)
    rw [bifd_neg (by omega), p10_eq (by omega), wrap_small (by omega) (by omega)]
    exact ⟨len8 v, by congr 1, isLen_len8 v, by omega⟩
theorem p4_len {v : Nat} (hv : v < 4294967296) (m k n : Nat) (hn : n ≤ 32) : ∃ l, bits_Len64.p4 (m + 1) (k + 1) (v : Int) (n : Int) = some ((n + l : Nat) : Int) ∧ IsLen v l ∧ l ≤ 32 := by
  rw [bits_Len64.p4_eq]
  by_cases h : 65536 ≤ v
  · have hs : v >>> 16 < 65536 := by rw [Nat.shiftRight_eq_div_pow]; omega
    rw [bifd_pos (by omega), show (16 : Int) = ((16 : Nat) : Int) from rfl, shr64 (by omega), wrap_small (by omega) (by omega)]
    obtain ⟨l, h1, h2, h3⟩ := p7_len hs k k (n + 16) (by omega)
    refine ⟨l + 16, ?_, h2.shift (k := 16) h, by omega⟩
    rw [show ((n : Int) + ((16 : Nat) : Int)) = ((n + 16 : Nat) : Int) by omega, h1]
    congr 1; omega
  · rw [bifd_neg (by omega)]
    obtain ⟨l, h1, h2, h3⟩ := p7_len (show v < 65536 by omega) k k n (by omega)
    exact ⟨l, h1, h2, by omega⟩
theorem bits_Len64_eq {x : Nat} (hx : x < 18446744073709551616) : ∃ l : Nat, bits_Len64.f x = some (l : Int) ∧ IsLen x l ∧ l ≤ 64 := by
  unfold bits_Len64.f bits_Len64.g
  by_cases h : 4294967296 ≤ x
  · have hs : x >>> 32 < 4294967296 := by rw [Nat.shiftRight_eq_div_pow]; omega
    rw [bifd_pos (by omega), show (32 : Int) = ((32 : Nat) : Int) from rfl, shr64 hx]
    obtain ⟨l, h1, h2, h3⟩ := p4_len hs fuel0 fuel0 32 (by omega)
    refine ⟨l + 32, ?_, h2.shift (k := 32) h, by omega⟩
    rw [h1]; congr 1; omega
  · rw [bifd_neg (by omega)]
    obtain ⟨l, h1, h2, h3⟩ := p4_len (show x < 4294967296 by omega) fuel0 fuel0 0 (by omega)
    refine ⟨l, ?_, h2, by omega⟩
    have h1' : bits_Len64.p4 (fuel0 + 1) (fuel0 + 1) (x : Int) 0 = some ((0 + l : Nat) : Int) := h1
    rw [h1']; congr 1; omega
theorem ranges_Fill_eq {x n : Nat} (hx : x < 18446744073709551616) (hn : IsLen x n) (h64 : n ≤ 64) : ranges_Fill.f x = some (vmask n : Int) := by
  unfold ranges_Fill.f
  by_cases h : x = 0
  · subst h
    have : n = 0 := by
      rcases hn.2 with h | h
      · exact h
      · have := Nat.two_pow_pos (n - 1); omega
    subst this; rfl
  · rw [show ((x : Int) == 0) = false by simpa using h]
    obtain ⟨l, h1, h2, h3⟩ := bits_Len64_eq hx
    have hl : l = n := by
      have aux : ∀ {p q : Nat}, IsLen x p → IsLen x q → p ≤ q := fun {p q} hp hq => by
        rcases Nat.lt_or_ge q p with hlt | hge
        · rcases hp.2 with h0 | h0
          · omega
          · have := Nat.pow_le_pow_right (n := 2) (by decide) (show q ≤ p - 1 by omega)
            have := hq.1
            omega
        · exact hge
      exact Nat.le_antisymm (aux h2 hn) (aux hn h2)
    subst hl
    have hl1 : 1 ≤ l := by
      rcases Nat.eq_zero_or_pos l with h0 | h0
      · subst h0; have := h2.1; simp at this; omega
      · exact h0
    rw [h1]; simp only [cond_false, Option.bind_some]
    rw [bits_Mask_eq, W_of hl1 h3]; rfl
theorem len_ex {x : Nat} (hx : x < 18446744073709551616) : ∃ n, IsLen x n ∧ n ≤ 64 := by
  obtain ⟨l, _, h2, h3⟩ := bits_Len64_eq hx
  exact ⟨l, h2, h3⟩
end Go.Proofs.YtcihbcffokjgjaaGreat.Fn
namespace Go.Proofs.YtcihbcffokjgjaaGreat.Fn
open Go Go.RowKit Go.Proofs.YtcihbcffokjgjaaGreat.Ev Go.Proofs.YtcihbcffokjgjaaGreat.Bv
set_option linter.unusedVariables false
set_option linter.unusedSimpArgs false
set_option maxRecDepth 100000
abbrev cp (r : Nat × Nat) : Int × Int := ((r.1 : Int), (r.2 : Int))
def nrmN (M : Nat) (r : Nat × Nat) : Nat × Nat := if r.1 ≤ r.2 ∧ r.2 ≤ M then r else (0, M)
def rok (M : Nat) (r : Nat × Nat) : Prop := r.1 ≤ r.2 ∧ r.2 ≤ M
instance (M : Nat) (r : Nat × Nat) : Decidable (rok M r) := inferInstanceAs (Decidable (_ ∧ _))
theorem nrmN_ok (M : Nat) (r : Nat × Nat) : rok M (nrmN M r) := by
  unfold nrmN; split
  · assumption
  · exact ⟨Nat.zero_le _, Nat.le_refl _⟩
theorem nrmN_of {M : Nat} {r : Nat × Nat} (h : rok M r) : nrmN M r = r := if_pos h
theorem nrm_cp (a : Int) (r : Nat × Nat) : nrm (MM a) (cp r) = cp (nrmN (MK a) r) := by
  unfold nrm nrmN
  by_cases h : r.1 ≤ r.2 ∧ r.2 ≤ MK a
  · rw [if_pos h, if_pos (show (cp r).1 ≤ (cp r).2 ∧ (cp r).2 ≤ MM a from ⟨Int.ofNat_le.2 h.1, Int.ofNat_le.2 h.2⟩)]
  · rw [if_neg h, if_neg (fun q : (cp r).1 ≤ (cp r).2 ∧ (cp r).2 ≤ MM a => h ⟨Int.ofNat_le.1 q.1, Int.ofNat_le.1 q.2⟩)]; rfl
def mttN (x y : Nat × Nat) : Nat × Nat := (max x.1 y.1, min x.2 y.2)
def jnN (x y : Nat × Nat) : Nat × Nat := (min x.1 y.1, max x.2 y.2)
theorem mx_cast (m n : Nat) : mx (m : Int) (n : Int) = ((max m n : Nat) : Int) := by unfold mx; split <;> omega
theorem mn_cast (m n : Nat) : mn (m : Int) (n : Int) = ((min m n : Nat) : Int) := by unfold mn; split <;> omega
theorem mtt_cp (x y : Nat × Nat) : mtt (cp x) (cp y) = cp (mttN x y) := by unfold mtt mttN; rw [mx_cast, mn_cast]
theorem jn_cp (x y : Nat × Nat) : jn (cp x) (cp y) = cp (jnN x y) := by unfold jn jnN; rw [mx_cast, mn_cast]
theorem rMeet_cp (a : Int) (r s : Nat × Nat) : ranges_Meet.f a (cp r) (cp s) = some (if (mttN (nrmN (MK a) r) (nrmN (MK a) s)).2 < (mttN (nrmN (MK a) r) (nrmN (MK a) s)).1 then ((0, MM a), false) else (cp (mttN (nrmN (MK a) r) (nrmN (MK a) s)), true)) := by
  rw [ranges_Meet_eq, nrm_cp, nrm_cp, mtt_cp]
  congr 1
  by_cases h : (mttN (nrmN (MK a) r) (nrmN (MK a) s)).2 < (mttN (nrmN (MK a) r) (nrmN (MK a) s)).1
  · rw [if_pos h, if_pos (show _ > _ from Int.ofNat_lt.2 h)]
  · rw [if_neg h, if_neg (fun q => h (Int.ofNat_lt.1 q))]
def preS (lo hi : Nat) : Nat → Nat → Nat → Nat × Nat
  | 0, z, o => (z, o)
  | i + 1, z, o => if lo.testBit i = hi.testBit i then (if lo.testBit i then preS lo hi i z (o ||| 2 ^ i) else preS lo hi i (z ||| 2 ^ i) o) else (z, o)
theorem shl_one {i : Nat} (hi : i < 64) : shl .u64 1 (i : Int) = ((2 ^ i : Nat) : Int) := by
  rw [show (1 : Int) = ((1 : Nat) : Int) from rfl, shl64, Nat.shiftLeft_eq, Nat.one_mul, Nat.mod_eq_of_lt (by rw [← p64]; exact Nat.pow_lt_pow_right (by decide) hi)]
theorem pw_lt {i : Nat} (hi : i < 64) : 2 ^ i < U64 := by rw [show U64 = 2 ^ 64 from rfl]; exact Nat.pow_lt_pow_right (by decide) hi
theorem and_pow (x i : Nat) : (x &&& 2 ^ i = 0) ↔ x.testBit i = false := by
  constructor
  · intro h
    have := bit_of h i
    rw [Nat.testBit_and, Nat.testBit_two_pow_self, Nat.zero_testBit] at this
    simpa using this
  · intro h
    refine bits_ext fun j => ?_
    rw [Nat.testBit_and, Nat.zero_testBit, Nat.testBit_two_pow]
    by_cases e : i = j
    · subst e; rw [h]; rfl
    · rw [decide_eq_false e, Bool.and_false]
theorem and_pow_bne {x i : Nat} (hx : x < U64) (hi : i < 64) : ((Go.bits .and .u64 (x : Int) (shl .u64 1 (i : Int))) != 0) = x.testBit i := by
  rw [shl_one hi, and64 hx (pw_lt hi), cast0n]
  cases h : x.testBit i
  · rw [decide_eq_true ((and_pow x i).2 h)]; rfl
  · rw [decide_eq_false (fun q => by rw [(and_pow x i).1 q] at h; exact absurd h (by decide))]; rfl
theorem xor_ltA {x y : Nat} (hx : x < U64) (hy : y < U64) : x ^^^ y < U64 := by rw [show U64 = 2 ^ 64 from rfl]; exact Nat.xor_lt_two_pow hx hy
theorem preS_lt {lo hi : Nat} : ∀ (i z o : Nat), i ≤ 64 → z < U64 → o < U64 → (preS lo hi i z o).1 < U64 ∧ (preS lo hi i z o).2 < U64
  | 0, z, o, _, hz, ho => ⟨hz, ho⟩
  | i + 1, z, o, hi', hz, ho => by
    have hp := pw_lt (i := i) (by omega)
    unfold preS
    split
    · split
      · exact preS_lt i z _ (by omega) hz (or_lt ho hp)
      · exact preS_lt i _ o (by omega) (or_lt hz hp) ho
    · exact ⟨hz, ho⟩
theorem prefix_j3 (fu : Nat) {lo hi : Nat} (hl : lo < U64) (hh : hi < U64) (u v : Int) : ∀ (i z o n : Nat), i ≤ 64 → z < U64 → o < U64 → i < n →
    facts_prefix.j3 (fu + 1) n ((i : Int) - 1) lo hi u v z o = some (cp (preS lo hi i z o))
  | 0, z, o, n, _, hz, ho, hn => by
    obtain ⟨n, rfl⟩ : ∃ m, n = m + 1 := ⟨n - 1, by omega⟩
    rw [facts_prefix.j3_succ, bifd_neg (by omega), facts_prefix.p10_eq]; rfl
  | i + 1, z, o, n, hi', hz, ho, hn => by
    obtain ⟨n, rfl⟩ : ∃ m, n = m + 1 := ⟨n - 1, by omega⟩
    have hp := pw_lt (i := i) (by omega)
    have e : (((i + 1 : Nat) : Int) - 1) = (i : Int) := by omega
    rw [e, facts_prefix.j3_succ, bifd_pos (by omega), bifd_neg (by omega), xor64 hl hh, and_pow_bne (xor_ltA hl hh) (by omega), and_pow_bne hl (by omega), Nat.testBit_xor]
    unfold preS
    by_cases h : lo.testBit i = hi.testBit i
    · rw [if_pos h, h, Bool.xor_self, cond_false]
      cases hb : hi.testBit i
      · rw [cond_false, if_neg (by decide), facts_prefix.p4_eq, shl_one (by omega), or64 hz hp, wrapi, wrapi_of (by omega) (by omega)]
        exact prefix_j3 fu hl hh u v i _ o n (by omega) (or_lt hz hp) ho (by omega)
      · rw [cond_true, if_pos rfl, facts_prefix.p4_eq, shl_one (by omega), or64 ho hp, wrapi, wrapi_of (by omega) (by omega)]
        exact prefix_j3 fu hl hh u v i z _ n (by omega) hz (or_lt ho hp) (by omega)
    · rw [if_neg h, show (lo.testBit i ^^ hi.testBit i) = true by revert h; cases lo.testBit i <;> cases hi.testBit i <;> decide, cond_true, facts_prefix.p10_eq]
theorem facts_prefix_eq {w : Nat} (h1 : 1 ≤ w) (h2 : w ≤ 64) {lo hi : Nat} (hl : lo < U64) (hh : hi < U64) : facts_prefix.f (w : Int) ((lo : Int), (hi : Int)) = some (cp (preS lo hi w 0 0)) := by
  unfold facts_prefix.f
  have hf : fuel0 = 100 + (fuel0 - 100) := by unfold fuel0; omega
  generalize fuel0 - 100 = fu at hf
  rw [hf]
  unfold facts_prefix.g
  rw [wrapi, wrapi_of (by omega) (by omega)]
  exact prefix_j3 (100 + fu) hl hh 0 0 w 0 0 _ h2 (by decide) (by decide) (by omega)
theorem preS_bit (lo hi : Nat) : ∀ (n z o : Nat), ∃ c, c ≤ n ∧ (∀ i, c ≤ i → i < n → lo.testBit i = hi.testBit i) ∧
    ∀ i, (preS lo hi n z o).1.testBit i = (z.testBit i || (decide (c ≤ i ∧ i < n) && !lo.testBit i)) ∧ (preS lo hi n z o).2.testBit i = (o.testBit i || (decide (c ≤ i ∧ i < n) && lo.testBit i))
  | 0, z, o => ⟨0, Nat.le_refl _, fun i _ h => absurd h (by omega), fun i => by rw [decide_eq_false (by omega)]; unfold preS; simp⟩
  | n + 1, z, o => by
    unfold preS
    by_cases h : lo.testBit n = hi.testBit n
    · rw [if_pos h]
      by_cases hb : lo.testBit n = true
      · rw [if_pos hb]
        obtain ⟨c, h1, h2, h3⟩ := preS_bit lo hi n z (o ||| 2 ^ n)
        refine ⟨c, by omega, fun i i1 i2 => ?_, fun i => ?_⟩
        · by_cases e : i = n
          · subst e; exact h
          · exact h2 i i1 (by omega)
        · rw [(h3 i).1, (h3 i).2, Nat.testBit_or, Nat.testBit_two_pow]
          by_cases e : n = i
          · subst e
            rw [decide_eq_false (show ¬ (c ≤ n ∧ n < n) by omega), decide_eq_true (show c ≤ n ∧ n < n + 1 by omega), hb]; simp
          · rw [decide_eq_false e, Bool.or_false]
            have : (c ≤ i ∧ i < n) ↔ (c ≤ i ∧ i < n + 1) := by omega
            simp only [this]; simp
      · rw [if_neg hb]
        obtain ⟨c, h1, h2, h3⟩ := preS_bit lo hi n (z ||| 2 ^ n) o
        refine ⟨c, by omega, fun i i1 i2 => ?_, fun i => ?_⟩
        · by_cases e : i = n
          · subst e; exact h
          · exact h2 i i1 (by omega)
        · rw [(h3 i).1, (h3 i).2, Nat.testBit_or, Nat.testBit_two_pow]
          by_cases e : n = i
          · subst e
            rw [decide_eq_false (show ¬ (c ≤ n ∧ n < n) by omega), decide_eq_true (show c ≤ n ∧ n < n + 1 by omega)]; simp [hb]
          · rw [decide_eq_false e, Bool.or_false]
            have : (c ≤ i ∧ i < n) ↔ (c ≤ i ∧ i < n + 1) := by omega
            simp only [this]; simp
    · rw [if_neg h]
      exact ⟨n + 1, Nat.le_refl _, fun i i1 i2 => absurd i2 (by omega), fun i => by rw [decide_eq_false (by omega)]; simp⟩
abbrev preK (w : Nat) (r : Nat × Nat) : Nat × Nat := preS r.1 r.2 w 0 0
theorem preK_bit (w : Nat) (r : Nat × Nat) : ∃ c, c ≤ w ∧ (∀ i, c ≤ i → i < w → r.1.testBit i = r.2.testBit i) ∧
    ∀ i, (preK w r).1.testBit i = (decide (c ≤ i ∧ i < w) && !r.1.testBit i) ∧ (preK w r).2.testBit i = (decide (c ≤ i ∧ i < w) && r.1.testBit i) := by
  obtain ⟨c, h1, h2, h3⟩ := preS_bit r.1 r.2 w 0 0
  refine ⟨c, h1, h2, fun i => ?_⟩
  have := h3 i
  simp only [Nat.zero_testBit, Bool.false_or] at this
  exact this
theorem preK_lt {w : Nat} (h2 : w ≤ 64) (r : Nat × Nat) : (preK w r).1 < U64 ∧ (preK w r).2 < U64 := preS_lt w 0 0 h2 (by decide) (by decide)
theorem preK_ok (a : Int) (r : Nat × Nat) : kok (MK a) (preK (W a) r).1 (preK (W a) r).2 := by
  obtain ⟨c, h1, h2, h3⟩ := preK_bit (W a) r
  refine ⟨bits_ext fun i => ?_, bits_ext fun i => ?_⟩
  · rw [Nat.testBit_and, (h3 i).1, (h3 i).2, Nat.zero_testBit]
    cases decide (c ≤ i ∧ i < W a) <;> cases r.1.testBit i <;> rfl
  · rw [Nat.testBit_and, Nat.testBit_or, (h3 i).1, (h3 i).2, Nat.zero_testBit, testBit_comp (MK_lt a), testBit_mask]
    by_cases e : i < W a
    · rw [decide_eq_true e]; simp
    · rw [decide_eq_false (show ¬ (c ≤ i ∧ i < W a) by omega)]; rfl
theorem preK_has {w : Nat} {r : Nat × Nat} {x : Nat} (hr : rok (vmask w) r) (h1 : r.1 ≤ x) (h2 : x ≤ r.2) : khas (preK w r) x := by
  obtain ⟨c, c1, c2, c3⟩ := preK_bit w r
  have hw1 := lt_of_le_mask (Nat.le_trans hr.1 hr.2)
  have hw2 := lt_of_le_mask hr.2
  have e : r.1 / 2 ^ c = r.2 / 2 ^ c := bits_ext fun i => by
    rw [Nat.testBit_div_two_pow, Nat.testBit_div_two_pow]
    by_cases h : i + c < w
    · exact c2 _ (by omega) h
    · rw [testBit_ge hw1 (by omega), testBit_ge hw2 (by omega)]
  have e2 : x / 2 ^ c = r.1 / 2 ^ c := by
    have l1 : r.1 / 2 ^ c ≤ x / 2 ^ c := Nat.div_le_div_right h1
    have l2 : x / 2 ^ c ≤ r.2 / 2 ^ c := Nat.div_le_div_right h2
    omega
  have hb : ∀ i, c ≤ i → x.testBit i = r.1.testBit i := fun i hi => by
    have := bit_of e2 (i - c)
    rw [Nat.testBit_div_two_pow, Nat.testBit_div_two_pow, show i - c + c = i by omega] at this
    exact this
  refine ⟨bits_ext fun i => ?_, bits_ext fun i => ?_⟩
  · rw [Nat.testBit_and, (c3 i).1, Nat.zero_testBit]
    by_cases h : c ≤ i ∧ i < w
    · rw [hb i h.1]; cases r.1.testBit i <;> simp
    · rw [decide_eq_false h]; simp
  · rw [Nat.testBit_and, (c3 i).2]
    by_cases h : c ≤ i ∧ i < w
    · rw [hb i h.1]; cases r.1.testBit i <;> simp
    · rw [decide_eq_false h]; simp
abbrev FT := Int × Int × Int × Int × Int
abbrev fI (a : Int) (k r : Nat × Nat) : FT := (a, (k.1 : Int), (k.2 : Int), (r.1 : Int), (r.2 : Int))
def midN (M : Nat) (k : Nat × Nat) : Nat × Nat := (k.2, M - k.1)
def rngN (M : Nat) (k r : Nat × Nat) : Nat × Nat := mttN (nrmN M r) (nrmN M (midN M k))
def korN (x y : Nat × Nat) : Nat × Nat := (x.1 ||| y.1, x.2 ||| y.2)
def stepV (a : Int) (k r : Nat × Nat) : FT × Bool :=
  if (rngN (MK a) k r).2 < (rngN (MK a) k r).1 then (fI a k r, false)
  else if kdis (kof (MK a) k.1 k.2) (preK (W a) (rngN (MK a) k r)) then (fI a (korN (kof (MK a) k.1 k.2) (preK (W a) (rngN (MK a) k r))) (rngN (MK a) k r), true)
  else (fI a (0, 0) (rngN (MK a) k r), false)
theorem mttN_le {M : Nat} {x y : Nat × Nat} (h : rok M x) (h' : rok M y) (hn : ¬ (mttN x y).2 < (mttN x y).1) : rok M (mttN x y) := by
  unfold mttN at hn ⊢
  obtain ⟨h1, h2⟩ := h
  obtain ⟨h3, h4⟩ := h'
  simp only at hn
  exact ⟨by simp only; omega, by simp only; omega⟩
theorem rngN_ok {M : Nat} {k r : Nat × Nat} (hn : ¬ (rngN M k r).2 < (rngN M k r).1) : rok M (rngN M k r) := mttN_le (nrmN_ok _ _) (nrmN_ok _ _) hn
theorem rok_lt {a : Int} {r : Nat × Nat} (h : rok (MK a) r) : r.1 < U64 ∧ r.2 < U64 := by
  have := MK_lt a; obtain ⟨h1, h2⟩ := h; omega
theorem kok_leA {a : Int} {k : Nat × Nat} (h1 : k.1 < U64) (h2 : k.2 < U64) (h : kok (MK a) k.1 k.2) : k.1 ≤ MK a ∧ k.2 ≤ MK a := ((kok_iff (W_le a) h1 h2).1 h).2
theorem sub_and {a : Int} {z : Nat} (h : z ≤ MK a) : MK a &&& (18446744073709551615 - z) = MK a - z := by
  have hz : z < U64 := Nat.lt_of_le_of_lt h (MK_lt a)
  have hz' := lt_of_le_mask h
  have e : MK a - z = vnot (W a) z := by unfold vnot; rw [Nat.mod_eq_of_lt hz']; rfl
  rw [e]
  refine bits_ext fun i => ?_
  rw [Nat.testBit_and, testBit_vnot, testBit_mask, testBit_comp hz]
  by_cases hi : i < W a
  · have := W_le a; rw [decide_eq_true hi, decide_eq_true (show i < 64 by omega)]; rfl
  · rw [decide_eq_false hi]; rfl
theorem rMeet_mid (a : Int) (k r : Nat × Nat) : ranges_Meet.f a ((r.1 : Int), (r.2 : Int)) ((k.2 : Int), ((MK a - k.1 : Nat) : Int)) = some (if (rngN (MK a) k r).2 < (rngN (MK a) k r).1 then ((0, MM a), false) else (cp (rngN (MK a) k r), true)) := rMeet_cp a r (midN (MK a) k)
theorem facts_step_eq {a : Int} (h1 : 1 ≤ a) (h2 : a ≤ 64) {k r : Nat × Nat} (hz : k.1 < U64) (ho : k.2 < U64) (hk : kok (MK a) k.1 k.2) : facts_step.f (fI a k r) = some (stepV a k r) := by
  obtain ⟨w, rfl⟩ : ∃ w : Nat, a = (w : Int) := ⟨a.toNat, by omega⟩
  have hW : W (w : Int) = w := W_of (by omega) (by omega)
  have hle := kok_leA hz ho hk
  unfold facts_step.f stepV
  simp only
  rw [ranges_Top_eq, Option.bind_some]
  simp only
  rw [show MM (w : Int) = ((MK (w : Int) : Nat) : Int) from rfl, andNot64 (MK_lt _) hz, sub_and hle.1, rMeet_mid (w : Int) k r, Option.bind_some]
  by_cases hn : (rngN (MK (w : Int)) k r).2 < (rngN (MK (w : Int)) k r).1
  · rw [if_pos hn, if_pos hn]; rfl
  · have hR := rngN_ok hn
    have hl := rok_lt hR
    rw [if_neg hn, if_neg hn]
    simp only [Bool.not_true, cond_false]
    have hp := preK_lt (w := W (w : Int)) (W_le _) (rngN (MK (w : Int)) k r)
    have hpk := kof_of (preK_ok (w : Int) (rngN (MK (w : Int)) k r))
    rw [facts_prefix_eq (by omega) (by omega) hl.1 hl.2, Option.bind_some]
    rw [hW] at hp
    have hpk' : kof (MK (w : Int)) (preK w (rngN (MK (w : Int)) k r)).1 (preK w (rngN (MK (w : Int)) k r)).2 = preK w (rngN (MK (w : Int)) k r) := by rw [hW] at hpk; exact hpk
    have hs : W (w : Int) = w := hW
    rw [known_Meet_eq (w : Int) hz ho hp.1 hp.2, Option.bind_some, hpk']
    have e : preK (W (w : Int)) (rngN (MK (w : Int)) k r) = preK w (rngN (MK (w : Int)) k r) := congrArg (fun n => preK n (rngN (MK (w : Int)) k r)) hW
    rw [e]
    by_cases hd : kdis (kof (MK (w : Int)) k.1 k.2) (preK w (rngN (MK (w : Int)) k r))
    · rw [if_pos hd, if_pos hd]; rfl
    · rw [if_neg hd, if_neg hd]; rfl
end Go.Proofs.YtcihbcffokjgjaaGreat.Fn
