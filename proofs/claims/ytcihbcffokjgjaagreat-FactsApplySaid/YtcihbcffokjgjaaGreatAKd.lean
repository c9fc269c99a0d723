/- Operators with two operands on elements: the program's and the reference's, to one specification. -/
import Derived.Test.YtcihbcffokjgjaaGreatAF10
import Derived.Test.YtcihbcffokjgjaaGreatAF2
import Derived.Test.YtcihbcffokjgjaaGreatAF9
import Derived.Test.YtcihbcffokjgjaaGreatAKc
namespace Go.Proofs.YtcihbcffokjgjaaGreat.Fn
open Go Go.RowKit Go.Proofs.YtcihbcffokjgjaaGreat.Ev Go.Proofs.YtcihbcffokjgjaaGreat.Bv
set_option linter.unusedVariables false
set_option linter.unusedSimpArgs false

/-! ### shifts -/
def mF (w : Nat) (a : Nat × Nat) (by_ : Int) (fz : Bool) (i : Nat) : Bool := !(shf w (vnot 64 a.1) by_ (!fz) i)
def mG (w : Nat) (a : Nat × Nat) (by_ : Int) (fo : Bool) (i : Nat) : Bool := shf w a.2 by_ fo i
def kmovS (w : Nat) (a : Nat × Nat) (by_ : Int) (fz fo : Bool) : Nat × Nat := (bld (mF w a by_ fz) w, bld (mG w a by_ fo) w)
theorem vnot64_bit {x i : Nat} (hi : i < 64) : (vnot 64 x).testBit i = !x.testBit i := by rw [testBit_vnot, decide_eq_true hi]; simp
theorem mFG {w : Nat} {a : Nat × Nat} (ha : El w a) (hw : w ≤ 64) {by_ : Int} {fz fo : Bool} (hf : fz = true → fo = false) (i : Nat) : mF w a by_ fz i = true → mG w a by_ fo i = false := by
  unfold mF mG shf
  by_cases h : (i : Int) + by_ < (w : Int)
  · rw [if_pos h, if_pos h]
    by_cases h2 : 0 ≤ (i : Int) + by_
    · rw [if_pos h2, if_pos h2, vnot64_bit (by omega), Bool.not_not]
      exact ha.dis _
    · rw [if_neg h2, if_neg h2]; intro _; rfl
  · rw [if_neg h, if_neg h, Bool.not_not]; exact hf
theorem el_mov {w : Nat} {a : Nat × Nat} (ha : El w a) (hw : w ≤ 64) {by_ : Int} {fz fo : Bool} (hf : fz = true → fo = false) : El w (kmovS w a by_ fz fo) := El.of_bits hw fun i _ => mFG ha hw hf i
theorem ref_moved_j3 (fu : Nat) {w : Nat} {a : Nat × Nat} (ha : El w a) (hw : w ≤ 64) (by_ : Int) (b1 : -64 ≤ by_) (b2 : by_ ≤ 64) {fz fo : Bool} (hf : fz = true → fo = false) (p q : Int) (d : Nat) : ∀ (n i : Nat), w - i = d → i ≤ w → d < n →
    saturateref12_moved.j3 (fu + 1) n w by_ (st fo (!fz)) i a.1 a.2 p q (bld (mF w a by_ fz) i : Int) (bld (mG w a by_ fo) i : Int) = some (((kmovS w a by_ fz fo).1 : Int), ((kmovS w a by_ fz fo).2 : Int)) := by
  induction d with
  | zero =>
    intro n i hd hi hn
    obtain ⟨n, rfl⟩ : ∃ m, n = m + 1 := ⟨n - 1, by omega⟩
    obtain rfl : i = w := by omega
    rw [saturateref12_moved.j3_succ, bifd_neg (by omega)]; rfl
  | succ d ih =>
    intro n i hd hi hn
    obtain ⟨n, rfl⟩ : ∃ m, n = m + 1 := ⟨n - 1, by omega⟩
    have hwi := ref_with (mF w a by_ fz) (mG w a by_ fo) (i := i) (by omega) (mFG ha hw hf i)
    have hn' := ih n (i + 1) (by omega) (by omega) (by omega)
    have step : ∀ s, s = st (mG w a by_ fo i) (!mF w a by_ fz i) → (saturateref12_with.f ((bld (mF w a by_ fz) i : Int), (bld (mG w a by_ fo) i : Int)) i s).bind (fun r3 => saturateref12_moved.j3 (fu + 1) n w by_ (st fo (!fz)) (IntKind.i64.wrap ((i : Int) + 1)) a.1 a.2 p q r3.1 r3.2) = some (((kmovS w a by_ fz fo).1 : Int), ((kmovS w a by_ fz fo).2 : Int)) := by
      intro s hs
      rw [hs, hwi, Option.bind_some, wrapi, wrapi_succ (by omega)]; exact hn'
    rw [saturateref12_moved.j3_succ, bifd_pos (by omega)]
    simp only [saturateref12_moved.p9_eq, saturateref12_moved.p11_eq]
    rw [wrapi, wrapi_of (by omega) (by omega)]
    by_cases h : 0 ≤ (i : Int) + by_
    · rw [bifd_pos (show (i : Int) + by_ ≥ 0 from h)]
      by_cases h2 : (i : Int) + by_ < (w : Int)
      · obtain ⟨m, hm⟩ : ∃ m : Nat, (i : Int) + by_ = (m : Int) := ⟨((i : Int) + by_).toNat, by omega⟩
        rw [bifd_pos h2, hm, ref_bit ha.l1 ha.l2 (by omega), Option.bind_some, bifd_neg (by omega)]
        refine step _ (bit_pair _ _ _ ?_ ?_)
        · unfold mF shf; rw [if_pos h2, if_pos h, hm, Int.toNat_natCast, vnot64_bit (by omega), Bool.not_not]
        · unfold mG shf; rw [if_pos h2, if_pos h, hm, Int.toNat_natCast]
      · rw [bifd_neg h2, bifd_neg (by omega)]
        refine step _ ?_
        unfold mF mG shf; rw [if_neg h2, if_neg h2, Bool.not_not]
    · rw [bifd_neg (show ¬ ((i : Int) + by_ ≥ 0) from h), bifd_pos (by omega)]
      refine step _ ?_
      unfold mF mG shf; rw [if_pos (by omega), if_neg h, if_pos (by omega), if_neg h]; rfl
theorem ref_moved {w : Nat} {a : Nat × Nat} (ha : El w a) (hw : w ≤ 64) (by_ : Int) (b1 : -64 ≤ by_) (b2 : by_ ≤ 64) {fz fo : Bool} (hf : fz = true → fo = false) :
    saturateref12_moved.f w ((a.1 : Int), (a.2 : Int)) by_ (st fo (!fz)) = some (((kmovS w a by_ fz fo).1 : Int), ((kmovS w a by_ fz fo).2 : Int)) := by
  unfold saturateref12_moved.f saturateref12_moved.g saturateref12_Top.f
  exact ref_moved_j3 fuel0 ha hw by_ b1 b2 hf 0 0 w (fuel0 + 1) 0 rfl (by omega) (fuelg (by omega))
/-- The element of a shift by n. -/
def kshS (op : Int) (w : Nat) (a : Nat × Nat) (n : Nat) : Nat × Nat :=
  if op = 13 then kmovS w a (-((min n 64 : Nat) : Int)) true false else if op = 14 then kmovS w a ((min n 64 : Nat) : Int) true false else kmovS w a ((min n 64 : Nat) : Int) (a.1.testBit (w - 1)) (a.2.testBit (w - 1))
theorem el_sh {op : Int} {w : Nat} {a : Nat × Nat} (ha : El w a) (hw : w ≤ 64) (n : Nat) : El w (kshS op w a n) := by
  unfold kshS
  split
  · exact el_mov ha hw (fun _ => rfl)
  · split
    · exact el_mov ha hw (fun _ => rfl)
    · exact el_mov ha hw (ha.dis _)
theorem mn64 (n : Nat) : IntKind.i64.wrap (mn (n : Int) 64) = ((min n 64 : Nat) : Int) := by
  unfold mn; rw [wrapi]
  split
  · rw [wrapi_of (by omega) (by omega)]; omega
  · rw [wrapi_of (by omega) (by omega)]; omega
theorem ref_single {w : Nat} {k : Nat × Nat} (hk : El w k) (w1 : 1 ≤ w) (w2 : w ≤ 64) : saturateref12_Single.f w ((k.1 : Int), (k.2 : Int)) = some (if kone w k then ((k.2 : Int), true) else (0, false)) := by
  have := saturateref12_Single_eq (w : Int) hk.l1 hk.l2
  rw [MK, W_of w1 w2, hk.kof] at this; exact this
theorem prog_single {w : Nat} {k : Nat × Nat} (hk : El w k) (w1 : 1 ≤ w) (w2 : w ≤ 64) : known_Single.f w ((k.1 : Int), (k.2 : Int)) = some (if kone w k then ((k.2 : Int), true) else (0, false)) := by
  have := known_Single_eq (w : Int) hk.l1 hk.l2
  rw [MK, W_of w1 w2, hk.kof] at this; exact this
theorem ref_const {w : Nat} (w1 : 1 ≤ w) (w2 : w ≤ 64) {x : Nat} (hx : x < U64) : saturateref12_Const.f w x = some (((kcst w x).1 : Int), ((kcst w x).2 : Int)) := by
  have := saturateref12_Const_eq (w : Int) hx
  rw [W_of w1 w2] at this; exact this
theorem prog_const {w : Nat} (w1 : 1 ≤ w) (w2 : w ≤ 64) {x : Nat} (hx : x < U64) : known_Const.f w x = some (((kcst w x).1 : Int), ((kcst w x).2 : Int)) := by
  have := known_Const_eq (w : Int) hx
  rw [W_of w1 w2] at this; exact this
theorem ref_shifted {op : Int} (ho : op = 13 ∨ op = 14 ∨ op = 15) {w : Nat} {a b : Nat × Nat} (ha : El w a) (hb : El w b) (w1 : 1 ≤ w) (w2 : w ≤ 64) :
    saturateref12_shifted.f op w ((a.1 : Int), (a.2 : Int)) ((b.1 : Int), (b.2 : Int)) = some (if kone w b then (((kshS op w a b.2).1 : Int), ((kshS op w a b.2).2 : Int)) else (0, 0)) := by
  unfold saturateref12_shifted.f saturateref12_Top.f
  simp only
  rw [ref_single hb w1 w2, Option.bind_some]
  by_cases h : kone w b
  · rw [if_pos h, if_pos h]
    simp only [Bool.not_true, cond_false, mn64]
    have m0 := ref_moved ha w2 (-((min b.2 64 : Nat) : Int)) (by omega) (by omega) (fz := true) (fo := false) (fun _ => rfl)
    have m1 := ref_moved ha w2 ((min b.2 64 : Nat) : Int) (by omega) (by omega) (fz := true) (fo := false) (fun _ => rfl)
    have m2 := ref_moved ha w2 ((min b.2 64 : Nat) : Int) (by omega) (by omega) (ha.dis (w - 1))
    rw [show st false (!true) = 0 from rfl] at m0 m1
    unfold kshS
    rcases ho with rfl | rfl | rfl
    · have e : IntKind.i64.wrap (0 - ((min b.2 64 : Nat) : Int)) = -((min b.2 64 : Nat) : Int) := by rw [wrapi, wrapi_of (by omega) (by omega), Int.zero_sub]
      simp only [Int.reduceBEq, cond_true, e]
      rw [m0]; rfl
    · simp only [Int.reduceBEq, cond_true, cond_false]
      rw [m1]; rfl
    · have e : IntKind.i64.wrap ((w : Int) - 1) = ((w - 1 : Nat) : Int) := by rw [wrapi, wrapi_pred w1 w2]
      simp only [Int.reduceBEq, cond_false, e]
      rw [ref_bit ha.l1 ha.l2 (by omega), Option.bind_some, m2]; rfl
  · rw [if_neg h, if_neg h]; rfl
theorem vnot_bld {w : Nat} (hw : w ≤ 64) (f : Nat → Bool) : vnot w (bld f w) = bld (fun i => !f i) w := bits_ext fun i => by
  rw [testBit_vnot, testBit_bld, testBit_bld]
  cases decide (i < w) <;> simp
theorem shf_vnot {w x : Nat} (hw : w ≤ 64) (by_ : Int) (fill : Bool) (i : Nat) : shf w (vnot w x) by_ fill i = shf w (vnot 64 x) by_ fill i := by
  unfold shf
  by_cases h : (i : Int) + by_ < (w : Int)
  · rw [if_pos h, if_pos h]
    by_cases h2 : 0 ≤ (i : Int) + by_
    · rw [if_pos h2, if_pos h2, testBit_vnot, testBit_vnot, decide_eq_true (show ((i : Int) + by_).toNat < w by omega), decide_eq_true (show ((i : Int) + by_).toNat < 64 by omega)]
    · rw [if_neg h2, if_neg h2]
  · rw [if_neg h, if_neg h]
theorem prog_shift {op : Int} (ho : op = 13 ∨ op = 14 ∨ op = 15) {w : Nat} {a : Nat × Nat} (ha : El w a) (w1 : 1 ≤ w) (w2 : w ≤ 64) {n : Nat} (hn : n ≤ vmask w) :
    known_shift.f op w ((a.1 : Int), (a.2 : Int)) n = some (((kshS op w a n).1 : Int), ((kshS op w a n).2 : Int)) := by
  unfold known_shift.f kshS
  have hn64 : n < U64 := Nat.lt_of_le_of_lt hn (vmask_lt w2)
  have hv := vnot_lt (w := w) a.1 w2
  have e0 := cut_of_le hn
  rcases ho with rfl | rfl | rfl
  · simp only [Int.reduceBEq, cond_true]
    rw [bits_Not_eq _ ha.l1, Option.bind_some, W_of w1 w2, bits_Shl_eq _ hv hn64, Option.bind_some, W_of w1 w2, bits_Not_eq _ (vshl_lt _ _ w2), Option.bind_some, W_of w1 w2, bits_Shl_eq _ ha.l2 hn64, Option.bind_some, W_of w1 w2]
    rw [← shf_shl w2, ← shf_shl w2, e0, vnot_bld w2]
    simp only [shf_vnot w2]
    rfl
  · simp only [Int.reduceBEq, cond_true, cond_false]
    rw [bits_Not_eq _ ha.l1, Option.bind_some, W_of w1 w2, bits_Lshr_eq _ hv hn64, Option.bind_some, W_of w1 w2, bits_Not_eq _ (vlshr_lt _ _ w2), Option.bind_some, W_of w1 w2, bits_Lshr_eq _ ha.l2 hn64, Option.bind_some, W_of w1 w2]
    rw [← shf_lshr w2, ← shf_lshr w2, e0, vnot_bld w2]
    simp only [shf_vnot w2]
    rfl
  · simp only [Int.reduceBEq, cond_false]
    rw [bits_Ashr_eq _ ha.l1 hn64, Option.bind_some, W_of w1 w2, bits_Ashr_eq _ ha.l2 hn64, Option.bind_some, W_of w1 w2]
    rw [← shf_ashr w2, ← shf_ashr w2, e0]
    have e : bld (shf w a.1 ((min n 64 : Nat) : Int) (a.1.testBit (w - 1))) w = bld (mF w a ((min n 64 : Nat) : Int) (a.1.testBit (w - 1))) w := bld_congr fun i hi => by
      unfold mF shf
      by_cases h : (i : Int) + ((min n 64 : Nat) : Int) < (w : Int)
      · rw [if_pos h, if_pos h, if_pos (by omega), if_pos (by omega), vnot64_bit (by omega), Bool.not_not]
      · rw [if_neg h, if_neg h, Bool.not_not]
    rw [e]; rfl

/-! ### low zeros and products -/
def lowF (f : Nat → Bool) : Nat → Nat → Nat
  | 0, i => i
  | d + 1, i => if f i then lowF f d (i + 1) else i
theorem lowF_succ (f : Nat → Bool) (d i : Nat) : lowF f (d + 1) i = if f i then lowF f d (i + 1) else i := rfl
theorem lowF_le (f : Nat → Bool) (d : Nat) : ∀ i, lowF f d i ≤ i + d := by
  induction d with
  | zero => intro i; exact Nat.le_refl _
  | succ d ih => intro i; unfold lowF; split
                 · have := ih (i + 1); omega
                 · omega
def klow (w : Nat) (k : Nat × Nat) : Nat := lowF k.1.testBit w 0
theorem klow_le (w : Nat) (k : Nat × Nat) : klow w k ≤ w := by have := lowF_le k.1.testBit w 0; unfold klow; omega
theorem prog_low_j3 (fu : Nat) {w : Nat} {k : Nat × Nat} (hk : El w k) (w2 : w ≤ 64) (d : Nat) : ∀ (n i : Nat), w - i = d → i ≤ w → d < n →
    known_low.j3 fu n i w i k.1 k.2 = some (lowF k.1.testBit d i : Int) := by
  induction d with
  | zero =>
    intro n i hd hi hn
    obtain ⟨n, rfl⟩ : ∃ m, n = m + 1 := ⟨n - 1, by omega⟩
    rw [known_low.j3_succ, bifd_neg (by omega)]; rfl
  | succ d ih =>
    intro n i hd hi hn
    obtain ⟨n, rfl⟩ : ∃ m, n = m + 1 := ⟨n - 1, by omega⟩
    have h1 : shr .u64 (k.1 : Int) (i : Int) = ((k.1 >>> i : Nat) : Int) := shr64 hk.l1
    have h2 : k.1 >>> i < U64 := Nat.lt_of_le_of_lt (shr_le _ _) hk.l1
    have h3 : (k.1 >>> i) &&& 1 = (k.1.testBit i).toNat := by rw [Nat.and_one_is_mod, Nat.toNat_testBit, Nat.shiftRight_eq_div_pow]
    rw [known_low.j3_succ, bifd_pos (by omega), bifd_neg (by omega), h1, show (1 : Int) = ((1 : Nat) : Int) from rfl, and64 h2 (by decide), h3, cast0, wrapi, ← show (1 : Int) = ((1 : Nat) : Int) from rfl, wrapi_succ (by omega)]
    have := ih n (i + 1) (by omega) (by omega) (by omega)
    rw [this, lowF_succ]
    cases k.1.testBit i <;> rfl
theorem prog_low {w : Nat} {k : Nat × Nat} (hk : El w k) (w2 : w ≤ 64) : known_low.f w ((k.1 : Int), (k.2 : Int)) = some (klow w k : Int) := by
  unfold known_low.f known_low.g
  exact prog_low_j3 _ hk w2 w (fuel0 + 1) 0 rfl (by omega) (fuelg (by omega))
theorem ref_low_j2 (fu : Nat) {w : Nat} {k : Nat × Nat} (hk : El w k) (w2 : w ≤ 64) (d : Nat) : ∀ (n i : Nat), w - i = d → i ≤ w → d < n →
    saturateref12_low.j2 (fu + 1) n w i k.1 k.2 = some (lowF k.1.testBit d i : Int) := by
  induction d with
  | zero =>
    intro n i hd hi hn
    obtain ⟨n, rfl⟩ : ∃ m, n = m + 1 := ⟨n - 1, by omega⟩
    rw [saturateref12_low.j2_succ, bifd_neg (by omega), saturateref12_low.p4_eq]; rfl
  | succ d ih =>
    intro n i hd hi hn
    obtain ⟨n, rfl⟩ : ∃ m, n = m + 1 := ⟨n - 1, by omega⟩
    rw [saturateref12_low.j2_succ, bifd_pos (by omega), ref_bit hk.l1 hk.l2 (by omega), Option.bind_some, saturateref12_low.p4_eq, wrapi, wrapi_succ (by omega)]
    have := ih n (i + 1) (by omega) (by omega) (by omega)
    rw [this, lowF_succ]
    cases h1 : k.1.testBit i <;> cases h2 : k.2.testBit i <;> first | rfl | (have := hk.dis i h1; rw [h2] at this; cases this)
theorem ref_low {w : Nat} {k : Nat × Nat} (hk : El w k) (w2 : w ≤ 64) : saturateref12_low.f w ((k.1 : Int), (k.2 : Int)) = some (klow w k : Int) := by
  unfold saturateref12_low.f saturateref12_low.g
  exact ref_low_j2 _ hk w2 w (fuel0 + 1) 0 rfl (by omega) (fuelg (by omega))
theorem bld_true (n : Nat) : bld (fun _ => true) n = vmask n := bits_ext fun i => by rw [testBit_bld, testBit_mask]; simp
theorem bld_false (n : Nat) : bld (fun _ => false) n = 0 := bits_ext fun i => by rw [testBit_bld, Nat.zero_testBit]; simp
/-- How many low bits of a product are zero. -/
def ktim (w : Nat) (a b : Nat × Nat) : Nat := min w (klow w a + klow w b)
theorem mn_nat (m n : Nat) : mn (m : Int) (n : Int) = ((min m n : Nat) : Int) := by unfold mn; split <;> omega
theorem ref_times_j7 (fu : Nat) {w : Nat} {a b : Nat × Nat} (ha : El w a) (hb : El w b) (w2 : w ≤ 64) (p q : Int) (d : Nat) : ∀ (n i : Nat), ktim w a b - i = d → i ≤ ktim w a b → d < n →
    saturateref12_times.j7 fu n w i a.1 a.2 b.1 b.2 p q (bld (fun _ => true) i : Int) (bld (fun _ => false) i : Int) = some ((vmask (ktim w a b) : Int), 0) := by
  have la := klow_le w a
  have lb := klow_le w b
  have hc : mn (w : Int) (IntKind.i64.wrap ((klow w a : Int) + (klow w b : Int))) = (ktim w a b : Int) := by
    rw [wrapi, wrapi_of (by omega) (by omega), ← Int.natCast_add, mn_nat]; rfl
  have hle : ktim w a b ≤ w := Nat.min_le_left _ _
  induction d with
  | zero =>
    intro n i hd hi hn
    obtain ⟨n, rfl⟩ : ∃ m, n = m + 1 := ⟨n - 1, by omega⟩
    obtain rfl : i = ktim w a b := by omega
    rw [saturateref12_times.j7_succ, ref_low ha w2, ref_low hb w2, Option.bind_some, Option.bind_some, hc, bifd_neg (by omega), bld_true, bld_false]; rfl
  | succ d ih =>
    intro n i hd hi hn
    obtain ⟨n, rfl⟩ : ∃ m, n = m + 1 := ⟨n - 1, by omega⟩
    have hwi := ref_with (fun _ => true) (fun _ => false) (i := i) (by omega) (fun _ => rfl)
    have := ih n (i + 1) (by omega) (by omega) (by omega)
    rw [saturateref12_times.j7_succ, ref_low ha w2, ref_low hb w2, Option.bind_some, Option.bind_some, hc, bifd_pos (by omega), show (0 : Int) = st false (!true) from rfl, hwi, Option.bind_some, wrapi, wrapi_succ (by omega)]
    exact this
def ktimS (w : Nat) (a b : Nat × Nat) : Nat × Nat := if kone w a ∧ kone w b then kcst w (vmul w a.2 b.2) else (vmask (ktim w a b), 0)
theorem ref_times {w : Nat} {a b : Nat × Nat} (ha : El w a) (hb : El w b) (w1 : 1 ≤ w) (w2 : w ≤ 64) : saturateref12_times.f w ((a.1 : Int), (a.2 : Int)) ((b.1 : Int), (b.2 : Int)) = some (((ktimS w a b).1 : Int), ((ktimS w a b).2 : Int)) := by
  unfold saturateref12_times.f saturateref12_times.g
  have hj := ref_times_j7 (fuel0 + 1) ha hb w2 0 0 (ktim w a b) (fuel0 + 1) 0 rfl (by omega) (fuelg (by have : ktim w a b ≤ w := Nat.min_le_left _ _; omega))
  have hp := saturateref12_times.p5_eq fuel0 (fuel0 + 1) w a.1 a.2 b.1 b.2
  generalize fuel0 + 1 = fu at *
  have e0 : (bld (fun _ => true) 0 : Int) = 0 := rfl
  have e1 : (bld (fun _ => false) 0 : Int) = 0 := rfl
  have e2 : ((0 : Nat) : Int) = 0 := rfl
  rw [saturateref12_Top.f, Option.bind_some] at hp
  rw [e0, e1, e2] at hj
  simp only [hj] at hp
  unfold ktimS
  simp only
  rw [ref_single ha w1 w2, Option.bind_some, ref_single hb w1 w2, Option.bind_some]
  by_cases h1 : kone w a
  · by_cases h2 : kone w b
    · rw [if_pos h1, if_pos h2, if_pos ⟨h1, h2⟩, cond_true, cond_true, saturateref01_Mul_eq _ ha.l2 hb.l2, Option.bind_some, W_of w1 w2, ref_const w1 w2 (vmul_lt _ _ w2)]; rfl
    · rw [if_pos h1, if_neg h2, if_neg (show ¬ (kone w a ∧ kone w b) from fun h => h2 h.2), cond_true, cond_false]
      exact hp
  · rw [if_neg h1, if_neg (show ¬ (kone w a ∧ kone w b) from fun h => h1 h.1), cond_false]
    exact hp
end Go.Proofs.YtcihbcffokjgjaaGreat.Fn
