/- Facts: the reduction step of the program and of the reference compute the same; what it keeps. -/
import Derived.Test.YtcihbcffokjgjaaGreatAF1
import Derived.Test.YtcihbcffokjgjaaGreatAF2
import Derived.Test.YtcihbcffokjgjaaGreatAF7
import Derived.Test.YtcihbcffokjgjaaGreatAKa
import Derived.Test.YtcihbcffokjgjaaGreatATr
namespace Go.Proofs.YtcihbcffokjgjaaGreat.Fn
open Go Go.RowKit Go.Proofs.YtcihbcffokjgjaaGreat.Ev Go.Proofs.YtcihbcffokjgjaaGreat.Bv
set_option linter.unusedVariables false
set_option linter.unusedSimpArgs false
set_option maxRecDepth 100000

/-! ### ranges of natural numbers -/
abbrev cp (r : Nat × Nat) : Int × Int := ((r.1 : Int), (r.2 : Int))
def nrmN (M : Nat) (r : Nat × Nat) : Nat × Nat := if r.1 ≤ r.2 ∧ r.2 ≤ M then r else (0, M)
def rok (M : Nat) (r : Nat × Nat) : Prop := r.1 ≤ r.2 ∧ r.2 ≤ M
instance (M : Nat) (r : Nat × Nat) : Decidable (rok M r) := inferInstanceAs (Decidable (_ ∧ _))
theorem nrmN_ok (M : Nat) (r : Nat × Nat) : rok M (nrmN M r) := by
  unfold nrmN; split
  · assumption
  · exact ⟨Nat.zero_le _, Nat.le_refl _⟩
theorem nrmN_of {M : Nat} {r : Nat × Nat} (h : rok M r) : nrmN M r = r := if_pos h
theorem nrm_cp (a : Int) (r : Nat × Nat) : nrm (MM a) (cp r) = cp (nrmN (MK a) r) := by
  unfold nrm nrmN
  by_cases h : r.1 ≤ r.2 ∧ r.2 ≤ MK a
  · rw [if_pos h, if_pos (show (cp r).1 ≤ (cp r).2 ∧ (cp r).2 ≤ MM a from ⟨Int.ofNat_le.2 h.1, Int.ofNat_le.2 h.2⟩)]
  · rw [if_neg h, if_neg (fun q : (cp r).1 ≤ (cp r).2 ∧ (cp r).2 ≤ MM a => h ⟨Int.ofNat_le.1 q.1, Int.ofNat_le.1 q.2⟩)]; rfl
def mttN (x y : Nat × Nat) : Nat × Nat := (max x.1 y.1, min x.2 y.2)
theorem mx_cast (m n : Nat) : mx (m : Int) (n : Int) = ((max m n : Nat) : Int) := by unfold mx; split <;> omega
theorem mn_cast (m n : Nat) : mn (m : Int) (n : Int) = ((min m n : Nat) : Int) := by unfold mn; split <;> omega
theorem mtt_cp (x y : Nat × Nat) : mtt (cp x) (cp y) = cp (mttN x y) := by unfold mtt mttN; rw [mx_cast, mn_cast]
theorem rMeet_cp (a : Int) (r s : Nat × Nat) : ranges_Meet.f a (cp r) (cp s) = some (if (mttN (nrmN (MK a) r) (nrmN (MK a) s)).2 < (mttN (nrmN (MK a) r) (nrmN (MK a) s)).1 then ((0, MM a), false) else (cp (mttN (nrmN (MK a) r) (nrmN (MK a) s)), true)) := by
  rw [ranges_Meet_eq, nrm_cp, nrm_cp, mtt_cp]
  congr 1
  by_cases h : (mttN (nrmN (MK a) r) (nrmN (MK a) s)).2 < (mttN (nrmN (MK a) r) (nrmN (MK a) s)).1
  · rw [if_pos h, if_pos (show _ > _ from Int.ofNat_lt.2 h)]
  · rw [if_neg h, if_neg (fun q => h (Int.ofNat_lt.1 q))]
theorem rMeet_cp' (a : Int) (r s : Nat × Nat) : saturateref13_Meet.f a (cp r) (cp s) = some (if (mttN (nrmN (MK a) r) (nrmN (MK a) s)).2 < (mttN (nrmN (MK a) r) (nrmN (MK a) s)).1 then ((0, MM a), false) else (cp (mttN (nrmN (MK a) r) (nrmN (MK a) s)), true)) := by
  rw [saturateref13_Meet_eq, ← ranges_Meet_eq, rMeet_cp]

/-! ### the prefix -/
def preS (lo hi : Nat) : Nat → Nat → Nat → Nat × Nat
  | 0, z, o => (z, o)
  | i + 1, z, o => if lo.testBit i = hi.testBit i then (if lo.testBit i then preS lo hi i z (o ||| 2 ^ i) else preS lo hi i (z ||| 2 ^ i) o) else (z, o)
theorem shl_one {i : Nat} (hi : i < 64) : shl .u64 1 (i : Int) = ((2 ^ i : Nat) : Int) := by
  rw [show (1 : Int) = ((1 : Nat) : Int) from rfl, shl64, Nat.shiftLeft_eq, Nat.one_mul, Nat.mod_eq_of_lt (by rw [← p64]; exact Nat.pow_lt_pow_right (by decide) hi)]
theorem pw_lt {i : Nat} (hi : i < 64) : 2 ^ i < U64 := by rw [show U64 = 2 ^ 64 from rfl]; exact Nat.pow_lt_pow_right (by decide) hi
theorem and_pow (x i : Nat) : (x &&& 2 ^ i = 0) ↔ x.testBit i = false := by
  constructor
  · intro h
    have := bit_of h i
    rw [Nat.testBit_and, Nat.testBit_two_pow_self, Nat.zero_testBit] at this
    simpa using this
  · intro h
    refine bits_ext fun j => ?_
    rw [Nat.testBit_and, Nat.zero_testBit, Nat.testBit_two_pow]
    by_cases e : i = j
    · subst e; rw [h]; rfl
    · rw [decide_eq_false e, Bool.and_false]
theorem and_pow_bne {x i : Nat} (hx : x < U64) (hi : i < 64) : ((Go.bits .and .u64 (x : Int) (shl .u64 1 (i : Int))) != 0) = x.testBit i := by
  rw [shl_one hi, and64 hx (pw_lt hi), cast0n]
  cases h : x.testBit i
  · rw [decide_eq_true ((and_pow x i).2 h)]; rfl
  · rw [decide_eq_false (fun q => by rw [(and_pow x i).1 q] at h; exact absurd h (by decide))]; rfl
theorem xor_ltA {x y : Nat} (hx : x < U64) (hy : y < U64) : x ^^^ y < U64 := by rw [show U64 = 2 ^ 64 from rfl]; exact Nat.xor_lt_two_pow hx hy
theorem preS_lt {lo hi : Nat} : ∀ (i z o : Nat), i ≤ 64 → z < U64 → o < U64 → (preS lo hi i z o).1 < U64 ∧ (preS lo hi i z o).2 < U64
  | 0, z, o, _, hz, ho => ⟨hz, ho⟩
  | i + 1, z, o, hi', hz, ho => by
    have hp := pw_lt (i := i) (by omega)
    unfold preS
    split
    · split
      · exact preS_lt i z _ (by omega) hz (or_lt ho hp)
      · exact preS_lt i _ o (by omega) (or_lt hz hp) ho
    · exact ⟨hz, ho⟩
theorem prefix_j3 (fu : Nat) {lo hi : Nat} (hl : lo < U64) (hh : hi < U64) (u v : Int) : ∀ (i z o n : Nat), i ≤ 64 → z < U64 → o < U64 → i < n →
    facts_prefix.j3 (fu + 1) n ((i : Int) - 1) lo hi u v z o = some (cp (preS lo hi i z o))
  | 0, z, o, n, _, hz, ho, hn => by
    obtain ⟨n, rfl⟩ : ∃ m, n = m + 1 := ⟨n - 1, by omega⟩
    rw [facts_prefix.j3_succ, bifd_neg (by omega), facts_prefix.p10_eq]; rfl
  | i + 1, z, o, n, hi', hz, ho, hn => by
    obtain ⟨n, rfl⟩ : ∃ m, n = m + 1 := ⟨n - 1, by omega⟩
    have hp := pw_lt (i := i) (by omega)
    have e : (((i + 1 : Nat) : Int) - 1) = (i : Int) := by omega
    rw [e, facts_prefix.j3_succ, bifd_pos (by omega), bifd_neg (by omega), xor64 hl hh, and_pow_bne (xor_ltA hl hh) (by omega), and_pow_bne hl (by omega), Nat.testBit_xor]
    unfold preS
    by_cases h : lo.testBit i = hi.testBit i
    · rw [if_pos h, h, Bool.xor_self, cond_false]
      cases hb : hi.testBit i
      · rw [cond_false, if_neg (by decide), facts_prefix.p4_eq, shl_one (by omega), or64 hz hp, wrapi, wrapi_of (by omega) (by omega)]
        exact prefix_j3 fu hl hh u v i _ o n (by omega) (or_lt hz hp) ho (by omega)
      · rw [cond_true, if_pos rfl, facts_prefix.p4_eq, shl_one (by omega), or64 ho hp, wrapi, wrapi_of (by omega) (by omega)]
        exact prefix_j3 fu hl hh u v i z _ n (by omega) hz (or_lt ho hp) (by omega)
    · rw [if_neg h, show (lo.testBit i ^^ hi.testBit i) = true by revert h; cases lo.testBit i <;> cases hi.testBit i <;> decide, cond_true, facts_prefix.p10_eq]
theorem facts_prefix_eq {w : Nat} (h1 : 1 ≤ w) (h2 : w ≤ 64) {lo hi : Nat} (hl : lo < U64) (hh : hi < U64) : facts_prefix.f (w : Int) ((lo : Int), (hi : Int)) = some (cp (preS lo hi w 0 0)) := by
  unfold facts_prefix.f
  have hf : fuel0 = 100 + (fuel0 - 100) := by unfold fuel0; omega
  generalize fuel0 - 100 = fu at hf
  rw [hf]
  unfold facts_prefix.g
  rw [wrapi, wrapi_of (by omega) (by omega)]
  exact prefix_j3 (100 + fu) hl hh 0 0 w 0 0 _ h2 (by decide) (by decide) (by omega)
theorem ref_prefix_j3 (fu : Nat) {lo hi : Nat} (hl : lo < U64) (hh : hi < U64) (u v : Int) : ∀ (i z o n : Nat), i ≤ 64 → z < U64 → o < U64 → i < n →
    saturateref14_prefix.j3 (fu + 1) n ((i : Int) - 1) lo hi u v z o = some (cp (preS lo hi i z o))
  | 0, z, o, n, _, hz, ho, hn => by
    obtain ⟨n, rfl⟩ : ∃ m, n = m + 1 := ⟨n - 1, by omega⟩
    rw [saturateref14_prefix.j3_succ, bifd_neg (by omega), saturateref14_prefix.p8_eq]; rfl
  | i + 1, z, o, n, hi', hz, ho, hn => by
    obtain ⟨n, rfl⟩ : ∃ m, n = m + 1 := ⟨n - 1, by omega⟩
    have hp := pw_lt (i := i) (by omega)
    have e : (((i + 1 : Nat) : Int) - 1) = (i : Int) := by omega
    rw [e, saturateref14_prefix.j3_succ, bifd_pos (by omega), saturateref01_Bit_eq hl, saturateref01_Bit_eq hh]
    simp only [Option.bind_some]
    unfold preS
    by_cases h : lo.testBit i = hi.testBit i
    · rw [if_pos h, h, beq_self_eq_true, cond_true]
      cases hb : hi.testBit i
      · rw [show ((((false : Bool).toNat : Nat) : Int) == 1) = false from rfl, cond_false, bifd_neg (by rw [wrapu_of (by omega)]; omega), if_neg (by decide), saturateref14_prefix.p4_eq, wrapu_of (by omega), shl_one (by omega), or64 hz hp, wrapi, wrapi_of (by omega) (by omega)]
        exact ref_prefix_j3 fu hl hh u v i _ o n (by omega) (or_lt hz hp) ho (by omega)
      · rw [show ((((true : Bool).toNat : Nat) : Int) == 1) = true from rfl, cond_true, bifd_neg (by rw [wrapu_of (by omega)]; omega), if_pos rfl, saturateref14_prefix.p4_eq, wrapu_of (by omega), shl_one (by omega), or64 ho hp, wrapi, wrapi_of (by omega) (by omega)]
        exact ref_prefix_j3 fu hl hh u v i z _ n (by omega) hz (or_lt ho hp) (by omega)
    · rw [if_neg h, show (((lo.testBit i).toNat : Int) == ((hi.testBit i).toNat : Int)) = false by revert h; cases lo.testBit i <;> cases hi.testBit i <;> decide, cond_false, saturateref14_prefix.p8_eq]
theorem saturateref14_prefix_eq {w : Nat} (h1 : 1 ≤ w) (h2 : w ≤ 64) {lo hi : Nat} (hl : lo < U64) (hh : hi < U64) : saturateref14_prefix.f (w : Int) ((lo : Int), (hi : Int)) = some (cp (preS lo hi w 0 0)) := by
  unfold saturateref14_prefix.f
  have hf : fuel0 = 100 + (fuel0 - 100) := by unfold fuel0; omega
  generalize fuel0 - 100 = fu at hf
  rw [hf]
  unfold saturateref14_prefix.g saturateref12_Top.f
  rw [wrapi, wrapi_of (by omega) (by omega)]
  exact ref_prefix_j3 (100 + fu) hl hh 0 0 w 0 0 _ h2 (by decide) (by decide) (by omega)
theorem preS_bit (lo hi : Nat) : ∀ (n z o : Nat), ∃ c, c ≤ n ∧ (∀ i, c ≤ i → i < n → lo.testBit i = hi.testBit i) ∧
    ∀ i, (preS lo hi n z o).1.testBit i = (z.testBit i || (decide (c ≤ i ∧ i < n) && !lo.testBit i)) ∧ (preS lo hi n z o).2.testBit i = (o.testBit i || (decide (c ≤ i ∧ i < n) && lo.testBit i))
  | 0, z, o => ⟨0, Nat.le_refl _, fun i _ h => absurd h (by omega), fun i => by rw [decide_eq_false (by omega)]; unfold preS; simp⟩
  | n + 1, z, o => by
    unfold preS
    by_cases h : lo.testBit n = hi.testBit n
    · rw [if_pos h]
      by_cases hb : lo.testBit n = true
      · rw [if_pos hb]
        obtain ⟨c, h1, h2, h3⟩ := preS_bit lo hi n z (o ||| 2 ^ n)
        refine ⟨c, by omega, fun i i1 i2 => ?_, fun i => ?_⟩
        · by_cases e : i = n
          · subst e; exact h
          · exact h2 i i1 (by omega)
        · rw [(h3 i).1, (h3 i).2, Nat.testBit_or, Nat.testBit_two_pow]
          by_cases e : n = i
          · subst e
            rw [decide_eq_false (show ¬ (c ≤ n ∧ n < n) by omega), decide_eq_true (show c ≤ n ∧ n < n + 1 by omega), hb]; simp
          · rw [decide_eq_false e, Bool.or_false]
            have : (c ≤ i ∧ i < n) ↔ (c ≤ i ∧ i < n + 1) := by omega
            simp only [this]; simp
      · rw [if_neg hb]
        obtain ⟨c, h1, h2, h3⟩ := preS_bit lo hi n (z ||| 2 ^ n) o
        refine ⟨c, by omega, fun i i1 i2 => ?_, fun i => ?_⟩
        · by_cases e : i = n
          · subst e; exact h
          · exact h2 i i1 (by omega)
        · rw [(h3 i).1, (h3 i).2, Nat.testBit_or, Nat.testBit_two_pow]
          by_cases e : n = i
          · subst e
            rw [decide_eq_false (show ¬ (c ≤ n ∧ n < n) by omega), decide_eq_true (show c ≤ n ∧ n < n + 1 by omega)]; simp [hb]
          · rw [decide_eq_false e, Bool.or_false]
            have : (c ≤ i ∧ i < n) ↔ (c ≤ i ∧ i < n + 1) := by omega
            simp only [this]; simp
    · rw [if_neg h]
      exact ⟨n + 1, Nat.le_refl _, fun i i1 i2 => absurd i2 (by omega), fun i => by rw [decide_eq_false (by omega)]; simp⟩
abbrev preK (w : Nat) (r : Nat × Nat) : Nat × Nat := preS r.1 r.2 w 0 0
theorem preK_bit (w : Nat) (r : Nat × Nat) : ∃ c, c ≤ w ∧ (∀ i, c ≤ i → i < w → r.1.testBit i = r.2.testBit i) ∧
    ∀ i, (preK w r).1.testBit i = (decide (c ≤ i ∧ i < w) && !r.1.testBit i) ∧ (preK w r).2.testBit i = (decide (c ≤ i ∧ i < w) && r.1.testBit i) := by
  obtain ⟨c, h1, h2, h3⟩ := preS_bit r.1 r.2 w 0 0
  refine ⟨c, h1, h2, fun i => ?_⟩
  have := h3 i
  simp only [Nat.zero_testBit, Bool.false_or] at this
  exact this
theorem preK_lt {w : Nat} (h2 : w ≤ 64) (r : Nat × Nat) : (preK w r).1 < U64 ∧ (preK w r).2 < U64 := preS_lt w 0 0 h2 (by decide) (by decide)
theorem preK_ok (a : Int) (r : Nat × Nat) : kok (MK a) (preK (W a) r).1 (preK (W a) r).2 := by
  obtain ⟨c, h1, h2, h3⟩ := preK_bit (W a) r
  refine ⟨bits_ext fun i => ?_, bits_ext fun i => ?_⟩
  · rw [Nat.testBit_and, (h3 i).1, (h3 i).2, Nat.zero_testBit]
    cases decide (c ≤ i ∧ i < W a) <;> cases r.1.testBit i <;> rfl
  · rw [Nat.testBit_and, Nat.testBit_or, (h3 i).1, (h3 i).2, Nat.zero_testBit, testBit_comp (MK_lt a), testBit_mask]
    by_cases e : i < W a
    · rw [decide_eq_true e]; simp
    · rw [decide_eq_false (show ¬ (c ≤ i ∧ i < W a) by omega)]; rfl
/-- Every value of a range has the range's prefix. -/
theorem preK_has {w : Nat} {r : Nat × Nat} {x : Nat} (hr : rok (vmask w) r) (h1 : r.1 ≤ x) (h2 : x ≤ r.2) : khas (preK w r) x := by
  obtain ⟨c, c1, c2, c3⟩ := preK_bit w r
  have hw1 := lt_of_le_mask (Nat.le_trans hr.1 hr.2)
  have hw2 := lt_of_le_mask hr.2
  have e : r.1 / 2 ^ c = r.2 / 2 ^ c := bits_ext fun i => by
    rw [Nat.testBit_div_two_pow, Nat.testBit_div_two_pow]
    by_cases h : i + c < w
    · exact c2 _ (by omega) h
    · rw [testBit_ge hw1 (by omega), testBit_ge hw2 (by omega)]
  have e2 : x / 2 ^ c = r.1 / 2 ^ c := by
    have l1 : r.1 / 2 ^ c ≤ x / 2 ^ c := Nat.div_le_div_right h1
    have l2 : x / 2 ^ c ≤ r.2 / 2 ^ c := Nat.div_le_div_right h2
    omega
  have hb : ∀ i, c ≤ i → x.testBit i = r.1.testBit i := fun i hi => by
    have := bit_of e2 (i - c)
    rw [Nat.testBit_div_two_pow, Nat.testBit_div_two_pow, show i - c + c = i by omega] at this
    exact this
  refine ⟨bits_ext fun i => ?_, bits_ext fun i => ?_⟩
  · rw [Nat.testBit_and, (c3 i).1, Nat.zero_testBit]
    by_cases h : c ≤ i ∧ i < w
    · rw [hb i h.1]; cases r.1.testBit i <;> simp
    · rw [decide_eq_false h]; simp
  · rw [Nat.testBit_and, (c3 i).2]
    by_cases h : c ≤ i ∧ i < w
    · rw [hb i h.1]; cases r.1.testBit i <;> simp
    · rw [decide_eq_false h]; simp

/-! ### the step -/
abbrev FT := Int × Int × Int × Int × Int
/-- Facts of natural numbers. -/
abbrev fI (a : Int) (k r : Nat × Nat) : FT := (a, (k.1 : Int), (k.2 : Int), (r.1 : Int), (r.2 : Int))
def midN (M : Nat) (k : Nat × Nat) : Nat × Nat := (k.2, M - k.1)
def rngN (M : Nat) (k r : Nat × Nat) : Nat × Nat := mttN (nrmN M r) (nrmN M (midN M k))
def korN (x y : Nat × Nat) : Nat × Nat := (x.1 ||| y.1, x.2 ||| y.2)
def stepV (a : Int) (k r : Nat × Nat) : FT × Bool :=
  if (rngN (MK a) k r).2 < (rngN (MK a) k r).1 then (fI a k r, false)
  else if kdis (kof (MK a) k.1 k.2) (preK (W a) (rngN (MK a) k r)) then (fI a (korN (kof (MK a) k.1 k.2) (preK (W a) (rngN (MK a) k r))) (rngN (MK a) k r), true)
  else (fI a (0, 0) (rngN (MK a) k r), false)
theorem mttN_le {M : Nat} {x y : Nat × Nat} (h : rok M x) (h' : rok M y) (hn : ¬ (mttN x y).2 < (mttN x y).1) : rok M (mttN x y) := by
  unfold mttN at hn ⊢
  obtain ⟨h1, h2⟩ := h
  obtain ⟨h3, h4⟩ := h'
  simp only at hn
  exact ⟨by simp only; omega, by simp only; omega⟩
theorem rngN_ok {M : Nat} {k r : Nat × Nat} (hn : ¬ (rngN M k r).2 < (rngN M k r).1) : rok M (rngN M k r) := mttN_le (nrmN_ok _ _) (nrmN_ok _ _) hn
theorem rok_lt {a : Int} {r : Nat × Nat} (h : rok (MK a) r) : r.1 < U64 ∧ r.2 < U64 := by
  have := MK_lt a; obtain ⟨h1, h2⟩ := h; omega
theorem kok_leA {a : Int} {k : Nat × Nat} (h1 : k.1 < U64) (h2 : k.2 < U64) (h : kok (MK a) k.1 k.2) : k.1 ≤ MK a ∧ k.2 ≤ MK a := ((kok_iff (W_le a) h1 h2).1 h).2
theorem sub_and {a : Int} {z : Nat} (h : z ≤ MK a) : MK a &&& (18446744073709551615 - z) = MK a - z := by
  have hz : z < U64 := Nat.lt_of_le_of_lt h (MK_lt a)
  have hz' := lt_of_le_mask h
  have e : MK a - z = vnot (W a) z := by unfold vnot; rw [Nat.mod_eq_of_lt hz']; rfl
  rw [e]
  refine bits_ext fun i => ?_
  rw [Nat.testBit_and, testBit_vnot, testBit_mask, testBit_comp hz]
  by_cases hi : i < W a
  · have := W_le a; rw [decide_eq_true hi, decide_eq_true (show i < 64 by omega)]; rfl
  · rw [decide_eq_false hi]; rfl
theorem rMeet_mid (a : Int) (k r : Nat × Nat) : ranges_Meet.f a ((r.1 : Int), (r.2 : Int)) ((k.2 : Int), ((MK a - k.1 : Nat) : Int)) = some (if (rngN (MK a) k r).2 < (rngN (MK a) k r).1 then ((0, MM a), false) else (cp (rngN (MK a) k r), true)) := rMeet_cp a r (midN (MK a) k)
theorem rMeet_mid' (a : Int) (k r : Nat × Nat) : saturateref13_Meet.f a ((r.1 : Int), (r.2 : Int)) ((k.2 : Int), ((MK a - k.1 : Nat) : Int)) = some (if (rngN (MK a) k r).2 < (rngN (MK a) k r).1 then ((0, MM a), false) else (cp (rngN (MK a) k r), true)) := rMeet_cp' a r (midN (MK a) k)
theorem facts_step_eq {a : Int} (h1 : 1 ≤ a) (h2 : a ≤ 64) {k r : Nat × Nat} (hz : k.1 < U64) (ho : k.2 < U64) (hk : kok (MK a) k.1 k.2) : facts_step.f (fI a k r) = some (stepV a k r) := by
  obtain ⟨w, rfl⟩ : ∃ w : Nat, a = (w : Int) := ⟨a.toNat, by omega⟩
  have hW : W (w : Int) = w := W_of (by omega) (by omega)
  have hle := kok_leA hz ho hk
  unfold facts_step.f stepV
  simp only
  rw [ranges_Top_eq, Option.bind_some]
  simp only
  rw [show MM (w : Int) = ((MK (w : Int) : Nat) : Int) from rfl, andNot64 (MK_lt _) hz, sub_and hle.1, rMeet_mid (w : Int) k r, Option.bind_some]
  by_cases hn : (rngN (MK (w : Int)) k r).2 < (rngN (MK (w : Int)) k r).1
  · rw [if_pos hn, if_pos hn]; rfl
  · have hR := rngN_ok hn
    have hl := rok_lt hR
    rw [if_neg hn, if_neg hn]
    simp only [Bool.not_true, cond_false]
    have hp := preK_lt (w := W (w : Int)) (W_le _) (rngN (MK (w : Int)) k r)
    have hpk := kof_of (preK_ok (w : Int) (rngN (MK (w : Int)) k r))
    rw [facts_prefix_eq (by omega) (by omega) hl.1 hl.2, Option.bind_some]
    rw [hW] at hp
    have hpk' : kof (MK (w : Int)) (preK w (rngN (MK (w : Int)) k r)).1 (preK w (rngN (MK (w : Int)) k r)).2 = preK w (rngN (MK (w : Int)) k r) := by rw [hW] at hpk; exact hpk
    have hs : W (w : Int) = w := hW
    rw [known_Meet_eq (w : Int) hz ho hp.1 hp.2, Option.bind_some, hpk']
    have e : preK (W (w : Int)) (rngN (MK (w : Int)) k r) = preK w (rngN (MK (w : Int)) k r) := congrArg (fun n => preK n (rngN (MK (w : Int)) k r)) hW
    rw [e]
    by_cases hd : kdis (kof (MK (w : Int)) k.1 k.2) (preK w (rngN (MK (w : Int)) k r))
    · rw [if_pos hd, if_pos hd]; rfl
    · rw [if_neg hd, if_neg hd]; rfl
theorem saturateref14_step_eq {a : Int} (h1 : 1 ≤ a) (h2 : a ≤ 64) {k r : Nat × Nat} (hz : k.1 < U64) (ho : k.2 < U64) (hk : kok (MK a) k.1 k.2) : saturateref14_step.f (fI a k r) = some (stepV a k r) := by
  obtain ⟨w, rfl⟩ : ∃ w : Nat, a = (w : Int) := ⟨a.toNat, by omega⟩
  have hW : W (w : Int) = w := W_of (by omega) (by omega)
  have hle := kok_leA hz ho hk
  unfold saturateref14_step.f stepV
  simp only
  rw [saturateref01_Mask_eq, Option.bind_some, wrapu_sub_le (MK_lt _) hle.1, rMeet_mid' (w : Int) k r, Option.bind_some]
  by_cases hn : (rngN (MK (w : Int)) k r).2 < (rngN (MK (w : Int)) k r).1
  · rw [if_pos hn, if_pos hn]; rfl
  · have hR := rngN_ok hn
    have hl := rok_lt hR
    rw [if_neg hn, if_neg hn]
    simp only [Bool.not_true, cond_false]
    have hp := preK_lt (w := W (w : Int)) (W_le _) (rngN (MK (w : Int)) k r)
    have hpk := kof_of (preK_ok (w : Int) (rngN (MK (w : Int)) k r))
    rw [saturateref14_prefix_eq (by omega) (by omega) hl.1 hl.2, Option.bind_some]
    rw [hW] at hp
    have hpk' : kof (MK (w : Int)) (preK w (rngN (MK (w : Int)) k r)).1 (preK w (rngN (MK (w : Int)) k r)).2 = preK w (rngN (MK (w : Int)) k r) := by rw [hW] at hpk; exact hpk
    have hs : W (w : Int) = w := hW
    rw [saturateref12_Meet_eq (w : Int) hz ho hp.1 hp.2, Option.bind_some, hpk']
    have e : preK (W (w : Int)) (rngN (MK (w : Int)) k r) = preK w (rngN (MK (w : Int)) k r) := congrArg (fun n => preK n (rngN (MK (w : Int)) k r)) hW
    rw [e]
    by_cases hd : kdis (kof (MK (w : Int)) k.1 k.2) (preK w (rngN (MK (w : Int)) k r))
    · rw [if_pos hd, if_pos hd]; rfl
    · rw [if_neg hd, if_neg hd]; rfl
end Go.Proofs.YtcihbcffokjgjaaGreat.Fn
