/- Facts: the reduction step of the program and of the reference compute the same; what it keeps. Facts: validity; Reduce reaches a fixpoint, in the program and in the reference alike, and removes no value. -/
import Derived.Test.YtcihbcffokjgjaaGreatOF1
import Derived.Test.YtcihbcffokjgjaaGreatOF2
import Derived.Test.YtcihbcffokjgjaaGreatOF8
import Derived.Test.YtcihbcffokjgjaaGreatOTr
import Derived.Test.YtcihbcffokjgjaaGreatOF3
namespace Go.Proofs.YtcihbcffokjgjaaGreat.Fn
open Go Go.RowKit Go.Proofs.YtcihbcffokjgjaaGreat.Ev Go.Proofs.YtcihbcffokjgjaaGreat.Bv
set_option linter.unusedVariables false
set_option linter.unusedSimpArgs false
set_option maxRecDepth 100000
abbrev cp (r : Nat × Nat) : Int × Int := ((r.1 : Int), (r.2 : Int))
def nrmN (M : Nat) (r : Nat × Nat) : Nat × Nat := if r.1 ≤ r.2 ∧ r.2 ≤ M then r else (0, M)
def rok (M : Nat) (r : Nat × Nat) : Prop := r.1 ≤ r.2 ∧ r.2 ≤ M
instance (M : Nat) (r : Nat × Nat) : Decidable (rok M r) := inferInstanceAs (Decidable (_ ∧ _))
theorem nrmN_ok (M : Nat) (r : Nat × Nat) : rok M (nrmN M r) := by
  unfold nrmN; split
  · assumption
  · exact ⟨Nat.zero_le _, Nat.le_refl _⟩
theorem nrmN_of {M : Nat} {r : Nat × Nat} (h : rok M r) : nrmN M r = r := if_pos h
theorem nrm_cp (a : Int) (r : Nat × Nat) : nrm (MM a) (cp r) = cp (nrmN (MK a) r) := by
  unfold nrm nrmN
  by_cases h : r.1 ≤ r.2 ∧ r.2 ≤ MK a
  · rw [if_pos h, if_pos (show (cp r).1 ≤ (cp r).2 ∧ (cp r).2 ≤ MM a from ⟨Int.ofNat_le.2 h.1, Int.ofNat_le.2 h.2⟩)]
  · rw [if_neg h, if_neg (fun q : (cp r).1 ≤ (cp r).2 ∧ (cp r).2 ≤ MM a => h ⟨Int.ofNat_le.1 q.1, Int.ofNat_le.1 q.2⟩)]; rfl
def mttN (x y : Nat × Nat) : Nat × Nat := (max x.1 y.1, min x.2 y.2)
theorem mx_cast (m n : Nat) : mx (m : Int) (n : Int) = ((max m n : Nat) : Int) := by unfold mx; split <;> omega
theorem mn_cast (m n : Nat) : mn (m : Int) (n : Int) = ((min m n : Nat) : Int) := by unfold mn; split <;> omega
theorem mtt_cp (x y : Nat × Nat) : mtt (cp x) (cp y) = cp (mttN x y) := by unfold mtt mttN; rw [mx_cast, mn_cast]
theorem rMeet_cp (a : Int) (r s : Nat × Nat) : ranges_Meet.f a (cp r) (cp s) = some (if (mttN (nrmN (MK a) r) (nrmN (MK a) s)).2 < (mttN (nrmN (MK a) r) (nrmN (MK a) s)).1 then ((0, MM a), false) else (cp (mttN (nrmN (MK a) r) (nrmN (MK a) s)), true)) := by
  rw [ranges_Meet_eq, nrm_cp, nrm_cp, mtt_cp]
  congr 1
  by_cases h : (mttN (nrmN (MK a) r) (nrmN (MK a) s)).2 < (mttN (nrmN (MK a) r) (nrmN (MK a) s)).1
  · rw [if_pos h, if_pos (show _ > _ from Int.ofNat_lt.2 h)]
  · rw [if_neg h, if_neg (fun q => h (Int.ofNat_lt.1 q))]
theorem rMeet_cp' (a : Int) (r s : Nat × Nat) : saturateref13_Meet.f a (cp r) (cp s) = some (if (mttN (nrmN (MK a) r) (nrmN (MK a) s)).2 < (mttN (nrmN (MK a) r) (nrmN (MK a) s)).1 then ((0, MM a), false) else (cp (mttN (nrmN (MK a) r) (nrmN (MK a) s)), true)) := by
  rw [saturateref13_Meet_eq, ← ranges_Meet_eq, rMeet_cp]
def preS (lo hi : Nat) : Nat → Nat → Nat → Nat × Nat
  | 0, z, o => (z, o)
  | i + 1, z, o => if lo.testBit i = hi.testBit i then (if lo.testBit i then preS lo hi i z (o ||| 2 ^ i) else preS lo hi i (z ||| 2 ^ i) o) else (z, o)
theorem shl_one {i : Nat} (hi : i < 64) : shl .u64 1 (i : Int) = ((2 ^ i : Nat) : Int) := by
  rw [show (1 : Int) = ((1 : Nat) : Int) from rfl, shl64, Nat.shiftLeft_eq, Nat.one_mul, Nat.mod_eq_of_lt (by rw [← p64]; exact Nat.pow_lt_pow_right (by decide) hi)]
theorem pw_lt {i : Nat} (hi : i < 64) : 2 ^ i < U64 := by rw [show U64 = 2 ^ 64 from rfl]; exact Nat.pow_lt_pow_right (by decide) hi
theorem and_pow (x i : Nat) : (x &&& 2 ^ i = 0) ↔ x.testBit i = false := by
  constructor
  · intro h
    have := bit_of h i
    rw [Nat.testBit_and, Nat.testBit_two_pow_self, Nat.zero_testBit] at this
    simpa using this
  · intro h
    refine bits_ext fun j => ?_
    rw [Nat.testBit_and, Nat.zero_testBit, Nat.testBit_two_pow]
    by_cases e : i = j
    · subst e; rw [h]; rfl
    · rw [decide_eq_false e, Bool.and_false]
theorem and_pow_bne {x i : Nat} (hx : x < U64) (hi : i < 64) : ((Go.bits .and .u64 (x : Int) (shl .u64 1 (i : Int))) != 0) = x.testBit i := by
  rw [shl_one hi, and64 hx (pw_lt hi), cast0n]
  cases h : x.testBit i
  · rw [decide_eq_true ((and_pow x i).2 h)]; rfl
  · rw [decide_eq_false (fun q => by rw [(and_pow x i).1 q] at h; exact absurd h (by decide))]; rfl
theorem xor_ltA {x y : Nat} (hx : x < U64) (hy : y < U64) : x ^^^ y < U64 := by rw [show U64 = 2 ^ 64 from rfl]; exact Nat.xor_lt_two_pow hx hy
theorem preS_lt {lo hi : Nat} : ∀ (i z o : Nat), i ≤ 64 → z < U64 → o < U64 → (preS lo hi i z o).1 < U64 ∧ (preS lo hi i z o).2 < U64
  | 0, z, o, _, hz, ho => ⟨hz, ho⟩
  | i + 1, z, o, hi', hz, ho => by
    have hp := pw_lt (i := i) (by omega)
    unfold preS
    split
    · split
      · exact preS_lt i z _ (by omega) hz (or_lt ho hp)
      · exact preS_lt i _ o (by omega) (or_lt hz hp) ho
    · exact ⟨hz, ho⟩
theorem prefix_j3 (fu : Nat) {lo hi : Nat} (hl : lo < U64) (hh : hi < U64) (u v : Int) : ∀ (i z o n : Nat), i ≤ 64 → z < U64 → o < U64 → i < n →
    facts_prefix.j3 (fu + 1) n ((i : Int) - 1) lo hi u v z o = some (cp (preS lo hi i z o))
  | 0, z, o, n, _, hz, ho, hn => by
    obtain ⟨n, rfl⟩ : ∃ m, n = m + 1 := ⟨n - 1, by omega⟩
    rw [facts_prefix.j3_succ, bifd_neg (by omega), facts_prefix.p10_eq]; rfl
  | i + 1, z, o, n, hi', hz, ho, hn => by
    obtain ⟨n, rfl⟩ : ∃ m, n = m + 1 := ⟨n - 1, by omega⟩
    have hp := pw_lt (i := i) (by omega)
    have e : (((i + 1 : Nat) : Int) - 1) = (i : Int) := by omega
    rw [e, facts_prefix.j3_succ, bifd_pos (by omega), bifd_neg (by omega), xor64 hl hh, and_pow_bne (xor_ltA hl hh) (by omega), and_pow_bne hl (by omega), Nat.testBit_xor]
    unfold preS
    by_cases h : lo.testBit i = hi.testBit i
    · rw [if_pos h, h, Bool.xor_self, cond_false]
      cases hb : hi.testBit i
      · rw [cond_false, if_neg (by decide), facts_prefix.p4_eq, shl_one (by omega), or64 hz hp, wrapi, wrapi_of (by omega) (by omega)]
        exact prefix_j3 fu hl hh u v i _ o n (by omega) (or_lt hz hp) ho (by omega)
      · rw [cond_true, if_pos rfl, facts_prefix.p4_eq, shl_one (by omega), or64 ho hp, wrapi, wrapi_of (by omega) (by omega)]
        exact prefix_j3 fu hl hh u v i z _ n (by omega) hz (or_lt ho hp) (by omega)
    · rw [if_neg h, show (lo.testBit i ^^ hi.testBit i) = true by revert h; cases lo.testBit i <;> cases hi.testBit i <;> decide, cond_true, facts_prefix.p10_eq]
theorem facts_prefix_eq {w : Nat} (h1 : 1 ≤ w) (h2 : w ≤ 64) {lo hi : Nat} (hl : lo < U64) (hh : hi < U64) : facts_prefix.f (w : Int) ((lo : Int), (hi : Int)) = some (cp (preS lo hi w 0 0)) := by
  unfold facts_prefix.f
  have hf : fuel0 = 100 + (fuel0 - 100) := by unfold fuel0; omega
  generalize fuel0 - 100 = fu at hf
  rw [hf]
  unfold facts_prefix.g
  rw [wrapi, wrapi_of (by omega) (by omega)]
  exact prefix_j3 (100 + fu) hl hh 0 0 w 0 0 _ h2 (by decide) (by decide) (by omega)
theorem ref_prefix_j3 (fu : Nat) {lo hi : Nat} (hl : lo < U64) (hh : hi < U64) (u v : Int) : ∀ (i z o n : Nat), i ≤ 64 → z < U64 → o < U64 → i < n →
    saturateref14_prefix.j3 (fu + 1) n ((i : Int) - 1) lo hi u v z o = some (cp (preS lo hi i z o))
  | 0, z, o, n, _, hz, ho, hn => by
    obtain ⟨n, rfl⟩ : ∃ m, n = m + 1 := ⟨n - 1, by omega⟩
    rw [saturateref14_prefix.j3_succ, bifd_neg (by omega), saturateref14_prefix.p8_eq]; rfl
  | i + 1, z, o, n, hi', hz, ho, hn => by
    obtain ⟨n, rfl⟩ : ∃ m, n = m + 1 := ⟨n - 1, by omega⟩
    have hp := pw_lt (i := i) (by omega)
    have e : (((i + 1 : Nat) : Int) - 1) = (i : Int) := by omega
    rw [e, saturateref14_prefix.j3_succ, bifd_pos (by omega), saturateref01_Bit_eq hl, saturateref01_Bit_eq hh]
    simp only [Option.bind_some]
    unfold preS
    by_cases h : lo.testBit i = hi.testBit i
    · rw [if_pos h, h, beq_self_eq_true, cond_true]
      cases hb : hi.testBit i
      · rw [show ((((false : Bool).toNat : Nat) : Int) == 1) = false from rfl, cond_false, bifd_neg (by rw [wrapu_of (by omega)]; omega), if_neg (by decide), saturateref14_prefix.p4_eq, wrapu_of (by omega), shl_one (by omega), or64 hz hp, wrapi, wrapi_of (by omega) (by omega)]
        exact ref_prefix_j3 fu hl hh u v i _ o n (by omega) (or_lt hz hp) ho (by omega)
      · rw [show ((((true : Bool).toNat : Nat) : Int) == 1) = true from rfl, cond_true, bifd_neg (by rw [wrapu_of (by omega)]; omega), if_pos rfl, saturateref14_prefix.p4_eq, wrapu_of (by omega), shl_one (by omega), or64 ho hp, wrapi, wrapi_of (by omega) (by omega)]
        exact ref_prefix_j3 fu hl hh u v i z _ n (by omega) hz (or_lt ho hp) (by omega)
    · rw [if_neg h, show (((lo.testBit i).toNat : Int) == ((hi.testBit i).toNat : Int)) = false by revert h; cases lo.testBit i <;> cases hi.testBit i <;> decide, cond_false, saturateref14_prefix.p8_eq]
theorem saturateref14_prefix_eq {w : Nat} (h1 : 1 ≤ w) (h2 : w ≤ 64) {lo hi : Nat} (hl : lo < U64) (hh : hi < U64) : saturateref14_prefix.f (w : Int) ((lo : Int), (hi : Int)) = some (cp (preS lo hi w 0 0)) := by
  unfold saturateref14_prefix.f
  have hf : fuel0 = 100 + (fuel0 - 100) := by unfold fuel0; omega
  generalize fuel0 - 100 = fu at hf
  rw [hf]
  unfold saturateref14_prefix.g saturateref12_Top.f
  rw [wrapi, wrapi_of (by omega) (by omega)]
  exact ref_prefix_j3 (100 + fu) hl hh 0 0 w 0 0 _ h2 (by decide) (by decide) (by omega)
theorem preS_bit (lo hi : Nat) : ∀ (n z o : Nat), ∃ c, c ≤ n ∧ (∀ i, c ≤ i → i < n → lo.testBit i = hi.testBit i) ∧
    ∀ i, (preS lo hi n z o).1.testBit i = (z.testBit i || (decide (c ≤ i ∧ i < n) && !lo.testBit i)) ∧ (preS lo hi n z o).2.testBit i = (o.testBit i || (decide (c ≤ i ∧ i < n) && lo.testBit i))
  | 0, z, o => ⟨0, Nat.le_refl _, fun i _ h => absurd h (by omega), fun i => by rw [decide_eq_false (by omega)]; unfold preS; simp⟩
  | n + 1, z, o => by
    unfold preS
    by_cases h : lo.testBit n = hi.testBit n
    · rw [if_pos h]
      by_cases hb : lo.testBit n = true
      · rw [if_pos hb]
        obtain ⟨c, h1, h2, h3⟩ := preS_bit lo hi n z (o ||| 2 ^ n)
        refine ⟨c, by omega, fun i i1 i2 => ?_, fun i => ?_⟩
        · by_cases e : i = n
          · subst e; exact h
          · exact h2 i i1 (by omega)
        · rw [(h3 i).1, (h3 i).2, Nat.testBit_or, Nat.testBit_two_pow]
          by_cases e : n = i
          · subst e
            rw [decide_eq_false (show ¬ (c ≤ n ∧ n < n) by omega), decide_eq_true (show c ≤ n ∧ n < n + 1 by omega), hb]; simp
          · rw [decide_eq_false e, Bool.or_false]
            have : (c ≤ i ∧ i < n) ↔ (c ≤ i ∧ i < n + 1) := by omega
            simp only [this]; simp
      · rw [if_neg hb]
        obtain ⟨c, h1, h2, h3⟩ := preS_bit lo hi n (z ||| 2 ^ n) o
        refine ⟨c, by omega, fun i i1 i2 => ?_, fun i => ?_⟩
        · by_cases e : i = n
          · subst e; exact h
          · exact h2 i i1 (by omega)
        · rw [(h3 i).1, (h3 i).2, Nat.testBit_or, Nat.testBit_two_pow]
          by_cases e : n = i
          · subst e
            rw [decide_eq_false (show ¬ (c ≤ n ∧ n < n) by omega), decide_eq_true (show c ≤ n ∧ n < n + 1 by omega)]; simp [hb]
          · rw [decide_eq_false e, Bool.or_false]
            have : (c ≤ i ∧ i < n) ↔ (c ≤ i ∧ i < n + 1) := by omega
            simp only [this]; simp
    · rw [if_neg h]
      exact ⟨n + 1, Nat.le_refl _, fun i i1 i2 => absurd i2 (by omega), fun i => by rw [decide_eq_false (by omega)]; simp⟩
abbrev preK (w : Nat) (r : Nat × Nat) : Nat × Nat := preS r.1 r.2 w 0 0
theorem preK_bit (w : Nat) (r : Nat × Nat) : ∃ c, c ≤ w ∧ (∀ i, c ≤ i → i < w → r.1.testBit i = r.2.testBit i) ∧
    ∀ i, (preK w r).1.testBit i = (decide (c ≤ i ∧ i < w) && !r.1.testBit i) ∧ (preK w r).2.testBit i = (decide (c ≤ i ∧ i < w) && r.1.testBit i) := by
  obtain ⟨c, h1, h2, h3⟩ := preS_bit r.1 r.2 w 0 0
  refine ⟨c, h1, h2, fun i => ?_⟩
  have := h3 i
  simp only [Nat.zero_testBit, Bool.false_or] at this
  exact this
theorem preK_lt {w : Nat} (h2 : w ≤ 64) (r : Nat × Nat) : (preK w r).1 < U64 ∧ (preK w r).2 < U64 := preS_lt w 0 0 h2 (by decide) (by decide)
theorem preK_ok (a : Int) (r : Nat × Nat) : kok (MK a) (preK (W a) r).1 (preK (W a) r).2 := by
  obtain ⟨c, h1, h2, h3⟩ := preK_bit (W a) r
  refine ⟨bits_ext fun i => ?_, bits_ext fun i => ?_⟩
  · rw [Nat.testBit_and, (h3 i).1, (h3 i).2, Nat.zero_testBit]
    cases decide (c ≤ i ∧ i < W a) <;> cases r.1.testBit i <;> rfl
  · rw [Nat.testBit_and, Nat.testBit_or, (h3 i).1, (h3 i).2, Nat.zero_testBit, testBit_comp (MK_lt a), testBit_mask]
    by_cases e : i < W a
    · rw [decide_eq_true e]; simp
    · rw [decide_eq_false (show ¬ (c ≤ i ∧ i < W a) by omega)]; rfl
theorem preK_has {w : Nat} {r : Nat × Nat} {x : Nat} (hr : rok (vmask w) r) (h1 : r.1 ≤ x) (h2 : x ≤ r.2) : khas (preK w r) x := by
  obtain ⟨c, c1, c2, c3⟩ := preK_bit w r
  have hw1 := lt_of_le_mask (Nat.le_trans hr.1 hr.2)
  have hw2 := lt_of_le_mask hr.2
  have e : r.1 / 2 ^ c = r.2 / 2 ^ c := bits_ext fun i => by
    rw [Nat.testBit_div_two_pow, Nat.testBit_div_two_pow]
    by_cases h : i + c < w
    · exact c2 _ (by omega) h
    · rw [testBit_ge hw1 (by omega), testBit_ge hw2 (by omega)]
  have e2 : x / 2 ^ c = r.1 / 2 ^ c := by
    have l1 : r.1 / 2 ^ c ≤ x / 2 ^ c := Nat.div_le_div_right h1
    have l2 : x / 2 ^ c ≤ r.2 / 2 ^ c := Nat.div_le_div_right h2
    omega
  have hb : ∀ i, c ≤ i → x.testBit i = r.1.testBit i := fun i hi => by
    have := bit_of e2 (i - c)
    rw [Nat.testBit_div_two_pow, Nat.testBit_div_two_pow, show i - c + c = i by omega] at this
    exact this
  refine ⟨bits_ext fun i => ?_, bits_ext fun i => ?_⟩
  · rw [Nat.testBit_and, (c3 i).1, Nat.zero_testBit]
    by_cases h : c ≤ i ∧ i < w
    · rw [hb i h.1]; cases r.1.testBit i <;> simp
    · rw [decide_eq_false h]; simp
  · rw [Nat.testBit_and, (c3 i).2]
    by_cases h : c ≤ i ∧ i < w
    · rw [hb i h.1]; cases r.1.testBit i <;> simp
    · rw [decide_eq_false h]; simp
abbrev FT := Int × Int × Int × Int × Int
abbrev fI (a : Int) (k r : Nat × Nat) : FT := (a, (k.1 : Int), (k.2 : Int), (r.1 : Int), (r.2 : Int))
def midN (M : Nat) (k : Nat × Nat) : Nat × Nat := (k.2, M - k.1)
def rngN (M : Nat) (k r : Nat × Nat) : Nat × Nat := mttN (nrmN M r) (nrmN M (midN M k))
def korN (x y : Nat × Nat) : Nat × Nat := (x.1 ||| y.1, x.2 ||| y.2)
def stepV (a : Int) (k r : Nat × Nat) : FT × Bool :=
  if (rngN (MK a) k r).2 < (rngN (MK a) k r).1 then (fI a k r, false)
  else if kdis (kof (MK a) k.1 k.2) (preK (W a) (rngN (MK a) k r)) then (fI a (korN (kof (MK a) k.1 k.2) (preK (W a) (rngN (MK a) k r))) (rngN (MK a) k r), true)
  else (fI a (0, 0) (rngN (MK a) k r), false)
theorem mttN_le {M : Nat} {x y : Nat × Nat} (h : rok M x) (h' : rok M y) (hn : ¬ (mttN x y).2 < (mttN x y).1) : rok M (mttN x y) := by
  unfold mttN at hn ⊢
  obtain ⟨h1, h2⟩ := h
  obtain ⟨h3, h4⟩ := h'
  simp only at hn
  exact ⟨by simp only; omega, by simp only; omega⟩
theorem rngN_ok {M : Nat} {k r : Nat × Nat} (hn : ¬ (rngN M k r).2 < (rngN M k r).1) : rok M (rngN M k r) := mttN_le (nrmN_ok _ _) (nrmN_ok _ _) hn
theorem rok_lt {a : Int} {r : Nat × Nat} (h : rok (MK a) r) : r.1 < U64 ∧ r.2 < U64 := by
  have := MK_lt a; obtain ⟨h1, h2⟩ := h; omega
theorem kok_leA {a : Int} {k : Nat × Nat} (h1 : k.1 < U64) (h2 : k.2 < U64) (h : kok (MK a) k.1 k.2) : k.1 ≤ MK a ∧ k.2 ≤ MK a := ((kok_iff (W_le a) h1 h2).1 h).2
theorem sub_and {a : Int} {z : Nat} (h : z ≤ MK a) : MK a &&& (18446744073709551615 - z) = MK a - z := by
  have hz : z < U64 := Nat.lt_of_le_of_lt h (MK_lt a)
  have hz' := lt_of_le_mask h
  have e : MK a - z = vnot (W a) z := by unfold vnot; rw [Nat.mod_eq_of_lt hz']; rfl
  rw [e]
  refine bits_ext fun i => ?_
  rw [Nat.testBit_and, testBit_vnot, testBit_mask, testBit_comp hz]
  by_cases hi : i < W a
  · have := W_le a; rw [decide_eq_true hi, decide_eq_true (show i < 64 by omega)]; rfl
  · rw [decide_eq_false hi]; rfl
theorem rMeet_mid (a : Int) (k r : Nat × Nat) : ranges_Meet.f a ((r.1 : Int), (r.2 : Int)) ((k.2 : Int), ((MK a - k.1 : Nat) : Int)) = some (if (rngN (MK a) k r).2 < (rngN (MK a) k r).1 then ((0, MM a), false) else (cp (rngN (MK a) k r), true)) := rMeet_cp a r (midN (MK a) k)
theorem rMeet_mid' (a : Int) (k r : Nat × Nat) : saturateref13_Meet.f a ((r.1 : Int), (r.2 : Int)) ((k.2 : Int), ((MK a - k.1 : Nat) : Int)) = some (if (rngN (MK a) k r).2 < (rngN (MK a) k r).1 then ((0, MM a), false) else (cp (rngN (MK a) k r), true)) := rMeet_cp' a r (midN (MK a) k)
theorem facts_step_eq {a : Int} (h1 : 1 ≤ a) (h2 : a ≤ 64) {k r : Nat × Nat} (hz : k.1 < U64) (ho : k.2 < U64) (hk : kok (MK a) k.1 k.2) : facts_step.f (fI a k r) = some (stepV a k r) := by
  obtain ⟨w, rfl⟩ : ∃ w : Nat, a = (w : Int) := ⟨a.toNat, by omega⟩
  have hW : W (w : Int) = w := W_of (by omega) (by omega)
  have hle := kok_leA hz ho hk
  unfold facts_step.f stepV
  simp only
  rw [ranges_Top_eq, Option.bind_some]
  simp only
  rw [show MM (w : Int) = ((MK (w : Int) : Nat) : Int) from rfl, andNot64 (MK_lt _) hz, sub_and hle.1, rMeet_mid (w : Int) k r, Option.bind_some]
  by_cases hn : (rngN (MK (w : Int)) k r).2 < (rngN (MK (w : Int)) k r).1
  · rw [if_pos hn, if_pos hn]; rfl
  · have hR := rngN_ok hn
    have hl := rok_lt hR
    rw [if_neg hn, if_neg hn]
    simp only [Bool.not_true, cond_false]
    have hp := preK_lt (w := W (w : Int)) (W_le _) (rngN (MK (w : Int)) k r)
    have hpk := kof_of (preK_ok (w : Int) (rngN (MK (w : Int)) k r))
    rw [facts_prefix_eq (by omega) (by omega) hl.1 hl.2, Option.bind_some]
    rw [hW] at hp
    have hpk' : kof (MK (w : Int)) (preK w (rngN (MK (w : Int)) k r)).1 (preK w (rngN (MK (w : Int)) k r)).2 = preK w (rngN (MK (w : Int)) k r) := by rw [hW] at hpk; exact hpk
    have hs : W (w : Int) = w := hW
    rw [known_Meet_eq (w : Int) hz ho hp.1 hp.2, Option.bind_some, hpk']
    have e : preK (W (w : Int)) (rngN (MK (w : Int)) k r) = preK w (rngN (MK (w : Int)) k r) := congrArg (fun n => preK n (rngN (MK (w : Int)) k r)) hW
    rw [e]
    by_cases hd : kdis (kof (MK (w : Int)) k.1 k.2) (preK w (rngN (MK (w : Int)) k r))
    · rw [if_pos hd, if_pos hd]; rfl
    · rw [if_neg hd, if_neg hd]; rfl
theorem saturateref14_step_eq {a : Int} (h1 : 1 ≤ a) (h2 : a ≤ 64) {k r : Nat × Nat} (hz : k.1 < U64) (ho : k.2 < U64) (hk : kok (MK a) k.1 k.2) : saturateref14_step.f (fI a k r) = some (stepV a k r) := by
  obtain ⟨w, rfl⟩ : ∃ w : Nat, a = (w : Int) := ⟨a.toNat, by omega⟩
  have hW : W (w : Int) = w := W_of (by omega) (by omega)
  have hle := kok_leA hz ho hk
  unfold saturateref14_step.f stepV
  simp only
  rw [saturateref01_Mask_eq, Option.bind_some, wrapu_sub_le (MK_lt _) hle.1, rMeet_mid' (w : Int) k r, Option.bind_some]
  by_cases hn : (rngN (MK (w : Int)) k r).2 < (rngN (MK (w : Int)) k r).1
  · rw [if_pos hn, if_pos hn]; rfl
  · have hR := rngN_ok hn
    have hl := rok_lt hR
    rw [if_neg hn, if_neg hn]
    simp only [Bool.not_true, cond_false]
    have hp := preK_lt (w := W (w : Int)) (W_le _) (rngN (MK (w : Int)) k r)
    have hpk := kof_of (preK_ok (w : Int) (rngN (MK (w : Int)) k r))
    rw [saturateref14_prefix_eq (by omega) (by omega) hl.1 hl.2, Option.bind_some]
    rw [hW] at hp
    have hpk' : kof (MK (w : Int)) (preK w (rngN (MK (w : Int)) k r)).1 (preK w (rngN (MK (w : Int)) k r)).2 = preK w (rngN (MK (w : Int)) k r) := by rw [hW] at hpk; exact hpk
    have hs : W (w : Int) = w := hW
    rw [saturateref12_Meet_eq (w : Int) hz ho hp.1 hp.2, Option.bind_some, hpk']
    have e : preK (W (w : Int)) (rngN (MK (w : Int)) k r) = preK w (rngN (MK (w : Int)) k r) := congrArg (fun n => preK n (rngN (MK (w : Int)) k r)) hW
    rw [e]
    by_cases hd : kdis (kof (MK (w : Int)) k.1 k.2) (preK w (rngN (MK (w : Int)) k r))
    · rw [if_pos hd, if_pos hd]; rfl
    · rw [if_neg hd, if_neg hd]; rfl
end Go.Proofs.YtcihbcffokjgjaaGreat.Fn
namespace Go.Proofs.YtcihbcffokjgjaaGreat.Fn
open Go Go.RowKit Go.Proofs.YtcihbcffokjgjaaGreat.Ev Go.Proofs.YtcihbcffokjgjaaGreat.Bv
set_option linter.unusedVariables false
set_option linter.unusedSimpArgs false
set_option maxRecDepth 100000
def stepN (a : Int) (k r : Nat × Nat) : Option ((Nat × Nat) × (Nat × Nat)) :=
  if (rngN (MK a) k r).2 < (rngN (MK a) k r).1 then none
  else if kdis (kof (MK a) k.1 k.2) (preK (W a) (rngN (MK a) k r)) then some (korN (kof (MK a) k.1 k.2) (preK (W a) (rngN (MK a) k r)), rngN (MK a) k r)
  else none
theorem stepV_some {a : Int} {k r k' r' : Nat × Nat} (h : stepN a k r = some (k', r')) : stepV a k r = (fI a k' r', true) := by
  unfold stepN at h
  unfold stepV
  by_cases h1 : (rngN (MK a) k r).2 < (rngN (MK a) k r).1
  · rw [if_pos h1] at h; exact absurd h (by simp)
  · rw [if_neg h1] at h ⊢
    by_cases h2 : kdis (kof (MK a) k.1 k.2) (preK (W a) (rngN (MK a) k r))
    · rw [if_pos h2] at h ⊢
      injection h with h; injection h with e1 e2
      rw [← e1, ← e2]
    · rw [if_neg h2] at h; exact absurd h (by simp)
theorem stepV_none {a : Int} {k r : Nat × Nat} (h : stepN a k r = none) : (stepV a k r).2 = false := by
  unfold stepN at h
  unfold stepV
  by_cases h1 : (rngN (MK a) k r).2 < (rngN (MK a) k r).1
  · rw [if_pos h1]
  · rw [if_neg h1] at h ⊢
    by_cases h2 : kdis (kof (MK a) k.1 k.2) (preK (W a) (rngN (MK a) k r))
    · rw [if_pos h2] at h; exact absurd h (by simp)
    · rw [if_neg h2]
theorem pr_beq {k k' : Nat × Nat} : (((k.1 : Int) == (k'.1 : Int)) && (((k.2 : Int) == (k'.2 : Int)) && true)) = decide (k = k') := by
  rw [castb, castb, Bool.and_true, ← Bool.decide_and, decide_eq_decide]
  exact ⟨fun h => Prod.ext h.1 h.2, fun h => by rw [h]; exact ⟨rfl, rfl⟩⟩
theorem fI_beq {a : Int} {k r k' r' : Nat × Nat} : ((a == a) && ((((k'.1 : Int) == (k.1 : Int)) && (((k'.2 : Int) == (k.2 : Int)) && true)) && ((((r'.1 : Int) == (r.1 : Int)) && (((r'.2 : Int) == (r.2 : Int)) && true)) && true))) = decide (k' = k ∧ r' = r) := by
  rw [pr_beq, pr_beq, Bool.and_true, beq_self_eq_true, Bool.true_and, Bool.decide_and]
structure Kv (a : Int) (k : Nat × Nat) : Prop where
  l1 : k.1 < U64
  l2 : k.2 < U64
  ok : kok (MK a) k.1 k.2
theorem Kv.zero (a : Int) : Kv a (0, 0) := ⟨by decide, by decide, kok_zero _⟩
theorem Kv.of (a : Int) {k : Nat × Nat} (h1 : k.1 < U64) (h2 : k.2 < U64) : Kv a (kof (MK a) k.1 k.2) := ⟨(kof_lt h1 h2).1, (kof_lt h1 h2).2, kof_kok _ _ _⟩
theorem Kv.kof {a : Int} {k : Nat × Nat} (h : Kv a k) : kof (MK a) k.1 k.2 = k := kof_of h.ok
theorem stepN_eq {a : Int} {k r : Nat × Nat} (hk : Kv a k) : stepN a k r = if (rngN (MK a) k r).2 < (rngN (MK a) k r).1 then none
  else if kdis k (preK (W a) (rngN (MK a) k r)) then some (korN k (preK (W a) (rngN (MK a) k r)), rngN (MK a) k r) else none := by unfold stepN; rw [hk.kof]
theorem stepN_cases {a : Int} {k r k' r' : Nat × Nat} (hk : Kv a k) (h : stepN a k r = some (k', r')) :
    ¬ r'.2 < r'.1 ∧ r' = rngN (MK a) k r ∧ kdis k (preK (W a) r') ∧ k' = korN k (preK (W a) r') ∧ rok (MK a) r' := by
  rw [stepN_eq hk] at h
  by_cases h1 : (rngN (MK a) k r).2 < (rngN (MK a) k r).1
  · rw [if_pos h1] at h; exact absurd h (by simp)
  · rw [if_neg h1] at h
    by_cases h2 : kdis k (preK (W a) (rngN (MK a) k r))
    · rw [if_pos h2] at h
      injection h with h; injection h with e1 e2
      subst e2
      exact ⟨h1, rfl, h2, e1.symm, rngN_ok h1⟩
    · rw [if_neg h2] at h; exact absurd h (by simp)
theorem stepN_kv {a : Int} {k r k' r' : Nat × Nat} (hk : Kv a k) (h : stepN a k r = some (k', r')) : Kv a k' := by
  obtain ⟨_, _, h3, h4, _⟩ := stepN_cases hk h
  have hp := preK_lt (w := W a) (W_le a) r'
  subst h4
  exact ⟨or_lt hk.l1 hp.1, or_lt hk.l2 hp.2, kok_or hk.ok (preK_ok a r') h3⟩
theorem mid_ok {a : Int} {k : Nat × Nat} (hk : Kv a k) : rok (MK a) (midN (MK a) k) := by
  have hle := kok_leA hk.l1 hk.l2 hk.ok
  have := add_disjoint k.1 k.2 hk.ok.1
  have h2 : k.1 ||| k.2 ≤ MK a := (or_le_mask (w := W a)).2 hle
  unfold midN rok; simp only; omega
theorem stepN_again {a : Int} {k r r' : Nat × Nat} (hk : Kv a k) (h : stepN a k r = some (k, r')) : stepN a k r' = some (k, r') := by
  obtain ⟨h1, h2, h3, h4, h5⟩ := stepN_cases hk h
  have hm := mid_ok hk
  have e : rngN (MK a) k r' = r' := by
    unfold rngN
    rw [nrmN_of h5, nrmN_of hm]
    unfold rngN at h2
    rw [nrmN_of hm] at h2
    rw [h2]
    unfold mttN
    simp only
    rw [Nat.max_assoc, Nat.min_assoc, Nat.max_self, Nat.min_self]
  rw [stepN_eq hk, e, if_neg h1, if_pos h3, ← h4]
theorem cnt_mono {f g : Nat → Bool} : ∀ {n : Nat}, (∀ i, i < n → f i = true → g i = true) → cnt f n ≤ cnt g n
  | 0, _ => Nat.le_refl _
  | n + 1, h => by
    have := cnt_mono (n := n) (fun i hi => h i (by omega))
    have h2 := h n (by omega)
    simp only [cnt]
    cases e : f n
    · simp; omega
    · rw [h2 e]; omega
theorem cnt_lt {f g : Nat → Bool} {j : Nat} : ∀ {n : Nat}, (∀ i, i < n → f i = true → g i = true) → j < n → f j = false → g j = true → cnt f n < cnt g n
  | 0, _, hj, _, _ => absurd hj (by omega)
  | n + 1, h, hj, h1, h2 => by
    simp only [cnt]
    by_cases e : j = n
    · subst e
      have := cnt_mono (n := j) (fun i hi => h i (by omega))
      rw [h1, h2]; simp; omega
    · have := cnt_lt (n := n) (fun i hi => h i (by omega)) (by omega) h1 h2
      have h3 := h n (by omega)
      cases e : f n
      · simp; omega
      · rw [h3 e]; omega
def know (k : Nat × Nat) : Nat := ones (k.1 ||| k.2)
theorem know_le (k : Nat × Nat) : know k ≤ 64 := cnt_le _ _
theorem know_lt {k p : Nat × Nat} (hp : p.1 < U64 ∧ p.2 < U64) (hd : kdis k p) (h : korN k p ≠ k) : know k < know (korN k p) := by
  have hm : ∀ i, i < 64 → (k.1 ||| k.2).testBit i = true → ((korN k p).1 ||| (korN k p).2).testBit i = true := fun i _ => by
    unfold korN
    simp only [Nat.testBit_or]
    cases k.1.testBit i <;> cases k.2.testBit i <;> simp
  have hb : ∃ i, (p.1.testBit i = true ∧ k.1.testBit i = false) ∨ (p.2.testBit i = true ∧ k.2.testBit i = false) := by
    refine Classical.byContradiction fun hn => h ?_
    have hn' : ∀ i, ¬ ((p.1.testBit i = true ∧ k.1.testBit i = false) ∨ (p.2.testBit i = true ∧ k.2.testBit i = false)) := fun i q => hn ⟨i, q⟩
    refine Prod.ext (bits_ext fun i => ?_) (bits_ext fun i => ?_)
    · have := hn' i
      show (k.1 ||| p.1).testBit i = k.1.testBit i
      rw [Nat.testBit_or]
      revert this
      cases k.1.testBit i <;> cases p.1.testBit i <;> simp
    · have := hn' i
      show (k.2 ||| p.2).testBit i = k.2.testBit i
      rw [Nat.testBit_or]
      revert this
      cases k.2.testBit i <;> cases p.2.testBit i <;> simp
  obtain ⟨i, hi⟩ := hb
  have hdi := bit_of hd i
  simp only [Nat.testBit_and, Nat.testBit_or, Nat.zero_testBit] at hdi
  have i64 : i < 64 := by
    refine Classical.byContradiction fun hn => ?_
    rcases hi with ⟨hi, _⟩ | ⟨hi, _⟩
    · rw [testBit_ge (lt_pw hp.1) (by omega)] at hi; exact absurd hi (by decide)
    · rw [testBit_ge (lt_pw hp.2) (by omega)] at hi; exact absurd hi (by decide)
  refine cnt_lt hm i64 ?_ ?_
  · rw [Nat.testBit_or]
    rcases hi with ⟨hi, hk⟩ | ⟨hi, hk⟩
    · rw [hi, Bool.or_true, Bool.true_and] at hdi
      rw [hk, Bool.false_or]
      revert hdi
      cases k.2.testBit i <;> simp
    · rw [hi, Bool.or_true, Bool.and_true] at hdi
      rw [hk, Bool.or_false]
      revert hdi
      cases k.1.testBit i <;> simp
  · unfold korN
    simp only [Nat.testBit_or]
    rcases hi with ⟨hi, hk⟩ | ⟨hi, hk⟩ <;> rw [hi] <;> simp
def inN (r : Nat × Nat) (x : Nat) : Prop := r.1 ≤ x ∧ x ≤ r.2
instance (r : Nat × Nat) (x : Nat) : Decidable (inN r x) := inferInstanceAs (Decidable (_ ∧ _))
theorem has_mid {a : Int} {k : Nat × Nat} {x : Nat} (hx : x ≤ MK a) (hk : Kv a k) (h : khas k x) : inN (midN (MK a) k) x := by
  have hle := kok_leA hk.l1 hk.l2 hk.ok
  have e1 := add_disjoint x k.1 h.1
  have e2 : x ||| k.1 ≤ MK a := (or_le_mask (w := W a)).2 ⟨hx, hle.1⟩
  have e3 : x &&& k.2 ≤ x := Nat.and_le_left
  rw [h.2] at e3
  unfold midN inN; simp only; omega
theorem has_or {k p : Nat × Nat} {x : Nat} (h1 : khas k x) (h2 : khas p x) : kdis k p ∧ khas (korN k p) x := by
  have a1 := bit_of h1.1
  have a2 := bit_of h1.2
  have a3 := bit_of h2.1
  have a4 := bit_of h2.2
  refine ⟨bits_ext fun i => ?_, bits_ext fun i => ?_, bits_ext fun i => ?_⟩
  all_goals
    have a1 := a1 i
    have a2 := a2 i
    have a3 := a3 i
    have a4 := a4 i
    simp only [Nat.testBit_and, Nat.zero_testBit] at a1 a2 a3 a4
    try unfold korN
    simp only [Nat.testBit_and, Nat.testBit_or, Nat.zero_testBit]
    revert a1 a2 a3 a4
    cases x.testBit i <;> cases k.1.testBit i <;> cases k.2.testBit i <;> cases p.1.testBit i <;> cases p.2.testBit i <;> decide
theorem stepN_sound {a : Int} {k r : Nat × Nat} {x : Nat} (hx : x ≤ MK a) (hk : Kv a k) (h : khas k x) (hr : inN (nrmN (MK a) r) x) : ∃ k' r', stepN a k r = some (k', r') ∧ khas k' x ∧ inN r' x := by
  have hm := has_mid hx hk h
  have hin : inN (rngN (MK a) k r) x := by
    unfold rngN
    rw [nrmN_of (mid_ok hk)]
    obtain ⟨h1, h2⟩ := hr
    obtain ⟨h3, h4⟩ := hm
    unfold mttN inN; simp only; omega
  have hne : ¬ (rngN (MK a) k r).2 < (rngN (MK a) k r).1 := by obtain ⟨h1, h2⟩ := hin; omega
  have hp := preK_has (rngN_ok hne) hin.1 hin.2
  obtain ⟨d, hh⟩ := has_or h hp
  exact ⟨_, _, by rw [stepN_eq hk, if_neg hne, if_pos d], hh, hin⟩
structure Fv (a : Int) (k r : Nat × Nat) : Prop where
  a1 : 1 ≤ a
  a2 : a ≤ 64
  kv : Kv a k
  rv : rok (MK a) r
  st : stepN a k r = some (k, r)
def fval (a : Int) (k r : Nat × Nat) : Prop := (1 ≤ a ∧ a ≤ 64) ∧ kok (MK a) k.1 k.2 ∧ rok (MK a) r ∧ stepN a k r = some (k, r)
instance (a : Int) (k r : Nat × Nat) : Decidable (fval a k r) := inferInstanceAs (Decidable (_ ∧ _))
theorem Fv.val {a : Int} {k r : Nat × Nat} (h : Fv a k r) : fval a k r := ⟨⟨h.a1, h.a2⟩, h.kv.ok, h.rv, h.st⟩
theorem fval.fv {a : Int} {k r : Nat × Nat} (h : fval a k r) (h1 : k.1 < U64) (h2 : k.2 < U64) : Fv a k r := ⟨h.1.1, h.1.2, ⟨h1, h2, h.2.1⟩, h.2.2.1, h.2.2.2⟩
theorem ok_tail {a : Int} {k r : Nat × Nat} : (bif (stepV a k r).2 then some (((stepV a k r).1.1 == a) && ((((stepV a k r).1.2.1 == (k.1 : Int)) && (((stepV a k r).1.2.2.1 == (k.2 : Int)) && true)) && ((((stepV a k r).1.2.2.2.1 == (r.1 : Int)) && (((stepV a k r).1.2.2.2.2 == (r.2 : Int)) && true)) && true))) else some false) = some (decide (stepN a k r = some (k, r))) := by
  cases h : stepN a k r with
  | none => rw [stepV_none h]; rfl
  | some q =>
    obtain ⟨k', r'⟩ := q
    rw [stepV_some h]
    simp only [cond_true]
    rw [fI_beq]
    congr 1
    rw [decide_eq_decide]
    exact ⟨fun h => by rw [h.1, h.2], fun h => by injection h with h; injection h with h1 h2; exact ⟨h1, h2⟩⟩
theorem rok_cast {a : Int} {r : Nat × Nat} : (((r.1 : Int) ≤ (r.2 : Int)) ∧ (r.2 : Int) ≤ MM a) ↔ rok (MK a) r := by
  unfold rok
  rw [show MM a = ((MK a : Nat) : Int) from rfl, Int.ofNat_le, Int.ofNat_le]
theorem facts_Valid_eq (a : Int) {k r : Nat × Nat} (hz : k.1 < U64) (ho : k.2 < U64) : facts_Valid.f (fI a k r) = some (decide (fval a k r)) := by
  unfold facts_Valid.f facts_clamp.f
  simp only [Option.bind_some]
  have hc : mx 1 (mn a 64) = (W a : Int) := by unfold W mn mx; repeat' split <;> omega
  rw [hc]
  by_cases h1 : 1 ≤ a ∧ a ≤ 64
  · rw [W_of' h1.1 h1.2, bne_self_eq_false, cond_false, known_Valid_eq a hz ho, Option.bind_some, ranges_Valid_eq, Option.bind_some]
    simp only [rok_cast]
    by_cases h2 : kok (MK a) k.1 k.2
    · rw [decide_eq_true h2]
      simp only [Bool.not_true, cond_false]
      by_cases h3 : rok (MK a) r
      · rw [decide_eq_true h3]
        simp only [Bool.not_true, cond_false]
        have hs := facts_step_eq h1.1 h1.2 (r := r) hz ho h2
        rw [hs, Option.bind_some, ok_tail]
        congr 1; rw [decide_eq_decide]
        exact ⟨fun h => ⟨h1, h2, h3, h⟩, fun h => h.2.2.2⟩
      · rw [decide_eq_false h3, decide_eq_false (fun q : fval a k r => h3 q.2.2.1)]; rfl
    · rw [decide_eq_false h2, decide_eq_false (fun q : fval a k r => h2 q.2.1)]; rfl
  · have hne : (a != (W a : Int)) = true := by
      have := W_pos a
      have := W_le a
      rw [bne_iff_ne]; omega
    rw [hne, cond_true, decide_eq_false (fun q : fval a k r => h1 q.1)]
theorem saturateref14_Valid_eq (a : Int) {k r : Nat × Nat} (hz : k.1 < U64) (ho : k.2 < U64) : saturateref14_Valid.f (fI a k r) = some (decide (fval a k r)) := by
  unfold saturateref14_Valid.f
  simp only
  by_cases h0 : a < 1
  · rw [bifd_pos h0, decide_eq_false (fun q : fval a k r => absurd q.1.1 (by omega))]
  · rw [bifd_neg h0]
    by_cases h0' : a > 64
    · rw [bifd_pos h0', decide_eq_false (fun q : fval a k r => absurd q.1.2 (by omega))]
    · have h1 : 1 ≤ a ∧ a ≤ 64 := by omega
      rw [bifd_neg h0', saturateref12_Valid_eq a hz ho, Option.bind_some, saturateref13_Valid_eq, Option.bind_some]
      simp only [rok_cast]
      by_cases h2 : kok (MK a) k.1 k.2
      · rw [decide_eq_true h2]
        simp only [Bool.not_true, cond_false]
        by_cases h3 : rok (MK a) r
        · rw [decide_eq_true h3]
          simp only [Bool.not_true, cond_false]
          have hs := saturateref14_step_eq h1.1 h1.2 (r := r) hz ho h2
          rw [hs, Option.bind_some, ok_tail]
          congr 1; rw [decide_eq_decide]
          exact ⟨fun h => ⟨h1, h2, h3, h⟩, fun h => h.2.2.2⟩
        · rw [decide_eq_false h3, decide_eq_false (fun q : fval a k r => h3 q.2.2.1)]; rfl
      · rw [decide_eq_false h2, decide_eq_false (fun q : fval a k r => h2 q.2.1)]; rfl
theorem W_W (a : Int) : W (W a : Int) = W a := W_of (W_pos a) (W_le a)
theorem MK_W (a : Int) : MK (W a : Int) = MK a := by show vmask (W (W a : Int)) = vmask (W a); rw [W_W]
theorem facts_Top_eq (a : Int) : facts_Top.f a = some (fI (W a : Int) (0, 0) (0, MK a)) := by
  unfold facts_Top.f facts_clamp.f known_Top.f
  simp only [Option.bind_some]
  have hc : mx 1 (mn a 64) = (W a : Int) := by unfold W mn mx; repeat' split <;> omega
  rw [hc, ranges_Top_eq, Option.bind_some, show MM (W a : Int) = ((MK (W a : Int) : Nat) : Int) from rfl, MK_W]; rfl
theorem saturateref14_Top_eq (a : Int) : saturateref14_Top.f a = some (fI (W a : Int) (0, 0) (0, MK a)) := by
  unfold saturateref14_Top.f saturateref12_Top.f
  simp only [Option.bind_some]
  rw [saturateref01_W_eq, Option.bind_some, saturateref13_Top_eq, Option.bind_some]; rfl
abbrev F3 := Int × (Nat × Nat) × (Nat × Nat)
abbrev fE (f : F3) : FT := fI f.1 f.2.1 f.2.2
def topN (a : Int) : F3 := ((W a : Int), (0, 0), (0, MK a))
def ofN (a : Int) (k r : Nat × Nat) : F3 := if fval a k r then (a, k, r) else topN a
theorem preK_top {w : Nat} (h : 1 ≤ w) : preK w (0, vmask w) = (0, 0) := by
  obtain ⟨n, rfl⟩ : ∃ n, w = n + 1 := ⟨w - 1, by omega⟩
  unfold preK preS
  rw [if_neg (by simp only; rw [Nat.zero_testBit, testBit_mask, decide_eq_true (Nat.lt_succ_self n)]; decide)]
theorem Fv.top (a : Int) : Fv (W a : Int) (0, 0) (0, MK a) := by
  have w1 := W_pos a
  have w2 := W_le a
  have hr : rok (MK a) (0, MK a) := ⟨Nat.zero_le _, Nat.le_refl _⟩
  have e : rngN (MK a) (0, 0) (0, MK a) = (0, MK a) := by
    unfold rngN
    rw [show midN (MK a) (0, 0) = (0, MK a) from rfl, nrmN_of hr]
    unfold mttN; simp
  refine ⟨by omega, by omega, Kv.zero _, by rw [MK_W]; exact hr, ?_⟩
  rw [stepN_eq (Kv.zero _), MK_W, e, if_neg (by simp only; omega), W_W, preK_top w1, if_pos (by decide)]
  rfl
theorem facts_of_eq (a : Int) {k r : Nat × Nat} (hz : k.1 < U64) (ho : k.2 < U64) : facts_of.f (fI a k r) = some (fE (ofN a k r)) := by
  unfold facts_of.f ofN
  have h := facts_Valid_eq a (k := k) (r := r) hz ho
  simp only
  rw [h, Option.bind_some, facts_Top_eq, Option.bind_some]
  by_cases c : fval a k r
  · rw [bifd_pos c, if_pos c]
  · rw [bifd_neg c, if_neg c]; rfl
theorem saturateref14_Norm_eq (a : Int) {k r : Nat × Nat} (hz : k.1 < U64) (ho : k.2 < U64) : saturateref14_Norm.f (fI a k r) = some (fE (ofN a k r)) := by
  unfold saturateref14_Norm.f ofN
  have h := saturateref14_Valid_eq a (k := k) (r := r) hz ho
  simp only
  rw [h, Option.bind_some, saturateref14_Top_eq, Option.bind_some]
  by_cases c : fval a k r
  · rw [bifd_pos c, if_pos c]
  · rw [bifd_neg c, if_neg c]; rfl
theorem ofN_fv (a : Int) {k r : Nat × Nat} (hz : k.1 < U64) (ho : k.2 < U64) : Fv (ofN a k r).1 (ofN a k r).2.1 (ofN a k r).2.2 := by
  unfold ofN
  by_cases c : fval a k r
  · rw [if_pos c]; exact c.fv hz ho
  · rw [if_neg c]; exact Fv.top a
def redR (a : Int) : Option ((Nat × Nat) × (Nat × Nat)) → FT × Bool
  | none => (fI a (0, 0) (0, MK a), false)
  | some (k, r) => (fI a k r, true)
def RedP (a : Int) (k r : Nat × Nat) : Option ((Nat × Nat) × (Nat × Nat)) → Prop
  | none => ∀ x, x ≤ MK a → khas k x → inN (nrmN (MK a) r) x → False
  | some (k', r') => Fv a k' r' ∧ ∀ x, x ≤ MK a → khas k x → inN (nrmN (MK a) r) x → khas k' x ∧ inN r' x
def Run (a : Int) (L : Nat → Nat → Nat × Nat → Nat × Nat → Option (FT × Bool)) : Prop := ∀ (n i : Nat) (k r : Nat × Nat), Kv a k → i ≤ 200 → L (n + 1) i k r =
  match stepN a k r with | none => some (redR a none) | some (k', r') => bif decide (k' = k ∧ r' = r) then some (redR a (some (k, r))) else L n (i + 1) k' r'
def RedQ (a : Int) (d : Nat) (k r : Nat × Nat) (q : Option ((Nat × Nat) × (Nat × Nat))) : Prop := RedP a k r q ∧ (stepN a k r = some (k, r) → q = some (k, r)) ∧
  ∀ L, Run a L → ∀ n i, d + 2 < n → i + d + 2 ≤ 200 → L n i k r = some (redR a q)
theorem red_ex {a : Int} (h1 : 1 ≤ a) (h2 : a ≤ 64) : ∀ (d : Nat) (k r : Nat × Nat), Kv a k → 64 ≤ know k + d → ∃ q, RedQ a d k r q := by
  intro d
  have none_case : ∀ (d : Nat) (k r : Nat × Nat), Kv a k → stepN a k r = none → RedQ a d k r none := fun d k r hk h => by
    refine ⟨fun x hx hh hin => ?_, fun e => absurd (h.symm.trans e) (by simp), fun L hL n i hn hi => ?_⟩
    · obtain ⟨_, _, e, _⟩ := stepN_sound hx hk hh hin; rw [h] at e; exact absurd e (by simp)
    · obtain ⟨n, rfl⟩ : ∃ m, n = m + 1 := ⟨n - 1, by omega⟩; rw [hL n i k r hk (by omega), h]
  have last_case : ∀ (d : Nat) (k r r' : Nat × Nat), Kv a k → stepN a k r = some (k, r') → RedQ a d k r (some (k, r')) := fun d k r r' hk h => by
    obtain ⟨c1, c2, c3, c4, c5⟩ := stepN_cases hk h
    have hag := stepN_again hk h
    refine ⟨⟨⟨h1, h2, hk, c5, hag⟩, fun x hx hh hin => ?_⟩, fun e => h.symm.trans e, fun L hL n i hn hi => ?_⟩
    · obtain ⟨_, _, e, e1, e2⟩ := stepN_sound hx hk hh hin
      have q := Prod.mk.inj (Option.some.inj (h.symm.trans e)); rw [q.1, q.2]; exact ⟨e1, e2⟩
    · obtain ⟨n, rfl⟩ : ∃ m, n = m + 2 := ⟨n - 2, by omega⟩
      rw [hL (n + 1) i k r hk (by omega), h]
      dsimp only
      by_cases e : r' = r
      · subst e; rw [bifd_pos ⟨rfl, rfl⟩]
      · rw [bifd_neg (fun q => e q.2), hL n (i + 1) k r' hk (by omega), hag]; dsimp only; rw [bifd_pos ⟨rfl, rfl⟩]
  induction d with
  | zero =>
    intro k r hk hd
    cases h : stepN a k r with
    | none => exact ⟨none, none_case 0 k r hk h⟩
    | some q =>
      obtain ⟨k', r'⟩ := q
      obtain ⟨c1, c2, c3, c4, c5⟩ := stepN_cases hk h
      have he : k' = k := by
        refine Classical.byContradiction fun hn => ?_
        rw [c4] at hn
        have := know_lt (preK_lt (W_le a) r') c3 hn
        have := know_le (korN k (preK (W a) r'))
        omega
      subst he
      exact ⟨_, last_case 0 k' r r' hk h⟩
  | succ d ih =>
    intro k r hk hd
    cases h : stepN a k r with
    | none => exact ⟨none, none_case _ k r hk h⟩
    | some q =>
      obtain ⟨k', r'⟩ := q
      have hk' := stepN_kv hk h
      obtain ⟨c1, c2, c3, c4, c5⟩ := stepN_cases hk h
      by_cases he : k' = k
      · subst he
        exact ⟨_, last_case _ k' r r' hk h⟩
      · have hgt : know k < know k' := by
          rw [c4]; rw [c4] at he; exact know_lt (preK_lt (W_le a) r') c3 he
        obtain ⟨q, p1, p2, p3⟩ := ih k' r' hk' (by omega)
        have key : ∀ x, x ≤ MK a → khas k x → inN (nrmN (MK a) r) x → khas k' x ∧ inN (nrmN (MK a) r') x := fun x hx hh hin => by
          obtain ⟨_, _, e, e1, e2⟩ := stepN_sound hx hk hh hin
          have q := Prod.mk.inj (Option.some.inj (h.symm.trans e))
          rw [nrmN_of c5, q.1, q.2]; exact ⟨e1, e2⟩
        refine ⟨q, ?_, fun e => ?_, fun L hL n i hn hi => ?_⟩
        · cases q with
          | none => exact fun x hx hh hin => p1 x hx (key x hx hh hin).1 (key x hx hh hin).2
          | some q => exact ⟨p1.1, fun x hx hh hin => p1.2 x hx (key x hx hh hin).1 (key x hx hh hin).2⟩
        · have e := Prod.mk.inj (Option.some.inj (h.symm.trans e)); exact absurd e.1 he
        · obtain ⟨n, rfl⟩ : ∃ m, n = m + 1 := ⟨n - 1, by omega⟩
          rw [hL n i k r hk (by omega), h]
          dsimp only
          rw [bifd_neg (fun q => he q.1)]
          exact p3 L hL n (i + 1) (by omega) (by omega)
noncomputable def redQ (a : Int) (k r : Nat × Nat) : Option ((Nat × Nat) × (Nat × Nat)) :=
  open Classical in if h : ∃ q, RedQ a 64 k r q then Classical.choose h else none
theorem redQ_spec {a : Int} (h1 : 1 ≤ a) (h2 : a ≤ 64) {k : Nat × Nat} (r : Nat × Nat) (hk : Kv a k) : RedQ a 64 k r (redQ a k r) := by
  have h := red_ex h1 h2 64 k r hk (by omega)
  unfold redQ
  rw [dif_pos h]
  exact Classical.choose_spec h
theorem run_prog {a : Int} (h1 : 1 ≤ a) (h2 : a ≤ 64) (fu : Nat) : Run a fun n i k r => facts_Reduce.j7 fu n a a k.1 k.2 r.1 r.2 0 0 0 0 0 := by
  have htop : facts_Top.f a = some (fI a (0, 0) (0, MK a)) := by rw [facts_Top_eq, W_of' h1 h2]
  intro n i k r hk hi
  have hs := facts_step_eq h1 h2 (r := r) hk.l1 hk.l2 hk.ok
  dsimp only
  rw [facts_Reduce.j7_succ, hs, Option.bind_some]
  cases h : stepN a k r with
  | none => rw [stepV_none h]; simp only [Bool.not_false, cond_true]; rw [htop]; rfl
  | some q =>
    obtain ⟨k', r'⟩ := q
    rw [stepV_some h]
    simp only [Bool.not_true, cond_false]
    rw [fI_beq]; rfl
theorem run_ref {a : Int} (h1 : 1 ≤ a) (h2 : a ≤ 64) (fu : Nat) : Run a fun n i k r => saturateref14_Reduce.j4 fu n a (i : Int) a k.1 k.2 r.1 r.2 0 0 0 0 0 := by
  have htop' : saturateref14_Top.f a = some (fI a (0, 0) (0, MK a)) := by rw [saturateref14_Top_eq, W_of' h1 h2]
  intro n i k r hk hi
  have hs := saturateref14_step_eq h1 h2 (r := r) hk.l1 hk.l2 hk.ok
  dsimp only
  rw [saturateref14_Reduce.j4_succ, bifd_pos (by omega), hs, Option.bind_some, wrapi, wrapi_succ (by omega)]
  cases h : stepN a k r with
  | none => rw [stepV_none h]; simp only [Bool.not_false, cond_true]; rw [htop']; rfl
  | some q =>
    obtain ⟨k', r'⟩ := q
    rw [stepV_some h]
    simp only [Bool.not_true, cond_false]
    rw [fI_beq]; rfl
theorem reduce_prog (a : Int) {k r : Nat × Nat} (hz : k.1 < U64) (ho : k.2 < U64) {res : Option (FT × Bool)}
    (p : ∀ (n fu : Nat), 66 < n → facts_Reduce.j7 fu n (W a : Int) (W a : Int) ((kof (MK a) k.1 k.2).1 : Int) ((kof (MK a) k.1 k.2).2 : Int) ((nrmN (MK a) r).1 : Int) ((nrmN (MK a) r).2 : Int) 0 0 0 0 0 = res) : facts_Reduce.f (fI a k r) = res := by
  unfold facts_Reduce.f
  have hf : 100 < fuel0 := by unfold fuel0; omega
  generalize fuel0 = m at hf
  unfold facts_Reduce.g facts_clamp.f known_Top.f
  simp only [Option.bind_some]
  have hc : mx 1 (mn a 64) = (W a : Int) := by unfold W mn mx; repeat' split <;> omega
  rw [hc, known_Valid_eq (W a : Int) hz ho, Option.bind_some, MK_W]
  have hp6 : ∀ z o : Int, z = ((kof (MK a) k.1 k.2).1 : Int) → o = ((kof (MK a) k.1 k.2).2 : Int) → facts_Reduce.p4 (m + 1) (m + 1) (W a : Int) a z o (r.1 : Int) (r.2 : Int) = res := by
    intro z o e0 e1
    subst e0 e1
    rw [facts_Reduce.p4_eq, ranges_Valid_eq, Option.bind_some]
    simp only [rok_cast]
    rw [MK_W, ranges_Top_eq, Option.bind_some, show MM (W a : Int) = ((MK (W a : Int) : Nat) : Int) from rfl, MK_W, facts_Reduce.p6_eq, facts_Reduce.p6_eq]
    have := p (m + 1) (m + 1) (by omega)
    by_cases h3 : rok (MK a) r
    · rw [decide_eq_true h3]
      rw [Bool.not_true, cond_false]
      rw [nrmN_of h3] at this
      exact this
    · rw [decide_eq_false h3]
      rw [Bool.not_false, cond_true]
      rw [show nrmN (MK a) r = (0, MK a) from if_neg h3] at this
      exact this
  by_cases h : kok (MK a) k.1 k.2
  · rw [decide_eq_true h]
    rw [Bool.not_true, cond_false]
    exact hp6 _ _ (by rw [kof_of h]) (by rw [kof_of h])
  · rw [decide_eq_false h]
    rw [Bool.not_false, cond_true]
    exact hp6 _ _ (by rw [show kof (MK a) k.1 k.2 = (0, 0) from if_neg h]; rfl) (by rw [show kof (MK a) k.1 k.2 = (0, 0) from if_neg h]; rfl)
theorem reduce_ref (a : Int) {k r : Nat × Nat} (hz : k.1 < U64) (ho : k.2 < U64) {res : Option (FT × Bool)}
    (p : ∀ (n fu : Nat), 66 < n → saturateref14_Reduce.j4 fu n (W a : Int) 0 (W a : Int) ((kof (MK a) k.1 k.2).1 : Int) ((kof (MK a) k.1 k.2).2 : Int) ((nrmN (MK a) r).1 : Int) ((nrmN (MK a) r).2 : Int) 0 0 0 0 0 = res) : saturateref14_Reduce.f (fI a k r) = res := by
  unfold saturateref14_Reduce.f
  have hf : 100 < fuel0 := by unfold fuel0; omega
  generalize fuel0 = m at hf
  unfold saturateref14_Reduce.g
  simp only
  rw [saturateref01_W_eq, Option.bind_some, saturateref12_Of_eq (W a : Int) hz ho, Option.bind_some, saturateref13_Of_eq, Option.bind_some, MK_W, nrm_cp, MK_W]
  exact p (m + 1) (m + 1) (by omega)
noncomputable def redS (a : Int) (k r : Nat × Nat) : Option ((Nat × Nat) × (Nat × Nat)) := redQ (W a : Int) (kof (MK a) k.1 k.2) (nrmN (MK a) r)
theorem redS_spec (a : Int) {k : Nat × Nat} (r : Nat × Nat) (hz : k.1 < U64) (ho : k.2 < U64) : RedQ (W a : Int) 64 (kof (MK a) k.1 k.2) (nrmN (MK a) r) (redS a k r) := by
  have w1 := W_pos a
  have w2 := W_le a
  have hk : Kv (W a : Int) (kof (MK a) k.1 k.2) := by have := Kv.of (W a : Int) hz ho; rw [MK_W] at this; exact this
  exact redQ_spec (by omega) (by omega) _ hk
theorem facts_Reduce_eq (a : Int) {k r : Nat × Nat} (hz : k.1 < U64) (ho : k.2 < U64) : facts_Reduce.f (fI a k r) = some (redR (W a : Int) (redS a k r)) := by
  have w1 := W_pos a
  have w2 := W_le a
  exact reduce_prog a hz ho fun n fu hn => (redS_spec a r hz ho).2.2 _ (run_prog (by omega) (by omega) fu) n 0 hn (by omega)
theorem saturateref14_Reduce_eq (a : Int) {k r : Nat × Nat} (hz : k.1 < U64) (ho : k.2 < U64) : saturateref14_Reduce.f (fI a k r) = some (redR (W a : Int) (redS a k r)) := by
  have w1 := W_pos a
  have w2 := W_le a
  exact reduce_ref a hz ho fun n fu hn => (redS_spec a r hz ho).2.2 _ (run_ref (by omega) (by omega) fu) n 0 hn (by omega)
def redF (a : Int) : Option ((Nat × Nat) × (Nat × Nat)) → F3
  | none => (a, (0, 0), (0, MK a))
  | some (k, r) => (a, k, r)
theorem redR_eq (a : Int) (q : Option ((Nat × Nat) × (Nat × Nat))) : redR a q = (fE (redF a q), q.isSome) := by
  cases q with
  | none => rfl
  | some q => rfl
theorem redF_fv {a : Int} (h1 : 1 ≤ a) (h2 : a ≤ 64) {k r : Nat × Nat} {q : Option ((Nat × Nat) × (Nat × Nat))} (h : RedP a k r q) : Fv (redF a q).1 (redF a q).2.1 (redF a q).2.2 := by
  cases q with
  | none => have := Fv.top a; rw [W_of' h1 h2] at this; exact this
  | some q => exact h.1
end Go.Proofs.YtcihbcffokjgjaaGreat.Fn
