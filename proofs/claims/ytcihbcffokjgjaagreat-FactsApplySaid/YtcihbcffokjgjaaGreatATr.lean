/- What the functions of the ranges return, in plain words, and that the program's and the reference's are the same. -/
import Derived.Test.YtcihbcffokjgjaaGreatAF1
import Derived.Test.YtcihbcffokjgjaaGreatAF10
import Derived.Test.YtcihbcffokjgjaaGreatAF11
import Derived.Test.YtcihbcffokjgjaaGreatAF3
import Derived.Test.YtcihbcffokjgjaaGreatAF5
import Derived.Test.YtcihbcffokjgjaaGreatAF6
import Derived.Test.YtcihbcffokjgjaaGreatAF7
import Derived.Test.YtcihbcffokjgjaaGreatAF8
import Derived.Test.YtcihbcffokjgjaaGreatATb
namespace Go.Proofs.YtcihbcffokjgjaaGreat.Fn
open Go Go.RowKit Go.Proofs.YtcihbcffokjgjaaGreat.Ev Go.Proofs.YtcihbcffokjgjaaGreat.Bv
set_option linter.unusedVariables false
set_option linter.unusedSimpArgs false

/-! ### the least and the greatest -/
theorem mn_c (a b : Int) : mn a b = a ∨ mn a b = b := by unfold mn; split <;> omega
theorem mx_c (a b : Int) : mx a b = a ∨ mx a b = b := by unfold mx; split <;> omega

/-- The greatest value of a width. -/
def MM (a : Int) : Int := (vmask (W a) : Int)
theorem MM_nn (a : Int) : 0 ≤ MM a := Int.natCast_nonneg _
/-- A range, or all values if it is none. -/
def nrm (M : Int) (r : Int × Int) : Int × Int := if r.1 ≤ r.2 ∧ r.2 ≤ M then r else (0, M)
theorem nrm_of {M : Int} {r : Int × Int} (h1 : r.1 ≤ r.2) (h2 : r.2 ≤ M) : nrm M r = r := if_pos ⟨h1, h2⟩
theorem nrm_ok {M : Int} (hM : 0 ≤ M) {r : Int × Int} (h : 0 ≤ r.1) : 0 ≤ (nrm M r).1 ∧ (nrm M r).1 ≤ (nrm M r).2 ∧ (nrm M r).2 ≤ M := by
  unfold nrm; split
  · rename_i hc; exact ⟨h, hc⟩
  · exact ⟨Int.le_refl _, hM, Int.le_refl _⟩

theorem ranges_Valid_eq (a : Int) (r : Int × Int) : ranges_Valid.f a r = some (decide (r.1 ≤ r.2 ∧ r.2 ≤ MM a)) := by
  unfold ranges_Valid.f; rw [bits_Mask_eq]; simp only [Option.bind_some]
  by_cases h : r.1 ≤ r.2 <;> simp [h, MM]
theorem saturateref13_Valid_eq (a : Int) (r : Int × Int) : saturateref13_Valid.f a r = some (decide (r.1 ≤ r.2 ∧ r.2 ≤ MM a)) := by
  unfold saturateref13_Valid.f; rw [saturateref01_Mask_eq]; simp only [Option.bind_some]
  by_cases h : r.1 ≤ r.2 <;> simp [h, MM]
theorem ranges_Top_eq (a : Int) : ranges_Top.f a = some (0, MM a) := by unfold ranges_Top.f; rw [bits_Mask_eq]; rfl
theorem saturateref13_Top_eq (a : Int) : saturateref13_Top.f a = some (0, MM a) := by unfold saturateref13_Top.f; rw [saturateref01_Mask_eq]; rfl
theorem ranges_norm_eq (a : Int) (r : Int × Int) : ranges_norm.f a r = some (nrm (MM a) r) := by
  unfold ranges_norm.f; rw [ranges_Valid_eq, ranges_Top_eq]; simp only [Option.bind_some]
  unfold nrm
  by_cases h : r.1 ≤ r.2 ∧ r.2 ≤ MM a
  · simp [h]
  · rw [if_neg h]; simp [h]
theorem saturateref13_Of_eq (a : Int) (r : Int × Int) : saturateref13_Of.f a r = some (nrm (MM a) r) := by
  unfold saturateref13_Of.f; rw [saturateref13_Valid_eq, saturateref13_Top_eq]; simp only [Option.bind_some]
  unfold nrm
  by_cases h : r.1 ≤ r.2 ∧ r.2 ≤ MM a
  · simp [h]
  · rw [if_neg h]; simp [h]
theorem ranges_Const_eq (a : Int) {x : Nat} (hx : x < 18446744073709551616) : ranges_Const.f a x = some ((vcut (W a) x : Int), (vcut (W a) x : Int)) := by unfold ranges_Const.f; rw [bits_Cut_eq a hx]; rfl
theorem saturateref13_Const_eq (a : Int) {x : Nat} (hx : x < 18446744073709551616) : saturateref13_Const.f a x = some ((vcut (W a) x : Int), (vcut (W a) x : Int)) := by unfold saturateref13_Const.f; rw [saturateref01_Cut_eq a hx]; rfl
def jn (x y : Int × Int) : Int × Int := (mn x.1 y.1, mx x.2 y.2)
def mtt (x y : Int × Int) : Int × Int := (mx x.1 y.1, mn x.2 y.2)
theorem ranges_Join_eq (a : Int) (r s : Int × Int) : ranges_Join.f a r s = some (jn (nrm (MM a) r) (nrm (MM a) s)) := by
  unfold ranges_Join.f; rw [ranges_norm_eq, ranges_norm_eq]; rfl
theorem saturateref13_Join_eq (a : Int) (r s : Int × Int) : saturateref13_Join.f a r s = some (jn (nrm (MM a) r) (nrm (MM a) s)) := by
  unfold saturateref13_Join.f; rw [saturateref13_Of_eq, saturateref13_Of_eq]; rfl
theorem ranges_Meet_eq (a : Int) (r s : Int × Int) : ranges_Meet.f a r s = some (if (mtt (nrm (MM a) r) (nrm (MM a) s)).1 > (mtt (nrm (MM a) r) (nrm (MM a) s)).2 then ((0, MM a), false) else (mtt (nrm (MM a) r) (nrm (MM a) s), true)) := by
  unfold ranges_Meet.f; rw [ranges_norm_eq, ranges_norm_eq, ranges_Top_eq]; simp only [Option.bind_some]
  unfold mtt
  by_cases h : mx (nrm (MM a) r).1 (nrm (MM a) s).1 > mn (nrm (MM a) r).2 (nrm (MM a) s).2
  · rw [bifd_pos h, if_pos h]
  · rw [bifd_neg h, if_neg h]
theorem saturateref13_Meet_eq (a : Int) (r s : Int × Int) : saturateref13_Meet.f a r s = some (if (mtt (nrm (MM a) r) (nrm (MM a) s)).1 > (mtt (nrm (MM a) r) (nrm (MM a) s)).2 then ((0, MM a), false) else (mtt (nrm (MM a) r) (nrm (MM a) s), true)) := by
  unfold saturateref13_Meet.f; rw [saturateref13_Of_eq, saturateref13_Of_eq, saturateref13_Top_eq]; simp only [Option.bind_some]
  unfold mtt
  by_cases h : mx (nrm (MM a) r).1 (nrm (MM a) s).1 > mn (nrm (MM a) r).2 (nrm (MM a) s).2
  · rw [bifd_pos h, if_pos h]
  · rw [bifd_neg h, if_neg h]

/-! ### the length of a number -/
def IsLen (x n : Nat) : Prop := x < 2 ^ n ∧ (n = 0 ∨ 2 ^ (n - 1) ≤ x)
def len8 (v : Nat) : Nat := if v = 0 then 0 else v.log2 + 1
theorem isLen_len8 (v : Nat) : IsLen v (len8 v) := by
  unfold len8 IsLen
  split
  · rename_i h; subst h; exact ⟨by decide, .inl rfl⟩
  · rename_i h; exact ⟨Nat.lt_log2_self, .inr (by rw [Nat.add_sub_cancel]; exact Nat.log2_self_le h)⟩
theorem IsLen.shift {x n k : Nat} (h : IsLen (x >>> k) n) (hx : 2 ^ k ≤ x) : IsLen x (n + k) := by
  rw [Nat.shiftRight_eq_div_pow] at h
  obtain ⟨h1, h2⟩ := h
  have hp := Nat.two_pow_pos k
  have hq : 1 ≤ x / 2 ^ k := (Nat.one_le_div_iff hp).2 hx
  refine ⟨?_, .inr ?_⟩
  · rw [Nat.pow_add]; exact (Nat.div_lt_iff_lt_mul hp).1 h1
  · rcases h2 with rfl | h2
    · simp at h1; omega
    · have hn : n ≠ 0 := fun e => by subst e; simp at h1; omega
      rw [show n + k - 1 = (n - 1) + k by omega, Nat.pow_add]
      exact (Nat.le_div_iff_mul_le hp).1 h2
theorem p10_all : ∀ v : Fin 256, bits_Len64.p10 1 0 ((v.val : Nat) : Int) 0 = some ((len8 v.val : Nat) : Int) := by decide +kernel
theorem len_tail (c : Bool) (t : Option UInt8) (n : Int) (r : Int) (h : (bif c then t.bind (fun u => some (IntKind.i64.wrap (0 + IntKind.i64.wrap (u.toNat : Int)))) else none) = some r) :
    (bif c then t.bind (fun u => some (IntKind.i64.wrap (n + IntKind.i64.wrap (u.toNat : Int)))) else none) = some (IntKind.i64.wrap (n + r)) := by
  cases c with
  | false => cases h
  | true =>
    cases t with
    | none => cases h
    | some u =>
      simp only [cond_true, Option.bind_some, Option.some.injEq] at h ⊢
      rw [← h]
      have h1 : u.toNat < 256 := u.toNat_lt
      have h2 : IntKind.i64.wrap (u.toNat : Int) = (u.toNat : Int) := by rw [wrapi, wrapi_of (by omega) (by omega)]
      rw [h2, Int.zero_add, h2]
theorem p10_eq {v : Nat} (hv : v < 256) (m fu : Nat) (n : Int) : bits_Len64.p10 (m + 1) fu (v : Int) n = some (IntKind.i64.wrap (n + (len8 v : Int))) := by
  have h := p10_all ⟨v, hv⟩
  simp only at h
  rw [bits_Len64.p10_eq 0 0] at h
  rw [bits_Len64.p10_eq]
  exact len_tail _ _ n _ h
theorem wrap_small {n : Int} (h1 : 0 ≤ n) (h2 : n < 1000) : IntKind.i64.wrap n = n := by rw [wrapi, wrapi_of (by omega) (by omega)]
theorem len8_le {v : Nat} (hv : v < 256) : len8 v ≤ 8 := by
  unfold len8; split
  · omega
  · rename_i h
    have := Nat.log2_self_le h
    rcases Nat.lt_or_ge v.log2 8 with h8 | h8
    · omega
    · have := Nat.pow_le_pow_right (n := 2) (by decide) h8
      have : (2 : Nat) ^ 8 = 256 := rfl
      omega
theorem p7_len {v : Nat} (hv : v < 65536) (m k n : Nat) (hn : n ≤ 56) : ∃ l, bits_Len64.p7 (m + 1) (k + 1) (v : Int) (n : Int) = some ((n + l : Nat) : Int) ∧ IsLen v l ∧ l ≤ 16 := by
  rw [bits_Len64.p7_eq]
  by_cases h : 256 ≤ v
  · have hs : v >>> 8 < 256 := by rw [Nat.shiftRight_eq_div_pow]; omega
    have h8 := len8_le hs
    rw [bifd_pos (by omega), show (8 : Int) = ((8 : Nat) : Int) from rfl, shr64 (by omega), wrap_small (by omega) (by omega), p10_eq hs, wrap_small (by omega) (by omega)]
    exact ⟨len8 (v >>> 8) + 8, by congr 1; omega, (isLen_len8 _).shift (k := 8) h, by omega⟩
  · have h8 := len8_le (show v < 256 by omega)
    rw [bifd_neg (by omega), p10_eq (by omega), wrap_small (by omega) (by omega)]
    exact ⟨len8 v, by congr 1, isLen_len8 v, by omega⟩
theorem p4_len {v : Nat} (hv : v < 4294967296) (m k n : Nat) (hn : n ≤ 32) : ∃ l, bits_Len64.p4 (m + 1) (k + 1) (v : Int) (n : Int) = some ((n + l : Nat) : Int) ∧ IsLen v l ∧ l ≤ 32 := by
  rw [bits_Len64.p4_eq]
  by_cases h : 65536 ≤ v
  · have hs : v >>> 16 < 65536 := by rw [Nat.shiftRight_eq_div_pow]; omega
    rw [bifd_pos (by omega), show (16 : Int) = ((16 : Nat) : Int) from rfl, shr64 (by omega), wrap_small (by omega) (by omega)]
    obtain ⟨l, h1, h2, h3⟩ := p7_len hs k k (n + 16) (by omega)
    refine ⟨l + 16, ?_, h2.shift (k := 16) h, by omega⟩
    rw [show ((n : Int) + ((16 : Nat) : Int)) = ((n + 16 : Nat) : Int) by omega, h1]
    congr 1; omega
  · rw [bifd_neg (by omega)]
    obtain ⟨l, h1, h2, h3⟩ := p7_len (show v < 65536 by omega) k k n (by omega)
    exact ⟨l, h1, h2, by omega⟩
theorem bits_Len64_eq {x : Nat} (hx : x < 18446744073709551616) : ∃ l : Nat, bits_Len64.f x = some (l : Int) ∧ IsLen x l ∧ l ≤ 64 := by
  unfold bits_Len64.f bits_Len64.g
  by_cases h : 4294967296 ≤ x
  · have hs : x >>> 32 < 4294967296 := by rw [Nat.shiftRight_eq_div_pow]; omega
    rw [bifd_pos (by omega), show (32 : Int) = ((32 : Nat) : Int) from rfl, shr64 hx]
    obtain ⟨l, h1, h2, h3⟩ := p4_len hs fuel0 fuel0 32 (by omega)
    refine ⟨l + 32, ?_, h2.shift (k := 32) h, by omega⟩
    rw [h1]; congr 1; omega
  · rw [bifd_neg (by omega)]
    obtain ⟨l, h1, h2, h3⟩ := p4_len (show x < 4294967296 by omega) fuel0 fuel0 0 (by omega)
    refine ⟨l, ?_, h2, by omega⟩
    have h1' : bits_Len64.p4 (fuel0 + 1) (fuel0 + 1) (x : Int) 0 = some ((0 + l : Nat) : Int) := h1
    rw [h1']; congr 1; omega

/-! ### Fill -/
theorem ranges_Fill_eq {x n : Nat} (hx : x < 18446744073709551616) (hn : IsLen x n) (h64 : n ≤ 64) : ranges_Fill.f x = some (vmask n : Int) := by
  unfold ranges_Fill.f
  by_cases h : x = 0
  · subst h
    have : n = 0 := by
      rcases hn.2 with h | h
      · exact h
      · have := Nat.two_pow_pos (n - 1); omega
    subst this; rfl
  · rw [show ((x : Int) == 0) = false by simpa using h]
    obtain ⟨l, h1, h2, h3⟩ := bits_Len64_eq hx
    have hl : l = n := by
      have aux : ∀ {p q : Nat}, IsLen x p → IsLen x q → p ≤ q := fun {p q} hp hq => by
        rcases Nat.lt_or_ge q p with hlt | hge
        · rcases hp.2 with h0 | h0
          · omega
          · have := Nat.pow_le_pow_right (n := 2) (by decide) (show q ≤ p - 1 by omega)
            have := hq.1
            omega
        · exact hge
      exact Nat.le_antisymm (aux h2 hn) (aux hn h2)
    subst hl
    have hl1 : 1 ≤ l := by
      rcases Nat.eq_zero_or_pos l with h0 | h0
      · subst h0; have := h2.1; simp at this; omega
      · exact h0
    rw [h1]; simp only [cond_false, Option.bind_some]
    rw [bits_Mask_eq, W_of hl1 h3]; rfl
theorem saturateref13_Fill_j2 (fu : Nat) {x n : Nat} (hn : IsLen x n) (h64 : n ≤ 64) (d : Nat) : ∀ (k i : Nat), n - i = d → i ≤ n → d < k → saturateref13_Fill.j2 fu k x (vmask i : Int) = some (vmask n : Int) := by
  induction d with
  | zero =>
    intro k i hd hi hk
    obtain ⟨k, rfl⟩ : ∃ m, k = m + 1 := ⟨k - 1, by omega⟩
    obtain rfl : i = n := by omega
    have := hn.1
    rw [saturateref13_Fill.j2_succ, bifd_neg (by unfold vmask; omega)]
  | succ d ih =>
    intro k i hd hi hk
    obtain ⟨k, rfl⟩ : ∃ m, k = m + 1 := ⟨k - 1, by omega⟩
    have hlt : 2 ^ i ≤ x := by
      rcases hn.2 with h0 | h0
      · omega
      · exact Nat.le_trans (Nat.pow_le_pow_right (by decide) (by omega)) h0
    have hp := Nat.two_pow_pos i
    rw [saturateref13_Fill.j2_succ, bifd_pos (by unfold vmask; omega), mask_step (by omega)]
    exact ih k (i + 1) (by omega) (by omega) (by omega)
theorem saturateref13_Fill_eq {x n : Nat} (hn : IsLen x n) (h64 : n ≤ 64) : saturateref13_Fill.f x = some (vmask n : Int) := by
  unfold saturateref13_Fill.f saturateref13_Fill.g
  exact saturateref13_Fill_j2 (fuel0 + 1) hn h64 n (fuel0 + 1) 0 (by omega) (by omega) (by unfold fuel0; omega)
theorem len_ex {x : Nat} (hx : x < 18446744073709551616) : ∃ n, IsLen x n ∧ n ≤ 64 := by
  obtain ⟨l, _, h2, h3⟩ := bits_Len64_eq hx
  exact ⟨l, h2, h3⟩
end Go.Proofs.YtcihbcffokjgjaaGreat.Fn
