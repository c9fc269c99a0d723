/- What the functions of the ranges return, in plain words, and that the program's and the reference's are the same. -/
import Derived.Test.YtnagfkdgangikaaDoorF0
import Derived.Test.YtnagfkdgangikaaDoorTb
namespace Go.Proofs.YtnagfkdgangikaaDoor.Fn
open Go Go.RowKit Go.Proofs.YtnagfkdgangikaaDoor.Ev Go.Proofs.YtnagfkdgangikaaDoor.Bv
set_option linter.unusedVariables false
set_option linter.unusedSimpArgs false

/-! ### the least and the greatest -/
theorem mn_l (a b : Int) : mn a b ≤ a := by unfold mn; split <;> omega
theorem mn_r (a b : Int) : mn a b ≤ b := by unfold mn; split <;> omega
theorem mn_c (a b : Int) : mn a b = a ∨ mn a b = b := by unfold mn; split <;> omega
theorem mx_l (a b : Int) : a ≤ mx a b := by unfold mx; split <;> omega
theorem mx_r (a b : Int) : b ≤ mx a b := by unfold mx; split <;> omega
theorem mx_c (a b : Int) : mx a b = a ∨ mx a b = b := by unfold mx; split <;> omega

/-- The greatest value of a width. -/
def MM (a : Int) : Int := (vmask (W a) : Int)
theorem MM_nn (a : Int) : 0 ≤ MM a := Int.natCast_nonneg _
/-- A range, or all values if it is none. -/
def nrm (M : Int) (r : Int × Int) : Int × Int := if r.1 ≤ r.2 ∧ r.2 ≤ M then r else (0, M)
theorem nrm_of {M : Int} {r : Int × Int} (h1 : r.1 ≤ r.2) (h2 : r.2 ≤ M) : nrm M r = r := if_pos ⟨h1, h2⟩
theorem nrm_ok {M : Int} (hM : 0 ≤ M) {r : Int × Int} (h : 0 ≤ r.1) : 0 ≤ (nrm M r).1 ∧ (nrm M r).1 ≤ (nrm M r).2 ∧ (nrm M r).2 ≤ M := by
  unfold nrm; split
  · rename_i hc; exact ⟨h, hc⟩
  · exact ⟨Int.le_refl _, hM, Int.le_refl _⟩

def jn (x y : Int × Int) : Int × Int := (mn x.1 y.1, mx x.2 y.2)
def mtt (x y : Int × Int) : Int × Int := (mx x.1 y.1, mn x.2 y.2)
/-! ### the length of a number -/
def IsLen (x n : Nat) : Prop := x < 2 ^ n ∧ (n = 0 ∨ 2 ^ (n - 1) ≤ x)
def len8 (v : Nat) : Nat := if v = 0 then 0 else v.log2 + 1
theorem isLen_len8 (v : Nat) : IsLen v (len8 v) := by
  unfold len8 IsLen
  split
  · rename_i h; subst h; exact ⟨by decide, .inl rfl⟩
  · rename_i h; exact ⟨Nat.lt_log2_self, .inr (by rw [Nat.add_sub_cancel]; exact Nat.log2_self_le h)⟩
theorem IsLen.shift {x n k : Nat} (h : IsLen (x >>> k) n) (hx : 2 ^ k ≤ x) : IsLen x (n + k) := by
  rw [Nat.shiftRight_eq_div_pow] at h
  obtain ⟨h1, h2⟩ := h
  have hp := Nat.two_pow_pos k
  have hq : 1 ≤ x / 2 ^ k := (Nat.one_le_div_iff hp).2 hx
  refine ⟨?_, .inr ?_⟩
  · rw [Nat.pow_add]; exact (Nat.div_lt_iff_lt_mul hp).1 h1
  · rcases h2 with rfl | h2
    · simp at h1; omega
    · have hn : n ≠ 0 := fun e => by subst e; simp at h1; omega
      rw [show n + k - 1 = (n - 1) + k by omega, Nat.pow_add]
      exact (Nat.le_div_iff_mul_le hp).1 h2
theorem p10_all : ∀ v : Fin 256, bits_Len64.p10 1 0 ((v.val : Nat) : Int) 0 = some ((len8 v.val : Nat) : Int) := by decide +kernel
theorem len_tail (c : Bool) (t : Option UInt8) (n : Int) (r : Int) (h : (bif c then t.bind (fun u => some (IntKind.i64.wrap (0 + IntKind.i64.wrap (u.toNat : Int)))) else none) = some r) :
    (bif c then t.bind (fun u => some (IntKind.i64.wrap (n + IntKind.i64.wrap (u.toNat : Int)))) else none) = some (IntKind.i64.wrap (n + r)) := by
  cases c with
  | false => cases h
  | true =>
    cases t with
    | none => cases h
    | some u =>
      simp only [cond_true, Option.bind_some, Option.some.injEq] at h ⊢
      rw [← h]
      have h1 : u.toNat < 256 := u.toNat_lt
      have h2 : IntKind.i64.wrap (u.toNat : Int) = (u.toNat : Int) := by rw [wrapi, wrapi_of (by omega) (by omega)]
      rw [h2, Int.zero_add, h2]
theorem p10_eq {v : Nat} (hv : v < 256) (m fu : Nat) (n : Int) : bits_Len64.p10 (m + 1) fu (v : Int) n = some (IntKind.i64.wrap (n + (len8 v : Int))) := by
  have h := p10_all ⟨v, hv⟩
  simp only at h
  rw [bits_Len64.p10_eq 0 0] at h
  rw [bits_Len64.p10_eq]
  exact len_tail _ _ n _ h
theorem wrap_small {n : Int} (h1 : 0 ≤ n) (h2 : n < 1000) : IntKind.i64.wrap n = n := by rw [wrapi, wrapi_of (by omega) (by omega)]
theorem len8_le {v : Nat} (hv : v < 256) : len8 v ≤ 8 := by
  unfold len8; split
  · omega
  · rename_i h
    have := Nat.log2_self_le h
    rcases Nat.lt_or_ge v.log2 8 with h8 | h8
    · omega
    · have := Nat.pow_le_pow_right (n := 2) (by decide) h8
      have : (2 : Nat) ^ 8 = 256 := rfl
      omega
theorem p7_len {v : Nat} (hv : v < 65536) (m k n : Nat) (hn : n ≤ 56) : ∃ l, bits_Len64.p7 (m + 1) (k + 1) (v : Int) (n : Int) = some ((n + l : Nat) : Int) ∧ IsLen v l ∧ l ≤ 16 := by
  rw [bits_Len64.p7_eq]
  by_cases h : 256 ≤ v
  · have hs : v >>> 8 < 256 := by rw [Nat.shiftRight_eq_div_pow]; omega
    have h8 := len8_le hs
    rw [bifd_pos (by omega), show (8 : Int) = ((8 : Nat) : Int) from rfl, shr64 (by omega), wrap_small (by omega) (by omega), p10_eq hs, wrap_small (by omega) (by omega)]
    exact ⟨len8 (v >>> 8) + 8, by congr 1; omega, (isLen_len8 _).shift (k := 8) h, by omega⟩
  · have h8 := len8_le (show v < 256 by omega)
    rw [bifd_neg (by omega), p10_eq (by omega), wrap_small (by omega) (by omega)]
    exact ⟨len8 v, by congr 1, isLen_len8 v, by omega⟩
theorem p4_len {v : Nat} (hv : v < 4294967296) (m k n : Nat) (hn : n ≤ 32) : ∃ l, bits_Len64.p4 (m + 1) (k + 1) (v : Int) (n : Int) = some ((n + l : Nat) : Int) ∧ IsLen v l ∧ l ≤ 32 := by
  rw [bits_Len64.p4_eq]
  by_cases h : 65536 ≤ v
  · have hs : v >>> 16 < 65536 := by rw [Nat.shiftRight_eq_div_pow]; omega
    rw [bifd_pos (by omega), show (16 : Int) = ((16 : Nat) : Int) from rfl, shr64 (by omega), wrap_small (by omega) (by omega)]
    obtain ⟨l, h1, h2, h3⟩ := p7_len hs k k (n + 16) (by omega)
    refine ⟨l + 16, ?_, h2.shift (k := 16) h, by omega⟩
    rw [show ((n : Int) + ((16 : Nat) : Int)) = ((n + 16 : Nat) : Int) by omega, h1]
    congr 1; omega
  · rw [bifd_neg (by omega)]
    obtain ⟨l, h1, h2, h3⟩ := p7_len (show v < 65536 by omega) k k n (by omega)
    exact ⟨l, h1, h2, by omega⟩
theorem bits_Len64_eq {x : Nat} (hx : x < 18446744073709551616) : ∃ l : Nat, bits_Len64.f x = some (l : Int) ∧ IsLen x l ∧ l ≤ 64 := by
  unfold bits_Len64.f bits_Len64.g
  by_cases h : 4294967296 ≤ x
  · have hs : x >>> 32 < 4294967296 := by rw [Nat.shiftRight_eq_div_pow]; omega
    rw [bifd_pos (by omega), show (32 : Int) = ((32 : Nat) : Int) from rfl, shr64 hx]
    obtain ⟨l, h1, h2, h3⟩ := p4_len hs fuel0 fuel0 32 (by omega)
    refine ⟨l + 32, ?_, h2.shift (k := 32) h, by omega⟩
    rw [h1]; congr 1; omega
  · rw [bifd_neg (by omega)]
    obtain ⟨l, h1, h2, h3⟩ := p4_len (show x < 4294967296 by omega) fuel0 fuel0 0 (by omega)
    refine ⟨l, ?_, h2, by omega⟩
    have h1' : bits_Len64.p4 (fuel0 + 1) (fuel0 + 1) (x : Int) 0 = some ((0 + l : Nat) : Int) := h1
    rw [h1']; congr 1; omega

/-! ### Fill -/
theorem len_ex {x : Nat} (hx : x < 18446744073709551616) : ∃ n, IsLen x n ∧ n ≤ 64 := by
  obtain ⟨l, _, h2, h3⟩ := bits_Len64_eq hx
  exact ⟨l, h2, h3⟩
end Go.Proofs.YtnagfkdgangikaaDoor.Fn
