/- The checks ahead of an operator: the specification. -/
import Derived.Test.YtcihbcffokjgjaaGreatATo
import Derived.Test.YtcihbcffokjgjaaGreatATc
namespace Go.Proofs.YtcihbcffokjgjaaGreat.Fn
open Go Go.RowKit Go.Proofs.YtcihbcffokjgjaaGreat.Ev Go.Proofs.YtcihbcffokjgjaaGreat.Bv
set_option linter.unusedVariables false
set_option linter.unusedSimpArgs false
set_option maxRecDepth 100000

open Classical in
/-- The width of the result, or the error. -/
noncomputable def chkS (op w : Int) (x n m : Nat) (g : Nat → Int) : Int × Int :=
  if m ≠ n then (0, 4) else if (widthS op w x n g).2 ≠ 0 then (0, (widthS op w x n g).2) else if op = 24 ∨ op = 25 ∨ op = 26 then (0, 4)
  else if (widthS op w x n g).1 = 0 ∨ ∃ j, j < n ∧ g j = 0 then (0, 3) else ((widthS op w x n g).1, 0)
theorem widthS_small {op w : Int} {x n : Nat} {g : Nat → Int} (h : (widthS op w x n g).2 = 0) : 1 ≤ op ∧ op ≤ 26 ∧ (n : Int) = arity op ∧ n ≤ 3 ∧ allIn n g ∧ widthS op w x n g = widthT op w x g := by
  unfold widthS at h ⊢
  by_cases h1 : op < 1 ∨ 26 < op ∨ (n : Int) ≠ arity op
  · rw [if_pos h1] at h; exact absurd h (by decide)
  · rw [if_neg h1] at h ⊢
    by_cases h2 : allIn n g
    · have := arity_in (op := op) (by omega) (by omega)
      exact ⟨by omega, by omega, by omega, by omega, h2, if_pos h2⟩
    · rw [if_neg h2] at h; exact absurd h (by decide)
/-- What the checks let through. -/
theorem chkS_ok {op w : Int} {x n m : Nat} {g : Nat → Int} (h : (chkS op w x n m g).2 = 0) :
    1 ≤ op ∧ op ≤ 23 ∧ m = n ∧ (n : Int) = arity op ∧ (∀ i, i < n → 1 ≤ g i ∧ g i ≤ 64) ∧ chkS op w x n m g = widthT op w x g ∧ (widthT op w x g).2 = 0 ∧ (widthT op w x g).1 ≠ 0 := by
  unfold chkS at h ⊢
  by_cases h1 : m ≠ n
  · rw [if_pos h1] at h; exact absurd h (by decide)
  · rw [if_neg h1] at h ⊢
    by_cases h2 : (widthS op w x n g).2 ≠ 0
    · rw [if_pos h2] at h; exact absurd h h2
    · rw [if_neg h2] at h ⊢
      by_cases h3 : op = 24 ∨ op = 25 ∨ op = 26
      · rw [if_pos h3] at h; exact absurd h (by decide)
      · rw [if_neg h3] at h ⊢
        obtain ⟨a1, a2, a3, a4, a5, a6⟩ := widthS_small (Decidable.not_not.1 h2)
        by_cases h4 : (widthS op w x n g).1 = 0 ∨ ∃ j, j < n ∧ g j = 0
        · rw [if_pos h4] at h; exact absurd h (by decide)
        · rw [if_neg h4] at h ⊢
          rw [a6] at h2 h4 ⊢
          refine ⟨a1, by omega, by omega, a3, fun i hi => ?_, ?_, Decidable.not_not.1 h2, fun e => h4 (.inl e)⟩
          · have := ins_iff.1 (a5 i hi)
            have : g i ≠ 0 := fun e => h4 (.inr ⟨i, hi, e⟩)
            omega
          · exact Prod.ext rfl (Decidable.not_not.1 h2).symm
/-- What a width without an error says of the operator, its width and those of the operands. -/
theorem widthT_ok {op w : Int} {x n : Nat} {g : Nat → Int} (h1 : 1 ≤ op) (h2 : op ≤ 23) (ha : (n : Int) = arity op) (hg : ∀ i, i < n → 1 ≤ g i ∧ g i ≤ 64) (he : (widthT op w x g).2 = 0) (hr : (widthT op w x g).1 ≠ 0) :
    1 ≤ (widthT op w x g).1 ∧ (widthT op w x g).1 ≤ 64 ∧
    (((op = 1 ∨ op = 2) ∧ n = 0) ∨ ((op = 3 ∨ op = 4) ∧ n = 1 ∧ (widthT op w x g).1 = g 0) ∨
      ((op = 21 ∨ op = 22 ∨ op = 23) ∧ n = 1 ∧ (op = 21 → (x : Int) + (widthT op w x g).1 ≤ g 0) ∧ (op = 22 ∨ op = 23 → g 0 ≤ (widthT op w x g).1)) ∨
      (op = 19 ∧ n = 3 ∧ g 0 = 1 ∧ g 1 = (widthT op w x g).1 ∧ g 2 = (widthT op w x g).1) ∨ (op = 20 ∧ n = 2 ∧ (widthT op w x g).1 = g 0 + g 1) ∨
      ((op = 16 ∨ op = 17 ∨ op = 18) ∧ n = 2 ∧ g 1 = g 0 ∧ (widthT op w x g).1 = 1) ∨ ((5 ≤ op ∧ op ≤ 15) ∧ n = 2 ∧ g 1 = g 0 ∧ (widthT op w x g).1 = g 0)) := by
  rcases widthT_cases h1 (by omega) n ha with ⟨ho, hn⟩ | ⟨ho, hn⟩ | ⟨ho, hn⟩ | ⟨ho, hn⟩ | ⟨ho, hn⟩ | ⟨ho, hn⟩ | ⟨ho, hn⟩
  · have e : widthT op w x g = leafS op w x := if_pos ho
    rw [e] at he hr ⊢
    unfold leafS at he hr ⊢
    by_cases c : ¬ (0 ≤ w ∧ w ≤ 64) ∨ (op = 2 ∧ 0 < w ∧ 2 ^ w.toNat ≤ x)
    · rw [if_pos c] at he; exact absurd he (by decide)
    · rw [if_neg c] at he hr ⊢
      simp only at hr ⊢
      have c' : 0 ≤ w ∧ w ≤ 64 := Decidable.not_not.1 fun c2 => c (.inl c2)
      exact ⟨by omega, by omega, .inl ⟨by omega, by omega⟩⟩
  · have := hg 0 (by omega)
    have e : widthT op w x g = (g 0, 0) := by
      rcases ho with rfl | rfl | rfl <;> rfl
    rw [e] at he hr ⊢
    exact ⟨by simp only; omega, by simp only; omega, .inr (.inl ⟨by omega, by omega, rfl⟩)⟩
  · have := hg 0 (by omega)
    have e : widthT op w x g = partS op w x (g 0) := by
      rcases ho with rfl | rfl | rfl <;> rfl
    rw [e] at he hr ⊢
    unfold partS at he hr ⊢
    by_cases c : w < 1 ∨ w > 64 ∨ g 0 < 1
    · rw [if_pos c] at he; exact absurd he (by decide)
    · rw [if_neg c] at he hr ⊢
      rcases ho with rfl | rfl | rfl
      · rw [if_pos rfl] at he hr ⊢
        by_cases d : w > g 0 ∨ (x : Int) > g 0 - w
        · rw [if_pos d] at he; exact absurd he (by decide)
        · rw [if_neg d] at he hr ⊢
          exact ⟨by simp only; omega, by simp only; omega, .inr (.inr (.inl ⟨by decide, by omega, fun _ => by simp only; omega, fun h => by omega⟩))⟩
      · rw [if_neg (by decide)] at he hr ⊢
        by_cases d : w < g 0
        · rw [if_pos d] at he; exact absurd he (by decide)
        · rw [if_neg d] at he hr ⊢
          exact ⟨by simp only; omega, by simp only; omega, .inr (.inr (.inl ⟨by decide, by omega, fun h => by omega, fun h => by simp only; omega⟩))⟩
      · rw [if_neg (by decide)] at he hr ⊢
        by_cases d : w < g 0
        · rw [if_pos d] at he; exact absurd he (by decide)
        · rw [if_neg d] at he hr ⊢
          exact ⟨by simp only; omega, by simp only; omega, .inr (.inr (.inl ⟨by decide, by omega, fun h => by omega, fun h => by simp only; omega⟩))⟩
  · subst ho
    have := hg 1 (by omega)
    have e : widthT 19 w x g = if g 0 = 1 ∧ g 1 = g 2 then (g 1, 0) else (0, 3) := rfl
    rw [e] at he hr ⊢
    by_cases c : g 0 = 1 ∧ g 1 = g 2
    · rw [if_pos c] at he hr ⊢
      exact ⟨by simp only; omega, by simp only; omega, .inr (.inr (.inr (.inl ⟨rfl, by omega, c.1, rfl, c.2.symm⟩)))⟩
    · rw [if_neg c] at he; exact absurd he (by decide)
  · subst ho
    have := hg 0 (by omega)
    have := hg 1 (by omega)
    have e : widthT 20 w x g = if 1 ≤ g 0 ∧ 1 ≤ g 1 ∧ g 0 + g 1 ≤ 64 then (g 0 + g 1, 0) else (0, 3) := rfl
    rw [e] at he hr ⊢
    by_cases c : 1 ≤ g 0 ∧ 1 ≤ g 1 ∧ g 0 + g 1 ≤ 64
    · rw [if_pos c] at he hr ⊢
      exact ⟨by simp only; omega, by simp only; omega, .inr (.inr (.inr (.inr (.inl ⟨rfl, by omega, rfl⟩))))⟩
    · rw [if_neg c] at he; exact absurd he (by decide)
  · have e : widthT op w x g = if g 0 = g 1 then (1, 0) else (0, 3) := by
      rcases ho with rfl | rfl | rfl <;> rfl
    rw [e] at he hr ⊢
    by_cases c : g 0 = g 1
    · rw [if_pos c] at he hr ⊢
      exact ⟨by decide, by decide, .inr (.inr (.inr (.inr (.inr (.inl ⟨ho, by omega, c.symm, rfl⟩)))))⟩
    · rw [if_neg c] at he; exact absurd he (by decide)
  · have := hg 0 (by omega)
    have e : widthT op w x g = if g 0 = g 1 then (g 0, 0) else (0, 3) := by
      rcases ho with rfl | rfl | rfl | rfl | rfl | rfl | rfl | rfl | rfl | rfl | rfl <;> rfl
    rw [e] at he hr ⊢
    by_cases c : g 0 = g 1
    · rw [if_pos c] at he hr ⊢
      exact ⟨by simp only; omega, by simp only; omega, .inr (.inr (.inr (.inr (.inr (.inr ⟨by omega, by omega, c.symm, rfl⟩)))))⟩
    · rw [if_neg c] at he; exact absurd he (by decide)

theorem nat_of {a : Int} (h1 : 1 ≤ a) (h2 : a ≤ 64) : ∃ v : Nat, a = (v : Int) ∧ 1 ≤ v ∧ v ≤ 64 := ⟨a.toNat, by omega, by omega, by omega⟩
end Go.Proofs.YtcihbcffokjgjaaGreat.Fn
