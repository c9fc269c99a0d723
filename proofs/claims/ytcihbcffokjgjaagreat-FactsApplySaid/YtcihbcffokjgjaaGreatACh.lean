/- The checks ahead of an operator on elements: one specification that the program's and the reference's meet. -/
import Derived.Test.YtcihbcffokjgjaaGreatAF2
import Derived.Test.YtcihbcffokjgjaaGreatAF9
import Derived.Test.YtcihbcffokjgjaaGreatACs
namespace Go.Proofs.YtcihbcffokjgjaaGreat.Fn
open Go Go.RowKit Go.Proofs.YtcihbcffokjgjaaGreat.Ev Go.Proofs.YtcihbcffokjgjaaGreat.Bv
set_option linter.unusedVariables false
set_option linter.unusedSimpArgs false
set_option maxRecDepth 100000

open Classical in
theorem saturateref12_Refused_j9 (fu : Nat) {r : Int} {n : Nat} {g : Nat → Int} (hl : n ≤ 1000) (d : Nat) : ∀ k i, i + d = n → d < k →
    saturateref12_Refused.j9 fu k n r (i : Int) n g = some (if r = 0 ∨ ∃ j, i ≤ j ∧ j < n ∧ g j = 0 then (0, 3) else (r, 0)) := by
  induction d with
  | zero =>
    intro k i hi hk
    obtain ⟨k, rfl⟩ : ∃ m, k = m + 1 := ⟨k - 1, by omega⟩
    obtain rfl : i = n := by omega
    have : ¬ ∃ j, i ≤ j ∧ j < i ∧ g j = 0 := by rintro ⟨j, h1, h2, _⟩; omega
    rw [saturateref12_Refused.j9_succ, bifd_neg (by omega)]
    by_cases h : r = 0
    · simp [this, h]
    · rw [show (r == 0) = false by simpa using h]; simp [this, h]
  | succ d ih =>
    intro k i hi hk
    obtain ⟨k, rfl⟩ : ∃ m, k = m + 1 := ⟨k - 1, by omega⟩
    rw [saturateref12_Refused.j9_succ, bifd_pos (by omega), bifd_pos (by omega), bifd_pos (by omega)]
    rw [wrapi, wrapi_succ (by omega), Int.toNat_natCast]
    have hex : (∃ j, i ≤ j ∧ j < n ∧ g j = 0) ↔ g i = 0 ∨ ∃ j, i + 1 ≤ j ∧ j < n ∧ g j = 0 := by
      constructor
      · rintro ⟨j, h1, h2, h3⟩
        rcases Nat.lt_or_ge i j with h | h
        · exact .inr ⟨j, h, h2, h3⟩
        · obtain rfl : j = i := by omega
          exact .inl h3
      · rintro (h | ⟨j, h1, h2, h3⟩)
        · exact ⟨i, Nat.le_refl _, by omega, h⟩
        · exact ⟨j, by omega, h2, h3⟩
    rw [hex]
    by_cases h : g i = 0
    · simp [h]
    · rw [show (g i == 0) = false by simpa using h, cond_false, ih k (i + 1) (by omega) (by omega)]; simp [h]
theorem saturateref12_Refused_eq {op w : Int} {x : Nat} (hx : x < 18446744073709551616) (n m : Nat) (g : Nat → Int) : saturateref12_Refused.f op w x (n, g) (m : Int) = some (chkS op w x n m g) := by
  unfold saturateref12_Refused.f saturateref12_Refused.g chkS
  simp only [saturateref04_Width_eq hx, saturateref04_Pattern_eq, Option.bind_some]
  by_cases h1 : m ≠ n
  · rw [if_pos h1, show ((m : Int) != (n : Int)) = true by rw [bne_iff_ne]; omega]; rfl
  · rw [if_neg h1, show ((m : Int) != (n : Int)) = false by rw [bne_eq_false_iff_eq]; omega, cond_false]
    by_cases h2 : (widthS op w x n g).2 ≠ 0
    · rw [if_pos h2, show ((widthS op w x n g).2 != 0) = true by rw [bne_iff_ne]; exact h2]; rfl
    · rw [if_neg h2, show ((widthS op w x n g).2 != 0) = false by rw [bne_eq_false_iff_eq]; exact Decidable.not_not.1 h2, cond_false]
      by_cases h3 : op = 24 ∨ op = 25 ∨ op = 26
      · rw [if_pos h3, bifd_pos h3]
      · rw [if_neg h3, bifd_neg h3]
        have hs := widthS_small (Decidable.not_not.1 h2)
        have hn : n ≤ 1000 := by omega
        have := saturateref12_Refused_j9 (fuel0 + 1) (r := (widthS op w x n g).1) (g := g) hn n (fuel0 + 1) 0 (by omega) (fuel_gt hn)
        rw [show ((0 : Nat) : Int) = 0 from rfl] at this
        rw [this]; simp
open Classical in
theorem known_refused_j9 (fu : Nat) {r : Int} {n : Nat} {g : Nat → Int} (hl : n ≤ 1000) (d : Nat) : ∀ k i, i + d = n → d < k →
    known_refused.j9 fu k r n (n : Int) (i : Int) n g = some (if ∃ j, i ≤ j ∧ j < n ∧ g j = 0 then (0, 3) else (r, 0)) := by
  induction d with
  | zero =>
    intro k i hi hk
    obtain ⟨k, rfl⟩ : ∃ m, k = m + 1 := ⟨k - 1, by omega⟩
    obtain rfl : i = n := by omega
    have : ¬ ∃ j, i ≤ j ∧ j < i ∧ g j = 0 := by rintro ⟨j, h1, h2, _⟩; omega
    rw [known_refused.j9_succ, bifd_neg (by omega), if_neg this]
  | succ d ih =>
    intro k i hi hk
    obtain ⟨k, rfl⟩ : ∃ m, k = m + 1 := ⟨k - 1, by omega⟩
    rw [known_refused.j9_succ, bifd_pos (by omega), bifd_pos (by omega), bifd_pos (by omega)]
    rw [wrapi, wrapi_succ (by omega), Int.toNat_natCast]
    have hex : (∃ j, i ≤ j ∧ j < n ∧ g j = 0) ↔ g i = 0 ∨ ∃ j, i + 1 ≤ j ∧ j < n ∧ g j = 0 := by
      constructor
      · rintro ⟨j, h1, h2, h3⟩
        rcases Nat.lt_or_ge i j with h | h
        · exact .inr ⟨j, h, h2, h3⟩
        · obtain rfl : j = i := by omega
          exact .inl h3
      · rintro (h | ⟨j, h1, h2, h3⟩)
        · exact ⟨i, Nat.le_refl _, by omega, h⟩
        · exact ⟨j, by omega, h2, h3⟩
    rw [hex]
    by_cases h : g i = 0
    · simp [h]
    · rw [show (g i == 0) = false by simpa using h, cond_false, ih k (i + 1) (by omega) (by omega)]; simp [h]
open Classical in
theorem known_refused_eq {op w : Int} {x : Nat} (hx : x < 18446744073709551616) (n m : Nat) (g : Nat → Int) : known_refused.f op w x (n, g) (m : Int) = some (chkS op w x n m g) := by
  unfold known_refused.f known_refused.g chkS
  simp only [opinfo_Width_eq hx, opinfo_Pattern_eq, Option.bind_some]
  by_cases h1 : m ≠ n
  · rw [if_pos h1, show ((m : Int) != (n : Int)) = true by rw [bne_iff_ne]; omega]; rfl
  · rw [if_neg h1, show ((m : Int) != (n : Int)) = false by rw [bne_eq_false_iff_eq]; omega, cond_false]
    by_cases h2 : (widthS op w x n g).2 ≠ 0
    · rw [if_pos h2, show ((widthS op w x n g).2 != 0) = true by rw [bne_iff_ne]; exact h2]; rfl
    · rw [if_neg h2, show ((widthS op w x n g).2 != 0) = false by rw [bne_eq_false_iff_eq]; exact Decidable.not_not.1 h2, cond_false]
      by_cases h3 : op = 24 ∨ op = 25 ∨ op = 26
      · rw [if_pos h3, bifd_pos h3]
      · rw [if_neg h3, bifd_neg h3]
        have hs := widthS_small (Decidable.not_not.1 h2)
        have hn : n ≤ 3 := by omega
        have hb : Nat.ble ((1 + n) * 8) 140737488355328 = true := by rw [Nat.ble_eq]; omega
        rw [hb, cond_true]
        have := known_refused_j9 (fuel0 + 1) (r := (widthS op w x n g).1) (n := 1 + n) (g := cat 1 (fun i => [(widthS op w x n g).1].getD i 0) g) (by omega) (1 + n) (fuel0 + 1) 0 (by omega) (fuel_gt (by omega))
        rw [show ((0 : Nat) : Int) = 0 from rfl] at this
        rw [show ((1 : Int) + (n : Int)) = ((1 + n : Nat) : Int) by omega, this]
        congr 1
        have hex : (∃ j, 0 ≤ j ∧ j < 1 + n ∧ cat 1 (fun i => [(widthS op w x n g).1].getD i 0) g j = 0) ↔ ((widthS op w x n g).1 = 0 ∨ ∃ j, j < n ∧ g j = 0) := by
          constructor
          · rintro ⟨j, _, h1, h2⟩
            cases j with
            | zero => exact .inl h2
            | succ j =>
              refine .inr ⟨j, by omega, ?_⟩
              have e : cat 1 (fun i => [(widthS op w x n g).1].getD i 0) g (j + 1) = g j := by
                unfold cat; rw [show (j + 1).blt 1 = false from rfl, cond_false]; congr 1
              rw [e] at h2; exact h2
          · rintro (h | ⟨j, h1, h2⟩)
            · exact ⟨0, by omega, by omega, h⟩
            · refine ⟨j + 1, by omega, by omega, ?_⟩
              have e : cat 1 (fun i => [(widthS op w x n g).1].getD i 0) g (j + 1) = g j := by
                unfold cat; rw [show (j + 1).blt 1 = false from rfl, cond_false]; congr 1
              rw [e]; exact h2
        simp only [hex]
end Go.Proofs.YtcihbcffokjgjaaGreat.Fn
