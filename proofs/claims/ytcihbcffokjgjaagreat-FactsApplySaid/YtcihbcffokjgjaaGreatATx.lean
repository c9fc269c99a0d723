/- The checks ahead of Apply, by the program and by the reference: one specification that both meet; and what Apply does after them, with the loop over the operands worked out. -/
import Derived.Test.YtcihbcffokjgjaaGreatAF10
import Derived.Test.YtcihbcffokjgjaaGreatAF11
import Derived.Test.YtcihbcffokjgjaaGreatAF3
import Derived.Test.YtcihbcffokjgjaaGreatACs
import Derived.Test.YtcihbcffokjgjaaGreatATr
namespace Go.Proofs.YtcihbcffokjgjaaGreat.Fn
open Go Go.RowKit Go.Proofs.YtcihbcffokjgjaaGreat.Ev Go.Proofs.YtcihbcffokjgjaaGreat.Bv
set_option linter.unusedVariables false
set_option linter.unusedSimpArgs false
set_option maxRecDepth 100000

open Classical in
theorem ranges_check_j10 (fu : Nat) {r : Int} {n : Nat} {g : Nat → Int} (hl : n ≤ 1000) (d : Nat) : ∀ k i b, i + d = n → d < k →
    ranges_check.j10 (fu + 1) k r b n (n : Int) (i : Int) n g = some (if b = true ∨ ∃ j, i ≤ j ∧ j < n ∧ g j = 0 then (0, 3) else (r, 0)) := by
  induction d with
  | zero =>
    intro k i b hi hk
    obtain ⟨k, rfl⟩ : ∃ m, k = m + 1 := ⟨k - 1, by omega⟩
    obtain rfl : i = n := by omega
    have : ¬ ∃ j, i ≤ j ∧ j < i ∧ g j = 0 := by rintro ⟨j, h1, h2, _⟩; omega
    rw [ranges_check.j10_succ, bifd_neg (by omega)]
    cases b <;> simp [this]
  | succ d ih =>
    intro k i b hi hk
    obtain ⟨k, rfl⟩ : ∃ m, k = m + 1 := ⟨k - 1, by omega⟩
    rw [ranges_check.j10_succ, bifd_pos (by omega), bifd_pos (by omega), bifd_pos (by omega)]
    simp only [ranges_check.p13_eq]
    rw [wrapi, wrapi_succ (by omega), Int.toNat_natCast]
    have hex : (∃ j, i ≤ j ∧ j < n ∧ g j = 0) ↔ g i = 0 ∨ ∃ j, i + 1 ≤ j ∧ j < n ∧ g j = 0 := by
      constructor
      · rintro ⟨j, h1, h2, h3⟩
        rcases Nat.lt_or_ge i j with h | h
        · exact .inr ⟨j, h, h2, h3⟩
        · obtain rfl : j = i := by omega
          exact .inl h3
      · rintro (h | ⟨j, h1, h2, h3⟩)
        · exact ⟨i, Nat.le_refl _, by omega, h⟩
        · exact ⟨j, by omega, h2, h3⟩
    rw [hex]
    cases b with
    | true =>
      rw [cond_true, ih k (i + 1) true (by omega) (by omega)]; simp
    | false =>
      rw [cond_false, ih k (i + 1) _ (by omega) (by omega)]; simp
open Classical in
theorem saturateref13_Refused_j9 (fu : Nat) {r : Int} {n : Nat} {g : Nat → Int} (hl : n ≤ 1000) (d : Nat) : ∀ k i, i + d = n → d < k →
    saturateref13_Refused.j9 fu k n r (i : Int) n g = some (if r = 0 ∨ ∃ j, i ≤ j ∧ j < n ∧ g j = 0 then (0, 3) else (r, 0)) := by
  induction d with
  | zero =>
    intro k i hi hk
    obtain ⟨k, rfl⟩ : ∃ m, k = m + 1 := ⟨k - 1, by omega⟩
    obtain rfl : i = n := by omega
    have : ¬ ∃ j, i ≤ j ∧ j < i ∧ g j = 0 := by rintro ⟨j, h1, h2, _⟩; omega
    rw [saturateref13_Refused.j9_succ, bifd_neg (by omega)]
    by_cases h : r = 0
    · simp [this, h]
    · rw [show (r == 0) = false by simpa using h]; simp [this, h]
  | succ d ih =>
    intro k i hi hk
    obtain ⟨k, rfl⟩ : ∃ m, k = m + 1 := ⟨k - 1, by omega⟩
    rw [saturateref13_Refused.j9_succ, bifd_pos (by omega), bifd_pos (by omega), bifd_pos (by omega)]
    rw [wrapi, wrapi_succ (by omega), Int.toNat_natCast]
    have hex : (∃ j, i ≤ j ∧ j < n ∧ g j = 0) ↔ g i = 0 ∨ ∃ j, i + 1 ≤ j ∧ j < n ∧ g j = 0 := by
      constructor
      · rintro ⟨j, h1, h2, h3⟩
        rcases Nat.lt_or_ge i j with h | h
        · exact .inr ⟨j, h, h2, h3⟩
        · obtain rfl : j = i := by omega
          exact .inl h3
      · rintro (h | ⟨j, h1, h2, h3⟩)
        · exact ⟨i, Nat.le_refl _, by omega, h⟩
        · exact ⟨j, by omega, h2, h3⟩
    rw [hex]
    by_cases h : g i = 0
    · simp [h]
    · rw [show (g i == 0) = false by simpa using h, cond_false, ih k (i + 1) (by omega) (by omega)]; simp [h]
theorem ranges_check_eq {op w : Int} {x : Nat} (hx : x < 18446744073709551616) (n m : Nat) (g lo hi : Nat → Int) : ranges_check.f op w x (n, g) (m, lo, hi) = some (chkS op w x n m g) := by
  unfold ranges_check.f ranges_check.g chkS
  simp only [opinfo_Width_eq hx, opinfo_Pattern_eq, Option.bind_some]
  by_cases h1 : m ≠ n
  · rw [if_pos h1, show ((m : Int) != (n : Int)) = true by rw [bne_iff_ne]; omega]; rfl
  · rw [if_neg h1, show ((m : Int) != (n : Int)) = false by rw [bne_eq_false_iff_eq]; omega, cond_false]
    by_cases h2 : (widthS op w x n g).2 ≠ 0
    · rw [if_pos h2, show ((widthS op w x n g).2 != 0) = true by rw [bne_iff_ne]; exact h2]; rfl
    · rw [if_neg h2, show ((widthS op w x n g).2 != 0) = false by rw [bne_eq_false_iff_eq]; exact Decidable.not_not.1 h2, cond_false]
      by_cases h3 : op = 24 ∨ op = 25 ∨ op = 26
      · rw [if_pos h3, bifd_pos h3]
      · rw [if_neg h3, bifd_neg h3]
        have hs := widthS_small (Decidable.not_not.1 h2)
        have hn : n ≤ 1000 := by omega
        have := ranges_check_j10 fuel0 (r := (widthS op w x n g).1) (g := g) hn n (fuel0 + 1) 0 ((widthS op w x n g).1 == 0) (by omega) (fuel_gt hn)
        rw [show ((0 : Nat) : Int) = 0 from rfl] at this
        rw [this]; simp
theorem saturateref13_Refused_eq {op w : Int} {x : Nat} (hx : x < 18446744073709551616) (n m : Nat) (g : Nat → Int) : saturateref13_Refused.f op w x (n, g) (m : Int) = some (chkS op w x n m g) := by
  unfold saturateref13_Refused.f saturateref13_Refused.g chkS
  simp only [saturateref04_Width_eq hx, saturateref04_Pattern_eq, Option.bind_some]
  by_cases h1 : m ≠ n
  · rw [if_pos h1, show ((m : Int) != (n : Int)) = true by rw [bne_iff_ne]; omega]; rfl
  · rw [if_neg h1, show ((m : Int) != (n : Int)) = false by rw [bne_eq_false_iff_eq]; omega, cond_false]
    by_cases h2 : (widthS op w x n g).2 ≠ 0
    · rw [if_pos h2, show ((widthS op w x n g).2 != 0) = true by rw [bne_iff_ne]; exact h2]; rfl
    · rw [if_neg h2, show ((widthS op w x n g).2 != 0) = false by rw [bne_eq_false_iff_eq]; exact Decidable.not_not.1 h2, cond_false]
      by_cases h3 : op = 24 ∨ op = 25 ∨ op = 26
      · rw [if_pos h3, bifd_pos h3]
      · rw [if_neg h3, bifd_neg h3]
        have hs := widthS_small (Decidable.not_not.1 h2)
        have hn : n ≤ 1000 := by omega
        have := saturateref13_Refused_j9 (fuel0 + 1) (r := (widthS op w x n g).1) (g := g) hn n (fuel0 + 1) 0 (by omega) (fuel_gt hn)
        rw [show ((0 : Nat) : Int) = 0 from rfl] at this
        rw [this]; simp
theorem ap0 (fu k : Nat) (op r x : Int) (g lo hi : Nat → Int) : ranges_Apply.j6 fu (k + 1) op x 0 r 0 0 ((0 : Nat) : Int) 0 0 g 0 lo hi 0 0 0 (fun _ => 0) (fun _ => 0) =
    bif op == 2 then (ranges_Const.f r x).bind fun t => some ((t.1, t.2), 0) else (ranges_Top.f r).bind fun t => some ((t.1, t.2), 0) := by kernel_rfl
theorem ap1 (fu k : Nat) (op r x : Int) (g lo hi : Nat → Int) : ranges_Apply.j6 fu (k + 2) op x 1 r 0 1 ((1 : Nat) : Int) 0 1 g 1 lo hi 0 0 0 (fun _ => 0) (fun _ => 0) =
    (ranges_norm.f (g 0) (lo 0, hi 0)).bind fun p => (ranges_unary.f op r x (g 0) (p.1, p.2)).bind fun t => some ((t.1, t.2), 0) := by kernel_rfl
theorem ap2 (fu k : Nat) (op r x : Int) (g lo hi : Nat → Int) : ranges_Apply.j6 fu (k + 3) op x 2 r 0 2 ((2 : Nat) : Int) 0 2 g 2 lo hi 0 0 0 (fun _ => 0) (fun _ => 0) =
    (ranges_norm.f (g 0) (lo 0, hi 0)).bind fun p => (ranges_norm.f (g 1) (lo 1, hi 1)).bind fun q => (ranges_binary.f op (g 0) (g 1) (p.1, p.2) (q.1, q.2)).bind fun t => some ((t.1, t.2), 0) := by kernel_rfl
theorem ap3 (fu k : Nat) (op r x : Int) (g lo hi : Nat → Int) : ranges_Apply.j6 fu (k + 4) op x 3 r 0 3 ((3 : Nat) : Int) 0 3 g 3 lo hi 0 0 0 (fun _ => 0) (fun _ => 0) =
    (ranges_norm.f (g 0) (lo 0, hi 0)).bind fun p => (ranges_norm.f (g 1) (lo 1, hi 1)).bind fun q => (ranges_norm.f (g 2) (lo 2, hi 2)).bind fun s =>
      (ranges_single.f (p.1, p.2)).bind fun b => bif !b then (ranges_Join.f r (q.1, q.2) (s.1, s.2)).bind fun t => some ((t.1, t.2), 0) else bif p.1 == 1 then some ((q.1, q.2), 0) else some ((s.1, s.2), 0) := by kernel_rfl
end Go.Proofs.YtcihbcffokjgjaaGreat.Fn
