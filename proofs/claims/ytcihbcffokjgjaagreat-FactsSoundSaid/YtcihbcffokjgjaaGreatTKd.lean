/- The checks ahead of an operator: the specification. The checks ahead of an operator on elements: one specification that the program's and the reference's meet. The rest of the reference's functions of the bit vectors, in the words of the theory. The program's functions of the bit vectors, in the words of the theory. Operators with one operand, shifts, products and the rest on elements: the program's and the reference's pieces, each to one specification. Operators with two operands on elements: the program's and the reference's, to one specification. -/
import Derived.Test.YtcihbcffokjgjaaGreatTMc
import Derived.Test.YtcihbcffokjgjaaGreatTTc
import Derived.Test.YtcihbcffokjgjaaGreatTF2
import Derived.Test.YtcihbcffokjgjaaGreatTF9
import Derived.Test.YtcihbcffokjgjaaGreatTF12
namespace Go.Proofs.YtcihbcffokjgjaaGreat.Fn
open Go Go.RowKit Go.Proofs.YtcihbcffokjgjaaGreat.Ev Go.Proofs.YtcihbcffokjgjaaGreat.Bv
set_option linter.unusedVariables false
set_option linter.unusedSimpArgs false
set_option maxRecDepth 100000
open Classical in
noncomputable def chkS (op w : Int) (x n m : Nat) (g : Nat → Int) : Int × Int :=
  if m ≠ n then (0, 4) else if (widthS op w x n g).2 ≠ 0 then (0, (widthS op w x n g).2) else if op = 24 ∨ op = 25 ∨ op = 26 then (0, 4)
  else if (widthS op w x n g).1 = 0 ∨ ∃ j, j < n ∧ g j = 0 then (0, 3) else ((widthS op w x n g).1, 0)
theorem widthS_small {op w : Int} {x n : Nat} {g : Nat → Int} (h : (widthS op w x n g).2 = 0) : 1 ≤ op ∧ op ≤ 26 ∧ (n : Int) = arity op ∧ n ≤ 3 ∧ allIn n g ∧ widthS op w x n g = widthT op w x g := by
  unfold widthS at h ⊢
  by_cases h1 : op < 1 ∨ 26 < op ∨ (n : Int) ≠ arity op
  · rw [if_pos h1] at h; exact absurd h (by decide)
  · rw [if_neg h1] at h ⊢
    by_cases h2 : allIn n g
    · have := arity_in (op := op) (by omega) (by omega)
      exact ⟨by omega, by omega, by omega, by omega, h2, if_pos h2⟩
    · rw [if_neg h2] at h; exact absurd h (by decide)
theorem chkS_ok {op w : Int} {x n m : Nat} {g : Nat → Int} (h : (chkS op w x n m g).2 = 0) :
    1 ≤ op ∧ op ≤ 23 ∧ m = n ∧ (n : Int) = arity op ∧ (∀ i, i < n → 1 ≤ g i ∧ g i ≤ 64) ∧ chkS op w x n m g = widthT op w x g ∧ (widthT op w x g).2 = 0 ∧ (widthT op w x g).1 ≠ 0 := by
  unfold chkS at h ⊢
  by_cases h1 : m ≠ n
  · rw [if_pos h1] at h; exact absurd h (by decide)
  · rw [if_neg h1] at h ⊢
    by_cases h2 : (widthS op w x n g).2 ≠ 0
    · rw [if_pos h2] at h; exact absurd h h2
    · rw [if_neg h2] at h ⊢
      by_cases h3 : op = 24 ∨ op = 25 ∨ op = 26
      · rw [if_pos h3] at h; exact absurd h (by decide)
      · rw [if_neg h3] at h ⊢
        obtain ⟨a1, a2, a3, a4, a5, a6⟩ := widthS_small (Decidable.not_not.1 h2)
        by_cases h4 : (widthS op w x n g).1 = 0 ∨ ∃ j, j < n ∧ g j = 0
        · rw [if_pos h4] at h; exact absurd h (by decide)
        · rw [if_neg h4] at h ⊢
          rw [a6] at h2 h4 ⊢
          refine ⟨a1, by omega, by omega, a3, fun i hi => ?_, ?_, Decidable.not_not.1 h2, fun e => h4 (.inl e)⟩
          · have := ins_iff.1 (a5 i hi)
            have : g i ≠ 0 := fun e => h4 (.inr ⟨i, hi, e⟩)
            omega
          · exact Prod.ext rfl (Decidable.not_not.1 h2).symm
theorem widthT_ok {op w : Int} {x n : Nat} {g : Nat → Int} (h1 : 1 ≤ op) (h2 : op ≤ 23) (ha : (n : Int) = arity op) (hg : ∀ i, i < n → 1 ≤ g i ∧ g i ≤ 64) (he : (widthT op w x g).2 = 0) (hr : (widthT op w x g).1 ≠ 0) :
    1 ≤ (widthT op w x g).1 ∧ (widthT op w x g).1 ≤ 64 ∧
    (((op = 1 ∨ op = 2) ∧ n = 0) ∨ ((op = 3 ∨ op = 4) ∧ n = 1 ∧ (widthT op w x g).1 = g 0) ∨
      ((op = 21 ∨ op = 22 ∨ op = 23) ∧ n = 1 ∧ (op = 21 → (x : Int) + (widthT op w x g).1 ≤ g 0) ∧ (op = 22 ∨ op = 23 → g 0 ≤ (widthT op w x g).1)) ∨
      (op = 19 ∧ n = 3 ∧ g 0 = 1 ∧ g 1 = (widthT op w x g).1 ∧ g 2 = (widthT op w x g).1) ∨ (op = 20 ∧ n = 2 ∧ (widthT op w x g).1 = g 0 + g 1) ∨
      ((op = 16 ∨ op = 17 ∨ op = 18) ∧ n = 2 ∧ g 1 = g 0 ∧ (widthT op w x g).1 = 1) ∨ ((5 ≤ op ∧ op ≤ 15) ∧ n = 2 ∧ g 1 = g 0 ∧ (widthT op w x g).1 = g 0)) := by
  rcases widthT_cases h1 (by omega) n ha with ⟨ho, hn⟩ | ⟨ho, hn⟩ | ⟨ho, hn⟩ | ⟨ho, hn⟩ | ⟨ho, hn⟩ | ⟨ho, hn⟩ | ⟨ho, hn⟩
  · have e : widthT op w x g = leafS op w x := if_pos ho
    rw [e] at he hr ⊢
    unfold leafS at he hr ⊢
    by_cases c : ¬ (0 ≤ w ∧ w ≤ 64) ∨ (op = 2 ∧ 0 < w ∧ 2 ^ w.toNat ≤ x)
    · rw [if_pos c] at he; exact absurd he (by decide)
    · rw [if_neg c] at he hr ⊢
      simp only at hr ⊢
      have c' : 0 ≤ w ∧ w ≤ 64 := Decidable.not_not.1 fun c2 => c (.inl c2)
      exact ⟨by omega, by omega, .inl ⟨by omega, by omega⟩⟩
  · have := hg 0 (by omega)
    have e : widthT op w x g = (g 0, 0) := by
      rcases ho with rfl | rfl | rfl <;> rfl
    rw [e] at he hr ⊢
    exact ⟨by simp only; omega, by simp only; omega, .inr (.inl ⟨by omega, by omega, rfl⟩)⟩
  · have := hg 0 (by omega)
    have e : widthT op w x g = partS op w x (g 0) := by
      rcases ho with rfl | rfl | rfl <;> rfl
    rw [e] at he hr ⊢
    unfold partS at he hr ⊢
    by_cases c : w < 1 ∨ w > 64 ∨ g 0 < 1
    · rw [if_pos c] at he; exact absurd he (by decide)
    · rw [if_neg c] at he hr ⊢
      rcases ho with rfl | rfl | rfl
      · rw [if_pos rfl] at he hr ⊢
        by_cases d : w > g 0 ∨ (x : Int) > g 0 - w
        · rw [if_pos d] at he; exact absurd he (by decide)
        · rw [if_neg d] at he hr ⊢
          exact ⟨by simp only; omega, by simp only; omega, .inr (.inr (.inl ⟨by decide, by omega, fun _ => by simp only; omega, fun h => by omega⟩))⟩
      · rw [if_neg (by decide)] at he hr ⊢
        by_cases d : w < g 0
        · rw [if_pos d] at he; exact absurd he (by decide)
        · rw [if_neg d] at he hr ⊢
          exact ⟨by simp only; omega, by simp only; omega, .inr (.inr (.inl ⟨by decide, by omega, fun h => by omega, fun h => by simp only; omega⟩))⟩
      · rw [if_neg (by decide)] at he hr ⊢
        by_cases d : w < g 0
        · rw [if_pos d] at he; exact absurd he (by decide)
        · rw [if_neg d] at he hr ⊢
          exact ⟨by simp only; omega, by simp only; omega, .inr (.inr (.inl ⟨by decide, by omega, fun h => by omega, fun h => by simp only; omega⟩))⟩
  · subst ho
    have := hg 1 (by omega)
    have e : widthT 19 w x g = if g 0 = 1 ∧ g 1 = g 2 then (g 1, 0) else (0, 3) := rfl
    rw [e] at he hr ⊢
    by_cases c : g 0 = 1 ∧ g 1 = g 2
    · rw [if_pos c] at he hr ⊢
      exact ⟨by simp only; omega, by simp only; omega, .inr (.inr (.inr (.inl ⟨rfl, by omega, c.1, rfl, c.2.symm⟩)))⟩
    · rw [if_neg c] at he; exact absurd he (by decide)
  · subst ho
    have := hg 0 (by omega)
    have := hg 1 (by omega)
    have e : widthT 20 w x g = if 1 ≤ g 0 ∧ 1 ≤ g 1 ∧ g 0 + g 1 ≤ 64 then (g 0 + g 1, 0) else (0, 3) := rfl
    rw [e] at he hr ⊢
    by_cases c : 1 ≤ g 0 ∧ 1 ≤ g 1 ∧ g 0 + g 1 ≤ 64
    · rw [if_pos c] at he hr ⊢
      exact ⟨by simp only; omega, by simp only; omega, .inr (.inr (.inr (.inr (.inl ⟨rfl, by omega, rfl⟩))))⟩
    · rw [if_neg c] at he; exact absurd he (by decide)
  · have e : widthT op w x g = if g 0 = g 1 then (1, 0) else (0, 3) := by
      rcases ho with rfl | rfl | rfl <;> rfl
    rw [e] at he hr ⊢
    by_cases c : g 0 = g 1
    · rw [if_pos c] at he hr ⊢
      exact ⟨by decide, by decide, .inr (.inr (.inr (.inr (.inr (.inl ⟨ho, by omega, c.symm, rfl⟩)))))⟩
    · rw [if_neg c] at he; exact absurd he (by decide)
  · have := hg 0 (by omega)
    have e : widthT op w x g = if g 0 = g 1 then (g 0, 0) else (0, 3) := by
      rcases ho with rfl | rfl | rfl | rfl | rfl | rfl | rfl | rfl | rfl | rfl | rfl <;> rfl
    rw [e] at he hr ⊢
    by_cases c : g 0 = g 1
    · rw [if_pos c] at he hr ⊢
      exact ⟨by simp only; omega, by simp only; omega, .inr (.inr (.inr (.inr (.inr (.inr ⟨by omega, by omega, c.symm, rfl⟩)))))⟩
    · rw [if_neg c] at he; exact absurd he (by decide)
theorem nat_of {a : Int} (h1 : 1 ≤ a) (h2 : a ≤ 64) : ∃ v : Nat, a = (v : Int) ∧ 1 ≤ v ∧ v ≤ 64 := ⟨a.toNat, by omega, by omega, by omega⟩
end Go.Proofs.YtcihbcffokjgjaaGreat.Fn
namespace Go.Proofs.YtcihbcffokjgjaaGreat.Fn
open Go Go.RowKit Go.Proofs.YtcihbcffokjgjaaGreat.Ev Go.Proofs.YtcihbcffokjgjaaGreat.Bv
set_option linter.unusedVariables false
set_option linter.unusedSimpArgs false
set_option maxRecDepth 100000
open Classical in
theorem known_refused_j9 (fu : Nat) {r : Int} {n : Nat} {g : Nat → Int} (hl : n ≤ 1000) (d : Nat) : ∀ k i, i + d = n → d < k →
    known_refused.j9 fu k r n (n : Int) (i : Int) n g = some (if ∃ j, i ≤ j ∧ j < n ∧ g j = 0 then (0, 3) else (r, 0)) := by
  induction d with
  | zero =>
    intro k i hi hk
    obtain ⟨k, rfl⟩ : ∃ m, k = m + 1 := ⟨k - 1, by omega⟩
    obtain rfl : i = n := by omega
    have : ¬ ∃ j, i ≤ j ∧ j < i ∧ g j = 0 := by rintro ⟨j, h1, h2, _⟩; omega
    rw [known_refused.j9_succ, bifd_neg (by omega), if_neg this]
  | succ d ih =>
    intro k i hi hk
    obtain ⟨k, rfl⟩ : ∃ m, k = m + 1 := ⟨k - 1, by omega⟩
    rw [known_refused.j9_succ, bifd_pos (by omega), bifd_pos (by omega), bifd_pos (by omega)]
    rw [wrapi, wrapi_succ (by omega), Int.toNat_natCast]
    have hex : (∃ j, i ≤ j ∧ j < n ∧ g j = 0) ↔ g i = 0 ∨ ∃ j, i + 1 ≤ j ∧ j < n ∧ g j = 0 := by
      constructor
      · rintro ⟨j, h1, h2, h3⟩
        rcases Nat.lt_or_ge i j with h | h
        · exact .inr ⟨j, h, h2, h3⟩
        · obtain rfl : j = i := by omega
          exact .inl h3
      · rintro (h | ⟨j, h1, h2, h3⟩)
        · exact ⟨i, Nat.le_refl _, by omega, h⟩
        · exact ⟨j, by omega, h2, h3⟩
    rw [hex]
    by_cases h : g i = 0
    · simp [h]
    · rw [show (g i == 0) = false by simpa using h, cond_false, ih k (i + 1) (by omega) (by omega)]; simp [h]
open Classical in
theorem known_refused_eq {op w : Int} {x : Nat} (hx : x < 18446744073709551616) (n m : Nat) (g : Nat → Int) : known_refused.f op w x (n, g) (m : Int) = some (chkS op w x n m g) := by
  unfold known_refused.f known_refused.g chkS
  simp only [opinfo_Width_eq hx, opinfo_Pattern_eq, Option.bind_some]
  by_cases h1 : m ≠ n
  · rw [if_pos h1, show ((m : Int) != (n : Int)) = true by rw [bne_iff_ne]; omega]; rfl
  · rw [if_neg h1, show ((m : Int) != (n : Int)) = false by rw [bne_eq_false_iff_eq]; omega, cond_false]
    by_cases h2 : (widthS op w x n g).2 ≠ 0
    · rw [if_pos h2, show ((widthS op w x n g).2 != 0) = true by rw [bne_iff_ne]; exact h2]; rfl
    · rw [if_neg h2, show ((widthS op w x n g).2 != 0) = false by rw [bne_eq_false_iff_eq]; exact Decidable.not_not.1 h2, cond_false]
      by_cases h3 : op = 24 ∨ op = 25 ∨ op = 26
      · rw [if_pos h3, bifd_pos h3]
      · rw [if_neg h3, bifd_neg h3]
        have hs := widthS_small (Decidable.not_not.1 h2)
        have hn : n ≤ 3 := by omega
        have hb : Nat.ble ((1 + n) * 8) 140737488355328 = true := by rw [Nat.ble_eq]; omega
        rw [hb, cond_true]
        have := known_refused_j9 (fuel0 + 1) (r := (widthS op w x n g).1) (n := 1 + n) (g := cat 1 (fun i => [(widthS op w x n g).1].getD i 0) g) (by omega) (1 + n) (fuel0 + 1) 0 (by omega) (fuel_gt (by omega))
        rw [show ((0 : Nat) : Int) = 0 from rfl] at this
        rw [show ((1 : Int) + (n : Int)) = ((1 + n : Nat) : Int) by omega, this]
        congr 1
        have hex : (∃ j, 0 ≤ j ∧ j < 1 + n ∧ cat 1 (fun i => [(widthS op w x n g).1].getD i 0) g j = 0) ↔ ((widthS op w x n g).1 = 0 ∨ ∃ j, j < n ∧ g j = 0) := by
          constructor
          · rintro ⟨j, _, h1, h2⟩
            cases j with
            | zero => exact .inl h2
            | succ j =>
              refine .inr ⟨j, by omega, ?_⟩
              have e : cat 1 (fun i => [(widthS op w x n g).1].getD i 0) g (j + 1) = g j := by
                unfold cat; rw [show (j + 1).blt 1 = false from rfl, cond_false]; congr 1
              rw [e] at h2; exact h2
          · rintro (h | ⟨j, h1, h2⟩)
            · exact ⟨0, by omega, by omega, h⟩
            · refine ⟨j + 1, by omega, by omega, ?_⟩
              have e : cat 1 (fun i => [(widthS op w x n g).1].getD i 0) g (j + 1) = g j := by
                unfold cat; rw [show (j + 1).blt 1 = false from rfl, cond_false]; congr 1
              rw [e]; exact h2
        simp only [hex]
end Go.Proofs.YtcihbcffokjgjaaGreat.Fn
namespace Go.Proofs.YtcihbcffokjgjaaGreat.Fn
open Go Go.RowKit Go.Proofs.YtcihbcffokjgjaaGreat.Ev Go.Proofs.YtcihbcffokjgjaaGreat.Bv
set_option linter.unusedVariables false
set_option linter.unusedSimpArgs false
theorem beq_one (b : Bool) : ((b.toNat : Int) == 1) = b := by cases b <;> rfl
theorem saturateref01_Negative_eq (a : Int) {x : Nat} (hx : x < 18446744073709551616) : saturateref01_Negative.f a x = some (x.testBit (W a - 1)) := by
  unfold saturateref01_Negative.f; rw [saturateref01_W_eq]; simp only [Option.bind_some]
  rw [wrapi, wrapi_pred (W_pos a) (W_le a), saturateref01_Bit_eq hx]; simp only [Option.bind_some]
  rw [beq_one]
theorem saturateref01_Signed_eq (a : Int) {x : Nat} (hx : x < 18446744073709551616) : saturateref01_Signed.f a x = some (sgn (W a) x) := by
  unfold saturateref01_Signed.f; rw [saturateref01_Cut_eq a hx, saturateref01_Negative_eq a hx, saturateref01_Mask_eq a]; simp only [Option.bind_some, wrapi]
  have h1 := W_pos a
  have h2 := W_le a
  have h3 := sgn_range (x := x) h1 h2
  have h4 := testBit_top (x := x) h1
  have h5 := Nat.mod_lt x (pw_pos (W a))
  have h6 := two_pow_pred h1
  have h7 := pw_le h2
  unfold sgn at h3 ⊢
  unfold vmask vcut
  by_cases ht : x.testBit (W a - 1)
  · rw [ht] at h4
    have h8 : 2 ^ (W a - 1) ≤ x % 2 ^ W a := by simpa using h4.symm
    rw [ht, cond_true, if_pos rfl, wrapu_sub_le (by omega) (by omega)]
    rw [wrapi_of (a := ((2 ^ W a - 1 - x % 2 ^ W a : Nat) : Int)) (by omega) (by omega), wrapi_of (a := 0 - _) (by omega) (by omega), wrapi_of (by omega) (by omega)]
    congr 1; omega
  · have ht' : x.testBit (W a - 1) = false := by simpa using ht
    rw [ht'] at h4
    have h8 : ¬ 2 ^ (W a - 1) ≤ x % 2 ^ W a := by simpa using h4.symm
    rw [ht', cond_false, if_neg (by decide), wrapi_of (by omega) (by omega)]
theorem saturateref01_And_j3 (fu : Nat) {x y : Nat} (hx : x < 18446744073709551616) (hy : y < 18446744073709551616) (d : Nat) : ∀ (k i w : Nat), w ≤ 64 → w - i = d → i ≤ w → d < k →
    saturateref01_And.j3 (fu + 1) k x y (bld (fun j => x.testBit j && y.testBit j) i : Int) w i = some (bld (fun j => x.testBit j && y.testBit j) w : Int) := by
  induction d with
  | zero =>
    intro k i w hw hd hi hk
    obtain ⟨k, rfl⟩ : ∃ m, k = m + 1 := ⟨k - 1, by omega⟩
    obtain rfl : i = w := by omega
    rw [saturateref01_And.j3_succ, bifd_neg (by omega)]
  | succ d ih =>
    intro k i w hw hd hi hk
    obtain ⟨k, rfl⟩ : ∃ m, k = m + 1 := ⟨k - 1, by omega⟩
    have hst := bld_step (fun j => x.testBit j && y.testBit j) (i := i) (by omega)
    have hn := ih k (i + 1) w hw (by omega) (by omega) (by omega)
    rw [saturateref01_And.j3_succ, bifd_pos (by omega)]
    simp only [saturateref01_And.p7_eq, saturateref01_Bit_eq hx, saturateref01_Bit_eq hy, Option.bind_some, beq_one]
    rw [wrapu_of (by omega), wrapi, wrapi_succ (by omega), bifd_neg (by omega)]
    have hb : bld (fun j => x.testBit j && y.testBit j) (i + 1) = bld (fun j => x.testBit j && y.testBit j) i ||| ((x.testBit i && y.testBit i).toNat <<< i) := rfl
    cases h1 : x.testBit i with
    | false =>
      rw [cond_false]
      rw [hb, h1] at hn; simpa using hn
    | true =>
      rw [cond_true]
      cases h2 : y.testBit i with
      | false =>
        rw [cond_false]
        rw [hb, h1, h2] at hn; simpa using hn
      | true =>
        rw [cond_true]
        simp only [h1, h2] at hst
        rw [show (1 : Int) = ((true && true).toNat : Int) from rfl, hst]; exact hn
theorem saturateref01_And_eq (a : Int) {x y : Nat} (hx : x < 18446744073709551616) (hy : y < 18446744073709551616) : saturateref01_And.f a x y = some (vand (W a) x y : Int) := by
  unfold saturateref01_And.f saturateref01_And.g; rw [saturateref01_W_eq]; simp only [Option.bind_some]
  have hw := W_le a
  have := saturateref01_And_j3 fuel0 hx hy (W a) (fuel0 + 1) 0 (W a) (W_le a) (by omega) (by omega) (fuel_gt (by omega))
  rw [show bld (fun j => x.testBit j && y.testBit j) (W a) = vand (W a) x y from bld_eq (Nat.mod_lt _ (pw_pos _)) (fun i hi => by unfold vand; simp [hi])] at this; exact this
theorem saturateref01_Or_eq (a : Int) {x y : Nat} (hx : x < 18446744073709551616) (hy : y < 18446744073709551616) : saturateref01_Or.f a x y = some (vor (W a) x y : Int) := by
  unfold saturateref01_Or.f; rw [saturateref01_Not_eq a hx, saturateref01_Not_eq a hy]; simp only [Option.bind_some]
  rw [saturateref01_And_eq a (vnot_lt x (W_le a)) (vnot_lt y (W_le a))]; simp only [Option.bind_some]
  rw [saturateref01_Not_eq a (vand_lt _ _ (W_le a))]; simp only [Option.bind_some]
  rw [vor_eq]
theorem saturateref01_Xor_eq (a : Int) {x y : Nat} (hx : x < 18446744073709551616) (hy : y < 18446744073709551616) : saturateref01_Xor.f a x y = some (vxor (W a) x y : Int) := by
  unfold saturateref01_Xor.f; rw [saturateref01_Or_eq a hx hy, saturateref01_And_eq a hx hy]; simp only [Option.bind_some]
  rw [wrapu_sub_le (vor_lt _ _ (W_le a)) (vand_le_vor _ _ _), vxor_eq]
theorem saturateref01_Mul_j3 (fu : Nat) (a : Int) {x y : Nat} (hx : x < 18446744073709551616) (hy : y < 18446744073709551616) (n : Nat) : ∀ (k : Nat), n < k → n ≤ 64 →
    saturateref01_Mul.j3 (fu + 1) k a x y (vmul (W a) x (y % 2 ^ W a / 2 ^ n) : Int) ((n : Int) - 1) = some (vmul (W a) x (y % 2 ^ W a) : Int) ∨ W a < n := by
  induction n with
  | zero =>
    intro k hk hn
    obtain ⟨k, rfl⟩ : ∃ m, k = m + 1 := ⟨k - 1, by omega⟩
    left
    rw [saturateref01_Mul.j3_succ, bifd_neg (by omega)]; simp
  | succ n ih =>
    intro k hk hn
    by_cases hw : W a < n + 1
    · exact .inr hw
    left
    obtain ⟨k, rfl⟩ : ∃ m, k = m + 1 := ⟨k - 1, by omega⟩
    have hih := (ih k (by omega) (by omega)).resolve_right (by omega)
    have e : (((n + 1 : Nat) : Int) - 1) = (n : Int) := by omega
    have hl := vmul_lt x (y % 2 ^ W a / 2 ^ (n + 1)) (W_le a)
    have hd := div_succ (y % 2 ^ W a) n
    have ht : (y % 2 ^ W a).testBit n = y.testBit n := by rw [Nat.testBit_mod_two_pow]; have : n < W a := by omega
                                                          simp [this]
    rw [ht] at hd
    rw [saturateref01_Mul.j3_succ, e, bifd_pos (Int.natCast_nonneg _)]
    simp only [saturateref01_Mul.p4_eq]
    rw [saturateref01_Add_eq a hl hl, saturateref01_Bit_eq hy]; simp only [Option.bind_some]
    rw [wrapi, wrapi_of (a := (n : Int) - 1) (by omega) (by omega), beq_one]
    generalize y % 2 ^ W a / 2 ^ (n + 1) = q at *
    cases hb : y.testBit n with
    | false =>
      rw [cond_false]
      rw [hb] at hd
      rw [show vadd (W a) (vmul (W a) x q) (vmul (W a) x q) = vmul (W a) x (y % 2 ^ W a / 2 ^ n) by
        rw [hd]; unfold vadd vmul; rw [← Nat.add_mod, ← Nat.mul_add]; congr 2; simp; omega]
      exact hih
    | true =>
      rw [cond_true, saturateref01_Add_eq a (vadd_lt _ _ (W_le a)) hx]; simp only [Option.bind_some]
      rw [hb] at hd
      rw [show vadd (W a) (vadd (W a) (vmul (W a) x q) (vmul (W a) x q)) x = vmul (W a) x (y % 2 ^ W a / 2 ^ n) by
        rw [hd]; unfold vadd vmul; rw [← Nat.add_mod, Nat.mod_add_mod]; congr 1
        rw [show true.toNat = 1 from rfl, Nat.mul_add, Nat.mul_one, Nat.two_mul, Nat.mul_add]]
      exact hih
theorem saturateref01_Mul_eq (a : Int) {x y : Nat} (hx : x < 18446744073709551616) (hy : y < 18446744073709551616) : saturateref01_Mul.f a x y = some (vmul (W a) x y : Int) := by
  have h1 := W_le a
  have h2 := W_pos a
  unfold saturateref01_Mul.f saturateref01_Mul.g; rw [saturateref01_W_eq]; simp only [Option.bind_some]
  have h := (saturateref01_Mul_j3 fuel0 a hx hy (W a) (fuel0 + 1) (fuel_gt (by omega)) h1).resolve_right (by omega)
  rw [Nat.div_eq_of_lt (Nat.mod_lt _ (pw_pos _))] at h
  rw [wrapi, wrapi_of (a := (W a : Int) - 1) (by omega) (by omega)]
  have e0 : vmul (W a) x 0 = 0 := by unfold vmul; simp
  rw [e0] at h
  have e1 : vmul (W a) x (y % 2 ^ W a) = vmul (W a) x y := by unfold vmul; rw [Nat.mul_mod_mod]
  rw [e1] at h
  exact h
theorem saturateref01_divide_j3 (fu : Nat) {x y : Nat} (hx : x < 18446744073709551616) (hy : y < 18446744073709551616) (hy0 : 0 < y) (n : Nat) : ∀ (k Q r : Nat), n < k → n ≤ 64 → r < y → x / 2 ^ n = Q * y + r →
    saturateref01_divide.j3 (fu + 1) k x y ((Q * 2 ^ n : Nat) : Int) r ((n : Int) - 1) = some (((x / y : Nat) : Int), ((x % y : Nat) : Int)) := by
  induction n with
  | zero =>
    intro k Q r hk hn hr he
    obtain ⟨k, rfl⟩ : ∃ m, k = m + 1 := ⟨k - 1, by omega⟩
    rw [saturateref01_divide.j3_succ, bifd_neg (by omega)]
    simp at he
    have h1 : x / y = Q := by rw [he, Nat.mul_comm, Nat.mul_add_div hy0, Nat.div_eq_of_lt hr]; simp
    have h2 : x % y = r := by rw [he, Nat.mul_comm, Nat.mul_add_mod, Nat.mod_eq_of_lt hr]
    rw [h1, h2]; simp
  | succ n ih =>
    intro k Q r hk hn hr he
    obtain ⟨k, rfl⟩ : ∃ m, k = m + 1 := ⟨k - 1, by omega⟩
    have e : (((n + 1 : Nat) : Int) - 1) = (n : Int) := by omega
    have hd := div_succ x n
    have hbt := toNat_le (x.testBit n)
    have hQ : Q * 2 ^ (n + 1) ≤ x := by
      have h1 : Q ≤ x / 2 ^ (n + 1) := by rw [he]; have := Nat.le_mul_of_pos_right Q hy0; omega
      exact Nat.le_trans (Nat.mul_le_mul_right _ h1) (Nat.div_mul_le_self _ _)
    have hp : 2 ^ (n + 1) = 2 * 2 ^ n := by rw [Nat.pow_succ, Nat.mul_comm]
    have e63 : (63 : Int) = ((63 : Nat) : Int) := rfl
    have h63 : r.testBit 63 = decide (9223372036854775808 ≤ r) := by
      have := testBit_top (w := 64) (x := r) (by decide)
      rw [show (64 : Nat) - 1 = 63 from rfl, p63, p64, Nat.mod_eq_of_lt (by omega)] at this; exact this
    rw [saturateref01_divide.j3_succ, e, bifd_pos (Int.natCast_nonneg _)]
    simp only [saturateref01_divide.p4_eq]
    rw [e63, saturateref01_Bit_eq (by omega), saturateref01_Bit_eq hx, wrapu_of (by omega)]; simp only [Option.bind_some]
    rw [bifd_neg (by omega), beq_one]
    rw [wrapi, wrapi_of (a := (n : Int) - 1) (by omega) (by omega), show (2 : Int) = ((2 : Nat) : Int) from rfl]
    simp only [wrapu_mul, wrapu_add]
    rw [he] at hd
    have hq1 : Go.bits .or .u64 ((Q * 2 ^ (n + 1) : Nat) : Int) (shl .u64 1 (n : Int)) = (((2 * Q + 1) * 2 ^ n : Nat) : Int) := by
      have e1 : (1 : Int) = ((1 : Nat) : Int) := rfl
      have h2n : 2 ^ n < 18446744073709551616 := by rw [← p64]; exact Nat.pow_lt_pow_right (by decide) (by omega)
      rw [e1, shl64, Nat.one_shiftLeft, Nat.mod_eq_of_lt h2n, or64 (by omega) h2n]
      congr 1
      have := Nat.two_pow_add_eq_or_of_lt (i := n + 1) (b := 2 ^ n) (by rw [hp]; have := pw_pos n; omega) Q
      rw [Nat.mul_comm Q, ← this, hp, Nat.add_mul, Nat.one_mul, Nat.mul_right_comm]
    generalize (x.testBit n).toNat = b at *
    have hr2 : (r * 2 % 18446744073709551616 + b) % 18446744073709551616 = (2 * r + b) % 18446744073709551616 := by omega
    rw [hr2]
    have fin1 : y ≤ 2 * r + b → x / 2 ^ n = (2 * Q + 1) * y + (2 * r + b - y) := by
      intro h
      rw [hd, Nat.add_mul, Nat.mul_assoc]; omega
    have fin0 : x / 2 ^ n = (2 * Q) * y + (2 * r + b) := by rw [hd, Nat.mul_assoc]; omega
    have hs : y ≤ 2 * r + b → IntKind.u64.wrap ((((2 * r + b) % 18446744073709551616 : Nat) : Int) - (y : Int)) = ((2 * r + b - y : Nat) : Int) := by
      intro h
      rw [wrapu_sub hy]; omega
    rw [h63]
    by_cases ho : 9223372036854775808 ≤ r
    · rw [decide_eq_true ho, cond_true, hs (by omega), hq1]
      exact ih k (2 * Q + 1) _ (by omega) (by omega) (by omega) (fin1 (by omega))
    · rw [decide_eq_false ho, cond_false]
      by_cases hge : y ≤ 2 * r + b
      · rw [bifd_pos (by omega), hs hge, hq1]
        exact ih k (2 * Q + 1) _ (by omega) (by omega) (by omega) (fin1 hge)
      · rw [bifd_neg (by omega), Nat.mod_eq_of_lt (by omega)]
        have := ih k (2 * Q) (2 * r + b) (by omega) (by omega) (by omega) fin0
        rw [show Q * 2 ^ (n + 1) = 2 * Q * 2 ^ n by rw [hp, Nat.mul_left_comm, Nat.mul_assoc]]
        exact this
theorem saturateref01_divide_eq {x y : Nat} (hx : x < 18446744073709551616) (hy : y < 18446744073709551616) (hy0 : 0 < y) : saturateref01_divide.f x y = some (((x / y : Nat) : Int), ((x % y : Nat) : Int)) := by
  unfold saturateref01_divide.f saturateref01_divide.g
  have := saturateref01_divide_j3 fuel0 hx hy hy0 64 (fuel0 + 1) 0 0 (fuel_gt (by decide)) (by omega) hy0 (by rw [Nat.div_eq_of_lt (lt_pw hx)]; simp)
  simpa using this
theorem saturateref01_Udiv_eq (a : Int) {x y : Nat} (hx : x < 18446744073709551616) (hy : y < 18446744073709551616) : saturateref01_Udiv.f a x y = some (vudiv (W a) x y : Int) := by
  unfold saturateref01_Udiv.f; rw [saturateref01_Cut_eq a hx, saturateref01_Cut_eq a hy, saturateref01_Mask_eq a]; simp only [Option.bind_some]
  unfold vudiv
  by_cases h : y % 2 ^ W a = 0
  · rw [show ((vcut (W a) y : Int) == 0) = true by unfold vcut; rw [h]; rfl, cond_true, if_pos h]; rfl
  · rw [show ((vcut (W a) y : Int) == 0) = false by rw [beq_eq_false_iff_ne]; unfold vcut; omega, cond_false, if_neg h, saturateref01_divide_eq (vcut_lt x (W_le a)) (vcut_lt y (W_le a)) (by unfold vcut; omega)]; rfl
theorem saturateref01_Urem_eq (a : Int) {x y : Nat} (hx : x < 18446744073709551616) (hy : y < 18446744073709551616) : saturateref01_Urem.f a x y = some (vurem (W a) x y : Int) := by
  unfold saturateref01_Urem.f; rw [saturateref01_Cut_eq a hx, saturateref01_Cut_eq a hy]; simp only [Option.bind_some]
  unfold vurem
  by_cases h : y % 2 ^ W a = 0
  · rw [show ((vcut (W a) y : Int) == 0) = true by unfold vcut; rw [h]; rfl, cond_true, if_pos h]; rfl
  · rw [show ((vcut (W a) y : Int) == 0) = false by rw [beq_eq_false_iff_ne]; unfold vcut; omega, cond_false, if_neg h, saturateref01_divide_eq (vcut_lt x (W_le a)) (vcut_lt y (W_le a)) (by unfold vcut; omega)]; rfl
theorem saturateref01_Ashr_eq (a : Int) {x y : Nat} (hx : x < 18446744073709551616) (hy : y < 18446744073709551616) : saturateref01_Ashr.f a x y = some (vashr (W a) x y : Int) := by
  unfold saturateref01_Ashr.f; rw [saturateref01_by_eq a hy, saturateref01_W_eq]; simp only [Option.bind_some]
  rw [wrapi, wrapi_pred (W_pos a) (W_le a), saturateref01_Bit_eq hx]; simp only [Option.bind_some]
  rw [saturateref01_shift_eq a hx _ (by omega) (by omega)]; simp only [Option.bind_some]
  rw [shf_ashr (W_le a)]
theorem saturateref01_truth_eq (p : Prop) [Decidable p] : saturateref01_truth.f (decide p) = some ((if p then 1 else 0 : Nat) : Int) := by
  unfold saturateref01_truth.f; by_cases h : p <;> simp [h]
theorem saturateref01_Eq_eq (a : Int) {x y : Nat} (hx : x < 18446744073709551616) (hy : y < 18446744073709551616) : saturateref01_Eq.f a x y = some (veq (W a) x y : Int) := by
  unfold saturateref01_Eq.f; rw [saturateref01_Cut_eq a hx, saturateref01_Cut_eq a hy]; simp only [Option.bind_some]
  rw [beq_nat, saturateref01_truth_eq]; rfl
theorem saturateref01_Ult_eq (a : Int) {x y : Nat} (hx : x < 18446744073709551616) (hy : y < 18446744073709551616) : saturateref01_Ult.f a x y = some (vult (W a) x y : Int) := by
  unfold saturateref01_Ult.f; rw [saturateref01_Cut_eq a hx, saturateref01_Cut_eq a hy]; simp only [Option.bind_some]
  rw [saturateref01_truth_eq]; unfold vult vcut; simp only [Int.ofNat_lt, Option.bind_some]
theorem saturateref01_Slt_eq (a : Int) {x y : Nat} (hx : x < 18446744073709551616) (hy : y < 18446744073709551616) : saturateref01_Slt.f a x y = some (vslt (W a) x y : Int) := by
  unfold saturateref01_Slt.f; rw [saturateref01_Signed_eq a hx, saturateref01_Signed_eq a hy]; simp only [Option.bind_some]
  rw [saturateref01_truth_eq]; rfl
theorem saturateref01_Extract_j5 (fu : Nat) (low : Nat) (hlow : low ≤ 63) {x : Nat} (hx : x < 18446744073709551616) (d : Nat) : ∀ (k i w : Nat), w ≤ 64 → w - i = d → i ≤ w → d < k →
    saturateref01_Extract.j5 fu k low x (bld (fun j => x.testBit (low + j)) i : Int) w i = some (bld (fun j => x.testBit (low + j)) w : Int) := by
  induction d with
  | zero =>
    intro k i w hw hd hi hk
    obtain ⟨k, rfl⟩ : ∃ m, k = m + 1 := ⟨k - 1, by omega⟩
    obtain rfl : i = w := by omega
    rw [saturateref01_Extract.j5_succ, bifd_neg (by omega)]
  | succ d ih =>
    intro k i w hw hd hi hk
    obtain ⟨k, rfl⟩ : ∃ m, k = m + 1 := ⟨k - 1, by omega⟩
    rw [saturateref01_Extract.j5_succ, bifd_pos (by omega), wrapi, wrapi, wrapi_of (a := (low : Int) + (i : Int)) (by omega) (by omega), ← Int.natCast_add, saturateref01_Bit_eq hx, wrapu_of (by omega)]; simp only [Option.bind_some]
    rw [bifd_neg (by omega), wrapi_succ (by omega), bld_step (fun j => x.testBit (low + j)) (by omega)]
    exact ih k (i + 1) w hw (by omega) (by omega) (by omega)
theorem saturateref01_Extract_eq (low : Nat) (w : Int) {x : Nat} (hx : x < 18446744073709551616) : saturateref01_Extract.f low w x = some (vextract low (W w) x : Int) := by
  unfold saturateref01_Extract.f saturateref01_Extract.g; rw [bifd_neg (by omega)]
  by_cases h : 63 < low
  · rw [bifd_pos (by omega), extract_far hx (by omega)]; rfl
  · rw [bifd_neg (by omega), saturateref01_W_eq]; simp only [Option.bind_some]
    have hw := W_le w
    have := saturateref01_Extract_j5 (fuel0 + 1) low (by omega) hx (W w) (fuel0 + 1) 0 (W w) (W_le w) (by omega) (by omega) (fuel_gt (by omega))
    rw [bld_extract low (W w) x] at this; exact this
end Go.Proofs.YtcihbcffokjgjaaGreat.Fn
namespace Go.Proofs.YtcihbcffokjgjaaGreat.Fn
open Go Go.RowKit Go.Proofs.YtcihbcffokjgjaaGreat.Ev Go.Proofs.YtcihbcffokjgjaaGreat.Bv
set_option linter.unusedVariables false
set_option linter.unusedSimpArgs false
theorem bits_Mul_eq (a : Int) {x y : Nat} : bits_Mul.f a x y = some (vmul (W a) x y : Int) := by
  unfold bits_Mul.f; rw [wrapu_mul, bits_Cut_eq a (Nat.mod_lt _ (by decide))]; simp only [Option.bind_some]
  unfold vcut vmul; rw [mod64_mod (W_le a)]
theorem bits_Udiv_eq (a : Int) {x y : Nat} (hx : x < 18446744073709551616) (hy : y < 18446744073709551616) : bits_Udiv.f a x y = some (vudiv (W a) x y : Int) := by
  unfold bits_Udiv.f; rw [bits_Cut_eq a hx, bits_Cut_eq a hy, bits_Mask_eq]; simp only [Option.bind_some]
  have hl := vudiv_lt x y (W_le a)
  unfold vudiv at *
  unfold vcut
  by_cases h : y % 2 ^ W a = 0
  · rw [if_pos h, h]; rfl
  · rw [if_neg h] at hl
    rw [show (((y % 2 ^ W a : Nat) : Int) == 0) = false by rw [beq_eq_false_iff_ne]; omega, cond_false, bifd_neg (by omega), if_neg h, tdiv_nat, wrapu_of hl]
theorem bits_Urem_eq (a : Int) {x y : Nat} (hx : x < 18446744073709551616) (hy : y < 18446744073709551616) : bits_Urem.f a x y = some (vurem (W a) x y : Int) := by
  unfold bits_Urem.f; rw [bits_Cut_eq a hx, bits_Cut_eq a hy]; simp only [Option.bind_some]
  unfold vurem vcut
  by_cases h : y % 2 ^ W a = 0
  · rw [if_pos h, h]; rfl
  · rw [show (((y % 2 ^ W a : Nat) : Int) == 0) = false by rw [beq_eq_false_iff_ne]; omega, cond_false, bifd_neg (by omega), if_neg h, tmod_nat]
theorem bits_shift_p10 (m fu : Nat) (a : Int) {x n : Nat} (hx : x < 18446744073709551616) :
    bits_shift.p10 (m + 1) fu (vcut (W a) x : Int) (n : Int) (decide ((n : Int) ≥ (IntKind.u64.wrap (W a : Int)))) = some (((x % 2 ^ W a) >>> n : Nat) : Int) := by
  have hw := W_le a
  rw [bits_shift.p10_eq, wrapu_of (by omega), bifd_neg (show ¬ ((n : Int) < 0) by omega), shr64 (vcut_lt x hw)]
  unfold vcut
  by_cases h : W a ≤ n
  · rw [bifd_pos (by omega), far_shr x h]; rfl
  · rw [bifd_neg (by omega)]
theorem bits_shift_shl (a : Int) {x y : Nat} (hx : x < 18446744073709551616) (hy : y < 18446744073709551616) : bits_shift.f 0 a x y = some (vshl (W a) x y : Int) := by
  have hw := W_le a
  unfold bits_shift.f bits_shift.g
  rw [bits_Cut_eq a hx, bits_Cut_eq a hy, bits_clamp_eq]; simp only [Option.bind_some]
  rw [show ((0 : Int) == 2) = false from rfl, show ((0 : Int) == 1) = false from rfl, cond_false, cond_false, wrapu_of (by omega)]
  unfold vshl
  by_cases h : W a ≤ vcut (W a) y
  · rw [bifd_pos (by omega)]
    unfold vcut at h
    rw [far_shl x h]; rfl
  · rw [bifd_neg (by omega), bifd_neg (by omega), shl64, bits_Cut_eq a (Nat.mod_lt _ (by decide))]; simp only [Option.bind_some]
    unfold vcut
    rw [mod64_mod hw, Nat.mod_two_pow_shiftLeft_mod_two_pow]
theorem bits_shift_lshr (a : Int) {x y : Nat} (hx : x < 18446744073709551616) (hy : y < 18446744073709551616) : bits_shift.f 1 a x y = some (vlshr (W a) x y : Int) := by
  unfold bits_shift.f bits_shift.g
  rw [bits_Cut_eq a hx, bits_Cut_eq a hy, bits_clamp_eq]; simp only [Option.bind_some]
  rw [show ((1 : Int) == 2) = false from rfl, show ((1 : Int) == 1) = true from rfl, cond_false, cond_true, bits_shift_p10 _ _ a hx]
  rfl
theorem bits_shift_ashr (a : Int) {x y : Nat} (hx : x < 18446744073709551616) (hy : y < 18446744073709551616) : bits_shift.f 2 a x y = some (vashr (W a) x y : Int) := by
  have hw := W_le a
  unfold bits_shift.f bits_shift.g
  rw [bits_Cut_eq a hx, bits_Cut_eq a hy, bits_clamp_eq]; simp only [Option.bind_some]
  rw [show ((2 : Int) == 2) = true from rfl, cond_true, bits_Signed_eq a (vcut_lt x hw), sgn_cut (W_pos a), bits_shift_p10 _ _ a hx, bits_Mask_eq]; simp only [Option.bind_some]
  rw [wrapu_of (by omega)]
  unfold vashr
  by_cases ht : x.testBit (W a - 1)
  · rw [bifd_pos ((sgn_neg (W_pos a)).2 ht), if_pos ht]
    by_cases h : W a ≤ vcut (W a) y
    · rw [bifd_pos (by omega)]
      unfold vcut at h
      rw [far_sub _ h]
    · rw [bifd_neg (by omega), bifd_neg (by omega), signed_shr (W_pos a) hw ht (by omega), bits_Cut_eq a (Nat.lt_of_le_of_lt (Nat.sub_le _ _) (by decide))]; simp only [Option.bind_some]
      rw [signed_shr_cut hw]; rfl
  · rw [bifd_neg (fun h => ht ((sgn_neg (W_pos a)).1 h)), if_neg ht]; rfl
theorem bits_Shl_eq (a : Int) {x y : Nat} (hx : x < 18446744073709551616) (hy : y < 18446744073709551616) : bits_Shl.f a x y = some (vshl (W a) x y : Int) := by
  unfold bits_Shl.f; rw [bits_shift_shl a hx hy]; rfl
theorem bits_Lshr_eq (a : Int) {x y : Nat} (hx : x < 18446744073709551616) (hy : y < 18446744073709551616) : bits_Lshr.f a x y = some (vlshr (W a) x y : Int) := by
  unfold bits_Lshr.f; rw [bits_shift_lshr a hx hy]; rfl
theorem bits_Ashr_eq (a : Int) {x y : Nat} (hx : x < 18446744073709551616) (hy : y < 18446744073709551616) : bits_Ashr.f a x y = some (vashr (W a) x y : Int) := by
  unfold bits_Ashr.f; rw [bits_shift_ashr a hx hy]; rfl
theorem bits_flag_eq (p : Prop) [Decidable p] : bits_flag.f (decide p) = some ((if p then 1 else 0 : Nat) : Int) := by
  unfold bits_flag.f; by_cases h : p <;> simp [h]
theorem bits_Ult_eq (a : Int) {x y : Nat} (hx : x < 18446744073709551616) (hy : y < 18446744073709551616) : bits_Ult.f a x y = some (vult (W a) x y : Int) := by
  unfold bits_Ult.f; rw [bits_Cut_eq a hx, bits_Cut_eq a hy]; simp only [Option.bind_some]
  rw [bits_flag_eq]; unfold vult vcut; simp only [Int.ofNat_lt, Option.bind_some]
theorem bits_Slt_eq (a : Int) {x y : Nat} (hx : x < 18446744073709551616) (hy : y < 18446744073709551616) : bits_Slt.f a x y = some (vslt (W a) x y : Int) := by
  unfold bits_Slt.f; rw [bits_Signed_eq a hx, bits_Signed_eq a hy]; simp only [Option.bind_some]
  rw [bits_flag_eq]; rfl
theorem bits_Extract_eq (low : Nat) (w : Int) {x : Nat} (hx : x < 18446744073709551616) : bits_Extract.f low w x = some (vextract low (W w) x : Int) := by
  unfold bits_Extract.f
  rw [bifd_neg (by omega), bifd_neg (by omega), shr64 hx, bits_Cut_eq w (Nat.lt_of_le_of_lt (shr_le _ _) hx)]; rfl
end Go.Proofs.YtcihbcffokjgjaaGreat.Fn
namespace Go.Proofs.YtcihbcffokjgjaaGreat.Fn
open Go Go.RowKit Go.Proofs.YtcihbcffokjgjaaGreat.Ev Go.Proofs.YtcihbcffokjgjaaGreat.Bv
set_option linter.unusedVariables false
set_option linter.unusedSimpArgs false
structure El (w : Nat) (k : Nat × Nat) : Prop where
  l1 : k.1 < U64
  l2 : k.2 < U64
  ok : kok (vmask w) k.1 k.2
theorem el_kof {w z o : Nat} (hz : z < U64) (ho : o < U64) : El w (kof (vmask w) z o) := ⟨(kof_lt hz ho).1, (kof_lt hz ho).2, kof_kok _ _ _⟩
theorem El.kof {w : Nat} {k : Nat × Nat} (h : El w k) : kof (vmask w) k.1 k.2 = k := kof_of h.ok
theorem El.and {w : Nat} {k : Nat × Nat} (h : El w k) : k.1 &&& k.2 = 0 := h.ok.1
theorem El.m1 {w : Nat} {k : Nat × Nat} (h : El w k) (hw : w ≤ 64) : k.1 ≤ vmask w := (kok_le hw h.l1 h.l2 h.ok).1
theorem El.m2 {w : Nat} {k : Nat × Nat} (h : El w k) (hw : w ≤ 64) : k.2 ≤ vmask w := (kok_le hw h.l1 h.l2 h.ok).2
theorem El.b1 {w : Nat} {k : Nat × Nat} (h : El w k) (hw : w ≤ 64) {i : Nat} (hi : w ≤ i) : k.1.testBit i = false := testBit_ge (lt_of_le_mask (h.m1 hw)) hi
theorem El.b2 {w : Nat} {k : Nat × Nat} (h : El w k) (hw : w ≤ 64) {i : Nat} (hi : w ≤ i) : k.2.testBit i = false := testBit_ge (lt_of_le_mask (h.m2 hw)) hi
theorem El.dis {w : Nat} {k : Nat × Nat} (h : El w k) (i : Nat) : k.1.testBit i = true → k.2.testBit i = false := by
  have := bit_of h.and i
  rw [Nat.testBit_and, Nat.zero_testBit] at this
  revert this; cases k.1.testBit i <;> cases k.2.testBit i <;> decide
theorem El.of_bits {w : Nat} (hw : w ≤ 64) {f g : Nat → Bool} (h : ∀ i, i < w → f i = true → g i = false) : El w (bld f w, bld g w) := by
  refine ⟨bld_lt64 _ hw, bld_lt64 _ hw, ?_⟩
  rw [kok_iff hw (bld_lt64 _ hw) (bld_lt64 _ hw)]
  refine ⟨bits_ext fun i => ?_, le_mask_of (bld_lt _ _), le_mask_of (bld_lt _ _)⟩
  rw [Nat.testBit_and, testBit_bld, testBit_bld, Nat.zero_testBit]
  by_cases hi : i < w
  · have := h i hi
    rw [decide_eq_true hi]; revert this; cases f i <;> cases g i <;> decide
  · rw [decide_eq_false hi]; rfl
theorem el_cst {w : Nat} (h1 : 1 ≤ w) (hw : w ≤ 64) (x : Nat) : El w (kcst w x) := by
  have := kcst_ok (w : Int) x
  rw [MK, W_of h1 hw] at this
  exact ⟨(kcst_lt w x hw).1, (kcst_lt w x hw).2, this⟩
theorem el_sum {w : Nat} (hw : w ≤ 64) (c : Nat) (a b : Nat × Nat) : El w (ksum w c a b) := by
  refine El.of_bits hw fun i _ => ?_
  unfold sumZ sumO
  cases opn c a.2 b.2 (vnot 64 a.1) (vnot 64 b.1) i <;> cases sbit c a.2 b.2 i <;> decide
def uF (op : Int) (x v : Nat) (k : Nat × Nat) (i : Nat) : Bool := if op = 21 then k.1.testBit (i + x) else if i < v then k.1.testBit i else if op = 23 then k.1.testBit (v - 1) else true
def uG (op : Int) (x v : Nat) (k : Nat × Nat) (i : Nat) : Bool := if op = 21 then k.2.testBit (i + x) else if i < v then k.2.testBit i else if op = 23 then k.2.testBit (v - 1) else false
def kunaS (op : Int) (r x v : Nat) (k : Nat × Nat) : Nat × Nat :=
  if op = 3 then (k.2, k.1) else if op = 4 then ksum v 1 (kcst v 0) (k.2, k.1) else (bld (uF op x v k) r, bld (uG op x v k) r)
theorem hi_bits {r v : Nat} (v2 : v ≤ 64) (r2 : r ≤ 64) (i : Nat) : (vmask r &&& (18446744073709551615 - vmask v)).testBit i = (decide (i < r) && !decide (i < v)) := by
  rw [Nat.testBit_and, testBit_mask, testBit_comp (vmask_lt v2), testBit_mask]
  by_cases h : i < r
  · rw [decide_eq_true h, decide_eq_true (show i < 64 by omega)]; simp
  · rw [decide_eq_false h]; rfl
theorem and_sign {v a : Nat} (v1 : 1 ≤ v) (v2 : v ≤ 64) (ha : a < U64) : (Go.bits .and .u64 (a : Int) (shl .u64 1 (IntKind.i64.wrap ((v : Int) - 1))) != 0) = a.testBit (v - 1) := by
  have h2 : 2 ^ (v - 1) < 18446744073709551616 := by rw [← p64]; exact Nat.pow_lt_pow_right (by decide) (by omega)
  rw [wrapi, wrapi_pred v1 v2, show (1 : Int) = ((1 : Nat) : Int) from rfl, shl64, Nat.one_shiftLeft, Nat.mod_eq_of_lt h2, and64 ha h2, cast0n]
  have e : a &&& 2 ^ (v - 1) = (a.testBit (v - 1)).toNat * 2 ^ (v - 1) := by
    refine bits_ext fun i => ?_
    rw [Nat.testBit_and, Nat.testBit_two_pow, ← Nat.shiftLeft_eq, testBit_toNat_shl]
    by_cases h : v - 1 = i
    · subst h; simp
    · simp [h]
  rw [e]
  cases a.testBit (v - 1)
  · simp
  · have := pw_pos (v - 1); simp
theorem prog_unary {op t : Int} {r x v : Nat} {k : Nat × Nat} (hk : El v k) (v1 : 1 ≤ v) (v2 : v ≤ 64) (r1 : 1 ≤ r) (r2 : r ≤ 64) (ho : op = 3 ∨ op = 4 ∨ op = 21 ∨ op = 22 ∨ op = 23) (hx : op = 21 → x + r ≤ v ∧ t = (x : Int)) (hr : op = 22 ∨ op = 23 → v ≤ r) :
    known_unary.f op r t v ((k.1 : Int), (k.2 : Int)) = some (((kunaS op r x v k).1 : Int), ((kunaS op r x v k).2 : Int)) := by
  unfold known_unary.f known_unary.g
  rw [bits_Mask_eq, Option.bind_some, bits_Mask_eq, Option.bind_some, W_of v1 v2, W_of r1 r2, andNot64 (vmask_lt r2) (vmask_lt v2)]
  simp only [and_sign v1 v2 hk.l1]
  have hH : vmask r &&& (18446744073709551615 - vmask v) < U64 := Nat.lt_of_le_of_lt Nat.and_le_left (vmask_lt r2)
  have hp := wrapi_pred v1 v2
  rw [bifd_neg (by rw [wrapi, hp]; omega)]
  simp only [known_unary.p17_eq, known_unary.p15_eq, and_sign v1 v2 hk.l2]
  rw [or64 hk.l1 hH, or64 hk.l2 hH]
  unfold kunaS
  rcases ho with rfl | rfl | rfl | rfl | rfl
  · rfl
  · rw [show ((4 : Int) == 3) = false from rfl, cond_false, show ((4 : Int) == 4) = true from rfl, cond_true]
    have e := known_Const_eq (v : Int) (x := 0) (by decide)
    have hc := el_cst v1 v2 0
    rw [W_of v1 v2] at e
    rw [show (0 : Int) = ((0 : Nat) : Int) from rfl, e, Option.bind_some]
    have := known_Sub_eq (v : Int) hc.l1 hc.l2 hk.l1 hk.l2
    rw [MK, W_of v1 v2, hc.kof, hk.kof] at this
    simp only at this ⊢
    rw [this]; rfl
  · obtain ⟨h1, rfl⟩ := hx rfl
    simp only [Int.reduceBEq, cond_false, cond_true, Int.reduceEq, if_false]
    rw [bits_Extract_eq _ _ hk.l1, bits_Extract_eq _ _ hk.l2, Option.bind_some, Option.bind_some, W_of r1 r2]
    have e : ∀ a : Nat, vextract x r a = bld (fun i => a.testBit (i + x)) r := fun a => bits_ext fun i => by
      unfold vextract; rw [Nat.testBit_mod_two_pow, Nat.testBit_shiftRight, testBit_bld, Nat.add_comm]
    rw [e, e]
    rfl
  · have hv := hr (.inl rfl)
    simp only [Int.reduceBEq, cond_false, cond_true, Int.reduceEq, if_false]
    rw [Option.some_inj, Prod.mk.injEq]
    refine ⟨congrArg (fun n : Nat => (n : Int)) (bits_ext fun i => ?_), congrArg (fun n : Nat => (n : Int)) (bits_ext fun i => ?_)⟩
    · rw [Nat.testBit_or, hi_bits v2 r2, testBit_bld]; unfold uF; rw [if_neg (by decide), if_neg (show ¬ ((22 : Int) = 23) by decide)]
      by_cases h : i < v
      · rw [if_pos h, decide_eq_true (show i < r by omega), decide_eq_true h]; simp
      · rw [if_neg h, hk.b1 v2 (by omega), decide_eq_false h]; simp
    · rw [testBit_bld]; unfold uG; rw [if_neg (by decide), if_neg (show ¬ ((22 : Int) = 23) by decide)]
      by_cases h : i < v
      · rw [if_pos h, decide_eq_true (show i < r by omega)]; simp
      · rw [if_neg h, hk.b2 v2 (by omega)]; simp
  · have hv := hr (.inr rfl)
    simp only [Int.reduceBEq, cond_false, cond_true, Int.reduceEq, if_false]
    have e : ∀ (a : Nat) (f : Nat → Bool), (∀ i, v ≤ i → a.testBit i = false) → (∀ i, i < v → f i = a.testBit i) → (∀ i, v ≤ i → f i = a.testBit (v - 1)) →
        (if a.testBit (v - 1) = true then a ||| (vmask r &&& (18446744073709551615 - vmask v)) else a) = bld f r := by
      intro a f h0 h1 h2
      refine bits_ext fun i => ?_
      rw [testBit_bld]
      by_cases hs : a.testBit (v - 1) = true
      · rw [if_pos hs, Nat.testBit_or, hi_bits v2 r2]
        by_cases h : i < v
        · rw [h1 i h, decide_eq_true (show i < r by omega), decide_eq_true h]; simp
        · rw [h2 i (by omega), hs, h0 i (by omega), decide_eq_false h]; simp
      · rw [if_neg hs]
        by_cases h : i < v
        · rw [h1 i h, decide_eq_true (show i < r by omega)]; simp
        · rw [h2 i (by omega), h0 i (by omega)]; simp [hs]
    have e1 := e k.1 (uF 23 x v k) (fun i h => hk.b1 v2 h) (fun i h => by unfold uF; rw [if_neg (by decide), if_pos h]) (fun i h => by unfold uF; rw [if_neg (by decide), if_neg (by omega), if_pos rfl])
    have e2 := e k.2 (uG 23 x v k) (fun i h => hk.b2 v2 h) (fun i h => by unfold uG; rw [if_neg (by decide), if_pos h]) (fun i h => by unfold uG; rw [if_neg (by decide), if_neg (by omega), if_pos rfl])
    rw [← e1, ← e2]
    cases k.1.testBit (v - 1) <;> cases k.2.testBit (v - 1) <;> rfl
end Go.Proofs.YtcihbcffokjgjaaGreat.Fn
namespace Go.Proofs.YtcihbcffokjgjaaGreat.Fn
open Go Go.RowKit Go.Proofs.YtcihbcffokjgjaaGreat.Ev Go.Proofs.YtcihbcffokjgjaaGreat.Bv
set_option linter.unusedVariables false
set_option linter.unusedSimpArgs false
def mF (w : Nat) (a : Nat × Nat) (by_ : Int) (fz : Bool) (i : Nat) : Bool := !(shf w (vnot 64 a.1) by_ (!fz) i)
def mG (w : Nat) (a : Nat × Nat) (by_ : Int) (fo : Bool) (i : Nat) : Bool := shf w a.2 by_ fo i
def kmovS (w : Nat) (a : Nat × Nat) (by_ : Int) (fz fo : Bool) : Nat × Nat := (bld (mF w a by_ fz) w, bld (mG w a by_ fo) w)
theorem vnot64_bit {x i : Nat} (hi : i < 64) : (vnot 64 x).testBit i = !x.testBit i := by rw [testBit_vnot, decide_eq_true hi]; simp
theorem mFG {w : Nat} {a : Nat × Nat} (ha : El w a) (hw : w ≤ 64) {by_ : Int} {fz fo : Bool} (hf : fz = true → fo = false) (i : Nat) : mF w a by_ fz i = true → mG w a by_ fo i = false := by
  unfold mF mG shf
  by_cases h : (i : Int) + by_ < (w : Int)
  · rw [if_pos h, if_pos h]
    by_cases h2 : 0 ≤ (i : Int) + by_
    · rw [if_pos h2, if_pos h2, vnot64_bit (by omega), Bool.not_not]
      exact ha.dis _
    · rw [if_neg h2, if_neg h2]; intro _; rfl
  · rw [if_neg h, if_neg h, Bool.not_not]; exact hf
theorem el_mov {w : Nat} {a : Nat × Nat} (ha : El w a) (hw : w ≤ 64) {by_ : Int} {fz fo : Bool} (hf : fz = true → fo = false) : El w (kmovS w a by_ fz fo) := El.of_bits hw fun i _ => mFG ha hw hf i
def kshS (op : Int) (w : Nat) (a : Nat × Nat) (n : Nat) : Nat × Nat :=
  if op = 13 then kmovS w a (-((min n 64 : Nat) : Int)) true false else if op = 14 then kmovS w a ((min n 64 : Nat) : Int) true false else kmovS w a ((min n 64 : Nat) : Int) (a.1.testBit (w - 1)) (a.2.testBit (w - 1))
theorem el_sh {op : Int} {w : Nat} {a : Nat × Nat} (ha : El w a) (hw : w ≤ 64) (n : Nat) : El w (kshS op w a n) := by
  unfold kshS
  split
  · exact el_mov ha hw (fun _ => rfl)
  · split
    · exact el_mov ha hw (fun _ => rfl)
    · exact el_mov ha hw (ha.dis _)
theorem prog_single {w : Nat} {k : Nat × Nat} (hk : El w k) (w1 : 1 ≤ w) (w2 : w ≤ 64) : known_Single.f w ((k.1 : Int), (k.2 : Int)) = some (if kone w k then ((k.2 : Int), true) else (0, false)) := by
  have := known_Single_eq (w : Int) hk.l1 hk.l2
  rw [MK, W_of w1 w2, hk.kof] at this; exact this
theorem prog_const {w : Nat} (w1 : 1 ≤ w) (w2 : w ≤ 64) {x : Nat} (hx : x < U64) : known_Const.f w x = some (((kcst w x).1 : Int), ((kcst w x).2 : Int)) := by
  have := known_Const_eq (w : Int) hx
  rw [W_of w1 w2] at this; exact this
theorem vnot_bld {w : Nat} (hw : w ≤ 64) (f : Nat → Bool) : vnot w (bld f w) = bld (fun i => !f i) w := bits_ext fun i => by
  rw [testBit_vnot, testBit_bld, testBit_bld]
  cases decide (i < w) <;> simp
theorem shf_vnot {w x : Nat} (hw : w ≤ 64) (by_ : Int) (fill : Bool) (i : Nat) : shf w (vnot w x) by_ fill i = shf w (vnot 64 x) by_ fill i := by
  unfold shf
  by_cases h : (i : Int) + by_ < (w : Int)
  · rw [if_pos h, if_pos h]
    by_cases h2 : 0 ≤ (i : Int) + by_
    · rw [if_pos h2, if_pos h2, testBit_vnot, testBit_vnot, decide_eq_true (show ((i : Int) + by_).toNat < w by omega), decide_eq_true (show ((i : Int) + by_).toNat < 64 by omega)]
    · rw [if_neg h2, if_neg h2]
  · rw [if_neg h, if_neg h]
theorem prog_shift {op : Int} (ho : op = 13 ∨ op = 14 ∨ op = 15) {w : Nat} {a : Nat × Nat} (ha : El w a) (w1 : 1 ≤ w) (w2 : w ≤ 64) {n : Nat} (hn : n ≤ vmask w) :
    known_shift.f op w ((a.1 : Int), (a.2 : Int)) n = some (((kshS op w a n).1 : Int), ((kshS op w a n).2 : Int)) := by
  unfold known_shift.f kshS
  have hn64 : n < U64 := Nat.lt_of_le_of_lt hn (vmask_lt w2)
  have hv := vnot_lt (w := w) a.1 w2
  have e0 := cut_of_le hn
  rcases ho with rfl | rfl | rfl
  · simp only [Int.reduceBEq, cond_true]
    rw [bits_Not_eq _ ha.l1, Option.bind_some, W_of w1 w2, bits_Shl_eq _ hv hn64, Option.bind_some, W_of w1 w2, bits_Not_eq _ (vshl_lt _ _ w2), Option.bind_some, W_of w1 w2, bits_Shl_eq _ ha.l2 hn64, Option.bind_some, W_of w1 w2]
    rw [← shf_shl w2, ← shf_shl w2, e0, vnot_bld w2]
    simp only [shf_vnot w2]
    rfl
  · simp only [Int.reduceBEq, cond_true, cond_false]
    rw [bits_Not_eq _ ha.l1, Option.bind_some, W_of w1 w2, bits_Lshr_eq _ hv hn64, Option.bind_some, W_of w1 w2, bits_Not_eq _ (vlshr_lt _ _ w2), Option.bind_some, W_of w1 w2, bits_Lshr_eq _ ha.l2 hn64, Option.bind_some, W_of w1 w2]
    rw [← shf_lshr w2, ← shf_lshr w2, e0, vnot_bld w2]
    simp only [shf_vnot w2]
    rfl
  · simp only [Int.reduceBEq, cond_false]
    rw [bits_Ashr_eq _ ha.l1 hn64, Option.bind_some, W_of w1 w2, bits_Ashr_eq _ ha.l2 hn64, Option.bind_some, W_of w1 w2]
    rw [← shf_ashr w2, ← shf_ashr w2, e0]
    have e : bld (shf w a.1 ((min n 64 : Nat) : Int) (a.1.testBit (w - 1))) w = bld (mF w a ((min n 64 : Nat) : Int) (a.1.testBit (w - 1))) w := bld_congr fun i hi => by
      unfold mF shf
      by_cases h : (i : Int) + ((min n 64 : Nat) : Int) < (w : Int)
      · rw [if_pos h, if_pos h, if_pos (by omega), if_pos (by omega), vnot64_bit (by omega), Bool.not_not]
      · rw [if_neg h, if_neg h, Bool.not_not]
    rw [e]; rfl
def lowF (f : Nat → Bool) : Nat → Nat → Nat
  | 0, i => i
  | d + 1, i => if f i then lowF f d (i + 1) else i
theorem lowF_succ (f : Nat → Bool) (d i : Nat) : lowF f (d + 1) i = if f i then lowF f d (i + 1) else i := rfl
theorem lowF_le (f : Nat → Bool) (d : Nat) : ∀ i, lowF f d i ≤ i + d := by
  induction d with
  | zero => intro i; exact Nat.le_refl _
  | succ d ih => intro i; unfold lowF; split
                 · have := ih (i + 1); omega
                 · omega
theorem lowF_ge (f : Nat → Bool) (d : Nat) : ∀ i, i ≤ lowF f d i := by
  induction d with
  | zero => intro i; exact Nat.le_refl _
  | succ d ih => intro i; unfold lowF; split
                 · have := ih (i + 1); omega
                 · omega
theorem lowF_all (f : Nat → Bool) (d : Nat) : ∀ i j, i ≤ j → j < lowF f d i → f j = true := by
  induction d with
  | zero => intro i j h1 h2; unfold lowF at h2; omega
  | succ d ih =>
    intro i j h1 h2
    unfold lowF at h2
    split at h2
    · rename_i h
      rcases Nat.lt_or_ge i j with h3 | h3
      · exact ih (i + 1) j h3 h2
      · obtain rfl : j = i := by omega
        exact h
    · omega
def klow (w : Nat) (k : Nat × Nat) : Nat := lowF k.1.testBit w 0
theorem klow_le (w : Nat) (k : Nat × Nat) : klow w k ≤ w := by have := lowF_le k.1.testBit w 0; unfold klow; omega
theorem prog_low_j3 (fu : Nat) {w : Nat} {k : Nat × Nat} (hk : El w k) (w2 : w ≤ 64) (d : Nat) : ∀ (n i : Nat), w - i = d → i ≤ w → d < n →
    known_low.j3 fu n i w i k.1 k.2 = some (lowF k.1.testBit d i : Int) := by
  induction d with
  | zero =>
    intro n i hd hi hn
    obtain ⟨n, rfl⟩ : ∃ m, n = m + 1 := ⟨n - 1, by omega⟩
    rw [known_low.j3_succ, bifd_neg (by omega)]; rfl
  | succ d ih =>
    intro n i hd hi hn
    obtain ⟨n, rfl⟩ : ∃ m, n = m + 1 := ⟨n - 1, by omega⟩
    have h1 : shr .u64 (k.1 : Int) (i : Int) = ((k.1 >>> i : Nat) : Int) := shr64 hk.l1
    have h2 : k.1 >>> i < U64 := Nat.lt_of_le_of_lt (shr_le _ _) hk.l1
    have h3 : (k.1 >>> i) &&& 1 = (k.1.testBit i).toNat := by rw [Nat.and_one_is_mod, Nat.toNat_testBit, Nat.shiftRight_eq_div_pow]
    rw [known_low.j3_succ, bifd_pos (by omega), bifd_neg (by omega), h1, show (1 : Int) = ((1 : Nat) : Int) from rfl, and64 h2 (by decide), h3, cast0, wrapi, ← show (1 : Int) = ((1 : Nat) : Int) from rfl, wrapi_succ (by omega)]
    have := ih n (i + 1) (by omega) (by omega) (by omega)
    rw [this, lowF_succ]
    cases k.1.testBit i <;> rfl
theorem prog_low {w : Nat} {k : Nat × Nat} (hk : El w k) (w2 : w ≤ 64) : known_low.f w ((k.1 : Int), (k.2 : Int)) = some (klow w k : Int) := by
  unfold known_low.f known_low.g
  exact prog_low_j3 _ hk w2 w (fuel0 + 1) 0 rfl (by omega) (fuelg (by omega))
def ktim (w : Nat) (a b : Nat × Nat) : Nat := min w (klow w a + klow w b)
theorem mn_nat (m n : Nat) : mn (m : Int) (n : Int) = ((min m n : Nat) : Int) := by unfold mn; split <;> omega
def ktimS (w : Nat) (a b : Nat × Nat) : Nat × Nat := if kone w a ∧ kone w b then kcst w (vmul w a.2 b.2) else (vmask (ktim w a b), 0)
end Go.Proofs.YtcihbcffokjgjaaGreat.Fn
