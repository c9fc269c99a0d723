/- The operators: their number of operands and the width of their value, by the program and by the reference: one specification that both meet. Terms: widths of operands, names, the check of one node: the program's and the reference's are the same. Terms: Check of the program and of the reference are the same. -/
import Derived.Test.YtcihbcffokjgjaaGreatTF0
import Derived.Test.YtcihbcffokjgjaaGreatTF9
import Derived.Test.YtcihbcffokjgjaaGreatTTv
import Derived.Test.YtcihbcffokjgjaaGreatTF14
import Derived.Test.YtcihbcffokjgjaaGreatTF1
namespace Go.Proofs.YtcihbcffokjgjaaGreat.Fn
open Go Go.RowKit Go.Proofs.YtcihbcffokjgjaaGreat.Ev Go.Proofs.YtcihbcffokjgjaaGreat.Bv
set_option linter.unusedVariables false
set_option linter.unusedSimpArgs false
theorem bv {α : Type} (c : Bool) (x y : α) : (bif c then x else y) = if c = true then x else y := by cases c <;> rfl
def arity (op : Int) : Int :=
  if op = 19 then 3 else if 5 ≤ op ∧ op ≤ 20 then 2
  else if op = 3 ∨ op = 4 ∨ op = 21 ∨ op = 22 ∨ op = 23 ∨ op = 26 then 1
  else if op = 1 ∨ op = 2 ∨ op = 24 ∨ op = 25 then 0 else -1
theorem ops {op : Int} (h1 : 1 ≤ op) (h2 : op ≤ 26) : op = 1 ∨ op = 2 ∨ op = 3 ∨ op = 4 ∨ op = 5 ∨ op = 6 ∨ op = 7 ∨ op = 8 ∨ op = 9 ∨ op = 10 ∨ op = 11 ∨ op = 12 ∨ op = 13 ∨ op = 14 ∨ op = 15 ∨ op = 16 ∨ op = 17 ∨ op = 18 ∨ op = 19 ∨ op = 20 ∨ op = 21 ∨ op = 22 ∨ op = 23 ∨ op = 24 ∨ op = 25 ∨ op = 26 := by
  obtain ⟨k, rfl⟩ := Int.eq_ofNat_of_zero_le (show 0 ≤ op by omega)
  have tab : ∀ m : Fin 27, 1 ≤ m.val → (((m.val : Nat) : Int) = 1 ∨ ((m.val : Nat) : Int) = 2 ∨ ((m.val : Nat) : Int) = 3 ∨ ((m.val : Nat) : Int) = 4 ∨ ((m.val : Nat) : Int) = 5 ∨ ((m.val : Nat) : Int) = 6 ∨ ((m.val : Nat) : Int) = 7 ∨ ((m.val : Nat) : Int) = 8 ∨ ((m.val : Nat) : Int) = 9 ∨ ((m.val : Nat) : Int) = 10 ∨ ((m.val : Nat) : Int) = 11 ∨ ((m.val : Nat) : Int) = 12 ∨ ((m.val : Nat) : Int) = 13 ∨ ((m.val : Nat) : Int) = 14 ∨ ((m.val : Nat) : Int) = 15 ∨ ((m.val : Nat) : Int) = 16 ∨ ((m.val : Nat) : Int) = 17 ∨ ((m.val : Nat) : Int) = 18 ∨ ((m.val : Nat) : Int) = 19 ∨ ((m.val : Nat) : Int) = 20 ∨ ((m.val : Nat) : Int) = 21 ∨ ((m.val : Nat) : Int) = 22 ∨ ((m.val : Nat) : Int) = 23 ∨ ((m.val : Nat) : Int) = 24 ∨ ((m.val : Nat) : Int) = 25 ∨ ((m.val : Nat) : Int) = 26) := by decide
  exact tab ⟨k, by omega⟩ (by show 1 ≤ k; omega)
theorem arity_out {op : Int} (h : op < 1 ∨ 26 < op) : arity op = -1 := by
  unfold arity
  rw [if_neg (by omega), if_neg (by omega), if_neg (by omega), if_neg (by omega)]
theorem arity_in {op : Int} (h1 : 1 ≤ op) (h2 : op ≤ 26) : 0 ≤ arity op ∧ arity op ≤ 3 := by
  obtain ⟨k, rfl⟩ := Int.eq_ofNat_of_zero_le (show 0 ≤ op by omega)
  have tab : ∀ m : Fin 27, 1 ≤ m.val → 0 ≤ arity ((m.val : Nat) : Int) ∧ arity ((m.val : Nat) : Int) ≤ 3 := by decide
  exact tab ⟨k, by omega⟩ (by show 1 ≤ k; omega)
def ins (a : Int) : Bool := decide (0 ≤ a) && decide (a ≤ 64)
theorem ins_iff {a : Int} : ins a = true ↔ 0 ≤ a ∧ a ≤ 64 := by unfold ins; simp
theorem ins_no {a : Int} : ins a = false ↔ ¬ (0 ≤ a ∧ a ≤ 64) := by rw [← ins_iff]; simp
def leafS (op w : Int) (x : Nat) : Int × Int := if ¬ (0 ≤ w ∧ w ≤ 64) ∨ (op = 2 ∧ 0 < w ∧ 2 ^ w.toNat ≤ x) then (0, 3) else (w, 0)
def partS (op w : Int) (x : Nat) (a : Int) : Int × Int :=
  if w < 1 ∨ w > 64 ∨ a < 1 then (0, 3) else if op = 21 then (if w > a ∨ (x : Int) > a - w then (0, 3) else (w, 0)) else if w < a then (0, 3) else (w, 0)
def widthT (op w : Int) (x : Nat) (g : Nat → Int) : Int × Int :=
  if op = 1 ∨ op = 2 ∨ op = 24 ∨ op = 25 then leafS op w x
  else if op = 3 ∨ op = 4 ∨ op = 26 then (g 0, 0)
  else if op = 21 ∨ op = 22 ∨ op = 23 then partS op w x (g 0)
  else if op = 19 then (if g 0 = 1 ∧ g 1 = g 2 then (g 1, 0) else (0, 3))
  else if op = 20 then (if 1 ≤ g 0 ∧ 1 ≤ g 1 ∧ g 0 + g 1 ≤ 64 then (g 0 + g 1, 0) else (0, 3))
  else if op = 16 ∨ op = 17 ∨ op = 18 then (if g 0 = g 1 then (1, 0) else (0, 3))
  else (if g 0 = g 1 then (g 0, 0) else (0, 3))
def allIn (n : Nat) (g : Nat → Int) : Prop := ∀ i, i < n → ins (g i) = true
open Classical in
noncomputable def widthS (op w : Int) (x : Nat) (n : Nat) (g : Nat → Int) : Int × Int :=
  if op < 1 ∨ 26 < op ∨ (n : Int) ≠ arity op then (0, 4) else if allIn n g then widthT op w x g else (0, 3)
theorem opinfo_Arity_eq (op : Int) : opinfo_Arity.f op = some (arity op) := by
  unfold opinfo_Arity.f opinfo_Arity.g
  by_cases h : 1 ≤ op ∧ op ≤ 26
  · rcases ops h.1 h.2 with rfl | rfl | rfl | rfl | rfl | rfl | rfl | rfl | rfl | rfl | rfl | rfl | rfl | rfl | rfl | rfl | rfl | rfl | rfl | rfl | rfl | rfl | rfl | rfl | rfl | rfl <;>
      (simp only [Int.reduceBEq, cond_true, cond_false, opinfo_Arity.p30_eq, opinfo_Arity.p31_eq, opinfo_Arity.p32_eq]; rfl)
  · rw [arity_out (by omega)]
    have b : ∀ n : Int, 1 ≤ n → n ≤ 26 → (op == n) = false := fun n h1 h2 => by have : ¬ op = n := by omega
                                                                                simpa using this
    simp only [b 19 (by decide) (by decide), b 5 (by decide) (by decide), b 6 (by decide) (by decide), b 7 (by decide) (by decide), b 8 (by decide) (by decide), b 9 (by decide) (by decide), b 10 (by decide) (by decide), b 11 (by decide) (by decide), b 12 (by decide) (by decide), b 13 (by decide) (by decide), b 14 (by decide) (by decide), b 15 (by decide) (by decide), b 16 (by decide) (by decide), b 17 (by decide) (by decide), b 18 (by decide) (by decide), b 20 (by decide) (by decide),
      b 3 (by decide) (by decide), b 4 (by decide) (by decide), b 21 (by decide) (by decide), b 22 (by decide) (by decide), b 23 (by decide) (by decide), b 26 (by decide) (by decide), b 1 (by decide) (by decide), b 2 (by decide) (by decide), b 24 (by decide) (by decide), b 25 (by decide) (by decide), cond_false]
theorem opinfo_known_eq (op : Int) : opinfo_known.f op = some (decide (1 ≤ op ∧ op ≤ 26)) := by
  unfold opinfo_known.f
  by_cases h : op ≥ 1
  · rw [bifd_pos h]; simp [show 1 ≤ op from h]
  · rw [bifd_neg h]; simp; omega
theorem opinfo_inside_eq (a : Int) : opinfo_inside.f a = some (ins a) := by
  unfold opinfo_inside.f ins
  by_cases h : a ≥ 0
  · rw [bifd_pos h]; simp [show 0 ≤ a from h]
  · rw [bifd_neg h]; simp; omega
theorem saturateref04_width_eq (a : Int) : saturateref04_width.f a = some (ins a) := by
  unfold saturateref04_width.f ins
  by_cases h : a ≥ 0
  · rw [bifd_pos h]; simp [show 0 ≤ a from h]
  · rw [bifd_neg h]; simp; omega
theorem far_shr0 {x : Nat} {w : Int} (hx : x < 18446744073709551616) (h0 : 0 ≤ w) (h1 : w ≤ 64) : (shr .u64 (x : Int) w = 0) ↔ ¬ (2 ^ w.toNat ≤ x) := by
  obtain ⟨n, rfl⟩ := Int.eq_ofNat_of_zero_le h0
  rw [shr64 hx, Int.toNat_natCast, Nat.shiftRight_eq_div_pow]
  have hp := pw_pos n
  constructor
  · intro h h2
    have := Nat.div_pos h2 hp
    omega
  · intro h
    rw [Nat.div_eq_of_lt (by omega)]; rfl
theorem one_shl {w : Int} (h0 : 0 < w) (h1 : w < 64) : shl .u64 1 (IntKind.u64.wrap w) = ((2 ^ w.toNat : Nat) : Int) := by
  obtain ⟨n, rfl⟩ := Int.eq_ofNat_of_zero_le (by omega : 0 ≤ w)
  rw [wrapu_of (by omega), show (1 : Int) = ((1 : Nat) : Int) from rfl, shl64, Nat.one_shiftLeft, Int.toNat_natCast, Nat.mod_eq_of_lt]
  rw [← p64]; exact Nat.pow_lt_pow_right (by decide) (by omega)
theorem opinfo_leaf_eq (op w : Int) {x : Nat} (hx : x < 18446744073709551616) : opinfo_leaf.f op w x = some (leafS op w x) := by
  unfold opinfo_leaf.f opinfo_leaf.g leafS
  rw [opinfo_inside_eq]; simp only [Option.bind_some, opinfo_leaf.p3_eq, bv, Bool.not_eq_true', decide_eq_true_eq, beq_iff_eq, bne_iff_ne]
  by_cases h : 0 ≤ w ∧ w ≤ 64
  · rw [if_neg (by rw [ins_no]; exact fun e => e h)]
    by_cases h2 : op = 2
    · rw [if_pos h2]
      by_cases h3 : w > 0
      · rw [if_pos h3, if_neg (by omega)]
        by_cases h4 : 2 ^ w.toNat ≤ x
        · rw [if_pos (fun e => (far_shr0 hx h.1 h.2).1 e h4), if_pos (.inr ⟨h2, h3, h4⟩)]
        · rw [if_neg (fun e => e ((far_shr0 hx h.1 h.2).2 h4)), if_neg (fun e => e.elim (fun e => e h) (fun e => h4 e.2.2))]
      · rw [if_neg h3, if_neg (fun e => e.elim (fun e => e h) (fun e => h3 e.2.1))]
    · rw [if_neg h2, if_neg (fun e => e.elim (fun e => e h) (fun e => h2 e.1))]
  · rw [if_pos (ins_no.2 h), if_pos (.inl h)]
theorem saturateref04_leaf_eq (op w : Int) {x : Nat} (hx : x < 18446744073709551616) : saturateref04_leaf.f op w x = some (leafS op w x) := by
  unfold saturateref04_leaf.f saturateref04_leaf.g leafS
  rw [saturateref04_width_eq]; simp only [Option.bind_some, saturateref04_leaf.p3_eq, bv, Bool.not_eq_true', decide_eq_true_eq, beq_iff_eq, bne_iff_ne]
  by_cases h : 0 ≤ w ∧ w ≤ 64
  · rw [if_neg (by rw [ins_no]; exact fun e => e h)]
    by_cases h2 : op = 2
    · rw [if_pos h2]
      by_cases h3 : w > 0
      · rw [if_pos h3]
        by_cases h5 : w < 64
        · rw [if_pos h5, one_shl h3 h5, if_neg (by rw [wrapu]; omega)]
          by_cases h4 : 2 ^ w.toNat ≤ x
          · rw [if_pos (by omega), if_pos (.inr ⟨h2, h3, h4⟩)]
          · rw [if_neg (by omega), if_neg (fun e => e.elim (fun e => e h) (fun e => h4 e.2.2))]
        · obtain rfl : w = 64 := by omega
          rw [if_neg h5, if_neg (fun e => e.elim (fun e => e h) (fun e => by have := e.2.2; rw [show (64 : Int).toNat = 64 from rfl, p64] at this; omega))]
      · rw [if_neg h3, if_neg (fun e => e.elim (fun e => e h) (fun e => h3 e.2.1))]
    · rw [if_neg h2, if_neg (fun e => e.elim (fun e => e h) (fun e => h2 e.1))]
  · rw [if_pos (ins_no.2 h), if_pos (.inl h)]
theorem sub_wrap {a w : Int} (h1 : 1 ≤ w) (h2 : w ≤ a) (h3 : a ≤ 64) : IntKind.u64.wrap (IntKind.i64.wrap (a - w)) = a - w := by
  rw [wrapi, wrapi_of (by omega) (by omega), wrapu]; omega
theorem opinfo_resized_eq (op w : Int) {x : Nat} {a : Int} (ha : a ≤ 64) : opinfo_resized.f op w x a = some (partS op w x a) := by
  unfold opinfo_resized.f opinfo_resized.g partS
  simp only [opinfo_resized.p5_eq, bv, Bool.not_eq_true', decide_eq_true_eq, beq_iff_eq, bne_iff_ne]
  by_cases h1 : w < 1
  · rw [if_pos h1, if_pos (.inl h1)]
  · rw [if_neg h1]
    by_cases h2 : w > 64
    · rw [if_pos h2, if_pos (.inr (.inl h2))]
    · rw [if_neg h2]
      by_cases h3 : a < 1
      · rw [if_pos h3, if_pos (.inr (.inr h3))]
      · rw [if_neg h3, if_neg (show ¬ (w < 1 ∨ w > 64 ∨ a < 1) by omega)]
        by_cases h4 : op = 21
        · rw [if_neg (fun e => e h4), if_pos h4, if_pos h4]
          by_cases h5 : w > a
          · rw [if_pos h5, if_pos (.inl h5)]
          · rw [if_neg h5, sub_wrap (by omega) (by omega) ha]
            by_cases h6 : (x : Int) > a - w
            · rw [if_pos h6, if_pos (.inr h6)]
            · rw [if_neg h6, if_neg (show ¬ (w > a ∨ (x : Int) > a - w) by omega)]
        · rw [if_pos h4]
          by_cases h5 : w < a
          · simp only [if_pos h5, if_neg h4]
          · simp only [if_neg h5, if_neg h4]
theorem saturateref04_parts_eq (op w : Int) {x : Nat} {a : Int} (ha : a ≤ 64) : saturateref04_parts.f op w x a = some (partS op w x a) := by
  unfold saturateref04_parts.f saturateref04_parts.g partS
  rw [saturateref04_width_eq]
  simp only [Option.bind_some, saturateref04_parts.p5_eq, bv, Bool.not_eq_true', decide_eq_true_eq, beq_iff_eq, bne_iff_ne]
  by_cases h0 : 0 ≤ w ∧ w ≤ 64
  · rw [if_neg (by rw [ins_no]; exact fun e => e h0)]
    by_cases h1 : w < 1
    · rw [if_pos h1, if_pos (.inl h1)]
    · rw [if_neg h1]
      by_cases h3 : a < 1
      · rw [if_pos h3, if_pos (.inr (.inr h3))]
      · rw [if_neg h3, if_neg (show ¬ (w < 1 ∨ w > 64 ∨ a < 1) by omega)]
        by_cases h4 : op = 21
        · rw [if_pos h4, if_pos h4]
          by_cases h5 : w > a
          · rw [if_pos h5, if_pos (.inl h5)]
          · rw [if_neg h5, sub_wrap (by omega) (by omega) ha]
            by_cases h6 : (x : Int) > a - w
            · rw [if_pos h6, if_pos (.inr h6)]
            · rw [if_neg h6, if_neg (fun e => e h4), if_neg (show ¬ (w > a ∨ (x : Int) > a - w) by omega)]
        · rw [if_neg h4, if_pos h4]
          by_cases h5 : w < a
          · simp only [if_pos h5, if_neg h4]
          · simp only [if_neg h5, if_neg h4]
  · rw [if_pos (ins_no.2 h0), if_pos (by omega)]
theorem opinfo_agreed_eq (b : Bool) (r : Int) : opinfo_agreed.f b r = some (if b = true then (r, 0) else (0, 3)) := by
  unfold opinfo_agreed.f; cases b <;> rfl
theorem widthT_cases {op : Int} (h1 : 1 ≤ op) (h2 : op ≤ 26) (n : Int) (ha : n = arity op) :
    ((op = 1 ∨ op = 2 ∨ op = 24 ∨ op = 25) ∧ n = 0) ∨ ((op = 3 ∨ op = 4 ∨ op = 26) ∧ n = 1) ∨ ((op = 21 ∨ op = 22 ∨ op = 23) ∧ n = 1) ∨ (op = 19 ∧ n = 3) ∨ (op = 20 ∧ n = 2) ∨ ((op = 16 ∨ op = 17 ∨ op = 18) ∧ n = 2) ∨
      ((op = 5 ∨ op = 6 ∨ op = 7 ∨ op = 8 ∨ op = 9 ∨ op = 10 ∨ op = 11 ∨ op = 12 ∨ op = 13 ∨ op = 14 ∨ op = 15) ∧ n = 2) := by
  subst ha
  obtain ⟨k, rfl⟩ := Int.eq_ofNat_of_zero_le (show 0 ≤ op by omega)
  have tab : ∀ m : Fin 27, 1 ≤ m.val → (((((m.val : Nat) : Int) = 1 ∨ ((m.val : Nat) : Int) = 2 ∨ ((m.val : Nat) : Int) = 24 ∨ ((m.val : Nat) : Int) = 25) ∧ arity ((m.val : Nat) : Int) = 0) ∨ ((((m.val : Nat) : Int) = 3 ∨ ((m.val : Nat) : Int) = 4 ∨ ((m.val : Nat) : Int) = 26) ∧ arity ((m.val : Nat) : Int) = 1) ∨ ((((m.val : Nat) : Int) = 21 ∨ ((m.val : Nat) : Int) = 22 ∨ ((m.val : Nat) : Int) = 23) ∧ arity ((m.val : Nat) : Int) = 1) ∨ (((m.val : Nat) : Int) = 19 ∧ arity ((m.val : Nat) : Int) = 3) ∨ (((m.val : Nat) : Int) = 20 ∧ arity ((m.val : Nat) : Int) = 2) ∨ ((((m.val : Nat) : Int) = 16 ∨ ((m.val : Nat) : Int) = 17 ∨ ((m.val : Nat) : Int) = 18) ∧ arity ((m.val : Nat) : Int) = 2) ∨
      ((((m.val : Nat) : Int) = 5 ∨ ((m.val : Nat) : Int) = 6 ∨ ((m.val : Nat) : Int) = 7 ∨ ((m.val : Nat) : Int) = 8 ∨ ((m.val : Nat) : Int) = 9 ∨ ((m.val : Nat) : Int) = 10 ∨ ((m.val : Nat) : Int) = 11 ∨ ((m.val : Nat) : Int) = 12 ∨ ((m.val : Nat) : Int) = 13 ∨ ((m.val : Nat) : Int) = 14 ∨ ((m.val : Nat) : Int) = 15) ∧ arity ((m.val : Nat) : Int) = 2)) := by decide
  exact tab ⟨k, by omega⟩ (by show 1 ≤ k; omega)
theorem opinfo_Width_end (fu k : Nat) {op w : Int} {x : Nat} (hx : x < 18446744073709551616) {n : Nat} {g : Nat → Int} (h1 : 1 ≤ op) (h2 : op ≤ 26) (ha : (n : Int) = arity op) (hall : allIn n g) :
    opinfo_Width.j4 fu (k + 1) op w x n n (n : Int) (n : Int) n g = some (widthT op w x g) := by
  have A : (0 : Int) < n → 0 ≤ g 0 ∧ g 0 ≤ 64 := fun h => ins_iff.1 (hall 0 (by omega))
  have B : (1 : Int) < n → 0 ≤ g 1 ∧ g 1 ≤ 64 := fun h => ins_iff.1 (hall 1 (by omega))
  clear hall
  rw [opinfo_Width.j4_succ, bifd_neg (Int.lt_irrefl _)]
  generalize (n : Int) = N at *
  rcases widthT_cases h1 h2 N ha with ⟨ho, rfl⟩ | ⟨ho, rfl⟩ | ⟨ho, rfl⟩ | ⟨rfl, rfl⟩ | ⟨rfl, rfl⟩ | ⟨ho, rfl⟩ | ⟨ho, rfl⟩
  · have e : widthT op w x g = leafS op w x := if_pos ho
    rw [e]
    rcases ho with rfl | rfl | rfl | rfl <;> (simp only [Int.reduceBEq, Int.reduceEq, or_true, true_or, decide_true, cond_true, cond_false, opinfo_leaf_eq _ w hx, Option.bind_some]; done)
  · rcases ho with rfl | rfl | rfl <;> (simp only [Int.reduceBEq, Int.reduceEq, or_self, decide_false, cond_true, cond_false, Int.reduceLT, decide_true, widthT, or_true, true_or, or_false, false_or, if_true, if_false]; done)
  · have hA := A (by omega)
    rcases ho with rfl | rfl | rfl <;> (simp only [Int.reduceBEq, Int.reduceEq, or_self, decide_false, cond_true, cond_false, Int.reduceLT, decide_true, widthT, or_true, true_or, or_false, false_or, if_true, if_false, opinfo_resized_eq _ w hA.2, Option.bind_some]; done)
  · simp only [Int.reduceBEq, Int.reduceEq, or_self, decide_false, cond_true, cond_false, Int.reduceLT, decide_true, widthT, or_true, true_or, or_false, false_or, if_true, if_false, opinfo_agreed_eq, Option.bind_some, bv, bne_iff_ne, beq_iff_eq]
    by_cases k1 : g 0 = 1 <;> by_cases k2 : g 1 = g 2 <;> simp [k1, k2]
  · have hA := A (by omega)
    have hB := B (by omega)
    have hw : IntKind.i64.wrap (g 0 + g 1) = g 0 + g 1 := by rw [wrapi, wrapi_of (by omega) (by omega)]
    simp only [Int.reduceBEq, Int.reduceEq, or_self, decide_false, cond_true, cond_false, Int.reduceLT, decide_true, widthT, or_true, true_or, or_false, false_or, if_true, if_false, opinfo_agreed_eq, Option.bind_some, bv, decide_eq_true_eq, beq_iff_eq, hw]
    by_cases k1 : 1 ≤ g 0 <;> by_cases k2 : 1 ≤ g 1 <;> by_cases k3 : g 0 + g 1 ≤ 64 <;> simp [k1, k2, k3, hw] <;> omega
  · rcases ho with rfl | rfl | rfl <;>
      (simp only [Int.reduceBEq, Int.reduceEq, or_self, decide_false, cond_true, cond_false, Int.reduceLT, decide_true, widthT, or_true, true_or, or_false, false_or, if_true, if_false, opinfo_agreed_eq, Option.bind_some, bv, bne_iff_ne, beq_iff_eq]
       by_cases k1 : g 0 = g 1 <;> simp [k1])
  · rcases ho with rfl | rfl | rfl | rfl | rfl | rfl | rfl | rfl | rfl | rfl | rfl <;>
      (simp only [Int.reduceBEq, Int.reduceEq, or_self, decide_false, cond_true, cond_false, Int.reduceLT, decide_true, widthT, or_true, true_or, or_false, false_or, if_true, if_false, opinfo_agreed_eq, Option.bind_some, bv, bne_iff_ne, beq_iff_eq]
       by_cases k1 : g 0 = g 1 <;> simp [k1])
open Classical in
theorem opinfo_Width_loop (fu : Nat) {op w : Int} {x : Nat} (hx : x < 18446744073709551616) {n : Nat} {g : Nat → Int} (hl : n ≤ 1000) (h1 : 1 ≤ op) (h2 : op ≤ 26) (ha : (n : Int) = arity op) (d : Nat) : ∀ k i, i + d = n → d < k → allIn i g →
    opinfo_Width.j4 fu k op w x n n (n : Int) (i : Int) n g = some (widthS op w x n g) := by
  have hS : widthS op w x n g = if allIn n g then widthT op w x g else (0, 3) := by unfold widthS; rw [if_neg (by omega)]
  induction d with
  | zero =>
    intro k i hi hk ht
    obtain ⟨k, rfl⟩ : ∃ m, k = m + 1 := ⟨k - 1, by omega⟩
    obtain rfl : i = n := by omega
    rw [opinfo_Width_end fu k hx h1 h2 ha ht, hS, if_pos ht]
  | succ d ih =>
    intro k i hi hk ht
    obtain ⟨k, rfl⟩ : ∃ m, k = m + 1 := ⟨k - 1, by omega⟩
    rw [opinfo_Width.j4_succ, bifd_pos (by omega), bifd_pos (by omega), bifd_pos (by omega), opinfo_inside_eq, Option.bind_some, wrapi, wrapi_succ (by omega), Int.toNat_natCast]
    cases hb : ins (g i) with
    | true =>
      rw [Bool.not_true, cond_false]
      exact ih k (i + 1) (by omega) (by omega) fun j hj => by
        rcases Nat.lt_or_ge j i with h | h
        · exact ht j h
        · obtain rfl : j = i := by omega
          exact hb
    | false =>
      rw [Bool.not_false, cond_true]
      rw [hS, if_neg (fun h => by rw [h i (by omega)] at hb; cases hb)]
theorem opinfo_Width_eq {op w : Int} {x : Nat} (hx : x < 18446744073709551616) (n : Nat) (g : Nat → Int) : opinfo_Width.f op w x (n, g) = some (widthS op w x n g) := by
  unfold opinfo_Width.f opinfo_Width.g
  rw [opinfo_known_eq, opinfo_Arity_eq]; simp only [Option.bind_some]
  by_cases h : 1 ≤ op ∧ op ≤ 26
  · rw [decide_eq_true h, Bool.not_true, cond_false]
    by_cases ha : (n : Int) = arity op
    · have h3 := (arity_in h.1 h.2).2
      have hb : ((n : Int) != arity op) = false := by rw [ha]; exact bne_self_eq_false _
      rw [hb, cond_false]
      have hk : n < fuel0 + 1 := by unfold fuel0; omega
      have := opinfo_Width_loop (fuel0 + 1) (w := w) hx (g := g) (by omega) h.1 h.2 ha n (fuel0 + 1) 0 (by omega) hk (fun i hi => absurd hi (Nat.not_lt_zero _))
      rw [show ((0 : Nat) : Int) = 0 from rfl] at this
      exact this
    · have hb : ((n : Int) != arity op) = true := bne_iff_ne.2 ha
      rw [hb, cond_true]
      unfold widthS
      rw [if_pos (.inr (.inr ha))]
  · rw [decide_eq_false h, Bool.not_false, cond_true]
    unfold widthS
    rw [if_pos (by omega)]
open Classical in
theorem saturateref04_Is_j2 (fu : Nat) {op : Int} {n : Nat} {g : Nat → Int} (hl : n ≤ 1000) (d : Nat) : ∀ k i, i + d = n → d < k → saturateref04_Is.j2 fu k op n (n : Int) (i : Int) n g = some (decide (∃ j, i ≤ j ∧ j < n ∧ g j = op)) := by
  induction d with
  | zero =>
    intro k i hi hk
    obtain ⟨k, rfl⟩ : ∃ m, k = m + 1 := ⟨k - 1, by omega⟩
    obtain rfl : i = n := by omega
    rw [saturateref04_Is.j2_succ, bifd_neg (by omega)]
    congr 1; symm; rw [decide_eq_false_iff_not]
    rintro ⟨j, h1, h2, _⟩; omega
  | succ d ih =>
    intro k i hi hk
    obtain ⟨k, rfl⟩ : ∃ m, k = m + 1 := ⟨k - 1, by omega⟩
    rw [saturateref04_Is.j2_succ, bifd_pos (by omega), bifd_pos (by omega), bifd_pos (by omega), wrapi, wrapi_succ (by omega), Int.toNat_natCast, bv]
    by_cases h : g i = op
    · rw [if_pos (by simpa using h)]
      congr 1; symm; rw [decide_eq_true_iff]
      exact ⟨i, by omega, by omega, h⟩
    · rw [if_neg (by simpa using h), ih k (i + 1) (by omega) (by omega)]
      congr 1; rw [decide_eq_decide]
      constructor
      · rintro ⟨j, h1, h2, h3⟩; exact ⟨j, by omega, h2, h3⟩
      · rintro ⟨j, h1, h2, h3⟩
        refine ⟨j, ?_, h2, h3⟩
        rcases Nat.lt_or_ge i j with hh | hh
        · omega
        · obtain rfl : j = i := by omega
          exact absurd h3 h
open Classical in
theorem saturateref04_Is_eq {op : Int} {n : Nat} {g : Nat → Int} (hl : n ≤ 1000) : saturateref04_Is.f op (n, g) = some (decide (∃ j, j < n ∧ g j = op)) := by
  unfold saturateref04_Is.f saturateref04_Is.g
  have := saturateref04_Is_j2 (fuel0 + 1) (op := op) (g := g) hl n (fuel0 + 1) 0 (by omega) (by unfold fuel0; omega)
  rw [show ((0 : Nat) : Int) = 0 from rfl] at this
  simpa using this
theorem ex_list {l : List Int} {op : Int} : (∃ j, j < l.length ∧ l.getD j 0 = op) ↔ op ∈ l := by
  constructor
  · rintro ⟨j, h1, h2⟩
    rw [List.getD_eq_getElem?_getD, List.getElem?_eq_getElem h1] at h2
    simp only [Option.getD_some] at h2
    rw [← h2]; exact List.getElem_mem h1
  · intro h
    obtain ⟨j, h1, h2⟩ := List.getElem_of_mem h
    exact ⟨j, h1, by rw [List.getD_eq_getElem?_getD, List.getElem?_eq_getElem h1]; exact h2⟩
theorem Is_list {op : Int} (l : List Int) (hl : l.length ≤ 1000) : saturateref04_Is.f op (l.length, fun i => l.getD i 0) = some (decide (op ∈ l)) := by
  rw [saturateref04_Is_eq hl]; congr 1; rw [decide_eq_decide]; exact ex_list
theorem saturateref04_Leaf_eq (op : Int) : saturateref04_Leaf.f op = some (decide (op = 1 ∨ op = 2 ∨ op = 24 ∨ op = 25)) := by
  unfold saturateref04_Leaf.f
  have := Is_list (op := op) [1, 2, 24, 25] (by decide)
  simp only [List.length_cons, List.length_nil, Nat.zero_add, Nat.reduceAdd] at this
  rw [this]; simp
theorem saturateref04_Pattern_eq (op : Int) : saturateref04_Pattern.f op = some (decide (op = 24 ∨ op = 25 ∨ op = 26)) := by
  unfold saturateref04_Pattern.f
  have := Is_list (op := op) [24, 25, 26] (by decide)
  simp only [List.length_cons, List.length_nil, Nat.zero_add, Nat.reduceAdd] at this
  rw [this]; simp
theorem opinfo_Pattern_eq (op : Int) : opinfo_Pattern.f op = some (decide (op = 24 ∨ op = 25 ∨ op = 26)) := by
  unfold opinfo_Pattern.f
  by_cases h : op ≥ 24
  · rw [bifd_pos h]; congr 1; rw [decide_eq_decide]; omega
  · rw [bifd_neg h]; congr 1; symm; rw [decide_eq_false_iff_not]; omega
theorem saturateref04_Arity_eq (op : Int) : saturateref04_Arity.f op = some (arity op) := by
  unfold saturateref04_Arity.f
  by_cases h1 : op < 1
  · rw [bifd_pos h1, arity_out (.inl h1)]
  · rw [bifd_neg h1]
    by_cases h2 : op > 26
    · rw [bifd_pos h2, arity_out (.inr h2)]
    · rw [bifd_neg h2, saturateref04_Leaf_eq]
      have := Is_list (op := op) [3, 4, 21, 22, 23, 26] (by decide)
      simp only [List.length_cons, List.length_nil, Nat.zero_add, Nat.reduceAdd] at this
      rw [this]; simp only [Option.bind_some]
      rcases ops (op := op) (by omega) (by omega) with rfl | rfl | rfl | rfl | rfl | rfl | rfl | rfl | rfl | rfl | rfl | rfl | rfl | rfl | rfl | rfl | rfl | rfl | rfl | rfl | rfl | rfl | rfl | rfl | rfl | rfl <;> rfl
theorem saturateref04_Width_end (fu k : Nat) {op w : Int} {x : Nat} (hx : x < 18446744073709551616) {n : Nat} {g : Nat → Int} (h1 : 1 ≤ op) (h2 : op ≤ 26) (ha : (n : Int) = arity op) (hall : allIn n g) :
    saturateref04_Width.j4 fu (k + 1) op w x n (n : Int) (n : Int) n g = some (widthT op w x g) := by
  have A : (0 : Int) < n → 0 ≤ g 0 ∧ g 0 ≤ 64 := fun h => ins_iff.1 (hall 0 (by omega))
  have B : (1 : Int) < n → 0 ≤ g 1 ∧ g 1 ≤ 64 := fun h => ins_iff.1 (hall 1 (by omega))
  clear hall
  rw [saturateref04_Width.j4_succ, bifd_neg (Int.lt_irrefl _), saturateref04_Leaf_eq, Option.bind_some]
  generalize (n : Int) = N at *
  rcases widthT_cases h1 h2 N ha with ⟨ho, rfl⟩ | ⟨ho, rfl⟩ | ⟨ho, rfl⟩ | ⟨rfl, rfl⟩ | ⟨rfl, rfl⟩ | ⟨ho, rfl⟩ | ⟨ho, rfl⟩
  · have e : widthT op w x g = leafS op w x := if_pos ho
    rw [e]
    rcases ho with rfl | rfl | rfl | rfl <;> (simp only [Int.reduceBEq, Int.reduceEq, or_true, true_or, decide_true, cond_true, cond_false, saturateref04_leaf_eq _ w hx, Option.bind_some]; done)
  · rcases ho with rfl | rfl | rfl <;> (simp only [Int.reduceBEq, Int.reduceEq, or_self, decide_false, cond_true, cond_false, Int.reduceLT, decide_true, widthT, or_true, true_or, or_false, false_or, if_true, if_false]; done)
  · have hA := A (by omega)
    rcases ho with rfl | rfl | rfl <;> (simp only [Int.reduceBEq, Int.reduceEq, or_self, decide_false, cond_true, cond_false, Int.reduceLT, decide_true, widthT, or_true, true_or, or_false, false_or, if_true, if_false, saturateref04_parts_eq _ w hA.2, Option.bind_some]; done)
  · simp only [Int.reduceBEq, Int.reduceEq, or_self, decide_false, cond_true, cond_false, Int.reduceLT, decide_true, widthT, or_true, true_or, or_false, false_or, if_true, if_false, Option.bind_some, bv, bne_iff_ne, beq_iff_eq]
    by_cases k1 : g 0 = 1 <;> by_cases k2 : g 1 = g 2 <;> simp [k1, k2]
  · have hA := A (by omega)
    have hB := B (by omega)
    have hw : IntKind.i64.wrap (g 0 + g 1) = g 0 + g 1 := by rw [wrapi, wrapi_of (by omega) (by omega)]
    simp only [Int.reduceBEq, Int.reduceEq, or_self, decide_false, cond_true, cond_false, Int.reduceLT, decide_true, widthT, or_true, true_or, or_false, false_or, if_true, if_false, Option.bind_some, bv, decide_eq_true_eq, beq_iff_eq, hw]
    simp only [Bool.false_eq_true, if_false]
    by_cases k1 : g 0 < 1 <;> by_cases k2 : g 1 < 1 <;> by_cases k3 : g 0 + g 1 > 64 <;>
      first
      | rw [if_pos k1, if_neg (by omega)]
      | rw [if_neg k1, if_pos k2, if_neg (by omega)]
      | rw [if_neg k1, if_neg k2, if_pos k3, if_neg (by omega)]
      | rw [if_neg k1, if_neg k2, if_neg k3, if_pos (by omega)]
  · rcases ho with rfl | rfl | rfl <;>
      (simp only [Int.reduceBEq, Int.reduceEq, or_self, decide_false, cond_true, cond_false, Int.reduceLT, decide_true, widthT, or_true, true_or, or_false, false_or, if_true, if_false, Option.bind_some, bv, bne_iff_ne, beq_iff_eq]
       by_cases k1 : g 0 = g 1 <;> simp [k1])
  · rcases ho with rfl | rfl | rfl | rfl | rfl | rfl | rfl | rfl | rfl | rfl | rfl <;>
      (simp only [Int.reduceBEq, Int.reduceEq, or_self, decide_false, cond_true, cond_false, Int.reduceLT, decide_true, widthT, or_true, true_or, or_false, false_or, if_true, if_false, Option.bind_some, bv, bne_iff_ne, beq_iff_eq]
       by_cases k1 : g 0 = g 1 <;> simp [k1])
open Classical in
theorem saturateref04_Width_loop (fu : Nat) {op w : Int} {x : Nat} (hx : x < 18446744073709551616) {n : Nat} {g : Nat → Int} (hl : n ≤ 1000) (h1 : 1 ≤ op) (h2 : op ≤ 26) (ha : (n : Int) = arity op) (d : Nat) : ∀ k i, i + d = n → d < k → allIn i g →
    saturateref04_Width.j4 fu k op w x n (n : Int) (i : Int) n g = some (widthS op w x n g) := by
  have hS : widthS op w x n g = if allIn n g then widthT op w x g else (0, 3) := by unfold widthS; rw [if_neg (by omega)]
  induction d with
  | zero =>
    intro k i hi hk ht
    obtain ⟨k, rfl⟩ : ∃ m, k = m + 1 := ⟨k - 1, by omega⟩
    obtain rfl : i = n := by omega
    rw [saturateref04_Width_end fu k hx h1 h2 ha ht, hS, if_pos ht]
  | succ d ih =>
    intro k i hi hk ht
    obtain ⟨k, rfl⟩ : ∃ m, k = m + 1 := ⟨k - 1, by omega⟩
    rw [saturateref04_Width.j4_succ, bifd_pos (by omega), bifd_pos (by omega), bifd_pos (by omega), saturateref04_width_eq, Option.bind_some, wrapi, wrapi_succ (by omega), Int.toNat_natCast]
    cases hb : ins (g i) with
    | true =>
      rw [Bool.not_true, cond_false]
      exact ih k (i + 1) (by omega) (by omega) fun j hj => by
        rcases Nat.lt_or_ge j i with h | h
        · exact ht j h
        · obtain rfl : j = i := by omega
          exact hb
    | false =>
      rw [Bool.not_false, cond_true]
      rw [hS, if_neg (fun h => by rw [h i (by omega)] at hb; cases hb)]
theorem saturateref04_Width_eq {op w : Int} {x : Nat} (hx : x < 18446744073709551616) (n : Nat) (g : Nat → Int) : saturateref04_Width.f op w x (n, g) = some (widthS op w x n g) := by
  unfold saturateref04_Width.f saturateref04_Width.g
  rw [saturateref04_Arity_eq]; simp only [Option.bind_some]
  by_cases h : 1 ≤ op ∧ op ≤ 26
  · have h3 := arity_in h.1 h.2
    rw [bifd_neg (by omega)]
    by_cases ha : (n : Int) = arity op
    · rw [show ((n : Int) != arity op) = false by simp [ha]]
      simp only [cond_false]
      have hk : n < fuel0 + 1 := by unfold fuel0; omega
      have := saturateref04_Width_loop (fuel0 + 1) (w := w) hx (g := g) (by omega) h.1 h.2 ha n (fuel0 + 1) 0 (by omega) hk (fun i hi => absurd hi (Nat.not_lt_zero _))
      rw [show ((0 : Nat) : Int) = 0 from rfl] at this
      exact this
    · have hb : ((n : Int) != arity op) = true := bne_iff_ne.2 ha
      rw [hb, cond_true]
      unfold widthS
      rw [if_pos (.inr (.inr ha))]
  · rw [bifd_pos (by rw [arity_out (by omega)]; decide)]
    unfold widthS
    rw [if_pos (by omega)]
end Go.Proofs.YtcihbcffokjgjaaGreat.Fn
namespace Go.Proofs.YtcihbcffokjgjaaGreat.Fn
open Go Go.RowKit Go.Proofs.YtcihbcffokjgjaaGreat.Ev Go.Proofs.YtcihbcffokjgjaaGreat.Bv
set_option linter.unusedVariables false
set_option linter.unusedSimpArgs false
set_option maxRecDepth 100000
def wdS (l : List Tm) (j : Nat) : Int := ((l[j]?).map Tm.width).getD 0
theorem wdS_at {l : List Tm} {i : Nat} {t : Tm} (h : l[i]? = some t) : wdS l i = t.width := by unfold wdS; rw [h]; rfl
theorem widths_j3 (fu : Nat) (K : List Tm) (hK : K.length ≤ 10000) : ∀ (ks : List Tm) (i k : Nat), K.drop i = ks → i ≤ K.length → ks.length < k →
    term_widths.j3 fu k K.length K (K.length : Int) (i : Int) K.length (tr (wdS K) i) = some (K.length, tr (wdS K) K.length)
  | [], i, k, hd, hi, hk => by
    obtain ⟨k, rfl⟩ : ∃ m, k = m + 1 := ⟨k - 1, by omega⟩
    obtain rfl := drop_nil hd hi
    rw [term_widths.j3_succ, bifd_neg (by omega)]
  | t :: ks, i, k, hd, hi, hk => by
    obtain ⟨k, rfl⟩ : ∃ m, k = m + 1 := ⟨k - 1, by rw [List.length_cons] at hk; omega⟩
    obtain ⟨h3, h4, h5⟩ := drop_cons hd
    rw [term_widths.j3_succ, bifd_pos (by omega), bifd_pos (by omega), bifd_pos (by omega), Int.toNat_natCast, h4, Option.bind_some, bifd_pos (by omega), bifd_pos (by omega), wrapi, wrapi_succ (by omega), ← wdS_at h4, tr_upd]
    exact widths_j3 fu K hK ks (i + 1) k h5 (by omega) (by rw [List.length_cons] at hk; omega)
theorem widths_eq {l : List Tm} (hl : l.length ≤ 10000) : term_widths.f l = some (l.length, tr (wdS l) l.length) := by
  unfold term_widths.f
  have hf : 10001 < fuel0 + 1 := by unfold fuel0; omega
  generalize fuel0 + 1 = fu at hf
  unfold term_widths.g
  rw [bifd_pos (by omega), ble_of (by omega), cond_true]
  have := widths_j3 fu l hl l 0 fu rfl (Nat.zero_le _) (by omega)
  rw [tr_zero] at this
  exact this
theorem ref_widths_j3 (fu : Nat) (K : List Tm) (hK : K.length ≤ 10000) : ∀ (ks : List Tm) (i k : Nat), K.drop i = ks → i ≤ K.length → ks.length < k →
    saturateref06_Widths.j3 fu k K i (i : Int) i (tr (wdS K) i) = some (K.length, tr (wdS K) K.length)
  | [], i, k, hd, hi, hk => by
    obtain ⟨k, rfl⟩ : ∃ m, k = m + 1 := ⟨k - 1, by omega⟩
    obtain rfl := drop_nil hd hi
    rw [saturateref06_Widths.j3_succ, bifd_neg (by omega)]
  | t :: ks, i, k, hd, hi, hk => by
    obtain ⟨k, rfl⟩ : ∃ m, k = m + 1 := ⟨k - 1, by rw [List.length_cons] at hk; omega⟩
    obtain ⟨h3, h4, h5⟩ := drop_cons hd
    rw [saturateref06_Widths.j3_succ, bifd_pos (by omega), bifd_pos (by omega), bifd_pos (by omega), Int.toNat_natCast, h4, Option.bind_some, ble_of (by omega), cond_true, wrapi, wrapi_succ (by omega), ← wdS_at h4, tr_cat]
    exact ref_widths_j3 fu K hK ks (i + 1) k h5 (by omega) (by rw [List.length_cons] at hk; omega)
theorem ref_widths_eq {l : List Tm} (hl : l.length ≤ 10000) : saturateref06_Widths.f l = some (l.length, tr (wdS l) l.length) := by
  unfold saturateref06_Widths.f
  have hf : 10001 < fuel0 + 1 := by unfold fuel0; omega
  generalize fuel0 + 1 = fu at hf
  unfold saturateref06_Widths.g
  have := ref_widths_j3 fu l hl l 0 fu rfl (Nat.zero_le _) (by omega)
  rw [tr_zero] at this
  exact this
theorem name_j4 (fu : Nat) (s : ByteArray) (hs : s.size ≤ 16) (d : Nat) : ∀ (i k k' : Nat), i + d = s.size → d < k → d < k' → ∃ b, term_Name.j4 (fu + 1) k s (s.size : Int) (i : Int) = some b ∧ saturateref06_Name.j4 (fu + 1) k' s (i : Int) = some b := by
  induction d with
  | zero =>
    intro i k k' hi hk hk'
    obtain ⟨k, rfl⟩ : ∃ m, k = m + 1 := ⟨k - 1, by omega⟩
    obtain ⟨k', rfl⟩ : ∃ m, k' = m + 1 := ⟨k' - 1, by omega⟩
    exact ⟨true, by rw [term_Name.j4_succ, bifd_neg (by omega)], by rw [saturateref06_Name.j4_succ, bifd_neg (by omega)]⟩
  | succ d ih =>
    intro i k k' hi hk hk'
    obtain ⟨k, rfl⟩ : ∃ m, k = m + 1 := ⟨k - 1, by omega⟩
    obtain ⟨k', rfl⟩ : ∃ m, k' = m + 1 := ⟨k' - 1, by omega⟩
    obtain ⟨b, e1, e2⟩ := ih (i + 1) k k' (by omega) (by omega) (by omega)
    have hi' : i < s.size := by omega
    have hg : (s[i]? : Option UInt8) = some (s[i]'hi') := getElem?_pos s i hi'
    rw [term_Name.j4_succ, saturateref06_Name.j4_succ]
    rw [bifd_pos (show (i : Int) < (s.size : Int) by omega), bifd_pos (show (0 : Int) ≤ (i : Int) by omega), Int.toNat_natCast, hg]
    rw [Option.bind_some, term_Name.p9_eq, saturateref06_Name.p5_eq, wrapi, wrapi_succ (by omega), e1, e2]
    simp only [Option.bind_some]
    generalize (s[i]'hi').toNat = u
    rw [bifd_pos (show (i : Int) < (s.size : Int) by omega), bifd_pos (show (0 : Int) ≤ (i : Int) by omega)]
    generalize decide ((u : Int) < 97) = b1
    generalize decide ((u : Int) < 48) = b2
    generalize ((u : Int) != 95) = b3
    generalize decide ((u : Int) > 57) = b4
    generalize decide ((u : Int) > 122) = b5
    cases b1 <;> cases b2 <;> cases b3 <;> cases b4 <;> cases b5 <;> exact ⟨_, rfl, rfl⟩
theorem name_ex (s : ByteArray) : ∃ b, term_Name.f s = some b ∧ saturateref06_Name.f s = some b := by
  unfold term_Name.f saturateref06_Name.f
  have hf : 100 < fuel0 := by unfold fuel0; omega
  generalize fuel0 = fu at hf
  unfold term_Name.g saturateref06_Name.g
  by_cases h1 : (s.size : Int) < 1
  · rw [bifd_pos h1, bifd_pos h1]; exact ⟨_, rfl, rfl⟩
  · rw [bifd_neg h1, bifd_neg h1]
    by_cases h2 : (s.size : Int) > 16
    · rw [bifd_pos h2, bifd_pos h2]; exact ⟨_, rfl, rfl⟩
    · rw [bifd_neg h2, bifd_neg h2]
      obtain ⟨b, e1, e2⟩ := name_j4 fu s (by omega) s.size 0 (fu + 1) (fu + 1) (by omega) (by omega) (by omega)
      have hi' : 0 < s.size := by omega
      have hg : (s[(0 : Int).toNat]? : Option UInt8) = some (s[0]'hi') := getElem?_pos s 0 hi'
      rw [show ((0 : Nat) : Int) = 0 from rfl] at e1 e2
      rw [e1, e2, hg]
      simp only [Option.bind_some]
      generalize (s[0]'hi').toNat = u
      generalize decide ((u : Int) < 97) = b1
      generalize decide ((u : Int) > 122) = b2
      cases b1 <;> cases b2 <;> exact ⟨_, rfl, rfl⟩
noncomputable def nameS (s : ByteArray) : Bool := Classical.choose (name_ex s)
theorem name_prog (s : ByteArray) : term_Name.f s = some (nameS s) := (Classical.choose_spec (name_ex s)).1
theorem name_ref (s : ByteArray) : saturateref06_Name.f s = some (nameS s) := (Classical.choose_spec (name_ex s)).2
noncomputable def nodeS (t : Tm) : Int :=
  bif decide (arity t.op < 0) then 4 else bif decide (t.op = 24 ∨ t.op = 25 ∨ t.op = 26) then 4 else bif !((t.kids.length : Int) == arity t.op) then 4
  else bif !(t.name.toList == (ByteArray.mk #[]).toList) && !(t.op == 1) then 4 else bif !(t.val == 0) && (!(t.op == 2) && !(t.op == 21)) then 4
  else bif (t.op == 1) && !nameS t.name then 5 else bif decide (t.width < 1) then 3
  else bif !((widthS t.op t.width t.val.toNat t.kids.length (tr (wdS t.kids) t.kids.length)).2 == 0) || !((widthS t.op t.width t.val.toNat t.kids.length (tr (wdS t.kids) t.kids.length)).1 == t.width) then 3 else 0
theorem val_nat {t : Tm} (h : wfT t) : ((t.val.toNat : Nat) : Int) = t.val ∧ t.val.toNat < 18446744073709551616 := by
  obtain ⟨x, hx, lx⟩ := u64_of (wfT_nums h).2.2.1
  rw [hx]; exact ⟨by omega, by omega⟩
theorem node_prog {t : Tm} (hw : wfT t) (hl : t.kids.length ≤ 10000) : term_node.f t = some (nodeS t) := by
  unfold term_node.f
  generalize fuel0 = fu
  unfold term_node.g nodeS
  obtain ⟨e1, e2⟩ := val_nat hw
  have hW := opinfo_Width_eq (op := t.op) (w := t.width) e2 t.kids.length (tr (wdS t.kids) t.kids.length)
  rw [e1] at hW
  rw [opinfo_Arity_eq, Option.bind_some, opinfo_Pattern_eq, Option.bind_some, Option.bind_some, name_prog, Option.bind_some, term_node.p11_eq, widths_eq hl, Option.bind_some]
  simp only
  rw [hW, Option.bind_some]
  generalize widthS t.op t.width t.val.toNat t.kids.length (tr (wdS t.kids) t.kids.length) = ws
  simp only [bne]
  generalize decide (arity t.op < 0) = b1
  generalize decide (t.op = 24 ∨ t.op = 25 ∨ t.op = 26) = b2
  generalize ((t.kids.length : Int) == arity t.op) = b3
  generalize (t.name.toList == (ByteArray.mk #[]).toList) = b4
  generalize (t.op == 1) = b5
  generalize (t.op == 2) = b6
  generalize (t.op == 21) = b7
  generalize (t.val == 0) = b8
  generalize nameS t.name = b9
  generalize decide (t.width < 1) = b10
  generalize (ws.2 == 0) = b11
  generalize (ws.1 == t.width) = b12
  cases b1
  · cases b2
    · cases b3
      · rfl
      · cases b4 <;> cases b5 <;> cases b6 <;> cases b7 <;> cases b8 <;> cases b9 <;> cases b10 <;> cases b11 <;> cases b12 <;> rfl
    · rfl
  · rfl
theorem node_ref {t : Tm} (hw : wfT t) (hl : t.kids.length ≤ 10000) : saturateref06_Node.f t = some (nodeS t) := by
  unfold saturateref06_Node.f
  generalize fuel0 = fu
  unfold saturateref06_Node.g nodeS
  obtain ⟨e1, e2⟩ := val_nat hw
  have hW := saturateref04_Width_eq (op := t.op) (w := t.width) e2 t.kids.length (tr (wdS t.kids) t.kids.length)
  rw [e1] at hW
  rw [saturateref04_Arity_eq, Option.bind_some, saturateref04_Pattern_eq, Option.bind_some, Option.bind_some, name_ref, Option.bind_some, saturateref06_Node.p7_eq, ref_widths_eq hl, Option.bind_some]
  simp only
  rw [hW, Option.bind_some]
  generalize widthS t.op t.width t.val.toNat t.kids.length (tr (wdS t.kids) t.kids.length) = ws
  simp only [bne]
  generalize decide (arity t.op < 0) = b1
  generalize decide (t.op = 24 ∨ t.op = 25 ∨ t.op = 26) = b2
  generalize ((t.kids.length : Int) == arity t.op) = b3
  generalize (t.name.toList == (ByteArray.mk #[]).toList) = b4
  generalize (t.op == 1) = b5
  generalize (t.op == 2) = b6
  generalize (t.op == 21) = b7
  generalize (t.val == 0) = b8
  generalize nameS t.name = b9
  generalize decide (t.width < 1) = b10
  generalize (ws.2 == 0) = b11
  generalize (ws.1 == t.width) = b12
  cases b1
  · cases b2
    · cases b3
      · rfl
      · cases b4 <;> cases b5 <;> cases b6 <;> cases b7 <;> cases b8 <;> cases b9 <;> cases b10 <;> cases b11 <;> cases b12 <;> rfl
    · rfl
  · rfl
end Go.Proofs.YtcihbcffokjgjaaGreat.Fn
namespace Go.Proofs.YtcihbcffokjgjaaGreat.Fn
open Go Go.RowKit Go.Proofs.YtcihbcffokjgjaaGreat.Ev Go.Proofs.YtcihbcffokjgjaaGreat.Bv
set_option linter.unusedVariables false
set_option linter.unusedSimpArgs false
set_option maxRecDepth 100000
theorem name_beq1 (a b : ByteArray) : (a.data.toList == b.data.toList) = decide (a = b) := by
  by_cases h : a = b
  · subst h; simp
  · rw [decide_eq_false h, beq_eq_false_iff_ne]; exact fun e => h (ByteArray.ext (by cases a; cases b; exact Array.ext' e))
theorem name_beq2 (a b : ByteArray) : (a.toList == b.toList) = decide (a = b) := by rw [Go.ByteArray.toList_eq, Go.ByteArray.toList_eq, name_beq1]
theorem nameS_size {s : ByteArray} (h : nameS s = true) : s.size ≤ 16 := by
  have := name_prog s
  rw [h] at this
  unfold term_Name.f at this
  generalize fuel0 + 1 = fu at this
  unfold term_Name.g at this
  by_cases h1 : (s.size : Int) < 1
  · rw [bifd_pos h1] at this; exact absurd this (by decide)
  · rw [bifd_neg h1] at this
    by_cases h2 : (s.size : Int) > 16
    · rw [bifd_pos h2] at this; exact absurd this (by decide)
    · omega
structure Ok (t : Tm) : Prop where
  wf : wfT t
  sz : szT t ≤ 100
  dp : dpT t ≤ 64
theorem Ok.kid {t u : Tm} (h : Ok t) {i : Nat} (hu : t.kids[i]? = some u) : Ok u := by
  have e1 := szT_eq t
  have e2 := dpT_eq t
  have e3 := szL_mem hu
  have := h.sz
  have := h.dp
  exact ⟨wfL_get (wfT_kids h.wf).2 i u hu, by omega, by omega⟩
theorem Ok.len {t : Tm} (h : Ok t) : t.kids.length < 100 := by
  have e1 := szT_eq t
  have e3 := szL_len t.kids
  have := h.sz
  omega
theorem Ok.post {t : Tm} (h : Ok t) : ∀ u ∈ postT t, Ok u := post_all (fun t ht i u hu => ht.kid hu) t h
noncomputable def firstE : List Tm → Int
  | [] => 0
  | u :: l => if nodeS u ≠ 0 then nodeS u else firstE l
theorem firstE_append : ∀ l m : List Tm, firstE (l ++ m) = if firstE l ≠ 0 then firstE l else firstE m
  | [], m => by simp [firstE]
  | u :: l, m => by
    rw [List.cons_append, firstE, firstE, firstE_append l m]
    by_cases h : nodeS u ≠ 0
    · rw [if_pos h, if_pos h, if_pos h]
    · rw [if_neg h, if_neg h]
def conf : List Tm → List (ByteArray × Int) → Bool
  | [], _ => false
  | u :: l, seen => bif u.op == 1 then (match seenAt2 u.name seen with | some w => w != u.width | none => false) || conf l ((u.name, u.width) :: seen) else conf l seen
theorem node_name {u : Tm} (h : nodeS u = 0) (h1 : u.op = 1) : nameS u.name = true := by
  unfold nodeS at h
  rw [show (u.op == 1) = true by rw [beq_iff_eq]; exact h1] at h
  cases hn : nameS u.name
  · rw [hn] at h
    exfalso
    revert h
    generalize decide (arity u.op < 0) = b1
    generalize decide (u.op = 24 ∨ u.op = 25 ∨ u.op = 26) = b2
    generalize ((u.kids.length : Int) == arity u.op) = b3
    generalize (u.name.toList == (ByteArray.mk #[]).toList) = b4
    generalize (u.op == 2) = b6
    generalize (u.op == 21) = b7
    generalize (u.val == 0) = b8
    cases b1 <;> cases b2 <;> cases b3 <;> cases b4 <;> cases b6 <;> cases b7 <;> cases b8 <;> simp
  · rfl
theorem chkGo2_eq : ∀ (l : List Tm) (seen : List (ByteArray × Int)) (c : Bool), (∀ u ∈ l, Ok u) → chkGo2 l seen c = some (if firstE l ≠ 0 then firstE l else bif c || conf l seen then 12 else 0)
  | [], seen, c, _ => by unfold chkGo2 conf firstE; rw [Bool.or_false]; rfl
  | u :: l, seen, c, h => by
    have hu := h u (by simp)
    have hl : ∀ v ∈ l, Ok v := fun v hv => h v (by simp [hv])
    have hsz := hu.sz
    have hdp := hu.dp
    unfold chkGo2 conf
    rw [copy_eq (by omega) (by omega), Option.bind_some, node_prog hu.wf (by have := hu.len; omega), Option.bind_some, firstE]
    by_cases h0 : nodeS u ≠ 0
    · rw [show (nodeS u != 0) = true by rw [bne_iff_ne]; exact h0, cond_true, if_pos h0, if_pos h0]
    · have h0' : nodeS u = 0 := Decidable.not_not.1 h0
      rw [show (nodeS u != 0) = false by rw [bne_eq_false_iff_eq]; exact h0', cond_false, if_neg h0]
      by_cases h1 : u.op = 1
      · rw [show (u.op == 1) = true by rw [beq_iff_eq]; exact h1, cond_true, cond_true]
        have hn := nameS_size (node_name h0' h1)
        obtain ⟨w1, w2⟩ := i64_of (wfT_nums hu.wf).2.1
        rw [decide_eq_true w1, decide_eq_true w2, show Nat.ble u.name.size 4611686018427387903 = true by rw [Nat.ble_eq]; omega, Bool.and_self, Bool.and_self, cond_true, chkGo2_eq l _ _ hl, Bool.or_assoc]
        rfl
      · rw [show (u.op == 1) = false by rw [beq_eq_false_iff_ne]; exact h1, cond_false, cond_false, chkGo2_eq l seen c hl]
theorem nodes_j2 (rec : Tm × Unit → Option Int) (hrec) (fu : Nat) (K : List Tm) (hK : K.length ≤ 10000) (hr : ∀ (i : Nat) t, K[i]? = some t → rec (t, ()) = some (firstE (postT t))) {t : Tm} (ht : saturateref06_Node.f t = some (nodeS t)) (hk : t.kids = K) :
    ∀ (ks : List Tm) (i k : Nat), K.drop i = ks → i ≤ K.length → ks.length < k → saturateref06_nodes.j2 rec hrec fu k (i : Int) t.op t.width t.val t.name K = some (if firstE (postL ks) ≠ 0 then firstE (postL ks) else nodeS t)
  | [], i, k, hd, hi, hk' => by
    obtain ⟨k, rfl⟩ : ∃ m, k = m + 1 := ⟨k - 1, by omega⟩
    obtain rfl := drop_nil hd hi
    rw [saturateref06_nodes.j2_succ, bifd_neg (by omega), ← hk, Tm.eta', ht]
    unfold postL firstE
    rw [if_neg (by simp)]; rfl
  | u :: ks, i, k, hd, hi, hk' => by
    obtain ⟨k, rfl⟩ : ∃ m, k = m + 1 := ⟨k - 1, by rw [List.length_cons] at hk'; omega⟩
    obtain ⟨h3, h4, h5⟩ := drop_cons hd
    rw [saturateref06_nodes.j2_succ, bifd_pos (by omega), bifd_pos (by omega), bifd_pos (by omega), Int.toNat_natCast, h4, Option.bind_some, Tm.eta', hr i u h4, Option.bind_some, show postL (u :: ks) = postT u ++ postL ks by rw [postL], firstE_append]
    by_cases h0 : firstE (postT u) ≠ 0
    · rw [show (firstE (postT u) != 0) = true by rw [bne_iff_ne]; exact h0, cond_true, if_pos h0, if_pos h0]
    · rw [show (firstE (postT u) != 0) = false by rw [bne_eq_false_iff_eq]; exact Decidable.not_not.1 h0, cond_false, if_neg h0, wrapi, wrapi_succ (by omega)]
      exact nodes_j2 rec hrec fu K hK hr ht hk ks (i + 1) k h5 (by omega) (by rw [List.length_cons] at hk'; omega)
theorem nodes_FC : ∀ (n : Nat) (t : Tm), Ok t → dpT t ≤ n → (saturateref06_nodes.FC n).1 (t, ()) = some (firstE (postT t)) := by
  intro n
  induction n with
  | zero => intro t _ h; have := dpT_eq t; omega
  | succ n ih =>
    intro t ht hd
    show saturateref06_nodes.g (saturateref06_nodes.FC n).1 (saturateref06_nodes.FC n).2 (fuel0 + 1) t = _
    have hf : 10000 < fuel0 + 1 := by unfold fuel0; omega
    generalize fuel0 + 1 = fu at hf
    unfold saturateref06_nodes.g
    have e2 := dpT_eq t
    have hl := ht.len
    have := nodes_j2 (saturateref06_nodes.FC n).1 (saturateref06_nodes.FC n).2 fu t.kids (by omega) (fun i u hu => ih u (ht.kid hu) (by have := szL_mem hu; omega)) (node_ref ht.wf (by omega)) rfl t.kids 0 fu rfl (Nat.zero_le _) (by omega)
    rw [show ((0 : Nat) : Int) = 0 from rfl] at this
    rw [this, postT_kids, firstE_append]
    unfold firstE
    by_cases h : nodeS t ≠ 0
    · rw [if_pos h]
    · rw [if_neg h, Decidable.not_not.1 h]; rfl
theorem nodes_eq {t : Tm} (h : Ok t) : saturateref06_nodes.f t = some (firstE (postT t)) := by
  unfold saturateref06_nodes.f
  exact nodes_FC deep0 t h (by have := h.dp; unfold deep0; omega)
theorem post_j3 (rec : Tm × Unit → Option (List Tm)) (hrec) (fu : Nat) (K : List Tm) (hK : szL K ≤ 10000) (hr : ∀ (i : Nat) t, K[i]? = some t → rec (t, ()) = some (postT t)) (c0 c1 c2 : Int) (c3 : ByteArray) :
    ∀ (ks : List Tm) (i k : Nat) (l : List Tm), K.drop i = ks → i ≤ K.length → ks.length < k → l.length + szL ks ≤ 10000 → saturateref06_Post.j3 rec hrec fu k l.length (i : Int) c0 c1 c2 c3 K l = some (l ++ postL ks ++ [Tm.mk c0 c1 c2 c3 K])
  | [], i, k, l, hd, hi, hk', hs => by
    obtain ⟨k, rfl⟩ : ∃ m, k = m + 1 := ⟨k - 1, by omega⟩
    obtain rfl := drop_nil hd hi
    rw [szL_nil] at hs
    rw [saturateref06_Post.j3_succ, bifd_neg (by omega), ble_of (by omega), cond_true]
    unfold postL
    rw [List.append_nil]
  | u :: ks, i, k, l, hd, hi, hk', hs => by
    obtain ⟨k, rfl⟩ : ∃ m, k = m + 1 := ⟨k - 1, by rw [List.length_cons] at hk'; omega⟩
    obtain ⟨h3, h4, h5⟩ := drop_cons hd
    have hl := szL_len K
    rw [szL_cons] at hs
    have hpl := postT_len u
    rw [saturateref06_Post.j3_succ, bifd_pos (by omega), bifd_pos (by omega), bifd_pos (by omega), Int.toNat_natCast, h4, Option.bind_some, Tm.eta', hr i u h4, Option.bind_some, ble_of (by omega), cond_true, wrapi, wrapi_succ (by omega)]
    have := post_j3 rec hrec fu K hK hr c0 c1 c2 c3 ks (i + 1) k (l ++ postT u) h5 (by omega) (by rw [List.length_cons] at hk'; omega) (by rw [List.length_append]; omega)
    rw [List.length_append] at this
    rw [this, show postL (u :: ks) = postT u ++ postL ks by rw [postL], List.append_assoc l (postT u) (postL ks)]
theorem post_FC : ∀ (n : Nat) (t : Tm), Ok t → dpT t ≤ n → (saturateref06_Post.FC n).1 (t, ()) = some (postT t) := by
  intro n
  induction n with
  | zero => intro t _ h; have := dpT_eq t; omega
  | succ n ih =>
    intro t ht hd
    show saturateref06_Post.g (saturateref06_Post.FC n).1 (saturateref06_Post.FC n).2 (fuel0 + 1) t = _
    have hf : 10000 < fuel0 + 1 := by unfold fuel0; omega
    generalize fuel0 + 1 = fu at hf
    unfold saturateref06_Post.g
    have e1 := szT_eq t
    have e2 := dpT_eq t
    have hl := ht.len
    have hz := ht.sz
    have := post_j3 (saturateref06_Post.FC n).1 (saturateref06_Post.FC n).2 fu t.kids (by omega) (fun i u hu => ih u (ht.kid hu) (by have := szL_mem hu; omega)) t.op t.width t.val t.name t.kids 0 fu [] rfl (Nat.zero_le _) (by omega) (by simp; omega)
    rw [show ((0 : Nat) : Int) = 0 from rfl, Tm.eta', List.nil_append, ← postT_kids] at this
    exact this
theorem post_eq {t : Tm} (h : Ok t) : saturateref06_Post.f t = some (postT t) := by
  unfold saturateref06_Post.f
  exact post_FC deep0 t h (by have := h.dp; unfold deep0; omega)
def bad (u v : Tm) : Bool := (u.op == 1) && ((v.op == 1) && (decide (u.name = v.name) && (u.width != v.width)))
def confP : List Tm → List Tm → Bool
  | _, [] => false
  | pre, u :: l => pre.any (bad u) || confP (pre ++ [u]) l
theorem check_j11 (fu n8 : Nat) (L : List Tm) (hL : L.length ≤ 10000) {i : Nat} {u : Tm} (hi : i < L.length) (hu : L[i]? = some u) (d : Nat) : ∀ (k n11 : Nat), k + d = i → d < n11 →
    saturateref06_Check.j11 (fu + 1) n8 n11 L (i : Int) (k : Int) = if ((L.take i).drop k).any (bad u) = true then some 12 else saturateref06_Check.j8 (fu + 1) n8 L ((i + 1 : Nat) : Int) := by
  induction d with
  | zero =>
    intro k n hk hn
    obtain ⟨n, rfl⟩ : ∃ m, n = m + 1 := ⟨n - 1, by omega⟩
    obtain rfl : k = i := by omega
    rw [saturateref06_Check.j11_succ, bifd_neg (by omega), wrapi, wrapi_succ (by omega)]
    rw [List.drop_eq_nil_of_le (by rw [List.length_take]; omega), if_neg (by simp)]
  | succ d ih =>
    intro k n hk hn
    obtain ⟨n, rfl⟩ : ∃ m, n = m + 1 := ⟨n - 1, by omega⟩
    have hkl : k < L.length := by omega
    obtain ⟨v, hv⟩ : ∃ v, L[k]? = some v := ⟨L[k], List.getElem?_eq_getElem hkl⟩
    have hdrop : (L.take i).drop k = v :: (L.take i).drop (k + 1) := by
      have hlt : k < (L.take i).length := by rw [List.length_take]; omega
      rw [List.drop_eq_getElem_cons hlt]
      congr 1
      rw [List.getElem_take]
      exact Option.some.inj ((List.getElem?_eq_getElem hkl).symm.trans hv)
    have e := ih (k + 1) n (by omega) (by omega)
    rw [saturateref06_Check.j11_succ, saturateref06_Check.p12_eq, wrapi, wrapi_succ (by omega), e, hdrop, List.any_cons, Int.toNat_natCast, Int.toNat_natCast, hu, hv]
    generalize saturateref06_Check.j8 (fu + 1) n8 L ((i + 1 : Nat) : Int) = J
    rw [show decide ((k : Int) < (i : Int)) = true from decide_eq_true (by omega), show decide ((0 : Int) ≤ (i : Int)) = true from decide_eq_true (by omega), show decide ((i : Int) < (L.length : Int)) = true from decide_eq_true (by omega), show decide ((0 : Int) ≤ (k : Int)) = true from decide_eq_true (by omega), show decide ((k : Int) < (L.length : Int)) = true from decide_eq_true (by omega)]
    simp only [Option.bind_some, cond_true, name_beq2]
    unfold bad
    generalize ((L.take i).drop (k + 1)).any (fun v => (u.op == 1) && ((v.op == 1) && (decide (u.name = v.name) && (u.width != v.width)))) = r
    generalize (u.op == 1) = b1
    generalize (v.op == 1) = b2
    generalize decide (u.name = v.name) = b3
    generalize (u.width != v.width) = b4
    cases b1 <;> cases b2 <;> cases b3 <;> cases b4 <;> cases r <;> simp
theorem check_j8 (fu : Nat) (L : List Tm) (hL : L.length ≤ 10000) (hfu : L.length ≤ fu) : ∀ (ks : List Tm) (i k : Nat), L.drop i = ks → i ≤ L.length → ks.length < k →
    saturateref06_Check.j8 (fu + 1) k L (i : Int) = some (bif confP (L.take i) ks then 12 else 0)
  | [], i, k, hd, hi, hk => by
    obtain ⟨k, rfl⟩ : ∃ m, k = m + 1 := ⟨k - 1, by omega⟩
    obtain rfl := drop_nil hd hi
    rw [saturateref06_Check.j8_succ, bifd_neg (by omega)]; rfl
  | u :: ks, i, k, hd, hi, hk => by
    obtain ⟨k, rfl⟩ : ∃ m, k = m + 1 := ⟨k - 1, by rw [List.length_cons] at hk; omega⟩
    obtain ⟨h3, h4, h5⟩ := drop_cons hd
    rw [saturateref06_Check.j8_succ, bifd_pos (by omega)]
    have := check_j11 fu k L hL h3 h4 i 0 (fu + 1) (by omega) (by omega)
    rw [show ((0 : Nat) : Int) = 0 from rfl, List.drop_zero] at this
    rw [this, confP]
    have e := check_j8 fu L hL hfu ks (i + 1) k h5 (by omega) (by rw [List.length_cons] at hk; omega)
    have ht : L.take (i + 1) = L.take i ++ [u] := by rw [List.take_add_one, h4]; rfl
    rw [ht] at e
    by_cases h : (L.take i).any (bad u) = true
    · rw [if_pos h, h]; rfl
    · rw [if_neg h, e, show (L.take i).any (bad u) = false by cases q : (L.take i).any (bad u) with | true => exact absurd q h | false => rfl, Bool.false_or]
structure SeenI (pre : List Tm) (seen : List (ByteArray × Int)) : Prop where
  all : ∀ v ∈ pre, v.op = 1 → seenAt2 v.name seen = some v.width
  some' : ∀ s w, seenAt2 s seen = some w → ∃ v ∈ pre, v.op = 1 ∧ v.name = s ∧ v.width = w
theorem seenAt2_cons (s k : ByteArray) (w : Int) (l : List (ByteArray × Int)) : seenAt2 s ((k, w) :: l) = if s = k then some w else seenAt2 s l := by
  unfold seenAt2
  rw [name_beq1]
  by_cases h : s = k
  · rw [bifd_pos h, if_pos h]
  · rw [bifd_neg h, if_neg h]
    cases l <;> rfl
theorem conf_eq : ∀ (l pre : List Tm) (seen : List (ByteArray × Int)), SeenI pre seen → conf l seen = confP pre l
  | [], pre, seen, h => rfl
  | u :: l, pre, seen, h => by
    unfold conf confP
    by_cases h1 : u.op = 1
    · rw [show (u.op == 1) = true by rw [beq_iff_eq]; exact h1, cond_true]
      have hany : pre.any (bad u) = match seenAt2 u.name seen with | some w => w != u.width | none => false := by
        cases hs : seenAt2 u.name seen with
        | none =>
          rw [List.any_eq_false]
          intro v hv hb
          unfold bad at hb
          rw [Bool.and_eq_true, Bool.and_eq_true, Bool.and_eq_true, beq_iff_eq, beq_iff_eq, decide_eq_true_eq] at hb
          have := h.all v hv hb.2.1
          rw [← hb.2.2.1, hs] at this; cases this
        | some w =>
          by_cases hw : w = u.width
          · simp only
            rw [show (w != u.width) = false by rw [bne_eq_false_iff_eq]; exact hw, List.any_eq_false]
            intro v hv hb
            unfold bad at hb
            rw [Bool.and_eq_true, Bool.and_eq_true, Bool.and_eq_true, beq_iff_eq, beq_iff_eq, decide_eq_true_eq, bne_iff_ne] at hb
            have := h.all v hv hb.2.1
            rw [← hb.2.2.1, hs] at this
            exact hb.2.2.2 (by rw [← hw]; exact Option.some.inj this)
          · simp only
            rw [show (w != u.width) = true by rw [bne_iff_ne]; exact hw, List.any_eq_true]
            obtain ⟨v, hv, a1, a2, a3⟩ := h.some' _ _ hs
            refine ⟨v, hv, ?_⟩
            unfold bad
            rw [Bool.and_eq_true, Bool.and_eq_true, Bool.and_eq_true, beq_iff_eq, beq_iff_eq, decide_eq_true_eq, bne_iff_ne]
            exact ⟨h1, a1, a2.symm, fun q => hw (by rw [← a3]; exact q.symm)⟩
      rw [← hany]
      cases hb : pre.any (bad u)
      · rw [Bool.false_or, Bool.false_or]
        refine conf_eq l (pre ++ [u]) _ ⟨fun v hv hv1 => ?_, fun s w hs => ?_⟩
        · rw [seenAt2_cons]
          rw [List.mem_append, List.mem_singleton] at hv
          rcases hv with hv | rfl
          · by_cases e : v.name = u.name
            · rw [if_pos e]
              have hf := List.any_eq_false.1 hb v hv
              unfold bad at hf
              rw [Bool.and_eq_true, Bool.and_eq_true, Bool.and_eq_true, beq_iff_eq, beq_iff_eq, decide_eq_true_eq, bne_iff_ne] at hf
              exact congrArg some (Decidable.byContradiction fun q => hf ⟨h1, hv1, e.symm, q⟩)
            · rw [if_neg e]; exact h.all v hv hv1
          · rw [if_pos rfl]
        · rw [seenAt2_cons] at hs
          by_cases e : s = u.name
          · rw [if_pos e] at hs
            exact ⟨u, by simp, h1, e.symm, Option.some.inj hs⟩
          · rw [if_neg e] at hs
            obtain ⟨v, hv, q⟩ := h.some' s w hs
            exact ⟨v, by simp [hv], q⟩
      · rw [Bool.true_or, Bool.true_or]
    · rw [show (u.op == 1) = false by rw [beq_eq_false_iff_ne]; exact h1, cond_false]
      have hany : pre.any (bad u) = false := by
        rw [List.any_eq_false]
        intro v hv hb
        unfold bad at hb
        rw [Bool.and_eq_true, beq_iff_eq] at hb
        exact h1 hb.1
      rw [hany, Bool.false_or]
      refine conf_eq l (pre ++ [u]) _ ⟨fun v hv hv1 => ?_, fun s w hs => ?_⟩
      · rw [List.mem_append, List.mem_singleton] at hv
        rcases hv with hv | rfl
        · exact h.all v hv hv1
        · exact absurd hv1 h1
      · obtain ⟨v, hv, q⟩ := h.some' s w hs
        exact ⟨v, by simp [hv], q⟩
noncomputable def chkT (t : Tm) : Int := if firstE (postT t) ≠ 0 then firstE (postT t) else bif confP [] (postT t) then 12 else 0
theorem check_prog {t : Tm} (h : Ok t) : term_Check.f t = some (chkT t) := by
  have hs := h.sz
  have hd := h.dp
  unfold term_Check.f
  rw [small_of t (by omega), postT_len, ble_of (by omega), Bool.and_self, cond_true, measure_eq h.wf (by decide) (by decide) (by decide) (by decide), Option.bind_some]
  unfold msS
  rw [if_pos (by omega)]
  simp only [Bool.not_true]
  rw [cond_false, chkGo2_eq _ _ _ h.post, conf_eq (postT t) [] [] ⟨fun v hv => (by cases hv), fun s w hs => (by cases hs)⟩, Bool.false_or]
  rfl
theorem check_ref {t : Tm} (h : Ok t) : saturateref06_Check.f t = some (chkT t) := by
  have hs := h.sz
  have hd := h.dp
  unfold saturateref06_Check.f
  have hf : 10000 < fuel0 := by unfold fuel0; omega
  generalize fuel0 = fu at hf
  unfold saturateref06_Check.g
  rw [Tm.eta', count_eq h.wf (by decide) (by decide) (by decide) (by decide), Option.bind_some]
  unfold cntS
  rw [if_pos (by omega), bifd_neg (by omega), nodes_eq h, Option.bind_some]
  unfold chkT
  by_cases h0 : firstE (postT t) ≠ 0
  · rw [show (firstE (postT t) != 0) = true by rw [bne_iff_ne]; exact h0, cond_true, if_pos h0]
  · rw [show (firstE (postT t) != 0) = false by rw [bne_eq_false_iff_eq]; exact Decidable.not_not.1 h0, cond_false, if_neg h0, post_eq h, Option.bind_some]
    have := check_j8 fu (postT t) (by rw [postT_len]; omega) (by rw [postT_len]; omega) (postT t) 0 (fu + 1) rfl (Nat.zero_le _) (by rw [postT_len]; omega)
    rw [show ((0 : Nat) : Int) = 0 from rfl, List.take_zero] at this
    exact this
end Go.Proofs.YtcihbcffokjgjaaGreat.Fn
