/- The operators: their number of operands and the width of their value, by the program and by the reference: one specification that both meet. More functions of the bit vectors (program and reference), in the words of the theory. The checks ahead of an operator: the specification. The checks ahead of an operator on elements: one specification that the program's and the reference's meet. -/
import Derived.Test.YtcihbcffokjgjaaGreatSF0
import Derived.Test.YtcihbcffokjgjaaGreatSF9
import Derived.Test.YtcihbcffokjgjaaGreatSTp
import Derived.Test.YtcihbcffokjgjaaGreatSF11
import Derived.Test.YtcihbcffokjgjaaGreatSF2
import Derived.Test.YtcihbcffokjgjaaGreatSF3
namespace Go.Proofs.YtcihbcffokjgjaaGreat.Fn
open Go Go.RowKit Go.Proofs.YtcihbcffokjgjaaGreat.Ev Go.Proofs.YtcihbcffokjgjaaGreat.Bv
set_option linter.unusedVariables false
set_option linter.unusedSimpArgs false

theorem bv {α : Type} (c : Bool) (x y : α) : (bif c then x else y) = if c = true then x else y := by cases c <;> rfl

def arity (op : Int) : Int :=
  if op = 19 then 3 else if 5 ≤ op ∧ op ≤ 20 then 2
  else if op = 3 ∨ op = 4 ∨ op = 21 ∨ op = 22 ∨ op = 23 ∨ op = 26 then 1
  else if op = 1 ∨ op = 2 ∨ op = 24 ∨ op = 25 then 0 else -1
theorem ops {op : Int} (h1 : 1 ≤ op) (h2 : op ≤ 26) : op = 1 ∨ op = 2 ∨ op = 3 ∨ op = 4 ∨ op = 5 ∨ op = 6 ∨ op = 7 ∨ op = 8 ∨ op = 9 ∨ op = 10 ∨ op = 11 ∨ op = 12 ∨ op = 13 ∨ op = 14 ∨ op = 15 ∨ op = 16 ∨ op = 17 ∨ op = 18 ∨ op = 19 ∨ op = 20 ∨ op = 21 ∨ op = 22 ∨ op = 23 ∨ op = 24 ∨ op = 25 ∨ op = 26 := by
  obtain ⟨k, rfl⟩ := Int.eq_ofNat_of_zero_le (show 0 ≤ op by omega)
  have tab : ∀ m : Fin 27, 1 ≤ m.val → (((m.val : Nat) : Int) = 1 ∨ ((m.val : Nat) : Int) = 2 ∨ ((m.val : Nat) : Int) = 3 ∨ ((m.val : Nat) : Int) = 4 ∨ ((m.val : Nat) : Int) = 5 ∨ ((m.val : Nat) : Int) = 6 ∨ ((m.val : Nat) : Int) = 7 ∨ ((m.val : Nat) : Int) = 8 ∨ ((m.val : Nat) : Int) = 9 ∨ ((m.val : Nat) : Int) = 10 ∨ ((m.val : Nat) : Int) = 11 ∨ ((m.val : Nat) : Int) = 12 ∨ ((m.val : Nat) : Int) = 13 ∨ ((m.val : Nat) : Int) = 14 ∨ ((m.val : Nat) : Int) = 15 ∨ ((m.val : Nat) : Int) = 16 ∨ ((m.val : Nat) : Int) = 17 ∨ ((m.val : Nat) : Int) = 18 ∨ ((m.val : Nat) : Int) = 19 ∨ ((m.val : Nat) : Int) = 20 ∨ ((m.val : Nat) : Int) = 21 ∨ ((m.val : Nat) : Int) = 22 ∨ ((m.val : Nat) : Int) = 23 ∨ ((m.val : Nat) : Int) = 24 ∨ ((m.val : Nat) : Int) = 25 ∨ ((m.val : Nat) : Int) = 26) := by decide
  exact tab ⟨k, by omega⟩ (by show 1 ≤ k; omega)
theorem arity_out {op : Int} (h : op < 1 ∨ 26 < op) : arity op = -1 := by
  unfold arity
  rw [if_neg (by omega), if_neg (by omega), if_neg (by omega), if_neg (by omega)]
theorem arity_in {op : Int} (h1 : 1 ≤ op) (h2 : op ≤ 26) : 0 ≤ arity op ∧ arity op ≤ 3 := by
  obtain ⟨k, rfl⟩ := Int.eq_ofNat_of_zero_le (show 0 ≤ op by omega)
  have tab : ∀ m : Fin 27, 1 ≤ m.val → 0 ≤ arity ((m.val : Nat) : Int) ∧ arity ((m.val : Nat) : Int) ≤ 3 := by decide
  exact tab ⟨k, by omega⟩ (by show 1 ≤ k; omega)
/-- Is a width from 0 to 64? -/
def ins (a : Int) : Bool := decide (0 ≤ a) && decide (a ≤ 64)
theorem ins_iff {a : Int} : ins a = true ↔ 0 ≤ a ∧ a ≤ 64 := by unfold ins; simp
theorem ins_no {a : Int} : ins a = false ↔ ¬ (0 ≤ a ∧ a ≤ 64) := by rw [← ins_iff]; simp
def leafS (op w : Int) (x : Nat) : Int × Int := if ¬ (0 ≤ w ∧ w ≤ 64) ∨ (op = 2 ∧ 0 < w ∧ 2 ^ w.toNat ≤ x) then (0, 3) else (w, 0)
def partS (op w : Int) (x : Nat) (a : Int) : Int × Int :=
  if w < 1 ∨ w > 64 ∨ a < 1 then (0, 3) else if op = 21 then (if w > a ∨ (x : Int) > a - w then (0, 3) else (w, 0)) else if w < a then (0, 3) else (w, 0)
/-- The width of an operator's value, once the operands' number and widths are right: the width and the error. -/
def widthT (op w : Int) (x : Nat) (g : Nat → Int) : Int × Int :=
  if op = 1 ∨ op = 2 ∨ op = 24 ∨ op = 25 then leafS op w x
  else if op = 3 ∨ op = 4 ∨ op = 26 then (g 0, 0)
  else if op = 21 ∨ op = 22 ∨ op = 23 then partS op w x (g 0)
  else if op = 19 then (if g 0 = 1 ∧ g 1 = g 2 then (g 1, 0) else (0, 3))
  else if op = 20 then (if 1 ≤ g 0 ∧ 1 ≤ g 1 ∧ g 0 + g 1 ≤ 64 then (g 0 + g 1, 0) else (0, 3))
  else if op = 16 ∨ op = 17 ∨ op = 18 then (if g 0 = g 1 then (1, 0) else (0, 3))
  else (if g 0 = g 1 then (g 0, 0) else (0, 3))
def allIn (n : Nat) (g : Nat → Int) : Prop := ∀ i, i < n → ins (g i) = true
open Classical in
/-- The width of an operator's value, or its error. -/
noncomputable def widthS (op w : Int) (x : Nat) (n : Nat) (g : Nat → Int) : Int × Int :=
  if op < 1 ∨ 26 < op ∨ (n : Int) ≠ arity op then (0, 4) else if allIn n g then widthT op w x g else (0, 3)

theorem opinfo_Arity_eq (op : Int) : opinfo_Arity.f op = some (arity op) := by
  unfold opinfo_Arity.f opinfo_Arity.g
  by_cases h : 1 ≤ op ∧ op ≤ 26
  · rcases ops h.1 h.2 with rfl | rfl | rfl | rfl | rfl | rfl | rfl | rfl | rfl | rfl | rfl | rfl | rfl | rfl | rfl | rfl | rfl | rfl | rfl | rfl | rfl | rfl | rfl | rfl | rfl | rfl <;>
      (simp only [Int.reduceBEq, cond_true, cond_false, opinfo_Arity.p30_eq, opinfo_Arity.p31_eq, opinfo_Arity.p32_eq]; rfl)
  · rw [arity_out (by omega)]
    have b : ∀ n : Int, 1 ≤ n → n ≤ 26 → (op == n) = false := fun n h1 h2 => by have : ¬ op = n := by omega
                                                                                simpa using this
    simp only [b 19 (by decide) (by decide), b 5 (by decide) (by decide), b 6 (by decide) (by decide), b 7 (by decide) (by decide), b 8 (by decide) (by decide), b 9 (by decide) (by decide), b 10 (by decide) (by decide), b 11 (by decide) (by decide), b 12 (by decide) (by decide), b 13 (by decide) (by decide), b 14 (by decide) (by decide), b 15 (by decide) (by decide), b 16 (by decide) (by decide), b 17 (by decide) (by decide), b 18 (by decide) (by decide), b 20 (by decide) (by decide),
      b 3 (by decide) (by decide), b 4 (by decide) (by decide), b 21 (by decide) (by decide), b 22 (by decide) (by decide), b 23 (by decide) (by decide), b 26 (by decide) (by decide), b 1 (by decide) (by decide), b 2 (by decide) (by decide), b 24 (by decide) (by decide), b 25 (by decide) (by decide), cond_false]
theorem opinfo_known_eq (op : Int) : opinfo_known.f op = some (decide (1 ≤ op ∧ op ≤ 26)) := by
  unfold opinfo_known.f
  by_cases h : op ≥ 1
  · rw [bifd_pos h]; simp [show 1 ≤ op from h]
  · rw [bifd_neg h]; simp; omega
theorem opinfo_inside_eq (a : Int) : opinfo_inside.f a = some (ins a) := by
  unfold opinfo_inside.f ins
  by_cases h : a ≥ 0
  · rw [bifd_pos h]; simp [show 0 ≤ a from h]
  · rw [bifd_neg h]; simp; omega
theorem saturateref04_width_eq (a : Int) : saturateref04_width.f a = some (ins a) := by
  unfold saturateref04_width.f ins
  by_cases h : a ≥ 0
  · rw [bifd_pos h]; simp [show 0 ≤ a from h]
  · rw [bifd_neg h]; simp; omega
theorem far_shr0 {x : Nat} {w : Int} (hx : x < 18446744073709551616) (h0 : 0 ≤ w) (h1 : w ≤ 64) : (shr .u64 (x : Int) w = 0) ↔ ¬ (2 ^ w.toNat ≤ x) := by
  obtain ⟨n, rfl⟩ := Int.eq_ofNat_of_zero_le h0
  rw [shr64 hx, Int.toNat_natCast, Nat.shiftRight_eq_div_pow]
  have hp := pw_pos n
  constructor
  · intro h h2
    have := Nat.div_pos h2 hp
    omega
  · intro h
    rw [Nat.div_eq_of_lt (by omega)]; rfl
theorem one_shl {w : Int} (h0 : 0 < w) (h1 : w < 64) : shl .u64 1 (IntKind.u64.wrap w) = ((2 ^ w.toNat : Nat) : Int) := by
  obtain ⟨n, rfl⟩ := Int.eq_ofNat_of_zero_le (by omega : 0 ≤ w)
  rw [wrapu_of (by omega), show (1 : Int) = ((1 : Nat) : Int) from rfl, shl64, Nat.one_shiftLeft, Int.toNat_natCast, Nat.mod_eq_of_lt]
  rw [← p64]; exact Nat.pow_lt_pow_right (by decide) (by omega)
theorem opinfo_leaf_eq (op w : Int) {x : Nat} (hx : x < 18446744073709551616) : opinfo_leaf.f op w x = some (leafS op w x) := by
  unfold opinfo_leaf.f opinfo_leaf.g leafS
  rw [opinfo_inside_eq]; simp only [Option.bind_some, opinfo_leaf.p3_eq, bv, Bool.not_eq_true', decide_eq_true_eq, beq_iff_eq, bne_iff_ne]
  by_cases h : 0 ≤ w ∧ w ≤ 64
  · rw [if_neg (by rw [ins_no]; exact fun e => e h)]
    by_cases h2 : op = 2
    · rw [if_pos h2]
      by_cases h3 : w > 0
      · rw [if_pos h3, if_neg (by omega)]
        by_cases h4 : 2 ^ w.toNat ≤ x
        · rw [if_pos (fun e => (far_shr0 hx h.1 h.2).1 e h4), if_pos (.inr ⟨h2, h3, h4⟩)]
        · rw [if_neg (fun e => e ((far_shr0 hx h.1 h.2).2 h4)), if_neg (fun e => e.elim (fun e => e h) (fun e => h4 e.2.2))]
      · rw [if_neg h3, if_neg (fun e => e.elim (fun e => e h) (fun e => h3 e.2.1))]
    · rw [if_neg h2, if_neg (fun e => e.elim (fun e => e h) (fun e => h2 e.1))]
  · rw [if_pos (ins_no.2 h), if_pos (.inl h)]
theorem saturateref04_leaf_eq (op w : Int) {x : Nat} (hx : x < 18446744073709551616) : saturateref04_leaf.f op w x = some (leafS op w x) := by
  unfold saturateref04_leaf.f saturateref04_leaf.g leafS
  rw [saturateref04_width_eq]; simp only [Option.bind_some, saturateref04_leaf.p3_eq, bv, Bool.not_eq_true', decide_eq_true_eq, beq_iff_eq, bne_iff_ne]
  by_cases h : 0 ≤ w ∧ w ≤ 64
  · rw [if_neg (by rw [ins_no]; exact fun e => e h)]
    by_cases h2 : op = 2
    · rw [if_pos h2]
      by_cases h3 : w > 0
      · rw [if_pos h3]
        by_cases h5 : w < 64
        · rw [if_pos h5, one_shl h3 h5, if_neg (by rw [wrapu]; omega)]
          by_cases h4 : 2 ^ w.toNat ≤ x
          · rw [if_pos (by omega), if_pos (.inr ⟨h2, h3, h4⟩)]
          · rw [if_neg (by omega), if_neg (fun e => e.elim (fun e => e h) (fun e => h4 e.2.2))]
        · obtain rfl : w = 64 := by omega
          rw [if_neg h5, if_neg (fun e => e.elim (fun e => e h) (fun e => by have := e.2.2; rw [show (64 : Int).toNat = 64 from rfl, p64] at this; omega))]
      · rw [if_neg h3, if_neg (fun e => e.elim (fun e => e h) (fun e => h3 e.2.1))]
    · rw [if_neg h2, if_neg (fun e => e.elim (fun e => e h) (fun e => h2 e.1))]
  · rw [if_pos (ins_no.2 h), if_pos (.inl h)]
theorem sub_wrap {a w : Int} (h1 : 1 ≤ w) (h2 : w ≤ a) (h3 : a ≤ 64) : IntKind.u64.wrap (IntKind.i64.wrap (a - w)) = a - w := by
  rw [wrapi, wrapi_of (by omega) (by omega), wrapu]; omega
theorem opinfo_resized_eq (op w : Int) {x : Nat} {a : Int} (ha : a ≤ 64) : opinfo_resized.f op w x a = some (partS op w x a) := by
  unfold opinfo_resized.f opinfo_resized.g partS
  simp only [opinfo_resized.p5_eq, bv, Bool.not_eq_true', decide_eq_true_eq, beq_iff_eq, bne_iff_ne]
  by_cases h1 : w < 1
  · rw [if_pos h1, if_pos (.inl h1)]
  · rw [if_neg h1]
    by_cases h2 : w > 64
    · rw [if_pos h2, if_pos (.inr (.inl h2))]
    · rw [if_neg h2]
      by_cases h3 : a < 1
      · rw [if_pos h3, if_pos (.inr (.inr h3))]
      · rw [if_neg h3, if_neg (show ¬ (w < 1 ∨ w > 64 ∨ a < 1) by omega)]
        by_cases h4 : op = 21
        · rw [if_neg (fun e => e h4), if_pos h4, if_pos h4]
          by_cases h5 : w > a
          · rw [if_pos h5, if_pos (.inl h5)]
          · rw [if_neg h5, sub_wrap (by omega) (by omega) ha]
            by_cases h6 : (x : Int) > a - w
            · rw [if_pos h6, if_pos (.inr h6)]
            · rw [if_neg h6, if_neg (show ¬ (w > a ∨ (x : Int) > a - w) by omega)]
        · rw [if_pos h4]
          by_cases h5 : w < a
          · simp only [if_pos h5, if_neg h4]
          · simp only [if_neg h5, if_neg h4]
theorem saturateref04_parts_eq (op w : Int) {x : Nat} {a : Int} (ha : a ≤ 64) : saturateref04_parts.f op w x a = some (partS op w x a) := by
  unfold saturateref04_parts.f saturateref04_parts.g partS
  rw [saturateref04_width_eq]
  simp only [Option.bind_some, saturateref04_parts.p5_eq, bv, Bool.not_eq_true', decide_eq_true_eq, beq_iff_eq, bne_iff_ne]
  by_cases h0 : 0 ≤ w ∧ w ≤ 64
  · rw [if_neg (by rw [ins_no]; exact fun e => e h0)]
    by_cases h1 : w < 1
    · rw [if_pos h1, if_pos (.inl h1)]
    · rw [if_neg h1]
      by_cases h3 : a < 1
      · rw [if_pos h3, if_pos (.inr (.inr h3))]
      · rw [if_neg h3, if_neg (show ¬ (w < 1 ∨ w > 64 ∨ a < 1) by omega)]
        by_cases h4 : op = 21
        · rw [if_pos h4, if_pos h4]
          by_cases h5 : w > a
          · rw [if_pos h5, if_pos (.inl h5)]
          · rw [if_neg h5, sub_wrap (by omega) (by omega) ha]
            by_cases h6 : (x : Int) > a - w
            · rw [if_pos h6, if_pos (.inr h6)]
            · rw [if_neg h6, if_neg (fun e => e h4), if_neg (show ¬ (w > a ∨ (x : Int) > a - w) by omega)]
        · rw [if_neg h4, if_pos h4]
          by_cases h5 : w < a
          · simp only [if_pos h5, if_neg h4]
          · simp only [if_neg h5, if_neg h4]
  · rw [if_pos (ins_no.2 h0), if_pos (by omega)]
theorem opinfo_agreed_eq (b : Bool) (r : Int) : opinfo_agreed.f b r = some (if b = true then (r, 0) else (0, 3)) := by
  unfold opinfo_agreed.f; cases b <;> rfl
theorem widthT_cases {op : Int} (h1 : 1 ≤ op) (h2 : op ≤ 26) (n : Int) (ha : n = arity op) :
    ((op = 1 ∨ op = 2 ∨ op = 24 ∨ op = 25) ∧ n = 0) ∨ ((op = 3 ∨ op = 4 ∨ op = 26) ∧ n = 1) ∨ ((op = 21 ∨ op = 22 ∨ op = 23) ∧ n = 1) ∨ (op = 19 ∧ n = 3) ∨ (op = 20 ∧ n = 2) ∨ ((op = 16 ∨ op = 17 ∨ op = 18) ∧ n = 2) ∨
      ((op = 5 ∨ op = 6 ∨ op = 7 ∨ op = 8 ∨ op = 9 ∨ op = 10 ∨ op = 11 ∨ op = 12 ∨ op = 13 ∨ op = 14 ∨ op = 15) ∧ n = 2) := by
  subst ha
  obtain ⟨k, rfl⟩ := Int.eq_ofNat_of_zero_le (show 0 ≤ op by omega)
  have tab : ∀ m : Fin 27, 1 ≤ m.val → (((((m.val : Nat) : Int) = 1 ∨ ((m.val : Nat) : Int) = 2 ∨ ((m.val : Nat) : Int) = 24 ∨ ((m.val : Nat) : Int) = 25) ∧ arity ((m.val : Nat) : Int) = 0) ∨ ((((m.val : Nat) : Int) = 3 ∨ ((m.val : Nat) : Int) = 4 ∨ ((m.val : Nat) : Int) = 26) ∧ arity ((m.val : Nat) : Int) = 1) ∨ ((((m.val : Nat) : Int) = 21 ∨ ((m.val : Nat) : Int) = 22 ∨ ((m.val : Nat) : Int) = 23) ∧ arity ((m.val : Nat) : Int) = 1) ∨ (((m.val : Nat) : Int) = 19 ∧ arity ((m.val : Nat) : Int) = 3) ∨ (((m.val : Nat) : Int) = 20 ∧ arity ((m.val : Nat) : Int) = 2) ∨ ((((m.val : Nat) : Int) = 16 ∨ ((m.val : Nat) : Int) = 17 ∨ ((m.val : Nat) : Int) = 18) ∧ arity ((m.val : Nat) : Int) = 2) ∨
      ((((m.val : Nat) : Int) = 5 ∨ ((m.val : Nat) : Int) = 6 ∨ ((m.val : Nat) : Int) = 7 ∨ ((m.val : Nat) : Int) = 8 ∨ ((m.val : Nat) : Int) = 9 ∨ ((m.val : Nat) : Int) = 10 ∨ ((m.val : Nat) : Int) = 11 ∨ ((m.val : Nat) : Int) = 12 ∨ ((m.val : Nat) : Int) = 13 ∨ ((m.val : Nat) : Int) = 14 ∨ ((m.val : Nat) : Int) = 15) ∧ arity ((m.val : Nat) : Int) = 2)) := by decide
  exact tab ⟨k, by omega⟩ (by show 1 ≤ k; omega)
theorem opinfo_Width_end (fu k : Nat) {op w : Int} {x : Nat} (hx : x < 18446744073709551616) {n : Nat} {g : Nat → Int} (h1 : 1 ≤ op) (h2 : op ≤ 26) (ha : (n : Int) = arity op) (hall : allIn n g) :
    opinfo_Width.j4 fu (k + 1) op w x n n (n : Int) (n : Int) n g = some (widthT op w x g) := by
  have A : (0 : Int) < n → 0 ≤ g 0 ∧ g 0 ≤ 64 := fun h => ins_iff.1 (hall 0 (by omega))
  have B : (1 : Int) < n → 0 ≤ g 1 ∧ g 1 ≤ 64 := fun h => ins_iff.1 (hall 1 (by omega))
  clear hall
  rw [opinfo_Width.j4_succ, bifd_neg (Int.lt_irrefl _)]
  generalize (n : Int) = N at *
  rcases widthT_cases h1 h2 N ha with ⟨ho, rfl⟩ | ⟨ho, rfl⟩ | ⟨ho, rfl⟩ | ⟨rfl, rfl⟩ | ⟨rfl, rfl⟩ | ⟨ho, rfl⟩ | ⟨ho, rfl⟩
  · have e : widthT op w x g = leafS op w x := if_pos ho
    rw [e]
    rcases ho with rfl | rfl | rfl | rfl <;> (simp only [Int.reduceBEq, Int.reduceEq, or_true, true_or, decide_true, cond_true, cond_false, opinfo_leaf_eq _ w hx, Option.bind_some]; done)
  · rcases ho with rfl | rfl | rfl <;> (simp only [Int.reduceBEq, Int.reduceEq, or_self, decide_false, cond_true, cond_false, Int.reduceLT, decide_true, widthT, or_true, true_or, or_false, false_or, if_true, if_false]; done)
  · have hA := A (by omega)
    rcases ho with rfl | rfl | rfl <;> (simp only [Int.reduceBEq, Int.reduceEq, or_self, decide_false, cond_true, cond_false, Int.reduceLT, decide_true, widthT, or_true, true_or, or_false, false_or, if_true, if_false, opinfo_resized_eq _ w hA.2, Option.bind_some]; done)
  · simp only [Int.reduceBEq, Int.reduceEq, or_self, decide_false, cond_true, cond_false, Int.reduceLT, decide_true, widthT, or_true, true_or, or_false, false_or, if_true, if_false, opinfo_agreed_eq, Option.bind_some, bv, bne_iff_ne, beq_iff_eq]
    by_cases k1 : g 0 = 1 <;> by_cases k2 : g 1 = g 2 <;> simp [k1, k2]
  · have hA := A (by omega)
    have hB := B (by omega)
    have hw : IntKind.i64.wrap (g 0 + g 1) = g 0 + g 1 := by rw [wrapi, wrapi_of (by omega) (by omega)]
    simp only [Int.reduceBEq, Int.reduceEq, or_self, decide_false, cond_true, cond_false, Int.reduceLT, decide_true, widthT, or_true, true_or, or_false, false_or, if_true, if_false, opinfo_agreed_eq, Option.bind_some, bv, decide_eq_true_eq, beq_iff_eq, hw]
    by_cases k1 : 1 ≤ g 0 <;> by_cases k2 : 1 ≤ g 1 <;> by_cases k3 : g 0 + g 1 ≤ 64 <;> simp [k1, k2, k3, hw] <;> omega
  · rcases ho with rfl | rfl | rfl <;>
      (simp only [Int.reduceBEq, Int.reduceEq, or_self, decide_false, cond_true, cond_false, Int.reduceLT, decide_true, widthT, or_true, true_or, or_false, false_or, if_true, if_false, opinfo_agreed_eq, Option.bind_some, bv, bne_iff_ne, beq_iff_eq]
       by_cases k1 : g 0 = g 1 <;> simp [k1])
  · rcases ho with rfl | rfl | rfl | rfl | rfl | rfl | rfl | rfl | rfl | rfl | rfl <;>
      (simp only [Int.reduceBEq, Int.reduceEq, or_self, decide_false, cond_true, cond_false, Int.reduceLT, decide_true, widthT, or_true, true_or, or_false, false_or, if_true, if_false, opinfo_agreed_eq, Option.bind_some, bv, bne_iff_ne, beq_iff_eq]
       by_cases k1 : g 0 = g 1 <;> simp [k1])
open Classical in
theorem opinfo_Width_loop (fu : Nat) {op w : Int} {x : Nat} (hx : x < 18446744073709551616) {n : Nat} {g : Nat → Int} (hl : n ≤ 1000) (h1 : 1 ≤ op) (h2 : op ≤ 26) (ha : (n : Int) = arity op) (d : Nat) : ∀ k i, i + d = n → d < k → allIn i g →
    opinfo_Width.j4 fu k op w x n n (n : Int) (i : Int) n g = some (widthS op w x n g) := by
  have hS : widthS op w x n g = if allIn n g then widthT op w x g else (0, 3) := by unfold widthS; rw [if_neg (by omega)]
  induction d with
  | zero =>
    intro k i hi hk ht
    obtain ⟨k, rfl⟩ : ∃ m, k = m + 1 := ⟨k - 1, by omega⟩
    obtain rfl : i = n := by omega
    rw [opinfo_Width_end fu k hx h1 h2 ha ht, hS, if_pos ht]
  | succ d ih =>
    intro k i hi hk ht
    obtain ⟨k, rfl⟩ : ∃ m, k = m + 1 := ⟨k - 1, by omega⟩
    rw [opinfo_Width.j4_succ, bifd_pos (by omega), bifd_pos (by omega), bifd_pos (by omega), opinfo_inside_eq, Option.bind_some, wrapi, wrapi_succ (by omega), Int.toNat_natCast]
    cases hb : ins (g i) with
    | true =>
      rw [Bool.not_true, cond_false]
      exact ih k (i + 1) (by omega) (by omega) fun j hj => by
        rcases Nat.lt_or_ge j i with h | h
        · exact ht j h
        · obtain rfl : j = i := by omega
          exact hb
    | false =>
      rw [Bool.not_false, cond_true]
      rw [hS, if_neg (fun h => by rw [h i (by omega)] at hb; cases hb)]
theorem opinfo_Width_eq {op w : Int} {x : Nat} (hx : x < 18446744073709551616) (n : Nat) (g : Nat → Int) : opinfo_Width.f op w x (n, g) = some (widthS op w x n g) := by
  unfold opinfo_Width.f opinfo_Width.g
  rw [opinfo_known_eq, opinfo_Arity_eq]; simp only [Option.bind_some]
  by_cases h : 1 ≤ op ∧ op ≤ 26
  · rw [decide_eq_true h, Bool.not_true, cond_false]
    by_cases ha : (n : Int) = arity op
    · have h3 := (arity_in h.1 h.2).2
      have hb : ((n : Int) != arity op) = false := by rw [ha]; exact bne_self_eq_false _
      rw [hb, cond_false]
      have hk : n < fuel0 + 1 := by unfold fuel0; omega
      have := opinfo_Width_loop (fuel0 + 1) (w := w) hx (g := g) (by omega) h.1 h.2 ha n (fuel0 + 1) 0 (by omega) hk (fun i hi => absurd hi (Nat.not_lt_zero _))
      rw [show ((0 : Nat) : Int) = 0 from rfl] at this
      exact this
    · have hb : ((n : Int) != arity op) = true := bne_iff_ne.2 ha
      rw [hb, cond_true]
      unfold widthS
      rw [if_pos (.inr (.inr ha))]
  · rw [decide_eq_false h, Bool.not_false, cond_true]
    unfold widthS
    rw [if_pos (by omega)]
/-! ### the reference -/
open Classical in
theorem saturateref04_Is_j2 (fu : Nat) {op : Int} {n : Nat} {g : Nat → Int} (hl : n ≤ 1000) (d : Nat) : ∀ k i, i + d = n → d < k → saturateref04_Is.j2 fu k op n (n : Int) (i : Int) n g = some (decide (∃ j, i ≤ j ∧ j < n ∧ g j = op)) := by
  induction d with
  | zero =>
    intro k i hi hk
    obtain ⟨k, rfl⟩ : ∃ m, k = m + 1 := ⟨k - 1, by omega⟩
    obtain rfl : i = n := by omega
    rw [saturateref04_Is.j2_succ, bifd_neg (by omega)]
    congr 1; symm; rw [decide_eq_false_iff_not]
    rintro ⟨j, h1, h2, _⟩; omega
  | succ d ih =>
    intro k i hi hk
    obtain ⟨k, rfl⟩ : ∃ m, k = m + 1 := ⟨k - 1, by omega⟩
    rw [saturateref04_Is.j2_succ, bifd_pos (by omega), bifd_pos (by omega), bifd_pos (by omega), wrapi, wrapi_succ (by omega), Int.toNat_natCast, bv]
    by_cases h : g i = op
    · rw [if_pos (by simpa using h)]
      congr 1; symm; rw [decide_eq_true_iff]
      exact ⟨i, by omega, by omega, h⟩
    · rw [if_neg (by simpa using h), ih k (i + 1) (by omega) (by omega)]
      congr 1; rw [decide_eq_decide]
      constructor
      · rintro ⟨j, h1, h2, h3⟩; exact ⟨j, by omega, h2, h3⟩
      · rintro ⟨j, h1, h2, h3⟩
        refine ⟨j, ?_, h2, h3⟩
        rcases Nat.lt_or_ge i j with hh | hh
        · omega
        · obtain rfl : j = i := by omega
          exact absurd h3 h
open Classical in
theorem saturateref04_Is_eq {op : Int} {n : Nat} {g : Nat → Int} (hl : n ≤ 1000) : saturateref04_Is.f op (n, g) = some (decide (∃ j, j < n ∧ g j = op)) := by
  unfold saturateref04_Is.f saturateref04_Is.g
  have := saturateref04_Is_j2 (fuel0 + 1) (op := op) (g := g) hl n (fuel0 + 1) 0 (by omega) (by unfold fuel0; omega)
  rw [show ((0 : Nat) : Int) = 0 from rfl] at this
  simpa using this
theorem ex_list {l : List Int} {op : Int} : (∃ j, j < l.length ∧ l.getD j 0 = op) ↔ op ∈ l := by
  constructor
  · rintro ⟨j, h1, h2⟩
    rw [List.getD_eq_getElem?_getD, List.getElem?_eq_getElem h1] at h2
    simp only [Option.getD_some] at h2
    rw [← h2]; exact List.getElem_mem h1
  · intro h
    obtain ⟨j, h1, h2⟩ := List.getElem_of_mem h
    exact ⟨j, h1, by rw [List.getD_eq_getElem?_getD, List.getElem?_eq_getElem h1]; exact h2⟩
theorem Is_list {op : Int} (l : List Int) (hl : l.length ≤ 1000) : saturateref04_Is.f op (l.length, fun i => l.getD i 0) = some (decide (op ∈ l)) := by
  rw [saturateref04_Is_eq hl]; congr 1; rw [decide_eq_decide]; exact ex_list
theorem saturateref04_Leaf_eq (op : Int) : saturateref04_Leaf.f op = some (decide (op = 1 ∨ op = 2 ∨ op = 24 ∨ op = 25)) := by
  unfold saturateref04_Leaf.f
  have := Is_list (op := op) [1, 2, 24, 25] (by decide)
  simp only [List.length_cons, List.length_nil, Nat.zero_add, Nat.reduceAdd] at this
  rw [this]; simp
theorem saturateref04_Pattern_eq (op : Int) : saturateref04_Pattern.f op = some (decide (op = 24 ∨ op = 25 ∨ op = 26)) := by
  unfold saturateref04_Pattern.f
  have := Is_list (op := op) [24, 25, 26] (by decide)
  simp only [List.length_cons, List.length_nil, Nat.zero_add, Nat.reduceAdd] at this
  rw [this]; simp
theorem opinfo_Pattern_eq (op : Int) : opinfo_Pattern.f op = some (decide (op = 24 ∨ op = 25 ∨ op = 26)) := by
  unfold opinfo_Pattern.f
  by_cases h : op ≥ 24
  · rw [bifd_pos h]; congr 1; rw [decide_eq_decide]; omega
  · rw [bifd_neg h]; congr 1; symm; rw [decide_eq_false_iff_not]; omega
theorem saturateref04_Arity_eq (op : Int) : saturateref04_Arity.f op = some (arity op) := by
  unfold saturateref04_Arity.f
  by_cases h1 : op < 1
  · rw [bifd_pos h1, arity_out (.inl h1)]
  · rw [bifd_neg h1]
    by_cases h2 : op > 26
    · rw [bifd_pos h2, arity_out (.inr h2)]
    · rw [bifd_neg h2, saturateref04_Leaf_eq]
      have := Is_list (op := op) [3, 4, 21, 22, 23, 26] (by decide)
      simp only [List.length_cons, List.length_nil, Nat.zero_add, Nat.reduceAdd] at this
      rw [this]; simp only [Option.bind_some]
      rcases ops (op := op) (by omega) (by omega) with rfl | rfl | rfl | rfl | rfl | rfl | rfl | rfl | rfl | rfl | rfl | rfl | rfl | rfl | rfl | rfl | rfl | rfl | rfl | rfl | rfl | rfl | rfl | rfl | rfl | rfl <;> rfl
theorem saturateref04_Width_end (fu k : Nat) {op w : Int} {x : Nat} (hx : x < 18446744073709551616) {n : Nat} {g : Nat → Int} (h1 : 1 ≤ op) (h2 : op ≤ 26) (ha : (n : Int) = arity op) (hall : allIn n g) :
    saturateref04_Width.j4 fu (k + 1) op w x n (n : Int) (n : Int) n g = some (widthT op w x g) := by
  have A : (0 : Int) < n → 0 ≤ g 0 ∧ g 0 ≤ 64 := fun h => ins_iff.1 (hall 0 (by omega))
  have B : (1 : Int) < n → 0 ≤ g 1 ∧ g 1 ≤ 64 := fun h => ins_iff.1 (hall 1 (by omega))
  clear hall
  rw [saturateref04_Width.j4_succ, bifd_neg (Int.lt_irrefl _), saturateref04_Leaf_eq, Option.bind_some]
  generalize (n : Int) = N at *
  rcases widthT_cases h1 h2 N ha with ⟨ho, rfl⟩ | ⟨ho, rfl⟩ | ⟨ho, rfl⟩ | ⟨rfl, rfl⟩ | ⟨rfl, rfl⟩ | ⟨ho, rfl⟩ | ⟨ho, rfl⟩
  · have e : widthT op w x g = leafS op w x := if_pos ho
    rw [e]
    rcases ho with rfl | rfl | rfl | rfl <;> (simp only [Int.reduceBEq, Int.reduceEq, or_true, true_or, decide_true, cond_true, cond_false, saturateref04_leaf_eq _ w hx, Option.bind_some]; done)
  · rcases ho with rfl | rfl | rfl <;> (simp only [Int.reduceBEq, Int.reduceEq, or_self, decide_false, cond_true, cond_false, Int.reduceLT, decide_true, widthT, or_true, true_or, or_false, false_or, if_true, if_false]; done)
  · have hA := A (by omega)
    rcases ho with rfl | rfl | rfl <;> (simp only [Int.reduceBEq, Int.reduceEq, or_self, decide_false, cond_true, cond_false, Int.reduceLT, decide_true, widthT, or_true, true_or, or_false, false_or, if_true, if_false, saturateref04_parts_eq _ w hA.2, Option.bind_some]; done)
  · simp only [Int.reduceBEq, Int.reduceEq, or_self, decide_false, cond_true, cond_false, Int.reduceLT, decide_true, widthT, or_true, true_or, or_false, false_or, if_true, if_false, Option.bind_some, bv, bne_iff_ne, beq_iff_eq]
    by_cases k1 : g 0 = 1 <;> by_cases k2 : g 1 = g 2 <;> simp [k1, k2]
  · have hA := A (by omega)
    have hB := B (by omega)
    have hw : IntKind.i64.wrap (g 0 + g 1) = g 0 + g 1 := by rw [wrapi, wrapi_of (by omega) (by omega)]
    simp only [Int.reduceBEq, Int.reduceEq, or_self, decide_false, cond_true, cond_false, Int.reduceLT, decide_true, widthT, or_true, true_or, or_false, false_or, if_true, if_false, Option.bind_some, bv, decide_eq_true_eq, beq_iff_eq, hw]
    simp only [Bool.false_eq_true, if_false]
    by_cases k1 : g 0 < 1 <;> by_cases k2 : g 1 < 1 <;> by_cases k3 : g 0 + g 1 > 64 <;>
      first
      | rw [if_pos k1, if_neg (by omega)]
      | rw [if_neg k1, if_pos k2, if_neg (by omega)]
      | rw [if_neg k1, if_neg k2, if_pos k3, if_neg (by omega)]
      | rw [if_neg k1, if_neg k2, if_neg k3, if_pos (by omega)]
  · rcases ho with rfl | rfl | rfl <;>
      (simp only [Int.reduceBEq, Int.reduceEq, or_self, decide_false, cond_true, cond_false, Int.reduceLT, decide_true, widthT, or_true, true_or, or_false, false_or, if_true, if_false, Option.bind_some, bv, bne_iff_ne, beq_iff_eq]
       by_cases k1 : g 0 = g 1 <;> simp [k1])
  · rcases ho with rfl | rfl | rfl | rfl | rfl | rfl | rfl | rfl | rfl | rfl | rfl <;>
      (simp only [Int.reduceBEq, Int.reduceEq, or_self, decide_false, cond_true, cond_false, Int.reduceLT, decide_true, widthT, or_true, true_or, or_false, false_or, if_true, if_false, Option.bind_some, bv, bne_iff_ne, beq_iff_eq]
       by_cases k1 : g 0 = g 1 <;> simp [k1])
open Classical in
theorem saturateref04_Width_loop (fu : Nat) {op w : Int} {x : Nat} (hx : x < 18446744073709551616) {n : Nat} {g : Nat → Int} (hl : n ≤ 1000) (h1 : 1 ≤ op) (h2 : op ≤ 26) (ha : (n : Int) = arity op) (d : Nat) : ∀ k i, i + d = n → d < k → allIn i g →
    saturateref04_Width.j4 fu k op w x n (n : Int) (i : Int) n g = some (widthS op w x n g) := by
  have hS : widthS op w x n g = if allIn n g then widthT op w x g else (0, 3) := by unfold widthS; rw [if_neg (by omega)]
  induction d with
  | zero =>
    intro k i hi hk ht
    obtain ⟨k, rfl⟩ : ∃ m, k = m + 1 := ⟨k - 1, by omega⟩
    obtain rfl : i = n := by omega
    rw [saturateref04_Width_end fu k hx h1 h2 ha ht, hS, if_pos ht]
  | succ d ih =>
    intro k i hi hk ht
    obtain ⟨k, rfl⟩ : ∃ m, k = m + 1 := ⟨k - 1, by omega⟩
    rw [saturateref04_Width.j4_succ, bifd_pos (by omega), bifd_pos (by omega), bifd_pos (by omega), saturateref04_width_eq, Option.bind_some, wrapi, wrapi_succ (by omega), Int.toNat_natCast]
    cases hb : ins (g i) with
    | true =>
      rw [Bool.not_true, cond_false]
      exact ih k (i + 1) (by omega) (by omega) fun j hj => by
        rcases Nat.lt_or_ge j i with h | h
        · exact ht j h
        · obtain rfl : j = i := by omega
          exact hb
    | false =>
      rw [Bool.not_false, cond_true]
      rw [hS, if_neg (fun h => by rw [h i (by omega)] at hb; cases hb)]
theorem saturateref04_Width_eq {op w : Int} {x : Nat} (hx : x < 18446744073709551616) (n : Nat) (g : Nat → Int) : saturateref04_Width.f op w x (n, g) = some (widthS op w x n g) := by
  unfold saturateref04_Width.f saturateref04_Width.g
  rw [saturateref04_Arity_eq]; simp only [Option.bind_some]
  by_cases h : 1 ≤ op ∧ op ≤ 26
  · have h3 := arity_in h.1 h.2
    rw [bifd_neg (by omega)]
    by_cases ha : (n : Int) = arity op
    · rw [show ((n : Int) != arity op) = false by simp [ha]]
      simp only [cond_false]
      have hk : n < fuel0 + 1 := by unfold fuel0; omega
      have := saturateref04_Width_loop (fuel0 + 1) (w := w) hx (g := g) (by omega) h.1 h.2 ha n (fuel0 + 1) 0 (by omega) hk (fun i hi => absurd hi (Nat.not_lt_zero _))
      rw [show ((0 : Nat) : Int) = 0 from rfl] at this
      exact this
    · have hb : ((n : Int) != arity op) = true := bne_iff_ne.2 ha
      rw [hb, cond_true]
      unfold widthS
      rw [if_pos (.inr (.inr ha))]
  · rw [bifd_pos (by rw [arity_out (by omega)]; decide)]
    unfold widthS
    rw [if_pos (by omega)]
end Go.Proofs.YtcihbcffokjgjaaGreat.Fn
namespace Go.Proofs.YtcihbcffokjgjaaGreat.Fn
open Go Go.RowKit Go.Proofs.YtcihbcffokjgjaaGreat.Ev Go.Proofs.YtcihbcffokjgjaaGreat.Bv
set_option linter.unusedVariables false
set_option linter.unusedSimpArgs false

theorem bits_Signed_eq (a : Int) {x : Nat} (hx : x < 18446744073709551616) : bits_Signed.f a x = some (sgn (W a) x) := by
  unfold bits_Signed.f; rw [bits_clamp_eq]; simp only [Option.bind_some, wrapi]
  rw [wrapi_64, bifd_neg (by omega), bifd_neg (by omega), shl64, signed_shifts (W_pos a) (W_le a)]
theorem bits_Neg_eq (a : Int) {x : Nat} (hx : x < 18446744073709551616) : bits_Neg.f a x = some (vneg (W a) x : Int) := by
  unfold bits_Neg.f; rw [Int.zero_sub, wrapu_neg hx, bits_Cut_eq a (Nat.mod_lt _ (by decide))]; simp only [Option.bind_some]
  have := sub_cut (W_le a) 0 hx
  rw [Nat.zero_add] at this
  rw [this]; unfold vsub vneg; rw [Nat.zero_add]
theorem bits_Sext_eq (v w : Int) {x : Nat} (hx : x < 18446744073709551616) : bits_Sext.f v w x = some (vsext (W v) (W w) x : Int) := by
  unfold bits_Sext.f; rw [bits_Signed_eq v hx]; simp only [Option.bind_some]
  rw [sgn_wrap (W_pos v) (W_le v), bits_Cut_eq w (s64_lt (W_le v) x)]; simp only [Option.bind_some]
  rw [s64_cut (W_pos v) (W_le v) (W_le w)]
theorem bits_Concat_eq (v w : Int) {x y : Nat} (hx : x < 18446744073709551616) (hy : y < 18446744073709551616) : bits_Concat.f v w x y = some (vconcat (W v) (W w) x y : Int) := by
  unfold bits_Concat.f; rw [bits_Cut_eq v hx, bits_clamp_eq, bits_Cut_eq w hy]; simp only [Option.bind_some]
  rw [bifd_neg (by omega), shl64, or64 (Nat.mod_lt _ (by decide)) (vcut_lt y (W_le w))]
  unfold vconcat vcut; rw [p64]
theorem saturateref01_Not_eq (a : Int) {x : Nat} (hx : x < 18446744073709551616) : saturateref01_Not.f a x = some (vnot (W a) x : Int) := by
  unfold saturateref01_Not.f; rw [saturateref01_Mask_eq a, saturateref01_Cut_eq a hx]; simp only [Option.bind_some]
  rw [wrapu_sub_le (vmask_lt (W_le a)) (by unfold vmask vcut; have := Nat.mod_lt x (pw_pos (W a)); omega)]; rfl
theorem saturateref01_Add_j3 (fu : Nat) {x y : Nat} (hx : x < 18446744073709551616) (hy : y < 18446744073709551616) (d : Nat) : ∀ (k i w z c : Nat), w ≤ 64 → w - i = d → i ≤ w → d < k → z < 2 ^ i → c ≤ 1 → z + c * 2 ^ i = x % 2 ^ i + y % 2 ^ i →
    saturateref01_Add.j3 fu k x y z c w i = some (vadd w x y : Int) := by
  induction d with
  | zero =>
    intro k i w z c hw hd hi hk hz hc he
    obtain ⟨k, rfl⟩ : ∃ m, k = m + 1 := ⟨k - 1, by omega⟩
    obtain rfl : i = w := by omega
    rw [saturateref01_Add.j3_succ, bifd_neg (by omega)]
    unfold vadd
    rw [Nat.add_mod, ← he, Nat.add_mul_mod_self_right, Nat.mod_eq_of_lt hz]
  | succ d ih =>
    intro k i w z c hw hd hi hk hz hc he
    obtain ⟨k, rfl⟩ : ∃ m, k = m + 1 := ⟨k - 1, by omega⟩
    rw [saturateref01_Add.j3_succ, bifd_pos (by omega), saturateref01_Bit_eq hx, saturateref01_Bit_eq hy, wrapu_of (n := i) (by omega)]; simp only [Option.bind_some]
    have hb1 := toNat_le (x.testBit i)
    have hb2 := toNat_le (y.testBit i)
    have hx1 := mod_succ x i
    have hy1 := mod_succ y i
    rw [bifd_neg (by omega), wrapi, wrapi_succ (by omega), ← Int.natCast_add, wrapu_of (by omega), ← Int.natCast_add, wrapu_of (by omega)]
    generalize (x.testBit i).toNat = b1 at *
    generalize (y.testBit i).toNat = b2 at *
    rw [show (2 : Int) = ((2 : Nat) : Int) from rfl, tmod_nat, tdiv_nat, wrapu_of (by omega), put_bit hz (by omega) (by omega)]
    have hp : 2 ^ (i + 1) = 2 * 2 ^ i := by rw [Nat.pow_succ, Nat.mul_comm]
    refine ih k (i + 1) w _ _ hw (by omega) (by omega) (by omega) ?_ (by omega) ?_
    · rw [hp]
      have : (b1 + b2 + c) % 2 * 2 ^ i ≤ 1 * 2 ^ i := Nat.mul_le_mul_right _ (by omega)
      omega
    · rw [hx1, hy1, hp]
      have e1 : (b1 + b2 + c) / 2 * (2 * 2 ^ i) = ((b1 + b2 + c) / 2 * 2) * 2 ^ i := by rw [Nat.mul_assoc]
      have e2 : (b1 + b2 + c) % 2 * 2 ^ i + ((b1 + b2 + c) / 2 * 2) * 2 ^ i = (b1 + b2 + c) * 2 ^ i := by rw [← Nat.add_mul]; congr 1; omega
      have e3 : (b1 + b2 + c) * 2 ^ i = b1 * 2 ^ i + b2 * 2 ^ i + c * 2 ^ i := by rw [Nat.add_mul, Nat.add_mul]
      rw [e1]; omega
theorem fuel_gt {n : Nat} (h : n ≤ 1000) : n < fuel0 + 1 := by unfold fuel0; omega
theorem saturateref01_Add_eq (a : Int) {x y : Nat} (hx : x < 18446744073709551616) (hy : y < 18446744073709551616) : saturateref01_Add.f a x y = some (vadd (W a) x y : Int) := by
  unfold saturateref01_Add.f saturateref01_Add.g; rw [saturateref01_W_eq]; simp only [Option.bind_some]
  have hw := W_le a
  exact saturateref01_Add_j3 (fuel0 + 1) hx hy (W a) (fuel0 + 1) 0 (W a) 0 0 (W_le a) (by omega) (by omega) (fuel_gt (by omega)) (by simp) (by omega) (by simp [Nat.mod_one])
theorem saturateref01_Neg_eq (a : Int) {x : Nat} (hx : x < 18446744073709551616) : saturateref01_Neg.f a x = some (vneg (W a) x : Int) := by
  unfold saturateref01_Neg.f; rw [saturateref01_Not_eq a hx]; simp only [Option.bind_some]
  rw [show (1 : Int) = ((1 : Nat) : Int) from rfl, saturateref01_Add_eq a (vnot_lt x (W_le a)) (by decide)]; simp only [Option.bind_some]
  have := Nat.mod_lt x (pw_pos (W a))
  unfold vadd vneg vnot
  rw [show 2 ^ W a - 1 - x % 2 ^ W a + 1 = 2 ^ W a - x % 2 ^ W a by omega]
theorem saturateref01_Sub_eq (a : Int) {x y : Nat} (hx : x < 18446744073709551616) (hy : y < 18446744073709551616) : saturateref01_Sub.f a x y = some (vsub (W a) x y : Int) := by
  unfold saturateref01_Sub.f; rw [saturateref01_Neg_eq a hy]; simp only [Option.bind_some]
  rw [saturateref01_Add_eq a hx (vneg_lt y (W_le a))]; simp only [Option.bind_some]
  unfold vadd vneg vsub; rw [Nat.add_mod_mod]
theorem saturateref01_shift_j3 (fu : Nat) (a : Int) {x : Nat} (hx : x < 18446744073709551616) (by_ : Int) (h1 : -64 ≤ by_) (h2 : by_ ≤ 64) (fill : Bool) (d : Nat) : ∀ (k i : Nat), W a - i = d → i ≤ W a → d < k →
    saturateref01_shift.j3 (fu + 1) k a x by_ (fill.toNat : Int) (bld (shf (W a) x by_ fill) i : Int) (W a) i = some (bld (shf (W a) x by_ fill) (W a) : Int) := by
  have hw := W_le a
  induction d with
  | zero =>
    intro k i hd hi hk
    obtain ⟨k, rfl⟩ : ∃ m, k = m + 1 := ⟨k - 1, by omega⟩
    obtain rfl : i = W a := by omega
    rw [saturateref01_shift.j3_succ, bifd_neg (by omega)]
  | succ d ih =>
    intro k i hd hi hk
    obtain ⟨k, rfl⟩ : ∃ m, k = m + 1 := ⟨k - 1, by omega⟩
    have hn := ih k (i + 1) (by omega) (by omega) (by omega)
    have hst := bld_step (shf (W a) x by_ fill) (i := i) (by omega)
    rw [saturateref01_shift.j3_succ, bifd_pos (by omega), saturateref01_W_eq, Option.bind_some]
    simp only [saturateref01_shift.p8_eq, wrapi]
    rw [wrapu_of (n := i) (by omega), wrapi_succ (by omega), wrapi_of (a := (i : Int) + by_) (by omega) (by omega)]
    by_cases hlt : (i : Int) + by_ < (W a : Int)
    · rw [bifd_pos hlt]
      by_cases h0 : 0 ≤ (i : Int) + by_
      · have e : (i : Int) + by_ = (((i : Int) + by_).toNat : Int) := by omega
        rw [e, saturateref01_Bit_eq hx, Option.bind_some, bifd_neg (by omega)]
        have hf : shf (W a) x by_ fill i = x.testBit ((i : Int) + by_).toNat := by unfold shf; rw [if_pos hlt, if_pos h0]
        rw [hf] at hst; rw [hst]; exact hn
      · rw [saturateref01_Bit_neg (by omega), Option.bind_some, bifd_neg (by omega)]
        have hf : shf (W a) x by_ fill i = false := by unfold shf; rw [if_pos hlt, if_neg h0]
        rw [hf] at hst; rw [show (0 : Int) = (false.toNat : Int) from rfl, hst]; exact hn
    · rw [bifd_neg hlt, bifd_neg (by omega)]
      have hf : shf (W a) x by_ fill i = fill := by unfold shf; rw [if_neg hlt]
      rw [hf] at hst; rw [hst]; exact hn
theorem saturateref01_shift_eq (a : Int) {x : Nat} (hx : x < 18446744073709551616) (by_ : Int) (h1 : -64 ≤ by_) (h2 : by_ ≤ 64) (fill : Bool) :
    saturateref01_shift.f a x by_ (fill.toNat : Int) = some (bld (shf (W a) x by_ fill) (W a) : Int) := by
  unfold saturateref01_shift.f saturateref01_shift.g; rw [saturateref01_W_eq]; simp only [Option.bind_some]
  have hw := W_le a
  exact saturateref01_shift_j3 fuel0 a hx by_ h1 h2 fill (W a) (fuel0 + 1) 0 (by omega) (by omega) (fuel_gt (by omega))
theorem saturateref01_by_eq (a : Int) {y : Nat} (hy : y < 18446744073709551616) : saturateref01_by.f a y = some ((min (y % 2 ^ W a) 64 : Nat) : Int) := by
  unfold saturateref01_by.f; rw [saturateref01_Cut_eq a hy]; simp only [Option.bind_some, wrapi]
  unfold vcut
  generalize y % 2 ^ W a = n
  congr 1
  unfold mn; split
  · rw [wrapi_of (by omega) (by omega)]; omega
  · rw [wrapi_of (by omega) (by omega)]; omega
theorem saturateref01_Shl_eq (a : Int) {x y : Nat} (hx : x < 18446744073709551616) (hy : y < 18446744073709551616) : saturateref01_Shl.f a x y = some (vshl (W a) x y : Int) := by
  unfold saturateref01_Shl.f; rw [saturateref01_by_eq a hy]; simp only [Option.bind_some, wrapi, Int.zero_sub]
  rw [wrapi_of (a := -_) (by omega) (by omega), show (0 : Int) = (false.toNat : Int) from rfl, saturateref01_shift_eq a hx _ (by omega) (by omega)]; simp only [Option.bind_some]
  rw [shf_shl (W_le a)]
theorem saturateref01_Lshr_eq (a : Int) {x y : Nat} (hx : x < 18446744073709551616) (hy : y < 18446744073709551616) : saturateref01_Lshr.f a x y = some (vlshr (W a) x y : Int) := by
  unfold saturateref01_Lshr.f; rw [saturateref01_by_eq a hy]; simp only [Option.bind_some]
  rw [show (0 : Int) = (false.toNat : Int) from rfl, saturateref01_shift_eq a hx _ (by omega) (by omega)]; simp only [Option.bind_some]
  rw [shf_lshr (W_le a)]
theorem saturateref01_Concat_j3 (fu : Nat) (w : Int) {x y : Nat} (hx : x < 18446744073709551616) (d : Nat) : ∀ (k i v : Nat), v ≤ 64 → v - i = d → i ≤ v → d < k →
    saturateref01_Concat.j3 (fu + 1) k w x (vconcat i (W w) x y : Int) v i = some (vconcat v (W w) x y : Int) := by
  have h1 := W_pos w
  have h2 := W_le w
  induction d with
  | zero =>
    intro k i v hw hd hi hk
    obtain ⟨k, rfl⟩ : ∃ m, k = m + 1 := ⟨k - 1, by omega⟩
    obtain rfl : i = v := by omega
    rw [saturateref01_Concat.j3_succ, bifd_neg (by omega)]
  | succ d ih =>
    intro k i v hw hd hi hk
    obtain ⟨k, rfl⟩ : ∃ m, k = m + 1 := ⟨k - 1, by omega⟩
    have hn := ih k (i + 1) v hw (by omega) (by omega) (by omega)
    rw [saturateref01_Concat.j3_succ, bifd_pos (by omega), saturateref01_W_eq, Option.bind_some]
    simp only [saturateref01_Concat.p7_eq, wrapi]
    rw [wrapi_of (a := (i : Int) + (W w : Int)) (by omega) (by omega), wrapi_succ (by omega)]
    by_cases hlt : i + W w < 64
    · rw [bifd_pos (by omega), saturateref01_Bit_eq hx, Option.bind_some, Option.bind_some, wrapi_of (a := (i : Int) + (W w : Int)) (by omega) (by omega), ← Int.natCast_add, wrapu_of (by omega), bifd_neg (by omega), concat_step h2 hlt]; exact hn
    · rw [bifd_neg (by omega)]
      rw [concat_over (i := i) (w := W w) (a := x) (b := y) (by omega)] at hn; exact hn
theorem saturateref01_Concat_eq (v w : Int) {x y : Nat} (hx : x < 18446744073709551616) (hy : y < 18446744073709551616) : saturateref01_Concat.f v w x y = some (vconcat (W v) (W w) x y : Int) := by
  unfold saturateref01_Concat.f saturateref01_Concat.g; rw [saturateref01_Cut_eq w hy, saturateref01_W_eq]; simp only [Option.bind_some]
  have hw := W_le v
  have := saturateref01_Concat_j3 fuel0 w (y := y) hx (W v) (fuel0 + 1) 0 (W v) (W_le v) (by omega) (by omega) (fuel_gt (by omega))
  rw [concat_zero, show ((0 : Nat) : Int) = 0 from rfl] at this; exact this
theorem saturateref01_Sext_j3 (fu : Nat) (v : Int) {x : Nat} (hx : x < 18446744073709551616) (d : Nat) : ∀ (k i w : Nat), w ≤ 64 → w - i = d → i ≤ w → d < k →
    saturateref01_Sext.j3 fu k v x (bld (fun j => x.testBit (min j (W v - 1))) i : Int) w i = some (bld (fun j => x.testBit (min j (W v - 1))) w : Int) := by
  have h1 := W_pos v
  have h2 := W_le v
  induction d with
  | zero =>
    intro k i w hw hd hi hk
    obtain ⟨k, rfl⟩ : ∃ m, k = m + 1 := ⟨k - 1, by omega⟩
    obtain rfl : i = w := by omega
    rw [saturateref01_Sext.j3_succ, bifd_neg (by omega)]
  | succ d ih =>
    intro k i w hw hd hi hk
    obtain ⟨k, rfl⟩ : ∃ m, k = m + 1 := ⟨k - 1, by omega⟩
    have e : mn (i : Int) ((W v - 1 : Nat) : Int) = ((min i (W v - 1) : Nat) : Int) := by unfold mn; split <;> omega
    rw [saturateref01_Sext.j3_succ, bifd_pos (by omega), saturateref01_W_eq]; simp only [Option.bind_some, wrapi]
    rw [wrapi_pred h1 h2, e, saturateref01_Bit_eq hx, wrapu_of (by omega)]; simp only [Option.bind_some]
    rw [bifd_neg (by omega), wrapi_succ (by omega), bld_step (fun j => x.testBit (min j (W v - 1))) (by omega)]
    exact ih k (i + 1) w hw (by omega) (by omega) (by omega)
theorem saturateref01_Sext_eq (v w : Int) {x : Nat} (hx : x < 18446744073709551616) : saturateref01_Sext.f v w x = some (vsext (W v) (W w) x : Int) := by
  unfold saturateref01_Sext.f saturateref01_Sext.g; rw [saturateref01_W_eq]; simp only [Option.bind_some]
  have hw := W_le w
  exact saturateref01_Sext_j3 (fuel0 + 1) v hx (W w) (fuel0 + 1) 0 (W w) (W_le w) (by omega) (by omega) (fuel_gt (by omega))
end Go.Proofs.YtcihbcffokjgjaaGreat.Fn
namespace Go.Proofs.YtcihbcffokjgjaaGreat.Fn
open Go Go.RowKit Go.Proofs.YtcihbcffokjgjaaGreat.Ev Go.Proofs.YtcihbcffokjgjaaGreat.Bv
set_option linter.unusedVariables false
set_option linter.unusedSimpArgs false
set_option maxRecDepth 100000

open Classical in
/-- The width of the result, or the error. -/
noncomputable def chkS (op w : Int) (x n m : Nat) (g : Nat → Int) : Int × Int :=
  if m ≠ n then (0, 4) else if (widthS op w x n g).2 ≠ 0 then (0, (widthS op w x n g).2) else if op = 24 ∨ op = 25 ∨ op = 26 then (0, 4)
  else if (widthS op w x n g).1 = 0 ∨ ∃ j, j < n ∧ g j = 0 then (0, 3) else ((widthS op w x n g).1, 0)
theorem widthS_small {op w : Int} {x n : Nat} {g : Nat → Int} (h : (widthS op w x n g).2 = 0) : 1 ≤ op ∧ op ≤ 26 ∧ (n : Int) = arity op ∧ n ≤ 3 ∧ allIn n g ∧ widthS op w x n g = widthT op w x g := by
  unfold widthS at h ⊢
  by_cases h1 : op < 1 ∨ 26 < op ∨ (n : Int) ≠ arity op
  · rw [if_pos h1] at h; exact absurd h (by decide)
  · rw [if_neg h1] at h ⊢
    by_cases h2 : allIn n g
    · have := arity_in (op := op) (by omega) (by omega)
      exact ⟨by omega, by omega, by omega, by omega, h2, if_pos h2⟩
    · rw [if_neg h2] at h; exact absurd h (by decide)
/-- What the checks let through. -/
theorem chkS_ok {op w : Int} {x n m : Nat} {g : Nat → Int} (h : (chkS op w x n m g).2 = 0) :
    1 ≤ op ∧ op ≤ 23 ∧ m = n ∧ (n : Int) = arity op ∧ (∀ i, i < n → 1 ≤ g i ∧ g i ≤ 64) ∧ chkS op w x n m g = widthT op w x g ∧ (widthT op w x g).2 = 0 ∧ (widthT op w x g).1 ≠ 0 := by
  unfold chkS at h ⊢
  by_cases h1 : m ≠ n
  · rw [if_pos h1] at h; exact absurd h (by decide)
  · rw [if_neg h1] at h ⊢
    by_cases h2 : (widthS op w x n g).2 ≠ 0
    · rw [if_pos h2] at h; exact absurd h h2
    · rw [if_neg h2] at h ⊢
      by_cases h3 : op = 24 ∨ op = 25 ∨ op = 26
      · rw [if_pos h3] at h; exact absurd h (by decide)
      · rw [if_neg h3] at h ⊢
        obtain ⟨a1, a2, a3, a4, a5, a6⟩ := widthS_small (Decidable.not_not.1 h2)
        by_cases h4 : (widthS op w x n g).1 = 0 ∨ ∃ j, j < n ∧ g j = 0
        · rw [if_pos h4] at h; exact absurd h (by decide)
        · rw [if_neg h4] at h ⊢
          rw [a6] at h2 h4 ⊢
          refine ⟨a1, by omega, by omega, a3, fun i hi => ?_, ?_, Decidable.not_not.1 h2, fun e => h4 (.inl e)⟩
          · have := ins_iff.1 (a5 i hi)
            have : g i ≠ 0 := fun e => h4 (.inr ⟨i, hi, e⟩)
            omega
          · exact Prod.ext rfl (Decidable.not_not.1 h2).symm
/-- What a width without an error says of the operator, its width and those of the operands. -/
theorem widthT_ok {op w : Int} {x n : Nat} {g : Nat → Int} (h1 : 1 ≤ op) (h2 : op ≤ 23) (ha : (n : Int) = arity op) (hg : ∀ i, i < n → 1 ≤ g i ∧ g i ≤ 64) (he : (widthT op w x g).2 = 0) (hr : (widthT op w x g).1 ≠ 0) :
    1 ≤ (widthT op w x g).1 ∧ (widthT op w x g).1 ≤ 64 ∧
    (((op = 1 ∨ op = 2) ∧ n = 0) ∨ ((op = 3 ∨ op = 4) ∧ n = 1 ∧ (widthT op w x g).1 = g 0) ∨
      ((op = 21 ∨ op = 22 ∨ op = 23) ∧ n = 1 ∧ (op = 21 → (x : Int) + (widthT op w x g).1 ≤ g 0) ∧ (op = 22 ∨ op = 23 → g 0 ≤ (widthT op w x g).1)) ∨
      (op = 19 ∧ n = 3 ∧ g 0 = 1 ∧ g 1 = (widthT op w x g).1 ∧ g 2 = (widthT op w x g).1) ∨ (op = 20 ∧ n = 2 ∧ (widthT op w x g).1 = g 0 + g 1) ∨
      ((op = 16 ∨ op = 17 ∨ op = 18) ∧ n = 2 ∧ g 1 = g 0 ∧ (widthT op w x g).1 = 1) ∨ ((5 ≤ op ∧ op ≤ 15) ∧ n = 2 ∧ g 1 = g 0 ∧ (widthT op w x g).1 = g 0)) := by
  rcases widthT_cases h1 (by omega) n ha with ⟨ho, hn⟩ | ⟨ho, hn⟩ | ⟨ho, hn⟩ | ⟨ho, hn⟩ | ⟨ho, hn⟩ | ⟨ho, hn⟩ | ⟨ho, hn⟩
  · have e : widthT op w x g = leafS op w x := if_pos ho
    rw [e] at he hr ⊢
    unfold leafS at he hr ⊢
    by_cases c : ¬ (0 ≤ w ∧ w ≤ 64) ∨ (op = 2 ∧ 0 < w ∧ 2 ^ w.toNat ≤ x)
    · rw [if_pos c] at he; exact absurd he (by decide)
    · rw [if_neg c] at he hr ⊢
      simp only at hr ⊢
      have c' : 0 ≤ w ∧ w ≤ 64 := Decidable.not_not.1 fun c2 => c (.inl c2)
      exact ⟨by omega, by omega, .inl ⟨by omega, by omega⟩⟩
  · have := hg 0 (by omega)
    have e : widthT op w x g = (g 0, 0) := by
      rcases ho with rfl | rfl | rfl <;> rfl
    rw [e] at he hr ⊢
    exact ⟨by simp only; omega, by simp only; omega, .inr (.inl ⟨by omega, by omega, rfl⟩)⟩
  · have := hg 0 (by omega)
    have e : widthT op w x g = partS op w x (g 0) := by
      rcases ho with rfl | rfl | rfl <;> rfl
    rw [e] at he hr ⊢
    unfold partS at he hr ⊢
    by_cases c : w < 1 ∨ w > 64 ∨ g 0 < 1
    · rw [if_pos c] at he; exact absurd he (by decide)
    · rw [if_neg c] at he hr ⊢
      rcases ho with rfl | rfl | rfl
      · rw [if_pos rfl] at he hr ⊢
        by_cases d : w > g 0 ∨ (x : Int) > g 0 - w
        · rw [if_pos d] at he; exact absurd he (by decide)
        · rw [if_neg d] at he hr ⊢
          exact ⟨by simp only; omega, by simp only; omega, .inr (.inr (.inl ⟨by decide, by omega, fun _ => by simp only; omega, fun h => by omega⟩))⟩
      · rw [if_neg (by decide)] at he hr ⊢
        by_cases d : w < g 0
        · rw [if_pos d] at he; exact absurd he (by decide)
        · rw [if_neg d] at he hr ⊢
          exact ⟨by simp only; omega, by simp only; omega, .inr (.inr (.inl ⟨by decide, by omega, fun h => by omega, fun h => by simp only; omega⟩))⟩
      · rw [if_neg (by decide)] at he hr ⊢
        by_cases d : w < g 0
        · rw [if_pos d] at he; exact absurd he (by decide)
        · rw [if_neg d] at he hr ⊢
          exact ⟨by simp only; omega, by simp only; omega, .inr (.inr (.inl ⟨by decide, by omega, fun h => by omega, fun h => by simp only; omega⟩))⟩
  · subst ho
    have := hg 1 (by omega)
    have e : widthT 19 w x g = if g 0 = 1 ∧ g 1 = g 2 then (g 1, 0) else (0, 3) := rfl
    rw [e] at he hr ⊢
    by_cases c : g 0 = 1 ∧ g 1 = g 2
    · rw [if_pos c] at he hr ⊢
      exact ⟨by simp only; omega, by simp only; omega, .inr (.inr (.inr (.inl ⟨rfl, by omega, c.1, rfl, c.2.symm⟩)))⟩
    · rw [if_neg c] at he; exact absurd he (by decide)
  · subst ho
    have := hg 0 (by omega)
    have := hg 1 (by omega)
    have e : widthT 20 w x g = if 1 ≤ g 0 ∧ 1 ≤ g 1 ∧ g 0 + g 1 ≤ 64 then (g 0 + g 1, 0) else (0, 3) := rfl
    rw [e] at he hr ⊢
    by_cases c : 1 ≤ g 0 ∧ 1 ≤ g 1 ∧ g 0 + g 1 ≤ 64
    · rw [if_pos c] at he hr ⊢
      exact ⟨by simp only; omega, by simp only; omega, .inr (.inr (.inr (.inr (.inl ⟨rfl, by omega, rfl⟩))))⟩
    · rw [if_neg c] at he; exact absurd he (by decide)
  · have e : widthT op w x g = if g 0 = g 1 then (1, 0) else (0, 3) := by
      rcases ho with rfl | rfl | rfl <;> rfl
    rw [e] at he hr ⊢
    by_cases c : g 0 = g 1
    · rw [if_pos c] at he hr ⊢
      exact ⟨by decide, by decide, .inr (.inr (.inr (.inr (.inr (.inl ⟨ho, by omega, c.symm, rfl⟩)))))⟩
    · rw [if_neg c] at he; exact absurd he (by decide)
  · have := hg 0 (by omega)
    have e : widthT op w x g = if g 0 = g 1 then (g 0, 0) else (0, 3) := by
      rcases ho with rfl | rfl | rfl | rfl | rfl | rfl | rfl | rfl | rfl | rfl | rfl <;> rfl
    rw [e] at he hr ⊢
    by_cases c : g 0 = g 1
    · rw [if_pos c] at he hr ⊢
      exact ⟨by simp only; omega, by simp only; omega, .inr (.inr (.inr (.inr (.inr (.inr ⟨by omega, by omega, c.symm, rfl⟩)))))⟩
    · rw [if_neg c] at he; exact absurd he (by decide)

theorem nat_of {a : Int} (h1 : 1 ≤ a) (h2 : a ≤ 64) : ∃ v : Nat, a = (v : Int) ∧ 1 ≤ v ∧ v ≤ 64 := ⟨a.toNat, by omega, by omega, by omega⟩
end Go.Proofs.YtcihbcffokjgjaaGreat.Fn
namespace Go.Proofs.YtcihbcffokjgjaaGreat.Fn
open Go Go.RowKit Go.Proofs.YtcihbcffokjgjaaGreat.Ev Go.Proofs.YtcihbcffokjgjaaGreat.Bv
set_option linter.unusedVariables false
set_option linter.unusedSimpArgs false
set_option maxRecDepth 100000

open Classical in
theorem known_refused_j9 (fu : Nat) {r : Int} {n : Nat} {g : Nat → Int} (hl : n ≤ 1000) (d : Nat) : ∀ k i, i + d = n → d < k →
    known_refused.j9 fu k r n (n : Int) (i : Int) n g = some (if ∃ j, i ≤ j ∧ j < n ∧ g j = 0 then (0, 3) else (r, 0)) := by
  induction d with
  | zero =>
    intro k i hi hk
    obtain ⟨k, rfl⟩ : ∃ m, k = m + 1 := ⟨k - 1, by omega⟩
    obtain rfl : i = n := by omega
    have : ¬ ∃ j, i ≤ j ∧ j < i ∧ g j = 0 := by rintro ⟨j, h1, h2, _⟩; omega
    rw [known_refused.j9_succ, bifd_neg (by omega), if_neg this]
  | succ d ih =>
    intro k i hi hk
    obtain ⟨k, rfl⟩ : ∃ m, k = m + 1 := ⟨k - 1, by omega⟩
    rw [known_refused.j9_succ, bifd_pos (by omega), bifd_pos (by omega), bifd_pos (by omega)]
    rw [wrapi, wrapi_succ (by omega), Int.toNat_natCast]
    have hex : (∃ j, i ≤ j ∧ j < n ∧ g j = 0) ↔ g i = 0 ∨ ∃ j, i + 1 ≤ j ∧ j < n ∧ g j = 0 := by
      constructor
      · rintro ⟨j, h1, h2, h3⟩
        rcases Nat.lt_or_ge i j with h | h
        · exact .inr ⟨j, h, h2, h3⟩
        · obtain rfl : j = i := by omega
          exact .inl h3
      · rintro (h | ⟨j, h1, h2, h3⟩)
        · exact ⟨i, Nat.le_refl _, by omega, h⟩
        · exact ⟨j, by omega, h2, h3⟩
    rw [hex]
    by_cases h : g i = 0
    · simp [h]
    · rw [show (g i == 0) = false by simpa using h, cond_false, ih k (i + 1) (by omega) (by omega)]; simp [h]
open Classical in
theorem known_refused_eq {op w : Int} {x : Nat} (hx : x < 18446744073709551616) (n m : Nat) (g : Nat → Int) : known_refused.f op w x (n, g) (m : Int) = some (chkS op w x n m g) := by
  unfold known_refused.f known_refused.g chkS
  simp only [opinfo_Width_eq hx, opinfo_Pattern_eq, Option.bind_some]
  by_cases h1 : m ≠ n
  · rw [if_pos h1, show ((m : Int) != (n : Int)) = true by rw [bne_iff_ne]; omega]; rfl
  · rw [if_neg h1, show ((m : Int) != (n : Int)) = false by rw [bne_eq_false_iff_eq]; omega, cond_false]
    by_cases h2 : (widthS op w x n g).2 ≠ 0
    · rw [if_pos h2, show ((widthS op w x n g).2 != 0) = true by rw [bne_iff_ne]; exact h2]; rfl
    · rw [if_neg h2, show ((widthS op w x n g).2 != 0) = false by rw [bne_eq_false_iff_eq]; exact Decidable.not_not.1 h2, cond_false]
      by_cases h3 : op = 24 ∨ op = 25 ∨ op = 26
      · rw [if_pos h3, bifd_pos h3]
      · rw [if_neg h3, bifd_neg h3]
        have hs := widthS_small (Decidable.not_not.1 h2)
        have hn : n ≤ 3 := by omega
        have hb : Nat.ble ((1 + n) * 8) 140737488355328 = true := by rw [Nat.ble_eq]; omega
        rw [hb, cond_true]
        have := known_refused_j9 (fuel0 + 1) (r := (widthS op w x n g).1) (n := 1 + n) (g := cat 1 (fun i => [(widthS op w x n g).1].getD i 0) g) (by omega) (1 + n) (fuel0 + 1) 0 (by omega) (fuel_gt (by omega))
        rw [show ((0 : Nat) : Int) = 0 from rfl] at this
        rw [show ((1 : Int) + (n : Int)) = ((1 + n : Nat) : Int) by omega, this]
        congr 1
        have hex : (∃ j, 0 ≤ j ∧ j < 1 + n ∧ cat 1 (fun i => [(widthS op w x n g).1].getD i 0) g j = 0) ↔ ((widthS op w x n g).1 = 0 ∨ ∃ j, j < n ∧ g j = 0) := by
          constructor
          · rintro ⟨j, _, h1, h2⟩
            cases j with
            | zero => exact .inl h2
            | succ j =>
              refine .inr ⟨j, by omega, ?_⟩
              have e : cat 1 (fun i => [(widthS op w x n g).1].getD i 0) g (j + 1) = g j := by
                unfold cat; rw [show (j + 1).blt 1 = false from rfl, cond_false]; congr 1
              rw [e] at h2; exact h2
          · rintro (h | ⟨j, h1, h2⟩)
            · exact ⟨0, by omega, by omega, h⟩
            · refine ⟨j + 1, by omega, by omega, ?_⟩
              have e : cat 1 (fun i => [(widthS op w x n g).1].getD i 0) g (j + 1) = g j := by
                unfold cat; rw [show (j + 1).blt 1 = false from rfl, cond_false]; congr 1
              rw [e]; exact h2
        simp only [hex]
end Go.Proofs.YtcihbcffokjgjaaGreat.Fn
