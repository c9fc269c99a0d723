/- The operators: their number of operands and the width of their value, by the program and by the reference: one specification that both meet. -/
import Derived.Test.YtcihbcffokjgjaaGreatAF0
import Derived.Test.YtcihbcffokjgjaaGreatAF9
import Derived.Test.YtcihbcffokjgjaaGreatATb
namespace Go.Proofs.YtcihbcffokjgjaaGreat.Fn
open Go Go.RowKit Go.Proofs.YtcihbcffokjgjaaGreat.Ev Go.Proofs.YtcihbcffokjgjaaGreat.Bv
set_option linter.unusedVariables false
set_option linter.unusedSimpArgs false

theorem bv {α : Type} (c : Bool) (x y : α) : (bif c then x else y) = if c = true then x else y := by cases c <;> rfl

def arity (op : Int) : Int :=
  if op = 19 then 3 else if 5 ≤ op ∧ op ≤ 20 then 2
  else if op = 3 ∨ op = 4 ∨ op = 21 ∨ op = 22 ∨ op = 23 ∨ op = 26 then 1
  else if op = 1 ∨ op = 2 ∨ op = 24 ∨ op = 25 then 0 else -1
theorem ops {op : Int} (h1 : 1 ≤ op) (h2 : op ≤ 26) : op = 1 ∨ op = 2 ∨ op = 3 ∨ op = 4 ∨ op = 5 ∨ op = 6 ∨ op = 7 ∨ op = 8 ∨ op = 9 ∨ op = 10 ∨ op = 11 ∨ op = 12 ∨ op = 13 ∨ op = 14 ∨ op = 15 ∨ op = 16 ∨ op = 17 ∨ op = 18 ∨ op = 19 ∨ op = 20 ∨ op = 21 ∨ op = 22 ∨ op = 23 ∨ op = 24 ∨ op = 25 ∨ op = 26 := by
  obtain ⟨k, rfl⟩ := Int.eq_ofNat_of_zero_le (show 0 ≤ op by omega)
  have tab : ∀ m : Fin 27, 1 ≤ m.val → (((m.val : Nat) : Int) = 1 ∨ ((m.val : Nat) : Int) = 2 ∨ ((m.val : Nat) : Int) = 3 ∨ ((m.val : Nat) : Int) = 4 ∨ ((m.val : Nat) : Int) = 5 ∨ ((m.val : Nat) : Int) = 6 ∨ ((m.val : Nat) : Int) = 7 ∨ ((m.val : Nat) : Int) = 8 ∨ ((m.val : Nat) : Int) = 9 ∨ ((m.val : Nat) : Int) = 10 ∨ ((m.val : Nat) : Int) = 11 ∨ ((m.val : Nat) : Int) = 12 ∨ ((m.val : Nat) : Int) = 13 ∨ ((m.val : Nat) : Int) = 14 ∨ ((m.val : Nat) : Int) = 15 ∨ ((m.val : Nat) : Int) = 16 ∨ ((m.val : Nat) : Int) = 17 ∨ ((m.val : Nat) : Int) = 18 ∨ ((m.val : Nat) : Int) = 19 ∨ ((m.val : Nat) : Int) = 20 ∨ ((m.val : Nat) : Int) = 21 ∨ ((m.val : Nat) : Int) = 22 ∨ ((m.val : Nat) : Int) = 23 ∨ ((m.val : Nat) : Int) = 24 ∨ ((m.val : Nat) : Int) = 25 ∨ ((m.val : Nat) : Int) = 26) := by decide
  exact tab ⟨k, by omega⟩ (by show 1 ≤ k; omega)
theorem arity_out {op : Int} (h : op < 1 ∨ 26 < op) : arity op = -1 := by
  unfold arity
  rw [if_neg (by omega), if_neg (by omega), if_neg (by omega), if_neg (by omega)]
theorem arity_in {op : Int} (h1 : 1 ≤ op) (h2 : op ≤ 26) : 0 ≤ arity op ∧ arity op ≤ 3 := by
  obtain ⟨k, rfl⟩ := Int.eq_ofNat_of_zero_le (show 0 ≤ op by omega)
  have tab : ∀ m : Fin 27, 1 ≤ m.val → 0 ≤ arity ((m.val : Nat) : Int) ∧ arity ((m.val : Nat) : Int) ≤ 3 := by decide
  exact tab ⟨k, by omega⟩ (by show 1 ≤ k; omega)
/-- Is a width from 0 to 64? -/
def ins (a : Int) : Bool := decide (0 ≤ a) && decide (a ≤ 64)
theorem ins_iff {a : Int} : ins a = true ↔ 0 ≤ a ∧ a ≤ 64 := by unfold ins; simp
theorem ins_no {a : Int} : ins a = false ↔ ¬ (0 ≤ a ∧ a ≤ 64) := by rw [← ins_iff]; simp
def leafS (op w : Int) (x : Nat) : Int × Int := if ¬ (0 ≤ w ∧ w ≤ 64) ∨ (op = 2 ∧ 0 < w ∧ 2 ^ w.toNat ≤ x) then (0, 3) else (w, 0)
def partS (op w : Int) (x : Nat) (a : Int) : Int × Int :=
  if w < 1 ∨ w > 64 ∨ a < 1 then (0, 3) else if op = 21 then (if w > a ∨ (x : Int) > a - w then (0, 3) else (w, 0)) else if w < a then (0, 3) else (w, 0)
/-- The width of an operator's value, once the operands' number and widths are right: the width and the error. -/
def widthT (op w : Int) (x : Nat) (g : Nat → Int) : Int × Int :=
  if op = 1 ∨ op = 2 ∨ op = 24 ∨ op = 25 then leafS op w x
  else if op = 3 ∨ op = 4 ∨ op = 26 then (g 0, 0)
  else if op = 21 ∨ op = 22 ∨ op = 23 then partS op w x (g 0)
  else if op = 19 then (if g 0 = 1 ∧ g 1 = g 2 then (g 1, 0) else (0, 3))
  else if op = 20 then (if 1 ≤ g 0 ∧ 1 ≤ g 1 ∧ g 0 + g 1 ≤ 64 then (g 0 + g 1, 0) else (0, 3))
  else if op = 16 ∨ op = 17 ∨ op = 18 then (if g 0 = g 1 then (1, 0) else (0, 3))
  else (if g 0 = g 1 then (g 0, 0) else (0, 3))
def allIn (n : Nat) (g : Nat → Int) : Prop := ∀ i, i < n → ins (g i) = true
open Classical in
/-- The width of an operator's value, or its error. -/
noncomputable def widthS (op w : Int) (x : Nat) (n : Nat) (g : Nat → Int) : Int × Int :=
  if op < 1 ∨ 26 < op ∨ (n : Int) ≠ arity op then (0, 4) else if allIn n g then widthT op w x g else (0, 3)

theorem opinfo_Arity_eq (op : Int) : opinfo_Arity.f op = some (arity op) := by
  unfold opinfo_Arity.f opinfo_Arity.g
  by_cases h : 1 ≤ op ∧ op ≤ 26
  · rcases ops h.1 h.2 with rfl | rfl | rfl | rfl | rfl | rfl | rfl | rfl | rfl | rfl | rfl | rfl | rfl | rfl | rfl | rfl | rfl | rfl | rfl | rfl | rfl | rfl | rfl | rfl | rfl | rfl <;>
      (simp only [Int.reduceBEq, cond_true, cond_false, opinfo_Arity.p30_eq, opinfo_Arity.p31_eq, opinfo_Arity.p32_eq]; rfl)
  · rw [arity_out (by omega)]
    have b : ∀ n : Int, 1 ≤ n → n ≤ 26 → (op == n) = false := fun n h1 h2 => by have : ¬ op = n := by omega
                                                                                simpa using this
    simp only [b 19 (by decide) (by decide), b 5 (by decide) (by decide), b 6 (by decide) (by decide), b 7 (by decide) (by decide), b 8 (by decide) (by decide), b 9 (by decide) (by decide), b 10 (by decide) (by decide), b 11 (by decide) (by decide), b 12 (by decide) (by decide), b 13 (by decide) (by decide), b 14 (by decide) (by decide), b 15 (by decide) (by decide), b 16 (by decide) (by decide), b 17 (by decide) (by decide), b 18 (by decide) (by decide), b 20 (by decide) (by decide),
      b 3 (by decide) (by decide), b 4 (by decide) (by decide), b 21 (by decide) (by decide), b 22 (by decide) (by decide), b 23 (by decide) (by decide), b 26 (by decide) (by decide), b 1 (by decide) (by decide), b 2 (by decide) (by decide), b 24 (by decide) (by decide), b 25 (by decide) (by decide), cond_false]
theorem opinfo_known_eq (op : Int) : opinfo_known.f op = some (decide (1 ≤ op ∧ op ≤ 26)) := by
  unfold opinfo_known.f
  by_cases h : op ≥ 1
  · rw [bifd_pos h]; simp [show 1 ≤ op from h]
  · rw [bifd_neg h]; simp; omega
theorem opinfo_inside_eq (a : Int) : opinfo_inside.f a = some (ins a) := by
  unfold opinfo_inside.f ins
  by_cases h : a ≥ 0
  · rw [bifd_pos h]; simp [show 0 ≤ a from h]
  · rw [bifd_neg h]; simp; omega
theorem saturateref04_width_eq (a : Int) : saturateref04_width.f a = some (ins a) := by
  unfold saturateref04_width.f ins
  by_cases h : a ≥ 0
  · rw [bifd_pos h]; simp [show 0 ≤ a from h]
  · rw [bifd_neg h]; simp; omega
theorem far_shr0 {x : Nat} {w : Int} (hx : x < 18446744073709551616) (h0 : 0 ≤ w) (h1 : w ≤ 64) : (shr .u64 (x : Int) w = 0) ↔ ¬ (2 ^ w.toNat ≤ x) := by
  obtain ⟨n, rfl⟩ := Int.eq_ofNat_of_zero_le h0
  rw [shr64 hx, Int.toNat_natCast, Nat.shiftRight_eq_div_pow]
  have hp := pw_pos n
  constructor
  · intro h h2
    have := Nat.div_pos h2 hp
    omega
  · intro h
    rw [Nat.div_eq_of_lt (by omega)]; rfl
theorem one_shl {w : Int} (h0 : 0 < w) (h1 : w < 64) : shl .u64 1 (IntKind.u64.wrap w) = ((2 ^ w.toNat : Nat) : Int) := by
  obtain ⟨n, rfl⟩ := Int.eq_ofNat_of_zero_le (by omega : 0 ≤ w)
  rw [wrapu_of (by omega), show (1 : Int) = ((1 : Nat) : Int) from rfl, shl64, Nat.one_shiftLeft, Int.toNat_natCast, Nat.mod_eq_of_lt]
  rw [← p64]; exact Nat.pow_lt_pow_right (by decide) (by omega)
theorem opinfo_leaf_eq (op w : Int) {x : Nat} (hx : x < 18446744073709551616) : opinfo_leaf.f op w x = some (leafS op w x) := by
  unfold opinfo_leaf.f opinfo_leaf.g leafS
  rw [opinfo_inside_eq]; simp only [Option.bind_some, opinfo_leaf.p3_eq, bv, Bool.not_eq_true', decide_eq_true_eq, beq_iff_eq, bne_iff_ne]
  by_cases h : 0 ≤ w ∧ w ≤ 64
  · rw [if_neg (by rw [ins_no]; exact fun e => e h)]
    by_cases h2 : op = 2
    · rw [if_pos h2]
      by_cases h3 : w > 0
      · rw [if_pos h3, if_neg (by omega)]
        by_cases h4 : 2 ^ w.toNat ≤ x
        · rw [if_pos (fun e => (far_shr0 hx h.1 h.2).1 e h4), if_pos (.inr ⟨h2, h3, h4⟩)]
        · rw [if_neg (fun e => e ((far_shr0 hx h.1 h.2).2 h4)), if_neg (fun e => e.elim (fun e => e h) (fun e => h4 e.2.2))]
      · rw [if_neg h3, if_neg (fun e => e.elim (fun e => e h) (fun e => h3 e.2.1))]
    · rw [if_neg h2, if_neg (fun e => e.elim (fun e => e h) (fun e => h2 e.1))]
  · rw [if_pos (ins_no.2 h), if_pos (.inl h)]
theorem saturateref04_leaf_eq (op w : Int) {x : Nat} (hx : x < 18446744073709551616) : saturateref04_leaf.f op w x = some (leafS op w x) := by
  unfold saturateref04_leaf.f saturateref04_leaf.g leafS
  rw [saturateref04_width_eq]; simp only [Option.bind_some, saturateref04_leaf.p3_eq, bv, Bool.not_eq_true', decide_eq_true_eq, beq_iff_eq, bne_iff_ne]
  by_cases h : 0 ≤ w ∧ w ≤ 64
  · rw [if_neg (by rw [ins_no]; exact fun e => e h)]
    by_cases h2 : op = 2
    · rw [if_pos h2]
      by_cases h3 : w > 0
      · rw [if_pos h3]
        by_cases h5 : w < 64
        · rw [if_pos h5, one_shl h3 h5, if_neg (by rw [wrapu]; omega)]
          by_cases h4 : 2 ^ w.toNat ≤ x
          · rw [if_pos (by omega), if_pos (.inr ⟨h2, h3, h4⟩)]
          · rw [if_neg (by omega), if_neg (fun e => e.elim (fun e => e h) (fun e => h4 e.2.2))]
        · obtain rfl : w = 64 := by omega
          rw [if_neg h5, if_neg (fun e => e.elim (fun e => e h) (fun e => by have := e.2.2; rw [show (64 : Int).toNat = 64 from rfl, p64] at this; omega))]
      · rw [if_neg h3, if_neg (fun e => e.elim (fun e => e h) (fun e => h3 e.2.1))]
    · rw [if_neg h2, if_neg (fun e => e.elim (fun e => e h) (fun e => h2 e.1))]
  · rw [if_pos (ins_no.2 h), if_pos (.inl h)]
theorem sub_wrap {a w : Int} (h1 : 1 ≤ w) (h2 : w ≤ a) (h3 : a ≤ 64) : IntKind.u64.wrap (IntKind.i64.wrap (a - w)) = a - w := by
  rw [wrapi, wrapi_of (by omega) (by omega), wrapu]; omega
theorem opinfo_resized_eq (op w : Int) {x : Nat} {a : Int} (ha : a ≤ 64) : opinfo_resized.f op w x a = some (partS op w x a) := by
  unfold opinfo_resized.f opinfo_resized.g partS
  simp only [opinfo_resized.p5_eq, bv, Bool.not_eq_true', decide_eq_true_eq, beq_iff_eq, bne_iff_ne]
  by_cases h1 : w < 1
  · rw [if_pos h1, if_pos (.inl h1)]
  · rw [if_neg h1]
    by_cases h2 : w > 64
    · rw [if_pos h2, if_pos (.inr (.inl h2))]
    · rw [if_neg h2]
      by_cases h3 : a < 1
      · rw [if_pos h3, if_pos (.inr (.inr h3))]
      · rw [if_neg h3, if_neg (show ¬ (w < 1 ∨ w > 64 ∨ a < 1) by omega)]
        by_cases h4 : op = 21
        · rw [if_neg (fun e => e h4), if_pos h4, if_pos h4]
          by_cases h5 : w > a
          · rw [if_pos h5, if_pos (.inl h5)]
          · rw [if_neg h5, sub_wrap (by omega) (by omega) ha]
            by_cases h6 : (x : Int) > a - w
            · rw [if_pos h6, if_pos (.inr h6)]
            · rw [if_neg h6, if_neg (show ¬ (w > a ∨ (x : Int) > a - w) by omega)]
        · rw [if_pos h4]
          by_cases h5 : w < a
          · simp only [if_pos h5, if_neg h4]
          · simp only [if_neg h5, if_neg h4]
theorem saturateref04_parts_eq (op w : Int) {x : Nat} {a : Int} (ha : a ≤ 64) : saturateref04_parts.f op w x a = some (partS op w x a) := by
  unfold saturateref04_parts.f saturateref04_parts.g partS
  rw [saturateref04_width_eq]
  simp only [Option.bind_some, saturateref04_parts.p5_eq, bv, Bool.not_eq_true', decide_eq_true_eq, beq_iff_eq, bne_iff_ne]
  by_cases h0 : 0 ≤ w ∧ w ≤ 64
  · rw [if_neg (by rw [ins_no]; exact fun e => e h0)]
    by_cases h1 : w < 1
    · rw [if_pos h1, if_pos (.inl h1)]
    · rw [if_neg h1]
      by_cases h3 : a < 1
      · rw [if_pos h3, if_pos (.inr (.inr h3))]
      · rw [if_neg h3, if_neg (show ¬ (w < 1 ∨ w > 64 ∨ a < 1) by omega)]
        by_cases h4 : op = 21
        · rw [if_pos h4, if_pos h4]
          by_cases h5 : w > a
          · rw [if_pos h5, if_pos (.inl h5)]
          · rw [if_neg h5, sub_wrap (by omega) (by omega) ha]
            by_cases h6 : (x : Int) > a - w
            · rw [if_pos h6, if_pos (.inr h6)]
            · rw [if_neg h6, if_neg (fun e => e h4), if_neg (show ¬ (w > a ∨ (x : Int) > a - w) by omega)]
        · rw [if_neg h4, if_pos h4]
          by_cases h5 : w < a
          · simp only [if_pos h5, if_neg h4]
          · simp only [if_neg h5, if_neg h4]
  · rw [if_pos (ins_no.2 h0), if_pos (by omega)]
theorem opinfo_agreed_eq (b : Bool) (r : Int) : opinfo_agreed.f b r = some (if b = true then (r, 0) else (0, 3)) := by
  unfold opinfo_agreed.f; cases b <;> rfl
theorem widthT_cases {op : Int} (h1 : 1 ≤ op) (h2 : op ≤ 26) (n : Int) (ha : n = arity op) :
    ((op = 1 ∨ op = 2 ∨ op = 24 ∨ op = 25) ∧ n = 0) ∨ ((op = 3 ∨ op = 4 ∨ op = 26) ∧ n = 1) ∨ ((op = 21 ∨ op = 22 ∨ op = 23) ∧ n = 1) ∨ (op = 19 ∧ n = 3) ∨ (op = 20 ∧ n = 2) ∨ ((op = 16 ∨ op = 17 ∨ op = 18) ∧ n = 2) ∨
      ((op = 5 ∨ op = 6 ∨ op = 7 ∨ op = 8 ∨ op = 9 ∨ op = 10 ∨ op = 11 ∨ op = 12 ∨ op = 13 ∨ op = 14 ∨ op = 15) ∧ n = 2) := by
  subst ha
  obtain ⟨k, rfl⟩ := Int.eq_ofNat_of_zero_le (show 0 ≤ op by omega)
  have tab : ∀ m : Fin 27, 1 ≤ m.val → (((((m.val : Nat) : Int) = 1 ∨ ((m.val : Nat) : Int) = 2 ∨ ((m.val : Nat) : Int) = 24 ∨ ((m.val : Nat) : Int) = 25) ∧ arity ((m.val : Nat) : Int) = 0) ∨ ((((m.val : Nat) : Int) = 3 ∨ ((m.val : Nat) : Int) = 4 ∨ ((m.val : Nat) : Int) = 26) ∧ arity ((m.val : Nat) : Int) = 1) ∨ ((((m.val : Nat) : Int) = 21 ∨ ((m.val : Nat) : Int) = 22 ∨ ((m.val : Nat) : Int) = 23) ∧ arity ((m.val : Nat) : Int) = 1) ∨ (((m.val : Nat) : Int) = 19 ∧ arity ((m.val : Nat) : Int) = 3) ∨ (((m.val : Nat) : Int) = 20 ∧ arity ((m.val : Nat) : Int) = 2) ∨ ((((m.val : Nat) : Int) = 16 ∨ ((m.val : Nat) : Int) = 17 ∨ ((m.val : Nat) : Int) = 18) ∧ arity ((m.val : Nat) : Int) = 2) ∨
      ((((m.val : Nat) : Int) = 5 ∨ ((m.val : Nat) : Int) = 6 ∨ ((m.val : Nat) : Int) = 7 ∨ ((m.val : Nat) : Int) = 8 ∨ ((m.val : Nat) : Int) = 9 ∨ ((m.val : Nat) : Int) = 10 ∨ ((m.val : Nat) : Int) = 11 ∨ ((m.val : Nat) : Int) = 12 ∨ ((m.val : Nat) : Int) = 13 ∨ ((m.val : Nat) : Int) = 14 ∨ ((m.val : Nat) : Int) = 15) ∧ arity ((m.val : Nat) : Int) = 2)) := by decide
  exact tab ⟨k, by omega⟩ (by show 1 ≤ k; omega)
theorem opinfo_Width_end (fu k : Nat) {op w : Int} {x : Nat} (hx : x < 18446744073709551616) {n : Nat} {g : Nat → Int} (h1 : 1 ≤ op) (h2 : op ≤ 26) (ha : (n : Int) = arity op) (hall : allIn n g) :
    opinfo_Width.j4 fu (k + 1) op w x n n (n : Int) (n : Int) n g = some (widthT op w x g) := by
  have A : (0 : Int) < n → 0 ≤ g 0 ∧ g 0 ≤ 64 := fun h => ins_iff.1 (hall 0 (by omega))
  have B : (1 : Int) < n → 0 ≤ g 1 ∧ g 1 ≤ 64 := fun h => ins_iff.1 (hall 1 (by omega))
  clear hall
  rw [opinfo_Width.j4_succ, bifd_neg (Int.lt_irrefl _)]
  generalize (n : Int) = N at *
  rcases widthT_cases h1 h2 N ha with ⟨ho, rfl⟩ | ⟨ho, rfl⟩ | ⟨ho, rfl⟩ | ⟨rfl, rfl⟩ | ⟨rfl, rfl⟩ | ⟨ho, rfl⟩ | ⟨ho, rfl⟩
  · have e : widthT op w x g = leafS op w x := if_pos ho
    rw [e]
    rcases ho with rfl | rfl | rfl | rfl <;> (simp only [Int.reduceBEq, Int.reduceEq, or_true, true_or, decide_true, cond_true, cond_false, opinfo_leaf_eq _ w hx, Option.bind_some]; done)
  · rcases ho with rfl | rfl | rfl <;> (simp only [Int.reduceBEq, Int.reduceEq, or_self, decide_false, cond_true, cond_false, Int.reduceLT, decide_true, widthT, or_true, true_or, or_false, false_or, if_true, if_false]; done)
  · have hA := A (by omega)
    rcases ho with rfl | rfl | rfl <;> (simp only [Int.reduceBEq, Int.reduceEq, or_self, decide_false, cond_true, cond_false, Int.reduceLT, decide_true, widthT, or_true, true_or, or_false, false_or, if_true, if_false, opinfo_resized_eq _ w hA.2, Option.bind_some]; done)
  · simp only [Int.reduceBEq, Int.reduceEq, or_self, decide_false, cond_true, cond_false, Int.reduceLT, decide_true, widthT, or_true, true_or, or_false, false_or, if_true, if_false, opinfo_agreed_eq, Option.bind_some, bv, bne_iff_ne, beq_iff_eq]
    by_cases k1 : g 0 = 1 <;> by_cases k2 : g 1 = g 2 <;> simp [k1, k2]
  · have hA := A (by omega)
    have hB := B (by omega)
    have hw : IntKind.i64.wrap (g 0 + g 1) = g 0 + g 1 := by rw [wrapi, wrapi_of (by omega) (by omega)]
    simp only [Int.reduceBEq, Int.reduceEq, or_self, decide_false, cond_true, cond_false, Int.reduceLT, decide_true, widthT, or_true, true_or, or_false, false_or, if_true, if_false, opinfo_agreed_eq, Option.bind_some, bv, decide_eq_true_eq, beq_iff_eq, hw]
    by_cases k1 : 1 ≤ g 0 <;> by_cases k2 : 1 ≤ g 1 <;> by_cases k3 : g 0 + g 1 ≤ 64 <;> simp [k1, k2, k3, hw] <;> omega
  · rcases ho with rfl | rfl | rfl <;>
      (simp only [Int.reduceBEq, Int.reduceEq, or_self, decide_false, cond_true, cond_false, Int.reduceLT, decide_true, widthT, or_true, true_or, or_false, false_or, if_true, if_false, opinfo_agreed_eq, Option.bind_some, bv, bne_iff_ne, beq_iff_eq]
       by_cases k1 : g 0 = g 1 <;> simp [k1])
  · rcases ho with rfl | rfl | rfl | rfl | rfl | rfl | rfl | rfl | rfl | rfl | rfl <;>
      (simp only [Int.reduceBEq, Int.reduceEq, or_self, decide_false, cond_true, cond_false, Int.reduceLT, decide_true, widthT, or_true, true_or, or_false, false_or, if_true, if_false, opinfo_agreed_eq, Option.bind_some, bv, bne_iff_ne, beq_iff_eq]
       by_cases k1 : g 0 = g 1 <;> simp [k1])
open Classical in
theorem opinfo_Width_loop (fu : Nat) {op w : Int} {x : Nat} (hx : x < 18446744073709551616) {n : Nat} {g : Nat → Int} (hl : n ≤ 1000) (h1 : 1 ≤ op) (h2 : op ≤ 26) (ha : (n : Int) = arity op) (d : Nat) : ∀ k i, i + d = n → d < k → allIn i g →
    opinfo_Width.j4 fu k op w x n n (n : Int) (i : Int) n g = some (widthS op w x n g) := by
  have hS : widthS op w x n g = if allIn n g then widthT op w x g else (0, 3) := by unfold widthS; rw [if_neg (by omega)]
  induction d with
  | zero =>
    intro k i hi hk ht
    obtain ⟨k, rfl⟩ : ∃ m, k = m + 1 := ⟨k - 1, by omega⟩
    obtain rfl : i = n := by omega
    rw [opinfo_Width_end fu k hx h1 h2 ha ht, hS, if_pos ht]
  | succ d ih =>
    intro k i hi hk ht
    obtain ⟨k, rfl⟩ : ∃ m, k = m + 1 := ⟨k - 1, by omega⟩
    rw [opinfo_Width.j4_succ, bifd_pos (by omega), bifd_pos (by omega), bifd_pos (by omega), opinfo_inside_eq, Option.bind_some, wrapi, wrapi_succ (by omega), Int.toNat_natCast]
    cases hb : ins (g i) with
    | true =>
      rw [Bool.not_true, cond_false]
      exact ih k (i + 1) (by omega) (by omega) fun j hj => by
        rcases Nat.lt_or_ge j i with h | h
        · exact ht j h
        · obtain rfl : j = i := by omega
          exact hb
    | false =>
      rw [Bool.not_false, cond_true]
      rw [hS, if_neg (fun h => by rw [h i (by omega)] at hb; cases hb)]
theorem opinfo_Width_eq {op w : Int} {x : Nat} (hx : x < 18446744073709551616) (n : Nat) (g : Nat → Int) : opinfo_Width.f op w x (n, g) = some (widthS op w x n g) := by
  unfold opinfo_Width.f opinfo_Width.g
  rw [opinfo_known_eq, opinfo_Arity_eq]; simp only [Option.bind_some]
  by_cases h : 1 ≤ op ∧ op ≤ 26
  · rw [decide_eq_true h, Bool.not_true, cond_false]
    by_cases ha : (n : Int) = arity op
    · have h3 := (arity_in h.1 h.2).2
      have hb : ((n : Int) != arity op) = false := by rw [ha]; exact bne_self_eq_false _
      rw [hb, cond_false]
      have hk : n < fuel0 + 1 := by unfold fuel0; omega
      have := opinfo_Width_loop (fuel0 + 1) (w := w) hx (g := g) (by omega) h.1 h.2 ha n (fuel0 + 1) 0 (by omega) hk (fun i hi => absurd hi (Nat.not_lt_zero _))
      rw [show ((0 : Nat) : Int) = 0 from rfl] at this
      exact this
    · have hb : ((n : Int) != arity op) = true := bne_iff_ne.2 ha
      rw [hb, cond_true]
      unfold widthS
      rw [if_pos (.inr (.inr ha))]
  · rw [decide_eq_false h, Bool.not_false, cond_true]
    unfold widthS
    rw [if_pos (by omega)]
/-! ### the reference -/
open Classical in
theorem saturateref04_Is_j2 (fu : Nat) {op : Int} {n : Nat} {g : Nat → Int} (hl : n ≤ 1000) (d : Nat) : ∀ k i, i + d = n → d < k → saturateref04_Is.j2 fu k op n (n : Int) (i : Int) n g = some (decide (∃ j, i ≤ j ∧ j < n ∧ g j = op)) := by
  induction d with
  | zero =>
    intro k i hi hk
    obtain ⟨k, rfl⟩ : ∃ m, k = m + 1 := ⟨k - 1, by omega⟩
    obtain rfl : i = n := by omega
    rw [saturateref04_Is.j2_succ, bifd_neg (by omega)]
    congr 1; symm; rw [decide_eq_false_iff_not]
    rintro ⟨j, h1, h2, _⟩; omega
  | succ d ih =>
    intro k i hi hk
    obtain ⟨k, rfl⟩ : ∃ m, k = m + 1 := ⟨k - 1, by omega⟩
    rw [saturateref04_Is.j2_succ, bifd_pos (by omega), bifd_pos (by omega), bifd_pos (by omega), wrapi, wrapi_succ (by omega), Int.toNat_natCast, bv]
    by_cases h : g i = op
    · rw [if_pos (by simpa using h)]
      congr 1; symm; rw [decide_eq_true_iff]
      exact ⟨i, by omega, by omega, h⟩
    · rw [if_neg (by simpa using h), ih k (i + 1) (by omega) (by omega)]
      congr 1; rw [decide_eq_decide]
      constructor
      · rintro ⟨j, h1, h2, h3⟩; exact ⟨j, by omega, h2, h3⟩
      · rintro ⟨j, h1, h2, h3⟩
        refine ⟨j, ?_, h2, h3⟩
        rcases Nat.lt_or_ge i j with hh | hh
        · omega
        · obtain rfl : j = i := by omega
          exact absurd h3 h
open Classical in
theorem saturateref04_Is_eq {op : Int} {n : Nat} {g : Nat → Int} (hl : n ≤ 1000) : saturateref04_Is.f op (n, g) = some (decide (∃ j, j < n ∧ g j = op)) := by
  unfold saturateref04_Is.f saturateref04_Is.g
  have := saturateref04_Is_j2 (fuel0 + 1) (op := op) (g := g) hl n (fuel0 + 1) 0 (by omega) (by unfold fuel0; omega)
  rw [show ((0 : Nat) : Int) = 0 from rfl] at this
  simpa using this
theorem ex_list {l : List Int} {op : Int} : (∃ j, j < l.length ∧ l.getD j 0 = op) ↔ op ∈ l := by
  constructor
  · rintro ⟨j, h1, h2⟩
    rw [List.getD_eq_getElem?_getD, List.getElem?_eq_getElem h1] at h2
    simp only [Option.getD_some] at h2
    rw [← h2]; exact List.getElem_mem h1
  · intro h
    obtain ⟨j, h1, h2⟩ := List.getElem_of_mem h
    exact ⟨j, h1, by rw [List.getD_eq_getElem?_getD, List.getElem?_eq_getElem h1]; exact h2⟩
theorem Is_list {op : Int} (l : List Int) (hl : l.length ≤ 1000) : saturateref04_Is.f op (l.length, fun i => l.getD i 0) = some (decide (op ∈ l)) := by
  rw [saturateref04_Is_eq hl]; congr 1; rw [decide_eq_decide]; exact ex_list
theorem saturateref04_Leaf_eq (op : Int) : saturateref04_Leaf.f op = some (decide (op = 1 ∨ op = 2 ∨ op = 24 ∨ op = 25)) := by
  unfold saturateref04_Leaf.f
  have := Is_list (op := op) [1, 2, 24, 25] (by decide)
  simp only [List.length_cons, List.length_nil, Nat.zero_add, Nat.reduceAdd] at this
  rw [this]; simp
theorem saturateref04_Pattern_eq (op : Int) : saturateref04_Pattern.f op = some (decide (op = 24 ∨ op = 25 ∨ op = 26)) := by
  unfold saturateref04_Pattern.f
  have := Is_list (op := op) [24, 25, 26] (by decide)
  simp only [List.length_cons, List.length_nil, Nat.zero_add, Nat.reduceAdd] at this
  rw [this]; simp
theorem opinfo_Pattern_eq (op : Int) : opinfo_Pattern.f op = some (decide (op = 24 ∨ op = 25 ∨ op = 26)) := by
  unfold opinfo_Pattern.f
  by_cases h : op ≥ 24
  · rw [bifd_pos h]; congr 1; rw [decide_eq_decide]; omega
  · rw [bifd_neg h]; congr 1; symm; rw [decide_eq_false_iff_not]; omega
theorem saturateref04_Arity_eq (op : Int) : saturateref04_Arity.f op = some (arity op) := by
  unfold saturateref04_Arity.f
  by_cases h1 : op < 1
  · rw [bifd_pos h1, arity_out (.inl h1)]
  · rw [bifd_neg h1]
    by_cases h2 : op > 26
    · rw [bifd_pos h2, arity_out (.inr h2)]
    · rw [bifd_neg h2, saturateref04_Leaf_eq]
      have := Is_list (op := op) [3, 4, 21, 22, 23, 26] (by decide)
      simp only [List.length_cons, List.length_nil, Nat.zero_add, Nat.reduceAdd] at this
      rw [this]; simp only [Option.bind_some]
      rcases ops (op := op) (by omega) (by omega) with rfl | rfl | rfl | rfl | rfl | rfl | rfl | rfl | rfl | rfl | rfl | rfl | rfl | rfl | rfl | rfl | rfl | rfl | rfl | rfl | rfl | rfl | rfl | rfl | rfl | rfl <;> rfl
theorem saturateref04_Width_end (fu k : Nat) {op w : Int} {x : Nat} (hx : x < 18446744073709551616) {n : Nat} {g : Nat → Int} (h1 : 1 ≤ op) (h2 : op ≤ 26) (ha : (n : Int) = arity op) (hall : allIn n g) :
    saturateref04_Width.j4 fu (k + 1) op w x n (n : Int) (n : Int) n g = some (widthT op w x g) := by
  have A : (0 : Int) < n → 0 ≤ g 0 ∧ g 0 ≤ 64 := fun h => ins_iff.1 (hall 0 (by omega))
  have B : (1 : Int) < n → 0 ≤ g 1 ∧ g 1 ≤ 64 := fun h => ins_iff.1 (hall 1 (by omega))
  clear hall
  rw [saturateref04_Width.j4_succ, bifd_neg (Int.lt_irrefl _), saturateref04_Leaf_eq, Option.bind_some]
  generalize (n : Int) = N at *
  rcases widthT_cases h1 h2 N ha with ⟨ho, rfl⟩ | ⟨ho, rfl⟩ | ⟨ho, rfl⟩ | ⟨rfl, rfl⟩ | ⟨rfl, rfl⟩ | ⟨ho, rfl⟩ | ⟨ho, rfl⟩
  · have e : widthT op w x g = leafS op w x := if_pos ho
    rw [e]
    rcases ho with rfl | rfl | rfl | rfl <;> (simp only [Int.reduceBEq, Int.reduceEq, or_true, true_or, decide_true, cond_true, cond_false, saturateref04_leaf_eq _ w hx, Option.bind_some]; done)
  · rcases ho with rfl | rfl | rfl <;> (simp only [Int.reduceBEq, Int.reduceEq, or_self, decide_false, cond_true, cond_false, Int.reduceLT, decide_true, widthT, or_true, true_or, or_false, false_or, if_true, if_false]; done)
  · have hA := A (by omega)
    rcases ho with rfl | rfl | rfl <;> (simp only [Int.reduceBEq, Int.reduceEq, or_self, decide_false, cond_true, cond_false, Int.reduceLT, decide_true, widthT, or_true, true_or, or_false, false_or, if_true, if_false, saturateref04_parts_eq _ w hA.2, Option.bind_some]; done)
  · simp only [Int.reduceBEq, Int.reduceEq, or_self, decide_false, cond_true, cond_false, Int.reduceLT, decide_true, widthT, or_true, true_or, or_false, false_or, if_true, if_false, Option.bind_some, bv, bne_iff_ne, beq_iff_eq]
    by_cases k1 : g 0 = 1 <;> by_cases k2 : g 1 = g 2 <;> simp [k1, k2]
  · have hA := A (by omega)
    have hB := B (by omega)
    have hw : IntKind.i64.wrap (g 0 + g 1) = g 0 + g 1 := by rw [wrapi, wrapi_of (by omega) (by omega)]
    simp only [Int.reduceBEq, Int.reduceEq, or_self, decide_false, cond_true, cond_false, Int.reduceLT, decide_true, widthT, or_true, true_or, or_false, false_or, if_true, if_false, Option.bind_some, bv, decide_eq_true_eq, beq_iff_eq, hw]
    simp only [Bool.false_eq_true, if_false]
    by_cases k1 : g 0 < 1 <;> by_cases k2 : g 1 < 1 <;> by_cases k3 : g 0 + g 1 > 64 <;>
      first
      | rw [if_pos k1, if_neg (by omega)]
      | rw [if_neg k1, if_pos k2, if_neg (by omega)]
      | rw [if_neg k1, if_neg k2, if_pos k3, if_neg (by omega)]
      | rw [if_neg k1, if_neg k2, if_neg k3, if_pos (by omega)]
  · rcases ho with rfl | rfl | rfl <;>
      (simp only [Int.reduceBEq, Int.reduceEq, or_self, decide_false, cond_true, cond_false, Int.reduceLT, decide_true, widthT, or_true, true_or, or_false, false_or, if_true, if_false, Option.bind_some, bv, bne_iff_ne, beq_iff_eq]
       by_cases k1 : g 0 = g 1 <;> simp [k1])
  · rcases ho with rfl | rfl | rfl | rfl | rfl | rfl | rfl | rfl | rfl | rfl | rfl <;>
      (simp only [Int.reduceBEq, Int.reduceEq, or_self, decide_false, cond_true, cond_false, Int.reduceLT, decide_true, widthT, or_true, true_or, or_false, false_or, if_true, if_false, Option.bind_some, bv, bne_iff_ne, beq_iff_eq]
       by_cases k1 : g 0 = g 1 <;> simp [k1])
open Classical in
theorem saturateref04_Width_loop (fu : Nat) {op w : Int} {x : Nat} (hx : x < 18446744073709551616) {n : Nat} {g : Nat → Int} (hl : n ≤ 1000) (h1 : 1 ≤ op) (h2 : op ≤ 26) (ha : (n : Int) = arity op) (d : Nat) : ∀ k i, i + d = n → d < k → allIn i g →
    saturateref04_Width.j4 fu k op w x n (n : Int) (i : Int) n g = some (widthS op w x n g) := by
  have hS : widthS op w x n g = if allIn n g then widthT op w x g else (0, 3) := by unfold widthS; rw [if_neg (by omega)]
  induction d with
  | zero =>
    intro k i hi hk ht
    obtain ⟨k, rfl⟩ : ∃ m, k = m + 1 := ⟨k - 1, by omega⟩
    obtain rfl : i = n := by omega
    rw [saturateref04_Width_end fu k hx h1 h2 ha ht, hS, if_pos ht]
  | succ d ih =>
    intro k i hi hk ht
    obtain ⟨k, rfl⟩ : ∃ m, k = m + 1 := ⟨k - 1, by omega⟩
    rw [saturateref04_Width.j4_succ, bifd_pos (by omega), bifd_pos (by omega), bifd_pos (by omega), saturateref04_width_eq, Option.bind_some, wrapi, wrapi_succ (by omega), Int.toNat_natCast]
    cases hb : ins (g i) with
    | true =>
      rw [Bool.not_true, cond_false]
      exact ih k (i + 1) (by omega) (by omega) fun j hj => by
        rcases Nat.lt_or_ge j i with h | h
        · exact ht j h
        · obtain rfl : j = i := by omega
          exact hb
    | false =>
      rw [Bool.not_false, cond_true]
      rw [hS, if_neg (fun h => by rw [h i (by omega)] at hb; cases hb)]
theorem saturateref04_Width_eq {op w : Int} {x : Nat} (hx : x < 18446744073709551616) (n : Nat) (g : Nat → Int) : saturateref04_Width.f op w x (n, g) = some (widthS op w x n g) := by
  unfold saturateref04_Width.f saturateref04_Width.g
  rw [saturateref04_Arity_eq]; simp only [Option.bind_some]
  by_cases h : 1 ≤ op ∧ op ≤ 26
  · have h3 := arity_in h.1 h.2
    rw [bifd_neg (by omega)]
    by_cases ha : (n : Int) = arity op
    · rw [show ((n : Int) != arity op) = false by simp [ha]]
      simp only [cond_false]
      have hk : n < fuel0 + 1 := by unfold fuel0; omega
      have := saturateref04_Width_loop (fuel0 + 1) (w := w) hx (g := g) (by omega) h.1 h.2 ha n (fuel0 + 1) 0 (by omega) hk (fun i hi => absurd hi (Nat.not_lt_zero _))
      rw [show ((0 : Nat) : Int) = 0 from rfl] at this
      exact this
    · have hb : ((n : Int) != arity op) = true := bne_iff_ne.2 ha
      rw [hb, cond_true]
      unfold widthS
      rw [if_pos (.inr (.inr ha))]
  · rw [bifd_pos (by rw [arity_out (by omega)]; decide)]
    unfold widthS
    rw [if_pos (by omega)]
end Go.Proofs.YtcihbcffokjgjaaGreat.Fn
