/- The operators of terms as plain functions: their number of operands, and the width of their value (the specification that both texts meet). No program and no memory. -/
import Derived.Test.YtpdnbcablofgiaaBv
namespace Go.Proofs.Ytpdnbcablofgiaa.Op
open Go Go.RowKit Go.Proofs.YtpdnbcablofgiaaW.PrintWords Go.Proofs.Ytpdnbcablofgiaa.Bv
set_option linter.unusedVariables false

def arity (op : Int) : Int :=
  if op = 19 then 3 else if 5 ≤ op ∧ op ≤ 20 then 2
  else if op = 3 ∨ op = 4 ∨ op = 21 ∨ op = 22 ∨ op = 23 ∨ op = 26 then 1
  else if op = 1 ∨ op = 2 ∨ op = 24 ∨ op = 25 then 0 else -1
theorem ops {op : Int} (h1 : 1 ≤ op) (h2 : op ≤ 26) : op = 1 ∨ op = 2 ∨ op = 3 ∨ op = 4 ∨ op = 5 ∨ op = 6 ∨ op = 7 ∨ op = 8 ∨ op = 9 ∨ op = 10 ∨ op = 11 ∨ op = 12 ∨ op = 13 ∨ op = 14 ∨ op = 15 ∨ op = 16 ∨ op = 17 ∨ op = 18 ∨ op = 19 ∨ op = 20 ∨ op = 21 ∨ op = 22 ∨ op = 23 ∨ op = 24 ∨ op = 25 ∨ op = 26 := by omega
theorem arity_out {op : Int} (h : op < 1 ∨ 26 < op) : arity op = -1 := by unfold arity; repeat' split <;> omega
theorem arity_in {op : Int} (h1 : 1 ≤ op) (h2 : op ≤ 26) : 0 ≤ arity op ∧ arity op ≤ 3 := by unfold arity; repeat' split <;> omega
/-- Is a width from 0 to 64? -/
def ins (a : Int) : Bool := decide (0 ≤ a) && decide (a ≤ 64)
theorem ins_iff {a : Int} : ins a = true ↔ 0 ≤ a ∧ a ≤ 64 := by unfold ins; simp
/-- The width of an operator's value, once the operands' number and widths are right: the width and the error. -/
def widthT (op w : Int) (x : Nat) (l : List Int) : Int × Int :=
  let a := rd l 0
  let b := rd l 1
  let c := rd l 2
  if op = 1 ∨ op = 2 ∨ op = 24 ∨ op = 25 then (if ¬ (0 ≤ w ∧ w ≤ 64) ∨ (op = 2 ∧ 0 < w ∧ 2 ^ w.toNat ≤ x) then (0, 3) else (w, 0))
  else if op = 3 ∨ op = 4 ∨ op = 26 then (a, 0)
  else if op = 21 ∨ op = 22 ∨ op = 23 then
    (if w < 1 ∨ w > 64 ∨ a < 1 then (0, 3) else if op = 21 then (if w > a ∨ (x : Int) > a - w then (0, 3) else (w, 0)) else if w < a then (0, 3) else (w, 0))
  else if op = 19 then (if a = 1 ∧ b = c then (b, 0) else (0, 3))
  else if op = 20 then (if 1 ≤ a ∧ 1 ≤ b ∧ a + b ≤ 64 then (a + b, 0) else (0, 3))
  else if op = 16 ∨ op = 17 ∨ op = 18 then (if a = b then (1, 0) else (0, 3))
  else (if a = b then (a, 0) else (0, 3))
/-- The width of an operator's value, or its error. -/
def widthS (op w : Int) (x : Nat) (l : List Int) : Int × Int :=
  if op < 1 ∨ 26 < op ∨ (l.length : Int) ≠ arity op then (0, 4) else if l.all ins = true then widthT op w x l else (0, 3)

theorem rd_nat (l : List Int) (i : Nat) : rd l (i : Int) = l.getD i 0 := rfl
theorem rd_mem {l : List Int} {i : Nat} (h : i < l.length) : rd l (i : Int) ∈ l := by
  rw [rd_nat, List.getD_eq_getElem?_getD, List.getElem?_eq_getElem h]; exact List.getElem_mem h
theorem drop_rd {l : List Int} {i : Nat} (h : i < l.length) : l.drop i = rd l (i : Int) :: l.drop (i + 1) := by
  rw [rd_nat, List.drop_eq_getElem_cons h]; simp [List.getD_eq_getElem?_getD, h]
theorem take_rd {l : List Int} {i : Nat} (h : i < l.length) : l.take (i + 1) = l.take i ++ [rd l (i : Int)] := by
  rw [rd_nat, List.take_succ_eq_append_getElem h]; simp [List.getD_eq_getElem?_getD, h]
theorem pair_eta (p : Int × Int) : (p.1, p.2) = p := rfl
theorem rd1 (a : Int) : rd [a] 0 = a := rfl
theorem rd2a (a b : Int) : rd [a, b] 0 = a := rfl
theorem rd2b (a b : Int) : rd [a, b] 1 = b := rfl
theorem rd3a (a b c : Int) : rd [a, b, c] 0 = a := rfl
theorem rd3b (a b c : Int) : rd [a, b, c] 1 = b := rfl
theorem rd3c (a b c : Int) : rd [a, b, c] 2 = c := rfl
theorem far_shr0 {x : Nat} {w : Int} (hx : x < 18446744073709551616) (h0 : 0 ≤ w) (h1 : w ≤ 64) : (shr .u64 (x : Int) w = 0) ↔ ¬ (2 ^ w.toNat ≤ x) := by
  obtain ⟨n, rfl⟩ := Int.eq_ofNat_of_zero_le h0
  rw [shr64 hx, Int.toNat_natCast, Nat.shiftRight_eq_div_pow]
  have hp := pw_pos n
  constructor
  · intro h h2
    have := Nat.div_pos h2 hp
    omega
  · intro h
    rw [Nat.div_eq_of_lt (by omega)]; rfl
theorem one_shl {w : Int} (h0 : 0 < w) (h1 : w < 64) : shl .u64 1 (IntKind.u64.wrap w) = ((2 ^ w.toNat : Nat) : Int) := by
  obtain ⟨n, rfl⟩ := Int.eq_ofNat_of_zero_le (by omega : 0 ≤ w)
  rw [wrapu_of (by omega), show (1 : Int) = ((1 : Nat) : Int) from rfl, shl64, Nat.one_shiftLeft, Int.toNat_natCast, Nat.mod_eq_of_lt]
  rw [← p64]; exact Nat.pow_lt_pow_right (by decide) (by omega)
end Go.Proofs.Ytpdnbcablofgiaa.Op
