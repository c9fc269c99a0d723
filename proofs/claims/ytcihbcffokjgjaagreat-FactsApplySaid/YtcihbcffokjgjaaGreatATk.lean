/- What the functions of the known bits return, in plain words: pairs of numbers, bit by bit. -/
import Derived.Test.YtcihbcffokjgjaaGreatAF1
import Derived.Test.YtcihbcffokjgjaaGreatAF2
import Derived.Test.YtcihbcffokjgjaaGreatAF5
import Derived.Test.YtcihbcffokjgjaaGreatATb
namespace Go.Proofs.YtcihbcffokjgjaaGreat.Fn
open Go Go.RowKit Go.Proofs.YtcihbcffokjgjaaGreat.Ev Go.Proofs.YtcihbcffokjgjaaGreat.Bv
set_option linter.unusedVariables false
set_option linter.unusedSimpArgs false

abbrev U64 : Nat := 18446744073709551616
/-- Is the pair an element, for the mask M? -/
def kok (M z o : Nat) : Prop := z &&& o = 0 ∧ (z ||| o) &&& (18446744073709551615 - M) = 0
instance (M z o : Nat) : Decidable (kok M z o) := inferInstanceAs (Decidable (_ ∧ _))
def kof (M z o : Nat) : Nat × Nat := if kok M z o then (z, o) else (0, 0)
theorem kok_zero (M : Nat) : kok M 0 0 := by unfold kok; simp
theorem kof_kok (M z o : Nat) : kok M (kof M z o).1 (kof M z o).2 := by
  unfold kof; split
  · assumption
  · exact kok_zero M
theorem kof_of {M z o : Nat} (h : kok M z o) : kof M z o = (z, o) := if_pos h
theorem kof_lt {M z o : Nat} (hz : z < U64) (ho : o < U64) : (kof M z o).1 < U64 ∧ (kof M z o).2 < U64 := by
  unfold kof; split
  · exact ⟨hz, ho⟩
  · exact ⟨by decide, by decide⟩
theorem or_lt {a b : Nat} (ha : a < U64) (hb : b < U64) : a ||| b < U64 := by rw [show U64 = 2 ^ 64 from rfl]; exact Nat.or_lt_two_pow ha hb
theorem and_lt {a b : Nat} (hb : b < U64) : a &&& b < U64 := by rw [show U64 = 2 ^ 64 from rfl]; exact Nat.and_lt_two_pow _ hb
abbrev MK (a : Int) : Nat := vmask (W a)
theorem MK_lt (a : Int) : MK a < U64 := vmask_lt (W_le a)

theorem cast0 (n : Nat) : ((n : Int) == 0) = decide (n = 0) := by
  by_cases h : n = 0
  · subst h; rfl
  · rw [decide_eq_false h]; simpa using h
theorem cast0n (n : Nat) : ((n : Int) != 0) = !decide (n = 0) := by unfold bne; rw [cast0]
theorem castb (m n : Nat) : ((m : Int) == (n : Int)) = decide (m = n) := beq_nat m n

theorem known_Valid_eq (a : Int) {z o : Nat} (hz : z < U64) (ho : o < U64) : known_Valid.f a ((z : Int), (o : Int)) = some (decide (kok (MK a) z o)) := by
  unfold known_Valid.f
  simp only
  rw [and64 hz ho, or64 hz ho, bits_Mask_eq, cast0]
  by_cases h : z &&& o = 0
  · rw [bifd_pos h, Option.bind_some, andNot64 (or_lt hz ho) (MK_lt a), cast0]
    congr 1; rw [decide_eq_decide]; unfold kok MK
    exact ⟨fun q => ⟨h, q⟩, fun q => q.2⟩
  · rw [bifd_neg h]
    congr 1; symm; rw [decide_eq_false_iff_not]
    exact fun q => h q.1
theorem known_of_eq (a : Int) {z o : Nat} (hz : z < U64) (ho : o < U64) : known_of.f a ((z : Int), (o : Int)) = some (((kof (MK a) z o).1 : Int), ((kof (MK a) z o).2 : Int)) := by
  unfold known_of.f
  simp only
  rw [known_Valid_eq a hz ho, Option.bind_some]
  unfold kof
  by_cases h : kok (MK a) z o
  · rw [bifd_pos h, if_pos h]
  · rw [bifd_neg h, if_neg h]; rfl
def kdis (x y : Nat × Nat) : Prop := (x.1 ||| y.1) &&& (x.2 ||| y.2) = 0
instance (x y : Nat × Nat) : Decidable (kdis x y) := inferInstanceAs (Decidable (_ = _))
theorem known_Meet_eq (a : Int) {z o z' o' : Nat} (hz : z < U64) (ho : o < U64) (hz' : z' < U64) (ho' : o' < U64) :
    known_Meet.f a ((z : Int), (o : Int)) ((z' : Int), (o' : Int)) = some (if kdis (kof (MK a) z o) (kof (MK a) z' o') then (((((kof (MK a) z o).1 ||| (kof (MK a) z' o').1 : Nat) : Int), (((kof (MK a) z o).2 ||| (kof (MK a) z' o').2 : Nat) : Int)), true) else ((0, 0), false)) := by
  unfold known_Meet.f
  simp only
  rw [known_of_eq a hz ho, known_of_eq a hz' ho', Option.bind_some, Option.bind_some]
  simp only
  have l1 := kof_lt (M := MK a) hz ho
  have l2 := kof_lt (M := MK a) hz' ho'
  rw [or64 l1.1 l2.1, or64 l1.2 l2.2, and64 (or_lt l1.1 l2.1) (or_lt l1.2 l2.2), cast0n]
  by_cases h : kdis (kof (MK a) z o) (kof (MK a) z' o')
  · rw [decide_eq_true (show ((kof (MK a) z o).1 ||| (kof (MK a) z' o').1) &&& ((kof (MK a) z o).2 ||| (kof (MK a) z' o').2) = 0 from h), if_pos h]; rfl
  · rw [decide_eq_false (show ¬ ((kof (MK a) z o).1 ||| (kof (MK a) z' o').1) &&& ((kof (MK a) z o).2 ||| (kof (MK a) z' o').2) = 0 from h), if_neg h]; rfl
theorem known_Join_eq (a : Int) {z o z' o' : Nat} (hz : z < U64) (ho : o < U64) (hz' : z' < U64) (ho' : o' < U64) :
    known_Join.f a ((z : Int), (o : Int)) ((z' : Int), (o' : Int)) = some ((((kof (MK a) z o).1 &&& (kof (MK a) z' o').1 : Nat) : Int), (((kof (MK a) z o).2 &&& (kof (MK a) z' o').2 : Nat) : Int)) := by
  unfold known_Join.f
  simp only
  rw [known_of_eq a hz ho, known_of_eq a hz' ho', Option.bind_some, Option.bind_some]
  have l1 := kof_lt (M := MK a) hz ho
  have l2 := kof_lt (M := MK a) hz' ho'
  rw [and64 l1.1 l2.1, and64 l1.2 l2.2]

/-! ### bit by bit -/
theorem bits_ext {a b : Nat} (h : ∀ i, a.testBit i = b.testBit i) : a = b := Nat.eq_of_testBit_eq h
theorem bit_of {a b : Nat} (h : a = b) (i : Nat) : a.testBit i = b.testBit i := by rw [h]
theorem kok_or {M : Nat} {x y : Nat × Nat} (hx : kok M x.1 x.2) (hy : kok M y.1 y.2) (hd : kdis x y) : kok M (x.1 ||| y.1) (x.2 ||| y.2) := by
  refine ⟨hd, bits_ext fun i => ?_⟩
  have h1 := bit_of hx.2 i
  have h2 := bit_of hy.2 i
  simp only [Nat.testBit_and, Nat.testBit_or, Nat.zero_testBit] at h1 h2 ⊢
  revert h1 h2
  cases x.1.testBit i <;> cases x.2.testBit i <;> cases y.1.testBit i <;> cases y.2.testBit i <;> cases (18446744073709551615 - M).testBit i <;> decide
end Go.Proofs.YtcihbcffokjgjaaGreat.Fn
