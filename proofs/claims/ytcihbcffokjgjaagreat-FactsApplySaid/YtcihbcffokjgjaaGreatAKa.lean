/- What the elements of the known bits are, in the program and in the reference: the same. -/
import Derived.Test.YtcihbcffokjgjaaGreatAF2
import Derived.Test.YtcihbcffokjgjaaGreatAF6
import Derived.Test.YtcihbcffokjgjaaGreatAF7
import Derived.Test.YtcihbcffokjgjaaGreatAF8
import Derived.Test.YtcihbcffokjgjaaGreatAF9
import Derived.Test.YtcihbcffokjgjaaGreatATk
import Derived.Test.YtcihbcffokjgjaaGreatATp
namespace Go.Proofs.YtcihbcffokjgjaaGreat.Fn
open Go Go.RowKit Go.Proofs.YtcihbcffokjgjaaGreat.Ev Go.Proofs.YtcihbcffokjgjaaGreat.Bv
set_option linter.unusedVariables false
set_option linter.unusedSimpArgs false

theorem testBit_mask (w i : Nat) : (vmask w).testBit i = decide (i < w) := Nat.testBit_two_pow_sub_one w i
theorem testBit_comp {M : Nat} (hM : M < U64) (i : Nat) : (18446744073709551615 - M).testBit i = (decide (i < 64) && !M.testBit i) := by
  have := testBit_vnot 64 M i
  rw [← this]; unfold vnot; rw [p64, Nat.mod_eq_of_lt hM]
theorem le_mask_of {x w : Nat} (h : x < 2 ^ w) : x ≤ vmask w := by unfold vmask; omega
theorem lt_of_le_mask {x w : Nat} (h : x ≤ vmask w) : x < 2 ^ w := by have := pw_pos w; unfold vmask at h; omega
/-- Bits above the width are off just when the number fits. -/
theorem fits {w x : Nat} (hw : w ≤ 64) (hx : x < U64) : x &&& (18446744073709551615 - vmask w) = 0 ↔ x ≤ vmask w := by
  constructor
  · intro h
    apply le_mask_of
    apply Nat.lt_pow_two_of_testBit
    intro i hi
    have := bit_of h i
    rw [Nat.testBit_and, testBit_comp (vmask_lt hw), testBit_mask, Nat.zero_testBit] at this
    by_cases h64 : i < 64
    · simpa [h64, show ¬ i < w by omega] using this
    · exact testBit_ge (lt_pw hx) (by omega)
  · intro h
    refine bits_ext fun i => ?_
    rw [Nat.testBit_and, testBit_comp (vmask_lt hw), testBit_mask, Nat.zero_testBit]
    by_cases hi : i < w
    · simp [hi]
    · rw [testBit_ge (lt_of_le_mask h) (by omega)]; rfl
theorem or_le_mask {w x y : Nat} : x ||| y ≤ vmask w ↔ x ≤ vmask w ∧ y ≤ vmask w := by
  constructor
  · intro h
    have h1 : x ≤ x ||| y := Nat.left_le_or
    have h2 : y ≤ x ||| y := Nat.right_le_or
    omega
  · intro h
    exact le_mask_of (Nat.or_lt_two_pow (lt_of_le_mask h.1) (lt_of_le_mask h.2))
theorem kok_iff {w z o : Nat} (hw : w ≤ 64) (hz : z < U64) (ho : o < U64) : kok (vmask w) z o ↔ z &&& o = 0 ∧ z ≤ vmask w ∧ o ≤ vmask w := by
  unfold kok
  rw [fits hw (or_lt hz ho), or_le_mask]
theorem saturateref12_Valid_eq (a : Int) {z o : Nat} (hz : z < U64) (ho : o < U64) : saturateref12_Valid.f a ((z : Int), (o : Int)) = some (decide (kok (MK a) z o)) := by
  unfold saturateref12_Valid.f
  simp only
  rw [and64 hz ho, saturateref01_Mask_eq, cast0]
  have h := kok_iff (W_le a) hz ho
  simp only [Option.bind_some, Int.ofNat_le]
  by_cases h1 : z &&& o = 0
  · rw [bifd_pos h1]
    by_cases h2 : z ≤ vmask (W a)
    · rw [bifd_pos h2]; congr 1; rw [decide_eq_decide, h]
      exact ⟨fun q => ⟨h1, h2, q⟩, fun q => q.2.2⟩
    · rw [bifd_neg h2]; congr 1; symm; rw [decide_eq_false_iff_not, h]; exact fun q => h2 q.2.1
  · rw [bifd_neg h1]; congr 1; symm; rw [decide_eq_false_iff_not, h]; exact fun q => h1 q.1
theorem saturateref12_Of_eq (a : Int) {z o : Nat} (hz : z < U64) (ho : o < U64) : saturateref12_Of.f a ((z : Int), (o : Int)) = some (((kof (MK a) z o).1 : Int), ((kof (MK a) z o).2 : Int)) := by
  unfold saturateref12_Of.f saturateref12_Top.f
  simp only
  rw [saturateref12_Valid_eq a hz ho, Option.bind_some]
  unfold kof
  by_cases h : kok (MK a) z o
  · rw [bifd_pos h, if_pos h]
  · rw [bifd_neg h, if_neg h]; rfl
theorem bits_Not_eq (a : Int) {x : Nat} (hx : x < U64) : bits_Not.f a x = some (vnot (W a) x : Int) := by
  unfold bits_Not.f
  rw [show (18446744073709551615 : Int) = ((18446744073709551615 : Nat) : Int) from rfl, xor64 (by decide) hx, bits_Cut_eq a (by rw [← p64]; exact Nat.xor_lt_two_pow (by decide) (lt_pw hx)), Option.bind_some, not_cut (W_le a)]
/-- The element of one value. -/
def kcst (w x : Nat) : Nat × Nat := (vmask w - vcut w x, vcut w x)
theorem known_Const_eq (a : Int) {x : Nat} (hx : x < U64) : known_Const.f a x = some (((kcst (W a) x).1 : Int), ((kcst (W a) x).2 : Int)) := by
  unfold known_Const.f
  rw [bits_Cut_eq a hx, Option.bind_some, bits_Not_eq a (vcut_lt x (W_le a)), Option.bind_some]
  unfold kcst vnot vmask vcut; rw [Nat.mod_mod]
theorem saturateref12_Const_eq (a : Int) {x : Nat} (hx : x < U64) : saturateref12_Const.f a x = some (((kcst (W a) x).1 : Int), ((kcst (W a) x).2 : Int)) := by
  unfold saturateref12_Const.f
  have hc : vcut (W a) x ≤ vmask (W a) := le_mask_of (Nat.mod_lt _ (pw_pos _))
  rw [saturateref01_Cut_eq a hx, Option.bind_some, saturateref01_Mask_eq, Option.bind_some, wrapu_sub_le (vmask_lt (W_le a)) hc]
  rfl
theorem kcst_lt (w x : Nat) (hw : w ≤ 64) : (kcst w x).1 < U64 ∧ (kcst w x).2 < U64 := by
  have := vmask_lt hw
  have := vcut_lt x hw
  unfold kcst U64; simp only; omega
theorem kcst_bit1 (w x i : Nat) : (kcst w x).1.testBit i = (decide (i < w) && !x.testBit i) := by
  rw [← testBit_vnot]; rfl
theorem kcst_bit2 (w x i : Nat) : (kcst w x).2.testBit i = (decide (i < w) && x.testBit i) := by
  unfold kcst vcut; rw [Nat.testBit_mod_two_pow]
theorem kcst_ok (a : Int) (x : Nat) : kok (MK a) (kcst (W a) x).1 (kcst (W a) x).2 := by
  obtain ⟨h1, h2⟩ := kcst_lt (W a) x (W_le a)
  rw [kok_iff (W_le a) h1 h2]
  have hc : vcut (W a) x ≤ vmask (W a) := le_mask_of (Nat.mod_lt _ (pw_pos _))
  refine ⟨bits_ext fun i => ?_, Nat.sub_le _ _, hc⟩
  rw [Nat.testBit_and, kcst_bit1, kcst_bit2, Nat.zero_testBit]
  cases decide (i < W a) <;> cases x.testBit i <;> rfl
/-- The value x is one of the element's. -/
def khas (k : Nat × Nat) (x : Nat) : Prop := x &&& k.1 = 0 ∧ x &&& k.2 = k.2
instance (k : Nat × Nat) (x : Nat) : Decidable (khas k x) := inferInstanceAs (Decidable (_ ∧ _))
/-- The bits that are not known. -/
def kunk (w : Nat) (k : Nat × Nat) : Nat := vmask w &&& (18446744073709551615 - (k.1 ||| k.2))
theorem kunk_bit {w : Nat} {k : Nat × Nat} (h1 : k.1 < U64) (h2 : k.2 < U64) (hw : w ≤ 64) (i : Nat) : (kunk w k).testBit i = (decide (i < w) && !(k.1.testBit i || k.2.testBit i)) := by
  unfold kunk
  rw [Nat.testBit_and, testBit_mask, testBit_comp (or_lt h1 h2), Nat.testBit_or]
  by_cases h : i < w
  · simp [h, show i < 64 by omega]
  · simp [h]
theorem kunk_lt {w : Nat} (k : Nat × Nat) (hw : w ≤ 64) : kunk w k < U64 := Nat.lt_of_le_of_lt Nat.and_le_left (vmask_lt hw)
theorem known_unknown_eq (a : Int) {k : Nat × Nat} (h1 : k.1 < U64) (h2 : k.2 < U64) : known_unknown.f a ((k.1 : Int), (k.2 : Int)) = some (kunk (W a) k : Int) := by
  unfold known_unknown.f
  simp only
  rw [bits_Mask_eq, Option.bind_some, or64 h1 h2, andNot64 (vmask_lt (W_le a)) (or_lt h1 h2)]; rfl
/-- An element of one value: no bit is unknown. -/
def kone (w : Nat) (k : Nat × Nat) : Prop := kunk w k = 0
instance (w : Nat) (k : Nat × Nat) : Decidable (kone w k) := inferInstanceAs (Decidable (_ = _))
/-- Just as the reference says it. -/
theorem kone_iff {w : Nat} {k : Nat × Nat} (hw : w ≤ 64) (h1 : k.1 < U64) (h2 : k.2 < U64) (hk : kok (vmask w) k.1 k.2) : kone w k ↔ (k.1 + k.2) % U64 = vmask w := by
  rw [kok_iff hw h1 h2] at hk
  obtain ⟨e, l1, l2⟩ := hk
  have hs := add_disjoint k.1 k.2 e
  have hl := or_le_mask.2 ⟨l1, l2⟩
  rw [hs, Nat.mod_eq_of_lt (or_lt h1 h2)]
  unfold kone
  constructor
  · intro h
    refine bits_ext fun i => ?_
    have := bit_of h i
    rw [kunk_bit h1 h2 hw, Nat.zero_testBit] at this
    rw [testBit_mask, Nat.testBit_or]
    by_cases hi : i < w
    · revert this; rw [decide_eq_true hi]; cases k.1.testBit i <;> cases k.2.testBit i <;> decide
    · rw [testBit_ge (lt_of_le_mask l1) (by omega), testBit_ge (lt_of_le_mask l2) (by omega)]; simp [hi]
  · intro h
    refine bits_ext fun i => ?_
    rw [kunk_bit h1 h2 hw, Nat.zero_testBit, ← Nat.testBit_or, h, testBit_mask]
    cases decide (i < w) <;> rfl
theorem known_Single_eq (a : Int) {z o : Nat} (hz : z < U64) (ho : o < U64) : known_Single.f a ((z : Int), (o : Int)) = some (if kone (W a) (kof (MK a) z o) then (((kof (MK a) z o).2 : Int), true) else (0, false)) := by
  unfold known_Single.f
  simp only
  rw [known_of_eq a hz ho, Option.bind_some]
  simp only
  rw [known_unknown_eq a (kof_lt hz ho).1 (kof_lt hz ho).2, Option.bind_some, cast0n]
  by_cases h : kone (W a) (kof (MK a) z o)
  · rw [if_pos h, decide_eq_true (show kunk _ _ = 0 from h)]; rfl
  · rw [if_neg h, decide_eq_false (show ¬ kunk _ _ = 0 from h)]; rfl
theorem saturateref12_Single_eq (a : Int) {z o : Nat} (hz : z < U64) (ho : o < U64) : saturateref12_Single.f a ((z : Int), (o : Int)) = some (if kone (W a) (kof (MK a) z o) then (((kof (MK a) z o).2 : Int), true) else (0, false)) := by
  unfold saturateref12_Single.f
  simp only
  rw [saturateref12_Of_eq a hz ho, Option.bind_some, saturateref01_Mask_eq, Option.bind_some, wrapu_add]
  have h := kone_iff (W_le a) (kof_lt (M := MK a) hz ho).1 (kof_lt (M := MK a) hz ho).2 (kof_kok _ _ _)
  unfold bne
  rw [castb]
  by_cases q : kone (W a) (kof (MK a) z o)
  · rw [if_pos q, decide_eq_true (show (_ + _) % 18446744073709551616 = _ from h.1 q)]; rfl
  · rw [if_neg q, decide_eq_false (show ¬ (_ + _) % 18446744073709551616 = _ from fun e => q (h.2 e))]; rfl
theorem saturateref12_Meet_eq (a : Int) {z o z' o' : Nat} (hz : z < U64) (ho : o < U64) (hz' : z' < U64) (ho' : o' < U64) :
    saturateref12_Meet.f a ((z : Int), (o : Int)) ((z' : Int), (o' : Int)) = some (if kdis (kof (MK a) z o) (kof (MK a) z' o') then (((((kof (MK a) z o).1 ||| (kof (MK a) z' o').1 : Nat) : Int), (((kof (MK a) z o).2 ||| (kof (MK a) z' o').2 : Nat) : Int)), true) else ((0, 0), false)) := by
  unfold saturateref12_Meet.f saturateref12_Top.f
  simp only
  rw [saturateref12_Of_eq a hz ho, saturateref12_Of_eq a hz' ho', Option.bind_some, Option.bind_some]
  simp only
  have l1 := kof_lt (M := MK a) hz ho
  have l2 := kof_lt (M := MK a) hz' ho'
  rw [or64 l1.1 l2.1, or64 l1.2 l2.2, and64 (or_lt l1.1 l2.1) (or_lt l1.2 l2.2), cast0n]
  by_cases h : kdis (kof (MK a) z o) (kof (MK a) z' o')
  · rw [decide_eq_true (show ((kof (MK a) z o).1 ||| (kof (MK a) z' o').1) &&& ((kof (MK a) z o).2 ||| (kof (MK a) z' o').2) = 0 from h), if_pos h]; rfl
  · rw [decide_eq_false (show ¬ ((kof (MK a) z o).1 ||| (kof (MK a) z' o').1) &&& ((kof (MK a) z o).2 ||| (kof (MK a) z' o').2) = 0 from h), if_neg h]; rfl
theorem saturateref12_Join_eq (a : Int) {z o z' o' : Nat} (hz : z < U64) (ho : o < U64) (hz' : z' < U64) (ho' : o' < U64) :
    saturateref12_Join.f a ((z : Int), (o : Int)) ((z' : Int), (o' : Int)) = some ((((kof (MK a) z o).1 &&& (kof (MK a) z' o').1 : Nat) : Int), (((kof (MK a) z o).2 &&& (kof (MK a) z' o').2 : Nat) : Int)) := by
  unfold saturateref12_Join.f
  simp only
  rw [saturateref12_Of_eq a hz ho, saturateref12_Of_eq a hz' ho', Option.bind_some, Option.bind_some]
  have l1 := kof_lt (M := MK a) hz ho
  have l2 := kof_lt (M := MK a) hz' ho'
  rw [and64 l1.1 l2.1, and64 l1.2 l2.2]
end Go.Proofs.YtcihbcffokjgjaaGreat.Fn
