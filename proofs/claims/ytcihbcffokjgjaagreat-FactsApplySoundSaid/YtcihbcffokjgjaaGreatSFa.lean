/- What the elements of the known bits are, in the program and in the reference: the same. What the functions of the ranges return, in plain words, and that the program's and the reference's are the same. Facts: the reduction step of the program and of the reference compute the same; what it keeps. -/
import Derived.Test.YtcihbcffokjgjaaGreatSF2
import Derived.Test.YtcihbcffokjgjaaGreatSF7
import Derived.Test.YtcihbcffokjgjaaGreatSF9
import Derived.Test.YtcihbcffokjgjaaGreatSTp
import Derived.Test.YtcihbcffokjgjaaGreatSF1
import Derived.Test.YtcihbcffokjgjaaGreatSF11
import Derived.Test.YtcihbcffokjgjaaGreatSF3
namespace Go.Proofs.YtcihbcffokjgjaaGreat.Fn
open Go Go.RowKit Go.Proofs.YtcihbcffokjgjaaGreat.Ev Go.Proofs.YtcihbcffokjgjaaGreat.Bv
set_option linter.unusedVariables false
set_option linter.unusedSimpArgs false

theorem testBit_mask (w i : Nat) : (vmask w).testBit i = decide (i < w) := Nat.testBit_two_pow_sub_one w i
theorem testBit_comp {M : Nat} (hM : M < U64) (i : Nat) : (18446744073709551615 - M).testBit i = (decide (i < 64) && !M.testBit i) := by
  have := testBit_vnot 64 M i
  rw [← this]; unfold vnot; rw [p64, Nat.mod_eq_of_lt hM]
theorem le_mask_of {x w : Nat} (h : x < 2 ^ w) : x ≤ vmask w := by unfold vmask; omega
theorem lt_of_le_mask {x w : Nat} (h : x ≤ vmask w) : x < 2 ^ w := by have := pw_pos w; unfold vmask at h; omega
/-- Bits above the width are off just when the number fits. -/
theorem fits {w x : Nat} (hw : w ≤ 64) (hx : x < U64) : x &&& (18446744073709551615 - vmask w) = 0 ↔ x ≤ vmask w := by
  constructor
  · intro h
    apply le_mask_of
    apply Nat.lt_pow_two_of_testBit
    intro i hi
    have := bit_of h i
    rw [Nat.testBit_and, testBit_comp (vmask_lt hw), testBit_mask, Nat.zero_testBit] at this
    by_cases h64 : i < 64
    · simpa [h64, show ¬ i < w by omega] using this
    · exact testBit_ge (lt_pw hx) (by omega)
  · intro h
    refine bits_ext fun i => ?_
    rw [Nat.testBit_and, testBit_comp (vmask_lt hw), testBit_mask, Nat.zero_testBit]
    by_cases hi : i < w
    · simp [hi]
    · rw [testBit_ge (lt_of_le_mask h) (by omega)]; rfl
theorem or_le_mask {w x y : Nat} : x ||| y ≤ vmask w ↔ x ≤ vmask w ∧ y ≤ vmask w := by
  constructor
  · intro h
    have h1 : x ≤ x ||| y := Nat.left_le_or
    have h2 : y ≤ x ||| y := Nat.right_le_or
    omega
  · intro h
    exact le_mask_of (Nat.or_lt_two_pow (lt_of_le_mask h.1) (lt_of_le_mask h.2))
theorem kok_iff {w z o : Nat} (hw : w ≤ 64) (hz : z < U64) (ho : o < U64) : kok (vmask w) z o ↔ z &&& o = 0 ∧ z ≤ vmask w ∧ o ≤ vmask w := by
  unfold kok
  rw [fits hw (or_lt hz ho), or_le_mask]
theorem saturateref12_Valid_eq (a : Int) {z o : Nat} (hz : z < U64) (ho : o < U64) : saturateref12_Valid.f a ((z : Int), (o : Int)) = some (decide (kok (MK a) z o)) := by
  unfold saturateref12_Valid.f
  simp only
  rw [and64 hz ho, saturateref01_Mask_eq, cast0]
  have h := kok_iff (W_le a) hz ho
  simp only [Option.bind_some, Int.ofNat_le]
  by_cases h1 : z &&& o = 0
  · rw [bifd_pos h1]
    by_cases h2 : z ≤ vmask (W a)
    · rw [bifd_pos h2]; congr 1; rw [decide_eq_decide, h]
      exact ⟨fun q => ⟨h1, h2, q⟩, fun q => q.2.2⟩
    · rw [bifd_neg h2]; congr 1; symm; rw [decide_eq_false_iff_not, h]; exact fun q => h2 q.2.1
  · rw [bifd_neg h1]; congr 1; symm; rw [decide_eq_false_iff_not, h]; exact fun q => h1 q.1
theorem saturateref12_Of_eq (a : Int) {z o : Nat} (hz : z < U64) (ho : o < U64) : saturateref12_Of.f a ((z : Int), (o : Int)) = some (((kof (MK a) z o).1 : Int), ((kof (MK a) z o).2 : Int)) := by
  unfold saturateref12_Of.f saturateref12_Top.f
  simp only
  rw [saturateref12_Valid_eq a hz ho, Option.bind_some]
  unfold kof
  by_cases h : kok (MK a) z o
  · rw [bifd_pos h, if_pos h]
  · rw [bifd_neg h, if_neg h]; rfl
theorem bits_Not_eq (a : Int) {x : Nat} (hx : x < U64) : bits_Not.f a x = some (vnot (W a) x : Int) := by
  unfold bits_Not.f
  rw [show (18446744073709551615 : Int) = ((18446744073709551615 : Nat) : Int) from rfl, xor64 (by decide) hx, bits_Cut_eq a (by rw [← p64]; exact Nat.xor_lt_two_pow (by decide) (lt_pw hx)), Option.bind_some, not_cut (W_le a)]
/-- The element of one value. -/
def kcst (w x : Nat) : Nat × Nat := (vmask w - vcut w x, vcut w x)
theorem known_Const_eq (a : Int) {x : Nat} (hx : x < U64) : known_Const.f a x = some (((kcst (W a) x).1 : Int), ((kcst (W a) x).2 : Int)) := by
  unfold known_Const.f
  rw [bits_Cut_eq a hx, Option.bind_some, bits_Not_eq a (vcut_lt x (W_le a)), Option.bind_some]
  unfold kcst vnot vmask vcut; rw [Nat.mod_mod]
theorem kcst_lt (w x : Nat) (hw : w ≤ 64) : (kcst w x).1 < U64 ∧ (kcst w x).2 < U64 := by
  have := vmask_lt hw
  have := vcut_lt x hw
  unfold kcst U64; simp only; omega
theorem kcst_bit1 (w x i : Nat) : (kcst w x).1.testBit i = (decide (i < w) && !x.testBit i) := by
  rw [← testBit_vnot]; rfl
theorem kcst_bit2 (w x i : Nat) : (kcst w x).2.testBit i = (decide (i < w) && x.testBit i) := by
  unfold kcst vcut; rw [Nat.testBit_mod_two_pow]
theorem kcst_ok (a : Int) (x : Nat) : kok (MK a) (kcst (W a) x).1 (kcst (W a) x).2 := by
  obtain ⟨h1, h2⟩ := kcst_lt (W a) x (W_le a)
  rw [kok_iff (W_le a) h1 h2]
  have hc : vcut (W a) x ≤ vmask (W a) := le_mask_of (Nat.mod_lt _ (pw_pos _))
  refine ⟨bits_ext fun i => ?_, Nat.sub_le _ _, hc⟩
  rw [Nat.testBit_and, kcst_bit1, kcst_bit2, Nat.zero_testBit]
  cases decide (i < W a) <;> cases x.testBit i <;> rfl
/-- The value x is one of the element's. -/
def khas (k : Nat × Nat) (x : Nat) : Prop := x &&& k.1 = 0 ∧ x &&& k.2 = k.2
instance (k : Nat × Nat) (x : Nat) : Decidable (khas k x) := inferInstanceAs (Decidable (_ ∧ _))
theorem has_tail {k : Nat × Nat} {x : Nat} (h1 : k.1 < U64) (h2 : k.2 < U64) (hx : x < U64) :
    (bif ((Go.bits .and .u64 (x : Int) (k.1 : Int)) == 0) then some ((Go.bits .and .u64 (x : Int) (k.2 : Int)) == (k.2 : Int)) else some false) = some (decide (khas k x)) := by
  rw [and64 hx h1, and64 hx h2, cast0, castb]
  by_cases h : x &&& k.1 = 0
  · rw [bifd_pos h]; congr 1; rw [decide_eq_decide]; exact ⟨fun q => ⟨h, q⟩, fun q => q.2⟩
  · rw [bifd_neg h]; congr 1; symm; rw [decide_eq_false_iff_not]; exact fun q => h q.1
theorem known_Has_eq (a : Int) {z o x : Nat} (hz : z < U64) (ho : o < U64) (hx : x < U64) : known_Has.f a ((z : Int), (o : Int)) x = some (decide (khas (kof (MK a) z o) (vcut (W a) x))) := by
  unfold known_Has.f
  simp only
  rw [known_of_eq a hz ho, Option.bind_some, bits_Cut_eq a hx, Option.bind_some]
  exact has_tail (kof_lt hz ho).1 (kof_lt hz ho).2 (vcut_lt x (W_le a))
theorem saturateref12_Has_eq (a : Int) {z o x : Nat} (hz : z < U64) (ho : o < U64) (hx : x < U64) : saturateref12_Has.f a ((z : Int), (o : Int)) x = some (decide (khas (kof (MK a) z o) (vcut (W a) x))) := by
  unfold saturateref12_Has.f
  simp only
  rw [saturateref12_Of_eq a hz ho, Option.bind_some, saturateref01_Cut_eq a hx, Option.bind_some]
  exact has_tail (kof_lt hz ho).1 (kof_lt hz ho).2 (vcut_lt x (W_le a))
/-- The bits that are not known. -/
def kunk (w : Nat) (k : Nat × Nat) : Nat := vmask w &&& (18446744073709551615 - (k.1 ||| k.2))
theorem kunk_bit {w : Nat} {k : Nat × Nat} (h1 : k.1 < U64) (h2 : k.2 < U64) (hw : w ≤ 64) (i : Nat) : (kunk w k).testBit i = (decide (i < w) && !(k.1.testBit i || k.2.testBit i)) := by
  unfold kunk
  rw [Nat.testBit_and, testBit_mask, testBit_comp (or_lt h1 h2), Nat.testBit_or]
  by_cases h : i < w
  · simp [h, show i < 64 by omega]
  · simp [h]
theorem kunk_lt {w : Nat} (k : Nat × Nat) (hw : w ≤ 64) : kunk w k < U64 := Nat.lt_of_le_of_lt Nat.and_le_left (vmask_lt hw)
theorem known_unknown_eq (a : Int) {k : Nat × Nat} (h1 : k.1 < U64) (h2 : k.2 < U64) : known_unknown.f a ((k.1 : Int), (k.2 : Int)) = some (kunk (W a) k : Int) := by
  unfold known_unknown.f
  simp only
  rw [bits_Mask_eq, Option.bind_some, or64 h1 h2, andNot64 (vmask_lt (W_le a)) (or_lt h1 h2)]; rfl
/-- An element of one value: no bit is unknown. -/
def kone (w : Nat) (k : Nat × Nat) : Prop := kunk w k = 0
instance (w : Nat) (k : Nat × Nat) : Decidable (kone w k) := inferInstanceAs (Decidable (_ = _))
theorem known_Single_eq (a : Int) {z o : Nat} (hz : z < U64) (ho : o < U64) : known_Single.f a ((z : Int), (o : Int)) = some (if kone (W a) (kof (MK a) z o) then (((kof (MK a) z o).2 : Int), true) else (0, false)) := by
  unfold known_Single.f
  simp only
  rw [known_of_eq a hz ho, Option.bind_some]
  simp only
  rw [known_unknown_eq a (kof_lt hz ho).1 (kof_lt hz ho).2, Option.bind_some, cast0n]
  by_cases h : kone (W a) (kof (MK a) z o)
  · rw [if_pos h, decide_eq_true (show kunk _ _ = 0 from h)]; rfl
  · rw [if_neg h, decide_eq_false (show ¬ kunk _ _ = 0 from h)]; rfl
theorem saturateref12_Meet_eq (a : Int) {z o z' o' : Nat} (hz : z < U64) (ho : o < U64) (hz' : z' < U64) (ho' : o' < U64) :
    saturateref12_Meet.f a ((z : Int), (o : Int)) ((z' : Int), (o' : Int)) = some (if kdis (kof (MK a) z o) (kof (MK a) z' o') then (((((kof (MK a) z o).1 ||| (kof (MK a) z' o').1 : Nat) : Int), (((kof (MK a) z o).2 ||| (kof (MK a) z' o').2 : Nat) : Int)), true) else ((0, 0), false)) := by
  unfold saturateref12_Meet.f saturateref12_Top.f
  simp only
  rw [saturateref12_Of_eq a hz ho, saturateref12_Of_eq a hz' ho', Option.bind_some, Option.bind_some]
  simp only
  have l1 := kof_lt (M := MK a) hz ho
  have l2 := kof_lt (M := MK a) hz' ho'
  rw [or64 l1.1 l2.1, or64 l1.2 l2.2, and64 (or_lt l1.1 l2.1) (or_lt l1.2 l2.2), cast0n]
  by_cases h : kdis (kof (MK a) z o) (kof (MK a) z' o')
  · rw [decide_eq_true (show ((kof (MK a) z o).1 ||| (kof (MK a) z' o').1) &&& ((kof (MK a) z o).2 ||| (kof (MK a) z' o').2) = 0 from h), if_pos h]; rfl
  · rw [decide_eq_false (show ¬ ((kof (MK a) z o).1 ||| (kof (MK a) z' o').1) &&& ((kof (MK a) z o).2 ||| (kof (MK a) z' o').2) = 0 from h), if_neg h]; rfl
end Go.Proofs.YtcihbcffokjgjaaGreat.Fn
namespace Go.Proofs.YtcihbcffokjgjaaGreat.Fn
open Go Go.RowKit Go.Proofs.YtcihbcffokjgjaaGreat.Ev Go.Proofs.YtcihbcffokjgjaaGreat.Bv
set_option linter.unusedVariables false
set_option linter.unusedSimpArgs false

/-! ### the least and the greatest -/
theorem mn_c (a b : Int) : mn a b = a ∨ mn a b = b := by unfold mn; split <;> omega
theorem mx_c (a b : Int) : mx a b = a ∨ mx a b = b := by unfold mx; split <;> omega

/-- The greatest value of a width. -/
def MM (a : Int) : Int := (vmask (W a) : Int)
theorem MM_nn (a : Int) : 0 ≤ MM a := Int.natCast_nonneg _
/-- A range, or all values if it is none. -/
def nrm (M : Int) (r : Int × Int) : Int × Int := if r.1 ≤ r.2 ∧ r.2 ≤ M then r else (0, M)
theorem nrm_of {M : Int} {r : Int × Int} (h1 : r.1 ≤ r.2) (h2 : r.2 ≤ M) : nrm M r = r := if_pos ⟨h1, h2⟩
theorem nrm_ok {M : Int} (hM : 0 ≤ M) {r : Int × Int} (h : 0 ≤ r.1) : 0 ≤ (nrm M r).1 ∧ (nrm M r).1 ≤ (nrm M r).2 ∧ (nrm M r).2 ≤ M := by
  unfold nrm; split
  · rename_i hc; exact ⟨h, hc⟩
  · exact ⟨Int.le_refl _, hM, Int.le_refl _⟩

theorem ranges_Valid_eq (a : Int) (r : Int × Int) : ranges_Valid.f a r = some (decide (r.1 ≤ r.2 ∧ r.2 ≤ MM a)) := by
  unfold ranges_Valid.f; rw [bits_Mask_eq]; simp only [Option.bind_some]
  by_cases h : r.1 ≤ r.2 <;> simp [h, MM]
theorem saturateref13_Valid_eq (a : Int) (r : Int × Int) : saturateref13_Valid.f a r = some (decide (r.1 ≤ r.2 ∧ r.2 ≤ MM a)) := by
  unfold saturateref13_Valid.f; rw [saturateref01_Mask_eq]; simp only [Option.bind_some]
  by_cases h : r.1 ≤ r.2 <;> simp [h, MM]
theorem ranges_Top_eq (a : Int) : ranges_Top.f a = some (0, MM a) := by unfold ranges_Top.f; rw [bits_Mask_eq]; rfl
theorem saturateref13_Top_eq (a : Int) : saturateref13_Top.f a = some (0, MM a) := by unfold saturateref13_Top.f; rw [saturateref01_Mask_eq]; rfl
theorem ranges_norm_eq (a : Int) (r : Int × Int) : ranges_norm.f a r = some (nrm (MM a) r) := by
  unfold ranges_norm.f; rw [ranges_Valid_eq, ranges_Top_eq]; simp only [Option.bind_some]
  unfold nrm
  by_cases h : r.1 ≤ r.2 ∧ r.2 ≤ MM a
  · simp [h]
  · rw [if_neg h]; simp [h]
theorem saturateref13_Of_eq (a : Int) (r : Int × Int) : saturateref13_Of.f a r = some (nrm (MM a) r) := by
  unfold saturateref13_Of.f; rw [saturateref13_Valid_eq, saturateref13_Top_eq]; simp only [Option.bind_some]
  unfold nrm
  by_cases h : r.1 ≤ r.2 ∧ r.2 ≤ MM a
  · simp [h]
  · rw [if_neg h]; simp [h]
theorem ranges_Const_eq (a : Int) {x : Nat} (hx : x < 18446744073709551616) : ranges_Const.f a x = some ((vcut (W a) x : Int), (vcut (W a) x : Int)) := by unfold ranges_Const.f; rw [bits_Cut_eq a hx]; rfl
theorem ranges_Has_eq (a : Int) (r : Int × Int) {x : Nat} (hx : x < 18446744073709551616) : ranges_Has.f a r x = some (decide ((nrm (MM a) r).1 ≤ (vcut (W a) x : Int) ∧ (vcut (W a) x : Int) ≤ (nrm (MM a) r).2)) := by
  unfold ranges_Has.f; rw [ranges_norm_eq, bits_Cut_eq a hx]; simp only [Option.bind_some]
  by_cases h : (nrm (MM a) r).1 ≤ (vcut (W a) x : Int) <;> simp [h]
theorem saturateref13_Has_eq (a : Int) (r : Int × Int) {x : Nat} (hx : x < 18446744073709551616) : saturateref13_Has.f a r x = some (decide ((nrm (MM a) r).1 ≤ (vcut (W a) x : Int) ∧ (vcut (W a) x : Int) ≤ (nrm (MM a) r).2)) := by
  unfold saturateref13_Has.f; rw [saturateref13_Of_eq, saturateref01_Cut_eq a hx]; simp only [Option.bind_some]
  by_cases h : (nrm (MM a) r).1 ≤ (vcut (W a) x : Int) <;> simp [h]
def jn (x y : Int × Int) : Int × Int := (mn x.1 y.1, mx x.2 y.2)
def mtt (x y : Int × Int) : Int × Int := (mx x.1 y.1, mn x.2 y.2)
theorem ranges_Join_eq (a : Int) (r s : Int × Int) : ranges_Join.f a r s = some (jn (nrm (MM a) r) (nrm (MM a) s)) := by
  unfold ranges_Join.f; rw [ranges_norm_eq, ranges_norm_eq]; rfl
theorem ranges_Meet_eq (a : Int) (r s : Int × Int) : ranges_Meet.f a r s = some (if (mtt (nrm (MM a) r) (nrm (MM a) s)).1 > (mtt (nrm (MM a) r) (nrm (MM a) s)).2 then ((0, MM a), false) else (mtt (nrm (MM a) r) (nrm (MM a) s), true)) := by
  unfold ranges_Meet.f; rw [ranges_norm_eq, ranges_norm_eq, ranges_Top_eq]; simp only [Option.bind_some]
  unfold mtt
  by_cases h : mx (nrm (MM a) r).1 (nrm (MM a) s).1 > mn (nrm (MM a) r).2 (nrm (MM a) s).2
  · rw [bifd_pos h, if_pos h]
  · rw [bifd_neg h, if_neg h]
theorem saturateref13_Meet_eq (a : Int) (r s : Int × Int) : saturateref13_Meet.f a r s = some (if (mtt (nrm (MM a) r) (nrm (MM a) s)).1 > (mtt (nrm (MM a) r) (nrm (MM a) s)).2 then ((0, MM a), false) else (mtt (nrm (MM a) r) (nrm (MM a) s), true)) := by
  unfold saturateref13_Meet.f; rw [saturateref13_Of_eq, saturateref13_Of_eq, saturateref13_Top_eq]; simp only [Option.bind_some]
  unfold mtt
  by_cases h : mx (nrm (MM a) r).1 (nrm (MM a) s).1 > mn (nrm (MM a) r).2 (nrm (MM a) s).2
  · rw [bifd_pos h, if_pos h]
  · rw [bifd_neg h, if_neg h]

/-! ### the length of a number -/
def IsLen (x n : Nat) : Prop := x < 2 ^ n ∧ (n = 0 ∨ 2 ^ (n - 1) ≤ x)
def len8 (v : Nat) : Nat := if v = 0 then 0 else v.log2 + 1
theorem isLen_len8 (v : Nat) : IsLen v (len8 v) := by
  unfold len8 IsLen
  split
  · rename_i h; subst h; exact ⟨by decide, .inl rfl⟩
  · rename_i h; exact ⟨Nat.lt_log2_self, .inr (by rw [Nat.add_sub_cancel]; exact Nat.log2_self_le h)⟩
theorem IsLen.shift {x n k : Nat} (h : IsLen (x >>> k) n) (hx : 2 ^ k ≤ x) : IsLen x (n + k) := by
  rw [Nat.shiftRight_eq_div_pow] at h
  obtain ⟨h1, h2⟩ := h
  have hp := Nat.two_pow_pos k
  have hq : 1 ≤ x / 2 ^ k := (Nat.one_le_div_iff hp).2 hx
  refine ⟨?_, .inr ?_⟩
  · rw [Nat.pow_add]; exact (Nat.div_lt_iff_lt_mul hp).1 h1
  · rcases h2 with rfl | h2
    · simp at h1; omega
    · have hn : n ≠ 0 := fun e => by subst e; simp at h1; omega
      rw [show n + k - 1 = (n - 1) + k by omega, Nat.pow_add]
      exact (Nat.le_div_iff_mul_le hp).1 h2
theorem p10_all : ∀ v : Fin 256, bits_Len64.p10 1 0 ((v.val : Nat) : Int) 0 = some ((len8 v.val : Nat) : Int) := by decide +kernel
theorem len_tail (c : Bool) (t : Option UInt8) (n : Int) (r : Int) (h : (bif c then t.bind (fun u => some (IntKind.i64.wrap (0 + IntKind.i64.wrap (u.toNat : Int)))) else none) = some r) :
    (bif c then t.bind (fun u => some (IntKind.i64.wrap (n + IntKind.i64.wrap (u.toNat : Int)))) else none) = some (IntKind.i64.wrap (n + r)) := by
  cases c with
  | false => cases h
  | true =>
    cases t with
    | none => cases h
    | some u =>
      simp only [cond_true, Option.bind_some, Option.some.injEq] at h ⊢
      rw [← h]
      have h1 : u.toNat < 256 := u.toNat_lt
      have h2 : IntKind.i64.wrap (u.toNat : Int) = (u.toNat : Int) := by rw [wrapi, wrapi_of (by omega) (by omega)]
      rw [h2, Int.zero_add, h2]
theorem p10_eq {v : Nat} (hv : v < 256) (m fu : Nat) (n : Int) : bits_Len64.p10 (m + 1) fu (v : Int) n = some (IntKind.i64.wrap (n + (len8 v : Int))) := by
  have h := p10_all ⟨v, hv⟩
  simp only at h
  rw [bits_Len64.p10_eq 0 0] at h
  rw [bits_Len64.p10_eq]
  exact len_tail _ _ n _ h
theorem wrap_small {n : Int} (h1 : 0 ≤ n) (h2 : n < 1000) : IntKind.i64.wrap n = n := by rw [wrapi, wrapi_of (by omega) (by omega)]
theorem len8_le {v : Nat} (hv : v < 256) : len8 v ≤ 8 := by
  unfold len8; split
  · omega
  · rename_i h
    have := Nat.log2_self_le h
    rcases Nat.lt_or_ge v.log2 8 with h8 | h8
    · omega
    · have := Nat.pow_le_pow_right (n := 2) (by decide) h8
      have : (2 : Nat) ^ 8 = 256 := rfl
      omega
theorem p7_len {v : Nat} (hv : v < 65536) (m k n : Nat) (hn : n ≤ 56) : ∃ l, bits_Len64.p7 (m + 1) (k + 1) (v : Int) (n : Int) = some ((n + l : Nat) : Int) ∧ IsLen v l ∧ l ≤ 16 := by
  rw [bits_Len64.p7_eq]
  by_cases h : 256 ≤ v
  · have hs : v >>> 8 < 256 := by rw [Nat.shiftRight_eq_div_pow]; omega
    have h8 := len8_le hs
    rw [bifd_pos (by omega), show (8 : Int) = ((8 : Nat) : Int) from rfl, shr64 (by omega), wrap_small (by omega) (by omega), p10_eq hs, wrap_small (by omega) (by omega)]
    exact ⟨len8 (v >>> 8) + 8, by congr 1; omega, (isLen_len8 _).shift (k := 8) h, by omega⟩
  · have h8 := len8_le (show v < 256 by omega)
    rw [bifd_neg (by omega), p10_eq (by omega), wrap_small (by omega) (by omega)]
    exact ⟨len8 v, by congr 1, isLen_len8 v, by omega⟩
theorem p4_len {v : Nat} (hv : v < 4294967296) (m k n : Nat) (hn : n ≤ 32) : ∃ l, bits_Len64.p4 (m + 1) (k + 1) (v : Int) (n : Int) = some ((n + l : Nat) : Int) ∧ IsLen v l ∧ l ≤ 32 := by
  rw [bits_Len64.p4_eq]
  by_cases h : 65536 ≤ v
  · have hs : v >>> 16 < 65536 := by rw [Nat.shiftRight_eq_div_pow]; omega
    rw [bifd_pos (by omega), show (16 : Int) = ((16 : Nat) : Int) from rfl, shr64 (by omega), wrap_small (by omega) (by omega)]
    obtain ⟨l, h1, h2, h3⟩ := p7_len hs k k (n + 16) (by omega)
    refine ⟨l + 16, ?_, h2.shift (k := 16) h, by omega⟩
    rw [show ((n : Int) + ((16 : Nat) : Int)) = ((n + 16 : Nat) : Int) by omega, h1]
    congr 1; omega
  · rw [bifd_neg (by omega)]
    obtain ⟨l, h1, h2, h3⟩ := p7_len (show v < 65536 by omega) k k n (by omega)
    exact ⟨l, h1, h2, by omega⟩
theorem bits_Len64_eq {x : Nat} (hx : x < 18446744073709551616) : ∃ l : Nat, bits_Len64.f x = some (l : Int) ∧ IsLen x l ∧ l ≤ 64 := by
  unfold bits_Len64.f bits_Len64.g
  by_cases h : 4294967296 ≤ x
  · have hs : x >>> 32 < 4294967296 := by rw [Nat.shiftRight_eq_div_pow]; omega
    rw [bifd_pos (by omega), show (32 : Int) = ((32 : Nat) : Int) from rfl, shr64 hx]
    obtain ⟨l, h1, h2, h3⟩ := p4_len hs fuel0 fuel0 32 (by omega)
    refine ⟨l + 32, ?_, h2.shift (k := 32) h, by omega⟩
    rw [h1]; congr 1; omega
  · rw [bifd_neg (by omega)]
    obtain ⟨l, h1, h2, h3⟩ := p4_len (show x < 4294967296 by omega) fuel0 fuel0 0 (by omega)
    refine ⟨l, ?_, h2, by omega⟩
    have h1' : bits_Len64.p4 (fuel0 + 1) (fuel0 + 1) (x : Int) 0 = some ((0 + l : Nat) : Int) := h1
    rw [h1']; congr 1; omega

/-! ### Fill -/
theorem ranges_Fill_eq {x n : Nat} (hx : x < 18446744073709551616) (hn : IsLen x n) (h64 : n ≤ 64) : ranges_Fill.f x = some (vmask n : Int) := by
  unfold ranges_Fill.f
  by_cases h : x = 0
  · subst h
    have : n = 0 := by
      rcases hn.2 with h | h
      · exact h
      · have := Nat.two_pow_pos (n - 1); omega
    subst this; rfl
  · rw [show ((x : Int) == 0) = false by simpa using h]
    obtain ⟨l, h1, h2, h3⟩ := bits_Len64_eq hx
    have hl : l = n := by
      have aux : ∀ {p q : Nat}, IsLen x p → IsLen x q → p ≤ q := fun {p q} hp hq => by
        rcases Nat.lt_or_ge q p with hlt | hge
        · rcases hp.2 with h0 | h0
          · omega
          · have := Nat.pow_le_pow_right (n := 2) (by decide) (show q ≤ p - 1 by omega)
            have := hq.1
            omega
        · exact hge
      exact Nat.le_antisymm (aux h2 hn) (aux hn h2)
    subst hl
    have hl1 : 1 ≤ l := by
      rcases Nat.eq_zero_or_pos l with h0 | h0
      · subst h0; have := h2.1; simp at this; omega
      · exact h0
    rw [h1]; simp only [cond_false, Option.bind_some]
    rw [bits_Mask_eq, W_of hl1 h3]; rfl
theorem len_ex {x : Nat} (hx : x < 18446744073709551616) : ∃ n, IsLen x n ∧ n ≤ 64 := by
  obtain ⟨l, _, h2, h3⟩ := bits_Len64_eq hx
  exact ⟨l, h2, h3⟩
end Go.Proofs.YtcihbcffokjgjaaGreat.Fn
namespace Go.Proofs.YtcihbcffokjgjaaGreat.Fn
open Go Go.RowKit Go.Proofs.YtcihbcffokjgjaaGreat.Ev Go.Proofs.YtcihbcffokjgjaaGreat.Bv
set_option linter.unusedVariables false
set_option linter.unusedSimpArgs false
set_option maxRecDepth 100000

/-! ### ranges of natural numbers -/
abbrev cp (r : Nat × Nat) : Int × Int := ((r.1 : Int), (r.2 : Int))
def nrmN (M : Nat) (r : Nat × Nat) : Nat × Nat := if r.1 ≤ r.2 ∧ r.2 ≤ M then r else (0, M)
def rok (M : Nat) (r : Nat × Nat) : Prop := r.1 ≤ r.2 ∧ r.2 ≤ M
instance (M : Nat) (r : Nat × Nat) : Decidable (rok M r) := inferInstanceAs (Decidable (_ ∧ _))
theorem nrmN_ok (M : Nat) (r : Nat × Nat) : rok M (nrmN M r) := by
  unfold nrmN; split
  · assumption
  · exact ⟨Nat.zero_le _, Nat.le_refl _⟩
theorem nrmN_of {M : Nat} {r : Nat × Nat} (h : rok M r) : nrmN M r = r := if_pos h
theorem nrm_cp (a : Int) (r : Nat × Nat) : nrm (MM a) (cp r) = cp (nrmN (MK a) r) := by
  unfold nrm nrmN
  by_cases h : r.1 ≤ r.2 ∧ r.2 ≤ MK a
  · rw [if_pos h, if_pos (show (cp r).1 ≤ (cp r).2 ∧ (cp r).2 ≤ MM a from ⟨Int.ofNat_le.2 h.1, Int.ofNat_le.2 h.2⟩)]
  · rw [if_neg h, if_neg (fun q : (cp r).1 ≤ (cp r).2 ∧ (cp r).2 ≤ MM a => h ⟨Int.ofNat_le.1 q.1, Int.ofNat_le.1 q.2⟩)]; rfl
def mttN (x y : Nat × Nat) : Nat × Nat := (max x.1 y.1, min x.2 y.2)
def jnN (x y : Nat × Nat) : Nat × Nat := (min x.1 y.1, max x.2 y.2)
theorem mx_cast (m n : Nat) : mx (m : Int) (n : Int) = ((max m n : Nat) : Int) := by unfold mx; split <;> omega
theorem mn_cast (m n : Nat) : mn (m : Int) (n : Int) = ((min m n : Nat) : Int) := by unfold mn; split <;> omega
theorem mtt_cp (x y : Nat × Nat) : mtt (cp x) (cp y) = cp (mttN x y) := by unfold mtt mttN; rw [mx_cast, mn_cast]
theorem jn_cp (x y : Nat × Nat) : jn (cp x) (cp y) = cp (jnN x y) := by unfold jn jnN; rw [mx_cast, mn_cast]
theorem rMeet_cp (a : Int) (r s : Nat × Nat) : ranges_Meet.f a (cp r) (cp s) = some (if (mttN (nrmN (MK a) r) (nrmN (MK a) s)).2 < (mttN (nrmN (MK a) r) (nrmN (MK a) s)).1 then ((0, MM a), false) else (cp (mttN (nrmN (MK a) r) (nrmN (MK a) s)), true)) := by
  rw [ranges_Meet_eq, nrm_cp, nrm_cp, mtt_cp]
  congr 1
  by_cases h : (mttN (nrmN (MK a) r) (nrmN (MK a) s)).2 < (mttN (nrmN (MK a) r) (nrmN (MK a) s)).1
  · rw [if_pos h, if_pos (show _ > _ from Int.ofNat_lt.2 h)]
  · rw [if_neg h, if_neg (fun q => h (Int.ofNat_lt.1 q))]
theorem rMeet_cp' (a : Int) (r s : Nat × Nat) : saturateref13_Meet.f a (cp r) (cp s) = some (if (mttN (nrmN (MK a) r) (nrmN (MK a) s)).2 < (mttN (nrmN (MK a) r) (nrmN (MK a) s)).1 then ((0, MM a), false) else (cp (mttN (nrmN (MK a) r) (nrmN (MK a) s)), true)) := by
  rw [saturateref13_Meet_eq, ← ranges_Meet_eq, rMeet_cp]

/-! ### the prefix -/
def preS (lo hi : Nat) : Nat → Nat → Nat → Nat × Nat
  | 0, z, o => (z, o)
  | i + 1, z, o => if lo.testBit i = hi.testBit i then (if lo.testBit i then preS lo hi i z (o ||| 2 ^ i) else preS lo hi i (z ||| 2 ^ i) o) else (z, o)
theorem shl_one {i : Nat} (hi : i < 64) : shl .u64 1 (i : Int) = ((2 ^ i : Nat) : Int) := by
  rw [show (1 : Int) = ((1 : Nat) : Int) from rfl, shl64, Nat.shiftLeft_eq, Nat.one_mul, Nat.mod_eq_of_lt (by rw [← p64]; exact Nat.pow_lt_pow_right (by decide) hi)]
theorem pw_lt {i : Nat} (hi : i < 64) : 2 ^ i < U64 := by rw [show U64 = 2 ^ 64 from rfl]; exact Nat.pow_lt_pow_right (by decide) hi
theorem and_pow (x i : Nat) : (x &&& 2 ^ i = 0) ↔ x.testBit i = false := by
  constructor
  · intro h
    have := bit_of h i
    rw [Nat.testBit_and, Nat.testBit_two_pow_self, Nat.zero_testBit] at this
    simpa using this
  · intro h
    refine bits_ext fun j => ?_
    rw [Nat.testBit_and, Nat.zero_testBit, Nat.testBit_two_pow]
    by_cases e : i = j
    · subst e; rw [h]; rfl
    · rw [decide_eq_false e, Bool.and_false]
theorem and_pow_bne {x i : Nat} (hx : x < U64) (hi : i < 64) : ((Go.bits .and .u64 (x : Int) (shl .u64 1 (i : Int))) != 0) = x.testBit i := by
  rw [shl_one hi, and64 hx (pw_lt hi), cast0n]
  cases h : x.testBit i
  · rw [decide_eq_true ((and_pow x i).2 h)]; rfl
  · rw [decide_eq_false (fun q => by rw [(and_pow x i).1 q] at h; exact absurd h (by decide))]; rfl
theorem xor_ltA {x y : Nat} (hx : x < U64) (hy : y < U64) : x ^^^ y < U64 := by rw [show U64 = 2 ^ 64 from rfl]; exact Nat.xor_lt_two_pow hx hy
theorem preS_lt {lo hi : Nat} : ∀ (i z o : Nat), i ≤ 64 → z < U64 → o < U64 → (preS lo hi i z o).1 < U64 ∧ (preS lo hi i z o).2 < U64
  | 0, z, o, _, hz, ho => ⟨hz, ho⟩
  | i + 1, z, o, hi', hz, ho => by
    have hp := pw_lt (i := i) (by omega)
    unfold preS
    split
    · split
      · exact preS_lt i z _ (by omega) hz (or_lt ho hp)
      · exact preS_lt i _ o (by omega) (or_lt hz hp) ho
    · exact ⟨hz, ho⟩
theorem prefix_j3 (fu : Nat) {lo hi : Nat} (hl : lo < U64) (hh : hi < U64) (u v : Int) : ∀ (i z o n : Nat), i ≤ 64 → z < U64 → o < U64 → i < n →
    facts_prefix.j3 (fu + 1) n ((i : Int) - 1) lo hi u v z o = some (cp (preS lo hi i z o))
  | 0, z, o, n, _, hz, ho, hn => by
    obtain ⟨n, rfl⟩ : ∃ m, n = m + 1 := ⟨n - 1, by omega⟩
    rw [facts_prefix.j3_succ, bifd_neg (by omega), facts_prefix.p10_eq]; rfl
  | i + 1, z, o, n, hi', hz, ho, hn => by
    obtain ⟨n, rfl⟩ : ∃ m, n = m + 1 := ⟨n - 1, by omega⟩
    have hp := pw_lt (i := i) (by omega)
    have e : (((i + 1 : Nat) : Int) - 1) = (i : Int) := by omega
    rw [e, facts_prefix.j3_succ, bifd_pos (by omega), bifd_neg (by omega), xor64 hl hh, and_pow_bne (xor_ltA hl hh) (by omega), and_pow_bne hl (by omega), Nat.testBit_xor]
    unfold preS
    by_cases h : lo.testBit i = hi.testBit i
    · rw [if_pos h, h, Bool.xor_self, cond_false]
      cases hb : hi.testBit i
      · rw [cond_false, if_neg (by decide), facts_prefix.p4_eq, shl_one (by omega), or64 hz hp, wrapi, wrapi_of (by omega) (by omega)]
        exact prefix_j3 fu hl hh u v i _ o n (by omega) (or_lt hz hp) ho (by omega)
      · rw [cond_true, if_pos rfl, facts_prefix.p4_eq, shl_one (by omega), or64 ho hp, wrapi, wrapi_of (by omega) (by omega)]
        exact prefix_j3 fu hl hh u v i z _ n (by omega) hz (or_lt ho hp) (by omega)
    · rw [if_neg h, show (lo.testBit i ^^ hi.testBit i) = true by revert h; cases lo.testBit i <;> cases hi.testBit i <;> decide, cond_true, facts_prefix.p10_eq]
theorem facts_prefix_eq {w : Nat} (h1 : 1 ≤ w) (h2 : w ≤ 64) {lo hi : Nat} (hl : lo < U64) (hh : hi < U64) : facts_prefix.f (w : Int) ((lo : Int), (hi : Int)) = some (cp (preS lo hi w 0 0)) := by
  unfold facts_prefix.f
  have hf : fuel0 = 100 + (fuel0 - 100) := by unfold fuel0; omega
  generalize fuel0 - 100 = fu at hf
  rw [hf]
  unfold facts_prefix.g
  rw [wrapi, wrapi_of (by omega) (by omega)]
  exact prefix_j3 (100 + fu) hl hh 0 0 w 0 0 _ h2 (by decide) (by decide) (by omega)
theorem ref_prefix_j3 (fu : Nat) {lo hi : Nat} (hl : lo < U64) (hh : hi < U64) (u v : Int) : ∀ (i z o n : Nat), i ≤ 64 → z < U64 → o < U64 → i < n →
    saturateref14_prefix.j3 (fu + 1) n ((i : Int) - 1) lo hi u v z o = some (cp (preS lo hi i z o))
  | 0, z, o, n, _, hz, ho, hn => by
    obtain ⟨n, rfl⟩ : ∃ m, n = m + 1 := ⟨n - 1, by omega⟩
    rw [saturateref14_prefix.j3_succ, bifd_neg (by omega), saturateref14_prefix.p8_eq]; rfl
  | i + 1, z, o, n, hi', hz, ho, hn => by
    obtain ⟨n, rfl⟩ : ∃ m, n = m + 1 := ⟨n - 1, by omega⟩
    have hp := pw_lt (i := i) (by omega)
    have e : (((i + 1 : Nat) : Int) - 1) = (i : Int) := by omega
    rw [e, saturateref14_prefix.j3_succ, bifd_pos (by omega), saturateref01_Bit_eq hl, saturateref01_Bit_eq hh]
    simp only [Option.bind_some]
    unfold preS
    by_cases h : lo.testBit i = hi.testBit i
    · rw [if_pos h, h, beq_self_eq_true, cond_true]
      cases hb : hi.testBit i
      · rw [show ((((false : Bool).toNat : Nat) : Int) == 1) = false from rfl, cond_false, bifd_neg (by rw [wrapu_of (by omega)]; omega), if_neg (by decide), saturateref14_prefix.p4_eq, wrapu_of (by omega), shl_one (by omega), or64 hz hp, wrapi, wrapi_of (by omega) (by omega)]
        exact ref_prefix_j3 fu hl hh u v i _ o n (by omega) (or_lt hz hp) ho (by omega)
      · rw [show ((((true : Bool).toNat : Nat) : Int) == 1) = true from rfl, cond_true, bifd_neg (by rw [wrapu_of (by omega)]; omega), if_pos rfl, saturateref14_prefix.p4_eq, wrapu_of (by omega), shl_one (by omega), or64 ho hp, wrapi, wrapi_of (by omega) (by omega)]
        exact ref_prefix_j3 fu hl hh u v i z _ n (by omega) hz (or_lt ho hp) (by omega)
    · rw [if_neg h, show (((lo.testBit i).toNat : Int) == ((hi.testBit i).toNat : Int)) = false by revert h; cases lo.testBit i <;> cases hi.testBit i <;> decide, cond_false, saturateref14_prefix.p8_eq]
theorem saturateref14_prefix_eq {w : Nat} (h1 : 1 ≤ w) (h2 : w ≤ 64) {lo hi : Nat} (hl : lo < U64) (hh : hi < U64) : saturateref14_prefix.f (w : Int) ((lo : Int), (hi : Int)) = some (cp (preS lo hi w 0 0)) := by
  unfold saturateref14_prefix.f
  have hf : fuel0 = 100 + (fuel0 - 100) := by unfold fuel0; omega
  generalize fuel0 - 100 = fu at hf
  rw [hf]
  unfold saturateref14_prefix.g saturateref12_Top.f
  rw [wrapi, wrapi_of (by omega) (by omega)]
  exact ref_prefix_j3 (100 + fu) hl hh 0 0 w 0 0 _ h2 (by decide) (by decide) (by omega)
theorem preS_bit (lo hi : Nat) : ∀ (n z o : Nat), ∃ c, c ≤ n ∧ (∀ i, c ≤ i → i < n → lo.testBit i = hi.testBit i) ∧
    ∀ i, (preS lo hi n z o).1.testBit i = (z.testBit i || (decide (c ≤ i ∧ i < n) && !lo.testBit i)) ∧ (preS lo hi n z o).2.testBit i = (o.testBit i || (decide (c ≤ i ∧ i < n) && lo.testBit i))
  | 0, z, o => ⟨0, Nat.le_refl _, fun i _ h => absurd h (by omega), fun i => by rw [decide_eq_false (by omega)]; unfold preS; simp⟩
  | n + 1, z, o => by
    unfold preS
    by_cases h : lo.testBit n = hi.testBit n
    · rw [if_pos h]
      by_cases hb : lo.testBit n = true
      · rw [if_pos hb]
        obtain ⟨c, h1, h2, h3⟩ := preS_bit lo hi n z (o ||| 2 ^ n)
        refine ⟨c, by omega, fun i i1 i2 => ?_, fun i => ?_⟩
        · by_cases e : i = n
          · subst e; exact h
          · exact h2 i i1 (by omega)
        · rw [(h3 i).1, (h3 i).2, Nat.testBit_or, Nat.testBit_two_pow]
          by_cases e : n = i
          · subst e
            rw [decide_eq_false (show ¬ (c ≤ n ∧ n < n) by omega), decide_eq_true (show c ≤ n ∧ n < n + 1 by omega), hb]; simp
          · rw [decide_eq_false e, Bool.or_false]
            have : (c ≤ i ∧ i < n) ↔ (c ≤ i ∧ i < n + 1) := by omega
            simp only [this]; simp
      · rw [if_neg hb]
        obtain ⟨c, h1, h2, h3⟩ := preS_bit lo hi n (z ||| 2 ^ n) o
        refine ⟨c, by omega, fun i i1 i2 => ?_, fun i => ?_⟩
        · by_cases e : i = n
          · subst e; exact h
          · exact h2 i i1 (by omega)
        · rw [(h3 i).1, (h3 i).2, Nat.testBit_or, Nat.testBit_two_pow]
          by_cases e : n = i
          · subst e
            rw [decide_eq_false (show ¬ (c ≤ n ∧ n < n) by omega), decide_eq_true (show c ≤ n ∧ n < n + 1 by omega)]; simp [hb]
          · rw [decide_eq_false e, Bool.or_false]
            have : (c ≤ i ∧ i < n) ↔ (c ≤ i ∧ i < n + 1) := by omega
            simp only [this]; simp
    · rw [if_neg h]
      exact ⟨n + 1, Nat.le_refl _, fun i i1 i2 => absurd i2 (by omega), fun i => by rw [decide_eq_false (by omega)]; simp⟩
abbrev preK (w : Nat) (r : Nat × Nat) : Nat × Nat := preS r.1 r.2 w 0 0
theorem preK_bit (w : Nat) (r : Nat × Nat) : ∃ c, c ≤ w ∧ (∀ i, c ≤ i → i < w → r.1.testBit i = r.2.testBit i) ∧
    ∀ i, (preK w r).1.testBit i = (decide (c ≤ i ∧ i < w) && !r.1.testBit i) ∧ (preK w r).2.testBit i = (decide (c ≤ i ∧ i < w) && r.1.testBit i) := by
  obtain ⟨c, h1, h2, h3⟩ := preS_bit r.1 r.2 w 0 0
  refine ⟨c, h1, h2, fun i => ?_⟩
  have := h3 i
  simp only [Nat.zero_testBit, Bool.false_or] at this
  exact this
theorem preK_lt {w : Nat} (h2 : w ≤ 64) (r : Nat × Nat) : (preK w r).1 < U64 ∧ (preK w r).2 < U64 := preS_lt w 0 0 h2 (by decide) (by decide)
theorem preK_ok (a : Int) (r : Nat × Nat) : kok (MK a) (preK (W a) r).1 (preK (W a) r).2 := by
  obtain ⟨c, h1, h2, h3⟩ := preK_bit (W a) r
  refine ⟨bits_ext fun i => ?_, bits_ext fun i => ?_⟩
  · rw [Nat.testBit_and, (h3 i).1, (h3 i).2, Nat.zero_testBit]
    cases decide (c ≤ i ∧ i < W a) <;> cases r.1.testBit i <;> rfl
  · rw [Nat.testBit_and, Nat.testBit_or, (h3 i).1, (h3 i).2, Nat.zero_testBit, testBit_comp (MK_lt a), testBit_mask]
    by_cases e : i < W a
    · rw [decide_eq_true e]; simp
    · rw [decide_eq_false (show ¬ (c ≤ i ∧ i < W a) by omega)]; rfl
/-- Every value of a range has the range's prefix. -/
theorem preK_has {w : Nat} {r : Nat × Nat} {x : Nat} (hr : rok (vmask w) r) (h1 : r.1 ≤ x) (h2 : x ≤ r.2) : khas (preK w r) x := by
  obtain ⟨c, c1, c2, c3⟩ := preK_bit w r
  have hw1 := lt_of_le_mask (Nat.le_trans hr.1 hr.2)
  have hw2 := lt_of_le_mask hr.2
  have e : r.1 / 2 ^ c = r.2 / 2 ^ c := bits_ext fun i => by
    rw [Nat.testBit_div_two_pow, Nat.testBit_div_two_pow]
    by_cases h : i + c < w
    · exact c2 _ (by omega) h
    · rw [testBit_ge hw1 (by omega), testBit_ge hw2 (by omega)]
  have e2 : x / 2 ^ c = r.1 / 2 ^ c := by
    have l1 : r.1 / 2 ^ c ≤ x / 2 ^ c := Nat.div_le_div_right h1
    have l2 : x / 2 ^ c ≤ r.2 / 2 ^ c := Nat.div_le_div_right h2
    omega
  have hb : ∀ i, c ≤ i → x.testBit i = r.1.testBit i := fun i hi => by
    have := bit_of e2 (i - c)
    rw [Nat.testBit_div_two_pow, Nat.testBit_div_two_pow, show i - c + c = i by omega] at this
    exact this
  refine ⟨bits_ext fun i => ?_, bits_ext fun i => ?_⟩
  · rw [Nat.testBit_and, (c3 i).1, Nat.zero_testBit]
    by_cases h : c ≤ i ∧ i < w
    · rw [hb i h.1]; cases r.1.testBit i <;> simp
    · rw [decide_eq_false h]; simp
  · rw [Nat.testBit_and, (c3 i).2]
    by_cases h : c ≤ i ∧ i < w
    · rw [hb i h.1]; cases r.1.testBit i <;> simp
    · rw [decide_eq_false h]; simp

/-! ### the step -/
abbrev FT := Int × Int × Int × Int × Int
/-- Facts of natural numbers. -/
abbrev fI (a : Int) (k r : Nat × Nat) : FT := (a, (k.1 : Int), (k.2 : Int), (r.1 : Int), (r.2 : Int))
def midN (M : Nat) (k : Nat × Nat) : Nat × Nat := (k.2, M - k.1)
def rngN (M : Nat) (k r : Nat × Nat) : Nat × Nat := mttN (nrmN M r) (nrmN M (midN M k))
def korN (x y : Nat × Nat) : Nat × Nat := (x.1 ||| y.1, x.2 ||| y.2)
def stepV (a : Int) (k r : Nat × Nat) : FT × Bool :=
  if (rngN (MK a) k r).2 < (rngN (MK a) k r).1 then (fI a k r, false)
  else if kdis (kof (MK a) k.1 k.2) (preK (W a) (rngN (MK a) k r)) then (fI a (korN (kof (MK a) k.1 k.2) (preK (W a) (rngN (MK a) k r))) (rngN (MK a) k r), true)
  else (fI a (0, 0) (rngN (MK a) k r), false)
theorem mttN_le {M : Nat} {x y : Nat × Nat} (h : rok M x) (h' : rok M y) (hn : ¬ (mttN x y).2 < (mttN x y).1) : rok M (mttN x y) := by
  unfold mttN at hn ⊢
  obtain ⟨h1, h2⟩ := h
  obtain ⟨h3, h4⟩ := h'
  simp only at hn
  exact ⟨by simp only; omega, by simp only; omega⟩
theorem rngN_ok {M : Nat} {k r : Nat × Nat} (hn : ¬ (rngN M k r).2 < (rngN M k r).1) : rok M (rngN M k r) := mttN_le (nrmN_ok _ _) (nrmN_ok _ _) hn
theorem rok_lt {a : Int} {r : Nat × Nat} (h : rok (MK a) r) : r.1 < U64 ∧ r.2 < U64 := by
  have := MK_lt a; obtain ⟨h1, h2⟩ := h; omega
theorem kok_leA {a : Int} {k : Nat × Nat} (h1 : k.1 < U64) (h2 : k.2 < U64) (h : kok (MK a) k.1 k.2) : k.1 ≤ MK a ∧ k.2 ≤ MK a := ((kok_iff (W_le a) h1 h2).1 h).2
theorem sub_and {a : Int} {z : Nat} (h : z ≤ MK a) : MK a &&& (18446744073709551615 - z) = MK a - z := by
  have hz : z < U64 := Nat.lt_of_le_of_lt h (MK_lt a)
  have hz' := lt_of_le_mask h
  have e : MK a - z = vnot (W a) z := by unfold vnot; rw [Nat.mod_eq_of_lt hz']; rfl
  rw [e]
  refine bits_ext fun i => ?_
  rw [Nat.testBit_and, testBit_vnot, testBit_mask, testBit_comp hz]
  by_cases hi : i < W a
  · have := W_le a; rw [decide_eq_true hi, decide_eq_true (show i < 64 by omega)]; rfl
  · rw [decide_eq_false hi]; rfl
theorem rMeet_mid (a : Int) (k r : Nat × Nat) : ranges_Meet.f a ((r.1 : Int), (r.2 : Int)) ((k.2 : Int), ((MK a - k.1 : Nat) : Int)) = some (if (rngN (MK a) k r).2 < (rngN (MK a) k r).1 then ((0, MM a), false) else (cp (rngN (MK a) k r), true)) := rMeet_cp a r (midN (MK a) k)
theorem rMeet_mid' (a : Int) (k r : Nat × Nat) : saturateref13_Meet.f a ((r.1 : Int), (r.2 : Int)) ((k.2 : Int), ((MK a - k.1 : Nat) : Int)) = some (if (rngN (MK a) k r).2 < (rngN (MK a) k r).1 then ((0, MM a), false) else (cp (rngN (MK a) k r), true)) := rMeet_cp' a r (midN (MK a) k)
theorem facts_step_eq {a : Int} (h1 : 1 ≤ a) (h2 : a ≤ 64) {k r : Nat × Nat} (hz : k.1 < U64) (ho : k.2 < U64) (hk : kok (MK a) k.1 k.2) : facts_step.f (fI a k r) = some (stepV a k r) := by
  obtain ⟨w, rfl⟩ : ∃ w : Nat, a = (w : Int) := ⟨a.toNat, by omega⟩
  have hW : W (w : Int) = w := W_of (by omega) (by omega)
  have hle := kok_leA hz ho hk
  unfold facts_step.f stepV
  simp only
  rw [ranges_Top_eq, Option.bind_some]
  simp only
  rw [show MM (w : Int) = ((MK (w : Int) : Nat) : Int) from rfl, andNot64 (MK_lt _) hz, sub_and hle.1, rMeet_mid (w : Int) k r, Option.bind_some]
  by_cases hn : (rngN (MK (w : Int)) k r).2 < (rngN (MK (w : Int)) k r).1
  · rw [if_pos hn, if_pos hn]; rfl
  · have hR := rngN_ok hn
    have hl := rok_lt hR
    rw [if_neg hn, if_neg hn]
    simp only [Bool.not_true, cond_false]
    have hp := preK_lt (w := W (w : Int)) (W_le _) (rngN (MK (w : Int)) k r)
    have hpk := kof_of (preK_ok (w : Int) (rngN (MK (w : Int)) k r))
    rw [facts_prefix_eq (by omega) (by omega) hl.1 hl.2, Option.bind_some]
    rw [hW] at hp
    have hpk' : kof (MK (w : Int)) (preK w (rngN (MK (w : Int)) k r)).1 (preK w (rngN (MK (w : Int)) k r)).2 = preK w (rngN (MK (w : Int)) k r) := by rw [hW] at hpk; exact hpk
    have hs : W (w : Int) = w := hW
    rw [known_Meet_eq (w : Int) hz ho hp.1 hp.2, Option.bind_some, hpk']
    have e : preK (W (w : Int)) (rngN (MK (w : Int)) k r) = preK w (rngN (MK (w : Int)) k r) := congrArg (fun n => preK n (rngN (MK (w : Int)) k r)) hW
    rw [e]
    by_cases hd : kdis (kof (MK (w : Int)) k.1 k.2) (preK w (rngN (MK (w : Int)) k r))
    · rw [if_pos hd, if_pos hd]; rfl
    · rw [if_neg hd, if_neg hd]; rfl
theorem saturateref14_step_eq {a : Int} (h1 : 1 ≤ a) (h2 : a ≤ 64) {k r : Nat × Nat} (hz : k.1 < U64) (ho : k.2 < U64) (hk : kok (MK a) k.1 k.2) : saturateref14_step.f (fI a k r) = some (stepV a k r) := by
  obtain ⟨w, rfl⟩ : ∃ w : Nat, a = (w : Int) := ⟨a.toNat, by omega⟩
  have hW : W (w : Int) = w := W_of (by omega) (by omega)
  have hle := kok_leA hz ho hk
  unfold saturateref14_step.f stepV
  simp only
  rw [saturateref01_Mask_eq, Option.bind_some, wrapu_sub_le (MK_lt _) hle.1, rMeet_mid' (w : Int) k r, Option.bind_some]
  by_cases hn : (rngN (MK (w : Int)) k r).2 < (rngN (MK (w : Int)) k r).1
  · rw [if_pos hn, if_pos hn]; rfl
  · have hR := rngN_ok hn
    have hl := rok_lt hR
    rw [if_neg hn, if_neg hn]
    simp only [Bool.not_true, cond_false]
    have hp := preK_lt (w := W (w : Int)) (W_le _) (rngN (MK (w : Int)) k r)
    have hpk := kof_of (preK_ok (w : Int) (rngN (MK (w : Int)) k r))
    rw [saturateref14_prefix_eq (by omega) (by omega) hl.1 hl.2, Option.bind_some]
    rw [hW] at hp
    have hpk' : kof (MK (w : Int)) (preK w (rngN (MK (w : Int)) k r)).1 (preK w (rngN (MK (w : Int)) k r)).2 = preK w (rngN (MK (w : Int)) k r) := by rw [hW] at hpk; exact hpk
    have hs : W (w : Int) = w := hW
    rw [saturateref12_Meet_eq (w : Int) hz ho hp.1 hp.2, Option.bind_some, hpk']
    have e : preK (W (w : Int)) (rngN (MK (w : Int)) k r) = preK w (rngN (MK (w : Int)) k r) := congrArg (fun n => preK n (rngN (MK (w : Int)) k r)) hW
    rw [e]
    by_cases hd : kdis (kof (MK (w : Int)) k.1 k.2) (preK w (rngN (MK (w : Int)) k r))
    · rw [if_pos hd, if_pos hd]; rfl
    · rw [if_neg hd, if_neg hd]; rfl
end Go.Proofs.YtcihbcffokjgjaaGreat.Fn
