/- What an operation computes: the program's and the reference's. -/
import Derived.Test.YtkmehmlcccdnbaaDoorF0
import Derived.Test.YtkmehmlcccdnbaaDoorF4
import Derived.Test.YtkmehmlcccdnbaaDoorF7
import Derived.Test.YtkmehmlcccdnbaaDoorXa
import Derived.Test.YtkmehmlcccdnbaaDoorTd
namespace Go.Proofs.YtkmehmlcccdnbaaDoor.Fn
open Go Go.RowKit Go.Proofs.YtkmehmlcccdnbaaDoor.Ev Go.Proofs.YtkmehmlcccdnbaaDoor.Bv
set_option linter.unusedVariables false
set_option linter.unusedSimpArgs false
set_option maxRecDepth 100000

abbrev J6 := Int × Int × Int × Int × Int × Int
def srcs (o : Nat) : Nat := [0, 0, 1, 1, 1, 2, 2, 2, 2, 2, 2, 2, 2, 2, 2, 2, 2, 2, 2, 3].getD o 0
theorem srcs_le (o : Nat) : srcs o ≤ 3 := by
  unfold srcs
  rcases Nat.lt_or_ge o 20 with h | h
  · have : ∀ q : Fin 20, [0, 0, 1, 1, 1, 2, 2, 2, 2, 2, 2, 2, 2, 2, 2, 2, 2, 2, 2, 3].getD q.val 0 ≤ 3 := by decide
    exact this ⟨o, h⟩
  · rw [List.getD_eq_getElem?_getD, List.getElem?_eq_none (by simpa using h)]; decide
theorem gtab_srcs {o : Nat} (h : o ≤ 19) : gtab0_1 o = (srcs o : Int) := by
  have : ∀ q : Fin 20, gtab0_1 q.val = (srcs q.val : Int) := by decide
  exact this ⟨o, by omega⟩
theorem isa_known_eq (o : Int) : isa_known.f o = some (decide (0 ≤ o ∧ o ≤ 19)) := by
  unfold isa_known.f
  by_cases h : 0 ≤ o
  · rw [bifd_pos h]; congr 1; simp only [decide_eq_decide]; omega
  · rw [bifd_neg h]; congr 1; symm; rw [decide_eq_false_iff_not]; omega
theorem Known_eq (o : Int) : saturateref48_Known.f o = some (decide (0 ≤ o ∧ o ≤ 19)) := by
  unfold saturateref48_Known.f
  by_cases h : 0 ≤ o
  · rw [bifd_pos h]; congr 1; simp only [decide_eq_decide]; omega
  · rw [bifd_neg h]; congr 1; symm; rw [decide_eq_false_iff_not]; omega
theorem isa_Sources_eq {o : Nat} (h : o ≤ 19) : isa_Sources.f (o : Int) = some (srcs o : Int) := by
  unfold isa_Sources.f
  rw [isa_known_eq]
  simp only [Option.bind_some]
  rw [decide_eq_true (by omega), Bool.not_true, cond_false, bifd_pos (by omega), bifd_pos (by omega), Int.toNat_natCast, gtab_srcs h]
theorem isa_Sources_un {o : Int} (h : ¬ (0 ≤ o ∧ o ≤ 19)) : isa_Sources.f o = some (-1) := by
  unfold isa_Sources.f
  rw [isa_known_eq]
  simp only [Option.bind_some]
  rw [decide_eq_false h, Bool.not_false, cond_true]
theorem Sources_eq {o : Nat} (h : o ≤ 19) : saturateref48_Sources.f (o : Int) = some (srcs o : Int) := by
  have : ∀ q : Fin 20, saturateref48_Sources.f (q.val : Int) = some (srcs q.val : Int) := by decide +kernel
  exact this ⟨o, by omega⟩
theorem Sources_un {o : Int} (h : ¬ (0 ≤ o ∧ o ≤ 19)) : saturateref48_Sources.f o = some (-1) := by
  unfold saturateref48_Sources.f
  rw [Known_eq]
  simp only [Option.bind_some]
  rw [decide_eq_false h, Bool.not_false, cond_true]
def defS (i : J6) : Int × Bool := if 0 ≤ i.1 ∧ i.1 ≤ 19 then (if i.1 = 0 then (0, false) else (i.2.1, true)) else (0, false)
theorem isa_Def_eq (i : J6) : isa_Def.f i = some (defS i) := by
  unfold isa_Def.f defS
  rw [isa_known_eq]
  simp only [Option.bind_some]
  by_cases h : 0 ≤ i.1 ∧ i.1 ≤ 19
  · rw [decide_eq_true h, Bool.not_true, cond_false, if_pos h]
    by_cases h0 : i.1 = 0
    · simp [h0]
    · rw [show (i.1 == 0) = false by rw [beq_eq_false_iff_ne]; exact h0, cond_false, if_neg h0]
  · rw [decide_eq_false h, Bool.not_false, cond_true, if_neg h]
theorem Def_eq (i : J6) : saturateref48_Def.f i = some (defS i) := by
  unfold saturateref48_Def.f defS
  rw [Known_eq]
  simp only [Option.bind_some]
  by_cases h : 0 ≤ i.1 ∧ i.1 ≤ 19
  · rw [decide_eq_true h, Bool.not_true, cond_false, if_pos h]
    by_cases h0 : i.1 = 0
    · simp [h0]
    · rw [show (i.1 == 0) = false by rw [beq_eq_false_iff_ne]; exact h0, cond_false, if_neg h0]
  · rw [decide_eq_false h, Bool.not_false, cond_true, if_neg h]
def useF (i : J6) : Nat → Int := fun k => [i.2.2.1, i.2.2.2.1, i.2.2.2.2.1].getD k 0
theorem mx0 (n : Nat) : mx (n : Int) 0 = n := by unfold mx; split <;> omega
theorem mx0' (n : Nat) : mx 0 (n : Int) = n := by unfold mx; split <;> omega
theorem isa_Uses_eq {o : Nat} (h : o ≤ 19) (d a b c m : Int) : isa_Uses.f ((o : Int), d, a, b, c, m) = some (srcs o, useF ((o : Int), d, a, b, c, m)) := by
  unfold isa_Uses.f
  rw [isa_Sources_eq h]
  simp only [Option.bind_some, mx0]
  have := srcs_le o
  rw [bifd_pos (by omega), bifd_pos (by omega), Int.toNat_natCast]; rfl
theorem Uses_eq {o : Nat} (h : o ≤ 19) (d a b c m : Int) : saturateref48_Uses.f ((o : Int), d, a, b, c, m) = some (srcs o, useF ((o : Int), d, a, b, c, m)) := by
  unfold saturateref48_Uses.f
  rw [Sources_eq h]
  simp only [Option.bind_some, mx0']
  have := srcs_le o
  rw [bifd_pos (by omega), bifd_pos (by omega), Int.toNat_natCast]; rfl
theorem bits_Not_eq (a : Int) {x : Nat} (hx : x < U64) : bits_Not.f a x = some (vnot (W a) x : Int) := by
  unfold bits_Not.f
  rw [show (18446744073709551615 : Int) = ((18446744073709551615 : Nat) : Int) from rfl, xor64 (by decide) hx, bits_Cut_eq a (by rw [← p64]; exact Nat.xor_lt_two_pow (by decide) (lt_pw hx)), Option.bind_some, not_cut (W_le a)]
/-- What an operation computes: none: it traps. -/
def valS (w : Int) (imm a b c : Nat) : Nat → Option Nat
  | 1 => some (vcut (W w) imm)
  | 2 => some a
  | 3 => some (vnot (W w) a)
  | 4 => some (vneg (W w) a)
  | 5 => some (vand (W w) a b)
  | 6 => some (vor (W w) a b)
  | 7 => some (vxor (W w) a b)
  | 8 => some (vadd (W w) a b)
  | 9 => some (vsub (W w) a b)
  | 10 => some (vmul (W w) a b)
  | 11 => if b = 0 then none else some (vudiv (W w) a b)
  | 12 => if b = 0 then none else some (vurem (W w) a b)
  | 13 => some (vshl (W w) a b)
  | 14 => some (vlshr (W w) a b)
  | 15 => some (vashr (W w) a b)
  | 16 => some (veq (W w) a b)
  | 17 => some (vult (W w) a b)
  | 18 => some (vslt (W w) a b)
  | 19 => some (if a ≠ 0 then b else c)
  | _ => none
theorem get_eq {r : Int} (hr : 0 ≤ r) (s : List Nat) : exec_value_1.f r (wl s) = some ((s.getD r.toNat 0 : Nat) : Int) := by
  obtain ⟨n, rfl⟩ : ∃ n : Nat, r = n := ⟨r.toNat, by omega⟩
  unfold exec_value_1.f
  rw [wl_length]
  by_cases h : n < s.length
  · rw [bifd_pos (by omega), bifd_pos (by omega), bifd_pos (by omega), Int.toNat_natCast, wl_some h]; rfl
  · rw [bifd_neg (by omega), Int.toNat_natCast, List.getD_eq_getElem?_getD, List.getElem?_eq_none (by omega)]; rfl
theorem truth_eq (p : Prop) [Decidable p] : exec_truth.f (decide p) = some ((if p then 1 else 0 : Nat) : Int) := by
  unfold exec_truth.f
  by_cases h : p <;> simp [h]
theorem small {w : Int} {x : Nat} (h : x < 2 ^ W w) : x < U64 := Nat.lt_of_lt_of_le h (pw_le (W_le w))
theorem exec_value_eq {w : Int} {o : Nat} (h1 : 1 ≤ o) (h2 : o ≤ 19) {d A B C : Int} (hA : 0 ≤ A) (hB : 0 ≤ B) (hC : 0 ≤ C) {imm : Nat} (him : imm < U64) {s : List Nat} (hs : Lt (2 ^ W w) s) :
    exec_value.f w ((o : Int), d, A, B, C, (imm : Int)) (wl s) = some (Option.map (fun (n : Nat) => (n : Int)) (valS w imm (s.getD A.toNat 0) (s.getD B.toNat 0) (s.getD C.toNat 0) o)) := by
  have ha := hs.getD (pw_pos _) A.toNat
  have hb := hs.getD (pw_pos _) B.toNat
  have ha' := small ha
  have hb' := small hb
  unfold exec_value.f exec_value.g
  rw [get_eq hA, get_eq hB]
  simp only [Option.bind_some]
  generalize s.getD A.toNat 0 = a at *
  generalize s.getD B.toNat 0 = b at *
  have ma : a % 2 ^ W w = a := Nat.mod_eq_of_lt ha
  have mb : b % 2 ^ W w = b := Nat.mod_eq_of_lt hb
  match o, h1, h2 with
  | 0, h, _ => exact absurd h (by omega)
  | n + 20, _, h => exact absurd h (by omega)
  | 1, _, _ => simp [valS, bits_Cut_eq w him]
  | 2, _, _ => simp [valS]
  | 3, _, _ => simp [valS, bits_Not_eq w ha']
  | 4, _, _ => simp [valS, bits_Neg_eq w ha']
  | 5, _, _ => simp [valS, and64 ha' hb', vand, Nat.mod_eq_of_lt (Nat.and_lt_two_pow a hb)]
  | 6, _, _ => simp [valS, or64 ha' hb', vor, Nat.mod_eq_of_lt (Nat.or_lt_two_pow ha hb)]
  | 7, _, _ => simp [valS, xor64 ha' hb', vxor, Nat.mod_eq_of_lt (Nat.xor_lt_two_pow ha hb)]
  | 8, _, _ => simp [valS, bits_Add_eq w]
  | 9, _, _ => simp [valS, bits_Sub_eq w hb']
  | 10, _, _ => simp [valS, bits_Mul_eq w]
  | 11, _, _ =>
    have hq : a / b < U64 := Nat.lt_of_le_of_lt (Nat.div_le_self _ _) ha'
    by_cases hz : b = 0
    · subst hz; simp [valS]
    · have e : IntKind.u64.wrap ((a : Int) / (b : Int)) = (a : Int) / (b : Int) := by rw [← Int.natCast_ediv, wrapu_of hq]
      have e0 : ((b : Int) == 0) = false := by rw [beq_eq_false_iff_ne]; omega
      simp [valS, hz, exec_value.p28_eq, vudiv, ma, mb, e, e0]
  | 12, _, _ =>
    by_cases hz : b = 0
    · subst hz; simp [valS]
    · have e0 : ((b : Int) == 0) = false := by rw [beq_eq_false_iff_ne]; omega
      simp [valS, hz, exec_value.p28_eq, vurem, ma, mb, e0]
      exact tmod_nat a b
  | 13, _, _ => simp [valS, bits_Shl_eq w ha' hb']
  | 14, _, _ => simp [valS, bits_Lshr_eq w ha' hb']
  | 15, _, _ => simp [valS, bits_Ashr_eq w ha' hb']
  | 16, _, _ =>
    rw [beq_nat, truth_eq]
    simp [valS, veq, ma, mb]
  | 17, _, _ =>
    rw [truth_eq]
    simp [valS, vult, ma, mb]
  | 18, _, _ => simp [valS, bits_Slt_eq w ha' hb']
  | 19, _, _ =>
    rw [get_eq hC]
    by_cases hz : a = 0
    · subst hz; simp [valS]
    · have e : ((a : Int) != 0) = true := by rw [bne_iff_ne]; omega
      simp [valS, hz, e]
/-- What the operation gives is less than 2^w. -/
theorem valS_lt {w : Int} {o imm a b c v : Nat} (ha : a < 2 ^ W w) (hb : b < 2 ^ W w) (hc : c < 2 ^ W w) (h : valS w imm a b c o = some v) : v < 2 ^ W w := by
  have hp : 1 < 2 ^ W w := Nat.one_lt_two_pow (by have := W_pos w; omega)
  have hm : ∀ x, x % 2 ^ W w < 2 ^ W w := fun x => Nat.mod_lt _ (pw_pos _)
  have hsub : ∀ x, 2 ^ W w - 1 - x < 2 ^ W w := fun x => sub_lt_pw _ x
  unfold valS at h
  split at h
  · cases h; exact hm _
  · cases h; exact ha
  · cases h; exact hsub _
  · cases h; exact hm _
  · cases h; exact hm _
  · cases h; exact hm _
  · cases h; exact hm _
  · cases h; exact hm _
  · cases h; exact hm _
  · cases h; exact hm _
  · split at h
    · cases h
    · cases h; unfold vudiv; split
      · have := hsub 0; omega
      · exact Nat.lt_of_le_of_lt (Nat.div_le_self _ _) (hm _)
  · split at h
    · cases h
    · cases h; unfold vurem; split
      · exact hm _
      · exact Nat.lt_of_le_of_lt (Nat.mod_le _ _) (hm _)
  · cases h; exact hm _
  · cases h; exact Nat.lt_of_le_of_lt (shr_le _ _) (hm _)
  · cases h; unfold vashr; split
    · exact hsub _
    · exact Nat.lt_of_le_of_lt (shr_le _ _) (hm _)
  · cases h; unfold veq; split <;> omega
  · cases h; unfold vult; split <;> omega
  · cases h; unfold vslt; split <;> omega
  · cases h; split
    · exact hb
    · exact hc
  · cases h
theorem Traps_eq (o : Nat) : saturateref48_Traps.f (o : Int) = some (decide (o = 11 ∨ o = 12)) := by
  unfold saturateref48_Traps.f
  by_cases h : o = 11
  · subst h; rfl
  · rw [show ((o : Int) == 11) = false by rw [beq_eq_false_iff_ne]; omega, cond_false]
    congr 1
    by_cases h2 : o = 12
    · subst h2; rfl
    · rw [show ((o : Int) == 12) = false by rw [beq_eq_false_iff_ne]; omega]; symm; rw [decide_eq_false_iff_not]; omega
/-- The reference's value, where nothing traps. -/
theorem ref_value_eq {w : Int} {o : Nat} (h1 : 1 ≤ o) (h2 : o ≤ 19) {imm a b c v : Nat} (him : imm < U64) (ha : a < U64) (hb : b < U64) (h : valS w imm a b c o = some v) :
    saturateref49_value.f (o : Int) w (imm : Int) (wl ([a, b, c].take (srcs o))) = some (v : Int) := by
  unfold saturateref49_value.f saturateref49_other.f
  match o, h1, h2 with
  | 0, h, _ => exact absurd h (by omega)
  | n + 20, _, h => exact absurd h (by omega)
  | 1, _, _ => cases h; simp [saturateref01_Cut_eq w him]
  | 2, _, _ => cases h; simp [srcs, wl, Tm.x]
  | 3, _, _ => cases h; simp [srcs, wl, Tm.x, saturateref01_Not_eq w ha]
  | 4, _, _ => cases h; simp [srcs, wl, Tm.x, saturateref01_Neg_eq w ha]
  | 5, _, _ => cases h; simp [srcs, wl, Tm.x, saturateref01_And_eq w ha hb]
  | 6, _, _ => cases h; simp [srcs, wl, Tm.x, saturateref01_Or_eq w ha hb]
  | 7, _, _ => cases h; simp [srcs, wl, Tm.x, saturateref01_Xor_eq w ha hb]
  | 8, _, _ => cases h; simp [srcs, wl, Tm.x, saturateref01_Add_eq w ha hb]
  | 9, _, _ => cases h; simp [srcs, wl, Tm.x, saturateref01_Sub_eq w ha hb]
  | 10, _, _ => cases h; simp [srcs, wl, Tm.x, saturateref01_Mul_eq w ha hb]
  | 11, _, _ =>
    by_cases hz : b = 0
    · subst hz; simp [valS] at h
    · simp only [valS, if_neg hz, Option.some.injEq] at h
      subst h; simp [srcs, wl, Tm.x, saturateref01_Udiv_eq w ha hb]
  | 12, _, _ =>
    by_cases hz : b = 0
    · subst hz; simp [valS] at h
    · simp only [valS, if_neg hz, Option.some.injEq] at h
      subst h; simp [srcs, wl, Tm.x, saturateref01_Urem_eq w ha hb]
  | 13, _, _ => cases h; simp [srcs, wl, Tm.x, saturateref01_Shl_eq w ha hb]
  | 14, _, _ => cases h; simp [srcs, wl, Tm.x, saturateref01_Lshr_eq w ha hb]
  | 15, _, _ => cases h; simp [srcs, wl, Tm.x, saturateref01_Ashr_eq w ha hb]
  | 16, _, _ => cases h; simp [srcs, wl, Tm.x, saturateref01_Eq_eq w ha hb]
  | 17, _, _ => cases h; simp [srcs, wl, Tm.x, saturateref01_Ult_eq w ha hb]
  | 18, _, _ => cases h; simp [srcs, wl, Tm.x, saturateref01_Slt_eq w ha hb]
  | 19, _, _ =>
    cases h
    by_cases hz : a = 0
    · subst hz; simp [srcs, wl, Tm.x]
    · have e : ((a : Int) != 0) = true := by rw [bne_iff_ne]; omega
      simp [srcs, wl, Tm.x, hz, e]
end Go.Proofs.YtkmehmlcccdnbaaDoor.Fn
