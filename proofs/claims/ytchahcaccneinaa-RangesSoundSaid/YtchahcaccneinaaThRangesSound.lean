/- RangesSound, in plain words: if every operand's range contains its value, the result's range contains the operator's value. -/
import Derived.Test.YtchahcaccneinaaStRangesSound
import Derived.Test.YtchahcaccneinaaTu
import Derived.Test.YtchahcaccneinaaTw
namespace Go.Proofs.Ytchahcaccneinaa.Th
open Go Go.RowKit Go.Proofs.Ytchahcaccneinaa.Ev Go.Proofs.Ytchahcaccneinaa.Fn Go.Proofs.Ytchahcaccneinaa.Bv
set_option linter.unusedVariables false
set_option linter.unusedSimpArgs false
set_option maxRecDepth 100000

theorem value1 {r v x a : Nat} (r1 : 1 ≤ r) (r2 : r ≤ 64) (v1 : 1 ≤ v) (v2 : v ≤ 64) (ha : a < 18446744073709551616) (hx : x < 18446744073709551616) (op : Int) (ho : op = 3 ∨ op = 4 ∨ op = 21 ∨ op = 22 ∨ op = 23) (hr : op = 3 ∨ op = 4 → r = v) (hx2 : op = 21 → x ≤ 64) {g y : Nat → Int} (hg : g 0 = v) (hy : y 0 = a) :
    saturateref13_Value.f op r x (1, g) (1, y) = some (oneV op r v x a : Int) := by
  unfold saturateref13_Value.f saturateref13_one.f oneV
  rcases ho with rfl | rfl | rfl | rfl | rfl
  · obtain rfl := hr (.inl rfl)
    simp [hg, hy, saturateref01_Not_eq _ ha, W_of r1 r2]
  · obtain rfl := hr (.inr rfl)
    simp [hg, hy, saturateref01_Neg_eq _ ha, W_of r1 r2]
  · have h64 := hx2 rfl
    have e : IntKind.i64.wrap (x : Int) = (x : Int) := by rw [wrapi, wrapi_of (by omega) (by omega)]
    simp [hg, hy, e, saturateref01_Extract_eq _ _ ha, W_of r1 r2]
  · simp [hg, hy]
  · simp [hg, hy, saturateref01_Sext_eq _ _ ha, W_of r1 r2, W_of v1 v2]
theorem value2 {r v u x a b : Nat} (v1 : 1 ≤ v) (v2 : v ≤ 64) (u1 : 1 ≤ u) (u2 : u ≤ 64) (ha : a < 18446744073709551616) (hb : b < 18446744073709551616) (op : Int) (ho : 5 ≤ op) (ho2 : op ≤ 20) (ho3 : op ≠ 19) {g y : Nat → Int} (hg : g 0 = v) (hg1 : g 1 = u) (hy : y 0 = a) (hy1 : y 1 = b) :
    saturateref13_Value.f op r x (2, g) (2, y) = some (twoV op v u a b : Int) := by
  have hs : op = 5 ∨ op = 6 ∨ op = 7 ∨ op = 8 ∨ op = 9 ∨ op = 10 ∨ op = 11 ∨ op = 12 ∨ op = 13 ∨ op = 14 ∨ op = 15 ∨ op = 16 ∨ op = 17 ∨ op = 18 ∨ op = 20 := by omega
  unfold saturateref13_Value.f twoV
  have e0 : (((2, y) : Nat × (Nat → Int)).1 : Int) = 2 := rfl
  have e1 : (((2, g) : Nat × (Nat → Int)).1 : Int) = 2 := rfl
  simp only [e0, e1, show ((2 : Int) != 2) = false from rfl, show decide ((0 : Int) < 2) = true from rfl, show decide ((1 : Int) < 2) = true from rfl, cond_true, cond_false, hg, hg1, hy, hy1]
  rcases hs with rfl | rfl | rfl | rfl | rfl | rfl | rfl | rfl | rfl | rfl | rfl | rfl | rfl | rfl | rfl
  all_goals simp only [Int.reduceBEq, cond_false, cond_true, Int.reduceEq, if_true, if_false]
  · rw [saturateref01_And_eq _ ha hb, W_of v1 v2]; rfl
  · rw [saturateref01_Or_eq _ ha hb, W_of v1 v2]; rfl
  · rw [saturateref01_Xor_eq _ ha hb, W_of v1 v2]; rfl
  · rw [saturateref01_Add_eq _ ha hb, W_of v1 v2]; rfl
  · rw [saturateref01_Sub_eq _ ha hb, W_of v1 v2]; rfl
  · rw [saturateref01_Mul_eq _ ha hb, W_of v1 v2]; rfl
  · rw [saturateref01_Udiv_eq _ ha hb, W_of v1 v2]; rfl
  · rw [saturateref01_Urem_eq _ ha hb, W_of v1 v2]; rfl
  · rw [saturateref01_Shl_eq _ ha hb, W_of v1 v2]; rfl
  · rw [saturateref01_Lshr_eq _ ha hb, W_of v1 v2]; rfl
  · rw [saturateref01_Ashr_eq _ ha hb, W_of v1 v2]; rfl
  · rw [saturateref01_Eq_eq _ ha hb, W_of v1 v2]; rfl
  · rw [saturateref01_Ult_eq _ ha hb, W_of v1 v2]; rfl
  · rw [saturateref01_Slt_eq _ ha hb, W_of v1 v2]; rfl
  · rw [saturateref01_Concat_eq _ _ ha hb, W_of v1 v2, W_of u1 u2]; rfl
theorem value3 {r x : Nat} {g y : Nat → Int} : saturateref13_Value.f 19 r x (3, g) (3, y) = some (if y 0 = 1 then y 1 else y 2) := by
  unfold saturateref13_Value.f saturateref13_one.f
  have e0 : (((3, y) : Nat × (Nat → Int)).1 : Int) = 3 := rfl
  simp only [e0, show ((3 : Int) != 2) = true from rfl, show decide ((0 : Int) < 3) = true from rfl, show decide ((1 : Int) < 3) = true from rfl, show decide ((2 : Int) < 3) = true from rfl, cond_true, Int.reduceBEq, cond_false]
  by_cases h : y 0 = 1
  · simp [h]
  · rw [show (y 0 == 1) = false by simpa using h]; simp [h]
theorem fin_true {r : Nat} (r1 : 1 ≤ r) (r2 : r ≤ 64) {p : Nat × Nat} {y : Nat} (h : Snd r p y) : fin13 r (cst p) (some (y : Int)) = some true := by
  obtain ⟨h1, h2, h3⟩ := h
  have hM := vmask_lt r2
  have hp := pw_pos r
  unfold fin13 cst
  simp only [Option.bind_some, ranges_Valid_eq, lives_true, MMn r1 r2]
  rw [bifd_pos (by omega), ranges_Has_eq _ _ (by omega), Option.bind_some, MMn r1 r2, nrm_of (by simp only; omega) (by simp only; omega), W_of r1 r2, bifd_pos]
  simp only
  have e : vcut r y = y := Nat.mod_eq_of_lt (lt_of_mask (by omega))
  rw [e]; omega
/-- An operand: its value, cut to its width, and whether its range contains it. -/
theorem has_cut {v z : Nat} (v1 : 1 ≤ v) (v2 : v ≤ 64) (hz : z < 18446744073709551616) {q : Int × Int} {l h : Nat} (e : nrm (MM (v : Int)) q = ((l : Int), (h : Int))) {K : Int → Option Bool}
    (hK : ∀ a : Nat, a < 18446744073709551616 → l ≤ a → a ≤ h → K (a : Int) = some true) :
    ((saturateref01_Cut.f (v : Int) (z : Int)).bind fun a => (ranges_Has.f (v : Int) q a).bind fun b => bif !b then (saturatelaw13_lives.f).bind fun t => some t else K a) = some true := by
  have hc := vcut_lt z v2
  rw [saturateref01_Cut_eq _ hz, Option.bind_some, W_of v1 v2, ranges_Has_eq _ _ hc, Option.bind_some, e, W_of v1 v2, lives_true, Option.bind_some]
  have e2 : vcut v (vcut v z) = vcut v z := by unfold vcut; rw [Nat.mod_mod]
  rw [e2]
  by_cases c : ((l : Int) ≤ (vcut v z : Int) ∧ (vcut v z : Int) ≤ (h : Int))
  · rw [decide_eq_true c, Bool.not_true, cond_false]; exact hK _ hc (by omega) (by omega)
  · rw [decide_eq_false c, Bool.not_false, cond_true]
theorem RangesSound : St.RangesSound := by
  intro op w x n g m lo hi N y _ _ hx0 _ _ _ hlo _ _ hy0
  obtain ⟨x, rfl, hx⟩ := u64_of hx0
  have hl : ∀ i, 0 ≤ lo i := fun i => by obtain ⟨y, hy, _⟩ := u64_of (hlo i); omega
  obtain ⟨k, hk⟩ := fuel_is
  unfold saturatelaw13_RangesSound.f
  rw [hk]
  clear hk
  unfold saturatelaw13_RangesSound.g
  simp only [apply_prog hx n m g lo hi hl, saturateref13_Refused_eq hx, lives_true, Option.bind_some]
  unfold resS
  by_cases hc : (chkS op w x n m g).2 ≠ 0
  · rw [if_pos hc, show ((chkS op w x n m g).2 != 0) = true by rw [bne_iff_ne]; exact hc]; rfl
  · have hc0 := Decidable.not_not.1 hc
    rw [if_neg hc]
    obtain ⟨h1, h2, rfl, ha, hg, he, e0, e1⟩ := chkS_ok hc0
    rw [show ((chkS op w x m m g).2 != 0) = false by rw [bne_eq_false_iff_eq]; exact hc0, he]
    have e00 : ((0 : Int) != 0) = false := rfl
    have cf : ∀ (a b : Option Bool), cond false a b = b := fun _ _ => rfl
    have ct : ∀ (a b : Option Bool), cond true a b = a := fun _ _ => rfl
    simp only [e00, cf]
    by_cases hN : N = m
    · subst hN
      by_cases hN0 : N = 0
      · subst hN0; rw [show (((0 : Nat) : Int) != ((0 : Nat) : Int)) = false from rfl, show (((0 : Nat) : Int) == 0) = true from rfl, cf, ct]
      · rw [show ((N : Int) != (N : Int)) = false from bne_self_eq_false _, show ((N : Int) == 0) = false by rw [beq_eq_false_iff_ne]; omega]
        simp only [cf]
        obtain ⟨r1, r2, hcases⟩ := widthT_ok h1 h2 ha hg e0 e1
        generalize (widthT op w x g).1 = r at *
        clear he e0 e1 hc hc0 ha
        obtain ⟨r, rfl, r1, r2⟩ := nat_of r1 r2
        rcases hcases with ⟨ho, rfl⟩ | ⟨ho, rfl, hr⟩ | ⟨ho, rfl, hr, hr2⟩ | ⟨rfl, rfl, g0, g1, g2⟩ | ⟨rfl, rfl, hr⟩ | ⟨ho, rfl, g1, hr⟩ | ⟨ho, rfl, g1, hr⟩
        · exact absurd rfl hN0
        · obtain ⟨v, hv, v1, v2⟩ := nat_of (hg 0 (by omega)).1 (hg 0 (by omega)).2
          obtain ⟨l, h, e, hl, hh⟩ := nrm_nat v1 v2 (hi := hi 0) (hl 0)
          obtain ⟨z, hz, hz2⟩ := u64_of (hy0 0)
          have eS : valS op r x 1 g (fun i => nrm (MM (g i)) (lo i, hi i)) = cst (oneS op r v x l h) := by
            simp only [valS, hv, e, Int.toNat_natCast]
            rw [if_neg (by omega), if_neg (by omega), if_neg (by omega), if_pos trivial]
          rw [eS, show k + 4 = (k + 2) + 2 from rfl, sp1, hz, hv]
          refine has_cut v1 v2 hz2 e (fun a ha1 ha2 ha3 => ?_)
          rw [value1 r1 r2 v1 v2 ha1 hx op (by omega) (fun _ => by omega) (by omega) hv rfl]
          exact fin_true r1 r2 (snd_one op (by omega) v1 r1 r2 (fun _ => by omega) (by omega) (by omega) ha2 ha3 hh)
        · obtain ⟨v, hv, v1, v2⟩ := nat_of (hg 0 (by omega)).1 (hg 0 (by omega)).2
          obtain ⟨l, h, e, hl, hh⟩ := nrm_nat v1 v2 (hi := hi 0) (hl 0)
          obtain ⟨z, hz, hz2⟩ := u64_of (hy0 0)
          have eS : valS op r x 1 g (fun i => nrm (MM (g i)) (lo i, hi i)) = cst (oneS op r v x l h) := by
            simp only [valS, hv, e, Int.toNat_natCast]
            rw [if_neg (by omega), if_neg (by omega), if_neg (by omega), if_pos trivial]
          rw [eS, show k + 4 = (k + 2) + 2 from rfl, sp1, hz, hv]
          refine has_cut v1 v2 hz2 e (fun a ha1 ha2 ha3 => ?_)
          rw [value1 r1 r2 v1 v2 ha1 hx op (by omega) (by omega) (fun h => by have := hr h; omega) hv rfl]
          exact fin_true r1 r2 (snd_one op (by omega) v1 r1 r2 (by omega) (fun h => by have := hr h; omega) (fun h => by have := hr2 h; omega) ha2 ha3 hh)
        · obtain ⟨l, h, e, hl0, hh⟩ := nrm_nat (v := 1) (by decide) (by decide) (hi := hi 0) (hl 0)
          obtain ⟨l1, k1, e1, hl1, hk1⟩ := nrm_nat r1 r2 (hi := hi 1) (hl 1)
          obtain ⟨l2, k2, e2, hl2, hk2⟩ := nrm_nat r1 r2 (hi := hi 2) (hl 2)
          obtain ⟨z, hz, hz2⟩ := u64_of (hy0 0)
          obtain ⟨z1, hz1, hz12⟩ := u64_of (hy0 1)
          obtain ⟨z2, hz2', hz22⟩ := u64_of (hy0 2)
          rw [mask1] at hh
          have eS : valS 19 r x 3 g (fun i => nrm (MM (g i)) (lo i, hi i)) = cst (if l = h then (if l = 1 then (l1, k1) else (l2, k2)) else (min l1 l2, max k1 k2)) := by
            simp only [valS, g0, g1, g2, show (1 : Int) = ((1 : Nat) : Int) from rfl, e, e1, e2, Int.natCast_inj]
            rw [if_neg (show ¬ ((19 : Int) = ((1 : Nat) : Int)) by decide), if_neg (by decide), if_pos trivial]
            unfold cst jn
            rw [mn_min, mx_max]
            split
            · split <;> rfl
            · rfl
          rw [eS, sp3, hz, hz1, hz2', g0, g1, g2, show (1 : Int) = ((1 : Nat) : Int) from rfl]
          refine has_cut (by decide) (by decide) hz2 e (fun a ha1 ha2 ha3 => ?_)
          refine has_cut r1 r2 hz12 e1 (fun b hb1 hb2 hb3 => ?_)
          refine has_cut r1 r2 hz22 e2 (fun c hc1 hc2 hc3 => ?_)
          rw [value3]
          have q0 : cat 2 (cat 1 (cat 0 (fun _ => 0) (fun i => [(a : Int)].getD i 0)) (fun i => [(b : Int)].getD i 0)) (fun i => [(c : Int)].getD i 0) 0 = (a : Int) := rfl
          have q1 : cat 2 (cat 1 (cat 0 (fun _ => 0) (fun i => [(a : Int)].getD i 0)) (fun i => [(b : Int)].getD i 0)) (fun i => [(c : Int)].getD i 0) 1 = (b : Int) := rfl
          have q2 : cat 2 (cat 1 (cat 0 (fun _ => 0) (fun i => [(a : Int)].getD i 0)) (fun i => [(b : Int)].getD i 0)) (fun i => [(c : Int)].getD i 0) 2 = (c : Int) := rfl
          rw [q0, q1, q2]
          by_cases d : a = 1
          · rw [if_pos (show (a : Int) = 1 by omega)]
            refine fin_true r1 r2 ?_
            by_cases f : l = h
            · rw [if_pos f, if_pos (by omega)]; exact ⟨hb2, hb3, hk1⟩
            · rw [if_neg f]
              exact ⟨by show min l1 l2 ≤ _; omega, by show _ ≤ max k1 k2; omega, by show max k1 k2 ≤ _; omega⟩
          · rw [if_neg (show ¬ (a : Int) = 1 by omega)]
            refine fin_true r1 r2 ?_
            by_cases f : l = h
            · rw [if_pos f, if_neg (by omega)]; exact ⟨hc2, hc3, hk2⟩
            · rw [if_neg f]
              exact ⟨by show min l1 l2 ≤ _; omega, by show _ ≤ max k1 k2; omega, by show max k1 k2 ≤ _; omega⟩
        · obtain ⟨v, hv, v1, v2⟩ := nat_of (hg 0 (by omega)).1 (hg 0 (by omega)).2
          obtain ⟨u, hu, u1, u2⟩ := nat_of (hg 1 (by omega)).1 (hg 1 (by omega)).2
          obtain ⟨l, h, e, hl0, hh⟩ := nrm_nat v1 v2 (hi := hi 0) (hl 0)
          obtain ⟨l1, k1, e1, hl1, hk1⟩ := nrm_nat u1 u2 (hi := hi 1) (hl 1)
          obtain ⟨z, hz, hz2⟩ := u64_of (hy0 0)
          obtain ⟨z1, hz1, hz12⟩ := u64_of (hy0 1)
          have eS : valS 20 r x 2 g (fun i => nrm (MM (g i)) (lo i, hi i)) = cst (twoS 20 v u l h l1 k1) := by
            simp only [valS, hv, hu, e, e1, Int.toNat_natCast]; rfl
          have hrr : r = v + u := by omega
          rw [eS, show k + 4 = (k + 1) + 3 from rfl, sp2, hz, hz1, hv, hu]
          refine has_cut v1 v2 hz2 e (fun a ha1 ha2 ha3 => ?_)
          refine has_cut u1 u2 hz12 e1 (fun b hb1 hb2 hb3 => ?_)
          rw [value2 v1 v2 u1 u2 ha1 hb1 20 (by decide) (by decide) (by decide) hv hu rfl rfl]
          refine fin_true r1 r2 ?_
          have := snd_two 20 (by decide) (by decide) (by decide) v1 (fun h => absurd rfl h) (fun _ => by omega) ha2 ha3 hh hb2 hb3 hk1
          rw [if_pos rfl] at this
          rw [hrr]; exact this
        · obtain ⟨v, hv, v1, v2⟩ := nat_of (hg 0 (by omega)).1 (hg 0 (by omega)).2
          have hu : g 1 = (v : Int) := by omega
          obtain ⟨l, h, e, hl0, hh⟩ := nrm_nat v1 v2 (hi := hi 0) (hl 0)
          obtain ⟨l1, k1, e1, hl1, hk1⟩ := nrm_nat v1 v2 (hi := hi 1) (hl 1)
          obtain ⟨z, hz, hz2⟩ := u64_of (hy0 0)
          obtain ⟨z1, hz1, hz12⟩ := u64_of (hy0 1)
          have eS : valS op r x 2 g (fun i => nrm (MM (g i)) (lo i, hi i)) = cst (twoS op v v l h l1 k1) := by
            simp only [valS, hv, hu, e, e1, Int.toNat_natCast]
            rw [if_neg (by omega), if_neg (by omega), if_neg (by omega), if_neg (by decide)]
          have hrr : r = 1 := by omega
          rw [eS, show k + 4 = (k + 1) + 3 from rfl, sp2, hz, hz1, hv, hu]
          refine has_cut v1 v2 hz2 e (fun a ha1 ha2 ha3 => ?_)
          refine has_cut v1 v2 hz12 e1 (fun b hb1 hb2 hb3 => ?_)
          rw [value2 v1 v2 v1 v2 ha1 hb1 op (by omega) (by omega) (by omega) hv hu rfl rfl]
          refine fin_true r1 r2 ?_
          have := snd_two op (by omega) (by omega) (by omega) v1 (fun _ => rfl) (fun _ => by omega) ha2 ha3 hh hb2 hb3 hk1
          rw [if_neg (by omega), if_pos (by omega)] at this
          rw [hrr]; exact this
        · obtain ⟨v, hv, v1, v2⟩ := nat_of (hg 0 (by omega)).1 (hg 0 (by omega)).2
          have hu : g 1 = (v : Int) := by omega
          obtain ⟨l, h, e, hl0, hh⟩ := nrm_nat v1 v2 (hi := hi 0) (hl 0)
          obtain ⟨l1, k1, e1, hl1, hk1⟩ := nrm_nat v1 v2 (hi := hi 1) (hl 1)
          obtain ⟨z, hz, hz2⟩ := u64_of (hy0 0)
          obtain ⟨z1, hz1, hz12⟩ := u64_of (hy0 1)
          have eS : valS op r x 2 g (fun i => nrm (MM (g i)) (lo i, hi i)) = cst (twoS op v v l h l1 k1) := by
            simp only [valS, hv, hu, e, e1, Int.toNat_natCast]
            rw [if_neg (by omega), if_neg (by omega), if_neg (by omega), if_neg (by decide)]
          have hrr : r = v := by omega
          rw [eS, show k + 4 = (k + 1) + 3 from rfl, sp2, hz, hz1, hv, hu]
          refine has_cut v1 v2 hz2 e (fun a ha1 ha2 ha3 => ?_)
          refine has_cut v1 v2 hz12 e1 (fun b hb1 hb2 hb3 => ?_)
          rw [value2 v1 v2 v1 v2 ha1 hb1 op (by omega) (by omega) (by omega) hv hu rfl rfl]
          refine fin_true r1 r2 ?_
          have := snd_two op (by omega) (by omega) (by omega) v1 (fun _ => rfl) (fun _ => by omega) ha2 ha3 hh hb2 hb3 hk1
          rw [if_neg (by omega), if_neg (by omega)] at this
          rw [hrr]; exact this
    · rw [show ((N : Int) != (m : Int)) = true by rw [bne_iff_ne]; omega, ct]
end Go.Proofs.Ytchahcaccneinaa.Th
