/- Apply on ranges: one specification that program and reference both meet. Facts: Apply of the program and of the reference compute the same; what it is. Terms: the facts of a term, by the program and by the reference, are the same. lives() of the chapter on facts: its examples, one by one. -/
import Derived.Test.YtcihbcffokjgjaaGreatOF11
import Derived.Test.YtcihbcffokjgjaaGreatOF3
import Derived.Test.YtcihbcffokjgjaaGreatOTy
import Derived.Test.YtcihbcffokjgjaaGreatOF2
import Derived.Test.YtcihbcffokjgjaaGreatOF8
import Derived.Test.YtcihbcffokjgjaaGreatOFb
import Derived.Test.YtcihbcffokjgjaaGreatOTv
import Derived.Test.YtcihbcffokjgjaaGreatOOpn
import Derived.Test.YtcihbcffokjgjaaGreatOMc
namespace Go.Proofs.YtcihbcffokjgjaaGreat.Fn
open Go Go.RowKit Go.Proofs.YtcihbcffokjgjaaGreat.Ev Go.Proofs.YtcihbcffokjgjaaGreat.Bv
set_option linter.unusedVariables false
set_option linter.unusedSimpArgs false
set_option maxRecDepth 100000
theorem rp01 (fu k : Nat) (r x : Int) (g lo hi : Nat → Int) : saturateref13_Apply.j6 fu (k + 1) 1 x 0 0 r 0 0 0 g 0 lo hi 0 0 0 (fun i => [0].getD i 0) (fun i => [0].getD i 0) =
    (saturateref01_Mask.f r).bind fun M => (saturateref13_Top.f r).bind fun t => some ((t.1, t.2), 0) := by kernel_rfl
theorem rp02 (fu k : Nat) (r x : Int) (g lo hi : Nat → Int) : saturateref13_Apply.j6 fu (k + 1) 2 x 0 0 r 0 0 0 g 0 lo hi 0 0 0 (fun i => [0].getD i 0) (fun i => [0].getD i 0) =
    (saturateref01_Mask.f r).bind fun M => (saturateref13_Const.f r x).bind fun t => some ((t.1, t.2), 0) := by kernel_rfl
theorem rp3 (fu k : Nat) (r x : Int) (g lo hi : Nat → Int) : saturateref13_Apply.j6 fu (k + 2) 3 x 1 1 r 0 0 1 g 1 lo hi 0 0 0 (fun i => [0].getD i 0) (fun i => [0].getD i 0) =
    (saturateref13_Of.f (g 0) (lo 0, hi 0)).bind fun p => (saturateref01_Mask.f r).bind fun M => some ((IntKind.u64.wrap (M - p.2), IntKind.u64.wrap (M - p.1)), 0) := by kernel_rfl
theorem rp4 (fu k : Nat) (r x : Int) (g lo hi : Nat → Int) : saturateref13_Apply.j6 fu (k + 2) 4 x 1 1 r 0 0 1 g 1 lo hi 0 0 0 (fun i => [0].getD i 0) (fun i => [0].getD i 0) =
    (saturateref13_Of.f (g 0) (lo 0, hi 0)).bind fun p => (saturateref01_Mask.f r).bind fun M => (saturateref13_neg.f M (p.1, p.2)).bind fun t => some ((t.1, t.2), 0) := by kernel_rfl
theorem rp21 (fu k : Nat) (r x : Int) (g lo hi : Nat → Int) : saturateref13_Apply.j6 fu (k + 2) 21 x 1 1 r 0 0 1 g 1 lo hi 0 0 0 (fun i => [0].getD i 0) (fun i => [0].getD i 0) =
    (saturateref13_Of.f (g 0) (lo 0, hi 0)).bind fun p => (saturateref01_Mask.f r).bind fun M => (saturateref13_extract.f r x (g 0) (p.1, p.2)).bind fun t => some ((t.1, t.2), 0) := by kernel_rfl
theorem rp22 (fu k : Nat) (r x : Int) (g lo hi : Nat → Int) : saturateref13_Apply.j6 fu (k + 2) 22 x 1 1 r 0 0 1 g 1 lo hi 0 0 0 (fun i => [0].getD i 0) (fun i => [0].getD i 0) =
    (saturateref13_Of.f (g 0) (lo 0, hi 0)).bind fun p => (saturateref01_Mask.f r).bind fun M => some ((p.1, p.2), 0) := by kernel_rfl
theorem rp23 (fu k : Nat) (r x : Int) (g lo hi : Nat → Int) : saturateref13_Apply.j6 fu (k + 2) 23 x 1 1 r 0 0 1 g 1 lo hi 0 0 0 (fun i => [0].getD i 0) (fun i => [0].getD i 0) =
    (saturateref13_Of.f (g 0) (lo 0, hi 0)).bind fun p => (saturateref01_Mask.f r).bind fun M => (saturateref13_sext.f r (g 0) (p.1, p.2)).bind fun t => some ((t.1, t.2), 0) := by kernel_rfl
theorem rp20 (fu k : Nat) (r x : Int) (g lo hi : Nat → Int) : saturateref13_Apply.j6 fu (k + 3) 20 x 2 2 r 0 0 2 g 2 lo hi 0 0 0 (fun i => [0].getD i 0) (fun i => [0].getD i 0) =
    (saturateref13_Of.f (g 0) (lo 0, hi 0)).bind fun p => (saturateref13_Of.f (g 1) (lo 1, hi 1)).bind fun q => (saturateref01_Mask.f r).bind fun M =>
      (saturateref01_Concat.f (g 0) (g 1) p.1 q.1).bind fun a => (saturateref01_Concat.f (g 0) (g 1) p.2 q.2).bind fun b => some ((a, b), 0) := by kernel_rfl
theorem rpT5 (fu k : Nat) (r x : Int) (g lo hi : Nat → Int) : saturateref13_Apply.j6 fu (k + 3) 5 x 2 2 r 0 0 2 g 2 lo hi 0 0 0 (fun i => [0].getD i 0) (fun i => [0].getD i 0) =
    (saturateref13_Of.f (g 0) (lo 0, hi 0)).bind fun p => (saturateref13_Of.f (g 1) (lo 1, hi 1)).bind fun q => (saturateref01_Mask.f r).bind fun M =>
      (saturateref13_two.f 5 r (g 0) (p.1, p.2) (q.1, q.2)).bind fun t => some ((t.1, t.2), 0) := by kernel_rfl
theorem rpT6 (fu k : Nat) (r x : Int) (g lo hi : Nat → Int) : saturateref13_Apply.j6 fu (k + 3) 6 x 2 2 r 0 0 2 g 2 lo hi 0 0 0 (fun i => [0].getD i 0) (fun i => [0].getD i 0) =
    (saturateref13_Of.f (g 0) (lo 0, hi 0)).bind fun p => (saturateref13_Of.f (g 1) (lo 1, hi 1)).bind fun q => (saturateref01_Mask.f r).bind fun M =>
      (saturateref13_two.f 6 r (g 0) (p.1, p.2) (q.1, q.2)).bind fun t => some ((t.1, t.2), 0) := by kernel_rfl
theorem rpT7 (fu k : Nat) (r x : Int) (g lo hi : Nat → Int) : saturateref13_Apply.j6 fu (k + 3) 7 x 2 2 r 0 0 2 g 2 lo hi 0 0 0 (fun i => [0].getD i 0) (fun i => [0].getD i 0) =
    (saturateref13_Of.f (g 0) (lo 0, hi 0)).bind fun p => (saturateref13_Of.f (g 1) (lo 1, hi 1)).bind fun q => (saturateref01_Mask.f r).bind fun M =>
      (saturateref13_two.f 7 r (g 0) (p.1, p.2) (q.1, q.2)).bind fun t => some ((t.1, t.2), 0) := by kernel_rfl
theorem rpT8 (fu k : Nat) (r x : Int) (g lo hi : Nat → Int) : saturateref13_Apply.j6 fu (k + 3) 8 x 2 2 r 0 0 2 g 2 lo hi 0 0 0 (fun i => [0].getD i 0) (fun i => [0].getD i 0) =
    (saturateref13_Of.f (g 0) (lo 0, hi 0)).bind fun p => (saturateref13_Of.f (g 1) (lo 1, hi 1)).bind fun q => (saturateref01_Mask.f r).bind fun M =>
      (saturateref13_two.f 8 r (g 0) (p.1, p.2) (q.1, q.2)).bind fun t => some ((t.1, t.2), 0) := by kernel_rfl
theorem rpT9 (fu k : Nat) (r x : Int) (g lo hi : Nat → Int) : saturateref13_Apply.j6 fu (k + 3) 9 x 2 2 r 0 0 2 g 2 lo hi 0 0 0 (fun i => [0].getD i 0) (fun i => [0].getD i 0) =
    (saturateref13_Of.f (g 0) (lo 0, hi 0)).bind fun p => (saturateref13_Of.f (g 1) (lo 1, hi 1)).bind fun q => (saturateref01_Mask.f r).bind fun M =>
      (saturateref13_two.f 9 r (g 0) (p.1, p.2) (q.1, q.2)).bind fun t => some ((t.1, t.2), 0) := by kernel_rfl
theorem rpT10 (fu k : Nat) (r x : Int) (g lo hi : Nat → Int) : saturateref13_Apply.j6 fu (k + 3) 10 x 2 2 r 0 0 2 g 2 lo hi 0 0 0 (fun i => [0].getD i 0) (fun i => [0].getD i 0) =
    (saturateref13_Of.f (g 0) (lo 0, hi 0)).bind fun p => (saturateref13_Of.f (g 1) (lo 1, hi 1)).bind fun q => (saturateref01_Mask.f r).bind fun M =>
      (saturateref13_two.f 10 r (g 0) (p.1, p.2) (q.1, q.2)).bind fun t => some ((t.1, t.2), 0) := by kernel_rfl
theorem rpT11 (fu k : Nat) (r x : Int) (g lo hi : Nat → Int) : saturateref13_Apply.j6 fu (k + 3) 11 x 2 2 r 0 0 2 g 2 lo hi 0 0 0 (fun i => [0].getD i 0) (fun i => [0].getD i 0) =
    (saturateref13_Of.f (g 0) (lo 0, hi 0)).bind fun p => (saturateref13_Of.f (g 1) (lo 1, hi 1)).bind fun q => (saturateref01_Mask.f r).bind fun M =>
      (saturateref13_two.f 11 r (g 0) (p.1, p.2) (q.1, q.2)).bind fun t => some ((t.1, t.2), 0) := by kernel_rfl
theorem rpT12 (fu k : Nat) (r x : Int) (g lo hi : Nat → Int) : saturateref13_Apply.j6 fu (k + 3) 12 x 2 2 r 0 0 2 g 2 lo hi 0 0 0 (fun i => [0].getD i 0) (fun i => [0].getD i 0) =
    (saturateref13_Of.f (g 0) (lo 0, hi 0)).bind fun p => (saturateref13_Of.f (g 1) (lo 1, hi 1)).bind fun q => (saturateref01_Mask.f r).bind fun M =>
      (saturateref13_two.f 12 r (g 0) (p.1, p.2) (q.1, q.2)).bind fun t => some ((t.1, t.2), 0) := by kernel_rfl
theorem rpT13 (fu k : Nat) (r x : Int) (g lo hi : Nat → Int) : saturateref13_Apply.j6 fu (k + 3) 13 x 2 2 r 0 0 2 g 2 lo hi 0 0 0 (fun i => [0].getD i 0) (fun i => [0].getD i 0) =
    (saturateref13_Of.f (g 0) (lo 0, hi 0)).bind fun p => (saturateref13_Of.f (g 1) (lo 1, hi 1)).bind fun q => (saturateref01_Mask.f r).bind fun M =>
      (saturateref13_two.f 13 r (g 0) (p.1, p.2) (q.1, q.2)).bind fun t => some ((t.1, t.2), 0) := by kernel_rfl
theorem rpT14 (fu k : Nat) (r x : Int) (g lo hi : Nat → Int) : saturateref13_Apply.j6 fu (k + 3) 14 x 2 2 r 0 0 2 g 2 lo hi 0 0 0 (fun i => [0].getD i 0) (fun i => [0].getD i 0) =
    (saturateref13_Of.f (g 0) (lo 0, hi 0)).bind fun p => (saturateref13_Of.f (g 1) (lo 1, hi 1)).bind fun q => (saturateref01_Mask.f r).bind fun M =>
      (saturateref13_two.f 14 r (g 0) (p.1, p.2) (q.1, q.2)).bind fun t => some ((t.1, t.2), 0) := by kernel_rfl
theorem rpT15 (fu k : Nat) (r x : Int) (g lo hi : Nat → Int) : saturateref13_Apply.j6 fu (k + 3) 15 x 2 2 r 0 0 2 g 2 lo hi 0 0 0 (fun i => [0].getD i 0) (fun i => [0].getD i 0) =
    (saturateref13_Of.f (g 0) (lo 0, hi 0)).bind fun p => (saturateref13_Of.f (g 1) (lo 1, hi 1)).bind fun q => (saturateref01_Mask.f r).bind fun M =>
      (saturateref13_two.f 15 r (g 0) (p.1, p.2) (q.1, q.2)).bind fun t => some ((t.1, t.2), 0) := by kernel_rfl
theorem rpT16 (fu k : Nat) (r x : Int) (g lo hi : Nat → Int) : saturateref13_Apply.j6 fu (k + 3) 16 x 2 2 r 0 0 2 g 2 lo hi 0 0 0 (fun i => [0].getD i 0) (fun i => [0].getD i 0) =
    (saturateref13_Of.f (g 0) (lo 0, hi 0)).bind fun p => (saturateref13_Of.f (g 1) (lo 1, hi 1)).bind fun q => (saturateref01_Mask.f r).bind fun M =>
      (saturateref13_two.f 16 r (g 0) (p.1, p.2) (q.1, q.2)).bind fun t => some ((t.1, t.2), 0) := by kernel_rfl
theorem rpT17 (fu k : Nat) (r x : Int) (g lo hi : Nat → Int) : saturateref13_Apply.j6 fu (k + 3) 17 x 2 2 r 0 0 2 g 2 lo hi 0 0 0 (fun i => [0].getD i 0) (fun i => [0].getD i 0) =
    (saturateref13_Of.f (g 0) (lo 0, hi 0)).bind fun p => (saturateref13_Of.f (g 1) (lo 1, hi 1)).bind fun q => (saturateref01_Mask.f r).bind fun M =>
      (saturateref13_two.f 17 r (g 0) (p.1, p.2) (q.1, q.2)).bind fun t => some ((t.1, t.2), 0) := by kernel_rfl
theorem rpT18 (fu k : Nat) (r x : Int) (g lo hi : Nat → Int) : saturateref13_Apply.j6 fu (k + 3) 18 x 2 2 r 0 0 2 g 2 lo hi 0 0 0 (fun i => [0].getD i 0) (fun i => [0].getD i 0) =
    (saturateref13_Of.f (g 0) (lo 0, hi 0)).bind fun p => (saturateref13_Of.f (g 1) (lo 1, hi 1)).bind fun q => (saturateref01_Mask.f r).bind fun M =>
      (saturateref13_two.f 18 r (g 0) (p.1, p.2) (q.1, q.2)).bind fun t => some ((t.1, t.2), 0) := by kernel_rfl
theorem rpTwo (fu k : Nat) (op r x : Int) (g lo hi : Nat → Int) (ho : 5 ≤ op) (ho2 : op ≤ 18) : saturateref13_Apply.j6 fu (k + 3) op x 2 2 r 0 0 2 g 2 lo hi 0 0 0 (fun i => [0].getD i 0) (fun i => [0].getD i 0) =
    (saturateref13_Of.f (g 0) (lo 0, hi 0)).bind fun p => (saturateref13_Of.f (g 1) (lo 1, hi 1)).bind fun q => (saturateref01_Mask.f r).bind fun M =>
      (saturateref13_two.f op r (g 0) (p.1, p.2) (q.1, q.2)).bind fun t => some ((t.1, t.2), 0) := by
  have hs : op = 5 ∨ op = 6 ∨ op = 7 ∨ op = 8 ∨ op = 9 ∨ op = 10 ∨ op = 11 ∨ op = 12 ∨ op = 13 ∨ op = 14 ∨ op = 15 ∨ op = 16 ∨ op = 17 ∨ op = 18 := by omega
  clear ho ho2
  rcases hs with rfl | rfl | rfl | rfl | rfl | rfl | rfl | rfl | rfl | rfl | rfl | rfl | rfl | rfl
  · exact rpT5 fu k r x g lo hi
  · exact rpT6 fu k r x g lo hi
  · exact rpT7 fu k r x g lo hi
  · exact rpT8 fu k r x g lo hi
  · exact rpT9 fu k r x g lo hi
  · exact rpT10 fu k r x g lo hi
  · exact rpT11 fu k r x g lo hi
  · exact rpT12 fu k r x g lo hi
  · exact rpT13 fu k r x g lo hi
  · exact rpT14 fu k r x g lo hi
  · exact rpT15 fu k r x g lo hi
  · exact rpT16 fu k r x g lo hi
  · exact rpT17 fu k r x g lo hi
  · exact rpT18 fu k r x g lo hi
theorem rp19 (fu k : Nat) (r x : Int) (g lo hi : Nat → Int) : saturateref13_Apply.j6 fu (k + 4) 19 x 3 3 r 0 0 3 g 3 lo hi 0 0 0 (fun i => [0].getD i 0) (fun i => [0].getD i 0) =
    (saturateref13_Of.f (g 0) (lo 0, hi 0)).bind fun p => (saturateref13_Of.f (g 1) (lo 1, hi 1)).bind fun q => (saturateref13_Of.f (g 2) (lo 2, hi 2)).bind fun s => (saturateref01_Mask.f r).bind fun M =>
      bif p.1 != p.2 then (saturateref13_Join.f r (q.1, q.2) (s.1, s.2)).bind fun t => some ((t.1, t.2), 0)
      else bif decide (0 ≤ IntKind.i64.wrap (2 - IntKind.i64.wrap p.1)) then bif decide (IntKind.i64.wrap (2 - IntKind.i64.wrap p.1) < ((3 : Nat) : Int)) then
        some ((cat 2 (cat 1 (cat 0 (fun i => [0].getD i 0) (fun i => [p.1].getD i 0)) (fun i => [q.1].getD i 0)) (fun i => [s.1].getD i 0) (IntKind.i64.wrap (2 - IntKind.i64.wrap p.1)).toNat,
          cat 2 (cat 1 (cat 0 (fun i => [0].getD i 0) (fun i => [p.2].getD i 0)) (fun i => [q.2].getD i 0)) (fun i => [s.2].getD i 0) (IntKind.i64.wrap (2 - IntKind.i64.wrap p.1)).toNat), 0) else none else none := by kernel_rfl
def valS (op r : Int) (x n : Nat) (g : Nat → Int) (q : Nat → Int × Int) : Int × Int :=
  if op = 1 then (0, MM r) else if op = 2 then ((vcut (W r) x : Int), (vcut (W r) x : Int))
  else if op = 19 then (if (q 0).1 = (q 0).2 then (if (q 0).1 = 1 then q 1 else q 2) else jn (q 1) (q 2))
  else if n = 1 then cst (oneS op r.toNat (g 0).toNat x (q 0).1.toNat (q 0).2.toNat)
  else cst (twoS op (g 0).toNat (g 1).toNat (q 0).1.toNat (q 0).2.toNat (q 1).1.toNat (q 1).2.toNat)
noncomputable def resS (op w : Int) (x n m : Nat) (g lo hi : Nat → Int) : (Int × Int) × Int :=
  if (chkS op w x n m g).2 ≠ 0 then ((0, 0), (chkS op w x n m g).2) else (valS op (chkS op w x n m g).1 x n g (fun i => nrm (MM (g i)) (lo i, hi i)), 0)
theorem nrm_nat {v : Nat} (h1 : 1 ≤ v) (h2 : v ≤ 64) {lo hi : Int} (h : 0 ≤ lo) : ∃ l k : Nat, nrm (MM (v : Int)) (lo, hi) = ((l : Int), (k : Int)) ∧ l ≤ k ∧ k ≤ vmask v := by
  obtain ⟨a1, a2, a3⟩ := nrm_ok (MM_nn v) (r := (lo, hi)) h
  rw [MMn h1 h2] at *
  generalize nrm (vmask v : Int) (lo, hi) = p at *
  obtain ⟨p1, p2⟩ := p
  simp only at a1 a2 a3
  exact ⟨p1.toNat, p2.toNat, by rw [Int.toNat_of_nonneg a1, Int.toNat_of_nonneg (by omega)], by omega, by omega⟩
theorem fuel_is : ∃ k, fuel0 + 1 = k + 4 := ⟨fuel0 - 3, by unfold fuel0; omega⟩
theorem apply_prog {op w : Int} {x : Nat} (hx : x < 18446744073709551616) (n m : Nat) (g lo hi : Nat → Int) (hlo : ∀ i, 0 ≤ lo i) : ranges_Apply.f op w x (n, g) (m, lo, hi) = some (resS op w x n m g lo hi) := by
  unfold ranges_Apply.f ranges_Apply.g resS
  simp only [ranges_check_eq hx, Option.bind_some]
  by_cases hc : (chkS op w x n m g).2 ≠ 0
  · rw [if_pos hc, show ((chkS op w x n m g).2 != 0) = true by rw [bne_iff_ne]; exact hc]; rfl
  · have hc0 := Decidable.not_not.1 hc
    obtain ⟨h1, h2, rfl, ha, hg, he, e0, e1⟩ := chkS_ok hc0
    rw [if_neg hc, show ((chkS op w x m m g).2 != 0) = false by rw [bne_eq_false_iff_eq]; exact hc0, cond_false, he]
    obtain ⟨r1, r2, hcases⟩ := widthT_ok h1 h2 ha hg e0 e1
    generalize (widthT op w x g).1 = r at *
    clear he e0 e1 hc hc0 ha
    obtain ⟨r, rfl, r1, r2⟩ := nat_of r1 r2
    obtain ⟨k, hk⟩ := fuel_is
    rw [hk]
    rcases hcases with ⟨ho, rfl⟩ | ⟨ho, rfl, hr⟩ | ⟨ho, rfl, hr, hr2⟩ | ⟨rfl, rfl, g0, g1, g2⟩ | ⟨rfl, rfl, hr⟩ | ⟨ho, rfl, g1, hr⟩ | ⟨ho, rfl, g1, hr⟩
    · rw [ap0]
      rcases ho with rfl | rfl
      · simp only [Int.reduceBEq, cond_false, cond_true, ranges_Top_eq, Option.bind_some, valS, if_true]
      · simp only [Int.reduceBEq, cond_false, cond_true, ranges_Const_eq _ hx, Option.bind_some, valS, Int.reduceEq, if_true, if_false]
    · obtain ⟨v, hv, v1, v2⟩ := nat_of (hg 0 (by omega)).1 (hg 0 (by omega)).2
      obtain ⟨l, h, e, hl, hh⟩ := nrm_nat v1 v2 (hi := hi 0) (hlo 0)
      rw [ap1, ranges_norm_eq, hv, e]
      simp only [Option.bind_some]
      rw [unary_prog v1 v2 r1 r2 hx hl hh (by omega) (fun _ => by omega) (by omega)]
      simp only [Option.bind_some, valS, hv, e, Int.toNat_natCast]
      rw [if_neg (by omega), if_neg (by omega), if_neg (by omega), if_pos trivial]
    · obtain ⟨v, hv, v1, v2⟩ := nat_of (hg 0 (by omega)).1 (hg 0 (by omega)).2
      obtain ⟨l, h, e, hl, hh⟩ := nrm_nat v1 v2 (hi := hi 0) (hlo 0)
      rw [ap1, ranges_norm_eq, hv, e]
      simp only [Option.bind_some]
      rw [unary_prog v1 v2 r1 r2 hx hl hh (by omega) (by omega) (fun h => by have := hr h; omega)]
      simp only [Option.bind_some, valS, hv, e, Int.toNat_natCast]
      rw [if_neg (by omega), if_neg (by omega), if_neg (by omega), if_pos trivial]
    · obtain ⟨l, h, e, hl, hh⟩ := nrm_nat (v := 1) (by decide) (by decide) (hi := hi 0) (hlo 0)
      obtain ⟨l1, k1, e1, hl1, hk1⟩ := nrm_nat r1 r2 (hi := hi 1) (hlo 1)
      obtain ⟨l2, k2, e2, hl2, hk2⟩ := nrm_nat r1 r2 (hi := hi 2) (hlo 2)
      rw [ap3, ranges_norm_eq, ranges_norm_eq, ranges_norm_eq, g0, g1, g2, show (1 : Int) = ((1 : Nat) : Int) from rfl, e, e1, e2]
      have f1 := e1
      have f2 := e2
      rw [MMn r1 r2] at f1 f2
      simp only [Option.bind_some, valS, g0, g1, g2, show (1 : Int) = ((1 : Nat) : Int) from rfl, e, e1, e2, f1, f2, ranges_Join_eq, MMn r1 r2]
      unfold ranges_single.f
      rw [nrm_of (r := ((l1 : Int), (k1 : Int))) (by simp only; omega) (by simp only; omega), nrm_of (r := ((l2 : Int), (k2 : Int))) (by simp only; omega) (by simp only; omega)]
      simp only [Option.bind_some, beq_nat, Int.natCast_inj]
      rw [if_neg (show ¬ ((19 : Int) = ((1 : Nat) : Int)) by decide), if_neg (by decide), if_pos trivial]
      by_cases c : l = h
      · rw [if_pos c, decide_eq_true c, Bool.not_true, cond_false]
        by_cases d : l = 1
        · rw [if_pos d, bifd_pos d]
        · rw [if_neg d, bifd_neg d]
      · rw [if_neg c, decide_eq_false c]; rfl
    · obtain ⟨v, hv, v1, v2⟩ := nat_of (hg 0 (by omega)).1 (hg 0 (by omega)).2
      obtain ⟨u, hu, u1, u2⟩ := nat_of (hg 1 (by omega)).1 (hg 1 (by omega)).2
      obtain ⟨l, h, e, hl, hh⟩ := nrm_nat v1 v2 (hi := hi 0) (hlo 0)
      obtain ⟨l1, k1, e1, hl1, hk1⟩ := nrm_nat u1 u2 (hi := hi 1) (hlo 1)
      rw [show k + 4 = (k + 1) + 3 from rfl, ap2, ranges_norm_eq, ranges_norm_eq, hv, hu, e, e1]
      simp only [Option.bind_some]
      rw [binary_prog v1 v2 u1 u2 hl hh hl1 hk1 (by decide) (by decide) (by decide) (fun h => absurd rfl h)]
      simp only [Option.bind_some, valS, hv, hu, e, e1, Int.toNat_natCast]
      rfl
    · obtain ⟨v, hv, v1, v2⟩ := nat_of (hg 0 (by omega)).1 (hg 0 (by omega)).2
      have hu : g 1 = (v : Int) := by omega
      obtain ⟨l, h, e, hl, hh⟩ := nrm_nat v1 v2 (hi := hi 0) (hlo 0)
      obtain ⟨l1, k1, e1, hl1, hk1⟩ := nrm_nat v1 v2 (hi := hi 1) (hlo 1)
      rw [show k + 4 = (k + 1) + 3 from rfl, ap2, ranges_norm_eq, ranges_norm_eq, hv, hu, e, e1]
      simp only [Option.bind_some]
      rw [binary_prog v1 v2 v1 v2 hl hh hl1 hk1 (by omega) (by omega) (by omega) (fun _ => rfl)]
      simp only [Option.bind_some, valS, hv, hu, e, e1, Int.toNat_natCast]
      rw [if_neg (by omega), if_neg (by omega), if_neg (by omega), if_neg (by decide)]
    · obtain ⟨v, hv, v1, v2⟩ := nat_of (hg 0 (by omega)).1 (hg 0 (by omega)).2
      have hu : g 1 = (v : Int) := by omega
      obtain ⟨l, h, e, hl, hh⟩ := nrm_nat v1 v2 (hi := hi 0) (hlo 0)
      obtain ⟨l1, k1, e1, hl1, hk1⟩ := nrm_nat v1 v2 (hi := hi 1) (hlo 1)
      rw [show k + 4 = (k + 1) + 3 from rfl, ap2, ranges_norm_eq, ranges_norm_eq, hv, hu, e, e1]
      simp only [Option.bind_some]
      rw [binary_prog v1 v2 v1 v2 hl hh hl1 hk1 (by omega) (by omega) (by omega) (fun _ => rfl)]
      simp only [Option.bind_some, valS, hv, hu, e, e1, Int.toNat_natCast]
      rw [if_neg (by omega), if_neg (by omega), if_neg (by omega), if_neg (by decide)]
theorem apply_ref {op w : Int} {x : Nat} (hx : x < 18446744073709551616) (n m : Nat) (g lo hi : Nat → Int) (hlo : ∀ i, 0 ≤ lo i) : saturateref13_Apply.f op w x (n, g) (m, lo, hi) = some (resS op w x n m g lo hi) := by
  unfold saturateref13_Apply.f saturateref13_Apply.g resS
  simp only [saturateref13_Refused_eq hx, Option.bind_some]
  by_cases hc : (chkS op w x n m g).2 ≠ 0
  · rw [if_pos hc, show ((chkS op w x n m g).2 != 0) = true by rw [bne_iff_ne]; exact hc]; rfl
  · have hc0 := Decidable.not_not.1 hc
    obtain ⟨h1, h2, rfl, ha, hg, he, e0, e1⟩ := chkS_ok hc0
    rw [if_neg hc, show ((chkS op w x m m g).2 != 0) = false by rw [bne_eq_false_iff_eq]; exact hc0, cond_false, he]
    obtain ⟨r1, r2, hcases⟩ := widthT_ok h1 h2 ha hg e0 e1
    generalize (widthT op w x g).1 = r at *
    clear he e0 e1 hc hc0 ha
    obtain ⟨r, rfl, r1, r2⟩ := nat_of r1 r2
    obtain ⟨k, hk⟩ := fuel_is
    rw [hk]
    rcases hcases with ⟨ho, rfl⟩ | ⟨ho, rfl, hr⟩ | ⟨ho, rfl, hr, hr2⟩ | ⟨rfl, rfl, g0, g1, g2⟩ | ⟨rfl, rfl, hr⟩ | ⟨ho, rfl, g1, hr⟩ | ⟨ho, rfl, g1, hr⟩
    · rcases ho with rfl | rfl
      · rw [rp01]; simp only [saturateref01_Mask_eq, saturateref13_Top_eq, Option.bind_some, valS, if_true]
      · rw [rp02]; simp only [saturateref01_Mask_eq, saturateref13_Const_eq _ hx, Option.bind_some, valS, Int.reduceEq, if_true, if_false]
    · obtain ⟨v, hv, v1, v2⟩ := nat_of (hg 0 (by omega)).1 (hg 0 (by omega)).2
      obtain ⟨l, h, e, hl, hh⟩ := nrm_nat v1 v2 (hi := hi 0) (hlo 0)
      obtain rfl : r = v := by omega
      have hM := vmask_lt r2
      rcases ho with rfl | rfl
      · rw [rp3, saturateref13_Of_eq, saturateref01_Mask_eq, hv, e, W_of r1 r2]
        simp only [Option.bind_some, valS, hv, e, Int.toNat_natCast, Int.reduceEq, if_true, if_false, oneS]
        rw [wrapu_sub_le hM (by omega), wrapu_sub_le hM (by omega)]; rfl
      · rw [rp4, saturateref13_Of_eq, saturateref01_Mask_eq, hv, e, W_of r1 r2]
        simp only [Option.bind_some, valS, hv, e, Int.toNat_natCast, Int.reduceEq, if_true, if_false, oneS]
        rw [neg_ref r1 r2 hl hh]; rfl
    · obtain ⟨v, hv, v1, v2⟩ := nat_of (hg 0 (by omega)).1 (hg 0 (by omega)).2
      obtain ⟨l, h, e, hl, hh⟩ := nrm_nat v1 v2 (hi := hi 0) (hlo 0)
      rcases ho with rfl | rfl | rfl
      · rw [rp21, saturateref13_Of_eq, saturateref01_Mask_eq, hv, e, W_of r1 r2]
        simp only [Option.bind_some, valS, hv, e, Int.toNat_natCast, Int.reduceEq, if_true, if_false, oneS]
        rw [extract_ref v1 v2 r1 r2 hl hh (by have := hr rfl; omega)]; rfl
      · rw [rp22, saturateref13_Of_eq, saturateref01_Mask_eq, hv, e, W_of r1 r2]
        simp only [Option.bind_some, valS, hv, e, Int.toNat_natCast, Int.reduceEq, if_true, if_false, oneS]
        rfl
      · rw [rp23, saturateref13_Of_eq, saturateref01_Mask_eq, hv, e, W_of r1 r2]
        simp only [Option.bind_some, valS, hv, e, Int.toNat_natCast, Int.reduceEq, if_true, if_false, oneS]
        rw [sext_ref v1 v2 r1 r2 hl hh]; rfl
    · obtain ⟨l, h, e, hl, hh⟩ := nrm_nat (v := 1) (by decide) (by decide) (hi := hi 0) (hlo 0)
      obtain ⟨l1, k1, e1, hl1, hk1⟩ := nrm_nat r1 r2 (hi := hi 1) (hlo 1)
      obtain ⟨l2, k2, e2, hl2, hk2⟩ := nrm_nat r1 r2 (hi := hi 2) (hlo 2)
      rw [mask1] at hh
      rw [rp19, saturateref13_Of_eq, saturateref13_Of_eq, saturateref13_Of_eq, saturateref01_Mask_eq, g0, g1, g2, show (1 : Int) = ((1 : Nat) : Int) from rfl, e, e1, e2]
      have f1 := e1
      have f2 := e2
      rw [MMn r1 r2] at f1 f2
      simp only [Option.bind_some, valS, g0, g1, g2, show (1 : Int) = ((1 : Nat) : Int) from rfl, e, e1, e2, f1, f2, saturateref13_Join_eq, MMn r1 r2]
      rw [nrm_of (r := ((l1 : Int), (k1 : Int))) (by simp only; omega) (by simp only; omega), nrm_of (r := ((l2 : Int), (k2 : Int))) (by simp only; omega) (by simp only; omega)]
      rw [if_neg (show ¬ ((19 : Int) = ((1 : Nat) : Int)) by decide), if_neg (by decide), if_pos trivial]
      by_cases c : l = h
      · subst c
        rw [if_pos rfl, show ((l : Int) != (l : Int)) = false from bne_self_eq_false _, cond_false]
        by_cases d : l = 1
        · subst d; rw [if_pos rfl]; rfl
        · obtain rfl : l = 0 := by omega
          rw [if_neg (by decide)]; rfl
      · rw [if_neg (by omega), show ((l : Int) != (h : Int)) = true by rw [bne_iff_ne]; omega]; rfl
    · obtain ⟨v, hv, v1, v2⟩ := nat_of (hg 0 (by omega)).1 (hg 0 (by omega)).2
      obtain ⟨u, hu, u1, u2⟩ := nat_of (hg 1 (by omega)).1 (hg 1 (by omega)).2
      obtain ⟨l, h, e, hl, hh⟩ := nrm_nat v1 v2 (hi := hi 0) (hlo 0)
      obtain ⟨l1, k1, e1, hl1, hk1⟩ := nrm_nat u1 u2 (hi := hi 1) (hlo 1)
      have hM := vmask_lt v2
      have hN := vmask_lt u2
      rw [show k + 4 = (k + 1) + 3 from rfl, rp20, saturateref13_Of_eq, saturateref13_Of_eq, saturateref01_Mask_eq, hv, hu, e, e1]
      simp only [Option.bind_some]
      rw [saturateref01_Concat_eq _ _ (by omega) (by omega), Option.bind_some, saturateref01_Concat_eq _ _ (by omega) (by omega), Option.bind_some, W_of v1 v2, W_of u1 u2]
      simp only [valS, hv, hu, e, e1, Int.toNat_natCast]
      rfl
    · obtain ⟨v, hv, v1, v2⟩ := nat_of (hg 0 (by omega)).1 (hg 0 (by omega)).2
      have hu : g 1 = (v : Int) := by omega
      obtain ⟨l, h, e, hl, hh⟩ := nrm_nat v1 v2 (hi := hi 0) (hlo 0)
      obtain ⟨l1, k1, e1, hl1, hk1⟩ := nrm_nat v1 v2 (hi := hi 1) (hlo 1)
      rw [show k + 4 = (k + 1) + 3 from rfl, rpTwo _ _ _ _ _ _ _ _ (by omega) (by omega), saturateref13_Of_eq, saturateref13_Of_eq, saturateref01_Mask_eq, hv, hu, e, e1]
      simp only [Option.bind_some]
      rw [two_ref v1 v2 hl hh hl1 hk1 (by omega) (by omega) (by omega)]
      simp only [Option.bind_some, valS, hv, hu, e, e1, Int.toNat_natCast]
      rw [if_neg (by omega), if_neg (by omega), if_neg (by omega), if_neg (by decide)]
    · obtain ⟨v, hv, v1, v2⟩ := nat_of (hg 0 (by omega)).1 (hg 0 (by omega)).2
      have hu : g 1 = (v : Int) := by omega
      obtain ⟨l, h, e, hl, hh⟩ := nrm_nat v1 v2 (hi := hi 0) (hlo 0)
      obtain ⟨l1, k1, e1, hl1, hk1⟩ := nrm_nat v1 v2 (hi := hi 1) (hlo 1)
      rw [show k + 4 = (k + 1) + 3 from rfl, rpTwo _ _ _ _ _ _ _ _ (by omega) (by omega), saturateref13_Of_eq, saturateref13_Of_eq, saturateref01_Mask_eq, hv, hu, e, e1]
      simp only [Option.bind_some]
      rw [two_ref v1 v2 hl hh hl1 hk1 (by omega) (by omega) (by omega)]
      simp only [Option.bind_some, valS, hv, hu, e, e1, Int.toNat_natCast]
      rw [if_neg (by omega), if_neg (by omega), if_neg (by omega), if_neg (by decide)]
end Go.Proofs.YtcihbcffokjgjaaGreat.Fn
namespace Go.Proofs.YtcihbcffokjgjaaGreat.Fn
open Go Go.RowKit Go.Proofs.YtcihbcffokjgjaaGreat.Ev Go.Proofs.YtcihbcffokjgjaaGreat.Bv
set_option linter.unusedVariables false
set_option linter.unusedSimpArgs false
set_option maxRecDepth 100000
def opF (G z o l h : Nat → Int) (i : Nat) : F3 := ofN (G i) ((z i).toNat, (o i).toNat) ((l i).toNat, (h i).toNat)
def opW (G z o l h : Nat → Int) (i : Nat) : Int := (opF G z o l h i).1
def opZ (G z o l h : Nat → Int) (i : Nat) : Int := ((opF G z o l h i).2.1.1 : Int)
def opO (G z o l h : Nat → Int) (i : Nat) : Int := ((opF G z o l h i).2.1.2 : Int)
def opL (G z o l h : Nat → Int) (i : Nat) : Int := ((opF G z o l h i).2.2.1 : Int)
def opH (G z o l h : Nat → Int) (i : Nat) : Int := ((opF G z o l h i).2.2.2 : Int)
section
variable {G z o l h : Nat → Int} (hz : Nums z) (ho : Nums o) (hl : Nums l) (hh : Nums h)
include hz ho
theorem opF_fv (i : Nat) : Fv (opF G z o l h i).1 (opF G z o l h i).2.1 (opF G z o l h i).2.2 := by
  obtain ⟨a, ha, la⟩ := hz i
  obtain ⟨b, hb, lb⟩ := ho i
  exact ofN_fv (G i) (k := ((z i).toNat, (o i).toNat)) (by simp only; omega) (by simp only; omega)
theorem opZ_nums (n : Nat) : Nums (tr (opZ G z o l h) n) := fun i => by
  unfold tr
  split
  · exact ⟨_, rfl, (opF_fv hz ho i).kv.l1⟩
  · exact ⟨0, rfl, by decide⟩
theorem opO_nums (n : Nat) : Nums (tr (opO G z o l h) n) := fun i => by
  unfold tr
  split
  · exact ⟨_, rfl, (opF_fv hz ho i).kv.l2⟩
  · exact ⟨0, rfl, by decide⟩
omit hz ho in
theorem opL_nn (n : Nat) (i : Nat) : 0 ≤ tr (opL G z o l h) n i := by
  unfold tr
  split
  · exact Int.natCast_nonneg _
  · exact Int.le_refl _
include hl hh
theorem op_prog (i : Nat) : facts_of.f (G i, z i, o i, l i, h i) = some (opW G z o l h i, opZ G z o l h i, opO G z o l h i, opL G z o l h i, opH G z o l h i) := by
  obtain ⟨a, ha, la⟩ := hz i
  obtain ⟨b, hb, lb⟩ := ho i
  obtain ⟨c, hc, lc⟩ := hl i
  obtain ⟨d, hd, ld⟩ := hh i
  have := facts_of_eq (G i) (k := (a, b)) (r := (c, d)) la lb
  unfold opW opZ opO opL opH opF
  rw [ha, hb, hc, hd]
  exact this
theorem op_ref (i : Nat) : saturateref14_Norm.f (G i, z i, o i, l i, h i) = some (opW G z o l h i, opZ G z o l h i, opO G z o l h i, opL G z o l h i, opH G z o l h i) := by
  obtain ⟨a, ha, la⟩ := hz i
  obtain ⟨b, hb, lb⟩ := ho i
  obtain ⟨c, hc, lc⟩ := hl i
  obtain ⟨d, hd, ld⟩ := hh i
  have := saturateref14_Norm_eq (G i) (k := (a, b)) (r := (c, d)) la lb
  unfold opW opZ opO opL opH opF
  rw [ha, hb, hc, hd]
  exact this
end
noncomputable def apP (op w x : Int) (n : Nat) (g z o l h : Nat → Int) : Option (FT × Int) :=
  (known_Apply.f op w x (n, g) (n, z, o)).bind fun r2 =>
    bif (r2.2 != 0) then
      some ((0, 0, 0, 0, 0), r2.2)
    else
      (ranges_Apply.f op w x (n, g) (n, l, h)).bind fun r3 =>
      bif (r3.2 != 0) then
        some ((0, 0, 0, 0, 0), r3.2)
      else
        (opinfo_Width.f op w x (n, g)).bind fun r4 =>
        bif (r4.2 != 0) then
          some ((0, 0, 0, 0, 0), r4.2)
        else
          (facts_Reduce.f (r4.1, r2.1.1, r2.1.2, r3.1.1, r3.1.2)).bind fun r5 =>
          some ((r5.1.1, r5.1.2.1, r5.1.2.2.1, r5.1.2.2.2.1, r5.1.2.2.2.2), 0)
noncomputable def apR (op w x : Int) (n : Nat) (g z o l h : Nat → Int) : Option (FT × Int) :=
  (saturateref12_Refused.f op w x (n, g) (n : Int)).bind fun r2 =>
    bif (r2.2 != 0) then
      some ((0, 0, 0, 0, 0), r2.2)
    else
      (saturateref12_Apply.f op w x (n, g) (n, z, o)).bind fun r3 =>
      (saturateref13_Apply.f op w x (n, g) (n, l, h)).bind fun r4 =>
      (saturateref14_Reduce.f (r2.1, r3.1.1, r3.1.2, r4.1.1, r4.1.2)).bind fun r5 =>
      some ((r5.1.1, r5.1.2.1, r5.1.2.2.1, r5.1.2.2.2.1, r5.1.2.2.2.2), 0)
theorem ap_j5 (fu : Nat) (op w x : Int) {n : Nat} (hn : n ≤ 1000) {G z o l h : Nat → Int} (hz : Nums z) (ho : Nums o) (hl : Nums l) (hh : Nums h) (c0 c1 c2 c3 c4 : Int) (d : Nat) : ∀ (k i : Nat), i + d = n → d < k →
    facts_Apply.j5 fu k op w x n n n n (n : Int) (i : Int) n G z o l h c0 c1 c2 c3 c4 n (tr (opW G z o l h) i) n (tr (opZ G z o l h) i) (tr (opO G z o l h) i) n (tr (opL G z o l h) i) (tr (opH G z o l h) i) =
      apP op w x n (tr (opW G z o l h) n) (tr (opZ G z o l h) n) (tr (opO G z o l h) n) (tr (opL G z o l h) n) (tr (opH G z o l h) n) := by
  induction d with
  | zero =>
    intro k i hi hk
    obtain ⟨k, rfl⟩ : ∃ m, k = m + 1 := ⟨k - 1, by omega⟩
    obtain rfl : i = n := by omega
    rw [facts_Apply.j5_succ, bifd_neg (by omega)]; rfl
  | succ d ih =>
    intro k i hi hk
    obtain ⟨k, rfl⟩ : ∃ m, k = m + 1 := ⟨k - 1, by omega⟩
    rw [facts_Apply.j5_succ, bifd_pos (by omega), bifd_pos (by omega), bifd_pos (by omega), Int.toNat_natCast, op_prog hz ho hl hh i, Option.bind_some, bifd_pos (by omega), bifd_pos (by omega), bifd_pos (by omega), bifd_pos (by omega), bifd_pos (by omega), bifd_pos (by omega), wrapi, wrapi_succ (by omega), tr_upd, tr_upd, tr_upd, tr_upd, tr_upd]
    exact ih k (i + 1) (by omega) (by omega)
theorem ref_ap_j5 (fu : Nat) (op w x : Int) {n : Nat} (hn : n ≤ 1000) {G z o l h : Nat → Int} (hz : Nums z) (ho : Nums o) (hl : Nums l) (hh : Nums h) (c0 c1 c2 c3 c4 : Int) (d : Nat) : ∀ (k i : Nat), i + d = n → d < k →
    saturateref14_Apply.j5 fu k op w x n i i i (i : Int) n G z o l h c0 c1 c2 c3 c4 i (tr (opW G z o l h) i) i (tr (opZ G z o l h) i) (tr (opO G z o l h) i) i (tr (opL G z o l h) i) (tr (opH G z o l h) i) =
      apR op w x n (tr (opW G z o l h) n) (tr (opZ G z o l h) n) (tr (opO G z o l h) n) (tr (opL G z o l h) n) (tr (opH G z o l h) n) := by
  induction d with
  | zero =>
    intro k i hi hk
    obtain ⟨k, rfl⟩ : ∃ m, k = m + 1 := ⟨k - 1, by omega⟩
    obtain rfl : i = n := by omega
    rw [saturateref14_Apply.j5_succ, bifd_neg (by omega)]; rfl
  | succ d ih =>
    intro k i hi hk
    obtain ⟨k, rfl⟩ : ∃ m, k = m + 1 := ⟨k - 1, by omega⟩
    rw [saturateref14_Apply.j5_succ, bifd_pos (by omega), bifd_pos (by omega), bifd_pos (by omega), Int.toNat_natCast, op_ref hz ho hl hh i, Option.bind_some, ble_of (by omega), ble_of (by omega), cond_true, cond_true, cond_true, wrapi, wrapi_succ (by omega), tr_cat, tr_cat, tr_cat, tr_cat, tr_cat]
    exact ih k (i + 1) (by omega) (by omega)
theorem wid_chk {op w : Int} {x n m : Nat} {g : Nat → Int} (h : (chkS op w x n m g).2 = 0) : widthS op w x n g = chkS op w x n m g := by
  obtain ⟨h1, h2, h3, h4, h5, h6, h7, h8⟩ := chkS_ok h
  unfold chkS at h h6 ⊢
  by_cases q1 : m ≠ n
  · exact absurd h3 q1
  · rw [if_neg q1] at h h6 ⊢
    by_cases q2 : (widthS op w x n g).2 ≠ 0
    · rw [if_pos q2] at h; exact absurd h q2
    · rw [if_neg q2] at h h6 ⊢
      rw [if_neg (show ¬ (op = 24 ∨ op = 25 ∨ op = 26) by omega)] at h h6 ⊢
      by_cases q4 : (widthS op w x n g).1 = 0 ∨ ∃ j, j < n ∧ g j = 0
      · rw [if_pos q4] at h; exact absurd h (by decide)
      · rw [if_neg q4] at h h6 ⊢
        exact Prod.ext rfl (Decidable.not_not.1 q2)
theorem valS_nn {op r : Int} {x n : Nat} {g : Nat → Int} {q : Nat → Int × Int} (hq : ∀ i, 0 ≤ (q i).1 ∧ 0 ≤ (q i).2) : 0 ≤ (valS op r x n g q).1 ∧ 0 ≤ (valS op r x n g q).2 := by
  unfold valS
  split
  · exact ⟨Int.le_refl _, MM_nn _⟩
  · split
    · exact ⟨Int.natCast_nonneg _, Int.natCast_nonneg _⟩
    · split
      · split
        · split
          · exact hq 1
          · exact hq 2
        · unfold jn
          have h1 := hq 1
          have h2 := hq 2
          constructor
          · rcases mn_c (q 1).1 (q 2).1 with e | e <;> rw [e] <;> omega
          · rcases mx_c (q 1).2 (q 2).2 with e | e <;> rw [e] <;> omega
      · split
        · exact ⟨Int.natCast_nonneg _, Int.natCast_nonneg _⟩
        · exact ⟨Int.natCast_nonneg _, Int.natCast_nonneg _⟩
noncomputable def rvalN (op w : Int) (x n : Nat) (g l h : Nat → Int) : Nat × Nat := ((resS op w x n n g l h).1.1.toNat, (resS op w x n n g l h).1.2.toNat)
noncomputable def kvalN (op w : Int) (x n : Nat) (g z o : Nat → Int) : Nat × Nat := kvalS op (chkS op w x n n g).1.toNat x g (elm g z o)
theorem parts (op w : Int) {x n : Nat} (hx : x < U64) {g z o l h : Nat → Int} (hz : Nums z) (ho : Nums o) (hl : ∀ i, 0 ≤ l i) (hc : (chkS op w x n n g).2 = 0) : ∃ r : Nat, (chkS op w x n n g).1 = (r : Int) ∧ 1 ≤ r ∧ r ≤ 64 ∧ El r (kvalN op w x n g z o) ∧
    kresS op w x n n g z o = ((((kvalN op w x n g z o).1 : Int), ((kvalN op w x n g z o).2 : Int)), 0) ∧ resS op w x n n g l h = ((((rvalN op w x n g l h).1 : Int), ((rvalN op w x n g l h).2 : Int)), 0) := by
  obtain ⟨_, hn, _, _, hg, r, hr, r1, r2, hcas⟩ := chk_cas hc
  refine ⟨r, hr, r1, r2, ?_, ?_, ?_⟩
  · unfold kvalN
    rw [hr, Int.toNat_natCast]
    exact el_val hcas hg (fun i hi => by
      have hgi := hg i hi
      obtain ⟨v, hv, v1, v2⟩ := nat_of hgi.1 hgi.2
      obtain ⟨a, ha, la⟩ := hz i
      obtain ⟨b, hb, lb⟩ := ho i
      unfold elm
      rw [hv, W_of v1 v2, Int.toNat_natCast, ha, hb]; exact el_kof la lb) r1 r2
  · unfold kresS; rw [if_neg (fun e => e hc)]; rfl
  · have hv : resS op w x n n g l h = (valS op (chkS op w x n n g).1 x n g (fun i => nrm (MM (g i)) (l i, h i)), 0) := by unfold resS; rw [if_neg (fun e => e hc)]
    have hnn := valS_nn (op := op) (r := (chkS op w x n n g).1) (x := x) (n := n) (g := g) (q := fun i => nrm (MM (g i)) (l i, h i)) (fun i => by
      have := nrm_ok (MM_nn (g i)) (r := (l i, h i)) (hl i)
      omega)
    unfold rvalN
    rw [hv]
    refine Prod.ext (Prod.ext ?_ ?_) rfl
    · exact (Int.toNat_of_nonneg hnn.1).symm
    · exact (Int.toNat_of_nonneg hnn.2).symm
noncomputable def apQ (op w : Int) (x n : Nat) (g z o l h : Nat → Int) : Option ((Nat × Nat) × (Nat × Nat)) := redS (chkS op w x n n g).1 (kvalN op w x n g z o) (rvalN op w x n g l h)
theorem apQ_spec (op w : Int) {x n : Nat} (hx : x < U64) {g z o l h : Nat → Int} (hz : Nums z) (ho : Nums o) (hl : ∀ i, 0 ≤ l i) (hc : (chkS op w x n n g).2 = 0) : ∃ r : Nat, (chkS op w x n n g).1 = (r : Int) ∧ 1 ≤ r ∧ r ≤ 64 ∧
    RedP (r : Int) (kvalN op w x n g z o) (nrmN (vmask r) (rvalN op w x n g l h)) (apQ op w x n g z o l h) := by
  obtain ⟨r, hr, r1, r2, hel, _, _⟩ := parts op w hx (h := h) hz ho hl hc
  have eW : W (r : Int) = r := W_of r1 r2
  have eM : MK (r : Int) = vmask r := congrArg vmask eW
  have := (redS_spec (r : Int) (rvalN op w x n g l h) hel.l1 hel.l2).1
  rw [eW, eM, hel.kof] at this
  refine ⟨r, hr, r1, r2, ?_⟩
  unfold apQ
  rw [hr]; exact this
theorem apP_eq (op w : Int) {x n : Nat} (hx : x < U64) {g z o l h : Nat → Int} (hz : Nums z) (ho : Nums o) (hl : ∀ i, 0 ≤ l i) :
    apP op w x n g z o l h = some (if (chkS op w x n n g).2 = 0 then (fE (redF (chkS op w x n n g).1 (apQ op w x n g z o l h)), 0) else ((0, 0, 0, 0, 0), (chkS op w x n n g).2)) := by
  unfold apP
  rw [apply_prog12 hx n n hz ho, apply_prog hx n n g l h hl, opinfo_Width_eq hx]
  simp only [Option.bind_some]
  by_cases hc : (chkS op w x n n g).2 = 0
  · obtain ⟨r, hr, r1, r2, hel, hk, hrv⟩ := parts op w hx (h := h) hz ho hl hc
    have hw := wid_chk hc
    rw [if_pos hc, hk, hrv, hw]
    simp only
    rw [hc, bne_self_eq_false, cond_false, cond_false, cond_false, hr]
    have p3 := facts_Reduce_eq (r : Int) (k := kvalN op w x n g z o) (r := rvalN op w x n g l h) hel.l1 hel.l2
    rw [W_of r1 r2, redR_eq] at p3
    rw [show facts_Reduce.f ((r : Int), ((kvalN op w x n g z o).1 : Int), ((kvalN op w x n g z o).2 : Int), ((rvalN op w x n g l h).1 : Int), ((rvalN op w x n g l h).2 : Int)) = _ from p3, Option.bind_some]
    unfold apQ
    rw [hr]
  · rw [if_neg hc]
    unfold kresS
    rw [if_pos hc]
    simp only
    rw [show ((chkS op w x n n g).2 != 0) = true by rw [bne_iff_ne]; exact hc, cond_true]
theorem apR_eq (op w : Int) {x n : Nat} (hx : x < U64) {g z o l h : Nat → Int} (hz : Nums z) (ho : Nums o) (hl : ∀ i, 0 ≤ l i) :
    apR op w x n g z o l h = some (if (chkS op w x n n g).2 = 0 then (fE (redF (chkS op w x n n g).1 (apQ op w x n g z o l h)), 0) else ((0, 0, 0, 0, 0), (chkS op w x n n g).2)) := by
  unfold apR
  rw [apply_ref12 hx n n hz ho, saturateref12_Refused_eq hx, apply_ref hx n n g l h hl]
  simp only [Option.bind_some]
  by_cases hc : (chkS op w x n n g).2 = 0
  · obtain ⟨r, hr, r1, r2, hel, hk, hrv⟩ := parts op w hx (h := h) hz ho hl hc
    rw [if_pos hc, hk, hrv]
    simp only
    rw [hc, bne_self_eq_false, cond_false, hr]
    have p3 := saturateref14_Reduce_eq (r : Int) (k := kvalN op w x n g z o) (r := rvalN op w x n g l h) hel.l1 hel.l2
    rw [W_of r1 r2, redR_eq] at p3
    rw [show saturateref14_Reduce.f ((r : Int), ((kvalN op w x n g z o).1 : Int), ((kvalN op w x n g z o).2 : Int), ((rvalN op w x n g l h).1 : Int), ((rvalN op w x n g l h).2 : Int)) = _ from p3, Option.bind_some]
    unfold apQ
    rw [hr]
  · rw [if_neg hc]
    rw [show ((chkS op w x n n g).2 != 0) = true by rw [bne_iff_ne]; exact hc, cond_true]
theorem facts_Apply_eq (op w : Int) {x n : Nat} (hn : n ≤ 1000) {G z o l h : Nat → Int} (hz : Nums z) (ho : Nums o) (hl : Nums l) (hh : Nums h) : facts_Apply.f op w x (n, G, z, o, l, h) = apP op w x n (tr (opW G z o l h) n) (tr (opZ G z o l h) n) (tr (opO G z o l h) n) (tr (opL G z o l h) n) (tr (opH G z o l h) n) := by
  unfold facts_Apply.f
  have hf : 1000 < fuel0 := by unfold fuel0; omega
  generalize fuel0 = m at hf
  unfold facts_Apply.g
  simp only
  rw [bifd_pos (by omega), ble_of (by omega), cond_true, bifd_pos (by omega), ble_of (by omega), cond_true, bifd_pos (by omega), cond_true]
  have := ap_j5 (m + 1) op w (x : Int) hn hz ho hl hh (G := G) 0 0 0 0 0 n (m + 1) 0 (by omega) (by omega)
  rw [tr_zero, tr_zero, tr_zero, tr_zero, tr_zero] at this
  exact this
theorem saturateref14_Apply_eq (op w : Int) {x n : Nat} (hn : n ≤ 1000) {G z o l h : Nat → Int} (hz : Nums z) (ho : Nums o) (hl : Nums l) (hh : Nums h) : saturateref14_Apply.f op w x (n, G, z, o, l, h) = apR op w x n (tr (opW G z o l h) n) (tr (opZ G z o l h) n) (tr (opO G z o l h) n) (tr (opL G z o l h) n) (tr (opH G z o l h) n) := by
  unfold saturateref14_Apply.f
  have hf : 1000 < fuel0 := by unfold fuel0; omega
  generalize fuel0 = m at hf
  unfold saturateref14_Apply.g
  simp only
  have := ref_ap_j5 (m + 1) op w (x : Int) hn hz ho hl hh (G := G) 0 0 0 0 0 n (m + 1) 0 (by omega) (by omega)
  rw [tr_zero, tr_zero, tr_zero, tr_zero, tr_zero] at this
  exact this
end Go.Proofs.YtcihbcffokjgjaaGreat.Fn
namespace Go.Proofs.YtcihbcffokjgjaaGreat.Fn
open Go Go.RowKit Go.Proofs.YtcihbcffokjgjaaGreat.Ev Go.Proofs.YtcihbcffokjgjaaGreat.Bv
set_option linter.unusedVariables false
set_option linter.unusedSimpArgs false
set_option maxRecDepth 100000
theorem nums_tr {v : Nat → Int} (h : Nums v) (n : Nat) : Nums (tr v n) := fun i => by
  unfold tr
  split
  · exact h i
  · exact ⟨0, rfl, by decide⟩
def NumF (r : FT) : Prop := ∃ z o l h : Nat, (r.2.1 = z ∧ r.2.2.1 = o ∧ r.2.2.2.1 = l ∧ r.2.2.2.2 = h) ∧ z < U64 ∧ o < U64 ∧ l < U64 ∧ h < U64
theorem NumF.fE {f : F3} (h : Fv f.1 f.2.1 f.2.2) : NumF (fE f) := ⟨_, _, _, _, ⟨rfl, rfl, rfl, rfl⟩, h.kv.l1, h.kv.l2, (rok_lt h.rv).1, (rok_lt h.rv).2⟩
theorem NumF.zero : NumF (0, 0, 0, 0, 0) := ⟨0, 0, 0, 0, ⟨rfl, rfl, rfl, rfl⟩, by decide, by decide, by decide, by decide⟩
noncomputable def apV (op w : Int) (x n : Nat) (G z o l h : Nat → Int) : FT × Int :=
  if (chkS op w x n n (tr (opW G z o l h) n)).2 = 0 then (fE (redF (chkS op w x n n (tr (opW G z o l h) n)).1 (apQ op w x n (tr (opW G z o l h) n) (tr (opZ G z o l h) n) (tr (opO G z o l h) n) (tr (opL G z o l h) n) (tr (opH G z o l h) n))), 0)
  else ((0, 0, 0, 0, 0), (chkS op w x n n (tr (opW G z o l h) n)).2)
section
variable {G z o l h : Nat → Int} (hz : Nums z) (ho : Nums o) (hl : Nums l) (hh : Nums h)
include hz ho hl hh
theorem apV_prog (op w : Int) {x n : Nat} (hx : x < U64) (hn : n ≤ 1000) : facts_Apply.f op w x (n, G, z, o, l, h) = some (apV op w x n G z o l h) := by
  rw [facts_Apply_eq op w hn hz ho hl hh]
  exact apP_eq op w hx (opZ_nums (l := l) (h := h) (G := G) hz ho n) (opO_nums (l := l) (h := h) (G := G) hz ho n) (opL_nn n)
theorem apV_ref (op w : Int) {x n : Nat} (hx : x < U64) (hn : n ≤ 1000) : saturateref14_Apply.f op w x (n, G, z, o, l, h) = some (apV op w x n G z o l h) := by
  rw [saturateref14_Apply_eq op w hn hz ho hl hh]
  exact apR_eq op w hx (opZ_nums (l := l) (h := h) (G := G) hz ho n) (opO_nums (l := l) (h := h) (G := G) hz ho n) (opL_nn n)
omit hl hh in
theorem apV_num (op w : Int) {x n : Nat} (hx : x < U64) : NumF (apV op w x n G z o l h).1 := by
  unfold apV
  by_cases hc : (chkS op w x n n (tr (opW G z o l h) n)).2 = 0
  · rw [if_pos hc]
    obtain ⟨r, hr, r1, r2, hq⟩ := apQ_spec op w (n := n) hx (g := tr (opW G z o l h) n) (h := tr (opH G z o l h) n) (opZ_nums (l := l) (h := h) (G := G) hz ho n) (opO_nums (l := l) (h := h) (G := G) hz ho n) (opL_nn n) hc
    rw [hr]
    exact NumF.fE (redF_fv (by omega) (by omega) hq)
  · rw [if_neg hc]; exact NumF.zero
end
def kidAt (K : List Tm) (i : Nat) : Tm := (K[i]?).getD (Tm.mk 0 0 0 (ByteArray.mk #[]) [])
theorem kidAt_of {K : List Tm} {i : Nat} {t : Tm} (h : K[i]? = some t) : kidAt K i = t := by unfold kidAt; rw [h]; rfl
noncomputable def facR (n : Nat) (t : Tm) : FT := ((facts_compute.FC n).1 (t, ())).getD (0, 0, 0, 0, 0)
noncomputable def kR0 (n : Nat) (K : List Tm) (i : Nat) : Int := (facR n (kidAt K i)).1
noncomputable def kR1 (n : Nat) (K : List Tm) (i : Nat) : Int := if i < K.length then (facR n (kidAt K i)).2.1 else 0
noncomputable def kR2 (n : Nat) (K : List Tm) (i : Nat) : Int := if i < K.length then (facR n (kidAt K i)).2.2.1 else 0
noncomputable def kR3 (n : Nat) (K : List Tm) (i : Nat) : Int := if i < K.length then (facR n (kidAt K i)).2.2.2.1 else 0
noncomputable def kR4 (n : Nat) (K : List Tm) (i : Nat) : Int := if i < K.length then (facR n (kidAt K i)).2.2.2.2 else 0
theorem kR_at {n : Nat} {K : List Tm} {i : Nat} {t : Tm} (h : K[i]? = some t) : facR n t = (kR0 n K i, kR1 n K i, kR2 n K i, kR3 n K i, kR4 n K i) := by
  have hi : i < K.length := (List.getElem?_eq_some_iff.1 h).1
  unfold kR0 kR1 kR2 kR3 kR4
  rw [if_pos hi, if_pos hi, if_pos hi, if_pos hi, kidAt_of h]
theorem kR_num {n : Nat} {K : List Tm} (h : ∀ (i : Nat) t, K[i]? = some t → NumF (facR n t)) : Nums (kR1 n K) ∧ Nums (kR2 n K) ∧ Nums (kR3 n K) ∧ Nums (kR4 n K) := by
  have key : ∀ i, i < K.length → NumF (facR n (kidAt K i)) := fun i hi => by
    have e : K[i]? = some K[i] := List.getElem?_eq_getElem hi
    rw [kidAt_of e]; exact h i _ e
  refine ⟨fun i => ?_, fun i => ?_, fun i => ?_, fun i => ?_⟩
  all_goals
    first | unfold kR1 | unfold kR2 | unfold kR3 | unfold kR4
    by_cases hi : i < K.length
    · rw [if_pos hi]
      obtain ⟨z, o, l, hh, ⟨e1, e2, e3, e4⟩, l1, l2, l3, l4⟩ := key i hi
      first | exact ⟨z, e1, l1⟩ | exact ⟨o, e2, l2⟩ | exact ⟨l, e3, l3⟩ | exact ⟨hh, e4, l4⟩
    · rw [if_neg hi]; exact ⟨0, rfl, by decide⟩
theorem compute_j3 (rec : Tm × Unit → Option FT) (hrec) (fu : Nat) (K : List Tm) (hK : K.length ≤ 1000) {R0 R1 R2 R3 R4 : Nat → Int} (hr : ∀ (i : Nat) t, K[i]? = some t → rec (t, ()) = some (R0 i, R1 i, R2 i, R3 i, R4 i)) (c0 c1 c2 : Int) (c3 : ByteArray) (c4 : List Tm) (z0 z1 z2 z3 z4 : Int) :
    ∀ (ks : List Tm) (i k : Nat), K.drop i = ks → i ≤ K.length → ks.length < k →
    facts_compute.j3 rec hrec fu k i K (K.length : Int) (i : Int) c0 c1 c2 c3 c4 z0 z1 z2 z3 z4 i (tr R0 i) (tr R1 i) (tr R2 i) (tr R3 i) (tr R4 i) =
      (facts_Apply.f c0 c1 c2 (K.length, tr R0 K.length, tr R1 K.length, tr R2 K.length, tr R3 K.length, tr R4 K.length)).bind fun r3 => some (r3.1.1, r3.1.2.1, r3.1.2.2.1, r3.1.2.2.2.1, r3.1.2.2.2.2)
  | [], i, k, hd, hi, hk => by
    obtain ⟨k, rfl⟩ : ∃ m, k = m + 1 := ⟨k - 1, by omega⟩
    obtain rfl := drop_nil hd hi
    rw [facts_compute.j3_succ, bifd_neg (by omega)]
  | t :: ks, i, k, hd, hi, hk => by
    obtain ⟨k, rfl⟩ : ∃ m, k = m + 1 := ⟨k - 1, by rw [List.length_cons] at hk; omega⟩
    obtain ⟨h3, h4, h5⟩ := drop_cons hd
    rw [facts_compute.j3_succ, bifd_pos (by omega), bifd_pos (by omega), bifd_pos (by omega), Int.toNat_natCast, h4, Option.bind_some, Tm.eta', hr i t h4, Option.bind_some, ble_of (by omega), cond_true, wrapi, wrapi_succ (by omega), tr_cat, tr_cat, tr_cat, tr_cat, tr_cat]
    exact compute_j3 rec hrec fu K hK hr c0 c1 c2 c3 c4 z0 z1 z2 z3 z4 ks (i + 1) k h5 (by omega) (by rw [List.length_cons] at hk; omega)
theorem upward_j3 (rec : Tm × Unit → Option FT) (hrec) (fu : Nat) (K : List Tm) (hK : K.length ≤ 1000) {R0 R1 R2 R3 R4 : Nat → Int} (hr : ∀ (i : Nat) t, K[i]? = some t → rec (t, ()) = some (R0 i, R1 i, R2 i, R3 i, R4 i)) (c0 c1 c2 : Int) (c3 : ByteArray) (z0 z1 z2 z3 z4 : Int) :
    ∀ (ks : List Tm) (i k : Nat), K.drop i = ks → i ≤ K.length → ks.length < k →
    saturateref14_upward.j3 rec hrec fu k i (i : Int) c0 c1 c2 c3 K z0 z1 z2 z3 z4 i (tr R0 i) (tr R1 i) (tr R2 i) (tr R3 i) (tr R4 i) =
      (saturateref14_Apply.f c0 c1 c2 (K.length, tr R0 K.length, tr R1 K.length, tr R2 K.length, tr R3 K.length, tr R4 K.length)).bind fun r3 => some (r3.1.1, r3.1.2.1, r3.1.2.2.1, r3.1.2.2.2.1, r3.1.2.2.2.2)
  | [], i, k, hd, hi, hk => by
    obtain ⟨k, rfl⟩ : ∃ m, k = m + 1 := ⟨k - 1, by omega⟩
    obtain rfl := drop_nil hd hi
    rw [saturateref14_upward.j3_succ, bifd_neg (by omega)]
  | t :: ks, i, k, hd, hi, hk => by
    obtain ⟨k, rfl⟩ : ∃ m, k = m + 1 := ⟨k - 1, by rw [List.length_cons] at hk; omega⟩
    obtain ⟨h3, h4, h5⟩ := drop_cons hd
    rw [saturateref14_upward.j3_succ, bifd_pos (by omega), bifd_pos (by omega), bifd_pos (by omega), Int.toNat_natCast, h4, Option.bind_some, Tm.eta', hr i t h4, Option.bind_some, ble_of (by omega), cond_true, wrapi, wrapi_succ (by omega), tr_cat, tr_cat, tr_cat, tr_cat, tr_cat]
    exact upward_j3 rec hrec fu K hK hr c0 c1 c2 c3 z0 z1 z2 z3 z4 ks (i + 1) k h5 (by omega) (by rw [List.length_cons] at hk; omega)
noncomputable def apN (n : Nat) (t : Tm) : FT := (apV t.op t.width t.val.toNat t.kids.length (tr (kR0 n t.kids) t.kids.length) (tr (kR1 n t.kids) t.kids.length) (tr (kR2 n t.kids) t.kids.length) (tr (kR3 n t.kids) t.kids.length) (tr (kR4 n t.kids) t.kids.length)).1
theorem fac_FC : ∀ (n : Nat) (t : Tm), Ok t → dpT t ≤ n → (facts_compute.FC n).1 (t, ()) = some (facR n t) ∧ (saturateref14_upward.FC n).1 (t, ()) = some (facR n t) ∧ NumF (facR n t) ∧ ∀ m, n = m + 1 → facR n t = apN m t := by
  intro n
  induction n with
  | zero => intro t _ h; have := dpT_eq t; omega
  | succ n ih =>
    intro t ht hd
    have e2 := dpT_eq t
    have hl := ht.len
    obtain ⟨ev, lv⟩ := val_nat ht.wf
    have hk : ∀ (i : Nat) u, t.kids[i]? = some u → (facts_compute.FC n).1 (u, ()) = some (facR n u) ∧ (saturateref14_upward.FC n).1 (u, ()) = some (facR n u) ∧ NumF (facR n u) := fun i u hu => by
      have := ih u (ht.kid hu) (by have := szL_mem hu; omega)
      exact ⟨this.1, this.2.1, this.2.2.1⟩
    obtain ⟨n1, n2, n3, n4⟩ := kR_num (fun i u hu => (hk i u hu).2.2)
    have n1 := nums_tr n1 t.kids.length
    have n2 := nums_tr n2 t.kids.length
    have n3 := nums_tr n3 t.kids.length
    have n4 := nums_tr n4 t.kids.length
    have hv1 := apV_prog (G := tr (kR0 n t.kids) t.kids.length) n1 n2 n3 n4 t.op t.width lv (n := t.kids.length) (by omega)
    have hv2 := apV_ref (G := tr (kR0 n t.kids) t.kids.length) n1 n2 n3 n4 t.op t.width lv (n := t.kids.length) (by omega)
    have hnum := apV_num (G := tr (kR0 n t.kids) t.kids.length) (l := tr (kR3 n t.kids) t.kids.length) (h := tr (kR4 n t.kids) t.kids.length) n1 n2 t.op t.width lv (n := t.kids.length)
    rw [ev] at hv1 hv2
    have c1 : (facts_compute.FC (n + 1)).1 (t, ()) = some (apN n t) := by
      show facts_compute.g (facts_compute.FC n).1 (facts_compute.FC n).2 (fuel0 + 1) t = _
      have hf : 10000 < fuel0 + 1 := by unfold fuel0; omega
      generalize fuel0 + 1 = fu at hf
      unfold facts_compute.g
      have := compute_j3 (facts_compute.FC n).1 (facts_compute.FC n).2 fu t.kids (by omega) (fun i u hu => by rw [(hk i u hu).1, kR_at hu]) t.op t.width t.val t.name t.kids 0 0 0 0 0 t.kids 0 fu rfl (Nat.zero_le _) (by omega)
      rw [tr_zero, tr_zero, tr_zero, tr_zero, tr_zero, hv1, Option.bind_some] at this
      exact this
    have c2 : (saturateref14_upward.FC (n + 1)).1 (t, ()) = some (apN n t) := by
      show saturateref14_upward.g (saturateref14_upward.FC n).1 (saturateref14_upward.FC n).2 (fuel0 + 1) t = _
      have hf : 10000 < fuel0 + 1 := by unfold fuel0; omega
      generalize fuel0 + 1 = fu at hf
      unfold saturateref14_upward.g
      have := upward_j3 (saturateref14_upward.FC n).1 (saturateref14_upward.FC n).2 fu t.kids (by omega) (fun i u hu => by rw [(hk i u hu).2.1, kR_at hu]) t.op t.width t.val t.name 0 0 0 0 0 t.kids 0 fu rfl (Nat.zero_le _) (by omega)
      rw [tr_zero, tr_zero, tr_zero, tr_zero, tr_zero, hv2, Option.bind_some] at this
      exact this
    have c3 : facR (n + 1) t = apN n t := by unfold facR; rw [c1]; rfl
    rw [c1, c2, c3]
    exact ⟨rfl, rfl, hnum, fun m hm => by obtain rfl : n = m := (by omega); rfl⟩
noncomputable def ofT (t : Tm) : FT × Int := if chkT t ≠ 0 then ((0, 0, 0, 0, 0), chkT t) else (facR deep0 t, 0)
theorem of_prog {t : Tm} (h : Ok t) : facts_Of.f t = some (ofT t) := by
  unfold facts_Of.f ofT facts_compute.f
  rw [Tm.eta', check_prog h, Option.bind_some]
  by_cases h0 : chkT t ≠ 0
  · rw [show (chkT t != 0) = true by rw [bne_iff_ne]; exact h0, cond_true, if_pos h0]
  · rw [show (chkT t != 0) = false by rw [bne_eq_false_iff_eq]; exact Decidable.not_not.1 h0, cond_false, if_neg h0, (fac_FC deep0 t h (by have := h.dp; unfold deep0; omega)).1, Option.bind_some]
theorem of_ref {t : Tm} (h : Ok t) : saturateref14_OfTerm.f t = some (ofT t) := by
  unfold saturateref14_OfTerm.f ofT saturateref14_upward.f
  rw [Tm.eta', check_ref h, Option.bind_some]
  by_cases h0 : chkT t ≠ 0
  · rw [show (chkT t != 0) = true by rw [bne_iff_ne]; exact h0, cond_true, if_pos h0]
  · rw [show (chkT t != 0) = false by rw [bne_eq_false_iff_eq]; exact Decidable.not_not.1 h0, cond_false, if_neg h0, (fac_FC deep0 t h (by have := h.dp; unfold deep0; omega)).2.1, Option.bind_some]
theorem light_eq {t : Tm} (hw : wfT t) : ∃ b, saturatelaw14_light.f t = some b ∧ (b = true → Ok t) := by
  unfold saturatelaw14_light.f saturateref06_Light.f
  rw [Tm.eta', Tm.eta', count_eq hw (by decide) (by decide) (by decide) (by decide), Option.bind_some]
  unfold cntS
  by_cases h : (dpT t : Int) ≤ 20 ∧ (szT t : Int) ≤ 60
  · rw [if_pos h, bifd_neg (by omega)]
    exact ⟨true, rfl, fun _ => ⟨hw, by omega, by omega⟩⟩
  · rw [if_neg h]
    exact ⟨false, rfl, fun e => by cases e⟩
end Go.Proofs.YtcihbcffokjgjaaGreat.Fn
namespace Go.Proofs.YtcihbcffokjgjaaGreat.Fn
open Go Go.RowKit Go.Proofs.YtcihbcffokjgjaaGreat.Ev Go.Proofs.YtcihbcffokjgjaaGreat.Bv
set_option linter.unusedVariables false
set_option linter.unusedSimpArgs false
set_option maxRecDepth 100000
abbrev tX : Tm := Tm.mk 1 8 0 (ByteArray.mk #[120]) []
abbrev tC (n : Int) : Tm := Tm.mk 2 8 n (ByteArray.mk #[]) []
abbrev tLow : Tm := Tm.mk 5 8 0 (ByteArray.mk #[]) [tX, tC 15]
abbrev tUlt : Tm := Tm.mk 17 1 0 (ByteArray.mk #[]) [tLow, tC 16]
theorem l14_const : facts_Const.f 8 3 = some (8, 252, 3, 3, 3) := by kernel_rfl
theorem l14_const4 : facts_Const.f 8 4 = some (8, 251, 4, 4, 4) := by kernel_rfl
theorem l14_const1 : facts_Const.f 1 1 = some (1, 0, 1, 1, 1) := by kernel_rfl
theorem l14_var : term_Var.f (ByteArray.mk #[120]) 8 = some tX := by kernel_rfl
theorem l14_cst : term_Const.f 8 15 = some (tC 15) := by kernel_rfl
theorem l14_cst16 : term_Const.f 8 16 = some (tC 16) := by kernel_rfl
theorem l14_make : term_Make.f 5 [tX, tC 15] = some tLow := by kernel_rfl
theorem l14_make2 : term_Make.f 17 [tLow, tC 16] = some tUlt := by kernel_rfl
theorem l14_top : facts_Top.f 8 = some (8, 0, 0, 0, 255) := by kernel_rfl
theorem l14_top4 : facts_Top.f 4 = some (4, 0, 0, 0, 15) := by kernel_rfl
theorem l14_meet : facts_Meet.f (8, 252, 3, 3, 3) (8, 0, 0, 0, 255) = some ((8, 252, 3, 3, 3), true) := by kernel_rfl
theorem l14_meet2 : facts_Meet.f (8, 252, 3, 3, 3) (8, 251, 4, 4, 4) = some ((8, 0, 0, 0, 255), false) := by kernel_rfl
theorem l14_chk0 : term_Check.f (Tm.mk 0 0 0 (ByteArray.mk #[]) []) = some 4 := by kernel_rfl
theorem l14_chk1 : term_Check.f tLow = some 0 := by kernel_rfl
theorem l14_chk2 : term_Check.f tUlt = some 0 := by kernel_rfl
theorem l14_c1 : facts_compute.f tLow = some (8, 240, 0, 0, 15) := by kernel_rfl
theorem l14_c2 : facts_compute.f tUlt = some (1, 0, 1, 1, 1) := by kernel_rfl
theorem l14_val : facts_Valid.f (8, 240, 0, 0, 15) = some true := by kernel_rfl
theorem l14_val2 : facts_Valid.f (8, 240, 0, 0, 255) = some false := by kernel_rfl
theorem l14_join : facts_Join.f (8, 0, 0, 0, 255) (4, 0, 0, 0, 15) = some ((0, 0, 0, 0, 0), 3) := by kernel_rfl
theorem l14_of0 : facts_Of.f (Tm.mk 0 0 0 (ByteArray.mk #[]) []) = some ((0, 0, 0, 0, 0), 4) := by
  unfold facts_Of.f
  rw [show (Tm.mk (Tm.mk 0 0 0 (ByteArray.mk #[]) []).op (Tm.mk 0 0 0 (ByteArray.mk #[]) []).width (Tm.mk 0 0 0 (ByteArray.mk #[]) []).val (Tm.mk 0 0 0 (ByteArray.mk #[]) []).name (Tm.mk 0 0 0 (ByteArray.mk #[]) []).kids) = Tm.mk 0 0 0 (ByteArray.mk #[]) [] from rfl, l14_chk0]
  rfl
theorem Tm.eta (t : Tm) : Tm.mk t.op t.width t.val t.name t.kids = t := by cases t; rfl
theorem l14_ofs {t : Tm} {a b c d e : Int} (h : term_Check.f t = some 0) (hc : facts_compute.f t = some (a, b, c, d, e)) : facts_Of.f t = some ((a, b, c, d, e), 0) := by
  unfold facts_Of.f
  rw [Tm.eta, h]
  simp only [Option.bind_some, bne_self_eq_false, cond_false]
  rw [hc]
  rfl
section
variable (v1 : ByteArray × Int × Unit → Option Tm) (v2 : Int × Int × Unit → Option Tm) (v3 : Int × List Tm × Unit → Option Tm) (v4 : Tm × Unit → Option ((Int × Int × Int × Int × Int) × Int)) (v5 : Int × Int × Unit → Option (Int × Int × Int × Int × Int)) (v6 : Int × Unit → Option (Int × Int × Int × Int × Int)) (v7 : (Int × Int × Int × Int × Int) × (Int × Int × Int × Int × Int) × Unit → Option ((Int × Int × Int × Int × Int) × Bool)) (v8 : (Int × Int × Int × Int × Int) × (Int × Int × Int × Int × Int) × Unit → Option ((Int × Int × Int × Int × Int) × Int)) (v9 : (Int × Int × Int × Int × Int) × Unit → Option Bool)
theorem lives14_abs {h1 h2 h3 h4 h5 h6 h7 h8 h9} (e1 : v1 (ByteArray.mk #[120], 8, ()) = some tX) (e2 : v2 (8, 15, ()) = some (tC 15)) (e2' : v2 (8, 16, ()) = some (tC 16)) (e3 : v3 (5, [tX, tC 15], ()) = some tLow) (e3' : v3 (17, [tLow, tC 16], ()) = some tUlt)
    (e4 : v4 (tLow, ()) = some ((8, 240, 0, 0, 15), 0)) (e4' : v4 (tUlt, ()) = some ((1, 0, 1, 1, 1), 0)) (e4'' : v4 (Tm.mk 0 0 0 (ByteArray.mk #[]) [], ()) = some ((0, 0, 0, 0, 0), 4))
    (e5 : v5 (8, 3, ()) = some (8, 252, 3, 3, 3)) (e5' : v5 (8, 4, ()) = some (8, 251, 4, 4, 4)) (e5'' : v5 (1, 1, ()) = some (1, 0, 1, 1, 1)) (e6 : v6 (8, ()) = some (8, 0, 0, 0, 255)) (e6' : v6 (4, ()) = some (4, 0, 0, 0, 15))
    (e7 : v7 ((8, 252, 3, 3, 3), (8, 0, 0, 0, 255), ()) = some ((8, 252, 3, 3, 3), true)) (e7' : v7 ((8, 252, 3, 3, 3), (8, 251, 4, 4, 4), ()) = some ((8, 0, 0, 0, 255), false)) (e8 : v8 ((8, 0, 0, 0, 255), (4, 0, 0, 0, 15), ()) = some ((0, 0, 0, 0, 0), 3))
    (e9 : v9 ((8, 240, 0, 0, 15), ()) = some true) (e9' : v9 ((8, 240, 0, 0, 255), ()) = some false) : saturatelaw14_lives.fv v1 h1 v2 h2 v3 h3 v4 h4 v5 h5 v6 h6 v7 h7 v8 h8 v9 h9 = some true := by
  unfold saturatelaw14_lives.fv
  simp only [Tm.eta, e1, e2, e2', Option.bind_some, e3, e3', e4, e4', e4'', e5, e5', e5'', e6, e6', e7, e7', e8, e9, e9', beq_self_eq_true, Bool.and_self, cond_true, Bool.not_false]
end
theorem lives14_true : saturatelaw14_lives.f = some true := by
  delta saturatelaw14_lives.f
  exact @lives14_abs (fun a => term_Var.f a.1 a.2.1) (fun a => term_Const.f a.1 a.2.1) (fun a => term_Make.f a.1 a.2.1) (fun a => facts_Of.f a.1) (fun a => facts_Const.f a.1 a.2.1) (fun a => facts_Top.f a.1) (fun a => facts_Meet.f a.1 a.2.1) (fun a => facts_Join.f a.1 a.2.1) (fun a => facts_Valid.f a.1) ⟨term_Var.con⟩ ⟨term_Const.con⟩ ⟨term_Make.con⟩ ⟨facts_Of.con⟩ ⟨facts_Const.con⟩ ⟨facts_Top.con⟩ ⟨facts_Meet.con⟩ ⟨facts_Join.con⟩ ⟨facts_Valid.con⟩ l14_var l14_cst l14_cst16 l14_make l14_make2 (l14_ofs l14_chk1 l14_c1) (l14_ofs l14_chk2 l14_c2) l14_of0 l14_const l14_const4 l14_const1 l14_top l14_top4 l14_meet l14_meet2 l14_join l14_val l14_val2
end Go.Proofs.YtcihbcffokjgjaaGreat.Fn
