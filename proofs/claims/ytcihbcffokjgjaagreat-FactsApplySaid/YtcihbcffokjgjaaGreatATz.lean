/- Apply on ranges: one specification that program and reference both meet. -/
import Derived.Test.YtcihbcffokjgjaaGreatAF11
import Derived.Test.YtcihbcffokjgjaaGreatAF3
import Derived.Test.YtcihbcffokjgjaaGreatATx
import Derived.Test.YtcihbcffokjgjaaGreatATy
namespace Go.Proofs.YtcihbcffokjgjaaGreat.Fn
open Go Go.RowKit Go.Proofs.YtcihbcffokjgjaaGreat.Ev Go.Proofs.YtcihbcffokjgjaaGreat.Bv
set_option linter.unusedVariables false
set_option linter.unusedSimpArgs false
set_option maxRecDepth 100000

theorem rp01 (fu k : Nat) (r x : Int) (g lo hi : Nat → Int) : saturateref13_Apply.j6 fu (k + 1) 1 x 0 0 r 0 0 0 g 0 lo hi 0 0 0 (fun i => [0].getD i 0) (fun i => [0].getD i 0) =
    (saturateref01_Mask.f r).bind fun M => (saturateref13_Top.f r).bind fun t => some ((t.1, t.2), 0) := by kernel_rfl
theorem rp02 (fu k : Nat) (r x : Int) (g lo hi : Nat → Int) : saturateref13_Apply.j6 fu (k + 1) 2 x 0 0 r 0 0 0 g 0 lo hi 0 0 0 (fun i => [0].getD i 0) (fun i => [0].getD i 0) =
    (saturateref01_Mask.f r).bind fun M => (saturateref13_Const.f r x).bind fun t => some ((t.1, t.2), 0) := by kernel_rfl
theorem rp3 (fu k : Nat) (r x : Int) (g lo hi : Nat → Int) : saturateref13_Apply.j6 fu (k + 2) 3 x 1 1 r 0 0 1 g 1 lo hi 0 0 0 (fun i => [0].getD i 0) (fun i => [0].getD i 0) =
    (saturateref13_Of.f (g 0) (lo 0, hi 0)).bind fun p => (saturateref01_Mask.f r).bind fun M => some ((IntKind.u64.wrap (M - p.2), IntKind.u64.wrap (M - p.1)), 0) := by kernel_rfl
theorem rp4 (fu k : Nat) (r x : Int) (g lo hi : Nat → Int) : saturateref13_Apply.j6 fu (k + 2) 4 x 1 1 r 0 0 1 g 1 lo hi 0 0 0 (fun i => [0].getD i 0) (fun i => [0].getD i 0) =
    (saturateref13_Of.f (g 0) (lo 0, hi 0)).bind fun p => (saturateref01_Mask.f r).bind fun M => (saturateref13_neg.f M (p.1, p.2)).bind fun t => some ((t.1, t.2), 0) := by kernel_rfl
theorem rp21 (fu k : Nat) (r x : Int) (g lo hi : Nat → Int) : saturateref13_Apply.j6 fu (k + 2) 21 x 1 1 r 0 0 1 g 1 lo hi 0 0 0 (fun i => [0].getD i 0) (fun i => [0].getD i 0) =
    (saturateref13_Of.f (g 0) (lo 0, hi 0)).bind fun p => (saturateref01_Mask.f r).bind fun M => (saturateref13_extract.f r x (g 0) (p.1, p.2)).bind fun t => some ((t.1, t.2), 0) := by kernel_rfl
theorem rp22 (fu k : Nat) (r x : Int) (g lo hi : Nat → Int) : saturateref13_Apply.j6 fu (k + 2) 22 x 1 1 r 0 0 1 g 1 lo hi 0 0 0 (fun i => [0].getD i 0) (fun i => [0].getD i 0) =
    (saturateref13_Of.f (g 0) (lo 0, hi 0)).bind fun p => (saturateref01_Mask.f r).bind fun M => some ((p.1, p.2), 0) := by kernel_rfl
theorem rp23 (fu k : Nat) (r x : Int) (g lo hi : Nat → Int) : saturateref13_Apply.j6 fu (k + 2) 23 x 1 1 r 0 0 1 g 1 lo hi 0 0 0 (fun i => [0].getD i 0) (fun i => [0].getD i 0) =
    (saturateref13_Of.f (g 0) (lo 0, hi 0)).bind fun p => (saturateref01_Mask.f r).bind fun M => (saturateref13_sext.f r (g 0) (p.1, p.2)).bind fun t => some ((t.1, t.2), 0) := by kernel_rfl
theorem rp20 (fu k : Nat) (r x : Int) (g lo hi : Nat → Int) : saturateref13_Apply.j6 fu (k + 3) 20 x 2 2 r 0 0 2 g 2 lo hi 0 0 0 (fun i => [0].getD i 0) (fun i => [0].getD i 0) =
    (saturateref13_Of.f (g 0) (lo 0, hi 0)).bind fun p => (saturateref13_Of.f (g 1) (lo 1, hi 1)).bind fun q => (saturateref01_Mask.f r).bind fun M =>
      (saturateref01_Concat.f (g 0) (g 1) p.1 q.1).bind fun a => (saturateref01_Concat.f (g 0) (g 1) p.2 q.2).bind fun b => some ((a, b), 0) := by kernel_rfl
theorem rpT5 (fu k : Nat) (r x : Int) (g lo hi : Nat → Int) : saturateref13_Apply.j6 fu (k + 3) 5 x 2 2 r 0 0 2 g 2 lo hi 0 0 0 (fun i => [0].getD i 0) (fun i => [0].getD i 0) =
    (saturateref13_Of.f (g 0) (lo 0, hi 0)).bind fun p => (saturateref13_Of.f (g 1) (lo 1, hi 1)).bind fun q => (saturateref01_Mask.f r).bind fun M =>
      (saturateref13_two.f 5 r (g 0) (p.1, p.2) (q.1, q.2)).bind fun t => some ((t.1, t.2), 0) := by kernel_rfl
theorem rpT6 (fu k : Nat) (r x : Int) (g lo hi : Nat → Int) : saturateref13_Apply.j6 fu (k + 3) 6 x 2 2 r 0 0 2 g 2 lo hi 0 0 0 (fun i => [0].getD i 0) (fun i => [0].getD i 0) =
    (saturateref13_Of.f (g 0) (lo 0, hi 0)).bind fun p => (saturateref13_Of.f (g 1) (lo 1, hi 1)).bind fun q => (saturateref01_Mask.f r).bind fun M =>
      (saturateref13_two.f 6 r (g 0) (p.1, p.2) (q.1, q.2)).bind fun t => some ((t.1, t.2), 0) := by kernel_rfl
theorem rpT7 (fu k : Nat) (r x : Int) (g lo hi : Nat → Int) : saturateref13_Apply.j6 fu (k + 3) 7 x 2 2 r 0 0 2 g 2 lo hi 0 0 0 (fun i => [0].getD i 0) (fun i => [0].getD i 0) =
    (saturateref13_Of.f (g 0) (lo 0, hi 0)).bind fun p => (saturateref13_Of.f (g 1) (lo 1, hi 1)).bind fun q => (saturateref01_Mask.f r).bind fun M =>
      (saturateref13_two.f 7 r (g 0) (p.1, p.2) (q.1, q.2)).bind fun t => some ((t.1, t.2), 0) := by kernel_rfl
theorem rpT8 (fu k : Nat) (r x : Int) (g lo hi : Nat → Int) : saturateref13_Apply.j6 fu (k + 3) 8 x 2 2 r 0 0 2 g 2 lo hi 0 0 0 (fun i => [0].getD i 0) (fun i => [0].getD i 0) =
    (saturateref13_Of.f (g 0) (lo 0, hi 0)).bind fun p => (saturateref13_Of.f (g 1) (lo 1, hi 1)).bind fun q => (saturateref01_Mask.f r).bind fun M =>
      (saturateref13_two.f 8 r (g 0) (p.1, p.2) (q.1, q.2)).bind fun t => some ((t.1, t.2), 0) := by kernel_rfl
theorem rpT9 (fu k : Nat) (r x : Int) (g lo hi : Nat → Int) : saturateref13_Apply.j6 fu (k + 3) 9 x 2 2 r 0 0 2 g 2 lo hi 0 0 0 (fun i => [0].getD i 0) (fun i => [0].getD i 0) =
    (saturateref13_Of.f (g 0) (lo 0, hi 0)).bind fun p => (saturateref13_Of.f (g 1) (lo 1, hi 1)).bind fun q => (saturateref01_Mask.f r).bind fun M =>
      (saturateref13_two.f 9 r (g 0) (p.1, p.2) (q.1, q.2)).bind fun t => some ((t.1, t.2), 0) := by kernel_rfl
theorem rpT10 (fu k : Nat) (r x : Int) (g lo hi : Nat → Int) : saturateref13_Apply.j6 fu (k + 3) 10 x 2 2 r 0 0 2 g 2 lo hi 0 0 0 (fun i => [0].getD i 0) (fun i => [0].getD i 0) =
    (saturateref13_Of.f (g 0) (lo 0, hi 0)).bind fun p => (saturateref13_Of.f (g 1) (lo 1, hi 1)).bind fun q => (saturateref01_Mask.f r).bind fun M =>
      (saturateref13_two.f 10 r (g 0) (p.1, p.2) (q.1, q.2)).bind fun t => some ((t.1, t.2), 0) := by kernel_rfl
theorem rpT11 (fu k : Nat) (r x : Int) (g lo hi : Nat → Int) : saturateref13_Apply.j6 fu (k + 3) 11 x 2 2 r 0 0 2 g 2 lo hi 0 0 0 (fun i => [0].getD i 0) (fun i => [0].getD i 0) =
    (saturateref13_Of.f (g 0) (lo 0, hi 0)).bind fun p => (saturateref13_Of.f (g 1) (lo 1, hi 1)).bind fun q => (saturateref01_Mask.f r).bind fun M =>
      (saturateref13_two.f 11 r (g 0) (p.1, p.2) (q.1, q.2)).bind fun t => some ((t.1, t.2), 0) := by kernel_rfl
theorem rpT12 (fu k : Nat) (r x : Int) (g lo hi : Nat → Int) : saturateref13_Apply.j6 fu (k + 3) 12 x 2 2 r 0 0 2 g 2 lo hi 0 0 0 (fun i => [0].getD i 0) (fun i => [0].getD i 0) =
    (saturateref13_Of.f (g 0) (lo 0, hi 0)).bind fun p => (saturateref13_Of.f (g 1) (lo 1, hi 1)).bind fun q => (saturateref01_Mask.f r).bind fun M =>
      (saturateref13_two.f 12 r (g 0) (p.1, p.2) (q.1, q.2)).bind fun t => some ((t.1, t.2), 0) := by kernel_rfl
theorem rpT13 (fu k : Nat) (r x : Int) (g lo hi : Nat → Int) : saturateref13_Apply.j6 fu (k + 3) 13 x 2 2 r 0 0 2 g 2 lo hi 0 0 0 (fun i => [0].getD i 0) (fun i => [0].getD i 0) =
    (saturateref13_Of.f (g 0) (lo 0, hi 0)).bind fun p => (saturateref13_Of.f (g 1) (lo 1, hi 1)).bind fun q => (saturateref01_Mask.f r).bind fun M =>
      (saturateref13_two.f 13 r (g 0) (p.1, p.2) (q.1, q.2)).bind fun t => some ((t.1, t.2), 0) := by kernel_rfl
theorem rpT14 (fu k : Nat) (r x : Int) (g lo hi : Nat → Int) : saturateref13_Apply.j6 fu (k + 3) 14 x 2 2 r 0 0 2 g 2 lo hi 0 0 0 (fun i => [0].getD i 0) (fun i => [0].getD i 0) =
    (saturateref13_Of.f (g 0) (lo 0, hi 0)).bind fun p => (saturateref13_Of.f (g 1) (lo 1, hi 1)).bind fun q => (saturateref01_Mask.f r).bind fun M =>
      (saturateref13_two.f 14 r (g 0) (p.1, p.2) (q.1, q.2)).bind fun t => some ((t.1, t.2), 0) := by kernel_rfl
theorem rpT15 (fu k : Nat) (r x : Int) (g lo hi : Nat → Int) : saturateref13_Apply.j6 fu (k + 3) 15 x 2 2 r 0 0 2 g 2 lo hi 0 0 0 (fun i => [0].getD i 0) (fun i => [0].getD i 0) =
    (saturateref13_Of.f (g 0) (lo 0, hi 0)).bind fun p => (saturateref13_Of.f (g 1) (lo 1, hi 1)).bind fun q => (saturateref01_Mask.f r).bind fun M =>
      (saturateref13_two.f 15 r (g 0) (p.1, p.2) (q.1, q.2)).bind fun t => some ((t.1, t.2), 0) := by kernel_rfl
theorem rpT16 (fu k : Nat) (r x : Int) (g lo hi : Nat → Int) : saturateref13_Apply.j6 fu (k + 3) 16 x 2 2 r 0 0 2 g 2 lo hi 0 0 0 (fun i => [0].getD i 0) (fun i => [0].getD i 0) =
    (saturateref13_Of.f (g 0) (lo 0, hi 0)).bind fun p => (saturateref13_Of.f (g 1) (lo 1, hi 1)).bind fun q => (saturateref01_Mask.f r).bind fun M =>
      (saturateref13_two.f 16 r (g 0) (p.1, p.2) (q.1, q.2)).bind fun t => some ((t.1, t.2), 0) := by kernel_rfl
theorem rpT17 (fu k : Nat) (r x : Int) (g lo hi : Nat → Int) : saturateref13_Apply.j6 fu (k + 3) 17 x 2 2 r 0 0 2 g 2 lo hi 0 0 0 (fun i => [0].getD i 0) (fun i => [0].getD i 0) =
    (saturateref13_Of.f (g 0) (lo 0, hi 0)).bind fun p => (saturateref13_Of.f (g 1) (lo 1, hi 1)).bind fun q => (saturateref01_Mask.f r).bind fun M =>
      (saturateref13_two.f 17 r (g 0) (p.1, p.2) (q.1, q.2)).bind fun t => some ((t.1, t.2), 0) := by kernel_rfl
theorem rpT18 (fu k : Nat) (r x : Int) (g lo hi : Nat → Int) : saturateref13_Apply.j6 fu (k + 3) 18 x 2 2 r 0 0 2 g 2 lo hi 0 0 0 (fun i => [0].getD i 0) (fun i => [0].getD i 0) =
    (saturateref13_Of.f (g 0) (lo 0, hi 0)).bind fun p => (saturateref13_Of.f (g 1) (lo 1, hi 1)).bind fun q => (saturateref01_Mask.f r).bind fun M =>
      (saturateref13_two.f 18 r (g 0) (p.1, p.2) (q.1, q.2)).bind fun t => some ((t.1, t.2), 0) := by kernel_rfl
theorem rpTwo (fu k : Nat) (op r x : Int) (g lo hi : Nat → Int) (ho : 5 ≤ op) (ho2 : op ≤ 18) : saturateref13_Apply.j6 fu (k + 3) op x 2 2 r 0 0 2 g 2 lo hi 0 0 0 (fun i => [0].getD i 0) (fun i => [0].getD i 0) =
    (saturateref13_Of.f (g 0) (lo 0, hi 0)).bind fun p => (saturateref13_Of.f (g 1) (lo 1, hi 1)).bind fun q => (saturateref01_Mask.f r).bind fun M =>
      (saturateref13_two.f op r (g 0) (p.1, p.2) (q.1, q.2)).bind fun t => some ((t.1, t.2), 0) := by
  have hs : op = 5 ∨ op = 6 ∨ op = 7 ∨ op = 8 ∨ op = 9 ∨ op = 10 ∨ op = 11 ∨ op = 12 ∨ op = 13 ∨ op = 14 ∨ op = 15 ∨ op = 16 ∨ op = 17 ∨ op = 18 := by omega
  clear ho ho2
  rcases hs with rfl | rfl | rfl | rfl | rfl | rfl | rfl | rfl | rfl | rfl | rfl | rfl | rfl | rfl
  · exact rpT5 fu k r x g lo hi
  · exact rpT6 fu k r x g lo hi
  · exact rpT7 fu k r x g lo hi
  · exact rpT8 fu k r x g lo hi
  · exact rpT9 fu k r x g lo hi
  · exact rpT10 fu k r x g lo hi
  · exact rpT11 fu k r x g lo hi
  · exact rpT12 fu k r x g lo hi
  · exact rpT13 fu k r x g lo hi
  · exact rpT14 fu k r x g lo hi
  · exact rpT15 fu k r x g lo hi
  · exact rpT16 fu k r x g lo hi
  · exact rpT17 fu k r x g lo hi
  · exact rpT18 fu k r x g lo hi
theorem rp19 (fu k : Nat) (r x : Int) (g lo hi : Nat → Int) : saturateref13_Apply.j6 fu (k + 4) 19 x 3 3 r 0 0 3 g 3 lo hi 0 0 0 (fun i => [0].getD i 0) (fun i => [0].getD i 0) =
    (saturateref13_Of.f (g 0) (lo 0, hi 0)).bind fun p => (saturateref13_Of.f (g 1) (lo 1, hi 1)).bind fun q => (saturateref13_Of.f (g 2) (lo 2, hi 2)).bind fun s => (saturateref01_Mask.f r).bind fun M =>
      bif p.1 != p.2 then (saturateref13_Join.f r (q.1, q.2) (s.1, s.2)).bind fun t => some ((t.1, t.2), 0)
      else bif decide (0 ≤ IntKind.i64.wrap (2 - IntKind.i64.wrap p.1)) then bif decide (IntKind.i64.wrap (2 - IntKind.i64.wrap p.1) < ((3 : Nat) : Int)) then
        some ((cat 2 (cat 1 (cat 0 (fun i => [0].getD i 0) (fun i => [p.1].getD i 0)) (fun i => [q.1].getD i 0)) (fun i => [s.1].getD i 0) (IntKind.i64.wrap (2 - IntKind.i64.wrap p.1)).toNat,
          cat 2 (cat 1 (cat 0 (fun i => [0].getD i 0) (fun i => [p.2].getD i 0)) (fun i => [q.2].getD i 0)) (fun i => [s.2].getD i 0) (IntKind.i64.wrap (2 - IntKind.i64.wrap p.1)).toNat), 0) else none else none := by kernel_rfl

/-- The result of an operator on ranges that the checks let through. -/
def valS (op r : Int) (x n : Nat) (g : Nat → Int) (q : Nat → Int × Int) : Int × Int :=
  if op = 1 then (0, MM r) else if op = 2 then ((vcut (W r) x : Int), (vcut (W r) x : Int))
  else if op = 19 then (if (q 0).1 = (q 0).2 then (if (q 0).1 = 1 then q 1 else q 2) else jn (q 1) (q 2))
  else if n = 1 then cst (oneS op r.toNat (g 0).toNat x (q 0).1.toNat (q 0).2.toNat)
  else cst (twoS op (g 0).toNat (g 1).toNat (q 0).1.toNat (q 0).2.toNat (q 1).1.toNat (q 1).2.toNat)
noncomputable def resS (op w : Int) (x n m : Nat) (g lo hi : Nat → Int) : (Int × Int) × Int :=
  if (chkS op w x n m g).2 ≠ 0 then ((0, 0), (chkS op w x n m g).2) else (valS op (chkS op w x n m g).1 x n g (fun i => nrm (MM (g i)) (lo i, hi i)), 0)
theorem nrm_nat {v : Nat} (h1 : 1 ≤ v) (h2 : v ≤ 64) {lo hi : Int} (h : 0 ≤ lo) : ∃ l k : Nat, nrm (MM (v : Int)) (lo, hi) = ((l : Int), (k : Int)) ∧ l ≤ k ∧ k ≤ vmask v := by
  obtain ⟨a1, a2, a3⟩ := nrm_ok (MM_nn v) (r := (lo, hi)) h
  rw [MMn h1 h2] at *
  generalize nrm (vmask v : Int) (lo, hi) = p at *
  obtain ⟨p1, p2⟩ := p
  simp only at a1 a2 a3
  exact ⟨p1.toNat, p2.toNat, by rw [Int.toNat_of_nonneg a1, Int.toNat_of_nonneg (by omega)], by omega, by omega⟩
theorem fuel_is : ∃ k, fuel0 + 1 = k + 4 := ⟨fuel0 - 3, by unfold fuel0; omega⟩
theorem apply_prog {op w : Int} {x : Nat} (hx : x < 18446744073709551616) (n m : Nat) (g lo hi : Nat → Int) (hlo : ∀ i, 0 ≤ lo i) : ranges_Apply.f op w x (n, g) (m, lo, hi) = some (resS op w x n m g lo hi) := by
  unfold ranges_Apply.f ranges_Apply.g resS
  simp only [ranges_check_eq hx, Option.bind_some]
  by_cases hc : (chkS op w x n m g).2 ≠ 0
  · rw [if_pos hc, show ((chkS op w x n m g).2 != 0) = true by rw [bne_iff_ne]; exact hc]; rfl
  · have hc0 := Decidable.not_not.1 hc
    obtain ⟨h1, h2, rfl, ha, hg, he, e0, e1⟩ := chkS_ok hc0
    rw [if_neg hc, show ((chkS op w x m m g).2 != 0) = false by rw [bne_eq_false_iff_eq]; exact hc0, cond_false, he]
    obtain ⟨r1, r2, hcases⟩ := widthT_ok h1 h2 ha hg e0 e1
    generalize (widthT op w x g).1 = r at *
    clear he e0 e1 hc hc0 ha
    obtain ⟨r, rfl, r1, r2⟩ := nat_of r1 r2
    obtain ⟨k, hk⟩ := fuel_is
    rw [hk]
    rcases hcases with ⟨ho, rfl⟩ | ⟨ho, rfl, hr⟩ | ⟨ho, rfl, hr, hr2⟩ | ⟨rfl, rfl, g0, g1, g2⟩ | ⟨rfl, rfl, hr⟩ | ⟨ho, rfl, g1, hr⟩ | ⟨ho, rfl, g1, hr⟩
    · rw [ap0]
      rcases ho with rfl | rfl
      · simp only [Int.reduceBEq, cond_false, cond_true, ranges_Top_eq, Option.bind_some, valS, if_true]
      · simp only [Int.reduceBEq, cond_false, cond_true, ranges_Const_eq _ hx, Option.bind_some, valS, Int.reduceEq, if_true, if_false]
    · obtain ⟨v, hv, v1, v2⟩ := nat_of (hg 0 (by omega)).1 (hg 0 (by omega)).2
      obtain ⟨l, h, e, hl, hh⟩ := nrm_nat v1 v2 (hi := hi 0) (hlo 0)
      rw [ap1, ranges_norm_eq, hv, e]
      simp only [Option.bind_some]
      rw [unary_prog v1 v2 r1 r2 hx hl hh (by omega) (fun _ => by omega) (by omega)]
      simp only [Option.bind_some, valS, hv, e, Int.toNat_natCast]
      rw [if_neg (by omega), if_neg (by omega), if_neg (by omega), if_pos trivial]
    · obtain ⟨v, hv, v1, v2⟩ := nat_of (hg 0 (by omega)).1 (hg 0 (by omega)).2
      obtain ⟨l, h, e, hl, hh⟩ := nrm_nat v1 v2 (hi := hi 0) (hlo 0)
      rw [ap1, ranges_norm_eq, hv, e]
      simp only [Option.bind_some]
      rw [unary_prog v1 v2 r1 r2 hx hl hh (by omega) (by omega) (fun h => by have := hr h; omega)]
      simp only [Option.bind_some, valS, hv, e, Int.toNat_natCast]
      rw [if_neg (by omega), if_neg (by omega), if_neg (by omega), if_pos trivial]
    · obtain ⟨l, h, e, hl, hh⟩ := nrm_nat (v := 1) (by decide) (by decide) (hi := hi 0) (hlo 0)
      obtain ⟨l1, k1, e1, hl1, hk1⟩ := nrm_nat r1 r2 (hi := hi 1) (hlo 1)
      obtain ⟨l2, k2, e2, hl2, hk2⟩ := nrm_nat r1 r2 (hi := hi 2) (hlo 2)
      rw [ap3, ranges_norm_eq, ranges_norm_eq, ranges_norm_eq, g0, g1, g2, show (1 : Int) = ((1 : Nat) : Int) from rfl, e, e1, e2]
      have f1 := e1
      have f2 := e2
      rw [MMn r1 r2] at f1 f2
      simp only [Option.bind_some, valS, g0, g1, g2, show (1 : Int) = ((1 : Nat) : Int) from rfl, e, e1, e2, f1, f2, ranges_Join_eq, MMn r1 r2]
      unfold ranges_single.f
      rw [nrm_of (r := ((l1 : Int), (k1 : Int))) (by simp only; omega) (by simp only; omega), nrm_of (r := ((l2 : Int), (k2 : Int))) (by simp only; omega) (by simp only; omega)]
      simp only [Option.bind_some, beq_nat, Int.natCast_inj]
      rw [if_neg (show ¬ ((19 : Int) = ((1 : Nat) : Int)) by decide), if_neg (by decide), if_pos trivial]
      by_cases c : l = h
      · rw [if_pos c, decide_eq_true c, Bool.not_true, cond_false]
        by_cases d : l = 1
        · rw [if_pos d, bifd_pos d]
        · rw [if_neg d, bifd_neg d]
      · rw [if_neg c, decide_eq_false c]; rfl
    · obtain ⟨v, hv, v1, v2⟩ := nat_of (hg 0 (by omega)).1 (hg 0 (by omega)).2
      obtain ⟨u, hu, u1, u2⟩ := nat_of (hg 1 (by omega)).1 (hg 1 (by omega)).2
      obtain ⟨l, h, e, hl, hh⟩ := nrm_nat v1 v2 (hi := hi 0) (hlo 0)
      obtain ⟨l1, k1, e1, hl1, hk1⟩ := nrm_nat u1 u2 (hi := hi 1) (hlo 1)
      rw [show k + 4 = (k + 1) + 3 from rfl, ap2, ranges_norm_eq, ranges_norm_eq, hv, hu, e, e1]
      simp only [Option.bind_some]
      rw [binary_prog v1 v2 u1 u2 hl hh hl1 hk1 (by decide) (by decide) (by decide) (fun h => absurd rfl h)]
      simp only [Option.bind_some, valS, hv, hu, e, e1, Int.toNat_natCast]
      rfl
    · obtain ⟨v, hv, v1, v2⟩ := nat_of (hg 0 (by omega)).1 (hg 0 (by omega)).2
      have hu : g 1 = (v : Int) := by omega
      obtain ⟨l, h, e, hl, hh⟩ := nrm_nat v1 v2 (hi := hi 0) (hlo 0)
      obtain ⟨l1, k1, e1, hl1, hk1⟩ := nrm_nat v1 v2 (hi := hi 1) (hlo 1)
      rw [show k + 4 = (k + 1) + 3 from rfl, ap2, ranges_norm_eq, ranges_norm_eq, hv, hu, e, e1]
      simp only [Option.bind_some]
      rw [binary_prog v1 v2 v1 v2 hl hh hl1 hk1 (by omega) (by omega) (by omega) (fun _ => rfl)]
      simp only [Option.bind_some, valS, hv, hu, e, e1, Int.toNat_natCast]
      rw [if_neg (by omega), if_neg (by omega), if_neg (by omega), if_neg (by decide)]
    · obtain ⟨v, hv, v1, v2⟩ := nat_of (hg 0 (by omega)).1 (hg 0 (by omega)).2
      have hu : g 1 = (v : Int) := by omega
      obtain ⟨l, h, e, hl, hh⟩ := nrm_nat v1 v2 (hi := hi 0) (hlo 0)
      obtain ⟨l1, k1, e1, hl1, hk1⟩ := nrm_nat v1 v2 (hi := hi 1) (hlo 1)
      rw [show k + 4 = (k + 1) + 3 from rfl, ap2, ranges_norm_eq, ranges_norm_eq, hv, hu, e, e1]
      simp only [Option.bind_some]
      rw [binary_prog v1 v2 v1 v2 hl hh hl1 hk1 (by omega) (by omega) (by omega) (fun _ => rfl)]
      simp only [Option.bind_some, valS, hv, hu, e, e1, Int.toNat_natCast]
      rw [if_neg (by omega), if_neg (by omega), if_neg (by omega), if_neg (by decide)]
theorem apply_ref {op w : Int} {x : Nat} (hx : x < 18446744073709551616) (n m : Nat) (g lo hi : Nat → Int) (hlo : ∀ i, 0 ≤ lo i) : saturateref13_Apply.f op w x (n, g) (m, lo, hi) = some (resS op w x n m g lo hi) := by
  unfold saturateref13_Apply.f saturateref13_Apply.g resS
  simp only [saturateref13_Refused_eq hx, Option.bind_some]
  by_cases hc : (chkS op w x n m g).2 ≠ 0
  · rw [if_pos hc, show ((chkS op w x n m g).2 != 0) = true by rw [bne_iff_ne]; exact hc]; rfl
  · have hc0 := Decidable.not_not.1 hc
    obtain ⟨h1, h2, rfl, ha, hg, he, e0, e1⟩ := chkS_ok hc0
    rw [if_neg hc, show ((chkS op w x m m g).2 != 0) = false by rw [bne_eq_false_iff_eq]; exact hc0, cond_false, he]
    obtain ⟨r1, r2, hcases⟩ := widthT_ok h1 h2 ha hg e0 e1
    generalize (widthT op w x g).1 = r at *
    clear he e0 e1 hc hc0 ha
    obtain ⟨r, rfl, r1, r2⟩ := nat_of r1 r2
    obtain ⟨k, hk⟩ := fuel_is
    rw [hk]
    rcases hcases with ⟨ho, rfl⟩ | ⟨ho, rfl, hr⟩ | ⟨ho, rfl, hr, hr2⟩ | ⟨rfl, rfl, g0, g1, g2⟩ | ⟨rfl, rfl, hr⟩ | ⟨ho, rfl, g1, hr⟩ | ⟨ho, rfl, g1, hr⟩
    · rcases ho with rfl | rfl
      · rw [rp01]; simp only [saturateref01_Mask_eq, saturateref13_Top_eq, Option.bind_some, valS, if_true]
      · rw [rp02]; simp only [saturateref01_Mask_eq, saturateref13_Const_eq _ hx, Option.bind_some, valS, Int.reduceEq, if_true, if_false]
    · obtain ⟨v, hv, v1, v2⟩ := nat_of (hg 0 (by omega)).1 (hg 0 (by omega)).2
      obtain ⟨l, h, e, hl, hh⟩ := nrm_nat v1 v2 (hi := hi 0) (hlo 0)
      obtain rfl : r = v := by omega
      have hM := vmask_lt r2
      rcases ho with rfl | rfl
      · rw [rp3, saturateref13_Of_eq, saturateref01_Mask_eq, hv, e, W_of r1 r2]
        simp only [Option.bind_some, valS, hv, e, Int.toNat_natCast, Int.reduceEq, if_true, if_false, oneS]
        rw [wrapu_sub_le hM (by omega), wrapu_sub_le hM (by omega)]; rfl
      · rw [rp4, saturateref13_Of_eq, saturateref01_Mask_eq, hv, e, W_of r1 r2]
        simp only [Option.bind_some, valS, hv, e, Int.toNat_natCast, Int.reduceEq, if_true, if_false, oneS]
        rw [neg_ref r1 r2 hl hh]; rfl
    · obtain ⟨v, hv, v1, v2⟩ := nat_of (hg 0 (by omega)).1 (hg 0 (by omega)).2
      obtain ⟨l, h, e, hl, hh⟩ := nrm_nat v1 v2 (hi := hi 0) (hlo 0)
      rcases ho with rfl | rfl | rfl
      · rw [rp21, saturateref13_Of_eq, saturateref01_Mask_eq, hv, e, W_of r1 r2]
        simp only [Option.bind_some, valS, hv, e, Int.toNat_natCast, Int.reduceEq, if_true, if_false, oneS]
        rw [extract_ref v1 v2 r1 r2 hl hh (by have := hr rfl; omega)]; rfl
      · rw [rp22, saturateref13_Of_eq, saturateref01_Mask_eq, hv, e, W_of r1 r2]
        simp only [Option.bind_some, valS, hv, e, Int.toNat_natCast, Int.reduceEq, if_true, if_false, oneS]
        rfl
      · rw [rp23, saturateref13_Of_eq, saturateref01_Mask_eq, hv, e, W_of r1 r2]
        simp only [Option.bind_some, valS, hv, e, Int.toNat_natCast, Int.reduceEq, if_true, if_false, oneS]
        rw [sext_ref v1 v2 r1 r2 hl hh]; rfl
    · obtain ⟨l, h, e, hl, hh⟩ := nrm_nat (v := 1) (by decide) (by decide) (hi := hi 0) (hlo 0)
      obtain ⟨l1, k1, e1, hl1, hk1⟩ := nrm_nat r1 r2 (hi := hi 1) (hlo 1)
      obtain ⟨l2, k2, e2, hl2, hk2⟩ := nrm_nat r1 r2 (hi := hi 2) (hlo 2)
      rw [mask1] at hh
      rw [rp19, saturateref13_Of_eq, saturateref13_Of_eq, saturateref13_Of_eq, saturateref01_Mask_eq, g0, g1, g2, show (1 : Int) = ((1 : Nat) : Int) from rfl, e, e1, e2]
      have f1 := e1
      have f2 := e2
      rw [MMn r1 r2] at f1 f2
      simp only [Option.bind_some, valS, g0, g1, g2, show (1 : Int) = ((1 : Nat) : Int) from rfl, e, e1, e2, f1, f2, saturateref13_Join_eq, MMn r1 r2]
      rw [nrm_of (r := ((l1 : Int), (k1 : Int))) (by simp only; omega) (by simp only; omega), nrm_of (r := ((l2 : Int), (k2 : Int))) (by simp only; omega) (by simp only; omega)]
      rw [if_neg (show ¬ ((19 : Int) = ((1 : Nat) : Int)) by decide), if_neg (by decide), if_pos trivial]
      by_cases c : l = h
      · subst c
        rw [if_pos rfl, show ((l : Int) != (l : Int)) = false from bne_self_eq_false _, cond_false]
        by_cases d : l = 1
        · subst d; rw [if_pos rfl]; rfl
        · obtain rfl : l = 0 := by omega
          rw [if_neg (by decide)]; rfl
      · rw [if_neg (by omega), show ((l : Int) != (h : Int)) = true by rw [bne_iff_ne]; omega]; rfl
    · obtain ⟨v, hv, v1, v2⟩ := nat_of (hg 0 (by omega)).1 (hg 0 (by omega)).2
      obtain ⟨u, hu, u1, u2⟩ := nat_of (hg 1 (by omega)).1 (hg 1 (by omega)).2
      obtain ⟨l, h, e, hl, hh⟩ := nrm_nat v1 v2 (hi := hi 0) (hlo 0)
      obtain ⟨l1, k1, e1, hl1, hk1⟩ := nrm_nat u1 u2 (hi := hi 1) (hlo 1)
      have hM := vmask_lt v2
      have hN := vmask_lt u2
      rw [show k + 4 = (k + 1) + 3 from rfl, rp20, saturateref13_Of_eq, saturateref13_Of_eq, saturateref01_Mask_eq, hv, hu, e, e1]
      simp only [Option.bind_some]
      rw [saturateref01_Concat_eq _ _ (by omega) (by omega), Option.bind_some, saturateref01_Concat_eq _ _ (by omega) (by omega), Option.bind_some, W_of v1 v2, W_of u1 u2]
      simp only [valS, hv, hu, e, e1, Int.toNat_natCast]
      rfl
    · obtain ⟨v, hv, v1, v2⟩ := nat_of (hg 0 (by omega)).1 (hg 0 (by omega)).2
      have hu : g 1 = (v : Int) := by omega
      obtain ⟨l, h, e, hl, hh⟩ := nrm_nat v1 v2 (hi := hi 0) (hlo 0)
      obtain ⟨l1, k1, e1, hl1, hk1⟩ := nrm_nat v1 v2 (hi := hi 1) (hlo 1)
      rw [show k + 4 = (k + 1) + 3 from rfl, rpTwo _ _ _ _ _ _ _ _ (by omega) (by omega), saturateref13_Of_eq, saturateref13_Of_eq, saturateref01_Mask_eq, hv, hu, e, e1]
      simp only [Option.bind_some]
      rw [two_ref v1 v2 hl hh hl1 hk1 (by omega) (by omega) (by omega)]
      simp only [Option.bind_some, valS, hv, hu, e, e1, Int.toNat_natCast]
      rw [if_neg (by omega), if_neg (by omega), if_neg (by omega), if_neg (by decide)]
    · obtain ⟨v, hv, v1, v2⟩ := nat_of (hg 0 (by omega)).1 (hg 0 (by omega)).2
      have hu : g 1 = (v : Int) := by omega
      obtain ⟨l, h, e, hl, hh⟩ := nrm_nat v1 v2 (hi := hi 0) (hlo 0)
      obtain ⟨l1, k1, e1, hl1, hk1⟩ := nrm_nat v1 v2 (hi := hi 1) (hlo 1)
      rw [show k + 4 = (k + 1) + 3 from rfl, rpTwo _ _ _ _ _ _ _ _ (by omega) (by omega), saturateref13_Of_eq, saturateref13_Of_eq, saturateref01_Mask_eq, hv, hu, e, e1]
      simp only [Option.bind_some]
      rw [two_ref v1 v2 hl hh hl1 hk1 (by omega) (by omega) (by omega)]
      simp only [Option.bind_some, valS, hv, hu, e, e1, Int.toNat_natCast]
      rw [if_neg (by omega), if_neg (by omega), if_neg (by omega), if_neg (by decide)]
end Go.Proofs.YtcihbcffokjgjaaGreat.Fn
