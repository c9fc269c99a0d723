import Derived.Test.YtmkhglpfhnocaaaLa
import Derived.IntWalk
namespace Go.Proofs.Ytmkhglpfhnocaaa.Fn
open Go Go.RowKit Go.MapKept Go.Proofs Forest17
set_option linter.unusedVariables false
set_option maxRecDepth 100000
set_option linter.unusedSimpArgs false
open Go.Shelf
attribute [local go_sem] Oper.semAt_some
theorem sameB_symm {ls : List Lk} (hf : For ls) (a b : Int) : sameB ls b a = sameB ls a b := by
  have h : cnB ls b a = cnB ls a b := by
    unfold cnB
    cases h : pathS ls a b with
    | some p => rw [pathS_rev hf h]; rfl
    | none =>
      cases h' : pathS ls b a with
      | none => rfl
      | some q => rw [pathS_rev hf h'] at h; cases h
  unfold sameB
  rw [h, Bool.and_comm (decide (0 ≤ b))]
theorem pathQ_rev {ls : List Lk} (hf : For ls) (a b : Int) : (pathQ ls b a).getD [] = ((pathQ ls a b).getD []).reverse.map turned := by
  unfold pathQ
  rw [sameB_symm hf]
  cases hs : sameB ls a b with
  | false => rfl
  | true =>
    obtain ⟨p, hp⟩ := Option.isSome_iff_exists.1 (sameB_some hs)
    simp only [if_true]
    rw [hp, pathS_rev hf hp]
    rfl
set_option maxHeartbeats 2000000 in
theorem reverses_calls {W : World} {A : Option Addr} {n0 c : Nat} {act : Nat → Act4} (hA : ActsAt W A n0 act) (a b : Int) : Calls Try.prog 3 #[.slice A n0 c, .int .i64 a, .int .i64 b] W fun e W' => e = .returned (.bool true) ∧ Kp (fun _ => False) W W' := by
  have hlive := live_calls W
  refine calls_of_wp Try.func3 rfl ?_
  simp only [Try.ntmps3, List.size_toArray, List.length_cons, List.length_nil, Nat.reduceAdd, Nat.reduceSub, Array.replicate_succ, Array.replicate_zero, List.push_toArray, List.append_toArray, List.nil_append, List.cons_append]
  by_cases hn : 60 < n0
  · go_wp2_with (first
      | ((with_reducible refine hlive.mono ?_); rintro e W1 ⟨rfl, hk1⟩)
      | fail)
    exact ⟨rfl, .bool true, by simp [results, Try.results3, go_sem], rfl, hk1⟩
  · clear hlive
    have hn2 : n0 ≤ 60 := by omega
    have hplay := play_calls (c := c) hA hn2
    have hlen := playL_len act n0
    obtain ⟨ls, hls⟩ : ∃ ls, playL act n0 = ls := ⟨_, rfl⟩
    rw [hls] at hplay hlen
    go_wp2_with (first
      | ((with_reducible refine hplay.mono ?_); rintro e W1 ⟨fb, rfl, hR0, hk1⟩; have hR1 := rep_laid hR0; have hf := rep_for hR1; have hp := path_calls hR1 a b)
      | fail)
    have hql := pathQ_len hf a b
    have hqr := pathQ_rev hf a b
    obtain ⟨P, hP⟩ : ∃ P, (pathQ ls a b).getD [] = P := ⟨_, rfl⟩
    obtain ⟨n, hPn⟩ : ∃ n, P.length = n := ⟨_, rfl⟩
    rw [hP] at hp hql hqr
    rw [hPn] at hql
    obtain ⟨ok, hok⟩ : ∃ ok, sameB ls a b = ok := ⟨_, rfl⟩
    rw [hok] at hp
    have hQn : (P.reverse.map turned).length = n := by simpa using hPn
    have hok2 : sameB ls b a = ok := by rw [sameB_symm hf]; exact hok
    go_wp2_with (first
      | ((with_reducible refine hp.mono ?_); rintro e W2 ⟨vp, rfl, hp2, hR2, hk2'⟩; have hk2 := laid_kp hk1 hk2'; have hq := path_calls hR2 b a; rw [hqr, hok2] at hq; obtain ⟨Ap, cp, rfl⟩ := slice_of hp2.row; have hp2r := hp2.row; rw [hPn] at hp2r hp2 ⊢)
      | ((with_reducible refine hq.mono ?_); rintro e W3 ⟨vq, rfl, hq3, hR3, hk3'⟩; have hk3 := laid_kp hk2 hk3'; replace hp2 := row_laid hp2 hk3'; replace hp2r := hp2.row; have hq3r := hq3.row; obtain ⟨Aq, cq, rfl⟩ := slice_of hq3r; rw [hPn] at hp2r; rw [hQn] at hq3r hq3 ⊢)
      | fail)
    go_loopw [12] (fun v12 wr => ∃ j : Nat, v12 = .int .i64 (j : Int) ∧ j ≤ n ∧ Kp (fun _ => False) W3 wr) (fun v12 wr => n - (intOf v12).toNat)
    case atStart => exact ⟨0, rfl, Nat.zero_le _, Kp.refl _ _⟩
    case round =>
      obtain ⟨j, rfl, hj, hkj⟩ := hrel
      by_cases hjn : j < n
      · obtain ⟨x, hx⟩ : ∃ x, P[j]? = some x := ⟨_, List.getElem?_eq_getElem (by omega)⟩
        obtain ⟨m, hm⟩ : ∃ m, m + j + 1 = n := ⟨n - 1 - j, by omega⟩
        have hqx : (P.reverse.map turned)[m]? = some (turned x) := by
          rw [List.getElem?_map, List.getElem?_reverse (by omega), show P.length - 1 - m = j by omega, hx]; rfl
        have hpj := ownsRow_kp hp2r hkj fun _ _ => id
        have hqj := ownsRow_kp hq3r hkj fun _ _ => id
        obtain ⟨gp, rfl, _, _, _⟩ := link_cells hpj hx
        obtain ⟨gq, rfl, _, _, _⟩ := link_cells hqj hqx
        have hfact : ∀ w, Kp (fun _ => False) wr.drew w → w.cell? ⟨gp, j * 3, none⟩ = some (.int .i64 x.1) ∧ w.cell? ⟨gp, j * 3 + 1, none⟩ = some (.int .i64 x.2.1) ∧ w.cell? ⟨gp, j * 3 + 2, none⟩ = some (.int .i64 x.2.2) ∧ w.cell? ⟨gq, m * 3, none⟩ = some (.int .i64 x.2.1) ∧ w.cell? ⟨gq, m * 3 + 1, none⟩ = some (.int .i64 x.1) ∧ w.cell? ⟨gq, m * 3 + 2, none⟩ = some (.int .i64 x.2.2) := fun w hw => by
          have hw' : Kp (fun _ => False) wr w := (Kp.drew wr).trans hw
          obtain ⟨g, hg, q0, q1, q2⟩ := link_cells (ownsRow_kp hpj hw' fun _ _ => id) hx
          cases hg
          obtain ⟨g', hg', r0, r1, r2⟩ := link_cells (ownsRow_kp hqj hw' fun _ _ => id) hqx
          cases hg'
          exact ⟨q0, q1, q2, r0, r1, r2⟩
        have hjn2 : (j : Int) < (n : Int) := by omega
        have hmn2 : (m : Int) < (n : Int) := by omega
        have heqA : eqA (turned x) (turned x) = true := by rw [eqA_iff]; exact decide_eq_true rfl
        have hw1 : IntKind.i64.wrap ((n : Int) - 1) = (n : Int) - 1 := IntWalk.i64_in _ (by omega)
        have hw2 : IntKind.i64.wrap ((n : Int) - 1 - (j : Int)) = (m : Int) := by rw [IntWalk.i64_in _ (by omega)]; omega
        go_wp2_with (fail)
        refine start1 (fun w => Kp (fun _ => False) wr.drew w) 14 #[false, false, false, false, false, false, false, false, false, false, false, false, false, false] (by kernel_rfl) (by kernel_rfl) ?_
        refine move1 (i := 0) (d := (some 51)) (v := _) rfl rfl (by kernel_rfl) (by rfl) (fun _ _ _ h => h) (Kp.refl _ _) (fun w => by (go_simp; try with_reducible rfl)) ?_
        simp only [Act.put, List.setIfInBounds_toArray, List.set_cons_zero, List.set_cons_succ]
        refine move1 (i := 1) (d := (some 52)) (v := _) rfl rfl (by kernel_rfl) (by rfl) (fun _ _ _ h => h) (Kp.refl _ _) (fun w => by (go_simp; try with_reducible rfl)) ?_
        simp only [Act.put, List.setIfInBounds_toArray, List.set_cons_zero, List.set_cons_succ]
        refine take1 (i := 2) (d := (some 53)) (v := _) rfl rfl (by kernel_rfl) (by rfl) (fun _ _ _ h => h) (Kp.refl _ _) (fun w hw => by obtain ⟨a0, a1, a2, b0, b1, b2⟩ := hfact w hw; (go_simp; try with_reducible rfl)) ?_
        simp only [Act.put, List.setIfInBounds_toArray, List.set_cons_zero, List.set_cons_succ]
        refine take1 (i := 3) (d := (some 54)) (v := .int .i64 ((n : Int) - 1)) rfl rfl (by kernel_rfl) (by rfl) (fun _ _ _ h => h) (Kp.refl _ _) (fun w hw => by obtain ⟨a0, a1, a2, b0, b1, b2⟩ := hfact w hw; (go_simp; try simp only [hw1]; try rfl)) ?_
        simp only [Act.put, List.setIfInBounds_toArray, List.set_cons_zero, List.set_cons_succ]
        refine move1 (i := 4) (d := (some 55)) (v := _) rfl rfl (by kernel_rfl) (by rfl) (fun _ _ _ h => h) (Kp.refl _ _) (fun w => by (go_simp; try with_reducible rfl)) ?_
        simp only [Act.put, List.setIfInBounds_toArray, List.set_cons_zero, List.set_cons_succ]
        refine take1 (i := 5) (d := (some 56)) (v := .int .i64 (m : Int)) rfl rfl (by kernel_rfl) (by rfl) (fun _ _ _ h => h) (Kp.refl _ _) (fun w hw => by obtain ⟨a0, a1, a2, b0, b1, b2⟩ := hfact w hw; (go_simp; try simp only [hw2]; try rfl)) ?_
        simp only [Act.put, List.setIfInBounds_toArray, List.set_cons_zero, List.set_cons_succ]
        refine move1 (i := 6) (d := (some 57)) (v := _) rfl rfl (by kernel_rfl) (by rfl) (fun _ _ _ h => h) (Kp.refl _ _) (fun w => by (go_simp; try with_reducible rfl)) ?_
        simp only [Act.put, List.setIfInBounds_toArray, List.set_cons_zero, List.set_cons_succ]
        refine take1 (i := 7) (d := (some 58)) (v := lkA (turned x)) rfl rfl (by kernel_rfl) (by rfl) (fun _ _ _ h => h) (Kp.refl _ _) (fun w hw => by obtain ⟨a0, a1, a2, b0, b1, b2⟩ := hfact w hw; (unfold lkA turned; go_simp; try rfl)) ?_
        simp only [Act.put, List.setIfInBounds_toArray, List.set_cons_zero, List.set_cons_succ]
        refine move1 (i := 8) (d := (some 59)) (v := _) rfl rfl (by kernel_rfl) (by rfl) (fun _ _ _ h => h) (Kp.refl _ _) (fun w => by (go_simp; try with_reducible rfl)) ?_
        simp only [Act.put, List.setIfInBounds_toArray, List.set_cons_zero, List.set_cons_succ]
        refine move1 (i := 9) (d := (some 60)) (v := _) rfl rfl (by kernel_rfl) (by rfl) (fun _ _ _ h => h) (Kp.refl _ _) (fun w => by (go_simp; try with_reducible rfl)) ?_
        simp only [Act.put, List.setIfInBounds_toArray, List.set_cons_zero, List.set_cons_succ]
        refine move1 (i := 10) (d := (some 61)) (v := _) rfl rfl (by kernel_rfl) (by rfl) (fun _ _ _ h => h) (Kp.refl _ _) (fun w => by (go_simp; try with_reducible rfl)) ?_
        simp only [Act.put, List.setIfInBounds_toArray, List.set_cons_zero, List.set_cons_succ]
        refine take1 (i := 11) (d := (some 62)) (v := lkA x) rfl rfl (by kernel_rfl) (by rfl) (fun _ _ _ h => h) (Kp.refl _ _) (fun w hw => by obtain ⟨a0, a1, a2, b0, b1, b2⟩ := hfact w hw; (unfold lkA; go_simp; try rfl)) ?_
        simp only [Act.put, List.setIfInBounds_toArray, List.set_cons_zero, List.set_cons_succ]
        refine only1 (i := 12) (by kernel_rfl) (wpOp_c (d := some 63) rfl rfl (by rfl) (f := 14) (args := #[lkA x]) (by go_simp; try rfl) ((turned_calls x wr.drew).mono ?_))
        rintro e W5 ⟨rfl, hk5⟩
        refine ⟨_, rfl, hk5, ?_⟩
        simp only [Act.put, List.setIfInBounds_toArray, List.set_cons_zero, List.set_cons_succ]
        refine take1 (i := 13) (d := (some 64)) (v := .bool false) rfl rfl (by kernel_rfl) (by rfl) (fun _ _ _ h => h) hk5 (fun w hw => by (unfold execOp; simp [go_sem, guard_neq, run_neq30, heqA, Result.andThen])) ?_
        simp only [Act.put, List.setIfInBounds_toArray, List.set_cons_zero, List.set_cons_succ]
        refine wpAnyL_done (by kernel_rfl) ?_ _
        have hkE : Kp (fun _ => False) W3 W5 := (hkj.trans (Kp.drew _)).trans hk5
        go_wp2_with (fail)
        go_roundw
        case rel => exact ⟨j + 1, by go_num, hjn, hkE⟩
        case measure => simp only [intOf]; omega
      · have hje : j = n := by omega
        subst hje
        have hlive := live_calls wr
        go_wp2_with (first
          | ((with_reducible refine hlive.mono ?_); rintro e W8 ⟨rfl, hk8⟩)
          | fail)
        exact ⟨rfl, .bool true, by simp [results, Try.results3, go_sem], rfl, (hk3.trans hkj).trans hk8⟩
end Go.Proofs.Ytmkhglpfhnocaaa.Fn
