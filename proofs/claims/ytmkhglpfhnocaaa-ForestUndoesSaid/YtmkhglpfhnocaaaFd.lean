import Derived.Test.YtmkhglpfhnocaaaFo
namespace Go.Proofs.Ytmkhglpfhnocaaa.Fn
open Go Go.RowKit Go.MapKept Go.Proofs Forest17
set_option linter.unusedVariables false
set_option maxRecDepth 100000
set_option linter.unusedSimpArgs false
open Go.Shelf
attribute [local go_sem] Oper.semAt_some
set_option maxHeartbeats 400000 in
theorem find_calls {fb nb ub : Nat} {v : Value} {u : Int → Option Int} {r : Int → Int} {d : Int → Nat} {x : Int} {W : World} (hfb : W.heap[fb]? = some (.cells #[.bool true, v, .map (some nb), .map (some ub)] 52 (0, 0))) (hm : MapIs W ub (U2 u)) (hu : UF u r d) :
    Calls Try.prog 27 #[.pointer (some ⟨fb, 0, none⟩), .int .i64 x] W fun e W' => e = .returned (.int .i64 (r x)) ∧ ∃ u', MapIs W' ub (U2 u') ∧ UF u' r d ∧ Kp (fun k => k = ub) W W' := by
  have hne : fb ≠ ub := fun e => by obtain ⟨es, cl, h1, _⟩ := hm.ex; rw [← e, hfb] at h1; cases h1
  refine calls_of_wp Try.func27 rfl ?_
  simp only [Try.ntmps27, List.size_toArray, List.length_cons, List.length_nil, Nat.reduceAdd, Nat.reduceSub, Array.replicate_succ, Array.replicate_zero, List.push_toArray, List.append_toArray, List.nil_append, List.cons_append]
  obtain ⟨c3, f3⟩ := box_cells hfb (j := 3) rfl
  go_wp2_with (fail)
  go_loopw [5] (fun v5 wr => W = wr ∧ ∃ c, v5 = .int .i64 c ∧ r c = r x) (fun v5 wr => d (intOf v5))
  case atStart => exact ⟨rfl, x, rfl, rfl⟩
  case round =>
    obtain ⟨hw0, c, rfl, hc⟩ := hrel
    subst hw0
    have hl := hm.lookup_ok (P := Try.prog) und50 und3 (zero3 W) c
    cases hu0 : u c with
    | none =>
      rw [show U2 u c = none by simp [U2, hu0]] at hl
      go_wp2_with (at_lookup; refine wpList_lookup_run _ rfl _ _ 50 true rfl _ _ _ rfl rfl hl ?_)
      clear hl
      go_wp2_with (fail)
      go_loopw [1] (fun v1 wr => ∃ u' c1, v1 = .int .i64 c1 ∧ r c1 = r x ∧ MapIs wr ub (U2 u') ∧ UF u' r d ∧ Kp (fun k => k = ub) W wr) (fun v1 wr => d (intOf v1))
      case atStart => exact ⟨u, x, rfl, rfl, hm, hu, Kp.refl _ _⟩
      case round =>
        obtain ⟨u', c1, rfl, hc1, hm', hu', hk⟩ := hrel
        have hfb' := hk.heap hfb hne
        obtain ⟨c3', f3'⟩ := box_cells hfb' (j := 3) rfl
        by_cases he : c1 = c
        · subst he
          go_wp2_with (fail)
          exact ⟨rfl, .int .i64 c1, by simp [results, Try.results27, go_sem], by rw [← hc, hu.top _ hu0], u', hm', hu', hk⟩
        · obtain ⟨y, hy⟩ : ∃ y, u' c1 = some y := by
            cases h : u' c1 with
            | some y => exact ⟨y, rfl⟩
            | none => exact absurd ((hu'.top c1 h).symm.trans (hc1.trans (hc.symm.trans (hu.top c hu0)))) he
          go_wp2_with (fail)
          have hmd : MapIs wr.drew ub (U2 u') := hm'.kept rfl
          have hl2 := hmd.lookup (P := Try.prog) und50 und3 (zero3 wr.drew) c1
          rw [show U2 u' c1 = some (.int .i64 y) by simp [U2, hy]] at hl2
          obtain ⟨st, hst, hstore⟩ := hmd.entry (P := Try.prog) und50 und3 (show U2 u' c1 = some (.int .i64 y) by simp [U2, hy])
          have cd : wr.drew.cell? ⟨fb, 3, none⟩ = some (.map (some ub)) := c3'
          obtain ⟨W3, h3, hm3, ho3⟩ := hstore wr.drew (.int .i64 c) rfl
          replace h3 : Sem.run Try.prog (Instr.entryStore 50 (.map (some ub)) (.int .i64 (st : Int)) (.int .i64 c)) wr.drew = .ok () W3 := h3
          refine start1 (· = wr.drew) 14 #[false, false, false, false, false, false, false, false, false, false, false, false, false, false, false, false] (by kernel_rfl) (by kernel_rfl) ?_
          refine move1 (i := 0) (d := (some 24)) (v := _) rfl rfl (by kernel_rfl) (by rfl) (fun _ _ _ h => h) rfl (fun w => by (go_simp; try with_reducible rfl)) ?_
          simp only [Act.put, List.setIfInBounds_toArray, List.set_cons_zero, List.set_cons_succ]
          refine move1 (i := 1) (d := (some 25)) (v := _) rfl rfl (by kernel_rfl) (by rfl) (fun _ _ _ h => h) rfl (fun w => by (go_simp; try with_reducible rfl)) ?_
          simp only [Act.put, List.setIfInBounds_toArray, List.set_cons_zero, List.set_cons_succ]
          refine move1 (i := 2) (d := (some 26)) (v := _) rfl rfl (by kernel_rfl) (by rfl) (fun _ _ _ h => h) rfl (fun w => by (go_simp; try with_reducible rfl)) ?_
          simp only [Act.put, List.setIfInBounds_toArray, List.set_cons_zero, List.set_cons_succ]
          refine take1 (i := 3) (d := (some 27)) (v := _) rfl rfl (by kernel_rfl) (by rfl) (fun _ _ _ h => h) rfl (fun w hw => by subst hw; (go_simp; try with_reducible rfl)) ?_
          simp only [Act.put, List.setIfInBounds_toArray, List.set_cons_zero, List.set_cons_succ]
          refine move1 (i := 4) (d := (some 28)) (v := _) rfl rfl (by kernel_rfl) (by rfl) (fun _ _ _ h => h) rfl (fun w => by (go_simp; try with_reducible rfl)) ?_
          simp only [Act.put, List.setIfInBounds_toArray, List.set_cons_zero, List.set_cons_succ]
          refine move1 (i := 5) (d := (some 29)) (v := _) rfl rfl (by kernel_rfl) (by rfl) (fun _ _ _ h => h) rfl (fun w => by (go_simp; try with_reducible rfl)) ?_
          simp only [Act.put, List.setIfInBounds_toArray, List.set_cons_zero, List.set_cons_succ]
          refine move1 (i := 6) (d := (some 30)) (v := _) rfl rfl (by kernel_rfl) (by rfl) (fun _ _ _ h => h) rfl (fun w => by (go_simp; try with_reducible rfl)) ?_
          simp only [Act.put, List.setIfInBounds_toArray, List.set_cons_zero, List.set_cons_succ]
          refine move1 (i := 7) (d := (some 31)) (v := _) rfl rfl (by kernel_rfl) (by rfl) (fun _ _ _ h => h) rfl (fun w => by (go_simp; try with_reducible rfl)) ?_
          simp only [Act.put, List.setIfInBounds_toArray, List.set_cons_zero, List.set_cons_succ]
          refine move1 (i := 8) (d := (some 32)) (v := _) rfl rfl (by kernel_rfl) (by rfl) (fun _ _ _ h => h) rfl (fun w => by (go_simp; try with_reducible rfl)) ?_
          simp only [Act.put, List.setIfInBounds_toArray, List.set_cons_zero, List.set_cons_succ]
          refine take1 (i := 9) (d := (some 33)) (v := _) rfl rfl (by kernel_rfl) (by rfl) (fun _ _ _ h => h) rfl (fun w hw => by subst hw; (go_simp; try with_reducible rfl)) ?_
          simp only [Act.put, List.setIfInBounds_toArray, List.set_cons_zero, List.set_cons_succ]
          refine move1 (i := 10) (d := (some 34)) (v := _) rfl rfl (by kernel_rfl) (by rfl) (fun _ _ _ h => h) rfl (fun w => by (go_simp; try with_reducible rfl)) ?_
          simp only [Act.put, List.setIfInBounds_toArray, List.set_cons_zero, List.set_cons_succ]
          refine take1 (i := 11) (d := (some 35)) (v := .int .i64 y) rfl rfl (by kernel_rfl) (by rfl) (fun _ _ _ h => h) rfl (fun w hw => by subst hw; (unfold execOp; simp [go_sem, hl2, Result.andThen])) ?_
          simp only [Act.put, List.setIfInBounds_toArray, List.set_cons_zero, List.set_cons_succ]
          refine take1 (i := 12) (d := (some 36)) (v := .tuple #[.int .i64 y, .int .i64 (st : Int)]) rfl rfl (by kernel_rfl) (by rfl) (fun _ _ _ h => h) rfl (fun w hw => by subst hw; (unfold execOp; simp [go_sem, hst, goInt, Result.andThen])) ?_
          simp only [Act.put, List.setIfInBounds_toArray, List.set_cons_zero, List.set_cons_succ]
          refine move1 (i := 13) (d := (some 37)) (v := _) rfl rfl (by kernel_rfl) (by rfl) (fun _ _ _ h => h) rfl (fun w => by (go_simp; try with_reducible rfl)) ?_
          simp only [Act.put, List.setIfInBounds_toArray, List.set_cons_zero, List.set_cons_succ]
          refine tail1 (i := 14) (by kernel_rfl) (wpOp_s (d := none) rfl rfl (by rfl) (w' := W3) (by unfold execOp; simp [go_sem, h3, Result.andThen]) ?_)
          simp only [Act.put, List.setIfInBounds_toArray, List.set_cons_zero, List.set_cons_succ]
          refine tail1 (i := 15) (by kernel_rfl) (wpOp_v (d := some 1) rfl rfl (by rfl) (v := .int .i64 y) (w' := W3) (by go_simp) ?_)
          simp only [Act.put, List.setIfInBounds_toArray, List.set_cons_zero, List.set_cons_succ]
          refine wpAnyL_done (by kernel_rfl) ?_ _
          go_wp2_with (fail)
          obtain ⟨q1, q2⟩ := hu'.up c1 y hy
          rw [upd_U2] at hm3
          have hset := hu'.set (x := c1) (by rw [hy]; simp)
          rw [hc1, ← hc, hu.top c hu0] at hset
          go_roundw
          case rel => exact ⟨_, y, rfl, q1.trans hc1, hm3, hset, (hk.trans (Kp.drew wr)).trans (Kp.one ho3 rfl)⟩
          case measure => exact q2
    | some y =>
      rw [show U2 u c = some (.int .i64 y) by simp [U2, hu0]] at hl
      go_wp2_with (at_lookup; refine wpList_lookup_run _ rfl _ _ 50 true rfl _ _ _ rfl rfl hl ?_)
      clear hl
      go_wp2_with (fail)
      obtain ⟨q1, q2⟩ := hu.up c y hu0
      go_roundw
      case rel => exact ⟨trivial, y, rfl, q1.trans hc⟩
      case measure => exact q2
end Go.Proofs.Ytmkhglpfhnocaaa.Fn
