import Derived.Test.YtmkhglpfhnocaaaFq
namespace Go.Proofs.Ytmkhglpfhnocaaa.Fn
open Go Go.RowKit Go.MapKept Go.Proofs Forest17
set_option linter.unusedVariables false
set_option maxRecDepth 100000
set_option linter.unusedSimpArgs false
open Go.Shelf
attribute [local go_sem] Oper.semAt_some
def hasL (ls : List Lk) (l : Lk) : Bool := ls.any fun x => eqA x l || eqA x (turned l)
set_option maxHeartbeats 1000000 in
theorem has_calls {W : World} {v : Value} {ls : List Lk} (hv : Rw W v ls) (hb : ls.length ≤ 1000) (l : Lk) : Calls Try.prog 25 #[v, lkA l] W fun e W' => e = .returned (.bool (hasL ls l)) ∧ Kp (fun _ => False) W W' := by
  obtain ⟨A, c, rfl⟩ := slice_of hv
  obtain ⟨n, hn⟩ : ∃ n, ls.length = n := ⟨_, rfl⟩
  rw [Rw, hn] at hv
  rw [hn] at hb ⊢
  have hbx : (W.alloc (.cells #[.int .i64 l.1, .int .i64 l.2.1, .int .i64 l.2.2] 30)).heap[W.heap.size]? = some (.cells #[.int .i64 l.1, .int .i64 l.2.1, .int .i64 l.2.2] 30 (0, 0)) := (heap_alloc W _).1
  have hk0 : Kp (fun _ => False) W (W.alloc (.cells #[.int .i64 l.1, .int .i64 l.2.1, .int .i64 l.2.2] 30)) := Kp.alloc _ _
  refine calls_of_wp Try.func25 rfl ?_
  simp only [Try.ntmps25, List.size_toArray, List.length_cons, List.length_nil, Nat.reduceAdd, Nat.reduceSub, Array.replicate_succ, Array.replicate_zero, List.push_toArray, List.append_toArray, List.nil_append, List.cons_append]
  unfold lkA
  go_wp2_with (fail)
  go_loopw [5] (fun v5 wr => ∃ j : Nat, v5 = .int .i64 (j : Int) ∧ j ≤ n ∧ hasL (ls.take j) l = false ∧ Kp (fun _ => False) (W.alloc (.cells #[.int .i64 l.1, .int .i64 l.2.1, .int .i64 l.2.2] 30)) wr) (fun v5 wr => n - (intOf v5).toNat)
  case atStart => exact ⟨0, rfl, Nat.zero_le _, rfl, Kp.refl _ _⟩
  case round =>
    obtain ⟨j, rfl, hj, heq, hk⟩ := hrel
    by_cases hjl : j < n
    · obtain ⟨x, hx⟩ : ∃ x, ls[j]? = some x := ⟨_, List.getElem?_eq_getElem (by omega)⟩
      have hv' := ownsRow_kp hv (hk0.trans hk) fun _ _ => id
      obtain ⟨g1, rfl, _, _, _⟩ := link_cells hv' hx
      have hfact : ∀ w, Kp (fun _ => False) wr.drew w → w.cell? ⟨g1, j * 3, none⟩ = some (.int .i64 x.1) ∧ w.cell? ⟨g1, j * 3 + 1, none⟩ = some (.int .i64 x.2.1) ∧ w.cell? ⟨g1, j * 3 + 2, none⟩ = some (.int .i64 x.2.2) ∧ w.cell? ⟨W.heap.size, 0, none⟩ = some (.int .i64 l.1) ∧ w.cell? ⟨W.heap.size, 1, none⟩ = some (.int .i64 l.2.1) ∧ w.cell? ⟨W.heap.size, 2, none⟩ = some (.int .i64 l.2.2) := fun w hw => by
        have hw' : Kp (fun _ => False) wr w := (Kp.drew wr).trans hw
        obtain ⟨g, hg, q0, q1, q2⟩ := link_cells (ownsRow_kp hv' hw' fun _ _ => id) hx
        cases hg
        have hb := hw'.heap (hk.heap hbx id) id
        exact ⟨q0, q1, q2, (box_cells hb (j := 0) rfl).1, (box_cells hb (j := 1) rfl).1, (box_cells hb (j := 2) rfl).1⟩
      have tk : ls.take (j + 1) = ls.take j ++ [x] := by rw [List.take_add_one, hx]; rfl
      have hjl2 : (j : Int) < (n : Int) := by omega
      have hall : ∀ z, hasL (ls.take (j + 1)) l = z ↔ (eqA x l || eqA x (turned l)) = z := fun z => by
        unfold hasL at heq ⊢
        rw [tk, List.any_append, heq]; simp
      have hmem : x ∈ ls := List.mem_of_getElem? hx
      go_wp2_with (fail)
      cases hq : eqA x l with
      | true =>
        refine start1 (fun w => Kp (fun _ => False) wr.drew w) 15 #[false, false, false, false, false, false, false, false, false, false, false, false, false, false, false] (by kernel_rfl) (by kernel_rfl) ?_
        refine move1 (i := 0) (d := (some 12)) (v := _) rfl rfl (by kernel_rfl) (by rfl) (fun _ _ _ h => h) (Kp.refl _ _) (fun w => by (go_simp; try with_reducible rfl)) ?_
        simp only [Act.put, List.setIfInBounds_toArray, List.set_cons_zero, List.set_cons_succ]
        refine move1 (i := 1) (d := (some 13)) (v := _) rfl rfl (by kernel_rfl) (by rfl) (fun _ _ _ h => h) (Kp.refl _ _) (fun w => by (go_simp; try with_reducible rfl)) ?_
        simp only [Act.put, List.setIfInBounds_toArray, List.set_cons_zero, List.set_cons_succ]
        refine take1 (i := 2) (d := (some 14)) (v := _) rfl rfl (by kernel_rfl) (by rfl) (fun _ _ _ h => h) (Kp.refl _ _) (fun w hw => by obtain ⟨a0, a1, a2, b0, b1, b2⟩ := hfact w hw; (go_simp; try with_reducible rfl)) ?_
        simp only [Act.put, List.setIfInBounds_toArray, List.set_cons_zero, List.set_cons_succ]
        refine take1 (i := 3) (d := (some 15)) (v := lkA x) rfl rfl (by kernel_rfl) (by rfl) (fun _ _ _ h => h) (Kp.refl _ _) (fun w hw => by obtain ⟨a0, a1, a2, b0, b1, b2⟩ := hfact w hw; (unfold lkA; go_simp; try rfl)) ?_
        simp only [Act.put, List.setIfInBounds_toArray, List.set_cons_zero, List.set_cons_succ]
        refine take1 (i := 4) (d := (some 16)) (v := lkA l) rfl rfl (by kernel_rfl) (by rfl) (fun _ _ _ h => h) (Kp.refl _ _) (fun w hw => by obtain ⟨a0, a1, a2, b0, b1, b2⟩ := hfact w hw; (unfold lkA; go_simp; try rfl)) ?_
        simp only [Act.put, List.setIfInBounds_toArray, List.set_cons_zero, List.set_cons_succ]
        refine take1 (i := 5) (d := (some 17)) (v := .bool (eqA x l)) rfl rfl (by kernel_rfl) (by rfl) (fun _ _ _ h => h) (Kp.refl _ _) (fun w hw => by (unfold execOp; simp [go_sem, guard_eq, run_eq30, Result.andThen])) ?_
        rw [hq]
        simp only [Act.put, List.setIfInBounds_toArray, List.set_cons_zero, List.set_cons_succ]
        refine take1 (i := 6) (d := (some 18)) (v := .bool true) rfl rfl (by kernel_rfl) (by rfl) (fun _ _ _ h => h) (Kp.refl _ _) (fun w hw => by obtain ⟨a0, a1, a2, b0, b1, b2⟩ := hfact w hw; (go_simp; try rfl)) ?_
        simp only [Act.put, List.setIfInBounds_toArray, List.set_cons_zero, List.set_cons_succ]
        refine skip1 (i := 7) (d := (some 19)) rfl rfl (by kernel_rfl) (by rfl) (fun _ _ _ h => h) (Kp.refl _ _) ?_
        simp only [Act.put, List.setIfInBounds_toArray, List.set_cons_zero, List.set_cons_succ]
        refine skip1 (i := 8) (d := (some 20)) rfl rfl (by kernel_rfl) (by rfl) (fun _ _ _ h => h) (Kp.refl _ _) ?_
        simp only [Act.put, List.setIfInBounds_toArray, List.set_cons_zero, List.set_cons_succ]
        refine skip1 (i := 9) (d := (some 21)) rfl rfl (by kernel_rfl) (by rfl) (fun _ _ _ h => h) (Kp.refl _ _) ?_
        simp only [Act.put, List.setIfInBounds_toArray, List.set_cons_zero, List.set_cons_succ]
        refine skip1 (i := 10) (d := (some 22)) rfl rfl (by kernel_rfl) (by rfl) (fun _ _ _ h => h) (Kp.refl _ _) ?_
        simp only [Act.put, List.setIfInBounds_toArray, List.set_cons_zero, List.set_cons_succ]
        refine skip1 (i := 11) (d := (some 23)) rfl rfl (by kernel_rfl) (by rfl) (fun _ _ _ h => h) (Kp.refl _ _) ?_
        simp only [Act.put, List.setIfInBounds_toArray, List.set_cons_zero, List.set_cons_succ]
        refine skip1 (i := 12) (d := (some 24)) rfl rfl (by kernel_rfl) (by rfl) (fun _ _ _ h => h) (Kp.refl _ _) ?_
        simp only [Act.put, List.setIfInBounds_toArray, List.set_cons_zero, List.set_cons_succ]
        refine skip1 (i := 13) (d := (some 25)) rfl rfl (by kernel_rfl) (by rfl) (fun _ _ _ h => h) (Kp.refl _ _) ?_
        simp only [Act.put, List.setIfInBounds_toArray, List.set_cons_zero, List.set_cons_succ]
        refine move1 (i := 14) (d := (some 26)) (v := _) rfl rfl (by kernel_rfl) (by rfl) (fun _ _ _ h => h) (Kp.refl _ _) (fun w => by (go_simp; try with_reducible rfl)) ?_
        simp only [Act.put, List.setIfInBounds_toArray, List.set_cons_zero, List.set_cons_succ]
        refine wpAnyL_done (by kernel_rfl) ?_ _
        go_wp2_with (fail)
        refine ⟨rfl, .bool true, by simp [results, Try.results25, go_sem], ?_, (hk0.trans hk).trans (Kp.drew _)⟩
        have : hasL ls l = true := List.any_eq_true.2 ⟨x, hmem, by rw [hq]; rfl⟩
        rw [this]
      | false =>
        refine start1 (fun w => Kp (fun _ => False) wr.drew w) 15 #[false, false, false, false, false, false, false, false, false, false, false, false, false, false, false] (by kernel_rfl) (by kernel_rfl) ?_
        refine move1 (i := 0) (d := (some 12)) (v := _) rfl rfl (by kernel_rfl) (by rfl) (fun _ _ _ h => h) (Kp.refl _ _) (fun w => by (go_simp; try with_reducible rfl)) ?_
        simp only [Act.put, List.setIfInBounds_toArray, List.set_cons_zero, List.set_cons_succ]
        refine move1 (i := 1) (d := (some 13)) (v := _) rfl rfl (by kernel_rfl) (by rfl) (fun _ _ _ h => h) (Kp.refl _ _) (fun w => by (go_simp; try with_reducible rfl)) ?_
        simp only [Act.put, List.setIfInBounds_toArray, List.set_cons_zero, List.set_cons_succ]
        refine take1 (i := 2) (d := (some 14)) (v := _) rfl rfl (by kernel_rfl) (by rfl) (fun _ _ _ h => h) (Kp.refl _ _) (fun w hw => by obtain ⟨a0, a1, a2, b0, b1, b2⟩ := hfact w hw; (go_simp; try with_reducible rfl)) ?_
        simp only [Act.put, List.setIfInBounds_toArray, List.set_cons_zero, List.set_cons_succ]
        refine take1 (i := 3) (d := (some 15)) (v := lkA x) rfl rfl (by kernel_rfl) (by rfl) (fun _ _ _ h => h) (Kp.refl _ _) (fun w hw => by obtain ⟨a0, a1, a2, b0, b1, b2⟩ := hfact w hw; (unfold lkA; go_simp; try rfl)) ?_
        simp only [Act.put, List.setIfInBounds_toArray, List.set_cons_zero, List.set_cons_succ]
        refine take1 (i := 4) (d := (some 16)) (v := lkA l) rfl rfl (by kernel_rfl) (by rfl) (fun _ _ _ h => h) (Kp.refl _ _) (fun w hw => by obtain ⟨a0, a1, a2, b0, b1, b2⟩ := hfact w hw; (unfold lkA; go_simp; try rfl)) ?_
        simp only [Act.put, List.setIfInBounds_toArray, List.set_cons_zero, List.set_cons_succ]
        refine take1 (i := 5) (d := (some 17)) (v := .bool (eqA x l)) rfl rfl (by kernel_rfl) (by rfl) (fun _ _ _ h => h) (Kp.refl _ _) (fun w hw => by (unfold execOp; simp [go_sem, guard_eq, run_eq30, Result.andThen])) ?_
        rw [hq]
        simp only [Act.put, List.setIfInBounds_toArray, List.set_cons_zero, List.set_cons_succ]
        refine take1 (i := 6) (d := (some 18)) (v := .bool false) rfl rfl (by kernel_rfl) (by rfl) (fun _ _ _ h => h) (Kp.refl _ _) (fun w hw => by obtain ⟨a0, a1, a2, b0, b1, b2⟩ := hfact w hw; (go_simp; try rfl)) ?_
        simp only [Act.put, List.setIfInBounds_toArray, List.set_cons_zero, List.set_cons_succ]
        refine move1 (i := 7) (d := (some 19)) (v := _) rfl rfl (by kernel_rfl) (by rfl) (fun _ _ _ h => h) (Kp.refl _ _) (fun w => by (go_simp; try with_reducible rfl)) ?_
        simp only [Act.put, List.setIfInBounds_toArray, List.set_cons_zero, List.set_cons_succ]
        refine move1 (i := 8) (d := (some 20)) (v := _) rfl rfl (by kernel_rfl) (by rfl) (fun _ _ _ h => h) (Kp.refl _ _) (fun w => by (go_simp; try with_reducible rfl)) ?_
        simp only [Act.put, List.setIfInBounds_toArray, List.set_cons_zero, List.set_cons_succ]
        refine take1 (i := 9) (d := (some 21)) (v := _) rfl rfl (by kernel_rfl) (by rfl) (fun _ _ _ h => h) (Kp.refl _ _) (fun w hw => by obtain ⟨a0, a1, a2, b0, b1, b2⟩ := hfact w hw; (go_simp; try with_reducible rfl)) ?_
        simp only [Act.put, List.setIfInBounds_toArray, List.set_cons_zero, List.set_cons_succ]
        refine take1 (i := 10) (d := (some 22)) (v := lkA x) rfl rfl (by kernel_rfl) (by rfl) (fun _ _ _ h => h) (Kp.refl _ _) (fun w hw => by obtain ⟨a0, a1, a2, b0, b1, b2⟩ := hfact w hw; (unfold lkA; go_simp; try rfl)) ?_
        simp only [Act.put, List.setIfInBounds_toArray, List.set_cons_zero, List.set_cons_succ]
        refine take1 (i := 11) (d := (some 23)) (v := lkA l) rfl rfl (by kernel_rfl) (by rfl) (fun _ _ _ h => h) (Kp.refl _ _) (fun w hw => by obtain ⟨a0, a1, a2, b0, b1, b2⟩ := hfact w hw; (unfold lkA; go_simp; try rfl)) ?_
        simp only [Act.put, List.setIfInBounds_toArray, List.set_cons_zero, List.set_cons_succ]
        refine only1 (i := 12) (by kernel_rfl) (wpOp_c (d := some 24) rfl rfl (by rfl) (f := 14) (args := #[lkA l]) (by go_simp; try rfl) ((turned_calls l wr.drew).mono ?_))
        rintro e W5 ⟨rfl, hk5⟩
        refine ⟨_, rfl, hk5, ?_⟩
        simp only [Act.put, List.setIfInBounds_toArray, List.set_cons_zero, List.set_cons_succ]
        refine take1 (i := 13) (d := (some 25)) (v := .bool (eqA x (turned l))) rfl rfl (by kernel_rfl) (by rfl) (fun _ _ _ h => h) hk5 (fun w hw => by obtain ⟨a0, a1, a2, b0, b1, b2⟩ := hfact w hw; (unfold execOp; simp [go_sem, guard_eq, run_eq30, Result.andThen])) ?_
        simp only [Act.put, List.setIfInBounds_toArray, List.set_cons_zero, List.set_cons_succ]
        refine move1 (i := 14) (d := (some 26)) (v := _) rfl rfl (by kernel_rfl) (by rfl) (fun _ _ _ h => h) hk5 (fun w => by (go_simp; try with_reducible rfl)) ?_
        simp only [Act.put, List.setIfInBounds_toArray, List.set_cons_zero, List.set_cons_succ]
        refine wpAnyL_done (by kernel_rfl) ?_ _
        have hkE : Kp (fun _ => False) (W.alloc (.cells #[.int .i64 l.1, .int .i64 l.2.1, .int .i64 l.2.2] 30)) W5 := (hk.trans (Kp.drew _)).trans hk5
        cases hq2 : eqA x (turned l) with
        | true =>
          go_wp2_with (fail)
          refine ⟨rfl, .bool true, by simp [results, Try.results25, go_sem], ?_, hk0.trans hkE⟩
          have : hasL ls l = true := List.any_eq_true.2 ⟨x, hmem, by rw [hq2]; simp⟩
          rw [this]
        | false =>
          go_wp2_with (fail)
          go_roundw
          case rel => exact ⟨j + 1, by go_num, hjl, (hall false).2 (by rw [hq, hq2]; rfl), hkE⟩
          case measure => simp only [intOf]; omega
    · have hje : j = n := by omega
      go_wp2_with (fail)
      refine ⟨rfl, .bool false, by simp [results, Try.results25, go_sem], ?_, hk0.trans hk⟩
      rw [List.take_of_length_le (by omega)] at heq
      rw [heq]
end Go.Proofs.Ytmkhglpfhnocaaa.Fn
