import Derived.Test.YtmkhglpfhnocaaaFu
namespace Go.Proofs.Ytmkhglpfhnocaaa.Fn
open Go Go.RowKit Go.MapKept Go.Proofs Forest17
set_option linter.unusedVariables false
set_option maxRecDepth 100000
set_option linter.unusedSimpArgs false
open Go.Shelf
attribute [local go_sem] Oper.semAt_some
def lkA (l : Lk) : Value := .agg #[.int .i64 l.1, .int .i64 l.2.1, .int .i64 l.2.2]
def eqA (l l' : Lk) : Bool := decide (l.1 = l'.1) && (decide (l.2.1 = l'.2.1) && decide (l.2.2 = l'.2.2))
theorem eqA_iff (l l' : Lk) : eqA l l' = decide (l = l') := by
  obtain ⟨a, b, c⟩ := l
  obtain ⟨a', b', c'⟩ := l'
  simp [eqA, Prod.ext_iff]
theorem run_eq30 (l l' : Lk) (w : World) : (binOp .eql 30 (lkA l) (lkA l')).run Try.prog w = .ok (.bool (eqA l l')) w := by
  obtain ⟨a, b, c⟩ := l
  obtain ⟨a', b', c'⟩ := l'
  unfold lkA eqA
  go_simp
  by_cases h1 : a = a' <;> by_cases h2 : b = b' <;> by_cases h3 : c = c' <;> simp [h1, h2, h3]
theorem guard_neq (x y : Operand) (l l' : Lk) (w : World) : (eqGuard .neq 30 x y (lkA l) (lkA l')).run Try.prog w = .ok () w := by
  unfold lkA
  simp [eqGuard, go_sem]
theorem guard_eq (x y : Operand) (l l' : Lk) (w : World) : (eqGuard .eql 30 x y (lkA l) (lkA l')).run Try.prog w = .ok () w := by
  unfold lkA
  simp [eqGuard, go_sem]
theorem run_neq30 (l l' : Lk) (w : World) : (binOp .neq 30 (lkA l) (lkA l')).run Try.prog w = .ok (.bool (!eqA l l')) w := by
  obtain ⟨a, b, c⟩ := l
  obtain ⟨a', b', c'⟩ := l'
  unfold lkA eqA
  go_simp
  by_cases h1 : a = a' <;> by_cases h2 : b = b' <;> by_cases h3 : c = c' <;> simp [h1, h2, h3]
set_option maxHeartbeats 400000 in
theorem turned_calls (l : Lk) (W : World) : Calls Try.prog 14 #[lkA l] W fun e W' => e = .returned (lkA (turned l)) ∧ Kp (fun _ => False) W W' := by
  unfold lkA turned
  refine calls_of_wp Try.func14 rfl ?_
  simp only [Try.ntmps14, List.size_toArray, List.length_cons, List.length_nil, Nat.reduceAdd, Nat.reduceSub, Array.replicate_succ, Array.replicate_zero, List.push_toArray, List.append_toArray, List.nil_append, List.cons_append]
  go_wp2_with (fail)
  refine ⟨rfl, .agg #[.int .i64 l.2.1, .int .i64 l.1, .int .i64 l.2.2], ?_, rfl, (Kp.alloc _ _).trans (Kp.alloc _ _)⟩
  simp [results, Try.results14, go_sem]
theorem rw_cells {W : World} {A : Option Addr} {n c k : Nat} {ls : List Lk} {l : Lk} (h : Rw W (.slice A n c) ls) (hk : ls[k]? = some l) :
    n = ls.length ∧ ∃ g, A = some ⟨g, 0, none⟩ ∧ W.cell? ⟨g, k * 3, none⟩ = some (.int .i64 l.1) ∧ W.cell? ⟨g, k * 3 + 1, none⟩ = some (.int .i64 l.2.1) ∧ W.cell? ⟨g, k * 3 + 2, none⟩ = some (.int .i64 l.2.2) := by
  obtain ⟨A', c', hv⟩ := slice_of h
  simp only [Value.slice.injEq] at hv
  obtain ⟨rfl, rfl, rfl⟩ := hv
  exact ⟨rfl, link_cells h hk⟩
set_option maxHeartbeats 1000000 in
theorem equal_calls {W : World} {v1 v2 : Value} {l1 l2 : List Lk} (h1 : Rw W v1 l1) (h2 : Rw W v2 l2) (hb : l1.length ≤ 1000) : Calls Try.prog 16 #[v1, v2] W fun e W' => e = .returned (.bool (decide (l1 = l2))) ∧ Kp (fun _ => False) W W' := by
  obtain ⟨A1, c1, rfl⟩ := slice_of h1
  obtain ⟨A2, c2, rfl⟩ := slice_of h2
  refine calls_of_wp Try.func16 rfl ?_
  simp only [Try.ntmps16, List.size_toArray, List.length_cons, List.length_nil, Nat.reduceAdd, Nat.reduceSub, Array.replicate_succ, Array.replicate_zero, List.push_toArray, List.append_toArray, List.nil_append, List.cons_append]
  by_cases hl : l1.length = l2.length
  · obtain ⟨n, hn1⟩ : ∃ n, l1.length = n := ⟨_, rfl⟩
    have hn2 : l2.length = n := by rw [← hl]; exact hn1
    clear hl
    rw [Rw, hn1] at h1
    rw [Rw, hn2] at h2
    rw [hn1, hn2]
    rw [hn1] at hb
    go_wp2_with (fail)
    go_loopw [5] (fun v5 wr => ∃ j : Nat, v5 = .int .i64 (j : Int) ∧ j ≤ n ∧ l1.take j = l2.take j ∧ Kp (fun _ => False) W wr) (fun v5 wr => n - (intOf v5).toNat)
    case atStart => exact ⟨0, rfl, Nat.zero_le _, rfl, Kp.refl _ _⟩
    case round =>
      obtain ⟨j, rfl, hj, heq, hk⟩ := hrel
      by_cases hjl : j < n
      · obtain ⟨x, hx⟩ : ∃ x, l1[j]? = some x := ⟨_, List.getElem?_eq_getElem (by omega)⟩
        obtain ⟨y, hy⟩ : ∃ y, l2[j]? = some y := ⟨_, List.getElem?_eq_getElem (by omega)⟩
        have h1' := ownsRow_kp h1 hk fun _ _ => id
        have h2' := ownsRow_kp h2 hk fun _ _ => id
        obtain ⟨g1, rfl, a0, a1, a2⟩ := link_cells h1' hx
        obtain ⟨g2, rfl, b0, b1, b2⟩ := link_cells h2' hy
        go_wp2_with (fail)
        have hd : ∀ {a : Addr} {v : Value}, wr.cell? a = some v → wr.drew.cell? a = some v := fun h => h
        have a0' := hd a0
        have a1' := hd a1
        have a2' := hd a2
        have b0' := hd b0
        have b1' := hd b1
        have b2' := hd b2
        have hjl2 : (j : Int) < (n : Int) := by omega
        clear hd
        refine start1 (· = wr.drew) 9 #[false, false, false, false, false, false, false, false, false] (by kernel_rfl) (by kernel_rfl) ?_
        refine move1 (i := 0) (d := (some 17)) (v := _) rfl rfl (by kernel_rfl) (by rfl) (fun _ _ _ h => h) rfl (fun w => by (go_simp; try with_reducible rfl)) ?_
        simp only [Act.put, List.setIfInBounds_toArray, List.set_cons_zero, List.set_cons_succ]
        refine move1 (i := 1) (d := (some 18)) (v := _) rfl rfl (by kernel_rfl) (by rfl) (fun _ _ _ h => h) rfl (fun w => by (go_simp; try with_reducible rfl)) ?_
        simp only [Act.put, List.setIfInBounds_toArray, List.set_cons_zero, List.set_cons_succ]
        refine take1 (i := 2) (d := (some 19)) (v := _) rfl rfl (by kernel_rfl) (by rfl) (fun _ _ _ h => h) rfl (fun w hw => by subst hw; (go_simp; try with_reducible rfl)) ?_
        simp only [Act.put, List.setIfInBounds_toArray, List.set_cons_zero, List.set_cons_succ]
        refine take1 (i := 3) (d := (some 20)) (v := lkA x) rfl rfl (by kernel_rfl) (by rfl) (fun _ _ _ h => h) rfl (fun w hw => by subst hw; (unfold lkA; go_simp; try rfl)) ?_
        simp only [Act.put, List.setIfInBounds_toArray, List.set_cons_zero, List.set_cons_succ]
        refine move1 (i := 4) (d := (some 21)) (v := _) rfl rfl (by kernel_rfl) (by rfl) (fun _ _ _ h => h) rfl (fun w => by (go_simp; try with_reducible rfl)) ?_
        simp only [Act.put, List.setIfInBounds_toArray, List.set_cons_zero, List.set_cons_succ]
        refine move1 (i := 5) (d := (some 22)) (v := _) rfl rfl (by kernel_rfl) (by rfl) (fun _ _ _ h => h) rfl (fun w => by (go_simp; try with_reducible rfl)) ?_
        simp only [Act.put, List.setIfInBounds_toArray, List.set_cons_zero, List.set_cons_succ]
        refine take1 (i := 6) (d := (some 23)) (v := _) rfl rfl (by kernel_rfl) (by rfl) (fun _ _ _ h => h) rfl (fun w hw => by subst hw; (go_simp; try with_reducible rfl)) ?_
        simp only [Act.put, List.setIfInBounds_toArray, List.set_cons_zero, List.set_cons_succ]
        refine take1 (i := 7) (d := (some 24)) (v := lkA y) rfl rfl (by kernel_rfl) (by rfl) (fun _ _ _ h => h) rfl (fun w hw => by subst hw; (unfold lkA; go_simp; try rfl)) ?_
        simp only [Act.put, List.setIfInBounds_toArray, List.set_cons_zero, List.set_cons_succ]
        refine take1 (i := 8) (d := (some 25)) (v := .bool (!eqA x y)) rfl rfl (by kernel_rfl) (by rfl) (fun _ _ _ h => h) rfl (fun w hw => by subst hw; (unfold execOp; simp [go_sem, guard_neq, run_neq30, Result.andThen])) ?_
        simp only [Act.put, List.setIfInBounds_toArray, List.set_cons_zero, List.set_cons_succ]
        refine wpAnyL_done (by kernel_rfl) ?_ _
        have hk2 : Kp (fun _ => False) W wr.drew := hk.trans (Kp.drew _)
        have tk : ∀ (l : List Lk) (z : Lk), l[j]? = some z → l.take (j + 1) = l.take j ++ [z] := fun l z h => by rw [List.take_add_one, h]; rfl
        cases hq : eqA x y with
        | true =>
          have hxy : x = y := by rw [eqA_iff] at hq; exact of_decide_eq_true hq
          go_wp2_with (fail)
          go_roundw
          case rel => exact ⟨j + 1, by go_num, hjl, by rw [tk l1 x hx, tk l2 y hy, heq, hxy], hk2⟩
          case measure => simp only [intOf]; omega
        | false =>
          have hxy : x ≠ y := by rw [eqA_iff] at hq; exact of_decide_eq_false hq
          go_wp2_with (fail)
          refine ⟨rfl, .bool false, by simp [results, Try.results16, go_sem], ?_, hk2⟩
          rw [decide_eq_false fun e => hxy (by rw [e, hy] at hx; exact (Option.some.inj hx).symm)]
      · have hje : j = n := by omega
        go_wp2_with (fail)
        refine ⟨rfl, .bool true, by simp [results, Try.results16, go_sem], ?_, hk⟩
        rw [List.take_of_length_le (by omega), List.take_of_length_le (by omega)] at heq
        rw [decide_eq_true heq]
  · go_wp2_with (fail)
    refine ⟨rfl, .bool false, by simp [results, Try.results16, go_sem], ?_, Kp.refl _ _⟩
    rw [decide_eq_false fun e => hl (by rw [e])]
end Go.Proofs.Ytmkhglpfhnocaaa.Fn
