import Derived.Test.YtmkhglpfhnocaaaFm
namespace Go.Proofs.Ytmkhglpfhnocaaa.Fn
open Go Go.RowKit Go.MapKept Go.Proofs Forest17
set_option linter.unusedVariables false
set_option maxRecDepth 100000
set_option linter.unusedSimpArgs false
open Go.Shelf
attribute [local go_sem] Oper.semAt_some
abbrev Act4 := Bool × Int × Int × Int
/-- The operations that a law is given. -/
def ActsAt (W : World) (A : Option Addr) (n : Nat) (act : Nat → Act4) : Prop := 0 < n → ∃ blk off, A = some ⟨blk, off, none⟩ ∧ blk < W.heap.size ∧ ∀ i, i < n → W.cell? ⟨blk, off + i * 4, none⟩ = some (.bool (act i).1) ∧ W.cell? ⟨blk, off + i * 4 + 1, none⟩ = some (.int .i64 (act i).2.1) ∧ W.cell? ⟨blk, off + i * 4 + 2, none⟩ = some (.int .i64 (act i).2.2.1) ∧ W.cell? ⟨blk, off + i * 4 + 3, none⟩ = some (.int .i64 (act i).2.2.2)
theorem ActsAt.kp {S : Nat → Prop} {W W' : World} {A : Option Addr} {n : Nat} {act : Nat → Act4} (h : ActsAt W A n act) (hk : Kp S W W') (hS : ∀ k, k < W.heap.size → ¬ S k) : ActsAt W' A n act := fun hn => by
  obtain ⟨blk, off, h1, h2, h3⟩ := h hn
  refine ⟨blk, off, h1, Nat.lt_of_lt_of_le h2 hk.size, fun i hi => ?_⟩
  have e : ∀ o, W'.cell? ⟨blk, o, none⟩ = W.cell? ⟨blk, o, none⟩ := fun o => cell_of_block (hk.block blk h2 (hS blk h2))
  obtain ⟨a, b, c, d⟩ := h3 i hi
  exact ⟨(e _).trans a, (e _).trans b, (e _).trans c, (e _).trans d⟩
noncomputable def stepA (a : Act4) (ls : List Lk) : List Lk := if a.1 then undoL ls a.2.1 else linkL ls a.2.1 a.2.2.1 a.2.2.2
noncomputable def playL (act : Nat → Act4) : Nat → List Lk
  | 0 => []
  | i + 1 => stepA (act i) (playL act i)
theorem linkL_len (ls : List Lk) (a b w : Int) : (linkL ls a b w).length ≤ ls.length + 1 := by
  unfold linkL
  split <;> simp
theorem undoL_len (ls : List Lk) (n : Int) : (undoL ls n).length ≤ ls.length := by
  unfold undoL
  split
  · rw [List.length_take]; omega
  · exact Nat.le_refl _
theorem playL_len (act : Nat → Act4) : ∀ n, (playL act n).length ≤ n
  | 0 => Nat.le_refl _
  | n + 1 => by
    have := playL_len act n
    unfold playL stepA
    split
    · have := undoL_len (playL act n) (act n).2.1; omega
    · have := linkL_len (playL act n) (act n).2.1 (act n).2.2.1 (act n).2.2.2; omega
/-- The forest's own blocks: all from W on. -/
abbrev From (W : World) : Nat → Prop := fun k => W.heap.size ≤ k
theorem from_kp {W W1 W2 : World} (h1 : Kp (fun _ => False) W W1) (h2 : Kp (From W) W1 W2) : Kp (fun _ => False) W W2 :=
  ⟨h2.os.trans h1.os, h2.tape.trans h1.tape, h2.output.trans h1.output, Nat.le_trans h1.size h2.size, fun k hl _ => by rw [h2.block k (Nat.lt_of_lt_of_le hl h1.size) (by omega)]; exact h1.block k hl id⟩
theorem rep_from {W W1 W2 : World} {ls : List Lk} {fb : Nat} (h : Rep (fun k => From W k ∨ W1.heap.size ≤ k) ls fb W2) (h1 : W.heap.size ≤ W1.heap.size) : Rep (From W) ls fb W2 :=
  h.mono fun k _ h => h.elim id fun h => Nat.le_trans h1 h
set_option maxHeartbeats 1000000 in
theorem play_calls {W : World} {A : Option Addr} {n c : Nat} {act : Nat → Act4} (hA : ActsAt W A n act) (hn : n ≤ 60) : Calls Try.prog 12 #[.slice A n c] W fun e W' => ∃ fb, e = .returned (.pointer (some ⟨fb, 0, none⟩)) ∧ Rep (From W) (playL act n) fb W' ∧ Kp (fun _ => False) W W' := by
  have hnew := new_calls W
  refine calls_of_wp Try.func12 rfl ?_
  simp only [Try.ntmps12, List.size_toArray, List.length_cons, List.length_nil, Nat.reduceAdd, Nat.reduceSub, Array.replicate_succ, Array.replicate_zero, List.push_toArray, List.append_toArray, List.nil_append, List.cons_append]
  go_wp2_with (first
    | ((with_reducible refine hnew.mono ?_); rintro e W1 ⟨fb, rfl, hfb, hR1, hk1⟩)
    | fail)
  go_loopw [4] (fun v4 wr => ∃ j : Nat, v4 = .int .i64 (j : Int) ∧ j ≤ n ∧ Rep (From W) (playL act j) fb wr ∧ Kp (fun _ => False) W wr) (fun v4 wr => n - (intOf v4).toNat)
  case atStart => exact ⟨0, rfl, Nat.zero_le _, hR1, hk1⟩
  case round =>
    obtain ⟨j, rfl, hj, hRj, hKj⟩ := hrel
    by_cases hjn : j < n
    · obtain ⟨blk, off, rfl, hblk, hcells⟩ := (hA.kp hKj fun _ _ => id) (by omega)
      obtain ⟨a0, a1, a2, a3⟩ := hcells j hjn
      have hlen := playL_len act j
      have hjn2 : (j : Int) < (n : Int) := by omega
      have hpl : playL act (j + 1) = stepA (act j) (playL act j) := rfl
      unfold stepA at hpl
      cases hu : (act j).1 with
      | true =>
        rw [hu] at a0 hpl
        have hundo := undo_calls hRj (act j).2.1
        go_wp2_with (first
          | ((with_reducible refine hundo.mono ?_); rintro e W5 ⟨rfl, hR5, hk5⟩)
          | fail)
        have hR6 : Rep (From W) (playL act (j + 1)) fb W5 := by rw [hpl]; exact rep_from hR5 hKj.size
        have hK6 := from_kp hKj hk5
        go_roundw
        case rel => exact ⟨j + 1, by go_num, hjn, hR6, hK6⟩
        case measure => simp only [intOf]; omega
      | false =>
        rw [hu] at a0 hpl
        have hlink := link_calls (hRj.kp (S := fun _ => False) (Kp.drew wr) fun _ _ _ => id) (act j).2.1 (act j).2.2.1 (act j).2.2.2 (by omega)
        have a1' : wr.drew.cell? ⟨blk, off + j * 4 + 1, none⟩ = some (.int .i64 (act j).2.1) := a1
        have a2' : wr.drew.cell? ⟨blk, off + j * 4 + 2, none⟩ = some (.int .i64 (act j).2.2.1) := a2
        have a3' : wr.drew.cell? ⟨blk, off + j * 4 + 3, none⟩ = some (.int .i64 (act j).2.2.2) := a3
        go_wp2_with (fail)
        refine start1 (· = wr.drew) 16 #[false, false, false, false, false, false, false, false, false, false, false, false, false, false, false, false, false] (by kernel_rfl) (by kernel_rfl) ?_
        refine move1 (i := 0) (d := (some 26)) (v := _) rfl rfl (by kernel_rfl) (by rfl) (fun _ _ _ h => h) rfl (fun w => by (go_simp; try with_reducible rfl)) ?_
        simp only [Act.put, List.setIfInBounds_toArray, List.set_cons_zero, List.set_cons_succ]
        refine move1 (i := 1) (d := (some 27)) (v := _) rfl rfl (by kernel_rfl) (by rfl) (fun _ _ _ h => h) rfl (fun w => by (go_simp; try with_reducible rfl)) ?_
        simp only [Act.put, List.setIfInBounds_toArray, List.set_cons_zero, List.set_cons_succ]
        refine move1 (i := 2) (d := (some 28)) (v := _) rfl rfl (by kernel_rfl) (by rfl) (fun _ _ _ h => h) rfl (fun w => by (go_simp; try with_reducible rfl)) ?_
        simp only [Act.put, List.setIfInBounds_toArray, List.set_cons_zero, List.set_cons_succ]
        refine move1 (i := 3) (d := (some 29)) (v := _) rfl rfl (by kernel_rfl) (by rfl) (fun _ _ _ h => h) rfl (fun w => by (go_simp; try with_reducible rfl)) ?_
        simp only [Act.put, List.setIfInBounds_toArray, List.set_cons_zero, List.set_cons_succ]
        refine move1 (i := 4) (d := (some 30)) (v := _) rfl rfl (by kernel_rfl) (by rfl) (fun _ _ _ h => h) rfl (fun w => by (go_simp; try with_reducible rfl)) ?_
        simp only [Act.put, List.setIfInBounds_toArray, List.set_cons_zero, List.set_cons_succ]
        refine take1 (i := 5) (d := (some 31)) (v := _) rfl rfl (by kernel_rfl) (by rfl) (fun _ _ _ h => h) rfl (fun w hw => by subst hw; (go_simp; try with_reducible rfl)) ?_
        simp only [Act.put, List.setIfInBounds_toArray, List.set_cons_zero, List.set_cons_succ]
        refine move1 (i := 6) (d := (some 32)) (v := _) rfl rfl (by kernel_rfl) (by rfl) (fun _ _ _ h => h) rfl (fun w => by (go_simp; try with_reducible rfl)) ?_
        simp only [Act.put, List.setIfInBounds_toArray, List.set_cons_zero, List.set_cons_succ]
        refine move1 (i := 7) (d := (some 33)) (v := _) rfl rfl (by kernel_rfl) (by rfl) (fun _ _ _ h => h) rfl (fun w => by (go_simp; try with_reducible rfl)) ?_
        simp only [Act.put, List.setIfInBounds_toArray, List.set_cons_zero, List.set_cons_succ]
        refine move1 (i := 8) (d := (some 34)) (v := _) rfl rfl (by kernel_rfl) (by rfl) (fun _ _ _ h => h) rfl (fun w => by (go_simp; try with_reducible rfl)) ?_
        simp only [Act.put, List.setIfInBounds_toArray, List.set_cons_zero, List.set_cons_succ]
        refine move1 (i := 9) (d := (some 35)) (v := _) rfl rfl (by kernel_rfl) (by rfl) (fun _ _ _ h => h) rfl (fun w => by (go_simp; try with_reducible rfl)) ?_
        simp only [Act.put, List.setIfInBounds_toArray, List.set_cons_zero, List.set_cons_succ]
        refine take1 (i := 10) (d := (some 36)) (v := _) rfl rfl (by kernel_rfl) (by rfl) (fun _ _ _ h => h) rfl (fun w hw => by subst hw; (go_simp; try with_reducible rfl)) ?_
        simp only [Act.put, List.setIfInBounds_toArray, List.set_cons_zero, List.set_cons_succ]
        refine move1 (i := 11) (d := (some 37)) (v := _) rfl rfl (by kernel_rfl) (by rfl) (fun _ _ _ h => h) rfl (fun w => by (go_simp; try with_reducible rfl)) ?_
        simp only [Act.put, List.setIfInBounds_toArray, List.set_cons_zero, List.set_cons_succ]
        refine move1 (i := 12) (d := (some 38)) (v := _) rfl rfl (by kernel_rfl) (by rfl) (fun _ _ _ h => h) rfl (fun w => by (go_simp; try with_reducible rfl)) ?_
        simp only [Act.put, List.setIfInBounds_toArray, List.set_cons_zero, List.set_cons_succ]
        refine move1 (i := 13) (d := (some 39)) (v := _) rfl rfl (by kernel_rfl) (by rfl) (fun _ _ _ h => h) rfl (fun w => by (go_simp; try with_reducible rfl)) ?_
        simp only [Act.put, List.setIfInBounds_toArray, List.set_cons_zero, List.set_cons_succ]
        refine move1 (i := 14) (d := (some 40)) (v := _) rfl rfl (by kernel_rfl) (by rfl) (fun _ _ _ h => h) rfl (fun w => by (go_simp; try with_reducible rfl)) ?_
        simp only [Act.put, List.setIfInBounds_toArray, List.set_cons_zero, List.set_cons_succ]
        refine take1 (i := 15) (d := (some 41)) (v := _) rfl rfl (by kernel_rfl) (by rfl) (fun _ _ _ h => h) rfl (fun w hw => by subst hw; (go_simp; try with_reducible rfl)) ?_
        simp only [Act.put, List.setIfInBounds_toArray, List.set_cons_zero, List.set_cons_succ]
        refine tail1 (i := 16) (by kernel_rfl) (wpOp_c (d := some 42) rfl rfl (by rfl) (f := 15) (args := #[.pointer (some ⟨fb, 0, none⟩), .int .i64 (act j).2.1, .int .i64 (act j).2.2.1, .int .i64 (act j).2.2.2]) (by go_simp; try rfl) (hlink.mono ?_))
        rintro e W5 ⟨rfl, hR5, hk5⟩
        refine ⟨_, rfl, ?_⟩
        simp only [Act.put, List.setIfInBounds_toArray, List.set_cons_zero, List.set_cons_succ]
        refine wpAnyL_done (by kernel_rfl) ?_ _
        have hR6 : Rep (From W) (playL act (j + 1)) fb W5 := by rw [hpl]; exact rep_from hR5 hKj.size
        have hK6 := from_kp hKj ((Kp.drew wr).trans hk5)
        go_wp2_with (fail)
        go_roundw
        case rel => exact ⟨j + 1, by go_num, hjn, hR6, hK6⟩
        case measure => simp only [intOf]; omega
    · have hje : j = n := by omega
      subst hje
      go_wp2_with (fail)
      exact ⟨rfl, .pointer (some ⟨fb, 0, none⟩), by simp [results, Try.results12, go_sem], fb, rfl, hRj, hKj⟩
end Go.Proofs.Ytmkhglpfhnocaaa.Fn
