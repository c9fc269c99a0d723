import Derived.Test.YtmkhglpfhnocaaaLa
namespace Go.Proofs.Ytmkhglpfhnocaaa.Fn
open Go Go.RowKit Go.MapKept Go.Proofs Forest17
set_option linter.unusedVariables false
set_option maxRecDepth 100000
set_option linter.unusedSimpArgs false
open Go.Shelf
attribute [local go_sem] Oper.semAt_some
/-- The reference's list, which lies apart from the forest. -/
structure Ref (W : World) (M : Nat → Prop) (ls : List Lk) (v : Value) (wr : World) : Prop where
  row : Rw wr v ls
  off : ∀ g, v.ownBlock = some g → ¬ M g
theorem play_end {b : Bool} {x y : List Lk} (h : b = true) : b = true := h
set_option maxHeartbeats 2000000 in
theorem plays_calls {W : World} {A : Option Addr} {n c : Nat} {act : Nat → Act4} (hA : ActsAt W A n act) : Calls Try.prog 5 #[.slice A n c] W fun e W' => e = .returned (.bool true) ∧ Kp (fun _ => False) W W' := by
  have hnew := new_calls W
  refine calls_of_wp Try.func5 rfl ?_
  simp only [Try.ntmps5, List.size_toArray, List.length_cons, List.length_nil, Nat.reduceAdd, Nat.reduceSub, Array.replicate_succ, Array.replicate_zero, List.push_toArray, List.append_toArray, List.nil_append, List.cons_append]
  by_cases hn : 60 < n
  · go_wp2_with (first
      | ((with_reducible refine hnew.mono ?_); rintro e W1 ⟨fb, rfl, hfb, hR1, hk1⟩; have hlive := live_calls W1)
      | ((with_reducible refine hlive.mono ?_); rintro e W2 ⟨rfl, hk2⟩)
      | fail)
    exact ⟨rfl, .bool true, by simp [results, Try.results5, go_sem], rfl, hk1.trans hk2⟩
  · have hn2 : n ≤ 60 := by omega
    go_wp2_with (first
      | ((with_reducible refine hnew.mono ?_); rintro e W1 ⟨fb, rfl, hfb, hR1, hk1⟩)
      | fail)
    go_loopw [4, 5] (fun v4 v5 wr => ∃ (j : Nat) (M : Nat → Prop), v5 = .int .i64 (j : Int) ∧ j ≤ n ∧ (∀ k, M k → W.heap.size ≤ k ∧ k < wr.heap.size) ∧ Rep M (playL act j) fb wr ∧ Ref W M (playL act j) v4 wr ∧ Kp (fun _ => False) W wr) (fun v4 v5 wr => n - (intOf v5).toNat)
    case atStart => exact ⟨0, Laid W W1, rfl, Nat.zero_le _, fun k h => h, rep_laid hR1, ⟨Rw.nil _, fun g hg => by cases hg⟩, hk1⟩
    case round =>
      obtain ⟨j, M, rfl, hj, hM, hRj, hV, hK⟩ := hrel
      by_cases hjn : j < n
      · obtain ⟨blk, off, rfl, hblk, hcells⟩ := (hA.kp hK fun _ _ => id) (by omega)
        obtain ⟨a0, a1, a2, a3⟩ := hcells j hjn
        have hlen := playL_len act j
        have hjn2 : (j : Int) < (n : Int) := by omega
        have hpl : playL act (j + 1) = stepA (act j) (playL act j) := rfl
        unfold stepA at hpl
        obtain ⟨hv, hoff⟩ := hV
        obtain ⟨Av, cv, rfl⟩ := slice_of hv
        have hlt : ∀ g, (Value.slice Av (playL act j).length cv).ownBlock = some g → g < wr.heap.size := fun g hg => by obtain ⟨cur, hc⟩ := ownsRow_lt hv hg; exact (Array.getElem?_eq_some_iff.1 hc).1
        cases hu : (act j).1 with
        | true =>
          rw [hu] at a0 hpl
          have hcell5 : ∀ W5, Kp (fun _ => False) wr W5 → W5.cell? ⟨blk, off + j * 4 + 1, none⟩ = some (.int .i64 (act j).2.1) ∧ W5.cell? ⟨blk, off + j * 4 + 2, none⟩ = some (.int .i64 (act j).2.2.1) ∧ W5.cell? ⟨blk, off + j * 4 + 3, none⟩ = some (.int .i64 (act j).2.2.2) := fun W5 hk => by
            have e : ∀ o, W5.cell? ⟨blk, o, none⟩ = wr.cell? ⟨blk, o, none⟩ := fun o => cell_of_block (hk.block blk hblk id)
            exact ⟨(e _).trans a1, (e _).trans a2, (e _).trans a3⟩
          have hrl := rundo_calls hv (by omega) (act j).2.1
          have hundo : ∀ W5, Kp (fun _ => False) wr W5 → _ := fun W5 hk => undo_calls (hRj.kp hk fun _ _ _ => id) (act j).2.1
          have hu2 : ∀ x, (if undoB (playL act j) x then (playL act j).take x.toNat else playL act j) = undoL (playL act j) x := fun x => rfl
          simp only [hu2] at hundo
          have hLl := undoL_len (playL act j) (act j).2.1
          generalize hL : undoL (playL act j) (act j).2.1 = L at hrl hundo hpl hLl
          clear hu2
          replace hpl : playL act (j + 1) = L := hpl
          go_wp2_with (first
            | ((with_reducible refine hrl.mono ?_); rintro e W5 ⟨vr, rfl, hr5, hold5, hk5⟩; obtain ⟨A5, c5, rfl⟩ := slice_of hr5; obtain ⟨p1, p2, p3⟩ := hcell5 W5 hk5; have hun := hundo W5 hk5)
            | ((with_reducible refine hun.mono ?_); rintro e W6 ⟨rfl, hR6', hk6'⟩)
            | fail)
          have hM2 : ∀ k, ((M k ∨ W5.heap.size ≤ k) ∧ k < W6.heap.size) → W.heap.size ≤ k ∧ k < W6.heap.size := fun k hk => ⟨hk.1.elim (fun h => (hM k h).1) fun h => by have := hK.size; have := hk5.size; omega, hk.2⟩
          have hlt5 : ∀ g, (Value.slice A5 L.length c5).ownBlock = some g → g < W5.heap.size := fun g hg => by obtain ⟨cur, hc⟩ := ownsRow_lt hr5 hg; exact (Array.getElem?_eq_some_iff.1 hc).1
          have hoffM : ∀ g, (Value.slice A5 L.length c5).ownBlock = some g → ¬ M g := fun g hg hm => by
            rcases hold5 with e | e
            · rw [e] at hg; exact hoff g hg hm
            · have := e g hg; have := (hM g hm).2; omega
          have hoff6 : ∀ g, (Value.slice A5 L.length c5).ownBlock = some g → ¬ ((M g ∨ W5.heap.size ≤ g) ∧ g < W6.heap.size) := fun g hg h => h.1.elim (hoffM g hg) fun h => by have := hlt5 g hg; omega
          have hr6 := ownsRow_kp hr5 hk6' hoffM
          have hK5 := hK.trans hk5
          have hK6 : Kp (fun _ => False) W W6 := from_kp hK5 (hk6'.imp fun k _ h => (hM k h).1)
          have hR6 : Rep (fun k => (M k ∨ W5.heap.size ≤ k) ∧ k < W6.heap.size) L fb W6 := hR6'.mono fun k hl h => ⟨h, hl⟩
          have hlen6 := len_calls hR6
          go_wp2_with (first
            | ((with_reducible refine hlen6.mono ?_); rintro e W7 ⟨rfl, hW7⟩; have hlk := links_calls hR6; rw [hW7])
            | ((with_reducible refine hlk.mono ?_); rintro e W8 ⟨vl, rfl, hl8, hk8⟩; have heq := equal_calls (l2 := L) hl8.row (ownsRow_kp hr6 hk8 fun _ _ => id) (by omega); simp only [decide_true] at heq; obtain ⟨A8, c8, rfl⟩ := slice_of hl8.row)
            | ((with_reducible refine heq.mono ?_); rintro e W9 ⟨rfl, hk9⟩)
            | fail)
          have hR9 := (hR6.kp hk8 fun _ _ _ => id).kp hk9 fun _ _ _ => id
          have hK9 : Kp (fun _ => False) W W9 := (hK6.trans hk8).trans hk9
          have hr9 : Rw W9 (.slice A5 L.length c5) L := ownsRow_kp (ownsRow_kp hr6 hk8 fun _ _ => id) hk9 fun _ _ => id
          have hs9 : W6.heap.size ≤ W9.heap.size := Nat.le_trans hk8.size hk9.size
          go_roundw
          case rel => exact ⟨j + 1, fun k => (M k ∨ W5.heap.size ≤ k) ∧ k < W6.heap.size, by go_num, hjn, fun k hk => ⟨(hM2 k hk).1, Nat.lt_of_lt_of_le (hM2 k hk).2 hs9⟩, by rw [hpl]; exact hR9, ⟨by rw [hpl]; exact hr9, hoff6⟩, hK9⟩
          case measure => simp only [intOf]; omega
        | false =>
          rw [hu] at a0 hpl
          have hcell5 : ∀ W5, Kp (fun _ => False) wr W5 → W5.cell? ⟨blk, off + j * 4 + 1, none⟩ = some (.int .i64 (act j).2.1) ∧ W5.cell? ⟨blk, off + j * 4 + 2, none⟩ = some (.int .i64 (act j).2.2.1) ∧ W5.cell? ⟨blk, off + j * 4 + 3, none⟩ = some (.int .i64 (act j).2.2.2) := fun W5 hk => by
            have e : ∀ o, W5.cell? ⟨blk, o, none⟩ = wr.cell? ⟨blk, o, none⟩ := fun o => cell_of_block (hk.block blk hblk id)
            exact ⟨(e _).trans a1, (e _).trans a2, (e _).trans a3⟩
          have hvd : Rw wr.drew (.slice Av (playL act j).length cv) (playL act j) := hv
          have hrl := rlink_calls (rep_for hRj) hvd (by omega) (act j).2.1 (act j).2.2.1 (act j).2.2.2
          have hfact : ∀ w, Kp (fun _ => False) wr.drew w → w.cell? ⟨blk, off + j * 4 + 1, none⟩ = some (.int .i64 (act j).2.1) ∧ w.cell? ⟨blk, off + j * 4 + 2, none⟩ = some (.int .i64 (act j).2.2.1) ∧ w.cell? ⟨blk, off + j * 4 + 3, none⟩ = some (.int .i64 (act j).2.2.2) := fun w hw => hcell5 w ((Kp.drew wr).trans hw)
          have hlink0 : ∀ W5, Kp (fun _ => False) wr W5 → _ := fun W5 hk => link_calls (hRj.kp hk fun _ _ _ => id) (act j).2.1 (act j).2.2.1 (act j).2.2.2 (by omega)
          have hu2 : ∀ x y z, (if linkB (playL act j) x y then playL act j ++ [(x, y, z)] else playL act j) = linkL (playL act j) x y z := fun x y z => rfl
          simp only [hu2] at hlink0
          have hLl := linkL_len (playL act j) (act j).2.1 (act j).2.2.1 (act j).2.2.2
          generalize hL : linkL (playL act j) (act j).2.1 (act j).2.2.1 (act j).2.2.2 = L at hrl hlink0 hpl hLl
          clear hu2
          replace hpl : playL act (j + 1) = L := hpl
          go_wp2_with (fail)
          refine start1 (fun w => Kp (fun _ => False) wr.drew w) 22 #[false, false, false, false, false, false, false, false, false, false, false, false, false, false, false, false, false, false, false, false, false, false] (by kernel_rfl) (by kernel_rfl) ?_
          refine move1 (i := 0) (d := (some 44)) (v := _) rfl rfl (by kernel_rfl) (by rfl) (fun _ _ _ h => h) (Kp.refl _ _) (fun w => by (go_simp; try with_reducible rfl)) ?_
          simp only [Act.put, List.setIfInBounds_toArray, List.set_cons_zero, List.set_cons_succ]
          refine move1 (i := 1) (d := (some 45)) (v := _) rfl rfl (by kernel_rfl) (by rfl) (fun _ _ _ h => h) (Kp.refl _ _) (fun w => by (go_simp; try with_reducible rfl)) ?_
          simp only [Act.put, List.setIfInBounds_toArray, List.set_cons_zero, List.set_cons_succ]
          refine move1 (i := 2) (d := (some 46)) (v := _) rfl rfl (by kernel_rfl) (by rfl) (fun _ _ _ h => h) (Kp.refl _ _) (fun w => by (go_simp; try with_reducible rfl)) ?_
          simp only [Act.put, List.setIfInBounds_toArray, List.set_cons_zero, List.set_cons_succ]
          refine move1 (i := 3) (d := (some 47)) (v := _) rfl rfl (by kernel_rfl) (by rfl) (fun _ _ _ h => h) (Kp.refl _ _) (fun w => by (go_simp; try with_reducible rfl)) ?_
          simp only [Act.put, List.setIfInBounds_toArray, List.set_cons_zero, List.set_cons_succ]
          refine move1 (i := 4) (d := (some 48)) (v := _) rfl rfl (by kernel_rfl) (by rfl) (fun _ _ _ h => h) (Kp.refl _ _) (fun w => by (go_simp; try with_reducible rfl)) ?_
          simp only [Act.put, List.setIfInBounds_toArray, List.set_cons_zero, List.set_cons_succ]
          refine take1 (i := 5) (d := (some 49)) (v := _) rfl rfl (by kernel_rfl) (by rfl) (fun _ _ _ h => h) (Kp.refl _ _) (fun w hw => by obtain ⟨a1, a2, a3⟩ := hfact w hw; (go_simp; try with_reducible rfl)) ?_
          simp only [Act.put, List.setIfInBounds_toArray, List.set_cons_zero, List.set_cons_succ]
          refine move1 (i := 6) (d := (some 50)) (v := _) rfl rfl (by kernel_rfl) (by rfl) (fun _ _ _ h => h) (Kp.refl _ _) (fun w => by (go_simp; try with_reducible rfl)) ?_
          simp only [Act.put, List.setIfInBounds_toArray, List.set_cons_zero, List.set_cons_succ]
          refine move1 (i := 7) (d := (some 51)) (v := _) rfl rfl (by kernel_rfl) (by rfl) (fun _ _ _ h => h) (Kp.refl _ _) (fun w => by (go_simp; try with_reducible rfl)) ?_
          simp only [Act.put, List.setIfInBounds_toArray, List.set_cons_zero, List.set_cons_succ]
          refine move1 (i := 8) (d := (some 52)) (v := _) rfl rfl (by kernel_rfl) (by rfl) (fun _ _ _ h => h) (Kp.refl _ _) (fun w => by (go_simp; try with_reducible rfl)) ?_
          simp only [Act.put, List.setIfInBounds_toArray, List.set_cons_zero, List.set_cons_succ]
          refine move1 (i := 9) (d := (some 53)) (v := _) rfl rfl (by kernel_rfl) (by rfl) (fun _ _ _ h => h) (Kp.refl _ _) (fun w => by (go_simp; try with_reducible rfl)) ?_
          simp only [Act.put, List.setIfInBounds_toArray, List.set_cons_zero, List.set_cons_succ]
          refine take1 (i := 10) (d := (some 54)) (v := _) rfl rfl (by kernel_rfl) (by rfl) (fun _ _ _ h => h) (Kp.refl _ _) (fun w hw => by obtain ⟨a1, a2, a3⟩ := hfact w hw; (go_simp; try with_reducible rfl)) ?_
          simp only [Act.put, List.setIfInBounds_toArray, List.set_cons_zero, List.set_cons_succ]
          refine move1 (i := 11) (d := (some 55)) (v := _) rfl rfl (by kernel_rfl) (by rfl) (fun _ _ _ h => h) (Kp.refl _ _) (fun w => by (go_simp; try with_reducible rfl)) ?_
          simp only [Act.put, List.setIfInBounds_toArray, List.set_cons_zero, List.set_cons_succ]
          refine move1 (i := 12) (d := (some 56)) (v := _) rfl rfl (by kernel_rfl) (by rfl) (fun _ _ _ h => h) (Kp.refl _ _) (fun w => by (go_simp; try with_reducible rfl)) ?_
          simp only [Act.put, List.setIfInBounds_toArray, List.set_cons_zero, List.set_cons_succ]
          refine move1 (i := 13) (d := (some 57)) (v := _) rfl rfl (by kernel_rfl) (by rfl) (fun _ _ _ h => h) (Kp.refl _ _) (fun w => by (go_simp; try with_reducible rfl)) ?_
          simp only [Act.put, List.setIfInBounds_toArray, List.set_cons_zero, List.set_cons_succ]
          refine move1 (i := 14) (d := (some 58)) (v := _) rfl rfl (by kernel_rfl) (by rfl) (fun _ _ _ h => h) (Kp.refl _ _) (fun w => by (go_simp; try with_reducible rfl)) ?_
          simp only [Act.put, List.setIfInBounds_toArray, List.set_cons_zero, List.set_cons_succ]
          refine take1 (i := 15) (d := (some 59)) (v := _) rfl rfl (by kernel_rfl) (by rfl) (fun _ _ _ h => h) (Kp.refl _ _) (fun w hw => by obtain ⟨a1, a2, a3⟩ := hfact w hw; (go_simp; try with_reducible rfl)) ?_
          simp only [Act.put, List.setIfInBounds_toArray, List.set_cons_zero, List.set_cons_succ]
          refine only1 (i := 16) (by kernel_rfl) (wpOp_c (d := some 60) rfl rfl (by rfl) (f := 20) (args := #[.slice Av (playL act j).length cv, .int .i64 (act j).2.1, .int .i64 (act j).2.2.1, .int .i64 (act j).2.2.2]) (by go_simp; try rfl) (hrl.mono ?_))
          rintro e W5 ⟨vr, rfl, hr5, hold5, hk5⟩
          obtain ⟨A5, c5, rfl⟩ := slice_of hr5
          refine ⟨_, rfl, hk5, ?_⟩
          simp only [Act.put, List.setIfInBounds_toArray, List.set_cons_zero, List.set_cons_succ]
          refine move1 (i := 17) (d := (some 43)) (v := _) rfl rfl (by kernel_rfl) (by rfl) (fun _ _ _ h => h) hk5 (fun w => by (go_simp; try with_reducible rfl)) ?_
          simp only [Act.put, List.setIfInBounds_toArray, List.set_cons_zero, List.set_cons_succ]
          refine move1 (i := 18) (d := (some 61)) (v := _) rfl rfl (by kernel_rfl) (by rfl) (fun _ _ _ h => h) hk5 (fun w => by (go_simp; try with_reducible rfl)) ?_
          simp only [Act.put, List.setIfInBounds_toArray, List.set_cons_zero, List.set_cons_succ]
          refine move1 (i := 19) (d := (some 62)) (v := _) rfl rfl (by kernel_rfl) (by rfl) (fun _ _ _ h => h) hk5 (fun w => by (go_simp; try with_reducible rfl)) ?_
          simp only [Act.put, List.setIfInBounds_toArray, List.set_cons_zero, List.set_cons_succ]
          refine move1 (i := 20) (d := (some 4)) (v := _) rfl rfl (by kernel_rfl) (by rfl) (fun _ _ _ h => h) hk5 (fun w => by (go_simp; try with_reducible rfl)) ?_
          simp only [Act.put, List.setIfInBounds_toArray, List.set_cons_zero, List.set_cons_succ]
          refine move1 (i := 21) (d := (some 6)) (v := _) rfl rfl (by kernel_rfl) (by rfl) (fun _ _ _ h => h) hk5 (fun w => by (go_simp; try with_reducible rfl)) ?_
          simp only [Act.put, List.setIfInBounds_toArray, List.set_cons_zero, List.set_cons_succ]
          refine wpAnyL_done (by kernel_rfl) ?_ _
          replace hk5 := (Kp.drew wr).trans hk5
          replace hold5 : Value.slice A5 L.length c5 = .slice Av (playL act j).length cv ∨ ∀ g, (Value.slice A5 L.length c5).ownBlock = some g → wr.heap.size ≤ g := hold5
          have hlink := hlink0 W5.drew (hk5.trans (Kp.drew _))
          obtain ⟨q1, q2, q3⟩ := hcell5 W5.drew (hk5.trans (Kp.drew _))
          go_wp2_with (fail)
          refine start1 (· = W5.drew) 16 #[false, false, false, false, false, false, false, false, false, false, false, false, false, false, false, false, false, false] (by kernel_rfl) (by kernel_rfl) ?_
          refine move1 (i := 0) (d := (some 63)) (v := _) rfl rfl (by kernel_rfl) (by rfl) (fun _ _ _ h => h) rfl (fun w => by (go_simp; try with_reducible rfl)) ?_
          simp only [Act.put, List.setIfInBounds_toArray, List.set_cons_zero, List.set_cons_succ]
          refine move1 (i := 1) (d := (some 64)) (v := _) rfl rfl (by kernel_rfl) (by rfl) (fun _ _ _ h => h) rfl (fun w => by (go_simp; try with_reducible rfl)) ?_
          simp only [Act.put, List.setIfInBounds_toArray, List.set_cons_zero, List.set_cons_succ]
          refine move1 (i := 2) (d := (some 65)) (v := _) rfl rfl (by kernel_rfl) (by rfl) (fun _ _ _ h => h) rfl (fun w => by (go_simp; try with_reducible rfl)) ?_
          simp only [Act.put, List.setIfInBounds_toArray, List.set_cons_zero, List.set_cons_succ]
          refine move1 (i := 3) (d := (some 66)) (v := _) rfl rfl (by kernel_rfl) (by rfl) (fun _ _ _ h => h) rfl (fun w => by (go_simp; try with_reducible rfl)) ?_
          simp only [Act.put, List.setIfInBounds_toArray, List.set_cons_zero, List.set_cons_succ]
          refine move1 (i := 4) (d := (some 67)) (v := _) rfl rfl (by kernel_rfl) (by rfl) (fun _ _ _ h => h) rfl (fun w => by (go_simp; try with_reducible rfl)) ?_
          simp only [Act.put, List.setIfInBounds_toArray, List.set_cons_zero, List.set_cons_succ]
          refine take1 (i := 5) (d := (some 68)) (v := _) rfl rfl (by kernel_rfl) (by rfl) (fun _ _ _ h => h) rfl (fun w hw => by subst hw; (go_simp; try with_reducible rfl)) ?_
          simp only [Act.put, List.setIfInBounds_toArray, List.set_cons_zero, List.set_cons_succ]
          refine move1 (i := 6) (d := (some 69)) (v := _) rfl rfl (by kernel_rfl) (by rfl) (fun _ _ _ h => h) rfl (fun w => by (go_simp; try with_reducible rfl)) ?_
          simp only [Act.put, List.setIfInBounds_toArray, List.set_cons_zero, List.set_cons_succ]
          refine move1 (i := 7) (d := (some 70)) (v := _) rfl rfl (by kernel_rfl) (by rfl) (fun _ _ _ h => h) rfl (fun w => by (go_simp; try with_reducible rfl)) ?_
          simp only [Act.put, List.setIfInBounds_toArray, List.set_cons_zero, List.set_cons_succ]
          refine move1 (i := 8) (d := (some 71)) (v := _) rfl rfl (by kernel_rfl) (by rfl) (fun _ _ _ h => h) rfl (fun w => by (go_simp; try with_reducible rfl)) ?_
          simp only [Act.put, List.setIfInBounds_toArray, List.set_cons_zero, List.set_cons_succ]
          refine move1 (i := 9) (d := (some 72)) (v := _) rfl rfl (by kernel_rfl) (by rfl) (fun _ _ _ h => h) rfl (fun w => by (go_simp; try with_reducible rfl)) ?_
          simp only [Act.put, List.setIfInBounds_toArray, List.set_cons_zero, List.set_cons_succ]
          refine take1 (i := 10) (d := (some 73)) (v := _) rfl rfl (by kernel_rfl) (by rfl) (fun _ _ _ h => h) rfl (fun w hw => by subst hw; (go_simp; try with_reducible rfl)) ?_
          simp only [Act.put, List.setIfInBounds_toArray, List.set_cons_zero, List.set_cons_succ]
          refine move1 (i := 11) (d := (some 74)) (v := _) rfl rfl (by kernel_rfl) (by rfl) (fun _ _ _ h => h) rfl (fun w => by (go_simp; try with_reducible rfl)) ?_
          simp only [Act.put, List.setIfInBounds_toArray, List.set_cons_zero, List.set_cons_succ]
          refine move1 (i := 12) (d := (some 75)) (v := _) rfl rfl (by kernel_rfl) (by rfl) (fun _ _ _ h => h) rfl (fun w => by (go_simp; try with_reducible rfl)) ?_
          simp only [Act.put, List.setIfInBounds_toArray, List.set_cons_zero, List.set_cons_succ]
          refine move1 (i := 13) (d := (some 76)) (v := _) rfl rfl (by kernel_rfl) (by rfl) (fun _ _ _ h => h) rfl (fun w => by (go_simp; try with_reducible rfl)) ?_
          simp only [Act.put, List.setIfInBounds_toArray, List.set_cons_zero, List.set_cons_succ]
          refine move1 (i := 14) (d := (some 77)) (v := _) rfl rfl (by kernel_rfl) (by rfl) (fun _ _ _ h => h) rfl (fun w => by (go_simp; try with_reducible rfl)) ?_
          simp only [Act.put, List.setIfInBounds_toArray, List.set_cons_zero, List.set_cons_succ]
          refine take1 (i := 15) (d := (some 78)) (v := _) rfl rfl (by kernel_rfl) (by rfl) (fun _ _ _ h => h) rfl (fun w hw => by subst hw; (go_simp; try with_reducible rfl)) ?_
          simp only [Act.put, List.setIfInBounds_toArray, List.set_cons_zero, List.set_cons_succ]
          refine tail1 (i := 16) (by kernel_rfl) (wpOp_c (d := some 79) rfl rfl (by rfl) (f := 15) (args := #[.pointer (some ⟨fb, 0, none⟩), .int .i64 (act j).2.1, .int .i64 (act j).2.2.1, .int .i64 (act j).2.2.2]) (by go_simp; try rfl) (hlink.mono ?_))
          rintro e W6 ⟨rfl, hR6', hk6'⟩
          refine ⟨_, rfl, ?_⟩
          simp only [Act.put, List.setIfInBounds_toArray, List.set_cons_zero, List.set_cons_succ]
          refine tail1 (i := 17) (by kernel_rfl) (wpOp_v (d := some 7) rfl rfl (by rfl) (v := .bool (linkB (playL act j) (act j).2.1 (act j).2.2.1)) (w' := W6) (by go_simp; try rfl) ?_)
          simp only [Act.put, List.setIfInBounds_toArray, List.set_cons_zero, List.set_cons_succ]
          refine wpAnyL_done (by kernel_rfl) ?_ _
          replace hk6' : Kp M W5 W6 := (Kp.drew W5).trans hk6'
          replace hR6' : Rep (fun k => M k ∨ W5.heap.size ≤ k) L fb W6 := hR6'
          have hM2 : ∀ k, ((M k ∨ W5.heap.size ≤ k) ∧ k < W6.heap.size) → W.heap.size ≤ k ∧ k < W6.heap.size := fun k hk => ⟨hk.1.elim (fun h => (hM k h).1) fun h => by have := hK.size; have := hk5.size; omega, hk.2⟩
          have hlt5 : ∀ g, (Value.slice A5 L.length c5).ownBlock = some g → g < W5.heap.size := fun g hg => by obtain ⟨cur, hc⟩ := ownsRow_lt hr5 hg; exact (Array.getElem?_eq_some_iff.1 hc).1
          have hoffM : ∀ g, (Value.slice A5 L.length c5).ownBlock = some g → ¬ M g := fun g hg hm => by
            rcases hold5 with e | e
            · rw [e] at hg; exact hoff g hg hm
            · have := e g hg; have := (hM g hm).2; omega
          have hoff6 : ∀ g, (Value.slice A5 L.length c5).ownBlock = some g → ¬ ((M g ∨ W5.heap.size ≤ g) ∧ g < W6.heap.size) := fun g hg h => h.1.elim (hoffM g hg) fun h => by have := hlt5 g hg; omega
          have hr6 := ownsRow_kp hr5 hk6' hoffM
          have hK5 := hK.trans hk5
          have hK6 : Kp (fun _ => False) W W6 := from_kp hK5 (hk6'.imp fun k _ h => (hM k h).1)
          have hR6 : Rep (fun k => (M k ∨ W5.heap.size ≤ k) ∧ k < W6.heap.size) L fb W6 := hR6'.mono fun k hl h => ⟨h, hl⟩
          have hlen6 := len_calls hR6
          go_wp2_with (first
            | ((with_reducible refine hlen6.mono ?_); rintro e W7 ⟨rfl, hW7⟩; have hlk := links_calls hR6; rw [hW7])
            | ((with_reducible refine hlk.mono ?_); rintro e W8 ⟨vl, rfl, hl8, hk8⟩; have heq := equal_calls (l2 := L) hl8.row (ownsRow_kp hr6 hk8 fun _ _ => id) (by omega); simp only [decide_true] at heq; obtain ⟨A8, c8, rfl⟩ := slice_of hl8.row)
            | ((with_reducible refine heq.mono ?_); rintro e W9 ⟨rfl, hk9⟩)
            | fail)
          have hR9 := (hR6.kp hk8 fun _ _ _ => id).kp hk9 fun _ _ _ => id
          have hK9 : Kp (fun _ => False) W W9 := (hK6.trans hk8).trans hk9
          have hr9 : Rw W9 (.slice A5 L.length c5) L := ownsRow_kp (ownsRow_kp hr6 hk8 fun _ _ => id) hk9 fun _ _ => id
          have hs9 : W6.heap.size ≤ W9.heap.size := Nat.le_trans hk8.size hk9.size
          go_roundw
          case rel => exact ⟨j + 1, fun k => (M k ∨ W5.heap.size ≤ k) ∧ k < W6.heap.size, by go_num, hjn, fun k hk => ⟨(hM2 k hk).1, Nat.lt_of_lt_of_le (hM2 k hk).2 hs9⟩, by rw [hpl]; exact hR9, ⟨by rw [hpl]; exact hr9, hoff6⟩, hK9⟩
          case measure => simp only [intOf]; omega
      · have hje : j = n := by omega
        subst hje
        have hlive := live_calls wr
        go_wp2_with (first
          | ((with_reducible refine hlive.mono ?_); rintro e W8 ⟨rfl, hk8⟩)
          | fail)
        exact ⟨rfl, .bool true, by simp [results, Try.results5, go_sem], rfl, hK.trans hk8⟩
end Go.Proofs.Ytmkhglpfhnocaaa.Fn
