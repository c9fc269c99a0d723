import Derived.Test.YtmkhglpfhnocaaaLa
namespace Go.Proofs.Ytmkhglpfhnocaaa.Fn
open Go Go.RowKit Go.MapKept Go.Proofs Forest17
set_option linter.unusedVariables false
set_option maxRecDepth 100000
set_option linter.unusedSimpArgs false
open Go.Shelf
attribute [local go_sem] Oper.semAt_some
/-- Links lead between ids that are not negative. -/
def NonNeg (ls : List Lk) : Prop := ∀ l ∈ ls, 0 ≤ l.1 ∧ 0 ≤ l.2.1
theorem nonNeg_play (act : Nat → Act4) : ∀ n, NonNeg (playL act n)
  | 0 => fun l h => by cases h
  | n + 1 => by
    have ih := nonNeg_play act n
    unfold playL stepA
    split
    · unfold undoL
      split
      · exact fun l h => ih l (List.mem_of_mem_take h)
      · exact ih
    · unfold linkL
      split
      · rename_i hb
        unfold linkB at hb
        simp only [Bool.and_eq_true, decide_eq_true_eq] at hb
        intro l h
        rcases List.mem_append.1 h with h | h
        · exact ih l h
        · rw [List.mem_singleton.1 h]; exact hb.1
      · exact ih
theorem linkB_next {ls : List Lk} (hf : For ls) (hn : NonNeg ls) {j : Nat} {l : Lk} (hl : ls[j]? = some l) : linkB (ls.take j) l.1 l.2.1 = true := by
  obtain ⟨h1, h2⟩ := hn l (List.mem_of_getElem? hl)
  have h3 := Fn.For.next hf hl
  have h4 : cnB (ls.take j) l.1 l.2.1 = false := by
    unfold cnB
    cases h : (pathS (ls.take j) l.1 l.2.1).isSome with
    | false => rfl
    | true => exact absurd ((pathS_iff (Fn.For.take hf j)).1 h) h3
  unfold linkB
  rw [decide_eq_true h1, decide_eq_true h2, h4]; rfl
theorem mid_kp2 {L : Nat → Prop} {W2 wr W5 : World} (h1 : Kp L W2 wr) (h2 : Kp (fun k => L k ∨ W2.heap.size ≤ k) wr W5) : Kp L W2 W5 :=
  ⟨h2.os.trans h1.os, h2.tape.trans h1.tape, h2.output.trans h1.output, Nat.le_trans h1.size h2.size, fun k hl hn => by rw [h2.block k (Nat.lt_of_lt_of_le hl h1.size) (fun e => e.elim hn (by omega))]; exact h1.block k hl hn⟩
/-- Blocks from one world to the next, and from a third to a fourth. -/
abbrev Two (A B C D : World) : Nat → Prop := fun k => (A.heap.size ≤ k ∧ k < B.heap.size) ∨ (C.heap.size ≤ k ∧ k < D.heap.size)
/-- The end of the law: two forests of the same links answer alike. -/
theorem undoes_kp {W W5 W6 W7 W9 W12 W13 W14 : World} {F G : Nat → Prop} (h5 : Kp (fun _ => False) W W5) (hF : ∀ k, F k → W.heap.size ≤ k) (hG : ∀ k, G k → W.heap.size ≤ k) (h6 : Kp F W5 W6) (h7 : Kp G W6 W7) (h9 : Kp (fun _ => False) W7 W9) (h12 : Kp F W9 W12) (h13 : Kp G W12 W13) (h14 : Kp (fun _ => False) W13 W14) : Kp (fun _ => False) W W14 :=
  (from_kp (from_kp ((from_kp (from_kp h5 (h6.imp fun k _ h => hF k h)) (h7.imp fun k _ h => hG k h)).trans h9) (h12.imp fun k _ h => hF k h)) (h13.imp fun k _ h => hG k h)).trans h14
set_option maxHeartbeats 6000000 in
theorem undoes_calls {W : World} {A : Option Addr} {n0 c : Nat} {act : Nat → Act4} (hA : ActsAt W A n0 act) (n a b : Int) : Calls Try.prog 8 #[.slice A n0 c, .int .i64 n, .int .i64 a, .int .i64 b] W fun e W' => e = .returned (.bool true) ∧ Kp (fun _ => False) W W' := by
  have hlive := live_calls W
  refine calls_of_wp Try.func8 rfl ?_
  simp only [Try.ntmps8, List.size_toArray, List.length_cons, List.length_nil, Nat.reduceAdd, Nat.reduceSub, Array.replicate_succ, Array.replicate_zero, List.push_toArray, List.append_toArray, List.nil_append, List.cons_append]
  by_cases hn : 60 < n0
  · go_wp2_with (first
      | ((with_reducible refine hlive.mono ?_); rintro e W1 ⟨rfl, hk1⟩)
      | fail)
    exact ⟨rfl, .bool true, by simp [results, Try.results8, go_sem], rfl, hk1⟩
  · clear hlive
    have hn2 : n0 ≤ 60 := by omega
    have hplay := play_calls (c := c) hA hn2
    have hlen := playL_len act n0
    have hnn := nonNeg_play act n0
    obtain ⟨ls, hls⟩ : ∃ ls, playL act n0 = ls := ⟨_, rfl⟩
    rw [hls] at hplay hlen hnn
    have hul : undoB ls n = (decide (0 ≤ n) && decide (n ≤ (ls.length : Int))) := rfl
    obtain ⟨m, hm1, hm2, hm3⟩ : ∃ m : Nat, m ≤ ls.length ∧ undoL ls n = ls.take m ∧ ((0 ≤ n ∧ n ≤ (ls.length : Int) ∧ n = (m : Int)) ∨ ((n < 0 ∨ (ls.length : Int) < n) ∧ m = ls.length)) := by
      unfold undoL undoB
      by_cases h1 : 0 ≤ n
      · by_cases h2 : n ≤ (ls.length : Int)
        · exact ⟨n.toNat, by omega, by rw [decide_eq_true h1, decide_eq_true h2]; rfl, .inl ⟨h1, h2, by omega⟩⟩
        · exact ⟨ls.length, Nat.le_refl _, by rw [decide_eq_false h2, Bool.and_false, List.take_length]; rfl, .inr ⟨.inr (by omega), rfl⟩⟩
      · exact ⟨ls.length, Nat.le_refl _, by rw [decide_eq_false h1, Bool.false_and, List.take_length]; rfl, .inr ⟨.inl (by omega), rfl⟩⟩
    go_wp2_with (first
      | ((with_reducible refine hplay.mono ?_); rintro e W1 ⟨fb, rfl, hR0, hk1⟩; have hR1 := rep_laid hR0; have hf := rep_for hR1; have hnew := new_calls W1)
      | ((with_reducible refine hnew.mono ?_); rintro e W2 ⟨gb, rfl, hgb, hG2', hk2'⟩; have hk2 := hk1.trans hk2'; have hG2 := rep_laid hG2'; have hR2 := hR1.kp hk2' fun _ _ _ => id; have hlk := links_calls hR2)
      | ((with_reducible refine hlk.mono ?_); rintro e W3 ⟨vl, rfl, hl3, hk3'⟩; have hk3 := hk2.trans hk3'; have hG3 := hG2.kp hk3' fun _ _ _ => id; have hR3 := hR2.kp hk3' fun _ _ _ => id; have hun := undo_calls hR3 n; obtain ⟨Al, cl, rfl⟩ := slice_of hl3.row)
      | fail)
    have hu2 : (if undoB ls n then ls.take n.toNat else ls) = ls.take m := hm2
    rw [hu2] at hun
    rw [hul] at hun
    have hs1 := hk1.size
    have hs2 := hk2'.size
    have hs3 := hk3'.size
    clear hu2 hul hm2
    rcases hm3 with ⟨q1, q2, rfl⟩ | ⟨q1, q2⟩
    · have d1 : decide (0 ≤ (m : Int)) = true := decide_eq_true q1
      have d2 : decide (m ≤ ls.length) = true := decide_eq_true hm1
      have d3 : decide (ls.length < m) = false := decide_eq_false (by omega)
      have hun2 : Calls Try.prog 19 #[.pointer (some ⟨fb, 0, none⟩), .int .i64 (m : Int)] W3 fun e W' => e = .returned (.bool true) ∧ Rep (fun k => Laid W W1 k ∨ W3.heap.size ≤ k) (ls.take m) fb W' ∧ Kp (Laid W W1) W3 W' := hun.mono fun e W' h => by
        have e0 : (decide (0 ≤ (m : Int)) && decide ((m : Int) ≤ (ls.length : Int))) = true := by rw [decide_eq_true q1, decide_eq_true q2]; rfl
        rw [e0] at h; exact h
      clear hun
      go_wp2_with (first
        | ((with_reducible refine hun2.mono ?_); rintro e W4 ⟨rfl, hR4, hk4⟩)
        | fail)
      have hU0 : (ls.take m).length = m := by rw [List.length_take]; omega
      have hR4' : Rep (Two W W1 W3 W4) (ls.take m) fb W4 := hR4.mono fun k hl h => h.imp id fun h => ⟨h, hl⟩
      have hs4 := hk4.size
      have hG4 : Rep (fun k => Laid W1 W2 k ∨ W4.heap.size ≤ k) [] gb W4 := (hG3.kp hk4 fun k _ h e => by have := h.1; have := e.2; omega).mono fun k _ h => .inl h
      have hl4 := ownsRow_kp hl3.row hk4 fun g hg e => by have := hl3.new g hg; have := e.2; omega
      have hlb : ∀ (n' g : Nat), (Value.slice Al n' cl).ownBlock = some g → W2.heap.size ≤ g ∧ g < W3.heap.size := fun n' g hg0 => have hg : (Value.slice Al ls.length cl).ownBlock = some g := (by cases Al <;> exact hg0); ⟨hl3.new g hg, by obtain ⟨cur, hc⟩ := ownsRow_lt hl3.row hg; exact (Array.getElem?_eq_some_iff.1 hc).1⟩
      have hk4W : Kp (fun _ => False) W W4 := laid_kp hk3 hk4
      have hcl := row_cap hl3.row
      go_loopw [12] (fun v12 wr => ∃ j : Nat, v12 = .int .i64 (j : Int) ∧ j ≤ m ∧ Rep (fun k => Laid W1 W2 k ∨ W4.heap.size ≤ k) (ls.take j) gb wr ∧ Kp (Laid W1 W2) W4 wr) (fun v12 wr => m - (intOf v12).toNat)
      case atStart => exact ⟨0, rfl, Nat.zero_le _, hG4, Kp.refl _ _⟩
      case round =>
        obtain ⟨j, rfl, hj, hRj, hKj⟩ := hrel
        have hl5 := ownsRow_kp hl4 hKj fun g hg e => by have := (hlb _ g hg).1; have := e.2; omega
        by_cases hjn : j < m
        · obtain ⟨l, hlj⟩ : ∃ l, ls[j]? = some l := ⟨_, List.getElem?_eq_getElem (by omega)⟩
          obtain ⟨gl, rfl, a0, a1, a2⟩ := link_cells hl5 hlj
          have hlink := link_calls (hRj.kp (S := fun _ => False) (Kp.drew wr) fun _ _ _ => id) l.1 l.2.1 l.2.2 (by rw [List.length_take]; omega)
          have hlt : ls.take (j + 1) = ls.take j ++ [(l.1, l.2.1, l.2.2)] := by rw [List.take_add_one, hlj]; rfl
          rw [linkB_next hf hnn hlj, if_pos rfl, ← hlt] at hlink
          have a0' : wr.drew.cell? ⟨gl, j * 3, none⟩ = some (.int .i64 l.1) := a0
          have a1' : wr.drew.cell? ⟨gl, j * 3 + 1, none⟩ = some (.int .i64 l.2.1) := a1
          have a2' : wr.drew.cell? ⟨gl, j * 3 + 2, none⟩ = some (.int .i64 l.2.2) := a2
          have hjn2 : (j : Int) < (ls.length : Int) := by omega
          obtain ⟨x1, x2⟩ := hlb ls.length gl rfl
          have hs8 := hKj.size
          have hS8 : ∀ W8, Kp (fun k => Laid W1 W2 k ∨ W4.heap.size ≤ k) wr.drew W8 → W8.cell? ⟨gl, j * 3, none⟩ = some (.int .i64 l.1) ∧ W8.cell? ⟨gl, j * 3 + 1, none⟩ = some (.int .i64 l.2.1) ∧ W8.cell? ⟨gl, j * 3 + 2, none⟩ = some (.int .i64 l.2.2) := fun W8 hk => by
            have e : ∀ o, W8.cell? ⟨gl, o, none⟩ = wr.cell? ⟨gl, o, none⟩ := fun o => cell_of_block (hk.block gl (show gl < wr.heap.size by omega) (fun e => e.elim (fun e => by have := e.2; omega) (fun e => by omega)))
            exact ⟨(e _).trans a0, (e _).trans a1, (e _).trans a2⟩
          go_wp2_with (fail)
          refine start1 (fun w => w.cell? ⟨gl, j * 3, none⟩ = some (.int .i64 l.1) ∧ w.cell? ⟨gl, j * 3 + 1, none⟩ = some (.int .i64 l.2.1) ∧ w.cell? ⟨gl, j * 3 + 2, none⟩ = some (.int .i64 l.2.2)) 18 #[false, false, false, false, false, false, false, false, false, false, false, false, false, false, false, false, false, false] (by kernel_rfl) (by kernel_rfl) ?_
          refine move1 (i := 0) (d := (some 59)) (v := _) rfl rfl (by kernel_rfl) (by rfl) (fun _ _ _ h => h) ⟨a0', a1', a2'⟩ (fun w => by (go_simp; try with_reducible rfl)) ?_
          simp only [Act.put, List.setIfInBounds_toArray, List.set_cons_zero, List.set_cons_succ]
          refine move1 (i := 1) (d := (some 60)) (v := _) rfl rfl (by kernel_rfl) (by rfl) (fun _ _ _ h => h) ⟨a0', a1', a2'⟩ (fun w => by (go_simp; try with_reducible rfl)) ?_
          simp only [Act.put, List.setIfInBounds_toArray, List.set_cons_zero, List.set_cons_succ]
          refine move1 (i := 2) (d := (some 61)) (v := _) rfl rfl (by kernel_rfl) (by rfl) (fun _ _ _ h => h) ⟨a0', a1', a2'⟩ (fun w => by (go_simp; try with_reducible rfl)) ?_
          simp only [Act.put, List.setIfInBounds_toArray, List.set_cons_zero, List.set_cons_succ]
          refine move1 (i := 3) (d := (some 62)) (v := _) rfl rfl (by kernel_rfl) (by rfl) (fun _ _ _ h => h) ⟨a0', a1', a2'⟩ (fun w => by (go_simp; try with_reducible rfl)) ?_
          simp only [Act.put, List.setIfInBounds_toArray, List.set_cons_zero, List.set_cons_succ]
          refine move1 (i := 4) (d := (some 63)) (v := _) rfl rfl (by kernel_rfl) (by rfl) (fun _ _ _ h => h) ⟨a0', a1', a2'⟩ (fun w => by (go_simp; try with_reducible rfl)) ?_
          simp only [Act.put, List.setIfInBounds_toArray, List.set_cons_zero, List.set_cons_succ]
          refine take1 (i := 5) (d := (some 64)) (v := _) rfl rfl (by kernel_rfl) (by rfl) (fun _ _ _ h => h) ⟨a0', a1', a2'⟩ (fun w hw => by obtain ⟨a0, a1, a2⟩ := hw; (go_simp; try with_reducible rfl)) ?_
          simp only [Act.put, List.setIfInBounds_toArray, List.set_cons_zero, List.set_cons_succ]
          refine move1 (i := 6) (d := (some 65)) (v := _) rfl rfl (by kernel_rfl) (by rfl) (fun _ _ _ h => h) ⟨a0', a1', a2'⟩ (fun w => by (go_simp; try with_reducible rfl)) ?_
          simp only [Act.put, List.setIfInBounds_toArray, List.set_cons_zero, List.set_cons_succ]
          refine move1 (i := 7) (d := (some 66)) (v := _) rfl rfl (by kernel_rfl) (by rfl) (fun _ _ _ h => h) ⟨a0', a1', a2'⟩ (fun w => by (go_simp; try with_reducible rfl)) ?_
          simp only [Act.put, List.setIfInBounds_toArray, List.set_cons_zero, List.set_cons_succ]
          refine move1 (i := 8) (d := (some 67)) (v := _) rfl rfl (by kernel_rfl) (by rfl) (fun _ _ _ h => h) ⟨a0', a1', a2'⟩ (fun w => by (go_simp; try with_reducible rfl)) ?_
          simp only [Act.put, List.setIfInBounds_toArray, List.set_cons_zero, List.set_cons_succ]
          refine move1 (i := 9) (d := (some 68)) (v := _) rfl rfl (by kernel_rfl) (by rfl) (fun _ _ _ h => h) ⟨a0', a1', a2'⟩ (fun w => by (go_simp; try with_reducible rfl)) ?_
          simp only [Act.put, List.setIfInBounds_toArray, List.set_cons_zero, List.set_cons_succ]
          refine take1 (i := 10) (d := (some 69)) (v := _) rfl rfl (by kernel_rfl) (by rfl) (fun _ _ _ h => h) ⟨a0', a1', a2'⟩ (fun w hw => by obtain ⟨a0, a1, a2⟩ := hw; (go_simp; try with_reducible rfl)) ?_
          simp only [Act.put, List.setIfInBounds_toArray, List.set_cons_zero, List.set_cons_succ]
          refine move1 (i := 11) (d := (some 70)) (v := _) rfl rfl (by kernel_rfl) (by rfl) (fun _ _ _ h => h) ⟨a0', a1', a2'⟩ (fun w => by (go_simp; try with_reducible rfl)) ?_
          simp only [Act.put, List.setIfInBounds_toArray, List.set_cons_zero, List.set_cons_succ]
          refine move1 (i := 12) (d := (some 71)) (v := _) rfl rfl (by kernel_rfl) (by rfl) (fun _ _ _ h => h) ⟨a0', a1', a2'⟩ (fun w => by (go_simp; try with_reducible rfl)) ?_
          simp only [Act.put, List.setIfInBounds_toArray, List.set_cons_zero, List.set_cons_succ]
          refine move1 (i := 13) (d := (some 72)) (v := _) rfl rfl (by kernel_rfl) (by rfl) (fun _ _ _ h => h) ⟨a0', a1', a2'⟩ (fun w => by (go_simp; try with_reducible rfl)) ?_
          simp only [Act.put, List.setIfInBounds_toArray, List.set_cons_zero, List.set_cons_succ]
          refine move1 (i := 14) (d := (some 73)) (v := _) rfl rfl (by kernel_rfl) (by rfl) (fun _ _ _ h => h) ⟨a0', a1', a2'⟩ (fun w => by (go_simp; try with_reducible rfl)) ?_
          simp only [Act.put, List.setIfInBounds_toArray, List.set_cons_zero, List.set_cons_succ]
          refine take1 (i := 15) (d := (some 74)) (v := _) rfl rfl (by kernel_rfl) (by rfl) (fun _ _ _ h => h) ⟨a0', a1', a2'⟩ (fun w hw => by obtain ⟨a0, a1, a2⟩ := hw; (go_simp; try with_reducible rfl)) ?_
          simp only [Act.put, List.setIfInBounds_toArray, List.set_cons_zero, List.set_cons_succ]
          refine only1 (i := 16) (by kernel_rfl) (wpOp_c (d := some 75) rfl rfl (by rfl) (f := 15) (args := #[.pointer (some ⟨gb, 0, none⟩), .int .i64 l.1, .int .i64 l.2.1, .int .i64 l.2.2]) (by go_simp; try rfl) (hlink.mono ?_))
          rintro e W8 ⟨rfl, hR8, hk8⟩
          refine ⟨_, rfl, hS8 W8 hk8, ?_⟩
          simp only [Act.put, List.setIfInBounds_toArray, List.set_cons_zero, List.set_cons_succ]
          refine only1 (i := 17) (by kernel_rfl) (wpOp_v (d := some 76) rfl rfl (by rfl) (v := .bool false) (w' := W8) (by go_simp; try rfl) ⟨hS8 W8 hk8, ?_⟩)
          simp only [Act.put, List.setIfInBounds_toArray, List.set_cons_zero, List.set_cons_succ]
          refine wpAnyL_done (by kernel_rfl) ?_ _
          have hR9 : Rep (fun k => Laid W1 W2 k ∨ W4.heap.size ≤ k) (ls.take (j + 1)) gb W8 := hR8.mono fun k _ h => h.elim id fun h => .inr (Nat.le_trans hKj.size h)
          have hK9 : Kp (Laid W1 W2) W4 W8 := mid_kp2 hKj ((Kp.drew wr).trans hk8)
          go_wp2_with (fail)
          go_roundw
          case rel => exact ⟨j + 1, by go_num, hjn, hR9, hK9⟩
          case measure => simp only [intOf]; omega
        · have hje : j = m := by omega
          subst hje
          obtain ⟨U, hU⟩ : ∃ U, ls.take j = U := ⟨_, rfl⟩
          have hrt0 := row_take hl5 (m := j) (by omega)
          rw [hU] at hRj hR4' hU0 hrt0
          have hs5 := hKj.size
          have hF5 : Rep (Two W W1 W3 W4) U fb wr := hR4'.kp hKj fun k _ h e => by have := e.1; have := e.2; rcases h with h | h <;> (have := h.1; have := h.2; omega)
          have hG5 : Rep (Two W1 W2 W4 wr) U gb wr := hRj.mono fun k hl h => h.imp id fun h => ⟨h, hl⟩
          have hfU := rep_for hF5
          have hk5 : Kp (fun _ => False) W wr := from_kp hk4W (hKj.imp fun k _ h => by have := h.1; exact (by omega : W.heap.size ≤ k))
          have hFW : ∀ k, Two W W1 W3 W4 k → W.heap.size ≤ k := fun k h => by rcases h with h | h <;> (have := h.1; omega)
          have hGW : ∀ k, Two W1 W2 W4 wr k → W.heap.size ≤ k := fun k h => by rcases h with h | h <;> (have := h.1; omega)
          have hFG : ∀ k, Two W W1 W3 W4 k → ¬ Two W1 W2 W4 wr k := fun k h e => by
            rcases h with h | h <;> rcases e with e | e <;> (have := h.1; have := h.2; have := e.1; have := e.2; omega)
          have hql := pathQ_len hfU a b
          obtain ⟨P, hP⟩ : ∃ P, (pathQ U a b).getD [] = P := ⟨_, rfl⟩
          have hp := path_calls hF5 a b
          rw [hP] at hp hql
          go_wp2_with (first
            | ((with_reducible refine hp.mono ?_); rintro e W6 ⟨vp, rfl, hp6, hF6, hk6⟩; have hG6 := hG5.kp hk6 (fun k _ h e => hFG k e h); have hq := path_calls hG6 a b; rw [hP] at hq; obtain ⟨Ap, cp, rfl⟩ := slice_of hp6.row)
            | ((with_reducible refine hq.mono ?_); rintro e W7 ⟨vq, rfl, hq7, hG7, hk7⟩; obtain ⟨Aq, cq, rfl⟩ := slice_of hq7.row)
            | fail)
          have hs6 := hk6.size
          have hF7 := hF6.kp hk7 fun k _ h => hFG k h
          have hp7 := ownsRow_kp hp6.row hk7 fun g hg e => by have := hp6.new g hg; rcases e with e | e <;> (have := e.2; omega)
          have hrt7 := ownsRow_kp (ownsRow_kp hrt0 hk6 fun g hg e => by
            obtain ⟨x1, x2⟩ := hlb _ g hg
            rcases e with e | e <;> (have := e.1; have := e.2; omega)) hk7 fun g hg e => by
            obtain ⟨x1, x2⟩ := hlb _ g hg
            rcases e with e | e <;> (have := e.1; have := e.2; omega)
          have hd7 : Kp (fun _ => False) W7 W7.drew := Kp.drew _
          have hF8 := hF7.kp hd7 fun _ _ _ => id
          have hG8 := hG7.kp hd7 fun _ _ _ => id
          have hlenf := len_calls hF8
          have hUl : U.length = j := hU0
          rw [hUl] at hlenf
          have hlkf := links_calls hF8
          have hE1 : ∀ W9, Kp (fun _ => False) W7.drew W9 → ∀ v9, Rw W9 v9 U → Calls Try.prog 16 #[v9, .slice Al j cl] W9 fun e W' => e = .returned (.bool true) ∧ Kp (fun _ => False) W9 W' := fun W9 h9 v9 hv9 => by
            have q := equal_calls (l2 := U) hv9 (ownsRow_kp (ownsRow_kp hrt7 hd7 fun _ _ => id) h9 fun _ _ => id) (by omega)
            simpa only [decide_true] using q
          have hEq2 : ∀ W10, Kp (fun _ => False) W7.drew W10 → Calls Try.prog 16 #[.slice Ap P.length cp, .slice Aq P.length cq] W10 fun e W' => e = .returned (.bool true) ∧ Kp (fun _ => False) W10 W' := fun W10 h10 => by
            have q := equal_calls (l1 := P) (l2 := P) (ownsRow_kp (ownsRow_kp hp7 hd7 fun _ _ => id) h10 fun _ _ => id) (ownsRow_kp (ownsRow_kp hq7.row hd7 fun _ _ => id) h10 fun _ _ => id) (by omega)
            simpa only [decide_true] using q
          have hLf : ∀ W11, Kp (fun _ => False) W7.drew W11 → _ := fun W11 h => link_calls (hF8.kp h fun _ _ _ => id) a b 5 (by omega)
          have hLg : ∀ W11 W12, Kp (fun _ => False) W7.drew W11 → Kp (Two W W1 W3 W4) W11 W12 → _ := fun W11 W12 h h' => link_calls ((hG8.kp h fun _ _ _ => id).kp h' fun k _ e e' => hFG k e' e) a b 5 (by omega)
          have hmc : j ≤ cl := by omega
          go_wp2_with (fail)
          refine start1 (fun _ => True) 37 #[false, false, false, false, false, false, false, false, false, false, false, false, false, false, false, false, false, false, false, false, false, false, false, false, false, false, false, false, false, false, false, false, false, false, false, false, false] (by kernel_rfl) (by kernel_rfl) ?_
          refine move1 (i := 0) (d := (some 91)) (v := _) rfl rfl (by kernel_rfl) (by rfl) (fun _ _ _ h => h) trivial (fun w => by (go_simp; try with_reducible rfl)) ?_
          simp only [Act.put, List.setIfInBounds_toArray, List.set_cons_zero, List.set_cons_succ]
          refine move1 (i := 2) (d := (some 93)) (v := _) rfl rfl (by kernel_rfl) (by rfl) (fun _ _ _ h => h) trivial (fun w => by (go_simp; try with_reducible rfl)) ?_
          simp only [Act.put, List.setIfInBounds_toArray, List.set_cons_zero, List.set_cons_succ]
          refine only1 (i := 1) (by kernel_rfl) (wpOp_c (d := some 92) rfl rfl (by rfl) (f := 21) (args := #[.pointer (some ⟨fb, 0, none⟩)]) (by go_simp; try rfl) ((hlenf).mono ?_))
          rintro e W8 ⟨rfl, hW8⟩
          subst hW8
          refine ⟨_, rfl, trivial, ?_⟩
          simp only [Act.put, List.setIfInBounds_toArray, List.set_cons_zero, List.set_cons_succ]
          refine take1 (i := 3) (d := (some 94)) (v := .bool true) rfl rfl (by kernel_rfl) (by rfl) (fun _ _ _ h => h) trivial (fun w hw => by skip; (go_simp; try simp; try rfl)) ?_
          simp only [Act.put, List.setIfInBounds_toArray, List.set_cons_zero, List.set_cons_succ]
          refine move1 (i := 4) (d := (some 95)) (v := _) rfl rfl (by kernel_rfl) (by rfl) (fun _ _ _ h => h) trivial (fun w => by (go_simp; try with_reducible rfl)) ?_
          simp only [Act.put, List.setIfInBounds_toArray, List.set_cons_zero, List.set_cons_succ]
          refine move1 (i := 5) (d := (some 96)) (v := _) rfl rfl (by kernel_rfl) (by rfl) (fun _ _ _ h => h) trivial (fun w => by (go_simp; try with_reducible rfl)) ?_
          simp only [Act.put, List.setIfInBounds_toArray, List.set_cons_zero, List.set_cons_succ]
          refine move1 (i := 7) (d := (some 98)) (v := _) rfl rfl (by kernel_rfl) (by rfl) (fun _ _ _ h => h) trivial (fun w => by (go_simp; try with_reducible rfl)) ?_
          simp only [Act.put, List.setIfInBounds_toArray, List.set_cons_zero, List.set_cons_succ]
          refine move1 (i := 8) (d := (some 99)) (v := _) rfl rfl (by kernel_rfl) (by rfl) (fun _ _ _ h => h) trivial (fun w => by (go_simp; try with_reducible rfl)) ?_
          simp only [Act.put, List.setIfInBounds_toArray, List.set_cons_zero, List.set_cons_succ]
          refine take1 (i := 9) (d := (some 100)) (v := .slice Al j cl) rfl rfl (by kernel_rfl) (by rfl) (fun _ _ _ h => h) trivial (fun w hw => by skip; (go_simp; try rfl)) ?_
          simp only [Act.put, List.setIfInBounds_toArray, List.set_cons_zero, List.set_cons_succ]
          refine only1 (i := 6) (by kernel_rfl) (wpOp_c (d := some 97) rfl rfl (by rfl) (f := 22) (args := #[.pointer (some ⟨fb, 0, none⟩)]) (by go_simp; try rfl) ((hlkf).mono ?_))
          rintro e W9 ⟨vl9, rfl, hl9, hk9⟩
          obtain ⟨A9, c9, rfl⟩ := slice_of hl9.row
          have heq1 := hE1 W9 hk9 _ hl9.row
          refine ⟨_, rfl, trivial, ?_⟩
          simp only [Act.put, List.setIfInBounds_toArray, List.set_cons_zero, List.set_cons_succ]
          refine only1 (i := 10) (by kernel_rfl) (wpOp_c (d := some 101) rfl rfl (by rfl) (f := 16) (args := #[.slice A9 U.length c9, .slice Al j cl]) (by go_simp; try rfl) ((heq1).mono ?_))
          rintro e W10 ⟨rfl, hk10⟩
          have hE2 := hEq2 W10 (hk9.trans hk10)
          refine ⟨_, rfl, trivial, ?_⟩
          simp only [Act.put, List.setIfInBounds_toArray, List.set_cons_zero, List.set_cons_succ]
          refine move1 (i := 11) (d := (some 102)) (v := _) rfl rfl (by kernel_rfl) (by rfl) (fun _ _ _ h => h) trivial (fun w => by (go_simp; try with_reducible rfl)) ?_
          simp only [Act.put, List.setIfInBounds_toArray, List.set_cons_zero, List.set_cons_succ]
          refine move1 (i := 12) (d := (some 103)) (v := _) rfl rfl (by kernel_rfl) (by rfl) (fun _ _ _ h => h) trivial (fun w => by (go_simp; try with_reducible rfl)) ?_
          simp only [Act.put, List.setIfInBounds_toArray, List.set_cons_zero, List.set_cons_succ]
          refine move1 (i := 13) (d := (some 104)) (v := _) rfl rfl (by kernel_rfl) (by rfl) (fun _ _ _ h => h) trivial (fun w => by (go_simp; try with_reducible rfl)) ?_
          simp only [Act.put, List.setIfInBounds_toArray, List.set_cons_zero, List.set_cons_succ]
          refine move1 (i := 14) (d := (some 105)) (v := _) rfl rfl (by kernel_rfl) (by rfl) (fun _ _ _ h => h) trivial (fun w => by (go_simp; try with_reducible rfl)) ?_
          simp only [Act.put, List.setIfInBounds_toArray, List.set_cons_zero, List.set_cons_succ]
          refine only1 (i := 15) (by kernel_rfl) (wpOp_c (d := some 106) rfl rfl (by rfl) (f := 16) (args := #[.slice Ap P.length cp, .slice Aq P.length cq]) (by go_simp; try rfl) ((hE2).mono ?_))
          rintro e W11 ⟨rfl, hk11⟩
          have hlf := hLf W11 ((hk9.trans hk10).trans hk11)
          refine ⟨_, rfl, trivial, ?_⟩
          simp only [Act.put, List.setIfInBounds_toArray, List.set_cons_zero, List.set_cons_succ]
          refine move1 (i := 16) (d := (some 107)) (v := _) rfl rfl (by kernel_rfl) (by rfl) (fun _ _ _ h => h) trivial (fun w => by (go_simp; try with_reducible rfl)) ?_
          simp only [Act.put, List.setIfInBounds_toArray, List.set_cons_zero, List.set_cons_succ]
          refine move1 (i := 17) (d := (some 108)) (v := _) rfl rfl (by kernel_rfl) (by rfl) (fun _ _ _ h => h) trivial (fun w => by (go_simp; try with_reducible rfl)) ?_
          simp only [Act.put, List.setIfInBounds_toArray, List.set_cons_zero, List.set_cons_succ]
          refine move1 (i := 18) (d := (some 109)) (v := _) rfl rfl (by kernel_rfl) (by rfl) (fun _ _ _ h => h) trivial (fun w => by (go_simp; try with_reducible rfl)) ?_
          simp only [Act.put, List.setIfInBounds_toArray, List.set_cons_zero, List.set_cons_succ]
          refine move1 (i := 19) (d := (some 110)) (v := _) rfl rfl (by kernel_rfl) (by rfl) (fun _ _ _ h => h) trivial (fun w => by (go_simp; try with_reducible rfl)) ?_
          simp only [Act.put, List.setIfInBounds_toArray, List.set_cons_zero, List.set_cons_succ]
          refine take1 (i := 20) (d := (some 111)) (v := .bool true) rfl rfl (by kernel_rfl) (by rfl) (fun _ _ _ h => h) trivial (fun w hw => by skip; (go_simp; try simp; try rfl)) ?_
          simp only [Act.put, List.setIfInBounds_toArray, List.set_cons_zero, List.set_cons_succ]
          refine move1 (i := 21) (d := (some 112)) (v := _) rfl rfl (by kernel_rfl) (by rfl) (fun _ _ _ h => h) trivial (fun w => by (go_simp; try with_reducible rfl)) ?_
          simp only [Act.put, List.setIfInBounds_toArray, List.set_cons_zero, List.set_cons_succ]
          refine move1 (i := 22) (d := (some 113)) (v := _) rfl rfl (by kernel_rfl) (by rfl) (fun _ _ _ h => h) trivial (fun w => by (go_simp; try with_reducible rfl)) ?_
          simp only [Act.put, List.setIfInBounds_toArray, List.set_cons_zero, List.set_cons_succ]
          refine move1 (i := 23) (d := (some 114)) (v := _) rfl rfl (by kernel_rfl) (by rfl) (fun _ _ _ h => h) trivial (fun w => by (go_simp; try with_reducible rfl)) ?_
          simp only [Act.put, List.setIfInBounds_toArray, List.set_cons_zero, List.set_cons_succ]
          refine move1 (i := 24) (d := (some 115)) (v := _) rfl rfl (by kernel_rfl) (by rfl) (fun _ _ _ h => h) trivial (fun w => by (go_simp; try with_reducible rfl)) ?_
          simp only [Act.put, List.setIfInBounds_toArray, List.set_cons_zero, List.set_cons_succ]
          refine move1 (i := 25) (d := (some 116)) (v := _) rfl rfl (by kernel_rfl) (by rfl) (fun _ _ _ h => h) trivial (fun w => by (go_simp; try with_reducible rfl)) ?_
          simp only [Act.put, List.setIfInBounds_toArray, List.set_cons_zero, List.set_cons_succ]
          refine move1 (i := 27) (d := (some 118)) (v := _) rfl rfl (by kernel_rfl) (by rfl) (fun _ _ _ h => h) trivial (fun w => by (go_simp; try with_reducible rfl)) ?_
          simp only [Act.put, List.setIfInBounds_toArray, List.set_cons_zero, List.set_cons_succ]
          refine move1 (i := 28) (d := (some 119)) (v := _) rfl rfl (by kernel_rfl) (by rfl) (fun _ _ _ h => h) trivial (fun w => by (go_simp; try with_reducible rfl)) ?_
          simp only [Act.put, List.setIfInBounds_toArray, List.set_cons_zero, List.set_cons_succ]
          refine move1 (i := 29) (d := (some 120)) (v := _) rfl rfl (by kernel_rfl) (by rfl) (fun _ _ _ h => h) trivial (fun w => by (go_simp; try with_reducible rfl)) ?_
          simp only [Act.put, List.setIfInBounds_toArray, List.set_cons_zero, List.set_cons_succ]
          refine only1 (i := 26) (by kernel_rfl) (wpOp_c (d := some 117) rfl rfl (by rfl) (f := 15) (args := #[.pointer (some ⟨fb, 0, none⟩), .int .i64 a, .int .i64 b, .int .i64 5]) (by go_simp; try rfl) ((hlf).mono ?_))
          rintro e W12 ⟨rfl, hR12, hk12⟩
          have hlg := hLg W11 W12 ((hk9.trans hk10).trans hk11) hk12
          refine ⟨_, rfl, trivial, ?_⟩
          simp only [Act.put, List.setIfInBounds_toArray, List.set_cons_zero, List.set_cons_succ]
          refine only1 (i := 30) (by kernel_rfl) (wpOp_c (d := some 121) rfl rfl (by rfl) (f := 15) (args := #[.pointer (some ⟨gb, 0, none⟩), .int .i64 a, .int .i64 b, .int .i64 5]) (by go_simp; try rfl) ((hlg).mono ?_))
          rintro e W13 ⟨rfl, hR13, hk13⟩
          have hlive := live_calls W13
          refine ⟨_, rfl, trivial, ?_⟩
          simp only [Act.put, List.setIfInBounds_toArray, List.set_cons_zero, List.set_cons_succ]
          refine take1 (i := 31) (d := (some 122)) (v := .bool true) rfl rfl (by kernel_rfl) (by rfl) (fun _ _ _ h => h) trivial (fun w hw => by skip; (go_simp; try simp; try rfl)) ?_
          simp only [Act.put, List.setIfInBounds_toArray, List.set_cons_zero, List.set_cons_succ]
          refine move1 (i := 32) (d := (some 123)) (v := _) rfl rfl (by kernel_rfl) (by rfl) (fun _ _ _ h => h) trivial (fun w => by (go_simp; try with_reducible rfl)) ?_
          simp only [Act.put, List.setIfInBounds_toArray, List.set_cons_zero, List.set_cons_succ]
          refine move1 (i := 33) (d := (some 124)) (v := _) rfl rfl (by kernel_rfl) (by rfl) (fun _ _ _ h => h) trivial (fun w => by (go_simp; try with_reducible rfl)) ?_
          simp only [Act.put, List.setIfInBounds_toArray, List.set_cons_zero, List.set_cons_succ]
          refine only1 (i := 34) (by kernel_rfl) (wpOp_c (d := some 125) rfl rfl (by rfl) (f := 11) (args := #[]) (by go_simp; try rfl) ((hlive).mono ?_))
          rintro e W14 ⟨rfl, hk14⟩
          refine ⟨_, rfl, trivial, ?_⟩
          simp only [Act.put, List.setIfInBounds_toArray, List.set_cons_zero, List.set_cons_succ]
          refine move1 (i := 35) (d := (some 126)) (v := _) rfl rfl (by kernel_rfl) (by rfl) (fun _ _ _ h => h) trivial (fun w => by (go_simp; try with_reducible rfl)) ?_
          simp only [Act.put, List.setIfInBounds_toArray, List.set_cons_zero, List.set_cons_succ]
          refine move1 (i := 36) (d := (some 8)) (v := _) rfl rfl (by kernel_rfl) (by rfl) (fun _ _ _ h => h) trivial (fun w => by (go_simp; try with_reducible rfl)) ?_
          simp only [Act.put, List.setIfInBounds_toArray, List.set_cons_zero, List.set_cons_succ]
          refine wpAnyL_done (by kernel_rfl) ?_ _
          go_wp2_with (fail)
          exact ⟨rfl, .bool true, by simp [results, Try.results8, go_sem], rfl, undoes_kp hk5 hFW hGW hk6 hk7 (hd7.trans ((hk9.trans hk10).trans hk11)) hk12 hk13 hk14⟩
    · subst q2
      have hun2 : Calls Try.prog 19 #[.pointer (some ⟨fb, 0, none⟩), .int .i64 n] W3 fun e W' => e = .returned (.bool false) ∧ Rep (fun k => Laid W W1 k ∨ W3.heap.size ≤ k) (ls.take ls.length) fb W' ∧ Kp (Laid W W1) W3 W' := hun.mono fun e W' h => by
        have e0 : (decide (0 ≤ n) && decide (n ≤ (ls.length : Int))) = false := by
          rcases q1 with q1 | q1
          · rw [decide_eq_false (by omega : ¬ 0 ≤ n), Bool.false_and]
          · rw [decide_eq_false (by omega : ¬ n ≤ (ls.length : Int)), Bool.and_false]
        rw [e0] at h; exact h
      clear hun
      have hz : ∃ b1 b2 b3 : Bool, decide (0 ≤ n) = b1 ∧ decide (n < 0) = b2 ∧ decide (n ≤ (ls.length : Int)) = b3 := ⟨_, _, _, rfl, rfl, rfl⟩
      rcases Int.lt_or_le n 0 with hneg | hpos
      · have d1 : decide (0 ≤ n) = false := decide_eq_false (by omega)
        have d2 : decide (n < 0) = true := decide_eq_true hneg
        go_wp2_with (first
          | ((with_reducible refine hun2.mono ?_); rintro e W4 ⟨rfl, hR4, hk4⟩)
          | fail)
        have hU0 : (ls.take ls.length).length = ls.length := by rw [List.length_take]; omega
        have hR4' : Rep (Two W W1 W3 W4) (ls.take ls.length) fb W4 := hR4.mono fun k hl h => h.imp id fun h => ⟨h, hl⟩
        have hs4 := hk4.size
        have hG4 : Rep (fun k => Laid W1 W2 k ∨ W4.heap.size ≤ k) [] gb W4 := (hG3.kp hk4 fun k _ h e => by have := h.1; have := e.2; omega).mono fun k _ h => .inl h
        have hl4 := ownsRow_kp hl3.row hk4 fun g hg e => by have := hl3.new g hg; have := e.2; omega
        have hlb : ∀ (n' g : Nat), (Value.slice Al n' cl).ownBlock = some g → W2.heap.size ≤ g ∧ g < W3.heap.size := fun n' g hg0 => have hg : (Value.slice Al ls.length cl).ownBlock = some g := (by cases Al <;> exact hg0); ⟨hl3.new g hg, by obtain ⟨cur, hc⟩ := ownsRow_lt hl3.row hg; exact (Array.getElem?_eq_some_iff.1 hc).1⟩
        have hk4W : Kp (fun _ => False) W W4 := laid_kp hk3 hk4
        have hcl := row_cap hl3.row
        go_loopw [12] (fun v12 wr => ∃ j : Nat, v12 = .int .i64 (j : Int) ∧ j ≤ ls.length ∧ Rep (fun k => Laid W1 W2 k ∨ W4.heap.size ≤ k) (ls.take j) gb wr ∧ Kp (Laid W1 W2) W4 wr) (fun v12 wr => ls.length - (intOf v12).toNat)
        case atStart => exact ⟨0, rfl, Nat.zero_le _, hG4, Kp.refl _ _⟩
        case round =>
          obtain ⟨j, rfl, hj, hRj, hKj⟩ := hrel
          have hl5 := ownsRow_kp hl4 hKj fun g hg e => by have := (hlb _ g hg).1; have := e.2; omega
          by_cases hjn : j < ls.length
          · obtain ⟨l, hlj⟩ : ∃ l, ls[j]? = some l := ⟨_, List.getElem?_eq_getElem (by omega)⟩
            obtain ⟨gl, rfl, a0, a1, a2⟩ := link_cells hl5 hlj
            have hlink := link_calls (hRj.kp (S := fun _ => False) (Kp.drew wr) fun _ _ _ => id) l.1 l.2.1 l.2.2 (by rw [List.length_take]; omega)
            have hlt : ls.take (j + 1) = ls.take j ++ [(l.1, l.2.1, l.2.2)] := by rw [List.take_add_one, hlj]; rfl
            rw [linkB_next hf hnn hlj, if_pos rfl, ← hlt] at hlink
            have a0' : wr.drew.cell? ⟨gl, j * 3, none⟩ = some (.int .i64 l.1) := a0
            have a1' : wr.drew.cell? ⟨gl, j * 3 + 1, none⟩ = some (.int .i64 l.2.1) := a1
            have a2' : wr.drew.cell? ⟨gl, j * 3 + 2, none⟩ = some (.int .i64 l.2.2) := a2
            have hjn2 : (j : Int) < (ls.length : Int) := by omega
            obtain ⟨x1, x2⟩ := hlb ls.length gl rfl
            have hs8 := hKj.size
            have hS8 : ∀ W8, Kp (fun k => Laid W1 W2 k ∨ W4.heap.size ≤ k) wr.drew W8 → W8.cell? ⟨gl, j * 3, none⟩ = some (.int .i64 l.1) ∧ W8.cell? ⟨gl, j * 3 + 1, none⟩ = some (.int .i64 l.2.1) ∧ W8.cell? ⟨gl, j * 3 + 2, none⟩ = some (.int .i64 l.2.2) := fun W8 hk => by
              have e : ∀ o, W8.cell? ⟨gl, o, none⟩ = wr.cell? ⟨gl, o, none⟩ := fun o => cell_of_block (hk.block gl (show gl < wr.heap.size by omega) (fun e => e.elim (fun e => by have := e.2; omega) (fun e => by omega)))
              exact ⟨(e _).trans a0, (e _).trans a1, (e _).trans a2⟩
            go_wp2_with (fail)
            refine start1 (fun w => w.cell? ⟨gl, j * 3, none⟩ = some (.int .i64 l.1) ∧ w.cell? ⟨gl, j * 3 + 1, none⟩ = some (.int .i64 l.2.1) ∧ w.cell? ⟨gl, j * 3 + 2, none⟩ = some (.int .i64 l.2.2)) 18 #[false, false, false, false, false, false, false, false, false, false, false, false, false, false, false, false, false, false] (by kernel_rfl) (by kernel_rfl) ?_
            refine move1 (i := 0) (d := (some 59)) (v := _) rfl rfl (by kernel_rfl) (by rfl) (fun _ _ _ h => h) ⟨a0', a1', a2'⟩ (fun w => by (go_simp; try with_reducible rfl)) ?_
            simp only [Act.put, List.setIfInBounds_toArray, List.set_cons_zero, List.set_cons_succ]
            refine move1 (i := 1) (d := (some 60)) (v := _) rfl rfl (by kernel_rfl) (by rfl) (fun _ _ _ h => h) ⟨a0', a1', a2'⟩ (fun w => by (go_simp; try with_reducible rfl)) ?_
            simp only [Act.put, List.setIfInBounds_toArray, List.set_cons_zero, List.set_cons_succ]
            refine move1 (i := 2) (d := (some 61)) (v := _) rfl rfl (by kernel_rfl) (by rfl) (fun _ _ _ h => h) ⟨a0', a1', a2'⟩ (fun w => by (go_simp; try with_reducible rfl)) ?_
            simp only [Act.put, List.setIfInBounds_toArray, List.set_cons_zero, List.set_cons_succ]
            refine move1 (i := 3) (d := (some 62)) (v := _) rfl rfl (by kernel_rfl) (by rfl) (fun _ _ _ h => h) ⟨a0', a1', a2'⟩ (fun w => by (go_simp; try with_reducible rfl)) ?_
            simp only [Act.put, List.setIfInBounds_toArray, List.set_cons_zero, List.set_cons_succ]
            refine move1 (i := 4) (d := (some 63)) (v := _) rfl rfl (by kernel_rfl) (by rfl) (fun _ _ _ h => h) ⟨a0', a1', a2'⟩ (fun w => by (go_simp; try with_reducible rfl)) ?_
            simp only [Act.put, List.setIfInBounds_toArray, List.set_cons_zero, List.set_cons_succ]
            refine take1 (i := 5) (d := (some 64)) (v := _) rfl rfl (by kernel_rfl) (by rfl) (fun _ _ _ h => h) ⟨a0', a1', a2'⟩ (fun w hw => by obtain ⟨a0, a1, a2⟩ := hw; (go_simp; try with_reducible rfl)) ?_
            simp only [Act.put, List.setIfInBounds_toArray, List.set_cons_zero, List.set_cons_succ]
            refine move1 (i := 6) (d := (some 65)) (v := _) rfl rfl (by kernel_rfl) (by rfl) (fun _ _ _ h => h) ⟨a0', a1', a2'⟩ (fun w => by (go_simp; try with_reducible rfl)) ?_
            simp only [Act.put, List.setIfInBounds_toArray, List.set_cons_zero, List.set_cons_succ]
            refine move1 (i := 7) (d := (some 66)) (v := _) rfl rfl (by kernel_rfl) (by rfl) (fun _ _ _ h => h) ⟨a0', a1', a2'⟩ (fun w => by (go_simp; try with_reducible rfl)) ?_
            simp only [Act.put, List.setIfInBounds_toArray, List.set_cons_zero, List.set_cons_succ]
            refine move1 (i := 8) (d := (some 67)) (v := _) rfl rfl (by kernel_rfl) (by rfl) (fun _ _ _ h => h) ⟨a0', a1', a2'⟩ (fun w => by (go_simp; try with_reducible rfl)) ?_
            simp only [Act.put, List.setIfInBounds_toArray, List.set_cons_zero, List.set_cons_succ]
            refine move1 (i := 9) (d := (some 68)) (v := _) rfl rfl (by kernel_rfl) (by rfl) (fun _ _ _ h => h) ⟨a0', a1', a2'⟩ (fun w => by (go_simp; try with_reducible rfl)) ?_
            simp only [Act.put, List.setIfInBounds_toArray, List.set_cons_zero, List.set_cons_succ]
            refine take1 (i := 10) (d := (some 69)) (v := _) rfl rfl (by kernel_rfl) (by rfl) (fun _ _ _ h => h) ⟨a0', a1', a2'⟩ (fun w hw => by obtain ⟨a0, a1, a2⟩ := hw; (go_simp; try with_reducible rfl)) ?_
            simp only [Act.put, List.setIfInBounds_toArray, List.set_cons_zero, List.set_cons_succ]
            refine move1 (i := 11) (d := (some 70)) (v := _) rfl rfl (by kernel_rfl) (by rfl) (fun _ _ _ h => h) ⟨a0', a1', a2'⟩ (fun w => by (go_simp; try with_reducible rfl)) ?_
            simp only [Act.put, List.setIfInBounds_toArray, List.set_cons_zero, List.set_cons_succ]
            refine move1 (i := 12) (d := (some 71)) (v := _) rfl rfl (by kernel_rfl) (by rfl) (fun _ _ _ h => h) ⟨a0', a1', a2'⟩ (fun w => by (go_simp; try with_reducible rfl)) ?_
            simp only [Act.put, List.setIfInBounds_toArray, List.set_cons_zero, List.set_cons_succ]
            refine move1 (i := 13) (d := (some 72)) (v := _) rfl rfl (by kernel_rfl) (by rfl) (fun _ _ _ h => h) ⟨a0', a1', a2'⟩ (fun w => by (go_simp; try with_reducible rfl)) ?_
            simp only [Act.put, List.setIfInBounds_toArray, List.set_cons_zero, List.set_cons_succ]
            refine move1 (i := 14) (d := (some 73)) (v := _) rfl rfl (by kernel_rfl) (by rfl) (fun _ _ _ h => h) ⟨a0', a1', a2'⟩ (fun w => by (go_simp; try with_reducible rfl)) ?_
            simp only [Act.put, List.setIfInBounds_toArray, List.set_cons_zero, List.set_cons_succ]
            refine take1 (i := 15) (d := (some 74)) (v := _) rfl rfl (by kernel_rfl) (by rfl) (fun _ _ _ h => h) ⟨a0', a1', a2'⟩ (fun w hw => by obtain ⟨a0, a1, a2⟩ := hw; (go_simp; try with_reducible rfl)) ?_
            simp only [Act.put, List.setIfInBounds_toArray, List.set_cons_zero, List.set_cons_succ]
            refine only1 (i := 16) (by kernel_rfl) (wpOp_c (d := some 75) rfl rfl (by rfl) (f := 15) (args := #[.pointer (some ⟨gb, 0, none⟩), .int .i64 l.1, .int .i64 l.2.1, .int .i64 l.2.2]) (by go_simp; try rfl) (hlink.mono ?_))
            rintro e W8 ⟨rfl, hR8, hk8⟩
            refine ⟨_, rfl, hS8 W8 hk8, ?_⟩
            simp only [Act.put, List.setIfInBounds_toArray, List.set_cons_zero, List.set_cons_succ]
            refine only1 (i := 17) (by kernel_rfl) (wpOp_v (d := some 76) rfl rfl (by rfl) (v := .bool false) (w' := W8) (by go_simp; try rfl) ⟨hS8 W8 hk8, ?_⟩)
            simp only [Act.put, List.setIfInBounds_toArray, List.set_cons_zero, List.set_cons_succ]
            refine wpAnyL_done (by kernel_rfl) ?_ _
            have hR9 : Rep (fun k => Laid W1 W2 k ∨ W4.heap.size ≤ k) (ls.take (j + 1)) gb W8 := hR8.mono fun k _ h => h.elim id fun h => .inr (Nat.le_trans hKj.size h)
            have hK9 : Kp (Laid W1 W2) W4 W8 := mid_kp2 hKj ((Kp.drew wr).trans hk8)
            go_wp2_with (fail)
            go_roundw
            case rel => exact ⟨j + 1, by go_num, hjn, hR9, hK9⟩
            case measure => simp only [intOf]; omega
          · have hje : j = ls.length := by omega
            subst hje
            obtain ⟨U, hU⟩ : ∃ U, ls.take ls.length = U := ⟨_, rfl⟩
            have hrt0 := row_take hl5 (m := ls.length) (by omega)
            rw [hU] at hRj hR4' hU0 hrt0
            have hs5 := hKj.size
            have hF5 : Rep (Two W W1 W3 W4) U fb wr := hR4'.kp hKj fun k _ h e => by have := e.1; have := e.2; rcases h with h | h <;> (have := h.1; have := h.2; omega)
            have hG5 : Rep (Two W1 W2 W4 wr) U gb wr := hRj.mono fun k hl h => h.imp id fun h => ⟨h, hl⟩
            have hfU := rep_for hF5
            have hk5 : Kp (fun _ => False) W wr := from_kp hk4W (hKj.imp fun k _ h => by have := h.1; exact (by omega : W.heap.size ≤ k))
            have hFW : ∀ k, Two W W1 W3 W4 k → W.heap.size ≤ k := fun k h => by rcases h with h | h <;> (have := h.1; omega)
            have hGW : ∀ k, Two W1 W2 W4 wr k → W.heap.size ≤ k := fun k h => by rcases h with h | h <;> (have := h.1; omega)
            have hFG : ∀ k, Two W W1 W3 W4 k → ¬ Two W1 W2 W4 wr k := fun k h e => by
              rcases h with h | h <;> rcases e with e | e <;> (have := h.1; have := h.2; have := e.1; have := e.2; omega)
            have hql := pathQ_len hfU a b
            obtain ⟨P, hP⟩ : ∃ P, (pathQ U a b).getD [] = P := ⟨_, rfl⟩
            have hp := path_calls hF5 a b
            rw [hP] at hp hql
            go_wp2_with (first
              | ((with_reducible refine hp.mono ?_); rintro e W6 ⟨vp, rfl, hp6, hF6, hk6⟩; have hG6 := hG5.kp hk6 (fun k _ h e => hFG k e h); have hq := path_calls hG6 a b; rw [hP] at hq; obtain ⟨Ap, cp, rfl⟩ := slice_of hp6.row)
              | ((with_reducible refine hq.mono ?_); rintro e W7 ⟨vq, rfl, hq7, hG7, hk7⟩; obtain ⟨Aq, cq, rfl⟩ := slice_of hq7.row)
              | fail)
            have hs6 := hk6.size
            have hF7 := hF6.kp hk7 fun k _ h => hFG k h
            have hp7 := ownsRow_kp hp6.row hk7 fun g hg e => by have := hp6.new g hg; rcases e with e | e <;> (have := e.2; omega)
            have hrt7 := ownsRow_kp (ownsRow_kp hrt0 hk6 fun g hg e => by
              obtain ⟨x1, x2⟩ := hlb _ g hg
              rcases e with e | e <;> (have := e.1; have := e.2; omega)) hk7 fun g hg e => by
              obtain ⟨x1, x2⟩ := hlb _ g hg
              rcases e with e | e <;> (have := e.1; have := e.2; omega)
            have hd7 : Kp (fun _ => False) W7 W7.drew := Kp.drew _
            have hF8 := hF7.kp hd7 fun _ _ _ => id
            have hG8 := hG7.kp hd7 fun _ _ _ => id
            have hlenf := len_calls hF8
            have hUl : U.length = ls.length := hU0
            rw [hUl] at hlenf
            have hlkf := links_calls hF8
            have hE1 : ∀ W9, Kp (fun _ => False) W7.drew W9 → ∀ v9, Rw W9 v9 U → Calls Try.prog 16 #[v9, .slice Al ls.length cl] W9 fun e W' => e = .returned (.bool true) ∧ Kp (fun _ => False) W9 W' := fun W9 h9 v9 hv9 => by
              have q := equal_calls (l2 := U) hv9 (ownsRow_kp (ownsRow_kp hrt7 hd7 fun _ _ => id) h9 fun _ _ => id) (by omega)
              simpa only [decide_true] using q
            have hEq2 : ∀ W10, Kp (fun _ => False) W7.drew W10 → Calls Try.prog 16 #[.slice Ap P.length cp, .slice Aq P.length cq] W10 fun e W' => e = .returned (.bool true) ∧ Kp (fun _ => False) W10 W' := fun W10 h10 => by
              have q := equal_calls (l1 := P) (l2 := P) (ownsRow_kp (ownsRow_kp hp7 hd7 fun _ _ => id) h10 fun _ _ => id) (ownsRow_kp (ownsRow_kp hq7.row hd7 fun _ _ => id) h10 fun _ _ => id) (by omega)
              simpa only [decide_true] using q
            have hLf : ∀ W11, Kp (fun _ => False) W7.drew W11 → _ := fun W11 h => link_calls (hF8.kp h fun _ _ _ => id) a b 5 (by omega)
            have hLg : ∀ W11 W12, Kp (fun _ => False) W7.drew W11 → Kp (Two W W1 W3 W4) W11 W12 → _ := fun W11 W12 h h' => link_calls ((hG8.kp h fun _ _ _ => id).kp h' fun k _ e e' => hFG k e' e) a b 5 (by omega)
            have hmc : ls.length ≤ cl := by omega
            go_wp2_with (fail)
            refine start1 (fun _ => True) 37 #[false, false, false, false, false, false, false, false, false, false, false, false, false, false, false, false, false, false, false, false, false, false, false, false, false, false, false, false, false, false, false, false, false, false, false, false, false] (by kernel_rfl) (by kernel_rfl) ?_
            refine move1 (i := 0) (d := (some 91)) (v := _) rfl rfl (by kernel_rfl) (by rfl) (fun _ _ _ h => h) trivial (fun w => by (go_simp; try with_reducible rfl)) ?_
            simp only [Act.put, List.setIfInBounds_toArray, List.set_cons_zero, List.set_cons_succ]
            refine move1 (i := 2) (d := (some 93)) (v := _) rfl rfl (by kernel_rfl) (by rfl) (fun _ _ _ h => h) trivial (fun w => by (go_simp; try with_reducible rfl)) ?_
            simp only [Act.put, List.setIfInBounds_toArray, List.set_cons_zero, List.set_cons_succ]
            refine only1 (i := 1) (by kernel_rfl) (wpOp_c (d := some 92) rfl rfl (by rfl) (f := 21) (args := #[.pointer (some ⟨fb, 0, none⟩)]) (by go_simp; try rfl) ((hlenf).mono ?_))
            rintro e W8 ⟨rfl, hW8⟩
            subst hW8
            refine ⟨_, rfl, trivial, ?_⟩
            simp only [Act.put, List.setIfInBounds_toArray, List.set_cons_zero, List.set_cons_succ]
            refine take1 (i := 3) (d := (some 94)) (v := .bool true) rfl rfl (by kernel_rfl) (by rfl) (fun _ _ _ h => h) trivial (fun w hw => by skip; (go_simp; try simp; try rfl)) ?_
            simp only [Act.put, List.setIfInBounds_toArray, List.set_cons_zero, List.set_cons_succ]
            refine move1 (i := 4) (d := (some 95)) (v := _) rfl rfl (by kernel_rfl) (by rfl) (fun _ _ _ h => h) trivial (fun w => by (go_simp; try with_reducible rfl)) ?_
            simp only [Act.put, List.setIfInBounds_toArray, List.set_cons_zero, List.set_cons_succ]
            refine move1 (i := 5) (d := (some 96)) (v := _) rfl rfl (by kernel_rfl) (by rfl) (fun _ _ _ h => h) trivial (fun w => by (go_simp; try with_reducible rfl)) ?_
            simp only [Act.put, List.setIfInBounds_toArray, List.set_cons_zero, List.set_cons_succ]
            refine move1 (i := 7) (d := (some 98)) (v := _) rfl rfl (by kernel_rfl) (by rfl) (fun _ _ _ h => h) trivial (fun w => by (go_simp; try with_reducible rfl)) ?_
            simp only [Act.put, List.setIfInBounds_toArray, List.set_cons_zero, List.set_cons_succ]
            refine move1 (i := 8) (d := (some 99)) (v := _) rfl rfl (by kernel_rfl) (by rfl) (fun _ _ _ h => h) trivial (fun w => by (go_simp; try with_reducible rfl)) ?_
            simp only [Act.put, List.setIfInBounds_toArray, List.set_cons_zero, List.set_cons_succ]
            refine take1 (i := 9) (d := (some 100)) (v := .slice Al ls.length cl) rfl rfl (by kernel_rfl) (by rfl) (fun _ _ _ h => h) trivial (fun w hw => by skip; (go_simp; try rfl)) ?_
            simp only [Act.put, List.setIfInBounds_toArray, List.set_cons_zero, List.set_cons_succ]
            refine only1 (i := 6) (by kernel_rfl) (wpOp_c (d := some 97) rfl rfl (by rfl) (f := 22) (args := #[.pointer (some ⟨fb, 0, none⟩)]) (by go_simp; try rfl) ((hlkf).mono ?_))
            rintro e W9 ⟨vl9, rfl, hl9, hk9⟩
            obtain ⟨A9, c9, rfl⟩ := slice_of hl9.row
            have heq1 := hE1 W9 hk9 _ hl9.row
            refine ⟨_, rfl, trivial, ?_⟩
            simp only [Act.put, List.setIfInBounds_toArray, List.set_cons_zero, List.set_cons_succ]
            refine only1 (i := 10) (by kernel_rfl) (wpOp_c (d := some 101) rfl rfl (by rfl) (f := 16) (args := #[.slice A9 U.length c9, .slice Al ls.length cl]) (by go_simp; try rfl) ((heq1).mono ?_))
            rintro e W10 ⟨rfl, hk10⟩
            have hE2 := hEq2 W10 (hk9.trans hk10)
            refine ⟨_, rfl, trivial, ?_⟩
            simp only [Act.put, List.setIfInBounds_toArray, List.set_cons_zero, List.set_cons_succ]
            refine move1 (i := 11) (d := (some 102)) (v := _) rfl rfl (by kernel_rfl) (by rfl) (fun _ _ _ h => h) trivial (fun w => by (go_simp; try with_reducible rfl)) ?_
            simp only [Act.put, List.setIfInBounds_toArray, List.set_cons_zero, List.set_cons_succ]
            refine move1 (i := 12) (d := (some 103)) (v := _) rfl rfl (by kernel_rfl) (by rfl) (fun _ _ _ h => h) trivial (fun w => by (go_simp; try with_reducible rfl)) ?_
            simp only [Act.put, List.setIfInBounds_toArray, List.set_cons_zero, List.set_cons_succ]
            refine move1 (i := 13) (d := (some 104)) (v := _) rfl rfl (by kernel_rfl) (by rfl) (fun _ _ _ h => h) trivial (fun w => by (go_simp; try with_reducible rfl)) ?_
            simp only [Act.put, List.setIfInBounds_toArray, List.set_cons_zero, List.set_cons_succ]
            refine move1 (i := 14) (d := (some 105)) (v := _) rfl rfl (by kernel_rfl) (by rfl) (fun _ _ _ h => h) trivial (fun w => by (go_simp; try with_reducible rfl)) ?_
            simp only [Act.put, List.setIfInBounds_toArray, List.set_cons_zero, List.set_cons_succ]
            refine only1 (i := 15) (by kernel_rfl) (wpOp_c (d := some 106) rfl rfl (by rfl) (f := 16) (args := #[.slice Ap P.length cp, .slice Aq P.length cq]) (by go_simp; try rfl) ((hE2).mono ?_))
            rintro e W11 ⟨rfl, hk11⟩
            have hlf := hLf W11 ((hk9.trans hk10).trans hk11)
            refine ⟨_, rfl, trivial, ?_⟩
            simp only [Act.put, List.setIfInBounds_toArray, List.set_cons_zero, List.set_cons_succ]
            refine move1 (i := 16) (d := (some 107)) (v := _) rfl rfl (by kernel_rfl) (by rfl) (fun _ _ _ h => h) trivial (fun w => by (go_simp; try with_reducible rfl)) ?_
            simp only [Act.put, List.setIfInBounds_toArray, List.set_cons_zero, List.set_cons_succ]
            refine move1 (i := 17) (d := (some 108)) (v := _) rfl rfl (by kernel_rfl) (by rfl) (fun _ _ _ h => h) trivial (fun w => by (go_simp; try with_reducible rfl)) ?_
            simp only [Act.put, List.setIfInBounds_toArray, List.set_cons_zero, List.set_cons_succ]
            refine move1 (i := 18) (d := (some 109)) (v := _) rfl rfl (by kernel_rfl) (by rfl) (fun _ _ _ h => h) trivial (fun w => by (go_simp; try with_reducible rfl)) ?_
            simp only [Act.put, List.setIfInBounds_toArray, List.set_cons_zero, List.set_cons_succ]
            refine move1 (i := 19) (d := (some 110)) (v := _) rfl rfl (by kernel_rfl) (by rfl) (fun _ _ _ h => h) trivial (fun w => by (go_simp; try with_reducible rfl)) ?_
            simp only [Act.put, List.setIfInBounds_toArray, List.set_cons_zero, List.set_cons_succ]
            refine take1 (i := 20) (d := (some 111)) (v := .bool true) rfl rfl (by kernel_rfl) (by rfl) (fun _ _ _ h => h) trivial (fun w hw => by skip; (go_simp; try simp; try rfl)) ?_
            simp only [Act.put, List.setIfInBounds_toArray, List.set_cons_zero, List.set_cons_succ]
            refine move1 (i := 21) (d := (some 112)) (v := _) rfl rfl (by kernel_rfl) (by rfl) (fun _ _ _ h => h) trivial (fun w => by (go_simp; try with_reducible rfl)) ?_
            simp only [Act.put, List.setIfInBounds_toArray, List.set_cons_zero, List.set_cons_succ]
            refine move1 (i := 22) (d := (some 113)) (v := _) rfl rfl (by kernel_rfl) (by rfl) (fun _ _ _ h => h) trivial (fun w => by (go_simp; try with_reducible rfl)) ?_
            simp only [Act.put, List.setIfInBounds_toArray, List.set_cons_zero, List.set_cons_succ]
            refine move1 (i := 23) (d := (some 114)) (v := _) rfl rfl (by kernel_rfl) (by rfl) (fun _ _ _ h => h) trivial (fun w => by (go_simp; try with_reducible rfl)) ?_
            simp only [Act.put, List.setIfInBounds_toArray, List.set_cons_zero, List.set_cons_succ]
            refine move1 (i := 24) (d := (some 115)) (v := _) rfl rfl (by kernel_rfl) (by rfl) (fun _ _ _ h => h) trivial (fun w => by (go_simp; try with_reducible rfl)) ?_
            simp only [Act.put, List.setIfInBounds_toArray, List.set_cons_zero, List.set_cons_succ]
            refine move1 (i := 25) (d := (some 116)) (v := _) rfl rfl (by kernel_rfl) (by rfl) (fun _ _ _ h => h) trivial (fun w => by (go_simp; try with_reducible rfl)) ?_
            simp only [Act.put, List.setIfInBounds_toArray, List.set_cons_zero, List.set_cons_succ]
            refine move1 (i := 27) (d := (some 118)) (v := _) rfl rfl (by kernel_rfl) (by rfl) (fun _ _ _ h => h) trivial (fun w => by (go_simp; try with_reducible rfl)) ?_
            simp only [Act.put, List.setIfInBounds_toArray, List.set_cons_zero, List.set_cons_succ]
            refine move1 (i := 28) (d := (some 119)) (v := _) rfl rfl (by kernel_rfl) (by rfl) (fun _ _ _ h => h) trivial (fun w => by (go_simp; try with_reducible rfl)) ?_
            simp only [Act.put, List.setIfInBounds_toArray, List.set_cons_zero, List.set_cons_succ]
            refine move1 (i := 29) (d := (some 120)) (v := _) rfl rfl (by kernel_rfl) (by rfl) (fun _ _ _ h => h) trivial (fun w => by (go_simp; try with_reducible rfl)) ?_
            simp only [Act.put, List.setIfInBounds_toArray, List.set_cons_zero, List.set_cons_succ]
            refine only1 (i := 26) (by kernel_rfl) (wpOp_c (d := some 117) rfl rfl (by rfl) (f := 15) (args := #[.pointer (some ⟨fb, 0, none⟩), .int .i64 a, .int .i64 b, .int .i64 5]) (by go_simp; try rfl) ((hlf).mono ?_))
            rintro e W12 ⟨rfl, hR12, hk12⟩
            have hlg := hLg W11 W12 ((hk9.trans hk10).trans hk11) hk12
            refine ⟨_, rfl, trivial, ?_⟩
            simp only [Act.put, List.setIfInBounds_toArray, List.set_cons_zero, List.set_cons_succ]
            refine only1 (i := 30) (by kernel_rfl) (wpOp_c (d := some 121) rfl rfl (by rfl) (f := 15) (args := #[.pointer (some ⟨gb, 0, none⟩), .int .i64 a, .int .i64 b, .int .i64 5]) (by go_simp; try rfl) ((hlg).mono ?_))
            rintro e W13 ⟨rfl, hR13, hk13⟩
            have hlive := live_calls W13
            refine ⟨_, rfl, trivial, ?_⟩
            simp only [Act.put, List.setIfInBounds_toArray, List.set_cons_zero, List.set_cons_succ]
            refine take1 (i := 31) (d := (some 122)) (v := .bool true) rfl rfl (by kernel_rfl) (by rfl) (fun _ _ _ h => h) trivial (fun w hw => by skip; (go_simp; try simp; try rfl)) ?_
            simp only [Act.put, List.setIfInBounds_toArray, List.set_cons_zero, List.set_cons_succ]
            refine move1 (i := 32) (d := (some 123)) (v := _) rfl rfl (by kernel_rfl) (by rfl) (fun _ _ _ h => h) trivial (fun w => by (go_simp; try with_reducible rfl)) ?_
            simp only [Act.put, List.setIfInBounds_toArray, List.set_cons_zero, List.set_cons_succ]
            refine move1 (i := 33) (d := (some 124)) (v := _) rfl rfl (by kernel_rfl) (by rfl) (fun _ _ _ h => h) trivial (fun w => by (go_simp; try with_reducible rfl)) ?_
            simp only [Act.put, List.setIfInBounds_toArray, List.set_cons_zero, List.set_cons_succ]
            refine only1 (i := 34) (by kernel_rfl) (wpOp_c (d := some 125) rfl rfl (by rfl) (f := 11) (args := #[]) (by go_simp; try rfl) ((hlive).mono ?_))
            rintro e W14 ⟨rfl, hk14⟩
            refine ⟨_, rfl, trivial, ?_⟩
            simp only [Act.put, List.setIfInBounds_toArray, List.set_cons_zero, List.set_cons_succ]
            refine move1 (i := 35) (d := (some 126)) (v := _) rfl rfl (by kernel_rfl) (by rfl) (fun _ _ _ h => h) trivial (fun w => by (go_simp; try with_reducible rfl)) ?_
            simp only [Act.put, List.setIfInBounds_toArray, List.set_cons_zero, List.set_cons_succ]
            refine move1 (i := 36) (d := (some 8)) (v := _) rfl rfl (by kernel_rfl) (by rfl) (fun _ _ _ h => h) trivial (fun w => by (go_simp; try with_reducible rfl)) ?_
            simp only [Act.put, List.setIfInBounds_toArray, List.set_cons_zero, List.set_cons_succ]
            refine wpAnyL_done (by kernel_rfl) ?_ _
            go_wp2_with (fail)
            exact ⟨rfl, .bool true, by simp [results, Try.results8, go_sem], rfl, undoes_kp hk5 hFW hGW hk6 hk7 (hd7.trans ((hk9.trans hk10).trans hk11)) hk12 hk13 hk14⟩
      · have hgt : (ls.length : Int) < n := q1.resolve_left (by omega)
        obtain ⟨nn, rfl⟩ : ∃ nn : Nat, n = (nn : Int) := ⟨n.toNat, by omega⟩
        have hgn : ls.length < nn := by omega
        have d1 : decide (ls.length < nn) = true := decide_eq_true hgn
        have d2 : decide (nn ≤ ls.length) = false := decide_eq_false (by omega)
        go_wp2_with (first
          | ((with_reducible refine hun2.mono ?_); rintro e W4 ⟨rfl, hR4, hk4⟩)
          | fail)
        have hU0 : (ls.take ls.length).length = ls.length := by rw [List.length_take]; omega
        have hR4' : Rep (Two W W1 W3 W4) (ls.take ls.length) fb W4 := hR4.mono fun k hl h => h.imp id fun h => ⟨h, hl⟩
        have hs4 := hk4.size
        have hG4 : Rep (fun k => Laid W1 W2 k ∨ W4.heap.size ≤ k) [] gb W4 := (hG3.kp hk4 fun k _ h e => by have := h.1; have := e.2; omega).mono fun k _ h => .inl h
        have hl4 := ownsRow_kp hl3.row hk4 fun g hg e => by have := hl3.new g hg; have := e.2; omega
        have hlb : ∀ (n' g : Nat), (Value.slice Al n' cl).ownBlock = some g → W2.heap.size ≤ g ∧ g < W3.heap.size := fun n' g hg0 => have hg : (Value.slice Al ls.length cl).ownBlock = some g := (by cases Al <;> exact hg0); ⟨hl3.new g hg, by obtain ⟨cur, hc⟩ := ownsRow_lt hl3.row hg; exact (Array.getElem?_eq_some_iff.1 hc).1⟩
        have hk4W : Kp (fun _ => False) W W4 := laid_kp hk3 hk4
        have hcl := row_cap hl3.row
        go_loopw [12] (fun v12 wr => ∃ j : Nat, v12 = .int .i64 (j : Int) ∧ j ≤ ls.length ∧ Rep (fun k => Laid W1 W2 k ∨ W4.heap.size ≤ k) (ls.take j) gb wr ∧ Kp (Laid W1 W2) W4 wr) (fun v12 wr => ls.length - (intOf v12).toNat)
        case atStart => exact ⟨0, rfl, Nat.zero_le _, hG4, Kp.refl _ _⟩
        case round =>
          obtain ⟨j, rfl, hj, hRj, hKj⟩ := hrel
          have hl5 := ownsRow_kp hl4 hKj fun g hg e => by have := (hlb _ g hg).1; have := e.2; omega
          by_cases hjn : j < ls.length
          · obtain ⟨l, hlj⟩ : ∃ l, ls[j]? = some l := ⟨_, List.getElem?_eq_getElem (by omega)⟩
            obtain ⟨gl, rfl, a0, a1, a2⟩ := link_cells hl5 hlj
            have hlink := link_calls (hRj.kp (S := fun _ => False) (Kp.drew wr) fun _ _ _ => id) l.1 l.2.1 l.2.2 (by rw [List.length_take]; omega)
            have hlt : ls.take (j + 1) = ls.take j ++ [(l.1, l.2.1, l.2.2)] := by rw [List.take_add_one, hlj]; rfl
            rw [linkB_next hf hnn hlj, if_pos rfl, ← hlt] at hlink
            have a0' : wr.drew.cell? ⟨gl, j * 3, none⟩ = some (.int .i64 l.1) := a0
            have a1' : wr.drew.cell? ⟨gl, j * 3 + 1, none⟩ = some (.int .i64 l.2.1) := a1
            have a2' : wr.drew.cell? ⟨gl, j * 3 + 2, none⟩ = some (.int .i64 l.2.2) := a2
            have hjn2 : (j : Int) < (ls.length : Int) := by omega
            obtain ⟨x1, x2⟩ := hlb ls.length gl rfl
            have hs8 := hKj.size
            have hS8 : ∀ W8, Kp (fun k => Laid W1 W2 k ∨ W4.heap.size ≤ k) wr.drew W8 → W8.cell? ⟨gl, j * 3, none⟩ = some (.int .i64 l.1) ∧ W8.cell? ⟨gl, j * 3 + 1, none⟩ = some (.int .i64 l.2.1) ∧ W8.cell? ⟨gl, j * 3 + 2, none⟩ = some (.int .i64 l.2.2) := fun W8 hk => by
              have e : ∀ o, W8.cell? ⟨gl, o, none⟩ = wr.cell? ⟨gl, o, none⟩ := fun o => cell_of_block (hk.block gl (show gl < wr.heap.size by omega) (fun e => e.elim (fun e => by have := e.2; omega) (fun e => by omega)))
              exact ⟨(e _).trans a0, (e _).trans a1, (e _).trans a2⟩
            go_wp2_with (fail)
            refine start1 (fun w => w.cell? ⟨gl, j * 3, none⟩ = some (.int .i64 l.1) ∧ w.cell? ⟨gl, j * 3 + 1, none⟩ = some (.int .i64 l.2.1) ∧ w.cell? ⟨gl, j * 3 + 2, none⟩ = some (.int .i64 l.2.2)) 18 #[false, false, false, false, false, false, false, false, false, false, false, false, false, false, false, false, false, false] (by kernel_rfl) (by kernel_rfl) ?_
            refine move1 (i := 0) (d := (some 59)) (v := _) rfl rfl (by kernel_rfl) (by rfl) (fun _ _ _ h => h) ⟨a0', a1', a2'⟩ (fun w => by (go_simp; try with_reducible rfl)) ?_
            simp only [Act.put, List.setIfInBounds_toArray, List.set_cons_zero, List.set_cons_succ]
            refine move1 (i := 1) (d := (some 60)) (v := _) rfl rfl (by kernel_rfl) (by rfl) (fun _ _ _ h => h) ⟨a0', a1', a2'⟩ (fun w => by (go_simp; try with_reducible rfl)) ?_
            simp only [Act.put, List.setIfInBounds_toArray, List.set_cons_zero, List.set_cons_succ]
            refine move1 (i := 2) (d := (some 61)) (v := _) rfl rfl (by kernel_rfl) (by rfl) (fun _ _ _ h => h) ⟨a0', a1', a2'⟩ (fun w => by (go_simp; try with_reducible rfl)) ?_
            simp only [Act.put, List.setIfInBounds_toArray, List.set_cons_zero, List.set_cons_succ]
            refine move1 (i := 3) (d := (some 62)) (v := _) rfl rfl (by kernel_rfl) (by rfl) (fun _ _ _ h => h) ⟨a0', a1', a2'⟩ (fun w => by (go_simp; try with_reducible rfl)) ?_
            simp only [Act.put, List.setIfInBounds_toArray, List.set_cons_zero, List.set_cons_succ]
            refine move1 (i := 4) (d := (some 63)) (v := _) rfl rfl (by kernel_rfl) (by rfl) (fun _ _ _ h => h) ⟨a0', a1', a2'⟩ (fun w => by (go_simp; try with_reducible rfl)) ?_
            simp only [Act.put, List.setIfInBounds_toArray, List.set_cons_zero, List.set_cons_succ]
            refine take1 (i := 5) (d := (some 64)) (v := _) rfl rfl (by kernel_rfl) (by rfl) (fun _ _ _ h => h) ⟨a0', a1', a2'⟩ (fun w hw => by obtain ⟨a0, a1, a2⟩ := hw; (go_simp; try with_reducible rfl)) ?_
            simp only [Act.put, List.setIfInBounds_toArray, List.set_cons_zero, List.set_cons_succ]
            refine move1 (i := 6) (d := (some 65)) (v := _) rfl rfl (by kernel_rfl) (by rfl) (fun _ _ _ h => h) ⟨a0', a1', a2'⟩ (fun w => by (go_simp; try with_reducible rfl)) ?_
            simp only [Act.put, List.setIfInBounds_toArray, List.set_cons_zero, List.set_cons_succ]
            refine move1 (i := 7) (d := (some 66)) (v := _) rfl rfl (by kernel_rfl) (by rfl) (fun _ _ _ h => h) ⟨a0', a1', a2'⟩ (fun w => by (go_simp; try with_reducible rfl)) ?_
            simp only [Act.put, List.setIfInBounds_toArray, List.set_cons_zero, List.set_cons_succ]
            refine move1 (i := 8) (d := (some 67)) (v := _) rfl rfl (by kernel_rfl) (by rfl) (fun _ _ _ h => h) ⟨a0', a1', a2'⟩ (fun w => by (go_simp; try with_reducible rfl)) ?_
            simp only [Act.put, List.setIfInBounds_toArray, List.set_cons_zero, List.set_cons_succ]
            refine move1 (i := 9) (d := (some 68)) (v := _) rfl rfl (by kernel_rfl) (by rfl) (fun _ _ _ h => h) ⟨a0', a1', a2'⟩ (fun w => by (go_simp; try with_reducible rfl)) ?_
            simp only [Act.put, List.setIfInBounds_toArray, List.set_cons_zero, List.set_cons_succ]
            refine take1 (i := 10) (d := (some 69)) (v := _) rfl rfl (by kernel_rfl) (by rfl) (fun _ _ _ h => h) ⟨a0', a1', a2'⟩ (fun w hw => by obtain ⟨a0, a1, a2⟩ := hw; (go_simp; try with_reducible rfl)) ?_
            simp only [Act.put, List.setIfInBounds_toArray, List.set_cons_zero, List.set_cons_succ]
            refine move1 (i := 11) (d := (some 70)) (v := _) rfl rfl (by kernel_rfl) (by rfl) (fun _ _ _ h => h) ⟨a0', a1', a2'⟩ (fun w => by (go_simp; try with_reducible rfl)) ?_
            simp only [Act.put, List.setIfInBounds_toArray, List.set_cons_zero, List.set_cons_succ]
            refine move1 (i := 12) (d := (some 71)) (v := _) rfl rfl (by kernel_rfl) (by rfl) (fun _ _ _ h => h) ⟨a0', a1', a2'⟩ (fun w => by (go_simp; try with_reducible rfl)) ?_
            simp only [Act.put, List.setIfInBounds_toArray, List.set_cons_zero, List.set_cons_succ]
            refine move1 (i := 13) (d := (some 72)) (v := _) rfl rfl (by kernel_rfl) (by rfl) (fun _ _ _ h => h) ⟨a0', a1', a2'⟩ (fun w => by (go_simp; try with_reducible rfl)) ?_
            simp only [Act.put, List.setIfInBounds_toArray, List.set_cons_zero, List.set_cons_succ]
            refine move1 (i := 14) (d := (some 73)) (v := _) rfl rfl (by kernel_rfl) (by rfl) (fun _ _ _ h => h) ⟨a0', a1', a2'⟩ (fun w => by (go_simp; try with_reducible rfl)) ?_
            simp only [Act.put, List.setIfInBounds_toArray, List.set_cons_zero, List.set_cons_succ]
            refine take1 (i := 15) (d := (some 74)) (v := _) rfl rfl (by kernel_rfl) (by rfl) (fun _ _ _ h => h) ⟨a0', a1', a2'⟩ (fun w hw => by obtain ⟨a0, a1, a2⟩ := hw; (go_simp; try with_reducible rfl)) ?_
            simp only [Act.put, List.setIfInBounds_toArray, List.set_cons_zero, List.set_cons_succ]
            refine only1 (i := 16) (by kernel_rfl) (wpOp_c (d := some 75) rfl rfl (by rfl) (f := 15) (args := #[.pointer (some ⟨gb, 0, none⟩), .int .i64 l.1, .int .i64 l.2.1, .int .i64 l.2.2]) (by go_simp; try rfl) (hlink.mono ?_))
            rintro e W8 ⟨rfl, hR8, hk8⟩
            refine ⟨_, rfl, hS8 W8 hk8, ?_⟩
            simp only [Act.put, List.setIfInBounds_toArray, List.set_cons_zero, List.set_cons_succ]
            refine only1 (i := 17) (by kernel_rfl) (wpOp_v (d := some 76) rfl rfl (by rfl) (v := .bool false) (w' := W8) (by go_simp; try rfl) ⟨hS8 W8 hk8, ?_⟩)
            simp only [Act.put, List.setIfInBounds_toArray, List.set_cons_zero, List.set_cons_succ]
            refine wpAnyL_done (by kernel_rfl) ?_ _
            have hR9 : Rep (fun k => Laid W1 W2 k ∨ W4.heap.size ≤ k) (ls.take (j + 1)) gb W8 := hR8.mono fun k _ h => h.elim id fun h => .inr (Nat.le_trans hKj.size h)
            have hK9 : Kp (Laid W1 W2) W4 W8 := mid_kp2 hKj ((Kp.drew wr).trans hk8)
            go_wp2_with (fail)
            go_roundw
            case rel => exact ⟨j + 1, by go_num, hjn, hR9, hK9⟩
            case measure => simp only [intOf]; omega
          · have hje : j = ls.length := by omega
            subst hje
            obtain ⟨U, hU⟩ : ∃ U, ls.take ls.length = U := ⟨_, rfl⟩
            have hrt0 := row_take hl5 (m := ls.length) (by omega)
            rw [hU] at hRj hR4' hU0 hrt0
            have hs5 := hKj.size
            have hF5 : Rep (Two W W1 W3 W4) U fb wr := hR4'.kp hKj fun k _ h e => by have := e.1; have := e.2; rcases h with h | h <;> (have := h.1; have := h.2; omega)
            have hG5 : Rep (Two W1 W2 W4 wr) U gb wr := hRj.mono fun k hl h => h.imp id fun h => ⟨h, hl⟩
            have hfU := rep_for hF5
            have hk5 : Kp (fun _ => False) W wr := from_kp hk4W (hKj.imp fun k _ h => by have := h.1; exact (by omega : W.heap.size ≤ k))
            have hFW : ∀ k, Two W W1 W3 W4 k → W.heap.size ≤ k := fun k h => by rcases h with h | h <;> (have := h.1; omega)
            have hGW : ∀ k, Two W1 W2 W4 wr k → W.heap.size ≤ k := fun k h => by rcases h with h | h <;> (have := h.1; omega)
            have hFG : ∀ k, Two W W1 W3 W4 k → ¬ Two W1 W2 W4 wr k := fun k h e => by
              rcases h with h | h <;> rcases e with e | e <;> (have := h.1; have := h.2; have := e.1; have := e.2; omega)
            have hql := pathQ_len hfU a b
            obtain ⟨P, hP⟩ : ∃ P, (pathQ U a b).getD [] = P := ⟨_, rfl⟩
            have hp := path_calls hF5 a b
            rw [hP] at hp hql
            go_wp2_with (first
              | ((with_reducible refine hp.mono ?_); rintro e W6 ⟨vp, rfl, hp6, hF6, hk6⟩; have hG6 := hG5.kp hk6 (fun k _ h e => hFG k e h); have hq := path_calls hG6 a b; rw [hP] at hq; obtain ⟨Ap, cp, rfl⟩ := slice_of hp6.row)
              | ((with_reducible refine hq.mono ?_); rintro e W7 ⟨vq, rfl, hq7, hG7, hk7⟩; obtain ⟨Aq, cq, rfl⟩ := slice_of hq7.row)
              | fail)
            have hs6 := hk6.size
            have hF7 := hF6.kp hk7 fun k _ h => hFG k h
            have hp7 := ownsRow_kp hp6.row hk7 fun g hg e => by have := hp6.new g hg; rcases e with e | e <;> (have := e.2; omega)
            have hrt7 := ownsRow_kp (ownsRow_kp hrt0 hk6 fun g hg e => by
              obtain ⟨x1, x2⟩ := hlb _ g hg
              rcases e with e | e <;> (have := e.1; have := e.2; omega)) hk7 fun g hg e => by
              obtain ⟨x1, x2⟩ := hlb _ g hg
              rcases e with e | e <;> (have := e.1; have := e.2; omega)
            have hd7 : Kp (fun _ => False) W7 W7.drew := Kp.drew _
            have hF8 := hF7.kp hd7 fun _ _ _ => id
            have hG8 := hG7.kp hd7 fun _ _ _ => id
            have hlenf := len_calls hF8
            have hUl : U.length = ls.length := hU0
            rw [hUl] at hlenf
            have hlkf := links_calls hF8
            have hE1 : ∀ W9, Kp (fun _ => False) W7.drew W9 → ∀ v9, Rw W9 v9 U → Calls Try.prog 16 #[v9, .slice Al ls.length cl] W9 fun e W' => e = .returned (.bool true) ∧ Kp (fun _ => False) W9 W' := fun W9 h9 v9 hv9 => by
              have q := equal_calls (l2 := U) hv9 (ownsRow_kp (ownsRow_kp hrt7 hd7 fun _ _ => id) h9 fun _ _ => id) (by omega)
              simpa only [decide_true] using q
            have hEq2 : ∀ W10, Kp (fun _ => False) W7.drew W10 → Calls Try.prog 16 #[.slice Ap P.length cp, .slice Aq P.length cq] W10 fun e W' => e = .returned (.bool true) ∧ Kp (fun _ => False) W10 W' := fun W10 h10 => by
              have q := equal_calls (l1 := P) (l2 := P) (ownsRow_kp (ownsRow_kp hp7 hd7 fun _ _ => id) h10 fun _ _ => id) (ownsRow_kp (ownsRow_kp hq7.row hd7 fun _ _ => id) h10 fun _ _ => id) (by omega)
              simpa only [decide_true] using q
            have hLf : ∀ W11, Kp (fun _ => False) W7.drew W11 → _ := fun W11 h => link_calls (hF8.kp h fun _ _ _ => id) a b 5 (by omega)
            have hLg : ∀ W11 W12, Kp (fun _ => False) W7.drew W11 → Kp (Two W W1 W3 W4) W11 W12 → _ := fun W11 W12 h h' => link_calls ((hG8.kp h fun _ _ _ => id).kp h' fun k _ e e' => hFG k e' e) a b 5 (by omega)
            have hmc : ls.length ≤ cl := by omega
            go_wp2_with (fail)
            refine start1 (fun _ => True) 37 #[false, false, false, false, false, false, false, false, false, false, false, false, false, false, false, false, false, false, false, false, false, false, false, false, false, false, false, false, false, false, false, false, false, false, false, false, false] (by kernel_rfl) (by kernel_rfl) ?_
            refine move1 (i := 0) (d := (some 91)) (v := _) rfl rfl (by kernel_rfl) (by rfl) (fun _ _ _ h => h) trivial (fun w => by (go_simp; try with_reducible rfl)) ?_
            simp only [Act.put, List.setIfInBounds_toArray, List.set_cons_zero, List.set_cons_succ]
            refine move1 (i := 2) (d := (some 93)) (v := _) rfl rfl (by kernel_rfl) (by rfl) (fun _ _ _ h => h) trivial (fun w => by (go_simp; try with_reducible rfl)) ?_
            simp only [Act.put, List.setIfInBounds_toArray, List.set_cons_zero, List.set_cons_succ]
            refine only1 (i := 1) (by kernel_rfl) (wpOp_c (d := some 92) rfl rfl (by rfl) (f := 21) (args := #[.pointer (some ⟨fb, 0, none⟩)]) (by go_simp; try rfl) ((hlenf).mono ?_))
            rintro e W8 ⟨rfl, hW8⟩
            subst hW8
            refine ⟨_, rfl, trivial, ?_⟩
            simp only [Act.put, List.setIfInBounds_toArray, List.set_cons_zero, List.set_cons_succ]
            refine take1 (i := 3) (d := (some 94)) (v := .bool true) rfl rfl (by kernel_rfl) (by rfl) (fun _ _ _ h => h) trivial (fun w hw => by skip; (go_simp; try simp; try rfl)) ?_
            simp only [Act.put, List.setIfInBounds_toArray, List.set_cons_zero, List.set_cons_succ]
            refine move1 (i := 4) (d := (some 95)) (v := _) rfl rfl (by kernel_rfl) (by rfl) (fun _ _ _ h => h) trivial (fun w => by (go_simp; try with_reducible rfl)) ?_
            simp only [Act.put, List.setIfInBounds_toArray, List.set_cons_zero, List.set_cons_succ]
            refine move1 (i := 5) (d := (some 96)) (v := _) rfl rfl (by kernel_rfl) (by rfl) (fun _ _ _ h => h) trivial (fun w => by (go_simp; try with_reducible rfl)) ?_
            simp only [Act.put, List.setIfInBounds_toArray, List.set_cons_zero, List.set_cons_succ]
            refine move1 (i := 7) (d := (some 98)) (v := _) rfl rfl (by kernel_rfl) (by rfl) (fun _ _ _ h => h) trivial (fun w => by (go_simp; try with_reducible rfl)) ?_
            simp only [Act.put, List.setIfInBounds_toArray, List.set_cons_zero, List.set_cons_succ]
            refine move1 (i := 8) (d := (some 99)) (v := _) rfl rfl (by kernel_rfl) (by rfl) (fun _ _ _ h => h) trivial (fun w => by (go_simp; try with_reducible rfl)) ?_
            simp only [Act.put, List.setIfInBounds_toArray, List.set_cons_zero, List.set_cons_succ]
            refine take1 (i := 9) (d := (some 100)) (v := .slice Al ls.length cl) rfl rfl (by kernel_rfl) (by rfl) (fun _ _ _ h => h) trivial (fun w hw => by skip; (go_simp; try rfl)) ?_
            simp only [Act.put, List.setIfInBounds_toArray, List.set_cons_zero, List.set_cons_succ]
            refine only1 (i := 6) (by kernel_rfl) (wpOp_c (d := some 97) rfl rfl (by rfl) (f := 22) (args := #[.pointer (some ⟨fb, 0, none⟩)]) (by go_simp; try rfl) ((hlkf).mono ?_))
            rintro e W9 ⟨vl9, rfl, hl9, hk9⟩
            obtain ⟨A9, c9, rfl⟩ := slice_of hl9.row
            have heq1 := hE1 W9 hk9 _ hl9.row
            refine ⟨_, rfl, trivial, ?_⟩
            simp only [Act.put, List.setIfInBounds_toArray, List.set_cons_zero, List.set_cons_succ]
            refine only1 (i := 10) (by kernel_rfl) (wpOp_c (d := some 101) rfl rfl (by rfl) (f := 16) (args := #[.slice A9 U.length c9, .slice Al ls.length cl]) (by go_simp; try rfl) ((heq1).mono ?_))
            rintro e W10 ⟨rfl, hk10⟩
            have hE2 := hEq2 W10 (hk9.trans hk10)
            refine ⟨_, rfl, trivial, ?_⟩
            simp only [Act.put, List.setIfInBounds_toArray, List.set_cons_zero, List.set_cons_succ]
            refine move1 (i := 11) (d := (some 102)) (v := _) rfl rfl (by kernel_rfl) (by rfl) (fun _ _ _ h => h) trivial (fun w => by (go_simp; try with_reducible rfl)) ?_
            simp only [Act.put, List.setIfInBounds_toArray, List.set_cons_zero, List.set_cons_succ]
            refine move1 (i := 12) (d := (some 103)) (v := _) rfl rfl (by kernel_rfl) (by rfl) (fun _ _ _ h => h) trivial (fun w => by (go_simp; try with_reducible rfl)) ?_
            simp only [Act.put, List.setIfInBounds_toArray, List.set_cons_zero, List.set_cons_succ]
            refine move1 (i := 13) (d := (some 104)) (v := _) rfl rfl (by kernel_rfl) (by rfl) (fun _ _ _ h => h) trivial (fun w => by (go_simp; try with_reducible rfl)) ?_
            simp only [Act.put, List.setIfInBounds_toArray, List.set_cons_zero, List.set_cons_succ]
            refine move1 (i := 14) (d := (some 105)) (v := _) rfl rfl (by kernel_rfl) (by rfl) (fun _ _ _ h => h) trivial (fun w => by (go_simp; try with_reducible rfl)) ?_
            simp only [Act.put, List.setIfInBounds_toArray, List.set_cons_zero, List.set_cons_succ]
            refine only1 (i := 15) (by kernel_rfl) (wpOp_c (d := some 106) rfl rfl (by rfl) (f := 16) (args := #[.slice Ap P.length cp, .slice Aq P.length cq]) (by go_simp; try rfl) ((hE2).mono ?_))
            rintro e W11 ⟨rfl, hk11⟩
            have hlf := hLf W11 ((hk9.trans hk10).trans hk11)
            refine ⟨_, rfl, trivial, ?_⟩
            simp only [Act.put, List.setIfInBounds_toArray, List.set_cons_zero, List.set_cons_succ]
            refine move1 (i := 16) (d := (some 107)) (v := _) rfl rfl (by kernel_rfl) (by rfl) (fun _ _ _ h => h) trivial (fun w => by (go_simp; try with_reducible rfl)) ?_
            simp only [Act.put, List.setIfInBounds_toArray, List.set_cons_zero, List.set_cons_succ]
            refine move1 (i := 17) (d := (some 108)) (v := _) rfl rfl (by kernel_rfl) (by rfl) (fun _ _ _ h => h) trivial (fun w => by (go_simp; try with_reducible rfl)) ?_
            simp only [Act.put, List.setIfInBounds_toArray, List.set_cons_zero, List.set_cons_succ]
            refine move1 (i := 18) (d := (some 109)) (v := _) rfl rfl (by kernel_rfl) (by rfl) (fun _ _ _ h => h) trivial (fun w => by (go_simp; try with_reducible rfl)) ?_
            simp only [Act.put, List.setIfInBounds_toArray, List.set_cons_zero, List.set_cons_succ]
            refine move1 (i := 19) (d := (some 110)) (v := _) rfl rfl (by kernel_rfl) (by rfl) (fun _ _ _ h => h) trivial (fun w => by (go_simp; try with_reducible rfl)) ?_
            simp only [Act.put, List.setIfInBounds_toArray, List.set_cons_zero, List.set_cons_succ]
            refine take1 (i := 20) (d := (some 111)) (v := .bool true) rfl rfl (by kernel_rfl) (by rfl) (fun _ _ _ h => h) trivial (fun w hw => by skip; (go_simp; try simp; try rfl)) ?_
            simp only [Act.put, List.setIfInBounds_toArray, List.set_cons_zero, List.set_cons_succ]
            refine move1 (i := 21) (d := (some 112)) (v := _) rfl rfl (by kernel_rfl) (by rfl) (fun _ _ _ h => h) trivial (fun w => by (go_simp; try with_reducible rfl)) ?_
            simp only [Act.put, List.setIfInBounds_toArray, List.set_cons_zero, List.set_cons_succ]
            refine move1 (i := 22) (d := (some 113)) (v := _) rfl rfl (by kernel_rfl) (by rfl) (fun _ _ _ h => h) trivial (fun w => by (go_simp; try with_reducible rfl)) ?_
            simp only [Act.put, List.setIfInBounds_toArray, List.set_cons_zero, List.set_cons_succ]
            refine move1 (i := 23) (d := (some 114)) (v := _) rfl rfl (by kernel_rfl) (by rfl) (fun _ _ _ h => h) trivial (fun w => by (go_simp; try with_reducible rfl)) ?_
            simp only [Act.put, List.setIfInBounds_toArray, List.set_cons_zero, List.set_cons_succ]
            refine move1 (i := 24) (d := (some 115)) (v := _) rfl rfl (by kernel_rfl) (by rfl) (fun _ _ _ h => h) trivial (fun w => by (go_simp; try with_reducible rfl)) ?_
            simp only [Act.put, List.setIfInBounds_toArray, List.set_cons_zero, List.set_cons_succ]
            refine move1 (i := 25) (d := (some 116)) (v := _) rfl rfl (by kernel_rfl) (by rfl) (fun _ _ _ h => h) trivial (fun w => by (go_simp; try with_reducible rfl)) ?_
            simp only [Act.put, List.setIfInBounds_toArray, List.set_cons_zero, List.set_cons_succ]
            refine move1 (i := 27) (d := (some 118)) (v := _) rfl rfl (by kernel_rfl) (by rfl) (fun _ _ _ h => h) trivial (fun w => by (go_simp; try with_reducible rfl)) ?_
            simp only [Act.put, List.setIfInBounds_toArray, List.set_cons_zero, List.set_cons_succ]
            refine move1 (i := 28) (d := (some 119)) (v := _) rfl rfl (by kernel_rfl) (by rfl) (fun _ _ _ h => h) trivial (fun w => by (go_simp; try with_reducible rfl)) ?_
            simp only [Act.put, List.setIfInBounds_toArray, List.set_cons_zero, List.set_cons_succ]
            refine move1 (i := 29) (d := (some 120)) (v := _) rfl rfl (by kernel_rfl) (by rfl) (fun _ _ _ h => h) trivial (fun w => by (go_simp; try with_reducible rfl)) ?_
            simp only [Act.put, List.setIfInBounds_toArray, List.set_cons_zero, List.set_cons_succ]
            refine only1 (i := 26) (by kernel_rfl) (wpOp_c (d := some 117) rfl rfl (by rfl) (f := 15) (args := #[.pointer (some ⟨fb, 0, none⟩), .int .i64 a, .int .i64 b, .int .i64 5]) (by go_simp; try rfl) ((hlf).mono ?_))
            rintro e W12 ⟨rfl, hR12, hk12⟩
            have hlg := hLg W11 W12 ((hk9.trans hk10).trans hk11) hk12
            refine ⟨_, rfl, trivial, ?_⟩
            simp only [Act.put, List.setIfInBounds_toArray, List.set_cons_zero, List.set_cons_succ]
            refine only1 (i := 30) (by kernel_rfl) (wpOp_c (d := some 121) rfl rfl (by rfl) (f := 15) (args := #[.pointer (some ⟨gb, 0, none⟩), .int .i64 a, .int .i64 b, .int .i64 5]) (by go_simp; try rfl) ((hlg).mono ?_))
            rintro e W13 ⟨rfl, hR13, hk13⟩
            have hlive := live_calls W13
            refine ⟨_, rfl, trivial, ?_⟩
            simp only [Act.put, List.setIfInBounds_toArray, List.set_cons_zero, List.set_cons_succ]
            refine take1 (i := 31) (d := (some 122)) (v := .bool true) rfl rfl (by kernel_rfl) (by rfl) (fun _ _ _ h => h) trivial (fun w hw => by skip; (go_simp; try simp; try rfl)) ?_
            simp only [Act.put, List.setIfInBounds_toArray, List.set_cons_zero, List.set_cons_succ]
            refine move1 (i := 32) (d := (some 123)) (v := _) rfl rfl (by kernel_rfl) (by rfl) (fun _ _ _ h => h) trivial (fun w => by (go_simp; try with_reducible rfl)) ?_
            simp only [Act.put, List.setIfInBounds_toArray, List.set_cons_zero, List.set_cons_succ]
            refine move1 (i := 33) (d := (some 124)) (v := _) rfl rfl (by kernel_rfl) (by rfl) (fun _ _ _ h => h) trivial (fun w => by (go_simp; try with_reducible rfl)) ?_
            simp only [Act.put, List.setIfInBounds_toArray, List.set_cons_zero, List.set_cons_succ]
            refine only1 (i := 34) (by kernel_rfl) (wpOp_c (d := some 125) rfl rfl (by rfl) (f := 11) (args := #[]) (by go_simp; try rfl) ((hlive).mono ?_))
            rintro e W14 ⟨rfl, hk14⟩
            refine ⟨_, rfl, trivial, ?_⟩
            simp only [Act.put, List.setIfInBounds_toArray, List.set_cons_zero, List.set_cons_succ]
            refine move1 (i := 35) (d := (some 126)) (v := _) rfl rfl (by kernel_rfl) (by rfl) (fun _ _ _ h => h) trivial (fun w => by (go_simp; try with_reducible rfl)) ?_
            simp only [Act.put, List.setIfInBounds_toArray, List.set_cons_zero, List.set_cons_succ]
            refine move1 (i := 36) (d := (some 8)) (v := _) rfl rfl (by kernel_rfl) (by rfl) (fun _ _ _ h => h) trivial (fun w => by (go_simp; try with_reducible rfl)) ?_
            simp only [Act.put, List.setIfInBounds_toArray, List.set_cons_zero, List.set_cons_succ]
            refine wpAnyL_done (by kernel_rfl) ?_ _
            go_wp2_with (fail)
            exact ⟨rfl, .bool true, by simp [results, Try.results8, go_sem], rfl, undoes_kp hk5 hFW hGW hk6 hk7 (hd7.trans ((hk9.trans hk10).trans hk11)) hk12 hk13 hk14⟩
end Go.Proofs.Ytmkhglpfhnocaaa.Fn
