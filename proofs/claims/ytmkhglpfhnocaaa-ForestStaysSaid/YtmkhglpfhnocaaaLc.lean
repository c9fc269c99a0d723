import Derived.Test.YtmkhglpfhnocaaaLa
namespace Go.Proofs.Ytmkhglpfhnocaaa.Fn
open Go Go.RowKit Go.MapKept Go.Proofs Forest17
set_option linter.unusedVariables false
set_option maxRecDepth 100000
set_option linter.unusedSimpArgs false
open Go.Shelf
attribute [local go_sem] Oper.semAt_some
noncomputable def moreL (act : Nat → Act4) (ls : List Lk) : Nat → List Lk
  | 0 => ls
  | i + 1 => linkL (moreL act ls i) (act i).2.1 (act i).2.2.1 (act i).2.2.2
theorem moreL_app (act : Nat → Act4) (ls : List Lk) : ∀ i, ∃ e, moreL act ls i = ls ++ e ∧ e.length ≤ i
  | 0 => ⟨[], by simp [moreL]⟩
  | i + 1 => by
    obtain ⟨e, h, hl⟩ := moreL_app act ls i
    unfold moreL linkL
    rw [h]
    split
    · exact ⟨e ++ [((act i).2.1, (act i).2.2.1, (act i).2.2.2)], by simp, by simp; omega⟩
    · exact ⟨e, rfl, by omega⟩
theorem pathQ_more {ls e : List Lk} (hf : For ls) (hf' : For (ls ++ e)) {a b : Int} (h : sameB ls a b = true) : sameB (ls ++ e) a b = true ∧ pathQ (ls ++ e) a b = pathQ ls a b := by
  obtain ⟨p, hp⟩ := Option.isSome_iff_exists.1 (sameB_some h)
  have hp' := pathS_app hf hf' hp
  have hs : sameB (ls ++ e) a b = true := by
    unfold sameB cnB at h ⊢
    rw [hp']
    rw [hp] at h
    exact h
  refine ⟨hs, ?_⟩
  unfold pathQ
  rw [hs, h, hp, hp']
theorem mid_kp {L : Nat → Prop} {W2 wr W5 : World} (h1 : Kp L W2 wr) (h2 : Kp (fun k => L k ∨ W2.heap.size ≤ k) wr W5) : Kp L W2 W5 :=
  ⟨h2.os.trans h1.os, h2.tape.trans h1.tape, h2.output.trans h1.output, Nat.le_trans h1.size h2.size, fun k hl hn => by rw [h2.block k (Nat.lt_of_lt_of_le hl h1.size) (fun e => e.elim hn (by omega))]; exact h1.block k hl hn⟩
set_option maxHeartbeats 2000000 in
theorem stays_calls {W : World} {A A2 : Option Addr} {n n2 c c2 : Nat} {act act2 : Nat → Act4} (hA : ActsAt W A n act) (hA2 : ActsAt W A2 n2 act2) (a b : Int) : Calls Try.prog 4 #[.slice A n c, .slice A2 n2 c2, .int .i64 a, .int .i64 b] W fun e W' => e = .returned (.bool true) ∧ Kp (fun _ => False) W W' := by
  have hlive := live_calls W
  refine calls_of_wp Try.func4 rfl ?_
  simp only [Try.ntmps4, List.size_toArray, List.length_cons, List.length_nil, Nat.reduceAdd, Nat.reduceSub, Array.replicate_succ, Array.replicate_zero, List.push_toArray, List.append_toArray, List.nil_append, List.cons_append]
  by_cases hn : 40 < n
  · have dn : decide (40 < n) = true := decide_eq_true hn
    go_wp2_with (first
      | ((with_reducible refine hlive.mono ?_); rintro e W1 ⟨rfl, hk1⟩)
      | fail)
    exact ⟨rfl, .bool true, by simp [results, Try.results4, go_sem], rfl, hk1⟩
  · have dn : decide (40 < n) = false := decide_eq_false hn
    by_cases hm : 20 < n2
    · have dm : decide (20 < n2) = true := decide_eq_true hm
      go_wp2_with (first
        | ((with_reducible refine hlive.mono ?_); rintro e W1 ⟨rfl, hk1⟩)
        | fail)
      exact ⟨rfl, .bool true, by simp [results, Try.results4, go_sem], rfl, hk1⟩
    · have dm : decide (20 < n2) = false := decide_eq_false hm
      clear hlive
      have hplay := play_calls (c := c) hA (by omega)
      have hlen := playL_len act n
      obtain ⟨ls, hls⟩ : ∃ ls, playL act n = ls := ⟨_, rfl⟩
      rw [hls] at hplay hlen
      go_wp2_with (first
        | ((with_reducible refine hplay.mono ?_); rintro e W1 ⟨fb, rfl, hR0, hk1⟩; have hR1 := rep_laid hR0; have hp := path_calls hR1 a b)
        | ((with_reducible refine hp.mono ?_); rintro e W2 ⟨vp, rfl, hp2, hR2, hk2'⟩; have hk2 := laid_kp hk1 hk2'; obtain ⟨Ap, cp, rfl⟩ := slice_of hp2.row)
        | fail)
      have hf := rep_for hR1
      have hql := pathQ_len hf a b
      have hRm : Rep (fun k => Laid W W1 k ∨ W2.heap.size ≤ k) ls fb W2 := hR2.mono fun k _ h => .inl h
      go_loopw [12] (fun v12 wr => ∃ j : Nat, v12 = .int .i64 (j : Int) ∧ j ≤ n2 ∧ Rep (fun k => Laid W W1 k ∨ W2.heap.size ≤ k) (moreL act2 ls j) fb wr ∧ Kp (Laid W W1) W2 wr) (fun v12 wr => n2 - (intOf v12).toNat)
      case atStart => exact ⟨0, rfl, Nat.zero_le _, hRm, Kp.refl _ _⟩
      case round =>
        obtain ⟨j, rfl, hj, hRj, hKj⟩ := hrel
        obtain ⟨ex, hex, hexl⟩ := moreL_app act2 ls j
        by_cases hjn : j < n2
        · have hkW : Kp (fun _ => False) W wr := laid_kp hk2 hKj
          obtain ⟨blk, off, rfl, hblk, hcells⟩ := (hA2.kp hkW fun _ _ => id) (by omega)
          obtain ⟨_, a1, a2, a3⟩ := hcells j hjn
          have hjn2 : (j : Int) < (n2 : Int) := by omega
          have hlink := link_calls (hRj.kp (S := fun _ => False) (Kp.drew wr) fun _ _ _ => id) (act2 j).2.1 (act2 j).2.2.1 (act2 j).2.2.2 (by rw [hex]; simp; omega)
          have a1' : wr.drew.cell? ⟨blk, off + j * 4 + 1, none⟩ = some (.int .i64 (act2 j).2.1) := a1
          have a2' : wr.drew.cell? ⟨blk, off + j * 4 + 2, none⟩ = some (.int .i64 (act2 j).2.2.1) := a2
          have a3' : wr.drew.cell? ⟨blk, off + j * 4 + 3, none⟩ = some (.int .i64 (act2 j).2.2.2) := a3
          go_wp2_with (fail)
          refine start1 (· = wr.drew) 16 #[false, false, false, false, false, false, false, false, false, false, false, false, false, false, false, false, false] (by kernel_rfl) (by kernel_rfl) ?_
          refine move1 (i := 0) (d := (some 41)) (v := _) rfl rfl (by kernel_rfl) (by rfl) (fun _ _ _ h => h) rfl (fun w => by (go_simp; try with_reducible rfl)) ?_
          simp only [Act.put, List.setIfInBounds_toArray, List.set_cons_zero, List.set_cons_succ]
          refine move1 (i := 1) (d := (some 42)) (v := _) rfl rfl (by kernel_rfl) (by rfl) (fun _ _ _ h => h) rfl (fun w => by (go_simp; try with_reducible rfl)) ?_
          simp only [Act.put, List.setIfInBounds_toArray, List.set_cons_zero, List.set_cons_succ]
          refine move1 (i := 2) (d := (some 43)) (v := _) rfl rfl (by kernel_rfl) (by rfl) (fun _ _ _ h => h) rfl (fun w => by (go_simp; try with_reducible rfl)) ?_
          simp only [Act.put, List.setIfInBounds_toArray, List.set_cons_zero, List.set_cons_succ]
          refine move1 (i := 3) (d := (some 44)) (v := _) rfl rfl (by kernel_rfl) (by rfl) (fun _ _ _ h => h) rfl (fun w => by (go_simp; try with_reducible rfl)) ?_
          simp only [Act.put, List.setIfInBounds_toArray, List.set_cons_zero, List.set_cons_succ]
          refine move1 (i := 4) (d := (some 45)) (v := _) rfl rfl (by kernel_rfl) (by rfl) (fun _ _ _ h => h) rfl (fun w => by (go_simp; try with_reducible rfl)) ?_
          simp only [Act.put, List.setIfInBounds_toArray, List.set_cons_zero, List.set_cons_succ]
          refine take1 (i := 5) (d := (some 46)) (v := _) rfl rfl (by kernel_rfl) (by rfl) (fun _ _ _ h => h) rfl (fun w hw => by subst hw; (go_simp; try with_reducible rfl)) ?_
          simp only [Act.put, List.setIfInBounds_toArray, List.set_cons_zero, List.set_cons_succ]
          refine move1 (i := 6) (d := (some 47)) (v := _) rfl rfl (by kernel_rfl) (by rfl) (fun _ _ _ h => h) rfl (fun w => by (go_simp; try with_reducible rfl)) ?_
          simp only [Act.put, List.setIfInBounds_toArray, List.set_cons_zero, List.set_cons_succ]
          refine move1 (i := 7) (d := (some 48)) (v := _) rfl rfl (by kernel_rfl) (by rfl) (fun _ _ _ h => h) rfl (fun w => by (go_simp; try with_reducible rfl)) ?_
          simp only [Act.put, List.setIfInBounds_toArray, List.set_cons_zero, List.set_cons_succ]
          refine move1 (i := 8) (d := (some 49)) (v := _) rfl rfl (by kernel_rfl) (by rfl) (fun _ _ _ h => h) rfl (fun w => by (go_simp; try with_reducible rfl)) ?_
          simp only [Act.put, List.setIfInBounds_toArray, List.set_cons_zero, List.set_cons_succ]
          refine move1 (i := 9) (d := (some 50)) (v := _) rfl rfl (by kernel_rfl) (by rfl) (fun _ _ _ h => h) rfl (fun w => by (go_simp; try with_reducible rfl)) ?_
          simp only [Act.put, List.setIfInBounds_toArray, List.set_cons_zero, List.set_cons_succ]
          refine take1 (i := 10) (d := (some 51)) (v := _) rfl rfl (by kernel_rfl) (by rfl) (fun _ _ _ h => h) rfl (fun w hw => by subst hw; (go_simp; try with_reducible rfl)) ?_
          simp only [Act.put, List.setIfInBounds_toArray, List.set_cons_zero, List.set_cons_succ]
          refine move1 (i := 11) (d := (some 52)) (v := _) rfl rfl (by kernel_rfl) (by rfl) (fun _ _ _ h => h) rfl (fun w => by (go_simp; try with_reducible rfl)) ?_
          simp only [Act.put, List.setIfInBounds_toArray, List.set_cons_zero, List.set_cons_succ]
          refine move1 (i := 12) (d := (some 53)) (v := _) rfl rfl (by kernel_rfl) (by rfl) (fun _ _ _ h => h) rfl (fun w => by (go_simp; try with_reducible rfl)) ?_
          simp only [Act.put, List.setIfInBounds_toArray, List.set_cons_zero, List.set_cons_succ]
          refine move1 (i := 13) (d := (some 54)) (v := _) rfl rfl (by kernel_rfl) (by rfl) (fun _ _ _ h => h) rfl (fun w => by (go_simp; try with_reducible rfl)) ?_
          simp only [Act.put, List.setIfInBounds_toArray, List.set_cons_zero, List.set_cons_succ]
          refine move1 (i := 14) (d := (some 55)) (v := _) rfl rfl (by kernel_rfl) (by rfl) (fun _ _ _ h => h) rfl (fun w => by (go_simp; try with_reducible rfl)) ?_
          simp only [Act.put, List.setIfInBounds_toArray, List.set_cons_zero, List.set_cons_succ]
          refine take1 (i := 15) (d := (some 56)) (v := _) rfl rfl (by kernel_rfl) (by rfl) (fun _ _ _ h => h) rfl (fun w hw => by subst hw; (go_simp; try with_reducible rfl)) ?_
          simp only [Act.put, List.setIfInBounds_toArray, List.set_cons_zero, List.set_cons_succ]
          refine tail1 (i := 16) (by kernel_rfl) (wpOp_c (d := some 57) rfl rfl (by rfl) (f := 15) (args := #[.pointer (some ⟨fb, 0, none⟩), .int .i64 (act2 j).2.1, .int .i64 (act2 j).2.2.1, .int .i64 (act2 j).2.2.2]) (by go_simp; try rfl) (hlink.mono ?_))
          rintro e W5 ⟨rfl, hR5, hk5⟩
          refine ⟨_, rfl, ?_⟩
          simp only [Act.put, List.setIfInBounds_toArray, List.set_cons_zero, List.set_cons_succ]
          refine wpAnyL_done (by kernel_rfl) ?_ _
          have hR6 : Rep (fun k => Laid W W1 k ∨ W2.heap.size ≤ k) (moreL act2 ls (j + 1)) fb W5 := by
            refine hR5.mono fun k _ h => h.elim id fun h => .inr ?_
            exact Nat.le_trans hKj.size h
          have hK6 : Kp (Laid W W1) W2 W5 := mid_kp hKj ((Kp.drew wr).trans hk5)
          go_wp2_with (fail)
          go_roundw
          case rel => exact ⟨j + 1, by go_num, hjn, hR6, hK6⟩
          case measure => simp only [intOf]; omega
        · have hje : j = n2 := by omega
          subst hje
          rw [hex] at hRj
          have hf' := rep_for hRj
          have hq := path_calls hRj a b
          have hkW : Kp (fun _ => False) W wr := laid_kp hk2 hKj
          cases hs : sameB ls a b with
          | true =>
            obtain ⟨e1, e2⟩ := pathQ_more hf hf' hs
            rw [e1, e2] at hq
            go_wp2_with (first
              | ((with_reducible refine hq.mono ?_); rintro e W6 ⟨vq, rfl, hq6, hR6, hk6'⟩; have hk6 := mid_kp hKj hk6'; have hp6 := row_laid hp2 hk6; have heq := equal_calls hp6.row hq6.row (by omega); simp only [decide_true] at heq; obtain ⟨Aq, cq, rfl⟩ := slice_of hq6.row)
              | ((with_reducible refine heq.mono ?_); rintro e W7 ⟨rfl, hk7⟩; have hlive := live_calls W7)
              | ((with_reducible refine hlive.mono ?_); rintro e W8 ⟨rfl, hk8⟩)
              | fail)
            exact ⟨rfl, .bool true, by simp [results, Try.results4, go_sem], rfl, ((laid_kp hk2 hk6).trans hk7).trans hk8⟩
          | false =>
            go_wp2_with (first
              | ((with_reducible refine hq.mono ?_); rintro e W6 ⟨vq, rfl, hq6, hR6, hk6'⟩; have hk6 := mid_kp hKj hk6'; have hlive := live_calls W6; obtain ⟨Aq, cq, rfl⟩ := slice_of hq6.row)
              | ((with_reducible refine hlive.mono ?_); rintro e W8 ⟨rfl, hk8⟩)
              | fail)
            exact ⟨rfl, .bool true, by simp [results, Try.results4, go_sem], rfl, (laid_kp hk2 hk6).trans hk8⟩
end Go.Proofs.Ytmkhglpfhnocaaa.Fn
