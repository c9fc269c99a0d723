import Derived.Test.YtmkhglpfhnocaaaFl
namespace Go.Proofs.Ytmkhglpfhnocaaa.Fn
open Go Go.RowKit Go.MapKept Go.Proofs Forest17
set_option linter.unusedVariables false
set_option maxRecDepth 100000
set_option linter.unusedSimpArgs false
open Go.Shelf
attribute [local go_sem] Oper.semAt_some
theorem pathQ_len {ls : List Lk} (hf : For ls) (a b : Int) : ((pathQ ls a b).getD []).length ≤ ls.length + 1 := by
  unfold pathQ
  split
  · cases h : pathS ls a b with
    | none => simp
    | some p =>
      have := pathS_dfs hf a b
      rw [h] at this
      exact dfs_len _ _ _ _ this
  · simp
/-- A forest's blocks, as far as they are laid. -/
abbrev Laid (W W1 : World) : Nat → Prop := fun k => W.heap.size ≤ k ∧ k < W1.heap.size
theorem rep_laid {W W1 : World} {ls : List Lk} {fb : Nat} (h : Rep (From W) ls fb W1) : Rep (Laid W W1) ls fb W1 := h.mono fun k hl h => ⟨h, hl⟩
theorem laid_kp {W W1 W2 W3 : World} (h1 : Kp (fun _ => False) W W2) (h2 : Kp (Laid W W1) W2 W3) : Kp (fun _ => False) W W3 := from_kp h1 (h2.imp fun _ _ h => h.1)
theorem row_laid {W W1 W2 W3 : World} {p : List Lk} {v : Value} (h : RowN W1 p v W2) (hk : Kp (Laid W W1) W2 W3) : RowN W1 p v W3 :=
  ⟨ownsRow_kp h.row hk fun g hg e => by have := h.new g hg; have := e.2; omega, h.new⟩
theorem row_kp {W1 W2 W3 : World} {p : List Lk} {v : Value} (h : RowN W1 p v W2) (hk : Kp (fun _ => False) W2 W3) : RowN W1 p v W3 := ⟨ownsRow_kp h.row hk fun _ _ => id, h.new⟩
theorem row_later {W W1 W2 : World} {p : List Lk} {v : Value} (h : RowN W1 p v W2) (hs : W.heap.size ≤ W1.heap.size) : RowN W p v W2 := ⟨h.row, fun g hg => Nat.le_trans hs (h.new g hg)⟩
theorem rep_for {M : Nat → Prop} {ls : List Lk} {fb : Nat} {W : World} (h : Rep M ls fb W) : For ls := by obtain ⟨_, _, _, _, _, _, _, _, hf, _⟩ := h.row; exact hf
theorem play_for {W W' : World} {M : Nat → Prop} {act : Nat → Act4} {n fb : Nat} (h : Rep M (playL act n) fb W') : For (playL act n) := rep_for h
set_option maxHeartbeats 2000000 in
theorem paths_calls {W : World} {A : Option Addr} {n c : Nat} {act : Nat → Act4} (hA : ActsAt W A n act) (a b : Int) : Calls Try.prog 6 #[.slice A n c, .int .i64 a, .int .i64 b] W fun e W' => e = .returned (.bool true) ∧ Kp (fun _ => False) W W' := by
  have hlive := live_calls W
  refine calls_of_wp Try.func6 rfl ?_
  simp only [Try.ntmps6, List.size_toArray, List.length_cons, List.length_nil, Nat.reduceAdd, Nat.reduceSub, Array.replicate_succ, Array.replicate_zero, List.push_toArray, List.append_toArray, List.nil_append, List.cons_append]
  by_cases hn : 60 < n
  · go_wp2_with (first
      | ((with_reducible refine hlive.mono ?_); rintro e W1 ⟨rfl, hk1⟩)
      | fail)
    exact ⟨rfl, .bool true, by simp [results, Try.results6, go_sem], rfl, hk1⟩
  · clear hlive
    have hn2 : n ≤ 60 := by omega
    have hplay := play_calls (c := c) hA hn2
    have hlen := playL_len act n
    obtain ⟨ls, hls⟩ : ∃ ls, playL act n = ls := ⟨_, rfl⟩
    rw [hls] at hplay hlen
    have hl2 : ls.length ≤ 200 := by omega
    go_wp2_with (first
      | ((with_reducible refine hplay.mono ?_); rintro e W1 ⟨fb, rfl, hR0, hk1⟩; have hR1 := rep_laid hR0; have hf := rep_for hR1; have hq := pathQ_len hf a b; have hp := path_calls hR1 a b)
      | ((with_reducible refine hp.mono ?_); rintro e W2 ⟨vp, rfl, hp2, hR2, hk2'⟩; have hk2 := laid_kp hk1 hk2'; have hlk := links_calls hR2; obtain ⟨Ap, cp, rfl⟩ := slice_of hp2.row)
      | ((with_reducible refine hlk.mono ?_); rintro e W3 ⟨vl, rfl, hl3, hk3'⟩; have hk3 := hk2.trans hk3'; replace hp2 := row_kp hp2 hk3'; have hR3 := hR2.kp hk3' fun _ _ _ => id; have hrp := rpath_calls hf hl3.row hl2 a b; obtain ⟨Al, cl, rfl⟩ := slice_of hl3.row)
      | ((with_reducible refine hrp.mono ?_); rintro e W4 ⟨vq, rfl, hq4, hk4'⟩; have hk4 := hk3.trans hk4'; replace hp2 := row_kp hp2 hk4'; have hR4 := hR3.kp hk4' fun _ _ _ => id; have heq := equal_calls hp2.row hq4.row (by omega); simp only [decide_true] at heq; obtain ⟨Aq, cq, rfl⟩ := slice_of hq4.row)
      | ((with_reducible refine heq.mono ?_); rintro e W5 ⟨rfl, hk5'⟩; have hk5 := hk4.trans hk5'; have hR5 := hR4.kp hk5' fun _ _ _ => id; have hsm := same_calls hR5 a b)
      | ((with_reducible refine hsm.mono ?_); rintro e W6 ⟨rfl, hR6, hk6'⟩; have hk6 := laid_kp hk5 hk6'; have hlive := live_calls W6)
      | ((with_reducible refine hlive.mono ?_); rintro e W7 ⟨rfl, hk7'⟩)
      | fail)
    exact ⟨rfl, .bool true, by simp [results, Try.results6, go_sem], rfl, hk6.trans hk7'⟩
end Go.Proofs.Ytmkhglpfhnocaaa.Fn
