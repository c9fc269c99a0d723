import Derived.Test.YtmkhglpfhnocaaaLa
namespace Go.Proofs.Ytmkhglpfhnocaaa.Fn
open Go Go.RowKit Go.MapKept Go.Proofs Forest17
set_option linter.unusedVariables false
set_option maxRecDepth 100000
set_option linter.unusedSimpArgs false
open Go.Shelf
attribute [local go_sem] Oper.semAt_some
/-- A forest that New did not make. -/
def Dead (W : World) (p : Value) : Prop := p = .pointer none ∨ ∃ fb, p = .pointer (some ⟨fb, 0, none⟩) ∧ W.heap[fb]? = some (.cells #[.bool false, .slice none 0 0, .map none, .map none] 52 (0, 0))
theorem Dead.kp {W W' : World} {p : Value} (h : Dead W p) (hk : Kp (fun _ => False) W W') : Dead W' p := h.imp id fun ⟨fb, h1, h2⟩ => ⟨fb, h1, hk.heap h2 id⟩
set_option maxHeartbeats 400000 in
theorem same_dead {W : World} {p : Value} (h : Dead W p) (a b : Int) : Calls Try.prog 24 #[p, .int .i64 a, .int .i64 b] W fun e W' => e = .returned (.bool false) ∧ Kp (fun _ => False) W W' := by
  refine calls_of_wp Try.func24 rfl ?_
  simp only [Try.ntmps24, List.size_toArray, List.length_cons, List.length_nil, Nat.reduceAdd, Nat.reduceSub, Array.replicate_succ, Array.replicate_zero, List.push_toArray, List.append_toArray, List.nil_append, List.cons_append]
  rcases h with rfl | ⟨fb, rfl, hc⟩
  · go_wp2_with (fail)
    exact ⟨rfl, .bool false, by simp [results, Try.results24, go_sem], rfl, Kp.refl _ _⟩
  · obtain ⟨c0, _⟩ := box_cells hc (j := 0) rfl
    obtain ⟨c1, _⟩ := box_cells hc (j := 1) rfl
    go_wp2_with (fail)
    exact ⟨rfl, .bool false, by simp [results, Try.results24, go_sem], rfl, Kp.refl _ _⟩
set_option maxHeartbeats 400000 in
theorem link_dead {W : World} {p : Value} (h : Dead W p) (a b w : Int) : Calls Try.prog 15 #[p, .int .i64 a, .int .i64 b, .int .i64 w] W fun e W' => e = .returned (.bool false) ∧ Kp (fun _ => False) W W' := by
  refine calls_of_wp Try.func15 rfl ?_
  simp only [Try.ntmps15, List.size_toArray, List.length_cons, List.length_nil, Nat.reduceAdd, Nat.reduceSub, Array.replicate_succ, Array.replicate_zero, List.push_toArray, List.append_toArray, List.nil_append, List.cons_append]
  rcases h with rfl | ⟨fb, rfl, hc⟩
  · go_wp2_with (fail)
    exact ⟨rfl, .bool false, by simp [results, Try.results15, go_sem], rfl, Kp.refl _ _⟩
  · obtain ⟨c0, _⟩ := box_cells hc (j := 0) rfl
    obtain ⟨c1, _⟩ := box_cells hc (j := 1) rfl
    go_wp2_with (fail)
    exact ⟨rfl, .bool false, by simp [results, Try.results15, go_sem], rfl, Kp.refl _ _⟩
set_option maxHeartbeats 400000 in
theorem undo_dead {W : World} {p : Value} (h : Dead W p) (n : Int) : Calls Try.prog 19 #[p, .int .i64 n] W fun e W' => e = .returned (.bool false) ∧ Kp (fun _ => False) W W' := by
  refine calls_of_wp Try.func19 rfl ?_
  simp only [Try.ntmps19, List.size_toArray, List.length_cons, List.length_nil, Nat.reduceAdd, Nat.reduceSub, Array.replicate_succ, Array.replicate_zero, List.push_toArray, List.append_toArray, List.nil_append, List.cons_append]
  rcases h with rfl | ⟨fb, rfl, hc⟩
  · go_wp2_with (fail)
    exact ⟨rfl, .bool false, by simp [results, Try.results19, go_sem], rfl, Kp.refl _ _⟩
  · obtain ⟨c0, _⟩ := box_cells hc (j := 0) rfl
    obtain ⟨c1, _⟩ := box_cells hc (j := 1) rfl
    go_wp2_with (fail)
    exact ⟨rfl, .bool false, by simp [results, Try.results19, go_sem], rfl, Kp.refl _ _⟩
set_option maxHeartbeats 400000 in
theorem len_dead {W : World} {p : Value} (h : Dead W p)  : Calls Try.prog 21 #[p] W fun e W' => e = .returned (.int .i64 0) ∧ Kp (fun _ => False) W W' := by
  refine calls_of_wp Try.func21 rfl ?_
  simp only [Try.ntmps21, List.size_toArray, List.length_cons, List.length_nil, Nat.reduceAdd, Nat.reduceSub, Array.replicate_succ, Array.replicate_zero, List.push_toArray, List.append_toArray, List.nil_append, List.cons_append]
  rcases h with rfl | ⟨fb, rfl, hc⟩
  · go_wp2_with (fail)
    exact ⟨rfl, .int .i64 0, by simp [results, Try.results21, go_sem], rfl, Kp.refl _ _⟩
  · obtain ⟨c0, _⟩ := box_cells hc (j := 0) rfl
    obtain ⟨c1, _⟩ := box_cells hc (j := 1) rfl
    go_wp2_with (fail)
    exact ⟨rfl, .int .i64 0, by simp [results, Try.results21, go_sem], rfl, Kp.refl _ _⟩
set_option maxHeartbeats 400000 in
theorem clone_nil (W : World) : Calls Try.prog 30 #[.slice none 0 0] W fun e W' => e = .returned (.slice none 0 0) ∧ Kp (fun _ => False) W W' := by
  have e1 := run_eqlNil none 0 0
  simp only [Option.isNone_none] at e1
  refine calls_of_wp Try.func30 rfl ?_
  simp only [Try.ntmps30, List.size_toArray, List.length_cons, List.length_nil, Nat.reduceAdd, Nat.reduceSub, Array.replicate_succ, Array.replicate_zero, List.push_toArray, List.append_toArray, List.nil_append, List.cons_append]
  go_wp2_with (fail)
  exact ⟨rfl, .slice none 0 0, by simp [results, Try.results30, go_sem], rfl, Kp.refl _ _⟩
set_option maxHeartbeats 400000 in
theorem links_dead {W : World} {p : Value} (h : Dead W p) : Calls Try.prog 22 #[p] W fun e W' => e = .returned (.slice none 0 0) ∧ Kp (fun _ => False) W W' := by
  have hcl := clone_nil W
  refine calls_of_wp Try.func22 rfl ?_
  simp only [Try.ntmps22, List.size_toArray, List.length_cons, List.length_nil, Nat.reduceAdd, Nat.reduceSub, Array.replicate_succ, Array.replicate_zero, List.push_toArray, List.append_toArray, List.nil_append, List.cons_append]
  rcases h with rfl | ⟨fb, rfl, hc⟩
  · go_wp2_with (fail)
    exact ⟨rfl, .slice none 0 0, by simp [results, Try.results22, go_sem], rfl, Kp.refl _ _⟩
  · obtain ⟨c1, _⟩ := box_cells hc (j := 1) rfl
    go_wp2_with (first
      | ((with_reducible refine hcl.mono ?_); rintro e W2 ⟨rfl, hk2⟩)
      | fail)
    exact ⟨rfl, .slice none 0 0, by simp [results, Try.results22, go_sem], rfl, hk2⟩
set_option maxHeartbeats 400000 in
theorem path_dead {W : World} {p : Value} (h : Dead W p) (a b : Int) : Calls Try.prog 13 #[p, .int .i64 a, .int .i64 b] W fun e W' => e = .returned (.tuple #[.slice none 0 0, .bool false]) ∧ Kp (fun _ => False) W W' := by
  have hk0 : Kp (fun _ => False) W ((W.alloc (.cells #[p] 24)).alloc (.cells #[.int .i64 b] 3)) := (Kp.alloc _ _).trans (Kp.alloc _ _)
  have hsm := same_dead (h.kp hk0) a b
  refine calls_of_wp Try.func13 rfl ?_
  simp only [Try.ntmps13, List.size_toArray, List.length_cons, List.length_nil, Nat.reduceAdd, Nat.reduceSub, Array.replicate_succ, Array.replicate_zero, List.push_toArray, List.append_toArray, List.nil_append, List.cons_append]
  rcases h with rfl | ⟨fb, rfl, hc⟩
  · go_wp2_with (first
      | ((with_reducible refine hsm.mono ?_); rintro e W2 ⟨rfl, hk2⟩)
      | fail)
    exact ⟨rfl, .tuple #[.slice none 0 0, .bool false], by simp [results, Try.results13, go_sem], rfl, hk0.trans hk2⟩
  · go_wp2_with (first
      | ((with_reducible refine hsm.mono ?_); rintro e W2 ⟨rfl, hk2⟩)
      | fail)
    exact ⟨rfl, .tuple #[.slice none 0 0, .bool false], by simp [results, Try.results13, go_sem], rfl, hk0.trans hk2⟩
set_option maxHeartbeats 2000000 in
theorem nil_calls {W : World} (a b w : Int) : Calls Try.prog 10 #[.int .i64 a, .int .i64 b, .int .i64 w] W fun e W' => e = .returned (.bool true) ∧ Kp (fun _ => False) W W' := by
  refine calls_of_wp Try.func10 rfl ?_
  simp only [Try.ntmps10, List.size_toArray, List.length_cons, List.length_nil, Nat.reduceAdd, Nat.reduceSub, Array.replicate_succ, Array.replicate_zero, List.push_toArray, List.append_toArray, List.nil_append, List.cons_append]
  go_wp2_with (fail)
  go_loopw [7, 8] (fun v7 v8 wr => ∃ j : Nat, v8 = .int .i64 (j : Int) ∧ j ≤ 2 ∧ Dead wr v7 ∧ Kp (fun _ => False) W wr) (fun v7 v8 wr => 2 - (intOf v8).toNat)
  case atStart => exact ⟨0, rfl, Nat.zero_le _, .inl rfl, Kp.refl _ _⟩
  case round =>
    obtain ⟨j, rfl, hj, hD, hk⟩ := hrel
    by_cases hj2 : j < 2
    · have hp := path_dead hD a b
      have hj3 : (j : Int) < 2 := by omega
      rcases hD with rfl | ⟨fb, rfl, hc⟩
      · have D0 : Dead wr (.pointer none) := .inl rfl
        go_wp2_with (first
          | ((with_reducible refine hp.mono ?_); rintro e W1 ⟨rfl, hk1'⟩; have hk1 := hk.trans hk1'; have D1 := D0.kp hk1'; have hl := link_dead D1 a b w)
          | ((with_reducible refine hl.mono ?_); rintro e W2 ⟨rfl, hk2'⟩; have hk2 := hk1.trans hk2'; have D2 := D1.kp hk2'; have hs := same_dead D2 a b)
          | ((with_reducible refine hs.mono ?_); rintro e W3 ⟨rfl, hk3'⟩; have hk3 := hk2.trans hk3'; have D3 := D2.kp hk3'; have hls := links_dead D3)
          | ((with_reducible refine hls.mono ?_); rintro e W4 ⟨rfl, hk4'⟩; have hk4 := hk3.trans hk4'; have D4 := D3.kp hk4'; have hln := len_dead D4)
          | ((with_reducible refine hln.mono ?_); rintro e W5 ⟨rfl, hk5'⟩; have hk5 := hk4.trans hk5'; have D5 := D4.kp hk5'; have hu := undo_dead D5 a)
          | ((with_reducible refine hu.mono ?_); rintro e W6 ⟨rfl, hk6'⟩; have hk6 := hk5.trans hk6'; have D6 := D5.kp hk6'; have hu0 := undo_dead D6 0)
          | ((with_reducible refine hu0.mono ?_); rintro e W7 ⟨rfl, hk7'⟩; have hk7 := hk6.trans hk7'; have D7 := D6.kp hk7')
          | fail)
        exact ⟨⟨j + 1, by simp, hj2, .inr ⟨_, rfl, (heap_alloc W7 _).1⟩, hk7.trans (Kp.alloc _ _)⟩, by simp only [intOf]; omega⟩
      · have D0 : Dead wr (.pointer (some ⟨fb, 0, none⟩)) := .inr ⟨fb, rfl, hc⟩
        go_wp2_with (first
          | ((with_reducible refine hp.mono ?_); rintro e W1 ⟨rfl, hk1'⟩; have hk1 := hk.trans hk1'; have D1 := D0.kp hk1'; have hl := link_dead D1 a b w)
          | ((with_reducible refine hl.mono ?_); rintro e W2 ⟨rfl, hk2'⟩; have hk2 := hk1.trans hk2'; have D2 := D1.kp hk2'; have hs := same_dead D2 a b)
          | ((with_reducible refine hs.mono ?_); rintro e W3 ⟨rfl, hk3'⟩; have hk3 := hk2.trans hk3'; have D3 := D2.kp hk3'; have hls := links_dead D3)
          | ((with_reducible refine hls.mono ?_); rintro e W4 ⟨rfl, hk4'⟩; have hk4 := hk3.trans hk4'; have D4 := D3.kp hk4'; have hln := len_dead D4)
          | ((with_reducible refine hln.mono ?_); rintro e W5 ⟨rfl, hk5'⟩; have hk5 := hk4.trans hk5'; have D5 := D4.kp hk5'; have hu := undo_dead D5 a)
          | ((with_reducible refine hu.mono ?_); rintro e W6 ⟨rfl, hk6'⟩; have hk6 := hk5.trans hk6'; have D6 := D5.kp hk6'; have hu0 := undo_dead D6 0)
          | ((with_reducible refine hu0.mono ?_); rintro e W7 ⟨rfl, hk7'⟩; have hk7 := hk6.trans hk7'; have D7 := D6.kp hk7')
          | fail)
        exact ⟨⟨j + 1, by simp, hj2, .inr ⟨_, rfl, (heap_alloc W7 _).1⟩, hk7.trans (Kp.alloc _ _)⟩, by simp only [intOf]; omega⟩
    · have hje : j = 2 := by omega
      subst hje
      have hlive := live_calls wr
      go_wp2_with (first
        | ((with_reducible refine hlive.mono ?_); rintro e W8 ⟨rfl, hk8⟩)
        | fail)
      exact ⟨rfl, .bool true, by simp [results, Try.results10, go_sem], rfl, hk.trans hk8⟩
end Go.Proofs.Ytmkhglpfhnocaaa.Fn
