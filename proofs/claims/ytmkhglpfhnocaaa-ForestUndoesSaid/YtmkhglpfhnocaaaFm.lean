import Derived.Test.YtmkhglpfhnocaaaFk
import Derived.Deep.OwnRows
namespace Go.Proofs.Ytmkhglpfhnocaaa.Fn
open Go Go.RowKit Go.MapKept Go.Proofs Forest17
set_option linter.unusedVariables false
set_option maxRecDepth 100000
set_option linter.unusedSimpArgs false
open Go.Shelf
attribute [local go_sem] Oper.semAt_some
theorem info4 : (Try.prog.info? 4).map (fun i => (i.zero, i.size, i.bytes)) = some (some (.bool false), 1, 1) := by kernel_rfl
theorem und59 : Try.prog.underlying 59 = some (.slice 4) := by kernel_rfl
theorem us_made (W : World) (n : Nat) (hn : n ≤ 1000) : Us1 (W.alloc (.cells (madeCells #[.bool false] n) 4)) W.heap.size n n (List.replicate n false) := by
  refine ⟨by simp, .inr ⟨W.heap.size, n, madeCells #[.bool false] n, rfl, Nat.zero_le _, (heap_alloc W _).1, Nat.le_refl _, by unfold maxLen; omega, ?_, ?_⟩⟩
  · rw [size_madeCells, Nat.mul_one]
  · rw [toList_madeCells_one, Nat.mul_one, List.map_replicate, List.take_replicate, Nat.min_self]
theorem dfs_len {ls : List Lk} {b : Int} : ∀ (f : Nat) (at_ fr : Int) (p : List Lk), dfs ls b f at_ fr = some (some p) → p.length ≤ f
  | 0, at_, fr, p, h => by cases h
  | f + 1, at_, fr, p, h => by
    unfold dfs at h
    split at h
    · cases h; exact Nat.zero_le _
    · have key : ∀ ks, loopD (dfs ls b f) ls at_ fr ks = some (some p) → p.length ≤ f + 1 := by
        intro ks
        induction ks with
        | nil => intro h; cases h
        | cons k ks ih =>
          intro h
          unfold loopD at h
          split at h
          · exact ih h
          · split at h
            · cases h
            · rename_i l _
              split at h
              · cases h
              · rename_i q hq
                cases h
                have := dfs_len f _ _ _ hq
                simp only [List.length_cons]; omega
              · exact ih h
      exact key _ h
theorem pathQ_nonneg {ls : List Lk} {a b : Int} (ha : 0 ≤ a) (hb : 0 ≤ b) : pathQ ls a b = pathS ls a b ∧ sameB ls a b = (pathS ls a b).isSome := by
  have : sameB ls a b = (pathS ls a b).isSome := by unfold sameB cnB; rw [decide_eq_true ha, decide_eq_true hb]; rfl
  refine ⟨?_, this⟩
  unfold pathQ
  rw [this]
  cases pathS ls a b <;> rfl
theorem pathQ_neg {ls : List Lk} {a b : Int} (h : ¬ (0 ≤ a ∧ 0 ≤ b)) : pathQ ls a b = none ∧ sameB ls a b = false := by
  have : sameB ls a b = false := by
    unfold sameB
    by_cases ha : 0 ≤ a
    · rw [decide_eq_false (fun hb => h ⟨ha, hb⟩), Bool.and_false, Bool.false_and]
    · rw [decide_eq_false ha, Bool.false_and, Bool.false_and]
  refine ⟨?_, this⟩
  unfold pathQ
  rw [this]
  rfl
set_option maxHeartbeats 1000000 in
theorem rpath_calls {ls : List Lk} (hf : For ls) {W : World} {v : Value} (hv : Rw W v ls) (hb : ls.length ≤ 200) (a b : Int) : Calls Try.prog 23 #[v, .int .i64 a, .int .i64 b] W fun e W' => ∃ vr, e = .returned (.tuple #[vr, .bool (sameB ls a b)]) ∧ RowN W ((pathQ ls a b).getD []) vr W' ∧ Kp (fun _ => False) W W' := by
  obtain ⟨u', hw⟩ := rwalk_top hf a b
  obtain ⟨A, c, rfl⟩ := slice_of hv
  have hmk := fun w => run_make_row' (P := Try.prog) 59 4 (.bool false) 1 und59 info4 rfl .i64 .i64 ls.length (by omega) (by omega) w
  have hk0 : Kp (fun _ => False) W (W.alloc (.cells (madeCells #[.bool false] ls.length) 4)) := Kp.alloc _ _
  have hus := us_made W ls.length (by omega)
  have hcall := rwalk_calls hf b hb (ls.length + 1) a _ u' _ _ hw (by omega) (ownsRow_kp hv hk0 fun _ _ => id) hus (fun p h => dfs_len _ _ _ _ (by rw [← h]; exact pathS_dfs hf a b))
  refine calls_of_wp Try.func23 rfl ?_
  simp only [Try.ntmps23, List.size_toArray, List.length_cons, List.length_nil, Nat.reduceAdd, Nat.reduceSub, Array.replicate_succ, Array.replicate_zero, List.push_toArray, List.append_toArray, List.nil_append, List.cons_append]
  by_cases ha : 0 ≤ a
  · have da : decide (a < 0) = false := decide_eq_false (by omega)
    by_cases hb0 : 0 ≤ b
    · have db : decide (b < 0) = false := decide_eq_false (by omega)
      go_wp2_with (first
        | ((with_reducible refine hcall.mono ?_); rintro e W3 ⟨vr, rfl, hr3, hu3, hk3⟩; obtain ⟨A3, c3, rfl⟩ := slice_of hr3.row)
        | fail)
      obtain ⟨e1, e2⟩ := pathQ_nonneg (ls := ls) ha hb0
      rw [e1, e2]
      refine ⟨rfl, .tuple #[.slice A3 ((pathS ls a b).getD []).length c3, .bool (pathS ls a b).isSome], by simp [results, Try.results23, go_sem], _, rfl, ⟨hr3.row, fun q hq => Nat.le_trans hk0.size (hr3.new q hq)⟩, ?_⟩
      have hs0 : (W.alloc (.cells (madeCells #[.bool false] ls.length) 4)).heap.size = W.heap.size + 1 := by simp
      exact ⟨hk3.os, hk3.tape, hk3.output, Nat.le_trans hk0.size hk3.size, fun k hl _ => by rw [hk3.block k (by omega) (by omega)]; exact hk0.block k hl id⟩
    · have db : decide (b < 0) = true := decide_eq_true (by omega)
      go_wp2_with (fail)
      obtain ⟨e1, e2⟩ := pathQ_neg (ls := ls) (a := a) (b := b) (fun h => by omega)
      rw [e1, e2]
      exact ⟨rfl, .tuple #[.slice none 0 0, .bool false], by simp [results, Try.results23, go_sem], .slice none 0 0, rfl, ⟨Rw.nil _, fun g hg => by cases hg⟩, Kp.refl _ _⟩
  · have da : decide (a < 0) = true := decide_eq_true (by omega)
    go_wp2_with (fail)
    obtain ⟨e1, e2⟩ := pathQ_neg (ls := ls) (a := a) (b := b) (fun h => by omega)
    rw [e1, e2]
    exact ⟨rfl, .tuple #[.slice none 0 0, .bool false], by simp [results, Try.results23, go_sem], .slice none 0 0, rfl, ⟨Rw.nil _, fun g hg => by cases hg⟩, Kp.refl _ _⟩
set_option maxHeartbeats 400000 in
theorem rsame_calls {ls : List Lk} (hf : For ls) {W : World} {v : Value} (hv : Rw W v ls) (hb : ls.length ≤ 200) (a b : Int) : Calls Try.prog 29 #[v, .int .i64 a, .int .i64 b] W fun e W' => e = .returned (.bool (sameB ls a b)) ∧ Kp (fun _ => False) W W' := by
  have hcall := rpath_calls hf hv hb a b
  obtain ⟨A, c, rfl⟩ := slice_of hv
  refine calls_of_wp Try.func29 rfl ?_
  simp only [Try.ntmps29, List.size_toArray, List.length_cons, List.length_nil, Nat.reduceAdd, Nat.reduceSub, Array.replicate_succ, Array.replicate_zero, List.push_toArray, List.append_toArray, List.nil_append, List.cons_append]
  go_wp2_with (first
    | ((with_reducible refine hcall.mono ?_); rintro e W3 ⟨vr, rfl, hr3, hk3⟩; obtain ⟨A3, c3, rfl⟩ := slice_of hr3.row)
    | fail)
  exact ⟨rfl, .bool (sameB ls a b), by simp [results, Try.results29, go_sem], rfl, hk3⟩
/-- The links after Link. -/
noncomputable def linkL (ls : List Lk) (a b w : Int) : List Lk := if linkB ls a b then ls ++ [(a, b, w)] else ls
def undoL (ls : List Lk) (n : Int) : List Lk := if undoB ls n then ls.take n.toNat else ls
theorem linkB_same {ls : List Lk} {a b : Int} (ha : 0 ≤ a) (hb : 0 ≤ b) : linkB ls a b = !sameB ls a b := by
  unfold linkB sameB
  rw [decide_eq_true ha, decide_eq_true hb]; rfl
set_option maxHeartbeats 1000000 in
theorem rlink_calls {ls : List Lk} (hf : For ls) {W : World} {v : Value} (hv : Rw W v ls) (hb : ls.length ≤ 200) (a b w : Int) : Calls Try.prog 20 #[v, .int .i64 a, .int .i64 b, .int .i64 w] W fun e W' => ∃ vr, e = .returned (.tuple #[vr, .bool (linkB ls a b)]) ∧ Rw W' vr (linkL ls a b w) ∧ (vr = v ∨ ∀ g, vr.ownBlock = some g → W.heap.size ≤ g) ∧ Kp (fun _ => False) W W' := by
  have hsame := rsame_calls hf hv hb a b
  obtain ⟨A, c, rfl⟩ := slice_of hv
  have hnil := Rw.nil W
  refine calls_of_wp Try.func20 rfl ?_
  simp only [Try.ntmps20, List.size_toArray, List.length_cons, List.length_nil, Nat.reduceAdd, Nat.reduceSub, Array.replicate_succ, Array.replicate_zero, List.push_toArray, List.append_toArray, List.nil_append, List.cons_append]
  by_cases ha : 0 ≤ a
  · have da : decide (a < 0) = false := decide_eq_false (by omega)
    by_cases hb0 : 0 ≤ b
    · have db : decide (b < 0) = false := decide_eq_false (by omega)
      have hlb := linkB_same (ls := ls) ha hb0
      cases hs : sameB ls a b with
      | true =>
        rw [hs] at hsame hlb
        go_wp2_with (first
          | ((with_reducible refine hsame.mono ?_); rintro e W3 ⟨rfl, hk3⟩)
          | fail)
        unfold linkL
        rw [hlb]
        exact ⟨rfl, .tuple #[.slice A ls.length c, .bool false], by simp [results, Try.results20, go_sem], _, rfl, ownsRow_kp hv hk3 fun _ _ => id, .inl rfl, hk3⟩
      | false =>
        rw [hs] at hsame hlb
        go_wp2_with (first
          | ((with_reducible refine hsame.mono ?_); rintro e W3 ⟨rfl, hk3⟩; have hv3 := ownsRow_kp hv hk3 fun _ _ => id)
          | (at_builtin; refine wpList_appendAny rfl (.const (.slice none 0 0)) (.tmp 24) rfl _ _ [] ls rfl rfl (Rw.nil _) hv3 (by simp; omega) ?_; intro v4 W4 hr4 hk4 hg4; obtain ⟨A4, c4, rfl⟩ := slice_of hr4; have o1 := one_row W4 a b w; have o2 : Rw (W4.alloc (.cells #[.int .i64 a, .int .i64 b, .int .i64 w] 30)) _ _ := hr4.alloc _)
          | (at_builtin; refine wpList_appendAny rfl (.tmp 26) (.tmp 31) rfl _ _ ([] ++ ls) [(a, b, w)] rfl rfl o2 o1 (by simp; omega) ?_; intro v5 W5 hr5 hk5 hg5; obtain ⟨A5, c5, rfl⟩ := slice_of hr5)
          | fail)
        have h4 : ∀ g, (Value.slice A4 ([] ++ ls).length c4).ownBlock = some g → g = W3.heap.size := fun g hg => by
          rcases hg4 with h | h
          · rw [h] at hg; cases hg
          · rw [h] at hg; exact (Option.some.inj hg).symm
        have hs4 : (W4.alloc (.cells #[.int .i64 a, .int .i64 b, .int .i64 w] 30)).heap.size = W4.heap.size + 1 := by simp
        have hs3 := hk3.size
        have hs34 := hk4.size
        have hs5 := hk5.size
        have hk34 : Kp (fun _ => False) W W4 := hk3.trans (hk4.imp fun q _ h => by cases h)
        unfold linkL
        rw [hlb]
        refine ⟨rfl, .tuple #[.slice A5 ([] ++ ls ++ [(a, b, w)]).length c5, .bool true], by simp [results, Try.results20, go_sem], _, rfl, hr5, .inr fun g hg => ?_, ?_⟩
        · rcases hg5 with h | h
          · rw [h] at hg; have := h4 g hg; omega
          · rw [h] at hg; have := Option.some.inj hg; omega
        · refine ⟨hk5.os.trans hk34.os, hk5.tape.trans hk34.tape, hk5.output.trans hk34.output, by omega, fun k hl _ => ?_⟩
          rw [hk5.block k (by omega) (fun e => by have := h4 k e; omega), Below.heap_alloc _ _ _ (by omega)]
          exact hk34.block k hl id
    · have db : decide (b < 0) = true := decide_eq_true (by omega)
      have hlb : linkB ls a b = false := by unfold linkB; rw [decide_eq_false hb0, Bool.and_false, Bool.false_and]
      go_wp2_with (fail)
      unfold linkL
      rw [hlb]
      exact ⟨rfl, .tuple #[.slice A ls.length c, .bool false], by simp [results, Try.results20, go_sem], _, rfl, hv, .inl rfl, Kp.refl _ _⟩
  · have da : decide (a < 0) = true := decide_eq_true (by omega)
    have hlb : linkB ls a b = false := by unfold linkB; rw [decide_eq_false ha, Bool.false_and, Bool.false_and]
    go_wp2_with (fail)
    unfold linkL
    rw [hlb]
    exact ⟨rfl, .tuple #[.slice A ls.length c, .bool false], by simp [results, Try.results20, go_sem], _, rfl, hv, .inl rfl, Kp.refl _ _⟩
set_option maxHeartbeats 1000000 in
theorem rundo_calls {ls : List Lk} {W : World} {v : Value} (hv : Rw W v ls) (hb : ls.length ≤ 200) (n : Int) : Calls Try.prog 18 #[v, .int .i64 n] W fun e W' => ∃ vr, e = .returned (.tuple #[vr, .bool (undoB ls n)]) ∧ Rw W' vr (undoL ls n) ∧ (vr = v ∨ ∀ g, vr.ownBlock = some g → W.heap.size ≤ g) ∧ Kp (fun _ => False) W W' := by
  obtain ⟨A, c, rfl⟩ := slice_of hv
  refine calls_of_wp Try.func18 rfl ?_
  simp only [Try.ntmps18, List.size_toArray, List.length_cons, List.length_nil, Nat.reduceAdd, Nat.reduceSub, Array.replicate_succ, Array.replicate_zero, List.push_toArray, List.append_toArray, List.nil_append, List.cons_append]
  by_cases hn0 : 0 ≤ n
  · have dn : decide (n < 0) = false := decide_eq_false (by omega)
    obtain ⟨m, rfl⟩ : ∃ m : Nat, n = (m : Int) := ⟨n.toNat, by omega⟩
    by_cases hnl : m ≤ ls.length
    · have hu : undoB ls (m : Int) = true := by unfold undoB; simp; omega
      have dl : decide (ls.length < m) = false := decide_eq_false (by omega)
      have hcap := row_cap hv
      have hmc : m ≤ c := by omega
      have hrt := row_take hv hnl
      have hlm : (ls.take m).length = m := by simp; omega
      have hlm2 : (ls.take m).length ≤ 1000 := by omega
      unfold undoL
      rw [hu]
      go_wp2_with (first
        | (at_builtin; refine wpList_appendAny rfl (.const (.slice none 0 0)) (.tmp 17) rfl _ _ [] (ls.take m) rfl rfl (Rw.nil _) hrt (by simp; omega) ?_; intro v4 W4 hr4 hk4 hg4; obtain ⟨A4, c4, rfl⟩ := slice_of hr4)
        | fail)
      refine ⟨rfl, .tuple #[.slice A4 ([] ++ ls.take m).length c4, .bool true], by simp [results, Try.results18, go_sem]; omega, _, rfl, hr4, .inr fun g hg => ?_, hk4.imp fun q _ h => by cases h⟩
      rcases hg4 with h | h
      · rw [h] at hg; cases hg
      · rw [h] at hg; have := Option.some.inj hg; omega
    · have hu : undoB ls (m : Int) = false := by unfold undoB; simp; omega
      have dl : decide (ls.length < m) = true := decide_eq_true (by omega)
      unfold undoL
      rw [hu]
      go_wp2_with (fail)
      exact ⟨rfl, .tuple #[.slice A ls.length c, .bool false], by simp [results, Try.results18, go_sem], _, rfl, hv, .inl rfl, Kp.refl _ _⟩
  · have dn : decide (n < 0) = true := decide_eq_true (by omega)
    have hu : undoB ls n = false := by unfold undoB; rw [decide_eq_false hn0]; rfl
    unfold undoL
    rw [hu]
    go_wp2_with (fail)
    exact ⟨rfl, .tuple #[.slice A ls.length c, .bool false], by simp [results, Try.results18, go_sem], _, rfl, hv, .inl rfl, Kp.refl _ _⟩
end Go.Proofs.Ytmkhglpfhnocaaa.Fn
