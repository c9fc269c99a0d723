import Derived.Test.YtmkhglpfhnocaaaFp
import Derived.OwnWalk
namespace Go.Proofs.Ytmkhglpfhnocaaa.Fn
open Go Go.RowKit Go.MapKept Go.Proofs Forest17
set_option linter.unusedVariables false
set_option maxRecDepth 100000
set_option linter.unusedSimpArgs false
open Go.Shelf
attribute [local go_sem] Oper.semAt_some
/-- A slice of links. -/
abbrev Rw (W : World) (v : Value) (ls : List Lk) : Prop := W.ownsRow 0 30 3 v ls.length (lksV ls)
theorem lksV_app (a b : List Lk) : lksV (a ++ b) = lksV a ++ lksV b := by simp [lksV]
theorem lksV_one (ls : List Lk) : ∀ u ∈ lksV ls, u.oneCell' = true := by
  intro u hu
  obtain ⟨l, _, hl⟩ := List.mem_flatMap.1 hu
  unfold lkV at hl
  simp only [List.mem_cons, List.not_mem_nil, or_false] at hl
  rcases hl with rfl | rfl | rfl <;> rfl
theorem append_any {W : World} {s x : Value} {a b : List Lk} (hs : Rw W s a) (hx : Rw W x b) (hn : a.length + b.length ≤ 1000) (ty : TypeId) : ∃ v' W', (Builtin.append_ #[26, 26] ty #[s, x]).run Try.prog W = .ok v' W' ∧ Rw W' v' (a ++ b) ∧ Kp (fun q => s.ownBlock = some q) W W' ∧ (v'.ownBlock = s.ownBlock ∨ v'.ownBlock = some W.heap.size) := by
  obtain ⟨i, hi, hz0, hz1, hz2⟩ := info_parts info30
  rcases hx.2 with ⟨rfl, h0⟩ | ⟨g, cap, cur, rfl, _⟩
  · have hb : b = [] := List.length_eq_zero_iff.1 h0
    subst hb
    obtain ⟨A, c, rfl⟩ := slice_of hs
    refine ⟨.slice A a.length c, W, ?_, by simpa using hs, Kp.refl _ _, .inl rfl⟩
    have hc := row_cap hs
    cases A with
    | none => simp [Builtin.append_, Go.run_underlying und26, sizeOf, typeInfo, hi, Builtin.lenOf, Builtin.firstCells, loadCells, loadCellsFrom, hc]
    | some ad => simp [Builtin.append_, Go.run_underlying und26, sizeOf, typeInfo, hi, Builtin.lenOf, Builtin.firstCells, loadCells, loadCellsFrom, hc, storeCells]
  · have hc := hx.cells (g := g) rfl
    obtain ⟨v', W', hr, h2, h3, h4, h5⟩ := run_append_own_at (P := Try.prog) W 0 26 ty 30 i _ 3 24 und26 hi hz0 hz1 hz2 rfl (by decide) s a.length (lksV a) hs ⟨g, 0, none⟩ b.length cap (lksV b) hx.1 hc (lksV_one b) (by unfold maxLen; omega) (by omega) (Nat.zero_le _)
    exact ⟨v', W', hr, by rw [Rw, lksV_app, List.length_append]; exact h2, Kp.of_grown h3 fun q hq => hq, h5⟩
theorem wpList_appendAny {ops : Array Oper} {rest : List Oper} {o : Oper} {a : Act} {Q : Exit → Act → World → Prop} {W : World} (hgd : o.guard = none) (s x : Operand) (ho : o.op = .call { callee := .builtin .append, args := #[s, x], argTypes := #[26, 26] })
    (sv xv : Value) (xs ys : List Lk) (hs : a.eval s = sv) (hx : a.eval x = xv) (h1 : Rw W sv xs) (h2 : Rw W xv ys) (hn : xs.length + ys.length ≤ 1000)
    (hK : ∀ v' W', Rw W' v' (xs ++ ys) → Kp (fun q => sv.ownBlock = some q) W W' → (v'.ownBlock = sv.ownBlock ∨ v'.ownBlock = some W.heap.size) → wpList Try.prog ops Q rest (a.put o.dst v') W') :
    wpList Try.prog ops Q (o :: rest) a W := by
  refine wpList_plain hgd fun K hk => ?_
  obtain ⟨v', W', hr, h2, h3, h4⟩ := append_any h1 h2 hn o.type
  unfold Oper.wp execOp
  simp only [ho, resolve, invoke, builtin, Sem.run_bind, Sem.run_pure, Result.andThen_ok, List.map_toArray, List.map_cons, List.map_nil, hs, hx, hr]
  exact hk _ _ (hK v' W' h2 h3 h4)
theorem Rw.nil (W : World) : Rw W (.slice none 0 0) [] := World.ownsRow_nil _ _ _ _
theorem Rep.row {M : Nat → Prop} {ls : List Lk} {fb : Nat} {W : World} (h : Rep M ls fb W) : ∃ nb ub A c, W.heap[fb]? = some (.cells #[.bool true, .slice A ls.length c, .map (some nb), .map (some ub)] 52 (0, 0)) ∧ Rw W (.slice A ls.length c) ls ∧ M fb ∧ ls.length ≤ 200 ∧ For ls ∧ (∀ g, (Value.slice A ls.length c).ownBlock = some g → M g) := by
  obtain ⟨nb, ub, v, nm, u, r, d, H⟩ := h
  obtain ⟨A, c, rfl⟩ := slice_of H.row
  exact ⟨nb, ub, A, c, H.hfb, H.row, H.mfb, H.len, H.for_, H.mv⟩
set_option maxHeartbeats 400000 in
theorem len_calls {M : Nat → Prop} {ls : List Lk} {fb : Nat} {W : World} (hR : Rep M ls fb W) : Calls Try.prog 21 #[.pointer (some ⟨fb, 0, none⟩)] W fun e W' => e = .returned (.int .i64 (ls.length : Int)) ∧ W' = W := by
  obtain ⟨nb, ub, A, c, hfb, hrow, mfb, hlen, _⟩ := hR.row
  obtain ⟨c1, f1⟩ := box_cells hfb (j := 1) rfl
  refine calls_of_wp Try.func21 rfl ?_
  simp only [Try.ntmps21, List.size_toArray, List.length_cons, List.length_nil, Nat.reduceAdd, Nat.reduceSub, Array.replicate_succ, Array.replicate_zero, List.push_toArray, List.append_toArray, List.nil_append, List.cons_append]
  go_wp2_with (fail)
  exact ⟨rfl, .int .i64 (ls.length : Int), by simp [results, Try.results21, go_sem], rfl, rfl⟩
theorem run_eqlNil (A : Option Addr) (n c : Nat) (w : World) : (binOp .eql 26 (.slice A n c) (.slice none 0 0)).run Try.prog w = .ok (.bool A.isNone) w := by
  cases A <;> kernel_rfl
theorem rw_new (W : World) : Rw (W.alloc (.cells #[] 30)) (.slice (some ⟨W.heap.size, 0, none⟩) 0 0) [] :=
  ⟨rfl, .inr ⟨W.heap.size, 0, #[], rfl, Nat.zero_le _, (heap_alloc W _).1, Nat.le_refl _, Nat.zero_le _, rfl, rfl⟩⟩
set_option maxHeartbeats 400000 in
theorem clone_calls {ls : List Lk} {W : World} {v : Value} (hv : Rw W v ls) (hl : ls.length ≤ 200) : Calls Try.prog 30 #[v] W fun e W' => ∃ v', e = .returned v' ∧ RowN W ls v' W' ∧ Kp (fun _ => False) W W' := by
  have hv0 := hv
  have e1 := run_eqlNil none 0 0
  have e2 := fun g n c => run_eqlNil (some g) n c
  simp only [Option.isNone_none, Option.isNone_some] at e1 e2
  refine calls_of_wp Try.func30 rfl ?_
  simp only [Try.ntmps30, List.size_toArray, List.length_cons, List.length_nil, Nat.reduceAdd, Nat.reduceSub, Array.replicate_succ, Array.replicate_zero, List.push_toArray, List.append_toArray, List.nil_append, List.cons_append]
  rcases hv.2 with ⟨rfl, h0⟩ | ⟨g, cap, cur, rfl, hr⟩
  · have hb : ls = [] := List.length_eq_zero_iff.1 h0
    subst hb
    go_wp2_with (fail)
    exact ⟨rfl, .slice none 0 0, by simp [results, Try.results30, go_sem], .slice none 0 0, rfl, ⟨Rw.nil _, fun g hg => by cases hg⟩, Kp.refl _ _⟩
  · have q1 := rw_new W
    have q2 : Rw (W.alloc (.cells #[] 30)) (.slice (some ⟨g, 0, none⟩) ls.length cap) ls := hv0.alloc _
    go_wp2_with (first
      | (at_builtin; refine wpList_appendAny rfl (.tmp 5) (.tmp 6) rfl _ _ [] ls rfl rfl q1 q2 (by simp; omega) ?_; intro v' W' hr' hk' hg'; obtain ⟨A', c', rfl⟩ := slice_of hr')
      | fail)
    have hs : (W.alloc (.cells #[] 30)).heap.size = W.heap.size + 1 := by simp
    refine ⟨rfl, .slice A' ([] ++ ls).length c', by simp [results, Try.results30, go_sem], _, rfl, ⟨by simpa using hr', fun q hq => ?_⟩, ?_⟩
    · rcases hg' with h | h
      · rw [h] at hq; cases hq; exact Nat.le_refl _
      · rw [h] at hq; cases hq; simp
    · refine ⟨hk'.os, hk'.tape, hk'.output, Nat.le_trans (by omega) hk'.size, fun k hl _ => ?_⟩
      rw [hk'.block k (by omega) (fun e => by have e : W.heap.size = k := Option.some.inj e; omega)]
      exact Below.heap_alloc _ _ _ hl
set_option maxHeartbeats 400000 in
theorem links_calls {M : Nat → Prop} {ls : List Lk} {fb : Nat} {W : World} (hR : Rep M ls fb W) : Calls Try.prog 22 #[.pointer (some ⟨fb, 0, none⟩)] W fun e W' => ∃ v', e = .returned v' ∧ RowN W ls v' W' ∧ Kp (fun _ => False) W W' := by
  obtain ⟨nb, ub, A, c, hfb, hrow, mfb, hlen, _⟩ := hR.row
  obtain ⟨c1, f1⟩ := box_cells hfb (j := 1) rfl
  have hc := clone_calls hrow hlen
  refine calls_of_wp Try.func22 rfl ?_
  simp only [Try.ntmps22, List.size_toArray, List.length_cons, List.length_nil, Nat.reduceAdd, Nat.reduceSub, Array.replicate_succ, Array.replicate_zero, List.push_toArray, List.append_toArray, List.nil_append, List.cons_append]
  go_wp2_with (first
    | ((with_reducible refine hc.mono ?_); rintro e W2 ⟨v', rfl, hr, hk⟩; obtain ⟨A', c', rfl⟩ := slice_of hr.row)
    | fail)
  exact ⟨rfl, .slice A' ls.length c', by simp [results, Try.results22, go_sem], _, rfl, hr, hk⟩
end Go.Proofs.Ytmkhglpfhnocaaa.Fn
