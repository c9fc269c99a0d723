import Derived.Laws.EntriesVeiled
import Derived.Test.YtmkhglpfhnocaaaFw
namespace Go.Proofs.Ytmkhglpfhnocaaa.Fn
open Go Go.RowKit Go.MapKept Go.Proofs Forest17
set_option linter.unusedVariables false
set_option maxRecDepth 100000
set_option linter.unusedSimpArgs false
open Go.Shelf
attribute [local go_sem] Oper.semAt_some
/-- The path of the program. -/
noncomputable def pathQ (ls : List Lk) (a b : Int) : Option (List Lk) := if sameB ls a b then pathS ls a b else none
theorem sameB_some {ls : List Lk} {a b : Int} (h : sameB ls a b = true) : (pathS ls a b).isSome = true := by
  unfold sameB cnB at h
  simp only [Bool.and_eq_true] at h
  exact h.2
theorem pathQ_isSome (ls : List Lk) (a b : Int) : (pathQ ls a b).isSome = sameB ls a b := by
  unfold pathQ
  cases h : sameB ls a b with
  | true => rw [if_pos rfl]; exact sameB_some h
  | false => rfl
/-- A row of links that was laid behind W. -/
structure RowN (W : World) (p : List Lk) (v : Value) (W' : World) : Prop where
  row : W'.ownsRow 0 30 3 v p.length (lksV p)
  new : ∀ g, v.ownBlock = some g → W.heap.size ≤ g
theorem alloc2_last (W : World) (o : Obj) (v : Value) (e : TypeId) : ((W.alloc o).alloc (.cells #[v] e)).cell? ⟨W.heap.size + 1, 0, none⟩ = some v ∧ ((W.alloc o).alloc (.cells #[v] e)).frozen? ⟨W.heap.size + 1, 0, none⟩ = false := by
  have h := (heap_alloc (W.alloc o) (.cells #[v] e)).1
  rw [show (W.alloc o).heap.size = W.heap.size + 1 by simp] at h
  exact box_cells h (j := 0) rfl
theorem walk_top {M : Nat → Prop} {ls : List Lk} {fb bb fbb : Nat} {W3 : World} {a b : Int} {p : List Lk} (hR : Rep M ls fb W3) (hp : pathS ls a b = some p) (hbb : W3.heap[bb]? = some (.cells #[.int .i64 b] 3 (0, 0))) (hfbb : W3.heap[fbb]? = some (.cells #[.pointer (some ⟨fb, 0, none⟩)] 24 (0, 0))) :
    Calls Try.prog 26 #[.int .i64 a, .int .i64 (-1), .pointer (some ⟨bb, 0, none⟩), .pointer (some ⟨fbb, 0, none⟩), .pointer (some ⟨W3.heap.size, 0, none⟩), .pointer (some ⟨W3.heap.size + 1, 0, none⟩)]
      ((W3.alloc (.cells #[.slice none 0 0] 26)).alloc (.cells #[.func (.func 26) #[] #[.pointer (some ⟨bb, 0, none⟩), .pointer (some ⟨fbb, 0, none⟩), .pointer (some ⟨W3.heap.size, 0, none⟩), .pointer (some ⟨W3.heap.size + 1, 0, none⟩)]] 46))
      fun e W4 => e = .returned (.bool true) ∧ ∃ A c, W4.cell? ⟨W3.heap.size, 0, none⟩ = some (.slice A p.length c) ∧ RowN W3 p (.slice A p.length c) W4 ∧ Kp (fun _ => False) W3 W4 := by
  obtain ⟨W5, hW5⟩ : ∃ W5, W5 = ((W3.alloc (.cells #[.slice none 0 0] 26)).alloc (.cells #[.func (.func 26) #[] #[.pointer (some ⟨bb, 0, none⟩), .pointer (some ⟨fbb, 0, none⟩), .pointer (some ⟨W3.heap.size, 0, none⟩), .pointer (some ⟨W3.heap.size + 1, 0, none⟩)]] 46)) := ⟨_, rfl⟩
  have hk : Kp (fun _ => False) W3 W5 := by rw [hW5]; exact (Kp.alloc _ _).trans (Kp.alloc _ _)
  have hs5 : W5.heap.size = W3.heap.size + 2 := by rw [hW5]; simp
  have c1 : W5.heap[W3.heap.size]? = some (.cells #[.slice none 0 0] 26 (0, 0)) := by
    rw [hW5, Below.heap_alloc _ _ _ (by simp)]; exact (heap_alloc W3 _).1
  have c2 : W5.heap[W3.heap.size + 1]? = some (.cells #[.func (.func 26) #[] #[.pointer (some ⟨bb, 0, none⟩), .pointer (some ⟨fbb, 0, none⟩), .pointer (some ⟨W3.heap.size, 0, none⟩), .pointer (some ⟨W3.heap.size + 1, 0, none⟩)]] 46 (0, 0)) := by
    have := (heap_alloc (W3.alloc (.cells #[.slice none 0 0] 26)) (.cells #[.func (.func 26) #[] #[.pointer (some ⟨bb, 0, none⟩), .pointer (some ⟨fbb, 0, none⟩), .pointer (some ⟨W3.heap.size, 0, none⟩), .pointer (some ⟨W3.heap.size + 1, 0, none⟩)]] 46)).1
    rw [hW5]; simpa using this
  rw [← hW5]
  have hR5 := hR.kp hk fun _ _ _ => id
  obtain ⟨nb, ub, v, nm, u, r, d, H⟩ := hR5
  have hd : dfs ls b (ls.length + 1) a (-1) = some (some p) := by rw [← hp]; exact pathS_dfs H.for_ a b
  have V : Wv W5 M ls fb nb ub v nm b bb fbb W3.heap.size (W3.heap.size + 1) := ⟨H.for_, H.len, hk.heap hbb id, hk.heap hfbb id, c2, H.hfb, H.row, H.hnm, H.near⟩
  have hlen := H.len
  refine (walk_calls V (by rw [hs5]; omega) ⟨_, c1⟩ (ls.length + 1) a (-1) (some p) W5 [] hd (Kp.refl _ _) ⟨none, 0, c1, World.ownsRow_nil _ _ _ _, fun ad h => by cases h⟩ (by simp; omega)).mono ?_
  rintro e W4 ⟨rfl, hk4, A, c, h1, h2, h3⟩
  simp only [List.nil_append, Option.getD_some] at h1 h2
  refine ⟨rfl, A, c, (box_cells h1 (j := 0) rfl).1, ⟨h2, fun g hg => ?_⟩, ⟨hk4.os.trans hk.os, hk4.tape.trans hk.tape, hk4.output.trans hk.output, Nat.le_trans hk.size hk4.size, fun k hl _ => by rw [hk4.block k (by omega) (by omega), hk.block k hl id]⟩⟩
  cases A with
  | none => cases hg
  | some ad => simp only [Value.ownBlock, Option.some.injEq] at hg; have := h3 ad rfl; omega
set_option maxHeartbeats 1000000 in
theorem path_calls {M : Nat → Prop} {ls : List Lk} {fb : Nat} {W : World} (hR : Rep M ls fb W) (a b : Int) : Calls Try.prog 13 #[.pointer (some ⟨fb, 0, none⟩), .int .i64 a, .int .i64 b] W fun e W' => ∃ v, e = .returned (.tuple #[v, .bool (sameB ls a b)]) ∧ RowN W ((pathQ ls a b).getD []) v W' ∧ Rep M ls fb W' ∧ Kp M W W' := by
  have hRM : Rep (fun k => M k ∧ k < W.heap.size) ls fb W := hR.mono fun k hl hm => ⟨hm, hl⟩
  obtain ⟨W2, hW2⟩ : ∃ W2, W2 = (W.alloc (.cells #[.pointer (some ⟨fb, 0, none⟩)] 24)).alloc (.cells #[.int .i64 b] 3) := ⟨_, rfl⟩
  have hk2 : Kp (fun _ => False) W W2 := by rw [hW2]; exact (Kp.alloc _ _).trans (Kp.alloc _ _)
  have hs2 : W2.heap.size = W.heap.size + 2 := by rw [hW2]; simp
  have b1 : W2.heap[W.heap.size]? = some (.cells #[.pointer (some ⟨fb, 0, none⟩)] 24 (0, 0)) := by
    rw [hW2, Below.heap_alloc _ _ _ (by simp)]; exact (heap_alloc W _).1
  have b2 : W2.heap[W.heap.size + 1]? = some (.cells #[.int .i64 b] 3 (0, 0)) := by
    have := (heap_alloc (W.alloc (.cells #[.pointer (some ⟨fb, 0, none⟩)] 24)) (.cells #[.int .i64 b] 3)).1
    rw [hW2]; simpa using this
  have hR2 := hRM.kp hk2 fun _ _ _ => id
  have hsame := same_calls hR2 a b
  refine calls_of_wp Try.func13 rfl ?_
  simp only [Try.ntmps13, List.size_toArray, List.length_cons, List.length_nil, Nat.reduceAdd, Nat.reduceSub, Array.replicate_succ, Array.replicate_zero, List.push_toArray, List.append_toArray, List.nil_append, List.cons_append]
  rw [hW2] at hsame
  cases hsm : sameB ls a b with
  | false =>
    rw [hsm] at hsame
    go_wp2_with (first
      | ((with_reducible refine hsame.mono ?_); rintro e W3 ⟨rfl, hR3, hk3⟩)
      | fail)
    refine ⟨rfl, .tuple #[.slice none 0 0, .bool false], by simp [results, Try.results13, go_sem], .slice none 0 0, rfl, ⟨?_, fun g hg => by cases hg⟩, hR3.mono fun k _ h => h.1, ((hk2.imp fun _ _ h => h.elim).trans ((by rw [hW2]; exact hk3 : Kp (fun k => M k ∧ k < W.heap.size) W2 W3).imp fun _ _ h => h.1))⟩
    unfold pathQ
    rw [hsm]
    exact World.ownsRow_nil _ _ _ _
  | true =>
    rw [hsm] at hsame
    obtain ⟨p, hp⟩ := Option.isSome_iff_exists.1 (sameB_some hsm)
    go_wp2_with (first
      | ((with_reducible refine hsame.mono ?_); rintro e W3 ⟨rfl, hR3, hk3⟩; obtain ⟨w1, w2⟩ := alloc2_last W3 (.cells #[.slice none 0 0] 26) .nilFunc 46; have hk3' : Kp (fun k => M k ∧ k < W.heap.size) W2 W3 := (by rw [hW2]; exact hk3); have hwalk := walk_top hR3 hp (hk3'.heap b2 (by omega)) (hk3'.heap b1 (by omega)))
      | ((with_reducible refine hwalk.mono ?_); rintro e W4 ⟨rfl, A, c, o1, o2, hk4⟩))
    refine ⟨rfl, .tuple #[.slice A p.length c, .bool true], by simp [results, Try.results13, go_sem], .slice A p.length c, rfl, ?_, (hR3.kp hk4 fun _ _ _ => id).mono fun k _ h => h.1, ?_⟩
    · have : (pathQ ls a b).getD [] = p := by unfold pathQ; rw [hsm, if_pos rfl, hp]; rfl
      rw [this]
      exact ⟨o2.row, fun g hg => Nat.le_trans (Nat.le_trans hk2.size hk3'.size) (o2.new g hg)⟩
    · exact ((hk2.imp fun _ _ h => h.elim).trans (hk3'.imp fun _ _ h => h.1)).trans (hk4.imp fun _ _ h => h.elim)
end Go.Proofs.Ytmkhglpfhnocaaa.Fn
