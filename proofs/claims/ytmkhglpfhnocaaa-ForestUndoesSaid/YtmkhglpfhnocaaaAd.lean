import Derived.Test.YtmkhglpfhnocaaaFd
namespace Go.Proofs.Ytmkhglpfhnocaaa.Fn
open Go Go.RowKit Go.MapKept Go.Proofs Forest17
set_option linter.unusedVariables false
set_option maxRecDepth 100000
set_option linter.unusedSimpArgs false
open Go.Shelf
attribute [local go_sem] Oper.semAt_some
/-- The lists of the links at an id. -/
structure Nr (W : World) (ls : List Lk) (nm : Int → Option Value) (M : Nat → Prop) : Prop where
  row : ∀ x, (nm x = none ∧ near ls x = []) ∨ ∃ v g, nm x = some v ∧ v.ownBlock = some g ∧ M g ∧ W.ownsRow 0 3 1 v (near ls x).length ((near ls x).map natV)
  inj : ∀ x y v v' g, nm x = some v → nm y = some v' → v.ownBlock = some g → v'.ownBlock = some g → x = y
/-- A forest in memory: M: the blocks that it may use. -/
structure Rp (M : Nat → Prop) (ls : List Lk) (fb nb ub : Nat) (v : Value) (nm : Int → Option Value) (u : Int → Option Int) (r : Int → Int) (d : Int → Nat) (W : World) : Prop where
  for_ : For ls
  len : ls.length ≤ 200
  hfb : W.heap[fb]? = some (.cells #[.bool true, v, .map (some nb), .map (some ub)] 52 (0, 0))
  row : W.ownsRow 0 30 3 v ls.length (lksV ls)
  hnm : MapIs W nb nm
  hum : MapIs W ub (U2 u)
  near : Nr W ls nm M
  uf : UF u r d
  cn : ∀ x y, r x = r y ↔ Cn ls (fun _ => True) x y
  ne : nb ≠ ub
  mfb : M fb
  mnb : M nb
  mub : M ub
  mv : ∀ g, v.ownBlock = some g → M g
def Rep (M : Nat → Prop) (ls : List Lk) (fb : Nat) (W : World) : Prop := ∃ nb ub v nm u r d, Rp M ls fb nb ub v nm u r d W
theorem slice_of {W : World} {B n sz : Nat} {e : TypeId} {v : Value} {xs : List Value} (h : W.ownsRow B e sz v n xs) : ∃ A c, v = .slice A n c := by
  rcases h.2 with ⟨rfl, rfl⟩ | ⟨g, cap, cur, hv, _⟩
  · exact ⟨none, 0, rfl⟩
  · exact ⟨_, _, hv⟩
theorem info3 : (Try.prog.info? 3).map (fun i => (i.zero, i.size, i.bytes)) = some (some (.int .i64 0), 1, 8) := by kernel_rfl
theorem info30 : (Try.prog.info? 30).map (fun i => (i.zero, i.size, i.bytes)) = some (some (.agg #[.int .i64 0, .int .i64 0, .int .i64 0]), 3, 24) := by kernel_rfl
theorem und53 : Try.prog.underlying 53 = some (.slice 3) := by kernel_rfl
theorem und26 : Try.prog.underlying 26 = some (.slice 30) := by kernel_rfl
/-- Two maps and two rows of a kind lie apart. -/
theorem heap_ne {W : World} {a b : Nat} {x y : Obj} (ha : W.heap[a]? = some x) (hb : W.heap[b]? = some y) (h : x ≠ y) : a ≠ b := fun e => h (by rw [e, hb] at ha; exact (Option.some.inj ha).symm)
theorem map_ne {W : World} {a b : Nat} {cs : Array Value} {e : TypeId} {fz : Nat × Nat} {m : Int → Option Value} (ha : W.heap[a]? = some (.cells cs e fz)) (hb : MapIs W b m) : a ≠ b := by
  obtain ⟨es, cl, h1, _⟩ := hb.ex
  exact heap_ne ha h1 (by simp)
/-- One more number at the end of a row of one's own, and where the row then lies. -/
theorem push_near {W : World} {v : Value} {n k : Nat} {xs : List Value} (h : W.ownsRow 0 3 1 v n xs) (hn : n ≤ 200) (ty : TypeId) : ∃ v' W', (Builtin.append_ #[53, 53] ty #[v, .slice (some ⟨W.heap.size, 0, none⟩) 1 1]).run Try.prog (W.alloc (.cells #[natV k] 3)) = .ok v' W' ∧ W'.ownsRow 0 3 1 v' (n + 1) (xs ++ [natV k]) ∧ Kp (fun q => v.ownBlock = some q) W W' ∧ (∃ g, v'.ownBlock = some g ∧ (v.ownBlock = some g ∨ W.heap.size ≤ g)) := by
  obtain ⟨i, hi, hz0, hz1, hz2⟩ := info_parts info3
  have hown := h.alloc (.cells #[natV k] 3)
  obtain ⟨v', W', hr, h2, h3, h4, h5⟩ := run_append_own_at (P := Try.prog) (W.alloc (.cells #[natV k] 3)) 0 53 ty 3 i _ 1 8 und53 hi hz0 hz1 hz2 rfl (by decide) v n xs hown ⟨W.heap.size, 0, none⟩ 1 1 [natV k] rfl (cell_one_new _ _ _) (ints_oneCell .i64 [(k : Int)]) (by unfold maxLen; omega) (by omega) (Nat.zero_le _)
  refine ⟨v', W', ?_, h2, (Kp.alloc W _).trans (Kp.of_grown h3 fun q hq => hq), ?_⟩
  · exact hr
  · rcases h2.2 with ⟨_, h0⟩ | ⟨g, cap, cur, hv, _⟩
    · omega
    · refine ⟨g, by rw [hv]; rfl, ?_⟩
      rcases h5 with h5 | h5
      · exact .inl (by rw [← h5, hv]; rfl)
      · rw [hv] at h5
        simp only [Value.ownBlock, Option.some.injEq] at h5
        exact .inr (by rw [h5]; simp)

theorem push_link {W : World} {v : Value} {ls : List Lk} {l : Lk} (h : W.ownsRow 0 30 3 v ls.length (lksV ls)) (hn : ls.length ≤ 1000) (ty : TypeId) : ∃ v' W', (Builtin.append_ #[26, 26] ty #[v, .slice (some ⟨W.heap.size, 0, none⟩) 1 1]).run Try.prog (W.alloc (.cells #[.int .i64 l.1, .int .i64 l.2.1, .int .i64 l.2.2] 30)) = .ok v' W' ∧ W'.ownsRow 0 30 3 v' (ls ++ [l]).length (lksV (ls ++ [l])) ∧ Kp (fun q => v.ownBlock = some q) W W' ∧ (∃ g, v'.ownBlock = some g ∧ (v.ownBlock = some g ∨ W.heap.size ≤ g)) := by
  obtain ⟨i, hi, hz0, hz1, hz2⟩ := info_parts info30
  have hown := h.alloc (.cells #[.int .i64 l.1, .int .i64 l.2.1, .int .i64 l.2.2] 30)
  have hcs : ∀ j u, (lkV l)[j]? = some u → (W.alloc (.cells #[.int .i64 l.1, .int .i64 l.2.1, .int .i64 l.2.2] 30)).cell? ((⟨W.heap.size, 0, none⟩ : Addr).add j) = some u := fun j u hj => by
    have hq := (heap_alloc W (.cells #[.int .i64 l.1, .int .i64 l.2.1, .int .i64 l.2.2] 30)).1
    match j, hj with
    | 0, hj => cases hj; exact (box_cells hq (j := 0) rfl).1
    | 1, hj => cases hj; exact (box_cells hq (j := 1) rfl).1
    | 2, hj => cases hj; exact (box_cells hq (j := 2) rfl).1
    | j + 3, hj => simp [lkV] at hj
  obtain ⟨v', W', hr, h2, h3, h4, h5⟩ := run_append_own_at (P := Try.prog) (W.alloc (.cells #[.int .i64 l.1, .int .i64 l.2.1, .int .i64 l.2.2] 30)) 0 26 ty 30 i _ 3 24 und26 hi hz0 hz1 hz2 rfl (by decide) v ls.length (lksV ls) hown ⟨W.heap.size, 0, none⟩ 1 1 (lkV l) rfl hcs (by unfold lkV; simp [Value.oneCell']) (by unfold maxLen; omega) (by omega) (Nat.zero_le _)
  refine ⟨v', W', hr, ?_, (Kp.alloc W _).trans (Kp.of_grown h3 fun q hq => hq), ?_⟩
  · rw [List.length_append, show lksV (ls ++ [l]) = lksV ls ++ lkV l by simp [lksV]]; exact h2
  · rcases h2.2 with ⟨_, h0⟩ | ⟨g, cap, cur, hv, _⟩
    · omega
    · refine ⟨g, by rw [hv]; rfl, ?_⟩
      rcases h5 with h5 | h5
      · exact .inl (by rw [← h5, hv]; rfl)
      · rw [hv] at h5
        simp only [Value.ownBlock, Option.some.injEq] at h5
        exact .inr (by rw [h5]; simp)
theorem Nr.get {W : World} {ls : List Lk} {nm : Int → Option Value} {M : Nat → Prop} (h : Nr W ls nm M) (x : Int) : W.ownsRow 0 3 1 ((nm x).getD (.slice none 0 0)) (near ls x).length ((near ls x).map natV) ∧ ∀ g, ((nm x).getD (.slice none 0 0)).ownBlock = some g → M g ∧ ∃ v, nm x = some v ∧ v.ownBlock = some g := by
  rcases h.row x with ⟨h1, h2⟩ | ⟨v, g, h1, h2, h3, h4⟩
  · rw [h1, h2]; exact ⟨World.ownsRow_nil _ _ _ _, fun g hg => by cases hg⟩
  · rw [h1]; exact ⟨h4, fun g' hg' => by simp only [Option.getD_some] at hg'; rw [h2] at hg'; cases hg'; exact ⟨h3, v, rfl, h2⟩⟩
theorem near_le (ls : List Lk) (x : Int) : (near ls x).length ≤ ls.length := by
  unfold near
  exact Nat.le_trans (List.length_filter_le _ _) (by simp)
theorem cell_lt {W : World} {a : Addr} {v : Value} (h : W.cell? a = some v) : a.block < W.heap.size := by
  unfold World.cell? at h
  split at h
  · rename_i hq; exact (Array.getElem?_eq_some_iff.1 hq).1
  · cases h
structure S1 (fb nb lb : Nat) (v : Value) (ub : Nat) (l : Lk) (W0 w : World) : Prop where
  c1 : w.cell? ⟨fb, 1, none⟩ = some v
  c2 : w.cell? ⟨fb, 2, none⟩ = some (.map (some nb))
  c3 : w.cell? ⟨fb, 3, none⟩ = some (.map (some ub))
  l0 : w.cell? ⟨lb, 0, none⟩ = some (.int .i64 l.1)
  l1 : w.cell? ⟨lb, 1, none⟩ = some (.int .i64 l.2.1)
  l2 : w.cell? ⟨lb, 2, none⟩ = some (.int .i64 l.2.2)
  nb : w.heap[nb]? = W0.heap[nb]?
theorem S1.of {fb nb lb ub : Nat} {v : Value} {l : Lk} {W0 w : World} (h1 : w.heap[fb]? = some (.cells #[.bool true, v, .map (some nb), .map (some ub)] 52 (0, 0))) (h2 : w.heap[lb]? = some (.cells #[.int .i64 l.1, .int .i64 l.2.1, .int .i64 l.2.2] 30 (0, 0))) (h3 : w.heap[nb]? = W0.heap[nb]?) : S1 fb nb lb v ub l W0 w :=
  ⟨(box_cells h1 (j := 1) rfl).1, (box_cells h1 (j := 2) rfl).1, (box_cells h1 (j := 3) rfl).1, (box_cells h2 (j := 0) rfl).1, (box_cells h2 (j := 1) rfl).1, (box_cells h2 (j := 2) rfl).1, h3⟩
theorem S1.alloc {fb nb lb ub : Nat} {v : Value} {l : Lk} {W0 w : World} (h : S1 fb nb lb v ub l W0 w) (o : Obj) (hn : nb < w.heap.size) : S1 fb nb lb v ub l W0 (w.alloc o) := by
  have q : ∀ {a : Addr} {x : Value}, w.cell? a = some x → (w.alloc o).cell? a = some x := fun {a x} ha => by
    rw [World.cell?, Below.heap_alloc _ _ _ (cell_lt ha)]; exact ha
  exact ⟨q h.c1, q h.c2, q h.c3, q h.l0, q h.l1, q h.l2, by rw [Below.heap_alloc _ _ _ hn]; exact h.nb⟩
theorem UF.rr {u : Int → Option Int} {r : Int → Int} {d : Int → Nat} (h : UF u r d) (x : Int) : r (r x) = r x := h.top _ (h.root _ x (Nat.le_refl _)).1
theorem UF.union {u : Int → Option Int} {r : Int → Int} {d : Int → Nat} (h : UF u r d) {a b : Int} (hab : r a ≠ r b) : UF (fun j => if j = r a then some (r b) else u j) (fun z => if r z = r a then r b else r z) (fun z => if r z = r a then d z + d (r b) + 1 else d z) := by
  refine ⟨fun x hx => ?_, fun x y hx => ?_⟩
  · by_cases e : x = r a
    · rw [if_pos e] at hx; cases hx
    · rw [if_neg e] at hx
      have q := h.top x hx
      rw [q, if_neg e]
  · by_cases e : x = r a
    · rw [if_pos e] at hx
      cases hx
      rw [e, h.rr, h.rr, if_neg (Ne.symm hab), if_pos rfl, if_neg (Ne.symm hab), if_pos rfl]
      exact ⟨rfl, by omega⟩
    · rw [if_neg e] at hx
      obtain ⟨q1, q2⟩ := h.up x y hx
      rw [q1]
      refine ⟨rfl, ?_⟩
      split <;> omega
theorem cn_union {ls : List Lk} {l : Lk} {r : Int → Int} (h : ∀ x y, r x = r y ↔ Cn ls (fun _ => True) x y) (x y : Int) : ((if r x = r l.1 then r l.2.1 else r x) = if r y = r l.1 then r l.2.1 else r y) ↔ Cn (ls ++ [l]) (fun _ => True) x y := by
  have hl : Cn (ls ++ [l]) (fun _ => True) l.1 l.2.1 := Cn.one trivial (inc_last ls l)
  have up : ∀ {p q : Int}, r p = r q → Cn (ls ++ [l]) (fun _ => True) p q := fun e => ((h _ _).1 e).app
  constructor
  · intro e
    by_cases hx : r x = r l.1
    · by_cases hy : r y = r l.1
      · exact up (hx.trans hy.symm)
      · rw [if_pos hx, if_neg hy] at e
        exact (up hx).trans (hl.trans (up e))
    · by_cases hy : r y = r l.1
      · rw [if_neg hx, if_pos hy] at e
        exact (up e).trans (hl.symm.trans (up hy.symm))
      · rw [if_neg hx, if_neg hy] at e
        exact up e
  · intro e
    rcases e.snoc with e | ⟨e1, e2⟩ | ⟨e1, e2⟩
    · rw [(h _ _).2 e]
    · rw [if_pos ((h _ _).2 e1), (h _ _).2 e2.symm]
      split <;> rfl
    · rw [(h _ _).2 e1, if_pos ((h _ _).2 e2.symm)]
      split <;> rfl
theorem Nr.snoc {M : Nat → Prop} {W W' : World} {ls : List Lk} {l : Lk} {nm : Int → Option Value} (H : Nr W ls nm M) (hab : l.2.1 ≠ l.1) {v1 v2 x1 x2 : Value} {g1 g2 : Nat}
    (hx1 : (nm l.1).getD (.slice none 0 0) = x1) (hx2 : (nm l.2.1).getD (.slice none 0 0) = x2)
    (hr1 : W'.ownsRow 0 3 1 v1 ((near ls l.1).length + 1) ((near ls l.1).map natV ++ [natV ls.length])) (hr2 : W'.ownsRow 0 3 1 v2 ((near ls l.2.1).length + 1) ((near ls l.2.1).map natV ++ [natV ls.length]))
    (hg1 : v1.ownBlock = some g1) (hg2 : v2.ownBlock = some g2) (h1 : x1.ownBlock = some g1 ∨ W.heap.size ≤ g1) (h2 : x2.ownBlock = some g2 ∨ W.heap.size ≤ g2) (hne : g1 ≠ g2)
    (hold : ∀ x v g n xs, x ≠ l.1 → x ≠ l.2.1 → nm x = some v → v.ownBlock = some g → W.ownsRow 0 3 1 v n xs → W'.ownsRow 0 3 1 v n xs) : Nr W' (ls ++ [l]) (upd (upd nm l.1 v1) l.2.1 v2) (fun k => M k ∨ W.heap.size ≤ k) := by
  have m1 := (H.get l.1).2
  have m2 := (H.get l.2.1).2
  rw [hx1] at m1
  rw [hx2] at m2
  have hlt : ∀ x v g, nm x = some v → v.ownBlock = some g → g < W.heap.size := fun x v g hv hg => by
    rcases H.row x with ⟨q, _⟩ | ⟨v', g', q1, q2, q3, q4⟩
    · rw [q] at hv; cases hv
    · rw [q1] at hv; cases hv
      obtain ⟨cur, hc⟩ := ownsRow_lt q4 hg
      exact (Array.getElem?_eq_some_iff.1 hc).1
  have u1 : upd (upd nm l.1 v1) l.2.1 v2 l.1 = some v1 := by unfold upd; rw [if_neg (Ne.symm hab), if_pos rfl]
  have u2 : upd (upd nm l.1 v1) l.2.1 v2 l.2.1 = some v2 := by unfold upd; rw [if_pos rfl]
  have u3 : ∀ x, x ≠ l.1 → x ≠ l.2.1 → upd (upd nm l.1 v1) l.2.1 v2 x = nm x := fun x q1 q2 => by unfold upd; rw [if_neg q2, if_neg q1]
  have other1 : ∀ x v, x ≠ l.1 → nm x = some v → v.ownBlock ≠ some g1 := fun x v hx hv hg => by
    rcases h1 with h1 | h1
    · obtain ⟨_, q, e1, e2⟩ := m1 g1 h1
      exact hx (H.inj _ _ _ _ g1 hv e1 hg e2)
    · have := hlt x v g1 hv hg; omega
  have other2 : ∀ x v, x ≠ l.2.1 → nm x = some v → v.ownBlock ≠ some g2 := fun x v hx hv hg => by
    rcases h2 with h2 | h2
    · obtain ⟨_, q, e1, e2⟩ := m2 g2 h2
      exact hx (H.inj _ _ _ _ g2 hv e1 hg e2)
    · have := hlt x v g2 hv hg; omega
  refine ⟨fun x => ?_, fun x y v v' g hv hv' hg hg' => ?_⟩
  · rw [near_app]
    by_cases hx1' : x = l.1
    · subst hx1'
      rw [if_pos (show At l l.1 from Or.inl rfl)]
      refine .inr ⟨v1, g1, u1, hg1, h1.imp (fun h => (m1 g1 h).1) id, ?_⟩
      rw [List.length_append, List.map_append]; exact hr1
    · by_cases hx2' : x = l.2.1
      · subst hx2'
        rw [if_pos (show At l l.2.1 from Or.inr rfl)]
        refine .inr ⟨v2, g2, u2, hg2, h2.imp (fun h => (m2 g2 h).1) id, ?_⟩
        rw [List.length_append, List.map_append]; exact hr2
      · rw [if_neg (fun e => e.elim (fun e => hx1' e.symm) (fun e => hx2' e.symm)), List.append_nil, u3 x hx1' hx2']
        rcases H.row x with q | ⟨v, g, q1, q2, q3, q4⟩
        · exact .inl q
        · exact .inr ⟨v, g, q1, q2, .inl q3, hold x v g _ _ hx1' hx2' q1 q2 q4⟩
  · by_cases hx1' : x = l.1
    · by_cases hy1 : y = l.1
      · rw [hx1', hy1]
      · rw [hx1', u1] at hv; cases hv
        rw [hg1] at hg; cases hg
        by_cases hy2 : y = l.2.1
        · rw [hy2, u2] at hv'; cases hv'
          rw [hg2] at hg'; cases hg'; exact absurd rfl hne
        · rw [u3 y hy1 hy2] at hv'
          exact absurd hg' (other1 y _ hy1 hv')
    · by_cases hx2' : x = l.2.1
      · by_cases hy2 : y = l.2.1
        · rw [hx2', hy2]
        · rw [hx2', u2] at hv; cases hv
          rw [hg2] at hg; cases hg
          by_cases hy1 : y = l.1
          · rw [hy1, u1] at hv'; cases hv'
            rw [hg1] at hg'; cases hg'; exact absurd rfl hne
          · rw [u3 y hy1 hy2] at hv'
            exact absurd hg' (other2 y _ hy2 hv')
      · rw [u3 x hx1' hx2'] at hv
        by_cases hy1 : y = l.1
        · rw [hy1, u1] at hv'; cases hv'
          rw [hg1] at hg'; cases hg'; exact absurd hg (other1 x _ hx1' hv)
        · by_cases hy2 : y = l.2.1
          · rw [hy2, u2] at hv'; cases hv'
            rw [hg2] at hg'; cases hg'; exact absurd hg (other2 x _ hx2' hv)
          · rw [u3 y hy1 hy2] at hv'
            exact H.inj _ _ _ _ g hv hv' hg hg'
set_option maxHeartbeats 1000000 in
theorem add_calls {M : Nat → Prop} {ls : List Lk} {fb : Nat} {W : World} {l : Lk} (hR : Rep M ls fb W) (hn : ¬ Cn ls (fun _ => True) l.1 l.2.1) (hlen : ls.length < 200) :
    Calls Try.prog 28 #[.pointer (some ⟨fb, 0, none⟩), .agg #[.int .i64 l.1, .int .i64 l.2.1, .int .i64 l.2.2]] W fun e W' => e = .returned (.tuple #[]) ∧ Rep (fun k => M k ∨ W.heap.size ≤ k) (ls ++ [l]) fb W' ∧ Kp M W W' := by
  obtain ⟨nb, ub, v, nm, u, r, d, H⟩ := hR
  obtain ⟨A, c, rfl⟩ := slice_of H.row
  -- what the link's own block and the first list become
  obtain ⟨W1, hW1⟩ : ∃ W1, W1 = (W.alloc (.cells #[.int .i64 l.1, .int .i64 l.2.1, .int .i64 l.2.2] 30)).drew := ⟨_, rfl⟩
  have hk1 : Kp (fun _ => False) W W1 := by rw [hW1]; exact (Kp.alloc W _).trans (Kp.drew _)
  have hlb1 : W1.heap[W.heap.size]? = some (.cells #[.int .i64 l.1, .int .i64 l.2.1, .int .i64 l.2.2] 30 (0, 0)) := by rw [hW1]; exact (heap_alloc W _).1
  have hfb1 := hk1.heap H.hfb id
  have hnm1 : MapIs W1 nb nm := H.hnm.kept (hk1.block _ H.hnm.lt id)
  obtain ⟨x1r, x1m⟩ := H.near.get l.1
  obtain ⟨x1, hx1⟩ : ∃ x1, (nm l.1).getD (.slice none 0 0) = x1 := ⟨_, rfl⟩
  rw [hx1] at x1r x1m
  have hlk1 : ∀ w, w.heap[nb]? = W1.heap[nb]? → (Instr.lookup 49 (.map (some nb)) (.int .i64 l.1) false).run Try.prog w = .ok x1 w := fun w hw => by
    rw [← hx1]; exact (hnm1.kept hw).lookup und49 und3 (zero53 w) l.1
  obtain ⟨v1, W2, hrun1, hrow1, hk2, g1, hg1, hloc1⟩ := push_near (W := W1) (k := ls.length) (ownsRow_kp x1r hk1 fun _ _ => id) (Nat.le_trans (near_le ls l.1) H.len) 53
  have hnb2 : nb ≠ fb := fun e => map_ne H.hfb H.hnm e.symm
  have hx1n : ∀ g, x1.ownBlock = some g → g ≠ nb ∧ g ≠ fb ∧ g ≠ ub ∧ g < W.heap.size ∧ ∃ cur, W.heap[g]? = some (.cells cur 3 (0, 0)) := fun g hg => by
    obtain ⟨cur, hc⟩ := ownsRow_lt x1r hg
    exact ⟨map_ne hc H.hnm, heap_ne hc H.hfb (by simp), map_ne hc H.hum, (Array.getElem?_eq_some_iff.1 hc).1, cur, hc⟩
  have hnm2 : MapIs W2 nb nm := hnm1.kept (hk2.block _ hnm1.lt fun e => (hx1n nb e).1 rfl)
  obtain ⟨W3, hup1, hnm3, ho3⟩ := hnm2.update (P := Try.prog) und49 und3 l.1 v1
  have hS1 : S1 fb nb W.heap.size (.slice A ls.length c) ub l W1 W1 := .of hfb1 hlb1 rfl
  have hS1n : S1 fb nb W.heap.size (.slice A ls.length c) ub l W1 W2 := .of (hk2.heap hfb1 fun e => (hx1n _ e).2.1 rfl) (hk2.heap hlb1 fun e => Nat.lt_irrefl _ (hx1n _ e).2.2.2.1) (hk2.block _ hnm1.lt fun e => (hx1n _ e).1 rfl)
  -- the second list
  have hnbl : W.heap.size ≠ nb := fun e => absurd H.hnm.lt (by omega)
  have hab : l.2.1 ≠ l.1 := fun e => hn (by rw [e]; exact .refl _)
  obtain ⟨W4, hW4⟩ : ∃ W4, W4 = W3.drew := ⟨_, rfl⟩
  have hb4 : ∀ k : Nat, W4.heap[k]? = W3.heap[k]? := fun k => by rw [hW4]; rfl
  have hs4 : W4.heap.size = W2.heap.size := by rw [hW4]; exact ho3.size
  have hkA : Kp (fun k => x1.ownBlock = some k ∨ k = nb) W W4 := ((hk1.imp fun _ _ h => h.elim).trans (hk2.imp fun _ _ h => .inl h)).trans ((Kp.one ho3 (.inr rfl)).trans (by rw [hW4]; exact Kp.drew _))
  have hfb4 : W4.heap[fb]? = some (.cells #[.bool true, .slice A ls.length c, .map (some nb), .map (some ub)] 52 (0, 0)) := hkA.heap H.hfb fun e => e.elim (fun e => (hx1n _ e).2.1 rfl) (Ne.symm hnb2)
  have hlb4 : W4.heap[W.heap.size]? = some (.cells #[.int .i64 l.1, .int .i64 l.2.1, .int .i64 l.2.2] 30 (0, 0)) := by
    rw [hb4, ho3.block _ hnbl, hk2.block _ (Array.getElem?_eq_some_iff.1 hlb1).1 (fun e => Nat.lt_irrefl _ (hx1n _ e).2.2.2.1)]; exact hlb1
  have hnm4 : MapIs W4 nb (upd nm l.1 v1) := hnm3.kept (hb4 _)
  obtain ⟨x2r, x2m⟩ := H.near.get l.2.1
  obtain ⟨x2, hx2⟩ : ∃ x2, (nm l.2.1).getD (.slice none 0 0) = x2 := ⟨_, rfl⟩
  rw [hx2] at x2r x2m
  have hx2n : ∀ g, x2.ownBlock = some g → g ≠ nb ∧ g ≠ fb ∧ g ≠ ub ∧ g < W.heap.size ∧ ∃ cur, W.heap[g]? = some (.cells cur 3 (0, 0)) := fun g hg => by
    obtain ⟨cur, hc⟩ := ownsRow_lt x2r hg
    exact ⟨map_ne hc H.hnm, heap_ne hc H.hfb (by simp), map_ne hc H.hum, (Array.getElem?_eq_some_iff.1 hc).1, cur, hc⟩
  have w34 : Kp (fun k => k = nb ∨ x2.ownBlock = some k) W3 W4 := by rw [hW4]; exact Kp.drew _
  have hx12 : ∀ g, x2.ownBlock = some g → x1.ownBlock ≠ some g := fun g h2 h1 => by
    obtain ⟨_, q1, e1, e1'⟩ := x1m g h1
    obtain ⟨_, q2, e2, e2'⟩ := x2m g h2
    exact hab (H.near.inj _ _ _ _ g e2 e1 e2' e1')
  have hlk2 : ∀ w, w.heap[nb]? = W4.heap[nb]? → (Instr.lookup 49 (.map (some nb)) (.int .i64 l.2.1) false).run Try.prog w = .ok x2 w := fun w hw => by
    have := (hnm4.kept hw).lookup (P := Try.prog) und49 und3 (zero53 w) l.2.1
    rwa [show upd nm l.1 v1 l.2.1 = nm l.2.1 by unfold upd; rw [if_neg hab], hx2] at this
  obtain ⟨v2, W5, hrun2, hrow2, hk5, g2, hg2, hloc2⟩ := push_near (W := W4) (k := ls.length) (ownsRow_kp x2r hkA fun g hg e => e.elim (hx12 g hg) (hx2n g hg).1) (Nat.le_trans (near_le ls l.2.1) H.len) 53
  have hnm5 : MapIs W5 nb (upd nm l.1 v1) := hnm4.kept (hk5.block _ hnm4.lt fun e => (hx2n nb e).1 rfl)
  obtain ⟨W6, hup2, hnm6, ho6⟩ := hnm5.update (P := Try.prog) und49 und3 l.2.1 v2
  have hS2 : S1 fb nb W.heap.size (.slice A ls.length c) ub l W4 W4 := .of hfb4 hlb4 rfl
  have hS2n : S1 fb nb W.heap.size (.slice A ls.length c) ub l W4 W5 := .of (hk5.heap hfb4 fun e => (hx2n _ e).2.1 rfl) (hk5.heap hlb4 fun e => Nat.lt_irrefl _ (hx2n _ e).2.2.2.1) (hk5.block _ hnm4.lt fun e => (hx2n _ e).1 rfl)
  -- the links
  obtain ⟨W7, hW7⟩ : ∃ W7, W7 = W6.drew := ⟨_, rfl⟩
  have hb7 : ∀ k : Nat, W7.heap[k]? = W6.heap[k]? := fun k => by rw [hW7]; rfl
  have hkB : Kp (fun k => x2.ownBlock = some k ∨ k = nb) W4 W7 := (hk5.imp fun _ _ h => .inl h).trans ((Kp.one ho6 (.inr rfl)).trans (by rw [hW7]; exact Kp.drew _))
  have w67 : Kp (fun k => k = nb) W6 W7 := by rw [hW7]; exact Kp.drew _
  have hvn : ∀ g, (Value.slice A ls.length c).ownBlock = some g → g ≠ nb ∧ g ≠ fb ∧ g ≠ ub ∧ g < W.heap.size ∧ ∃ cur, W.heap[g]? = some (.cells cur 30 (0, 0)) := fun g hg => by
    obtain ⟨cur, hc⟩ := ownsRow_lt H.row hg
    exact ⟨map_ne hc H.hnm, heap_ne hc H.hfb (by simp), map_ne hc H.hum, (Array.getElem?_eq_some_iff.1 hc).1, cur, hc⟩
  have hvx : ∀ g, (Value.slice A ls.length c).ownBlock = some g → x1.ownBlock ≠ some g ∧ x2.ownBlock ≠ some g := fun g hg => by
    obtain ⟨_, _, _, _, cur, hc⟩ := hvn g hg
    exact ⟨fun e => (by obtain ⟨_, _, _, _, cur', hc'⟩ := hx1n g e; rw [hc] at hc'; cases hc'), fun e => (by obtain ⟨_, _, _, _, cur', hc'⟩ := hx2n g e; rw [hc] at hc'; cases hc')⟩
  have hrow7 : W7.ownsRow 0 30 3 (.slice A ls.length c) ls.length (lksV ls) := ownsRow_kp (ownsRow_kp H.row hkA fun g hg e => e.elim (hvx g hg).1 (hvn g hg).1) hkB fun g hg e => e.elim (hvx g hg).2 (hvn g hg).1
  have hfb7 := hkB.heap hfb4 fun e => e.elim (fun e => (hx2n _ e).2.1 rfl) (Ne.symm hnb2)
  have hlb7 := hkB.heap hlb4 fun e => e.elim (fun e => Nat.lt_irrefl _ (hx2n _ e).2.2.2.1) hnbl
  have hnm7 : MapIs W7 nb (upd (upd nm l.1 v1) l.2.1 v2) := hnm6.kept (hb7 _)
  obtain ⟨v3, W8, hrun3, hrow3, hk8, g3, hg3, hloc3⟩ := push_link (W := W7) (l := l) hrow7 (Nat.le_trans H.len (by decide)) 26
  obtain ⟨A3, q3, rfl⟩ := slice_of hrow3
  have hfb8 := hk8.heap hfb7 fun e => (hvn _ e).2.1 rfl
  have hlb8 := hk8.heap hlb7 fun e => Nat.lt_irrefl _ (hvn _ e).2.2.2.1
  have hnm8 := hnm7.kept (hk8.block _ hnm7.lt fun e => (hvn _ e).1 rfl)
  have hS3 : S1 fb nb W.heap.size (.slice A ls.length c) ub l W7 W7 := .of hfb7 hlb7 rfl
  have hS3n : S1 fb nb W.heap.size (.slice A ls.length c) ub l W7 W8 := .of hfb8 hlb8 (hk8.block _ hnm7.lt fun e => (hvn _ e).1 rfl)
  obtain ⟨hc8, hfr8⟩ := box_cells hfb8 (j := 1) rfl
  -- up
  obtain ⟨W9, hW9⟩ : ∃ W9, W9 = (W8.setCell ⟨fb, 1, none⟩ (.slice A3 (ls ++ [l]).length q3)).drew := ⟨_, rfl⟩
  have hk9 : Kp (fun k => k = fb) W8 W9 := by rw [hW9]; exact ((Kp.refl (fun k => k = fb) W8).setCell (p := ⟨fb, 1, none⟩) rfl _).trans (Kp.drew _)
  have hfb9 : W9.heap[fb]? = some (.cells #[.bool true, .slice A3 (ls ++ [l]).length q3, .map (some nb), .map (some ub)] 52 (0, 0)) := by
    rw [hW9]; simp [World.setCell, World.drew, Array.getElem?_modify, hfb8]
  have hlbf : W.heap.size ≠ fb := fun e => absurd (Array.getElem?_eq_some_iff.1 H.hfb).1 (by omega)
  have hlb9 := hk9.heap hlb8 hlbf
  have hubn : ub ≠ fb := fun e => map_ne H.hfb H.hum e.symm
  have hum9 : MapIs W9 ub (U2 u) := by
    have e1 : W4.heap[ub]? = W.heap[ub]? := hkA.block _ H.hum.lt fun e => e.elim (fun e => (hx1n _ e).2.2.1 rfl) (Ne.symm H.ne)
    have e2 : W7.heap[ub]? = W4.heap[ub]? := hkB.block _ (Nat.lt_of_lt_of_le H.hum.lt hkA.size) fun e => e.elim (fun e => (hx2n _ e).2.2.1 rfl) (Ne.symm H.ne)
    have e3 : W8.heap[ub]? = W7.heap[ub]? := hk8.block _ (Nat.lt_of_lt_of_le H.hum.lt (Nat.le_trans hkA.size hkB.size)) fun e => (hvn _ e).2.2.1 rfl
    have e4 : W9.heap[ub]? = W8.heap[ub]? := hk9.block _ (Nat.lt_of_lt_of_le H.hum.lt (Nat.le_trans hkA.size (Nat.le_trans hkB.size hk8.size))) hubn
    exact H.hum.kept (e4.trans (e3.trans (e2.trans e1)))
  have hS4 : S1 fb nb W.heap.size (.slice A3 (ls ++ [l]).length q3) ub l W9 W9 := .of hfb9 hlb9 rfl
  have hfind1 := find_calls (x := l.1) hfb9 hum9 H.uf
  have hS5 : ∀ W10, Kp (fun k => k = ub) W9 W10 → S1 fb nb W.heap.size (.slice A3 (ls ++ [l]).length q3) ub l W9 W10 := fun W10 hk => .of (hk.heap hfb9 (Ne.symm hubn)) (hk.heap hlb9 fun e => absurd H.hum.lt (by omega)) (hk.block _ (Nat.lt_of_lt_of_le hnm8.lt hk9.size) H.ne)
  have hfind2 : ∀ W10 u1, Kp (fun k => k = ub) W9 W10 → MapIs W10 ub (U2 u1) → UF u1 r d → _ := fun W10 u1 hk hm hu => find_calls (x := l.2.1) (hk.heap hfb9 (Ne.symm hubn)) hm hu
  refine calls_of_wp Try.func28 rfl ?_
  simp only [Try.ntmps28, List.size_toArray, List.length_cons, List.length_nil, Nat.reduceAdd, Nat.reduceSub, Array.replicate_succ, Array.replicate_zero, List.push_toArray, List.append_toArray, List.nil_append, List.cons_append]
  go_wp2_with (fail)
  refine start1 (S1 fb nb W.heap.size (.slice A ls.length c) ub l W1) 20 #[false, false, false, false, false, false, false, false, false, false, false, false, false, false, false, false, false, false, false, false, false] (by kernel_rfl) (by kernel_rfl) ?_
  rw [← hW1]
  clear hW1
  refine move1 (i := 0) (d := (some 4)) (v := _) rfl rfl (by kernel_rfl) (by rfl) (fun _ _ _ h => h) hS1 (fun w => by (go_simp; try with_reducible rfl)) ?_
  simp only [Act.put, List.setIfInBounds_toArray, List.set_cons_zero, List.set_cons_succ]
  refine move1 (i := 1) (d := (some 5)) (v := _) rfl rfl (by kernel_rfl) (by rfl) (fun _ _ _ h => h) hS1 (fun w => by (go_simp; try with_reducible rfl)) ?_
  simp only [Act.put, List.setIfInBounds_toArray, List.set_cons_zero, List.set_cons_succ]
  refine move1 (i := 2) (d := (some 6)) (v := _) rfl rfl (by kernel_rfl) (by rfl) (fun _ _ _ h => h) hS1 (fun w => by (go_simp; try with_reducible rfl)) ?_
  simp only [Act.put, List.setIfInBounds_toArray, List.set_cons_zero, List.set_cons_succ]
  refine take1 (i := 3) (d := (some 7)) (v := _) rfl rfl (by kernel_rfl) (by rfl) (fun _ _ _ h => h) hS1 (fun w hw => by obtain ⟨c1, c2, c3, l0, l1, l2, cn⟩ := hw; (go_simp; try with_reducible rfl)) ?_
  simp only [Act.put, List.setIfInBounds_toArray, List.set_cons_zero, List.set_cons_succ]
  refine move1 (i := 4) (d := (some 8)) (v := _) rfl rfl (by kernel_rfl) (by rfl) (fun _ _ _ h => h) hS1 (fun w => by (go_simp; try with_reducible rfl)) ?_
  simp only [Act.put, List.setIfInBounds_toArray, List.set_cons_zero, List.set_cons_succ]
  refine take1 (i := 5) (d := (some 9)) (v := _) rfl rfl (by kernel_rfl) (by rfl) (fun _ _ _ h => h) hS1 (fun w hw => by obtain ⟨c1, c2, c3, l0, l1, l2, cn⟩ := hw; (go_simp; try with_reducible rfl)) ?_
  simp only [Act.put, List.setIfInBounds_toArray, List.set_cons_zero, List.set_cons_succ]
  refine move1 (i := 6) (d := (some 10)) (v := _) rfl rfl (by kernel_rfl) (by rfl) (fun _ _ _ h => h) hS1 (fun w => by (go_simp; try with_reducible rfl)) ?_
  simp only [Act.put, List.setIfInBounds_toArray, List.set_cons_zero, List.set_cons_succ]
  refine move1 (i := 7) (d := (some 11)) (v := _) rfl rfl (by kernel_rfl) (by rfl) (fun _ _ _ h => h) hS1 (fun w => by (go_simp; try with_reducible rfl)) ?_
  simp only [Act.put, List.setIfInBounds_toArray, List.set_cons_zero, List.set_cons_succ]
  refine move1 (i := 8) (d := (some 12)) (v := _) rfl rfl (by kernel_rfl) (by rfl) (fun _ _ _ h => h) hS1 (fun w => by (go_simp; try with_reducible rfl)) ?_
  simp only [Act.put, List.setIfInBounds_toArray, List.set_cons_zero, List.set_cons_succ]
  refine take1 (i := 9) (d := (some 13)) (v := _) rfl rfl (by kernel_rfl) (by rfl) (fun _ _ _ h => h) hS1 (fun w hw => by obtain ⟨c1, c2, c3, l0, l1, l2, cn⟩ := hw; (go_simp; try with_reducible rfl)) ?_
  simp only [Act.put, List.setIfInBounds_toArray, List.set_cons_zero, List.set_cons_succ]
  refine move1 (i := 10) (d := (some 14)) (v := _) rfl rfl (by kernel_rfl) (by rfl) (fun _ _ _ h => h) hS1 (fun w => by (go_simp; try with_reducible rfl)) ?_
  simp only [Act.put, List.setIfInBounds_toArray, List.set_cons_zero, List.set_cons_succ]
  refine take1 (i := 11) (d := (some 15)) (v := _) rfl rfl (by kernel_rfl) (by rfl) (fun _ _ _ h => h) hS1 (fun w hw => by obtain ⟨c1, c2, c3, l0, l1, l2, cn⟩ := hw; (go_simp; try with_reducible rfl)) ?_
  simp only [Act.put, List.setIfInBounds_toArray, List.set_cons_zero, List.set_cons_succ]
  refine take1 (i := 12) (d := (some 16)) (v := x1) rfl rfl (by kernel_rfl) (by rfl) (fun _ _ _ h => h) hS1 (fun w hw => by obtain ⟨c1, c2, c3, l0, l1, l2, cn⟩ := hw; (unfold execOp; simp [go_sem, hlk1 w cn, Result.andThen])) ?_
  simp only [Act.put, List.setIfInBounds_toArray, List.set_cons_zero, List.set_cons_succ]
  refine move1 (i := 13) (d := (some 17)) (v := _) rfl rfl (by kernel_rfl) (by rfl) (fun _ _ _ h => h) hS1 (fun w => by (go_simp; try with_reducible rfl)) ?_
  simp only [Act.put, List.setIfInBounds_toArray, List.set_cons_zero, List.set_cons_succ]
  refine move1 (i := 14) (d := (some 18)) (v := _) rfl rfl (by kernel_rfl) (by rfl) (fun _ _ _ h => h) hS1 (fun w => by (go_simp; try with_reducible rfl)) ?_
  simp only [Act.put, List.setIfInBounds_toArray, List.set_cons_zero, List.set_cons_succ]
  refine move1 (i := 15) (d := (some 19)) (v := _) rfl rfl (by kernel_rfl) (by rfl) (fun _ _ _ h => h) hS1 (fun w => by (go_simp; try with_reducible rfl)) ?_
  simp only [Act.put, List.setIfInBounds_toArray, List.set_cons_zero, List.set_cons_succ]
  refine take1 (i := 16) (d := (some 20)) (v := _) rfl rfl (by kernel_rfl) (by rfl) (fun _ _ _ h => h) hS1 (fun w hw => by obtain ⟨c1, c2, c3, l0, l1, l2, cn⟩ := hw; (go_simp; try with_reducible rfl)) ?_
  simp only [Act.put, List.setIfInBounds_toArray, List.set_cons_zero, List.set_cons_succ]
  refine take1 (i := 17) (d := (some 21)) (v := _) rfl rfl (by kernel_rfl) (by rfl) (fun _ _ _ h => h) hS1 (fun w hw => by obtain ⟨c1, c2, c3, l0, l1, l2, cn⟩ := hw; (go_simp; try with_reducible rfl)) ?_
  simp only [Act.put, List.setIfInBounds_toArray, List.set_cons_zero, List.set_cons_succ]
  refine only1 (i := 18) (by kernel_rfl) (wpOp_v (d := some 22) rfl rfl (by rfl) (v := .slice (some ⟨W1.heap.size, 0, none⟩) 1 1) (w' := W1.alloc (.cells #[natV ls.length] 3)) (by go_simp; try rfl) ⟨hS1.alloc _ hnm1.lt, ?_⟩)
  simp only [Act.put, List.setIfInBounds_toArray, List.set_cons_zero, List.set_cons_succ]
  refine only1 (i := 19) (by kernel_rfl) (wpOp_v (d := some 23) rfl rfl (by rfl) (v := v1) (w' := W2) (by unfold execOp; simp [resolve, invoke, builtin, Act.eval, Result.andThen, hrun1]) ⟨hS1n, ?_⟩)
  simp only [Act.put, List.setIfInBounds_toArray, List.set_cons_zero, List.set_cons_succ]
  refine tail1 (i := 20) (by kernel_rfl) (wpOp_s (d := none) rfl rfl (by rfl) (w' := W3) (by unfold execOp; simp [go_sem, hup1, Result.andThen]) ?_)
  simp only [Act.put, List.setIfInBounds_toArray, List.set_cons_zero, List.set_cons_succ]
  refine wpAnyL_done (by kernel_rfl) ?_ _
  go_wp2_with (fail)
  refine start1 (S1 fb nb W.heap.size (.slice A ls.length c) ub l W4) 20 #[false, false, false, false, false, false, false, false, false, false, false, false, false, false, false, false, false, false, false, false, false] (by kernel_rfl) (by kernel_rfl) ?_
  rw [← hW4]
  clear hW4
  refine move1 (i := 0) (d := (some 24)) (v := _) rfl rfl (by kernel_rfl) (by rfl) (fun _ _ _ h => h) hS2 (fun w => by (go_simp; try with_reducible rfl)) ?_
  simp only [Act.put, List.setIfInBounds_toArray, List.set_cons_zero, List.set_cons_succ]
  refine move1 (i := 1) (d := (some 25)) (v := _) rfl rfl (by kernel_rfl) (by rfl) (fun _ _ _ h => h) hS2 (fun w => by (go_simp; try with_reducible rfl)) ?_
  simp only [Act.put, List.setIfInBounds_toArray, List.set_cons_zero, List.set_cons_succ]
  refine move1 (i := 2) (d := (some 26)) (v := _) rfl rfl (by kernel_rfl) (by rfl) (fun _ _ _ h => h) hS2 (fun w => by (go_simp; try with_reducible rfl)) ?_
  simp only [Act.put, List.setIfInBounds_toArray, List.set_cons_zero, List.set_cons_succ]
  refine take1 (i := 3) (d := (some 27)) (v := _) rfl rfl (by kernel_rfl) (by rfl) (fun _ _ _ h => h) hS2 (fun w hw => by obtain ⟨c1, c2, c3, l0, l1, l2, cn⟩ := hw; (go_simp; try with_reducible rfl)) ?_
  simp only [Act.put, List.setIfInBounds_toArray, List.set_cons_zero, List.set_cons_succ]
  refine move1 (i := 4) (d := (some 28)) (v := _) rfl rfl (by kernel_rfl) (by rfl) (fun _ _ _ h => h) hS2 (fun w => by (go_simp; try with_reducible rfl)) ?_
  simp only [Act.put, List.setIfInBounds_toArray, List.set_cons_zero, List.set_cons_succ]
  refine take1 (i := 5) (d := (some 29)) (v := _) rfl rfl (by kernel_rfl) (by rfl) (fun _ _ _ h => h) hS2 (fun w hw => by obtain ⟨c1, c2, c3, l0, l1, l2, cn⟩ := hw; (go_simp; try with_reducible rfl)) ?_
  simp only [Act.put, List.setIfInBounds_toArray, List.set_cons_zero, List.set_cons_succ]
  refine move1 (i := 6) (d := (some 30)) (v := _) rfl rfl (by kernel_rfl) (by rfl) (fun _ _ _ h => h) hS2 (fun w => by (go_simp; try with_reducible rfl)) ?_
  simp only [Act.put, List.setIfInBounds_toArray, List.set_cons_zero, List.set_cons_succ]
  refine move1 (i := 7) (d := (some 31)) (v := _) rfl rfl (by kernel_rfl) (by rfl) (fun _ _ _ h => h) hS2 (fun w => by (go_simp; try with_reducible rfl)) ?_
  simp only [Act.put, List.setIfInBounds_toArray, List.set_cons_zero, List.set_cons_succ]
  refine move1 (i := 8) (d := (some 32)) (v := _) rfl rfl (by kernel_rfl) (by rfl) (fun _ _ _ h => h) hS2 (fun w => by (go_simp; try with_reducible rfl)) ?_
  simp only [Act.put, List.setIfInBounds_toArray, List.set_cons_zero, List.set_cons_succ]
  refine take1 (i := 9) (d := (some 33)) (v := _) rfl rfl (by kernel_rfl) (by rfl) (fun _ _ _ h => h) hS2 (fun w hw => by obtain ⟨c1, c2, c3, l0, l1, l2, cn⟩ := hw; (go_simp; try with_reducible rfl)) ?_
  simp only [Act.put, List.setIfInBounds_toArray, List.set_cons_zero, List.set_cons_succ]
  refine move1 (i := 10) (d := (some 34)) (v := _) rfl rfl (by kernel_rfl) (by rfl) (fun _ _ _ h => h) hS2 (fun w => by (go_simp; try with_reducible rfl)) ?_
  simp only [Act.put, List.setIfInBounds_toArray, List.set_cons_zero, List.set_cons_succ]
  refine take1 (i := 11) (d := (some 35)) (v := _) rfl rfl (by kernel_rfl) (by rfl) (fun _ _ _ h => h) hS2 (fun w hw => by obtain ⟨c1, c2, c3, l0, l1, l2, cn⟩ := hw; (go_simp; try with_reducible rfl)) ?_
  simp only [Act.put, List.setIfInBounds_toArray, List.set_cons_zero, List.set_cons_succ]
  refine take1 (i := 12) (d := (some 36)) (v := x2) rfl rfl (by kernel_rfl) (by rfl) (fun _ _ _ h => h) hS2 (fun w hw => by obtain ⟨c1, c2, c3, l0, l1, l2, cn⟩ := hw; (unfold execOp; simp [go_sem, hlk2 w cn, Result.andThen])) ?_
  simp only [Act.put, List.setIfInBounds_toArray, List.set_cons_zero, List.set_cons_succ]
  refine move1 (i := 13) (d := (some 37)) (v := _) rfl rfl (by kernel_rfl) (by rfl) (fun _ _ _ h => h) hS2 (fun w => by (go_simp; try with_reducible rfl)) ?_
  simp only [Act.put, List.setIfInBounds_toArray, List.set_cons_zero, List.set_cons_succ]
  refine move1 (i := 14) (d := (some 38)) (v := _) rfl rfl (by kernel_rfl) (by rfl) (fun _ _ _ h => h) hS2 (fun w => by (go_simp; try with_reducible rfl)) ?_
  simp only [Act.put, List.setIfInBounds_toArray, List.set_cons_zero, List.set_cons_succ]
  refine move1 (i := 15) (d := (some 39)) (v := _) rfl rfl (by kernel_rfl) (by rfl) (fun _ _ _ h => h) hS2 (fun w => by (go_simp; try with_reducible rfl)) ?_
  simp only [Act.put, List.setIfInBounds_toArray, List.set_cons_zero, List.set_cons_succ]
  refine take1 (i := 16) (d := (some 40)) (v := _) rfl rfl (by kernel_rfl) (by rfl) (fun _ _ _ h => h) hS2 (fun w hw => by obtain ⟨c1, c2, c3, l0, l1, l2, cn⟩ := hw; (go_simp; try with_reducible rfl)) ?_
  simp only [Act.put, List.setIfInBounds_toArray, List.set_cons_zero, List.set_cons_succ]
  refine take1 (i := 17) (d := (some 41)) (v := _) rfl rfl (by kernel_rfl) (by rfl) (fun _ _ _ h => h) hS2 (fun w hw => by obtain ⟨c1, c2, c3, l0, l1, l2, cn⟩ := hw; (go_simp; try with_reducible rfl)) ?_
  simp only [Act.put, List.setIfInBounds_toArray, List.set_cons_zero, List.set_cons_succ]
  refine only1 (i := 18) (by kernel_rfl) (wpOp_v (d := some 42) rfl rfl (by rfl) (v := .slice (some ⟨W4.heap.size, 0, none⟩) 1 1) (w' := W4.alloc (.cells #[natV ls.length] 3)) (by go_simp; try rfl) ⟨hS2.alloc _ hnm4.lt, ?_⟩)
  simp only [Act.put, List.setIfInBounds_toArray, List.set_cons_zero, List.set_cons_succ]
  refine only1 (i := 19) (by kernel_rfl) (wpOp_v (d := some 43) rfl rfl (by rfl) (v := v2) (w' := W5) (by unfold execOp; simp [resolve, invoke, builtin, Act.eval, Result.andThen, hrun2]) ⟨hS2n, ?_⟩)
  simp only [Act.put, List.setIfInBounds_toArray, List.set_cons_zero, List.set_cons_succ]
  refine tail1 (i := 20) (by kernel_rfl) (wpOp_s (d := none) rfl rfl (by rfl) (w' := W6) (by unfold execOp; simp [go_sem, hup2, Result.andThen]) ?_)
  simp only [Act.put, List.setIfInBounds_toArray, List.set_cons_zero, List.set_cons_succ]
  refine wpAnyL_done (by kernel_rfl) ?_ _
  go_wp2_with (fail)
  refine start1 (S1 fb nb W.heap.size (.slice A ls.length c) ub l W7) 10 #[false, false, false, false, false, false, false, false, false, false, false] (by kernel_rfl) (by kernel_rfl) ?_
  rw [← hW7]
  clear hW7
  refine move1 (i := 0) (d := (some 44)) (v := _) rfl rfl (by kernel_rfl) (by rfl) (fun _ _ _ h => h) hS3 (fun w => by (go_simp; try with_reducible rfl)) ?_
  simp only [Act.put, List.setIfInBounds_toArray, List.set_cons_zero, List.set_cons_succ]
  refine move1 (i := 1) (d := (some 45)) (v := _) rfl rfl (by kernel_rfl) (by rfl) (fun _ _ _ h => h) hS3 (fun w => by (go_simp; try with_reducible rfl)) ?_
  simp only [Act.put, List.setIfInBounds_toArray, List.set_cons_zero, List.set_cons_succ]
  refine move1 (i := 2) (d := (some 46)) (v := _) rfl rfl (by kernel_rfl) (by rfl) (fun _ _ _ h => h) hS3 (fun w => by (go_simp; try with_reducible rfl)) ?_
  simp only [Act.put, List.setIfInBounds_toArray, List.set_cons_zero, List.set_cons_succ]
  refine move1 (i := 3) (d := (some 47)) (v := _) rfl rfl (by kernel_rfl) (by rfl) (fun _ _ _ h => h) hS3 (fun w => by (go_simp; try with_reducible rfl)) ?_
  simp only [Act.put, List.setIfInBounds_toArray, List.set_cons_zero, List.set_cons_succ]
  refine take1 (i := 4) (d := (some 48)) (v := _) rfl rfl (by kernel_rfl) (by rfl) (fun _ _ _ h => h) hS3 (fun w hw => by obtain ⟨c1, c2, c3, l0, l1, l2, cn⟩ := hw; (go_simp; try with_reducible rfl)) ?_
  simp only [Act.put, List.setIfInBounds_toArray, List.set_cons_zero, List.set_cons_succ]
  refine take1 (i := 5) (d := (some 49)) (v := .agg #[.int .i64 l.1, .int .i64 l.2.1, .int .i64 l.2.2]) rfl rfl (by kernel_rfl) (by rfl) (fun _ _ _ h => h) hS3 (fun w hw => by obtain ⟨c1, c2, c3, l0, l1, l2, cn⟩ := hw; (go_simp; try rfl)) ?_
  simp only [Act.put, List.setIfInBounds_toArray, List.set_cons_zero, List.set_cons_succ]
  refine only1 (i := 6) (by kernel_rfl) (wpOp_v (d := some 50) rfl rfl (by rfl) (v := .slice (some ⟨W7.heap.size, 0, none⟩) 1 1) (w' := W7.alloc (.cells #[.int .i64 l.1, .int .i64 l.2.1, .int .i64 l.2.2] 30)) (by go_simp; try rfl) ⟨hS3.alloc _ hnm7.lt, ?_⟩)
  simp only [Act.put, List.setIfInBounds_toArray, List.set_cons_zero, List.set_cons_succ]
  refine only1 (i := 7) (by kernel_rfl) (wpOp_v (d := some 51) rfl rfl (by rfl) (v := .slice A3 (ls ++ [l]).length q3) (w' := W8) (by unfold execOp; simp [resolve, invoke, builtin, Act.eval, Result.andThen, hrun3]) ⟨hS3n, ?_⟩)
  simp only [Act.put, List.setIfInBounds_toArray, List.set_cons_zero, List.set_cons_succ]
  refine only1 (i := 8) (by kernel_rfl) (wpOp_v (d := some 52) rfl rfl (by rfl) (v := _) (w' := W8) (by go_simp; try with_reducible rfl) ⟨hS3n, ?_⟩)
  simp only [Act.put, List.setIfInBounds_toArray, List.set_cons_zero, List.set_cons_succ]
  refine only1 (i := 9) (by kernel_rfl) (wpOp_v (d := some 53) rfl rfl (by rfl) (v := _) (w' := W8) (by go_simp; try with_reducible rfl) ⟨hS3n, ?_⟩)
  simp only [Act.put, List.setIfInBounds_toArray, List.set_cons_zero, List.set_cons_succ]
  refine tail1 (i := 10) (by kernel_rfl) (wpOp_s (d := none) rfl rfl (by rfl) (w' := W8.setCell ⟨fb, 1, none⟩ (.slice A3 (ls ++ [l]).length q3)) (by go_simp) ?_)
  simp only [Act.put, List.setIfInBounds_toArray, List.set_cons_zero, List.set_cons_succ]
  refine wpAnyL_done (by kernel_rfl) ?_ _
  go_wp2_with (fail)
  refine start1 (S1 fb nb W.heap.size (.slice A3 (ls ++ [l]).length q3) ub l W9) 12 #[false, false, false, false, false, false, false, false, false, false, false, false, false] (by kernel_rfl) (by kernel_rfl) ?_
  rw [← hW9]
  clear hW9
  refine move1 (i := 0) (d := (some 54)) (v := _) rfl rfl (by kernel_rfl) (by rfl) (fun _ _ _ h => h) hS4 (fun w => by (go_simp; try with_reducible rfl)) ?_
  simp only [Act.put, List.setIfInBounds_toArray, List.set_cons_zero, List.set_cons_succ]
  refine move1 (i := 1) (d := (some 55)) (v := _) rfl rfl (by kernel_rfl) (by rfl) (fun _ _ _ h => h) hS4 (fun w => by (go_simp; try with_reducible rfl)) ?_
  simp only [Act.put, List.setIfInBounds_toArray, List.set_cons_zero, List.set_cons_succ]
  refine move1 (i := 2) (d := (some 56)) (v := _) rfl rfl (by kernel_rfl) (by rfl) (fun _ _ _ h => h) hS4 (fun w => by (go_simp; try with_reducible rfl)) ?_
  simp only [Act.put, List.setIfInBounds_toArray, List.set_cons_zero, List.set_cons_succ]
  refine take1 (i := 3) (d := (some 57)) (v := _) rfl rfl (by kernel_rfl) (by rfl) (fun _ _ _ h => h) hS4 (fun w hw => by obtain ⟨c1, c2, c3, l0, l1, l2, cn⟩ := hw; (go_simp; try with_reducible rfl)) ?_
  simp only [Act.put, List.setIfInBounds_toArray, List.set_cons_zero, List.set_cons_succ]
  refine move1 (i := 4) (d := (some 58)) (v := _) rfl rfl (by kernel_rfl) (by rfl) (fun _ _ _ h => h) hS4 (fun w => by (go_simp; try with_reducible rfl)) ?_
  simp only [Act.put, List.setIfInBounds_toArray, List.set_cons_zero, List.set_cons_succ]
  refine move1 (i := 5) (d := (some 59)) (v := _) rfl rfl (by kernel_rfl) (by rfl) (fun _ _ _ h => h) hS4 (fun w => by (go_simp; try with_reducible rfl)) ?_
  simp only [Act.put, List.setIfInBounds_toArray, List.set_cons_zero, List.set_cons_succ]
  refine take1 (i := 6) (d := (some 60)) (v := _) rfl rfl (by kernel_rfl) (by rfl) (fun _ _ _ h => h) hS4 (fun w hw => by obtain ⟨c1, c2, c3, l0, l1, l2, cn⟩ := hw; (go_simp; try with_reducible rfl)) ?_
  simp only [Act.put, List.setIfInBounds_toArray, List.set_cons_zero, List.set_cons_succ]
  refine move1 (i := 8) (d := (some 62)) (v := _) rfl rfl (by kernel_rfl) (by rfl) (fun _ _ _ h => h) hS4 (fun w => by (go_simp; try with_reducible rfl)) ?_
  simp only [Act.put, List.setIfInBounds_toArray, List.set_cons_zero, List.set_cons_succ]
  refine move1 (i := 9) (d := (some 63)) (v := _) rfl rfl (by kernel_rfl) (by rfl) (fun _ _ _ h => h) hS4 (fun w => by (go_simp; try with_reducible rfl)) ?_
  simp only [Act.put, List.setIfInBounds_toArray, List.set_cons_zero, List.set_cons_succ]
  refine take1 (i := 10) (d := (some 64)) (v := _) rfl rfl (by kernel_rfl) (by rfl) (fun _ _ _ h => h) hS4 (fun w hw => by obtain ⟨c1, c2, c3, l0, l1, l2, cn⟩ := hw; (go_simp; try with_reducible rfl)) ?_
  simp only [Act.put, List.setIfInBounds_toArray, List.set_cons_zero, List.set_cons_succ]
  refine only1 (i := 7) (by kernel_rfl) (wpOp_c (d := some 61) rfl rfl (by rfl) (f := 27) (args := #[.pointer (some ⟨fb, 0, none⟩), .int .i64 l.1]) (by go_simp; try rfl) (hfind1.mono ?_))
  rintro e W10 ⟨rfl, u1, hm10, hu10, hk10⟩
  have hS10 := hS5 W10 hk10
  refine ⟨_, rfl, hS10, ?_⟩
  simp only [Act.put, List.setIfInBounds_toArray, List.set_cons_zero, List.set_cons_succ]
  refine only1 (i := 11) (by kernel_rfl) (wpOp_c (d := some 65) rfl rfl (by rfl) (f := 27) (args := #[.pointer (some ⟨fb, 0, none⟩), .int .i64 l.2.1]) (by go_simp; try rfl) ((hfind2 W10 u1 hk10 hm10 hu10).mono ?_))
  rintro e W11 ⟨rfl, u2, hm11, hu11, hk11⟩
  refine ⟨_, rfl, hS5 W11 (hk10.trans hk11), ?_⟩
  simp only [Act.put, List.setIfInBounds_toArray, List.set_cons_zero, List.set_cons_succ]
  obtain ⟨W12, hup4, hm12, ho12⟩ := hm11.update (P := Try.prog) und50 und3 (r l.1) (.int .i64 (r l.2.1))
  refine tail1 (i := 12) (by kernel_rfl) (wpOp_s (d := none) rfl rfl (by rfl) (w' := W12) (by unfold execOp; simp [go_sem, hup4, Result.andThen]) ?_)
  simp only [Act.put, List.setIfInBounds_toArray, List.set_cons_zero, List.set_cons_succ]
  refine wpAnyL_done (by kernel_rfl) ?_ _
  go_wp2_with (fail)
  have hum8 : MapIs W8 ub (U2 u) := by
    have e4 : W9.heap[ub]? = W8.heap[ub]? := hk9.block _ (Nat.lt_of_lt_of_le H.hum.lt (Nat.le_trans hkA.size (Nat.le_trans hkB.size hk8.size))) hubn
    exact hum9.kept e4.symm
  have hkZ : Kp (fun k => k = fb ∨ k = ub) W8 W12 := ((hk9.imp fun _ _ h => .inl h).trans ((hk10.trans hk11).imp fun _ _ h => .inr h)).trans (Kp.one ho12 (.inr rfl))
  have hs2 : W2.heap.size = W4.heap.size := hs4.symm
  have hk2' : Kp (fun k => k = nb ∨ x2.ownBlock = some k) W2 W7 := ((Kp.one ho3 (.inl rfl)).trans (w34)).trans (hkB.imp fun _ _ h => h.symm)
  have hsz : W.heap.size ≤ W1.heap.size := hk1.size
  go_end0
  refine ⟨rfl, ⟨nb, ub, .slice A3 (ls ++ [l]).length q3, upd (upd nm l.1 v1) l.2.1 v2, fun j => if j = r l.1 then some (r l.2.1) else u2 j, fun z => if r z = r l.1 then r l.2.1 else r z, fun z => if r z = r l.1 then d z + d (r l.2.1) + 1 else d z, ?_⟩, ?_⟩
  · have hrab : r l.1 ≠ r l.2.1 := fun e => hn ((H.cn _ _).1 e)
    -- a block of a list of links at an id lies apart from all else
    have apart : ∀ g cur, W8.heap[g]? = some (.cells cur 3 (0, 0)) → g ≠ fb ∧ g ≠ ub := fun g cur hg => ⟨heap_ne hg hfb8 (by simp), map_ne hg hum8⟩
    have hk912 : Kp (fun k => k = ub) W9 W12 := (hk10.trans hk11).trans (Kp.one (S := fun k => k = ub) ho12 rfl)
    have hkC : Kp (fun k => (Value.slice A ls.length c).ownBlock = some k ∨ k = fb ∨ k = ub) W7 W12 := (hk8.imp fun _ _ h => .inl h).trans (hkZ.imp fun _ _ h => .inr h)
    have hkBC : Kp (fun k => k = nb ∨ x2.ownBlock = some k ∨ (Value.slice A ls.length c).ownBlock = some k ∨ k = fb ∨ k = ub) W2 W12 := (hk2'.imp fun _ _ h => h.imp id .inl).trans (hkC.imp fun _ _ h => .inr (.inr h))
    have g1n : g1 ≠ nb ∧ x2.ownBlock ≠ some g1 ∧ (Value.slice A ls.length c).ownBlock ≠ some g1 ∧ g1 ≠ fb ∧ g1 ≠ ub := by
      have hfbl := (Array.getElem?_eq_some_iff.1 H.hfb).1
      have hubl := H.hum.lt
      have hnbl := H.hnm.lt
      rcases hloc1 with h | h
      · exact ⟨(hx1n g1 h).1, fun e => hx12 g1 e h, fun e => (hvx g1 e).1 h, (hx1n g1 h).2.1, (hx1n g1 h).2.2.1⟩
      · exact ⟨by omega, fun e => absurd (hx2n g1 e).2.2.2.1 (by omega), fun e => absurd (hvn g1 e).2.2.2.1 (by omega), by omega, by omega⟩
    have g2n : (Value.slice A ls.length c).ownBlock ≠ some g2 ∧ g2 ≠ fb ∧ g2 ≠ ub ∧ g2 ≠ nb := by
      have hfbl := (Array.getElem?_eq_some_iff.1 H.hfb).1
      have hubl := H.hum.lt
      have hnbl := H.hnm.lt
      have := hkA.size
      rcases hloc2 with h | h
      · exact ⟨fun e => (hvx g2 e).2 h, (hx2n g2 h).2.1, (hx2n g2 h).2.2.1, (hx2n g2 h).1⟩
      · exact ⟨fun e => absurd (hvn g2 e).2.2.2.1 (by omega), by omega, by omega, by omega⟩
    have g3n : g3 ≠ fb ∧ g3 ≠ ub := by
      obtain ⟨cur, hc⟩ := ownsRow_lt hrow3 hg3
      exact ⟨heap_ne hc hfb8 (by simp), map_ne hc hum8⟩
    have hk57 : Kp (fun k => k = nb) W5 W7 := (Kp.one (S := fun k => k = nb) ho6 rfl).trans w67
    have hr1 : W12.ownsRow 0 3 1 v1 ((near ls l.1).length + 1) ((near ls l.1).map natV ++ [natV ls.length]) := ownsRow_kp hrow1 hkBC fun g hg e => by
      rw [hg1] at hg; cases hg
      exact e.elim g1n.1 fun e => e.elim g1n.2.1 fun e => e.elim g1n.2.2.1 fun e => e.elim g1n.2.2.2.1 g1n.2.2.2.2
    have hr2 : W12.ownsRow 0 3 1 v2 ((near ls l.2.1).length + 1) ((near ls l.2.1).map natV ++ [natV ls.length]) := ownsRow_kp (ownsRow_kp hrow2 hk57 fun g hg e => by rw [hg2] at hg; cases hg; exact g2n.2.2.2 e) hkC fun g hg e => by
      rw [hg2] at hg; cases hg
      exact e.elim g2n.1 fun e => e.elim g2n.2.1 g2n.2.2.1
    have hk02 : Kp (fun k => x1.ownBlock = some k) W W2 := (hk1.imp fun _ _ h => h.elim).trans hk2
    refine ⟨H.for_.snoc hn, by simp; omega, hk912.heap hfb9 (Ne.symm hubn), ?_, ?_, ?_, ?_, hu11.union hrab, cn_union H.cn, H.ne, .inl H.mfb, .inl H.mnb, .inl H.mub, ?_⟩
    · exact ownsRow_kp hrow3 hkZ fun g hg e => by rw [hg3] at hg; cases hg; exact e.elim g3n.1 g3n.2
    · exact hnm8.kept (hkZ.block _ hnm8.lt fun e => e.elim hnb2 H.ne)
    · rw [← upd_U2]; exact hm12
    · refine Nr.snoc H.near hab hx1 hx2 hr1 hr2 hg1 hg2 (hloc1.imp id fun h => Nat.le_trans hsz h) (hloc2.imp id fun h => Nat.le_trans hkA.size h) ?_ ?_
      · intro e
        subst e
        rcases hloc2 with h | h
        · rcases hloc1 with h' | h'
          · exact hx12 _ h h'
          · exact absurd (hx2n _ h).2.2.2.1 (by omega)
        · obtain ⟨cur, hc⟩ := ownsRow_lt hrow1 hg1
          have := (Array.getElem?_eq_some_iff.1 hc).1
          omega
      · intro x y g n xs q1 q2 hy hg hr
        obtain ⟨cur, hc⟩ := ownsRow_lt hr hg
        have e1 : x1.ownBlock ≠ some g := fun e => by
          obtain ⟨_, z, e1, e2⟩ := x1m g e
          exact q1 (H.near.inj _ _ _ _ g hy e1 hg e2)
        have e2 : x2.ownBlock ≠ some g := fun e => by
          obtain ⟨_, z, e1, e2⟩ := x2m g e
          exact q2 (H.near.inj _ _ _ _ g hy e1 hg e2)
        refine ownsRow_kp (ownsRow_kp hr hk02 fun g' hg' e => ?_) hkBC fun g' hg' e => ?_
        · rw [hg] at hg'; cases hg'; exact e1 e
        · rw [hg] at hg'; cases hg'
          rcases e with e | e | e | e | e
          · exact map_ne hc H.hnm e
          · exact e2 e
          · obtain ⟨_, _, _, _, cur', hc'⟩ := hvn _ e
            rw [hc] at hc'; cases hc'
          · exact heap_ne hc H.hfb (by simp) e
          · exact map_ne hc H.hum e
    · intro g hg
      rw [hg3] at hg; cases hg
      exact hloc3.imp (fun h => H.mv _ h) fun h => Nat.le_trans (Nat.le_trans hkA.size hkB.size) h
  · have hnx : ∀ k, x1.ownBlock = some k ∨ k = nb → M k := fun k h => h.elim (fun h => (x1m k h).1) fun h => h ▸ H.mnb
    have hnx2 : ∀ k, x2.ownBlock = some k ∨ k = nb → M k := fun k h => h.elim (fun h => (x2m k h).1) fun h => h ▸ H.mnb
    exact ((hkA.imp fun k _ h => hnx k h).trans (hkB.imp fun k _ h => hnx2 k h)).trans ((hk8.imp fun k _ h => H.mv k h).trans (hkZ.imp fun k _ h => h.elim (fun h => h ▸ H.mfb) fun h => h ▸ H.mub))
end Go.Proofs.Ytmkhglpfhnocaaa.Fn
