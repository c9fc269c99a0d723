import Derived.Test.YtmkhglpfhnocaaaFh
namespace Go.Proofs.Ytmkhglpfhnocaaa.Fn
open Go Go.RowKit Go.MapKept Go.Proofs Forest17
set_option linter.unusedVariables false
set_option maxRecDepth 100000
set_option linter.unusedSimpArgs false
open Go.Shelf
attribute [local go_sem] Oper.semAt_some
/-- A row of marks. -/
abbrev Us1 (W : World) (gu c n : Nat) (u : List Bool) : Prop := W.ownsRow 0 4 1 (.slice (some ⟨gu, 0, none⟩) n c) n (u.map .bool)
theorem us_cell {W : World} {gu c n j : Nat} {u : List Bool} {x : Bool} (h : Us1 W gu c n u) (hj : u[j]? = some x) : W.cell? ⟨gu, j, none⟩ = some (.bool x) ∧ W.frozen? ⟨gu, j, none⟩ = false := by
  have hx : (u.map Value.bool)[j]? = some (.bool x) := by rw [List.getElem?_map, hj]; rfl
  have := h.cells (g := gu) rfl j _ hx
  have h1 : W.cell? ⟨gu, j, none⟩ = some (.bool x) := by
    unfold Addr.add at this
    split at this <;> simp_all
  rcases h.2 with ⟨hv, h0⟩ | ⟨g, cap, cur, hv, _, hc, _⟩
  · cases hv
  · simp only [Value.slice.injEq, Option.some.injEq, Addr.mk.injEq] at hv
    obtain ⟨⟨rfl, _⟩, _⟩ := hv
    exact ⟨h1, by simp [World.frozen?, hc]⟩
theorem us_set {W : World} {gu c n j : Nat} {u : List Bool} (h : Us1 W gu c n u) (hj : j < n) : Us1 (W.setCell ⟨gu, j, none⟩ (.bool true)) gu c n (u.set j true) := by
  have hl : u.length = n := by have := h.1; simpa using this
  refine ⟨by simp [hl], ?_⟩
  rcases h.2 with ⟨hv, h0⟩ | ⟨g, cap, cur, hv, h1, h2, h3, h4, h5, h6⟩
  · cases hv
  · simp only [Value.slice.injEq, Option.some.injEq, Addr.mk.injEq] at hv
    obtain ⟨⟨rfl, _⟩, _, rfl⟩ := hv
    refine .inr ⟨gu, c, cur.set! j (.bool true), rfl, h1, ?_, h3, h4, by simpa using h5, ?_⟩
    · simp [World.setCell, Array.getElem?_modify, h2]
    · rw [List.map_set, ← h6]
      simp only [Array.set!_eq_setIfInBounds, Array.toList_setIfInBounds]
      rw [List.take_set]
theorem turned_ne {ls : List Lk} (hf : For ls) {k : Nat} {l : Lk} (hk : ls[k]? = some l) : l.1 ≠ l.2.1 := For.ne hf ⟨l, hk, .inl ⟨rfl, rfl⟩⟩
theorem mark {wr Ws : World} {ls : List Lk} {gu cu n j bx c : Nat} {A : Option Addr} {ui : List Bool} {x y z : Int} (hks : Kp (fun _ => False) wr Ws) (hbx : Ws.heap[bx]? = some (.cells #[.int .i64 x, .int .i64 y, .int .i64 z] 30 (0, 0))) (hbg : bx ≠ gu) (hui : Us1 wr gu cu n ui)
    (hvr : wr.ownsRow 0 30 3 (.slice A n c) n (lksV ls)) (hgl : ∀ g, (Value.slice A n c).ownBlock = some g → ¬ g = gu) (hj : j < n) (hn : ls.length = n) :
    (Ws.setCell ⟨gu, j, none⟩ (.bool true)).heap[bx]? = some (.cells #[.int .i64 x, .int .i64 y, .int .i64 z] 30 (0, 0)) ∧ Us1 (Ws.setCell ⟨gu, j, none⟩ (.bool true)) gu cu n (ui.set j true) ∧ Rw (Ws.setCell ⟨gu, j, none⟩ (.bool true)) (.slice A n c) ls ∧ Kp (fun k => k = gu) wr (Ws.setCell ⟨gu, j, none⟩ (.bool true)) := by
  have hk : Kp (fun k => k = gu) Ws (Ws.setCell ⟨gu, j, none⟩ (.bool true)) := (Kp.refl (fun k => k = gu) Ws).setCell (p := ⟨gu, j, none⟩) rfl _
  refine ⟨hk.heap hbx hbg, ?_, ?_, (hks.imp fun _ _ h => h.elim).trans hk⟩
  · exact us_set (ownsRow_kp hui hks fun _ _ => id) hj
  · rw [Rw, hn]; exact ownsRow_kp (ownsRow_kp hvr hks fun _ _ => id) hk fun g hg e => hgl g hg e
theorem one_row (W : World) (x y z : Int) : Rw (W.alloc (.cells #[.int .i64 x, .int .i64 y, .int .i64 z] 30)) (.slice (some ⟨W.heap.size, 0, none⟩) 1 1) [(x, y, z)] :=
  ⟨rfl, .inr ⟨W.heap.size, 1, #[.int .i64 x, .int .i64 y, .int .i64 z], rfl, Nat.zero_le _, (heap_alloc W _).1, Nat.le_refl _, by unfold maxLen; omega, rfl, rfl⟩⟩
theorem kp_new {W7 W8 : World} {o : Obj} {n c : Nat} (hk8 : Kp (fun q => (Value.slice (some ⟨W7.heap.size, 0, none⟩) n c).ownBlock = some q) (W7.alloc o) W8) : Kp (fun _ => False) W7 W8 := by
  have hs : (W7.alloc o).heap.size = W7.heap.size + 1 := by simp
  refine ⟨hk8.os, hk8.tape, hk8.output, Nat.le_trans (by omega) hk8.size, fun k hl _ => ?_⟩
  rw [hk8.block k (by omega) (fun e => by have e : W7.heap.size = k := Option.some.inj e; omega)]
  exact Below.heap_alloc _ _ _ hl
set_option maxHeartbeats 3000000 in
theorem rwalk_calls {ls : List Lk} (hf : For ls) (b : Int) (hb : ls.length ≤ 200) {v : Value} {gu cu : Nat} :
    ∀ (f : Nat) (at_ : Int) (u u' : List Bool) (r : Option (List Lk)) (W : World), rwalk ls b f u at_ = some (r, u') → f ≤ 400 → Rw W v ls → Us1 W gu cu ls.length u → (∀ p, r = some p → p.length ≤ f) →
    Calls Try.prog 31 #[v, .slice (some ⟨gu, 0, none⟩) ls.length cu, .int .i64 at_, .int .i64 b] W fun e W' => ∃ vr, e = .returned (.tuple #[vr, .bool r.isSome]) ∧ RowN W (r.getD []) vr W' ∧ Us1 W' gu cu ls.length u' ∧ Kp (fun q => q = gu) W W' := by
  intro f
  induction f with
  | zero => intro at_ u u' r W h; cases h
  | succ f ih =>
  intro at_ u u' r W h hf4 hv hu hp
  obtain ⟨A, c, rfl⟩ := slice_of hv
  have hgl : ∀ g, (Value.slice A ls.length c).ownBlock = some g → ¬ g = gu := fun g hg e => by
    obtain ⟨cur, hc⟩ := ownsRow_lt hv hg
    obtain ⟨cur', hc'⟩ := ownsRow_lt hu (g := gu) rfl
    exact heap_ne hc hc' (by simp) e
  unfold rwalk at h
  refine calls_of_wp Try.func31 rfl ?_
  simp only [Try.ntmps31, List.size_toArray, List.length_cons, List.length_nil, Nat.reduceAdd, Nat.reduceSub, Array.replicate_succ, Array.replicate_zero, List.push_toArray, List.append_toArray, List.nil_append, List.cons_append]
  obtain ⟨n, hn⟩ : ∃ n, ls.length = n := ⟨_, rfl⟩
  by_cases hab : at_ = b
  · rw [if_pos hab] at h
    cases h
    subst hab
    go_wp2_with (fail)
    exact ⟨rfl, .tuple #[.slice none 0 0, .bool true], by simp [results, Try.results31, go_sem], .slice none 0 0, rfl, ⟨Rw.nil _, fun g hg => by cases hg⟩, hu, Kp.refl _ _⟩
  · rw [if_neg hab] at h
    rw [hn] at hb hu h hgl ⊢
    rw [Rw, hn] at hv
    simp only [hn] at ih
    have hab2 : (at_ == b) = false := by simp [hab]
    go_wp2_with (fail)
    go_loopw [10] (fun v10 wr => ∃ (j : Nat) (ui : List Bool), v10 = .int .i64 (j : Int) ∧ j ≤ n ∧ rloop (rwalk ls b f) ls at_ ((List.range n).drop j) ui = some (r, u') ∧ Us1 wr gu cu n ui ∧ Kp (fun q => q = gu) W wr) (fun v10 wr => n - (intOf v10).toNat)
    case atStart => exact ⟨0, u, rfl, Nat.zero_le _, h, hu, Kp.refl _ _⟩
    case round =>
      obtain ⟨j, ui, rfl, hj, hl, hui, hk⟩ := hrel
      by_cases hjn : j < n
      · obtain ⟨l, hlj⟩ : ∃ l, ls[j]? = some l := ⟨_, List.getElem?_eq_getElem (by omega)⟩
        have hul : ui.length = n := by have := hui.1; simpa using this
        obtain ⟨x, hx⟩ : ∃ x, ui[j]? = some x := ⟨_, List.getElem?_eq_getElem (by omega)⟩
        obtain ⟨cu1, fu1⟩ := us_cell hui hx
        have hvr := ownsRow_kp hv hk hgl
        obtain ⟨g1, rfl, a0, a1, a2⟩ := link_cells hvr hlj
        have hdr : (List.range n).drop j = j :: (List.range n).drop (j + 1) := by
          rw [List.drop_eq_getElem_cons (by simpa using hjn)]; simp
        rw [hdr, rloop] at hl
        have hxd : ui.getD j true = x := by simp [List.getD, hx]
        rw [hxd] at hl
        have hne := turned_ne hf hlj
        cases x with
        | true =>
          rw [if_pos rfl] at hl
          go_wp2_with (fail)
          exact ⟨⟨j + 1, ui, by simp, hjn, hl, hui, hk⟩, by simp only [intOf]; omega⟩
        | false =>
          rw [if_neg (by simp), hlj] at hl
          dsimp only at hl
          by_cases hB : l.2.1 = at_
          · subst hB
            rw [if_pos (show At l l.2.1 from .inr rfl), show other l l.2.1 = l.1 by unfold other; rw [if_neg hne], show away l l.2.1 = (l.2.1, l.1, l.2.2) by unfold away; rw [if_neg hne]] at hl
            have hbx := (heap_alloc wr (.cells #[.int .i64 l.1, .int .i64 l.2.1, .int .i64 l.2.2] 30)).1
            have hkb : Kp (fun _ => False) wr (wr.alloc (.cells #[.int .i64 l.1, .int .i64 l.2.1, .int .i64 l.2.2] 30)) := Kp.alloc _ _
            have hturn := turned_calls l (wr.alloc (.cells #[.int .i64 l.1, .int .i64 l.2.1, .int .i64 l.2.2] 30))
            unfold lkA turned at hturn
            dsimp only at hturn
            have hgb : gu ≠ wr.heap.size := fun e => by obtain ⟨cur, hc⟩ := ownsRow_lt hui (g := gu) rfl; have := (Array.getElem?_eq_some_iff.1 hc).1; omega
            have hbg : wr.heap.size ≠ gu := Ne.symm hgb
            have hfact : ∀ W5, Kp (fun _ => False) (wr.alloc (.cells #[.int .i64 l.1, .int .i64 l.2.1, .int .i64 l.2.2] 30)) W5 → (W5.cell? ⟨wr.heap.size, 0, none⟩ = some (.int .i64 l.1) ∧ W5.frozen? ⟨wr.heap.size, 0, none⟩ = false) ∧ (W5.cell? ⟨wr.heap.size, 1, none⟩ = some (.int .i64 l.2.1) ∧ W5.frozen? ⟨wr.heap.size, 1, none⟩ = false) ∧ (W5.cell? ⟨wr.heap.size, 2, none⟩ = some (.int .i64 l.2.2) ∧ W5.frozen? ⟨wr.heap.size, 2, none⟩ = false) ∧ (W5.cell? ⟨gu, j, none⟩ = some (.bool false) ∧ W5.frozen? ⟨gu, j, none⟩ = false) ∧ Us1 W5 gu cu n ui := fun W5 hk5 => by
              have hb := hk5.heap hbx id
              have hu5 := ownsRow_kp (ownsRow_kp hui hkb fun _ _ => id) hk5 fun _ _ => id
              exact ⟨box_cells hb (j := 0) rfl, box_cells hb (j := 1) rfl, box_cells hb (j := 2) rfl, us_cell hu5 hx, hu5⟩
            have hmark : ∀ W5, Kp (fun _ => False) (wr.alloc (.cells #[.int .i64 l.1, .int .i64 l.2.1, .int .i64 l.2.2] 30)) W5 → _ := fun W5 hk5 => mark (wr := wr) (Ws := ((W5.setCell ⟨wr.heap.size, 0, none⟩ (.int .i64 l.2.1)).setCell ⟨wr.heap.size, 1, none⟩ (.int .i64 l.1)).setCell ⟨wr.heap.size, 2, none⟩ (.int .i64 l.2.2)) (x := l.2.1) (y := l.1) (z := l.2.2) (bx := wr.heap.size) (j := j)
              (by
                have h1 : Kp (fun k => k = wr.heap.size) W5 (((W5.setCell ⟨wr.heap.size, 0, none⟩ (.int .i64 l.2.1)).setCell ⟨wr.heap.size, 1, none⟩ (.int .i64 l.1)).setCell ⟨wr.heap.size, 2, none⟩ (.int .i64 l.2.2)) := (((Kp.refl (fun k => k = wr.heap.size) W5).setCell (p := ⟨wr.heap.size, 0, none⟩) rfl _).setCell (p := ⟨wr.heap.size, 1, none⟩) rfl _).setCell (p := ⟨wr.heap.size, 2, none⟩) rfl _
                have h2 := hkb.trans hk5
                exact ⟨h1.os.trans h2.os, h1.tape.trans h2.tape, h1.output.trans h2.output, Nat.le_trans h2.size h1.size, fun k hl _ => by rw [h1.block k (Nat.lt_of_lt_of_le hl h2.size) (by omega)]; exact h2.block k hl id⟩)
              (by have hb := hk5.heap hbx id; simp [World.setCell, Array.getElem?_modify, hb]) hbg hui hvr hgl hjn hn
            have hf4' : f ≤ 400 := by omega
            cases hrr : rwalk ls b f (ui.set j true) l.1 with
            | none => rw [hrr] at hl; cases hl
            | some q =>
              obtain ⟨r', u''⟩ := q
              rw [hrr] at hl
              cases r' with
              | none =>
                dsimp only at hl
                have hp' : ∀ p, (none : Option (List Lk)) = some p → p.length ≤ f := fun p h => by cases h
                go_wp2_with (first
                  | ((with_reducible refine hturn.mono ?_); rintro e W5 ⟨rfl, hk5⟩; obtain ⟨⟨q0, r0⟩, ⟨q1, r1⟩, ⟨q2, r2⟩, ⟨q3, r3⟩, q4⟩ := hfact W5 hk5; obtain ⟨m1, m2, m3, m4⟩ := hmark W5 hk5; have hrec := (ih _ _ u'' none _ hrr (by omega) m3 m2 hp'))
                  | ((with_reducible refine hrec.mono ?_); rintro e W7 ⟨vr, rfl, hr7, hu7, hk7⟩; obtain ⟨A7, c7, rfl⟩ := slice_of hr7.row)
                  | fail)
                go_roundw
                case rel => exact ⟨j + 1, u'', by go_num, hjn, hl, hu7, (hk.trans m4).trans hk7⟩
                case measure => simp only [intOf]; omega
              | some p =>
                dsimp only at hl
                simp only [Option.some.injEq, Prod.mk.injEq] at hl
                obtain ⟨rfl, rfl⟩ := hl
                have hpl := hp _ rfl
                simp only [List.length_cons] at hpl
                have hp' : ∀ q, some p = some q → q.length ≤ f := fun q h => by cases h; omega
                go_wp2_with (first
                  | ((with_reducible refine hturn.mono ?_); rintro e W5 ⟨rfl, hk5⟩; obtain ⟨⟨q0, r0⟩, ⟨q1, r1⟩, ⟨q2, r2⟩, ⟨q3, r3⟩, q4⟩ := hfact W5 hk5; obtain ⟨m1, m2, m3, m4⟩ := hmark W5 hk5; have hrec := (ih _ _ _ (some p) _ hrr (by omega) m3 m2 hp'))
                  | ((with_reducible refine hrec.mono ?_); rintro e W7 ⟨vr, rfl, hr7, hu7, hk7⟩; obtain ⟨A7, c7, rfl⟩ := slice_of hr7.row; obtain ⟨t0, _⟩ := box_cells (hk7.heap m1 hbg) (j := 0) rfl; obtain ⟨t1, _⟩ := box_cells (hk7.heap m1 hbg) (j := 1) rfl; obtain ⟨t2, _⟩ := box_cells (hk7.heap m1 hbg) (j := 2) rfl; have o1 := one_row W7 l.2.1 l.1 l.2.2; have o2 : Rw (W7.alloc (.cells #[.int .i64 l.2.1, .int .i64 l.1, .int .i64 l.2.2] 30)) _ p := hr7.row.alloc _)
                  | (at_builtin; refine wpList_appendAny rfl (.tmp 55) (.tmp 56) rfl _ _ [(l.2.1, l.1, l.2.2)] p rfl rfl o1 o2 (by simp; omega) ?_; intro v8 W8 hr8 hk8 hg8; obtain ⟨A8, c8, rfl⟩ := slice_of hr8)
                  | fail)
                have hk78 := kp_new hk8
                have hkW7 := (hk.trans m4).trans hk7
                refine ⟨rfl, .tuple #[.slice A8 ([(l.2.1, l.1, l.2.2)] ++ p).length c8, .bool true], by simp [results, Try.results31, go_sem], _, rfl, ⟨hr8, fun q hq => ?_⟩, ownsRow_kp hu7 hk78 fun _ _ => id, hkW7.trans (hk78.imp fun _ _ h => h.elim)⟩
                have hs7 : (W7.alloc (.cells #[.int .i64 l.2.1, .int .i64 l.1, .int .i64 l.2.2] 30)).heap.size = W7.heap.size + 1 := by simp
                have := hkW7.size
                rcases hg8 with h | h
                · rw [h] at hq
                  have e : W7.heap.size = q := Option.some.inj hq
                  omega
                · rw [h] at hq
                  have e := Option.some.inj hq
                  omega
          · by_cases hA : l.1 = at_
            · subst hA
              have hB2 : ¬ l.2.1 = l.1 := Ne.symm hne
              rw [if_pos (show At l l.1 from .inl rfl), show other l l.1 = l.2.1 by unfold other; rw [if_pos rfl], show away l l.1 = (l.1, l.2.1, l.2.2) by unfold away; rw [if_pos rfl]] at hl
              have hbx := (heap_alloc wr (.cells #[.int .i64 l.1, .int .i64 l.2.1, .int .i64 l.2.2] 30)).1
              have hkb : Kp (fun _ => False) wr (wr.alloc (.cells #[.int .i64 l.1, .int .i64 l.2.1, .int .i64 l.2.2] 30)) := Kp.alloc _ _
              have hgb : gu ≠ wr.heap.size := fun e => by obtain ⟨cur, hc⟩ := ownsRow_lt hui (g := gu) rfl; have := (Array.getElem?_eq_some_iff.1 hc).1; omega
              have hbg : wr.heap.size ≠ gu := Ne.symm hgb
              obtain ⟨q3, r3⟩ := us_cell (ownsRow_kp hui hkb fun _ _ => id) hx
              obtain ⟨m1, m2, m3, m4⟩ := mark (j := j) hkb hbx hbg hui hvr hgl hjn hn
              have hf4' : f ≤ 400 := by omega
              cases hrr : rwalk ls b f (ui.set j true) l.2.1 with
              | none => rw [hrr] at hl; cases hl
              | some q =>
                obtain ⟨r', u''⟩ := q
                rw [hrr] at hl
                cases r' with
                | none =>
                  dsimp only at hl
                  have hp' : ∀ p, (none : Option (List Lk)) = some p → p.length ≤ f := fun p h => by cases h
                  have hrec := (ih _ _ u'' none _ hrr (by omega) m3 m2 hp')
                  go_wp2_with (first
                    | ((with_reducible refine hrec.mono ?_); rintro e W7 ⟨vr, rfl, hr7, hu7, hk7⟩; obtain ⟨A7, c7, rfl⟩ := slice_of hr7.row)
                    | fail)
                  go_roundw
                  case rel => exact ⟨j + 1, u'', by go_num, hjn, hl, hu7, (hk.trans m4).trans hk7⟩
                  case measure => simp only [intOf]; omega
                | some p =>
                  dsimp only at hl
                  simp only [Option.some.injEq, Prod.mk.injEq] at hl
                  obtain ⟨rfl, rfl⟩ := hl
                  have hpl := hp _ rfl
                  simp only [List.length_cons] at hpl
                  have hp' : ∀ q, some p = some q → q.length ≤ f := fun q h => by cases h; omega
                  have hrec := (ih _ _ _ (some p) _ hrr (by omega) m3 m2 hp')
                  go_wp2_with (first
                    | ((with_reducible refine hrec.mono ?_); rintro e W7 ⟨vr, rfl, hr7, hu7, hk7⟩; obtain ⟨A7, c7, rfl⟩ := slice_of hr7.row; obtain ⟨t0, _⟩ := box_cells (hk7.heap m1 hbg) (j := 0) rfl; obtain ⟨t1, _⟩ := box_cells (hk7.heap m1 hbg) (j := 1) rfl; obtain ⟨t2, _⟩ := box_cells (hk7.heap m1 hbg) (j := 2) rfl; have o1 := one_row W7 l.1 l.2.1 l.2.2; have o2 : Rw (W7.alloc (.cells #[.int .i64 l.1, .int .i64 l.2.1, .int .i64 l.2.2] 30)) _ p := hr7.row.alloc _)
                    | (at_builtin; refine wpList_appendAny rfl (.tmp 55) (.tmp 56) rfl _ _ [(l.1, l.2.1, l.2.2)] p rfl rfl o1 o2 (by simp; omega) ?_; intro v8 W8 hr8 hk8 hg8; obtain ⟨A8, c8, rfl⟩ := slice_of hr8)
                    | fail)
                  have hk78 := kp_new hk8
                  have hkW7 := (hk.trans m4).trans hk7
                  refine ⟨rfl, .tuple #[.slice A8 ([(l.1, l.2.1, l.2.2)] ++ p).length c8, .bool true], by simp [results, Try.results31, go_sem], _, rfl, ⟨hr8, fun q hq => ?_⟩, ownsRow_kp hu7 hk78 fun _ _ => id, hkW7.trans (hk78.imp fun _ _ h => h.elim)⟩
                  have hs7 : (W7.alloc (.cells #[.int .i64 l.1, .int .i64 l.2.1, .int .i64 l.2.2] 30)).heap.size = W7.heap.size + 1 := by simp
                  have := hkW7.size
                  rcases hg8 with h | h
                  · rw [h] at hq
                    have e : W7.heap.size = q := Option.some.inj hq
                    omega
                  · rw [h] at hq
                    have e := Option.some.inj hq
                    omega
            · rw [if_neg (fun e => e.elim hA hB)] at hl
              go_wp2_with (fail)
              exact ⟨⟨j + 1, ui, by simp, hjn, hl, ownsRow_kp (S := fun _ => False) hui (Kp.alloc _ _) (fun _ _ => id), hk.trans (Kp.alloc _ _)⟩, by simp only [intOf]; omega⟩
      · have hje : j = n := by omega
        subst hje
        rw [List.drop_of_length_le (by simp)] at hl
        cases hl
        go_wp2_with (fail)
        exact ⟨rfl, .tuple #[.slice none 0 0, .bool false], by simp [results, Try.results31, go_sem], .slice none 0 0, rfl, ⟨Rw.nil _, fun g hg => by cases hg⟩, hui, hk⟩
end Go.Proofs.Ytmkhglpfhnocaaa.Fn
