import Derived.Test.YtmkhglpfhnocaaaFe
namespace Go.Proofs.Ytmkhglpfhnocaaa.Fn
open Go Go.RowKit Go.MapKept Go.Proofs Forest17
set_option linter.unusedVariables false
set_option maxRecDepth 100000
set_option linter.unusedSimpArgs false
open Go.Shelf
attribute [local go_sem] Oper.semAt_some
theorem wpList_push {ops : Array Oper} {rest : List Oper} {o : Oper} {a : Act} {Q : Exit → Act → World → Prop} {W : World} (hgd : o.guard = none) (s x : Operand) (ho : o.op = .call { callee := .builtin .append, args := #[s, x], argTypes := #[26, 26] })
    (v : Value) (ls : List Lk) (l : Lk) (hs : a.eval s = v) (N : Nat) (hN : W.heap.size = N) (hx : a.eval x = .slice (some ⟨N, 0, none⟩) 1 1) (h : W.ownsRow 0 30 3 v ls.length (lksV ls)) (hn : ls.length ≤ 1000)
    (hK : ∀ v' W', W'.ownsRow 0 30 3 v' (ls ++ [l]).length (lksV (ls ++ [l])) → Kp (fun q => v.ownBlock = some q) W W' → (∃ g, v'.ownBlock = some g ∧ (v.ownBlock = some g ∨ W.heap.size ≤ g)) → wpList Try.prog ops Q rest (a.put o.dst v') W') :
    wpList Try.prog ops Q (o :: rest) a (W.alloc (.cells #[.int .i64 l.1, .int .i64 l.2.1, .int .i64 l.2.2] 30)) := by
  subst hN
  refine wpList_plain hgd fun K hk => ?_
  obtain ⟨v', W', hr, h2, h3, h4⟩ := push_link (l := l) h hn o.type
  unfold Oper.wp execOp
  simp only [ho, resolve, invoke, builtin, Sem.run_bind, Sem.run_pure, Result.andThen_ok, List.map_toArray, List.map_cons, List.map_nil, hs, hx, hr]
  exact hk _ _ (hK v' W' h2 h3 h4)
theorem lksV_len (ls : List Lk) : (lksV ls).length = ls.length * 3 := by
  induction ls with
  | nil => rfl
  | cons l ls ih => simp only [lksV, List.flatMap_cons, List.length_append, List.length_cons] at ih ⊢; rw [ih]; simp [lkV]; omega
theorem lksV_get : ∀ {ls : List Lk} {k : Nat} {l : Lk}, ls[k]? = some l → (lksV ls)[k * 3]? = some (.int .i64 l.1) ∧ (lksV ls)[k * 3 + 1]? = some (.int .i64 l.2.1) ∧ (lksV ls)[k * 3 + 2]? = some (.int .i64 l.2.2)
  | x :: ls, 0, l, h => by cases h; exact ⟨rfl, rfl, rfl⟩
  | x :: ls, k + 1, l, h => by
    have e : ∀ j, (lksV (x :: ls))[(k + 1) * 3 + j]? = (lksV ls)[k * 3 + j]? := fun j => by
      rw [show (k + 1) * 3 + j = (k * 3 + j) + 3 by omega]; rfl
    have := lksV_get (ls := ls) (k := k) h
    exact ⟨(e 0).trans this.1, (e 1).trans this.2.1, (e 2).trans this.2.2⟩
/-- The cells of a link in a row. -/
theorem link_cells {W : World} {ls : List Lk} {A : Option Addr} {n c k : Nat} {l : Lk} (h : W.ownsRow 0 30 3 (.slice A n c) n (lksV ls)) (hk : ls[k]? = some l) :
    ∃ g, A = some ⟨g, 0, none⟩ ∧ W.cell? ⟨g, k * 3, none⟩ = some (.int .i64 l.1) ∧ W.cell? ⟨g, k * 3 + 1, none⟩ = some (.int .i64 l.2.1) ∧ W.cell? ⟨g, k * 3 + 2, none⟩ = some (.int .i64 l.2.2) := by
  obtain ⟨q0, q1, q2⟩ := lksV_get hk
  rcases h.2 with ⟨hv, h0⟩ | ⟨g, cap, cur, hv, _⟩
  · have h1 := h.1
    rw [h0, Nat.zero_mul, List.length_eq_zero_iff] at h1
    rw [h1] at q0; simp at q0
  · simp only [Value.slice.injEq] at hv
    obtain ⟨rfl, _, rfl⟩ := hv
    have hc := h.cells (g := g) rfl
    have f : ∀ j u, (lksV ls)[j]? = some u → W.cell? ⟨g, j, none⟩ = some u := fun j u hj => by
      have := hc j u hj
      unfold Addr.add at this
      split at this <;> simp_all
    exact ⟨g, rfl, f _ _ q0, f _ _ q1, f _ _ q2⟩
theorem near_cell {W : World} {A : Option Addr} {n c j k : Nat} {xs : List Nat} (h : W.ownsRow 0 3 1 (.slice A n c) n (xs.map natV)) (hj : xs[j]? = some k) : ∃ g, A = some ⟨g, 0, none⟩ ∧ W.cell? ⟨g, j, none⟩ = some (.int .i64 (k : Int)) := by
  have hx : (xs.map natV)[j]? = some (.int .i64 (k : Int)) := by rw [List.getElem?_map, hj]; rfl
  rcases h.2 with ⟨hv, h0⟩ | ⟨g, cap, cur, hv, _⟩
  · have h1 := h.1
    rw [h0, Nat.zero_mul, List.length_eq_zero_iff] at h1
    rw [h1] at hx; simp at hx
  · simp only [Value.slice.injEq] at hv
    obtain ⟨rfl, _, rfl⟩ := hv
    have := h.cells (g := g) rfl j _ hx
    refine ⟨g, rfl, ?_⟩
    unfold Addr.add at this
    split at this <;> simp_all
theorem row_pop {W : World} {A : Option Addr} {n c : Nat} {acc : List Lk} {l : Lk} (h : W.ownsRow 0 30 3 (.slice A (n + 1) c) (n + 1) (lksV (acc ++ [l]))) (hn : acc.length = n) : W.ownsRow 0 30 3 (.slice A n c) n (lksV acc) := by
  refine ⟨by rw [lksV_len, hn], ?_⟩
  rcases h.2 with ⟨_, h0⟩ | ⟨g, cap, cur, hv, h1, h2, h3, h4, h5, h6⟩
  · omega
  · simp only [Value.slice.injEq] at hv
    obtain ⟨rfl, _, rfl⟩ := hv
    refine .inr ⟨g, c, cur, rfl, h1, h2, by omega, h4, h5, ?_⟩
    have e : lksV (acc ++ [l]) = lksV acc ++ lkV l := by simp [lksV]
    have h7 : (cur.toList.take ((n + 1) * 3)).take (n * 3) = lksV acc := by
      rw [h6, e, ← hn, ← lksV_len acc]; exact List.take_left
    rw [List.take_take, Nat.min_eq_left (by omega)] at h7
    exact h7
theorem row_cap {W : World} {B n sz c : Nat} {e : TypeId} {A : Option Addr} {xs : List Value} (h : W.ownsRow B e sz (.slice A n c) n xs) : n ≤ c := by
  rcases h.2 with ⟨_, h0⟩ | ⟨g, cap, cur, hv, h1, h2, h3, _⟩
  · omega
  · simp only [Value.slice.injEq] at hv
    omega
/-- What the search finds in its variables. -/
structure Wv (W0 : World) (M : Nat → Prop) (ls : List Lk) (fb nb ub : Nat) (v : Value) (nm : Int → Option Value) (b : Int) (bb fbb ob wb : Nat) : Prop where
  for_ : For ls
  len : ls.length ≤ 200
  hbb : W0.heap[bb]? = some (.cells #[.int .i64 b] 3 (0, 0))
  hfbb : W0.heap[fbb]? = some (.cells #[.pointer (some ⟨fb, 0, none⟩)] 24 (0, 0))
  hwb : W0.heap[wb]? = some (.cells #[.func (.func 26) #[] #[.pointer (some ⟨bb, 0, none⟩), .pointer (some ⟨fbb, 0, none⟩), .pointer (some ⟨ob, 0, none⟩), .pointer (some ⟨wb, 0, none⟩)]] 46 (0, 0))
  hfb : W0.heap[fb]? = some (.cells #[.bool true, v, .map (some nb), .map (some ub)] 52 (0, 0))
  row : W0.ownsRow 0 30 3 v ls.length (lksV ls)
  hnm : MapIs W0 nb nm
  near : Nr W0 ls nm M
/-- What has been found so far. -/
def OutAt (W0 : World) (ob : Nat) (acc : List Lk) (W : World) : Prop := ∃ A c, W.heap[ob]? = some (.cells #[.slice A acc.length c] 26 (0, 0)) ∧ W.ownsRow 0 30 3 (.slice A acc.length c) acc.length (lksV acc) ∧ ∀ ad, A = some ad → W0.heap.size ≤ ad.block
theorem cell_of_block {W W' : World} {a : Addr} (h : W'.heap[a.block]? = W.heap[a.block]?) : W'.cell? a = W.cell? a := by simp only [World.cell?, h]
theorem out_push {W0 wr Wb W' : World} {ob n c c' : Nat} {A A' : Option Addr} {acc : List Lk} {x y z : Int} (hk : Kp (fun k => k = ob) W0 wr) (hob : ob < W0.heap.size) (hA : ∀ ad, A = some ad → W0.heap.size ≤ ad.block) (hkb : Kp (fun k => wr.heap.size ≤ k) wr Wb) (hhob : wr.heap[ob]? = some (.cells #[.slice A n c] 26 (0, 0)))
    (hr : W'.ownsRow 0 30 3 (.slice A' (acc ++ [(x, y, z)]).length c') (acc ++ [(x, y, z)]).length (lksV (acc ++ [(x, y, z)]))) (hp : Kp (fun q => (Value.slice A n c).ownBlock = some q) Wb W') (hg : ∃ g, (Value.slice A' (acc ++ [(x, y, z)]).length c').ownBlock = some g ∧ ((Value.slice A n c).ownBlock = some g ∨ Wb.heap.size ≤ g)) :
    W'.heap[ob]? = some (.cells #[.slice A n c] 26 (0, 0)) ∧ Kp (fun k => k = ob) W0 (W'.setCell ⟨ob, 0, none⟩ (.slice A' (acc.length + 1) c')) ∧ OutAt W0 ob (acc ++ [(x, y, z)]) (W'.setCell ⟨ob, 0, none⟩ (.slice A' (acc.length + 1) c')) := by
  have el : acc.length + 1 = (acc ++ [(x, y, z)]).length := by simp
  rw [el]
  have hA' : ∀ q, (Value.slice A n c).ownBlock = some q → W0.heap.size ≤ q := fun q hq => by
    cases A with
    | none => cases hq
    | some ad => simp only [Value.ownBlock, Option.some.injEq] at hq; rw [← hq]; exact hA ad rfl
  have e1 : W'.heap[ob]? = some (.cells #[.slice A n c] 26 (0, 0)) := by
    refine hp.heap (hkb.heap hhob ?_) fun e => ?_
    · have := hk.size; omega
    · have := hA' _ e; omega
  have hsz := hk.size
  have hkW : Kp (fun k => k = ob) W0 W' := ⟨hp.os.trans (hkb.os.trans hk.os), hp.tape.trans (hkb.tape.trans hk.tape), hp.output.trans (hkb.output.trans hk.output), Nat.le_trans hk.size (Nat.le_trans hkb.size hp.size), fun k hl hn => by
    rw [hp.block k (Nat.lt_of_lt_of_le hl (Nat.le_trans hk.size hkb.size)) (fun e => by have := hA' _ e; omega), hkb.block k (Nat.lt_of_lt_of_le hl hk.size) (by omega)]
    exact hk.block k hl hn⟩
  refine ⟨e1, hkW.setCell rfl _, A', c', by simp [World.setCell, Array.getElem?_modify, e1], ?_, ?_⟩
  · obtain ⟨g, hg1, hg2⟩ := hg
    have hgo : g ≠ ob := by
      obtain ⟨cur, hc⟩ := ownsRow_lt hr hg1
      exact heap_ne hc e1 (by simp)
    refine ownsRow_kp hr (S := fun k => k = ob) ((Kp.refl (fun k => k = ob) W').setCell (p := ⟨ob, 0, none⟩) rfl _) fun q hq e => ?_
    rw [hg1] at hq; cases hq; exact hgo e
  · intro ad had
    obtain ⟨g, hg1, hg2⟩ := hg
    subst had
    simp only [Value.ownBlock, Option.some.injEq] at hg1
    rw [hg1]
    rcases hg2 with h | h
    · exact hA' _ h
    · exact Nat.le_trans (Nat.le_trans hk.size hkb.size) h
theorem out_pop {W0 W3 : World} {ob c : Nat} {A : Option Addr} {acc : List Lk} {l : Lk} (h3 : W3.heap[ob]? = some (.cells #[.slice A (acc.length + 1) c] 26 (0, 0))) (r3 : W3.ownsRow 0 30 3 (.slice A (acc.length + 1) c) (acc.length + 1) (lksV (acc ++ [l]))) (a3 : ∀ ad, A = some ad → W0.heap.size ≤ ad.block) : OutAt W0 ob acc (W3.setCell ⟨ob, 0, none⟩ (.slice A acc.length c)) := by
  refine ⟨A, c, by simp [World.setCell, Array.getElem?_modify, h3], ?_, a3⟩
  refine ownsRow_kp (row_pop r3 rfl) (S := fun k => k = ob) ((Kp.refl (fun k => k = ob) W3).setCell (p := ⟨ob, 0, none⟩) rfl _) fun g hg e => ?_
  obtain ⟨cur, hc⟩ := ownsRow_lt (row_pop r3 rfl) hg
  exact heap_ne hc h3 (by simp) e
set_option maxHeartbeats 3000000 in
theorem walk_calls {W0 : World} {M : Nat → Prop} {ls : List Lk} {fb nb ub : Nat} {v : Value} {nm : Int → Option Value} {b : Int} {bb fbb ob wb : Nat} (V : Wv W0 M ls fb nb ub v nm b bb fbb ob wb) (hob : ob < W0.heap.size) (hob0 : ∃ x, W0.heap[ob]? = some (.cells #[x] 26 (0, 0))) :
    ∀ (f : Nat) (at_ fr : Int) (r : Option (List Lk)) (W : World) (acc : List Lk), dfs ls b f at_ fr = some r → Kp (fun k => k = ob) W0 W → OutAt W0 ob acc W → acc.length + f ≤ 1000 →
    Calls Try.prog 26 #[.int .i64 at_, .int .i64 fr, .pointer (some ⟨bb, 0, none⟩), .pointer (some ⟨fbb, 0, none⟩), .pointer (some ⟨ob, 0, none⟩), .pointer (some ⟨wb, 0, none⟩)] W fun e W' => e = .returned (.bool r.isSome) ∧ Kp (fun k => k = ob) W0 W' ∧ OutAt W0 ob (acc ++ r.getD []) W' := by
  obtain ⟨x0, hx0⟩ := hob0
  have n1 : bb ≠ ob := heap_ne V.hbb hx0 (by simp)
  have n2 : fbb ≠ ob := heap_ne V.hfbb hx0 (by simp)
  have n3 : wb ≠ ob := heap_ne V.hwb hx0 (by simp)
  have n4 : fb ≠ ob := heap_ne V.hfb hx0 (by simp)
  have n5 : nb ≠ ob := (map_ne hx0 V.hnm).symm
  have nrow : ∀ g, v.ownBlock = some g → g ≠ ob := fun g hg => by obtain ⟨cur, hc⟩ := ownsRow_lt V.row hg; exact heap_ne hc hx0 (by simp)
  intro f
  induction f with
  | zero => intro at_ fr r W acc h; cases h
  | succ f ih =>
  intro at_ fr r W acc h hk ho hlen
  have hbW := box_cells (hk.heap V.hbb n1) (j := 0) rfl
  have hfW := box_cells (hk.heap V.hfbb n2) (j := 0) rfl
  have hf2 := box_cells (hk.heap V.hfb n4) (j := 2) rfl
  obtain ⟨cb, _⟩ := hbW
  obtain ⟨cf, _⟩ := hfW
  obtain ⟨c2, _⟩ := hf2
  unfold dfs at h
  refine calls_of_wp Try.func26 rfl ?_
  simp only [Try.ntmps26, List.size_toArray, List.length_cons, List.length_nil, Nat.reduceAdd, Nat.reduceSub, Array.replicate_succ, Array.replicate_zero, List.push_toArray, List.append_toArray, List.nil_append, List.cons_append]
  by_cases hab : at_ = b
  · rw [if_pos hab] at h
    cases h
    subst hab
    go_wp2_with (fail)
    exact ⟨rfl, .bool true, by simp [results, Try.results26, go_sem], rfl, hk, by simpa using ho⟩
  · rw [if_neg hab] at h
    have hlk := (V.hnm.kept (hk.block _ V.hnm.lt n5)).lookup (P := Try.prog) und49 und3 (zero53 W) at_
    obtain ⟨nr, nM⟩ := V.near.get at_
    generalize hxx : (nm at_).getD (.slice none 0 0) = xx at hlk nr nM
    obtain ⟨Ax, cx, rfl⟩ := slice_of nr
    go_wp2_with (at_lookup; refine wpList_lookup_run _ rfl _ _ 49 false rfl _ _ _ rfl rfl hlk ?_)
    clear hlk c2 cf cb
    go_loopw [22] (fun v22 wr => ∃ j : Nat, v22 = .int .i64 (j : Int) ∧ j ≤ (near ls at_).length ∧ loopD (dfs ls b f) ls at_ fr ((near ls at_).drop j) = some r ∧ Kp (fun k => k = ob) W0 wr ∧ OutAt W0 ob acc wr) (fun v22 wr => (near ls at_).length - (intOf v22).toNat)
    case atStart => exact ⟨0, rfl, Nat.zero_le _, h, hk, ho⟩
    case round =>
      obtain ⟨j, rfl, hj, hl, hkr, hor⟩ := hrel
      have hn200 : (near ls at_).length ≤ 200 := Nat.le_trans (near_le ls at_) V.len
      by_cases hjn : j < (near ls at_).length
      · obtain ⟨k, hkj⟩ : ∃ k, (near ls at_)[j]? = some k := ⟨_, List.getElem?_eq_getElem hjn⟩
        rw [List.drop_eq_getElem_cons hjn, show (near ls at_)[j] = k by rw [List.getElem?_eq_getElem hjn] at hkj; exact Option.some.inj hkj] at hl
        obtain ⟨l, hlk, hat⟩ := mem_near.1 (List.mem_of_getElem? hkj)
        obtain ⟨gx, rfl, cnear⟩ := near_cell (ownsRow_kp nr hkr fun g hg => by obtain ⟨cur, hc⟩ := ownsRow_lt nr hg; exact heap_ne hc hx0 (by simp)) hkj
        rw [loopD] at hl
        have hklt : k < ls.length := (List.getElem?_eq_some_iff.1 hlk).1
        by_cases hkf : (k : Int) = fr
        · rw [if_pos hkf] at hl
          subst hkf
          go_wp2_with (fail)
          exact ⟨⟨j + 1, by simp, hjn, hl, hkr, hor⟩, by simp only [intOf]; omega⟩
        · rw [if_neg hkf, hlk] at hl
          dsimp only at hl
          obtain ⟨cf, _⟩ := box_cells (hkr.heap V.hfbb n2) (j := 0) rfl
          obtain ⟨c1, _⟩ := box_cells (hkr.heap V.hfb n4) (j := 1) rfl
          obtain ⟨cw, _⟩ := box_cells (hkr.heap V.hwb n3) (j := 0) rfl
          have hrowr := ownsRow_kp V.row hkr nrow
          obtain ⟨Av, cv, rfl⟩ := slice_of V.row
          obtain ⟨gv, rfl, l0, l1, l2⟩ := link_cells hrowr hlk
          obtain ⟨A, c, hhob, hrow, hA⟩ := hor
          obtain ⟨co, fo⟩ := box_cells hhob (j := 0) rfl
          have hl3 : acc.length ≤ 1000 := by omega
          by_cases hA1 : l.1 = at_
          · have hoth : other l at_ = l.2.1 := by unfold other; rw [if_pos hA1]
            have haw : away l at_ = (l.1, l.2.1, l.2.2) := by unfold away; rw [if_pos hA1]
            rw [hoth, haw] at hl
            subst hA1
            have hbx := (heap_alloc wr (.cells #[.int .i64 l.1, .int .i64 l.2.1, .int .i64 l.2.2] 30)).1
            have hkb : Kp (fun k => wr.heap.size ≤ k) wr (wr.alloc (.cells #[.int .i64 l.1, .int .i64 l.2.1, .int .i64 l.2.2] 30)) := Kp.alloc _ _
            have hlt : ∀ {k o}, W0.heap[k]? = some o → ¬ wr.heap.size ≤ k := fun h => by have := (Array.getElem?_eq_some_iff.1 h).1; have := hkr.size; omega
            have hrowb := ownsRow_kp hrow hkb fun g hg e => by obtain ⟨cur, hc⟩ := ownsRow_lt hrow hg; have := (Array.getElem?_eq_some_iff.1 hc).1; omega
            obtain ⟨cob, _⟩ := box_cells (hkb.heap hhob (by have := hkr.size; omega)) (j := 0) rfl
            have hwbb := hkb.heap (hkr.heap V.hwb n3) (hlt V.hwb)
            have hbo : wr.heap.size ≠ ob := by have := hkr.size; omega
            have nA : ∀ q, (Value.slice A acc.length c).ownBlock = some q → W0.heap.size ≤ q ∧ q < wr.heap.size := fun q hq => by
              obtain ⟨cur, hc⟩ := ownsRow_lt hrow hq
              refine ⟨?_, (Array.getElem?_eq_some_iff.1 hc).1⟩
              cases A with
              | none => cases hq
              | some ad => simp only [Value.ownBlock, Option.some.injEq] at hq; rw [← hq]; exact hA ad rfl
            have nwb : ¬ (Value.slice A acc.length c).ownBlock = some wb := fun e => by have := (nA wb e).1; have := (Array.getElem?_eq_some_iff.1 V.hwb).1; omega
            have nbx : ¬ (Value.slice A acc.length c).ownBlock = some wr.heap.size := fun e => by have := (nA _ e).2; omega
            cases hd : dfs ls b f l.2.1 k with
            | none => rw [hd] at hl; cases hl
            | some r' =>
              rw [hd] at hl
              have hrec := fun W' acc' => ih l.2.1 k r' W' acc' hd
              have hl4 : (acc ++ [(l.1, l.2.1, l.2.2)]).length + f ≤ 1000 := by simp; omega
              clear ih hrowr
              cases r' with
              | some p =>
                simp only [Option.some.injEq] at hl
                subst hl
                go_wp2_with (first
                  | (at_builtin; refine wpList_push rfl (.tmp 46) (.tmp 48) rfl _ acc (l.1, l.2.1, l.2.2) rfl (wr.heap.size + 1) (by simp) rfl hrowb hl3 ?_; intro v' W' hr' hk' hg'; obtain ⟨A', c', rfl⟩ := slice_of hr'; obtain ⟨p1, p2, p3⟩ := out_push hkr hob hA hkb hhob hr' hk' hg'; obtain ⟨q1, q2⟩ := box_cells p1 (j := 0) rfl; obtain ⟨q3, _⟩ := box_cells (hk'.heap hwbb nwb) (j := 0) rfl; obtain ⟨q4, _⟩ := box_cells (hk'.heap hbx nbx) (j := 1) rfl)
                  | ((with_reducible refine (hrec _ _ p2 p3 hl4).mono ?_); rintro e W3 ⟨rfl, hk3, ho3⟩))
                exact ⟨rfl, .bool true, by simp [results, Try.results26, go_sem], rfl, hk3, by simpa using ho3⟩
              | none =>
                simp only at hl
                go_wp2_with (first
                  | (at_builtin; refine wpList_push rfl (.tmp 46) (.tmp 48) rfl _ acc (l.1, l.2.1, l.2.2) rfl (wr.heap.size + 1) (by simp) rfl hrowb hl3 ?_; intro v' W' hr' hk' hg'; obtain ⟨A', c', rfl⟩ := slice_of hr'; obtain ⟨p1, p2, p3⟩ := out_push hkr hob hA hkb hhob hr' hk' hg'; obtain ⟨q1, q2⟩ := box_cells p1 (j := 0) rfl; obtain ⟨q3, _⟩ := box_cells (hk'.heap hwbb nwb) (j := 0) rfl; obtain ⟨q4, _⟩ := box_cells (hk'.heap hbx nbx) (j := 1) rfl)
                  | ((with_reducible refine (hrec _ _ p2 p3 hl4).mono ?_); rintro e W3 ⟨rfl, hk3, ho3⟩; obtain ⟨A3, c3, h3, r3, a3⟩ := ho3; simp only [Option.getD_none, List.append_nil, List.length_append, List.length_singleton] at h3 r3; obtain ⟨s1, s2⟩ := box_cells h3 (j := 0) rfl; have hc3 := row_cap r3; have hc4 : acc.length ≤ c3 := by omega))
                exact ⟨⟨j + 1, by simp, hjn, hl, hk3.setCell rfl _, out_pop h3 r3 a3⟩, by simp only [intOf]; omega⟩
          · have hA2 : l.2.1 = at_ := hat.resolve_left hA1
            have hoth : other l at_ = l.1 := by unfold other; rw [if_neg hA1]
            have haw : away l at_ = (l.2.1, l.1, l.2.2) := by unfold away; rw [if_neg hA1]
            rw [hoth, haw] at hl
            subst hA2
            have hbx := (heap_alloc wr (.cells #[.int .i64 l.2.1, .int .i64 l.1, .int .i64 l.2.2] 30)).1
            have hkb : Kp (fun k => wr.heap.size ≤ k) wr (wr.alloc (.cells #[.int .i64 l.2.1, .int .i64 l.1, .int .i64 l.2.2] 30)) := Kp.alloc _ _
            have hlt : ∀ {k o}, W0.heap[k]? = some o → ¬ wr.heap.size ≤ k := fun h => by have := (Array.getElem?_eq_some_iff.1 h).1; have := hkr.size; omega
            have hrowb := ownsRow_kp hrow hkb fun g hg e => by obtain ⟨cur, hc⟩ := ownsRow_lt hrow hg; have := (Array.getElem?_eq_some_iff.1 hc).1; omega
            obtain ⟨cob, _⟩ := box_cells (hkb.heap hhob (by have := hkr.size; omega)) (j := 0) rfl
            have hwbb := hkb.heap (hkr.heap V.hwb n3) (hlt V.hwb)
            have hbo : wr.heap.size ≠ ob := by have := hkr.size; omega
            have nA : ∀ q, (Value.slice A acc.length c).ownBlock = some q → W0.heap.size ≤ q ∧ q < wr.heap.size := fun q hq => by
              obtain ⟨cur, hc⟩ := ownsRow_lt hrow hq
              refine ⟨?_, (Array.getElem?_eq_some_iff.1 hc).1⟩
              cases A with
              | none => cases hq
              | some ad => simp only [Value.ownBlock, Option.some.injEq] at hq; rw [← hq]; exact hA ad rfl
            have nwb : ¬ (Value.slice A acc.length c).ownBlock = some wb := fun e => by have := (nA wb e).1; have := (Array.getElem?_eq_some_iff.1 V.hwb).1; omega
            have nbx : ¬ (Value.slice A acc.length c).ownBlock = some wr.heap.size := fun e => by have := (nA _ e).2; omega
            cases hd : dfs ls b f l.1 k with
            | none => rw [hd] at hl; cases hl
            | some r' =>
              rw [hd] at hl
              have hrec := fun W' acc' => ih l.1 k r' W' acc' hd
              have hl4 : (acc ++ [(l.2.1, l.1, l.2.2)]).length + f ≤ 1000 := by simp; omega
              clear ih hrowr
              cases r' with
              | some p =>
                simp only [Option.some.injEq] at hl
                subst hl
                go_wp2_with (first
                  | (at_builtin; refine wpList_push rfl (.tmp 46) (.tmp 48) rfl _ acc (l.2.1, l.1, l.2.2) rfl (wr.heap.size + 1) (by simp) rfl hrowb hl3 ?_; intro v' W' hr' hk' hg'; obtain ⟨A', c', rfl⟩ := slice_of hr'; obtain ⟨p1, p2, p3⟩ := out_push hkr hob hA hkb hhob hr' hk' hg'; obtain ⟨q1, q2⟩ := box_cells p1 (j := 0) rfl; obtain ⟨q3, _⟩ := box_cells (hk'.heap hwbb nwb) (j := 0) rfl; obtain ⟨q4, _⟩ := box_cells (hk'.heap hbx nbx) (j := 1) rfl)
                  | ((with_reducible refine (hrec _ _ p2 p3 hl4).mono ?_); rintro e W3 ⟨rfl, hk3, ho3⟩))
                exact ⟨rfl, .bool true, by simp [results, Try.results26, go_sem], rfl, hk3, by simpa using ho3⟩
              | none =>
                simp only at hl
                go_wp2_with (first
                  | (at_builtin; refine wpList_push rfl (.tmp 46) (.tmp 48) rfl _ acc (l.2.1, l.1, l.2.2) rfl (wr.heap.size + 1) (by simp) rfl hrowb hl3 ?_; intro v' W' hr' hk' hg'; obtain ⟨A', c', rfl⟩ := slice_of hr'; obtain ⟨p1, p2, p3⟩ := out_push hkr hob hA hkb hhob hr' hk' hg'; obtain ⟨q1, q2⟩ := box_cells p1 (j := 0) rfl; obtain ⟨q3, _⟩ := box_cells (hk'.heap hwbb nwb) (j := 0) rfl; obtain ⟨q4, _⟩ := box_cells (hk'.heap hbx nbx) (j := 1) rfl)
                  | ((with_reducible refine (hrec _ _ p2 p3 hl4).mono ?_); rintro e W3 ⟨rfl, hk3, ho3⟩; obtain ⟨A3, c3, h3, r3, a3⟩ := ho3; simp only [Option.getD_none, List.append_nil, List.length_append, List.length_singleton] at h3 r3; obtain ⟨s1, s2⟩ := box_cells h3 (j := 0) rfl; have hc3 := row_cap r3; have hc4 : acc.length ≤ c3 := by omega))
                exact ⟨⟨j + 1, by simp, hjn, hl, hk3.setCell rfl _, out_pop h3 r3 a3⟩, by simp only [intOf]; omega⟩
      · have hje : j = (near ls at_).length := by omega
        subst hje
        rw [List.drop_length] at hl
        cases hl
        go_wp2_with (fail)
        exact ⟨rfl, .bool false, by simp [results, Try.results26, go_sem], rfl, hkr, by simpa using hor⟩
end Go.Proofs.Ytmkhglpfhnocaaa.Fn
