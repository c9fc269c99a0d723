/- The model carries out an operation as its rule says. -/
import Derived.Test.YtchahcaccneinaaEv2
import Derived.Laws.Slices
namespace Go.Proofs.Ytchahcaccneinaa.Ev
open Go Go.RowKit
set_option linter.unusedVariables false
set_option linter.unusedSimpArgs false

section
variable {P : Program} {ρ : Rho} {w0 : World} {s : St} {a : Act} {w : World}

theorem eval_val (h : Rel ρ w0 s a w) {x : Operand} {v : Value} (hx : evV s.tm x = .val v) : a.eval x = v := by
  have := h.tm.eval x; rw [hx] at this; exact this

theorem allVals_spec : ∀ {cs : List V} {vs : List Value}, allVals cs = some vs → cs = vs.map .val
  | [], vs, h => by simp only [allVals, Option.some.injEq] at h; subst h; rfl
  | .val v :: l, vs, h => by
    simp only [allVals] at h
    cases hl : allVals l with
    | none => rw [hl] at h; cases h
    | some r => rw [hl] at h; simp only [Option.map_some, Option.some.injEq] at h; subst h; rw [allVals_spec hl]; rfl
  | .ptr .. :: l, vs, h => by simp [allVals] at h
  | .sl .. :: l, vs, h => by simp [allVals] at h
  | .unk :: l, vs, h => by simp [allVals] at h

theorem intsOf_spec {k : IntKind} : ∀ {l : List Value} {xs : List Int}, intsOf k l = some xs → l = xs.map (.int k)
  | [], xs, h => by simp only [intsOf, Option.some.injEq] at h; subst h; rfl
  | x :: l, xs, h => by
    cases x <;> simp only [intsOf] at h <;> first | (cases h; done) | skip
    split at h
    · rename_i e; subst e
      cases hl : intsOf _ l with
      | none => rw [hl] at h; cases h
      | some ys => rw [hl] at h; simp only [Option.map_some, Option.some.injEq] at h; subst h; rw [intsOf_spec hl]; rfl
    · cases h
theorem boolsOf_spec : ∀ {l : List Value} {xs : List Bool}, boolsOf l = some xs → l = xs.map .bool
  | [], xs, h => by simp only [boolsOf, Option.some.injEq] at h; subst h; rfl
  | x :: l, xs, h => by
    cases x <;> simp only [boolsOf] at h <;> first | (cases h; done) | skip
    cases hl : boolsOf l with
    | none => rw [hl] at h; cases h
    | some ys => rw [hl] at h; simp only [Option.map_some, Option.some.injEq] at h; subst h; rw [boolsOf_spec hl]; rfl
theorem fldOf_spec {l : List Value} {f : Fld} (h : fldOf l = some f) : ∀ i, i < l.length → l[i]? = some (f.at i) := by
  unfold fldOf at h
  split at h
  · rename_i k a l'
    cases hl : intsOf k (.int k a :: l') with
    | none => rw [hl] at h; cases h
    | some xs =>
      rw [hl] at h; simp only [Option.map_some, Option.some.injEq] at h; subst h
      intro i hi
      rw [intsOf_spec hl] at hi ⊢
      simp only [List.length_map] at hi
      simp [Fld.at, List.getD_eq_getElem?_getD, hi]
  · rename_i a l'
    cases hl : boolsOf (.bool a :: l') with
    | none => rw [hl] at h; cases h
    | some xs =>
      rw [hl] at h; simp only [Option.map_some, Option.some.injEq] at h; subst h
      intro i hi
      rw [boolsOf_spec hl] at hi ⊢
      simp only [List.length_map] at hi
      simp [Fld.at, List.getD_eq_getElem?_getD, hi]
  · cases h
theorem fldsOf_spec {vs : List Value} {sz len : Nat} : ∀ (m j : Nat) (fs : List Fld), fldsOf vs sz len j m = some fs → fs.length = m ∧ ∀ q f, fs[q]? = some f → fldOf (col vs sz len (j + q)) = some f
  | 0, j, fs, h => by simp only [fldsOf, Option.some.injEq] at h; subst h; exact ⟨rfl, fun q f hq => by simp at hq⟩
  | m + 1, j, fs, h => by
    simp only [fldsOf] at h
    split at h
    · rename_i f fs' h1 h2
      simp only [Option.some.injEq] at h; subst h
      obtain ⟨i1, i2⟩ := fldsOf_spec m (j + 1) fs' h2
      refine ⟨by simp [i1], fun q g hq => ?_⟩
      cases q with
      | zero => simp at hq; subst hq; exact h1
      | succ q => have := i2 q g (by simpa using hq); rwa [show j + 1 + q = j + (q + 1) by omega] at this
    · cases h

theorem avOf_sound (h : Rel ρ w0 s a w) {v : V} {x : Value} (hx : VRel ρ v x) {av : AV} {rd : List Nat} (hv : avOf s.hp v = some (av, rd)) : AVRel w 0 x av := by
  cases v with
  | val y => simp only [avOf, Option.some.injEq, Prod.mk.injEq] at hv; obtain ⟨rfl, rfl⟩ := hv; exact hx
  | ptr => simp [avOf] at hv
  | unk => simp [avOf] at hv
  | sl b sz len =>
    obtain ⟨r, hr, hlim, rfl⟩ := hx
    have hb := h.hp b
    simp only [avOf] at hv
    cases hq : s.hp.getD b .none with
    | none => rw [hq] at hv; cases hv
    | gone => rw [hq] at hv; cases hv
    | ext n fs =>
      rw [hq] at hv hb
      simp only [Option.some.injEq, Prod.mk.injEq] at hv; obtain ⟨rfl, rfl⟩ := hv
      obtain ⟨r', h1, hm, h2⟩ := hb
      rw [hr] at h1; cases h1
      have hn := hlim n hm; subst hn
      exact ⟨_, _, rfl, fun hp => let ⟨ad, h3, h4, h5, h6⟩ := h2 hp; ⟨ad, h3, h4, Nat.zero_le _, h5, h6⟩⟩
    | grow e n fs =>
      rw [hq] at hv hb
      simp only [Option.some.injEq, Prod.mk.injEq] at hv; obtain ⟨rfl, rfl⟩ := hv
      obtain ⟨r', xs, h1, hm, hpos, ho, hf⟩ := hb
      rw [hr] at h1; cases h1
      have hn := hlim n hm; subst hn
      refine ⟨_, _, rfl, fun hp => ?_⟩
      obtain ⟨g, hg⟩ := grow_some ho hp
      refine ⟨_, hg, rfl, Nat.zero_le _, (grow_addr ho hg).2.2.2, fun i hi j f hfj => ?_⟩
      have hc := ho.cells (g := g) (by rw [hg]; rfl) _ _ (hf i hi j f hfj)
      rw [addr_add] at hc
      exact hc
    | own cs =>
      rw [hq] at hv hb
      simp only at hv
      cases ha : allVals cs with
      | none => rw [ha] at hv; cases hv
      | some vs =>
        rw [ha] at hv
        simp only at hv
        split at hv
        · rename_i hle
          split at hv
          · rename_i fs hfs
            simp only [Option.some.injEq, Prod.mk.injEq] at hv; obtain ⟨rfl, rfl⟩ := hv
            obtain ⟨hlen, hspec⟩ := fldsOf_spec sz 0 fs hfs
            obtain ⟨r', k, e, c, h1, h2, hm, h3, h4, h5⟩ := hb
            rw [hr] at h1; cases h1
            refine ⟨_, _, rfl, fun hp => ⟨_, h2, rfl, Nat.zero_le _, (Array.getElem?_eq_some_iff.1 h4).1, fun i hi j g hg => ?_⟩⟩
            have hj : j < sz := by rw [← hlen]; exact (List.getElem?_eq_some_iff.1 hg).1
            have hcol := fldOf_spec (hspec j g hg) i (by simpa [col] using hi)
            rw [hlen, cell_of_row w k _ c e _ h4, Nat.zero_add]
            have hlt : i * sz + j < vs.length := by
              have : (i + 1) * sz ≤ len * sz := Nat.mul_le_mul_right _ hi
              rw [Nat.add_mul] at this; omega
            have hcs : cs[i * sz + j]? = some (.val (vs.getD (i * sz + j) undef)) := by
              rw [allVals_spec ha, List.getElem?_map, List.getElem?_eq_getElem hlt]
              simp [List.getD_eq_getElem?_getD, List.getElem?_eq_getElem hlt]
            obtain ⟨y, hy, hvr⟩ := h5.2 _ _ hcs
            rw [hy, ← hcol]
            have : y = vs.getD (i * sz + j) undef := hvr
            rw [this]
            simp [col, List.getElem?_range hi]
          · cases hv
        · cases hv

theorem avsOf_sound (h : Rel ρ w0 s a w) : ∀ (xs : List Operand) {avs : List AV} {rd : List Nat}, avsOf s.hp (xs.map (evV s.tm)) = some (avs, rd) →
    avs.length = xs.length ∧ ∀ (i : Nat) (av : AV), avs[i]? = some av → ∃ x : Value, (xs.map a.eval)[i]? = some x ∧ AVRel w 0 x av
  | [], avs, rd, hv => by
    simp only [List.map_nil, avsOf, Option.some.injEq, Prod.mk.injEq] at hv; obtain ⟨rfl, rfl⟩ := hv
    exact ⟨rfl, fun i av hi => by simp at hi⟩
  | x :: xs, avs, rd, hv => by
    simp only [List.map_cons, avsOf] at hv
    cases h1 : avOf s.hp (evV s.tm x) with
    | none => rw [h1] at hv; cases hv
    | some p1 =>
      obtain ⟨av, r⟩ := p1
      rw [h1] at hv
      cases h2 : avsOf s.hp (xs.map (evV s.tm)) with
      | none => rw [h2] at hv; cases hv
      | some p2 =>
        obtain ⟨l, rs⟩ := p2
        rw [h2] at hv
        simp only [Option.some.injEq, Prod.mk.injEq] at hv; obtain ⟨rfl, rfl⟩ := hv
        obtain ⟨i1, i2⟩ := avsOf_sound h xs h2
        refine ⟨by simp [i1], fun i u hi => ?_⟩
        cases i with
        | zero =>
          simp only [List.getElem?_cons_zero, Option.some.injEq] at hi; subst hi
          exact ⟨a.eval x, rfl, avOf_sound h (h.tm.eval x) h1⟩
        | succ i => simpa using i2 i u (by simpa using hi)

theorem run_rowParts {P : Program} {t : TypeId} {len : Nat} {parts : Array (Nat × Value)} {e : TypeId} {sz : Nat} {cells : Array Value} (h : semVal P (rowParts t len parts) = some (e, sz, cells)) (w : World) :
    (Instr.buildSlice t len parts).run P w = .ok (.slice (some ⟨w.heap.size, 0, none⟩) len len) (w.alloc (.cells cells e)) := by
  have hr := semVal_run h w
  unfold rowParts at hr
  unfold Instr.buildSlice
  simp only [Sem.run_bind] at hr ⊢
  cases h1 : (underlying t).run P w with
  | halt x y => rw [h1] at hr; cases hr
  | ok d w1 =>
    rw [h1] at hr
    simp only [Result.andThen_ok] at hr ⊢
    cases d <;> first | (cases hr; done) | skip
    rename_i elem
    simp only [Sem.run_bind] at hr ⊢
    cases h2 : (sizeOf elem).run P w1 with
    | halt x y => rw [h2] at hr; cases hr
    | ok size w2 =>
      rw [h2] at hr
      simp only [Result.andThen_ok] at hr ⊢
      by_cases h3 : len * size > 2 ^ 24
      · simp only [h3, if_true, Sem.run_bind, run_unsupported, Result.andThen_halt] at hr; cases hr
      · simp only [h3, if_false, Sem.run_bind, Sem.run_pure, Result.andThen_ok] at hr ⊢
        have fin : ∀ (zero : Array Value) (w3 : World), (match Instr.fill (fun i => some (i * size, size)) ((Array.range (len * size)).map (zero[· % zero.size]!)) parts.toList with
            | some cells => (pure (elem, size, cells) : Sem (TypeId × Nat × Array Value))
            | _ => stuck "buildSlice: a part of the wrong size").run P w3 = .ok (e, sz, cells) w →
            (match Instr.fill (fun i => some (i * size, size)) ((Array.range (len * size)).map (zero[· % zero.size]!)) parts.toList with
            | some cells => (do pure (.slice (some (← newRow elem cells)) len len) : Sem Value)
            | _ => stuck "buildSlice: a part of the wrong size").run P w3 = .ok (.slice (some ⟨w.heap.size, 0, none⟩) len len) (w.alloc (.cells cells e)) := by
          intro zero w3 hr
          cases h5 : Instr.fill (fun i => some (i * size, size)) ((Array.range (len * size)).map (zero[· % zero.size]!)) parts.toList with
          | none => rw [h5] at hr; cases hr
          | some cs =>
            rw [h5] at hr
            simp only [Sem.run_pure, Result.ok.injEq, Prod.mk.injEq] at hr
            obtain ⟨⟨rfl, rfl, rfl⟩, rfl⟩ := hr
            simp [newRow]
        by_cases h4 : len * size = 0
        · simp only [h4, if_true, Sem.run_bind, Sem.run_pure, Result.andThen_ok] at hr ⊢
          have := fin #[] w2
          simp only [h4] at this
          exact this hr
        · simp only [h4, if_false, Sem.run_bind, Sem.run_pure, Result.andThen_ok] at hr ⊢
          cases h6 : (zeroValue elem).run P w2 with
          | halt x y => rw [h6] at hr; cases hr
          | ok z w3 =>
            rw [h6] at hr
            simp only [Result.andThen_ok] at hr ⊢
            exact fin z.cells w3 hr

/-- A slice that a callee made. -/
theorem Rel.rows (h : Rel ρ w0 s a w) {d : Nat} (hd : s.hp[d]? = some .none) {w' : World} (hb : Below w.heap.size w w') {A : Option Addr} (c : Nat) {n : Nat} {fs : List Fld} (hr : RowsAt w' w.heap.size A n fs) :
    leR ρ (updR ρ d ⟨A, c, some n⟩) ∧ Rel (updR ρ d ⟨A, c, some n⟩) w0 { s with hp := s.hp.set d (.ext n fs) } a w' := by
  refine h.newSlot hd hb _ _ ⟨_, updR_same _ _ _, rfl, fun hp => let ⟨ad, h1, h2, h3, h4, h5⟩ := hr hp; ⟨ad, h1, h2, h4, h5⟩⟩ fun ad had hx => ?_
  obtain ⟨ad', h1, h2, h3, _⟩ := hr hx
  have had' : A = some ad := had
  rw [h1] at had'; cases had'
  exact h3

theorem growFs_spec {e : TypeId} {sz len : Nat} {cells : Array Value} {fs : List Fld} (h : growFs P e sz len cells = some fs) :
    0 < sz ∧ cells.size = len * sz ∧ len ≤ maxLen ∧ fs.length = sz ∧ ∀ i, i < len → ∀ j g, fs[j]? = some g → cells.toList[i * sz + j]? = some (g.at i) := by
  unfold growFs at h
  split at h
  · rename_i hc
    obtain ⟨h1, h2, h3⟩ := hc
    cases len with
    | zero =>
      simp only at h
      split at h
      · split at h
        · exact ⟨h1, h2, h3, (fldsOf_spec sz 0 fs h).1, fun i hi => absurd hi (Nat.not_lt_zero _)⟩
        · cases h
      · cases h
    | succ len =>
      simp only at h
      obtain ⟨hlen, hspec⟩ := fldsOf_spec sz 0 fs h
      refine ⟨h1, h2, h3, hlen, fun i hi j g hg => ?_⟩
      have hj : j < sz := by rw [← hlen]; exact (List.getElem?_eq_some_iff.1 hg).1
      have hcol := fldOf_spec (hspec j g hg) i (by simpa [col] using hi)
      rw [← hcol]
      have hlt : i * sz + j < cells.toList.length := by
        have : (i + 1) * sz ≤ (len + 1) * sz := Nat.mul_le_mul_right _ hi
        rw [Nat.add_mul i 1] at this; simp only [Array.length_toList]; omega
      rw [Nat.zero_add]
      simp [col, List.getElem?_range hi, List.getD_eq_getElem?_getD, hlt]
      simp only [Array.length_toList] at hlt
      simp [hlt]
  · cases h

theorem catFs_spec {n : Nat} : ∀ {fs fs2 fs3 : List Fld}, catFs n fs fs2 = some fs3 → fs3.length = fs.length ∧ fs2.length = fs.length ∧ ∀ (j : Nat) g, fs3[j]? = some g → ∃ g1 g2, fs[j]? = some g1 ∧ fs2[j]? = some g2 ∧ (∀ i, i < n → g.at i = g1.at i) ∧ (∀ i, n ≤ i → g.at i = g2.at (i - n))
  | [], [], fs3, h => by simp only [catFs, Option.some.injEq] at h; subst h; exact ⟨rfl, rfl, fun j g hg => by simp at hg⟩
  | [], _ :: _, fs3, h => by simp [catFs] at h
  | _ :: _, [], fs3, h => by simp [catFs] at h
  | f :: l, f' :: l', fs3, h => by
    simp only [catFs] at h
    split at h
    · rename_i g gs h1 h2
      simp only [Option.some.injEq] at h; subst h
      obtain ⟨i1, i2, i3⟩ := catFs_spec h2
      refine ⟨by simp [i1], by simp [i2], fun j q hq => ?_⟩
      cases j with
      | succ j => exact i3 j q (by simpa using hq)
      | zero =>
        simp only [List.getElem?_cons_zero, Option.some.injEq] at hq; subst hq
        refine ⟨f, f', rfl, rfl, ?_⟩
        unfold catF at h1
        have b1 : ∀ i, i < n → Nat.blt i n = true := fun i hi => by rw [Nat.blt_eq]; exact hi
        have b2 : ∀ i, n ≤ i → Nat.blt i n = false := fun i hi => by
          cases hb : Nat.blt i n with
          | false => rfl
          | true => rw [Nat.blt_eq] at hb; omega
        split at h1
        · split at h1
          · rename_i e; subst e
            cases h1
            exact ⟨fun i hi => by simp [Fld.at, b1 i hi], fun i hi => by simp [Fld.at, b2 i hi]⟩
          · cases h1
        · cases h1
          exact ⟨fun i hi => by simp [Fld.at, b1 i hi], fun i hi => by simp [Fld.at, b2 i hi]⟩
        · cases h1
    · cases h

theorem at_oneCell (f : Fld) (i : Nat) : (f.at i).oneCell' = true := by cases f <;> rfl

/-- An append to a slice of the call's own: where the result lies. -/
theorem run_append_where {base : Nat} {t ty e : TypeId} {i : TypeInfo} {z : Value} {size bytes : Nat} (ht : P.underlying t = some (.slice e)) (hi : P.info? e = some i) (hz : i.zero = some z)
    (hsize : i.size = size) (hby : i.bytes = bytes) (hzs : z.cells.size = size) (hsz : 0 < size)
    {v : Value} {n : Nat} {xs : List Value} (hown : w.ownsRow base e size v n xs)
    {a : Addr} {m c : Nat} {news : List Value} (hl : news.length = m * size) (hnews : ∀ j u, news[j]? = some u → w.cell? (a.add j) = some u) (h1 : ∀ u ∈ news, u.oneCell' = true)
    (h63 : n + m ≤ maxLen) (hbytes : (n + m) * bytes ≤ 140737488355328) (hm : 0 < m) {v' : Value} {w' : World} (hr : (Builtin.append_ #[t, t] ty #[v, .slice (some a) m c]).run P w = .ok v' w') : v'.ownBlock = v.ownBlock ∨ v'.ownBlock = some w.heap.size := by
  subst hsize
  subst hby
  have hsmall : n + m ≤ 9223372036854775807 := by simp only [maxLen] at h63; omega
  rcases hown.2 with ⟨rfl, rfl⟩ | ⟨g, cap, cur, rfl, hbg, hg, hnc, hcm, hcs, htake⟩
  · have hr' := run_append_nil (P := P) w t ty e i z ht hi hz a m c news hl hnews (by omega) (by omega) (by have hb := hbytes; simp only [Nat.zero_add] at hb; omega)
    rw [hr'] at hr
    cases hr
    exact .inr rfl
  · by_cases hroom : n + m ≤ cap
    · have hfit : n * i.size + news.length ≤ cur.size := by rw [hl, hcs, ← Nat.add_mul]; exact Nat.mul_le_mul_right _ hroom
      have hr' := run_append_room (P := P) w t ty e i ht hi g n cap cur hg a m c news hl hnews h1 hroom hfit
      rw [hr'] at hr
      cases hr
      exact .inl rfl
    · have holds : ∀ j u, xs[j]? = some u → w.cell? ((⟨g, 0, none⟩ : Addr).add j) = some u := hown.cells (g := g) rfl
      have hr' := run_append_grow (P := P) w t ty e i z ht hi hz ⟨g, 0, none⟩ n cap xs hown.1 holds a m c news hl hnews (by omega) (by omega) (growslice_fits (by omega) hbytes)
      rw [hr'] at hr
      cases hr
      exact .inr rfl

theorem eqV_sound : ∀ (d : Nat) {t : TypeId} {x y : Value} {q : Bool}, eqV P d t x y = some q → ∀ (D : Nat), d ≤ D → (Op.equalIn D t x y).run P w = .ok q w
  | 0, t, x, y, q, h, D, hD => by simp [eqV] at h
  | d + 1, t, x, y, q, h, D, hD => by
    obtain ⟨D, rfl⟩ : ∃ E, D = E + 1 := ⟨D - 1, by omega⟩
    cases x <;> cases y <;> simp only [eqV] at h <;> first | (cases h; done) | skip
    · split at h
      · rename_i hu
        cases h
        exact run_equalIn_bool' w D t _ _ hu
      · cases h
    · rename_i k a k' b
      split at h
      · rename_i ki hu
        split at h
        · rename_i e; subst e; cases h
          exact run_equalIn_int w D t k _ a b hu
        · cases h
      · cases h
    · rename_i xs ys
      split at h
      · rename_i fs hu
        split at h
        · rename_i hp
          have hfs : P.fieldsOf t = fs := by simp [Program.fieldsOf, hu]
          rw [run_equalIn_struct w D t xs ys (by rw [hfs]; exact hu) hp, hfs]
          generalize fs.toList = l at h
          clear hfs hu
          induction l generalizing q with
          | nil => simp only [List.foldr_nil, Option.some.injEq] at h; subst h; rfl
          | cons f l ih =>
            simp only [List.foldr_cons] at h
            unfold eqStep at h
            by_cases hn : f.name ≠ "_"
            · rw [if_pos hn] at h
              split at h
              · rename_i a b r ha hb hr
                cases he : eqV P d f.type a b with
                | none => rw [he] at h; cases h
                | some e =>
                  rw [he] at h
                  simp only [Option.map_some, Option.some.injEq] at h
                  have h1 := eqV_sound d he D (by omega)
                  have h2 := ih _ hr
                  simp only [Op.eqFields, if_pos hn, Sem.run_bind, semVal_run ha, semVal_run hb, Result.andThen_ok, h1]
                  subst h
                  cases e
                  · simp
                  · simpa using h2
              · cases h
            · rw [if_neg hn] at h
              simp only [Op.eqFields, if_neg hn]
              exact ih _ h
        · cases h
      · cases h

/-- **The model carries out an operation as its rule says.** -/
theorem OpR.sound {o : Oper} {E : Eff} (hR : OpR P s.tm s.hp o E) (h : Rel ρ w0 s a w) {K : Act → World → Prop} {Q : Exit → Act → World → Prop} (hK : ∀ a' w', RelE w0 (s.app o.dst E) a' w' → K a' w') : o.wp P a w K Q := by
  -- a value, nothing written
  have keep : ∀ {v : V} {x : Value} {rd : List Nat} {w' : World}, Rel ρ w0 s a w' → VRel ρ v x → K (a.put o.dst x) w' ∨ ¬ (E = ⟨v, [], rd⟩) := fun {v x rd w'} h' hv => by
    by_cases e : E = ⟨v, [], rd⟩
    · subst e; exact .inl (hK _ _ ⟨ρ, h'.put o.dst hv⟩)
    · exact .inr e
  cases hR with
  | copy x hx =>
    refine wp_val (x := a.eval x) (w' := w) ?_ ((keep h (h.tm.eval x)).resolve_right (fun n => n rfl))
    unfold execOp
    rcases hx with hx | hx <;> simp [hx]
  | pick c x y t ho hc =>
    have hcv := eval_val h hc
    refine wp_val (x := if t then a.eval x else a.eval y) (w' := w) ?_ ((keep h ?_).resolve_right (fun n => n rfl))
    · unfold execOp
      simp [ho, hcv, asBool]
    · cases t
      · exact h.tm.eval y
      · exact h.tm.eval x
  | pure g v hs hx hv =>
    refine wp_val (x := v) (w' := w) ?_ ((keep h (show VRel ρ (.val v) v from rfl)).resolve_right (fun n => n rfl))
    rw [execOp_congr o hs (ρ' := g) fun x hm => eval_val h (hx x hm)]
    exact semVal_run hv w
  | alloc t d z ho hd hh hz =>
    obtain ⟨hl, hr⟩ := h.alloc hh t 0 (mapVal_rel ρ z.cells)
    refine wp_val (x := .pointer (some ⟨w.heap.size, 0, none⟩)) (w' := w.alloc (.cells z.cells t)) ?_ (hK _ _ ⟨_, hr.put o.dst ⟨_, _, updR_same _ _ _, rfl, fun n hn => (by cases hn), (by simp)⟩⟩)
    unfold execOp
    simp [ho, Instr.alloc, semVal_run hz, newVar, newRow]
  | box t x d v ho hd hh hx =>
    have hxv := eval_val h hx
    obtain ⟨hl, hr⟩ := h.alloc hh t 0 (mapVal_rel ρ v.cells)
    refine wp_val (x := .pointer (some ⟨w.heap.size, 0, none⟩)) (w' := w.alloc (.cells v.cells t)) ?_ (hK _ _ ⟨_, hr.put o.dst ⟨_, _, updR_same _ _ _, rfl, fun n hn => (by cases hn), (by simp)⟩⟩)
    unfold execOp
    simp [ho, Instr.box, hxv, newVar, newRow]
  | row t len parts g d e sz cells ho hd hh hx hp =>
    obtain ⟨hl, hr⟩ := h.alloc hh e len (mapVal_rel ρ cells)
    refine wp_val (x := .slice (some ⟨w.heap.size, 0, none⟩) len len) (w' := w.alloc (.cells cells e)) ?_ (hK _ _ ⟨_, hr.put o.dst ⟨_, updR_same _ _ _, fun n hn => (by cases hn), rfl⟩⟩)
    rw [execOp_congr o (fun cs b => by rw [ho]; exact fun e => by cases e) (ρ' := g) fun x hm => eval_val h (hx x hm)]
    unfold execOp
    simp only [ho, Sem.run_bind, run_rowParts hp w, Result.andThen_ok, Sem.run_pure]
  | load t x b row sz fld v ho hx ht hv =>
    have hxr := h.tm.eval x
    rw [hx] at hxr
    obtain ⟨r, ad, hr, had, hlim, hxe⟩ := hxr
    obtain ⟨y, hy, hvr⟩ := readV_sound h hv hr had hlim
    refine wp_val (x := y) (w' := w) ?_ ((keep h hvr).resolve_right (fun n => n rfl))
    unfold execOp
    simp [ho, hxe, Instr.loadAt, Instr.sureAddr, loadVar, semVal_run ht, hy]
  | loadAgg t x b row sz fld n vs ho hx ht hn hv =>
    have hxr := h.tm.eval x
    rw [hx] at hxr
    obtain ⟨r, ad, hr, had, hlim, hxe⟩ := hxr
    obtain ⟨hlen, hcells⟩ := readAgg_sound h hr had hlim n fld vs hv
    refine wp_val (x := .agg vs.toArray) (w' := w) ?_ ((keep h (show VRel ρ (.val (.agg vs.toArray)) _ from rfl)).resolve_right (fun n => n rfl))
    have hl := run_loadCells_list (P := P) w ⟨ad.block, ad.off + (row * sz + fld), none⟩ vs (fun j v hj => by rw [addr_add]; exact hcells j v hj)
    rw [hlen] at hl
    unfold execOp
    simp [ho, hxe, Instr.loadAt, Instr.sureAddr, loadVar, semVal_run ht, semVal_run hn, hl]
  | store t x y b row sz fld cs ws ho hx hc hw hn hle =>
    have hxr := h.tm.eval x
    rw [hx] at hxr
    obtain ⟨r, ad, hr, had, hlim, hxe⟩ := hxr
    have hyr := h.tm.eval y
    have hgd : s.hp.getD b .none = .own cs := by simp [List.getD_eq_getElem?_getD, hc]
    have hblen : b < s.hp.length := (List.getElem?_eq_some_iff.1 hc).1
    have hb := h.hp b
    rw [hgd] at hb
    obtain ⟨r', k, e, c, h1, h2, hm, h3, h4, h5⟩ := hb
    rw [hr] at h1; cases h1
    rw [had] at h2; cases h2
    -- the cells of the value
    obtain ⟨hsz, hone, hcr⟩ : (a.eval y).cells.size = ws.length ∧ (∀ v ∈ (a.eval y).cells.toList, v.oneCell' = true) ∧ TRel ρ ws (a.eval y).cells := by
      cases hy : evV s.tm y with
      | val v =>
        rw [hy] at hyr hw
        have hyv : a.eval y = v := hyr
        rw [hyv]
        simp only [cellsV] at hw
        split at hw
        · rename_i hall
          simp only [Option.some.injEq] at hw; subst hw
          exact ⟨by simp, fun u hu => (Array.all_eq_true_iff_forall_mem.1 hall) u (by simpa using hu), mapVal_rel ρ _⟩
        · cases hw
      | ptr b' row' sz' fld' =>
        rw [hy] at hyr hw
        simp only [cellsV, Option.some.injEq] at hw; subst hw
        have hyr' := hyr
        obtain ⟨r1, ad1, _, _, _, hye⟩ := hyr
        have hcl : (a.eval y).cells = #[a.eval y] := by rw [hye]; rfl
        rw [hcl]
        refine ⟨rfl, fun u hu => by simp at hu; rw [hu, hye]; rfl, rfl, fun i v hv => ?_⟩
        cases i with
        | zero => simp at hv; subst hv; exact ⟨_, rfl, hyr'⟩
        | succ i => simp at hv
      | sl b' sz' len' =>
        rw [hy] at hyr hw
        simp only [cellsV, Option.some.injEq] at hw; subst hw
        have hyr' := hyr
        obtain ⟨r1, _, _, hye⟩ := hyr
        have hcl : (a.eval y).cells = #[a.eval y] := by rw [hye]; rfl
        rw [hcl]
        refine ⟨rfl, fun u hu => by simp at hu; rw [hu, hye]; rfl, rfl, fun i v hv => ?_⟩
        cases i with
        | zero => simp at hv; subst hv; exact ⟨_, rfl, hyr'⟩
        | succ i => simp at hv
      | unk => rw [hy] at hw; simp [cellsV] at hw
    have hoff : row * sz + fld + (a.eval y).cells.toList.length ≤ c.size := by
      have := h5.1; simp only [Array.length_toList, hsz]; omega
    have hst := run_storeCells_at (P := P) k (row * sz + fld) e (a.eval y).cells.toList 0 c w h4 (by omega) hone
    simp only [Nat.add_zero] at hst
    have hrel := h.store (cs' := cs.take (row * sz + fld) ++ ws ++ cs.drop (row * sz + fld + ws.length)) (c' := (c.toList.take (row * sz + fld) ++ (a.eval y).cells.toList ++ c.toList.drop (row * sz + fld + (a.eval y).cells.toList.length)).toArray) hgd hblen hr had hm h3 h4 ?_
    · refine wp_skipped ?_ (hK _ _ ⟨ρ, hrel.put o.dst (show VRel ρ (.val undef) undef from rfl)⟩)
      unfold execOp
      simp only [ho, hxe, Instr.storeAt, Instr.sureAddr, Sem.run_bind, Sem.run_pure, Result.andThen_ok, storeVar, semVal_run hn, hsz, ne_eq, not_true_eq_false, if_false, Nat.zero_add]
      simp only [hst, Result.andThen_ok, Sem.run_pure]
    · have hcl : cs.length = c.size := h5.1
      have hwl : ws.length = (a.eval y).cells.toList.length := by simp [hsz]
      refine ⟨by simp [hcl, hwl], fun i v hv => ?_⟩
      simp only [List.getElem?_toArray]
      rw [List.append_assoc, List.getElem?_append] at hv ⊢
      simp only [List.length_take, Array.length_toList, hcl] at hv ⊢
      by_cases hi : i < min (row * sz + fld) c.size
      · rw [if_pos hi] at hv ⊢
        rw [List.getElem?_take] at hv ⊢
        split at hv
        · rename_i hi2
          rw [if_pos hi2, Array.getElem?_toList]; exact h5.2 i v hv
        · cases hv
      · rw [if_neg hi] at hv ⊢
        rw [List.getElem?_append] at hv ⊢
        rw [hwl] at hv
        by_cases hj : i - min (row * sz + fld) c.size < (a.eval y).cells.toList.length
        · rw [if_pos hj] at hv ⊢
          rw [Array.getElem?_toList]; exact hcr.2 _ v hv
        · rw [if_neg hj] at hv ⊢
          rw [List.getElem?_drop] at hv ⊢
          rw [Array.getElem?_toList]; exact h5.2 _ v hv
  | field t x f b row sz fld fs fl n ho hx ht hf hn =>
    have hxr := h.tm.eval x
    rw [hx] at hxr
    obtain ⟨r, ad, hr, had, hlim, hxe⟩ := hxr
    refine wp_val (x := .pointer (some ⟨ad.block, ad.off + (row * sz + (fld + fl.offset)), none⟩)) (w' := w) ?_ ((keep h (show VRel ρ (.ptr b row sz (fld + fl.offset)) _ from ⟨r, ad, hr, had, hlim, rfl⟩)).resolve_right (fun n => n rfl))
    unfold execOp
    simp only [ho, hxe, Instr.fieldAt, Sem.run_bind, run_underlying ht, Result.andThen_ok, hf, Instr.sureAddr, Sem.run_pure, fieldPlace, semVal_run hn, Nat.add_one_ne_zero, if_false, addr_add]
    rw [show ad.off + (row * sz + fld) + fl.offset = ad.off + (row * sz + (fld + fl.offset)) by omega]
  | index t x ix b sz len k i e ho hx hi ht hn h0 h1 hlive =>
    have hxr := h.tm.eval x
    rw [hx] at hxr
    obtain ⟨r, hr, hlim, hxe⟩ := hxr
    have hiv := eval_val h hi
    have hlen : 0 < len := by omega
    obtain ⟨ad, had, hsp, hlim2⟩ : ∃ ad, r.addr = some ad ∧ ad.spot = none ∧ ∀ n, r.lim = some n → i.toNat < n := by
      have hb := h.hp b
      cases hq : s.hp.getD b .none with
      | none => rw [hq] at hlive; cases hlive
      | gone => rw [hq] at hlive; cases hlive
      | own cs =>
        rw [hq] at hb
        obtain ⟨r', k, e, c, g1, g2, gm, g3, g4, g5⟩ := hb
        rw [hr] at g1; cases g1
        exact ⟨_, g2, rfl, fun n hn => by rw [gm] at hn; cases hn⟩
      | ext n fs =>
        rw [hq] at hb
        obtain ⟨r', g1, gm, g2⟩ := hb
        rw [hr] at g1; cases g1
        have := hlim n gm; subst this
        obtain ⟨ad, g3, g4, _⟩ := g2 hlen
        exact ⟨ad, g3, g4, fun m hm => by rw [gm] at hm; cases hm; omega⟩
      | grow e n fs =>
        rw [hq] at hb
        obtain ⟨r', xs, g1, gm, gp, go, gf⟩ := hb
        rw [hr] at g1; cases g1
        have := hlim n gm; subst this
        obtain ⟨g, hg⟩ := grow_some go hlen
        exact ⟨_, hg, rfl, fun m hm => by rw [gm] at hm; cases hm; omega⟩
    refine wp_val (x := .pointer (some ⟨ad.block, ad.off + (i.toNat * sz + 0), none⟩)) (w' := w) ?_ ((keep h (show VRel ρ (.ptr b i.toNat sz 0) _ from ⟨r, ad, hr, had, hlim2, rfl⟩)).resolve_right (fun n => n rfl))
    have hel : P.elem t = e := by simp [Program.elem, ht]
    unfold execOp
    simp only [ho, hxe, hiv, had, Sem.run_bind, run_indexAt_slice w t ad len r.cap k i (by rw [hel]; exact ht), h0, h1, and_self, if_true, hel, semVal_run hn, Result.andThen_ok, Sem.run_pure, addr_add' hsp, Nat.add_zero]
  | len c x t b sz len e ho hc ha hat hx ht =>
    have hxr := h.tm.eval x
    rw [hx] at hxr
    obtain ⟨r, hr, hlim, hxe⟩ := hxr
    refine wp_val (x := .int .i64 len) (w' := w) ?_ ((keep h (show VRel ρ (.val (.int .i64 len)) _ from rfl)).resolve_right (fun n => n rfl))
    have hel : P.elem t = e := by simp [Program.elem, ht]
    have hl := run_len_slice (P := P) w t o.type r.addr len r.cap (by rw [hel]; exact ht)
    unfold execOp
    simp [ho, resolve, hc, ha, hat, hxe, invoke, builtin, hl, goInt]
  | call c f avs rd v ho hc ha hC =>
    obtain ⟨ha1, ha2⟩ := avsOf_sound h c.args.toList ha
    have hargs : ArgsRel w (c.args.map a.eval) avs := ⟨by simp [ha1], fun i av hi => by
      obtain ⟨x, hx, hr⟩ := ha2 i av hi
      exact ⟨x, by simpa using hx, hr⟩⟩
    have hcall := hC w _ hargs
    have hex : (execOp a.eval o).run P w = (callFunc f (c.args.map a.eval)).run P w := by
      unfold execOp
      simp [ho, resolve, hc, Act.eval, Deferred.ofValue, invoke]
    unfold Oper.wp
    rw [hex]
    unfold CallOk at hcall
    split at hcall
    · rename_i g as w' hrun
      obtain ⟨rfl, hcall⟩ := hcall
      rw [hrun]
      refine hcall.mono fun e w'' ⟨x, he, hb, hx⟩ => ?_
      subst he
      have hx' : x = v := hx
      subst hx'
      exact (keep (h.world hb) (show VRel ρ (.val x) x from rfl)).resolve_right (fun n => n rfl)
    · rename_i v' w' hrun
      rw [hrun]
      obtain ⟨hb, hx⟩ := hcall
      have hx' : v' = v := hx
      subst hx'
      exact (keep (h.world hb) (show VRel ρ (.val v') v' from rfl)).resolve_right (fun n => n rfl)
    · exact hcall.elim
  | callRows c f avs rd d n fs ho hc ha hd hh hC =>
    obtain ⟨ha1, ha2⟩ := avsOf_sound h c.args.toList ha
    have hargs : ArgsRel w (c.args.map a.eval) avs := ⟨by simp [ha1], fun i av hi => by
      obtain ⟨x, hx, hr⟩ := ha2 i av hi
      exact ⟨x, by simpa using hx, hr⟩⟩
    have hcall := hC w _ hargs
    have hex : (execOp a.eval o).run P w = (callFunc f (c.args.map a.eval)).run P w := by
      unfold execOp
      simp [ho, resolve, hc, Act.eval, Deferred.ofValue, invoke]
    have fin : ∀ (x : Value) (w' : World), Below w.heap.size w w' → AVRel w' w.heap.size x (.rows n fs) → K (a.put o.dst x) w' := fun x w' hb hx => by
      obtain ⟨A, c', hxe, hrows⟩ := hx
      obtain ⟨hl, hr⟩ := h.rows hh hb c' hrows
      exact hK _ _ ⟨_, hr.put o.dst ⟨_, updR_same _ _ _, fun m hm => (by cases hm; rfl), hxe⟩⟩
    unfold Oper.wp
    rw [hex]
    unfold CallOk at hcall
    split at hcall
    · rename_i g as w' hrun
      obtain ⟨rfl, hcall⟩ := hcall
      rw [hrun]
      refine hcall.mono fun e w'' ⟨x, he, hb, hx⟩ => ?_
      subst he
      exact fin _ _ hb hx
    · rename_i v' w' hrun
      rw [hrun]
      exact fin _ _ hcall.1 hcall.2
    · exact hcall.elim
  | rowG t len parts g d e sz cells fs ho hd hh hx hp hg =>
    obtain ⟨q1, q2, q3, q4, q5⟩ := growFs_spec hg
    have hB := h.below.size
    obtain ⟨hl, hr⟩ := h.newSlot hh ((Below.refl w.heap.size w).alloc (Nat.le_refl _) (.cells cells e)) ⟨some ⟨w.heap.size, 0, none⟩, len, some len⟩ (.grow e len fs)
      ⟨_, cells.toList, updR_same _ _ _, rfl, by rw [q4]; exact q1, ⟨by rw [q4]; simpa using q2, .inr ⟨w.heap.size, len, cells, rfl, hB, heap_alloc_new _ _, Nat.le_refl _, q3, by rw [q4]; exact q2, by rw [q4, ← q2]; simp [List.take_of_length_le]⟩⟩, by rw [q4]; exact q5⟩ (fun ad had _ => by cases had; exact Nat.le_refl _)
    refine wp_val (x := .slice (some ⟨w.heap.size, 0, none⟩) len len) (w' := w.alloc (.cells cells e)) ?_ (hK _ _ ⟨_, hr.put o.dst ⟨_, updR_same _ _ _, fun n hn => (by cases hn; rfl), rfl⟩⟩)
    rw [execOp_congr o (fun cs b => by rw [ho]; exact fun e => by cases e) (ρ' := g) fun x hm => eval_val h (hx x hm)]
    unfold execOp
    simp only [ho, Sem.run_bind, run_rowParts hp w, Result.andThen_ok, Sem.run_pure]
  | app c x y t e e2 i z b b2 d sz sz2 n m n1 n2 fs fs2 fs3 ho hc ha hat hd hh hx hy hb hb2 ht hi hz hzs hl1 hl2 h3 hm h63 hby =>
    have hxr := h.tm.eval x
    rw [hx] at hxr
    obtain ⟨r, hr, hlim, hxe⟩ := hxr
    have hyr := h.tm.eval y
    rw [hy] at hyr
    obtain ⟨r2, hr2, hlim2, hye⟩ := hyr
    have hgb : s.hp.getD b .none = .grow e n1 fs := by simp [List.getD_eq_getElem?_getD, hb]
    have hgb2 : s.hp.getD b2 .none = .grow e2 n2 fs2 := by simp [List.getD_eq_getElem?_getD, hb2]
    have hbl : b < s.hp.length := (List.getElem?_eq_some_iff.1 hb).1
    have hbd : b ≠ d := fun e => by subst e; rw [hb] at hh; cases hh
    have hB := h.hp b
    rw [hgb] at hB
    obtain ⟨r', xs, g1, gm, gp, go, gf⟩ := hB
    rw [hr] at g1; cases g1
    have hn := hlim n1 gm; subst hn
    have hB2 := h.hp b2
    rw [hgb2] at hB2
    obtain ⟨r', xs2, k1, km, kp, ko, kf⟩ := hB2
    rw [hr2] at k1; cases k1
    have hn2 := hlim2 n2 km; subst hn2
    obtain ⟨g2, hg2⟩ := grow_some ko hm
    obtain ⟨s1, s2, s3⟩ := catFs_spec h3
    rw [hl1] at go gf gp
    rw [hl2] at ko kf
    have hnews : ∀ j u, xs2[j]? = some u → w.cell? ((⟨g2, 0, none⟩ : Addr).add j) = some u := ko.cells (g := g2) (by rw [hg2]; rfl)
    have h1 : ∀ u ∈ xs2, u.oneCell' = true := fun u hu => by
      obtain ⟨q, hq⟩ := List.getElem?_of_mem hu
      have hqlt := (List.getElem?_eq_some_iff.1 hq).1
      rw [ko.1] at hqlt
      have hdiv : q / i.size < n2 := (Nat.div_lt_iff_lt_mul gp).2 hqlt
      have hmod : q % i.size < fs2.length := by rw [hl2]; exact Nat.mod_lt _ gp
      have := kf (q / i.size) hdiv (q % i.size) _ (List.getElem?_eq_getElem hmod)
      rw [Nat.mul_comm, Nat.div_add_mod, hq] at this
      cases this
      exact at_oneCell _ _
    obtain ⟨v', w', hrun, hown, hgrown, _⟩ := run_append_own (P := P) w w0.heap.size t o.type e i z i.size i.bytes ht hi hz rfl rfl hzs gp _ _ _ go ⟨g2, 0, none⟩ n2 r2.cap xs2 ko.1 hnews h1 h63 hby h.below.size
    have hwhere := run_append_where ht hi hz rfl rfl hzs gp go ko.1 hnews h1 h63 hby hm hrun
    obtain ⟨g', cap', cur', hv', _⟩ : ∃ g' cap' cur', v' = .slice (some ⟨g', 0, none⟩) (n1 + n2) cap' ∧ w'.heap[g']? = some (.cells cur' e (0, 0)) := by
      rcases hown.2 with ⟨_, h0⟩ | ⟨g, cap, cur, hv, _, hg, _⟩
      · omega
      · exact ⟨g, cap, cur, hv, hg⟩
    subst hv'
    have hgr : ∀ k, (Value.slice r.addr n1 r.cap).ownBlock = some k → w0.heap.size ≤ k := fun k hk => (go.lt k hk).1
    have hBl : Below w0.heap.size w w' := (Below.refl w0.heap.size w).grown hgrown h.below.size hgr
    obtain ⟨hl, hrel⟩ := h.rebind hh hbl hbd hr (r := ⟨some ⟨g', 0, none⟩, cap', some (n1 + n2)⟩) (x := .grow e (n1 + n2) fs3) (w' := w')
      ⟨_, xs ++ xs2, updR_same _ _ _, rfl, by rw [s1, hl1]; exact gp, by rw [s1, hl1]; exact hown, fun q hq j g hg => by
        obtain ⟨f1, f2, e1, e2, e3, e4⟩ := s3 j g hg
        have hj : j < i.size := by rw [← hl1]; exact (List.getElem?_eq_some_iff.1 e1).1
        rw [s1, hl1]
        rcases Nat.lt_or_ge q n1 with hlt | hge
        · have hlt2 : q * i.size + j < xs.length := by
            have : (q + 1) * i.size ≤ n1 * i.size := Nat.mul_le_mul_right _ hlt
            rw [Nat.add_mul] at this; rw [go.1]; omega
          rw [List.getElem?_append_left hlt2, e3 q hlt]
          exact gf q hlt j f1 e1
        · have hge2 : n1 * i.size ≤ q * i.size := Nat.mul_le_mul_right _ hge
          rw [List.getElem?_append_right (by rw [go.1]; omega), e4 q hge, go.1]
          have := kf (q - n1) (by omega) j f2 e2
          rw [Nat.sub_mul] at this
          rw [show q * i.size + j - n1 * i.size = q * i.size - n1 * i.size + j by omega]
          exact this⟩
      (fun _ => by rw [hgb]; rfl) (fun _ => by rw [hgb]; trivial) hBl
      (fun k hk hne => hgrown.block k hk fun e => by
        cases hA : r.addr with
        | none => rw [hA] at e; simp [Value.ownBlock] at e
        | some ad => rw [hA] at e; simp only [Value.ownBlock, Option.some.injEq] at e; exact hne (by rw [hgb]; rfl) ad hA e.symm)
      (fun ad had _ => by
        cases had
        rcases hwhere with hw | hw
        · cases hA : r.addr with
          | none => rw [hA] at hw; simp [Value.ownBlock] at hw
          | some ad0 => rw [hA] at hw; simp only [Value.ownBlock, Option.some.injEq] at hw; exact .inl ⟨ad0, rfl, hw.symm⟩
        · simp only [Value.ownBlock, Option.some.injEq] at hw
          exact .inr (by show w.heap.size ≤ g'; omega))
    refine wp_val (x := .slice (some ⟨g', 0, none⟩) (n1 + n2) cap') (w' := w') ?_ (hK _ _ ⟨_, hrel.put o.dst ⟨_, updR_same _ _ _, fun q hq => (by cases hq; rfl), rfl⟩⟩)
    rw [hg2] at hye
    unfold execOp
    simp only [ho, resolve, hc, ha, hat, invoke, builtin, Sem.run_bind, Sem.run_pure, Result.andThen_ok, List.map_toArray, List.map_cons, List.map_nil, hxe, hye, hrun]
  | arr t x ix b row sz fld len n k i e ho hx hi ht hn h0 h1 =>
    have hxr := h.tm.eval x
    rw [hx] at hxr
    obtain ⟨r, ad, hr, had, hlim, hxe⟩ := hxr
    have hiv := eval_val h hi
    refine wp_val (x := .pointer (some ⟨ad.block, ad.off + (row * sz + (fld + i.toNat * n)), none⟩)) (w' := w) ?_ ((keep h (show VRel ρ (.ptr b row sz (fld + i.toNat * n)) _ from ⟨r, ad, hr, had, hlim, rfl⟩)).resolve_right (fun n => n rfl))
    unfold execOp
    simp only [ho, hxe, hiv, Instr.indexAt, asIntOf, Sem.run_bind, run_underlying ht, Result.andThen_ok, Sem.run_pure, Instr.sureAddr, h0, h1, and_self, if_true, semVal_run hn, addr_add]
    rw [show ad.off + (row * sz + fld) + i.toNat * n = ad.off + (row * sz + (fld + i.toNat * n)) by omega]
  | eqs op t yt x y a b q ho hop hx hy hg hq =>
    have hxv := eval_val h hx
    have hyv := eval_val h hy
    have hE := eqV_sound (w := w) 10 hq 10000 (by omega)
    refine wp_val (x := .bool (eqSign op q)) (w' := w) ?_ ((keep h (show VRel ρ (.val _) _ from rfl)).resolve_right (fun n => n rfl))
    unfold execOp
    rcases hop with rfl | rfl
    · simp only [ho, hxv, hyv, Sem.run_bind, run_eqGuard_agg w .eql t x y a b hg, Result.andThen_ok, run_eql_struct, hE, Sem.run_pure, eqSign]
    · simp only [ho, hxv, hyv, Sem.run_bind, run_eqGuard_agg w .neq t x y a b hg, Result.andThen_ok, run_neq_struct, hE, Sem.run_pure, eqSign]
  | strAt t x ix q k i u ho hx hi ht h0 hs =>
    have hxv := eval_val h hx
    have hiv := eval_val h hi
    refine wp_val (x := .int .u8 u.toNat) (w' := w) ?_ ((keep h (show VRel ρ (.val (.int .u8 u.toNat)) _ from rfl)).resolve_right (fun n => n rfl))
    unfold execOp
    simp only [ho, hxv, hiv, Instr.index, asIntOf, Sem.run_bind, run_underlying ht, Result.andThen_ok, Sem.run_pure, h0, if_true, hs]
end

end Go.Proofs.Ytchahcaccneinaa.Ev
