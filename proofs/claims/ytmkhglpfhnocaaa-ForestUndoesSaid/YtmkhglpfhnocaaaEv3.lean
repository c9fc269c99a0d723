/- The model carries out an operation as its rule says. -/
import Derived.Test.YtmkhglpfhnocaaaEv2
import Derived.Laws.Slices
namespace Go.Proofs.Ytmkhglpfhnocaaa.Ev
open Go Go.RowKit
set_option linter.unusedVariables false
set_option linter.unusedSimpArgs false

section
variable {P : Program} {ρ : Rho} {w0 : World} {s : St} {a : Act} {w : World}

theorem eval_val (h : Rel ρ w0 s a w) {x : Operand} {v : Value} (hx : evV s.tm x = .val v) : a.eval x = v := by
  have := h.tm.eval x; rw [hx] at this; exact this

theorem allVals_spec : ∀ {cs : List V} {vs : List Value}, allVals cs = some vs → cs = vs.map .val
  | [], vs, h => by simp only [allVals, Option.some.injEq] at h; subst h; rfl
  | .val v :: l, vs, h => by
    simp only [allVals] at h
    cases hl : allVals l with
    | none => rw [hl] at h; cases h
    | some r => rw [hl] at h; simp only [Option.map_some, Option.some.injEq] at h; subst h; rw [allVals_spec hl]; rfl
  | .ptr .. :: l, vs, h => by simp [allVals] at h
  | .sl .. :: l, vs, h => by simp [allVals] at h
  | .pk _ :: l, vs, h => by simp [allVals] at h
  | .unk :: l, vs, h => by simp [allVals] at h
  | .gp .. :: l, vs, h => by simp [allVals] at h

theorem intsOf_spec {k : IntKind} : ∀ {l : List Value} {xs : List Int}, intsOf k l = some xs → l = xs.map (.int k)
  | [], xs, h => by simp only [intsOf, Option.some.injEq] at h; subst h; rfl
  | x :: l, xs, h => by
    cases x <;> simp only [intsOf] at h <;> first | (cases h; done) | skip
    split at h
    · rename_i e; subst e
      cases hl : intsOf _ l with
      | none => rw [hl] at h; cases h
      | some ys => rw [hl] at h; simp only [Option.map_some, Option.some.injEq] at h; subst h; rw [intsOf_spec hl]; rfl
    · cases h
theorem boolsOf_spec : ∀ {l : List Value} {xs : List Bool}, boolsOf l = some xs → l = xs.map .bool
  | [], xs, h => by simp only [boolsOf, Option.some.injEq] at h; subst h; rfl
  | x :: l, xs, h => by
    cases x <;> simp only [boolsOf] at h <;> first | (cases h; done) | skip
    cases hl : boolsOf l with
    | none => rw [hl] at h; cases h
    | some ys => rw [hl] at h; simp only [Option.map_some, Option.some.injEq] at h; subst h; rw [boolsOf_spec hl]; rfl
theorem strsOf_spec : ∀ {l : List Value} {xs : List ByteArray}, strsOf l = some xs → l = xs.map .string
  | [], xs, h => by simp only [strsOf, Option.some.injEq] at h; subst h; rfl
  | x :: l, xs, h => by
    cases x <;> simp only [strsOf] at h <;> first | (cases h; done) | skip
    cases hl : strsOf l with
    | none => rw [hl] at h; cases h
    | some ys => rw [hl] at h; simp only [Option.map_some, Option.some.injEq] at h; subst h; rw [strsOf_spec hl]; rfl
theorem fldOf_spec {l : List Value} {f : Fld} (h : fldOf l = some f) : ∀ i, i < l.length → l[i]? = some (f.at i) := by
  unfold fldOf at h
  split at h
  · rename_i k a l'
    cases hl : intsOf k (.int k a :: l') with
    | none => rw [hl] at h; cases h
    | some xs =>
      rw [hl] at h; simp only [Option.map_some, Option.some.injEq] at h; subst h
      intro i hi
      rw [intsOf_spec hl] at hi ⊢
      simp only [List.length_map] at hi
      simp [Fld.at, List.getD_eq_getElem?_getD, hi]
  · rename_i a l'
    cases hl : boolsOf (.bool a :: l') with
    | none => rw [hl] at h; cases h
    | some xs =>
      rw [hl] at h; simp only [Option.map_some, Option.some.injEq] at h; subst h
      intro i hi
      rw [boolsOf_spec hl] at hi ⊢
      simp only [List.length_map] at hi
      simp [Fld.at, List.getD_eq_getElem?_getD, hi]
  · rename_i a l'
    cases hl : strsOf (.string a :: l') with
    | none => rw [hl] at h; cases h
    | some xs =>
      rw [hl] at h; simp only [Option.map_some, Option.some.injEq] at h; subst h
      intro i hi
      rw [strsOf_spec hl] at hi ⊢
      simp only [List.length_map] at hi
      simp [Fld.at, List.getD_eq_getElem?_getD, hi]
  · cases h
theorem fldsOf_spec {vs : List Value} {sz len : Nat} : ∀ (m j : Nat) (fs : List Fld), fldsOf vs sz len j m = some fs → fs.length = m ∧ ∀ q f, fs[q]? = some f → fldOf (col vs sz len (j + q)) = some f
  | 0, j, fs, h => by simp only [fldsOf, Option.some.injEq] at h; subst h; exact ⟨rfl, fun q f hq => by simp at hq⟩
  | m + 1, j, fs, h => by
    simp only [fldsOf] at h
    split at h
    · rename_i f fs' h1 h2
      simp only [Option.some.injEq] at h; subst h
      obtain ⟨i1, i2⟩ := fldsOf_spec m (j + 1) fs' h2
      refine ⟨by simp [i1], fun q g hq => ?_⟩
      cases q with
      | zero => simp at hq; subst hq; exact h1
      | succ q => have := i2 q g (by simpa using hq); rwa [show j + 1 + q = j + (q + 1) by omega] at this
    · cases h

theorem avOf0_sound (h : Rel ρ w0 s a w) {v : V} {x : Value} (hx : VRel ρ v x) {av : AV} {rd : List Nat} (hv : avOf0 s.hp v = some (av, rd)) : AVRel w 0 x av := by
  cases v with
  | val y => simp only [avOf0, Option.some.injEq, Prod.mk.injEq] at hv; obtain ⟨rfl, rfl⟩ := hv; exact hx
  | ptr => simp [avOf0] at hv
  | pk => simp [avOf0] at hv
  | unk => simp [avOf0] at hv
  | gp => simp [avOf0] at hv
  | sl b sz len =>
    obtain ⟨r, hr, hlim, rfl⟩ := hx
    have hb := h.hp b
    simp only [avOf0] at hv
    cases hq : s.hp.getD b .none with
    | none => rw [hq] at hv; cases hv
    | gone => rw [hq] at hv; cases hv
    | ext n fs =>
      rw [hq] at hv hb
      simp only [Option.some.injEq, Prod.mk.injEq] at hv; obtain ⟨rfl, rfl⟩ := hv
      obtain ⟨r', h1, hm, h2⟩ := hb
      rw [hr] at h1; cases h1
      have hn := hlim n hm; subst hn
      exact ⟨_, _, rfl, fun hp => let ⟨ad, h3, h4, h5, h6⟩ := h2 hp; ⟨ad, h3, h4, Nat.zero_le _, h5, h6⟩⟩
    | grow e n fs =>
      rw [hq] at hv hb
      simp only [Option.some.injEq, Prod.mk.injEq] at hv; obtain ⟨rfl, rfl⟩ := hv
      obtain ⟨r', xs, h1, hm, hpos, ho, hf⟩ := hb
      rw [hr] at h1; cases h1
      have hn := hlim n hm; subst hn
      refine ⟨_, _, rfl, fun hp => ?_⟩
      obtain ⟨g, hg⟩ := grow_some ho hp
      refine ⟨_, hg, rfl, Nat.zero_le _, (grow_addr ho hg).2.2.2, fun i hi j f hfj => ?_⟩
      have hc := ho.cells (g := g) (by rw [hg]; rfl) _ _ (hf i hi j f hfj)
      rw [addr_add] at hc
      exact hc
    | own cs =>
      rw [hq] at hv hb
      simp only at hv
      cases ha : allVals cs with
      | none => rw [ha] at hv; cases hv
      | some vs =>
        rw [ha] at hv
        simp only at hv
        split at hv
        · rename_i hle
          split at hv
          · rename_i fs hfs
            simp only [Option.some.injEq, Prod.mk.injEq] at hv; obtain ⟨rfl, rfl⟩ := hv
            obtain ⟨hlen, hspec⟩ := fldsOf_spec sz 0 fs hfs
            obtain ⟨r', k, e, c, h1, h2, hm, h3, h4, h5⟩ := hb
            rw [hr] at h1; cases h1
            refine ⟨_, _, rfl, fun hp => ⟨_, h2, rfl, Nat.zero_le _, (Array.getElem?_eq_some_iff.1 h4).1, fun i hi j g hg => ?_⟩⟩
            have hj : j < sz := by rw [← hlen]; exact (List.getElem?_eq_some_iff.1 hg).1
            have hcol := fldOf_spec (hspec j g hg) i (by simpa [col] using hi)
            rw [hlen, cell_of_row w k _ c e _ h4, Nat.zero_add]
            have hlt : i * sz + j < vs.length := by
              have : (i + 1) * sz ≤ len * sz := Nat.mul_le_mul_right _ hi
              rw [Nat.add_mul] at this; omega
            have hcs : cs[i * sz + j]? = some (.val (vs.getD (i * sz + j) undef)) := by
              rw [allVals_spec ha, List.getElem?_map, List.getElem?_eq_getElem hlt]
              simp [List.getD_eq_getElem?_getD, List.getElem?_eq_getElem hlt]
            obtain ⟨y, hy, hvr⟩ := h5.2 _ _ hcs
            rw [hy, ← hcol]
            have : y = vs.getD (i * sz + j) undef := hvr
            rw [this]
            simp [col, List.getElem?_range hi]
          · cases hv
        · cases hv

theorem pasOf_sound (h : Rel ρ w0 s a w) : ∀ {cs : List PV} {ps : List PA} {rd : List Nat}, pasOf s.hp cs = some (ps, rd) → ps.length = cs.length ∧ ∀ (i : Nat) (p : PA), ps[i]? = some p → ∃ c, cs[i]? = some c ∧ ∀ x, PRel ρ c x → PARel w 0 x p
  | [], ps, rd, hv => by
    simp only [pasOf, Option.some.injEq, Prod.mk.injEq] at hv; obtain ⟨rfl, rfl⟩ := hv
    exact ⟨rfl, fun i p hp => by simp at hp⟩
  | .val v :: l, ps, rd, hv => by
    simp only [pasOf] at hv
    split at hv
    · rename_i ps' rd' hl
      cases hv
      obtain ⟨h1, h2⟩ := pasOf_sound h hl
      refine ⟨by simp [h1], fun i p hp => ?_⟩
      cases i with
      | zero => simp at hp; subst hp; exact ⟨_, rfl, fun x hx => hx⟩
      | succ i => simpa using h2 i p (by simpa using hp)
    · cases hv
  | .sl b sz len :: l, ps, rd, hv => by
    simp only [pasOf] at hv
    split at hv
    · rename_i n fs r ps' rd' hb hl
      cases hv
      obtain ⟨h1, h2⟩ := pasOf_sound h hl
      refine ⟨by simp [h1], fun i p hp => ?_⟩
      cases i with
      | zero =>
        simp at hp; subst hp
        exact ⟨_, rfl, fun x hx => avOf0_sound h (v := .sl b sz len) hx hb⟩
      | succ i => simpa using h2 i p (by simpa using hp)
    · cases hv
theorem avOf_sound (h : Rel ρ w0 s a w) {v : V} {x : Value} (hx : VRel ρ v x) {av : AV} {rd : List Nat} (hv : avOf s.hp v = some (av, rd)) : AVRel w 0 x av := by
  unfold avOf at hv
  split at hv
  · rename_i cs
    split at hv
    · rename_i ps rd' hp
      cases hv
      obtain ⟨c, hxe, hl, hc⟩ := hx
      obtain ⟨h1, h2⟩ := pasOf_sound h hp
      refine ⟨c, hxe, by rw [h1, hl], fun i p hpi => ?_⟩
      obtain ⟨q, hq, hr⟩ := h2 i p hpi
      obtain ⟨y, hy, hyr⟩ := hc i q hq
      exact ⟨y, hy, hr y hyr⟩
    · cases hv
  · exact avOf0_sound h hx hv

theorem avsOf_sound (h : Rel ρ w0 s a w) : ∀ (xs : List Operand) {avs : List AV} {rd : List Nat}, avsOf s.hp (xs.map (evV s.tm)) = some (avs, rd) →
    avs.length = xs.length ∧ ∀ (i : Nat) (av : AV), avs[i]? = some av → ∃ x : Value, (xs.map a.eval)[i]? = some x ∧ AVRel w 0 x av
  | [], avs, rd, hv => by
    simp only [List.map_nil, avsOf, Option.some.injEq, Prod.mk.injEq] at hv; obtain ⟨rfl, rfl⟩ := hv
    exact ⟨rfl, fun i av hi => by simp at hi⟩
  | x :: xs, avs, rd, hv => by
    simp only [List.map_cons, avsOf] at hv
    cases h1 : avOf s.hp (evV s.tm x) with
    | none => rw [h1] at hv; cases hv
    | some p1 =>
      obtain ⟨av, r⟩ := p1
      rw [h1] at hv
      cases h2 : avsOf s.hp (xs.map (evV s.tm)) with
      | none => rw [h2] at hv; cases hv
      | some p2 =>
        obtain ⟨l, rs⟩ := p2
        rw [h2] at hv
        simp only [Option.some.injEq, Prod.mk.injEq] at hv; obtain ⟨rfl, rfl⟩ := hv
        obtain ⟨i1, i2⟩ := avsOf_sound h xs h2
        refine ⟨by simp [i1], fun i u hi => ?_⟩
        cases i with
        | zero =>
          simp only [List.getElem?_cons_zero, Option.some.injEq] at hi; subst hi
          exact ⟨a.eval x, rfl, avOf_sound h (h.tm.eval x) h1⟩
        | succ i => simpa using i2 i u (by simpa using hi)

theorem run_rowParts {P : Program} {t : TypeId} {len : Nat} {parts : Array (Nat × Value)} {e : TypeId} {sz : Nat} {cells : Array Value} (h : semVal P (rowParts t len parts) = some (e, sz, cells)) (w : World) :
    (Instr.buildSlice t len parts).run P w = .ok (.slice (some ⟨w.heap.size, 0, none⟩) len len) (w.alloc (.cells cells e)) := by
  have hr := semVal_run h w
  unfold rowParts at hr
  unfold Instr.buildSlice
  simp only [Sem.run_bind] at hr ⊢
  cases h1 : (underlying t).run P w with
  | halt x y => rw [h1] at hr; cases hr
  | ok d w1 =>
    rw [h1] at hr
    simp only [Result.andThen_ok] at hr ⊢
    cases d <;> first | (cases hr; done) | skip
    rename_i elem
    simp only [Sem.run_bind] at hr ⊢
    cases h2 : (sizeOf elem).run P w1 with
    | halt x y => rw [h2] at hr; cases hr
    | ok size w2 =>
      rw [h2] at hr
      simp only [Result.andThen_ok] at hr ⊢
      by_cases h3 : len * size > 2 ^ 24
      · simp only [h3, if_true, Sem.run_bind, run_unsupported, Result.andThen_halt] at hr; cases hr
      · simp only [h3, if_false, Sem.run_bind, Sem.run_pure, Result.andThen_ok] at hr ⊢
        have fin : ∀ (zero : Array Value) (w3 : World), (match Instr.fill (fun i => some (i * size, size)) ((Array.range (len * size)).map (zero[· % zero.size]!)) parts.toList with
            | some cells => (pure (elem, size, cells) : Sem (TypeId × Nat × Array Value))
            | _ => stuck "buildSlice: a part of the wrong size").run P w3 = .ok (e, sz, cells) w →
            (match Instr.fill (fun i => some (i * size, size)) ((Array.range (len * size)).map (zero[· % zero.size]!)) parts.toList with
            | some cells => (do pure (.slice (some (← newRow elem cells)) len len) : Sem Value)
            | _ => stuck "buildSlice: a part of the wrong size").run P w3 = .ok (.slice (some ⟨w.heap.size, 0, none⟩) len len) (w.alloc (.cells cells e)) := by
          intro zero w3 hr
          cases h5 : Instr.fill (fun i => some (i * size, size)) ((Array.range (len * size)).map (zero[· % zero.size]!)) parts.toList with
          | none => rw [h5] at hr; cases hr
          | some cs =>
            rw [h5] at hr
            simp only [Sem.run_pure, Result.ok.injEq, Prod.mk.injEq] at hr
            obtain ⟨⟨rfl, rfl, rfl⟩, rfl⟩ := hr
            simp [newRow]
        by_cases h4 : len * size = 0
        · simp only [h4, if_true, Sem.run_bind, Sem.run_pure, Result.andThen_ok] at hr ⊢
          have := fin #[] w2
          simp only [h4] at this
          exact this hr
        · simp only [h4, if_false, Sem.run_bind, Sem.run_pure, Result.andThen_ok] at hr ⊢
          cases h6 : (zeroValue elem).run P w2 with
          | halt x y => rw [h6] at hr; cases hr
          | ok z w3 =>
            rw [h6] at hr
            simp only [Result.andThen_ok] at hr ⊢
            exact fin z.cells w3 hr

/-- A slice that a callee made. -/
theorem Rel.rows (h : Rel ρ w0 s a w) {d : Nat} (hd : s.hp[d]? = some .none) {w' : World} (hb : Below w.heap.size w w') {A : Option Addr} (c : Nat) {n : Nat} {fs : List Fld} (hr : RowsAt w' w.heap.size A n fs) :
    leR ρ (updR ρ d ⟨A, c, some n⟩) ∧ Rel (updR ρ d ⟨A, c, some n⟩) w0 { s with hp := s.hp.set d (.ext n fs) } a w' := by
  refine h.newSlot hd hb _ _ ⟨_, updR_same _ _ _, rfl, fun hp => let ⟨ad, h1, h2, h3, h4, h5⟩ := hr hp; ⟨ad, h1, h2, h4, h5⟩⟩ fun ad had hx => ?_
  obtain ⟨ad', h1, h2, h3, _⟩ := hr hx
  have had' : A = some ad := had
  rw [h1] at had'; cases had'
  exact h3

theorem growFs_spec {e : TypeId} {sz len : Nat} {cells : Array Value} {fs : List Fld} (h : growFs P e sz len cells = some fs) :
    0 < sz ∧ cells.size = len * sz ∧ len ≤ maxLen ∧ fs.length = sz ∧ ∀ i, i < len → ∀ j g, fs[j]? = some g → cells.toList[i * sz + j]? = some (g.at i) := by
  unfold growFs at h
  split at h
  · rename_i hc
    obtain ⟨h1, h2, h3⟩ := hc
    cases len with
    | zero =>
      simp only at h
      split at h
      · split at h
        · exact ⟨h1, h2, h3, (fldsOf_spec sz 0 fs h).1, fun i hi => absurd hi (Nat.not_lt_zero _)⟩
        · cases h
      · cases h
    | succ len =>
      simp only at h
      obtain ⟨hlen, hspec⟩ := fldsOf_spec sz 0 fs h
      refine ⟨h1, h2, h3, hlen, fun i hi j g hg => ?_⟩
      have hj : j < sz := by rw [← hlen]; exact (List.getElem?_eq_some_iff.1 hg).1
      have hcol := fldOf_spec (hspec j g hg) i (by simpa [col] using hi)
      rw [← hcol]
      have hlt : i * sz + j < cells.toList.length := by
        have : (i + 1) * sz ≤ (len + 1) * sz := Nat.mul_le_mul_right _ hi
        rw [Nat.add_mul i 1] at this; simp only [Array.length_toList]; omega
      rw [Nat.zero_add]
      simp [col, List.getElem?_range hi, List.getD_eq_getElem?_getD, hlt]
      simp only [Array.length_toList] at hlt
      simp [hlt]
  · cases h

theorem catFs_spec {n : Nat} : ∀ {fs fs2 fs3 : List Fld}, catFs n fs fs2 = some fs3 → fs3.length = fs.length ∧ fs2.length = fs.length ∧ ∀ (j : Nat) g, fs3[j]? = some g → ∃ g1 g2, fs[j]? = some g1 ∧ fs2[j]? = some g2 ∧ (∀ i, i < n → g.at i = g1.at i) ∧ (∀ i, n ≤ i → g.at i = g2.at (i - n))
  | [], [], fs3, h => by simp only [catFs, Option.some.injEq] at h; subst h; exact ⟨rfl, rfl, fun j g hg => by simp at hg⟩
  | [], _ :: _, fs3, h => by simp [catFs] at h
  | _ :: _, [], fs3, h => by simp [catFs] at h
  | f :: l, f' :: l', fs3, h => by
    simp only [catFs] at h
    split at h
    · rename_i g gs h1 h2
      simp only [Option.some.injEq] at h; subst h
      obtain ⟨i1, i2, i3⟩ := catFs_spec h2
      refine ⟨by simp [i1], by simp [i2], fun j q hq => ?_⟩
      cases j with
      | succ j => exact i3 j q (by simpa using hq)
      | zero =>
        simp only [List.getElem?_cons_zero, Option.some.injEq] at hq; subst hq
        refine ⟨f, f', rfl, rfl, ?_⟩
        unfold catF at h1
        have b1 : ∀ i, i < n → Nat.blt i n = true := fun i hi => by rw [Nat.blt_eq]; exact hi
        have b2 : ∀ i, n ≤ i → Nat.blt i n = false := fun i hi => by
          cases hb : Nat.blt i n with
          | false => rfl
          | true => rw [Nat.blt_eq] at hb; omega
        split at h1
        · split at h1
          · rename_i e; subst e
            cases h1
            exact ⟨fun i hi => by simp [Fld.at, b1 i hi], fun i hi => by simp [Fld.at, b2 i hi]⟩
          · cases h1
        · cases h1
          exact ⟨fun i hi => by simp [Fld.at, b1 i hi], fun i hi => by simp [Fld.at, b2 i hi]⟩
        · cases h1
          exact ⟨fun i hi => by simp [Fld.at, b1 i hi], fun i hi => by simp [Fld.at, b2 i hi]⟩
        · cases h1
    · cases h

theorem at_oneCell (f : Fld) (i : Nat) : (f.at i).oneCell' = true := by cases f <;> rfl

/-- An append to a slice of the call's own, and where the result lies. -/
theorem run_append_any {base : Nat} {t ty e : TypeId} {i : TypeInfo} {z : Value} (ht : P.underlying t = some (.slice e)) (hi : P.info? e = some i) (hz : i.zero = some z) (hzs : z.cells.size = i.size) (hsz : 0 < i.size)
    {v : Value} {n : Nat} {xs : List Value} (hown : w.ownsRow base e i.size v n xs) {A : Option Addr} {m c : Nat} {news : List Value} (hl : news.length = m * i.size)
    (hnews : ∀ ad, A = some ad → ∀ j u, news[j]? = some u → w.cell? (ad.add j) = some u) (hA : A = none → m = 0) (h1 : ∀ u ∈ news, u.oneCell' = true)
    (h63 : n + m ≤ maxLen) (hbytes : (n + m) * i.bytes ≤ 140737488355328) (hbase : base ≤ w.heap.size) :
    ∃ v' w', (Builtin.append_ #[t, t] ty #[v, .slice A m c]).run P w = .ok v' w' ∧ w'.ownsRow base e i.size v' (n + m) (xs ++ news) ∧ w.grownBy w' v.ownBlock ∧ (v'.ownBlock = v.ownBlock ∨ v'.ownBlock = some w.heap.size) := by
  cases hAe : A with
  | none =>
    have hm := hA hAe
    subst hm
    have hn : news = [] := List.eq_nil_of_length_eq_zero (by simpa using hl)
    subst hn
    refine ⟨v, w, ?_, by simpa using hown, ⟨rfl, rfl, rfl, Nat.le_refl _, fun _ _ _ => rfl⟩, .inl rfl⟩
    rcases hown.2 with ⟨rfl, rfl⟩ | ⟨g, cap, cur, rfl, _, _, hnc, _⟩
    · simp [Builtin.append_, run_underlying ht, sizeOf, typeInfo, hi, Builtin.lenOf, Builtin.firstCells]
    · simp [Builtin.append_, run_underlying ht, sizeOf, typeInfo, hi, Builtin.lenOf, Builtin.firstCells, hnc, storeCells]
  | some ad =>
    have hnews' := hnews ad hAe
    obtain ⟨v', w', hr, ho, hg, _⟩ := run_append_own (P := P) w base t ty e i z i.size i.bytes ht hi hz rfl rfl hzs hsz v n xs hown ad m c news hl hnews' h1 h63 hbytes hbase
    refine ⟨v', w', hr, ho, hg, ?_⟩
    have hsmall : n + m ≤ 9223372036854775807 := by simp only [maxLen] at h63; omega
    rcases hown.2 with ⟨rfl, rfl⟩ | ⟨g, cap, cur, rfl, hbg, hgg, hnc, hcm, hcs, htake⟩
    · by_cases hm : m = 0
      · subst hm
        rcases ho.2 with ⟨hv', _⟩ | ⟨g', cap', cur', hv', _, hg', _⟩
        · rw [hv']; exact .inl rfl
        · exfalso
          have hn : news = [] := List.eq_nil_of_length_eq_zero (by simpa using hl)
          subst hn
          have : (Builtin.append_ #[t, t] ty #[.slice none 0 0, .slice (some ad) 0 c]).run P w = .ok (.slice none 0 0) w := by
            simp [Builtin.append_, run_underlying ht, sizeOf, typeInfo, hi, Builtin.lenOf, Builtin.firstCells, loadCells, loadCellsFrom]
          rw [this] at hr
          cases hr
          cases hv'
      · have hr' := run_append_nil (P := P) w t ty e i z ht hi hz ad m c news hl hnews' (by omega) (by omega) (by have hb := hbytes; simp only [Nat.zero_add] at hb; omega)
        rw [hr'] at hr
        cases hr
        exact .inr rfl
    · by_cases hroom : n + m ≤ cap
      · have hfit : n * i.size + news.length ≤ cur.size := by rw [hl, hcs, ← Nat.add_mul]; exact Nat.mul_le_mul_right _ hroom
        have hr' := run_append_room (P := P) w t ty e i ht hi g n cap cur hgg ad m c news hl hnews' h1 hroom hfit
        rw [hr'] at hr
        cases hr
        exact .inl rfl
      · have holds : ∀ j u, xs[j]? = some u → w.cell? ((⟨g, 0, none⟩ : Addr).add j) = some u := hown.cells (g := g) rfl
        have hr' := run_append_grow (P := P) w t ty e i z ht hi hz ⟨g, 0, none⟩ n cap xs hown.1 holds ad m c news hl hnews' (by omega) (by omega) (growslice_fits (by omega) hbytes)
        rw [hr'] at hr
        cases hr
        exact .inr rfl

/-- The rows of a slice, cell after cell. -/
def rowCells (fs : List Fld) (m : Nat) : List Value := (List.range (m * fs.length)).map fun q => (fs.getD (q % fs.length) (.bool fun _ => false)).at (q / fs.length)
theorem rowCells_length (fs : List Fld) (m : Nat) : (rowCells fs m).length = m * fs.length := by simp [rowCells]
theorem rowCells_get {fs : List Fld} {m : Nat} (hp : 0 < fs.length) {q : Nat} {u : Value} (h : (rowCells fs m)[q]? = some u) : ∃ f, fs[q % fs.length]? = some f ∧ q / fs.length < m ∧ u = f.at (q / fs.length) := by
  unfold rowCells at h
  rw [List.getElem?_map] at h
  cases hr : (List.range (m * fs.length))[q]? with
  | none => rw [hr] at h; cases h
  | some q' =>
    rw [hr] at h
    obtain ⟨hq, hq'⟩ := List.getElem?_eq_some_iff.1 hr
    simp only [List.getElem_range] at hq'
    subst hq'
    simp only [Option.map_some, Option.some.injEq] at h
    have hmod : q % fs.length < fs.length := Nat.mod_lt _ hp
    refine ⟨fs[q % fs.length], List.getElem?_eq_getElem hmod, (Nat.div_lt_iff_lt_mul hp).2 (by simpa using hq), ?_⟩
    rw [← h, List.getD_eq_getElem?_getD, List.getElem?_eq_getElem hmod]; rfl
theorem rowCells_at {fs : List Fld} {m i j : Nat} {g : Fld} (hi : i < m) (hg : fs[j]? = some g) : (rowCells fs m)[i * fs.length + j]? = some (g.at i) := by
  have hj : j < fs.length := (List.getElem?_eq_some_iff.1 hg).1
  have hlt : i * fs.length + j < m * fs.length := by
    have : (i + 1) * fs.length ≤ m * fs.length := Nat.mul_le_mul_right _ hi
    rw [Nat.add_mul] at this; omega
  unfold rowCells
  rw [List.getElem?_map, List.getElem?_range hlt]
  have e1 : (i * fs.length + j) % fs.length = j := by rw [Nat.mul_comm, Nat.mul_add_mod]; exact Nat.mod_eq_of_lt hj
  have e2 : (i * fs.length + j) / fs.length = i := by rw [Nat.mul_comm, Nat.mul_add_div (by omega), Nat.div_eq_of_lt hj, Nat.add_zero]
  simp only [Option.map_some, e1, e2, List.getD_eq_getElem?_getD, hg, Option.getD_some]

theorem readPk_sound (h : Rel ρ w0 s a w) {b row sz : Nat} {r : RB} {ad : Addr} (hr : ρ b = some r) (had : r.addr = some ad) (hlim : ∀ n, r.lim = some n → row < n) : ∀ (n fld : Nat) (ps : List PV), readPk s.hp b row sz fld n = some ps →
    ∃ vs : List Value, vs.length = n ∧ ps.length = n ∧ (∀ (j : Nat) (v : Value), vs[j]? = some v → w.cell? ⟨ad.block, ad.off + (row * sz + fld) + j, none⟩ = some v) ∧ ∀ (j : Nat) (p : PV), ps[j]? = some p → ∃ y, vs[j]? = some y ∧ PRel ρ p y
  | 0, fld, ps, hv => by
    simp only [readPk, Option.some.injEq] at hv; subst hv
    exact ⟨[], rfl, rfl, fun j v hj => by simp at hj, fun j p hj => by simp at hj⟩
  | n + 1, fld, ps, hv => by
    simp only [readPk] at hv
    split at hv
    · rename_i v hq
      split at hv
      · rename_i p l hp hl
        cases hv
        obtain ⟨vs, h1, h2, h3, h4⟩ := readPk_sound h hr had hlim n (fld + 1) l hl
        obtain ⟨y, hy, hyr⟩ := readV_sound h hq hr had hlim
        refine ⟨y :: vs, by simp [h1], by simp [h2], fun j u hj => ?_, fun j q hj => ?_⟩
        · cases j with
          | zero => simp at hj; subst hj; exact hy
          | succ j =>
            have := h3 j u (by simpa using hj)
            rwa [show ad.off + (row * sz + fld) + (j + 1) = ad.off + (row * sz + (fld + 1)) + j by omega]
        · cases j with
          | zero =>
            simp at hj; subst hj
            refine ⟨y, rfl, ?_⟩
            cases v <;> simp only [cellPV, Option.some.injEq, reduceCtorEq] at hp <;> (subst hp; exact hyr)
          | succ j => simpa using h4 j q (by simpa using hj)
      · cases hv
    · cases hv

theorem setFs_spec {row : Nat} : ∀ {fs : List Fld} {fld : Nat} {vs : List Value} {fs' : List Fld}, setFs row fs fld vs = some fs' → fs'.length = fs.length ∧
    ∀ (j : Nat) (g : Fld), fs'[j]? = some g → ∃ f, fs[j]? = some f ∧ ∀ i, g.at i = if i = row ∧ fld ≤ j ∧ j < fld + vs.length then vs.getD (j - fld) undef else f.at i
  | fs, fld, [], fs', h => by
    have : fs' = fs := by cases fs <;> cases fld <;> simp only [setFs, Option.some.injEq] at h <;> exact h.symm
    subst this
    exact ⟨rfl, fun j g hg => ⟨g, hg, fun i => by rw [if_neg (by simp only [List.length_nil]; omega)]⟩⟩
  | f :: fs, 0, v :: vs, fs', h => by
    simp only [setFs] at h
    split at h
    · rename_i g gs h1 h2
      cases h
      obtain ⟨i1, i2⟩ := setFs_spec h2
      refine ⟨by simp [i1], fun j q hq => ?_⟩
      cases j with
      | zero =>
        simp at hq; subst hq
        refine ⟨f, rfl, fun i => ?_⟩
        have hb : Nat.beq i row = decide (i = row) := by
          cases hq : Nat.beq i row with
          | true => rw [Nat.eq_of_beq_eq_true hq]; simp
          | false => symm; rw [decide_eq_false_iff_not]; exact fun e => by rw [e, Nat.beq_refl] at hq; cases hq
        unfold setF at h1
        split at h1
        · split at h1
          · rename_i e; subst e; cases h1
            by_cases hi : i = row <;> simp [Fld.at, upd, hb, hi]
          · cases h1
        · cases h1
          by_cases hi : i = row <;> simp [Fld.at, upd, hb, hi]
        · cases h1
      | succ j =>
        obtain ⟨f', hf', hat⟩ := i2 j q (by simpa using hq)
        refine ⟨f', by simpa using hf', fun i => ?_⟩
        rw [hat i]
        by_cases hc : i = row ∧ j < vs.length
        · rw [if_pos ⟨hc.1, by omega, by omega⟩, if_pos ⟨hc.1, by omega, by simp; omega⟩]; simp
        · rw [if_neg (by omega), if_neg (by simp; omega)]
    · cases h
  | f :: fs, j0 + 1, v :: vs, fs', h => by
    simp only [setFs] at h
    cases hs : setFs row fs j0 (v :: vs) with
    | none => rw [hs] at h; cases h
    | some gs =>
      rw [hs] at h
      simp only [Option.map_some, Option.some.injEq] at h; subst h
      obtain ⟨i1, i2⟩ := setFs_spec hs
      refine ⟨by simp [i1], fun j q hq => ?_⟩
      cases j with
      | zero => simp at hq; subst hq; exact ⟨f, rfl, fun i => by rw [if_neg (by omega)]⟩
      | succ j =>
        obtain ⟨f', hf', hat⟩ := i2 j q (by simpa using hq)
        refine ⟨f', by simpa using hf', fun i => ?_⟩
        rw [hat i]
        by_cases hc : i = row ∧ j0 ≤ j ∧ j < j0 + (v :: vs).length
        · rw [if_pos hc, if_pos ⟨hc.1, by omega, by omega⟩, show j + 1 - (j0 + 1) = j - j0 by omega]
        · rw [if_neg hc, if_neg (by omega)]
  | [], 0, v :: vs, fs', h => by simp [setFs] at h
  | [], j0 + 1, v :: vs, fs', h => by simp [setFs] at h

theorem zeroFs_spec : ∀ {vs : List Value} {fs : List Fld}, zeroFs vs = some fs → fs.length = vs.length ∧ ∀ (j : Nat) (g : Fld), fs[j]? = some g → ∃ v, vs[j]? = some v ∧ ∀ i, g.at i = v
  | [], fs, h => by simp only [zeroFs, Option.some.injEq] at h; subst h; exact ⟨rfl, fun j g hg => by simp at hg⟩
  | v :: l, fs, h => by
    simp only [zeroFs] at h
    split at h
    · rename_i f gs h1 h2
      cases h
      obtain ⟨i1, i2⟩ := zeroFs_spec h2
      refine ⟨by simp [i1], fun j g hg => ?_⟩
      cases j with
      | succ j => simpa using i2 j g (by simpa using hg)
      | zero =>
        simp at hg; subst hg
        refine ⟨v, rfl, fun i => ?_⟩
        unfold zeroF at h1
        split at h1
        · split at h1
          · rename_i e; subst e; cases h1; rfl
          · cases h1
        · rename_i b
          cases b
          · cases h1; rfl
          · cases h1
        · cases h1
    · cases h

theorem eqV_sound : ∀ (d : Nat) {t : TypeId} {x y : Value} {q : Bool}, eqV P d t x y = some q → ∀ (D : Nat), d ≤ D → (Op.equalIn D t x y).run P w = .ok q w
  | 0, t, x, y, q, h, D, hD => by simp [eqV] at h
  | d + 1, t, x, y, q, h, D, hD => by
    obtain ⟨D, rfl⟩ : ∃ E, D = E + 1 := ⟨D - 1, by omega⟩
    cases x <;> cases y <;> simp only [eqV] at h <;> first | (cases h; done) | skip
    · split at h
      · rename_i hu
        cases h
        exact run_equalIn_bool' w D t _ _ hu
      · cases h
    · rename_i k a k' b
      split at h
      · rename_i ki hu
        split at h
        · rename_i e; subst e; cases h
          exact run_equalIn_int w D t k _ a b hu
        · cases h
      · cases h
    · rename_i xs ys
      split at h
      · rename_i fs hu
        split at h
        · rename_i hp
          have hfs : P.fieldsOf t = fs := by simp [Program.fieldsOf, hu]
          rw [run_equalIn_struct w D t xs ys (by rw [hfs]; exact hu) hp, hfs]
          generalize fs.toList = l at h
          clear hfs hu
          induction l generalizing q with
          | nil => simp only [List.foldr_nil, Option.some.injEq] at h; subst h; rfl
          | cons f l ih =>
            simp only [List.foldr_cons] at h
            unfold eqStep at h
            by_cases hn : f.name ≠ "_"
            · rw [if_pos hn] at h
              split at h
              · rename_i a b r ha hb hr
                cases he : eqV P d f.type a b with
                | none => rw [he] at h; cases h
                | some e =>
                  rw [he] at h
                  simp only [Option.map_some, Option.some.injEq] at h
                  have h1 := eqV_sound d he D (by omega)
                  have h2 := ih _ hr
                  simp only [Op.eqFields, if_pos hn, Sem.run_bind, semVal_run ha, semVal_run hb, Result.andThen_ok, h1]
                  subst h
                  cases e
                  · simp
                  · simpa using h2
              · cases h
            · rw [if_neg hn] at h
              simp only [Op.eqFields, if_neg hn]
              exact ih _ h
        · cases h
      · cases h

/-- **The model carries out an operation as its rule says.** -/
theorem OpR.sound {o : Oper} {E : Eff} (hR : OpR P s.tm s.hp o E) (h : Rel ρ w0 s a w) {K : Act → World → Prop} {Q : Exit → Act → World → Prop} (hK : ∀ a' w', RelE w0 (s.app o.dst E) a' w' → K a' w') : o.wp P a w K Q := by
  -- a value, nothing written
  have keep : ∀ {v : V} {x : Value} {rd : List Nat} {w' : World}, Rel ρ w0 s a w' → VRel ρ v x → K (a.put o.dst x) w' ∨ ¬ (E = ⟨v, [], rd⟩) := fun {v x rd w'} h' hv => by
    by_cases e : E = ⟨v, [], rd⟩
    · subst e; exact .inl (hK _ _ ⟨ρ, h'.put o.dst hv⟩)
    · exact .inr e
  cases hR with
  | copy x hx =>
    refine wp_val (x := a.eval x) (w' := w) ?_ ((keep h (h.tm.eval x)).resolve_right (fun n => n rfl))
    unfold execOp
    rcases hx with hx | hx <;> simp [hx]
  | pick c x y t ho hc =>
    have hcv := eval_val h hc
    refine wp_val (x := if t then a.eval x else a.eval y) (w' := w) ?_ ((keep h ?_).resolve_right (fun n => n rfl))
    · unfold execOp
      simp [ho, hcv, asBool]
    · cases t
      · exact h.tm.eval y
      · exact h.tm.eval x
  | pure g v hs hx hv =>
    refine wp_val (x := v) (w' := w) ?_ ((keep h (show VRel ρ (.val v) v from rfl)).resolve_right (fun n => n rfl))
    rw [execOp_congr o hs (ρ' := g) fun x hm => eval_val h (hx x hm)]
    exact semVal_run hv w
  | alloc t d z ho hd hh hz =>
    obtain ⟨hl, hr⟩ := h.alloc hh t 0 (mapVal_rel ρ z.cells)
    refine wp_val (x := .pointer (some ⟨w.heap.size, 0, none⟩)) (w' := w.alloc (.cells z.cells t)) ?_ (hK _ _ ⟨_, hr.put o.dst ⟨_, _, updR_same _ _ _, rfl, fun n hn => (by cases hn), (by simp)⟩⟩)
    unfold execOp
    simp [ho, Instr.alloc, semVal_run hz, newVar, newRow]
  | box t x d v ho hd hh hx =>
    have hxv := eval_val h hx
    obtain ⟨hl, hr⟩ := h.alloc hh t 0 (mapVal_rel ρ v.cells)
    refine wp_val (x := .pointer (some ⟨w.heap.size, 0, none⟩)) (w' := w.alloc (.cells v.cells t)) ?_ (hK _ _ ⟨_, hr.put o.dst ⟨_, _, updR_same _ _ _, rfl, fun n hn => (by cases hn), (by simp)⟩⟩)
    unfold execOp
    simp [ho, Instr.box, hxv, newVar, newRow]
  | boxPk t x d cs ho hd hh hx =>
    have hxr := h.tm.eval x
    rw [hx] at hxr
    obtain ⟨c, hc, hl, hcs⟩ := hxr
    obtain ⟨hle, hr⟩ := h.alloc hh (cs := cs.map PV.v) (c := c) t 0 ⟨by simpa using hl, fun i v hv => by
      rw [List.getElem?_map] at hv
      cases hp : cs[i]? with
      | none => rw [hp] at hv; cases hv
      | some p =>
        rw [hp] at hv
        simp only [Option.map_some, Option.some.injEq] at hv; subst hv
        obtain ⟨y, hy, hyr⟩ := hcs i p hp
        exact ⟨y, hy, hyr.v⟩⟩
    refine wp_val (x := .pointer (some ⟨w.heap.size, 0, none⟩)) (w' := w.alloc (.cells c t)) ?_ (hK _ _ ⟨_, hr.put o.dst ⟨_, _, updR_same _ _ _, rfl, fun n hn => (by cases hn), (by simp)⟩⟩)
    unfold execOp
    simp [ho, Instr.box, hc, newVar, newRow, Value.cells]
  | row t len parts g d e sz cells ho hd hh hx hp =>
    obtain ⟨hl, hr⟩ := h.alloc hh e len (mapVal_rel ρ cells)
    refine wp_val (x := .slice (some ⟨w.heap.size, 0, none⟩) len len) (w' := w.alloc (.cells cells e)) ?_ (hK _ _ ⟨_, hr.put o.dst ⟨_, updR_same _ _ _, fun n hn => (by cases hn), rfl⟩⟩)
    rw [execOp_congr o (fun cs b => by rw [ho]; exact fun e => by cases e) (ρ' := g) fun x hm => eval_val h (hx x hm)]
    unfold execOp
    simp only [ho, Sem.run_bind, run_rowParts hp w, Result.andThen_ok, Sem.run_pure]
  | load t x b row sz fld v ho hx ht hv =>
    have hxr := h.tm.eval x
    rw [hx] at hxr
    obtain ⟨r, ad, hr, had, hlim, hxe⟩ := hxr
    obtain ⟨y, hy, hvr⟩ := readV_sound h hv hr had hlim
    refine wp_val (x := y) (w' := w) ?_ ((keep h hvr).resolve_right (fun n => n rfl))
    unfold execOp
    simp [ho, hxe, Instr.loadAt, Instr.sureAddr, loadVar, semVal_run ht, hy]
  | loadAgg t x b row sz fld n vs ho hx ht hn hv =>
    have hxr := h.tm.eval x
    rw [hx] at hxr
    obtain ⟨r, ad, hr, had, hlim, hxe⟩ := hxr
    obtain ⟨hlen, hcells⟩ := readAgg_sound h hr had hlim n fld vs hv
    refine wp_val (x := .agg vs.toArray) (w' := w) ?_ ((keep h (show VRel ρ (.val (.agg vs.toArray)) _ from rfl)).resolve_right (fun n => n rfl))
    have hl := run_loadCells_list (P := P) w ⟨ad.block, ad.off + (row * sz + fld), none⟩ vs (fun j v hj => by rw [addr_add]; exact hcells j v hj)
    rw [hlen] at hl
    unfold execOp
    simp [ho, hxe, Instr.loadAt, Instr.sureAddr, loadVar, semVal_run ht, semVal_run hn, hl]
  | store t x y b row sz fld cs ws ho hx hc hw hn hle =>
    have hxr := h.tm.eval x
    rw [hx] at hxr
    obtain ⟨r, ad, hr, had, hlim, hxe⟩ := hxr
    have hyr := h.tm.eval y
    have hgd : s.hp.getD b .none = .own cs := by simp [List.getD_eq_getElem?_getD, hc]
    have hblen : b < s.hp.length := (List.getElem?_eq_some_iff.1 hc).1
    have hb := h.hp b
    rw [hgd] at hb
    obtain ⟨r', k, e, c, h1, h2, hm, h3, h4, h5⟩ := hb
    rw [hr] at h1; cases h1
    rw [had] at h2; cases h2
    -- the cells of the value
    obtain ⟨hsz, hone, hcr⟩ : (a.eval y).cells.size = ws.length ∧ (∀ v ∈ (a.eval y).cells.toList, v.oneCell' = true) ∧ TRel ρ ws (a.eval y).cells := by
      cases hy : evV s.tm y with
      | val v =>
        rw [hy] at hyr hw
        have hyv : a.eval y = v := hyr
        rw [hyv]
        simp only [cellsV] at hw
        split at hw
        · rename_i hall
          simp only [Option.some.injEq] at hw; subst hw
          exact ⟨by simp, fun u hu => (Array.all_eq_true_iff_forall_mem.1 hall) u (by simpa using hu), mapVal_rel ρ _⟩
        · cases hw
      | ptr b' row' sz' fld' =>
        rw [hy] at hyr hw
        simp only [cellsV, Option.some.injEq] at hw; subst hw
        have hyr' := hyr
        obtain ⟨r1, ad1, _, _, _, hye⟩ := hyr
        have hcl : (a.eval y).cells = #[a.eval y] := by rw [hye]; rfl
        rw [hcl]
        refine ⟨rfl, fun u hu => by simp at hu; rw [hu, hye]; rfl, rfl, fun i v hv => ?_⟩
        cases i with
        | zero => simp at hv; subst hv; exact ⟨_, rfl, hyr'⟩
        | succ i => simp at hv
      | sl b' sz' len' =>
        rw [hy] at hyr hw
        simp only [cellsV, Option.some.injEq] at hw; subst hw
        have hyr' := hyr
        obtain ⟨r1, _, _, hye⟩ := hyr
        have hcl : (a.eval y).cells = #[a.eval y] := by rw [hye]; rfl
        rw [hcl]
        refine ⟨rfl, fun u hu => by simp at hu; rw [hu, hye]; rfl, rfl, fun i v hv => ?_⟩
        cases i with
        | zero => simp at hv; subst hv; exact ⟨_, rfl, hyr'⟩
        | succ i => simp at hv
      | pk => rw [hy] at hw; simp [cellsV] at hw
      | unk => rw [hy] at hw; simp [cellsV] at hw
      | gp => rw [hy] at hw; simp [cellsV] at hw
    have hoff : row * sz + fld + (a.eval y).cells.toList.length ≤ c.size := by
      have := h5.1; simp only [Array.length_toList, hsz]; omega
    have hst := run_storeCells_at (P := P) k (row * sz + fld) e (a.eval y).cells.toList 0 c w h4 (by omega) hone
    simp only [Nat.add_zero] at hst
    have hrel := h.store (cs' := cs.take (row * sz + fld) ++ ws ++ cs.drop (row * sz + fld + ws.length)) (c' := (c.toList.take (row * sz + fld) ++ (a.eval y).cells.toList ++ c.toList.drop (row * sz + fld + (a.eval y).cells.toList.length)).toArray) hgd hblen hr had hm h3 h4 ?_
    · refine wp_skipped ?_ (hK _ _ ⟨ρ, hrel.put o.dst (show VRel ρ (.val undef) undef from rfl)⟩)
      unfold execOp
      simp only [ho, hxe, Instr.storeAt, Instr.sureAddr, Sem.run_bind, Sem.run_pure, Result.andThen_ok, storeVar, semVal_run hn, hsz, ne_eq, not_true_eq_false, if_false, Nat.zero_add]
      simp only [hst, Result.andThen_ok, Sem.run_pure]
    · have hcl : cs.length = c.size := h5.1
      have hwl : ws.length = (a.eval y).cells.toList.length := by simp [hsz]
      refine ⟨by simp [hcl, hwl], fun i v hv => ?_⟩
      simp only [List.getElem?_toArray]
      rw [List.append_assoc, List.getElem?_append] at hv ⊢
      simp only [List.length_take, Array.length_toList, hcl] at hv ⊢
      by_cases hi : i < min (row * sz + fld) c.size
      · rw [if_pos hi] at hv ⊢
        rw [List.getElem?_take] at hv ⊢
        split at hv
        · rename_i hi2
          rw [if_pos hi2, Array.getElem?_toList]; exact h5.2 i v hv
        · cases hv
      · rw [if_neg hi] at hv ⊢
        rw [List.getElem?_append] at hv ⊢
        rw [hwl] at hv
        by_cases hj : i - min (row * sz + fld) c.size < (a.eval y).cells.toList.length
        · rw [if_pos hj] at hv ⊢
          rw [Array.getElem?_toList]; exact hcr.2 _ v hv
        · rw [if_neg hj] at hv ⊢
          rw [List.getElem?_drop] at hv ⊢
          rw [Array.getElem?_toList]; exact h5.2 _ v hv
  | field t x f b row sz fld fs fl n ho hx ht hf hn =>
    have hxr := h.tm.eval x
    rw [hx] at hxr
    obtain ⟨r, ad, hr, had, hlim, hxe⟩ := hxr
    refine wp_val (x := .pointer (some ⟨ad.block, ad.off + (row * sz + (fld + fl.offset)), none⟩)) (w' := w) ?_ ((keep h (show VRel ρ (.ptr b row sz (fld + fl.offset)) _ from ⟨r, ad, hr, had, hlim, rfl⟩)).resolve_right (fun n => n rfl))
    unfold execOp
    simp only [ho, hxe, Instr.fieldAt, Sem.run_bind, run_underlying ht, Result.andThen_ok, hf, Instr.sureAddr, Sem.run_pure, fieldPlace, semVal_run hn, Nat.add_one_ne_zero, if_false, addr_add]
    rw [show ad.off + (row * sz + fld) + fl.offset = ad.off + (row * sz + (fld + fl.offset)) by omega]
  | index t x ix b sz len k i e ho hx hi ht hn h0 h1 hlive =>
    have hxr := h.tm.eval x
    rw [hx] at hxr
    obtain ⟨r, hr, hlim, hxe⟩ := hxr
    have hiv := eval_val h hi
    have hlen : 0 < len := by omega
    obtain ⟨ad, had, hsp, hlim2⟩ : ∃ ad, r.addr = some ad ∧ ad.spot = none ∧ ∀ n, r.lim = some n → i.toNat < n := by
      have hb := h.hp b
      cases hq : s.hp.getD b .none with
      | none => rw [hq] at hlive; cases hlive
      | gone => rw [hq] at hlive; cases hlive
      | own cs =>
        rw [hq] at hb
        obtain ⟨r', k, e, c, g1, g2, gm, g3, g4, g5⟩ := hb
        rw [hr] at g1; cases g1
        exact ⟨_, g2, rfl, fun n hn => by rw [gm] at hn; cases hn⟩
      | ext n fs =>
        rw [hq] at hb
        obtain ⟨r', g1, gm, g2⟩ := hb
        rw [hr] at g1; cases g1
        have := hlim n gm; subst this
        obtain ⟨ad, g3, g4, _⟩ := g2 hlen
        exact ⟨ad, g3, g4, fun m hm => by rw [gm] at hm; cases hm; omega⟩
      | grow e n fs =>
        rw [hq] at hb
        obtain ⟨r', xs, g1, gm, gp, go, gf⟩ := hb
        rw [hr] at g1; cases g1
        have := hlim n gm; subst this
        obtain ⟨g, hg⟩ := grow_some go hlen
        exact ⟨_, hg, rfl, fun m hm => by rw [gm] at hm; cases hm; omega⟩
    refine wp_val (x := .pointer (some ⟨ad.block, ad.off + (i.toNat * sz + 0), none⟩)) (w' := w) ?_ ((keep h (show VRel ρ (.ptr b i.toNat sz 0) _ from ⟨r, ad, hr, had, hlim2, rfl⟩)).resolve_right (fun n => n rfl))
    have hel : P.elem t = e := by simp [Program.elem, ht]
    unfold execOp
    simp only [ho, hxe, hiv, had, Sem.run_bind, run_indexAt_slice w t ad len r.cap k i (by rw [hel]; exact ht), h0, h1, and_self, if_true, hel, semVal_run hn, Result.andThen_ok, Sem.run_pure, addr_add' hsp, Nat.add_zero]
  | len c x t b sz len e ho hc ha hat hx ht =>
    have hxr := h.tm.eval x
    rw [hx] at hxr
    obtain ⟨r, hr, hlim, hxe⟩ := hxr
    refine wp_val (x := .int .i64 len) (w' := w) ?_ ((keep h (show VRel ρ (.val (.int .i64 len)) _ from rfl)).resolve_right (fun n => n rfl))
    have hel : P.elem t = e := by simp [Program.elem, ht]
    have hl := run_len_slice (P := P) w t o.type r.addr len r.cap (by rw [hel]; exact ht)
    unfold execOp
    simp [ho, resolve, hc, ha, hat, hxe, invoke, builtin, hl, goInt]
  | call c f avs rd v ho hc ha hC =>
    obtain ⟨ha1, ha2⟩ := avsOf_sound h c.args.toList ha
    have hargs : ArgsRel w (c.args.map a.eval) avs := ⟨by simp [ha1], fun i av hi => by
      obtain ⟨x, hx, hr⟩ := ha2 i av hi
      exact ⟨x, by simpa using hx, hr⟩⟩
    have hcall := hC w _ (h.laid.below h.below) hargs
    have hex : (execOp a.eval o).run P w = (callFunc f (c.args.map a.eval)).run P w := by
      unfold execOp
      simp [ho, resolve, hc, Act.eval, Deferred.ofValue, invoke]
    unfold Oper.wp
    rw [hex]
    unfold CallOk at hcall
    split at hcall
    · rename_i g as w' hrun
      obtain ⟨rfl, hcall⟩ := hcall
      rw [hrun]
      refine hcall.mono fun e w'' ⟨x, he, hb, hx⟩ => ?_
      subst he
      have hx' : x = v := hx
      subst hx'
      exact (keep (h.world hb) (show VRel ρ (.val x) x from rfl)).resolve_right (fun n => n rfl)
    · rename_i v' w' hrun
      rw [hrun]
      obtain ⟨hb, hx⟩ := hcall
      have hx' : v' = v := hx
      subst hx'
      exact (keep (h.world hb) (show VRel ρ (.val v') v' from rfl)).resolve_right (fun n => n rfl)
    · exact hcall.elim
  | callRows c f avs rd d n fs ho hc ha hd hh hC =>
    obtain ⟨ha1, ha2⟩ := avsOf_sound h c.args.toList ha
    have hargs : ArgsRel w (c.args.map a.eval) avs := ⟨by simp [ha1], fun i av hi => by
      obtain ⟨x, hx, hr⟩ := ha2 i av hi
      exact ⟨x, by simpa using hx, hr⟩⟩
    have hcall := hC w _ (h.laid.below h.below) hargs
    have hex : (execOp a.eval o).run P w = (callFunc f (c.args.map a.eval)).run P w := by
      unfold execOp
      simp [ho, resolve, hc, Act.eval, Deferred.ofValue, invoke]
    have fin : ∀ (x : Value) (w' : World), Below w.heap.size w w' → AVRel w' w.heap.size x (.rows n fs) → K (a.put o.dst x) w' := fun x w' hb hx => by
      obtain ⟨A, c', hxe, hrows⟩ := hx
      obtain ⟨hl, hr⟩ := h.rows hh hb c' hrows
      exact hK _ _ ⟨_, hr.put o.dst ⟨_, updR_same _ _ _, fun m hm => (by cases hm; rfl), hxe⟩⟩
    unfold Oper.wp
    rw [hex]
    unfold CallOk at hcall
    split at hcall
    · rename_i g as w' hrun
      obtain ⟨rfl, hcall⟩ := hcall
      rw [hrun]
      refine hcall.mono fun e w'' ⟨x, he, hb, hx⟩ => ?_
      subst he
      exact fin _ _ hb hx
    · rename_i v' w' hrun
      rw [hrun]
      exact fin _ _ hcall.1 hcall.2
    · exact hcall.elim
  | rowG t len parts g d e sz cells fs ho hd hh hx hp hg =>
    obtain ⟨q1, q2, q3, q4, q5⟩ := growFs_spec hg
    have hB := h.below.size
    obtain ⟨hl, hr⟩ := h.newSlot hh ((Below.refl w.heap.size w).alloc (Nat.le_refl _) (.cells cells e)) ⟨some ⟨w.heap.size, 0, none⟩, len, some len⟩ (.grow e len fs)
      ⟨_, cells.toList, updR_same _ _ _, rfl, by rw [q4]; exact q1, ⟨by rw [q4]; simpa using q2, .inr ⟨w.heap.size, len, cells, rfl, hB, heap_alloc_new _ _, Nat.le_refl _, q3, by rw [q4]; exact q2, by rw [q4, ← q2]; simp [List.take_of_length_le]⟩⟩, by rw [q4]; exact q5⟩ (fun ad had _ => by cases had; exact Nat.le_refl _)
    refine wp_val (x := .slice (some ⟨w.heap.size, 0, none⟩) len len) (w' := w.alloc (.cells cells e)) ?_ (hK _ _ ⟨_, hr.put o.dst ⟨_, updR_same _ _ _, fun n hn => (by cases hn; rfl), rfl⟩⟩)
    rw [execOp_congr o (fun cs b => by rw [ho]; exact fun e => by cases e) (ρ' := g) fun x hm => eval_val h (hx x hm)]
    unfold execOp
    simp only [ho, Sem.run_bind, run_rowParts hp w, Result.andThen_ok, Sem.run_pure]
  | loadPk t x b row sz fld n ps ho hx ht hn hv =>
    have hxr := h.tm.eval x
    rw [hx] at hxr
    obtain ⟨r, ad, hr, had, hlim, hxe⟩ := hxr
    obtain ⟨vs, hlen, hpl, hcells, hps⟩ := readPk_sound h hr had hlim n fld ps hv
    refine wp_val (x := .agg vs.toArray) (w' := w) ?_ ((keep h (show VRel ρ (.pk ps) _ from ⟨vs.toArray, rfl, by simp [hpl, hlen], fun j p hp => by simpa using hps j p hp⟩)).resolve_right (fun n => n rfl))
    have hl := run_loadCells_list (P := P) w ⟨ad.block, ad.off + (row * sz + fld), none⟩ vs (fun j v hj => by rw [addr_add]; exact hcells j v hj)
    rw [hlen] at hl
    unfold execOp
    simp [ho, hxe, Instr.loadAt, Instr.sureAddr, loadVar, semVal_run ht, semVal_run hn, hl]
  | storeG t x y b row sz fld n e fs fs' v ho hx hc hsz hy hn hle hset =>
    have hxr := h.tm.eval x
    rw [hx] at hxr
    obtain ⟨r, ad, hr, had, hlim, hxe⟩ := hxr
    have hyv := eval_val h hy
    have hgd : s.hp.getD b .none = .grow e n fs := by simp [List.getD_eq_getElem?_getD, hc]
    have hblen : b < s.hp.length := (List.getElem?_eq_some_iff.1 hc).1
    have hb := h.hp b
    rw [hgd] at hb
    obtain ⟨r', xs, h1, hm, hpos, ho', hf⟩ := hb
    rw [hr] at h1; cases h1
    have hrow := hlim n hm
    obtain ⟨k, hk⟩ := grow_some ho' (by omega)
    rw [had] at hk
    simp only [Option.some.injEq] at hk; subst hk
    obtain ⟨cap, cur, hcap, hbg, hg, hnc, hcm, hcs, htake⟩ : ∃ cap cur, r.cap = cap ∧ w0.heap.size ≤ k ∧ w.heap[k]? = some (.cells cur e (0, 0)) ∧ n ≤ cap ∧ cap ≤ maxLen ∧ cur.size = cap * fs.length ∧ cur.toList.take (n * fs.length) = xs := by
      rcases ho'.2 with ⟨hv0, _⟩ | ⟨g, cap, cur, hv0, h1, h2, h3, h4, h5, h6⟩
      · rw [had] at hv0; cases hv0
      · rw [had] at hv0
        simp only [Value.slice.injEq, Option.some.injEq, Addr.mk.injEq, and_true, true_and] at hv0
        obtain ⟨rfl, rfl⟩ := hv0
        exact ⟨_, cur, rfl, h1, h2, h3, h4, h5, h6⟩
    obtain ⟨s1, s2⟩ := setFs_spec hset
    have hone : ∀ u ∈ v.cells.toList, u.oneCell' = true := fun u hu => by
      obtain ⟨q, hq⟩ := List.getElem?_of_mem hu
      have hql := (List.getElem?_eq_some_iff.1 hq).1
      simp only [Array.length_toList] at hql
      have hj : fld + q < fs'.length := by rw [s1]; omega
      obtain ⟨f, _, hat⟩ := s2 (fld + q) fs'[fld + q] (List.getElem?_eq_getElem hj)
      have := hat row
      rw [if_pos ⟨rfl, by omega, by simp; omega⟩, show fld + q - fld = q by omega, List.getD_eq_getElem?_getD, hq] at this
      simp only [Option.getD_some] at this
      rw [← this]
      exact at_oneCell _ _
    have hend : row * fs.length + fs.length ≤ n * fs.length := by
      have : (row + 1) * fs.length ≤ n * fs.length := Nat.mul_le_mul_right _ hrow
      rw [Nat.add_mul] at this; omega
    have hcurn : n * fs.length ≤ cur.size := by rw [hcs]; exact Nat.mul_le_mul_right _ hnc
    have hst := run_storeCells_at (P := P) k (row * fs.length + fld) e v.cells.toList 0 cur w hg (by simp only [Array.length_toList]; omega) hone
    simp only [Nat.add_zero] at hst
    have hrel := h.rewrite (x := .grow e n fs') (c' := (cur.toList.take (row * fs.length + fld) ++ v.cells.toList ++ cur.toList.drop (row * fs.length + fld + v.cells.toList.length)).toArray) (by rw [hgd]; rfl) hblen hr had hbg ?_
    · refine wp_skipped ?_ (hK _ _ ⟨ρ, hrel.put o.dst (show VRel ρ (.val undef) undef from rfl)⟩)
      unfold execOp
      simp only [ho, hxe, hsz, hyv, Instr.storeAt, Instr.sureAddr, Sem.run_bind, Sem.run_pure, Result.andThen_ok, storeVar, semVal_run hn, ne_eq, not_true_eq_false, if_false, Nat.zero_add]
      simp only [hst, Result.andThen_ok, Sem.run_pure]
    · have hnl : ∀ q, ((cur.toList.take (row * fs.length + fld) ++ v.cells.toList ++ cur.toList.drop (row * fs.length + fld + v.cells.toList.length)).take (n * fs.length))[q]? = if q < n * fs.length then (if row * fs.length + fld ≤ q ∧ q < row * fs.length + fld + v.cells.size then v.cells.toList[q - (row * fs.length + fld)]? else cur.toList[q]?) else none := fun q => by
        rw [List.getElem?_take]
        split
        · have hcl : cur.toList.length = cur.size := Array.length_toList
          rw [List.append_assoc, List.getElem?_append, List.length_take, hcl, Nat.min_eq_left (by omega)]
          split
          · rename_i hq1 hq2
            rw [if_neg (by omega), List.getElem?_take, if_pos hq2]
          · rename_i hq1 hq2
            rw [List.getElem?_append]
            simp only [Array.length_toList]
            split
            · rename_i hq3; rw [if_pos (by omega)]
            · rename_i hq3
              rw [if_neg (by omega), List.getElem?_drop]
              congr 1; omega
        · rfl
      refine ⟨r, (cur.toList.take (row * fs.length + fld) ++ v.cells.toList ++ cur.toList.drop (row * fs.length + fld + v.cells.toList.length)).take (n * fs.length), hr, hm, by rw [s1]; exact hpos, ?_, ?_⟩
      · rw [s1, had, hcap]
        refine ⟨by simp only [List.length_take, List.length_append, List.length_drop, Array.length_toList]; omega, .inr ⟨k, cap, _, rfl, hbg, setRow_heap w k cur _ e _ hg, hnc, hcm, ?_, rfl⟩⟩
        simp only [List.size_toArray, List.length_append, List.length_take, List.length_drop, Array.length_toList]
        omega
      · intro i hi j g hg'
        rw [s1, hnl]
        obtain ⟨f, hfj, hat⟩ := s2 j g hg'
        have hj : j < fs.length := (List.getElem?_eq_some_iff.1 hfj).1
        have hij : i * fs.length + j < n * fs.length := by
          have : (i + 1) * fs.length ≤ n * fs.length := Nat.mul_le_mul_right _ hi
          rw [Nat.add_mul] at this; omega
        rw [if_pos hij, hat i]
        have hold := hf i hi j f hfj
        rw [← htake, List.getElem?_take, if_pos hij] at hold
        by_cases hc2 : i = row ∧ fld ≤ j ∧ j < fld + v.cells.toList.length
        · obtain ⟨rfl, h3, h4⟩ := hc2
          simp only [Array.length_toList] at h4
          rw [if_pos (by omega), if_pos ⟨rfl, h3, by simpa using h4⟩, show i * fs.length + j - (i * fs.length + fld) = j - fld by omega, List.getD_eq_getElem?_getD, List.getElem?_eq_getElem (by simp only [Array.length_toList]; omega)]
          rfl
        · rw [if_neg hc2, if_neg ?_]
          · exact hold
          · rintro ⟨h3, h4⟩
            simp only [Array.length_toList] at hc2
            refine hc2 ?_
            have : i = row := by
              rcases Nat.lt_trichotomy i row with hlt | heq | hgt
              · have : (i + 1) * fs.length ≤ row * fs.length := Nat.mul_le_mul_right _ hlt
                rw [Nat.add_mul] at this; omega
              · exact heq
              · have : (row + 1) * fs.length ≤ i * fs.length := Nat.mul_le_mul_right _ hgt
                rw [Nat.add_mul] at this; omega
            subst this
            exact ⟨rfl, by omega, by omega⟩
  | make t e x y i z kl kc n d fs ho hd hh hx hy ht hi hz hzs hpos hf h0 h63 hby =>
    have hxv := eval_val h hx
    have hyv := eval_val h hy
    obtain ⟨q1, q2⟩ := zeroFs_spec hf
    obtain ⟨N, rfl⟩ := Int.eq_ofNat_of_zero_le h0
    simp only [Int.toNat_natCast] at h63 hby hK
    have hsz : fs.length = i.size := by rw [q1, Array.length_toList, hzs]
    have hrun := run_make (P := P) w t e i z ht hi hz kl kc N N (by omega) (Int.le_refl _) (by
      have : ((i.bytes * N : Nat) : Int) ≤ 281474976710656 := by rw [Nat.mul_comm]; omega
      rwa [Int.natCast_mul] at this) (by simp only [maxLen] at h63; omega)
    simp only [Int.toNat_natCast] at hrun
    have hown := World.ownsRow_lit (base := w0.heap.size) (e := e) (size := i.size) w (madeCells z.cells (N * i.size)) N h.below.size h63 (size_madeCells _ _)
    obtain ⟨hl, hrel⟩ := h.newSlot hh ((Below.refl w.heap.size w).alloc (Nat.le_refl _) (.cells (madeCells z.cells (N * i.size)) e)) ⟨some ⟨w.heap.size, 0, none⟩, N, some N⟩ (.grow e N fs)
      ⟨_, (madeCells z.cells (N * i.size)).toList, updR_same _ _ _, rfl, by rw [hsz]; exact hpos, by rw [hsz]; exact hown, fun p hp j g hg => by
        obtain ⟨u, hu, hat⟩ := q2 j g hg
        have hj : j < i.size := by rw [← hsz]; exact (List.getElem?_eq_some_iff.1 hg).1
        have hlt : p * i.size + j < N * i.size := by
          have : (p + 1) * i.size ≤ N * i.size := Nat.mul_le_mul_right _ hp
          rw [Nat.add_mul] at this; omega
        have e1 : (p * i.size + j) % i.size = j := by rw [Nat.mul_comm, Nat.mul_add_mod]; exact Nat.mod_eq_of_lt hj
        rw [hsz, hat p]
        simp only [madeCells, Array.toList_map, Array.toList_range, List.getElem?_map, List.getElem?_range hlt, Option.map_some, hzs, e1]
        rw [Array.getElem?_toList] at hu
        rw [getElem!_def, hu]⟩ (fun ad had _ => by cases had; exact Nat.le_refl _)
    refine wp_val (x := .slice (some ⟨w.heap.size, 0, none⟩) N N) (w' := w.alloc (.cells (madeCells z.cells (N * i.size)) e)) ?_ (hK _ _ ⟨_, hrel.put o.dst ⟨_, updR_same _ _ _, fun m hm => (by cases hm; rfl), rfl⟩⟩)
    unfold execOp
    simp only [ho, hxv, hyv, hrun, Sem.run_bind, Result.andThen_ok, Sem.run_pure]
  | app c x y t e i z b d sz n m n1 fs fs2 fs3 rd2 ho hc ha hat hd hh hx hy hb ht hi hz hzs hl1 hl2 h3 h63 hby =>
    have hxr := h.tm.eval x
    rw [hx] at hxr
    obtain ⟨r, hr, hlim, hxe⟩ := hxr
    obtain ⟨A2, c2, hye, hrows⟩ := avOf_sound h (h.tm.eval y) hy
    have hgb : s.hp.getD b .none = .grow e n1 fs := by simp [List.getD_eq_getElem?_getD, hb]
    have hbl : b < s.hp.length := (List.getElem?_eq_some_iff.1 hb).1
    have hbd : b ≠ d := fun e => by subst e; rw [hb] at hh; cases hh
    have hB := h.hp b
    rw [hgb] at hB
    obtain ⟨r', xs, g1, gm, gp, go, gf⟩ := hB
    rw [hr] at g1; cases g1
    have hn := hlim n1 gm; subst hn
    obtain ⟨s1, s2, s3⟩ := catFs_spec h3
    rw [hl1] at go gf gp
    have gp2 : 0 < fs2.length := by rw [hl2]; exact gp
    have hlen2 : (rowCells fs2 m).length = m * i.size := by rw [rowCells_length, hl2]
    have hnews : ∀ ad, A2 = some ad → ∀ j u, (rowCells fs2 m)[j]? = some u → w.cell? (ad.add j) = some u := fun ad had j u hu => by
      obtain ⟨f, hf, hq, rfl⟩ := rowCells_get gp2 hu
      obtain ⟨ad', k1, k2, _, _, k5⟩ := hrows (Nat.lt_of_le_of_lt (Nat.zero_le _) hq)
      rw [had] at k1; cases k1
      rw [addr_add' k2]
      have := k5 _ hq _ f hf
      rwa [Nat.mul_comm, Nat.div_add_mod] at this
    have hA2 : A2 = none → m = 0 := fun e => by
      rcases Nat.eq_zero_or_pos m with h0 | h0
      · exact h0
      · obtain ⟨ad', k1, _⟩ := hrows h0
        rw [e] at k1; cases k1
    have h1 : ∀ u ∈ rowCells fs2 m, u.oneCell' = true := fun u hu => by
      obtain ⟨q, hq⟩ := List.getElem?_of_mem hu
      obtain ⟨f, _, _, rfl⟩ := rowCells_get gp2 hq
      exact at_oneCell _ _
    obtain ⟨v', w', hrun, hown, hgrown, hwhere⟩ := run_append_any (ty := o.type) ht hi hz hzs gp go (A := A2) (c := c2) hlen2 hnews hA2 h1 h63 hby h.below.size
    obtain ⟨A', cap', hv', hA'⟩ : ∃ A' cap', v' = .slice A' (n1 + m) cap' ∧ ∀ ad, A' = some ad → ad.off = 0 ∧ ad.spot = none := by
      rcases hown.2 with ⟨hv, h0⟩ | ⟨g, cap, cur, hv, _, hg, _⟩
      · exact ⟨none, 0, by rw [hv, h0], fun ad had => by cases had⟩
      · exact ⟨_, cap, hv, fun ad had => by cases had; exact ⟨rfl, rfl⟩⟩
    subst hv'
    have hgr : ∀ k, (Value.slice r.addr n1 r.cap).ownBlock = some k → w0.heap.size ≤ k := fun k hk => (go.lt k hk).1
    have hBl : Below w0.heap.size w w' := (Below.refl w0.heap.size w).grown hgrown h.below.size hgr
    obtain ⟨hl, hrel⟩ := h.rebind hh hbl hbd hr (r := ⟨A', cap', some (n1 + m)⟩) (x := .grow e (n1 + m) fs3) (w' := w')
      ⟨_, xs ++ rowCells fs2 m, updR_same _ _ _, rfl, by rw [s1, hl1]; exact gp, by rw [s1, hl1]; exact hown, fun q hq j g hg => by
        obtain ⟨f1, f2, e1, e2, e3, e4⟩ := s3 j g hg
        have hj : j < i.size := by rw [← hl1]; exact (List.getElem?_eq_some_iff.1 e1).1
        rw [s1, hl1]
        rcases Nat.lt_or_ge q n1 with hlt | hge
        · have hlt2 : q * i.size + j < xs.length := by
            have : (q + 1) * i.size ≤ n1 * i.size := Nat.mul_le_mul_right _ hlt
            rw [Nat.add_mul] at this; rw [go.1]; omega
          rw [List.getElem?_append_left hlt2, e3 q hlt]
          exact gf q hlt j f1 e1
        · have hge2 : n1 * i.size ≤ q * i.size := Nat.mul_le_mul_right _ hge
          rw [List.getElem?_append_right (by rw [go.1]; omega), e4 q hge, go.1]
          have := rowCells_at (m := m) (i := q - n1) (by omega) e2
          rw [hl2, Nat.sub_mul] at this
          rw [show q * i.size + j - n1 * i.size = q * i.size - n1 * i.size + j by omega]
          exact this⟩
      (fun _ => by rw [hgb]; rfl) (fun _ => by rw [hgb]; trivial) hBl
      (fun k hk hne => hgrown.block k hk fun e => by
        cases hA : r.addr with
        | none => rw [hA] at e; simp [Value.ownBlock] at e
        | some ad => rw [hA] at e; simp only [Value.ownBlock, Option.some.injEq] at e; exact hne (by rw [hgb]; rfl) ad hA e.symm)
      (fun ad had _ => by
        have had' : A' = some ad := had
        rw [had'] at hwhere
        rcases hwhere with hw | hw
        · cases hA : r.addr with
          | none => rw [hA] at hw; simp [Value.ownBlock] at hw
          | some ad0 => rw [hA] at hw; simp only [Value.ownBlock, Option.some.injEq] at hw; exact .inl ⟨ad0, rfl, hw.symm⟩
        · simp only [Value.ownBlock, Option.some.injEq] at hw
          exact .inr (by omega))
    refine wp_val (x := .slice A' (n1 + m) cap') (w' := w') ?_ (hK _ _ ⟨_, hrel.put o.dst ⟨_, updR_same _ _ _, fun q hq => (by cases hq; rfl), rfl⟩⟩)
    unfold execOp
    simp only [ho, resolve, hc, ha, hat, invoke, builtin, Sem.run_bind, Sem.run_pure, Result.andThen_ok, List.map_toArray, List.map_cons, List.map_nil, hxe, hye, hrun]
  | arr t x ix b row sz fld len n k i e ho hx hi ht hn h0 h1 =>
    have hxr := h.tm.eval x
    rw [hx] at hxr
    obtain ⟨r, ad, hr, had, hlim, hxe⟩ := hxr
    have hiv := eval_val h hi
    refine wp_val (x := .pointer (some ⟨ad.block, ad.off + (row * sz + (fld + i.toNat * n)), none⟩)) (w' := w) ?_ ((keep h (show VRel ρ (.ptr b row sz (fld + i.toNat * n)) _ from ⟨r, ad, hr, had, hlim, rfl⟩)).resolve_right (fun n => n rfl))
    unfold execOp
    simp only [ho, hxe, hiv, Instr.indexAt, asIntOf, Sem.run_bind, run_underlying ht, Result.andThen_ok, Sem.run_pure, Instr.sureAddr, h0, h1, and_self, if_true, semVal_run hn, addr_add]
    rw [show ad.off + (row * sz + fld) + i.toNat * n = ad.off + (row * sz + (fld + i.toNat * n)) by omega]
  | eqs op t yt x y a b q ho hop hx hy hg hq =>
    have hxv := eval_val h hx
    have hyv := eval_val h hy
    have hE := eqV_sound (w := w) 10 hq 10000 (by omega)
    refine wp_val (x := .bool (eqSign op q)) (w' := w) ?_ ((keep h (show VRel ρ (.val _) _ from rfl)).resolve_right (fun n => n rfl))
    unfold execOp
    rcases hop with rfl | rfl
    · simp only [ho, hxv, hyv, Sem.run_bind, run_eqGuard_agg w .eql t x y a b hg, Result.andThen_ok, run_eql_struct, hE, Sem.run_pure, eqSign]
    · simp only [ho, hxv, hyv, Sem.run_bind, run_eqGuard_agg w .neq t x y a b hg, Result.andThen_ok, run_neq_struct, hE, Sem.run_pure, eqSign]
  | strAt t x ix q k i u ho hx hi ht h0 hs =>
    have hxv := eval_val h hx
    have hiv := eval_val h hi
    refine wp_val (x := .int .u8 u.toNat) (w' := w) ?_ ((keep h (show VRel ρ (.val (.int .u8 u.toNat)) _ from rfl)).resolve_right (fun n => n rfl))
    unfold execOp
    simp only [ho, hxv, hiv, Instr.index, asIntOf, Sem.run_bind, run_underlying ht, Result.andThen_ok, Sem.run_pure, h0, if_true, hs]
  | gidx t x ix g sz len n fs k i e ho hx hi ht hn h0 h1 hg hl =>
    have hxr := h.tm.eval x
    rw [hx] at hxr
    obtain ⟨hxe, _⟩ := hxr
    have hiv := eval_val h hi
    refine wp_val (x := .pointer (some ⟨g, i.toNat * sz + 0, none⟩)) (w' := w) ?_ ((keep h (show VRel ρ (.gp g i.toNat sz 0) _ from ⟨rfl, n, fs, hg, by omega⟩)).resolve_right (fun n => n rfl))
    unfold execOp
    simp only [ho, hxe, hiv, Instr.indexAt, asIntOf, Sem.run_bind, run_underlying ht, Result.andThen_ok, Sem.run_pure, Instr.sureAddr, h0, h1, and_self, if_true, semVal_run hn, addr_add]
    rw [show 0 * sz + 0 + i.toNat * sz = i.toNat * sz + 0 by omega]
  | gfield t x f g row sz fld fs fl n ho hx ht hf hn =>
    have hxr := h.tm.eval x
    rw [hx] at hxr
    obtain ⟨hxe, hrow⟩ := hxr
    refine wp_val (x := .pointer (some ⟨g, row * sz + (fld + fl.offset), none⟩)) (w' := w) ?_ ((keep h (show VRel ρ (.gp g row sz (fld + fl.offset)) _ from ⟨rfl, hrow⟩)).resolve_right (fun n => n rfl))
    unfold execOp
    simp only [ho, hxe, Instr.fieldAt, Sem.run_bind, run_underlying ht, Result.andThen_ok, hf, Instr.sureAddr, Sem.run_pure, fieldPlace, semVal_run hn, Nat.add_one_ne_zero, if_false, addr_add]
    rw [show row * sz + fld + fl.offset = row * sz + (fld + fl.offset) by omega]
  | gload t x g row sz fld n fs f ho hx ht hg hs hf =>
    have hxr := h.tm.eval x
    rw [hx] at hxr
    obtain ⟨hxe, n', fs', hg', hrow⟩ := hxr
    rw [hg] at hg'; cases hg'
    subst hs
    have hy := ((h.laid.below h.below) g n fs hg).2 row hrow fld f hf
    refine wp_val (x := f.at row) (w' := w) ?_ ((keep h (show VRel ρ (.val (f.at row)) _ from rfl)).resolve_right (fun n => n rfl))
    unfold execOp
    simp [ho, hxe, Instr.loadAt, Instr.sureAddr, loadVar, semVal_run ht, hy]
end

end Go.Proofs.Ytmkhglpfhnocaaa.Ev
