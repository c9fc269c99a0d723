/- The model carries out an operation as its rule says. -/
import Derived.Test.YtkmehmlcccdnbaaDoorEv2
import Derived.Laws.Slices
namespace Go.Proofs.YtkmehmlcccdnbaaDoor.Ev
open Go Go.RowKit
set_option linter.unusedVariables false
set_option linter.unusedSimpArgs false

section
variable {P : Program} {ρ : Rho} {w0 : W0} {s : St} {a : Act} {w : World}

theorem eval_val (h : Rel ρ w0 s a w) {x : Operand} {v : Value} (hx : evV s.tm x = .val v) : a.eval x = v := by
  have := h.tm.eval x; rw [hx] at this; exact this

theorem allVals_spec : ∀ {cs : List V} {vs : List Value}, allVals cs = some vs → cs = vs.map .val
  | [], vs, h => by simp only [allVals, Option.some.injEq] at h; subst h; rfl
  | .val v :: l, vs, h => by
    simp only [allVals] at h
    cases hl : allVals l with
    | none => rw [hl] at h; cases h
    | some r => rw [hl] at h; simp only [Option.map_some, Option.some.injEq] at h; subst h; rw [allVals_spec hl]; rfl
  | .ptr .. :: l, vs, h => by simp [allVals] at h
  | .sl .. :: l, vs, h => by simp [allVals] at h
  | .pk _ :: l, vs, h => by simp [allVals] at h
  | .unk :: l, vs, h => by simp [allVals] at h
  | .gp .. :: l, vs, h => by simp [allVals] at h
  | .tup _ :: l, vs, h => by simp [allVals] at h

theorem intsOf_spec {k : IntKind} : ∀ {l : List Value} {xs : List Int}, intsOf k l = some xs → l = xs.map (.int k)
  | [], xs, h => by simp only [intsOf, Option.some.injEq] at h; subst h; rfl
  | x :: l, xs, h => by
    cases x <;> simp only [intsOf] at h <;> first | (cases h; done) | skip
    split at h
    · rename_i e; subst e
      cases hl : intsOf _ l with
      | none => rw [hl] at h; cases h
      | some ys => rw [hl] at h; simp only [Option.map_some, Option.some.injEq] at h; subst h; rw [intsOf_spec hl]; rfl
    · cases h
theorem boolsOf_spec : ∀ {l : List Value} {xs : List Bool}, boolsOf l = some xs → l = xs.map .bool
  | [], xs, h => by simp only [boolsOf, Option.some.injEq] at h; subst h; rfl
  | x :: l, xs, h => by
    cases x <;> simp only [boolsOf] at h <;> first | (cases h; done) | skip
    cases hl : boolsOf l with
    | none => rw [hl] at h; cases h
    | some ys => rw [hl] at h; simp only [Option.map_some, Option.some.injEq] at h; subst h; rw [boolsOf_spec hl]; rfl
theorem strsOf_spec : ∀ {l : List Value} {xs : List ByteArray}, strsOf l = some xs → l = xs.map .string
  | [], xs, h => by simp only [strsOf, Option.some.injEq] at h; subst h; rfl
  | x :: l, xs, h => by
    cases x <;> simp only [strsOf] at h <;> first | (cases h; done) | skip
    cases hl : strsOf l with
    | none => rw [hl] at h; cases h
    | some ys => rw [hl] at h; simp only [Option.map_some, Option.some.injEq] at h; subst h; rw [strsOf_spec hl]; rfl
theorem fldOf_spec {l : List Value} {f : Fld} (h : fldOf l = some f) : ∀ i, i < l.length → l[i]? = some (f.at i) := by
  unfold fldOf at h
  split at h
  · rename_i k a l'
    cases hl : intsOf k (.int k a :: l') with
    | none => rw [hl] at h; cases h
    | some xs =>
      rw [hl] at h; simp only [Option.map_some, Option.some.injEq] at h; subst h
      intro i hi
      rw [intsOf_spec hl] at hi ⊢
      simp only [List.length_map] at hi
      simp [Fld.at, List.getD_eq_getElem?_getD, hi]
  · rename_i a l'
    cases hl : boolsOf (.bool a :: l') with
    | none => rw [hl] at h; cases h
    | some xs =>
      rw [hl] at h; simp only [Option.map_some, Option.some.injEq] at h; subst h
      intro i hi
      rw [boolsOf_spec hl] at hi ⊢
      simp only [List.length_map] at hi
      simp [Fld.at, List.getD_eq_getElem?_getD, hi]
  · rename_i a l'
    cases hl : strsOf (.string a :: l') with
    | none => rw [hl] at h; cases h
    | some xs =>
      rw [hl] at h; simp only [Option.map_some, Option.some.injEq] at h; subst h
      intro i hi
      rw [strsOf_spec hl] at hi ⊢
      simp only [List.length_map] at hi
      simp [Fld.at, List.getD_eq_getElem?_getD, hi]
  · cases h
theorem fldsOf_spec {vs : List Value} {sz len : Nat} : ∀ (m j : Nat) (fs : List Fld), fldsOf vs sz len j m = some fs → fs.length = m ∧ ∀ q f, fs[q]? = some f → fldOf (col vs sz len (j + q)) = some f
  | 0, j, fs, h => by simp only [fldsOf, Option.some.injEq] at h; subst h; exact ⟨rfl, fun q f hq => by simp at hq⟩
  | m + 1, j, fs, h => by
    simp only [fldsOf] at h
    split at h
    · rename_i f fs' h1 h2
      simp only [Option.some.injEq] at h; subst h
      obtain ⟨i1, i2⟩ := fldsOf_spec m (j + 1) fs' h2
      refine ⟨by simp [i1], fun q g hq => ?_⟩
      cases q with
      | zero => simp at hq; subst hq; exact h1
      | succ q => have := i2 q g (by simpa using hq); rwa [show j + 1 + q = j + (q + 1) by omega] at this
    · cases h

theorem grow_cap {B : Nat} {e : TypeId} {sz n c : Nat} {A : Option Addr} {xs : List Value} (h : w.ownsRow B e sz (.slice A n c) n xs) : n ≤ c := by
  rcases h.2 with ⟨hv, h0⟩ | ⟨g, cap, cur, hv, _, _, hnc, _⟩
  · omega
  · simp only [Value.slice.injEq] at hv; omega
theorem avOf0_sound (h : Rel ρ w0 s a w) {v : V} {x : Value} (hx : VRel ρ v x) {av : AV} {rd : List Nat} (hv : avOf0 s.hp v = some (av, rd)) : AVRel ρ.fz w 0 x av := by
  cases v with
  | val y => simp only [avOf0, Option.some.injEq, Prod.mk.injEq] at hv; obtain ⟨rfl, rfl⟩ := hv; exact hx
  | ptr => simp [avOf0] at hv
  | pk => simp [avOf0] at hv
  | unk => simp [avOf0] at hv
  | gp => simp [avOf0] at hv
  | tp => simp [avOf0] at hv
  | tup => simp [avOf0] at hv
  | clo => simp [avOf0] at hv
  | tsl dp l => simp only [avOf0, Option.some.injEq, Prod.mk.injEq] at hv; obtain ⟨rfl, rfl⟩ := hv; exact hx
  | sl b sz len =>
    obtain ⟨r, hr, hlim, rfl⟩ := hx
    have hb := h.hp b
    simp only [avOf0] at hv
    cases hq : s.hp.getD b .none with
    | none => rw [hq] at hv; cases hv
    | gone => rw [hq] at hv; cases hv
    | growK => rw [hq] at hv; cases hv
    | frz dp l =>
      rw [hq] at hv hb
      simp only [Option.some.injEq, Prod.mk.injEq] at hv; obtain ⟨rfl, rfl⟩ := hv
      obtain ⟨r', h1, hm, h2⟩ := hb
      rw [hr] at h1; cases h1
      have hn := hlim _ hm; subst hn
      exact ⟨_, _, rfl, h2⟩
    | ext n fs =>
      rw [hq] at hv hb
      simp only [Option.some.injEq, Prod.mk.injEq] at hv; obtain ⟨rfl, rfl⟩ := hv
      obtain ⟨r', h1, hm, hle, h2⟩ := hb
      rw [hr] at h1; cases h1
      have hn := hlim n hm; subst hn
      exact ⟨_, _, rfl, hle, fun hp => let ⟨ad, h3, h4, h5, h6⟩ := h2 hp; ⟨ad, h3, h4, Nat.zero_le _, h5, h6⟩⟩
    | grow e n fs =>
      rw [hq] at hv hb
      simp only [Option.some.injEq, Prod.mk.injEq] at hv; obtain ⟨rfl, rfl⟩ := hv
      obtain ⟨r', xs, h1, hm, hpos, ho, hf⟩ := hb
      rw [hr] at h1; cases h1
      have hn := hlim n hm; subst hn
      refine ⟨_, _, rfl, grow_cap ho, fun hp => ?_⟩
      obtain ⟨g, hg⟩ := grow_some ho hp
      refine ⟨_, hg, rfl, Nat.zero_le _, (grow_addr ho hg).2.2.2, fun i hi j f hfj => ?_⟩
      have hc := ho.cells (g := g) (by rw [hg]; rfl) _ _ (hf i hi j f hfj)
      rw [addr_add] at hc
      exact hc
    | own cs => rw [hq] at hv; cases hv
    | ro cs => rw [hq] at hv; cases hv

theorem pasOf_sound (h : Rel ρ w0 s a w) : ∀ {cs : List PV} {ps : List PA} {rd : List Nat}, pasOf s.hp cs = some (ps, rd) → ps.length = cs.length ∧ ∀ (i : Nat) (p : PA), ps[i]? = some p → ∃ c, cs[i]? = some c ∧ ∀ x, PRel ρ c x → PARel ρ.fz w 0 x p
  | [], ps, rd, hv => by
    simp only [pasOf, Option.some.injEq, Prod.mk.injEq] at hv; obtain ⟨rfl, rfl⟩ := hv
    exact ⟨rfl, fun i p hp => by simp at hp⟩
  | .val v :: l, ps, rd, hv => by
    simp only [pasOf] at hv
    split at hv
    · rename_i ps' rd' hl
      cases hv
      obtain ⟨h1, h2⟩ := pasOf_sound h hl
      refine ⟨by simp [h1], fun i p hp => ?_⟩
      cases i with
      | zero => simp at hp; subst hp; exact ⟨_, rfl, fun x hx => hx⟩
      | succ i => simpa using h2 i p (by simpa using hp)
    · cases hv
  | .tsl dp t :: l, ps, rd, hv => by
    simp only [pasOf] at hv
    split at hv
    · rename_i ps' rd' hl
      cases hv
      obtain ⟨h1, h2⟩ := pasOf_sound h hl
      refine ⟨by simp [h1], fun i p hp => ?_⟩
      cases i with
      | zero => simp at hp; subst hp; exact ⟨_, rfl, fun x hx => hx⟩
      | succ i => simpa using h2 i p (by simpa using hp)
    · cases hv
  | .sl b sz len :: l, ps, rd, hv => by
    simp only [pasOf] at hv
    split at hv
    · rename_i n fs r ps' rd' hb hl
      cases hv
      obtain ⟨h1, h2⟩ := pasOf_sound h hl
      refine ⟨by simp [h1], fun i p hp => ?_⟩
      cases i with
      | zero =>
        simp at hp; subst hp
        exact ⟨_, rfl, fun x hx => avOf0_sound h (v := .sl b sz len) hx hb⟩
      | succ i => simpa using h2 i p (by simpa using hp)
    · rename_i l' r ps' rd' hb hl
      cases hv
      obtain ⟨h1, h2⟩ := pasOf_sound h hl
      refine ⟨by simp [h1], fun i p hp => ?_⟩
      cases i with
      | zero =>
        simp at hp; subst hp
        exact ⟨_, rfl, fun x hx => avOf0_sound h (v := .sl b sz len) hx hb⟩
      | succ i => simpa using h2 i p (by simpa using hp)
    · cases hv
theorem readPk_sound (h : Rel ρ w0 s a w) {b row sz : Nat} {r : RB} {ad : Addr} (hr : ρ b = some r) (had : r.addr = some ad) (hlim : ∀ n, r.lim = some n → row < n) : ∀ (n fld : Nat) (ps : List PV), readPk s.hp b row sz fld n = some ps →
    ∃ vs : List Value, vs.length = n ∧ ps.length = n ∧ (∀ (j : Nat) (v : Value), vs[j]? = some v → w.cell? ⟨ad.block, ad.off + (row * sz + fld) + j, none⟩ = some v) ∧ ∀ (j : Nat) (p : PV), ps[j]? = some p → ∃ y, vs[j]? = some y ∧ PRel ρ p y
  | 0, fld, ps, hv => by
    simp only [readPk, Option.some.injEq] at hv; subst hv
    exact ⟨[], rfl, rfl, fun j v hj => by simp at hj, fun j p hj => by simp at hj⟩
  | n + 1, fld, ps, hv => by
    simp only [readPk] at hv
    split at hv
    · rename_i v hq
      split at hv
      · rename_i p l hp hl
        cases hv
        obtain ⟨vs, h1, h2, h3, h4⟩ := readPk_sound h hr had hlim n (fld + 1) l hl
        obtain ⟨y, hy, hyr⟩ := readV_sound h hq hr had hlim
        refine ⟨y :: vs, by simp [h1], by simp [h2], fun j u hj => ?_, fun j q hj => ?_⟩
        · cases j with
          | zero => simp at hj; subst hj; exact hy
          | succ j =>
            have := h3 j u (by simpa using hj)
            rwa [show ad.off + (row * sz + fld) + (j + 1) = ad.off + (row * sz + (fld + 1)) + j by omega]
        · cases j with
          | zero =>
            simp at hj; subst hj
            refine ⟨y, rfl, ?_⟩
            cases v <;> simp only [cellPV, Option.some.injEq, reduceCtorEq] at hp <;> (subst hp; exact hyr)
          | succ j => simpa using h4 j q (by simpa using hj)
      · cases hv
    · cases hv

theorem avOf_sound (h : Rel ρ w0 s a w) {v : V} {x : Value} (hx : VRel ρ v x) {av : AV} {rd : List Nat} (hv : avOf s.hp v = some (av, rd)) : AVRel ρ.fz w 0 x av := by
  unfold avOf at hv
  split at hv
  · rename_i cs
    split at hv
    · rename_i ps rd' hp
      cases hv
      obtain ⟨c, hxe, hl, hc⟩ := hx
      obtain ⟨h1, h2⟩ := pasOf_sound h hp
      refine ⟨c, hxe, by rw [h1, hl], fun i p hpi => ?_⟩
      obtain ⟨q, hq, hr⟩ := h2 i p hpi
      obtain ⟨y, hy, hyr⟩ := hc i q hq
      exact ⟨y, hy, hr y hyr⟩
    · cases hv
  · rename_i b
    split at hv
    · rename_i cs hq
      split at hv
      · rename_i ps hp
        split at hv
        · rename_i qs rd' hpq
          cases hv
          obtain ⟨r, ad, hr, had, hlim, hxe⟩ := hx
          obtain ⟨vs, hlen, hpl, hcells, hpr⟩ := readPk_sound h hr had hlim _ _ _ hp
          obtain ⟨h1, h2⟩ := pasOf_sound h hpq
          have hB := h.hp b
          rw [hq] at hB
          obtain ⟨r', k, e, c, g1, g2, gm, g3, g4, g5⟩ := hB
          rw [hr] at g1; cases g1
          rw [had] at g2; cases g2
          refine ⟨_, hxe, (Array.getElem?_eq_some_iff.1 g4).1, fun i p hpi => ?_⟩
          obtain ⟨q, hq', hr'⟩ := h2 i p hpi
          obtain ⟨y, hy, hyr⟩ := hpr i q hq'
          exact ⟨y, hcells i y hy, hr' y hyr⟩
        · cases hv
      · cases hv
    · cases hv
  · exact avOf0_sound h hx hv
theorem avsOf_soundV (h : Rel ρ w0 s a w) : ∀ (vs : List V) (xs : List Value) {avs : List AV} {rd : List Nat}, vs.length = xs.length → (∀ (i : Nat) (v : V), vs[i]? = some v → ∃ x, xs[i]? = some x ∧ VRel ρ v x) → avsOf s.hp vs = some (avs, rd) →
    avs.length = xs.length ∧ ∀ (i : Nat) (av : AV), avs[i]? = some av → ∃ x : Value, xs[i]? = some x ∧ AVRel ρ.fz w 0 x av
  | [], xs, avs, rd, hl, _, hv => by
    simp only [avsOf, Option.some.injEq, Prod.mk.injEq] at hv; obtain ⟨rfl, rfl⟩ := hv
    exact ⟨by simpa using hl, fun i av hi => by simp at hi⟩
  | v :: vs, [], avs, rd, hl, _, hv => by simp at hl
  | v :: vs, x :: xs, avs, rd, hl, hr, hv => by
    simp only [avsOf] at hv
    cases h1 : avOf s.hp v with
    | none => rw [h1] at hv; cases hv
    | some p1 =>
      obtain ⟨av, r⟩ := p1
      rw [h1] at hv
      cases h2 : avsOf s.hp vs with
      | none => rw [h2] at hv; cases hv
      | some p2 =>
        obtain ⟨l, rs⟩ := p2
        rw [h2] at hv
        simp only [Option.some.injEq, Prod.mk.injEq] at hv; obtain ⟨rfl, rfl⟩ := hv
        obtain ⟨i1, i2⟩ := avsOf_soundV h vs xs (by simpa using hl) (fun i v hv => by simpa using hr (i + 1) v (by simpa using hv)) h2
        obtain ⟨y, hy, hyr⟩ := hr 0 v rfl
        simp only [List.getElem?_cons_zero, Option.some.injEq] at hy; subst hy
        refine ⟨by simp [i1], fun i u hi => ?_⟩
        cases i with
        | zero => simp at hi; subst hi; exact ⟨_, rfl, avOf_sound h hyr h1⟩
        | succ i => simpa using i2 i u (by simpa using hi)

theorem avsOf_sound (h : Rel ρ w0 s a w) : ∀ (xs : List Operand) {avs : List AV} {rd : List Nat}, avsOf s.hp (xs.map (evV s.tm)) = some (avs, rd) →
    avs.length = xs.length ∧ ∀ (i : Nat) (av : AV), avs[i]? = some av → ∃ x : Value, (xs.map a.eval)[i]? = some x ∧ AVRel ρ.fz w 0 x av
  | [], avs, rd, hv => by
    simp only [List.map_nil, avsOf, Option.some.injEq, Prod.mk.injEq] at hv; obtain ⟨rfl, rfl⟩ := hv
    exact ⟨rfl, fun i av hi => by simp at hi⟩
  | x :: xs, avs, rd, hv => by
    simp only [List.map_cons, avsOf] at hv
    cases h1 : avOf s.hp (evV s.tm x) with
    | none => rw [h1] at hv; cases hv
    | some p1 =>
      obtain ⟨av, r⟩ := p1
      rw [h1] at hv
      cases h2 : avsOf s.hp (xs.map (evV s.tm)) with
      | none => rw [h2] at hv; cases hv
      | some p2 =>
        obtain ⟨l, rs⟩ := p2
        rw [h2] at hv
        simp only [Option.some.injEq, Prod.mk.injEq] at hv; obtain ⟨rfl, rfl⟩ := hv
        obtain ⟨i1, i2⟩ := avsOf_sound h xs h2
        refine ⟨by simp [i1], fun i u hi => ?_⟩
        cases i with
        | zero =>
          simp only [List.getElem?_cons_zero, Option.some.injEq] at hi; subst hi
          exact ⟨a.eval x, rfl, avOf_sound h (h.tm.eval x) h1⟩
        | succ i => simpa using i2 i u (by simpa using hi)

theorem run_rowParts {P : Program} {t : TypeId} {len : Nat} {parts : Array (Nat × Value)} {e : TypeId} {sz : Nat} {cells : Array Value} (h : semVal P (rowParts t len parts) = some (e, sz, cells)) (w : World) :
    (Instr.buildSlice t len parts).run P w = .ok (.slice (some ⟨w.heap.size, 0, none⟩) len len) (w.alloc (.cells cells e)) := by
  have hr := semVal_run h w
  unfold rowParts at hr
  unfold Instr.buildSlice
  simp only [Sem.run_bind] at hr ⊢
  cases h1 : (underlying t).run P w with
  | halt x y => rw [h1] at hr; cases hr
  | ok d w1 =>
    rw [h1] at hr
    simp only [Result.andThen_ok] at hr ⊢
    cases d <;> first | (cases hr; done) | skip
    rename_i elem
    simp only [Sem.run_bind] at hr ⊢
    cases h2 : (sizeOf elem).run P w1 with
    | halt x y => rw [h2] at hr; cases hr
    | ok size w2 =>
      rw [h2] at hr
      simp only [Result.andThen_ok] at hr ⊢
      by_cases h3 : len * size > 2 ^ 24
      · simp only [h3, if_true, Sem.run_bind, run_unsupported, Result.andThen_halt] at hr; cases hr
      · simp only [h3, if_false, Sem.run_bind, Sem.run_pure, Result.andThen_ok] at hr ⊢
        have fin : ∀ (zero : Array Value) (w3 : World), (match Instr.fill (fun i => some (i * size, size)) ((Array.range (len * size)).map (zero[· % zero.size]!)) parts.toList with
            | some cells => (pure (elem, size, cells) : Sem (TypeId × Nat × Array Value))
            | _ => stuck "buildSlice: a part of the wrong size").run P w3 = .ok (e, sz, cells) w →
            (match Instr.fill (fun i => some (i * size, size)) ((Array.range (len * size)).map (zero[· % zero.size]!)) parts.toList with
            | some cells => (do pure (.slice (some (← newRow elem cells)) len len) : Sem Value)
            | _ => stuck "buildSlice: a part of the wrong size").run P w3 = .ok (.slice (some ⟨w.heap.size, 0, none⟩) len len) (w.alloc (.cells cells e)) := by
          intro zero w3 hr
          cases h5 : Instr.fill (fun i => some (i * size, size)) ((Array.range (len * size)).map (zero[· % zero.size]!)) parts.toList with
          | none => rw [h5] at hr; cases hr
          | some cs =>
            rw [h5] at hr
            simp only [Sem.run_pure, Result.ok.injEq, Prod.mk.injEq] at hr
            obtain ⟨⟨rfl, rfl, rfl⟩, rfl⟩ := hr
            simp [newRow]
        by_cases h4 : len * size = 0
        · simp only [h4, if_true, Sem.run_bind, Sem.run_pure, Result.andThen_ok] at hr ⊢
          have := fin #[] w2
          simp only [h4] at this
          exact this hr
        · simp only [h4, if_false, Sem.run_bind, Sem.run_pure, Result.andThen_ok] at hr ⊢
          cases h6 : (zeroValue elem).run P w2 with
          | halt x y => rw [h6] at hr; cases hr
          | ok z w3 =>
            rw [h6] at hr
            simp only [Result.andThen_ok] at hr ⊢
            exact fin z.cells w3 hr

/-- A slice that a callee made. -/
theorem Rel.rows (h : Rel ρ w0 s a w) {d : Nat} (hd : s.hp[d]? = some .none) {w' : World} (hb : Below w.heap.size w w') {A : Option Addr} (c : Nat) {n : Nat} {fs : List Fld} (hle : n ≤ c) (hr : RowsAt w' w.heap.size A n fs) :
    leR ρ (updR ρ d ⟨A, c, some n⟩) ∧ Rel (updR ρ d ⟨A, c, some n⟩) w0 { s with hp := s.hp.set d (.ext n fs) } a w' := by
  refine h.newSlot hd hb _ _ ⟨_, updR_same _ _ _, rfl, hle, fun hp => let ⟨ad, h1, h2, h3, h4, h5⟩ := hr hp; ⟨ad, h1, h2, h4, h5⟩⟩ fun ad had hx => ?_
  obtain ⟨ad', h1, h2, h3, _⟩ := hr hx
  have had' : A = some ad := had
  rw [h1] at had'; cases had'
  exact h3

theorem growFs_spec {e : TypeId} {sz len : Nat} {cells : Array Value} {fs : List Fld} (h : growFs P e sz len cells = some fs) :
    0 < sz ∧ cells.size = len * sz ∧ len ≤ maxLen ∧ fs.length = sz ∧ ∀ i, i < len → ∀ j g, fs[j]? = some g → cells.toList[i * sz + j]? = some (g.at i) := by
  unfold growFs at h
  split at h
  · rename_i hc
    obtain ⟨h1, h2, h3⟩ := hc
    cases len with
    | zero =>
      simp only at h
      split at h
      · split at h
        · exact ⟨h1, h2, h3, (fldsOf_spec sz 0 fs h).1, fun i hi => absurd hi (Nat.not_lt_zero _)⟩
        · cases h
      · cases h
    | succ len =>
      simp only at h
      obtain ⟨hlen, hspec⟩ := fldsOf_spec sz 0 fs h
      refine ⟨h1, h2, h3, hlen, fun i hi j g hg => ?_⟩
      have hj : j < sz := by rw [← hlen]; exact (List.getElem?_eq_some_iff.1 hg).1
      have hcol := fldOf_spec (hspec j g hg) i (by simpa [col] using hi)
      rw [← hcol]
      have hlt : i * sz + j < cells.toList.length := by
        have : (i + 1) * sz ≤ (len + 1) * sz := Nat.mul_le_mul_right _ hi
        rw [Nat.add_mul i 1] at this; simp only [Array.length_toList]; omega
      rw [Nat.zero_add]
      simp [col, List.getElem?_range hi, List.getD_eq_getElem?_getD, hlt]
      simp only [Array.length_toList] at hlt
      simp [hlt]
  · cases h

theorem catFs_spec {n : Nat} : ∀ {fs fs2 fs3 : List Fld}, catFs n fs fs2 = some fs3 → fs3.length = fs.length ∧ fs2.length = fs.length ∧ ∀ (j : Nat) g, fs3[j]? = some g → ∃ g1 g2, fs[j]? = some g1 ∧ fs2[j]? = some g2 ∧ (∀ i, i < n → g.at i = g1.at i) ∧ (∀ i, n ≤ i → g.at i = g2.at (i - n))
  | [], [], fs3, h => by simp only [catFs, Option.some.injEq] at h; subst h; exact ⟨rfl, rfl, fun j g hg => by simp at hg⟩
  | [], _ :: _, fs3, h => by simp [catFs] at h
  | _ :: _, [], fs3, h => by simp [catFs] at h
  | f :: l, f' :: l', fs3, h => by
    simp only [catFs] at h
    split at h
    · rename_i g gs h1 h2
      simp only [Option.some.injEq] at h; subst h
      obtain ⟨i1, i2, i3⟩ := catFs_spec h2
      refine ⟨by simp [i1], by simp [i2], fun j q hq => ?_⟩
      cases j with
      | succ j => exact i3 j q (by simpa using hq)
      | zero =>
        simp only [List.getElem?_cons_zero, Option.some.injEq] at hq; subst hq
        refine ⟨f, f', rfl, rfl, ?_⟩
        unfold catF at h1
        have b1 : ∀ i, i < n → Nat.blt i n = true := fun i hi => by rw [Nat.blt_eq]; exact hi
        have b2 : ∀ i, n ≤ i → Nat.blt i n = false := fun i hi => by
          cases hb : Nat.blt i n with
          | false => rfl
          | true => rw [Nat.blt_eq] at hb; omega
        split at h1
        · split at h1
          · rename_i e; subst e
            cases h1
            exact ⟨fun i hi => by simp [Fld.at, b1 i hi], fun i hi => by simp [Fld.at, b2 i hi]⟩
          · cases h1
        · cases h1
          exact ⟨fun i hi => by simp [Fld.at, b1 i hi], fun i hi => by simp [Fld.at, b2 i hi]⟩
        · cases h1
          exact ⟨fun i hi => by simp [Fld.at, b1 i hi], fun i hi => by simp [Fld.at, b2 i hi]⟩
        · cases h1
    · cases h

theorem at_oneCell (f : Fld) (i : Nat) : (f.at i).oneCell' = true := by cases f <;> rfl

/-- An append to a slice of the call's own, and where the result lies. -/
theorem run_append_any {base : Nat} {t ty e : TypeId} {i : TypeInfo} {z : Value} (ht : P.underlying t = some (.slice e)) (hi : P.info? e = some i) (hz : i.zero = some z) (hzs : z.cells.size = i.size) (hsz : 0 < i.size)
    {v : Value} {n : Nat} {xs : List Value} (hown : w.ownsRow base e i.size v n xs) {A : Option Addr} {m c : Nat} {news : List Value} (hl : news.length = m * i.size)
    (hnews : ∀ ad, A = some ad → ∀ j u, news[j]? = some u → w.cell? (ad.add j) = some u) (hA : A = none → m = 0) (h1 : ∀ u ∈ news, u.oneCell' = true)
    (h63 : n + m ≤ maxLen) (hbytes : (n + m) * i.bytes ≤ 140737488355328) (hbase : base ≤ w.heap.size) :
    ∃ v' w', (Builtin.append_ #[t, t] ty #[v, .slice A m c]).run P w = .ok v' w' ∧ w'.ownsRow base e i.size v' (n + m) (xs ++ news) ∧ w.grownBy w' v.ownBlock ∧ (v'.ownBlock = v.ownBlock ∨ v'.ownBlock = some w.heap.size) := by
  cases hAe : A with
  | none =>
    have hm := hA hAe
    subst hm
    have hn : news = [] := List.eq_nil_of_length_eq_zero (by simpa using hl)
    subst hn
    refine ⟨v, w, ?_, by simpa using hown, ⟨rfl, rfl, rfl, Nat.le_refl _, fun _ _ _ => rfl⟩, .inl rfl⟩
    rcases hown.2 with ⟨rfl, rfl⟩ | ⟨g, cap, cur, rfl, _, _, hnc, _⟩
    · simp [Builtin.append_, run_underlying ht, sizeOf, typeInfo, hi, Builtin.lenOf, Builtin.firstCells]
    · simp [Builtin.append_, run_underlying ht, sizeOf, typeInfo, hi, Builtin.lenOf, Builtin.firstCells, hnc, storeCells]
  | some ad =>
    have hnews' := hnews ad hAe
    obtain ⟨v', w', hr, ho, hg, _⟩ := run_append_own (P := P) w base t ty e i z i.size i.bytes ht hi hz rfl rfl hzs hsz v n xs hown ad m c news hl hnews' h1 h63 hbytes hbase
    refine ⟨v', w', hr, ho, hg, ?_⟩
    have hsmall : n + m ≤ 9223372036854775807 := by simp only [maxLen] at h63; omega
    rcases hown.2 with ⟨rfl, rfl⟩ | ⟨g, cap, cur, rfl, hbg, hgg, hnc, hcm, hcs, htake⟩
    · by_cases hm : m = 0
      · subst hm
        rcases ho.2 with ⟨hv', _⟩ | ⟨g', cap', cur', hv', _, hg', _⟩
        · rw [hv']; exact .inl rfl
        · exfalso
          have hn : news = [] := List.eq_nil_of_length_eq_zero (by simpa using hl)
          subst hn
          have : (Builtin.append_ #[t, t] ty #[.slice none 0 0, .slice (some ad) 0 c]).run P w = .ok (.slice none 0 0) w := by
            simp [Builtin.append_, run_underlying ht, sizeOf, typeInfo, hi, Builtin.lenOf, Builtin.firstCells, loadCells, loadCellsFrom]
          rw [this] at hr
          cases hr
          cases hv'
      · have hr' := run_append_nil (P := P) w t ty e i z ht hi hz ad m c news hl hnews' (by omega) (by omega) (by have hb := hbytes; simp only [Nat.zero_add] at hb; omega)
        rw [hr'] at hr
        cases hr
        exact .inr rfl
    · by_cases hroom : n + m ≤ cap
      · have hfit : n * i.size + news.length ≤ cur.size := by rw [hl, hcs, ← Nat.add_mul]; exact Nat.mul_le_mul_right _ hroom
        have hr' := run_append_room (P := P) w t ty e i ht hi g n cap cur hgg ad m c news hl hnews' h1 hroom hfit
        rw [hr'] at hr
        cases hr
        exact .inl rfl
      · have holds : ∀ j u, xs[j]? = some u → w.cell? ((⟨g, 0, none⟩ : Addr).add j) = some u := hown.cells (g := g) rfl
        have hr' := run_append_grow (P := P) w t ty e i z ht hi hz ⟨g, 0, none⟩ n cap xs hown.1 holds ad m c news hl hnews' (by omega) (by omega) (growslice_fits (by omega) hbytes)
        rw [hr'] at hr
        cases hr
        exact .inr rfl

/-- The rows of a slice, cell after cell. -/
def rowCells (fs : List Fld) (m : Nat) : List Value := (List.range (m * fs.length)).map fun q => (fs.getD (q % fs.length) (.bool fun _ => false)).at (q / fs.length)
theorem rowCells_length (fs : List Fld) (m : Nat) : (rowCells fs m).length = m * fs.length := by simp [rowCells]
theorem rowCells_get {fs : List Fld} {m : Nat} (hp : 0 < fs.length) {q : Nat} {u : Value} (h : (rowCells fs m)[q]? = some u) : ∃ f, fs[q % fs.length]? = some f ∧ q / fs.length < m ∧ u = f.at (q / fs.length) := by
  unfold rowCells at h
  rw [List.getElem?_map] at h
  cases hr : (List.range (m * fs.length))[q]? with
  | none => rw [hr] at h; cases h
  | some q' =>
    rw [hr] at h
    obtain ⟨hq, hq'⟩ := List.getElem?_eq_some_iff.1 hr
    simp only [List.getElem_range] at hq'
    subst hq'
    simp only [Option.map_some, Option.some.injEq] at h
    have hmod : q % fs.length < fs.length := Nat.mod_lt _ hp
    refine ⟨fs[q % fs.length], List.getElem?_eq_getElem hmod, (Nat.div_lt_iff_lt_mul hp).2 (by simpa using hq), ?_⟩
    rw [← h, List.getD_eq_getElem?_getD, List.getElem?_eq_getElem hmod]; rfl
theorem rowCells_at {fs : List Fld} {m i j : Nat} {g : Fld} (hi : i < m) (hg : fs[j]? = some g) : (rowCells fs m)[i * fs.length + j]? = some (g.at i) := by
  have hj : j < fs.length := (List.getElem?_eq_some_iff.1 hg).1
  have hlt : i * fs.length + j < m * fs.length := by
    have : (i + 1) * fs.length ≤ m * fs.length := Nat.mul_le_mul_right _ hi
    rw [Nat.add_mul] at this; omega
  unfold rowCells
  rw [List.getElem?_map, List.getElem?_range hlt]
  have e1 : (i * fs.length + j) % fs.length = j := by rw [Nat.mul_comm, Nat.mul_add_mod]; exact Nat.mod_eq_of_lt hj
  have e2 : (i * fs.length + j) / fs.length = i := by rw [Nat.mul_comm, Nat.mul_add_div (by omega), Nat.div_eq_of_lt hj, Nat.add_zero]
  simp only [Option.map_some, e1, e2, List.getD_eq_getElem?_getD, hg, Option.getD_some]

theorem setFs_spec {row : Nat} : ∀ {fs : List Fld} {fld : Nat} {vs : List Value} {fs' : List Fld}, setFs row fs fld vs = some fs' → fs'.length = fs.length ∧
    ∀ (j : Nat) (g : Fld), fs'[j]? = some g → ∃ f, fs[j]? = some f ∧ ∀ i, g.at i = if i = row ∧ fld ≤ j ∧ j < fld + vs.length then vs.getD (j - fld) undef else f.at i
  | fs, fld, [], fs', h => by
    have : fs' = fs := by cases fs <;> cases fld <;> simp only [setFs, Option.some.injEq] at h <;> exact h.symm
    subst this
    exact ⟨rfl, fun j g hg => ⟨g, hg, fun i => by rw [if_neg (by simp only [List.length_nil]; omega)]⟩⟩
  | f :: fs, 0, v :: vs, fs', h => by
    simp only [setFs] at h
    split at h
    · rename_i g gs h1 h2
      cases h
      obtain ⟨i1, i2⟩ := setFs_spec h2
      refine ⟨by simp [i1], fun j q hq => ?_⟩
      cases j with
      | zero =>
        simp at hq; subst hq
        refine ⟨f, rfl, fun i => ?_⟩
        have hb : Nat.beq i row = decide (i = row) := by
          cases hq : Nat.beq i row with
          | true => rw [Nat.eq_of_beq_eq_true hq]; simp
          | false => symm; rw [decide_eq_false_iff_not]; exact fun e => by rw [e, Nat.beq_refl] at hq; cases hq
        unfold setF at h1
        split at h1
        · split at h1
          · rename_i e; subst e; cases h1
            by_cases hi : i = row <;> simp [Fld.at, upd, hb, hi]
          · cases h1
        · cases h1
          by_cases hi : i = row <;> simp [Fld.at, upd, hb, hi]
        · cases h1
      | succ j =>
        obtain ⟨f', hf', hat⟩ := i2 j q (by simpa using hq)
        refine ⟨f', by simpa using hf', fun i => ?_⟩
        rw [hat i]
        by_cases hc : i = row ∧ j < vs.length
        · rw [if_pos ⟨hc.1, by omega, by omega⟩, if_pos ⟨hc.1, by omega, by simp; omega⟩]; simp
        · rw [if_neg (by omega), if_neg (by simp; omega)]
    · cases h
  | f :: fs, j0 + 1, v :: vs, fs', h => by
    simp only [setFs] at h
    cases hs : setFs row fs j0 (v :: vs) with
    | none => rw [hs] at h; cases h
    | some gs =>
      rw [hs] at h
      simp only [Option.map_some, Option.some.injEq] at h; subst h
      obtain ⟨i1, i2⟩ := setFs_spec hs
      refine ⟨by simp [i1], fun j q hq => ?_⟩
      cases j with
      | zero => simp at hq; subst hq; exact ⟨f, rfl, fun i => by rw [if_neg (by omega)]⟩
      | succ j =>
        obtain ⟨f', hf', hat⟩ := i2 j q (by simpa using hq)
        refine ⟨f', by simpa using hf', fun i => ?_⟩
        rw [hat i]
        by_cases hc : i = row ∧ j0 ≤ j ∧ j < j0 + (v :: vs).length
        · rw [if_pos hc, if_pos ⟨hc.1, by omega, by omega⟩, show j + 1 - (j0 + 1) = j - j0 by omega]
        · rw [if_neg hc, if_neg (by omega)]
  | [], 0, v :: vs, fs', h => by simp [setFs] at h
  | [], j0 + 1, v :: vs, fs', h => by simp [setFs] at h

theorem zeroFs_spec : ∀ {vs : List Value} {fs : List Fld}, zeroFs vs = some fs → fs.length = vs.length ∧ ∀ (j : Nat) (g : Fld), fs[j]? = some g → ∃ v, vs[j]? = some v ∧ ∀ i, g.at i = v
  | [], fs, h => by simp only [zeroFs, Option.some.injEq] at h; subst h; exact ⟨rfl, fun j g hg => by simp at hg⟩
  | v :: l, fs, h => by
    simp only [zeroFs] at h
    split at h
    · rename_i f gs h1 h2
      cases h
      obtain ⟨i1, i2⟩ := zeroFs_spec h2
      refine ⟨by simp [i1], fun j g hg => ?_⟩
      cases j with
      | succ j => simpa using i2 j g (by simpa using hg)
      | zero =>
        simp at hg; subst hg
        refine ⟨v, rfl, fun i => ?_⟩
        unfold zeroF at h1
        split at h1
        · split at h1
          · rename_i e; subst e; cases h1; rfl
          · cases h1
        · rename_i b
          cases b
          · cases h1; rfl
          · cases h1
        · cases h1
    · cases h

theorem eqV_sound : ∀ (d : Nat) {t : TypeId} {x y : Value} {q : Bool}, eqV P d t x y = some q → ∀ (D : Nat), d ≤ D → (Op.equalIn D t x y).run P w = .ok q w
  | 0, t, x, y, q, h, D, hD => by simp [eqV] at h
  | d + 1, t, x, y, q, h, D, hD => by
    obtain ⟨D, rfl⟩ : ∃ E, D = E + 1 := ⟨D - 1, by omega⟩
    cases x <;> cases y <;> simp only [eqV] at h <;> first | (cases h; done) | skip
    · split at h
      · rename_i hu
        cases h
        exact run_equalIn_bool' w D t _ _ hu
      · cases h
    · rename_i k a k' b
      split at h
      · rename_i ki hu
        split at h
        · rename_i e; subst e; cases h
          exact run_equalIn_int w D t k _ a b hu
        · cases h
      · cases h
    · rename_i xs ys
      split at h
      · rename_i fs hu
        split at h
        · rename_i hp
          have hfs : P.fieldsOf t = fs := by simp [Program.fieldsOf, hu]
          rw [run_equalIn_struct w D t xs ys (by rw [hfs]; exact hu) hp, hfs]
          generalize fs.toList = l at h
          clear hfs hu
          induction l generalizing q with
          | nil => simp only [List.foldr_nil, Option.some.injEq] at h; subst h; rfl
          | cons f l ih =>
            simp only [List.foldr_cons] at h
            unfold eqStep at h
            by_cases hn : f.name ≠ "_"
            · rw [if_pos hn] at h
              split at h
              · rename_i a b r ha hb hr
                cases he : eqV P d f.type a b with
                | none => rw [he] at h; cases h
                | some e =>
                  rw [he] at h
                  simp only [Option.map_some, Option.some.injEq] at h
                  have h1 := eqV_sound d he D (by omega)
                  have h2 := ih _ hr
                  simp only [Op.eqFields, if_pos hn, Sem.run_bind, semVal_run ha, semVal_run hb, Result.andThen_ok, h1]
                  subst h
                  cases e
                  · simp
                  · simpa using h2
              · cases h
            · rw [if_neg hn] at h
              simp only [Op.eqFields, if_neg hn]
              exact ih _ h
        · cases h
      · cases h

theorem PRel.oneCell {ρ : Rho} {p : PV} {y : Value} (h : PRel ρ p y) (ho : p.oneCell = true) : y.oneCell' = true := by
  cases p with
  | val v => have : y = v := h; subst this; exact ho
  | sl b sz len => obtain ⟨r, _, _, rfl⟩ := h; rfl
  | tsl dp l => obtain ⟨A, c, rfl, _⟩ := h; rfl
theorem pk_oneCell {ρ : Rho} {ps : List PV} {c : Array Value} (h : CRel ρ ps c) (ha : ps.all PV.oneCell = true) : ∀ u ∈ c.toList, u.oneCell' = true := fun u hu => by
  obtain ⟨q, hq⟩ := List.getElem?_of_mem hu
  rw [Array.getElem?_toList] at hq
  have hlt : q < ps.length := by rw [h.1]; exact (Array.getElem?_eq_some_iff.1 hq).1
  obtain ⟨y, hy, hr⟩ := h.2 q ps[q] (List.getElem?_eq_getElem hlt)
  rw [hq] at hy; cases hy
  exact hr.oneCell (List.all_eq_true.1 ha _ (List.getElem_mem hlt))
theorem pk_cells {ρ : Rho} {ps : List PV} {c : Array Value} (h : CRel ρ ps c) : TRel ρ (ps.map PV.v) c := ⟨by simpa using h.1, fun i v hv => by
  rw [List.getElem?_map] at hv
  cases hp : ps[i]? with
  | none => rw [hp] at hv; cases hv
  | some p =>
    rw [hp] at hv
    simp only [Option.map_some, Option.some.injEq] at hv; subst hv
    obtain ⟨y, hy, hyr⟩ := h.2 i p hp
    exact ⟨y, hy, hyr.v⟩⟩
theorem vals_crel (ρ : Rho) (c : Array Value) : CRel ρ (c.toList.map .val) c := ⟨by simp, fun i p hp => by
  rw [List.getElem?_map, Array.getElem?_toList] at hp
  cases hc : c[i]? with
  | none => rw [hc] at hp; cases hp
  | some x => rw [hc] at hp; simp only [Option.map_some, Option.some.injEq] at hp; subst hp; exact ⟨x, rfl, rfl⟩⟩
theorem cellsPV_sound (h : Rel ρ w0 s a w) {v : V} {x : Value} (hx : VRel ρ v x) {ps : List PV} {rd : List Nat} (hv : cellsPV s.hp v = some (ps, rd)) : CRel ρ ps x.cells ∧ ∀ u ∈ x.cells.toList, u.oneCell' = true := by
  have one : ∀ (p : PV), PRel ρ p x → x.cells = #[x] → x.oneCell' = true → CRel ρ [p] x.cells ∧ ∀ u ∈ x.cells.toList, u.oneCell' = true := fun p hp hc ho => by
    rw [hc]
    refine ⟨⟨rfl, fun i q hq => ?_⟩, fun u hu => by simp at hu; rw [hu]; exact ho⟩
    cases i with
    | zero => simp at hq; subst hq; exact ⟨x, rfl, hp⟩
    | succ i => simp at hq
  cases v with
  | val y =>
    have : x = y := hx
    subst this
    simp only [cellsPV] at hv
    split at hv
    · rename_i hall
      cases hv
      exact ⟨vals_crel ρ _, fun u hu => (Array.all_eq_true_iff_forall_mem.1 hall) u (by simpa using hu)⟩
    · cases hv
  | tsl dp l =>
    cases hv
    obtain ⟨A, c, rfl, hk⟩ := hx
    exact one (.tsl dp l) ⟨A, c, rfl, hk⟩ rfl rfl
  | sl b sz len =>
    have hx' := hx
    obtain ⟨r, hr, hlim, rfl⟩ := hx
    simp only [cellsPV] at hv
    split at hv
    · rename_i dp l hq
      cases hv
      have hb := h.hp b
      rw [hq] at hb
      obtain ⟨r', h1, hm, hk⟩ := hb
      rw [hr] at h1; cases h1
      have hn := hlim _ hm; subst hn
      exact one (.tsl dp l) ⟨_, _, rfl, hk⟩ rfl rfl
    · cases hv
      exact one (.sl b sz len) hx' rfl rfl
  | pk cs =>
    simp only [cellsPV] at hv
    split at hv
    · rename_i hall
      cases hv
      obtain ⟨c, rfl, hc⟩ := hx
      exact ⟨hc, fun u hu => pk_oneCell hc hall u hu⟩
    · cases hv
  | _ => simp [cellsPV] at hv

theorem overPV_get : ∀ (ps : List PV) (off : Nat) (cs : List PV), off + cs.length ≤ ps.length → (overPV ps off cs).length = ps.length ∧ ∀ i, (overPV ps off cs)[i]? = if off ≤ i ∧ i < off + cs.length then cs[i - off]? else ps[i]?
  | ps, off, [], _ => by
    have : overPV ps off [] = ps := by cases ps <;> cases off <;> rfl
    rw [this]
    refine ⟨rfl, fun i => ?_⟩
    rw [if_neg (by simp)]
  | [], off, c :: cs, h => by simp at h
  | p :: ps, 0, c :: cs, h => by
    obtain ⟨h1, h2⟩ := overPV_get ps 0 cs (by simp at h ⊢; omega)
    refine ⟨by simp [overPV, h1], fun i => ?_⟩
    cases i with
    | zero => simp [overPV]
    | succ i =>
      simp only [overPV, List.getElem?_cons_succ, h2 i]
      by_cases hc : i < cs.length
      · rw [if_pos (by omega), if_pos (by simp; omega)]; simp
      · rw [if_neg (by omega), if_neg (by simp; omega)]
  | p :: ps, off + 1, c :: cs, h => by
    obtain ⟨h1, h2⟩ := overPV_get ps off (c :: cs) (by simp at h ⊢; omega)
    refine ⟨by simp [overPV, h1], fun i => ?_⟩
    cases i with
    | zero => simp [overPV]
    | succ i =>
      simp only [overPV, List.getElem?_cons_succ, h2 i]
      by_cases hc : off ≤ i ∧ i < off + (c :: cs).length
      · rw [if_pos hc, if_pos (by omega), show i + 1 - (off + 1) = i - off by omega]
      · rw [if_neg hc, if_neg (by omega)]
theorem fold_get (off : Nat) : ∀ (l : List Value) (k : Nat) (cells : Array Value), off + k + l.length ≤ cells.size →
    ((l.zipIdx k).foldl (fun cs (x : Value × Nat) => cs.setIfInBounds (off + x.2) x.1) cells).size = cells.size ∧
    ∀ i, ((l.zipIdx k).foldl (fun cs (x : Value × Nat) => cs.setIfInBounds (off + x.2) x.1) cells)[i]? = if off + k ≤ i ∧ i < off + k + l.length then l[i - (off + k)]? else cells[i]?
  | [], k, cells, _ => ⟨rfl, fun i => by rw [if_neg (by simp)]; rfl⟩
  | v :: l, k, cells, h => by
    simp only [List.length_cons] at h
    obtain ⟨h1, h2⟩ := fold_get off l (k + 1) (cells.setIfInBounds (off + k) v) (by simp; omega)
    simp only [List.zipIdx_cons, List.foldl_cons]
    refine ⟨by rw [h1]; simp, fun i => ?_⟩
    rw [h2 i, Array.getElem?_setIfInBounds]
    simp only [List.length_cons]
    by_cases hi : off + k = i
    · subst hi
      rw [if_neg (by omega), if_pos rfl, if_pos (by omega)]
      rw [if_pos (by omega)]; simp
    · by_cases hc : off + (k + 1) ≤ i ∧ i < off + (k + 1) + l.length
      · rw [if_pos hc, if_pos (by omega), show i - (off + k) = i - (off + (k + 1)) + 1 by omega, List.getElem?_cons_succ]
      · rw [if_neg hc, if_neg hi, if_neg (by omega)]
theorem fillPV_sound (h : Rel ρ w0 s a w) {place : Nat → Option (Nat × Nat)} : ∀ (parts : List (Nat × Operand)) {ps q : List PV} {rd : List Nat} {cells : Array Value}, CRel ρ ps cells → fillPV s.tm s.hp place ps parts = some (q, rd) →
    ∃ cells', Instr.fill place cells (parts.map fun x => (x.1, a.eval x.2)) = some cells' ∧ CRel ρ q cells' ∧ cells'.size = cells.size
  | [], ps, q, rd, cells, hc, hf => by
    simp only [fillPV, Option.some.injEq, Prod.mk.injEq] at hf; obtain ⟨rfl, rfl⟩ := hf
    exact ⟨cells, rfl, hc, rfl⟩
  | (i, x) :: rest, ps, q, rd, cells, hc, hf => by
    simp only [fillPV] at hf
    split at hf
    · rename_i off sz cs r hp hcs
      split at hf
      · rename_i hlen
        obtain ⟨hl1, hl2⟩ := hlen
        split at hf
        · rename_i q' rs hq
          cases hf
          obtain ⟨hx, _⟩ := cellsPV_sound h (h.tm.eval x) hcs
          have hxs : (a.eval x).cells.size = sz := by rw [← hx.1]; exact hl1
          have hroom : off + (a.eval x).cells.size ≤ cells.size := by rw [hxs, ← hl1, ← hc.1]; exact hl2
          have hfold : ((a.eval x).cells.zipIdx.foldl (fun cs (c, j) => cs.setIfInBounds (off + j) c) cells) = (((a.eval x).cells.toList.zipIdx).foldl (fun cs (x : Value × Nat) => cs.setIfInBounds (off + x.2) x.1) cells) := by
            rw [← Array.foldl_toList, Array.toList_zipIdx]
          obtain ⟨f1, f2⟩ := fold_get off (a.eval x).cells.toList 0 cells (by simpa using hroom)
          obtain ⟨o1, o2⟩ := overPV_get ps off cs hl2
          obtain ⟨cells', g1, g2, g3⟩ := fillPV_sound h rest (cells := (((a.eval x).cells.toList.zipIdx).foldl (fun cs (x : Value × Nat) => cs.setIfInBounds (off + x.2) x.1) cells)) ⟨by rw [o1, f1]; exact hc.1, fun j p hj => by
            rw [o2 j] at hj
            rw [f2 j]
            simp only [Nat.add_zero, Array.length_toList, ← hx.1]
            split at hj
            · rename_i hcond
              rw [if_pos hcond]
              obtain ⟨y, hy, hr⟩ := hx.2 _ p hj
              exact ⟨y, by rw [Array.getElem?_toList]; exact hy, hr⟩
            · rename_i hcond
              rw [if_neg hcond]
              exact hc.2 j p hj⟩ hq
          refine ⟨cells', ?_, g2, by rw [g3, f1]⟩
          simp only [List.map_cons, Instr.fill, hp]
          rw [if_neg (by simp only [hxs, ne_eq, not_true_eq_false, decide_false, Bool.false_or, decide_eq_true_eq]; omega), hfold]
          exact g1
        · cases hf
      · cases hf
    · cases hf
theorem tmOf_sound {dp : Nat} {p : PV} {t : Tm} {y : Value} {cells : Nat → Option Value} (hk : tmOf dp p = some t) (h : PRel ρ p y) (hy : cells 0 = some y) : TmAt ρ.fz dp cells t := by
  cases dp with
  | zero =>
    simp only [tmOf] at hk
    split at hk
    · cases hk
      have : y = _ := h
      subst this
      unfold TmAt; exact hy
    · cases hk
  | succ d =>
    simp only [tmOf] at hk
    split at hk
    · split at hk
      · rename_i e; subst e
        cases hk
        obtain ⟨A, c, rfl, hkk⟩ := h
        unfold TmAt; exact ⟨A, c, hy, hkk⟩
      · cases hk
    · cases hk
      have : y = _ := h
      subst this
      unfold TmAt; exact ⟨none, 0, hy, KidsAt.nil⟩
    · cases hk
theorem tmsOf_sound {dp : Nat} : ∀ {ps : List PV} {l : List Tm}, tmsOf dp ps = some l → ∀ (f : Nat → Option Value), (∀ (i : Nat) (p : PV), ps[i]? = some p → ∃ y, f i = some y ∧ PRel ρ p y) → ps.length = l.length * 1 ∧ ∀ (i : Nat) (t : Tm), l[i]? = some t → TmAt ρ.fz dp (fun j => f (i * 1 + j)) t
  | [], l, h, f, hf => by
    simp only [tmsOf, Option.some.injEq] at h; subst h
    exact ⟨rfl, fun i t ht => by simp at ht⟩
  | p :: ps, l, h, f, hf => by
    simp only [tmsOf] at h
    split at h
    · rename_i t ts hk ht
      cases h
      obtain ⟨i1, i2⟩ := tmsOf_sound ht (fun j => f (j + 1)) fun i p hp => hf (i + 1) p (by simpa using hp)
      refine ⟨by simp only [List.length_cons, i1]; omega, fun i u hi => ?_⟩
      cases i with
      | zero =>
        simp at hi; subst hi
        obtain ⟨y0, e0, r0⟩ := hf 0 _ rfl
        exact tmOf_sound hk r0 (by simpa using e0)
      | succ i =>
        have := i2 i u (by simpa using hi)
        rw [show (fun j => f ((i + 1) * 1 + j)) = (fun j => (fun q => f (q + 1)) (i * 1 + j)) by funext j; show f _ = f _; congr 1; omega]
        exact this
    · cases h
theorem run_rowHead {P : Program} {t : TypeId} {len : Nat} {parts : Array (Nat × Value)} {e : TypeId} {sz : Nat} {cells cs : Array Value} (h : semVal P (rowHead t len) = some (e, sz, cells)) (hf : Instr.fill (fun i => some (i * sz, sz)) cells parts.toList = some cs) (w : World) :
    (Instr.buildSlice t len parts).run P w = .ok (.slice (some ⟨w.heap.size, 0, none⟩) len len) (w.alloc (.cells cs e)) := by
  have hr := semVal_run h w
  unfold rowHead at hr
  unfold Instr.buildSlice
  simp only [Sem.run_bind] at hr ⊢
  cases h1 : (underlying t).run P w with
  | halt x y => rw [h1] at hr; cases hr
  | ok d w1 =>
    rw [h1] at hr
    simp only [Result.andThen_ok] at hr ⊢
    cases d <;> first | (cases hr; done) | skip
    rename_i elem
    simp only [Sem.run_bind] at hr ⊢
    cases h2 : (sizeOf elem).run P w1 with
    | halt x y => rw [h2] at hr; cases hr
    | ok size w2 =>
      rw [h2] at hr
      simp only [Result.andThen_ok] at hr ⊢
      by_cases h3 : len * size > 2 ^ 24
      · simp only [h3, if_true, Sem.run_bind, run_unsupported, Result.andThen_halt] at hr; cases hr
      · simp only [h3, if_false, Sem.run_bind, Sem.run_pure, Result.andThen_ok] at hr ⊢
        by_cases h4 : len * size = 0
        · simp only [h4, if_true, Sem.run_bind, Sem.run_pure, Result.andThen_ok] at hr ⊢
          simp only [Result.ok.injEq, Prod.mk.injEq] at hr
          obtain ⟨⟨rfl, rfl, rfl⟩, rfl⟩ := hr
          rw [hf]
          simp [newRow]
        · simp only [h4, if_false, Sem.run_bind, Sem.run_pure, Result.andThen_ok] at hr ⊢
          cases h6 : (zeroValue elem).run P w2 with
          | halt x y => rw [h6] at hr; cases hr
          | ok z w3 =>
            rw [h6] at hr
            simp only [Result.andThen_ok, Sem.run_pure, Result.ok.injEq, Prod.mk.injEq] at hr ⊢
            obtain ⟨⟨rfl, rfl, rfl⟩, rfl⟩ := hr
            rw [hf]
            simp [newRow]
theorem kids_news (h : Rel ρ w0 s a w) {A2 : Option Addr} {dp : Nat} {l2 : List Tm} (hkids : KidsAt ρ.fz dp A2 0 l2) : ∃ news : List Value, news.length = l2.length * 1 ∧ (∀ ad, A2 = some ad → ∀ j u, news[j]? = some u → w.cell? (ad.add j) = some u) ∧ (A2 = none → l2.length = 0) ∧ (∀ u ∈ news, u.oneCell' = true) ∧
    ∀ (j : Nat) (t : Tm), l2[j]? = some t → TmAt ρ.fz dp (fun q => news[j * 1 + q]?) t := by
  have hcell : ∀ ad, A2 = some ad → ∀ q, q < l2.length * 1 → ∃ u, fzCell ρ.fz ad.block (ad.off + q) = some u ∧ u.oneCell' = true := fun ad had q hq => by
    obtain ⟨ad', e1, e2, hT⟩ := hkids.get (j := q / 1) (t := l2[q / 1]'(by omega)) (by simp)
    rw [had] at e1; cases e1
    obtain ⟨u, hu, ho⟩ := hT.cell (q % 1) (by omega)
    rw [show ad.off + ((0 + q / 1) * 1 + q % 1) = ad.off + q by omega] at hu
    exact ⟨u, hu, ho⟩
  cases l2 with
  | nil => exact ⟨[], rfl, fun ad had j u hu => by simp at hu, fun _ => rfl, fun u hu => by simp at hu, fun j t hj => by simp at hj⟩
  | cons t0 ts =>
    obtain ⟨ad, had, hsp, _⟩ := hkids.get (j := 0) (t := t0) rfl
    have hget : ∀ q, q < (t0 :: ts).length * 1 → ((List.range ((t0 :: ts).length * 1)).map fun q => (fzCell ρ.fz ad.block (ad.off + q)).getD undef)[q]? = fzCell ρ.fz ad.block (ad.off + q) := fun q hq => by
      obtain ⟨u, hu, _⟩ := hcell ad had q hq
      rw [List.getElem?_map, List.getElem?_range hq, Option.map_some, hu]; rfl
    refine ⟨(List.range ((t0 :: ts).length * 1)).map fun q => (fzCell ρ.fz ad.block (ad.off + q)).getD undef, by simp, fun ad' had' j u hu => ?_, (fun e => by rw [had] at e; cases e), fun u hu => ?_, fun j t hj => ?_⟩
    · rw [had] at had'; cases had'
      have hj : j < (t0 :: ts).length * 1 := by have := (List.getElem?_eq_some_iff.1 hu).1; simpa using this
      rw [hget j hj] at hu
      rw [addr_add' hsp]; exact h.fzCell hu
    · obtain ⟨q, hq⟩ := List.getElem?_of_mem hu
      have hj : q < (t0 :: ts).length * 1 := by have := (List.getElem?_eq_some_iff.1 hq).1; simpa using this
      rw [hget q hj] at hq
      obtain ⟨u', hu', ho⟩ := hcell ad had q hj
      rw [hq] at hu'; cases hu'; exact ho
    · obtain ⟨ad', e1, e2, hT⟩ := hkids.get hj
      rw [had] at e1; cases e1
      have hjl : j < (t0 :: ts).length := (List.getElem?_eq_some_iff.1 hj).1
      refine hT.mono5 (fun _ _ h => h) fun q hq v hv => ?_
      show (List.map _ _)[j * 1 + q]? = some v
      rw [hget _ (by omega)]
      rw [show ad.off + (j * 1 + q) = ad.off + ((0 + j) * 1 + q) by omega]; exact hv
theorem rows_news {A2 : Option Addr} {m : Nat} {fs2 : List Fld} (gp2 : 0 < fs2.length) (hrows : RowsAt w 0 A2 m fs2) : (∀ ad, A2 = some ad → ∀ j u, (rowCells fs2 m)[j]? = some u → w.cell? (ad.add j) = some u) ∧ (A2 = none → m = 0) ∧ ∀ u ∈ rowCells fs2 m, u.oneCell' = true := by
  refine ⟨fun ad had j u hu => ?_, fun e => ?_, fun u hu => ?_⟩
  · obtain ⟨f, hf, hq, rfl⟩ := rowCells_get gp2 hu
    obtain ⟨ad', k1, k2, _, _, k5⟩ := hrows (Nat.lt_of_le_of_lt (Nat.zero_le _) hq)
    rw [had] at k1; cases k1
    rw [addr_add' k2]
    have := k5 _ hq _ f hf
    rwa [Nat.mul_comm, Nat.div_add_mod] at this
  · rcases Nat.eq_zero_or_pos m with h0 | h0
    · exact h0
    · obtain ⟨ad', k1, _⟩ := hrows h0
      rw [e] at k1; cases k1
  · obtain ⟨q, hq⟩ := List.getElem?_of_mem hu
    obtain ⟨f, _, _, rfl⟩ := rowCells_get gp2 hq
    exact at_oneCell _ _
theorem add_zero_map (A : Option Addr) : A.map (fun x => x.add 0) = A := by
  cases A with
  | none => rfl
  | some a => simp [Addr.add]
/-- A slice cut to its first rows. -/
theorem run_cut {o : Oper} {t : TypeId} {x y : Operand} {A : Option Addr} {len cap sz : Nat} {k : IntKind} {i : Int} {e : TypeId} {w : World} (h : o.op = .slice t x none (some y) none) (hx : a.eval x = .slice A len cap) (hy : a.eval y = .int k i) (ht : P.underlying t = some (.slice e)) (hn : semVal P (sizeOf e) = some sz)
    (h0 : 0 ≤ i) (h1 : i.toNat ≤ cap) : (execOp a.eval o).run P w = .ok (.value (.slice A i.toNat cap)) w := by
  have h1' : i ≤ cap := by omega
  unfold execOp
  simp only [h, hx, Option.map_some, Option.map_none, hy, Instr.sliceAt, Instr.slice, Instr.sliceBounds, Instr.sliceBound, asIntOf, Sem.run_bind, run_underlying ht, Result.andThen_ok, Sem.run_pure, if_true, h0, h1', and_self, semVal_run hn, Nat.zero_le, Nat.sub_zero, Nat.zero_mul, Option.isSome_none, Bool.false_eq_true, if_false, add_zero_map, ite_self]
/-- A slice cut from a row on. -/
theorem run_cutL {o : Oper} {t : TypeId} {x y : Operand} {A : Option Addr} {len cap sz : Nat} {k : IntKind} {i : Int} {e : TypeId} {w : World} (h : o.op = .slice t x (some y) none none) (hx : a.eval x = .slice A len cap) (hy : a.eval y = .int k i) (ht : P.underlying t = some (.slice e)) (hn : semVal P (sizeOf e) = some sz)
    (h0 : 0 ≤ i) (h1 : i.toNat ≤ len) : (execOp a.eval o).run P w = .ok (.value (.slice (if cap = i.toNat then A else A.map (fun x => x.add (i.toNat * sz))) (len - i.toNat) (cap - i.toNat))) w := by
  have h1' : i ≤ len := by omega
  unfold execOp
  simp only [h, hx, Option.map_some, Option.map_none, hy, Instr.sliceAt, Instr.slice, Instr.sliceBounds, Instr.sliceBound, asIntOf, Sem.run_bind, run_underlying ht, Result.andThen_ok, Sem.run_pure, if_true, h0, h1', and_self, semVal_run hn, Option.isSome_none, Bool.false_eq_true, if_false]
theorem growK_at {B : Nat} {e : TypeId} {b dp : Nat} {l : List Tm} (hb : BRel ρ B w b (.growK e dp l)) {r : RB} {ad : Addr} (hr : ρ b = some r) (had : r.addr = some ad) : ∃ k cur, ad = ⟨k, 0, none⟩ ∧ B ≤ k ∧ w.heap[k]? = some (.cells cur e (0, 0)) ∧ r.lim = some l.length ∧ l.length ≤ r.cap ∧ r.cap ≤ maxLen ∧ cur.size = r.cap * 1 ∧
    ∀ (i : Nat) (t : Tm), l[i]? = some t → TmAt ρ.fz dp (fun j => (cur.toList.take (l.length * 1))[i * 1 + j]?) t := by
  obtain ⟨r', xs, h1, hm, ho, hf⟩ := hb
  rw [hr] at h1; cases h1
  rcases ho.2 with ⟨hv0, _⟩ | ⟨g, cap, cur, hv0, h1, h2, h3, h4, h5, h6⟩
  · rw [had] at hv0; cases hv0
  · rw [had] at hv0
    simp only [Value.slice.injEq, Option.some.injEq] at hv0
    obtain ⟨e1, _, e2⟩ := hv0
    refine ⟨g, cur, e1, h1, h2, hm, by rw [e2]; exact h3, by rw [e2]; exact h4, by rw [e2]; exact h5, ?_⟩
    rw [h6]; exact hf
theorem CRel.get {cs : List PV} {c : Array Value} (h : CRel ρ cs c) {i : Nat} {p : PV} (hp : cs[i]? = some p) : ∃ y, c[i]? = some y ∧ PRel ρ p y := h.2 i p hp
theorem tvOf_get : ∀ {l : List TA} {ps : List TV}, tvOf l = some ps → ps.length = l.length ∧ ∀ (i : Nat) (p : TV), ps[i]? = some p → ∃ q, l[i]? = some q ∧ ∀ (ρ : Rho) (w : World) (B : Nat) (x : Value), TARel ρ.fz w B x q → TVRel ρ p x
  | [], ps, h => by
    simp only [tvOf, Option.some.injEq] at h; subst h; exact ⟨rfl, fun i p hp => by simp at hp⟩
  | .one v :: l, ps, h => by
    simp only [tvOf] at h
    split at h
    · rename_i q qs h0 h1
      cases h
      obtain ⟨i1, i2⟩ := tvOf_get h1
      obtain ⟨_, j2⟩ := pvOf_get h0
      refine ⟨by simp [i1], fun i p hp => ?_⟩
      cases i with
      | zero =>
        simp at hp; subst hp
        refine ⟨_, rfl, fun ρ w B x hx => ?_⟩
        obtain ⟨q', hq', hr⟩ := j2 0 q rfl
        simp at hq'; subst hq'
        exact hr ρ w B x hx
      | succ i => simpa using i2 i p (by simpa using hp)
    · cases h
  | .pk v :: l, ps, h => by
    simp only [tvOf] at h
    split at h
    · rename_i q qs h0 h1
      cases h
      obtain ⟨i1, i2⟩ := tvOf_get h1
      obtain ⟨j1, j2⟩ := pvOf_get h0
      refine ⟨by simp [i1], fun i p hp => ?_⟩
      cases i with
      | zero =>
        simp at hp; subst hp
        refine ⟨_, rfl, fun ρ w B x hx => ?_⟩
        obtain ⟨c, hc, hl, hcs⟩ := hx
        refine ⟨c, hc, by rw [j1, hl], fun i p hp => ?_⟩
        obtain ⟨q', hq', hr⟩ := j2 i p hp
        obtain ⟨y, hy, hyr⟩ := hcs i q' hq'
        exact ⟨y, hy, hr ρ w B y hyr⟩
      | succ i => simpa using i2 i p (by simpa using hp)
    · cases h

/-- **The model carries out an operation as its rule says.** -/
theorem OpR.sound {o : Oper} {E : Eff} (hR : OpR P s.tm s.hp o E) (h : Rel ρ w0 s a w) {K : Act → World → Prop} {Q : Exit → Act → World → Prop} (hK : ∀ a' w', RelE w0 (s.app o.dst E) a' w' → K a' w') : o.wp P a w K Q := by
  -- a value, nothing written
  have keep : ∀ {v : V} {x : Value} {rd : List Nat} {w' : World}, Rel ρ w0 s a w' → VRel ρ v x → K (a.put o.dst x) w' ∨ ¬ (E = ⟨v, [], rd⟩) := fun {v x rd w'} h' hv => by
    by_cases e : E = ⟨v, [], rd⟩
    · subst e; exact .inl (hK _ _ ⟨ρ, h'.put o.dst hv⟩)
    · exact .inr e
  cases hR with
  | copy x hx =>
    refine wp_val (x := a.eval x) (w' := w) ?_ ((keep h (h.tm.eval x)).resolve_right (fun n => n rfl))
    unfold execOp
    rcases hx with hx | hx <;> simp [hx]
  | pick c x y t ho hc =>
    have hcv := eval_val h hc
    refine wp_val (x := if t then a.eval x else a.eval y) (w' := w) ?_ ((keep h ?_).resolve_right (fun n => n rfl))
    · unfold execOp
      simp [ho, hcv, asBool]
    · cases t
      · exact h.tm.eval y
      · exact h.tm.eval x
  | pure g v hs hx hv =>
    refine wp_val (x := v) (w' := w) ?_ ((keep h (show VRel ρ (.val v) v from rfl)).resolve_right (fun n => n rfl))
    rw [execOp_congr o hs (ρ' := g) fun x hm => eval_val h (hx x hm)]
    exact semVal_run hv w
  | alloc t d z ho hd hh hz =>
    obtain ⟨hl, hr⟩ := h.alloc hh t 0 (mapVal_rel ρ z.cells)
    refine wp_val (x := .pointer (some ⟨w.heap.size, 0, none⟩)) (w' := w.alloc (.cells z.cells t)) ?_ (hK _ _ ⟨_, hr.put o.dst ⟨_, _, updR_same _ _ _, rfl, fun n hn => (by cases hn), (by simp)⟩⟩)
    unfold execOp
    simp [ho, Instr.alloc, semVal_run hz, newVar, newRow]
  | box t x d v ho hd hh hx =>
    have hxv := eval_val h hx
    obtain ⟨hl, hr⟩ := h.alloc hh t 0 (mapVal_rel ρ v.cells)
    refine wp_val (x := .pointer (some ⟨w.heap.size, 0, none⟩)) (w' := w.alloc (.cells v.cells t)) ?_ (hK _ _ ⟨_, hr.put o.dst ⟨_, _, updR_same _ _ _, rfl, fun n hn => (by cases hn), (by simp)⟩⟩)
    unfold execOp
    simp [ho, Instr.box, hxv, newVar, newRow]
  | boxT t x d dp l ho hd hh hx =>
    have hxr := h.tm.eval x
    rw [hx] at hxr
    have hxr' := hxr
    obtain ⟨A, c, hc, hk⟩ := hxr
    obtain ⟨hle, hr⟩ := h.alloc hh (cs := [.tsl dp l]) (c := #[a.eval x]) t 0 ⟨rfl, fun i v hv => by
      cases i with
      | zero => simp at hv; subst hv; exact ⟨_, rfl, hxr'⟩
      | succ i => simp at hv⟩
    refine wp_val (x := .pointer (some ⟨w.heap.size, 0, none⟩)) (w' := w.alloc (.cells #[a.eval x] t)) ?_ (hK _ _ ⟨_, hr.put o.dst ⟨_, _, updR_same _ _ _, rfl, fun n hn => (by cases hn), (by simp)⟩⟩)
    unfold execOp
    simp [ho, Instr.box, hc, newVar, newRow, Value.cells]
  | boxPk t x d cs ho hd hh hx =>
    have hxr := h.tm.eval x
    rw [hx] at hxr
    obtain ⟨c, hc, hl, hcs⟩ := hxr
    obtain ⟨hle, hr⟩ := h.alloc hh (cs := cs.map PV.v) (c := c) t 0 ⟨by simpa using hl, fun i v hv => by
      rw [List.getElem?_map] at hv
      cases hp : cs[i]? with
      | none => rw [hp] at hv; cases hv
      | some p =>
        rw [hp] at hv
        simp only [Option.map_some, Option.some.injEq] at hv; subst hv
        obtain ⟨y, hy, hyr⟩ := hcs i p hp
        exact ⟨y, hy, hyr.v⟩⟩
    refine wp_val (x := .pointer (some ⟨w.heap.size, 0, none⟩)) (w' := w.alloc (.cells c t)) ?_ (hK _ _ ⟨_, hr.put o.dst ⟨_, _, updR_same _ _ _, rfl, fun n hn => (by cases hn), (by simp)⟩⟩)
    unfold execOp
    simp [ho, Instr.box, hc, newVar, newRow, Value.cells]
  | row t len parts g d e sz cells ho hd hh hx hp =>
    obtain ⟨hl, hr⟩ := h.alloc hh e len (mapVal_rel ρ cells)
    refine wp_val (x := .slice (some ⟨w.heap.size, 0, none⟩) len len) (w' := w.alloc (.cells cells e)) ?_ (hK _ _ ⟨_, hr.put o.dst ⟨_, updR_same _ _ _, fun n hn => (by cases hn), rfl⟩⟩)
    rw [execOp_congr o (fun cs b => by rw [ho]; exact fun e => by cases e) (ρ' := g) fun x hm => eval_val h (hx x hm)]
    unfold execOp
    simp only [ho, Sem.run_bind, run_rowParts hp w, Result.andThen_ok, Sem.run_pure]
  | load t x b row sz fld v ho hx ht hv =>
    have hxr := h.tm.eval x
    rw [hx] at hxr
    obtain ⟨r, ad, hr, had, hlim, hxe⟩ := hxr
    obtain ⟨y, hy, hvr⟩ := readV_sound h hv hr had hlim
    refine wp_val (x := y) (w' := w) ?_ ((keep h hvr).resolve_right (fun n => n rfl))
    unfold execOp
    simp [ho, hxe, Instr.loadAt, Instr.sureAddr, loadVar, semVal_run ht, hy]
  | loadAgg t x b row sz fld n vs ho hx ht hn hv =>
    have hxr := h.tm.eval x
    rw [hx] at hxr
    obtain ⟨r, ad, hr, had, hlim, hxe⟩ := hxr
    obtain ⟨hlen, hcells⟩ := readAgg_sound h hr had hlim n fld vs hv
    refine wp_val (x := .agg vs.toArray) (w' := w) ?_ ((keep h (show VRel ρ (.val (.agg vs.toArray)) _ from rfl)).resolve_right (fun n => n rfl))
    have hl := run_loadCells_list (P := P) w ⟨ad.block, ad.off + (row * sz + fld), none⟩ vs (fun j v hj => by rw [addr_add]; exact hcells j v hj)
    rw [hlen] at hl
    unfold execOp
    simp [ho, hxe, Instr.loadAt, Instr.sureAddr, loadVar, semVal_run ht, semVal_run hn, hl]
  | store t x y b row sz fld cs ws ho hx hc hw hn hle =>
    have hxr := h.tm.eval x
    rw [hx] at hxr
    obtain ⟨r, ad, hr, had, hlim, hxe⟩ := hxr
    have hyr := h.tm.eval y
    have hgd : s.hp.getD b .none = .own cs := by simp [List.getD_eq_getElem?_getD, hc]
    have hblen : b < s.hp.length := (List.getElem?_eq_some_iff.1 hc).1
    have hb := h.hp b
    rw [hgd] at hb
    obtain ⟨r', k, e, c, h1, h2, hm, h3, h4, h5⟩ := hb
    rw [hr] at h1; cases h1
    rw [had] at h2; cases h2
    -- the cells of the value
    obtain ⟨hsz, hone, hcr⟩ : (a.eval y).cells.size = ws.length ∧ (∀ v ∈ (a.eval y).cells.toList, v.oneCell' = true) ∧ TRel ρ ws (a.eval y).cells := by
      cases hy : evV s.tm y with
      | val v =>
        rw [hy] at hyr hw
        have hyv : a.eval y = v := hyr
        rw [hyv]
        simp only [cellsV] at hw
        split at hw
        · rename_i hall
          simp only [Option.some.injEq] at hw; subst hw
          exact ⟨by simp, fun u hu => (Array.all_eq_true_iff_forall_mem.1 hall) u (by simpa using hu), mapVal_rel ρ _⟩
        · cases hw
      | ptr b' row' sz' fld' =>
        rw [hy] at hyr hw
        simp only [cellsV, Option.some.injEq] at hw; subst hw
        have hyr' := hyr
        obtain ⟨r1, ad1, _, _, _, hye⟩ := hyr
        have hcl : (a.eval y).cells = #[a.eval y] := by rw [hye]; rfl
        rw [hcl]
        refine ⟨rfl, fun u hu => by simp at hu; rw [hu, hye]; rfl, rfl, fun i v hv => ?_⟩
        cases i with
        | zero => simp at hv; subst hv; exact ⟨_, rfl, hyr'⟩
        | succ i => simp at hv
      | sl b' sz' len' =>
        rw [hy] at hyr hw
        simp only [cellsV, Option.some.injEq] at hw; subst hw
        have hyr' := hyr
        obtain ⟨r1, _, _, hye⟩ := hyr
        have hcl : (a.eval y).cells = #[a.eval y] := by rw [hye]; rfl
        rw [hcl]
        refine ⟨rfl, fun u hu => by simp at hu; rw [hu, hye]; rfl, rfl, fun i v hv => ?_⟩
        cases i with
        | zero => simp at hv; subst hv; exact ⟨_, rfl, hyr'⟩
        | succ i => simp at hv
      | tup => rw [hy] at hw; simp [cellsV] at hw
      | pk ps =>
        rw [hy] at hyr hw
        simp only [cellsV] at hw
        split at hw
        · rename_i hall
          simp only [Option.some.injEq] at hw; subst hw
          obtain ⟨c, hye, hl, hc⟩ := hyr
          have hcl : (a.eval y).cells = c := by rw [hye]; rfl
          rw [hcl]
          exact ⟨by simp [hl], fun u hu => pk_oneCell ⟨hl, hc⟩ hall u hu, pk_cells ⟨hl, hc⟩⟩
        · cases hw
      | unk => rw [hy] at hw; simp [cellsV] at hw
      | gp => rw [hy] at hw; simp [cellsV] at hw
      | tp => rw [hy] at hw; simp [cellsV] at hw
      | clo => rw [hy] at hw; simp [cellsV] at hw
      | tsl dp l =>
        rw [hy] at hyr hw
        simp only [cellsV, Option.some.injEq] at hw; subst hw
        have hyr' := hyr
        obtain ⟨A1, c1, hye, _⟩ := hyr
        have hcl : (a.eval y).cells = #[a.eval y] := by rw [hye]; rfl
        rw [hcl]
        refine ⟨rfl, fun u hu => by simp at hu; rw [hu, hye]; rfl, rfl, fun i v hv => ?_⟩
        cases i with
        | zero => simp at hv; subst hv; exact ⟨_, rfl, hyr'⟩
        | succ i => simp at hv
    have hoff : row * sz + fld + (a.eval y).cells.toList.length ≤ c.size := by
      have := h5.1; simp only [Array.length_toList, hsz]; omega
    have hst := run_storeCells_at (P := P) k (row * sz + fld) e (a.eval y).cells.toList 0 c w h4 (by omega) hone
    simp only [Nat.add_zero] at hst
    have hrel := h.store (cs' := cs.take (row * sz + fld) ++ ws ++ cs.drop (row * sz + fld + ws.length)) (c' := (c.toList.take (row * sz + fld) ++ (a.eval y).cells.toList ++ c.toList.drop (row * sz + fld + (a.eval y).cells.toList.length)).toArray) hgd hblen hr had hm h3 h4 ?_
    · refine wp_skipped ?_ (hK _ _ ⟨ρ, hrel.put o.dst (show VRel ρ (.val undef) undef from rfl)⟩)
      unfold execOp
      simp only [ho, hxe, Instr.storeAt, Instr.sureAddr, Sem.run_bind, Sem.run_pure, Result.andThen_ok, storeVar, semVal_run hn, hsz, ne_eq, not_true_eq_false, if_false, Nat.zero_add]
      simp only [hst, Result.andThen_ok, Sem.run_pure]
    · have hcl : cs.length = c.size := h5.1
      have hwl : ws.length = (a.eval y).cells.toList.length := by simp [hsz]
      refine ⟨by simp [hcl, hwl], fun i v hv => ?_⟩
      simp only [List.getElem?_toArray]
      rw [List.append_assoc, List.getElem?_append] at hv ⊢
      simp only [List.length_take, Array.length_toList, hcl] at hv ⊢
      by_cases hi : i < min (row * sz + fld) c.size
      · rw [if_pos hi] at hv ⊢
        rw [List.getElem?_take] at hv ⊢
        split at hv
        · rename_i hi2
          rw [if_pos hi2, Array.getElem?_toList]; exact h5.2 i v hv
        · cases hv
      · rw [if_neg hi] at hv ⊢
        rw [List.getElem?_append] at hv ⊢
        rw [hwl] at hv
        by_cases hj : i - min (row * sz + fld) c.size < (a.eval y).cells.toList.length
        · rw [if_pos hj] at hv ⊢
          rw [Array.getElem?_toList]; exact hcr.2 _ v hv
        · rw [if_neg hj] at hv ⊢
          rw [List.getElem?_drop] at hv ⊢
          rw [Array.getElem?_toList]; exact h5.2 _ v hv
  | field t x f b row sz fld fs fl n ho hx ht hf hn =>
    have hxr := h.tm.eval x
    rw [hx] at hxr
    obtain ⟨r, ad, hr, had, hlim, hxe⟩ := hxr
    refine wp_val (x := .pointer (some ⟨ad.block, ad.off + (row * sz + (fld + fl.offset)), none⟩)) (w' := w) ?_ ((keep h (show VRel ρ (.ptr b row sz (fld + fl.offset)) _ from ⟨r, ad, hr, had, hlim, rfl⟩)).resolve_right (fun n => n rfl))
    unfold execOp
    simp only [ho, hxe, Instr.fieldAt, Sem.run_bind, run_underlying ht, Result.andThen_ok, hf, Instr.sureAddr, Sem.run_pure, fieldPlace, semVal_run hn, Nat.add_one_ne_zero, if_false, addr_add]
    rw [show ad.off + (row * sz + fld) + fl.offset = ad.off + (row * sz + (fld + fl.offset)) by omega]
  | index t x ix b sz len k i e ho hx hi ht hn h0 h1 hlive =>
    have hxr := h.tm.eval x
    rw [hx] at hxr
    obtain ⟨r, hr, hlim, hxe⟩ := hxr
    have hiv := eval_val h hi
    have hlen : 0 < len := by omega
    obtain ⟨ad, had, hsp, hlim2⟩ : ∃ ad, r.addr = some ad ∧ ad.spot = none ∧ ∀ n, r.lim = some n → i.toNat < n := by
      have hb := h.hp b
      cases hq : s.hp.getD b .none with
      | none => rw [hq] at hlive; cases hlive
      | gone => rw [hq] at hlive; cases hlive
      | own cs =>
        rw [hq] at hb
        obtain ⟨r', k, e, c, g1, g2, gm, g3, g4, g5⟩ := hb
        rw [hr] at g1; cases g1
        exact ⟨_, g2, rfl, fun n hn => by rw [gm] at hn; cases hn⟩
      | ro cs =>
        rw [hq] at hb
        obtain ⟨r', ad, g1, g2, gs, gm, _⟩ := hb
        rw [hr] at g1; cases g1
        exact ⟨_, g2, gs, fun n hn => by rw [gm] at hn; cases hn⟩
      | ext n fs =>
        rw [hq] at hb
        obtain ⟨r', g1, gm, gle, g2⟩ := hb
        rw [hr] at g1; cases g1
        have := hlim n gm; subst this
        obtain ⟨ad, g3, g4, _⟩ := g2 hlen
        exact ⟨ad, g3, g4, fun m hm => by rw [gm] at hm; cases hm; omega⟩
      | grow e n fs =>
        rw [hq] at hb
        obtain ⟨r', xs, g1, gm, gp, go, gf⟩ := hb
        rw [hr] at g1; cases g1
        have := hlim n gm; subst this
        obtain ⟨g, hg⟩ := grow_some go hlen
        exact ⟨_, hg, rfl, fun m hm => by rw [gm] at hm; cases hm; omega⟩
      | growK e dp l =>
        rw [hq] at hb
        obtain ⟨r', xs, g1, gm, go, gf⟩ := hb
        rw [hr] at g1; cases g1
        have := hlim _ gm; subst this
        obtain ⟨g, hg⟩ := grow_some go hlen
        exact ⟨_, hg, rfl, fun m hm => by rw [gm] at hm; cases hm; omega⟩
      | frz dp l =>
        rw [hq] at hb
        obtain ⟨r', g1, gm, gk⟩ := hb
        rw [hr] at g1; cases g1
        have := hlim _ gm; subst this
        obtain ⟨ad, had, hsp, _⟩ := gk.get (j := 0) (t := l[0]) (by simp)
        exact ⟨ad, had, hsp, fun m hm => by rw [gm] at hm; cases hm; omega⟩
    refine wp_val (x := .pointer (some ⟨ad.block, ad.off + (i.toNat * sz + 0), none⟩)) (w' := w) ?_ ((keep h (show VRel ρ (.ptr b i.toNat sz 0) _ from ⟨r, ad, hr, had, hlim2, rfl⟩)).resolve_right (fun n => n rfl))
    have hel : P.elem t = e := by simp [Program.elem, ht]
    unfold execOp
    simp only [ho, hxe, hiv, had, Sem.run_bind, run_indexAt_slice w t ad len r.cap k i (by rw [hel]; exact ht), h0, h1, and_self, if_true, hel, semVal_run hn, Result.andThen_ok, Sem.run_pure, addr_add' hsp, Nat.add_zero]
  | len c x t b sz len e ho hc ha hat hx ht =>
    have hxr := h.tm.eval x
    rw [hx] at hxr
    obtain ⟨r, hr, hlim, hxe⟩ := hxr
    refine wp_val (x := .int .i64 len) (w' := w) ?_ ((keep h (show VRel ρ (.val (.int .i64 len)) _ from rfl)).resolve_right (fun n => n rfl))
    have hel : P.elem t = e := by simp [Program.elem, ht]
    have hl := run_len_slice (P := P) w t o.type r.addr len r.cap (by rw [hel]; exact ht)
    unfold execOp
    simp [ho, resolve, hc, ha, hat, hxe, invoke, builtin, hl, goInt]
  | call c f avs rd v ho hc ha hC =>
    obtain ⟨ha1, ha2⟩ := avsOf_sound h c.args.toList ha
    have hargs : ArgsRel ρ.fz w (c.args.map a.eval) avs := ⟨by simp [ha1], fun i av hi => by
      obtain ⟨x, hx, hr⟩ := ha2 i av hi
      exact ⟨x, by simpa using hx, hr⟩⟩
    have hcall := (hC ρ.fz w _ h.fz (h.laid.below h.below) hargs).old (fun v e => by cases e)
    have hex : (execOp a.eval o).run P w = (callFunc f (c.args.map a.eval)).run P w := by
      unfold execOp
      simp [ho, resolve, hc, Act.eval, Deferred.ofValue, invoke]
    unfold Oper.wp
    rw [hex]
    unfold CallOk at hcall
    split at hcall
    · rename_i g as w' hrun
      obtain ⟨rfl, hcall⟩ := hcall
      rw [hrun]
      refine hcall.mono fun e w'' ⟨x, he, hb, fz', _, _, hx⟩ => ?_
      subst he
      have hx' : x = v := hx
      subst hx'
      exact (keep (h.world hb) (show VRel ρ (.val x) x from rfl)).resolve_right (fun n => n rfl)
    · rename_i v' w' hrun
      rw [hrun]
      obtain ⟨hb, fz', _, _, hx⟩ := hcall
      have hx' : v' = v := hx
      subst hx'
      exact (keep (h.world hb) (show VRel ρ (.val v') v' from rfl)).resolve_right (fun n => n rfl)
    · exact hcall.elim
  | callRows c f avs rd d n fs ho hc ha hd hh hC =>
    obtain ⟨ha1, ha2⟩ := avsOf_sound h c.args.toList ha
    have hargs : ArgsRel ρ.fz w (c.args.map a.eval) avs := ⟨by simp [ha1], fun i av hi => by
      obtain ⟨x, hx, hr⟩ := ha2 i av hi
      exact ⟨x, by simpa using hx, hr⟩⟩
    have hcall := (hC ρ.fz w _ h.fz (h.laid.below h.below) hargs).old (fun v e => by cases e)
    have hex : (execOp a.eval o).run P w = (callFunc f (c.args.map a.eval)).run P w := by
      unfold execOp
      simp [ho, resolve, hc, Act.eval, Deferred.ofValue, invoke]
    have fin : ∀ (x : Value) (w' : World), Below w.heap.size w w' → (∃ fz', AVRel fz' w' w.heap.size x (.rows n fs)) → K (a.put o.dst x) w' := fun x w' hb hx => by
      obtain ⟨fz', A, c', hxe, hle, hrows⟩ := hx
      obtain ⟨hl, hr⟩ := h.rows hh hb c' hle hrows
      exact hK _ _ ⟨_, hr.put o.dst ⟨_, updR_same _ _ _, fun m hm => (by cases hm; rfl), hxe⟩⟩
    unfold Oper.wp
    rw [hex]
    unfold CallOk at hcall
    split at hcall
    · rename_i g as w' hrun
      obtain ⟨rfl, hcall⟩ := hcall
      rw [hrun]
      refine hcall.mono fun e w'' ⟨x, he, hb, fz', _, _, hx⟩ => ?_
      subst he
      exact fin _ _ hb ⟨fz', hx⟩
    · rename_i v' w' hrun
      rw [hrun]
      obtain ⟨hb, fz', _, _, hx⟩ := hcall
      exact fin _ _ hb ⟨fz', hx⟩
    · exact hcall.elim
  | rowG t len parts g d e sz cells fs ho hd hh hx hp hg =>
    obtain ⟨q1, q2, q3, q4, q5⟩ := growFs_spec hg
    have hB := h.below.size
    obtain ⟨hl, hr⟩ := h.newSlot hh ((Below.refl w.heap.size w).alloc (Nat.le_refl _) (.cells cells e)) ⟨some ⟨w.heap.size, 0, none⟩, len, some len⟩ (.grow e len fs)
      ⟨_, cells.toList, updR_same _ _ _, rfl, by rw [q4]; exact q1, ⟨by rw [q4]; simpa using q2, .inr ⟨w.heap.size, len, cells, rfl, hB, heap_alloc_new _ _, Nat.le_refl _, q3, by rw [q4]; exact q2, by rw [q4, ← q2]; simp [List.take_of_length_le]⟩⟩, by rw [q4]; exact q5⟩ (fun ad had _ => by cases had; exact Nat.le_refl _)
    refine wp_val (x := .slice (some ⟨w.heap.size, 0, none⟩) len len) (w' := w.alloc (.cells cells e)) ?_ (hK _ _ ⟨_, hr.put o.dst ⟨_, updR_same _ _ _, fun n hn => (by cases hn; rfl), rfl⟩⟩)
    rw [execOp_congr o (fun cs b => by rw [ho]; exact fun e => by cases e) (ρ' := g) fun x hm => eval_val h (hx x hm)]
    unfold execOp
    simp only [ho, Sem.run_bind, run_rowParts hp w, Result.andThen_ok, Sem.run_pure]
  | loadPk t x b row sz fld n ps ho hx ht hn hv =>
    have hxr := h.tm.eval x
    rw [hx] at hxr
    obtain ⟨r, ad, hr, had, hlim, hxe⟩ := hxr
    obtain ⟨vs, hlen, hpl, hcells, hps⟩ := readPk_sound h hr had hlim n fld ps hv
    refine wp_val (x := .agg vs.toArray) (w' := w) ?_ ((keep h (show VRel ρ (.pk ps) _ from ⟨vs.toArray, rfl, by simp [hpl, hlen], fun j p hp => by simpa using hps j p hp⟩)).resolve_right (fun n => n rfl))
    have hl := run_loadCells_list (P := P) w ⟨ad.block, ad.off + (row * sz + fld), none⟩ vs (fun j v hj => by rw [addr_add]; exact hcells j v hj)
    rw [hlen] at hl
    unfold execOp
    simp [ho, hxe, Instr.loadAt, Instr.sureAddr, loadVar, semVal_run ht, semVal_run hn, hl]
  | storeG t x y b row sz fld n e fs fs' v ho hx hc hsz hy hn hle hset =>
    have hxr := h.tm.eval x
    rw [hx] at hxr
    obtain ⟨r, ad, hr, had, hlim, hxe⟩ := hxr
    have hyv := eval_val h hy
    have hgd : s.hp.getD b .none = .grow e n fs := by simp [List.getD_eq_getElem?_getD, hc]
    have hblen : b < s.hp.length := (List.getElem?_eq_some_iff.1 hc).1
    have hb := h.hp b
    rw [hgd] at hb
    obtain ⟨r', xs, h1, hm, hpos, ho', hf⟩ := hb
    rw [hr] at h1; cases h1
    have hrow := hlim n hm
    obtain ⟨k, hk⟩ := grow_some ho' (by omega)
    rw [had] at hk
    simp only [Option.some.injEq] at hk; subst hk
    obtain ⟨cap, cur, hcap, hbg, hg, hnc, hcm, hcs, htake⟩ : ∃ cap cur, r.cap = cap ∧ w0.heap.size ≤ k ∧ w.heap[k]? = some (.cells cur e (0, 0)) ∧ n ≤ cap ∧ cap ≤ maxLen ∧ cur.size = cap * fs.length ∧ cur.toList.take (n * fs.length) = xs := by
      rcases ho'.2 with ⟨hv0, _⟩ | ⟨g, cap, cur, hv0, h1, h2, h3, h4, h5, h6⟩
      · rw [had] at hv0; cases hv0
      · rw [had] at hv0
        simp only [Value.slice.injEq, Option.some.injEq, Addr.mk.injEq, and_true, true_and] at hv0
        obtain ⟨rfl, rfl⟩ := hv0
        exact ⟨_, cur, rfl, h1, h2, h3, h4, h5, h6⟩
    obtain ⟨s1, s2⟩ := setFs_spec hset
    have hone : ∀ u ∈ v.cells.toList, u.oneCell' = true := fun u hu => by
      obtain ⟨q, hq⟩ := List.getElem?_of_mem hu
      have hql := (List.getElem?_eq_some_iff.1 hq).1
      simp only [Array.length_toList] at hql
      have hj : fld + q < fs'.length := by rw [s1]; omega
      obtain ⟨f, _, hat⟩ := s2 (fld + q) fs'[fld + q] (List.getElem?_eq_getElem hj)
      have := hat row
      rw [if_pos ⟨rfl, by omega, by simp; omega⟩, show fld + q - fld = q by omega, List.getD_eq_getElem?_getD, hq] at this
      simp only [Option.getD_some] at this
      rw [← this]
      exact at_oneCell _ _
    have hend : row * fs.length + fs.length ≤ n * fs.length := by
      have : (row + 1) * fs.length ≤ n * fs.length := Nat.mul_le_mul_right _ hrow
      rw [Nat.add_mul] at this; omega
    have hcurn : n * fs.length ≤ cur.size := by rw [hcs]; exact Nat.mul_le_mul_right _ hnc
    have hst := run_storeCells_at (P := P) k (row * fs.length + fld) e v.cells.toList 0 cur w hg (by simp only [Array.length_toList]; omega) hone
    simp only [Nat.add_zero] at hst
    have hrel := h.rewrite (x := .grow e n fs') (c' := (cur.toList.take (row * fs.length + fld) ++ v.cells.toList ++ cur.toList.drop (row * fs.length + fld + v.cells.toList.length)).toArray) (by rw [hgd]; rfl) hblen hr had hbg ?_
    · refine wp_skipped ?_ (hK _ _ ⟨ρ, hrel.put o.dst (show VRel ρ (.val undef) undef from rfl)⟩)
      unfold execOp
      simp only [ho, hxe, hsz, hyv, Instr.storeAt, Instr.sureAddr, Sem.run_bind, Sem.run_pure, Result.andThen_ok, storeVar, semVal_run hn, ne_eq, not_true_eq_false, if_false, Nat.zero_add]
      simp only [hst, Result.andThen_ok, Sem.run_pure]
    · have hnl : ∀ q, ((cur.toList.take (row * fs.length + fld) ++ v.cells.toList ++ cur.toList.drop (row * fs.length + fld + v.cells.toList.length)).take (n * fs.length))[q]? = if q < n * fs.length then (if row * fs.length + fld ≤ q ∧ q < row * fs.length + fld + v.cells.size then v.cells.toList[q - (row * fs.length + fld)]? else cur.toList[q]?) else none := fun q => by
        rw [List.getElem?_take]
        split
        · have hcl : cur.toList.length = cur.size := Array.length_toList
          rw [List.append_assoc, List.getElem?_append, List.length_take, hcl, Nat.min_eq_left (by omega)]
          split
          · rename_i hq1 hq2
            rw [if_neg (by omega), List.getElem?_take, if_pos hq2]
          · rename_i hq1 hq2
            rw [List.getElem?_append]
            simp only [Array.length_toList]
            split
            · rename_i hq3; rw [if_pos (by omega)]
            · rename_i hq3
              rw [if_neg (by omega), List.getElem?_drop]
              congr 1; omega
        · rfl
      refine ⟨r, (cur.toList.take (row * fs.length + fld) ++ v.cells.toList ++ cur.toList.drop (row * fs.length + fld + v.cells.toList.length)).take (n * fs.length), hr, hm, by rw [s1]; exact hpos, ?_, ?_⟩
      · rw [s1, had, hcap]
        refine ⟨by simp only [List.length_take, List.length_append, List.length_drop, Array.length_toList]; omega, .inr ⟨k, cap, _, rfl, hbg, setRow_heap w k cur _ e _ hg, hnc, hcm, ?_, rfl⟩⟩
        simp only [List.size_toArray, List.length_append, List.length_take, List.length_drop, Array.length_toList]
        omega
      · intro i hi j g hg'
        rw [s1, hnl]
        obtain ⟨f, hfj, hat⟩ := s2 j g hg'
        have hj : j < fs.length := (List.getElem?_eq_some_iff.1 hfj).1
        have hij : i * fs.length + j < n * fs.length := by
          have : (i + 1) * fs.length ≤ n * fs.length := Nat.mul_le_mul_right _ hi
          rw [Nat.add_mul] at this; omega
        rw [if_pos hij, hat i]
        have hold := hf i hi j f hfj
        rw [← htake, List.getElem?_take, if_pos hij] at hold
        by_cases hc2 : i = row ∧ fld ≤ j ∧ j < fld + v.cells.toList.length
        · obtain ⟨rfl, h3, h4⟩ := hc2
          simp only [Array.length_toList] at h4
          rw [if_pos (by omega), if_pos ⟨rfl, h3, by simpa using h4⟩, show i * fs.length + j - (i * fs.length + fld) = j - fld by omega, List.getD_eq_getElem?_getD, List.getElem?_eq_getElem (by simp only [Array.length_toList]; omega)]
          rfl
        · rw [if_neg hc2, if_neg ?_]
          · exact hold
          · rintro ⟨h3, h4⟩
            simp only [Array.length_toList] at hc2
            refine hc2 ?_
            have : i = row := by
              rcases Nat.lt_trichotomy i row with hlt | heq | hgt
              · have : (i + 1) * fs.length ≤ row * fs.length := Nat.mul_le_mul_right _ hlt
                rw [Nat.add_mul] at this; omega
              · exact heq
              · have : (row + 1) * fs.length ≤ i * fs.length := Nat.mul_le_mul_right _ hgt
                rw [Nat.add_mul] at this; omega
            subst this
            exact ⟨rfl, by omega, by omega⟩
  | make t e x y i z kl kc n d fs ho hd hh hx hy ht hi hz hzs hpos hf h0 h63 hby =>
    have hxv := eval_val h hx
    have hyv := eval_val h hy
    obtain ⟨q1, q2⟩ := zeroFs_spec hf
    obtain ⟨N, rfl⟩ := Int.eq_ofNat_of_zero_le h0
    simp only [Int.toNat_natCast] at h63 hby hK
    have hsz : fs.length = i.size := by rw [q1, Array.length_toList, hzs]
    have hrun := run_make (P := P) w t e i z ht hi hz kl kc N N (by omega) (Int.le_refl _) (by
      have : ((i.bytes * N : Nat) : Int) ≤ 281474976710656 := by rw [Nat.mul_comm]; omega
      rwa [Int.natCast_mul] at this) (by simp only [maxLen] at h63; omega)
    simp only [Int.toNat_natCast] at hrun
    have hown := World.ownsRow_lit (base := w0.heap.size) (e := e) (size := i.size) w (madeCells z.cells (N * i.size)) N h.below.size h63 (size_madeCells _ _)
    obtain ⟨hl, hrel⟩ := h.newSlot hh ((Below.refl w.heap.size w).alloc (Nat.le_refl _) (.cells (madeCells z.cells (N * i.size)) e)) ⟨some ⟨w.heap.size, 0, none⟩, N, some N⟩ (.grow e N fs)
      ⟨_, (madeCells z.cells (N * i.size)).toList, updR_same _ _ _, rfl, by rw [hsz]; exact hpos, by rw [hsz]; exact hown, fun p hp j g hg => by
        obtain ⟨u, hu, hat⟩ := q2 j g hg
        have hj : j < i.size := by rw [← hsz]; exact (List.getElem?_eq_some_iff.1 hg).1
        have hlt : p * i.size + j < N * i.size := by
          have : (p + 1) * i.size ≤ N * i.size := Nat.mul_le_mul_right _ hp
          rw [Nat.add_mul] at this; omega
        have e1 : (p * i.size + j) % i.size = j := by rw [Nat.mul_comm, Nat.mul_add_mod]; exact Nat.mod_eq_of_lt hj
        rw [hsz, hat p]
        simp only [madeCells, Array.toList_map, Array.toList_range, List.getElem?_map, List.getElem?_range hlt, Option.map_some, hzs, e1]
        rw [Array.getElem?_toList] at hu
        rw [getElem!_def, hu]⟩ (fun ad had _ => by cases had; exact Nat.le_refl _)
    refine wp_val (x := .slice (some ⟨w.heap.size, 0, none⟩) N N) (w' := w.alloc (.cells (madeCells z.cells (N * i.size)) e)) ?_ (hK _ _ ⟨_, hrel.put o.dst ⟨_, updR_same _ _ _, fun m hm => (by cases hm; rfl), rfl⟩⟩)
    unfold execOp
    simp only [ho, hxv, hyv, hrun, Sem.run_bind, Result.andThen_ok, Sem.run_pure]
  | app c x y t e i z b d sz n m n1 fs fs2 fs3 rd2 ho hc ha hat hd hh hx hy hb ht hi hz hzs hl1 hl2 h3 h63 hby =>
    have hxr := h.tm.eval x
    rw [hx] at hxr
    obtain ⟨r, hr, hlim, hxe⟩ := hxr
    obtain ⟨A2, c2, hye, _, hrows⟩ := avOf_sound h (h.tm.eval y) hy
    have hgb : s.hp.getD b .none = .grow e n1 fs := by simp [List.getD_eq_getElem?_getD, hb]
    have hbl : b < s.hp.length := (List.getElem?_eq_some_iff.1 hb).1
    have hbd : b ≠ d := fun e => by subst e; rw [hb] at hh; cases hh
    have hB := h.hp b
    rw [hgb] at hB
    obtain ⟨r', xs, g1, gm, gp, go, gf⟩ := hB
    rw [hr] at g1; cases g1
    have hn := hlim n1 gm; subst hn
    obtain ⟨s1, s2, s3⟩ := catFs_spec h3
    rw [hl1] at go gf gp
    have gp2 : 0 < fs2.length := by rw [hl2]; exact gp
    have hlen2 : (rowCells fs2 m).length = m * i.size := by rw [rowCells_length, hl2]
    have hnews : ∀ ad, A2 = some ad → ∀ j u, (rowCells fs2 m)[j]? = some u → w.cell? (ad.add j) = some u := fun ad had j u hu => by
      obtain ⟨f, hf, hq, rfl⟩ := rowCells_get gp2 hu
      obtain ⟨ad', k1, k2, _, _, k5⟩ := hrows (Nat.lt_of_le_of_lt (Nat.zero_le _) hq)
      rw [had] at k1; cases k1
      rw [addr_add' k2]
      have := k5 _ hq _ f hf
      rwa [Nat.mul_comm, Nat.div_add_mod] at this
    have hA2 : A2 = none → m = 0 := fun e => by
      rcases Nat.eq_zero_or_pos m with h0 | h0
      · exact h0
      · obtain ⟨ad', k1, _⟩ := hrows h0
        rw [e] at k1; cases k1
    have h1 : ∀ u ∈ rowCells fs2 m, u.oneCell' = true := fun u hu => by
      obtain ⟨q, hq⟩ := List.getElem?_of_mem hu
      obtain ⟨f, _, _, rfl⟩ := rowCells_get gp2 hq
      exact at_oneCell _ _
    obtain ⟨v', w', hrun, hown, hgrown, hwhere⟩ := run_append_any (ty := o.type) ht hi hz hzs gp go (A := A2) (c := c2) hlen2 hnews hA2 h1 h63 hby h.below.size
    obtain ⟨A', cap', hv', hA'⟩ : ∃ A' cap', v' = .slice A' (n1 + m) cap' ∧ ∀ ad, A' = some ad → ad.off = 0 ∧ ad.spot = none := by
      rcases hown.2 with ⟨hv, h0⟩ | ⟨g, cap, cur, hv, _, hg, _⟩
      · exact ⟨none, 0, by rw [hv, h0], fun ad had => by cases had⟩
      · exact ⟨_, cap, hv, fun ad had => by cases had; exact ⟨rfl, rfl⟩⟩
    subst hv'
    have hgr : ∀ k, (Value.slice r.addr n1 r.cap).ownBlock = some k → w0.heap.size ≤ k := fun k hk => (go.lt k hk).1
    have hBl : Below w0.heap.size w w' := (Below.refl w0.heap.size w).grown hgrown h.below.size hgr
    obtain ⟨hl, hrel⟩ := h.rebind hh hbl hbd hr (r := ⟨A', cap', some (n1 + m)⟩) (x := .grow e (n1 + m) fs3) (w' := w')
      ⟨_, xs ++ rowCells fs2 m, updR_same _ _ _, rfl, by rw [s1, hl1]; exact gp, by rw [s1, hl1]; exact hown, fun q hq j g hg => by
        obtain ⟨f1, f2, e1, e2, e3, e4⟩ := s3 j g hg
        have hj : j < i.size := by rw [← hl1]; exact (List.getElem?_eq_some_iff.1 e1).1
        rw [s1, hl1]
        rcases Nat.lt_or_ge q n1 with hlt | hge
        · have hlt2 : q * i.size + j < xs.length := by
            have : (q + 1) * i.size ≤ n1 * i.size := Nat.mul_le_mul_right _ hlt
            rw [Nat.add_mul] at this; rw [go.1]; omega
          rw [List.getElem?_append_left hlt2, e3 q hlt]
          exact gf q hlt j f1 e1
        · have hge2 : n1 * i.size ≤ q * i.size := Nat.mul_le_mul_right _ hge
          rw [List.getElem?_append_right (by rw [go.1]; omega), e4 q hge, go.1]
          have := rowCells_at (m := m) (i := q - n1) (by omega) e2
          rw [hl2, Nat.sub_mul] at this
          rw [show q * i.size + j - n1 * i.size = q * i.size - n1 * i.size + j by omega]
          exact this⟩
      (fun _ => by rw [hgb]; rfl) (fun _ => by rw [hgb]; trivial) hBl
      (fun k hk hne => hgrown.block k hk fun e => by
        cases hA : r.addr with
        | none => rw [hA] at e; simp [Value.ownBlock] at e
        | some ad => rw [hA] at e; simp only [Value.ownBlock, Option.some.injEq] at e; exact hne (by rw [hgb]; rfl) ad hA e.symm)
      (fun ad had _ => by
        have had' : A' = some ad := had
        rw [had'] at hwhere
        rcases hwhere with hw | hw
        · cases hA : r.addr with
          | none => rw [hA] at hw; simp [Value.ownBlock] at hw
          | some ad0 => rw [hA] at hw; simp only [Value.ownBlock, Option.some.injEq] at hw; exact .inl ⟨ad0, rfl, hw.symm⟩
        · simp only [Value.ownBlock, Option.some.injEq] at hw
          exact .inr (by omega))
    refine wp_val (x := .slice A' (n1 + m) cap') (w' := w') ?_ (hK _ _ ⟨_, hrel.put o.dst ⟨_, updR_same _ _ _, fun q hq => (by cases hq; rfl), rfl⟩⟩)
    unfold execOp
    simp only [ho, resolve, hc, ha, hat, invoke, builtin, Sem.run_bind, Sem.run_pure, Result.andThen_ok, List.map_toArray, List.map_cons, List.map_nil, hxe, hye, hrun]
  | arr t x ix b row sz fld len n k i e ho hx hi ht hn h0 h1 =>
    have hxr := h.tm.eval x
    rw [hx] at hxr
    obtain ⟨r, ad, hr, had, hlim, hxe⟩ := hxr
    have hiv := eval_val h hi
    refine wp_val (x := .pointer (some ⟨ad.block, ad.off + (row * sz + (fld + i.toNat * n)), none⟩)) (w' := w) ?_ ((keep h (show VRel ρ (.ptr b row sz (fld + i.toNat * n)) _ from ⟨r, ad, hr, had, hlim, rfl⟩)).resolve_right (fun n => n rfl))
    unfold execOp
    simp only [ho, hxe, hiv, Instr.indexAt, asIntOf, Sem.run_bind, run_underlying ht, Result.andThen_ok, Sem.run_pure, Instr.sureAddr, h0, h1, and_self, if_true, semVal_run hn, addr_add]
    rw [show ad.off + (row * sz + fld) + i.toNat * n = ad.off + (row * sz + (fld + i.toNat * n)) by omega]
  | eqs op t yt x y a b q ho hop hx hy hg hq =>
    have hxv := eval_val h hx
    have hyv := eval_val h hy
    have hE := eqV_sound (w := w) 10 hq 10000 (by omega)
    refine wp_val (x := .bool (eqSign op q)) (w' := w) ?_ ((keep h (show VRel ρ (.val _) _ from rfl)).resolve_right (fun n => n rfl))
    unfold execOp
    rcases hop with rfl | rfl
    · simp only [ho, hxv, hyv, Sem.run_bind, run_eqGuard_agg w .eql t x y a b hg, Result.andThen_ok, run_eql_struct, hE, Sem.run_pure, eqSign]
    · simp only [ho, hxv, hyv, Sem.run_bind, run_eqGuard_agg w .neq t x y a b hg, Result.andThen_ok, run_neq_struct, hE, Sem.run_pure, eqSign]
  | strAt t x ix q k i u ho hx hi ht h0 hs =>
    have hxv := eval_val h hx
    have hiv := eval_val h hi
    refine wp_val (x := .int .u8 u.toNat) (w' := w) ?_ ((keep h (show VRel ρ (.val (.int .u8 u.toNat)) _ from rfl)).resolve_right (fun n => n rfl))
    unfold execOp
    simp only [ho, hxv, hiv, Instr.index, asIntOf, Sem.run_bind, run_underlying ht, Result.andThen_ok, Sem.run_pure, h0, if_true, hs]
  | gidx t x ix g sz len n fs k i e ho hx hi ht hn h0 h1 hg hl =>
    have hxr := h.tm.eval x
    rw [hx] at hxr
    obtain ⟨hxe, _⟩ := hxr
    have hiv := eval_val h hi
    refine wp_val (x := .pointer (some ⟨g, i.toNat * sz + 0, none⟩)) (w' := w) ?_ ((keep h (show VRel ρ (.gp g i.toNat sz 0) _ from ⟨rfl, n, fs, hg, by omega⟩)).resolve_right (fun n => n rfl))
    unfold execOp
    simp only [ho, hxe, hiv, Instr.indexAt, asIntOf, Sem.run_bind, run_underlying ht, Result.andThen_ok, Sem.run_pure, Instr.sureAddr, h0, h1, and_self, if_true, semVal_run hn, addr_add]
    rw [show 0 * sz + 0 + i.toNat * sz = i.toNat * sz + 0 by omega]
  | gfield t x f g row sz fld fs fl n ho hx ht hf hn =>
    have hxr := h.tm.eval x
    rw [hx] at hxr
    obtain ⟨hxe, hrow⟩ := hxr
    refine wp_val (x := .pointer (some ⟨g, row * sz + (fld + fl.offset), none⟩)) (w' := w) ?_ ((keep h (show VRel ρ (.gp g row sz (fld + fl.offset)) _ from ⟨rfl, hrow⟩)).resolve_right (fun n => n rfl))
    unfold execOp
    simp only [ho, hxe, Instr.fieldAt, Sem.run_bind, run_underlying ht, Result.andThen_ok, hf, Instr.sureAddr, Sem.run_pure, fieldPlace, semVal_run hn, Nat.add_one_ne_zero, if_false, addr_add]
    rw [show row * sz + fld + fl.offset = row * sz + (fld + fl.offset) by omega]
  | gload t x g row sz fld n fs f ho hx ht hg hs hf =>
    have hxr := h.tm.eval x
    rw [hx] at hxr
    obtain ⟨hxe, n', fs', hg', hrow⟩ := hxr
    rw [hg] at hg'; cases hg'
    subst hs
    have hy := ((h.laid.below h.below) g n fs hg).2 row hrow fld f hf
    refine wp_val (x := f.at row) (w' := w) ?_ ((keep h (show VRel ρ (.val (f.at row)) _ from rfl)).resolve_right (fun n => n rfl))
    unfold execOp
    simp [ho, hxe, Instr.loadAt, Instr.sureAddr, loadVar, semVal_run ht, hy]
  | tindex t x ix dp l k i e ho hx hi ht hn h0 h1 =>
    have hxr := h.tm.eval x
    rw [hx] at hxr
    obtain ⟨A, cap, hxe, hk⟩ := hxr
    have hiv := eval_val h hi
    obtain ⟨ad, had, hsp⟩ : ∃ ad, A = some ad ∧ ad.spot = none := by
      cases l with
      | nil => simp at h1; omega
      | cons u l => obtain ⟨⟨ad, e1, e2, _⟩, _⟩ := hk.cons; exact ⟨ad, e1, e2⟩
    subst had
    refine wp_val (x := .pointer (some ⟨ad.block, ad.off + (i.toNat * 1 + 0), none⟩)) (w' := w) ?_ ((keep h (show VRel ρ (.tp dp l i.toNat 0) _ from ⟨ad, rfl, hsp, by omega, hk⟩)).resolve_right (fun n => n rfl))
    have hel : P.elem t = e := by simp [Program.elem, ht]
    unfold execOp
    simp only [ho, hxe, hiv, Sem.run_bind, run_indexAt_slice w t ad l.length cap k i (by rw [hel]; exact ht), h0, h1, and_self, if_true, hel, semVal_run hn, Result.andThen_ok, Sem.run_pure, addr_add' hsp, Nat.add_zero]
  | tfield t x f dp l row fld fs fl n ho hx ht hf hn =>
    have hxr := h.tm.eval x
    rw [hx] at hxr
    obtain ⟨ad, hxe, hsp, hrow, hk⟩ := hxr
    refine wp_val (x := .pointer (some ⟨ad.block, ad.off + (row * 1 + (fld + fl.offset)), none⟩)) (w' := w) ?_ ((keep h (show VRel ρ (.tp dp l row (fld + fl.offset)) _ from ⟨ad, rfl, hsp, hrow, hk⟩)).resolve_right (fun n => n rfl))
    unfold execOp
    simp only [ho, hxe, Instr.fieldAt, Sem.run_bind, run_underlying ht, Result.andThen_ok, hf, Instr.sureAddr, Sem.run_pure, fieldPlace, semVal_run hn, Nat.add_one_ne_zero, if_false, addr_add]
    rw [show ad.off + (row * 1 + fld) + fl.offset = ad.off + (row * 1 + (fld + fl.offset)) by omega]
  | tload t x dp l row fld u v ho hx ht hu hv =>
    have hxr := h.tm.eval x
    rw [hx] at hxr
    obtain ⟨ad, hxe, hsp, hrow, hk⟩ := hxr
    obtain ⟨ad', e1, _, hT⟩ := hk.get hu
    cases e1
    obtain ⟨y, hy, hvr⟩ := tmCell_sound hT hv
    have hy' := h.fzCell hy
    simp only [Nat.zero_add, Nat.mul_one] at hy' hxe
    refine wp_val (x := y) (w' := w) ?_ ((keep h hvr).resolve_right (fun n => n rfl))
    unfold execOp
    simp [ho, hxe, Instr.loadAt, Instr.sureAddr, loadVar, semVal_run ht, hy']
  | callT c f avs rd dp l ho hc ha hC =>
    obtain ⟨ha1, ha2⟩ := avsOf_sound h c.args.toList ha
    have hargs : ArgsRel ρ.fz w (c.args.map a.eval) avs := ⟨by simp [ha1], fun i av hi => by
      obtain ⟨x, hx, hr⟩ := ha2 i av hi
      exact ⟨x, by simpa using hx, hr⟩⟩
    have hcall := (hC ρ.fz w _ h.fz (h.laid.below h.below) hargs).old (fun v e => by cases e)
    have hex : (execOp a.eval o).run P w = (callFunc f (c.args.map a.eval)).run P w := by
      unfold execOp
      simp [ho, resolve, hc, Act.eval, Deferred.ofValue, invoke]
    have fin : ∀ (x : Value) (w' : World), (Below w.heap.size w w' ∧ ∃ fz', FzW fz' w' ∧ FzNew ρ.fz fz' w.heap.size ∧ AVRel fz' w' w.heap.size x (.tsl dp l)) → K (a.put o.dst x) w' := fun x w' ⟨hb, fz', q1, q2, hx⟩ => by
      obtain ⟨hl, hr⟩ := h.fzMore hb q1 q2
      exact hK _ _ ⟨_, hr.put o.dst (show VRel ⟨ρ.f, fz'⟩ (.tsl dp l) x from hx)⟩
    unfold Oper.wp
    rw [hex]
    unfold CallOk at hcall
    split at hcall
    · rename_i g as w' hrun
      obtain ⟨rfl, hcall⟩ := hcall
      rw [hrun]
      refine hcall.mono fun e w'' ⟨x, he, hx⟩ => ?_
      subst he
      exact fin _ _ hx
    · rename_i v' w' hrun
      rw [hrun]
      exact fin _ _ hcall
    · exact hcall.elim
  | callPk c f avs rd l ps ho hc ha hps hC =>
    obtain ⟨ha1, ha2⟩ := avsOf_sound h c.args.toList ha
    have hargs : ArgsRel ρ.fz w (c.args.map a.eval) avs := ⟨by simp [ha1], fun i av hi => by
      obtain ⟨x, hx, hr⟩ := ha2 i av hi
      exact ⟨x, by simpa using hx, hr⟩⟩
    have hcall := (hC ρ.fz w _ h.fz (h.laid.below h.below) hargs).old (fun v e => by cases e)
    have hex : (execOp a.eval o).run P w = (callFunc f (c.args.map a.eval)).run P w := by
      unfold execOp
      simp [ho, resolve, hc, Act.eval, Deferred.ofValue, invoke]
    have fin : ∀ (x : Value) (w' : World), (Below w.heap.size w w' ∧ ∃ fz', FzW fz' w' ∧ FzNew ρ.fz fz' w.heap.size ∧ AVRel fz' w' w.heap.size x (.pk l)) → K (a.put o.dst x) w' := fun x w' ⟨hb, fz', q1, q2, hx⟩ => by
      obtain ⟨hl, hr⟩ := h.fzMore hb q1 q2
      obtain ⟨cc, e1, e2, e3⟩ := hx
      obtain ⟨i1, i2⟩ := pvOf_get hps
      refine hK _ _ ⟨_, hr.put o.dst (show VRel ⟨ρ.f, fz'⟩ (.pk ps) x from ⟨cc, e1, by rw [i1, e2], fun i p hp => ?_⟩)⟩
      obtain ⟨q, hq, hqr⟩ := i2 i p hp
      obtain ⟨y, hy, hyr⟩ := e3 i q hq
      exact ⟨y, hy, hqr ⟨ρ.f, fz'⟩ w' _ y hyr⟩
    unfold Oper.wp
    rw [hex]
    unfold CallOk at hcall
    split at hcall
    · rename_i g as w' hrun
      obtain ⟨rfl, hcall⟩ := hcall
      rw [hrun]
      refine hcall.mono fun e w'' ⟨x, he, hx⟩ => ?_
      subst he
      exact fin _ _ hx
    · rename_i v' w' hrun
      rw [hrun]
      exact fin _ _ hcall
    · exact hcall.elim
  | buildPk t parts fs z places ps rd ho hz ht hpl hf =>
    obtain ⟨cells', g1, g2, g3⟩ := fillPV_sound h parts.toList (vals_crel ρ z.cells) hf
    refine wp_val (x := .agg cells') (w' := w) ?_ ((keep h (show VRel ρ (.pk ps) _ from ⟨cells', rfl, g2⟩)).resolve_right (fun n => n rfl))
    have hpl' := semVal_run hpl w
    unfold fieldPlaces at hpl'
    have hm : (parts.map fun (x : Nat × Operand) => (x.1, a.eval x.2)).toList = parts.toList.map fun x => (x.1, a.eval x.2) := by simp
    unfold execOp
    simp only [ho, Instr.build, Sem.run_bind, semVal_run hz, run_underlying ht, Result.andThen_ok, hpl', Sem.run_pure]
    rw [hm, g1]
    rfl
  | rowK t len parts d e cells ps rd dp l ho hd hh hp hf hl h63 hlen =>
    obtain ⟨cells', g1, g2, g3⟩ := fillPV_sound h parts.toList (vals_crel ρ cells) hf
    obtain ⟨t1, t2⟩ := tmsOf_sound hl (fun i => cells'[i]?) fun i p hp => g2.2 i p hp
    have hsz : cells'.size = l.length * 1 := by rw [← g2.1, t1]
    have hB := h.below.size
    obtain ⟨hle, hr⟩ := h.newSlot hh ((Below.refl w.heap.size w).alloc (Nat.le_refl _) (.cells cells' e)) ⟨some ⟨w.heap.size, 0, none⟩, len, some len⟩ (.growK e dp l)
      ⟨_, cells'.toList, updR_same _ _ _, by rw [hlen], ⟨by simpa using hsz, .inr ⟨w.heap.size, len, cells', by rw [hlen], hB, heap_alloc_new _ _, by rw [hlen]; exact Nat.le_refl _, h63, by rw [hsz, hlen], by rw [← hsz]; simp [List.take_of_length_le]⟩⟩, fun i t ht => by
        have := t2 i t ht
        simp only [Array.getElem?_toList]; exact this⟩ (fun ad had _ => by cases had; exact Nat.le_refl _)
    refine wp_val (x := .slice (some ⟨w.heap.size, 0, none⟩) len len) (w' := w.alloc (.cells cells' e)) ?_ (hK _ _ ⟨_, hr.put o.dst ⟨_, updR_same _ _ _, fun n hn => (by cases hn; rfl), rfl⟩⟩)
    have hm : (parts.map fun (x : Nat × Operand) => (x.1, a.eval x.2)).toList = parts.toList.map fun x => (x.1, a.eval x.2) := by simp
    unfold execOp
    simp only [ho, Sem.run_bind]
    rw [run_rowHead hp (by rw [hm]; exact g1) w]
    rfl
  | makeK t e x y i z kl kc n d dp u ho hd hh hx hy ht hi hz hzs h5 hu h0 h63 hby =>
    have hxv := eval_val h hx
    have hyv := eval_val h hy
    obtain ⟨N, rfl⟩ := Int.eq_ofNat_of_zero_le h0
    simp only [Int.toNat_natCast] at h63 hby hK
    have hrun := run_make (P := P) w t e i z ht hi hz kl kc N N (by omega) (Int.le_refl _) (by
      have : ((i.bytes * N : Nat) : Int) ≤ 281474976710656 := by rw [Nat.mul_comm]; omega
      rwa [Int.natCast_mul] at this) (by simp only [maxLen] at h63; omega)
    simp only [Int.toNat_natCast, h5] at hrun
    have hown := World.ownsRow_lit (base := w0.heap.size) (e := e) (size := 1) w (madeCells z.cells (N * 1)) N h.below.size h63 (size_madeCells _ _)
    obtain ⟨_, t2⟩ := tmsOf_sound (ρ := ρ) hu (fun i => z.cells[i]?) fun i p hp => (vals_crel ρ z.cells).2 i p hp
    have ht0 := t2 0 u rfl
    obtain ⟨hl, hrel⟩ := h.newSlot hh ((Below.refl w.heap.size w).alloc (Nat.le_refl _) (.cells (madeCells z.cells (N * 1)) e)) ⟨some ⟨w.heap.size, 0, none⟩, N, some N⟩ (.growK e dp (List.replicate N u))
      ⟨_, (madeCells z.cells (N * 1)).toList, updR_same _ _ _, by simp, by rw [List.length_replicate]; exact hown, fun p t hp => by
        rw [List.getElem?_replicate] at hp
        split at hp
        · rename_i hlt
          cases hp
          refine ht0.mono5 (fun _ _ h => h) fun j hj v hv => ?_
          have hq : p * 1 + j < N * 1 := by omega
          have e1 : (p * 1 + j) % 1 = j := by omega
          rw [Nat.zero_mul, Nat.zero_add] at hv
          simp only [madeCells, Array.toList_map, Array.toList_range, List.getElem?_map, List.getElem?_range hq, Option.map_some, hzs, h5, e1]
          rw [getElem!_def, hv]
        · cases hp⟩ (fun ad had _ => by cases had; exact Nat.le_refl _)
    refine wp_val (x := .slice (some ⟨w.heap.size, 0, none⟩) N N) (w' := w.alloc (.cells (madeCells z.cells (N * 1)) e)) ?_ (hK _ _ ⟨_, hrel.put o.dst ⟨_, updR_same _ _ _, fun m hm => (by cases hm; rfl), rfl⟩⟩)
    unfold execOp
    simp only [ho, hxv, hyv, hrun, Sem.run_bind, Result.andThen_ok, Sem.run_pure]
  | storeK t x y b row e dp l ps rd u ho hx hc hy hn hu =>
    have hxr := h.tm.eval x
    rw [hx] at hxr
    obtain ⟨r, ad, hr, had, hlim, hxe⟩ := hxr
    obtain ⟨hcr, hone⟩ := cellsPV_sound h (h.tm.eval y) hy
    have hgd : s.hp.getD b .none = .growK e dp l := by simp [List.getD_eq_getElem?_getD, hc]
    have hblen : b < s.hp.length := (List.getElem?_eq_some_iff.1 hc).1
    have hb := h.hp b
    rw [hgd] at hb
    obtain ⟨k, cur, rfl, hbg, hg, hm, hnc, hcm, hcs, hts⟩ := growK_at hb hr had
    have hrow := hlim _ hm
    obtain ⟨t1, t2⟩ := tmsOf_sound hu (fun i => (a.eval y).cells[i]?) fun i p hp => hcr.2 i p hp
    have hsz : (a.eval y).cells.size = 1 := by rw [← hcr.1, t1]; rfl
    have hend : row * 1 + 1 ≤ l.length * 1 := by omega
    have hcurn : l.length * 1 ≤ cur.size := by rw [hcs]; exact Nat.mul_le_mul_right _ hnc
    have hst := run_storeCells_at (P := P) k (row * 1) e (a.eval y).cells.toList 0 cur w hg (by simp only [Array.length_toList]; omega) hone
    simp only [Nat.add_zero] at hst
    have hrel := h.rewrite (x := .growK e dp (l.set row u)) (c' := (cur.toList.take (row * 1) ++ (a.eval y).cells.toList ++ cur.toList.drop (row * 1 + (a.eval y).cells.toList.length)).toArray) (by rw [hgd]; rfl) hblen hr had hbg ?_
    · refine wp_skipped ?_ (hK _ _ ⟨ρ, hrel.put o.dst (show VRel ρ (.val undef) undef from rfl)⟩)
      unfold execOp
      simp only [ho, hxe, Nat.add_zero, Instr.storeAt, Instr.sureAddr, Sem.run_bind, Sem.run_pure, Result.andThen_ok, storeVar, semVal_run hn, hsz, ne_eq, not_true_eq_false, if_false, Nat.zero_add]
      simp only [hst, Result.andThen_ok, Sem.run_pure]
    · have hnl : ∀ q, q < l.length * 1 → ((cur.toList.take (row * 1) ++ (a.eval y).cells.toList ++ cur.toList.drop (row * 1 + (a.eval y).cells.toList.length)).take (l.length * 1))[q]? = (if row * 1 ≤ q ∧ q < row * 1 + 1 then (a.eval y).cells[q - row * 1]? else cur.toList[q]?) := fun q hq => by
        have hcl : cur.toList.length = cur.size := Array.length_toList
        rw [List.getElem?_take, if_pos hq, List.append_assoc, List.getElem?_append, List.length_take, hcl, Nat.min_eq_left (by omega)]
        split
        · rename_i hq2
          rw [if_neg (by omega), List.getElem?_take, if_pos hq2]
        · rename_i hq2
          rw [List.getElem?_append]
          simp only [Array.length_toList, hsz]
          split
          · rename_i hq3; rw [if_pos (by omega), Array.getElem?_toList]
          · rename_i hq3
            rw [if_neg (by omega), List.getElem?_drop]
            congr 1; omega
      refine ⟨r, (cur.toList.take (row * 1) ++ (a.eval y).cells.toList ++ cur.toList.drop (row * 1 + (a.eval y).cells.toList.length)).take (l.length * 1), hr, by rw [hm, List.length_set], ?_, ?_⟩
      · rw [had, List.length_set]
        refine ⟨by simp only [List.length_take, List.length_append, List.length_drop, Array.length_toList, hsz]; omega, .inr ⟨k, r.cap, _, rfl, hbg, setRow_heap w k cur _ e _ hg, hnc, hcm, ?_, rfl⟩⟩
        simp only [List.size_toArray, List.length_append, List.length_take, List.length_drop, Array.length_toList, hsz]
        omega
      · intro i t hi
        rw [List.getElem?_set] at hi
        split at hi
        · rename_i e1; subst e1
          cases hi
          refine (t2 0 u rfl).mono5 (fun _ _ h => h) fun j hj v hv => ?_
          show (List.take _ _)[row * 1 + j]? = some v
          rw [hnl _ (by omega), if_pos (by omega)]
          rw [show row * 1 + j - row * 1 = 0 * 1 + j by omega]; exact hv
        · rename_i hne
          have hil : i < l.length := (List.getElem?_eq_some_iff.1 hi).1
          refine (hts i t hi).mono5 (fun _ _ h => h) fun j hj v hv => ?_
          show (List.take _ _)[i * 1 + j]? = some v
          rw [hnl _ (by omega), if_neg (by omega)]
          have hv' : (cur.toList.take (l.length * 1))[i * 1 + j]? = some v := hv
          rw [List.getElem?_take, if_pos (by omega)] at hv'
          exact hv'
  | appK c x y t e i z b d n dp l l2 rd2 ho hc ha hat hd hh hx hy hb ht hi hz hzs h5 h63 hby =>
    have hxr := h.tm.eval x
    rw [hx] at hxr
    obtain ⟨r, hr, hlim, hxe⟩ := hxr
    obtain ⟨A2, c2, hye, hkids⟩ := avOf_sound h (h.tm.eval y) hy
    have hgb : s.hp.getD b .none = .growK e dp l := by simp [List.getD_eq_getElem?_getD, hb]
    have hbl : b < s.hp.length := (List.getElem?_eq_some_iff.1 hb).1
    have hbd : b ≠ d := fun e => by subst e; rw [hb] at hh; cases hh
    have hB := h.hp b
    rw [hgb] at hB
    obtain ⟨r', xs, g1, gm, go, gf⟩ := hB
    rw [hr] at g1; cases g1
    have hn := hlim _ gm; subst hn
    obtain ⟨news, hlen2, hnews, hA2, h1, hterms⟩ := kids_news h hkids
    have go' := go
    rw [← h5] at go'
    obtain ⟨v', w', hrun, hown, hgrown, hwhere⟩ := run_append_any (ty := o.type) ht hi hz hzs (by omega) go' (A := A2) (c := c2) (m := l2.length) (by rw [h5]; exact hlen2) hnews hA2 h1 h63 hby h.below.size
    rw [h5] at hown
    obtain ⟨A', cap', hv', hA'⟩ : ∃ A' cap', v' = .slice A' (l.length + l2.length) cap' ∧ ∀ ad, A' = some ad → ad.off = 0 ∧ ad.spot = none := by
      rcases hown.2 with ⟨hv, h0⟩ | ⟨g, cap, cur, hv, _, hg, _⟩
      · exact ⟨none, 0, by rw [hv, h0], fun ad had => by cases had⟩
      · exact ⟨_, cap, hv, fun ad had => by cases had; exact ⟨rfl, rfl⟩⟩
    subst hv'
    have hgr : ∀ k, (Value.slice r.addr l.length r.cap).ownBlock = some k → w0.heap.size ≤ k := fun k hk => (go.lt k hk).1
    have hBl : Below w0.heap.size w w' := (Below.refl w0.heap.size w).grown hgrown h.below.size hgr
    obtain ⟨hl, hrel⟩ := h.rebind hh hbl hbd hr (r := ⟨A', cap', some (l.length + l2.length)⟩) (x := .growK e dp (l ++ l2)) (w' := w')
      ⟨_, xs ++ news, updR_same _ _ _, by rw [List.length_append], by rw [List.length_append]; exact hown, fun q t hq => by
        rw [List.getElem?_append] at hq
        split at hq
        · refine (gf q t hq).mono (fun _ _ h => h) fun j v hv => ?_
          have hlt := (List.getElem?_eq_some_iff.1 hv).1
          rw [List.getElem?_append_left hlt]; exact hv
        · rename_i hge
          have hql : q - l.length < l2.length := (List.getElem?_eq_some_iff.1 hq).1
          refine (hterms _ t hq).mono (fun _ _ h => h) fun j v hv => ?_
          have hxl : xs.length = l.length * 1 := go.1
          rw [List.getElem?_append_right (by omega)]
          rw [show q * 1 + j - xs.length = (q - l.length) * 1 + j by omega]; exact hv⟩
      (fun _ => by rw [hgb]; rfl) (fun _ => by rw [hgb]; trivial) hBl
      (fun k hk hne => hgrown.block k hk fun e => by
        cases hA : r.addr with
        | none => rw [hA] at e; simp [Value.ownBlock] at e
        | some ad => rw [hA] at e; simp only [Value.ownBlock, Option.some.injEq] at e; exact hne (by rw [hgb]; rfl) ad hA e.symm)
      (fun ad had _ => by
        have had' : A' = some ad := had
        rw [had'] at hwhere
        rcases hwhere with hw | hw
        · cases hA : r.addr with
          | none => rw [hA] at hw; simp [Value.ownBlock] at hw
          | some ad0 => rw [hA] at hw; simp only [Value.ownBlock, Option.some.injEq] at hw; exact .inl ⟨ad0, rfl, hw.symm⟩
        · simp only [Value.ownBlock, Option.some.injEq] at hw
          exact .inr (by omega))
    refine wp_val (x := .slice A' (l.length + l2.length) cap') (w' := w') ?_ (hK _ _ ⟨_, hrel.put o.dst ⟨_, updR_same _ _ _, fun q hq => (by cases hq; rfl), rfl⟩⟩)
    unfold execOp
    simp only [ho, resolve, hc, ha, hat, invoke, builtin, Sem.run_bind, Sem.run_pure, Result.andThen_ok, List.map_toArray, List.map_cons, List.map_nil, hxe, hye, hrun]
  | callG c f avs rd d e dp l ho hc ha hd hh hC =>
    obtain ⟨ha1, ha2⟩ := avsOf_sound h c.args.toList ha
    have hargs : ArgsRel ρ.fz w (c.args.map a.eval) avs := ⟨by simp [ha1], fun i av hi => by
      obtain ⟨x, hx, hr⟩ := ha2 i av hi
      exact ⟨x, by simpa using hx, hr⟩⟩
    have hcall := (hC ρ.fz w _ h.fz (h.laid.below h.below) hargs).old (fun v e => by cases e)
    have hex : (execOp a.eval o).run P w = (callFunc f (c.args.map a.eval)).run P w := by
      unfold execOp
      simp [ho, resolve, hc, Act.eval, Deferred.ofValue, invoke]
    have fin : ∀ (x : Value) (w' : World), (Below w.heap.size w w' ∧ ∃ fz', FzW fz' w' ∧ FzNew ρ.fz fz' w.heap.size ∧ AVRel fz' w' w.heap.size x (.gsl e dp l)) → K (a.put o.dst x) w' := fun x w' ⟨hb, fz', q1, q2, hx⟩ => by
      obtain ⟨A, c', xs, hxe, hown, hts, hnf⟩ := hx
      obtain ⟨hl, hr⟩ := h.fzMore hb q1 q2
      have hB := h.below.size
      have hown' : w'.ownsRow w0.heap.size e 1 (.slice A l.length c') l.length xs := ⟨hown.1, by
        rcases hown.2 with hv | ⟨g, cap, cur, hv, hg, rest⟩
        · exact .inl hv
        · exact .inr ⟨g, cap, cur, hv, Nat.le_trans hB hg, rest⟩⟩
      have hblk : ∀ ad, A = some ad → w.heap.size ≤ ad.block := fun ad had => (grow_addr hown had).2.2.1
      have hr' : Rel ⟨ρ.f, fz'⟩ w0 s a w' := hr
      obtain ⟨hl2, hr2⟩ := hr'.newSlotH hh ⟨A, c', some l.length⟩ (.growK e dp l) ⟨_, xs, updR_same _ _ _, rfl, hown', hts⟩
        (fun ad b' r' ad' had _ hx1 hr1 had1 e1 => by
          have h1 := hblk ad had
          have h2 : ad'.block < w.heap.size := (h.hp b').lt (hx1.elim (fun q => q.2) (fun q => isOwn_real q.2)) hr1 had1
          omega) (fun ad _ had => hnf ad had)
      exact hK _ _ ⟨_, hr2.put o.dst ⟨_, updR_same _ _ _, fun m hm => (by cases hm; rfl), hxe⟩⟩
    unfold Oper.wp
    rw [hex]
    unfold CallOk at hcall
    split at hcall
    · rename_i g as w' hrun
      obtain ⟨rfl, hcall⟩ := hcall
      rw [hrun]
      refine hcall.mono fun e w'' ⟨x, he, hx⟩ => ?_
      subst he
      exact fin _ _ hx
    · rename_i v' w' hrun
      rw [hrun]
      exact fin _ _ hcall
    · exact hcall.elim
  | appN c x y t e i z d dp l2 rd2 ho hc ha hat hd hh hx hy ht hi hz hzs h5 h63 hby =>
    have hxv := eval_val h hx
    obtain ⟨A2, c2, hye, hkids⟩ := avOf_sound h (h.tm.eval y) hy
    obtain ⟨news, hlen2, hnews, hA2, h1, hterms⟩ := kids_news h hkids
    have go' := World.ownsRow_nil w w0.heap.size e i.size
    obtain ⟨v', w', hrun, hown, hgrown, hwhere⟩ := run_append_any (ty := o.type) ht hi hz hzs (by omega) go' (A := A2) (c := c2) (m := l2.length) (by rw [h5]; exact hlen2) hnews hA2 h1 (by omega) (by simpa using hby) h.below.size
    rw [h5] at hown
    simp only [Nat.zero_add, List.nil_append] at hown
    obtain ⟨A', cap', hv', hA'⟩ : ∃ A' cap', v' = .slice A' l2.length cap' ∧ ∀ ad, A' = some ad → ad.off = 0 ∧ ad.spot = none := by
      rcases hown.2 with ⟨hv, h0⟩ | ⟨g, cap, cur, hv, _, hg, _⟩
      · exact ⟨none, 0, by rw [hv, h0], fun ad had => by cases had⟩
      · exact ⟨_, cap, hv, fun ad had => by cases had; exact ⟨rfl, rfl⟩⟩
    subst hv'
    have hBl : Below w.heap.size w w' := (Below.refl w.heap.size w).grown hgrown (Nat.le_refl _) (fun k hk => by cases hk)
    obtain ⟨hl, hrel⟩ := h.newSlot hh hBl ⟨A', cap', some l2.length⟩ (.growK e dp l2)
      ⟨_, news, updR_same _ _ _, rfl, hown, fun q t hq => hterms q t hq⟩
      (fun ad had _ => by
        have had' : A' = some ad := had
        rw [had'] at hwhere
        rcases hwhere with hw | hw
        · cases hw
        · simp only [Value.ownBlock, Option.some.injEq] at hw
          omega)
    refine wp_val (x := .slice A' l2.length cap') (w' := w') ?_ (hK _ _ ⟨_, hrel.put o.dst ⟨_, updR_same _ _ _, fun q hq => (by cases hq; rfl), rfl⟩⟩)
    unfold execOp
    simp only [ho, resolve, hc, ha, hat, invoke, builtin, Sem.run_bind, Sem.run_pure, Result.andThen_ok, List.map_toArray, List.map_cons, List.map_nil, hxv, hye, hrun]
  | appNR c x y t e i z d m fs2 rd2 ho hc ha hat hd hh hx hy ht hi hz hzs hl2 hpos h63 hby =>
    have hxv := eval_val h hx
    obtain ⟨A2, c2, hye, _, hrows⟩ := avOf_sound h (h.tm.eval y) hy
    have gp2 : 0 < fs2.length := by rw [hl2]; exact hpos
    have hlen2 : (rowCells fs2 m).length = m * i.size := by rw [rowCells_length, hl2]
    obtain ⟨hnews, hA2, h1⟩ := rows_news gp2 hrows
    have go' := World.ownsRow_nil w w0.heap.size e i.size
    obtain ⟨v', w', hrun, hown, hgrown, hwhere⟩ := run_append_any (ty := o.type) ht hi hz hzs hpos go' (A := A2) (c := c2) hlen2 hnews hA2 h1 (by omega) (by simpa using hby) h.below.size
    simp only [Nat.zero_add, List.nil_append] at hown
    obtain ⟨A', cap', hv', hA'⟩ : ∃ A' cap', v' = .slice A' m cap' ∧ ∀ ad, A' = some ad → ad.off = 0 ∧ ad.spot = none := by
      rcases hown.2 with ⟨hv, h0⟩ | ⟨g, cap, cur, hv, _, hg, _⟩
      · exact ⟨none, 0, by rw [hv, h0], fun ad had => by cases had⟩
      · exact ⟨_, cap, hv, fun ad had => by cases had; exact ⟨rfl, rfl⟩⟩
    subst hv'
    have hBl : Below w.heap.size w w' := (Below.refl w.heap.size w).grown hgrown (Nat.le_refl _) (fun k hk => by cases hk)
    obtain ⟨hl, hrel⟩ := h.newSlot hh hBl ⟨A', cap', some m⟩ (.grow e m fs2)
      ⟨_, rowCells fs2 m, updR_same _ _ _, rfl, gp2, by rw [hl2]; exact hown, fun q hq j g hg => rowCells_at hq hg⟩
      (fun ad had _ => by
        have had' : A' = some ad := had
        rw [had'] at hwhere
        rcases hwhere with hw | hw
        · cases hw
        · simp only [Value.ownBlock, Option.some.injEq] at hw
          omega)
    refine wp_val (x := .slice A' m cap') (w' := w') ?_ (hK _ _ ⟨_, hrel.put o.dst ⟨_, updR_same _ _ _, fun q hq => (by cases hq; rfl), rfl⟩⟩)
    unfold execOp
    simp only [ho, resolve, hc, ha, hat, invoke, builtin, Sem.run_bind, Sem.run_pure, Result.andThen_ok, List.map_toArray, List.map_cons, List.map_nil, hxv, hye, hrun]
  | cutE t x y b d sz len n fs k i e ho hd hh hx hy hb ht hn h0 h1 =>
    have hxr := h.tm.eval x
    rw [hx] at hxr
    obtain ⟨r, hr, hlim, hxe⟩ := hxr
    have hyv := eval_val h hy
    have hgb : s.hp.getD b .none = .ext n fs := by simp [List.getD_eq_getElem?_getD, hb]
    have hB := h.hp b
    rw [hgb] at hB
    obtain ⟨r', g1, gm, gle, g2⟩ := hB
    rw [hr] at g1; cases g1
    have hnn := hlim _ gm; subst hnn
    obtain ⟨hl, hrel⟩ := h.newSlotH hh ⟨r.addr, r.cap, some i.toNat⟩ (.ext i.toNat fs)
      ⟨_, updR_same _ _ _, rfl, by show i.toNat ≤ r.cap; omega, fun hp => by
        obtain ⟨ad, q1, q2, q3, q4⟩ := g2 (by omega)
        exact ⟨ad, q1, q2, q3, fun p hp' => q4 p (by omega)⟩⟩
      (fun ad b' r1 ad1 had _ hx1 hr1 had1 => by
        rcases hx1 with ⟨q, _⟩ | ⟨hpos, ho'⟩
        · cases q
        have hpos' : 0 < i.toNat := hpos
        refine Ne.symm (h.sep b' b r1 r ad1 ad (fun e => ?_) ho' ?_ hr1 hr had1 had)
        · subst e; rw [hgb] at ho'; cases ho'
        · rw [hgb]; show 0 < n; omega) (fun ad q => by cases q)
    refine wp_val (x := .slice r.addr i.toNat r.cap) (w' := w) ?_ (hK _ _ ⟨_, hrel.put o.dst ⟨_, updR_same _ _ _, fun q hq => (by cases hq; rfl), rfl⟩⟩)
    exact run_cut ho hxe hyv ht hn h0 (by omega)
  | cutG t x y b d sz len n e' fs k i e ho hd hh hx hy hb hs ht hn h0 h1 =>
    have hxr := h.tm.eval x
    rw [hx] at hxr
    obtain ⟨r, hr, hlim, hxe⟩ := hxr
    have hyv := eval_val h hy
    have hgb : s.hp.getD b .none = .grow e' n fs := by simp [List.getD_eq_getElem?_getD, hb]
    have hbl : b < s.hp.length := (List.getElem?_eq_some_iff.1 hb).1
    have hbd : b ≠ d := fun e => by subst e; rw [hb] at hh; cases hh
    have hB := h.hp b
    rw [hgb] at hB
    obtain ⟨r', xs, g1, gm, gp, go, gf⟩ := hB
    rw [hr] at g1; cases g1
    have hnn := hlim _ gm; subst hnn
    obtain ⟨N, rfl⟩ : ∃ N : Nat, i = N := ⟨i.toNat, by omega⟩
    simp only [Int.toNat_natCast] at *
    have hcap : n ≤ r.cap := grow_cap go
    have hNn : N ≤ n := by omega
    have hmul : N * fs.length ≤ n * fs.length := Nat.mul_le_mul_right _ hNn
    obtain ⟨hl, hrel⟩ := h.rebind hh hbl hbd hr (r := ⟨r.addr, r.cap, some N⟩) (x := .grow e' N fs) (w' := w)
      ⟨_, xs.take (N * fs.length), updR_same _ _ _, rfl, gp, ⟨by rw [List.length_take, go.1]; omega, by
        rcases go.2 with ⟨hv, h0'⟩ | ⟨g, cap, cur, hv, hbg, hg, hnc, hcm, hcs, htk⟩
        · have hNz : N = 0 := by omega
          refine .inl ⟨?_, hNz⟩
          simp only [Value.slice.injEq] at hv ⊢
          exact ⟨hv.1, hNz, hv.2.2⟩
        · refine .inr ⟨g, cap, cur, ?_, hbg, hg, by omega, hcm, hcs, ?_⟩
          · simp only [Value.slice.injEq] at hv
            rw [hv.1, hv.2.2]
          · rw [← htk, List.take_take, Nat.min_eq_left hmul]⟩, fun q hq j g hg => by
        rw [List.getElem?_take, if_pos]
        · exact gf q (by omega) j g hg
        · have hj := (List.getElem?_eq_some_iff.1 hg).1
          have : (q + 1) * fs.length ≤ N * fs.length := Nat.mul_le_mul_right _ hq
          rw [Nat.add_mul] at this; omega⟩
      (fun _ => by rw [hgb]; rfl) (fun _ => by rw [hgb]; trivial) (Below.refl _ _)
      (fun k hk hne => rfl)
      (fun ad had _ => .inl ⟨ad, had, rfl⟩)
    refine wp_val (x := .slice r.addr N r.cap) (w' := w) ?_ (hK _ _ ⟨_, hrel.put o.dst ⟨_, updR_same _ _ _, fun q hq => (by cases hq; rfl), rfl⟩⟩)
    have := run_cut (P := P) (w := w) (i := (N : Int)) ho hxe hyv ht hn h0 (by simp only [Int.toNat_natCast]; omega)
    simpa using this
  | cutZ t x y b d sz len n e' fs k e ho hd hh hx hy hb ht hn =>
    have hxr := h.tm.eval x
    rw [hx] at hxr
    obtain ⟨r, hr, hlim, hxe⟩ := hxr
    have hyv := eval_val h hy
    have hgb : s.hp.getD b .none = .grow e' n fs := by simp [List.getD_eq_getElem?_getD, hb]
    have hbl : b < s.hp.length := (List.getElem?_eq_some_iff.1 hb).1
    have hbd : b ≠ d := fun e => by subst e; rw [hb] at hh; cases hh
    have hB := h.hp b
    rw [hgb] at hB
    obtain ⟨r', xs, g1, gm, gp, go, gf⟩ := hB
    rw [hr] at g1; cases g1
    have hnn := hlim _ gm; subst hnn
    obtain ⟨hl, hrel⟩ := h.rebind hh hbl hbd hr (r := ⟨r.addr, r.cap, some n⟩) (x := .grow e' n fs) (w' := w)
      ⟨_, xs, updR_same _ _ _, rfl, gp, go, gf⟩
      (fun _ => by rw [hgb]; rfl) (fun _ => by rw [hgb]; trivial) (Below.refl _ _)
      (fun k hk hne => rfl)
      (fun ad had _ => .inl ⟨ad, had, rfl⟩)
    refine wp_val (x := .slice r.addr n r.cap) (w' := w) ?_ (hK _ _ ⟨_, hrel.put o.dst ⟨_, updR_same _ _ _, fun q hq => (by cases hq; rfl), rfl⟩⟩)
    have := run_cutL (P := P) (w := w) (i := 0) ho hxe hyv ht hn (Int.le_refl 0) (Nat.zero_le _)
    simpa [add_zero_map] using this
  | cutL t x y b d sz len n e' fs k i e ho hd hh hx hy hb hs ht hn h0 h1 =>
    have hxr := h.tm.eval x
    rw [hx] at hxr
    obtain ⟨r, hr, hlim, hxe⟩ := hxr
    have hyv := eval_val h hy
    have hgb : s.hp.getD b .none = .grow e' n fs := by simp [List.getD_eq_getElem?_getD, hb]
    have hbl : b < s.hp.length := (List.getElem?_eq_some_iff.1 hb).1
    have hbd : b ≠ d := fun e => by subst e; rw [hb] at hh; cases hh
    have hB := h.hp b
    rw [hgb] at hB
    obtain ⟨r', xs, g1, gm, gp, go, gf⟩ := hB
    rw [hr] at g1; cases g1
    have hnn := hlim _ gm; subst hnn
    obtain ⟨N, rfl⟩ : ∃ N : Nat, i = N := ⟨i.toNat, by omega⟩
    have hcap : n ≤ r.cap := grow_cap go
    have hNn : N ≤ n := by omega
    have hrun := run_cutL (P := P) (w := w) (i := (N : Int)) ho hxe hyv ht hn h0 (by simp only [Int.toNat_natCast]; omega)
    simp only [Int.toNat_natCast] at hrun ⊢
    obtain ⟨hl, hrel⟩ := h.rebind hh hbl hbd hr (r := ⟨if r.cap = N then r.addr else r.addr.map (fun x => x.add (N * sz)), r.cap - N, some (n - N)⟩) (x := .ext (n - N) (fs.map (shiftF N))) (w' := w)
      ⟨_, updR_same _ _ _, rfl, by show n - N ≤ r.cap - N; omega, fun hp => by
        obtain ⟨g, hg⟩ := grow_some go (by omega)
        refine ⟨⟨g, N * sz, none⟩, ?_, rfl, (grow_addr go hg).2.2.2, fun q hq j f hf => ?_⟩
        · show (if r.cap = N then r.addr else r.addr.map (fun x => x.add (N * sz))) = _
          rw [if_neg (by omega), hg]
          show some ((⟨g, 0, none⟩ : Addr).add (N * sz)) = _
          rw [addr_add, Nat.zero_add]
        · rw [List.getElem?_map] at hf
          cases hfj : fs[j]? with
          | none => rw [hfj] at hf; cases hf
          | some f0 =>
            rw [hfj] at hf; cases hf
            have hc := go.cells (g := g) (by rw [hg]; rfl) _ _ (gf (q + N) (by omega) j f0 hfj)
            rw [addr_add] at hc
            rw [shiftF_at, List.length_map, hs]
            rw [show N * fs.length + (q * fs.length + j) = 0 + ((q + N) * fs.length + j) by rw [Nat.add_mul]; omega]
            exact hc⟩
      (fun q => by cases q) (fun _ => by rw [hgb]; trivial) (Below.refl _ _)
      (fun k hk hne => rfl)
      (fun ad had hx1 => by
        have hp : 0 < n - N := hx1
        obtain ⟨g, hg⟩ := grow_some go (by omega)
        have had' : (if r.cap = N then r.addr else r.addr.map (fun x => x.add (N * sz))) = some ad := had
        rw [if_neg (by omega), hg] at had'
        refine .inl ⟨_, hg, ?_⟩
        have h2 : (⟨g, 0, none⟩ : Addr).add (N * sz) = ad := by simpa using had'
        rw [← h2, addr_add])
    exact wp_val (w' := w) hrun (hK _ _ ⟨_, hrel.put o.dst ⟨_, updR_same _ _ _, fun q hq => (by cases hq; rfl), rfl⟩⟩)
  | mkClo f x b cs ho hx =>
    have hxr := h.tm.eval x
    rw [hx] at hxr
    obtain ⟨r, ad, hr, had, hlim, hxe⟩ := hxr
    refine wp_val (x := .func (.func f) #[] #[a.eval x]) (w' := w) ?_ ((keep h (show VRel ρ (.clo f b) _ from ⟨r, ad, hr, had, hlim, by rw [hxe]⟩)).resolve_right (fun n => n rfl))
    unfold execOp
    simp [ho, Instr.makeFunc]
  | callClo c x f b avs rd v ho hc hx ha hC =>
    have hxr := h.tm.eval x
    rw [hx] at hxr
    obtain ⟨r, ad, hr, had, hlim, hxe⟩ := hxr
    obtain ⟨ha1, ha2⟩ := avsOf_soundV h _ (c.args.toList.map a.eval ++ [.pointer (some ⟨ad.block, ad.off + (0 * 0 + 0), none⟩)]) (by simp) (fun i v hv => by
      rw [List.getElem?_append] at hv ⊢
      simp only [List.length_map] at hv ⊢
      split at hv
      · rename_i hlt
        rw [if_pos hlt, List.getElem?_map]
        rw [List.getElem?_map] at hv
        cases hq : c.args.toList[i]? with
        | none => rw [hq] at hv; cases hv
        | some q => rw [hq] at hv; cases hv; exact ⟨_, rfl, h.tm.eval q⟩
      · rename_i hge
        rw [if_neg hge]
        cases hj : i - c.args.toList.length with
        | zero => rw [hj] at hv; simp at hv; subst hv; exact ⟨_, rfl, r, ad, hr, had, hlim, rfl⟩
        | succ j => rw [hj] at hv; simp at hv) ha
    have hargs : ArgsRel ρ.fz w (c.args.map a.eval ++ #[.pointer (some ⟨ad.block, ad.off + (0 * 0 + 0), none⟩)]) avs := ⟨by simpa using ha1, fun i av hi => by
      obtain ⟨x, hx, hr⟩ := ha2 i av hi
      refine ⟨x, ?_, hr⟩
      rw [← Array.getElem?_toList]; simpa using hx⟩
    have hcall := (hC ρ.fz w _ h.fz (h.laid.below h.below) hargs).old (fun v e => by cases e)
    have hex : (execOp a.eval o).run P w = (callFunc f (c.args.map a.eval ++ #[.pointer (some ⟨ad.block, ad.off + (0 * 0 + 0), none⟩)])).run P w := by
      unfold execOp
      simp [ho, resolve, hc, hxe, Deferred.ofValue, invoke]
    have fin : ∀ (w' : World) (x : Value), (Below w.heap.size w w' ∧ ∃ fz', FzW fz' w' ∧ FzNew ρ.fz fz' w.heap.size ∧ AVRel fz' w' w.heap.size x (.val v)) → K (a.put o.dst x) w' := fun w' x ⟨hb, fz', q1, q2, hx⟩ => by
      obtain ⟨hl, hr⟩ := h.fzMore hb q1 q2
      exact hK _ _ ⟨_, hr.put o.dst (show VRel ⟨ρ.f, fz'⟩ (.val v) x from hx)⟩
    unfold Oper.wp
    rw [hex]
    unfold CallOk at hcall
    split at hcall
    · rename_i g as w' hrun
      obtain ⟨rfl, hcall⟩ := hcall
      rw [hrun]
      refine hcall.mono fun e w'' ⟨x, he, hx⟩ => ?_
      subst he
      exact fin _ _ hx
    · rename_i v' w' hrun
      rw [hrun]
      exact fin _ _ hcall
    · exact hcall.elim
  | callFv c x f avs rd v ho hc hx ha hC =>
    have hxv := eval_val h hx
    obtain ⟨ha1, ha2⟩ := avsOf_sound h c.args.toList ha
    have hargs : ArgsRel ρ.fz w (c.args.map a.eval) avs := ⟨by simp [ha1], fun i av hi => by
      obtain ⟨x, hx, hr⟩ := ha2 i av hi
      exact ⟨x, by simpa using hx, hr⟩⟩
    have hcall := (hC ρ.fz w _ h.fz (h.laid.below h.below) hargs).old (fun v e => by cases e)
    have hex : (execOp a.eval o).run P w = (callFunc f (c.args.map a.eval)).run P w := by
      unfold execOp
      simp [ho, resolve, hc, hxv, Deferred.ofValue, invoke]
    have fin : ∀ (w' : World) (x : Value), (Below w.heap.size w w' ∧ ∃ fz', FzW fz' w' ∧ FzNew ρ.fz fz' w.heap.size ∧ AVRel fz' w' w.heap.size x (.val v)) → K (a.put o.dst x) w' := fun w' x ⟨hb, fz', q1, q2, hx⟩ => by
      obtain ⟨hl, hr⟩ := h.fzMore hb q1 q2
      exact hK _ _ ⟨_, hr.put o.dst (show VRel ⟨ρ.f, fz'⟩ (.val v) x from hx)⟩
    unfold Oper.wp
    rw [hex]
    unfold CallOk at hcall
    split at hcall
    · rename_i g as w' hrun
      obtain ⟨rfl, hcall⟩ := hcall
      rw [hrun]
      refine hcall.mono fun e w'' ⟨x, he, hx⟩ => ?_
      subst he
      exact fin _ _ hx
    · rename_i v' w' hrun
      rw [hrun]
      exact fin _ _ hcall
    · exact hcall.elim
  | extT x i l p ho hx hi =>
    have hxr := h.tm.eval x
    rw [hx] at hxr
    obtain ⟨c, hxe, hl, hcs⟩ := hxr
    obtain ⟨y, hy, hyr⟩ := hcs i p hi
    refine wp_val (x := y) (w' := w) ?_ ((keep h hyr.v).resolve_right (fun n => n rfl))
    unfold execOp
    simp [ho, hxe, Instr.extract, hy]
  | fieldPk t x f cs fs fl p ho hx ht hf hn hp =>
    have hxr := h.tm.eval x
    rw [hx] at hxr
    obtain ⟨c, hxe, hcr⟩ := hxr
    obtain ⟨y, hy, hyr⟩ := CRel.get hcr hp
    refine wp_val (x := y) (w' := w) ?_ ((keep h hyr.v).resolve_right (fun n => n rfl))
    unfold execOp
    simp only [ho, hxe, Instr.field, Sem.run_bind, run_underlying ht, Result.andThen_ok, hf, asAgg, Sem.run_pure, part, semVal_run hn, Bool.false_eq_true, if_false, hy]
  | callTup c f avs rd l ps ho hc ha hps hC =>
    obtain ⟨ha1, ha2⟩ := avsOf_sound h c.args.toList ha
    have hargs : ArgsRel ρ.fz w (c.args.map a.eval) avs := ⟨by simp [ha1], fun i av hi => by
      obtain ⟨x, hx, hr⟩ := ha2 i av hi
      exact ⟨x, by simpa using hx, hr⟩⟩
    have hcall := (hC ρ.fz w _ h.fz (h.laid.below h.below) hargs).old (fun v e => by cases e)
    have hex : (execOp a.eval o).run P w = (callFunc f (c.args.map a.eval)).run P w := by
      unfold execOp
      simp [ho, resolve, hc, Act.eval, Deferred.ofValue, invoke]
    have fin : ∀ (x : Value) (w' : World), (Below w.heap.size w w' ∧ ∃ fz', FzW fz' w' ∧ FzNew ρ.fz fz' w.heap.size ∧ AVRel fz' w' w.heap.size x (.tup l)) → K (a.put o.dst x) w' := fun x w' ⟨hb, fz', q1, q2, hx⟩ => by
      obtain ⟨hl, hr⟩ := h.fzMore hb q1 q2
      obtain ⟨cc, e1, e2, e3⟩ := hx
      obtain ⟨i1, i2⟩ := tvOf_get hps
      refine hK _ _ ⟨_, hr.put o.dst (show VRel ⟨ρ.f, fz'⟩ (.tup ps) x from ⟨cc, e1, by rw [i1, e2], fun i p hp => ?_⟩)⟩
      obtain ⟨q, hq, hqr⟩ := i2 i p hp
      obtain ⟨y, hy, hyr⟩ := e3 i q hq
      exact ⟨y, hy, hqr ⟨ρ.f, fz'⟩ w' _ y hyr⟩
    unfold Oper.wp
    rw [hex]
    unfold CallOk at hcall
    split at hcall
    · rename_i g as w' hrun
      obtain ⟨rfl, hcall⟩ := hcall
      rw [hrun]
      refine hcall.mono fun e w'' ⟨x, he, hx⟩ => ?_
      subst he
      exact fin _ _ hx
    · rename_i v' w' hrun
      rw [hrun]
      exact fin _ _ hcall
    · exact hcall.elim
  | tlen c x t dp l e ho hc ha hat hx ht =>
    have hxr := h.tm.eval x
    rw [hx] at hxr
    obtain ⟨A, cap, hxe, _⟩ := hxr
    refine wp_val (x := .int .i64 l.length) (w' := w) ?_ ((keep h (show VRel ρ (.val (.int .i64 l.length)) _ from rfl)).resolve_right (fun n => n rfl))
    have hel : P.elem t = e := by simp [Program.elem, ht]
    have hl := run_len_slice (P := P) w t o.type A l.length cap (by rw [hel]; exact ht)
    unfold execOp
    simp [ho, resolve, hc, ha, hat, hxe, invoke, builtin, hl, goInt]
/-- .. behind steps that freeze. -/
theorem OpX.sound {o : Oper} {tm : List V} {hp : List Blk} {E : Eff} (hR : OpX P tm o hp E) : ∀ {ρ : Rho}, Rel ρ w0 ⟨tm, hp⟩ a w → ∀ {K : Act → World → Prop} {Q : Exit → Act → World → Prop}, (∀ a' w', RelE w0 (St.app ⟨tm, hp⟩ o.dst E) a' w' → K a' w') → o.wp P a w K Q := by
  induction hR with
  | op h1 => intro ρ h K Q hK; exact OpR.sound (s := ⟨tm, _⟩) h1 h hK
  | fz b e dp l E hb hR ih =>
    intro ρ h K Q hK
    obtain ⟨ρ', hl, _, h'⟩ := h.freeze hb
    exact ih h' hK
  | fzc b0 off b n dp cs l E h0 hc hb hR ih =>
    intro ρ h K Q hK
    exact ih (h.cellTsl h0 hc hb) hK
end

end Go.Proofs.YtkmehmlcccdnbaaDoor.Ev
