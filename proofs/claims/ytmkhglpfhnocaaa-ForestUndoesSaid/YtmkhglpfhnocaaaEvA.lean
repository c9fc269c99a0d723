/- The evaluator: whole functions: what it returns is what a call returns, in every world. -/
import Derived.Test.YtmkhglpfhnocaaaEv9
namespace Go.Proofs.Ytmkhglpfhnocaaa.Ev
open Go Go.RowKit
set_option linter.unusedVariables false
set_option linter.unusedSimpArgs false

def pvs : List PA → Nat → List PV
  | [], _ => []
  | .val v :: l, b => .val v :: pvs l (b + 1)
  | .rows n fs :: l, b => .sl b fs.length n :: pvs l (b + 1)
def pblk : List PA → Nat → List Blk → List Blk
  | [], _, hp => hp
  | .val _ :: l, b, hp => pblk l (b + 1) hp
  | .rows n fs :: l, b, hp => pblk l (b + 1) (hp.set b (.ext n fs))
/-- The arguments, one after the other: argument i lies in temporary i, its slice in slot i; the slices of a struct in slots from b on. -/
def initGo : List AV → Nat → Nat → St → St
  | [], _, _, s => s
  | .val v :: l, i, b, s => initGo l (i + 1) b ⟨s.tm.set i (.val v), s.hp⟩
  | .rows n fs :: l, i, b, s => initGo l (i + 1) b ⟨s.tm.set i (.sl i fs.length n), s.hp.set i (.ext n fs)⟩
  | .pk p :: l, i, b, s => initGo l (i + 1) (b + p.length) ⟨s.tm.set i (.pk (pvs p b)), pblk p b s.hp⟩
def extra : List AV → Nat
  | [] => 0
  | .pk p :: l => p.length + extra l
  | _ :: l => extra l
def initSt (avs : List AV) (n : Nat) : St :=
  initGo avs 0 (avs.length + (n - avs.length)) ⟨List.replicate avs.length .unk ++ List.replicate (n - avs.length) (.val undef), List.replicate (avs.length + (n - avs.length) + extra avs) .none⟩

def resV (P : Program) (s : St) : ResultVar → Option V
  | .tmp t => some (s.tm.getD t (.val undef))
  | .cell a t =>
    match s.tm.getD a (.val undef) with
    | .ptr b row sz fld =>
      match semVal P (isAgg t) with
      | some false => readV s.hp b row sz fld
      | some true =>
        match semVal P (sizeOf t) with
        | some n =>
          match readAgg s.hp b row sz fld n with
          | some vs => some (.val (.agg vs.toArray))
          | none => none
        | none => none
      | none => none
    | _ => none
def resVs (P : Program) (s : St) : List ResultVar → Option (List V)
  | [] => some []
  | x :: l =>
    match resV P s x, resVs P s l with
    | some v, some vs => some (v :: vs)
    | _, _ => none
def retAV (hp : List Blk) : List V → Option AV
  | [.val v] => some (.val v)
  | [.sl b sz len] =>
    match hp.getD b .none with
    | .own _ | .grow .. =>
      match avOf hp (.sl b sz len) with
      | some (av, _) => some av
      | none => none
    | _ => none
  | [_] => none
  | vs =>
    match allVals vs with
    | some xs => some (.val (.tuple xs.toArray))
    | none => none

section
variable {R : Type}
/-- What follows the body. -/
def endC (P : Program) (results : Array ResultVar) (ret : AV → Option R) (s : St) : Option R :=
  match resVs P s results.toList with
  | some vs =>
    match retAV s.hp vs with
    | some av => ret av
    | none => none
  | none => none
def retC (P : Program) (results : Array ResultVar) (ret : AV → Option R) : Ex → St → Option R := fun e s =>
  match e with
  | .exit _ => none
  | .normal => endC P results ret s
  | .ret => endC P results ret s
def bodyOf (fn : Func) : Code :=
  match fn.body with
  | none => .exit 0
  | some c => c
def bodyK (P : Program) (cs : List (Kn P)) (live : Nat → Option Keep) (fuel : Nat) (fn : Func) (avs : List AV) (ret : AV → Option R) : Option R :=
  codeK P cs live fuel (bodyOf fn) (initSt avs fn.ntmps) (retC P fn.results ret)

variable {P : Program} {cs : List (Kn P)} {ρ : Rho} {w0 : World} {s : St} {a : Act} {w : World}

/-- A block that was there before is bound, where no block is the call's own. -/
theorem Rel.oldSlot (h : Rel ρ w0 s a w) {d : Nat} (hd : s.hp[d]? = some .none) (hno : ∀ b, (s.hp.getD b .none).isOwn = false) (r : RB) {n : Nat} {fs : List Fld} (hx : BRel (updR ρ d r) w0.heap.size w d (.ext n fs)) :
    leR ρ (updR ρ d r) ∧ Rel (updR ρ d r) w0 { s with hp := s.hp.set d (.ext n fs) } a w ∧ ∀ b, ((s.hp.set d (.ext n fs)).getD b .none).isOwn = false := by
  have hlen : d < s.hp.length := (List.getElem?_eq_some_iff.1 hd).1
  have hgd : s.hp.getD d .none = .none := by simp [List.getD_eq_getElem?_getD, hd]
  have hn : ρ d = none := by have := h.hp d; rw [hgd] at this; exact this
  have hl := leR_upd (r := r) hn
  have hno' : ∀ b, ((s.hp.set d (.ext n fs)).getD b .none).isOwn = false := fun b => by
    rw [getD_set]; split
    · rfl
    · exact hno b
  refine ⟨hl, { defers := h.defers, tm := h.tm.mono hl, hp := fun b => ?_, sep := fun b b' r r' ad ad' _ ho => ?_, below := h.below, laid := h.laid }, hno'⟩
  · show BRel _ _ _ b ((s.hp.set d (.ext n fs)).getD b .none)
    rw [getD_set]
    split
    · rename_i hb'; obtain ⟨rfl, _⟩ := hb'; exact hx
    · rename_i hb'
      have hbd : b ≠ d := fun e => hb' ⟨e, hlen⟩
      exact (h.hp b).mono hl (fun _ => updR_other _ _ hbd)
  · have := hno' b
    have ho' : ((s.hp.set d (.ext n fs)).getD b .none).isOwn = true := ho
    rw [this] at ho'; cases ho'

theorem rowsAt_brel {B : Nat} {ρ : Rho} {d : Nat} {A : Option Addr} {c n : Nat} {fs : List Fld} (h : RowsAt w 0 A n fs) : BRel (updR ρ d ⟨A, c, some n⟩) B w d (.ext n fs) :=
  ⟨_, updR_same _ _ _, rfl, fun hp => let ⟨ad, h1, h2, _, h4, h5⟩ := h hp; ⟨ad, h1, h2, h4, h5⟩⟩

theorem pblk_length : ∀ (p : List PA) (b : Nat) (hp : List Blk), (pblk p b hp).length = hp.length
  | [], _, _ => rfl
  | .val _ :: l, b, hp => pblk_length l (b + 1) hp
  | .rows n fs :: l, b, hp => by simp [pblk, pblk_length l (b + 1)]
theorem pblk_other : ∀ (p : List PA) (b : Nat) (hp : List Blk) (q : Nat), q < b ∨ b + p.length ≤ q → (pblk p b hp)[q]? = hp[q]?
  | [], _, _, _, _ => rfl
  | .val _ :: l, b, hp, q, h => pblk_other l (b + 1) hp q (by simp at h; omega)
  | .rows n fs :: l, b, hp, q, h => by
    simp only [pblk]
    rw [pblk_other l (b + 1) _ q (by simp at h; omega), List.getElem?_set_ne (by simp at h; omega)]

/-- The cells of a struct that is handed over. -/
theorem pk_rel : ∀ (p : List PA) (b : Nat) (s : St) (ρ : Rho) (cs : List Value), Rel ρ w0 s a w → (∀ q, (s.hp.getD q .none).isOwn = false) → (∀ q, b ≤ q → q < b + p.length → s.hp[q]? = some .none) → p.length = cs.length →
    (∀ (i : Nat) (x : PA), p[i]? = some x → ∃ y, cs[i]? = some y ∧ PARel w 0 y x) →
    ∃ ρ', leR ρ ρ' ∧ Rel ρ' w0 ⟨s.tm, pblk p b s.hp⟩ a w ∧ (∀ q, ((pblk p b s.hp).getD q .none).isOwn = false) ∧ ∀ (i : Nat) (x : PV), (pvs p b)[i]? = some x → ∃ y, cs[i]? = some y ∧ PRel ρ' x y
  | [], b, s, ρ, cs, h, hno, _, _, _ => ⟨ρ, leR_refl ρ, h, hno, fun i x hx => by simp [pvs] at hx⟩
  | .val v :: p, b, s, ρ, [], h, hno, hn, hl, hp => by simp at hl
  | .val v :: p, b, s, ρ, c :: cs, h, hno, hn, hl, hp => by
    obtain ⟨ρ', h1, h2, h3, h4⟩ := pk_rel p (b + 1) s ρ cs h hno (fun q hq hq' => hn q (by omega) (by simp; omega)) (by simpa using hl) (fun i x hx => by simpa using hp (i + 1) x (by simpa using hx))
    refine ⟨ρ', h1, h2, h3, fun i x hx => ?_⟩
    cases i with
    | zero =>
      simp only [pvs, List.getElem?_cons_zero, Option.some.injEq] at hx; subst hx
      obtain ⟨y, hy, hr⟩ := hp 0 _ rfl
      exact ⟨y, hy, hr⟩
    | succ i => simpa using h4 i x (by simpa [pvs] using hx)
  | .rows n fs :: p, b, s, ρ, [], h, hno, hn, hl, hp => by simp at hl
  | .rows n fs :: p, b, s, ρ, c :: cs, h, hno, hn, hl, hp => by
    obtain ⟨y, hy, A, cap, hye, hrows⟩ := hp 0 _ rfl
    simp only [List.getElem?_cons_zero, Option.some.injEq] at hy; subst hy
    obtain ⟨g1, g2, g3⟩ := h.oldSlot (hn b (Nat.le_refl _) (by simp)) hno ⟨A, cap, some n⟩ (rowsAt_brel hrows)
    obtain ⟨ρ', h1, h2, h3, h4⟩ := pk_rel p (b + 1) ⟨s.tm, s.hp.set b (.ext n fs)⟩ _ cs g2 g3 (fun q hq hq' => by
      show (s.hp.set b (.ext n fs))[q]? = _
      rw [List.getElem?_set_ne (by omega)]; exact hn q (by omega) (by simp; omega)) (by simpa using hl) (fun i x hx => by simpa using hp (i + 1) x (by simpa using hx))
    refine ⟨ρ', fun q r hq => h1 _ _ (g1 _ _ hq), h2, h3, fun i x hx => ?_⟩
    cases i with
    | zero =>
      simp only [pvs, List.getElem?_cons_zero, Option.some.injEq] at hx; subst hx
      exact ⟨c, rfl, _, h1 _ _ (updR_same _ _ _), fun m hm => by cases hm; rfl, hye⟩
    | succ i => simpa using h4 i x (by simpa [pvs] using hx)

theorem initGo_rel : ∀ (avs : List AV) (i b : Nat) (s : St) (ρ : Rho), Rel ρ w0 s a w → (∀ q, (s.hp.getD q .none).isOwn = false) → (∀ q, i ≤ q → q < i + avs.length → s.hp[q]? = some .none) → i + avs.length ≤ b →
    (∀ q, b ≤ q → q < b + extra avs → s.hp[q]? = some .none) → (∀ (j : Nat) (av : AV), avs[j]? = some av → ∃ x : Value, a.tmps[i + j]? = some x ∧ AVRel w 0 x av) → RelE w0 (initGo avs i b s) a w
  | [], i, b, s, ρ, h, _, _, _, _, _ => ⟨ρ, h⟩
  | .val v :: l, i, b, s, ρ, h, hno, hi, hib, hb, ha => by
    obtain ⟨x, hx, hr⟩ := ha 0 _ rfl
    refine initGo_rel l (i + 1) b _ ρ { h with tm := h.tm.set_same hx (v := .val v) hr } hno (fun q hq hq' => hi q (by omega) (by simp; omega)) (by simp at hib; omega) hb (fun j av hj => ?_)
    have := ha (j + 1) av (by simpa using hj)
    rwa [show i + (j + 1) = i + 1 + j by omega] at this
  | .rows n fs :: l, i, b, s, ρ, h, hno, hi, hib, hb, ha => by
    obtain ⟨x, hx, A, c, hxe, hrows⟩ := ha 0 _ rfl
    obtain ⟨g1, g2, g3⟩ := h.oldSlot (hi i (Nat.le_refl _) (by simp)) hno ⟨A, c, some n⟩ (rowsAt_brel hrows)
    refine initGo_rel l (i + 1) b ⟨s.tm.set i (.sl i fs.length n), s.hp.set i (.ext n fs)⟩ _ { g2 with tm := g2.tm.set_same hx (v := .sl i fs.length n) ⟨_, updR_same _ _ _, fun m hm => (by cases hm; rfl), hxe⟩ } g3 (fun q hq hq' => ?_) (by simp at hib; omega) (fun q hq hq' => ?_) (fun j av hj => ?_)
    · show (s.hp.set i (.ext n fs))[q]? = _
      rw [List.getElem?_set_ne (by omega)]; exact hi q (by omega) (by simp; omega)
    · show (s.hp.set i (.ext n fs))[q]? = _
      simp at hib
      rw [List.getElem?_set_ne (by omega)]; exact hb q hq hq'
    · have := ha (j + 1) av (by simpa using hj)
      rwa [show i + (j + 1) = i + 1 + j by omega] at this
  | .pk p :: l, i, b, s, ρ, h, hno, hi, hib, hb, ha => by
    obtain ⟨x, hx, c, hxe, hl, hp⟩ := ha 0 _ rfl
    simp only [extra] at hb
    obtain ⟨ρ', g1, g2, g3, g4⟩ := pk_rel p b s ρ c.toList h hno (fun q hq hq' => hb q hq (by omega)) (by simpa using hl) (fun j y hy => by simpa using hp j y hy)
    refine initGo_rel l (i + 1) (b + p.length) ⟨s.tm.set i (.pk (pvs p b)), pblk p b s.hp⟩ ρ' { g2 with tm := g2.tm.set_same hx (v := .pk (pvs p b)) ⟨c, hxe, ?_, fun j y hy => by simpa using g4 j y hy⟩ } g3 (fun q hq hq' => ?_) (by simp at hib; omega) (fun q hq hq' => ?_) (fun j av hj => ?_)
    · have : ∀ (p : List PA) (b : Nat), (pvs p b).length = p.length := fun p => by
        induction p with
        | nil => intro b; rfl
        | cons x p ih => intro b; cases x <;> simp [pvs, ih]
      rw [this]; exact hl
    · show (pblk p b s.hp)[q]? = _
      simp at hib
      rw [pblk_other p b _ q (by omega)]; exact hi q (by omega) (by simp; omega)
    · show (pblk p b s.hp)[q]? = _
      rw [pblk_other p b _ q (by omega)]; exact hb q (by omega) (by omega)
    · have := ha (j + 1) av (by simpa using hj)
      rwa [show i + (j + 1) = i + 1 + j by omega] at this

theorem init_rel {args : Array Value} {avs : List AV} (hL : LaidW w) (h : ArgsRel w args avs) (n : Nat) : RelE w (initSt avs n) { tmps := args ++ Array.replicate (n - args.size) undef, defers := [] } w := by
  obtain ⟨hl, ha⟩ := h
  have hnone : ∀ (m q : Nat), (List.replicate m Blk.none).getD q .none = .none := fun m q => by
    simp only [List.getD_eq_getElem?_getD, List.getElem?_replicate]; split <;> rfl
  refine initGo_rel avs 0 _ _ (fun _ => none) { defers := rfl, tm := ⟨by simp [hl], fun i v hv => ?_⟩, hp := fun b => ?_, sep := fun b b' r r' ad ad' _ ho => ?_, below := Below.refl _ _, laid := hL } (fun q => ?_) (fun q _ hq => ?_) (by omega) (fun q _ hq => ?_) (fun j av hj => ?_)
  · have hv' : (List.replicate avs.length V.unk ++ List.replicate (n - avs.length) (.val undef))[i]? = some v := hv
    rw [List.getElem?_append] at hv'
    have hsz : (args ++ Array.replicate (n - args.size) undef).size = args.size + (n - args.size) := by simp
    split at hv'
    · rename_i hi
      rw [List.getElem?_replicate] at hv'
      split at hv' <;> simp only [Option.some.injEq, reduceCtorEq] at hv'
      subst hv'
      simp at hi
      exact ⟨(args ++ Array.replicate (n - args.size) undef)[i]'(by rw [hsz]; omega), Array.getElem?_eq_getElem _, trivial⟩
    · rename_i hi
      rw [List.getElem?_replicate] at hv'
      split at hv' <;> simp only [Option.some.injEq, reduceCtorEq] at hv'
      subst hv'
      rename_i hlt
      simp at hi hlt
      refine ⟨undef, ?_, rfl⟩
      show (args ++ Array.replicate (n - args.size) undef)[i]? = some undef
      rw [Array.getElem?_append_right (by omega), Array.getElem?_replicate, if_pos (by omega)]
  · show BRel _ _ _ b ((List.replicate _ Blk.none).getD b .none)
    rw [hnone]; rfl
  · have ho' : ((List.replicate (avs.length + (n - avs.length) + extra avs) Blk.none).getD b .none).isOwn = true := ho
    rw [hnone] at ho'; cases ho'
  · show ((List.replicate (avs.length + (n - avs.length) + extra avs) Blk.none).getD q .none).isOwn = false
    rw [hnone]; rfl
  · show (List.replicate (avs.length + (n - avs.length) + extra avs) Blk.none)[q]? = _
    rw [List.getElem?_replicate, if_pos (by omega)]
  · show (List.replicate (avs.length + (n - avs.length) + extra avs) Blk.none)[q]? = _
    rw [List.getElem?_replicate, if_pos (by omega)]
  · obtain ⟨x, hx, hr⟩ := ha j av hj
    refine ⟨x, ?_, hr⟩
    show (args ++ Array.replicate (n - args.size) undef)[0 + j]? = some x
    rw [Nat.zero_add, Array.getElem?_append_left (Array.getElem?_eq_some_iff.1 hx).1]; exact hx

def resSem (tmps : Array Value) : ResultVar → Sem Value
  | .tmp t => pure (tmps.getD t undef)
  | .cell a t => do loadVar t (← asAddr (tmps.getD a undef))

theorem resV_sound (h : Rel ρ w0 s a w) {x : ResultVar} {v : V} (hv : resV P s x = some v) : ∃ y, (resSem a.tmps x).run P w = .ok y w ∧ VRel ρ v y := by
  cases x with
  | tmp t =>
    simp only [resV, Option.some.injEq] at hv; subst hv
    exact ⟨_, rfl, h.tm.eval (.tmp t)⟩
  | cell p t =>
    simp only [resV] at hv
    have hp := h.tm.eval (.tmp p)
    simp only [evV] at hp
    split at hv
    · rename_i b row sz fld hx
      rw [hx] at hp
      obtain ⟨r, ad, hr, had, hlim, hxe⟩ := hp
      have hxe' : a.tmps.getD p undef = .pointer (some ⟨ad.block, ad.off + (row * sz + fld), none⟩) := hxe
      split at hv
      · rename_i ht
        obtain ⟨y, hy, hvr⟩ := readV_sound h hv hr had hlim
        refine ⟨y, ?_, hvr⟩
        simp only [resSem, hxe', asAddr, Sem.run_bind, Sem.run_pure, Result.andThen_ok, loadVar, semVal_run ht, Bool.false_eq_true, if_false, run_load, hy]
      · rename_i ht
        split at hv
        · rename_i n hn
          split at hv
          · rename_i vs hvs
            simp only [Option.some.injEq] at hv; subst hv
            obtain ⟨hlen, hcells⟩ := readAgg_sound h hr had hlim n fld vs hvs
            refine ⟨_, ?_, rfl⟩
            have hl := run_loadCells_list (P := P) w ⟨ad.block, ad.off + (row * sz + fld), none⟩ vs (fun j v hj => by rw [addr_add]; exact hcells j v hj)
            rw [hlen] at hl
            simp only [resSem, hxe', asAddr, Sem.run_bind, Sem.run_pure, Result.andThen_ok, loadVar, semVal_run ht, if_true, semVal_run hn, hl]
          · cases hv
        · cases hv
      · cases hv
    · cases hv

theorem resVs_sound (h : Rel ρ w0 s a w) : ∀ {l : List ResultVar} {vs : List V}, resVs P s l = some vs → ∃ ys : List Value, (l.mapM (resSem a.tmps)).run P w = .ok ys w ∧ TRel ρ vs ys.toArray
  | [], vs, hv => by
    simp only [resVs, Option.some.injEq] at hv; subst hv
    exact ⟨[], rfl, rfl, fun i v hi => by simp at hi⟩
  | x :: l, vs, hv => by
    simp only [resVs] at hv
    split at hv
    · rename_i v us hv1 hv2
      simp only [Option.some.injEq] at hv; subst hv
      obtain ⟨y, hy, hr⟩ := resV_sound h hv1
      obtain ⟨ys, hys, hrs⟩ := resVs_sound h hv2
      refine ⟨y :: ys, ?_, by simp [hrs.1], fun i u hi => ?_⟩
      · simp only [List.mapM_cons, Sem.run_bind, hy, Result.andThen_ok, hys, Sem.run_pure]
      · cases i with
        | zero => simp at hi; subst hi; exact ⟨y, by simp, hr⟩
        | succ i =>
          obtain ⟨z, hz, hzr⟩ := hrs.2 i u (by simpa using hi)
          exact ⟨z, by simpa using hz, hzr⟩
    · cases hv

theorem retAV_sound (h : Rel ρ w0 s a w) {vs : List V} {ys : List Value} (hr : TRel ρ vs ys.toArray) {av : AV} (hv : retAV s.hp vs = some av) {y : Value} (hy : y = if h : ys.toArray.size = 1 then ys.toArray[0] else .tuple ys.toArray) : AVRel w w0.heap.size y av := by
  unfold retAV at hv
  split at hv
  · rename_i v
    simp only [Option.some.injEq] at hv; subst hv
    obtain ⟨x, hx, hxr⟩ := hr.2 0 _ rfl
    have hs : ys.toArray.size = 1 := hr.1.symm
    rw [dif_pos hs] at hy
    have : ys.toArray[0]? = some ys.toArray[0] := by simp [hs]
    rw [hx] at this; cases this
    rw [hy]; exact hxr
  · rename_i b sz len
    have key : ∀ av', (match avOf s.hp (.sl b sz len) with
        | some (av, _) => some av
        | none => none) = some av' → (∀ r ad, ρ b = some r → r.addr = some ad → w0.heap.size ≤ ad.block) → AVRel w w0.heap.size y av' := fun av' hv hblk => by
      split at hv
      · rename_i av' rd hav
        simp only [Option.some.injEq] at hv; subst hv
        obtain ⟨x, hx, hxr⟩ := hr.2 0 _ rfl
        have hs : ys.toArray.size = 1 := hr.1.symm
        rw [dif_pos hs] at hy
        have : ys.toArray[0]? = some ys.toArray[0] := by simp [hs]
        rw [hx] at this; cases this
        rw [hy]
        have h1 := avOf_sound h hxr hav
        obtain ⟨r, hr1, hlim, hxe⟩ := hxr
        cases av' with
        | val z => exact h1
        | pk l => simp only [avOf, avOf0] at hav; split at hav <;> first | (cases hav; done) | (split at hav <;> first | (cases hav; done) | (split at hav <;> first | (cases hav; done) | (split at hav <;> cases hav)))
        | rows n fs =>
          obtain ⟨A, c', he, hrows⟩ := h1
          refine ⟨A, c', he, fun hp => ?_⟩
          obtain ⟨ad, k1, k2, k3, k4, k5⟩ := hrows hp
          rw [hxe, k1] at he
          simp only [Value.slice.injEq] at he
          exact ⟨ad, k1, k2, hblk r ad hr1 he.1, k4, k5⟩
      · cases hv
    have hb := h.hp b
    split at hv
    · rename_i cs' hown
      rw [hown] at hb
      obtain ⟨r', k, e, c, g1, g2, gm, g3, g4, g5⟩ := hb
      exact key _ hv fun r ad hr had => by rw [hr] at g1; cases g1; rw [had] at g2; cases g2; exact g3
    · rename_i e n fs hown
      rw [hown] at hb
      obtain ⟨r', xs, g1, gm, gp, go, gf⟩ := hb
      exact key _ hv fun r ad hr had => by rw [hr] at g1; cases g1; exact (go.lt ad.block (by rw [had]; rfl)).1
    · cases hv
  · cases hv
  · rename_i h1 h2 h3
    split at hv
    · rename_i xs hxs
      simp only [Option.some.injEq] at hv; subst hv
      have hvs := allVals_spec hxs
      have hne : ys.toArray.size ≠ 1 := fun e => by
        rw [← hr.1] at e
        match vs, e with
        | [v], _ => exact h3 v rfl
      rw [dif_neg hne] at hy
      rw [hy]
      show Value.tuple ys.toArray = Value.tuple xs.toArray
      congr 2
      apply List.ext_getElem?
      intro i
      have hl : xs.length = ys.length := by have := hr.1; rw [hvs] at this; simpa using this
      cases hxi : xs[i]? with
      | none => exact (List.getElem?_eq_none (by rw [← hl]; exact List.getElem?_eq_none_iff.1 hxi))
      | some z =>
        obtain ⟨q, hq, hqr⟩ := hr.2 i (.val z) (by rw [hvs, List.getElem?_map, hxi]; rfl)
        have : q = z := hqr
        subst this
        simpa using hq
    · cases hv

/-- **A function: what the evaluator returns, every call returns.** -/
theorem body_sound {f : FuncId} {fn : Func} (hf : P.funcs[f]? = some fn) (hname : (fn.name == "runtime.NumGoroutine") = false) (hm : P.follows .mixedOrders = true) {live : Nat → Option Keep} {fuel : Nat} {avs : List AV} {ret : AV → Option R} {r : R}
    (enc : R → AV) (henc : ∀ av r, ret av = some r → ∀ (w : World) (B : Nat) (x : Value), AVRel w B x av → AVRel w B x (enc r)) (h : bodyK P cs live fuel fn avs ret = some r) : Contract P f avs (enc r) := by
  intro w args hL hargs
  unfold bodyK at h
  cases hb : fn.body with
  | none =>
    have h' : codeK P cs live fuel (.exit 0) (initSt avs fn.ntmps) (retC P fn.results ret) = some r := by rw [bodyOf, hb] at h; exact h
    have h2 : (none : Option R) = some r := h'
    cases h2
  | some c =>
    have h : codeK P cs live fuel c (initSt avs fn.ntmps) (retC P fn.results ret) = some r := by rw [bodyOf, hb] at h; exact h
    have hcall : (callFunc f args).run P w = .ok (.enter f args) w := by
      unfold callFunc
      simp only [Sem.run_bind, run_program, Result.andThen_ok, hf, hname, hb, Bool.false_eq_true, if_false, Option.isNone_some, Sem.run_pure]
    unfold CallOk
    rw [hcall]
    refine ⟨rfl, calls_of_wp hf hb (wp_mono (code_sound hm c _ _ r _ w h (init_rel hL hargs fn.ntmps)) fun e a' w' ⟨ex, s', he, ⟨ρ, hr⟩, hk⟩ => ?_)⟩
    have fin : (match resVs P s' fn.results.toList with
        | some vs =>
          match retAV s'.hp vs with
          | some av => ret av
          | none => none
        | none => none) = some r → a'.defers = [] ∧ ∃ v, (results fn a'.tmps).run P w' = .ok v w' ∧ ∃ x, Ending.returned v = .returned x ∧ Below w.heap.size w w' ∧ AVRel w' w.heap.size x (enc r) := fun hk => by
      split at hk
      · rename_i vs hvs
        split at hk
        · rename_i av hav
          obtain ⟨ys, hys, htr⟩ := resVs_sound hr hvs
          refine ⟨hr.defers, (if h : ys.toArray.size = 1 then ys.toArray[0] else .tuple ys.toArray), ?_, _, rfl, hr.below, ?_⟩
          · have e : results fn a'.tmps = fn.results.mapM (resSem a'.tmps) >>= fun vs => Pure.pure (if h : vs.size = 1 then vs[0] else .tuple vs) := by
              unfold results
              refine congrArg (fun m : Sem (Array Value) => m >>= fun vs => Pure.pure (if h : vs.size = 1 then vs[0] else .tuple vs)) (congrArg (fun g : ResultVar → Sem Value => fn.results.mapM g) (funext fun x => ?_))
              cases x <;> rfl
            have e2 : (fn.results.mapM (resSem a'.tmps)).run P w' = .ok ys.toArray w' := by
              rw [Array.mapM_eq_mapM_toList]
              simp only [Sem.run_map, hys, Result.andThen_ok]
            rw [e, Sem.run_bind, e2]
            rfl
          · exact henc av r hk _ _ _ (retAV_sound hr htr hav rfl)
        · cases hk
      · cases hk
    subst he
    cases ex with
    | exit id =>
      have hk' : (none : Option R) = some r := hk
      cases hk'
    | normal => exact fin hk
    | ret => exact fin hk
end

end Go.Proofs.Ytmkhglpfhnocaaa.Ev
