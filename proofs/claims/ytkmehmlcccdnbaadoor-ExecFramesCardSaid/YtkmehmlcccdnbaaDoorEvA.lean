/- The evaluator: whole functions: what it returns is what a call returns, in every world. -/
import Derived.Test.YtkmehmlcccdnbaaDoorEv9
namespace Go.Proofs.YtkmehmlcccdnbaaDoor.Ev
open Go Go.RowKit
set_option linter.unusedVariables false
set_option linter.unusedSimpArgs false

def pvs : List PA → Nat → List PV
  | [], _ => []
  | .val v :: l, b => .val v :: pvs l (b + 1)
  | .tsl dp t :: l, b => .tsl dp t :: pvs l (b + 1)
  | .rows n fs :: l, b => .sl b fs.length n :: pvs l (b + 1)
def pblk : List PA → Nat → List Blk → List Blk
  | [], _, hp => hp
  | .val _ :: l, b, hp => pblk l (b + 1) hp
  | .tsl _ _ :: l, b, hp => pblk l (b + 1) hp
  | .rows n fs :: l, b, hp => pblk l (b + 1) (hp.set b (.ext n fs))
/-- The arguments, one after the other: argument i lies in temporary i, its slice in slot i; the slices of a struct in slots from b on. -/
def initGo : List AV → Nat → Nat → St → St
  | [], _, _, s => s
  | .val v :: l, i, b, s => initGo l (i + 1) b ⟨s.tm.set i (.val v), s.hp⟩
  | .tsl dp t :: l, i, b, s => initGo l (i + 1) b ⟨s.tm.set i (.tsl dp t), s.hp⟩
  | .rows n fs :: l, i, b, s => initGo l (i + 1) b ⟨s.tm.set i (.sl i fs.length n), s.hp.set i (.ext n fs)⟩
  | .pk p :: l, i, b, s => initGo l (i + 1) (b + p.length) ⟨s.tm.set i (.pk (pvs p b)), pblk p b s.hp⟩
  | .tup _ :: l, i, b, s => initGo l (i + 1) b s
  | .gsl .. :: l, i, b, s => initGo l (i + 1) b s
  | .pan _ :: l, i, b, s => initGo l (i + 1) b s
  | .cells p :: l, i, b, s => initGo l (i + 1) (b + p.length) ⟨s.tm.set i (.ptr i 0 0 0), (pblk p b s.hp).set i (.ro ((pvs p b).map PV.v))⟩
def extra : List AV → Nat
  | [] => 0
  | .pk p :: l => p.length + extra l
  | .cells p :: l => p.length + extra l
  | _ :: l => extra l
def initSt (avs : List AV) (n : Nat) : St :=
  initGo avs 0 (avs.length + (n - avs.length)) ⟨List.replicate avs.length .unk ++ List.replicate (n - avs.length) (.val undef), List.replicate (avs.length + (n - avs.length) + extra avs) .none⟩

def resV (P : Program) (s : St) : ResultVar → Option V
  | .tmp t => some (s.tm.getD t (.val undef))
  | .cell a t =>
    match s.tm.getD a (.val undef) with
    | .ptr b row sz fld =>
      match semVal P (isAgg t) with
      | some false => readV s.hp b row sz fld
      | some true =>
        match semVal P (sizeOf t) with
        | some n =>
          match readAgg s.hp b row sz fld n with
          | some vs => some (.val (.agg vs.toArray))
          | none =>
            match readPk s.hp b row sz fld n with
            | some ps => some (.pk ps)
            | none => none
        | none => none
      | none => none
    | _ => none
def resVs (P : Program) (s : St) : List ResultVar → Option (List V)
  | [] => some []
  | x :: l =>
    match resV P s x, resVs P s l with
    | some v, some vs => some (v :: vs)
    | _, _ => none
def retPA (hp : List Blk) : V → Option PA
  | .val v => some (.val v)
  | .tsl dp l => some (.tsl dp l)
  | .sl b sz len =>
    match hp.getD b .none with
    | .frz dp l => some (.tsl dp l)
    | .grow .. =>
      match avOf0 hp (.sl b sz len) with
      | some (.rows n fs, _) => some (.rows n fs)
      | _ => none
    | _ => none
  | _ => none
def retPAs (hp : List Blk) : List PV → Option (List PA)
  | [] => some []
  | p :: l =>
    match retPA hp p.v, retPAs hp l with
    | some q, some qs => some (q :: qs)
    | _, _ => none
def retTA (hp : List Blk) : V → Option TA
  | .pk cs => (retPAs hp cs).map .pk
  | v => (retPA hp v).map .one
def retTAs (hp : List Blk) : List V → Option (List TA)
  | [] => some []
  | p :: l =>
    match retTA hp p, retTAs hp l with
    | some q, some qs => some (q :: qs)
    | _, _ => none
def ret1 (hp : List Blk) (v : V) : Option AV :=
  match v with
  | .pk cs => (retPAs hp cs).map .pk
  | v =>
    match retPA hp v with
    | some (.val x) => some (.val x)
    | some (.tsl dp l) => some (.tsl dp l)
    | some (.rows n fs) => some (.rows n fs)
    | none => none
def retAV (hp : List Blk) (vs : List V) : Option AV :=
  match vs with
  | [v] => ret1 hp v
  | vs =>
    match allVals vs with
    | some xs => some (.val (.tuple xs.toArray))
    | none =>
      match retTAs hp vs with
      | some l => some (.tup l)
      | none => none
/-- What is handed back is frozen. -/
def preRet (P : Program) (s : St) : List ResultVar → List Pre
  | [] => []
  | .tmp t :: l => preSl s.hp [s.tm.getD t (.val undef)] ++ preRet P s l
  | .cell a t :: l =>
    match s.tm.getD a (.val undef) with
    | .ptr b0 _ _ _ =>
      match s.hp.getD b0 .none with
      | .own cs => preCs s.hp b0 cs 0 ++ preRet P s l
      | _ => preRet P s l
    | _ => preRet P s l

section
variable {R : Type}
/-- What follows the body. -/
def endC0 (P : Program) (results : Array ResultVar) (ret : AV → Option R) (s : St) : Option R :=
  match resVs P s results.toList with
  | some vs =>
    match retAV s.hp vs with
    | some av => ret av
    | none => none
  | none => none
/-- A slice of the call's own, given away. -/
def endG (P : Program) (results : Array ResultVar) (ret : AV → Option R) (s : St) : Option R :=
  match resVs P s results.toList with
  | some [.sl b 1 len] =>
    match s.hp.getD b .none with
    | .growK e dp l => ret (.gsl e dp l)
    | _ => none
  | _ => none
def endC (P : Program) (g : Bool) (results : Array ResultVar) (ret : AV → Option R) (s : St) : Option R :=
  bif g then endG P results ret s else
  match preRet P s results.toList with
  | [] => endC0 P results ret s
  | p :: ps => preK (p :: ps) s.hp fun hp' _ _ => endC0 P results ret ⟨s.tm, hp'⟩
def retC (P : Program) (g : Bool) (results : Array ResultVar) (ret : AV → Option R) : Ex → St → Option R := fun e s =>
  match e with
  | .exit _ => none
  | .panic v => ret (.pan v)
  | .normal => endC P g results ret s
  | .ret => endC P g results ret s
def bodyOf (fn : Func) : Code :=
  match fn.body with
  | none => .exit 0
  | some c => c
def bodyK (P : Program) (cs : List (Kn P)) (live : Nat → Option Keep) (fuel : Nat) (fn : Func) (g : Bool) (avs : List AV) (ret : AV → Option R) : Option R :=
  codeK P cs live fuel (bodyOf fn) (initSt avs fn.ntmps) (retC P g fn.results ret)

variable {P : Program} {cs : List (Kn P)} {ρ : Rho} {w0 : W0} {s : St} {a : Act} {w : World}

/-- A block that was there before is bound, where no block is the call's own. -/
theorem Rel.oldSlot (h : Rel ρ w0 s a w) {d : Nat} (hd : s.hp[d]? = some .none) (hno : ∀ b, (s.hp.getD b .none).isOwn = false) (r : RB) {n : Nat} {fs : List Fld} (hx : BRel (updR ρ d r) w0.heap.size w d (.ext n fs)) :
    leR ρ (updR ρ d r) ∧ Rel (updR ρ d r) w0 { s with hp := s.hp.set d (.ext n fs) } a w ∧ ∀ b, ((s.hp.set d (.ext n fs)).getD b .none).isOwn = false := by
  have hlen : d < s.hp.length := (List.getElem?_eq_some_iff.1 hd).1
  have hgd : s.hp.getD d .none = .none := by simp [List.getD_eq_getElem?_getD, hd]
  have hn : ρ d = none := by have := h.hp d; rw [hgd] at this; exact this
  have hl := leR_upd (r := r) hn
  have hno' : ∀ b, ((s.hp.set d (.ext n fs)).getD b .none).isOwn = false := fun b => by
    rw [getD_set]; split
    · rfl
    · exact hno b
  refine ⟨hl, { defers := h.defers, tm := h.tm.mono hl, hp := fun b => ?_, sep := fun b b' r r' ad ad' _ ho => ?_, below := h.below, laid := h.laid, fz := h.fz, fzO := h.fzO, fz0 := h.fz0, sepF := fun b r' ad ho => ?_ }, hno'⟩
  · show BRel _ _ _ b ((s.hp.set d (.ext n fs)).getD b .none)
    rw [getD_set]
    split
    · rename_i hb'; obtain ⟨rfl, _⟩ := hb'; exact hx
    · rename_i hb'
      have hbd : b ≠ d := fun e => hb' ⟨e, hlen⟩
      exact (h.hp b).mono hl (fun _ => updR_other _ _ hbd)
  · have := hno' b
    have ho' : ((s.hp.set d (.ext n fs)).getD b .none).isOwn = true := ho
    rw [this] at ho'; cases ho'
  · have := hno' b
    have ho' : ((s.hp.set d (.ext n fs)).getD b .none).isOwn = true := ho
    rw [this] at ho'; cases ho'

/-- A block that was there before is bound, where no block is the call's own. -/
theorem Rel.oldSlotX (h : Rel ρ w0 s a w) {d : Nat} (hd : s.hp[d]? = some .none) (hno : ∀ b, (s.hp.getD b .none).isOwn = false) (r : RB) {x : Blk} (hxo : x.isOwn = false) (hx : BRel (updR ρ d r) w0.heap.size w d x) :
    leR ρ (updR ρ d r) ∧ Rel (updR ρ d r) w0 { s with hp := s.hp.set d x } a w ∧ ∀ b, ((s.hp.set d x).getD b .none).isOwn = false := by
  have hlen : d < s.hp.length := (List.getElem?_eq_some_iff.1 hd).1
  have hgd : s.hp.getD d .none = .none := by simp [List.getD_eq_getElem?_getD, hd]
  have hn : ρ d = none := by have := h.hp d; rw [hgd] at this; exact this
  have hl := leR_upd (r := r) hn
  have hno' : ∀ b, ((s.hp.set d x).getD b .none).isOwn = false := fun b => by
    rw [getD_set]; split
    · exact hxo
    · exact hno b
  refine ⟨hl, { defers := h.defers, tm := h.tm.mono hl, hp := fun b => ?_, sep := fun b b' r r' ad ad' _ ho => ?_, below := h.below, laid := h.laid, fz := h.fz, fzO := h.fzO, fz0 := h.fz0, sepF := fun b r' ad ho => ?_ }, hno'⟩
  · show BRel _ _ _ b ((s.hp.set d x).getD b .none)
    rw [getD_set]
    split
    · rename_i hb'; obtain ⟨rfl, _⟩ := hb'; exact hx
    · rename_i hb'
      have hbd : b ≠ d := fun e => hb' ⟨e, hlen⟩
      exact (h.hp b).mono hl (fun _ => updR_other _ _ hbd)
  · have := hno' b
    have ho' : ((s.hp.set d x).getD b .none).isOwn = true := ho
    rw [this] at ho'; cases ho'
  · have := hno' b
    have ho' : ((s.hp.set d x).getD b .none).isOwn = true := ho
    rw [this] at ho'; cases ho'

theorem rowsAt_brel {B : Nat} {ρ : Rho} {d : Nat} {A : Option Addr} {c n : Nat} {fs : List Fld} (hle : n ≤ c) (h : RowsAt w 0 A n fs) : BRel (updR ρ d ⟨A, c, some n⟩) B w d (.ext n fs) :=
  ⟨_, updR_same _ _ _, rfl, hle, fun hp => let ⟨ad, h1, h2, _, h4, h5⟩ := h hp; ⟨ad, h1, h2, h4, h5⟩⟩

theorem pblk_length : ∀ (p : List PA) (b : Nat) (hp : List Blk), (pblk p b hp).length = hp.length
  | [], _, _ => rfl
  | .val _ :: l, b, hp => pblk_length l (b + 1) hp
  | .tsl _ _ :: l, b, hp => pblk_length l (b + 1) hp
  | .rows n fs :: l, b, hp => by simp [pblk, pblk_length l (b + 1)]
theorem pblk_other : ∀ (p : List PA) (b : Nat) (hp : List Blk) (q : Nat), q < b ∨ b + p.length ≤ q → (pblk p b hp)[q]? = hp[q]?
  | [], _, _, _, _ => rfl
  | .val _ :: l, b, hp, q, h => pblk_other l (b + 1) hp q (by simp at h; omega)
  | .tsl _ _ :: l, b, hp, q, h => pblk_other l (b + 1) hp q (by simp at h; omega)
  | .rows n fs :: l, b, hp, q, h => by
    simp only [pblk]
    rw [pblk_other l (b + 1) _ q (by simp at h; omega), List.getElem?_set_ne (by simp at h; omega)]

/-- The cells of a struct that is handed over. -/
theorem pk_rel : ∀ (p : List PA) (b : Nat) (s : St) (ρ : Rho) (cs : List Value), Rel ρ w0 s a w → (∀ q, (s.hp.getD q .none).isOwn = false) → (∀ q, b ≤ q → q < b + p.length → s.hp[q]? = some .none) → p.length = cs.length →
    (∀ (i : Nat) (x : PA), p[i]? = some x → ∃ y, cs[i]? = some y ∧ PARel ρ.fz w 0 y x) →
    ∃ ρ', leR ρ ρ' ∧ ρ'.fz = ρ.fz ∧ Rel ρ' w0 ⟨s.tm, pblk p b s.hp⟩ a w ∧ (∀ q, ((pblk p b s.hp).getD q .none).isOwn = false) ∧ ∀ (i : Nat) (x : PV), (pvs p b)[i]? = some x → ∃ y, cs[i]? = some y ∧ PRel ρ' x y
  | [], b, s, ρ, cs, h, hno, _, _, _ => ⟨ρ, leR_refl ρ, rfl, h, hno, fun i x hx => by simp [pvs] at hx⟩
  | .val v :: p, b, s, ρ, [], h, hno, hn, hl, hp => by simp at hl
  | .val v :: p, b, s, ρ, c :: cs, h, hno, hn, hl, hp => by
    obtain ⟨ρ', h1, h0, h2, h3, h4⟩ := pk_rel p (b + 1) s ρ cs h hno (fun q hq hq' => hn q (by omega) (by simp; omega)) (by simpa using hl) (fun i x hx => by simpa using hp (i + 1) x (by simpa using hx))
    refine ⟨ρ', h1, h0, h2, h3, fun i x hx => ?_⟩
    cases i with
    | zero =>
      simp only [pvs, List.getElem?_cons_zero, Option.some.injEq] at hx; subst hx
      obtain ⟨y, hy, hr⟩ := hp 0 _ rfl
      exact ⟨y, hy, hr⟩
    | succ i => simpa using h4 i x (by simpa [pvs] using hx)
  | .tsl dp t :: p, b, s, ρ, [], h, hno, hn, hl, hp => by simp at hl
  | .tsl dp t :: p, b, s, ρ, c :: cs, h, hno, hn, hl, hp => by
    obtain ⟨ρ', h1, h0, h2, h3, h4⟩ := pk_rel p (b + 1) s ρ cs h hno (fun q hq hq' => hn q (by omega) (by simp; omega)) (by simpa using hl) (fun i x hx => by simpa using hp (i + 1) x (by simpa using hx))
    refine ⟨ρ', h1, h0, h2, h3, fun i x hx => ?_⟩
    cases i with
    | zero =>
      simp only [pvs, List.getElem?_cons_zero, Option.some.injEq] at hx; subst hx
      obtain ⟨y, hy, hr⟩ := hp 0 _ rfl
      exact ⟨y, hy, (by obtain ⟨A, c', e1, e2⟩ := hr; exact ⟨A, c', e1, by rw [h0]; exact e2⟩)⟩
    | succ i => simpa using h4 i x (by simpa [pvs] using hx)
  | .rows n fs :: p, b, s, ρ, [], h, hno, hn, hl, hp => by simp at hl
  | .rows n fs :: p, b, s, ρ, c :: cs, h, hno, hn, hl, hp => by
    obtain ⟨y, hy, A, cap, hye, hle, hrows⟩ := hp 0 _ rfl
    simp only [List.getElem?_cons_zero, Option.some.injEq] at hy; subst hy
    obtain ⟨g1, g2, g3⟩ := h.oldSlot (hn b (Nat.le_refl _) (by simp)) hno ⟨A, cap, some n⟩ (rowsAt_brel hle hrows)
    obtain ⟨ρ', h1, h0, h2, h3, h4⟩ := pk_rel p (b + 1) ⟨s.tm, s.hp.set b (.ext n fs)⟩ _ cs g2 g3 (fun q hq hq' => by
      show (s.hp.set b (.ext n fs))[q]? = _
      rw [List.getElem?_set_ne (by omega)]; exact hn q (by omega) (by simp; omega)) (by simpa using hl) (fun i x hx => by
        have := hp (i + 1) x (by simpa using hx)
        exact this)
    refine ⟨ρ', ⟨fun q r hq => h1.1 _ _ (g1.1 _ _ hq), fun q r hq => h1.2 _ _ (g1.2 _ _ hq)⟩, h0, h2, h3, fun i x hx => ?_⟩
    cases i with
    | zero =>
      simp only [pvs, List.getElem?_cons_zero, Option.some.injEq] at hx; subst hx
      exact ⟨c, rfl, _, h1.1 _ _ (updR_same _ _ _), fun m hm => by cases hm; rfl, hye⟩
    | succ i => simpa using h4 i x (by simpa [pvs] using hx)

theorem initGo_rel : ∀ (avs : List AV) (i b : Nat) (s : St) (ρ : Rho), Rel ρ w0 s a w → (∀ q, (s.hp.getD q .none).isOwn = false) → (∀ q, i ≤ q → q < i + avs.length → s.hp[q]? = some .none) → i + avs.length ≤ b →
    (∀ q, b ≤ q → q < b + extra avs → s.hp[q]? = some .none) → (∀ (j : Nat) (av : AV), avs[j]? = some av → ∃ x : Value, a.tmps[i + j]? = some x ∧ AVRel ρ.fz w 0 x av) → RelE w0 (initGo avs i b s) a w
  | [], i, b, s, ρ, h, _, _, _, _, _ => ⟨ρ, h⟩
  | .val v :: l, i, b, s, ρ, h, hno, hi, hib, hb, ha => by
    obtain ⟨x, hx, hr⟩ := ha 0 _ rfl
    refine initGo_rel l (i + 1) b _ ρ { h with tm := h.tm.set_same hx (v := .val v) hr } hno (fun q hq hq' => hi q (by omega) (by simp; omega)) (by simp at hib; omega) hb (fun j av hj => ?_)
    have := ha (j + 1) av (by simpa using hj)
    rwa [show i + (j + 1) = i + 1 + j by omega] at this
  | .tsl dp t :: l, i, b, s, ρ, h, hno, hi, hib, hb, ha => by
    obtain ⟨x, hx, hr⟩ := ha 0 _ rfl
    refine initGo_rel l (i + 1) b _ ρ { h with tm := h.tm.set_same hx (v := .tsl dp t) hr } hno (fun q hq hq' => hi q (by omega) (by simp; omega)) (by simp at hib; omega) hb (fun j av hj => ?_)
    have := ha (j + 1) av (by simpa using hj)
    rwa [show i + (j + 1) = i + 1 + j by omega] at this
  | .tup t :: l, i, b, s, ρ, h, hno, hi, hib, hb, ha => by
    refine initGo_rel l (i + 1) b _ ρ h hno (fun q hq hq' => hi q (by omega) (by simp; omega)) (by simp at hib; omega) hb (fun j av hj => ?_)
    have := ha (j + 1) av (by simpa using hj)
    rwa [show i + (j + 1) = i + 1 + j by omega] at this
  | .cells p :: l, i, b, s, ρ, h, hno, hi, hib, hb, ha => by
    obtain ⟨x, hx, ad, hxe, hlt, hp⟩ := ha 0 _ rfl
    simp only [extra] at hb
    have hcs : ∀ (j : Nat) (y : PA), p[j]? = some y → ∃ z, ((List.range p.length).map fun j => (w.cell? ⟨ad.block, ad.off + j, none⟩).getD undef)[j]? = some z ∧ PARel ρ.fz w 0 z y := fun j y hy => by
      obtain ⟨z, hz, hr⟩ := hp j y hy
      refine ⟨z, ?_, hr⟩
      rw [List.getElem?_map, List.getElem?_range (List.getElem?_eq_some_iff.1 hy).1, Option.map_some, hz]; rfl
    obtain ⟨ρ', g1, g0, g2, g3, g4⟩ := pk_rel p b s ρ ((List.range p.length).map fun j => (w.cell? ⟨ad.block, ad.off + j, none⟩).getD undef) h hno (fun q hq hq' => hb q hq (by omega)) (by simp) hcs
    simp at hib
    have hpi : (pblk p b s.hp)[i]? = some .none := by rw [pblk_other p b _ i (by omega)]; exact hi i (Nat.le_refl _) (by simp)
    have hpl : ∀ (p : List PA) (b : Nat), (pvs p b).length = p.length := fun p => by
      induction p with
      | nil => intro b; rfl
      | cons x p ih => intro b; cases x <;> simp [pvs, ih]
    have hn : ρ' i = none := by have := g2.hp i; rw [show (pblk p b s.hp).getD i .none = .none by simp [List.getD_eq_getElem?_getD, hpi]] at this; exact this
    obtain ⟨k1, k2, k3⟩ := g2.oldSlotX (d := i) hpi g3 ⟨some ⟨ad.block, ad.off, none⟩, 0, none⟩ (x := .ro ((pvs p b).map PV.v)) rfl
      ⟨_, ⟨ad.block, ad.off, none⟩, updR_same _ _ _, rfl, rfl, rfl, hlt, fun j v hv => by
        rw [List.getElem?_map] at hv
        cases hq : (pvs p b)[j]? with
        | none => rw [hq] at hv; cases hv
        | some q =>
          rw [hq] at hv; cases hv
          obtain ⟨y, hy, hyr⟩ := g4 j q hq
          have hj : j < p.length := by rw [← hpl p b]; exact (List.getElem?_eq_some_iff.1 hq).1
          obtain ⟨z, hz, _⟩ := hp j p[j] (List.getElem?_eq_getElem hj)
          rw [List.getElem?_map, List.getElem?_range hj, Option.map_some, hz] at hy
          cases hy
          exact ⟨z, hz, (PRel.mono (leR_upd hn) hyr).v⟩⟩
    refine initGo_rel l (i + 1) (b + p.length) ⟨s.tm.set i (.ptr i 0 0 0), (pblk p b s.hp).set i (.ro ((pvs p b).map PV.v))⟩ _ { k2 with tm := k2.tm.set_same hx (v := .ptr i 0 0 0) ⟨_, _, updR_same _ _ _, rfl, fun n hn => (by cases hn), hxe⟩ } k3 (fun q hq hq' => ?_) (by omega) (fun q hq hq' => ?_) (fun j av hj => ?_)
    · show ((pblk p b s.hp).set i (.ro ((pvs p b).map PV.v)))[q]? = _
      rw [List.getElem?_set_ne (by omega), pblk_other p b _ q (by omega)]; exact hi q (by omega) (by simp; omega)
    · show ((pblk p b s.hp).set i (.ro ((pvs p b).map PV.v)))[q]? = _
      rw [List.getElem?_set_ne (by omega), pblk_other p b _ q (by omega)]; exact hb q (by omega) (by omega)
    · have := ha (j + 1) av (by simpa using hj)
      rw [show i + (j + 1) = i + 1 + j by omega, ← g0] at this
      exact this
  | .gsl .. :: l, i, b, s, ρ, h, hno, hi, hib, hb, ha => by
    refine initGo_rel l (i + 1) b _ ρ h hno (fun q hq hq' => hi q (by omega) (by simp; omega)) (by simp at hib; omega) hb (fun j av hj => ?_)
    have := ha (j + 1) av (by simpa using hj)
    rwa [show i + (j + 1) = i + 1 + j by omega] at this
  | .pan _ :: l, i, b, s, ρ, h, hno, hi, hib, hb, ha => by
    refine initGo_rel l (i + 1) b _ ρ h hno (fun q hq hq' => hi q (by omega) (by simp; omega)) (by simp at hib; omega) hb (fun j av hj => ?_)
    have := ha (j + 1) av (by simpa using hj)
    rwa [show i + (j + 1) = i + 1 + j by omega] at this
  | .rows n fs :: l, i, b, s, ρ, h, hno, hi, hib, hb, ha => by
    obtain ⟨x, hx, A, c, hxe, hle, hrows⟩ := ha 0 _ rfl
    obtain ⟨g1, g2, g3⟩ := h.oldSlot (hi i (Nat.le_refl _) (by simp)) hno ⟨A, c, some n⟩ (rowsAt_brel hle hrows)
    refine initGo_rel l (i + 1) b ⟨s.tm.set i (.sl i fs.length n), s.hp.set i (.ext n fs)⟩ _ { g2 with tm := g2.tm.set_same hx (v := .sl i fs.length n) ⟨_, updR_same _ _ _, fun m hm => (by cases hm; rfl), hxe⟩ } g3 (fun q hq hq' => ?_) (by simp at hib; omega) (fun q hq hq' => ?_) (fun j av hj => ?_)
    · show (s.hp.set i (.ext n fs))[q]? = _
      rw [List.getElem?_set_ne (by omega)]; exact hi q (by omega) (by simp; omega)
    · show (s.hp.set i (.ext n fs))[q]? = _
      simp at hib
      rw [List.getElem?_set_ne (by omega)]; exact hb q hq hq'
    · have := ha (j + 1) av (by simpa using hj)
      rwa [show i + (j + 1) = i + 1 + j by omega] at this
  | .pk p :: l, i, b, s, ρ, h, hno, hi, hib, hb, ha => by
    obtain ⟨x, hx, c, hxe, hl, hp⟩ := ha 0 _ rfl
    simp only [extra] at hb
    obtain ⟨ρ', g1, g0, g2, g3, g4⟩ := pk_rel p b s ρ c.toList h hno (fun q hq hq' => hb q hq (by omega)) (by simpa using hl) (fun j y hy => by simpa using hp j y hy)
    refine initGo_rel l (i + 1) (b + p.length) ⟨s.tm.set i (.pk (pvs p b)), pblk p b s.hp⟩ ρ' { g2 with tm := g2.tm.set_same hx (v := .pk (pvs p b)) ⟨c, hxe, ?_, fun j y hy => by simpa using g4 j y hy⟩ } g3 (fun q hq hq' => ?_) (by simp at hib; omega) (fun q hq hq' => ?_) (fun j av hj => ?_)
    · have : ∀ (p : List PA) (b : Nat), (pvs p b).length = p.length := fun p => by
        induction p with
        | nil => intro b; rfl
        | cons x p ih => intro b; cases x <;> simp [pvs, ih]
      rw [this]; exact hl
    · show (pblk p b s.hp)[q]? = _
      simp at hib
      rw [pblk_other p b _ q (by omega)]; exact hi q (by omega) (by simp; omega)
    · show (pblk p b s.hp)[q]? = _
      rw [pblk_other p b _ q (by omega)]; exact hb q (by omega) (by omega)
    · have := ha (j + 1) av (by simpa using hj)
      rw [show i + (j + 1) = i + 1 + j by omega, ← g0] at this
      exact this

theorem init_rel {args : Array Value} {avs : List AV} {fz : Nat → Option Obj} (hfz : FzW fz w) (hL : LaidW w) (h : ArgsRel fz w args avs) (n : Nat) : RelE ⟨w, fz⟩ (initSt avs n) { tmps := args ++ Array.replicate (n - args.size) undef, defers := [] } w := by
  obtain ⟨hl, ha⟩ := h
  have hnone : ∀ (m q : Nat), (List.replicate m Blk.none).getD q .none = .none := fun m q => by
    simp only [List.getD_eq_getElem?_getD, List.getElem?_replicate]; split <;> rfl
  refine initGo_rel avs 0 _ _ ⟨fun _ => none, fz⟩ { defers := rfl, tm := ⟨by simp [hl], fun i v hv => ?_⟩, hp := fun b => ?_, sep := fun b b' r r' ad ad' _ ho => ?_, below := Below.refl _ _, laid := hL, fz := hfz, fzO := fun _ _ h => .inl h, fz0 := fun _ _ h => h, sepF := fun b r ad ho => ?_ } (fun q => ?_) (fun q _ hq => ?_) (by omega) (fun q _ hq => ?_) (fun j av hj => ?_)
  · have hv' : (List.replicate avs.length V.unk ++ List.replicate (n - avs.length) (.val undef))[i]? = some v := hv
    rw [List.getElem?_append] at hv'
    have hsz : (args ++ Array.replicate (n - args.size) undef).size = args.size + (n - args.size) := by simp
    split at hv'
    · rename_i hi
      rw [List.getElem?_replicate] at hv'
      split at hv' <;> simp only [Option.some.injEq, reduceCtorEq] at hv'
      subst hv'
      simp at hi
      exact ⟨(args ++ Array.replicate (n - args.size) undef)[i]'(by rw [hsz]; omega), Array.getElem?_eq_getElem _, trivial⟩
    · rename_i hi
      rw [List.getElem?_replicate] at hv'
      split at hv' <;> simp only [Option.some.injEq, reduceCtorEq] at hv'
      subst hv'
      rename_i hlt
      simp at hi hlt
      refine ⟨undef, ?_, rfl⟩
      show (args ++ Array.replicate (n - args.size) undef)[i]? = some undef
      rw [Array.getElem?_append_right (by omega), Array.getElem?_replicate, if_pos (by omega)]
  · show BRel _ _ _ b ((List.replicate _ Blk.none).getD b .none)
    rw [hnone]; rfl
  · have ho' : ((List.replicate (avs.length + (n - avs.length) + extra avs) Blk.none).getD b .none).isOwn = true := ho
    rw [hnone] at ho'; cases ho'
  · have ho' : ((List.replicate (avs.length + (n - avs.length) + extra avs) Blk.none).getD b .none).isOwn = true := ho
    rw [hnone] at ho'; cases ho'
  · show ((List.replicate (avs.length + (n - avs.length) + extra avs) Blk.none).getD q .none).isOwn = false
    rw [hnone]; rfl
  · show (List.replicate (avs.length + (n - avs.length) + extra avs) Blk.none)[q]? = _
    rw [List.getElem?_replicate, if_pos (by omega)]
  · show (List.replicate (avs.length + (n - avs.length) + extra avs) Blk.none)[q]? = _
    rw [List.getElem?_replicate, if_pos (by omega)]
  · obtain ⟨x, hx, hr⟩ := ha j av hj
    refine ⟨x, ?_, hr⟩
    show (args ++ Array.replicate (n - args.size) undef)[0 + j]? = some x
    rw [Nat.zero_add, Array.getElem?_append_left (Array.getElem?_eq_some_iff.1 hx).1]; exact hx

theorem preK_rel {R : Type} {r : R} : ∀ (ps : List Pre) (tm : List V) (hp : List Blk) (K : List Blk → List (Nat × Blk) → List Nat → Option R), RelE w0 ⟨tm, hp⟩ a w → preK ps hp K = some r → ∃ hp' wr rd, K hp' wr rd = some r ∧ RelE w0 ⟨tm, hp'⟩ a w
  | [], tm, hp, K, hr, h => ⟨hp, [], [], h, hr⟩
  | .b b :: l, tm, hp, K, hr, h => by
    simp only [preK, setK_eq] at h
    split at h
    · rename_i e dp ts hb
      obtain ⟨ρ, hr⟩ := hr
      obtain ⟨ρ', _, _, hr'⟩ := hr.freeze hb
      obtain ⟨hp', wr, rd, h1, h2⟩ := preK_rel l tm _ _ ⟨ρ', hr'⟩ h
      exact ⟨hp', _, _, h1, h2⟩
    · exact preK_rel l tm hp K hr h
  | .c b0 off b :: l, tm, hp, K, hr, h => by
    simp only [preK, setK_eq] at h
    split at h
    · rename_i cs dp ts h0 hb
      split at h
      · rename_i b' n hc
        cases hbb : b' == b with
        | false => rw [hbb] at h; exact preK_rel l tm hp K hr h
        | true =>
          rw [hbb] at h
          simp only [cond_true] at h
          have : b' = b := by simpa using hbb
          subst this
          obtain ⟨ρ, hr⟩ := hr
          obtain ⟨hp', wr, rd, h1, h2⟩ := preK_rel l tm _ _ ⟨ρ, hr.cellTsl h0 hc hb⟩ h
          exact ⟨hp', _, _, h1, h2⟩
      · exact preK_rel l tm hp K hr h
    · exact preK_rel l tm hp K hr h

def resSem (tmps : Array Value) : ResultVar → Sem Value
  | .tmp t => pure (tmps.getD t undef)
  | .cell a t => do loadVar t (← asAddr (tmps.getD a undef))

theorem resV_sound (h : Rel ρ w0 s a w) {x : ResultVar} {v : V} (hv : resV P s x = some v) : ∃ y, (resSem a.tmps x).run P w = .ok y w ∧ VRel ρ v y := by
  cases x with
  | tmp t =>
    simp only [resV, Option.some.injEq] at hv; subst hv
    exact ⟨_, rfl, h.tm.eval (.tmp t)⟩
  | cell p t =>
    simp only [resV] at hv
    have hp := h.tm.eval (.tmp p)
    simp only [evV] at hp
    split at hv
    · rename_i b row sz fld hx
      rw [hx] at hp
      obtain ⟨r, ad, hr, had, hlim, hxe⟩ := hp
      have hxe' : a.tmps.getD p undef = .pointer (some ⟨ad.block, ad.off + (row * sz + fld), none⟩) := hxe
      split at hv
      · rename_i ht
        obtain ⟨y, hy, hvr⟩ := readV_sound h hv hr had hlim
        refine ⟨y, ?_, hvr⟩
        simp only [resSem, hxe', asAddr, Sem.run_bind, Sem.run_pure, Result.andThen_ok, loadVar, semVal_run ht, Bool.false_eq_true, if_false, run_load, hy]
      · rename_i ht
        split at hv
        · rename_i n hn
          split at hv
          · rename_i vs hvs
            simp only [Option.some.injEq] at hv; subst hv
            obtain ⟨hlen, hcells⟩ := readAgg_sound h hr had hlim n fld vs hvs
            refine ⟨_, ?_, rfl⟩
            have hl := run_loadCells_list (P := P) w ⟨ad.block, ad.off + (row * sz + fld), none⟩ vs (fun j v hj => by rw [addr_add]; exact hcells j v hj)
            rw [hlen] at hl
            simp only [resSem, hxe', asAddr, Sem.run_bind, Sem.run_pure, Result.andThen_ok, loadVar, semVal_run ht, if_true, semVal_run hn, hl]
          · split at hv
            · rename_i ps hps
              simp only [Option.some.injEq] at hv; subst hv
              obtain ⟨vs, hlen, hpl, hcells, hpr⟩ := readPk_sound h hr had hlim n fld ps hps
              refine ⟨.agg vs.toArray, ?_, vs.toArray, rfl, by simp [hpl, hlen], fun j p hp => by simpa using hpr j p hp⟩
              have hl := run_loadCells_list (P := P) w ⟨ad.block, ad.off + (row * sz + fld), none⟩ vs (fun j v hj => by rw [addr_add]; exact hcells j v hj)
              rw [hlen] at hl
              simp only [resSem, hxe', asAddr, Sem.run_bind, Sem.run_pure, Result.andThen_ok, loadVar, semVal_run ht, if_true, semVal_run hn, hl]
            · cases hv
        · cases hv
      · cases hv
    · cases hv

theorem resVs_sound (h : Rel ρ w0 s a w) : ∀ {l : List ResultVar} {vs : List V}, resVs P s l = some vs → ∃ ys : List Value, (l.mapM (resSem a.tmps)).run P w = .ok ys w ∧ TRel ρ vs ys.toArray
  | [], vs, hv => by
    simp only [resVs, Option.some.injEq] at hv; subst hv
    exact ⟨[], rfl, rfl, fun i v hi => by simp at hi⟩
  | x :: l, vs, hv => by
    simp only [resVs] at hv
    split at hv
    · rename_i v us hv1 hv2
      simp only [Option.some.injEq] at hv; subst hv
      obtain ⟨y, hy, hr⟩ := resV_sound h hv1
      obtain ⟨ys, hys, hrs⟩ := resVs_sound h hv2
      refine ⟨y :: ys, ?_, by simp [hrs.1], fun i u hi => ?_⟩
      · simp only [List.mapM_cons, Sem.run_bind, hy, Result.andThen_ok, hys, Sem.run_pure]
      · cases i with
        | zero => simp at hi; subst hi; exact ⟨y, by simp, hr⟩
        | succ i =>
          obtain ⟨z, hz, hzr⟩ := hrs.2 i u (by simpa using hi)
          exact ⟨z, by simpa using hz, hzr⟩
    · cases hv

theorem retPA_sound (h : Rel ρ w0 s a w) {v : V} {y : Value} (hy : VRel ρ v y) {p : PA} (hv : retPA s.hp v = some p) : PARel ρ.fz w w0.heap.size y p := by
  unfold retPA at hv
  split at hv
  · cases hv; exact hy
  · cases hv; exact hy
  · rename_i b sz len
    have hy' := hy
    obtain ⟨r, hr, hlim, rfl⟩ := hy
    have hb := h.hp b
    have key : ∀ n fs rd, avOf0 s.hp (.sl b sz len) = some (.rows n fs, rd) → (∀ ad, r.addr = some ad → w0.heap.size ≤ ad.block) → PARel ρ.fz w w0.heap.size (.slice r.addr len r.cap) (.rows n fs) := fun n fs rd hav hblk => by
      obtain ⟨A, c', he, hle, hrows⟩ := avOf0_sound h hy' hav
      refine ⟨A, c', he, hle, fun hp => ?_⟩
      obtain ⟨ad, k1, k2, k3, k4, k5⟩ := hrows hp
      rw [k1] at he
      simp only [Value.slice.injEq] at he
      exact ⟨ad, k1, k2, hblk ad he.1, k4, k5⟩
    split at hv
    · rename_i dp l hq
      cases hv
      rw [hq] at hb
      obtain ⟨r', g1, g2, g3⟩ := hb
      rw [hr] at g1; cases g1
      have hn := hlim _ g2; subst hn
      exact ⟨_, _, rfl, g3⟩
    · rename_i e n fs hown
      rw [hown] at hb
      obtain ⟨r', xs, g1, gm, gp, go, gf⟩ := hb
      rw [hr] at g1; cases g1
      split at hv
      · rename_i n fs rd hav
        cases hv
        exact key _ _ _ hav fun ad had => (go.lt ad.block (by rw [had]; rfl)).1
      · cases hv
    · cases hv
  · cases hv
theorem retPAs_sound (h : Rel ρ w0 s a w) : ∀ {cs : List PV} {ps : List PA}, retPAs s.hp cs = some ps → ps.length = cs.length ∧ ∀ (i : Nat) (p : PA), ps[i]? = some p → ∃ q, cs[i]? = some q ∧ ∀ x, PRel ρ q x → PARel ρ.fz w w0.heap.size x p
  | [], ps, hv => by simp only [retPAs, Option.some.injEq] at hv; subst hv; exact ⟨rfl, fun i p hp => by simp at hp⟩
  | c :: cs, ps, hv => by
    simp only [retPAs] at hv
    split at hv
    · rename_i q qs h1 h2
      cases hv
      obtain ⟨i1, i2⟩ := retPAs_sound h h2
      refine ⟨by simp [i1], fun i p hp => ?_⟩
      cases i with
      | zero => simp at hp; subst hp; exact ⟨c, rfl, fun x hx => retPA_sound h hx.v h1⟩
      | succ i => simpa using i2 i p (by simpa using hp)
    · cases hv
theorem retPk_sound (h : Rel ρ w0 s a w) {cs : List PV} {ps : List PA} (hv : retPAs s.hp cs = some ps) {y : Value} (hy : VRel ρ (.pk cs) y) : ∃ c : Array Value, y = .agg c ∧ ps.length = c.size ∧ ∀ (i : Nat) (p : PA), ps[i]? = some p → ∃ x, c[i]? = some x ∧ PARel ρ.fz w w0.heap.size x p := by
  obtain ⟨c, h1, h2, h3⟩ := hy
  obtain ⟨i1, i2⟩ := retPAs_sound h hv
  refine ⟨c, h1, by rw [i1, h2], fun i p hp => ?_⟩
  obtain ⟨q, hq, hqr⟩ := i2 i p hp
  obtain ⟨x, hx, hxr⟩ := h3 i q hq
  exact ⟨x, hx, hqr x hxr⟩
theorem retTA_sound (h : Rel ρ w0 s a w) {v : V} {y : Value} (hy : VRel ρ v y) {p : TA} (hv : retTA s.hp v = some p) : TARel ρ.fz w w0.heap.size y p := by
  unfold retTA at hv
  split at hv
  · obtain ⟨ps, h1, rfl⟩ := Option.map_eq_some_iff.1 hv
    exact retPk_sound h h1 hy
  · obtain ⟨q, h1, rfl⟩ := Option.map_eq_some_iff.1 hv
    exact retPA_sound h hy h1
theorem retTAs_sound (h : Rel ρ w0 s a w) : ∀ {cs : List V} {ps : List TA}, retTAs s.hp cs = some ps → ps.length = cs.length ∧ ∀ (i : Nat) (p : TA), ps[i]? = some p → ∃ q, cs[i]? = some q ∧ ∀ x, VRel ρ q x → TARel ρ.fz w w0.heap.size x p
  | [], ps, hv => by simp only [retTAs, Option.some.injEq] at hv; subst hv; exact ⟨rfl, fun i p hp => by simp at hp⟩
  | c :: cs, ps, hv => by
    simp only [retTAs] at hv
    split at hv
    · rename_i q qs h1 h2
      cases hv
      obtain ⟨i1, i2⟩ := retTAs_sound h h2
      refine ⟨by simp [i1], fun i p hp => ?_⟩
      cases i with
      | zero => simp at hp; subst hp; exact ⟨c, rfl, fun x hx => retTA_sound h hx h1⟩
      | succ i => simpa using i2 i p (by simpa using hp)
    · cases hv
theorem retAV_sound (h : Rel ρ w0 s a w) {vs : List V} {ys : List Value} (hr : TRel ρ vs ys.toArray) {av : AV} (hv : retAV s.hp vs = some av) {y : Value} (hy : y = if h : ys.toArray.size = 1 then ys.toArray[0] else .tuple ys.toArray) : AVRel ρ.fz w w0.heap.size y av := by
  unfold retAV at hv
  split at hv
  · rename_i v
    obtain ⟨x, hx, hxr⟩ := hr.2 0 _ rfl
    have hs : ys.toArray.size = 1 := hr.1.symm
    rw [dif_pos hs] at hy
    have : ys.toArray[0]? = some ys.toArray[0] := by simp [hs]
    rw [hx] at this; cases this
    rw [hy]
    unfold ret1 at hv
    split at hv
    · obtain ⟨ps, h1, rfl⟩ := Option.map_eq_some_iff.1 hv
      exact retPk_sound h h1 hxr
    · split at hv
      · rename_i hp; cases hv; exact retPA_sound h hxr hp
      · rename_i hp; cases hv; exact retPA_sound h hxr hp
      · rename_i hp; cases hv; exact retPA_sound h hxr hp
      · cases hv
  · rename_i h3
    have hne : ys.toArray.size ≠ 1 := fun e => by
      rw [← hr.1] at e
      match vs, e with
      | [v], _ => exact h3 v rfl
    rw [dif_neg hne] at hy
    rw [hy]
    split at hv
    · rename_i xs hxs
      simp only [Option.some.injEq] at hv; subst hv
      have hvs := allVals_spec hxs
      show Value.tuple ys.toArray = Value.tuple xs.toArray
      congr 2
      apply List.ext_getElem?
      intro i
      have hl : xs.length = ys.length := by have := hr.1; rw [hvs] at this; simpa using this
      cases hxi : xs[i]? with
      | none => exact (List.getElem?_eq_none (by rw [← hl]; exact List.getElem?_eq_none_iff.1 hxi))
      | some z =>
        obtain ⟨q, hq, hqr⟩ := hr.2 i (.val z) (by rw [hvs, List.getElem?_map, hxi]; rfl)
        have : q = z := hqr
        subst this
        simpa using hq
    · split at hv
      · rename_i l hl
        cases hv
        obtain ⟨i1, i2⟩ := retTAs_sound h hl
        refine ⟨ys.toArray, rfl, by rw [i1, hr.1], fun i p hp => ?_⟩
        obtain ⟨q, hq, hqr⟩ := i2 i p hp
        obtain ⟨x, hx, hxr⟩ := hr.2 i q hq
        exact ⟨x, hx, hqr x hxr⟩
      · cases hv

/-- **A function: what the evaluator returns, every call returns.** -/
theorem body_sound {f : FuncId} {fn : Func} (hf : P.funcs[f]? = some fn) (hname : (fn.name == "runtime.NumGoroutine") = false) (hm : P.follows .mixedOrders = true) {live : Nat → Option Keep} {fuel : Nat} {g : Bool} {avs : List AV} {ret : AV → Option R} {r : R}
    (enc : R → AV) (henc : ∀ av r, ret av = some r → ∀ (fz : Nat → Option Obj) (w : World) (B : Nat) (x : Value), AVRel fz w B x av → AVRel fz w B x (enc r)) (henp : ∀ v r, ret (.pan v) = some r → enc r = .pan v) (h : bodyK P cs live fuel fn g avs ret = some r) : Contract P f avs (enc r) := by
  intro fz w args hfz hL hargs
  unfold bodyK at h
  cases hb : fn.body with
  | none =>
    have h' : codeK P cs live fuel (.exit 0) (initSt avs fn.ntmps) (retC P g fn.results ret) = some r := by rw [bodyOf, hb] at h; exact h
    have h2 : (none : Option R) = some r := h'
    cases h2
  | some c =>
    have h : codeK P cs live fuel c (initSt avs fn.ntmps) (retC P g fn.results ret) = some r := by rw [bodyOf, hb] at h; exact h
    have hcall : (callFunc f args).run P w = .ok (.enter f args) w := by
      unfold callFunc
      simp only [Sem.run_bind, run_program, Result.andThen_ok, hf, hname, hb, Bool.false_eq_true, if_false, Option.isNone_some, Sem.run_pure]
    unfold CallOk2
    rw [hcall]
    refine ⟨rfl, calls_of_wp hf hb (wp_mono (code_sound hm c _ _ r _ w h (init_rel hfz hL hargs fn.ntmps)) fun e a' w' ⟨ex, s', he, ⟨ρ, hr⟩, hk⟩ => ?_)⟩
    have fin1 : ∀ (s' : St) (ρ : Rho) (hr : Rel ρ ⟨w, fz⟩ s' a' w') (vs : List V), resVs P s' fn.results.toList = some vs → (∀ ys : List Value, TRel ρ vs ys.toArray → AVRel ρ.fz w' w.heap.size (if h : ys.toArray.size = 1 then ys.toArray[0] else .tuple ys.toArray) (enc r)) → a'.defers = [] ∧ ∃ v, (results fn a'.tmps).run P w' = .ok v w' ∧ ∃ x, Ending.returned v = .returned x ∧ Below w.heap.size w w' ∧ ∃ fz', FzW fz' w' ∧ FzNew fz fz' w.heap.size ∧ AVRel fz' w' w.heap.size x (enc r) := fun s' ρ hr vs hvs hk => by
      obtain ⟨ys, hys, htr⟩ := resVs_sound hr hvs
      refine ⟨hr.defers, (if h : ys.toArray.size = 1 then ys.toArray[0] else .tuple ys.toArray), ?_, _, rfl, hr.below, ρ.fz, hr.fz, ⟨hr.fz0, hr.fzO⟩, hk ys htr⟩
      have e : results fn a'.tmps = fn.results.mapM (resSem a'.tmps) >>= fun vs => Pure.pure (if h : vs.size = 1 then vs[0] else .tuple vs) := by
        unfold results
        refine congrArg (fun m : Sem (Array Value) => m >>= fun vs => Pure.pure (if h : vs.size = 1 then vs[0] else .tuple vs)) (congrArg (fun g : ResultVar → Sem Value => fn.results.mapM g) (funext fun x => ?_))
        cases x <;> rfl
      have e2 : (fn.results.mapM (resSem a'.tmps)).run P w' = .ok ys.toArray w' := by
        rw [Array.mapM_eq_mapM_toList]
        simp only [Sem.run_map, hys, Result.andThen_ok]
      rw [e, Sem.run_bind, e2]
      rfl
    have fin0 : ∀ (s' : St) (ρ : Rho) (hr : Rel ρ ⟨w, fz⟩ s' a' w'), (match resVs P s' fn.results.toList with
        | some vs =>
          match retAV s'.hp vs with
          | some av => ret av
          | none => none
        | none => none) = some r → a'.defers = [] ∧ ∃ v, (results fn a'.tmps).run P w' = .ok v w' ∧ ∃ x, Ending.returned v = .returned x ∧ Below w.heap.size w w' ∧ ∃ fz', FzW fz' w' ∧ FzNew fz fz' w.heap.size ∧ AVRel fz' w' w.heap.size x (enc r) := fun s' ρ hr hk => by
      split at hk
      · rename_i vs hvs
        split at hk
        · rename_i av hav
          exact fin1 s' ρ hr vs hvs fun ys htr => henc av r hk _ _ _ _ (retAV_sound hr htr hav rfl)
        · cases hk
      · cases hk
    have fin : endC P g fn.results ret s' = some r → a'.defers = [] ∧ ∃ v, (results fn a'.tmps).run P w' = .ok v w' ∧ ∃ x, Ending.returned v = .returned x ∧ Below w.heap.size w w' ∧ ∃ fz', FzW fz' w' ∧ FzNew fz fz' w.heap.size ∧ AVRel fz' w' w.heap.size x (enc r) := fun hk => by
      unfold endC at hk
      cases g with
      | true =>
        simp only [cond_true] at hk
        unfold endG at hk
        split at hk
        · rename_i b len hvs
          split at hk
          · rename_i e dp l hq
            refine fin1 s' ρ hr _ hvs fun ys htr => henc _ r hk _ _ _ _ ?_
            obtain ⟨x, hx, r0, h1, h2, h3⟩ := htr.2 0 _ rfl
            have hs : ys.toArray.size = 1 := htr.1.symm
            rw [dif_pos hs]
            have : ys.toArray[0]? = some ys.toArray[0] := by simp [hs]
            rw [hx] at this; cases this
            have hB := hr.hp b
            rw [hq] at hB
            obtain ⟨r', xs, g1, gm, go, gf⟩ := hB
            rw [h1] at g1; cases g1
            have hl := h2 _ gm; subst hl
            exact ⟨_, _, xs, h3, go, gf, fun ad had => hr.sepF b r0 ad (by rw [hq]; rfl) h1 had⟩
          · cases hk
        · cases hk
      | false =>
      simp only [cond_false] at hk
      split at hk
      · exact fin0 s' ρ hr hk
      · obtain ⟨hp', _, _, h1, ⟨ρ', h2⟩⟩ := preK_rel (w0 := ⟨w, fz⟩) _ s'.tm s'.hp _ ⟨ρ, hr⟩ hk
        exact fin0 _ ρ' h2 h1
    subst he
    cases ex with
    | exit id =>
      have hk' : (none : Option R) = some r := hk
      cases hk'
    | normal => obtain ⟨q1, v, q2, q3⟩ := fin hk; exact ⟨q1, v, q2, .inl q3⟩
    | ret => obtain ⟨q1, v, q2, q3⟩ := fin hk; exact ⟨q1, v, q2, .inl q3⟩
    | panic v => exact ⟨hr.defers, .inr ⟨v, rfl, henp v r hk, hr.below⟩⟩
end

end Go.Proofs.YtkmehmlcccdnbaaDoor.Ev
