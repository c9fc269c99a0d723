/- The evaluator: whole functions: what it returns is what a call returns, in every world. Codes: how a plain value of Lean (a number, a pair, an error) stands for a value of the model, and a callee made of a function's equation. Names for parts of a function's code and for states, in which the printed equations are said. -/
import Derived.Test.YtcihbcffokjgjaaGreatTEv9
import Derived.Laws.Externs
namespace Go.Proofs.YtcihbcffokjgjaaGreat.Ev
open Go Go.RowKit
set_option linter.unusedVariables false
set_option linter.unusedSimpArgs false
def pvs : List PA → Nat → List PV
  | [], _ => []
  | .val v :: l, b => .val v :: pvs l (b + 1)
  | .tsl t :: l, b => .tsl t :: pvs l (b + 1)
  | .rows n fs :: l, b => .sl b fs.length n :: pvs l (b + 1)
def pblk : List PA → Nat → List Blk → List Blk
  | [], _, hp => hp
  | .val _ :: l, b, hp => pblk l (b + 1) hp
  | .tsl _ :: l, b, hp => pblk l (b + 1) hp
  | .rows n fs :: l, b, hp => pblk l (b + 1) (hp.set b (.ext n fs))
def initGo : List AV → Nat → Nat → St → St
  | [], _, _, s => s
  | .val v :: l, i, b, s => initGo l (i + 1) b ⟨s.tm.set i (.val v), s.hp⟩
  | .tsl t :: l, i, b, s => initGo l (i + 1) b ⟨s.tm.set i (.tsl t), s.hp⟩
  | .rows n fs :: l, i, b, s => initGo l (i + 1) b ⟨s.tm.set i (.sl i fs.length n), s.hp.set i (.ext n fs)⟩
  | .pk p :: l, i, b, s => initGo l (i + 1) (b + p.length) ⟨s.tm.set i (.pk (pvs p b)), pblk p b s.hp⟩
  | .tup _ :: l, i, b, s => initGo l (i + 1) b s
def extra : List AV → Nat
  | [] => 0
  | .pk p :: l => p.length + extra l
  | _ :: l => extra l
def initSt (avs : List AV) (n : Nat) : St :=
  initGo avs 0 (avs.length + (n - avs.length)) ⟨List.replicate avs.length .unk ++ List.replicate (n - avs.length) (.val undef), List.replicate (avs.length + (n - avs.length) + extra avs) .none⟩
def resV (P : Program) (s : St) : ResultVar → Option V
  | .tmp t => some (s.tm.getD t (.val undef))
  | .cell a t =>
    match s.tm.getD a (.val undef) with
    | .ptr b row sz fld =>
      match semVal P (isAgg t) with
      | some false => readV s.hp b row sz fld
      | some true =>
        match semVal P (sizeOf t) with
        | some n =>
          match readAgg s.hp b row sz fld n with
          | some vs => some (.val (.agg vs.toArray))
          | none =>
            match readPk s.hp b row sz fld n with
            | some ps => some (.pk ps)
            | none => none
        | none => none
      | none => none
    | _ => none
def resVs (P : Program) (s : St) : List ResultVar → Option (List V)
  | [] => some []
  | x :: l =>
    match resV P s x, resVs P s l with
    | some v, some vs => some (v :: vs)
    | _, _ => none
def retPA (hp : List Blk) : V → Option PA
  | .val v => some (.val v)
  | .tsl l => some (.tsl l)
  | .sl b sz len =>
    match hp.getD b .none with
    | .frz l => some (.tsl l)
    | .own _ | .grow .. =>
      match avOf0 hp (.sl b sz len) with
      | some (.rows n fs, _) => some (.rows n fs)
      | _ => none
    | _ => none
  | _ => none
def retPAs (hp : List Blk) : List PV → Option (List PA)
  | [] => some []
  | p :: l =>
    match retPA hp p.v, retPAs hp l with
    | some q, some qs => some (q :: qs)
    | _, _ => none
def retTA (hp : List Blk) : V → Option TA
  | .pk cs => (retPAs hp cs).map .pk
  | v => (retPA hp v).map .one
def retTAs (hp : List Blk) : List V → Option (List TA)
  | [] => some []
  | p :: l =>
    match retTA hp p, retTAs hp l with
    | some q, some qs => some (q :: qs)
    | _, _ => none
def ret1 (hp : List Blk) (v : V) : Option AV :=
  match v with
  | .pk cs => (retPAs hp cs).map .pk
  | v =>
    match retPA hp v with
    | some (.val x) => some (.val x)
    | some (.tsl l) => some (.tsl l)
    | some (.rows n fs) => some (.rows n fs)
    | none => none
def retAV (hp : List Blk) (vs : List V) : Option AV :=
  match vs with
  | [v] => ret1 hp v
  | vs =>
    match allVals vs with
    | some xs => some (.val (.tuple xs.toArray))
    | none =>
      match retTAs hp vs with
      | some l => some (.tup l)
      | none => none
def preRet (P : Program) (s : St) : List ResultVar → List Pre
  | [] => []
  | .tmp t :: l => preSl s.hp [s.tm.getD t (.val undef)] ++ preRet P s l
  | .cell a t :: l =>
    match s.tm.getD a (.val undef) with
    | .ptr b0 _ _ _ =>
      match s.hp.getD b0 .none with
      | .own cs => preCs s.hp b0 cs 0 ++ preRet P s l
      | _ => preRet P s l
    | _ => preRet P s l
section
variable {R : Type}
def endC0 (P : Program) (results : Array ResultVar) (ret : AV → Option R) (s : St) : Option R :=
  match resVs P s results.toList with
  | some vs =>
    match retAV s.hp vs with
    | some av => ret av
    | none => none
  | none => none
def endC (P : Program) (results : Array ResultVar) (ret : AV → Option R) (s : St) : Option R :=
  match preRet P s results.toList with
  | [] => endC0 P results ret s
  | p :: ps => preK (p :: ps) s.hp fun hp' _ _ => endC0 P results ret ⟨s.tm, hp'⟩
def retC (P : Program) (results : Array ResultVar) (ret : AV → Option R) : Ex → St → Option R := fun e s =>
  match e with
  | .exit _ => none
  | .normal => endC P results ret s
  | .ret => endC P results ret s
def bodyOf (fn : Func) : Code :=
  match fn.body with
  | none => .exit 0
  | some c => c
def bodyK (P : Program) (cs : List (Kn P)) (live : Nat → Option Keep) (fuel : Nat) (fn : Func) (avs : List AV) (ret : AV → Option R) : Option R :=
  codeK P cs live fuel (bodyOf fn) (initSt avs fn.ntmps) (retC P fn.results ret)
variable {P : Program} {cs : List (Kn P)} {ρ : Rho} {w0 : W0} {s : St} {a : Act} {w : World}
theorem Rel.oldSlot (h : Rel ρ w0 s a w) {d : Nat} (hd : s.hp[d]? = some .none) (hno : ∀ b, (s.hp.getD b .none).isOwn = false) (r : RB) {n : Nat} {fs : List Fld} (hx : BRel (updR ρ d r) w0.heap.size w d (.ext n fs)) :
    leR ρ (updR ρ d r) ∧ Rel (updR ρ d r) w0 { s with hp := s.hp.set d (.ext n fs) } a w ∧ ∀ b, ((s.hp.set d (.ext n fs)).getD b .none).isOwn = false := by
  have hlen : d < s.hp.length := (List.getElem?_eq_some_iff.1 hd).1
  have hgd : s.hp.getD d .none = .none := by simp [List.getD_eq_getElem?_getD, hd]
  have hn : ρ d = none := by have := h.hp d; rw [hgd] at this; exact this
  have hl := leR_upd (r := r) hn
  have hno' : ∀ b, ((s.hp.set d (.ext n fs)).getD b .none).isOwn = false := fun b => by
    rw [getD_set]; split
    · rfl
    · exact hno b
  refine ⟨hl, { defers := h.defers, tm := h.tm.mono hl, hp := fun b => ?_, sep := fun b b' r r' ad ad' _ ho => ?_, below := h.below, laid := h.laid, fz := h.fz, fzO := h.fzO, fz0 := h.fz0, sepF := fun b r' ad ho => ?_ }, hno'⟩
  · show BRel _ _ _ b ((s.hp.set d (.ext n fs)).getD b .none)
    rw [getD_set]
    split
    · rename_i hb'; obtain ⟨rfl, _⟩ := hb'; exact hx
    · rename_i hb'
      have hbd : b ≠ d := fun e => hb' ⟨e, hlen⟩
      exact (h.hp b).mono hl (fun _ => updR_other _ _ hbd)
  · have := hno' b
    have ho' : ((s.hp.set d (.ext n fs)).getD b .none).isOwn = true := ho
    rw [this] at ho'; cases ho'
  · have := hno' b
    have ho' : ((s.hp.set d (.ext n fs)).getD b .none).isOwn = true := ho
    rw [this] at ho'; cases ho'
theorem rowsAt_brel {B : Nat} {ρ : Rho} {d : Nat} {A : Option Addr} {c n : Nat} {fs : List Fld} (h : RowsAt w 0 A n fs) : BRel (updR ρ d ⟨A, c, some n⟩) B w d (.ext n fs) :=
  ⟨_, updR_same _ _ _, rfl, fun hp => let ⟨ad, h1, h2, _, h4, h5⟩ := h hp; ⟨ad, h1, h2, h4, h5⟩⟩
theorem pblk_other : ∀ (p : List PA) (b : Nat) (hp : List Blk) (q : Nat), q < b ∨ b + p.length ≤ q → (pblk p b hp)[q]? = hp[q]?
  | [], _, _, _, _ => rfl
  | .val _ :: l, b, hp, q, h => pblk_other l (b + 1) hp q (by simp at h; omega)
  | .tsl _ :: l, b, hp, q, h => pblk_other l (b + 1) hp q (by simp at h; omega)
  | .rows n fs :: l, b, hp, q, h => by
    simp only [pblk]
    rw [pblk_other l (b + 1) _ q (by simp at h; omega), List.getElem?_set_ne (by simp at h; omega)]
theorem pk_rel : ∀ (p : List PA) (b : Nat) (s : St) (ρ : Rho) (cs : List Value), Rel ρ w0 s a w → (∀ q, (s.hp.getD q .none).isOwn = false) → (∀ q, b ≤ q → q < b + p.length → s.hp[q]? = some .none) → p.length = cs.length →
    (∀ (i : Nat) (x : PA), p[i]? = some x → ∃ y, cs[i]? = some y ∧ PARel ρ.fz w 0 y x) →
    ∃ ρ', leR ρ ρ' ∧ ρ'.fz = ρ.fz ∧ Rel ρ' w0 ⟨s.tm, pblk p b s.hp⟩ a w ∧ (∀ q, ((pblk p b s.hp).getD q .none).isOwn = false) ∧ ∀ (i : Nat) (x : PV), (pvs p b)[i]? = some x → ∃ y, cs[i]? = some y ∧ PRel ρ' x y
  | [], b, s, ρ, cs, h, hno, _, _, _ => ⟨ρ, leR_refl ρ, rfl, h, hno, fun i x hx => by simp [pvs] at hx⟩
  | .val v :: p, b, s, ρ, [], h, hno, hn, hl, hp => by simp at hl
  | .val v :: p, b, s, ρ, c :: cs, h, hno, hn, hl, hp => by
    obtain ⟨ρ', h1, h0, h2, h3, h4⟩ := pk_rel p (b + 1) s ρ cs h hno (fun q hq hq' => hn q (by omega) (by simp; omega)) (by simpa using hl) (fun i x hx => by simpa using hp (i + 1) x (by simpa using hx))
    refine ⟨ρ', h1, h0, h2, h3, fun i x hx => ?_⟩
    cases i with
    | zero =>
      simp only [pvs, List.getElem?_cons_zero, Option.some.injEq] at hx; subst hx
      obtain ⟨y, hy, hr⟩ := hp 0 _ rfl
      exact ⟨y, hy, hr⟩
    | succ i => simpa using h4 i x (by simpa [pvs] using hx)
  | .tsl t :: p, b, s, ρ, [], h, hno, hn, hl, hp => by simp at hl
  | .tsl t :: p, b, s, ρ, c :: cs, h, hno, hn, hl, hp => by
    obtain ⟨ρ', h1, h0, h2, h3, h4⟩ := pk_rel p (b + 1) s ρ cs h hno (fun q hq hq' => hn q (by omega) (by simp; omega)) (by simpa using hl) (fun i x hx => by simpa using hp (i + 1) x (by simpa using hx))
    refine ⟨ρ', h1, h0, h2, h3, fun i x hx => ?_⟩
    cases i with
    | zero =>
      simp only [pvs, List.getElem?_cons_zero, Option.some.injEq] at hx; subst hx
      obtain ⟨y, hy, hr⟩ := hp 0 _ rfl
      exact ⟨y, hy, (by obtain ⟨A, c', e1, e2⟩ := hr; exact ⟨A, c', e1, by rw [h0]; exact e2⟩)⟩
    | succ i => simpa using h4 i x (by simpa [pvs] using hx)
  | .rows n fs :: p, b, s, ρ, [], h, hno, hn, hl, hp => by simp at hl
  | .rows n fs :: p, b, s, ρ, c :: cs, h, hno, hn, hl, hp => by
    obtain ⟨y, hy, A, cap, hye, hrows⟩ := hp 0 _ rfl
    simp only [List.getElem?_cons_zero, Option.some.injEq] at hy; subst hy
    obtain ⟨g1, g2, g3⟩ := h.oldSlot (hn b (Nat.le_refl _) (by simp)) hno ⟨A, cap, some n⟩ (rowsAt_brel hrows)
    obtain ⟨ρ', h1, h0, h2, h3, h4⟩ := pk_rel p (b + 1) ⟨s.tm, s.hp.set b (.ext n fs)⟩ _ cs g2 g3 (fun q hq hq' => by
      show (s.hp.set b (.ext n fs))[q]? = _
      rw [List.getElem?_set_ne (by omega)]; exact hn q (by omega) (by simp; omega)) (by simpa using hl) (fun i x hx => by
        have := hp (i + 1) x (by simpa using hx)
        exact this)
    refine ⟨ρ', ⟨fun q r hq => h1.1 _ _ (g1.1 _ _ hq), fun q r hq => h1.2 _ _ (g1.2 _ _ hq)⟩, h0, h2, h3, fun i x hx => ?_⟩
    cases i with
    | zero =>
      simp only [pvs, List.getElem?_cons_zero, Option.some.injEq] at hx; subst hx
      exact ⟨c, rfl, _, h1.1 _ _ (updR_same _ _ _), fun m hm => by cases hm; rfl, hye⟩
    | succ i => simpa using h4 i x (by simpa [pvs] using hx)
theorem initGo_rel : ∀ (avs : List AV) (i b : Nat) (s : St) (ρ : Rho), Rel ρ w0 s a w → (∀ q, (s.hp.getD q .none).isOwn = false) → (∀ q, i ≤ q → q < i + avs.length → s.hp[q]? = some .none) → i + avs.length ≤ b →
    (∀ q, b ≤ q → q < b + extra avs → s.hp[q]? = some .none) → (∀ (j : Nat) (av : AV), avs[j]? = some av → ∃ x : Value, a.tmps[i + j]? = some x ∧ AVRel ρ.fz w 0 x av) → RelE w0 (initGo avs i b s) a w
  | [], i, b, s, ρ, h, _, _, _, _, _ => ⟨ρ, h⟩
  | .val v :: l, i, b, s, ρ, h, hno, hi, hib, hb, ha => by
    obtain ⟨x, hx, hr⟩ := ha 0 _ rfl
    refine initGo_rel l (i + 1) b _ ρ { h with tm := h.tm.set_same hx (v := .val v) hr } hno (fun q hq hq' => hi q (by omega) (by simp; omega)) (by simp at hib; omega) hb (fun j av hj => ?_)
    have := ha (j + 1) av (by simpa using hj)
    rwa [show i + (j + 1) = i + 1 + j by omega] at this
  | .tsl t :: l, i, b, s, ρ, h, hno, hi, hib, hb, ha => by
    obtain ⟨x, hx, hr⟩ := ha 0 _ rfl
    refine initGo_rel l (i + 1) b _ ρ { h with tm := h.tm.set_same hx (v := .tsl t) hr } hno (fun q hq hq' => hi q (by omega) (by simp; omega)) (by simp at hib; omega) hb (fun j av hj => ?_)
    have := ha (j + 1) av (by simpa using hj)
    rwa [show i + (j + 1) = i + 1 + j by omega] at this
  | .tup t :: l, i, b, s, ρ, h, hno, hi, hib, hb, ha => by
    refine initGo_rel l (i + 1) b _ ρ h hno (fun q hq hq' => hi q (by omega) (by simp; omega)) (by simp at hib; omega) hb (fun j av hj => ?_)
    have := ha (j + 1) av (by simpa using hj)
    rwa [show i + (j + 1) = i + 1 + j by omega] at this
  | .rows n fs :: l, i, b, s, ρ, h, hno, hi, hib, hb, ha => by
    obtain ⟨x, hx, A, c, hxe, hrows⟩ := ha 0 _ rfl
    obtain ⟨g1, g2, g3⟩ := h.oldSlot (hi i (Nat.le_refl _) (by simp)) hno ⟨A, c, some n⟩ (rowsAt_brel hrows)
    refine initGo_rel l (i + 1) b ⟨s.tm.set i (.sl i fs.length n), s.hp.set i (.ext n fs)⟩ _ { g2 with tm := g2.tm.set_same hx (v := .sl i fs.length n) ⟨_, updR_same _ _ _, fun m hm => (by cases hm; rfl), hxe⟩ } g3 (fun q hq hq' => ?_) (by simp at hib; omega) (fun q hq hq' => ?_) (fun j av hj => ?_)
    · show (s.hp.set i (.ext n fs))[q]? = _
      rw [List.getElem?_set_ne (by omega)]; exact hi q (by omega) (by simp; omega)
    · show (s.hp.set i (.ext n fs))[q]? = _
      simp at hib
      rw [List.getElem?_set_ne (by omega)]; exact hb q hq hq'
    · have := ha (j + 1) av (by simpa using hj)
      rwa [show i + (j + 1) = i + 1 + j by omega] at this
  | .pk p :: l, i, b, s, ρ, h, hno, hi, hib, hb, ha => by
    obtain ⟨x, hx, c, hxe, hl, hp⟩ := ha 0 _ rfl
    simp only [extra] at hb
    obtain ⟨ρ', g1, g0, g2, g3, g4⟩ := pk_rel p b s ρ c.toList h hno (fun q hq hq' => hb q hq (by omega)) (by simpa using hl) (fun j y hy => by simpa using hp j y hy)
    refine initGo_rel l (i + 1) (b + p.length) ⟨s.tm.set i (.pk (pvs p b)), pblk p b s.hp⟩ ρ' { g2 with tm := g2.tm.set_same hx (v := .pk (pvs p b)) ⟨c, hxe, ?_, fun j y hy => by simpa using g4 j y hy⟩ } g3 (fun q hq hq' => ?_) (by simp at hib; omega) (fun q hq hq' => ?_) (fun j av hj => ?_)
    · have : ∀ (p : List PA) (b : Nat), (pvs p b).length = p.length := fun p => by
        induction p with
        | nil => intro b; rfl
        | cons x p ih => intro b; cases x <;> simp [pvs, ih]
      rw [this]; exact hl
    · show (pblk p b s.hp)[q]? = _
      simp at hib
      rw [pblk_other p b _ q (by omega)]; exact hi q (by omega) (by simp; omega)
    · show (pblk p b s.hp)[q]? = _
      rw [pblk_other p b _ q (by omega)]; exact hb q (by omega) (by omega)
    · have := ha (j + 1) av (by simpa using hj)
      rw [show i + (j + 1) = i + 1 + j by omega, ← g0] at this
      exact this
theorem init_rel {args : Array Value} {avs : List AV} {fz : Nat → Option Obj} (hfz : FzW fz w) (hL : LaidW w) (h : ArgsRel fz w args avs) (n : Nat) : RelE ⟨w, fz⟩ (initSt avs n) { tmps := args ++ Array.replicate (n - args.size) undef, defers := [] } w := by
  obtain ⟨hl, ha⟩ := h
  have hnone : ∀ (m q : Nat), (List.replicate m Blk.none).getD q .none = .none := fun m q => by
    simp only [List.getD_eq_getElem?_getD, List.getElem?_replicate]; split <;> rfl
  refine initGo_rel avs 0 _ _ ⟨fun _ => none, fz⟩ { defers := rfl, tm := ⟨by simp [hl], fun i v hv => ?_⟩, hp := fun b => ?_, sep := fun b b' r r' ad ad' _ ho => ?_, below := Below.refl _ _, laid := hL, fz := hfz, fzO := fun _ _ h => .inl h, fz0 := fun _ _ h => h, sepF := fun b r ad ho => ?_ } (fun q => ?_) (fun q _ hq => ?_) (by omega) (fun q _ hq => ?_) (fun j av hj => ?_)
  · have hv' : (List.replicate avs.length V.unk ++ List.replicate (n - avs.length) (.val undef))[i]? = some v := hv
    rw [List.getElem?_append] at hv'
    have hsz : (args ++ Array.replicate (n - args.size) undef).size = args.size + (n - args.size) := by simp
    split at hv'
    · rename_i hi
      rw [List.getElem?_replicate] at hv'
      split at hv' <;> simp only [Option.some.injEq, reduceCtorEq] at hv'
      subst hv'
      simp at hi
      exact ⟨(args ++ Array.replicate (n - args.size) undef)[i]'(by rw [hsz]; omega), Array.getElem?_eq_getElem _, trivial⟩
    · rename_i hi
      rw [List.getElem?_replicate] at hv'
      split at hv' <;> simp only [Option.some.injEq, reduceCtorEq] at hv'
      subst hv'
      rename_i hlt
      simp at hi hlt
      refine ⟨undef, ?_, rfl⟩
      show (args ++ Array.replicate (n - args.size) undef)[i]? = some undef
      rw [Array.getElem?_append_right (by omega), Array.getElem?_replicate, if_pos (by omega)]
  · show BRel _ _ _ b ((List.replicate _ Blk.none).getD b .none)
    rw [hnone]; rfl
  · have ho' : ((List.replicate (avs.length + (n - avs.length) + extra avs) Blk.none).getD b .none).isOwn = true := ho
    rw [hnone] at ho'; cases ho'
  · have ho' : ((List.replicate (avs.length + (n - avs.length) + extra avs) Blk.none).getD b .none).isOwn = true := ho
    rw [hnone] at ho'; cases ho'
  · show ((List.replicate (avs.length + (n - avs.length) + extra avs) Blk.none).getD q .none).isOwn = false
    rw [hnone]; rfl
  · show (List.replicate (avs.length + (n - avs.length) + extra avs) Blk.none)[q]? = _
    rw [List.getElem?_replicate, if_pos (by omega)]
  · show (List.replicate (avs.length + (n - avs.length) + extra avs) Blk.none)[q]? = _
    rw [List.getElem?_replicate, if_pos (by omega)]
  · obtain ⟨x, hx, hr⟩ := ha j av hj
    refine ⟨x, ?_, hr⟩
    show (args ++ Array.replicate (n - args.size) undef)[0 + j]? = some x
    rw [Nat.zero_add, Array.getElem?_append_left (Array.getElem?_eq_some_iff.1 hx).1]; exact hx
theorem preK_rel {R : Type} {r : R} : ∀ (ps : List Pre) (tm : List V) (hp : List Blk) (K : List Blk → List (Nat × Blk) → List Nat → Option R), RelE w0 ⟨tm, hp⟩ a w → preK ps hp K = some r → ∃ hp' wr rd, K hp' wr rd = some r ∧ RelE w0 ⟨tm, hp'⟩ a w
  | [], tm, hp, K, hr, h => ⟨hp, [], [], h, hr⟩
  | .b b :: l, tm, hp, K, hr, h => by
    simp only [preK, setK_eq] at h
    split at h
    · rename_i e ts hb
      obtain ⟨ρ, hr⟩ := hr
      obtain ⟨ρ', _, _, hr'⟩ := hr.freeze hb
      obtain ⟨hp', wr, rd, h1, h2⟩ := preK_rel l tm _ _ ⟨ρ', hr'⟩ h
      exact ⟨hp', _, _, h1, h2⟩
    · exact preK_rel l tm hp K hr h
  | .c b0 off b :: l, tm, hp, K, hr, h => by
    simp only [preK, setK_eq] at h
    split at h
    · rename_i cs ts h0 hb
      split at h
      · rename_i b' n hc
        cases hbb : b' == b with
        | false => rw [hbb] at h; exact preK_rel l tm hp K hr h
        | true =>
          rw [hbb] at h
          simp only [cond_true] at h
          have : b' = b := by simpa using hbb
          subst this
          obtain ⟨ρ, hr⟩ := hr
          obtain ⟨hp', wr, rd, h1, h2⟩ := preK_rel l tm _ _ ⟨ρ, hr.cellTsl h0 hc hb⟩ h
          exact ⟨hp', _, _, h1, h2⟩
      · exact preK_rel l tm hp K hr h
    · exact preK_rel l tm hp K hr h
def resSem (tmps : Array Value) : ResultVar → Sem Value
  | .tmp t => pure (tmps.getD t undef)
  | .cell a t => do loadVar t (← asAddr (tmps.getD a undef))
theorem resV_sound (h : Rel ρ w0 s a w) {x : ResultVar} {v : V} (hv : resV P s x = some v) : ∃ y, (resSem a.tmps x).run P w = .ok y w ∧ VRel ρ v y := by
  cases x with
  | tmp t =>
    simp only [resV, Option.some.injEq] at hv; subst hv
    exact ⟨_, rfl, h.tm.eval (.tmp t)⟩
  | cell p t =>
    simp only [resV] at hv
    have hp := h.tm.eval (.tmp p)
    simp only [evV] at hp
    split at hv
    · rename_i b row sz fld hx
      rw [hx] at hp
      obtain ⟨r, ad, hr, had, hlim, hxe⟩ := hp
      have hxe' : a.tmps.getD p undef = .pointer (some ⟨ad.block, ad.off + (row * sz + fld), none⟩) := hxe
      split at hv
      · rename_i ht
        obtain ⟨y, hy, hvr⟩ := readV_sound h hv hr had hlim
        refine ⟨y, ?_, hvr⟩
        simp only [resSem, hxe', asAddr, Sem.run_bind, Sem.run_pure, Result.andThen_ok, loadVar, semVal_run ht, Bool.false_eq_true, if_false, run_load, hy]
      · rename_i ht
        split at hv
        · rename_i n hn
          split at hv
          · rename_i vs hvs
            simp only [Option.some.injEq] at hv; subst hv
            obtain ⟨hlen, hcells⟩ := readAgg_sound h hr had hlim n fld vs hvs
            refine ⟨_, ?_, rfl⟩
            have hl := run_loadCells_list (P := P) w ⟨ad.block, ad.off + (row * sz + fld), none⟩ vs (fun j v hj => by rw [addr_add]; exact hcells j v hj)
            rw [hlen] at hl
            simp only [resSem, hxe', asAddr, Sem.run_bind, Sem.run_pure, Result.andThen_ok, loadVar, semVal_run ht, if_true, semVal_run hn, hl]
          · split at hv
            · rename_i ps hps
              simp only [Option.some.injEq] at hv; subst hv
              obtain ⟨vs, hlen, hpl, hcells, hpr⟩ := readPk_sound h hr had hlim n fld ps hps
              refine ⟨.agg vs.toArray, ?_, vs.toArray, rfl, by simp [hpl, hlen], fun j p hp => by simpa using hpr j p hp⟩
              have hl := run_loadCells_list (P := P) w ⟨ad.block, ad.off + (row * sz + fld), none⟩ vs (fun j v hj => by rw [addr_add]; exact hcells j v hj)
              rw [hlen] at hl
              simp only [resSem, hxe', asAddr, Sem.run_bind, Sem.run_pure, Result.andThen_ok, loadVar, semVal_run ht, if_true, semVal_run hn, hl]
            · cases hv
        · cases hv
      · cases hv
    · cases hv
theorem resVs_sound (h : Rel ρ w0 s a w) : ∀ {l : List ResultVar} {vs : List V}, resVs P s l = some vs → ∃ ys : List Value, (l.mapM (resSem a.tmps)).run P w = .ok ys w ∧ TRel ρ vs ys.toArray
  | [], vs, hv => by
    simp only [resVs, Option.some.injEq] at hv; subst hv
    exact ⟨[], rfl, rfl, fun i v hi => by simp at hi⟩
  | x :: l, vs, hv => by
    simp only [resVs] at hv
    split at hv
    · rename_i v us hv1 hv2
      simp only [Option.some.injEq] at hv; subst hv
      obtain ⟨y, hy, hr⟩ := resV_sound h hv1
      obtain ⟨ys, hys, hrs⟩ := resVs_sound h hv2
      refine ⟨y :: ys, ?_, by simp [hrs.1], fun i u hi => ?_⟩
      · simp only [List.mapM_cons, Sem.run_bind, hy, Result.andThen_ok, hys, Sem.run_pure]
      · cases i with
        | zero => simp at hi; subst hi; exact ⟨y, by simp, hr⟩
        | succ i =>
          obtain ⟨z, hz, hzr⟩ := hrs.2 i u (by simpa using hi)
          exact ⟨z, by simpa using hz, hzr⟩
    · cases hv
theorem retPA_sound (h : Rel ρ w0 s a w) {v : V} {y : Value} (hy : VRel ρ v y) {p : PA} (hv : retPA s.hp v = some p) : PARel ρ.fz w w0.heap.size y p := by
  unfold retPA at hv
  split at hv
  · cases hv; exact hy
  · cases hv; exact hy
  · rename_i b sz len
    have hy' := hy
    obtain ⟨r, hr, hlim, rfl⟩ := hy
    have hb := h.hp b
    have key : ∀ n fs rd, avOf0 s.hp (.sl b sz len) = some (.rows n fs, rd) → (∀ ad, r.addr = some ad → w0.heap.size ≤ ad.block) → PARel ρ.fz w w0.heap.size (.slice r.addr len r.cap) (.rows n fs) := fun n fs rd hav hblk => by
      obtain ⟨A, c', he, hrows⟩ := avOf0_sound h hy' hav
      refine ⟨A, c', he, fun hp => ?_⟩
      obtain ⟨ad, k1, k2, k3, k4, k5⟩ := hrows hp
      rw [k1] at he
      simp only [Value.slice.injEq] at he
      exact ⟨ad, k1, k2, hblk ad he.1, k4, k5⟩
    split at hv
    · rename_i l hq
      cases hv
      rw [hq] at hb
      obtain ⟨r', g1, g2, g3⟩ := hb
      rw [hr] at g1; cases g1
      have hn := hlim _ g2; subst hn
      exact ⟨_, _, rfl, g3⟩
    · rename_i cs' hown
      rw [hown] at hb
      obtain ⟨r', k, e, c, g1, g2, gm, g3, g4, g5⟩ := hb
      rw [hr] at g1; cases g1
      split at hv
      · rename_i n fs rd hav
        cases hv
        exact key _ _ _ hav fun ad had => by rw [had] at g2; cases g2; exact g3
      · cases hv
    · rename_i e n fs hown
      rw [hown] at hb
      obtain ⟨r', xs, g1, gm, gp, go, gf⟩ := hb
      rw [hr] at g1; cases g1
      split at hv
      · rename_i n fs rd hav
        cases hv
        exact key _ _ _ hav fun ad had => (go.lt ad.block (by rw [had]; rfl)).1
      · cases hv
    · cases hv
  · cases hv
theorem retPAs_sound (h : Rel ρ w0 s a w) : ∀ {cs : List PV} {ps : List PA}, retPAs s.hp cs = some ps → ps.length = cs.length ∧ ∀ (i : Nat) (p : PA), ps[i]? = some p → ∃ q, cs[i]? = some q ∧ ∀ x, PRel ρ q x → PARel ρ.fz w w0.heap.size x p
  | [], ps, hv => by simp only [retPAs, Option.some.injEq] at hv; subst hv; exact ⟨rfl, fun i p hp => by simp at hp⟩
  | c :: cs, ps, hv => by
    simp only [retPAs] at hv
    split at hv
    · rename_i q qs h1 h2
      cases hv
      obtain ⟨i1, i2⟩ := retPAs_sound h h2
      refine ⟨by simp [i1], fun i p hp => ?_⟩
      cases i with
      | zero => simp at hp; subst hp; exact ⟨c, rfl, fun x hx => retPA_sound h hx.v h1⟩
      | succ i => simpa using i2 i p (by simpa using hp)
    · cases hv
theorem retPk_sound (h : Rel ρ w0 s a w) {cs : List PV} {ps : List PA} (hv : retPAs s.hp cs = some ps) {y : Value} (hy : VRel ρ (.pk cs) y) : ∃ c : Array Value, y = .agg c ∧ ps.length = c.size ∧ ∀ (i : Nat) (p : PA), ps[i]? = some p → ∃ x, c[i]? = some x ∧ PARel ρ.fz w w0.heap.size x p := by
  obtain ⟨c, h1, h2, h3⟩ := hy
  obtain ⟨i1, i2⟩ := retPAs_sound h hv
  refine ⟨c, h1, by rw [i1, h2], fun i p hp => ?_⟩
  obtain ⟨q, hq, hqr⟩ := i2 i p hp
  obtain ⟨x, hx, hxr⟩ := h3 i q hq
  exact ⟨x, hx, hqr x hxr⟩
theorem retTA_sound (h : Rel ρ w0 s a w) {v : V} {y : Value} (hy : VRel ρ v y) {p : TA} (hv : retTA s.hp v = some p) : TARel ρ.fz w w0.heap.size y p := by
  unfold retTA at hv
  split at hv
  · obtain ⟨ps, h1, rfl⟩ := Option.map_eq_some_iff.1 hv
    exact retPk_sound h h1 hy
  · obtain ⟨q, h1, rfl⟩ := Option.map_eq_some_iff.1 hv
    exact retPA_sound h hy h1
theorem retTAs_sound (h : Rel ρ w0 s a w) : ∀ {cs : List V} {ps : List TA}, retTAs s.hp cs = some ps → ps.length = cs.length ∧ ∀ (i : Nat) (p : TA), ps[i]? = some p → ∃ q, cs[i]? = some q ∧ ∀ x, VRel ρ q x → TARel ρ.fz w w0.heap.size x p
  | [], ps, hv => by simp only [retTAs, Option.some.injEq] at hv; subst hv; exact ⟨rfl, fun i p hp => by simp at hp⟩
  | c :: cs, ps, hv => by
    simp only [retTAs] at hv
    split at hv
    · rename_i q qs h1 h2
      cases hv
      obtain ⟨i1, i2⟩ := retTAs_sound h h2
      refine ⟨by simp [i1], fun i p hp => ?_⟩
      cases i with
      | zero => simp at hp; subst hp; exact ⟨c, rfl, fun x hx => retTA_sound h hx h1⟩
      | succ i => simpa using i2 i p (by simpa using hp)
    · cases hv
theorem retAV_sound (h : Rel ρ w0 s a w) {vs : List V} {ys : List Value} (hr : TRel ρ vs ys.toArray) {av : AV} (hv : retAV s.hp vs = some av) {y : Value} (hy : y = if h : ys.toArray.size = 1 then ys.toArray[0] else .tuple ys.toArray) : AVRel ρ.fz w w0.heap.size y av := by
  unfold retAV at hv
  split at hv
  · rename_i v
    obtain ⟨x, hx, hxr⟩ := hr.2 0 _ rfl
    have hs : ys.toArray.size = 1 := hr.1.symm
    rw [dif_pos hs] at hy
    have : ys.toArray[0]? = some ys.toArray[0] := by simp [hs]
    rw [hx] at this; cases this
    rw [hy]
    unfold ret1 at hv
    split at hv
    · obtain ⟨ps, h1, rfl⟩ := Option.map_eq_some_iff.1 hv
      exact retPk_sound h h1 hxr
    · split at hv
      · rename_i hp; cases hv; exact retPA_sound h hxr hp
      · rename_i hp; cases hv; exact retPA_sound h hxr hp
      · rename_i hp; cases hv; exact retPA_sound h hxr hp
      · cases hv
  · rename_i h3
    have hne : ys.toArray.size ≠ 1 := fun e => by
      rw [← hr.1] at e
      match vs, e with
      | [v], _ => exact h3 v rfl
    rw [dif_neg hne] at hy
    rw [hy]
    split at hv
    · rename_i xs hxs
      simp only [Option.some.injEq] at hv; subst hv
      have hvs := allVals_spec hxs
      show Value.tuple ys.toArray = Value.tuple xs.toArray
      congr 2
      apply List.ext_getElem?
      intro i
      have hl : xs.length = ys.length := by have := hr.1; rw [hvs] at this; simpa using this
      cases hxi : xs[i]? with
      | none => exact (List.getElem?_eq_none (by rw [← hl]; exact List.getElem?_eq_none_iff.1 hxi))
      | some z =>
        obtain ⟨q, hq, hqr⟩ := hr.2 i (.val z) (by rw [hvs, List.getElem?_map, hxi]; rfl)
        have : q = z := hqr
        subst this
        simpa using hq
    · split at hv
      · rename_i l hl
        cases hv
        obtain ⟨i1, i2⟩ := retTAs_sound h hl
        refine ⟨ys.toArray, rfl, by rw [i1, hr.1], fun i p hp => ?_⟩
        obtain ⟨q, hq, hqr⟩ := i2 i p hp
        obtain ⟨x, hx, hxr⟩ := hr.2 i q hq
        exact ⟨x, hx, hqr x hxr⟩
      · cases hv
theorem body_sound {f : FuncId} {fn : Func} (hf : P.funcs[f]? = some fn) (hname : (fn.name == "runtime.NumGoroutine") = false) (hm : P.follows .mixedOrders = true) {live : Nat → Option Keep} {fuel : Nat} {avs : List AV} {ret : AV → Option R} {r : R}
    (enc : R → AV) (henc : ∀ av r, ret av = some r → ∀ (fz : Nat → Option Obj) (w : World) (B : Nat) (x : Value), AVRel fz w B x av → AVRel fz w B x (enc r)) (h : bodyK P cs live fuel fn avs ret = some r) : Contract P f avs (enc r) := by
  intro fz w args hfz hL hargs
  unfold bodyK at h
  cases hb : fn.body with
  | none =>
    have h' : codeK P cs live fuel (.exit 0) (initSt avs fn.ntmps) (retC P fn.results ret) = some r := by rw [bodyOf, hb] at h; exact h
    have h2 : (none : Option R) = some r := h'
    cases h2
  | some c =>
    have h : codeK P cs live fuel c (initSt avs fn.ntmps) (retC P fn.results ret) = some r := by rw [bodyOf, hb] at h; exact h
    have hcall : (callFunc f args).run P w = .ok (.enter f args) w := by
      unfold callFunc
      simp only [Sem.run_bind, run_program, Result.andThen_ok, hf, hname, hb, Bool.false_eq_true, if_false, Option.isNone_some, Sem.run_pure]
    unfold CallOk
    rw [hcall]
    refine ⟨rfl, calls_of_wp hf hb (wp_mono (code_sound hm c _ _ r _ w h (init_rel hfz hL hargs fn.ntmps)) fun e a' w' ⟨ex, s', he, ⟨ρ, hr⟩, hk⟩ => ?_)⟩
    have fin0 : ∀ (s' : St) (ρ : Rho) (hr : Rel ρ ⟨w, fz⟩ s' a' w'), (match resVs P s' fn.results.toList with
        | some vs =>
          match retAV s'.hp vs with
          | some av => ret av
          | none => none
        | none => none) = some r → a'.defers = [] ∧ ∃ v, (results fn a'.tmps).run P w' = .ok v w' ∧ ∃ x, Ending.returned v = .returned x ∧ Below w.heap.size w w' ∧ ∃ fz', FzW fz' w' ∧ FzNew fz fz' w.heap.size ∧ AVRel fz' w' w.heap.size x (enc r) := fun s' ρ hr hk => by
      split at hk
      · rename_i vs hvs
        split at hk
        · rename_i av hav
          obtain ⟨ys, hys, htr⟩ := resVs_sound hr hvs
          refine ⟨hr.defers, (if h : ys.toArray.size = 1 then ys.toArray[0] else .tuple ys.toArray), ?_, _, rfl, hr.below, ρ.fz, hr.fz, ⟨hr.fz0, hr.fzO⟩, ?_⟩
          · have e : results fn a'.tmps = fn.results.mapM (resSem a'.tmps) >>= fun vs => Pure.pure (if h : vs.size = 1 then vs[0] else .tuple vs) := by
              unfold results
              refine congrArg (fun m : Sem (Array Value) => m >>= fun vs => Pure.pure (if h : vs.size = 1 then vs[0] else .tuple vs)) (congrArg (fun g : ResultVar → Sem Value => fn.results.mapM g) (funext fun x => ?_))
              cases x <;> rfl
            have e2 : (fn.results.mapM (resSem a'.tmps)).run P w' = .ok ys.toArray w' := by
              rw [Array.mapM_eq_mapM_toList]
              simp only [Sem.run_map, hys, Result.andThen_ok]
            rw [e, Sem.run_bind, e2]
            rfl
          · exact henc av r hk _ _ _ _ (retAV_sound hr htr hav rfl)
        · cases hk
      · cases hk
    have fin : endC P fn.results ret s' = some r → a'.defers = [] ∧ ∃ v, (results fn a'.tmps).run P w' = .ok v w' ∧ ∃ x, Ending.returned v = .returned x ∧ Below w.heap.size w w' ∧ ∃ fz', FzW fz' w' ∧ FzNew fz fz' w.heap.size ∧ AVRel fz' w' w.heap.size x (enc r) := fun hk => by
      unfold endC at hk
      split at hk
      · exact fin0 s' ρ hr hk
      · obtain ⟨hp', _, _, h1, ⟨ρ', h2⟩⟩ := preK_rel (w0 := ⟨w, fz⟩) _ s'.tm s'.hp _ ⟨ρ, hr⟩ hk
        exact fin0 _ ρ' h2 h1
    subst he
    cases ex with
    | exit id =>
      have hk' : (none : Option R) = some r := hk
      cases hk'
    | normal => exact fin hk
    | ret => exact fin hk
end
end Go.Proofs.YtcihbcffokjgjaaGreat.Ev
namespace Go.Proofs.YtcihbcffokjgjaaGreat.Ev
open Go Go.RowKit
set_option linter.unusedVariables false
set_option linter.unusedSimpArgs false
structure Cod (R : Type) where
  enc : R → Value
  dec : Value → Option R
  encK : {S : Type} → R → (Value → Option S) → Option S
  dec_ok : ∀ v r, dec v = some r → v = enc r
  encK_ok : ∀ {S : Type} (r : R) (k : Value → Option S), encK r k = k (enc r)
structure Cods (R : Type) where
  enc : R → List Value
  dec : List Value → Option R
  encK : {S : Type} → R → (List Value → Option S) → Option S
  dec_ok : ∀ v r, dec v = some r → v = enc r
  encK_ok : ∀ {S : Type} (r : R) (k : List Value → Option S), encK r k = k (enc r)
def Cod.int (k : IntKind) : Cod Int where
  enc n := .int k n
  dec := fun | .int k' n => if k' = k then some n else none | _ => none
  encK n f := f (.int k n)
  dec_ok v r h := by
    cases v <;> simp only at h <;> first | (cases h; done) | skip
    split at h
    · rename_i e; subst e; cases h; rfl
    · cases h
  encK_ok _ _ := rfl
def Cod.bool : Cod Bool where
  enc b := .bool b
  dec := fun | .bool b => some b | _ => none
  encK b f := f (.bool b)
  dec_ok v r h := by cases v <;> simp only at h <;> first | (cases h; rfl; done) | (cases h; done)
  encK_ok _ _ := rfl
def Cod.str : Cod ByteArray where
  enc b := .string b
  dec := fun | .string b => some b | _ => none
  encK b f := f (.string b)
  dec_ok v r h := by cases v <;> simp only at h <;> first | (cases h; rfl; done) | (cases h; done)
  encK_ok _ _ := rfl
def Cods.one {R : Type} (c : Cod R) : Cods R where
  enc r := [c.enc r]
  dec := fun | [v] => c.dec v | _ => none
  encK r f := c.encK r fun v => f [v]
  dec_ok v r h := by
    split at h
    · rw [c.dec_ok _ _ h]
    · cases h
  encK_ok r f := c.encK_ok r _
def Cods.cons {R Q : Type} (c : Cod R) (d : Cods Q) : Cods (R × Q) where
  enc r := c.enc r.1 :: d.enc r.2
  dec := fun | v :: l => (match c.dec v, d.dec l with | some a, some b => some (a, b) | _, _ => none) | [] => none
  encK r f := c.encK r.1 fun v => d.encK r.2 fun l => f (v :: l)
  dec_ok v r h := by
    split at h
    · split at h
      · rename_i a b h1 h2
        cases h
        rw [c.dec_ok _ _ h1, d.dec_ok _ _ h2]
      · cases h
    · cases h
  encK_ok r f := by rw [c.encK_ok, d.encK_ok]
def Cods.nil : Cods Unit where
  enc _ := []
  dec := fun | [] => some () | _ => none
  encK _ f := f []
  dec_ok v r h := by
    split at h
    · rfl
    · cases h
  encK_ok _ _ := rfl
def Cod.agg {R : Type} (c : Cods R) : Cod R where
  enc r := .agg ⟨c.enc r⟩
  dec := fun | .agg a => c.dec a.toList | _ => none
  encK r f := c.encK r fun l => f (.agg ⟨l⟩)
  dec_ok v r h := by
    split at h
    · rename_i a; have := c.dec_ok _ _ h; rw [← this]
    · cases h
  encK_ok r f := by rw [c.encK_ok]
def Cod.tup {R : Type} (c : Cods R) : Cod R where
  enc r := .tuple ⟨c.enc r⟩
  dec := fun | .tuple a => c.dec a.toList | _ => none
  encK r f := c.encK r fun l => f (.tuple ⟨l⟩)
  dec_ok v r h := by
    split at h
    · rename_i a; have := c.dec_ok _ _ h; rw [← this]
    · cases h
  encK_ok r f := by rw [c.encK_ok]
theorem Contract.of_args {P : Program} {f : FuncId} {l l' : List AV} {r : AV} (h : Contract P f l r) (hl : l.length = l'.length) (hi : ∀ (i : Nat) (x y : AV), l[i]? = some x → l'[i]? = some y → ∀ (fz : Nat → Option Obj) (w : World) (v : Value), AVRel fz w 0 v y → AVRel fz w 0 v x) : Contract P f l' r :=
  fun fz w args hfz hL ⟨h1, h2⟩ => h fz w args hfz hL ⟨by rw [hl]; exact h1, fun i av hav => by
    have hlt : i < l'.length := by rw [← hl]; exact (List.getElem?_eq_some_iff.1 hav).1
    obtain ⟨x, hx, hr⟩ := h2 i l'[i] (List.getElem?_eq_getElem hlt)
    exact ⟨x, hx, hi i av _ hav (List.getElem?_eq_getElem hlt) fz w x hr⟩⟩
structure ACod (A : Type) where
  enc : A → AV
  dec : AV → Option A
  ok : ∀ v a, dec v = some a → ∀ (fz : Nat → Option Obj) (w : World) (x : Value), AVRel fz w 0 x v → AVRel fz w 0 x (enc a)
structure ACods (A : Type) where
  enc : A → List AV
  dec : List AV → Option A
  ok : ∀ l a, dec l = some a → (enc a).length = l.length ∧ ∀ (i : Nat) (x y : AV), (enc a)[i]? = some x → l[i]? = some y → ∀ (fz : Nat → Option Obj) (w : World) (v : Value), AVRel fz w 0 v y → AVRel fz w 0 v x
def ACod.val {R : Type} (c : Cod R) : ACod R where
  enc r := .val (c.enc r)
  dec := fun | .val v => c.dec v | _ => none
  ok v a h fz w x hx := by
    cases v with
    | val y => simp only at h; rw [c.dec_ok _ _ h] at hx; exact hx
    | rows => cases h
    | tsl => cases h
    | pk => cases h
    | tup => cases h
structure FCods (A : Type) where
  enc : A → List Fld
  dec : List Fld → Option A
  ok : ∀ l a, dec l = some a → l = enc a
  any : A
def FCods.int1 (k : IntKind) : FCods (Nat → Int) where
  enc g := [.int k g]
  dec := fun | [.int k' g] => if k' = k then some g else none | _ => none
  ok l a h := by
    split at h
    · split at h
      · rename_i e; subst e; cases h; rfl
      · cases h
    · cases h
  any := fun _ => 0
def FCods.str {B : Type} (d : FCods B) : FCods ((Nat → ByteArray) × B) where
  enc g := .str g.1 :: d.enc g.2
  dec := fun | .str g :: l => (match d.dec l with | some b => some (g, b) | none => none) | _ => none
  ok l a h := by
    split at h
    · split at h
      · rename_i b hb; cases h; rw [d.ok _ _ hb]
      · cases h
    · cases h
  any := (fun _ => ⟨#[]⟩, d.any)
def FCods.int {B : Type} (k : IntKind) (d : FCods B) : FCods ((Nat → Int) × B) where
  enc g := .int k g.1 :: d.enc g.2
  dec := fun | .int k' g :: l => if k' = k then (match d.dec l with | some b => some (g, b) | none => none) else none | _ => none
  ok l a h := by
    split at h
    · split at h
      · rename_i e; subst e
        split at h
        · rename_i b hb; cases h; rw [d.ok _ _ hb]
        · cases h
      · cases h
    · cases h
  any := (fun _ => 0, d.any)
def FCods.bool {B : Type} (d : FCods B) : FCods ((Nat → Bool) × B) where
  enc g := .bool g.1 :: d.enc g.2
  dec := fun | .bool g :: l => (match d.dec l with | some b => some (g, b) | none => none) | _ => none
  ok l a h := by
    split at h
    · split at h
      · rename_i b hb; cases h; rw [d.ok _ _ hb]
      · cases h
    · cases h
  any := (fun _ => false, d.any)
def ACod.rows {A : Type} (c : FCods A) : ACod (Nat × A) where
  enc r := .rows r.1 (c.enc r.2)
  dec := fun
    | .rows n fs => (match c.dec fs with | some a => some (n, a) | none => none)
    | .val (.slice none 0 0) => some (0, c.any)
    | _ => none
  ok v a h fz w x hx := by
    split at h
    · split at h
      · rename_i b hb; cases h; rw [c.ok _ _ hb] at hx; exact hx
      · cases h
    · cases h
      have : x = .slice none 0 0 := hx
      exact ⟨none, 0, this, fun hp => absurd hp (Nat.lt_irrefl _)⟩
    · cases h
structure PCod (A : Type) where
  enc : A → PA
  dec : PA → Option A
  ok : ∀ p a, dec p = some a → ∀ (fz : Nat → Option Obj) (w : World) (x : Value), PARel fz w 0 x p → PARel fz w 0 x (enc a)
structure PCods (A : Type) where
  enc : A → List PA
  dec : List PA → Option A
  ok : ∀ l a, dec l = some a → (enc a).length = l.length ∧ ∀ (i : Nat) (p q : PA), (enc a)[i]? = some p → l[i]? = some q → ∀ (fz : Nat → Option Obj) (w : World) (x : Value), PARel fz w 0 x q → PARel fz w 0 x p
def PCod.val {R : Type} (c : Cod R) : PCod R where
  enc r := .val (c.enc r)
  dec := fun | .val v => c.dec v | _ => none
  ok p a h fz w x hx := by
    split at h
    · rw [c.dec_ok _ _ h] at hx; exact hx
    · cases h
def PCod.rows {A : Type} (c : FCods A) : PCod (Nat × A) where
  enc r := .rows r.1 (c.enc r.2)
  dec := fun
    | .rows n fs => (match c.dec fs with | some a => some (n, a) | none => none)
    | .val (.slice none 0 0) => some (0, c.any)
    | _ => none
  ok p a h fz w x hx := by
    split at h
    · split at h
      · rename_i b hb; cases h; rw [c.ok _ _ hb] at hx; exact hx
      · cases h
    · cases h
      have : x = .slice none 0 0 := hx
      exact ⟨none, 0, this, fun hp => absurd hp (Nat.lt_irrefl _)⟩
    · cases h
def PCods.one {A : Type} (c : PCod A) : PCods A where
  enc a := [c.enc a]
  dec := fun | [p] => c.dec p | _ => none
  ok l a h := by
    split at h
    · refine ⟨rfl, fun i p q hp hq => ?_⟩
      cases i with
      | zero => simp at hp hq; subst hp; subst hq; exact c.ok _ _ h
      | succ i => simp at hp
    · cases h
def PCods.cons {A B : Type} (c : PCod A) (d : PCods B) : PCods (A × B) where
  enc a := c.enc a.1 :: d.enc a.2
  dec := fun | v :: l => (match c.dec v, d.dec l with | some a, some b => some (a, b) | _, _ => none) | [] => none
  ok l a h := by
    split at h
    · rename_i v l
      split at h
      · rename_i x y h1 h2
        cases h
        obtain ⟨i1, i2⟩ := d.ok _ _ h2
        refine ⟨by simp [i1], fun i p q hp hq => ?_⟩
        cases i with
        | zero => simp at hp hq; subst hp; subst hq; exact c.ok _ _ h1
        | succ i => exact i2 i p q (by simpa using hp) (by simpa using hq)
      · cases h
    · cases h
def ACod.pk {A : Type} (c : PCods A) : ACod A where
  enc a := .pk (c.enc a)
  dec := fun | .pk l => c.dec l | _ => none
  ok v a h fz w x hx := by
    split at h
    · rename_i l
      obtain ⟨cs, hxe, hl, hc⟩ := hx
      obtain ⟨h1, h2⟩ := c.ok _ _ h
      refine ⟨cs, hxe, by rw [h1, hl], fun i p hp => ?_⟩
      have hlt : i < l.length := by rw [← h1]; exact (List.getElem?_eq_some_iff.1 hp).1
      obtain ⟨y, hy, hr⟩ := hc i l[i] (List.getElem?_eq_getElem hlt)
      exact ⟨y, hy, h2 i p _ hp (List.getElem?_eq_getElem hlt) fz w y hr⟩
    · cases h
def ACod.tms : ACod (List Tm) where
  enc l := .tsl l
  dec := fun | .tsl l => some l | .val (.slice none 0 0) => some [] | _ => none
  ok v a h fz w x hx := by
    split at h
    · cases h; exact hx
    · cases h
      have : x = .slice none 0 0 := hx
      exact ⟨none, 0, this, by unfold KidsAt; trivial⟩
    · cases h
def Tm.pas (t : Tm) : List PA := [.val (.int .i64 t.op), .val (.int .i64 t.width), .val (.int .u64 t.val), .val (.string t.name), .tsl t.kids]
def kidsPA : PA → Option (List Tm)
  | .tsl l => some l
  | .val (.slice none 0 0) => some []
  | _ => none
def kidsVal : Value → Option (List Tm)
  | .slice none 0 0 => some []
  | _ => none
def decTm : List PA → Option Tm
  | [.val (.int .i64 op), .val (.int .i64 width), .val (.int .u64 val), .val (.string name), kd] => (match kidsPA kd with | some ks => some (.mk op width val name ks) | none => none)
  | _ => none
def decTmV : List Value → Option Tm
  | [.int .i64 op, .int .i64 width, .int .u64 val, .string name, kd] => (match kidsVal kd with | some ks => some (.mk op width val name ks) | none => none)
  | _ => none
theorem kidsPA_ok {p : PA} {ks : List Tm} (h : kidsPA p = some ks) {fz : Nat → Option Obj} {w : World} {B : Nat} {x : Value} (hx : PARel fz w B x p) : PARel fz w B x (.tsl ks) := by
  unfold kidsPA at h
  split at h
  · cases h; exact hx
  · cases h
    have : x = .slice none 0 0 := hx
    exact ⟨none, 0, this, by unfold KidsAt; trivial⟩
  · cases h
theorem decTm_ok {l : List PA} {t : Tm} (h : decTm l = some t) {fz : Nat → Option Obj} {w : World} {B : Nat} {c : Array Value} (hl : l.length = c.size) (hc : ∀ (i : Nat) (p : PA), l[i]? = some p → ∃ y, c[i]? = some y ∧ PARel fz w B y p) :
    t.pas.length = c.size ∧ ∀ (i : Nat) (p : PA), t.pas[i]? = some p → ∃ y, c[i]? = some y ∧ PARel fz w B y p := by
  unfold decTm at h
  split at h
  · rename_i op width val name kd
    split at h
    · rename_i ks hk
      cases h
      refine ⟨by simpa [Tm.pas] using hl, fun i p hp => ?_⟩
      match i with
      | 0 => exact hc 0 p hp
      | 1 => exact hc 1 p hp
      | 2 => exact hc 2 p hp
      | 3 => exact hc 3 p hp
      | 4 =>
        have hp' : p = .tsl ks := by simpa [Tm.pas, Tm.kids] using hp.symm
        subst hp'
        obtain ⟨y, hy, hr⟩ := hc 4 kd rfl
        exact ⟨y, hy, kidsPA_ok hk hr⟩
      | i + 5 => simp [Tm.pas] at hp
    · cases h
  · cases h
theorem decTmV_ok {c : Array Value} {t : Tm} (h : decTmV c.toList = some t) {fz : Nat → Option Obj} {w : World} {B : Nat} : t.pas.length = c.size ∧ ∀ (i : Nat) (p : PA), t.pas[i]? = some p → ∃ y, c[i]? = some y ∧ PARel fz w B y p := by
  obtain ⟨c⟩ := c
  simp only at h
  unfold decTmV at h
  split at h
  · split at h
    · rename_i kd ks hk
      cases h
      refine ⟨rfl, fun i p hp => ?_⟩
      match i with
      | 0 => simp [Tm.pas, Tm.op] at hp; subst hp; exact ⟨_, rfl, rfl⟩
      | 1 => simp [Tm.pas, Tm.width] at hp; subst hp; exact ⟨_, rfl, rfl⟩
      | 2 => simp [Tm.pas, Tm.val] at hp; subst hp; exact ⟨_, rfl, rfl⟩
      | 3 => simp [Tm.pas, Tm.name] at hp; subst hp; exact ⟨_, rfl, rfl⟩
      | 4 =>
        simp [Tm.pas, Tm.kids] at hp; subst hp
        unfold kidsVal at hk
        split at hk
        · cases hk; exact ⟨_, rfl, none, 0, rfl, by unfold KidsAt; trivial⟩
        · cases hk
      | i + 5 => simp [Tm.pas] at hp
    · cases h
  · cases h
def ACod.tm : ACod Tm where
  enc t := .pk t.pas
  dec := fun
    | .pk l => decTm l
    | .val (.agg c) => decTmV c.toList
    | _ => none
  ok v a h fz w x hx := by
    split at h
    · obtain ⟨c, hxe, hl, hc⟩ := hx
      exact ⟨c, hxe, decTm_ok h hl hc⟩
    · exact ⟨_, hx, decTmV_ok h⟩
    · cases h
def PCod.tms : PCod (List Tm) where
  enc l := .tsl l
  dec := kidsPA
  ok p a h fz w x hx := kidsPA_ok h hx
def ACods.nil : ACods Unit where
  enc _ := []
  dec := fun | [] => some () | _ => none
  ok l a h := by
    split at h
    · exact ⟨rfl, fun i x y hx => by simp at hx⟩
    · cases h
def ACods.cons {A B : Type} (c : ACod A) (d : ACods B) : ACods (A × B) where
  enc a := c.enc a.1 :: d.enc a.2
  dec := fun | v :: l => (match c.dec v, d.dec l with | some a, some b => some (a, b) | _, _ => none) | [] => none
  ok l a h := by
    split at h
    · rename_i v l
      split at h
      · rename_i x y h1 h2
        cases h
        obtain ⟨i1, i2⟩ := d.ok _ _ h2
        refine ⟨by simp [i1], fun i p q hp hq => ?_⟩
        cases i with
        | zero => simp at hp hq; subst hp; subst hq; exact c.ok _ _ h1
        | succ i => exact i2 i p q (by simpa using hp) (by simpa using hq)
      · cases h
    · cases h
structure RCod (R : Type) where
  enc : R → AV
  dec : AV → Option R
  encK : {S : Type} → R → (AV → Option S) → Option S
  dec_ok : ∀ v r, dec v = some r → ∀ (fz : Nat → Option Obj) (w : World) (B : Nat) (x : Value), AVRel fz w B x v → AVRel fz w B x (enc r)
  encK_ok : ∀ {S : Type} (r : R) (k : AV → Option S), encK r k = k (enc r)
def RCod.val {R : Type} (c : Cod R) : RCod R where
  enc r := .val (c.enc r)
  dec := fun | .val v => c.dec v | _ => none
  encK r f := c.encK r fun v => f (.val v)
  dec_ok v r h fz w B x hx := by
    split at h
    · rw [c.dec_ok _ _ h] at hx; exact hx
    · cases h
  encK_ok r f := c.encK_ok r _
def RCod.rows {A : Type} (c : FCods A) : RCod (Nat × A) where
  enc r := .rows r.1 (c.enc r.2)
  dec := fun
    | .rows n fs => (match c.dec fs with | some a => some (n, a) | none => none)
    | .val (.slice none 0 0) => some (0, c.any)
    | _ => none
  encK r f := f (.rows r.1 (c.enc r.2))
  dec_ok v r h fz w B x hx := by
    split at h
    · split at h
      · rename_i b hb; cases h; rw [c.ok _ _ hb] at hx; exact hx
      · cases h
    · cases h
      have : x = .slice none 0 0 := hx
      exact ⟨none, 0, this, fun hp => absurd hp (Nat.lt_irrefl _)⟩
    · cases h
  encK_ok _ _ := rfl
def RCod.tms : RCod (List Tm) where
  enc l := .tsl l
  dec := fun | .tsl l => some l | .val (.slice none 0 0) => some [] | _ => none
  encK l f := f (.tsl l)
  dec_ok v r h fz w B x hx := by
    split at h
    · cases h; exact hx
    · cases h
      have : x = .slice none 0 0 := hx
      exact ⟨none, 0, this, by unfold KidsAt; trivial⟩
    · cases h
  encK_ok _ _ := rfl
def RCod.tm : RCod Tm where
  enc t := .pk t.pas
  dec := fun
    | .pk l => decTm l
    | .val (.agg c) => decTmV c.toList
    | _ => none
  encK t f := f (.pk [.val (.int .i64 t.op), .val (.int .i64 t.width), .val (.int .u64 t.val), .val (.string t.name), .tsl t.kids])
  dec_ok v r h fz w B x hx := by
    split at h
    · obtain ⟨c, hxe, hl, hc⟩ := hx
      exact ⟨c, hxe, decTm_ok h hl hc⟩
    · exact ⟨_, hx, decTmV_ok h⟩
    · cases h
  encK_ok t _ := rfl
structure TCod (R : Type) where
  enc : R → TA
  dec : TA → Option R
  encK : {S : Type} → R → (TA → Option S) → Option S
  dec_ok : ∀ v r, dec v = some r → ∀ (fz : Nat → Option Obj) (w : World) (B : Nat) (x : Value), TARel fz w B x v → TARel fz w B x (enc r)
  encK_ok : ∀ {S : Type} (r : R) (k : TA → Option S), encK r k = k (enc r)
structure TCods (R : Type) where
  enc : R → List TA
  dec : List TA → Option R
  encK : {S : Type} → R → (List TA → Option S) → Option S
  dec_ok : ∀ l r, dec l = some r → (enc r).length = l.length ∧ ∀ (i : Nat) (p q : TA), (enc r)[i]? = some p → l[i]? = some q → ∀ (fz : Nat → Option Obj) (w : World) (B : Nat) (x : Value), TARel fz w B x q → TARel fz w B x p
  encK_ok : ∀ {S : Type} (r : R) (k : List TA → Option S), encK r k = k (enc r)
def TCod.val {R : Type} (c : Cod R) : TCod R where
  enc r := .one (.val (c.enc r))
  dec := fun | .one (.val v) => c.dec v | _ => none
  encK r f := c.encK r fun v => f (.one (.val v))
  dec_ok v r h fz w B x hx := by
    split at h
    · rw [c.dec_ok _ _ h] at hx; exact hx
    · cases h
  encK_ok r f := c.encK_ok r _
def TCod.tms : TCod (List Tm) where
  enc l := .one (.tsl l)
  dec := fun | .one p => kidsPA p | _ => none
  encK l f := f (.one (.tsl l))
  dec_ok v r h fz w B x hx := by
    split at h
    · exact kidsPA_ok h hx
    · cases h
  encK_ok _ _ := rfl
def TCod.tm : TCod Tm where
  enc t := .pk t.pas
  dec := fun
    | .pk l => decTm l
    | .one (.val (.agg c)) => decTmV c.toList
    | _ => none
  encK t f := f (.pk [.val (.int .i64 t.op), .val (.int .i64 t.width), .val (.int .u64 t.val), .val (.string t.name), .tsl t.kids])
  dec_ok v r h fz w B x hx := by
    split at h
    · obtain ⟨c, hxe, hl, hc⟩ := hx
      exact ⟨c, hxe, decTm_ok h hl hc⟩
    · exact ⟨_, hx, decTmV_ok h⟩
    · cases h
  encK_ok t _ := rfl
def TCods.one {R : Type} (c : TCod R) : TCods R where
  enc r := [c.enc r]
  dec := fun | [v] => c.dec v | _ => none
  encK r f := c.encK r fun v => f [v]
  dec_ok l r h := by
    split at h
    · refine ⟨rfl, fun i p q hp hq => ?_⟩
      cases i with
      | zero => simp at hp hq; subst hp; subst hq; exact c.dec_ok _ _ h
      | succ i => simp at hp
    · cases h
  encK_ok r f := c.encK_ok r _
def TCods.cons {R Q : Type} (c : TCod R) (d : TCods Q) : TCods (R × Q) where
  enc r := c.enc r.1 :: d.enc r.2
  dec := fun | v :: l => (match c.dec v, d.dec l with | some a, some b => some (a, b) | _, _ => none) | [] => none
  encK r f := c.encK r.1 fun v => d.encK r.2 fun l => f (v :: l)
  dec_ok l r h := by
    split at h
    · rename_i v l
      split at h
      · rename_i x y h1 h2
        cases h
        obtain ⟨i1, i2⟩ := d.dec_ok _ _ h2
        refine ⟨by simp [i1], fun i p q hp hq => ?_⟩
        cases i with
        | zero => simp at hp hq; subst hp; subst hq; exact c.dec_ok _ _ h1
        | succ i => exact i2 i p q (by simpa using hp) (by simpa using hq)
      · cases h
    · cases h
  encK_ok r f := by rw [c.encK_ok, d.encK_ok]
def RCod.tup {R : Type} (c : TCods R) : RCod R where
  enc r := .tup (c.enc r)
  dec := fun
    | .tup l => c.dec l
    | .val (.tuple vs) => c.dec (vs.toList.map fun v => .one (.val v))
    | _ => none
  encK r f := c.encK r fun l => f (.tup l)
  dec_ok v r h fz w B x hx := by
    split at h
    · obtain ⟨cs, hxe, hl, hc⟩ := hx
      obtain ⟨i1, i2⟩ := c.dec_ok _ _ h
      refine ⟨cs, hxe, by rw [i1, hl], fun i p hp => ?_⟩
      rename_i l
      have hlt : i < l.length := by rw [← i1]; exact (List.getElem?_eq_some_iff.1 hp).1
      obtain ⟨y, hy, hr⟩ := hc i l[i] (List.getElem?_eq_getElem hlt)
      exact ⟨y, hy, i2 i p _ hp (List.getElem?_eq_getElem hlt) fz w B y hr⟩
    · rename_i vs
      obtain ⟨i1, i2⟩ := c.dec_ok _ _ h
      have hx' : x = .tuple vs := hx
      refine ⟨vs, hx', by rw [i1]; simp, fun i p hp => ?_⟩
      have hlt : i < vs.size := by have := (List.getElem?_eq_some_iff.1 hp).1; rw [i1] at this; simpa using this
      refine ⟨vs[i], by simp [hlt], i2 i p (.one (.val vs[i])) hp (by simp [hlt]) fz w B _ rfl⟩
    · cases h
  encK_ok r f := c.encK_ok r _
def Kn.of {P : Program} {A R : Type} (f : FuncId) (ac : ACods A) (rc : RCod R) (F : A → Option R) (h : ∀ a r, F a = some r → Contract P f (ac.enc a) (rc.enc r)) : Kn P where
  f := f
  semK l k :=
    match ac.dec l with
    | some a => (F a).bind fun r => rc.encK r k
    | none => none
  ok l k r hk := by
    split at hk
    · rename_i a ha
      cases hF : F a with
      | none => rw [hF] at hk; cases hk
      | some x =>
        rw [hF] at hk
        simp only [Option.bind_some, rc.encK_ok] at hk
        obtain ⟨h1, h2⟩ := ac.ok _ _ ha
        exact ⟨rc.enc x, (h a x hF).of_args h1 h2, hk⟩
    · cases hk
theorem Contract.of_body {P : Program} {A R : Type} {f : FuncId} {fn : Func} (hf : P.funcs[f]? = some fn) (hname : (fn.name == "runtime.NumGoroutine") = false) (hm : P.follows .mixedOrders = true) {ac : ACods A} {rc : RCod R} {F : A → Option R} {cs : List (Kn P)}
    {live : Nat → Option Keep} {fuel : Nat} (h : ∀ a, bodyK P cs live fuel fn (ac.enc a) rc.dec = F a) : ∀ a r, F a = some r → Contract P f (ac.enc a) (rc.enc r) :=
  fun a r hr => body_sound hf hname hm rc.enc rc.dec_ok (by rw [h a]; exact hr)
end Go.Proofs.YtcihbcffokjgjaaGreat.Ev
namespace Go.Proofs.YtcihbcffokjgjaaGreat.Ev
open Go Go.RowKit
def sub : Code → List Bool → Code
  | c, [] => c
  | .seq a b, x :: l => bif x then sub b l else sub a l
  | .cond _ a b, x :: l => bif x then sub b l else sub a l
  | .block _ c, _ :: l => sub c l
  | .loop c, _ :: l => sub c l
  | .scope c, _ :: l => sub c l
  | c, _ :: _ => c
def findV (t : Nat) : List (Nat × V) → V
  | [] => .unk
  | (i, v) :: l => bif Nat.beq i t then v else findV t l
def findB (t : Nat) : List (Nat × Blk) → Blk
  | [] => .gone
  | (i, v) :: l => bif Nat.beq i t then v else findB t l
def stOf (n : Nat) (ts : List (Nat × V)) (hs : List (Nat × Blk)) : St := ⟨(List.range n).map fun i => findV i ts, (List.range n).map fun i => findB i hs⟩
def stOfX (n m : Nat) (ts : List (Nat × V)) (hs : List (Nat × Blk)) : St := ⟨(List.range n).map fun i => findV i ts, (List.range m).map fun i => findB i hs⟩
def liveOf : List (Nat × Keep) → Nat → Option Keep
  | [], _ => none
  | (i, k) :: l, j => bif Nat.beq i j then some k else liveOf l j
structure Con (P : Program) (n : FuncId) {A R : Type} (a : ACods A) (r : RCod R) (F : A → Option R) : Prop where
  c : ∀ x y, F x = some y → Contract P n (a.enc x) (r.enc y)
def cat {α : Type} (n : Nat) (f g : Nat → α) (i : Nat) : α := bif Nat.blt i n then f i else g (i - n)
def mx (a b : Int) : Int := if b > a then b else a
def mn (a b : Int) : Int := if b < a then b else a
def shl (k : IntKind) (x y : Int) : Int := k.wrap (x * 2 ^ min y.toNat k.bits)
def shr (k : IntKind) (x y : Int) : Int := x.fdiv (2 ^ min y.toNat k.bits)
end Go.Proofs.YtcihbcffokjgjaaGreat.Ev
