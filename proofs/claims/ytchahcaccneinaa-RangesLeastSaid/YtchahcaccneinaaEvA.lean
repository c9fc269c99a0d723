/- The evaluator: whole functions: what it returns is what a call returns, in every world. -/
import Derived.Test.YtchahcaccneinaaEv9
namespace Go.Proofs.Ytchahcaccneinaa.Ev
open Go Go.RowKit
set_option linter.unusedVariables false
set_option linter.unusedSimpArgs false

def initTm : List AV → Nat → List V
  | [], _ => []
  | .val v :: l, i => .val v :: initTm l (i + 1)
  | .rows n fs :: l, i => .sl i fs.length n :: initTm l (i + 1)
def initHp : List AV → List Blk
  | [] => []
  | .val _ :: l => .none :: initHp l
  | .rows n fs :: l => .ext n fs :: initHp l
def initSt (avs : List AV) (n : Nat) : St := ⟨initTm avs 0 ++ List.replicate (n - avs.length) (.val undef), initHp avs ++ List.replicate (n - avs.length) .none⟩

def resV (P : Program) (s : St) : ResultVar → Option V
  | .tmp t => some (s.tm.getD t (.val undef))
  | .cell a t =>
    match s.tm.getD a (.val undef) with
    | .ptr b row sz fld =>
      match semVal P (isAgg t) with
      | some false => readV s.hp b row sz fld
      | some true =>
        match semVal P (sizeOf t) with
        | some n =>
          match readAgg s.hp b row sz fld n with
          | some vs => some (.val (.agg vs.toArray))
          | none => none
        | none => none
      | none => none
    | _ => none
def resVs (P : Program) (s : St) : List ResultVar → Option (List V)
  | [] => some []
  | x :: l =>
    match resV P s x, resVs P s l with
    | some v, some vs => some (v :: vs)
    | _, _ => none
def retAV (hp : List Blk) : List V → Option AV
  | [.val v] => some (.val v)
  | [.sl b sz len] =>
    match hp.getD b .none with
    | .own _ | .grow .. =>
      match avOf hp (.sl b sz len) with
      | some (av, _) => some av
      | none => none
    | _ => none
  | [_] => none
  | vs =>
    match allVals vs with
    | some xs => some (.val (.tuple xs.toArray))
    | none => none

section
variable {R : Type}
/-- What follows the body. -/
def endC (P : Program) (results : Array ResultVar) (ret : AV → Option R) (s : St) : Option R :=
  match resVs P s results.toList with
  | some vs =>
    match retAV s.hp vs with
    | some av => ret av
    | none => none
  | none => none
def retC (P : Program) (results : Array ResultVar) (ret : AV → Option R) : Ex → St → Option R := fun e s =>
  match e with
  | .exit _ => none
  | .normal => endC P results ret s
  | .ret => endC P results ret s
def bodyOf (fn : Func) : Code :=
  match fn.body with
  | none => .exit 0
  | some c => c
def bodyK (P : Program) (cs : List (Kn P)) (live : Nat → Option Keep) (fuel : Nat) (fn : Func) (avs : List AV) (ret : AV → Option R) : Option R :=
  codeK P cs live fuel (bodyOf fn) (initSt avs fn.ntmps) (retC P fn.results ret)

variable {P : Program} {cs : List (Kn P)} {ρ : Rho} {w0 : World} {s : St} {a : Act} {w : World}

theorem initTm_get : ∀ (avs : List AV) (i j : Nat), (initTm avs i)[j]? = (avs[j]?).map fun | .val v => V.val v | .rows n fs => .sl (i + j) fs.length n
  | [], i, j => by simp [initTm]
  | .val v :: l, i, 0 => rfl
  | .rows n fs :: l, i, 0 => rfl
  | .val v :: l, i, j + 1 => by
    simp only [initTm, List.getElem?_cons_succ, initTm_get l (i + 1) j]
    rw [show i + 1 + j = i + (j + 1) by omega]
  | .rows n fs :: l, i, j + 1 => by
    simp only [initTm, List.getElem?_cons_succ, initTm_get l (i + 1) j]
    rw [show i + 1 + j = i + (j + 1) by omega]
theorem initHp_get : ∀ (avs : List AV) (j : Nat), (initHp avs)[j]? = (avs[j]?).map fun | .val _ => Blk.none | .rows n fs => .ext n fs
  | [], j => by simp [initHp]
  | .val v :: l, 0 => rfl
  | .rows n fs :: l, 0 => rfl
  | .val v :: l, j + 1 => by simp only [initHp, List.getElem?_cons_succ, initHp_get l j]
  | .rows n fs :: l, j + 1 => by simp only [initHp, List.getElem?_cons_succ, initHp_get l j]
theorem initTm_length : ∀ (avs : List AV) (i : Nat), (initTm avs i).length = avs.length
  | [], i => rfl
  | .val v :: l, i => by simp [initTm, initTm_length l (i + 1)]
  | .rows n fs :: l, i => by simp [initTm, initTm_length l (i + 1)]
theorem initHp_length : ∀ (avs : List AV), (initHp avs).length = avs.length
  | [] => rfl
  | .val v :: l => by simp [initHp, initHp_length l]
  | .rows n fs :: l => by simp [initHp, initHp_length l]

theorem init_rel {args : Array Value} {avs : List AV} (h : ArgsRel w args avs) (n : Nat) : RelE w (initSt avs n) { tmps := args ++ Array.replicate (n - args.size) undef, defers := [] } w := by
  obtain ⟨hl, ha⟩ := h
  let ρ : Rho := fun b => match avs[b]?, args[b]? with
    | some (.rows m fs), some (.slice A _ c) => some ⟨A, c, some m⟩
    | _, _ => none
  have hblk : ∀ b, (initSt avs n).hp.getD b .none = match avs[b]? with | some (.rows m fs) => .ext m fs | _ => .none := fun b => by
    unfold initSt
    simp only [List.getD_eq_getElem?_getD, List.getElem?_append, initHp_length, initHp_get]
    by_cases hb : b < avs.length
    · rw [if_pos hb]
      simp only [List.getElem?_eq_getElem hb, Option.map_some, Option.getD_some]
      cases avs[b] <;> rfl
    · rw [if_neg hb]
      simp only [List.getElem?_eq_none (Nat.le_of_not_lt hb), List.getElem?_replicate]
      split <;> rfl
  refine ⟨ρ, { defers := rfl, tm := ⟨?_, fun i v hv => ?_⟩, hp := fun b => ?_, sep := fun b b' r r' ad ad' _ ho => ?_, below := Below.refl _ _ }⟩
  · simp [initSt, initTm_length, hl]
  · have hv' : (initTm avs 0 ++ List.replicate (n - avs.length) (.val undef))[i]? = some v := hv
    rw [List.getElem?_append, initTm_length] at hv'
    by_cases hi : i < avs.length
    · rw [if_pos hi, initTm_get] at hv'
      simp only [List.getElem?_eq_getElem hi, Option.map_some, Option.some.injEq] at hv'
      obtain ⟨x, hx, hr⟩ := ha i avs[i] (List.getElem?_eq_getElem hi)
      refine ⟨x, by rw [Array.getElem?_append_left (by rw [← hl]; exact hi)]; exact hx, ?_⟩
      cases hav : avs[i] with
      | val y => rw [hav] at hv' hr; subst hv'; exact hr
      | rows m fs =>
        rw [hav] at hv' hr
        subst hv'
        obtain ⟨A, c, rfl, _⟩ := hr
        refine ⟨⟨A, c, some m⟩, ?_, fun q hq => by cases hq; rfl, rfl⟩
        simp only [ρ, Nat.zero_add, List.getElem?_eq_getElem hi, hav, hx]
    · rw [if_neg hi, List.getElem?_replicate] at hv'
      split at hv'
      · rename_i hlt
        simp only [Option.some.injEq] at hv'; subst hv'
        have h1 : i < (args ++ Array.replicate (n - args.size) undef).size := by simp; omega
        refine ⟨undef, ?_, rfl⟩
        show (args ++ Array.replicate (n - args.size) undef)[i]? = some undef
        rw [Array.getElem?_append_right (by rw [← hl]; omega), Array.getElem?_replicate, if_pos (by omega)]
      · cases hv'
  · rw [hblk b]
    cases hav : avs[b]? with
    | none => simp [BRel, ρ, hav]
    | some av =>
      cases av with
      | val y => simp [BRel, ρ, hav]
      | rows m fs =>
        obtain ⟨x, hx, A, c, rfl, hrows⟩ := ha b _ hav
        exact ⟨⟨A, c, some m⟩, by simp only [ρ, hav, hx], rfl, fun hp => let ⟨ad, h1, h2, _, h4, h5⟩ := hrows hp; ⟨ad, h1, h2, h4, h5⟩⟩
  · rw [hblk b] at ho
    cases hav : avs[b]? with
    | none => rw [hav] at ho; cases ho
    | some av => rw [hav] at ho; cases av <;> cases ho

def resSem (tmps : Array Value) : ResultVar → Sem Value
  | .tmp t => pure (tmps.getD t undef)
  | .cell a t => do loadVar t (← asAddr (tmps.getD a undef))

theorem resV_sound (h : Rel ρ w0 s a w) {x : ResultVar} {v : V} (hv : resV P s x = some v) : ∃ y, (resSem a.tmps x).run P w = .ok y w ∧ VRel ρ v y := by
  cases x with
  | tmp t =>
    simp only [resV, Option.some.injEq] at hv; subst hv
    exact ⟨_, rfl, h.tm.eval (.tmp t)⟩
  | cell p t =>
    simp only [resV] at hv
    have hp := h.tm.eval (.tmp p)
    simp only [evV] at hp
    split at hv
    · rename_i b row sz fld hx
      rw [hx] at hp
      obtain ⟨r, ad, hr, had, hlim, hxe⟩ := hp
      have hxe' : a.tmps.getD p undef = .pointer (some ⟨ad.block, ad.off + (row * sz + fld), none⟩) := hxe
      split at hv
      · rename_i ht
        obtain ⟨y, hy, hvr⟩ := readV_sound h hv hr had hlim
        refine ⟨y, ?_, hvr⟩
        simp only [resSem, hxe', asAddr, Sem.run_bind, Sem.run_pure, Result.andThen_ok, loadVar, semVal_run ht, Bool.false_eq_true, if_false, run_load, hy]
      · rename_i ht
        split at hv
        · rename_i n hn
          split at hv
          · rename_i vs hvs
            simp only [Option.some.injEq] at hv; subst hv
            obtain ⟨hlen, hcells⟩ := readAgg_sound h hr had hlim n fld vs hvs
            refine ⟨_, ?_, rfl⟩
            have hl := run_loadCells_list (P := P) w ⟨ad.block, ad.off + (row * sz + fld), none⟩ vs (fun j v hj => by rw [addr_add]; exact hcells j v hj)
            rw [hlen] at hl
            simp only [resSem, hxe', asAddr, Sem.run_bind, Sem.run_pure, Result.andThen_ok, loadVar, semVal_run ht, if_true, semVal_run hn, hl]
          · cases hv
        · cases hv
      · cases hv
    · cases hv

theorem resVs_sound (h : Rel ρ w0 s a w) : ∀ {l : List ResultVar} {vs : List V}, resVs P s l = some vs → ∃ ys : List Value, (l.mapM (resSem a.tmps)).run P w = .ok ys w ∧ TRel ρ vs ys.toArray
  | [], vs, hv => by
    simp only [resVs, Option.some.injEq] at hv; subst hv
    exact ⟨[], rfl, rfl, fun i v hi => by simp at hi⟩
  | x :: l, vs, hv => by
    simp only [resVs] at hv
    split at hv
    · rename_i v us hv1 hv2
      simp only [Option.some.injEq] at hv; subst hv
      obtain ⟨y, hy, hr⟩ := resV_sound h hv1
      obtain ⟨ys, hys, hrs⟩ := resVs_sound h hv2
      refine ⟨y :: ys, ?_, by simp [hrs.1], fun i u hi => ?_⟩
      · simp only [List.mapM_cons, Sem.run_bind, hy, Result.andThen_ok, hys, Sem.run_pure]
      · cases i with
        | zero => simp at hi; subst hi; exact ⟨y, by simp, hr⟩
        | succ i =>
          obtain ⟨z, hz, hzr⟩ := hrs.2 i u (by simpa using hi)
          exact ⟨z, by simpa using hz, hzr⟩
    · cases hv

theorem retAV_sound (h : Rel ρ w0 s a w) {vs : List V} {ys : List Value} (hr : TRel ρ vs ys.toArray) {av : AV} (hv : retAV s.hp vs = some av) {y : Value} (hy : y = if h : ys.toArray.size = 1 then ys.toArray[0] else .tuple ys.toArray) : AVRel w w0.heap.size y av := by
  unfold retAV at hv
  split at hv
  · rename_i v
    simp only [Option.some.injEq] at hv; subst hv
    obtain ⟨x, hx, hxr⟩ := hr.2 0 _ rfl
    have hs : ys.toArray.size = 1 := hr.1.symm
    rw [dif_pos hs] at hy
    have : ys.toArray[0]? = some ys.toArray[0] := by simp [hs]
    rw [hx] at this; cases this
    rw [hy]; exact hxr
  · rename_i b sz len
    have key : ∀ av', (match avOf s.hp (.sl b sz len) with
        | some (av, _) => some av
        | none => none) = some av' → (∀ r ad, ρ b = some r → r.addr = some ad → w0.heap.size ≤ ad.block) → AVRel w w0.heap.size y av' := fun av' hv hblk => by
      split at hv
      · rename_i av' rd hav
        simp only [Option.some.injEq] at hv; subst hv
        obtain ⟨x, hx, hxr⟩ := hr.2 0 _ rfl
        have hs : ys.toArray.size = 1 := hr.1.symm
        rw [dif_pos hs] at hy
        have : ys.toArray[0]? = some ys.toArray[0] := by simp [hs]
        rw [hx] at this; cases this
        rw [hy]
        have h1 := avOf_sound h hxr hav
        obtain ⟨r, hr1, hlim, hxe⟩ := hxr
        cases av' with
        | val z => exact h1
        | rows n fs =>
          obtain ⟨A, c', he, hrows⟩ := h1
          refine ⟨A, c', he, fun hp => ?_⟩
          obtain ⟨ad, k1, k2, k3, k4, k5⟩ := hrows hp
          rw [hxe, k1] at he
          simp only [Value.slice.injEq] at he
          exact ⟨ad, k1, k2, hblk r ad hr1 he.1, k4, k5⟩
      · cases hv
    have hb := h.hp b
    split at hv
    · rename_i cs' hown
      rw [hown] at hb
      obtain ⟨r', k, e, c, g1, g2, gm, g3, g4, g5⟩ := hb
      exact key _ hv fun r ad hr had => by rw [hr] at g1; cases g1; rw [had] at g2; cases g2; exact g3
    · rename_i e n fs hown
      rw [hown] at hb
      obtain ⟨r', xs, g1, gm, gp, go, gf⟩ := hb
      exact key _ hv fun r ad hr had => by rw [hr] at g1; cases g1; exact (go.lt ad.block (by rw [had]; rfl)).1
    · cases hv
  · cases hv
  · rename_i h1 h2 h3
    split at hv
    · rename_i xs hxs
      simp only [Option.some.injEq] at hv; subst hv
      have hvs := allVals_spec hxs
      have hne : ys.toArray.size ≠ 1 := fun e => by
        rw [← hr.1] at e
        match vs, e with
        | [v], _ => exact h3 v rfl
      rw [dif_neg hne] at hy
      rw [hy]
      show Value.tuple ys.toArray = Value.tuple xs.toArray
      congr 2
      apply List.ext_getElem?
      intro i
      have hl : xs.length = ys.length := by have := hr.1; rw [hvs] at this; simpa using this
      cases hxi : xs[i]? with
      | none => exact (List.getElem?_eq_none (by rw [← hl]; exact List.getElem?_eq_none_iff.1 hxi))
      | some z =>
        obtain ⟨q, hq, hqr⟩ := hr.2 i (.val z) (by rw [hvs, List.getElem?_map, hxi]; rfl)
        have : q = z := hqr
        subst this
        simpa using hq
    · cases hv

/-- **A function: what the evaluator returns, every call returns.** -/
theorem body_sound {f : FuncId} {fn : Func} (hf : P.funcs[f]? = some fn) (hname : (fn.name == "runtime.NumGoroutine") = false) (hm : P.follows .mixedOrders = true) {live : Nat → Option Keep} {fuel : Nat} {avs : List AV} {ret : AV → Option R} {r : R}
    (enc : R → AV) (henc : ∀ av r, ret av = some r → ∀ (w : World) (B : Nat) (x : Value), AVRel w B x av → AVRel w B x (enc r)) (h : bodyK P cs live fuel fn avs ret = some r) : Contract P f avs (enc r) := by
  intro w args hargs
  unfold bodyK at h
  cases hb : fn.body with
  | none =>
    have h' : codeK P cs live fuel (.exit 0) (initSt avs fn.ntmps) (retC P fn.results ret) = some r := by rw [bodyOf, hb] at h; exact h
    have h2 : (none : Option R) = some r := h'
    cases h2
  | some c =>
    have h : codeK P cs live fuel c (initSt avs fn.ntmps) (retC P fn.results ret) = some r := by rw [bodyOf, hb] at h; exact h
    have hcall : (callFunc f args).run P w = .ok (.enter f args) w := by
      unfold callFunc
      simp only [Sem.run_bind, run_program, Result.andThen_ok, hf, hname, hb, Bool.false_eq_true, if_false, Option.isNone_some, Sem.run_pure]
    unfold CallOk
    rw [hcall]
    refine ⟨rfl, calls_of_wp hf hb (wp_mono (code_sound hm c _ _ r _ w h (init_rel hargs fn.ntmps)) fun e a' w' ⟨ex, s', he, ⟨ρ, hr⟩, hk⟩ => ?_)⟩
    have fin : (match resVs P s' fn.results.toList with
        | some vs =>
          match retAV s'.hp vs with
          | some av => ret av
          | none => none
        | none => none) = some r → a'.defers = [] ∧ ∃ v, (results fn a'.tmps).run P w' = .ok v w' ∧ ∃ x, Ending.returned v = .returned x ∧ Below w.heap.size w w' ∧ AVRel w' w.heap.size x (enc r) := fun hk => by
      split at hk
      · rename_i vs hvs
        split at hk
        · rename_i av hav
          obtain ⟨ys, hys, htr⟩ := resVs_sound hr hvs
          refine ⟨hr.defers, (if h : ys.toArray.size = 1 then ys.toArray[0] else .tuple ys.toArray), ?_, _, rfl, hr.below, ?_⟩
          · have e : results fn a'.tmps = fn.results.mapM (resSem a'.tmps) >>= fun vs => Pure.pure (if h : vs.size = 1 then vs[0] else .tuple vs) := by
              unfold results
              refine congrArg (fun m : Sem (Array Value) => m >>= fun vs => Pure.pure (if h : vs.size = 1 then vs[0] else .tuple vs)) (congrArg (fun g : ResultVar → Sem Value => fn.results.mapM g) (funext fun x => ?_))
              cases x <;> rfl
            have e2 : (fn.results.mapM (resSem a'.tmps)).run P w' = .ok ys.toArray w' := by
              rw [Array.mapM_eq_mapM_toList]
              simp only [Sem.run_map, hys, Result.andThen_ok]
            rw [e, Sem.run_bind, e2]
            rfl
          · exact henc av r hk _ _ _ (retAV_sound hr htr hav rfl)
        · cases hk
      · cases hk
    subst he
    cases ex with
    | exit id =>
      have hk' : (none : Option R) = some r := hk
      cases hk'
    | normal => exact fin hk
    | ret => exact fin hk
end

end Go.Proofs.Ytchahcaccneinaa.Ev
