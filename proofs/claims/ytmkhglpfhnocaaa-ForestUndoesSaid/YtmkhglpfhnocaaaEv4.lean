/- Regions: one operation behind a guard, a run of operations in the order of the text, and that every order comes to the same where operations that do not wait for one another touch different things. -/
import Derived.Test.YtmkhglpfhnocaaaEv3
namespace Go.Proofs.Ytmkhglpfhnocaaa.Ev
open Go Go.RowKit
set_option linter.unusedVariables false
set_option linter.unusedSimpArgs false

/-! ### what an operation looks at -/
theorem avOf0_frame {hp hp' : List Blk} {v : V} {av : AV} {rd : List Nat} (h : avOf0 hp v = some (av, rd)) (hh : ∀ b ∈ rd, hp'[b]? = hp[b]?) : avOf0 hp' v = some (av, rd) := by
  cases v with
  | val x => exact h
  | ptr => simp [avOf0] at h
  | pk => simp [avOf0] at h
  | unk => simp [avOf0] at h
  | gp => simp [avOf0] at h
  | sl b sz len =>
    have hb : b ∈ rd := by
      simp only [avOf0] at h
      cases hq : hp.getD b .none with
      | none => rw [hq] at h; cases h
      | gone => rw [hq] at h; cases h
      | ext n fs => rw [hq] at h; simp only [Option.some.injEq, Prod.mk.injEq] at h; rw [← h.2]; simp
      | grow e n fs => rw [hq] at h; simp only [Option.some.injEq, Prod.mk.injEq] at h; rw [← h.2]; simp
      | own cs =>
        rw [hq] at h; simp only at h
        cases ha : allVals cs with
        | none => rw [ha] at h; cases h
        | some vs =>
          rw [ha] at h; simp only at h
          split at h
          · split at h
            · simp only [Option.some.injEq, Prod.mk.injEq] at h; rw [← h.2]; simp
            · cases h
          · cases h
    have : hp'.getD b .none = hp.getD b .none := by simp only [List.getD_eq_getElem?_getD, hh b hb]
    simp only [avOf0, this] at h ⊢
    exact h
theorem pasOf_frame {hp hp' : List Blk} : ∀ {cs : List PV} {ps : List PA} {rd : List Nat}, pasOf hp cs = some (ps, rd) → (∀ b ∈ rd, hp'[b]? = hp[b]?) → pasOf hp' cs = some (ps, rd)
  | [], _, _, h, _ => h
  | .val v :: l, ps, rd, h, hh => by
    simp only [pasOf] at h ⊢
    split at h
    · rename_i ps' rd' hl; cases h; rw [pasOf_frame hl hh]
    · cases h
  | .sl b sz len :: l, ps, rd, h, hh => by
    simp only [pasOf] at h ⊢
    split at h
    · rename_i n fs r ps' rd' hb hl
      cases h
      rw [avOf0_frame hb (fun b hb => hh b (by simp [hb])), pasOf_frame hl (fun b hb => hh b (by simp [hb]))]
    · cases h
theorem avOf_frame {hp hp' : List Blk} {v : V} {av : AV} {rd : List Nat} (h : avOf hp v = some (av, rd)) (hh : ∀ b ∈ rd, hp'[b]? = hp[b]?) : avOf hp' v = some (av, rd) := by
  cases v with
  | pk cs =>
    simp only [avOf] at h ⊢
    split at h
    · rename_i hp; cases h; rw [pasOf_frame hp hh]
    · cases h
  | val x => exact avOf0_frame (v := .val x) h hh
  | ptr b r s f => exact avOf0_frame (v := .ptr b r s f) h hh
  | sl b s n => exact avOf0_frame (v := .sl b s n) h hh
  | unk => exact avOf0_frame (v := .unk) h hh
  | gp g r s f => exact avOf0_frame (v := .gp g r s f) h hh
theorem avsOf_frame {hp hp' : List Blk} : ∀ {vs : List V} {avs : List AV} {rd : List Nat}, avsOf hp vs = some (avs, rd) → (∀ b ∈ rd, hp'[b]? = hp[b]?) → avsOf hp' vs = some (avs, rd)
  | [], _, _, h, _ => h
  | v :: l, avs, rd, h, hh => by
    simp only [avsOf] at h ⊢
    cases h1 : avOf hp v with
    | none => rw [h1] at h; cases h
    | some p1 =>
      obtain ⟨x, r⟩ := p1
      rw [h1] at h
      cases h2 : avsOf hp l with
      | none => rw [h2] at h; cases h
      | some p2 =>
        obtain ⟨xs, rs⟩ := p2
        rw [h2] at h
        simp only [Option.some.injEq, Prod.mk.injEq] at h; obtain ⟨rfl, rfl⟩ := h
        rw [avOf_frame h1 (fun b hb => hh b (by simp [hb])), avsOf_frame h2 (fun b hb => hh b (by simp [hb]))]

section
variable {P : Program} {tm tm' : List V} {hp hp' : List Blk} {o : Oper} {E : Eff}

theorem readV_frame {b row sz fld : Nat} (h : hp'[b]? = hp[b]?) : readV hp' b row sz fld = readV hp b row sz fld := by
  unfold readV; simp only [List.getD_eq_getElem?_getD, h]
theorem readAgg_frame {b row sz : Nat} (h : hp'[b]? = hp[b]?) : ∀ (n fld : Nat), readAgg hp' b row sz fld n = readAgg hp b row sz fld n
  | 0, fld => rfl
  | n + 1, fld => by simp only [readAgg, readV_frame h, readAgg_frame h n (fld + 1)]

theorem readPk_frame {b row sz : Nat} (h : hp'[b]? = hp[b]?) : ∀ (n fld : Nat), readPk hp' b row sz fld n = readPk hp b row sz fld n
  | 0, fld => rfl
  | n + 1, fld => by simp only [readPk, readV_frame h, readPk_frame h n (fld + 1)]

/-- An operation's effect hangs on its operands and on the blocks that it reads. -/
theorem OpR.frame (hR : OpR P tm hp o E) (hx : ∀ x ∈ o.op.operands, evV tm' x = evV tm x) (hh : ∀ b ∈ E.rd, hp'[b]? = hp[b]?) : OpR P tm' hp' o E := by
  cases hR with
  | copy x h =>
    rw [← hx x (by rcases h with h | h <;> simp [h, Op.operands])]
    exact .copy x h
  | pick c x y t h hc =>
    have e1 := hx c (by simp [h, Op.operands]); have e2 := hx x (by simp [h, Op.operands]); have e3 := hx y (by simp [h, Op.operands])
    rw [← e2, ← e3]
    exact .pick c x y t h (by rw [e1]; exact hc)
  | pure g v hs h hv => exact .pure g v hs (fun x hm => by rw [hx x hm]; exact h x hm) hv
  | alloc t d z h hd hh' hz => exact .alloc t d z h hd (by rw [hh d (by simp)]; exact hh') hz
  | box t x d v h hd hh' hxv => exact .box t x d v h hd (by rw [hh d (by simp)]; exact hh') (by rw [hx x (by simp [h, Op.operands])]; exact hxv)
  | boxPk t x d cs h hd hh' hxv => exact .boxPk t x d cs h hd (by rw [hh d (by simp)]; exact hh') (by rw [hx x (by simp [h, Op.operands])]; exact hxv)
  | row t len parts g d e sz cells h hd hh' hxv hp' => exact .row t len parts g d e sz cells h hd (by rw [hh d (by simp)]; exact hh') (fun x hm => by rw [hx x hm]; exact hxv x hm) hp'
  | load t x b row sz fld v h hxv ht hv => exact .load t x b row sz fld v h (by rw [hx x (by simp [h, Op.operands])]; exact hxv) ht (by rw [readV_frame (hh b (by simp))]; exact hv)
  | loadAgg t x b row sz fld n vs h hxv ht hn hv => exact .loadAgg t x b row sz fld n vs h (by rw [hx x (by simp [h, Op.operands])]; exact hxv) ht hn (by rw [readAgg_frame (hh b (by simp))]; exact hv)
  | store t x y b row sz fld cs ws h hxv hc hw hn hl =>
    exact .store t x y b row sz fld cs ws h (by rw [hx x (by simp [h, Op.operands])]; exact hxv) (by rw [hh b (by simp)]; exact hc) (by rw [hx y (by simp [h, Op.operands])]; exact hw) hn hl
  | field t x f b row sz fld fs fl n h hxv ht hf hn => exact .field t x f b row sz fld fs fl n h (by rw [hx x (by simp [h, Op.operands])]; exact hxv) ht hf hn
  | index t x ix b sz len k i e h hxv hi ht hn h0 h1 hl =>
    exact .index t x ix b sz len k i e h (by rw [hx x (by simp [h, Op.operands])]; exact hxv) (by rw [hx ix (by simp [h, Op.operands])]; exact hi) ht hn h0 h1 (by simp only [List.getD_eq_getElem?_getD, hh b (by simp)] at hl ⊢; exact hl)
  | len c x t b sz len e h hc ha hat hxv ht => exact .len c x t b sz len e h hc ha hat (by rw [hx x (by simp [h, Op.operands, Call.operands, hc, ha])]; exact hxv) ht
  | call c f avs rd v h hc ha hC =>
    have hargs : c.args.toList.map (evV tm') = c.args.toList.map (evV tm) := List.map_congr_left fun x hm => hx x (by simp only [h, Op.operands, Call.operands, hc]; simp at hm; simp [hm])
    exact .call c f avs rd v h hc (by rw [hargs]; exact avsOf_frame ha hh) hC
  | callRows c f avs rd d n fs h hc ha hd hh' hC =>
    have hargs : c.args.toList.map (evV tm') = c.args.toList.map (evV tm) := List.map_congr_left fun x hm => hx x (by simp only [h, Op.operands, Call.operands, hc]; simp at hm; simp [hm])
    exact .callRows c f avs rd d n fs h hc (by rw [hargs]; exact avsOf_frame ha fun b hb => hh b (by simp [hb])) hd (by rw [hh d (by simp)]; exact hh') hC
  | rowG t len parts g d e sz cells fs h hd hh' hxv hp' hg => exact .rowG t len parts g d e sz cells fs h hd (by rw [hh d (by simp)]; exact hh') (fun x hm => by rw [hx x hm]; exact hxv x hm) hp' hg
  | loadPk t x b row sz fld n ps h hxv ht hn hv => exact .loadPk t x b row sz fld n ps h (by rw [hx x (by simp [h, Op.operands])]; exact hxv) ht hn (by rw [readPk_frame (hh b (by simp))]; exact hv)
  | storeG t x y b row sz fld n e fs fs' v h hxv hc hsz hy hn hl hset => exact .storeG t x y b row sz fld n e fs fs' v h (by rw [hx x (by simp [h, Op.operands])]; exact hxv) (by rw [hh b (by simp)]; exact hc) hsz (by rw [hx y (by simp [h, Op.operands])]; exact hy) hn hl hset
  | make t e x y i z kl kc n d fs h hd hh' hxv hyv ht hi hz hzs hpos hf h0 h63 hby => exact .make t e x y i z kl kc n d fs h hd (by rw [hh d (by simp)]; exact hh') (by rw [hx x (by simp [h, Op.operands])]; exact hxv) (by rw [hx y (by simp [h, Op.operands])]; exact hyv) ht hi hz hzs hpos hf h0 h63 hby
  | app c x y t e i z b d sz n m n1 fs fs2 fs3 rd2 h hc ha hat hd hh' hxv hyv hb ht hi hz hzs hl1 hl2 h3 h63 hby =>
    exact .app c x y t e i z b d sz n m n1 fs fs2 fs3 rd2 h hc ha hat hd (by rw [hh d (by simp)]; exact hh') (by rw [hx x (by simp [h, Op.operands, Call.operands, hc, ha])]; exact hxv) (by rw [hx y (by simp [h, Op.operands, Call.operands, hc, ha])]; exact avOf_frame hyv fun q hq => hh q (by simp [hq]))
      (by rw [hh b (by simp)]; exact hb) ht hi hz hzs hl1 hl2 h3 h63 hby
  | arr t x ix b row sz fld len n k i e h hxv hi ht hn h0 h1 => exact .arr t x ix b row sz fld len n k i e h (by rw [hx x (by simp [h, Op.operands])]; exact hxv) (by rw [hx ix (by simp [h, Op.operands])]; exact hi) ht hn h0 h1
  | eqs op t yt x y a b q h hop hxv hyv hg hq => exact .eqs op t yt x y a b q h hop (by rw [hx x (by simp [h, Op.operands])]; exact hxv) (by rw [hx y (by simp [h, Op.operands])]; exact hyv) hg hq
  | strAt t x ix s k i u h hxv hi ht h0 hs => exact .strAt t x ix s k i u h (by rw [hx x (by simp [h, Op.operands])]; exact hxv) (by rw [hx ix (by simp [h, Op.operands])]; exact hi) ht h0 hs
  | gidx t x ix g sz len n fs k i e h hxv hi ht hn h0 h1 hg hl => exact .gidx t x ix g sz len n fs k i e h (by rw [hx x (by simp [h, Op.operands])]; exact hxv) (by rw [hx ix (by simp [h, Op.operands])]; exact hi) ht hn h0 h1 hg hl
  | gfield t x f g row sz fld fs fl n h hxv ht hf hn => exact .gfield t x f g row sz fld fs fl n h (by rw [hx x (by simp [h, Op.operands])]; exact hxv) ht hf hn
  | gload t x g row sz fld n fs f h hxv ht hg hs hf => exact .gload t x g row sz fld n fs f h (by rw [hx x (by simp [h, Op.operands])]; exact hxv) ht hg hs hf

theorem OpR.wr_rd (hR : OpR P tm hp o E) : ∀ p ∈ E.wr, p.1 ∈ E.rd := by
  intro p h
  cases hR <;> simp at h <;> first | (subst h; simp; done) | (rcases h with rfl | rfl <;> simp)
end

/-! ### one operation behind its guard -/
def guardV (ops : Array Oper) (tm : List V) (o : Oper) : Option Bool :=
  match o.guard with
  | none => some true
  | some (j, want) =>
    match (ops[j]?).bind (·.dst) with
    | none => some false
    | some t =>
      match tm[t]? with
      | some (.val (.bool b)) => some (b == want)
      | some (.val (.tuple _)) => some false
      | _ => none

theorem guardV_sound {ρ : Rho} {ops : Array Oper} {tm : List V} {xs : Array Value} (h : TRel ρ tm xs) {o : Oper} {g : Bool} (hg : guardV ops tm o = some g) : Region.wanted o (yielded ops xs) = g := by
  unfold guardV at hg
  unfold Region.wanted
  cases ho : o.guard with
  | none => rw [ho] at hg; simp only [Option.some.injEq] at hg; exact hg
  | some p =>
    obtain ⟨j, want⟩ := p
    rw [ho] at hg
    simp only at hg ⊢
    unfold yielded
    cases hd : (ops[j]?).bind (·.dst) with
    | none => rw [hd] at hg; simp only [Option.some.injEq] at hg; subst hg; rfl
    | some t =>
      rw [hd] at hg
      simp only [Option.bind_some] at hg ⊢
      cases hv : tm[t]? with
      | none => rw [hv] at hg; cases hg
      | some v =>
        rw [hv] at hg
        obtain ⟨x, hx, hr⟩ := h.2 t v hv
        rw [hx]
        cases v with
        | val y =>
          have : x = y := hr
          subst this
          cases x <;> simp only [Option.some.injEq] at hg <;> first | (subst hg; rfl) | (cases hg; done)
        | _ => cases hg

theorem evV_put {tm : List V} {dst : Option Tmp} {v : V} {x : Operand} (h : ∀ d, dst = some d → x ≠ .tmp d) : evV (putV tm dst v) x = evV tm x := by
  cases dst with
  | none => rfl
  | some d =>
    cases x with
    | tmp t =>
      have hne : d ≠ t := fun e => h d rfl (e ▸ rfl)
      simp [evV, putV, List.getElem?_set_ne hne]
    | _ => rfl
theorem operands_put {ops : Array Oper} {o : Oper} {tm : List V} {dst : Option Tmp} {v : V} (h : ∀ d, dst = some d → d ∉ o.looksAt ops) : ∀ x ∈ o.op.operands, evV (putV tm dst v) x = evV tm x :=
  fun x hx => evV_put fun d hd hxd => h d hd (by
    subst hxd
    exact List.mem_append_left _ (List.mem_filterMap.2 ⟨.tmp d, by simpa using hx, rfl⟩))
theorem guardV_put {ops : Array Oper} {o : Oper} {tm : List V} {dst : Option Tmp} {v : V} (h : ∀ d, dst = some d → d ∉ o.looksAt ops) : guardV ops (putV tm dst v) o = guardV ops tm o := by
  cases dst with
  | none => rfl
  | some d =>
    unfold guardV
    cases hg : o.guard with
    | none => rfl
    | some p =>
      obtain ⟨j, want⟩ := p
      simp only
      cases ht : (ops[j]?).bind (·.dst) with
      | none => rfl
      | some t =>
        have hne : d ≠ t := fun e => h d rfl (by subst e; simp [Oper.looksAt, hg, ht])
        simp only [putV, List.getElem?_set_ne hne]

def dstOf (ops : Array Oper) (i : Nat) : Option Tmp := (ops[i]?).bind (·.dst)
def skipE : Eff := ⟨.val undef, [], []⟩
/-- Operation number i comes up. -/
def StepR (P : Program) (ops : Array Oper) (s : St) (i : Nat) (E : Eff) : Prop :=
  ∃ o, ops[i]? = some o ∧ ((guardV ops s.tm o = some true ∧ OpR P s.tm s.hp o E) ∨ (guardV ops s.tm o = some false ∧ E = skipE))

section
variable {P : Program} {ops : Array Oper} {ρ : Rho} {w0 : World} {s : St} {a : Act} {w : World} {Q : Exit → Act → World → Prop}

theorem StepR.sound {i : Nat} {E : Eff} (hS : StepR P ops s i E) (h : RelE w0 s a w) {K : Act → World → Prop} (hK : ∀ a' w', RelE w0 (s.app (dstOf ops i) E) a' w' → K a' w') : wpOp P ops Q i K a w := by
  obtain ⟨o, ho, hS⟩ := hS
  obtain ⟨ρ, h⟩ := h
  have hd : dstOf ops i = o.dst := by simp [dstOf, ho]
  rw [hd] at hK
  unfold wpOp
  simp only [ho]
  rcases hS with ⟨hg, hR⟩ | ⟨hg, rfl⟩
  · rw [guardV_sound h.tm hg, if_pos rfl]
    exact .inl (hR.sound h hK)
  · rw [guardV_sound h.tm hg, if_neg (by decide)]
    exact hK _ _ ⟨ρ, h.put o.dst (show VRel ρ (.val undef) undef from rfl)⟩

/-! ### runs -/
inductive RunR (P : Program) (ops : Array Oper) : List (Nat × Eff) → St → St → Prop
  | nil (s : St) : RunR P ops [] s s
  | cons {i : Nat} {E : Eff} {l : List (Nat × Eff)} {s s' : St} (h : StepR P ops s i E) (ht : RunR P ops l (s.app (dstOf ops i) E) s') : RunR P ops ((i, E) :: l) s s'

theorem RunR.ops_sound {l : List (Nat × Eff)} {s s' : St} (hr : RunR P ops l s s') : ∀ {a : Act} {w : World}, RelE w0 s a w → (∀ a' w', RelE w0 s' a' w' → Q .normal a' w') → wpOps P ops Q (l.map (·.1)) a w := by
  induction hr with
  | nil s => intro a w h hQ; exact hQ _ _ h
  | cons hS _ ih =>
    intro a w h hQ
    rw [List.map_cons, wpOps_cons]
    exact hS.sound h fun a' w' h' => ih h' hQ

def Comm (ops : Array Oper) (p q : Nat × Eff) : Prop :=
  (∃ x y, ops[p.1]? = some x ∧ ops[q.1]? = some y ∧ x.apart ops y = true) ∧ (∀ x ∈ p.2.wr, x.1 ∉ q.2.rd) ∧ (∀ x ∈ q.2.wr, x.1 ∉ p.2.rd)

theorem wrote_ne {b : Nat} : ∀ {wr : List (Nat × Blk)} {hp : List Blk} (h : ∀ x ∈ wr, x.1 ≠ b), (wrote hp wr)[b]? = hp[b]?
  | [], hp, _ => rfl
  | (d, y) :: l, hp, h => by
    simp only [wrote]
    rw [wrote_ne (fun x hx => h x (by simp [hx])), List.getElem?_set_ne (h (d, y) (by simp))]

theorem StepR.wr_rd {i : Nat} {E : Eff} (h : StepR P ops s i E) : ∀ p ∈ E.wr, p.1 ∈ E.rd := by
  obtain ⟨o, _, ⟨_, hR⟩ | ⟨_, rfl⟩⟩ := h
  · exact hR.wr_rd
  · intro p e; cases e

theorem StepR.frame {i : Nat} {E : Eff} (h : StepR P ops s i E) {o : Oper} (ho : ops[i]? = some o) {dst : Option Tmp} {E' : Eff} (hd : ∀ d, dst = some d → d ∉ o.looksAt ops) (hw : ∀ x ∈ E'.wr, x.1 ∉ E.rd) :
    StepR P ops (s.app dst E') i E := by
  obtain ⟨o', ho', h⟩ := h
  rw [ho] at ho'; cases ho'
  refine ⟨o, ho, ?_⟩
  rcases h with ⟨hg, hR⟩ | ⟨hg, rfl⟩
  · exact .inl ⟨by rw [← hg]; exact guardV_put hd, hR.frame (operands_put hd) fun b hb => wrote_ne fun x hx e => hw x hx (e ▸ hb)⟩
  · exact .inr ⟨by rw [← hg]; exact guardV_put hd, rfl⟩
end

end Go.Proofs.Ytmkhglpfhnocaaa.Ev
