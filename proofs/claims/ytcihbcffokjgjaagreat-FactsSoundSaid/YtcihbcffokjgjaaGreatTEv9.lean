/- The evaluator: code and whole functions. The evaluator: code and whole functions: what it returns the model returns. -/
import Derived.Test.YtcihbcffokjgjaaGreatTEv7
import Derived.Scope
namespace Go.Proofs.YtcihbcffokjgjaaGreat.Ev
open Go Go.RowKit
set_option linter.unusedVariables false
set_option linter.unusedSimpArgs false
def PV.names (d : Nat) : PV → Bool
  | .sl b _ _ => b == d
  | _ => false
def TV.names (d : Nat) : TV → Bool
  | .one p => p.names d
  | .pk cs => cs.any (PV.names d)
def V.names (d : Nat) : V → Bool
  | .ptr b _ _ _ => b == d
  | .sl b _ _ => b == d
  | .pk cs => cs.any (PV.names d)
  | .tup l => l.any (TV.names d)
  | _ => false
def Blk.names (d : Nat) : Blk → Bool
  | .own cs => cs.any (V.names d)
  | _ => false
def St.names (s : St) (d : Nat) : Bool := s.tm.any (V.names d) || s.hp.any (Blk.names d)
def makes (o : Oper) : Option Nat :=
  match o.op with
  | .alloc _ | .box .. | .buildSlice .. | .makeSlice .. | .call _ => o.dst
  | _ => none
def reset1 (s : St) (o : Oper) : St :=
  match makes o with
  | none => s
  | some d =>
    match s.hp[d]? with
    | some .none => s
    | none => s
    | some _ => bif s.names d then s else ⟨s.tm, s.hp.set d .none⟩
def enter (ops : Array Oper) (s : St) : St := ops.toList.foldl reset1 s
def enterK {R : Type} : List Oper → St → (St → R) → R
  | [], s, k => k s
  | o :: l, ⟨tm, hp⟩, k =>
    match makes o with
    | none => enterK l ⟨tm, hp⟩ k
    | some d =>
      match hp[d]? with
      | some .none => enterK l ⟨tm, hp⟩ k
      | none => enterK l ⟨tm, hp⟩ k
      | some _ => bif St.names ⟨tm, hp⟩ d then enterK l ⟨tm, hp⟩ k else setK hp d .none fun hp' => enterK l ⟨tm, hp'⟩ k
theorem enterK_eq {R : Type} : ∀ (l : List Oper) (s : St) (k : St → R), enterK l s k = k (l.foldl reset1 s)
  | [], s, k => rfl
  | o :: l, ⟨tm, hp⟩, k => by
    simp only [enterK, List.foldl_cons, reset1]
    cases hm : makes o with
    | none => exact enterK_eq l _ k
    | some d =>
      simp only
      cases hx : hp[d]? with
      | none => exact enterK_eq l _ k
      | some x =>
        have fin : (bif St.names ⟨tm, hp⟩ d then enterK l ⟨tm, hp⟩ k else setK hp d .none fun hp' => enterK l ⟨tm, hp'⟩ k) = k (l.foldl reset1 (bif St.names ⟨tm, hp⟩ d then ⟨tm, hp⟩ else ⟨tm, hp.set d .none⟩)) := by
          cases St.names ⟨tm, hp⟩ d
          · simp only [cond_false, setK_eq]; exact enterK_eq l _ k
          · simp only [cond_true]; exact enterK_eq l _ k
        cases x with
        | none => exact enterK_eq l _ k
        | _ => exact fin
def dropR (ρ : Rho) (d : Nat) : Rho := ⟨fun b => if b = d then none else ρ b, ρ.fz⟩
theorem dropR_other (ρ : Rho) {d b : Nat} (h : b ≠ d) : (dropR ρ d) b = ρ b := by simp [dropR, h]
theorem dropR_same (ρ : Rho) (d : Nat) : (dropR ρ d) d = none := by simp [dropR]
theorem PRel.drop {ρ : Rho} {d : Nat} {p : PV} {x : Value} (hn : p.names d = false) (h : PRel ρ p x) : PRel (dropR ρ d) p x := by
  cases p with
  | val v => exact h
  | tsl l => exact h
  | sl b sz len =>
    have : b ≠ d := by simpa [PV.names] using hn
    obtain ⟨r, h1, h2⟩ := h
    exact ⟨r, by rw [dropR_other _ this]; exact h1, h2⟩
theorem TVRel.drop {ρ : Rho} {d : Nat} {p : TV} {x : Value} (hn : p.names d = false) (h : TVRel ρ p x) : TVRel (dropR ρ d) p x := by
  cases p with
  | one p => exact PRel.drop (p := p) hn h
  | pk cs =>
    obtain ⟨c, h1, h2, h3⟩ := h
    refine ⟨c, h1, h2, fun i p hp => ?_⟩
    obtain ⟨y, hy, hr⟩ := h3 i p hp
    have hm := List.any_eq_false.1 hn _ (List.mem_of_getElem? hp)
    exact ⟨y, hy, hr.drop (by simpa using hm)⟩
theorem VRel.drop {ρ : Rho} {d : Nat} {v : V} {x : Value} (hn : v.names d = false) (h : VRel ρ v x) : VRel (dropR ρ d) v x := by
  cases v with
  | val => exact h
  | unk => trivial
  | gp => exact h
  | tsl l => exact h
  | tp l row fld => exact h
  | pk cs =>
    obtain ⟨c, h1, h2, h3⟩ := h
    refine ⟨c, h1, h2, fun i p hp => ?_⟩
    obtain ⟨y, hy, hr⟩ := h3 i p hp
    have hm := List.any_eq_false.1 hn _ (List.mem_of_getElem? hp)
    exact ⟨y, hy, hr.drop (by simpa using hm)⟩
  | tup l =>
    obtain ⟨c, h1, h2, h3⟩ := h
    refine ⟨c, h1, h2, fun i p hp => ?_⟩
    obtain ⟨y, hy, hr⟩ := h3 i p hp
    have hm := List.any_eq_false.1 hn _ (List.mem_of_getElem? hp)
    exact ⟨y, hy, hr.drop (by simpa using hm)⟩
  | ptr b row sz fld =>
    have : b ≠ d := by simpa [V.names] using hn
    obtain ⟨r, ad, h1, h2⟩ := h
    exact ⟨r, ad, by rw [dropR_other _ this]; exact h1, h2⟩
  | sl b sz len =>
    have : b ≠ d := by simpa [V.names] using hn
    obtain ⟨r, h1, h2⟩ := h
    exact ⟨r, by rw [dropR_other _ this]; exact h1, h2⟩
theorem TRel.drop {ρ : Rho} {d : Nat} {tm : List V} {xs : Array Value} (hn : tm.any (V.names d) = false) (h : TRel ρ tm xs) : TRel (dropR ρ d) tm xs :=
  ⟨h.1, fun i v hv => let ⟨x, hx, hr⟩ := h.2 i v hv; ⟨x, hx, hr.drop (by
    have := List.any_eq_false.1 hn v (List.mem_of_getElem? hv)
    simpa using this)⟩⟩
section
variable {w0 : W0} {s : St} {a : Act} {w : World}
theorem RelE.reset1 (h : RelE w0 s a w) (o : Oper) : RelE w0 (reset1 s o) a w := by
  unfold Ev.reset1
  split
  · exact h
  · rename_i d _
    split
    · exact h
    · exact h
    · rename_i x hx
      cases hn : s.names d with
      | true => exact h
      | false =>
        simp only [cond_false]
        obtain ⟨ρ, h⟩ := h
        unfold St.names at hn
        rw [Bool.or_eq_false_iff] at hn
        have hlen : d < s.hp.length := (List.getElem?_eq_some_iff.1 hx).1
        refine ⟨dropR ρ d, { defers := h.defers, tm := h.tm.drop hn.1, hp := fun b => ?_, sep := ?_, below := h.below, laid := h.laid, fz := h.fz, fzO := h.fzO, fz0 := h.fz0, sepF := fun b r ad ho hr had => ?_ }⟩
        · show BRel _ _ _ b ((s.hp.set d .none).getD b .none)
          rw [getD_set]
          by_cases hb : b = d
          · rw [if_pos ⟨hb, hlen⟩, hb]; exact dropR_same _ _
          · rw [if_neg (fun x => hb x.1)]
            have hB := h.hp b
            cases hq : s.hp.getD b .none with
            | none => rw [hq] at hB; show (dropR ρ d) b = none; rw [dropR_other _ hb]; exact hB
            | gone => trivial
            | own cs =>
              rw [hq] at hB
              obtain ⟨r, k, e, c, h1, h2, hm, h3, h4, h5⟩ := hB
              refine ⟨r, k, e, c, by rw [dropR_other _ hb]; exact h1, h2, hm, h3, h4, h5.drop ?_⟩
              have hin : Blk.own cs ∈ s.hp := by
                rw [← hq]
                have hlt : b < s.hp.length := by
                  rcases Nat.lt_or_ge b s.hp.length with g | g
                  · exact g
                  · simp [List.getD_eq_getElem?_getD, List.getElem?_eq_none g] at hq
                simp [List.getD_eq_getElem?_getD, hlt]
              have := List.any_eq_false.1 hn.2 _ hin
              simpa [Blk.names] using this
            | ext n fs =>
              rw [hq] at hB
              obtain ⟨r, h1, h2⟩ := hB
              exact ⟨r, by rw [dropR_other _ hb]; exact h1, h2⟩
            | grow e n fs =>
              rw [hq] at hB
              obtain ⟨r, xs, h1, h2⟩ := hB
              exact ⟨r, xs, by rw [dropR_other _ hb]; exact h1, h2⟩
            | growK e l =>
              rw [hq] at hB
              obtain ⟨r, xs, h1, h2⟩ := hB
              exact ⟨r, xs, by rw [dropR_other _ hb]; exact h1, h2⟩
            | frz l =>
              rw [hq] at hB
              obtain ⟨r, h1, h2⟩ := hB
              exact ⟨r, by rw [dropR_other _ hb]; exact h1, h2⟩
        · intro b b' r r' ad ad' hbb ho hv hr hr' had had'
          have ho' : ((s.hp.set d .none).getD b .none).isOwn = true := ho
          have hv' : ((s.hp.set d .none).getD b' .none).real := hv
          rw [getD_set] at ho' hv'
          have hb : b ≠ d := fun e => by rw [if_pos ⟨e, hlen⟩] at ho'; cases ho'
          have hb' : b' ≠ d := fun e => by rw [if_pos ⟨e, hlen⟩] at hv'; exact hv'
          rw [if_neg (fun x => hb x.1)] at ho'
          rw [if_neg (fun x => hb' x.1)] at hv'
          rw [dropR_other _ hb] at hr
          rw [dropR_other _ hb'] at hr'
          exact h.sep b b' r r' ad ad' hbb ho' hv' hr hr' had had'
        · have ho' : ((s.hp.set d .none).getD b .none).isOwn = true := ho
          rw [getD_set] at ho'
          have hb : b ≠ d := fun e => by rw [if_pos ⟨e, hlen⟩] at ho'; cases ho'
          rw [if_neg (fun x => hb x.1)] at ho'
          rw [dropR_other _ hb] at hr
          exact h.sepF b r ad ho' hr had
theorem RelE.enter (h : RelE w0 s a w) (ops : Array Oper) : RelE w0 (enter ops s) a w := by
  have : ∀ (l : List Oper) (s : St), RelE w0 s a w → RelE w0 (l.foldl Ev.reset1 s) a w := fun l => by
    induction l with
    | nil => intro s h; exact h
    | cons o l ih => intro s h; exact ih _ (h.reset1 o)
  exact this ops.toList s h
theorem RelE.world (h : RelE w0 s a w) {w' : World} (hb : Below w.heap.size w w') : RelE w0 s a w' := let ⟨ρ, h⟩ := h; ⟨ρ, h.world hb⟩
end
section
variable {R : Type} {P : Program} {cs : List (Kn P)} {w0 : W0} {s : St} {a : Act} {w : World}
theorem region_sound (hm : P.follows .mixedOrders = true) {id : Nat} {ops : Array Oper} {draw : Bool} {k : St → Option R} {r : R} (hok : draw = true → regionOk ops = true)
    (h : opsK P cs draw ops ops.toList 0 [] (enter ops s) k = some r) (hr : RelE w0 s a w) {Q : Exit → Act → World → Prop} (hQ : ∀ s' a' w', RelE w0 s' a' w' → k s' = some r → Q .normal a' w') : (Code.region id ops draw).wp P Q a w := by
  obtain ⟨L, s', h1, h2, h3, h4⟩ := opsK_sound ops.toList 0 [] _ (fun j => by simp) h
  have h2' : L.map (·.1) = List.range ops.size := by rw [h2]; simp [List.range_eq_range']
  cases draw with
  | false =>
    refine wp_region ?_
    rw [← h2']
    exact h1.ops_sound (hr.enter ops) fun a' w' h' => hQ s' a' w' h' h3
  | true =>
    have hok := hok rfl
    obtain ⟨h5, _⟩ := h4 rfl
    have hb : Below w.heap.size w { w with drawn := w.drawn + 1 } := (Below.refl w.heap.size w).drew
    have hlen : L.length = ops.size := by have := congrArg List.length h2'; simpa using this
    refine wp_region_any hm ?_
    have hidx : ∀ q ∈ L, q.1 < ops.size := fun q hq => by
      have : q.1 ∈ List.range ops.size := by rw [← h2']; exact List.mem_map.2 ⟨q, hq, rfl⟩
      simpa using this
    have hso : (L.map (·.1)).Pairwise (· < ·) := by rw [h2']; exact List.pairwise_lt_range
    refine any_of_run (regionOk_edge hok) ops.size L _ s' _ a _ hlen h1 hso (by simp) (fun i => ?_) ?_ ?_ ((hr.enter ops).world hb) fun a' w' h' => hQ s' a' w' h' h3
    · rw [h2', List.mem_range]
      by_cases hi : i < ops.size <;> simp [hi]
    · intro i o ho hl
      by_cases hi : i < ops.size <;> simp [hi] at hl
    · have hp : L.Pairwise (fun p q => p.1 < q.1) := List.pairwise_map.1 hso
      refine List.Pairwise.imp_of_mem (R := fun p q => Touch ops p q ∧ p.1 < q.1) (fun {p q} hpm hqm hpq => ?_) (h5.and hp)
      obtain ⟨ht, hlt⟩ := hpq
      have hqi := hidx q hqm
      rcases ht with ht | ht
      · exact .inl ht
      · rcases regionOk_apart hok hlt (show ops[q.1]? = some ops[q.1] by simp [hqi]) with hw | ⟨x, hx, hap⟩
        · exact .inl hw
        · exact .inr ⟨⟨x, _, hx, by simp [hqi], hap⟩, ht.1, ht.2⟩
end
end Go.Proofs.YtcihbcffokjgjaaGreat.Ev
namespace Go.Proofs.YtcihbcffokjgjaaGreat.Ev
open Go Go.RowKit
set_option linter.unusedVariables false
set_option linter.unusedSimpArgs false
inductive Ex where
  | normal
  | exit (id : Nat)
  | ret
def Ex.out : Ex → Exit
  | .normal => .normal
  | .exit id => .exit id
  | .ret => .ret
def keepT (L : List Nat) : List V → Nat → List V
  | [], _ => []
  | v :: l, i => (bif L.contains i then v else .unk) :: keepT L l (i + 1)
def keepH (L : List Nat) : List Blk → Nat → List Blk
  | [], _ => []
  | x :: l, i => (bif L.contains i then x else .gone) :: keepH L l (i + 1)
structure Keep where
  ts : List Nat
  hs : List Nat
  gr : List (Nat × TypeId × List Fld)
  gk : List (Nat × TypeId) := []
  gc : List (Nat × Nat × Nat × TypeId) := []
def clear (t : Nat) (s : St) : St :=
  match s.hp[t]? with
  | some .none => s
  | none => s
  | some _ => bif s.names t then s else ⟨s.tm, s.hp.set t .none⟩
def moveTo (t b sz n : Nat) (s : St) : St :=
  match s.hp[t]?, s.hp[b]? with
  | some .none, some (.grow e m fs) => ⟨s.tm.set t (.sl t sz n), (s.hp.set t (.grow e m fs)).set b .gone⟩
  | some .none, some (.ext m fs) => ⟨s.tm.set t (.sl t sz n), (s.hp.set t (.ext m fs)).set b .gone⟩
  | some .none, some (.growK e l) => ⟨s.tm.set t (.sl t sz n), (s.hp.set t (.growK e l)).set b .gone⟩
  | some .none, some (.frz l) => ⟨s.tm.set t (.sl t sz n), (s.hp.set t (.frz l)).set b .gone⟩
  | _, _ => s
def nilTo (t : Nat) (e : TypeId) (fs : List Fld) (s : St) : St :=
  match s.hp[t]?, fs with
  | some .none, f :: l => ⟨s.tm.set t (.sl t (f :: l).length 0), s.hp.set t (.grow e 0 (f :: l))⟩
  | _, _ => s
def nilK (t : Nat) (e : TypeId) (s : St) : St :=
  match s.hp[t]? with
  | some .none => ⟨s.tm.set t (.sl t 5 0), s.hp.set t (.growK e [])⟩
  | _ => s
def moveInK (s : St) (g : Nat × TypeId) : St :=
  match s.tm[g.1]? with
  | some (.sl b sz n) => bif b == g.1 then s else moveTo g.1 b sz n (clear g.1 s)
  | some (.val (.slice none 0 0)) => nilK g.1 g.2 (clear g.1 s)
  | _ => s
def moveC (b0 off t : Nat) (e : TypeId) (s : St) : St :=
  match s.hp[b0]?, s.hp[t]? with
  | some (.own cs), some .none =>
    match cs[off]? with
    | some (.sl b sz n) =>
      match s.hp[b]? with
      | some (.growK e' l) => ⟨s.tm, ((s.hp.set t (.growK e' l)).set b .gone).set b0 (.own (cs.set off (.sl t sz n)))⟩
      | _ => s
    | some (.val (.slice none 0 0)) => ⟨s.tm, (s.hp.set t (.growK e [])).set b0 (.own (cs.set off (.sl t 5 0)))⟩
    | _ => s
  | _, _ => s
def moveInC (s : St) (g : Nat × Nat × Nat × TypeId) : St := moveC g.1 g.2.1 g.2.2.1 g.2.2.2 (clear g.2.2.1 s)
def moveIn (s : St) (g : Nat × TypeId × List Fld) : St :=
  match s.tm[g.1]? with
  | some (.sl b sz n) => bif b == g.1 then s else moveTo g.1 b sz n (clear g.1 s)
  | some (.val (.slice none 0 0)) => nilTo g.1 g.2.1 g.2.2 (clear g.1 s)
  | _ => s
def keepTK {R : Type} (L : List Nat) : List V → Nat → (List V → R) → R
  | [], _, k => k []
  | v :: l, i, k => bif L.contains i then keepTK L l (i + 1) fun l' => k (v :: l') else keepTK L l (i + 1) fun l' => k (.unk :: l')
theorem keepTK_eq {R : Type} (L : List Nat) : ∀ (l : List V) (i : Nat) (k : List V → R), keepTK L l i k = k (keepT L l i)
  | [], _, _ => rfl
  | v :: l, i, k => by
    simp only [keepTK, keepT]
    cases L.contains i <;> simp only [cond_true, cond_false, keepTK_eq L l]
def keepHK {R : Type} (L : List Nat) : List Blk → Nat → (List Blk → R) → R
  | [], _, k => k []
  | v :: l, i, k => bif L.contains i then keepHK L l (i + 1) fun l' => k (v :: l') else keepHK L l (i + 1) fun l' => k (.gone :: l')
theorem keepHK_eq {R : Type} (L : List Nat) : ∀ (l : List Blk) (i : Nat) (k : List Blk → R), keepHK L l i k = k (keepH L l i)
  | [], _, _ => rfl
  | v :: l, i, k => by
    simp only [keepHK, keepH]
    cases L.contains i <;> simp only [cond_true, cond_false, keepHK_eq L l]
def keep (L : Option Keep) (s : St) : St :=
  match L with
  | some L =>
    let s' := L.gc.foldl moveInC (L.gk.foldl moveInK (L.gr.foldl moveIn ⟨keepT L.ts s.tm 0, s.hp⟩))
    ⟨s'.tm, keepH L.hs s'.hp 0⟩
  | none => s
def keepK {R : Type} (L : Option Keep) (s : St) (k : St → R) : R :=
  match L with
  | some L =>
    match s with
    | ⟨tm, hp⟩ => keepTK L.ts tm 0 fun tm' =>
      match L.gc.foldl moveInC (L.gk.foldl moveInK (L.gr.foldl moveIn ⟨tm', hp⟩)) with
      | ⟨tm', hp'⟩ => keepHK L.hs hp' 0 fun hp' => k ⟨tm', hp'⟩
  | none => k s
theorem keepK_eq {R : Type} (L : Option Keep) (s : St) (k : St → R) : keepK L s k = k (keep L s) := by
  cases L with
  | none => rfl
  | some L =>
    obtain ⟨tm, hp⟩ := s
    simp only [keepK, keepTK_eq, keepHK_eq, keep]
def firstId : Code → Nat
  | .region id _ _ => id
  | .seq a _ => firstId a
  | .block _ b => firstId b
  | .loop b => firstId b
  | .scope b => firstId b
  | _ => 0
section
variable {R : Type}
def joinK (m : Nat) (f : St → (Ex → St → Option R) → Option R) (s : St) (k : Ex → St → Option R) : Option R :=
  match m with
  | 0 => none
  | _ + 1 => f s k
def seqC (m : Nat) (L : Option Keep) (f : St → (Ex → St → Option R) → Option R) (k : Ex → St → Option R) : Ex → St → Option R := fun e s =>
  match e with
  | .normal =>
    match L with
    | none => f s k
    | some K => keepK (some K) s fun s => joinK m f s k
  | e => k e s
def roundC (L : Option Keep) (f : St → (Ex → St → Option R) → Option R) (k : Ex → St → Option R) : Ex → St → Option R := fun e s =>
  match e with
  | .normal => keepK L s fun s => f s k
  | e => k e s
def blockC (id : Nat) (k : Ex → St → Option R) : Ex → St → Option R := fun e s =>
  match e with
  | .exit id' => bif id' == id then k .normal s else k (.exit id') s
  | e => k e s
def loopK (f : St → (Ex → St → Option R) → Option R) (L : Option Keep) : Nat → St → (Ex → St → Option R) → Option R
  | 0, _, _ => none
  | n + 1, s, k => f s (roundC L (loopK f L n) k)
def codeK (P : Program) (cs : List (Kn P)) (live : Nat → Option Keep) (fuel : Nat) : Code → St → (Ex → St → Option R) → Option R
  | .skip, s, k => k .normal s
  | .label _, s, k => k .normal s
  | .region _ ops draw, s, k => bif draw && !regionOk ops then none else enterK ops.toList s fun s => opsK P cs draw ops ops.toList 0 [] s fun s' => k .normal s'
  | .seq a b, s, k => codeK P cs live fuel a s (seqC fuel (live (2 * firstId b)) (codeK P cs live fuel b) k)
  | .cond c x y, s, k =>
    match c with
    | .tmp t =>
      match s.tm[t]? with
      | some (.val (.bool b)) => bif b then tmK s t true fun s => codeK P cs live fuel x s k else tmK s t false fun s => codeK P cs live fuel y s k
      | _ => none
    | .const (.bool b) => bif b then codeK P cs live fuel x s k else codeK P cs live fuel y s k
    | _ => none
  | .block id c, s, k => codeK P cs live fuel c s (blockC id k)
  | .loop c, s, k => keepK (live (2 * firstId c + 1)) s fun s => loopK (codeK P cs live fuel c) (live (2 * firstId c + 1)) fuel s k
  | .exit id, s, k => k (.exit id) s
  | .ret, s, k => k .ret s
  | .scope c, s, k => codeK P cs live fuel c s k
  | _, _, _ => none
def Post (w0 : W0) (k : Ex → St → Option R) (r : R) : Exit → Act → World → Prop := fun e a' w' => ∃ ex s', ex.out = e ∧ RelE w0 s' a' w' ∧ k ex s' = some r
theorem keepT_get (L : List Nat) : ∀ (l : List V) (i j : Nat) (v : V), (keepT L l i)[j]? = some v → v = .unk ∨ l[j]? = some v
  | [], i, j, v, h => by simp [keepT] at h
  | u :: l, i, 0, v, h => by
    simp only [keepT, List.getElem?_cons_zero, Option.some.injEq] at h
    cases hc : L.contains i <;> rw [hc] at h
    · exact .inl h.symm
    · exact .inr (by simpa using h)
  | u :: l, i, j + 1, v, h => by
    simp only [keepT, List.getElem?_cons_succ] at h ⊢
    exact keepT_get L l (i + 1) j v h
theorem keepT_length (L : List Nat) : ∀ (l : List V) (i : Nat), (keepT L l i).length = l.length
  | [], i => rfl
  | u :: l, i => by simp [keepT, keepT_length L l (i + 1)]
theorem keepH_get (L : List Nat) : ∀ (l : List Blk) (i j : Nat), (keepH L l i).getD j .none = l.getD j .none ∨ (keepH L l i).getD j .none = .gone
  | [], i, j => .inl rfl
  | u :: l, i, 0 => by
    simp only [keepH, List.getD_cons_zero]
    cases hc : L.contains i
    · exact .inr rfl
    · exact .inl rfl
  | u :: l, i, j + 1 => by
    simp only [keepH, List.getD_cons_succ]
    exact keepH_get L l (i + 1) j
variable {P : Program} {cs : List (Kn P)} {w0 : W0} {s : St} {a : Act} {w : World}
theorem RelE.keepT (h : RelE w0 s a w) (L : List Nat) : RelE w0 ⟨keepT L s.tm 0, s.hp⟩ a w := by
  obtain ⟨ρ, h⟩ := h
  refine ⟨ρ, { h with tm := ⟨by rw [← h.tm.1]; exact keepT_length L _ _, fun i v hv => ?_⟩ }⟩
  have hv' : (Ev.keepT L s.tm 0)[i]? = some v := hv
  rcases keepT_get L s.tm 0 i v hv' with rfl | h1
  · have hlt : i < s.tm.length := by
      have := (List.getElem?_eq_some_iff.1 hv').1
      rwa [keepT_length] at this
    obtain ⟨x, hx, _⟩ := h.tm.2 i s.tm[i] (by simp [hlt])
    exact ⟨x, hx, trivial⟩
  · exact h.tm.2 i v h1
theorem RelE.keepH (h : RelE w0 s a w) (L : List Nat) : RelE w0 ⟨s.tm, keepH L s.hp 0⟩ a w := by
  obtain ⟨ρ, h⟩ := h
  refine ⟨ρ, { h with hp := fun b => ?_, sep := ?_, sepF := fun b r ad ho => ?_ }⟩
  · show BRel _ _ _ b ((Ev.keepH L s.hp 0).getD b .none)
    rcases keepH_get L s.hp 0 b with h1 | h1
    · rw [h1]; exact h.hp b
    · rw [h1]; trivial
  · intro b b' r r' ad ad' hbb ho hv
    have ho' : ((Ev.keepH L s.hp 0).getD b .none).isOwn = true := ho
    have hv' : ((Ev.keepH L s.hp 0).getD b' .none).real := hv
    refine h.sep b b' r r' ad ad' hbb ?_ ?_
    · rcases keepH_get L s.hp 0 b with h1 | h1
      · rw [h1] at ho'; exact ho'
      · rw [h1] at ho'; cases ho'
    · rcases keepH_get L s.hp 0 b' with h1 | h1
      · rw [h1] at hv'; exact hv'
      · rw [h1] at hv'; exact hv'.elim
  · have ho' : ((Ev.keepH L s.hp 0).getD b .none).isOwn = true := ho
    refine h.sepF b r ad ?_
    rcases keepH_get L s.hp 0 b with h1 | h1
    · rw [h1] at ho'; exact ho'
    · rw [h1] at ho'; cases ho'
theorem RelE.clear (h : RelE w0 s a w) (t : Nat) : RelE w0 (clear t s) a w := by
  have := h.reset1 { dst := some t, op := .alloc 0, type := 0, pos := "", after := #[], guard := none }
  unfold Ev.reset1 makes at this
  unfold Ev.clear
  exact this
theorem clear_tm (t : Nat) (s : St) : (clear t s).tm = s.tm := by
  unfold clear
  split <;> first | rfl | skip
  cases s.names t <;> rfl
theorem TRel.set_same {ρ : Rho} {tm : List V} {xs : Array Value} (h : TRel ρ tm xs) {t : Nat} {x : Value} (hx : xs[t]? = some x) {v : V} (hv : VRel ρ v x) : TRel ρ (tm.set t v) xs := by
  refine ⟨by simp [h.1], fun i u hu => ?_⟩
  rw [List.getElem?_set] at hu
  split at hu
  · rename_i e; subst e
    split at hu
    · cases hu; exact ⟨x, hx, hv⟩
    · cases hu
  · exact h.2 i u hu
theorem RelE.moveTo (h : RelE w0 s a w) {t b sz n : Nat} (hne : b ≠ t) (ht : s.tm[t]? = some (.sl b sz n)) : RelE w0 (moveTo t b sz n s) a w := by
  unfold Ev.moveTo
  have key : ∀ x : Blk, s.hp[t]? = some .none → s.hp[b]? = some x → x.live = true → RelE w0 ⟨s.tm.set t (.sl t sz n), (s.hp.set t x).set b .gone⟩ a w := fun x h1 h2 hlive => by
    obtain ⟨ρ, h⟩ := h
    have hgb : s.hp.getD b .none = x := by simp [List.getD_eq_getElem?_getD, h2]
    have hgt : s.hp.getD t .none = .none := by simp [List.getD_eq_getElem?_getD, h1]
    have hn : ρ t = none := by have := h.hp t; rw [hgt] at this; exact this
    have hB := h.hp b
    rw [hgb] at hB
    obtain ⟨r0, hr0⟩ := hB.bound hlive
    have hl := leR_upd (r := r0) hn
    have hx : BRel (updR ρ t r0) w0.heap.size w t x := by
      cases x with
      | none => cases hlive
      | gone => cases hlive
      | own cs =>
        obtain ⟨r, k, e, c, g1, g2, gm, g3, g4, g5⟩ := hB
        rw [hr0] at g1; cases g1
        exact ⟨r0, k, e, c, updR_same _ _ _, g2, gm, g3, g4, g5.mono hl⟩
      | ext m fs =>
        obtain ⟨r, g1, g2⟩ := hB
        rw [hr0] at g1; cases g1
        exact ⟨r0, updR_same _ _ _, g2⟩
      | grow e m fs =>
        obtain ⟨r, xs, g1, g2⟩ := hB
        rw [hr0] at g1; cases g1
        exact ⟨r0, xs, updR_same _ _ _, g2⟩
      | growK e m =>
        obtain ⟨r, xs, g1, g2⟩ := hB
        rw [hr0] at g1; cases g1
        exact ⟨r0, xs, updR_same _ _ _, g2⟩
      | frz m =>
        obtain ⟨r, g1, g2⟩ := hB
        rw [hr0] at g1; cases g1
        exact ⟨r0, updR_same _ _ _, g2⟩
    obtain ⟨hl, hr⟩ := h.rebind h1 (List.getElem?_eq_some_iff.1 h2).1 hne hr0 hx (fun ho => by rw [hgb]; exact ho) (fun ho => by rw [hgb]; exact ho) (Below.refl _ _) (fun _ _ _ => rfl) (fun ad had _ => .inl ⟨ad, had, rfl⟩)
    obtain ⟨y, hy, hyr⟩ := h.tm.2 t _ ht
    obtain ⟨r, hr1, hlim, hye⟩ := hyr
    rw [hr0] at hr1; cases hr1
    exact ⟨_, { hr with tm := hr.tm.set_same hy (show VRel _ (.sl t sz n) y from ⟨r0, updR_same _ _ _, hlim, hye⟩) }⟩
  split
  · rename_i e m fs h1 h2; exact key _ h1 h2 rfl
  · rename_i m fs h1 h2; exact key _ h1 h2 rfl
  · rename_i e l h1 h2; exact key _ h1 h2 rfl
  · rename_i l h1 h2; exact key _ h1 h2 rfl
  · exact h
theorem RelE.nilTo (h : RelE w0 s a w) {t : Nat} (e : TypeId) (fs : List Fld) (ht : s.tm[t]? = some (.val (.slice none 0 0))) : RelE w0 (nilTo t e fs s) a w := by
  unfold Ev.nilTo
  split
  · rename_i f l h1
    obtain ⟨ρ, h⟩ := h
    obtain ⟨hl, hr⟩ := h.newSlot h1 (Below.refl _ _) ⟨none, 0, some 0⟩ (.grow e 0 (f :: l)) ⟨_, [], updR_same _ _ _, rfl, by simp, World.ownsRow_nil _ _ _ _, fun i hi => absurd hi (Nat.not_lt_zero _)⟩ (fun ad had => by cases had)
    obtain ⟨y, hy, hyr⟩ := h.tm.2 t _ ht
    have hyr' : y = .slice none 0 0 := hyr
    exact ⟨_, { hr with tm := hr.tm.set_same hy (show VRel _ (.sl t (f :: l).length 0) y from ⟨_, updR_same _ _ _, fun n hn => (by cases hn; rfl), hyr'⟩) }⟩
  · exact h
theorem RelE.nilK (h : RelE w0 s a w) {t : Nat} (e : TypeId) (ht : s.tm[t]? = some (.val (.slice none 0 0))) : RelE w0 (nilK t e s) a w := by
  unfold Ev.nilK
  split
  · rename_i h1
    obtain ⟨ρ, h⟩ := h
    obtain ⟨hl, hr⟩ := h.newSlot h1 (Below.refl _ _) ⟨none, 0, some 0⟩ (.growK e []) ⟨_, [], updR_same _ _ _, rfl, World.ownsRow_nil _ _ _ _, fun i t hi => by simp at hi⟩ (fun ad had => by cases had)
    obtain ⟨y, hy, hyr⟩ := h.tm.2 t _ ht
    have hyr' : y = .slice none 0 0 := hyr
    exact ⟨_, { hr with tm := hr.tm.set_same hy (show VRel _ (.sl t 5 0) y from ⟨_, updR_same _ _ _, fun n hn => (by cases hn; rfl), hyr'⟩) }⟩
  · exact h
theorem RelE.moveInK (h : RelE w0 s a w) (g : Nat × TypeId) : RelE w0 (moveInK s g) a w := by
  unfold Ev.moveInK
  split
  · rename_i b sz n ht
    by_cases hb : b = g.1
    · rw [show (b == g.1) = true by simpa using hb]; exact h
    · rw [show (b == g.1) = false by simpa using hb]
      exact (h.clear g.1).moveTo hb (by rw [clear_tm]; exact ht)
  · rename_i ht
    exact (h.clear g.1).nilK _ (by rw [clear_tm]; exact ht)
  · exact h
theorem Rel.cell {ρ : Rho} (h : Rel ρ w0 s a w) {b0 off : Nat} {cs : List V} {v v' : V} (h0 : s.hp[b0]? = some (.own cs)) (hc : cs[off]? = some v) (hv : ∀ x, VRel ρ v x → VRel ρ v' x) : Rel ρ w0 { s with hp := s.hp.set b0 (.own (cs.set off v')) } a w := by
  have hlen : b0 < s.hp.length := (List.getElem?_eq_some_iff.1 h0).1
  have hg0 : s.hp.getD b0 .none = .own cs := by simp [List.getD_eq_getElem?_getD, h0]
  have own' : ∀ q, ((s.hp.set b0 (.own (cs.set off v'))).getD q .none).isOwn = true → (s.hp.getD q .none).isOwn = true := fun q hq => by
    rw [getD_set] at hq
    split at hq
    · rename_i hn; rw [hn.1, hg0]; rfl
    · exact hq
  have real' : ∀ q, ((s.hp.set b0 (.own (cs.set off v'))).getD q .none).real → (s.hp.getD q .none).real := fun q hq => by
    rw [getD_set] at hq
    split at hq
    · rename_i hn; rw [hn.1, hg0]; trivial
    · exact hq
  refine { h with hp := fun q => ?_, sep := fun p q r1 r2 ad ad' hpq ho' hv e1 e2 e3 e4 => h.sep p q r1 r2 ad ad' hpq (own' p ho') (real' q hv) e1 e2 e3 e4, sepF := fun q r' ad ho' => h.sepF q r' ad (own' q ho') }
  show BRel _ _ _ q ((s.hp.set b0 (.own (cs.set off v'))).getD q .none)
  rw [getD_set]
  split
  · rename_i hq; obtain ⟨rfl, _⟩ := hq
    have hB := h.hp q
    rw [hg0] at hB
    obtain ⟨r, k, e, c, h1, h2, hm, h3, h4, h5⟩ := hB
    refine ⟨r, k, e, c, h1, h2, hm, h3, h4, by simp [h5.1], fun i u hu => ?_⟩
    rw [List.getElem?_set] at hu
    split at hu
    · rename_i e; subst e
      split at hu
      · cases hu
        obtain ⟨x, hx, hxr⟩ := h5.2 off _ hc
        exact ⟨x, hx, hv x hxr⟩
      · cases hu
    · exact h5.2 i u hu
  · exact h.hp q
theorem RelE.moveC (h : RelE w0 s a w) (b0 off t : Nat) (e : TypeId) : RelE w0 (moveC b0 off t e s) a w := by
  unfold Ev.moveC
  split
  · rename_i cs h0 ht
    have hne : b0 ≠ t := fun e => by subst e; rw [h0] at ht; cases ht
    split
    · rename_i b sz n hc
      split
      · rename_i e' l hb
        obtain ⟨ρ, h⟩ := h
        have hbt : b ≠ t := fun e => by subst e; rw [hb] at ht; cases ht
        have hb0 : b ≠ b0 := fun e => by subst e; rw [hb] at h0; cases h0
        have hgb : s.hp.getD b .none = .growK e' l := by simp [List.getD_eq_getElem?_getD, hb]
        have hgt : s.hp.getD t .none = .none := by simp [List.getD_eq_getElem?_getD, ht]
        have hn : ρ t = none := by have := h.hp t; rw [hgt] at this; exact this
        have hB := h.hp b
        rw [hgb] at hB
        obtain ⟨r0, xs, hr0, g2⟩ := hB
        obtain ⟨hl, hr⟩ := h.rebind (r := r0) (x := .growK e' l) (w' := w) ht (List.getElem?_eq_some_iff.1 hb).1 hbt hr0 ⟨r0, xs, updR_same _ _ _, g2⟩ (fun ho => by rw [hgb]; exact ho) (fun ho => by rw [hgb]; exact ho) (Below.refl _ _) (fun _ _ _ => rfl) (fun ad had _ => .inl ⟨ad, had, rfl⟩)
        refine ⟨_, hr.cell (s := ⟨s.tm, (s.hp.set t (.growK e' l)).set b .gone⟩) (v := .sl b sz n) (v' := .sl t sz n) (by
          show ((s.hp.set t (.growK e' l)).set b .gone)[b0]? = _
          rw [List.getElem?_set_ne hb0, List.getElem?_set_ne (Ne.symm hne)]; exact h0) hc fun x hx => ?_⟩
        obtain ⟨r, e1, e2, e3⟩ := hx
        rw [updR_other _ _ hbt, hr0] at e1
        cases e1
        exact ⟨r0, updR_same _ _ _, e2, e3⟩
      · exact h
    · rename_i hc
      obtain ⟨ρ, h⟩ := h
      obtain ⟨hl, hr⟩ := h.newSlot ht (Below.refl _ _) ⟨none, 0, some 0⟩ (.growK e []) ⟨_, [], updR_same _ _ _, rfl, World.ownsRow_nil _ _ _ _, fun i t hi => by simp at hi⟩ (fun ad had => by cases had)
      refine ⟨_, hr.cell (s := ⟨s.tm, s.hp.set t (.growK e [])⟩) (v := .val (.slice none 0 0)) (v' := .sl t 5 0) (by
        show (s.hp.set t (.growK e []))[b0]? = _
        rw [List.getElem?_set_ne (Ne.symm hne)]; exact h0) hc fun x hx => ?_⟩
      have hx' : x = .slice none 0 0 := hx
      exact ⟨_, updR_same _ _ _, fun n hn => (by cases hn; rfl), hx'⟩
    · exact h
  · exact h
theorem RelE.moveIn (h : RelE w0 s a w) (g : Nat × TypeId × List Fld) : RelE w0 (moveIn s g) a w := by
  unfold Ev.moveIn
  split
  · rename_i b sz n ht
    by_cases hb : b = g.1
    · rw [show (b == g.1) = true by simpa using hb]; exact h
    · rw [show (b == g.1) = false by simpa using hb]
      exact (h.clear g.1).moveTo hb (by rw [clear_tm]; exact ht)
  · rename_i ht
    exact (h.clear g.1).nilTo _ _ (by rw [clear_tm]; exact ht)
  · exact h
theorem RelE.keep (h : RelE w0 s a w) (L : Option Keep) : RelE w0 (keep L s) a w := by
  cases L with
  | none => exact h
  | some L =>
    have : ∀ (l : List (Nat × TypeId × List Fld)) (s : St), RelE w0 s a w → RelE w0 (l.foldl Ev.moveIn s) a w := fun l => by
      induction l with
      | nil => intro s h; exact h
      | cons g l ih => intro s h; exact ih _ (h.moveIn g)
    have hK : ∀ (l : List (Nat × TypeId)) (s : St), RelE w0 s a w → RelE w0 (l.foldl Ev.moveInK s) a w := fun l => by
      induction l with
      | nil => intro s h; exact h
      | cons g l ih => intro s h; exact ih _ (h.moveInK g)
    have hC : ∀ (l : List (Nat × Nat × Nat × TypeId)) (s : St), RelE w0 s a w → RelE w0 (l.foldl Ev.moveInC s) a w := fun l => by
      induction l with
      | nil => intro s h; exact h
      | cons g l ih => intro s h; exact ih _ ((h.clear g.2.2.1).moveC _ _ _ _)
    exact (hC L.gc _ (hK L.gk _ (this L.gr _ (h.keepT L.ts)))).keepH L.hs
theorem loop_sound {c : Code} {f : St → (Ex → St → Option R) → Option R} (hf : ∀ (s : St) (k : Ex → St → Option R) (r : R) (a : Act) (w : World), f s k = some r → RelE w0 s a w → c.wp P (Post w0 k r) a w) (L : Option Keep) {k : Ex → St → Option R} {r : R} :
    ∀ (n : Nat) (s : St) (a : Act) (w : World), loopK f L n s k = some r → RelE w0 s a w → ∀ (b : Frame) (kk : List Item) (cs : List Frame),
      ∃ e a' w', Post w0 k r e a' w' ∧ Arrives P (lone (b.at a (.code c :: .inLoop c :: kk)) cs w) b kk cs e a' w'
  | 0, s, a, w, h, _, _, _, _ => by cases h
  | n + 1, s, a, w, h, hr, b, kk, cs => by
    obtain ⟨e, a₁, w₁, ⟨ex, s₁, rfl, hrel, hk⟩, harr⟩ := hf _ _ _ a w h hr b (.inLoop c :: kk) cs
    cases ex with
    | normal =>
      simp only [roundC, keepK_eq] at hk
      obtain ⟨e₂, a₂, w₂, hq₂, harr₂⟩ := loop_sound hf L n _ a₁ w₁ hk (hrel.keep L) b kk cs
      exact ⟨e₂, a₂, w₂, hq₂, .of_steps (Steps.trans harr (.one step_inLoop)) harr₂⟩
    | exit id => exact ⟨_, a₁, w₁, ⟨.exit id, s₁, rfl, hrel, hk⟩, .pass (x := .inLoop c) rfl (fun _ _ => .inl (by simp [Ex.out])) harr⟩
    | ret => exact ⟨_, a₁, w₁, ⟨.ret, s₁, rfl, hrel, hk⟩, .pass (x := .inLoop c) rfl (fun _ _ => .inl (by simp [Ex.out])) harr⟩
theorem code_sound (hm : P.follows .mixedOrders = true) {live : Nat → Option Keep} {fuel : Nat} : ∀ (c : Code) (s : St) (k : Ex → St → Option R) (r : R) (a : Act) (w : World),
    codeK P cs live fuel c s k = some r → RelE w0 s a w → c.wp P (Post w0 k r) a w
  | .skip, s, k, r, a, w, h, hr => wp_skip ⟨.normal, s, rfl, hr, h⟩
  | .label _, s, k, r, a, w, h, hr => wp_label ⟨.normal, s, rfl, hr, h⟩
  | .region id ops draw, s, k, r, a, w, h, hr => by
    simp only [codeK] at h
    obtain ⟨hd, h⟩ := bif_none h
    rw [enterK_eq] at h
    refine region_sound hm (fun e => ?_) h hr fun s' a' w' h' hk => ⟨.normal, s', rfl, h', hk⟩
    subst e
    simpa using hd
  | .seq x y, s, k, r, a, w, h, hr => by
    simp only [codeK] at h
    refine wp_seq (wp_mono (code_sound hm x s _ r a w h hr) fun e a' w' ⟨ex, s', he, h', hk⟩ => ?_)
    subst he
    cases ex with
    | normal =>
      simp only [seqC] at hk
      split at hk
      · exact code_sound hm y _ k r a' w' hk h'
      · rw [keepK_eq] at hk
        cases fuel with
        | zero => cases hk
        | succ m => exact code_sound hm y _ k r a' w' hk (h'.keep _)
    | exit id => exact ⟨.exit id, s', rfl, h', hk⟩
    | ret => exact ⟨.ret, s', rfl, h', hk⟩
  | .cond c x y, s, k, r, a, w, h, hr => by
    simp only [codeK, tmK_eq] at h
    split at h
    · rename_i t
      split at h
      · rename_i b hb
        have hself : ∀ c, c = b → s.tm.set t (.val (.bool c)) = s.tm := fun c e => by subst e; exact set_self hb
        have hev : a.eval (.tmp t) = .bool b := by
          obtain ⟨ρ, hr⟩ := hr
          refine eval_val hr ?_
          simp [evV, List.getD_eq_getElem?_getD, hb]
        cases b with
        | true =>
          simp only [cond_true, hself true rfl] at h
          exact wp_cond_true hev (code_sound hm x s k r a w h hr)
        | false =>
          simp only [cond_false, hself false rfl] at h
          exact wp_cond_false hev (code_sound hm y s k r a w h hr)
      · cases h
    · rename_i b
      cases b with
      | true => exact wp_cond_true rfl (code_sound hm x s k r a w h hr)
      | false => exact wp_cond_false rfl (code_sound hm y s k r a w h hr)
    · cases h
  | .block id c, s, k, r, a, w, h, hr => by
    simp only [codeK] at h
    refine wp_block (wp_mono (code_sound hm c s _ r a w h hr) fun e a' w' ⟨ex, s', he, h', hk⟩ => ?_)
    subst he
    cases ex with
    | normal => exact ⟨.normal, s', rfl, h', hk⟩
    | ret => exact ⟨.ret, s', rfl, h', hk⟩
    | exit id' =>
      simp only [Ex.out, Exit.inBlock]
      simp only [blockC] at hk
      by_cases hi : id' = id
      · subst hi
        simp only [beq_self_eq_true, cond_true] at hk
        rw [if_pos rfl]
        exact ⟨.normal, s', rfl, h', hk⟩
      · rw [show (id' == id) = false by simpa using hi] at hk
        rw [if_neg hi]
        exact ⟨.exit id', s', rfl, h', hk⟩
  | .loop c, s, k, r, a, w, h, hr => by
    simp only [codeK, keepK_eq] at h
    intro b kk cs'
    obtain ⟨e, a', w', hq, harr⟩ := loop_sound (P := P) (w0 := w0) (fun s k r a w => code_sound hm c s k r a w) (live (2 * firstId c + 1)) fuel _ a w h (hr.keep _) b kk cs'
    exact ⟨e, a', w', hq, .of_steps (.one step_loop) harr⟩
  | .exit id, s, k, r, a, w, h, hr => wp_exit ⟨.exit id, s, rfl, hr, h⟩
  | .ret, s, k, r, a, w, h, hr => wp_ret ⟨.ret, s, rfl, hr, h⟩
  | .rangeFunc .., s, k, r, a, w, h, hr => by simp [codeK] at h
  | .scope c, s, k, r, a, w, h, hr => by
    simp only [codeK] at h
    refine wp_scope_straight (wp_mono (code_sound hm c s k r a w h hr) fun e a' w' ⟨ex, s', he, h', hk⟩ => ?_)
    subst he
    cases ex with
    | normal => exact ⟨.normal, s', rfl, h', hk⟩
    | exit id => exact ⟨.exit id, s', rfl, h', hk⟩
    | ret => exact ⟨.ret, s', rfl, h', hk⟩
  | .goto _, s, k, r, a, w, h, hr => by simp [codeK] at h
  | .refuse _, s, k, r, a, w, h, hr => by simp [codeK] at h
end
end Go.Proofs.YtcihbcffokjgjaaGreat.Ev
