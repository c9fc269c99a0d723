/- The evaluator: code and whole functions. -/
import Derived.Test.YtkmehmlcccdnbaaDoorEv7
namespace Go.Proofs.YtkmehmlcccdnbaaDoor.Ev
open Go Go.RowKit
set_option linter.unusedVariables false
set_option linter.unusedSimpArgs false

/-! ### slots that are used again -/
def PV.names (d : Nat) : PV → Bool
  | .sl b _ _ => b == d
  | _ => false
def TV.names (d : Nat) : TV → Bool
  | .one p => p.names d
  | .pk cs => cs.any (PV.names d)
def V.names (d : Nat) : V → Bool
  | .ptr b _ _ _ => b == d
  | .sl b _ _ => b == d
  | .clo _ b => b == d
  | .pk cs => cs.any (PV.names d)
  | .tup l => l.any (TV.names d)
  | _ => false
def Blk.names (d : Nat) : Blk → Bool
  | .own cs => cs.any (V.names d)
  | .ro cs => cs.any (V.names d)
  | _ => false
def St.names (s : St) (d : Nat) : Bool := s.tm.any (V.names d) || s.hp.any (Blk.names d)
def makes (o : Oper) : Option Nat :=
  match o.op with
  | .alloc _ | .box .. | .buildSlice .. | .makeSlice .. | .slice .. | .call _ => o.dst
  | _ => none
def reset1 (s : St) (o : Oper) : St :=
  match makes o with
  | none => s
  | some d =>
    match s.hp[d]? with
    | some .none => s
    | none => s
    | some _ => bif s.names d then s else ⟨s.tm, s.hp.set d .none⟩
def enter (ops : Array Oper) (s : St) : St := ops.toList.foldl reset1 s
/-- .. the slots written out at once. -/
def enterK {R : Type} : List Oper → St → (St → R) → R
  | [], s, k => k s
  | o :: l, ⟨tm, hp⟩, k =>
    match makes o with
    | none => enterK l ⟨tm, hp⟩ k
    | some d =>
      match hp[d]? with
      | some .none => enterK l ⟨tm, hp⟩ k
      | none => enterK l ⟨tm, hp⟩ k
      | some _ => bif St.names ⟨tm, hp⟩ d then enterK l ⟨tm, hp⟩ k else setK hp d .none fun hp' => enterK l ⟨tm, hp'⟩ k
theorem enterK_eq {R : Type} : ∀ (l : List Oper) (s : St) (k : St → R), enterK l s k = k (l.foldl reset1 s)
  | [], s, k => rfl
  | o :: l, ⟨tm, hp⟩, k => by
    simp only [enterK, List.foldl_cons, reset1]
    cases hm : makes o with
    | none => exact enterK_eq l _ k
    | some d =>
      simp only
      cases hx : hp[d]? with
      | none => exact enterK_eq l _ k
      | some x =>
        have fin : (bif St.names ⟨tm, hp⟩ d then enterK l ⟨tm, hp⟩ k else setK hp d .none fun hp' => enterK l ⟨tm, hp'⟩ k) = k (l.foldl reset1 (bif St.names ⟨tm, hp⟩ d then ⟨tm, hp⟩ else ⟨tm, hp.set d .none⟩)) := by
          cases St.names ⟨tm, hp⟩ d
          · simp only [cond_false, setK_eq]; exact enterK_eq l _ k
          · simp only [cond_true]; exact enterK_eq l _ k
        cases x with
        | none => exact enterK_eq l _ k
        | _ => exact fin

def dropR (ρ : Rho) (d : Nat) : Rho := ⟨fun b => if b = d then none else ρ b, ρ.fz⟩
theorem dropR_other (ρ : Rho) {d b : Nat} (h : b ≠ d) : (dropR ρ d) b = ρ b := by simp [dropR, h]
theorem dropR_same (ρ : Rho) (d : Nat) : (dropR ρ d) d = none := by simp [dropR]
theorem PRel.drop {ρ : Rho} {d : Nat} {p : PV} {x : Value} (hn : p.names d = false) (h : PRel ρ p x) : PRel (dropR ρ d) p x := by
  cases p with
  | val v => exact h
  | tsl dp l => exact h
  | sl b sz len =>
    have : b ≠ d := by simpa [PV.names] using hn
    obtain ⟨r, h1, h2⟩ := h
    exact ⟨r, by rw [dropR_other _ this]; exact h1, h2⟩
theorem TVRel.drop {ρ : Rho} {d : Nat} {p : TV} {x : Value} (hn : p.names d = false) (h : TVRel ρ p x) : TVRel (dropR ρ d) p x := by
  cases p with
  | one p => exact PRel.drop (p := p) hn h
  | pk cs =>
    obtain ⟨c, h1, h2, h3⟩ := h
    refine ⟨c, h1, h2, fun i p hp => ?_⟩
    obtain ⟨y, hy, hr⟩ := h3 i p hp
    have hm := List.any_eq_false.1 hn _ (List.mem_of_getElem? hp)
    exact ⟨y, hy, hr.drop (by simpa using hm)⟩
theorem VRel.drop {ρ : Rho} {d : Nat} {v : V} {x : Value} (hn : v.names d = false) (h : VRel ρ v x) : VRel (dropR ρ d) v x := by
  cases v with
  | val => exact h
  | unk => trivial
  | gp => exact h
  | tsl dp l => exact h
  | tp dp l row fld => exact h
  | pk cs =>
    obtain ⟨c, h1, h2, h3⟩ := h
    refine ⟨c, h1, h2, fun i p hp => ?_⟩
    obtain ⟨y, hy, hr⟩ := h3 i p hp
    have hm := List.any_eq_false.1 hn _ (List.mem_of_getElem? hp)
    exact ⟨y, hy, hr.drop (by simpa using hm)⟩
  | tup l =>
    obtain ⟨c, h1, h2, h3⟩ := h
    refine ⟨c, h1, h2, fun i p hp => ?_⟩
    obtain ⟨y, hy, hr⟩ := h3 i p hp
    have hm := List.any_eq_false.1 hn _ (List.mem_of_getElem? hp)
    exact ⟨y, hy, hr.drop (by simpa using hm)⟩
  | clo f b =>
    have : b ≠ d := by simpa [V.names] using hn
    obtain ⟨r, ad, h1, h2⟩ := h
    exact ⟨r, ad, by rw [dropR_other _ this]; exact h1, h2⟩
  | ptr b row sz fld =>
    have : b ≠ d := by simpa [V.names] using hn
    obtain ⟨r, ad, h1, h2⟩ := h
    exact ⟨r, ad, by rw [dropR_other _ this]; exact h1, h2⟩
  | sl b sz len =>
    have : b ≠ d := by simpa [V.names] using hn
    obtain ⟨r, h1, h2⟩ := h
    exact ⟨r, by rw [dropR_other _ this]; exact h1, h2⟩
theorem TRel.drop {ρ : Rho} {d : Nat} {tm : List V} {xs : Array Value} (hn : tm.any (V.names d) = false) (h : TRel ρ tm xs) : TRel (dropR ρ d) tm xs :=
  ⟨h.1, fun i v hv => let ⟨x, hx, hr⟩ := h.2 i v hv; ⟨x, hx, hr.drop (by
    have := List.any_eq_false.1 hn v (List.mem_of_getElem? hv)
    simpa using this)⟩⟩

section
variable {w0 : W0} {s : St} {a : Act} {w : World}
theorem RelE.reset1 (h : RelE w0 s a w) (o : Oper) : RelE w0 (reset1 s o) a w := by
  unfold Ev.reset1
  split
  · exact h
  · rename_i d _
    split
    · exact h
    · exact h
    · rename_i x hx
      cases hn : s.names d with
      | true => exact h
      | false =>
        simp only [cond_false]
        obtain ⟨ρ, h⟩ := h
        unfold St.names at hn
        rw [Bool.or_eq_false_iff] at hn
        have hlen : d < s.hp.length := (List.getElem?_eq_some_iff.1 hx).1
        refine ⟨dropR ρ d, { defers := h.defers, tm := h.tm.drop hn.1, hp := fun b => ?_, sep := ?_, below := h.below, laid := h.laid, fz := h.fz, fzO := h.fzO, fz0 := h.fz0, sepF := fun b r ad ho hr had => ?_ }⟩
        · show BRel _ _ _ b ((s.hp.set d .none).getD b .none)
          rw [getD_set]
          by_cases hb : b = d
          · rw [if_pos ⟨hb, hlen⟩, hb]; exact dropR_same _ _
          · rw [if_neg (fun x => hb x.1)]
            have hB := h.hp b
            cases hq : s.hp.getD b .none with
            | none => rw [hq] at hB; show (dropR ρ d) b = none; rw [dropR_other _ hb]; exact hB
            | gone => trivial
            | own cs =>
              rw [hq] at hB
              obtain ⟨r, k, e, c, h1, h2, hm, h3, h4, h5⟩ := hB
              refine ⟨r, k, e, c, by rw [dropR_other _ hb]; exact h1, h2, hm, h3, h4, h5.drop ?_⟩
              have hin : Blk.own cs ∈ s.hp := by
                rw [← hq]
                have hlt : b < s.hp.length := by
                  rcases Nat.lt_or_ge b s.hp.length with g | g
                  · exact g
                  · simp [List.getD_eq_getElem?_getD, List.getElem?_eq_none g] at hq
                simp [List.getD_eq_getElem?_getD, hlt]
              have := List.any_eq_false.1 hn.2 _ hin
              simpa [Blk.names] using this
            | ro cs =>
              rw [hq] at hB
              obtain ⟨r, ad, h1, h2, h3, h4, h5, h6⟩ := hB
              have hin : Blk.ro cs ∈ s.hp := by
                rw [← hq]
                have hlt : b < s.hp.length := by
                  rcases Nat.lt_or_ge b s.hp.length with g | g
                  · exact g
                  · simp [List.getD_eq_getElem?_getD, List.getElem?_eq_none g] at hq
                simp [List.getD_eq_getElem?_getD, hlt]
              have hnm := List.any_eq_false.1 hn.2 _ hin
              refine ⟨r, ad, by rw [dropR_other _ hb]; exact h1, h2, h3, h4, h5, fun i v hv => ?_⟩
              obtain ⟨y, hy, hyr⟩ := h6 i v hv
              have hm := List.any_eq_false.1 (by simpa [Blk.names] using hnm) v (List.mem_of_getElem? hv)
              exact ⟨y, hy, hyr.drop (by simpa using hm)⟩
            | ext n fs =>
              rw [hq] at hB
              obtain ⟨r, h1, h2⟩ := hB
              exact ⟨r, by rw [dropR_other _ hb]; exact h1, h2⟩
            | grow e n fs =>
              rw [hq] at hB
              obtain ⟨r, xs, h1, h2⟩ := hB
              exact ⟨r, xs, by rw [dropR_other _ hb]; exact h1, h2⟩
            | growK e dp l =>
              rw [hq] at hB
              obtain ⟨r, xs, h1, h2⟩ := hB
              exact ⟨r, xs, by rw [dropR_other _ hb]; exact h1, h2⟩
            | frz dp l =>
              rw [hq] at hB
              obtain ⟨r, h1, h2⟩ := hB
              exact ⟨r, by rw [dropR_other _ hb]; exact h1, h2⟩
        · intro b b' r r' ad ad' hbb ho hv hr hr' had had'
          have ho' : ((s.hp.set d .none).getD b .none).isOwn = true := ho
          have hv' : ((s.hp.set d .none).getD b' .none).real := hv
          rw [getD_set] at ho' hv'
          have hb : b ≠ d := fun e => by rw [if_pos ⟨e, hlen⟩] at ho'; cases ho'
          have hb' : b' ≠ d := fun e => by rw [if_pos ⟨e, hlen⟩] at hv'; exact hv'
          rw [if_neg (fun x => hb x.1)] at ho'
          rw [if_neg (fun x => hb' x.1)] at hv'
          rw [dropR_other _ hb] at hr
          rw [dropR_other _ hb'] at hr'
          exact h.sep b b' r r' ad ad' hbb ho' hv' hr hr' had had'
        · have ho' : ((s.hp.set d .none).getD b .none).isOwn = true := ho
          rw [getD_set] at ho'
          have hb : b ≠ d := fun e => by rw [if_pos ⟨e, hlen⟩] at ho'; cases ho'
          rw [if_neg (fun x => hb x.1)] at ho'
          rw [dropR_other _ hb] at hr
          exact h.sepF b r ad ho' hr had
theorem RelE.enter (h : RelE w0 s a w) (ops : Array Oper) : RelE w0 (enter ops s) a w := by
  have : ∀ (l : List Oper) (s : St), RelE w0 s a w → RelE w0 (l.foldl Ev.reset1 s) a w := fun l => by
    induction l with
    | nil => intro s h; exact h
    | cons o l ih => intro s h; exact ih _ (h.reset1 o)
  exact this ops.toList s h
theorem RelE.world (h : RelE w0 s a w) {w' : World} (hb : Below w.heap.size w w') : RelE w0 s a w' := let ⟨ρ, h⟩ := h; ⟨ρ, h.world hb⟩
end

section
variable {R : Type} {P : Program} {cs : List (Kn P)} {w0 : W0} {s : St} {a : Act} {w : World}

theorem region_sound (hm : P.follows .mixedOrders = true) {id : Nat} {ops : Array Oper} {draw : Bool} {k : St → Option R} {r : R} (hok : draw = true → regionOk ops = true)
    (h : opsK P cs draw ops ops.toList 0 [] (enter ops s) k = some r) (hr : RelE w0 s a w) {Q : Exit → Act → World → Prop} (hQ : ∀ s' a' w', RelE w0 s' a' w' → k s' = some r → Q .normal a' w') : (Code.region id ops draw).wp P Q a w := by
  obtain ⟨L, s', h1, h2, h3, h4⟩ := opsK_sound ops.toList 0 [] _ (fun j o hj => by simpa using hj) h
  have h2' : L.map (·.1) = List.range ops.size := by rw [h2]; simp [List.range_eq_range']
  cases draw with
  | false =>
    refine wp_region ?_
    rw [← h2']
    exact h1.ops_sound (hr.enter ops) fun a' w' h' => hQ s' a' w' h' h3
  | true =>
    have hok := hok rfl
    obtain ⟨h5, _⟩ := h4 rfl
    have hb : Below w.heap.size w { w with drawn := w.drawn + 1 } := (Below.refl w.heap.size w).drew
    have hlen : L.length = ops.size := by have := congrArg List.length h2'; simpa using this
    refine wp_region_any hm ?_
    have hidx : ∀ q ∈ L, q.1 < ops.size := fun q hq => by
      have : q.1 ∈ List.range ops.size := by rw [← h2']; exact List.mem_map.2 ⟨q, hq, rfl⟩
      simpa using this
    have hso : (L.map (·.1)).Pairwise (· < ·) := by rw [h2']; exact List.pairwise_lt_range
    refine any_of_run (regionOk_edge hok) ops.size L _ s' _ a _ hlen h1 hso (by simp) (fun i => ?_) ?_ ?_ ((hr.enter ops).world hb) fun a' w' h' => hQ s' a' w' h' h3
    · rw [h2', List.mem_range]
      by_cases hi : i < ops.size <;> simp [hi]
    · intro i o ho hl
      by_cases hi : i < ops.size <;> simp [hi] at hl
    · have hp : L.Pairwise (fun p q => p.1 < q.1) := List.pairwise_map.1 hso
      refine List.Pairwise.imp_of_mem (R := fun p q => Touch ops p q ∧ p.1 < q.1) (fun {p q} hpm hqm hpq => ?_) (h5.and hp)
      obtain ⟨ht, hlt⟩ := hpq
      have hqi := hidx q hqm
      rcases ht with ht | ht
      · exact .inl ht
      · rcases regionOk_apart hok hlt (show ops[q.1]? = some ops[q.1] by simp [hqi]) with hw | ⟨x, hx, hap⟩
        · exact .inl hw
        · exact .inr ⟨⟨x, _, hx, by simp [hqi], hap⟩, ht.1, ht.2⟩
/-- A region that ends in a panic. -/
def panicAt (ops : Array Oper) : Option Operand :=
  match ops.toList.getLast? with
  | some o =>
    match o.op, o.guard with
    | .panic x, none => some x
    | _, _ => none
  | none => none
def panK (k : Value → St → Option R) (s : St) (v : V) : Option R :=
  match v with
  | .val (.iface t x) => k (.iface t x) s
  | _ => none
theorem panic_sound {id : Nat} {ops : Array Oper} {x : Operand} {k : Value → St → Option R} {r : R} (hp : panicAt ops = some x)
    (h : opsK P cs false ops ops.toList.dropLast 0 [] (enter ops s) (fun s' => panK k s' (evV s'.tm x)) = some r) (hr : RelE w0 s a w) {Q : Exit → Act → World → Prop} (hQ : ∀ v s' a' w', RelE w0 s' a' w' → k v s' = some r → Q (.panic [{ v := v, recovered := false }]) a' w') : (Code.region id ops false).wp P Q a w := by
  unfold panicAt at hp
  split at hp
  · rename_i o ho
    split at hp
    · rename_i y hop hg
      cases hp
      obtain ⟨L, s', h1, h2, h3, _⟩ := opsK_sound ops.toList.dropLast 0 [] _ (fun j q hj => by
        rw [List.getElem?_dropLast] at hj
        split at hj
        · simpa using hj
        · cases hj) h
      have hne : ops.toList ≠ [] := fun e => by rw [e] at ho; cases ho
      have hsz : 0 < ops.size := by
        rcases Nat.eq_zero_or_pos ops.size with e | e
        · exact absurd (by simpa using e) hne
        · exact e
      have hlast : ops[ops.size - 1]? = some o := by
        rw [List.getLast?_eq_getElem?] at ho
        simpa using ho
      refine wp_region ?_
      have hrange : List.range ops.size = L.map (·.1) ++ [ops.size - 1] := by
        rw [h2, List.length_dropLast, Array.length_toList]
        obtain ⟨m, hm⟩ : ∃ m, ops.size = m + 1 := ⟨ops.size - 1, by omega⟩
        rw [hm, List.range_succ, Nat.add_sub_cancel, List.range_eq_range']
      rw [hrange]
      refine h1.ops_sound2 (hr.enter ops) fun a' w' h' => ?_
      obtain ⟨ρ, h'⟩ := h'
      unfold panK at h3
      split at h3
      · rename_i t v hv
        have hev := eval_val h' hv
        simp only [wpOps, hlast]
        rw [if_pos (by simp [Region.wanted, hg])]
        refine .inl ?_
        have hx : (execOp a'.eval o).run P w' = .halt (.panic (.iface t v)) w' := by
          unfold execOp
          simp [hop, hev, Instr.panic]
        unfold Oper.wp
        rw [hx]
        exact hQ _ s' a' w' ⟨ρ, h'⟩ h3
      · cases h3
    · cases hp
  · cases hp
end

end Go.Proofs.YtkmehmlcccdnbaaDoor.Ev
