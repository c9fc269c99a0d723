/- The evaluator: code and whole functions. -/
import Derived.Test.YtmkhglpfhnocaaaEv7
namespace Go.Proofs.Ytmkhglpfhnocaaa.Ev
open Go Go.RowKit
set_option linter.unusedVariables false
set_option linter.unusedSimpArgs false

/-! ### slots that are used again -/
def V.names (d : Nat) : V → Bool
  | .ptr b _ _ _ => b == d
  | .sl b _ _ => b == d
  | .pk cs => cs.any fun p => match p with | .sl b _ _ => b == d | .val _ => false
  | _ => false
def Blk.names (d : Nat) : Blk → Bool
  | .own cs => cs.any (V.names d)
  | _ => false
def St.names (s : St) (d : Nat) : Bool := s.tm.any (V.names d) || s.hp.any (Blk.names d)
def makes (o : Oper) : Option Nat :=
  match o.op with
  | .alloc _ | .box .. | .buildSlice .. | .makeSlice .. | .call _ => o.dst
  | _ => none
def reset1 (s : St) (o : Oper) : St :=
  match makes o with
  | none => s
  | some d =>
    match s.hp[d]? with
    | some .none => s
    | none => s
    | some _ => bif s.names d then s else ⟨s.tm, s.hp.set d .none⟩
def enter (ops : Array Oper) (s : St) : St := ops.toList.foldl reset1 s
/-- .. the slots written out at once. -/
def enterK {R : Type} : List Oper → St → (St → R) → R
  | [], s, k => k s
  | o :: l, ⟨tm, hp⟩, k =>
    match makes o with
    | none => enterK l ⟨tm, hp⟩ k
    | some d =>
      match hp[d]? with
      | some .none => enterK l ⟨tm, hp⟩ k
      | none => enterK l ⟨tm, hp⟩ k
      | some _ => bif St.names ⟨tm, hp⟩ d then enterK l ⟨tm, hp⟩ k else setK hp d .none fun hp' => enterK l ⟨tm, hp'⟩ k
theorem enterK_eq {R : Type} : ∀ (l : List Oper) (s : St) (k : St → R), enterK l s k = k (l.foldl reset1 s)
  | [], s, k => rfl
  | o :: l, ⟨tm, hp⟩, k => by
    simp only [enterK, List.foldl_cons, reset1]
    cases hm : makes o with
    | none => exact enterK_eq l _ k
    | some d =>
      simp only
      cases hx : hp[d]? with
      | none => exact enterK_eq l _ k
      | some x =>
        have fin : (bif St.names ⟨tm, hp⟩ d then enterK l ⟨tm, hp⟩ k else setK hp d .none fun hp' => enterK l ⟨tm, hp'⟩ k) = k (l.foldl reset1 (bif St.names ⟨tm, hp⟩ d then ⟨tm, hp⟩ else ⟨tm, hp.set d .none⟩)) := by
          cases St.names ⟨tm, hp⟩ d
          · simp only [cond_false, setK_eq]; exact enterK_eq l _ k
          · simp only [cond_true]; exact enterK_eq l _ k
        cases x with
        | none => exact enterK_eq l _ k
        | _ => exact fin

theorem VRel.drop {ρ : Rho} {d : Nat} {v : V} {x : Value} (hn : v.names d = false) (h : VRel ρ v x) : VRel (fun b => if b = d then none else ρ b) v x := by
  cases v with
  | val => exact h
  | unk => trivial
  | gp => exact h
  | pk cs =>
    obtain ⟨c, h1, h2, h3⟩ := h
    refine ⟨c, h1, h2, fun i p hp => ?_⟩
    obtain ⟨y, hy, hr⟩ := h3 i p hp
    refine ⟨y, hy, ?_⟩
    cases p with
    | val v => exact hr
    | sl b sz len =>
      have hm := List.any_eq_false.1 hn _ (List.mem_of_getElem? hp)
      have : b ≠ d := by simpa using hm
      obtain ⟨r, h1, h2⟩ := hr
      exact ⟨r, by simp only [if_neg this]; exact h1, h2⟩
  | ptr b row sz fld =>
    have : b ≠ d := by simpa [V.names] using hn
    obtain ⟨r, ad, h1, h2⟩ := h
    exact ⟨r, ad, by simp only [if_neg this]; exact h1, h2⟩
  | sl b sz len =>
    have : b ≠ d := by simpa [V.names] using hn
    obtain ⟨r, h1, h2⟩ := h
    exact ⟨r, by simp only [if_neg this]; exact h1, h2⟩
theorem TRel.drop {ρ : Rho} {d : Nat} {tm : List V} {xs : Array Value} (hn : tm.any (V.names d) = false) (h : TRel ρ tm xs) : TRel (fun b => if b = d then none else ρ b) tm xs :=
  ⟨h.1, fun i v hv => let ⟨x, hx, hr⟩ := h.2 i v hv; ⟨x, hx, hr.drop (by
    have := List.any_eq_false.1 hn v (List.mem_of_getElem? hv)
    simpa using this)⟩⟩

section
variable {w0 : World} {s : St} {a : Act} {w : World}
theorem RelE.reset1 (h : RelE w0 s a w) (o : Oper) : RelE w0 (reset1 s o) a w := by
  unfold Ev.reset1
  split
  · exact h
  · rename_i d _
    split
    · exact h
    · exact h
    · rename_i x hx
      cases hn : s.names d with
      | true => exact h
      | false =>
        simp only [cond_false]
        obtain ⟨ρ, h⟩ := h
        unfold St.names at hn
        rw [Bool.or_eq_false_iff] at hn
        have hlen : d < s.hp.length := (List.getElem?_eq_some_iff.1 hx).1
        refine ⟨fun b => if b = d then none else ρ b, { defers := h.defers, tm := h.tm.drop hn.1, hp := fun b => ?_, sep := ?_, below := h.below, laid := h.laid }⟩
        · show BRel _ _ _ b ((s.hp.set d .none).getD b .none)
          rw [getD_set]
          by_cases hb : b = d
          · rw [if_pos ⟨hb, hlen⟩]; simp [BRel, hb]
          · rw [if_neg (fun x => hb x.1)]
            have hB := h.hp b
            cases hq : s.hp.getD b .none with
            | none => rw [hq] at hB; simp only [BRel, if_neg hb]; exact hB
            | gone => trivial
            | own cs =>
              rw [hq] at hB
              obtain ⟨r, k, e, c, h1, h2, hm, h3, h4, h5⟩ := hB
              refine ⟨r, k, e, c, by simp only [if_neg hb]; exact h1, h2, hm, h3, h4, h5.drop ?_⟩
              have hin : Blk.own cs ∈ s.hp := by
                rw [← hq]
                have hlt : b < s.hp.length := by
                  rcases Nat.lt_or_ge b s.hp.length with g | g
                  · exact g
                  · simp [List.getD_eq_getElem?_getD, List.getElem?_eq_none g] at hq
                simp [List.getD_eq_getElem?_getD, hlt]
              have := List.any_eq_false.1 hn.2 _ hin
              simpa [Blk.names] using this
            | ext n fs =>
              rw [hq] at hB
              obtain ⟨r, h1, h2⟩ := hB
              exact ⟨r, by simp only [if_neg hb]; exact h1, h2⟩
            | grow e n fs =>
              rw [hq] at hB
              obtain ⟨r, xs, h1, h2⟩ := hB
              exact ⟨r, xs, by simp only [if_neg hb]; exact h1, h2⟩
        · intro b b' r r' ad ad' hbb ho hv hr hr' had had'
          have ho' : ((s.hp.set d .none).getD b .none).isOwn = true := ho
          have hv' : ((s.hp.set d .none).getD b' .none).real := hv
          rw [getD_set] at ho' hv'
          have hb : b ≠ d := fun e => by rw [if_pos ⟨e, hlen⟩] at ho'; cases ho'
          have hb' : b' ≠ d := fun e => by rw [if_pos ⟨e, hlen⟩] at hv'; exact hv'
          rw [if_neg (fun x => hb x.1)] at ho'
          rw [if_neg (fun x => hb' x.1)] at hv'
          simp only [if_neg hb] at hr
          simp only [if_neg hb'] at hr'
          exact h.sep b b' r r' ad ad' hbb ho' hv' hr hr' had had'
theorem RelE.enter (h : RelE w0 s a w) (ops : Array Oper) : RelE w0 (enter ops s) a w := by
  have : ∀ (l : List Oper) (s : St), RelE w0 s a w → RelE w0 (l.foldl Ev.reset1 s) a w := fun l => by
    induction l with
    | nil => intro s h; exact h
    | cons o l ih => intro s h; exact ih _ (h.reset1 o)
  exact this ops.toList s h
theorem RelE.world (h : RelE w0 s a w) {w' : World} (hb : Below w.heap.size w w') : RelE w0 s a w' := let ⟨ρ, h⟩ := h; ⟨ρ, h.world hb⟩
end

section
variable {R : Type} {P : Program} {cs : List (Kn P)} {w0 : World} {s : St} {a : Act} {w : World}

theorem region_sound (hm : P.follows .mixedOrders = true) {id : Nat} {ops : Array Oper} {draw : Bool} {k : St → Option R} {r : R} (hok : draw = true → regionOk ops = true)
    (h : opsK P cs draw ops ops.toList 0 [] (enter ops s) k = some r) (hr : RelE w0 s a w) {Q : Exit → Act → World → Prop} (hQ : ∀ s' a' w', RelE w0 s' a' w' → k s' = some r → Q .normal a' w') : (Code.region id ops draw).wp P Q a w := by
  obtain ⟨L, s', h1, h2, h3, h4⟩ := opsK_sound ops.toList 0 [] _ (fun j => by simp) h
  have h2' : L.map (·.1) = List.range ops.size := by rw [h2]; simp [List.range_eq_range']
  cases draw with
  | false =>
    refine wp_region ?_
    rw [← h2']
    exact h1.ops_sound (hr.enter ops) fun a' w' h' => hQ s' a' w' h' h3
  | true =>
    have hok := hok rfl
    obtain ⟨h5, _⟩ := h4 rfl
    have hb : Below w.heap.size w { w with drawn := w.drawn + 1 } := (Below.refl w.heap.size w).drew
    have hlen : L.length = ops.size := by have := congrArg List.length h2'; simpa using this
    refine wp_region_any hm ?_
    have hidx : ∀ q ∈ L, q.1 < ops.size := fun q hq => by
      have : q.1 ∈ List.range ops.size := by rw [← h2']; exact List.mem_map.2 ⟨q, hq, rfl⟩
      simpa using this
    have hso : (L.map (·.1)).Pairwise (· < ·) := by rw [h2']; exact List.pairwise_lt_range
    refine any_of_run (regionOk_edge hok) ops.size L _ s' _ a _ hlen h1 hso (by simp) (fun i => ?_) ?_ ?_ ((hr.enter ops).world hb) fun a' w' h' => hQ s' a' w' h' h3
    · rw [h2', List.mem_range]
      by_cases hi : i < ops.size <;> simp [hi]
    · intro i o ho hl
      by_cases hi : i < ops.size <;> simp [hi] at hl
    · have hp : L.Pairwise (fun p q => p.1 < q.1) := List.pairwise_map.1 hso
      refine List.Pairwise.imp_of_mem (R := fun p q => Touch ops p q ∧ p.1 < q.1) (fun {p q} hpm hqm hpq => ?_) (h5.and hp)
      obtain ⟨ht, hlt⟩ := hpq
      have hqi := hidx q hqm
      rcases ht with ht | ht
      · exact .inl ht
      · rcases regionOk_apart hok hlt (show ops[q.1]? = some ops[q.1] by simp [hqi]) with hw | ⟨x, hx, hap⟩
        · exact .inl hw
        · exact .inr ⟨⟨x, _, hx, by simp [hqi], hap⟩, ht.1, ht.2⟩
end

end Go.Proofs.Ytmkhglpfhnocaaa.Ev
