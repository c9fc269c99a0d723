/- The evaluator: regions, code, whole functions. -/
import Derived.Test.YtmkhglpfhnocaaaEv6
namespace Go.Proofs.Ytmkhglpfhnocaaa.Ev
open Go Go.RowKit
set_option linter.unusedVariables false
set_option linter.unusedSimpArgs false

/-! ### states are written out at once, not left as they come: the kernel would work them out again and again -/
def forceVal {R : Type} (x : Value) (k : Value → R) : R :=
  match x with
  | .int i n => k (.int i n)
  | .bool b => k (.bool b)
  | .agg a => k (.agg a)
  | .tuple a => k (.tuple a)
  | .pointer p => k (.pointer p)
  | .slice a n c => k (.slice a n c)
  | .string s => k (.string s)
  | x => k x
theorem forceVal_eq {R : Type} (x : Value) (k : Value → R) : forceVal x k = k x := by cases x <;> rfl
def forceV {R : Type} (v : V) (k : V → R) : R :=
  match v with
  | .val x => forceVal x fun x => k (.val x)
  | .ptr b r s f => k (.ptr b r s f)
  | .sl b s n => k (.sl b s n)
  | .pk cs => k (.pk cs)
  | .unk => k .unk
  | .gp g r s f => k (.gp g r s f)
theorem forceV_eq {R : Type} (v : V) (k : V → R) : forceV v k = k v := by
  cases v with
  | val x => simp only [forceV, forceVal_eq]
  | _ => rfl
def setK {R α : Type} : List α → Nat → α → (List α → R) → R
  | [], _, _, k => k []
  | _ :: l, 0, v, k => k (v :: l)
  | x :: l, n + 1, v, k => setK l n v fun l' => k (x :: l')
theorem setK_eq {R α : Type} : ∀ (l : List α) (n : Nat) (v : α) (k : List α → R), setK l n v k = k (l.set n v)
  | [], _, _, _ => rfl
  | _ :: _, 0, _, _ => rfl
  | x :: l, n + 1, v, k => by simp only [setK, setK_eq l n v, List.set_cons_succ]
def wroteK {R : Type} : List Blk → List (Nat × Blk) → (List Blk → R) → R
  | hp, [], k => k hp
  | hp, (b, x) :: l, k => setK hp b x fun hp' => wroteK hp' l k
theorem wroteK_eq {R : Type} : ∀ (l : List (Nat × Blk)) (hp : List Blk) (k : List Blk → R), wroteK hp l k = k (wrote hp l)
  | [], _, _ => rfl
  | (b, x) :: l, hp, k => by simp only [wroteK, setK_eq, wroteK_eq l, wrote]
def putK {R : Type} (tm : List V) (dst : Option Tmp) (v : V) (k : List V → R) : R :=
  match dst with
  | some d => forceV v fun v => setK tm d v k
  | none => k tm
theorem putK_eq {R : Type} (tm : List V) (dst : Option Tmp) (v : V) (k : List V → R) : putK tm dst v k = k (putV tm dst v) := by
  cases dst with
  | none => rfl
  | some d => simp only [putK, forceV_eq, setK_eq, putV]
def appK {R : Type} (s : St) (dst : Option Tmp) (E : Eff) (k : St → R) : R :=
  match s with
  | ⟨tm, hp⟩ => putK tm dst E.v fun tm' => wroteK hp E.wr fun hp' => k ⟨tm', hp'⟩
theorem appK_eq {R : Type} (s : St) (dst : Option Tmp) (E : Eff) (k : St → R) : appK s dst E k = k (s.app dst E) := by
  obtain ⟨tm, hp⟩ := s
  simp only [appK, putK_eq, wroteK_eq, St.app]
def tmK {R : Type} (s : St) (t : Nat) (b : Bool) (k : St → R) : R :=
  match s with
  | ⟨tm, hp⟩ => setK tm t (.val (.bool b)) fun tm' => k ⟨tm', hp⟩
theorem tmK_eq {R : Type} (s : St) (t : Nat) (b : Bool) (k : St → R) : tmK s t b k = k ⟨s.tm.set t (.val (.bool b)), s.hp⟩ := by
  obtain ⟨tm, hp⟩ := s
  simp only [tmK, setK_eq]

/-! ### regions -/
/-- What an operation has touched: its number, the slots that it read, the slots that it wrote. -/
structure FP where
  i : Nat
  rd : List Nat
  wr : List Nat
def Eff.wrb (E : Eff) : List Nat := E.wr.map (·.1)
def FP.apart (p : FP) (rd : List Nat) (wr : List Nat) : Bool :=
  p.wr.all (fun b => !rd.contains b) && wr.all (fun b => !p.rd.contains b)
def fpsOk (ops : Array Oper) (i : Nat) (rd : List Nat) (wr : List Nat) (fps : List FP) : Bool := fps.all fun p => p.apart rd wr || Waits ops i p.i

section
variable {R : Type}
/-- The operations of a region one after the other, each behind its guard; 'draw': what is touched must not clash. -/
def opsK (P : Program) (cs : List (Kn P)) (draw : Bool) (ops : Array Oper) : List Oper → Nat → List FP → St → (St → Option R) → Option R
  | [], _, _, s, k => k s
  | o :: l, i, fps, s, k =>
    match o.guard with
    | none => opK P cs s.tm s.hp o fun E => bif draw && !fpsOk ops i E.rd E.wrb fps then none else appK s o.dst E fun s' => opsK P cs draw ops l (i + 1) (bif draw then ⟨i, E.rd, E.wrb⟩ :: fps else fps) s' k
    | some (j, want) =>
      match (ops[j]?).bind (·.dst) with
      | none => appK s o.dst skipE fun s' => opsK P cs draw ops l (i + 1) fps s' k
      | some t =>
        match s.tm[t]? with
        | some (.val (.bool b)) =>
          bif b then
            (tmK s t true fun s => bif want then
              opK P cs s.tm s.hp o fun E => bif draw && !fpsOk ops i E.rd E.wrb fps then none else appK s o.dst E fun s' => opsK P cs draw ops l (i + 1) (bif draw then ⟨i, E.rd, E.wrb⟩ :: fps else fps) s' k
            else appK s o.dst skipE fun s' => opsK P cs draw ops l (i + 1) fps s' k)
          else
            (tmK s t false fun s => bif want then appK s o.dst skipE fun s' => opsK P cs draw ops l (i + 1) fps s' k
            else
              opK P cs s.tm s.hp o fun E => bif draw && !fpsOk ops i E.rd E.wrb fps then none else appK s o.dst E fun s' => opsK P cs draw ops l (i + 1) (bif draw then ⟨i, E.rd, E.wrb⟩ :: fps else fps) s' k)
        | some (.val (.tuple _)) => appK s o.dst skipE fun s' => opsK P cs draw ops l (i + 1) fps s' k
        | _ => none

theorem set_self {α : Type} : ∀ {l : List α} {t : Nat} {x : α}, l[t]? = some x → l.set t x = l
  | [], _, _, _ => rfl
  | a :: l, 0, x, h => by simp at h; subst h; rfl
  | a :: l, t + 1, x, h => by simp only [List.set_cons_succ]; rw [set_self (by simpa using h)]

def Touch (ops : Array Oper) (p q : Nat × Eff) : Prop := Waits ops q.1 p.1 = true ∨ ((∀ x ∈ p.2.wr, x.1 ∉ q.2.rd) ∧ (∀ x ∈ q.2.wr, x.1 ∉ p.2.rd))
def TouchF (ops : Array Oper) (p : FP) (q : Nat × Eff) : Prop := Waits ops q.1 p.i = true ∨ ((∀ b ∈ p.wr, b ∉ q.2.rd) ∧ (∀ x ∈ q.2.wr, x.1 ∉ p.rd))

theorem fpsOk_spec {ops : Array Oper} {i : Nat} {E : Eff} {fps : List FP} (h : fpsOk ops i E.rd E.wrb fps = true) : ∀ p ∈ fps, TouchF ops p (i, E) := fun p hp => by
  have := List.all_eq_true.1 h p hp
  rw [Bool.or_eq_true] at this
  rcases this with h1 | h1
  · refine .inr ?_
    simp only [FP.apart, Bool.and_eq_true] at h1
    obtain ⟨h1, h2⟩ := h1
    refine ⟨fun b hb => ?_, fun x hx => ?_⟩
    · simpa using List.all_eq_true.1 h1 b hb
    · simpa using List.all_eq_true.1 h2 x.1 (List.mem_map.2 ⟨x, hx, rfl⟩)
  · exact .inl h1

theorem opsK_sound {P : Program} {cs : List (Kn P)} {draw : Bool} {ops : Array Oper} {k : St → Option R} {r : R} : ∀ (l : List Oper) (i : Nat) (fps : List FP) (s : St), (∀ j, l[j]? = ops[i + j]?) → opsK P cs draw ops l i fps s k = some r →
    ∃ L s', RunR P ops L s s' ∧ L.map (·.1) = List.range' i l.length ∧ k s' = some r ∧ (draw = true → L.Pairwise (Touch ops) ∧ ∀ p ∈ fps, ∀ q ∈ L, TouchF ops p q)
  | [], i, fps, s, hl, h => ⟨[], s, .nil s, rfl, h, fun _ => ⟨.nil, fun _ _ _ hq => by cases hq⟩⟩
  | o :: l, i, fps, s, hl, h => by
    have ho : ops[i]? = some o := by simpa using (hl 0).symm
    have hl' : ∀ j, l[j]? = ops[i + 1 + j]? := fun j => by have := hl (j + 1); simpa [Nat.add_assoc, Nat.add_comm 1 j] using this
    have hd : dstOf ops i = o.dst := by simp [dstOf, ho]
    -- an operation that is carried out
    have exec : guardV ops s.tm o = some true → opK P cs s.tm s.hp o (fun E => bif draw && !fpsOk ops i E.rd E.wrb fps then none else opsK P cs draw ops l (i + 1) (bif draw then ⟨i, E.rd, E.wrb⟩ :: fps else fps) (s.app o.dst E) k) = some r →
        ∃ L s', RunR P ops L s s' ∧ L.map (·.1) = List.range' i (o :: l).length ∧ k s' = some r ∧ (draw = true → L.Pairwise (Touch ops) ∧ ∀ p ∈ fps, ∀ q ∈ L, TouchF ops p q) := fun hg h => by
      obtain ⟨E, hR, hk⟩ := opK_sound h
      obtain ⟨hc, hk⟩ := bif_none hk
      obtain ⟨L, s', h1, h2, h3, h4⟩ := opsK_sound l (i + 1) _ _ hl' hk
      refine ⟨(i, E) :: L, s', .cons ⟨o, ho, .inl ⟨hg, hR⟩⟩ (by rw [hd]; exact h1), by simp [h2, List.range'_succ], h3, fun hdr => ?_⟩
      subst hdr
      obtain ⟨h5, h6⟩ := h4 rfl
      have hfp := fpsOk_spec (ops := ops) (i := i) (E := E) (fps := fps) (by simpa using hc)
      refine ⟨List.pairwise_cons.2 ⟨fun q hq => ?_, h5⟩, fun p hp q hq => ?_⟩
      · have := h6 ⟨i, E.rd, E.wrb⟩ (by simp) q hq
        rcases this with h | ⟨h7, h8⟩
        · exact .inl h
        · exact .inr ⟨fun x hx => h7 x.1 (List.mem_map.2 ⟨x, hx, rfl⟩), h8⟩
      · cases hq with
        | head => exact hfp p hp
        | tail _ hq => exact h6 p (by simp [hp]) q hq
    -- .. that is skipped
    have skip : guardV ops s.tm o = some false → opsK P cs draw ops l (i + 1) fps (s.app o.dst skipE) k = some r →
        ∃ L s', RunR P ops L s s' ∧ L.map (·.1) = List.range' i (o :: l).length ∧ k s' = some r ∧ (draw = true → L.Pairwise (Touch ops) ∧ ∀ p ∈ fps, ∀ q ∈ L, TouchF ops p q) := fun hg h => by
      obtain ⟨L, s', h1, h2, h3, h4⟩ := opsK_sound l (i + 1) _ _ hl' h
      refine ⟨(i, skipE) :: L, s', .cons ⟨o, ho, .inr ⟨hg, rfl⟩⟩ (by rw [hd]; exact h1), by simp [h2, List.range'_succ], h3, fun hdr => ?_⟩
      obtain ⟨h5, h6⟩ := h4 hdr
      refine ⟨List.pairwise_cons.2 ⟨fun q hq => .inr ⟨fun x hx => (by cases hx), fun x hx hb => (by cases hb)⟩, h5⟩, fun p hp q hq => ?_⟩
      cases hq with
      | head => exact .inr ⟨fun b hb hn => (by cases hn), fun x hx => (by cases hx)⟩
      | tail _ hq => exact h6 p hp q hq
    simp only [opsK, appK_eq, tmK_eq] at h
    cases hgd : o.guard with
    | none =>
      rw [hgd] at h
      exact exec (by unfold guardV; rw [hgd]) h
    | some p =>
      obtain ⟨j, want⟩ := p
      rw [hgd] at h
      simp only at h
      cases ht : (ops[j]?).bind (·.dst) with
      | none => rw [ht] at h; exact skip (by unfold guardV; rw [hgd]; simp only [ht]) h
      | some t =>
        rw [ht] at h
        simp only at h
        split at h
        · rename_i b hb
          have hself : ∀ c, c = b → s.tm.set t (.val (.bool c)) = s.tm := fun c e => by subst e; exact set_self hb
          cases b with
          | true =>
            simp only [cond_true, hself true rfl] at h
            cases want with
            | true => exact exec (by unfold guardV; rw [hgd]; simp only [ht, hb]; rfl) h
            | false => exact skip (by unfold guardV; rw [hgd]; simp only [ht, hb]; rfl) h
          | false =>
            simp only [cond_false, hself false rfl] at h
            cases want with
            | true => exact skip (by unfold guardV; rw [hgd]; simp only [ht, hb]; rfl) h
            | false => exact exec (by unfold guardV; rw [hgd]; simp only [ht, hb]; rfl) h
        · rename_i vs hb
          exact skip (by unfold guardV; rw [hgd]; simp only [ht, hb]) h
        · cases h
end

/-- What holds of a region whatever the state: no operation waits for a later one; two that do not wait for one another use different temporaries. -/
def regionOk (ops : Array Oper) : Bool :=
  ops.toList.zipIdx.all fun (o, j) => o.after.toList.all (fun e => !Region.binds .any e || Nat.blt e.on j) && (List.range j).all fun i => Waits ops j i || (match ops[i]? with | some p => p.apart ops o | none => false)

theorem regionOk_edge {ops : Array Oper} (h : regionOk ops = true) : ∀ (i : Nat) (o : Oper), ops[i]? = some o → ∀ e ∈ o.after, Region.binds .any e = true → e.on < i := fun i o ho e he hb => by
  have hm : (o, i) ∈ ops.toList.zipIdx := List.mem_zipIdx_iff_getElem?.2 (by simpa using ho)
  have := List.all_eq_true.1 h (o, i) hm
  simp only [Bool.and_eq_true] at this
  have := List.all_eq_true.1 this.1 e (by simpa using he)
  rw [hb] at this
  simpa [Nat.blt_eq] using this
theorem regionOk_apart {ops : Array Oper} (h : regionOk ops = true) {i j : Nat} (hij : i < j) {o : Oper} (hj : ops[j]? = some o) : Waits ops j i = true ∨ ∃ p, ops[i]? = some p ∧ p.apart ops o = true := by
  have hm : (o, j) ∈ ops.toList.zipIdx := List.mem_zipIdx_iff_getElem?.2 (by simpa using hj)
  have := List.all_eq_true.1 h (o, j) hm
  simp only [Bool.and_eq_true] at this
  have := List.all_eq_true.1 this.2 i (by simpa using hij)
  rw [Bool.or_eq_true] at this
  rcases this with h1 | h1
  · exact .inl h1
  · cases hp : ops[i]? with
    | none => rw [hp] at h1; cases h1
    | some p => rw [hp] at h1; exact .inr ⟨p, rfl, h1⟩

end Go.Proofs.Ytmkhglpfhnocaaa.Ev
