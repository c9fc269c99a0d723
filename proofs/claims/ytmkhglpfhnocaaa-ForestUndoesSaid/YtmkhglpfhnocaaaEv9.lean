/- The evaluator: code and whole functions: what it returns the model returns. -/
import Derived.Test.YtmkhglpfhnocaaaEv8
namespace Go.Proofs.Ytmkhglpfhnocaaa.Ev
open Go Go.RowKit
set_option linter.unusedVariables false
set_option linter.unusedSimpArgs false

inductive Ex where
  | normal
  | exit (id : Nat)
  | ret
def Ex.out : Ex → Exit
  | .normal => .normal
  | .exit id => .exit id
  | .ret => .ret

/-- What is not named is forgotten. -/
def keepT (L : List Nat) : List V → Nat → List V
  | [], _ => []
  | v :: l, i => (bif L.contains i then v else .unk) :: keepT L l (i + 1)
def keepH (L : List Nat) : List Blk → Nat → List Blk
  | [], _ => []
  | x :: l, i => (bif L.contains i then x else .gone) :: keepH L l (i + 1)
/-- What is kept: the temporaries, the slots; and the temporaries that hold a slice whose block is to lie in the slot of the same number (a nil slice becomes one of no rows: the elements' type and the fields). -/
structure Keep where
  ts : List Nat
  hs : List Nat
  gr : List (Nat × TypeId × List Fld)
def clear (t : Nat) (s : St) : St :=
  match s.hp[t]? with
  | some .none => s
  | none => s
  | some _ => bif s.names t then s else ⟨s.tm, s.hp.set t .none⟩
def moveTo (t b sz n : Nat) (s : St) : St :=
  match s.hp[t]?, s.hp[b]? with
  | some .none, some (.grow e m fs) => ⟨s.tm.set t (.sl t sz n), (s.hp.set t (.grow e m fs)).set b .gone⟩
  | some .none, some (.ext m fs) => ⟨s.tm.set t (.sl t sz n), (s.hp.set t (.ext m fs)).set b .gone⟩
  | _, _ => s
def nilTo (t : Nat) (e : TypeId) (fs : List Fld) (s : St) : St :=
  match s.hp[t]?, fs with
  | some .none, f :: l => ⟨s.tm.set t (.sl t (f :: l).length 0), s.hp.set t (.grow e 0 (f :: l))⟩
  | _, _ => s
def moveIn (s : St) (g : Nat × TypeId × List Fld) : St :=
  match s.tm[g.1]? with
  | some (.sl b sz n) => bif b == g.1 then s else moveTo g.1 b sz n (clear g.1 s)
  | some (.val (.slice none 0 0)) => nilTo g.1 g.2.1 g.2.2 (clear g.1 s)
  | _ => s
def keepTK {R : Type} (L : List Nat) : List V → Nat → (List V → R) → R
  | [], _, k => k []
  | v :: l, i, k => bif L.contains i then keepTK L l (i + 1) fun l' => k (v :: l') else keepTK L l (i + 1) fun l' => k (.unk :: l')
theorem keepTK_eq {R : Type} (L : List Nat) : ∀ (l : List V) (i : Nat) (k : List V → R), keepTK L l i k = k (keepT L l i)
  | [], _, _ => rfl
  | v :: l, i, k => by
    simp only [keepTK, keepT]
    cases L.contains i <;> simp only [cond_true, cond_false, keepTK_eq L l]
def keepHK {R : Type} (L : List Nat) : List Blk → Nat → (List Blk → R) → R
  | [], _, k => k []
  | v :: l, i, k => bif L.contains i then keepHK L l (i + 1) fun l' => k (v :: l') else keepHK L l (i + 1) fun l' => k (.gone :: l')
theorem keepHK_eq {R : Type} (L : List Nat) : ∀ (l : List Blk) (i : Nat) (k : List Blk → R), keepHK L l i k = k (keepH L l i)
  | [], _, _ => rfl
  | v :: l, i, k => by
    simp only [keepHK, keepH]
    cases L.contains i <;> simp only [cond_true, cond_false, keepHK_eq L l]
def keep (L : Option Keep) (s : St) : St :=
  match L with
  | some L =>
    let s' := L.gr.foldl moveIn ⟨keepT L.ts s.tm 0, s.hp⟩
    ⟨s'.tm, keepH L.hs s'.hp 0⟩
  | none => s
/-- .. written out at once. -/
def keepK {R : Type} (L : Option Keep) (s : St) (k : St → R) : R :=
  match L with
  | some L =>
    match s with
    | ⟨tm, hp⟩ => keepTK L.ts tm 0 fun tm' =>
      match L.gr.foldl moveIn ⟨tm', hp⟩ with
      | ⟨tm', hp'⟩ => keepHK L.hs hp' 0 fun hp' => k ⟨tm', hp'⟩
  | none => k s
theorem keepK_eq {R : Type} (L : Option Keep) (s : St) (k : St → R) : keepK L s k = k (keep L s) := by
  cases L with
  | none => rfl
  | some L =>
    obtain ⟨tm, hp⟩ := s
    simp only [keepK, keepTK_eq, keepHK_eq, keep]

def firstId : Code → Nat
  | .region id _ _ => id
  | .seq a _ => firstId a
  | .block _ b => firstId b
  | .loop b => firstId b
  | .scope b => firstId b
  | _ => 0

section
variable {R : Type}
/-- A place where ways meet: it waits for a number that is not nought, so that a printed equation can name it. -/
def joinK (m : Nat) (f : St → (Ex → St → Option R) → Option R) (s : St) (k : Ex → St → Option R) : Option R :=
  match m with
  | 0 => none
  | _ + 1 => f s k
/-- What follows a first part. -/
def seqC (m : Nat) (L : Option Keep) (f : St → (Ex → St → Option R) → Option R) (k : Ex → St → Option R) : Ex → St → Option R := fun e s =>
  match e with
  | .normal =>
    match L with
    | none => f s k
    | some K => keepK (some K) s fun s => joinK m f s k
  | e => k e s
/-- What follows a loop's round. -/
def roundC (L : Option Keep) (f : St → (Ex → St → Option R) → Option R) (k : Ex → St → Option R) : Ex → St → Option R := fun e s =>
  match e with
  | .normal => keepK L s fun s => f s k
  | e => k e s
/-- What follows a block. -/
def blockC (id : Nat) (k : Ex → St → Option R) : Ex → St → Option R := fun e s =>
  match e with
  | .exit id' => bif id' == id then k .normal s else k (.exit id') s
  | e => k e s
def loopK (f : St → (Ex → St → Option R) → Option R) (L : Option Keep) : Nat → St → (Ex → St → Option R) → Option R
  | 0, _, _ => none
  | n + 1, s, k => f s (roundC L (loopK f L n) k)

def codeK (P : Program) (cs : List (Kn P)) (live : Nat → Option Keep) (fuel : Nat) : Code → St → (Ex → St → Option R) → Option R
  | .skip, s, k => k .normal s
  | .label _, s, k => k .normal s
  | .region _ ops draw, s, k => bif draw && !regionOk ops then none else enterK ops.toList s fun s => opsK P cs draw ops ops.toList 0 [] s fun s' => k .normal s'
  | .seq a b, s, k => codeK P cs live fuel a s (seqC fuel (live (2 * firstId b)) (codeK P cs live fuel b) k)
  | .cond c x y, s, k =>
    match c with
    | .tmp t =>
      match s.tm[t]? with
      | some (.val (.bool b)) => bif b then tmK s t true fun s => codeK P cs live fuel x s k else tmK s t false fun s => codeK P cs live fuel y s k
      | _ => none
    | .const (.bool b) => bif b then codeK P cs live fuel x s k else codeK P cs live fuel y s k
    | _ => none
  | .block id c, s, k => codeK P cs live fuel c s (blockC id k)
  | .loop c, s, k => keepK (live (2 * firstId c + 1)) s fun s => loopK (codeK P cs live fuel c) (live (2 * firstId c + 1)) fuel s k
  | .exit id, s, k => k (.exit id) s
  | .ret, s, k => k .ret s
  | _, _, _ => none

def Post (w0 : World) (k : Ex → St → Option R) (r : R) : Exit → Act → World → Prop := fun e a' w' => ∃ ex s', ex.out = e ∧ RelE w0 s' a' w' ∧ k ex s' = some r

theorem keepT_get (L : List Nat) : ∀ (l : List V) (i j : Nat) (v : V), (keepT L l i)[j]? = some v → v = .unk ∨ l[j]? = some v
  | [], i, j, v, h => by simp [keepT] at h
  | u :: l, i, 0, v, h => by
    simp only [keepT, List.getElem?_cons_zero, Option.some.injEq] at h
    cases hc : L.contains i <;> rw [hc] at h
    · exact .inl h.symm
    · exact .inr (by simpa using h)
  | u :: l, i, j + 1, v, h => by
    simp only [keepT, List.getElem?_cons_succ] at h ⊢
    exact keepT_get L l (i + 1) j v h
theorem keepT_length (L : List Nat) : ∀ (l : List V) (i : Nat), (keepT L l i).length = l.length
  | [], i => rfl
  | u :: l, i => by simp [keepT, keepT_length L l (i + 1)]
theorem keepH_get (L : List Nat) : ∀ (l : List Blk) (i j : Nat), (keepH L l i).getD j .none = l.getD j .none ∨ (keepH L l i).getD j .none = .gone
  | [], i, j => .inl rfl
  | u :: l, i, 0 => by
    simp only [keepH, List.getD_cons_zero]
    cases hc : L.contains i
    · exact .inr rfl
    · exact .inl rfl
  | u :: l, i, j + 1 => by
    simp only [keepH, List.getD_cons_succ]
    exact keepH_get L l (i + 1) j

variable {P : Program} {cs : List (Kn P)} {w0 : World} {s : St} {a : Act} {w : World}

theorem RelE.keepT (h : RelE w0 s a w) (L : List Nat) : RelE w0 ⟨keepT L s.tm 0, s.hp⟩ a w := by
  obtain ⟨ρ, h⟩ := h
  refine ⟨ρ, { h with tm := ⟨by rw [← h.tm.1]; exact keepT_length L _ _, fun i v hv => ?_⟩ }⟩
  have hv' : (Ev.keepT L s.tm 0)[i]? = some v := hv
  rcases keepT_get L s.tm 0 i v hv' with rfl | h1
  · have hlt : i < s.tm.length := by
      have := (List.getElem?_eq_some_iff.1 hv').1
      rwa [keepT_length] at this
    obtain ⟨x, hx, _⟩ := h.tm.2 i s.tm[i] (by simp [hlt])
    exact ⟨x, hx, trivial⟩
  · exact h.tm.2 i v h1
theorem RelE.keepH (h : RelE w0 s a w) (L : List Nat) : RelE w0 ⟨s.tm, keepH L s.hp 0⟩ a w := by
  obtain ⟨ρ, h⟩ := h
  refine ⟨ρ, { h with hp := fun b => ?_, sep := ?_ }⟩
  · show BRel _ _ _ b ((Ev.keepH L s.hp 0).getD b .none)
    rcases keepH_get L s.hp 0 b with h1 | h1
    · rw [h1]; exact h.hp b
    · rw [h1]; trivial
  · intro b b' r r' ad ad' hbb ho hv
    have ho' : ((Ev.keepH L s.hp 0).getD b .none).isOwn = true := ho
    have hv' : ((Ev.keepH L s.hp 0).getD b' .none).real := hv
    refine h.sep b b' r r' ad ad' hbb ?_ ?_
    · rcases keepH_get L s.hp 0 b with h1 | h1
      · rw [h1] at ho'; exact ho'
      · rw [h1] at ho'; cases ho'
    · rcases keepH_get L s.hp 0 b' with h1 | h1
      · rw [h1] at hv'; exact hv'
      · rw [h1] at hv'; exact hv'.elim

theorem RelE.clear (h : RelE w0 s a w) (t : Nat) : RelE w0 (clear t s) a w := by
  have := h.reset1 { dst := some t, op := .alloc 0, type := 0, pos := "", after := #[], guard := none }
  unfold Ev.reset1 makes at this
  unfold Ev.clear
  exact this
theorem clear_tm (t : Nat) (s : St) : (clear t s).tm = s.tm := by
  unfold clear
  split <;> first | rfl | skip
  cases s.names t <;> rfl

theorem TRel.set_same {ρ : Rho} {tm : List V} {xs : Array Value} (h : TRel ρ tm xs) {t : Nat} {x : Value} (hx : xs[t]? = some x) {v : V} (hv : VRel ρ v x) : TRel ρ (tm.set t v) xs := by
  refine ⟨by simp [h.1], fun i u hu => ?_⟩
  rw [List.getElem?_set] at hu
  split at hu
  · rename_i e; subst e
    split at hu
    · cases hu; exact ⟨x, hx, hv⟩
    · cases hu
  · exact h.2 i u hu

theorem RelE.moveTo (h : RelE w0 s a w) {t b sz n : Nat} (hne : b ≠ t) (ht : s.tm[t]? = some (.sl b sz n)) : RelE w0 (moveTo t b sz n s) a w := by
  unfold Ev.moveTo
  have key : ∀ x : Blk, s.hp[t]? = some .none → s.hp[b]? = some x → x.live = true → RelE w0 ⟨s.tm.set t (.sl t sz n), (s.hp.set t x).set b .gone⟩ a w := fun x h1 h2 hlive => by
    obtain ⟨ρ, h⟩ := h
    have hgb : s.hp.getD b .none = x := by simp [List.getD_eq_getElem?_getD, h2]
    have hgt : s.hp.getD t .none = .none := by simp [List.getD_eq_getElem?_getD, h1]
    have hn : ρ t = none := by have := h.hp t; rw [hgt] at this; exact this
    have hB := h.hp b
    rw [hgb] at hB
    obtain ⟨r0, hr0⟩ := hB.bound hlive
    have hl := leR_upd (r := r0) hn
    have hx : BRel (updR ρ t r0) w0.heap.size w t x := by
      cases x with
      | none => cases hlive
      | gone => cases hlive
      | own cs =>
        obtain ⟨r, k, e, c, g1, g2, gm, g3, g4, g5⟩ := hB
        rw [hr0] at g1; cases g1
        exact ⟨r0, k, e, c, updR_same _ _ _, g2, gm, g3, g4, g5.mono hl⟩
      | ext m fs =>
        obtain ⟨r, g1, g2⟩ := hB
        rw [hr0] at g1; cases g1
        exact ⟨r0, updR_same _ _ _, g2⟩
      | grow e m fs =>
        obtain ⟨r, xs, g1, g2⟩ := hB
        rw [hr0] at g1; cases g1
        exact ⟨r0, xs, updR_same _ _ _, g2⟩
    obtain ⟨hl, hr⟩ := h.rebind h1 (List.getElem?_eq_some_iff.1 h2).1 hne hr0 hx (fun ho => by rw [hgb]; exact ho) (fun ho => by rw [hgb]; exact ho) (Below.refl _ _) (fun _ _ _ => rfl) (fun ad had _ => .inl ⟨ad, had, rfl⟩)
    obtain ⟨y, hy, hyr⟩ := h.tm.2 t _ ht
    obtain ⟨r, hr1, hlim, hye⟩ := hyr
    rw [hr0] at hr1; cases hr1
    exact ⟨_, { hr with tm := hr.tm.set_same hy (show VRel _ (.sl t sz n) y from ⟨r0, updR_same _ _ _, hlim, hye⟩) }⟩
  split
  · rename_i e m fs h1 h2; exact key _ h1 h2 rfl
  · rename_i m fs h1 h2; exact key _ h1 h2 rfl
  · exact h

theorem RelE.nilTo (h : RelE w0 s a w) {t : Nat} (e : TypeId) (fs : List Fld) (ht : s.tm[t]? = some (.val (.slice none 0 0))) : RelE w0 (nilTo t e fs s) a w := by
  unfold Ev.nilTo
  split
  · rename_i f l h1
    obtain ⟨ρ, h⟩ := h
    obtain ⟨hl, hr⟩ := h.newSlot h1 (Below.refl _ _) ⟨none, 0, some 0⟩ (.grow e 0 (f :: l)) ⟨_, [], updR_same _ _ _, rfl, by simp, World.ownsRow_nil _ _ _ _, fun i hi => absurd hi (Nat.not_lt_zero _)⟩ (fun ad had => by cases had)
    obtain ⟨y, hy, hyr⟩ := h.tm.2 t _ ht
    have hyr' : y = .slice none 0 0 := hyr
    exact ⟨_, { hr with tm := hr.tm.set_same hy (show VRel _ (.sl t (f :: l).length 0) y from ⟨_, updR_same _ _ _, fun n hn => (by cases hn; rfl), hyr'⟩) }⟩
  · exact h

theorem RelE.moveIn (h : RelE w0 s a w) (g : Nat × TypeId × List Fld) : RelE w0 (moveIn s g) a w := by
  unfold Ev.moveIn
  split
  · rename_i b sz n ht
    by_cases hb : b = g.1
    · rw [show (b == g.1) = true by simpa using hb]; exact h
    · rw [show (b == g.1) = false by simpa using hb]
      exact (h.clear g.1).moveTo hb (by rw [clear_tm]; exact ht)
  · rename_i ht
    exact (h.clear g.1).nilTo _ _ (by rw [clear_tm]; exact ht)
  · exact h

theorem RelE.keep (h : RelE w0 s a w) (L : Option Keep) : RelE w0 (keep L s) a w := by
  cases L with
  | none => exact h
  | some L =>
    have : ∀ (l : List (Nat × TypeId × List Fld)) (s : St), RelE w0 s a w → RelE w0 (l.foldl Ev.moveIn s) a w := fun l => by
      induction l with
      | nil => intro s h; exact h
      | cons g l ih => intro s h; exact ih _ (h.moveIn g)
    exact (this L.gr _ (h.keepT L.ts)).keepH L.hs

theorem loop_sound {c : Code} {f : St → (Ex → St → Option R) → Option R} (hf : ∀ (s : St) (k : Ex → St → Option R) (r : R) (a : Act) (w : World), f s k = some r → RelE w0 s a w → c.wp P (Post w0 k r) a w) (L : Option Keep) {k : Ex → St → Option R} {r : R} :
    ∀ (n : Nat) (s : St) (a : Act) (w : World), loopK f L n s k = some r → RelE w0 s a w → ∀ (b : Frame) (kk : List Item) (cs : List Frame),
      ∃ e a' w', Post w0 k r e a' w' ∧ Arrives P (lone (b.at a (.code c :: .inLoop c :: kk)) cs w) b kk cs e a' w'
  | 0, s, a, w, h, _, _, _, _ => by cases h
  | n + 1, s, a, w, h, hr, b, kk, cs => by
    obtain ⟨e, a₁, w₁, ⟨ex, s₁, rfl, hrel, hk⟩, harr⟩ := hf _ _ _ a w h hr b (.inLoop c :: kk) cs
    cases ex with
    | normal =>
      simp only [roundC, keepK_eq] at hk
      obtain ⟨e₂, a₂, w₂, hq₂, harr₂⟩ := loop_sound hf L n _ a₁ w₁ hk (hrel.keep L) b kk cs
      exact ⟨e₂, a₂, w₂, hq₂, .of_steps (Steps.trans harr (.one step_inLoop)) harr₂⟩
    | exit id => exact ⟨_, a₁, w₁, ⟨.exit id, s₁, rfl, hrel, hk⟩, .pass (x := .inLoop c) rfl (fun _ _ => .inl (by simp [Ex.out])) harr⟩
    | ret => exact ⟨_, a₁, w₁, ⟨.ret, s₁, rfl, hrel, hk⟩, .pass (x := .inLoop c) rfl (fun _ _ => .inl (by simp [Ex.out])) harr⟩

/-- **What the evaluator says of a piece of code the model does.** -/
theorem code_sound (hm : P.follows .mixedOrders = true) {live : Nat → Option Keep} {fuel : Nat} : ∀ (c : Code) (s : St) (k : Ex → St → Option R) (r : R) (a : Act) (w : World),
    codeK P cs live fuel c s k = some r → RelE w0 s a w → c.wp P (Post w0 k r) a w
  | .skip, s, k, r, a, w, h, hr => wp_skip ⟨.normal, s, rfl, hr, h⟩
  | .label _, s, k, r, a, w, h, hr => wp_label ⟨.normal, s, rfl, hr, h⟩
  | .region id ops draw, s, k, r, a, w, h, hr => by
    simp only [codeK] at h
    obtain ⟨hd, h⟩ := bif_none h
    rw [enterK_eq] at h
    refine region_sound hm (fun e => ?_) h hr fun s' a' w' h' hk => ⟨.normal, s', rfl, h', hk⟩
    subst e
    simpa using hd
  | .seq x y, s, k, r, a, w, h, hr => by
    simp only [codeK] at h
    refine wp_seq (wp_mono (code_sound hm x s _ r a w h hr) fun e a' w' ⟨ex, s', he, h', hk⟩ => ?_)
    subst he
    cases ex with
    | normal =>
      simp only [seqC] at hk
      split at hk
      · exact code_sound hm y _ k r a' w' hk h'
      · rw [keepK_eq] at hk
        cases fuel with
        | zero => cases hk
        | succ m => exact code_sound hm y _ k r a' w' hk (h'.keep _)
    | exit id => exact ⟨.exit id, s', rfl, h', hk⟩
    | ret => exact ⟨.ret, s', rfl, h', hk⟩
  | .cond c x y, s, k, r, a, w, h, hr => by
    simp only [codeK, tmK_eq] at h
    split at h
    · rename_i t
      split at h
      · rename_i b hb
        have hself : ∀ c, c = b → s.tm.set t (.val (.bool c)) = s.tm := fun c e => by subst e; exact set_self hb
        have hev : a.eval (.tmp t) = .bool b := by
          obtain ⟨ρ, hr⟩ := hr
          refine eval_val hr ?_
          simp [evV, List.getD_eq_getElem?_getD, hb]
        cases b with
        | true =>
          simp only [cond_true, hself true rfl] at h
          exact wp_cond_true hev (code_sound hm x s k r a w h hr)
        | false =>
          simp only [cond_false, hself false rfl] at h
          exact wp_cond_false hev (code_sound hm y s k r a w h hr)
      · cases h
    · rename_i b
      cases b with
      | true => exact wp_cond_true rfl (code_sound hm x s k r a w h hr)
      | false => exact wp_cond_false rfl (code_sound hm y s k r a w h hr)
    · cases h
  | .block id c, s, k, r, a, w, h, hr => by
    simp only [codeK] at h
    refine wp_block (wp_mono (code_sound hm c s _ r a w h hr) fun e a' w' ⟨ex, s', he, h', hk⟩ => ?_)
    subst he
    cases ex with
    | normal => exact ⟨.normal, s', rfl, h', hk⟩
    | ret => exact ⟨.ret, s', rfl, h', hk⟩
    | exit id' =>
      simp only [Ex.out, Exit.inBlock]
      simp only [blockC] at hk
      by_cases hi : id' = id
      · subst hi
        simp only [beq_self_eq_true, cond_true] at hk
        rw [if_pos rfl]
        exact ⟨.normal, s', rfl, h', hk⟩
      · rw [show (id' == id) = false by simpa using hi] at hk
        rw [if_neg hi]
        exact ⟨.exit id', s', rfl, h', hk⟩
  | .loop c, s, k, r, a, w, h, hr => by
    simp only [codeK, keepK_eq] at h
    intro b kk cs'
    obtain ⟨e, a', w', hq, harr⟩ := loop_sound (P := P) (w0 := w0) (fun s k r a w => code_sound hm c s k r a w) (live (2 * firstId c + 1)) fuel _ a w h (hr.keep _) b kk cs'
    exact ⟨e, a', w', hq, .of_steps (.one step_loop) harr⟩
  | .exit id, s, k, r, a, w, h, hr => wp_exit ⟨.exit id, s, rfl, hr, h⟩
  | .ret, s, k, r, a, w, h, hr => wp_ret ⟨.ret, s, rfl, hr, h⟩
  | .rangeFunc .., s, k, r, a, w, h, hr => by simp [codeK] at h
  | .scope _, s, k, r, a, w, h, hr => by simp [codeK] at h
  | .goto _, s, k, r, a, w, h, hr => by simp [codeK] at h
  | .refuse _, s, k, r, a, w, h, hr => by simp [codeK] at h
end

end Go.Proofs.Ytmkhglpfhnocaaa.Ev
