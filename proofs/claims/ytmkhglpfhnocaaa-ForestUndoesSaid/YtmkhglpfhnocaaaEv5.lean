/- Regions that draw their order: what waits for what, and that one run in the order of the text serves every order. -/
import Derived.Test.YtmkhglpfhnocaaaEv4
namespace Go.Proofs.Ytmkhglpfhnocaaa.Ev
open Go Go.RowKit
set_option linter.unusedVariables false
set_option linter.unusedSimpArgs false

/-! ### what waits for what -/
theorem testBit_fold {j : Nat} (acc : Array Nat) : ∀ (l : List Edge) (s : Nat), (l.foldl (fun s e => if Region.binds .any e then s ||| 2 ^ e.on ||| acc.getD e.on 0 else s) s).testBit j = true →
    s.testBit j = true ∨ ∃ e ∈ l, Region.binds .any e = true ∧ (e.on = j ∨ (acc.getD e.on 0).testBit j = true)
  | [], s, h => .inl h
  | e :: l, s, h => by
    rw [List.foldl_cons] at h
    rcases testBit_fold acc l _ h with h | ⟨e', he', h1, h2⟩
    · by_cases hb : Region.binds .any e = true
      · rw [if_pos hb] at h
        simp only [Nat.testBit_or, Bool.or_eq_true] at h
        rcases h with (h | h) | h
        · exact .inl h
        · refine .inr ⟨e, by simp, hb, .inl ?_⟩
          rw [Nat.testBit_two_pow] at h; simpa using h
        · exact .inr ⟨e, by simp, hb, .inr h⟩
      · rw [if_neg hb] at h; exact .inl h
    · exact .inr ⟨e', by simp [he'], h1, h2⟩

def beforeStep (acc : Array Nat) (o : Oper) : Array Nat := acc.push (o.after.foldl (fun s e => if Region.binds .any e then s ||| 2 ^ e.on ||| acc.getD e.on 0 else s) 0)
def BInv (pre : List Oper) (acc : Array Nat) : Prop :=
  acc.size = pre.length ∧ ∀ i j, (acc.getD i 0).testBit j = true → ∃ o, pre[i]? = some o ∧ ∃ e ∈ o.after, Region.binds .any e = true ∧ (e.on = j ∨ (e.on < i ∧ (acc.getD e.on 0).testBit j = true))

theorem getD_push_lt {acc : Array Nat} {m i : Nat} (h : i < acc.size) : (acc.push m).getD i 0 = acc.getD i 0 := by
  simp [Array.getElem?_push, Nat.ne_of_lt h]

theorem BInv.step {pre : List Oper} {acc : Array Nat} (h : BInv pre acc) (o : Oper) : BInv (pre ++ [o]) (beforeStep acc o) := by
  obtain ⟨hs, hb⟩ := h
  refine ⟨by simp [beforeStep, hs], fun i j hij => ?_⟩
  unfold beforeStep at hij ⊢
  rcases Nat.lt_trichotomy i acc.size with hi | hi | hi
  · rw [getD_push_lt hi] at hij
    obtain ⟨o', ho', e, he, hbd, hj⟩ := hb i j hij
    refine ⟨o', ?_, e, he, hbd, ?_⟩
    · rw [List.getElem?_append_left (by omega)]; exact ho'
    · rcases hj with hj | ⟨h1, h2⟩
      · exact .inl hj
      · exact .inr ⟨h1, by rw [getD_push_lt (by omega)]; exact h2⟩
  · subst hi
    have hm : (acc.push (o.after.foldl (fun s e => if Region.binds .any e then s ||| 2 ^ e.on ||| acc.getD e.on 0 else s) 0)).getD acc.size 0 = o.after.foldl (fun s e => if Region.binds .any e then s ||| 2 ^ e.on ||| acc.getD e.on 0 else s) 0 := by simp
    rw [hm, ← Array.foldl_toList] at hij
    rcases testBit_fold acc _ _ hij with h0 | ⟨e, he, hbd, hj⟩
    · simp at h0
    · refine ⟨o, by simp [hs], e, by simpa using he, hbd, ?_⟩
      rcases hj with hj | hj
      · exact .inl hj
      · have hlt : e.on < acc.size := by
          rcases Nat.lt_or_ge e.on acc.size with h | h
          · exact h
          · have : acc.getD e.on 0 = 0 := by simp [Array.getElem?_eq_none h]
            rw [this] at hj; simp at hj
        exact .inr ⟨hlt, by rw [getD_push_lt hlt]; exact hj⟩
  · have : (acc.push (o.after.foldl (fun s e => if Region.binds .any e then s ||| 2 ^ e.on ||| acc.getD e.on 0 else s) 0)).getD i 0 = 0 := by
      simp [Array.getElem?_push, Array.getElem?_eq_none (show acc.size ≤ i by omega), show i ≠ acc.size by omega]
    rw [this] at hij; simp at hij

theorem BInv.fold : ∀ (l pre : List Oper) (acc : Array Nat), BInv pre acc → BInv (pre ++ l) (l.foldl beforeStep acc)
  | [], pre, acc, h => by simpa using h
  | o :: l, pre, acc, h => by
    have := BInv.fold l (pre ++ [o]) _ (h.step o)
    simpa using this

def Waits (ops : Array Oper) (i j : Nat) : Bool := ((Region.before ops).getD i 0).testBit j
theorem waits_spec {ops : Array Oper} {i j : Nat} (h : Waits ops i j = true) : ∃ o, ops[i]? = some o ∧ ∃ e ∈ o.after, Region.binds .any e = true ∧ (e.on = j ∨ (e.on < i ∧ Waits ops e.on j = true)) := by
  have hb : BInv ([] ++ ops.toList) (ops.toList.foldl beforeStep #[]) := BInv.fold ops.toList [] #[] ⟨rfl, fun i j h => by simp at h⟩
  have he : Region.before ops = ops.toList.foldl beforeStep #[] := by
    unfold Region.before; rw [← Array.foldl_toList]; rfl
  unfold Waits at h ⊢
  rw [he] at h ⊢
  obtain ⟨o, ho, rest⟩ := hb.2 i j h
  exact ⟨o, by simpa using ho, rest⟩

def Closed (ops : Array Oper) (listed : Array Bool) : Prop :=
  ∀ (i : Nat) (o : Oper), ops[i]? = some o → listed.getD i false = true → ∀ e ∈ o.after, Region.binds .any e = true → listed.getD e.on false = true
theorem closed_waits {ops : Array Oper} {listed : Array Bool} (hc : Closed ops listed) {j : Nat} : ∀ (i : Nat), listed.getD i false = true → Waits ops i j = true → listed.getD j false = true := by
  intro i
  induction i using Nat.strongRecOn with
  | _ i ih =>
    intro hl hw
    obtain ⟨o, ho, e, he, hb, hj⟩ := waits_spec hw
    have hon := hc i o ho hl e he hb
    rcases hj with rfl | ⟨hlt, hw'⟩
    · exact hon
    · exact ih e.on hlt hon hw'
theorem ready_waits {ops : Array Oper} {listed : Array Bool} (hc : Closed ops listed) {i j : Nat} (hr : i ∈ Region.ready .any ops listed) (hw : Waits ops i j = true) : listed.getD j false = true := by
  obtain ⟨_, o, ho, hall⟩ := mem_ready.1 hr
  obtain ⟨o', ho', e, he, hb, hj⟩ := waits_spec hw
  rw [ho] at ho'; cases ho'
  have hon := hall e he hb
  rcases hj with rfl | ⟨hlt, hw'⟩
  · exact hon
  · exact closed_waits hc e.on hon hw'
theorem Closed.add {ops : Array Oper} {listed : Array Bool} (hc : Closed ops listed) {i : Nat} (hr : i ∈ Region.ready .any ops listed) : Closed ops (listed.setIfInBounds i true) := by
  obtain ⟨_, o, ho, hall⟩ := mem_ready.1 hr
  intro k o' ho' hl e he hb
  by_cases hk : i = k
  · subst hk
    rw [ho] at ho'; cases ho'
    exact getD_set_true (hall e he hb)
  · rw [getD_set_ne false hk] at hl
    exact getD_set_true (hc k o' ho' hl e he hb)

section
variable {P : Program} {ops : Array Oper} {w0 : World} {s : St} {a : Act} {w : World} {Q : Exit → Act → World → Prop}

theorem StepR.frame_back {i : Nat} {E : Eff} {dst : Option Tmp} {E' : Eff} (h : StepR P ops (s.app dst E') i E) {o : Oper} (ho : ops[i]? = some o) (hd : ∀ d, dst = some d → d ∉ o.looksAt ops) (hw : ∀ x ∈ E'.wr, x.1 ∉ E.rd) :
    StepR P ops s i E := by
  obtain ⟨o', ho', h⟩ := h
  rw [ho] at ho'; cases ho'
  refine ⟨o, ho, ?_⟩
  have hg0 : guardV ops (s.app dst E').tm o = guardV ops s.tm o := guardV_put hd
  rcases h with ⟨hg, hR⟩ | ⟨hg, rfl⟩
  · exact .inl ⟨by rw [← hg0]; exact hg, hR.frame (fun x hx => (operands_put hd x hx).symm) fun b hb => (wrote_ne fun x hx e => hw x hx (e ▸ hb)).symm⟩
  · exact .inr ⟨by rw [← hg0]; exact hg, rfl⟩

theorem wrote_set {b : Nat} {x : Blk} : ∀ {l : List (Nat × Blk)} {hp : List Blk}, (∀ y ∈ l, y.1 ≠ b) → wrote (hp.set b x) l = (wrote hp l).set b x
  | [], hp, _ => rfl
  | (d, y) :: l, hp, h => by
    simp only [wrote]
    rw [List.set_comm _ _ (Ne.symm (h (d, y) (by simp))), wrote_set (fun z hz => h z (by simp [hz]))]
theorem wrote_comm : ∀ {l1 l2 : List (Nat × Blk)} {hp : List Blk}, (∀ x ∈ l1, ∀ y ∈ l2, x.1 ≠ y.1) → wrote (wrote hp l1) l2 = wrote (wrote hp l2) l1
  | [], l2, hp, _ => rfl
  | (d, x) :: l, l2, hp, h => by
    simp only [wrote]
    rw [wrote_comm (fun y hy => h y (by simp [hy])), wrote_set (fun y hy => Ne.symm (h (d, x) (by simp) y hy))]
theorem app_comm {s : St} {d1 d2 : Option Tmp} {E1 E2 : Eff} (h : ∀ d, d1 = some d → d2 ≠ some d) (hw : ∀ x ∈ E1.wr, ∀ y ∈ E2.wr, x.1 ≠ y.1) : (s.app d1 E1).app d2 E2 = (s.app d2 E2).app d1 E1 := by
  unfold St.app
  congr 1
  · cases d1 with
    | none => rfl
    | some d =>
      cases d2 with
      | none => rfl
      | some d' =>
        have : d ≠ d' := fun e => h d rfl (by rw [e])
        exact List.set_comm _ _ this
  · exact wrote_comm hw

theorem swap {i j : Nat} {Ei Ej : Eff} (hj : StepR P ops s j Ej) (hi : StepR P ops (s.app (dstOf ops j) Ej) i Ei) (hc : Comm ops (j, Ej) (i, Ei)) :
    StepR P ops s i Ei ∧ StepR P ops (s.app (dstOf ops i) Ei) j Ej ∧ (s.app (dstOf ops j) Ej).app (dstOf ops i) Ei = (s.app (dstOf ops i) Ei).app (dstOf ops j) Ej := by
  obtain ⟨⟨x, y, hx, hy, hap⟩, hw1, hw2⟩ := hc
  obtain ⟨h1, h2, h3⟩ := Oper.apart_spec hap
  have dj : dstOf ops j = x.dst := by have : ops[j]? = some x := hx; simp [dstOf, this]
  have di : dstOf ops i = y.dst := by have : ops[i]? = some y := hy; simp [dstOf, this]
  have hrd := hi.wr_rd
  rw [dj] at hi ⊢
  rw [di]
  refine ⟨hi.frame_back hy h1 hw1, hj.frame hx h3 hw2, app_comm h2 fun x hx y hy e => ?_⟩
  exact hw1 x hx (e ▸ hrd y hy)

theorem bubble {i : Nat} {E : Eff} {l2 : List (Nat × Eff)} {s' : St} : ∀ (l1 : List (Nat × Eff)) (s : St), RunR P ops (l1 ++ (i, E) :: l2) s s' → (∀ p ∈ l1, Comm ops p (i, E)) → RunR P ops ((i, E) :: (l1 ++ l2)) s s'
  | [], s, h, _ => h
  | (j, F) :: l1, s, h, hc => by
    cases h with
    | cons hS ht =>
      have := bubble l1 _ ht fun p hp => hc p (by simp [hp])
      cases this with
      | cons hS' ht' =>
        obtain ⟨g1, g2, g3⟩ := swap hS hS' (hc (j, F) (by simp))
        refine .cons g1 (.cons g2 ?_)
        rw [← g3]; exact ht'

/-- **One run in the order of the text serves every order.** -/
theorem any_of_run (hedge : ∀ (i : Nat) (o : Oper), ops[i]? = some o → ∀ e ∈ o.after, Region.binds .any e = true → e.on < i) :
    ∀ (n : Nat) (l : List (Nat × Eff)) (s s' : St) (listed : Array Bool) (a : Act) (w : World), l.length = n → RunR P ops l s s' → (l.map (·.1)).Pairwise (· < ·) → listed.size = ops.size →
      (∀ i, i ∈ l.map (·.1) ↔ listed.getD i true = false) → Closed ops listed → l.Pairwise (fun p q => Waits ops q.1 p.1 = true ∨ Comm ops p q) → RelE w0 s a w → (∀ a' w', RelE w0 s' a' w' → Q .normal a' w') →
      wpAny P .any ops Q n listed a w := by
  intro n
  induction n with
  | zero =>
    intro l s s' listed a w hl hr hso hsz hmem hc hp h hQ
    have : l = [] := List.length_eq_zero_iff.1 hl
    subst this
    cases hr
    refine ⟨?_, hQ _ _ h⟩
    cases hrd : Region.ready .any ops listed with
    | nil => rfl
    | cons i rest =>
      have hi : i ∈ Region.ready .any ops listed := by rw [hrd]; simp
      have := (hmem i).2 (mem_ready.1 hi).1
      simp at this
  | succ n ih =>
    intro l s s' listed a w hl hr hso hsz hmem hc hp h hQ
    have lt_of : ∀ i, listed.getD i true = false → i < ops.size := fun i hi => by
      rcases Nat.lt_or_ge i ops.size with g | g
      · exact g
      · rw [← hsz] at g; simp [Array.getElem?_eq_none g] at hi
    have tf : ∀ i, i < ops.size → listed.getD i true ≠ false → listed.getD i false = true := fun i hi hne => by
      rw [← hsz] at hi
      simp [hi] at hne ⊢; exact hne
    refine ⟨fun h0 => ?_, fun i hi => ?_⟩
    · -- the head is ready
      cases l with
      | nil => simp at hl
      | cons p l =>
        obtain ⟨i, E⟩ := p
        exfalso
        have hun := (hmem i).1 (by simp)
        have hlt := lt_of i hun
        have hin : i ∈ Region.ready .any ops listed := by
          refine mem_ready.2 ⟨hun, ops[i], by simp [hlt], fun e he hb => ?_⟩
          have hon := hedge i _ (by simp [hlt]) e he hb
          refine tf e.on (by omega) fun hf => ?_
          have hm := (hmem e.on).2 hf
          simp only [List.map_cons, List.mem_cons] at hm
          rcases hm with hm | hm
          · omega
          · have : i < e.on := (List.pairwise_cons.1 hso).1 e.on hm
            omega
        rw [h0] at hin; cases hin
    · have hun := (mem_ready.1 hi).1
      obtain ⟨p, hpl, hpi⟩ := List.mem_map.1 ((hmem i).2 hun)
      obtain ⟨i', E⟩ := p
      simp only at hpi; subst hpi
      obtain ⟨l1, l2, rfl⟩ := List.append_of_mem hpl
      have hcomm : ∀ p ∈ l1, Comm ops p (i', E) := fun p hp1 => by
        rcases (List.pairwise_append.1 hp).2.2 p hp1 (i', E) (by simp) with hw | hc'
        · have hlst := ready_waits hc hi hw
          have := (hmem p.1).1 (List.mem_map.2 ⟨p, by simp [hp1], rfl⟩)
          rcases Nat.lt_or_ge p.1 listed.size with g | g
          · simp [g] at hlst this; rw [hlst] at this; cases this
          · simp [Array.getElem?_eq_none g] at this
        · exact hc'
      have hb := bubble l1 s hr hcomm
      cases hb with
      | cons hS ht =>
        refine hS.sound h fun a' w' h' => ih (l1 ++ l2) _ s' _ a' w' (by simp at hl ⊢; omega) ht ?_ (by simpa using hsz) ?_ (hc.add hi) ?_ h' hQ
        · have := hso
          simp only [List.map_append, List.map_cons] at this ⊢
          rw [List.pairwise_append] at this ⊢
          exact ⟨this.1, (List.pairwise_cons.1 this.2.1).2, fun x hx y hy => this.2.2 x hx y (by simp [hy])⟩
        · intro k
          have hlt := lt_of i' hun
          have hnd : ∀ x, x ∈ (l1 ++ l2).map (·.1) ↔ x ≠ i' ∧ x ∈ (l1 ++ (i', E) :: l2).map (·.1) := fun x => by
            have hpw := hso
            simp only [List.map_append, List.map_cons] at hpw
            rw [List.pairwise_append] at hpw
            simp only [List.map_append, List.map_cons, List.mem_append, List.mem_cons]
            constructor
            · rintro (hx | hx)
              · exact ⟨fun e => by have := hpw.2.2 x hx i' (by simp); omega, .inl hx⟩
              · exact ⟨fun e => by have := (List.pairwise_cons.1 hpw.2.1).1 x hx; omega, .inr (.inr hx)⟩
            · rintro ⟨hne, hx | hx | hx⟩
              · exact .inl hx
              · exact absurd hx hne
              · exact .inr hx
          rw [hnd k, hmem k]
          by_cases hk : k = i'
          · subst hk
            simp [hsz, hlt]
          · rw [getD_set_ne true (Ne.symm hk)]; simp [hk]
        · rw [List.pairwise_append] at hp ⊢
          exact ⟨hp.1, (List.pairwise_cons.1 hp.2.1).2, fun x hx y hy => hp.2.2 x hx y (by simp [hy])⟩
end

end Go.Proofs.Ytmkhglpfhnocaaa.Ev
