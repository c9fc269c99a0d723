/- Forests of labelled links, in plain Lean: connected ids, trails, and the search for a path. -/
set_option linter.unusedVariables false
set_option linter.unusedSimpArgs false
namespace Forest17
/-- A link: its two ids and its label. -/
abbrev Lk := Int × Int × Int
/-- Link k joins x and o. -/
def Inc (ls : List Lk) (k : Nat) (x o : Int) : Prop := ∃ l, ls[k]? = some l ∧ ((l.1 = x ∧ l.2.1 = o) ∨ (l.2.1 = x ∧ l.1 = o))
theorem Inc.symm {ls : List Lk} {k : Nat} {x o : Int} (h : Inc ls k x o) : Inc ls k o x := by
  obtain ⟨l, h1, h2⟩ := h
  exact ⟨l, h1, h2.symm.imp (fun e => ⟨e.2, e.1⟩) fun e => ⟨e.2, e.1⟩⟩
theorem Inc.ends {ls : List Lk} {k : Nat} {x o x' o' : Int} (h : Inc ls k x o) (h' : Inc ls k x' o') : (x' = x ∧ o' = o) ∨ (x' = o ∧ o' = x) := by
  obtain ⟨l, h1, h2⟩ := h
  obtain ⟨l', h1', h2'⟩ := h'
  rw [h1] at h1'
  cases h1'
  rcases h2 with ⟨rfl, rfl⟩ | ⟨rfl, rfl⟩ <;> rcases h2' with ⟨rfl, rfl⟩ | ⟨rfl, rfl⟩ <;> simp
/-- Connected by the links of A. -/
inductive Cn (ls : List Lk) (A : Nat → Prop) : Int → Int → Prop
  | refl (x : Int) : Cn ls A x x
  | step {k : Nat} {x o z : Int} (ha : A k) (hi : Inc ls k x o) (h : Cn ls A o z) : Cn ls A x z
theorem Cn.trans {ls : List Lk} {A : Nat → Prop} {x y z : Int} (h : Cn ls A x y) (h' : Cn ls A y z) : Cn ls A x z := by
  induction h with
  | refl x => exact h'
  | step ha hi _ ih => exact .step ha hi (ih h')
theorem Cn.one {ls : List Lk} {A : Nat → Prop} {k : Nat} {x o : Int} (ha : A k) (hi : Inc ls k x o) : Cn ls A x o := .step ha hi (.refl _)
theorem Cn.symm {ls : List Lk} {A : Nat → Prop} {x y : Int} (h : Cn ls A x y) : Cn ls A y x := by
  induction h with
  | refl x => exact .refl x
  | step ha hi _ ih => exact ih.trans (.one ha hi.symm)
theorem Cn.mono {ls : List Lk} {A B : Nat → Prop} (hAB : ∀ k, A k → B k) {x y : Int} (h : Cn ls A x y) : Cn ls B x y := by
  induction h with
  | refl x => exact .refl x
  | step ha hi _ ih => exact .step (hAB _ ha) hi ih
/-- A without k. -/
def Wo (A : Nat → Prop) (k : Nat) : Nat → Prop := fun j => A j ∧ j ≠ k
theorem Cn.wo {ls : List Lk} {A : Nat → Prop} {k : Nat} {x y : Int} (h : Cn ls (Wo A k) x y) : Cn ls A x y := h.mono fun _ h => h.1
/-- A connection uses a link, or it does not. -/
theorem Cn.split {ls : List Lk} {A : Nat → Prop} {x z : Int} (h : Cn ls A x z) (k : Nat) : Cn ls (Wo A k) x z ∨ A k ∧ ∃ p q, Inc ls k p q ∧ Cn ls (Wo A k) x p ∧ Cn ls A q z := by
  induction h with
  | refl x => exact .inl (.refl x)
  | @step j x o z ha hi h ih =>
    by_cases e : j = k
    · subst e; exact .inr ⟨ha, x, o, hi, .refl x, h⟩
    · rcases ih with ih | ⟨hk, p, q, h1, h2, h3⟩
      · exact .inl (.step ⟨ha, e⟩ hi ih)
      · exact .inr ⟨hk, p, q, h1, .step ⟨ha, e⟩ hi h2, h3⟩
/-- A connection that never comes to x. -/
inductive Av (ls : List Lk) (A : Nat → Prop) (x : Int) : Int → Int → Prop
  | refl (y : Int) (h : y ≠ x) : Av ls A x y y
  | step {k : Nat} {y o z : Int} (hy : y ≠ x) (ha : A k) (hi : Inc ls k y o) (h : Av ls A x o z) : Av ls A x y z
theorem Av.ne {ls : List Lk} {A : Nat → Prop} {x y z : Int} (h : Av ls A x y z) : y ≠ x := by cases h <;> assumption
theorem Av.cn {ls : List Lk} {A : Nat → Prop} {x y z : Int} (h : Av ls A x y z) {k : Nat} {o : Int} (hk : Inc ls k x o) : Cn ls (Wo A k) y z := by
  induction h with
  | refl y h => exact .refl y
  | @step j y o' z hy ha hi h ih =>
    refine .step ⟨ha, fun e => ?_⟩ hi ih
    subst e
    rcases hk.ends hi with ⟨h1, h2⟩ | ⟨h1, h2⟩
    · exact hy h1
    · exact h.ne h2
theorem Cn.last {ls : List Lk} {A : Nat → Prop} {y z : Int} (h : Cn ls A y z) (x : Int) : Av ls A x y z ∨ (∃ k o, A k ∧ Inc ls k x o ∧ Av ls A x o z) ∨ x = z := by
  induction h with
  | refl y =>
    by_cases e : y = x
    · exact .inr (.inr e.symm)
    · exact .inl (.refl y e)
  | @step k y o z ha hi h ih =>
    rcases ih with ih | ih
    · by_cases e : y = x
      · subst e; exact .inr (.inl ⟨k, o, ha, hi, ih⟩)
      · exact .inl (.step e ha hi ih)
    · exact .inr ih
/-- The first link of a connection. -/
theorem Cn.first {ls : List Lk} {A : Nat → Prop} {x z : Int} (h : Cn ls A x z) (hne : x ≠ z) : ∃ k o, A k ∧ Inc ls k x o ∧ Cn ls (Wo A k) o z := by
  rcases h.last x with h | ⟨k, o, h1, h2, h3⟩ | h
  · exact absurd rfl h.ne
  · exact ⟨k, o, h1, h2, h3.cn h2⟩
  · exact absurd h hne
/-- No link closes a ring. -/
def For (ls : List Lk) : Prop := ∀ k x o, Inc ls k x o → ¬ Cn ls (fun j => j ≠ k) x o
theorem For.cut {ls : List Lk} (hf : For ls) {A : Nat → Prop} {k : Nat} {x o : Int} (h : Inc ls k x o) : ¬ Cn ls (Wo A k) x o := fun e => hf k x o h (e.mono fun _ h => h.2)
/-- Away from x over k, a connection needs no other link of x. -/
theorem For.away {ls : List Lk} (hf : For ls) {A : Nat → Prop} {k j : Nat} {x o o' z : Int} (hk : Inc ls k x o) (hj : Inc ls j x o') (h : Cn ls (Wo A k) o z) : Cn ls (Wo (Wo A k) j) o z := by
  rcases h.split j with h | ⟨ha, p, q, h1, h2, h3⟩
  · exact h
  · exfalso
    rcases hj.ends h1 with ⟨rfl, rfl⟩ | ⟨rfl, rfl⟩
    · exact hf.cut hk h2.wo.symm
    · exact hf.cut hk (Cn.symm (h2.wo.trans (.one ha hj.symm)))
/-- The other id of a link; the link as it leads away from an id. -/
def other (l : Lk) (x : Int) : Int := if l.1 = x then l.2.1 else l.1
def away (l : Lk) (x : Int) : Lk := if l.1 = x then l else (l.2.1, l.1, l.2.2)
def At (l : Lk) (x : Int) : Prop := l.1 = x ∨ l.2.1 = x
instance (l : Lk) (x : Int) : Decidable (At l x) := by unfold At; exact inferInstance
theorem inc_at {ls : List Lk} {k : Nat} {l : Lk} {x : Int} (h : ls[k]? = some l) (ha : At l x) : Inc ls k x (other l x) := by
  unfold other
  by_cases e : l.1 = x
  · rw [if_pos e]; exact ⟨l, h, .inl ⟨e, rfl⟩⟩
  · rw [if_neg e]; exact ⟨l, h, .inr ⟨ha.resolve_left e, rfl⟩⟩
theorem at_inc {ls : List Lk} {k : Nat} {l : Lk} {x o : Int} (h : ls[k]? = some l) (hi : Inc ls k x o) : At l x := by
  obtain ⟨l', h', hx⟩ := hi
  rw [h] at h'; cases h'
  exact hx.imp (·.1) (·.1)
theorem For.ne {ls : List Lk} (hf : For ls) {k : Nat} {x o : Int} (h : Inc ls k x o) : x ≠ o := fun e => hf k x o h (by rw [e]; exact .refl _)
theorem other_eq {ls : List Lk} (hf : For ls) {k : Nat} {l : Lk} {x o : Int} (h : ls[k]? = some l) (hi : Inc ls k x o) : other l x = o := by
  have h1 := inc_at h (at_inc h hi)
  rcases hi.ends h1 with ⟨_, e⟩ | ⟨e, _⟩
  · exact e
  · exact absurd e (hf.ne hi)
/-- A walk: the links in order, and each as it leads away from where one stands. -/
inductive Wk (ls : List Lk) : Int → Int → List Nat → List Lk → Prop
  | nil (a : Int) : Wk ls a a [] []
  | cons {k : Nat} {l : Lk} {a b : Int} {ks : List Nat} {p : List Lk} (h : ls[k]? = some l) (ha : At l a) (t : Wk ls (other l a) b ks p) : Wk ls a b (k :: ks) (away l a :: p)
/-- A trail uses no link twice, and links of A alone. -/
def Tr (ls : List Lk) (A : Nat → Prop) (a b : Int) (ks : List Nat) (p : List Lk) : Prop := Wk ls a b ks p ∧ ks.Nodup ∧ ∀ k, k ∈ ks → A k
theorem Wk.cn {ls : List Lk} {a b : Int} {ks : List Nat} {p : List Lk} (h : Wk ls a b ks p) {A : Nat → Prop} (hA : ∀ k, k ∈ ks → A k) : Cn ls A a b := by
  induction h with
  | nil a => exact .refl a
  | cons h ha t ih => exact .step (hA _ (List.mem_cons_self ..)) (inc_at h ha) (ih fun k hk => hA k (List.mem_cons_of_mem _ hk))
theorem Tr.tail {ls : List Lk} {A : Nat → Prop} {k : Nat} {l : Lk} {a b : Int} {ks : List Nat} {p : List Lk} (h : ls[k]? = some l) (t : Wk ls (other l a) b ks p) (hn : (k :: ks).Nodup) (hA : ∀ j, j ∈ k :: ks → A j) : Tr ls (Wo A k) (other l a) b ks p := by
  obtain ⟨h1, h2⟩ := List.nodup_cons.1 hn
  exact ⟨t, h2, fun j hj => ⟨hA j (List.mem_cons_of_mem _ hj), fun e => h1 (e ▸ hj)⟩⟩
/-- A trail from an id to itself is empty. -/
theorem For.ring {ls : List Lk} (hf : For ls) {A : Nat → Prop} {a : Int} {ks : List Nat} {p : List Lk} (h : Tr ls A a a ks p) : ks = [] := by
  obtain ⟨hw, hn, hA⟩ := h
  cases hw with
  | nil => rfl
  | cons h ha t =>
    have tt := Tr.tail h t hn hA
    exact absurd (tt.1.cn tt.2.2).symm (hf.cut (inc_at h ha))
/-- There is one trail at most. -/
theorem For.uniq {ls : List Lk} (hf : For ls) : ∀ {A B : Nat → Prop} {a b : Int} {ks ks' : List Nat} {p p' : List Lk}, Tr ls A a b ks p → Tr ls B a b ks' p' → ks = ks' ∧ p = p' := by
  intro A B a b ks
  induction ks generalizing A B a with
  | nil =>
    intro ks' p p' h h'
    obtain ⟨hw, _, _⟩ := h
    cases hw
    have := hf.ring h'
    subst this
    obtain ⟨hw', _, _⟩ := h'
    cases hw'
    exact ⟨rfl, rfl⟩
  | cons k ks ih =>
    intro ks' p p' h h'
    have h0 := h
    obtain ⟨hw, hn, hA⟩ := h
    cases hw with
    | @cons _ l _ _ _ p1 hl ha t =>
      have tt := Tr.tail hl t hn hA
      have h0' := h'
      obtain ⟨hw', hn', hB⟩ := h'
      cases hw' with
      | nil => exact absurd (hf.ring h0) (by simp)
      | @cons k' l' _ _ ks1 p2 hl' ha' t' =>
        have tt' := Tr.tail hl' t' hn' hB
        by_cases e : k = k'
        · subst e
          rw [hl] at hl'
          cases hl'
          obtain ⟨e1, e2⟩ := ih tt tt'
          exact ⟨by rw [e1], by rw [e2]⟩
        · exfalso
          have c1 : Cn ls (Wo A k) (other l a) b := tt.1.cn tt.2.2
          have c2 : Cn ls (Wo B k') (other l' a) b := tt'.1.cn tt'.2.2
          have c3 := hf.away (inc_at hl' ha') (inc_at hl ha) c2
          refine hf k a (other l a) (inc_at hl ha) ?_
          refine .step (k := k') (fun e2 => e e2.symm) (inc_at hl' ha') ?_
          exact (c3.mono fun _ h => h.2).trans (c1.mono fun _ h => h.2).symm
theorem Wk.mem {ls : List Lk} {a b : Int} {ks : List Nat} {p : List Lk} (h : Wk ls a b ks p) {A : Nat → Prop} (hA : ∀ k, k ∈ ks → A k) {j : Nat} (hj : j ∈ ks) : ∃ z w, Inc ls j z w ∧ Cn ls A a z := by
  induction h with
  | nil a => cases hj
  | @cons k l a b ks p h ha t ih =>
    rcases List.mem_cons.1 hj with rfl | hj
    · exact ⟨a, _, inc_at h ha, .refl a⟩
    · obtain ⟨z, w, h1, h2⟩ := ih (fun k hk => hA k (List.mem_cons_of_mem _ hk)) hj
      exact ⟨z, w, h1, .step (hA k (List.mem_cons_self ..)) (inc_at h ha) h2⟩
/-! ### the search -/
def near (ls : List Lk) (x : Int) : List Nat := (List.range ls.length).filter fun k => match ls[k]? with | some l => decide (At l x) | none => false
theorem mem_near {ls : List Lk} {x : Int} {k : Nat} : k ∈ near ls x ↔ ∃ l, ls[k]? = some l ∧ At l x := by
  unfold near
  rw [List.mem_filter, List.mem_range]
  constructor
  · rintro ⟨h, h2⟩
    rw [List.getElem?_eq_getElem h] at h2 ⊢
    exact ⟨_, rfl, of_decide_eq_true h2⟩
  · rintro ⟨l, h, h2⟩
    exact ⟨(List.getElem?_eq_some_iff.1 h).1, by rw [h]; exact decide_eq_true h2⟩
def loopD (rec : Int → Int → Option (Option (List Lk))) (ls : List Lk) (at_ fr : Int) : List Nat → Option (Option (List Lk))
  | [] => some none
  | k :: ks => if (k : Int) = fr then loopD rec ls at_ fr ks else match ls[k]? with
    | none => none
    | some l => match rec (other l at_) k with
      | none => none
      | some (some p) => some (some (away l at_ :: p))
      | some none => loopD rec ls at_ fr ks
def dfs (ls : List Lk) (b : Int) : Nat → Int → Int → Option (Option (List Lk))
  | 0, _, _ => none
  | f + 1, at_, fr => if at_ = b then some (some []) else loopD (dfs ls b f) ls at_ fr (near ls at_)
def Fr (fr : Int) : Nat → Prop := fun j => (j : Int) ≠ fr
/-- The links of the part of an id. -/
def Part (ls : List Lk) (at_ fr : Int) (j : Nat) : Prop := Fr fr j ∧ ∃ z w, Inc ls j z w ∧ Cn ls (Fr fr) at_ z
/-- One came over a link. -/
def Came (ls : List Lk) (at_ fr : Int) : Prop := ∀ f0 : Nat, (f0 : Int) = fr → ∃ w, Inc ls f0 at_ w
theorem fr_eq (k : Nat) : (Fr (k : Int)) = fun j => j ≠ k := by funext j; unfold Fr; simp [Int.natCast_inj]
theorem For.cutF {ls : List Lk} (hf : For ls) {k : Nat} {x o : Int} (h : Inc ls k x o) : ¬ Cn ls (Fr (k : Int)) x o := by rw [fr_eq]; exact hf k x o h
/-- Behind a link lies a smaller part. -/
theorem For.behind {ls : List Lk} (hf : For ls) {at_ fr : Int} (hc : Came ls at_ fr) {k : Nat} {o : Int} (hk : Inc ls k at_ o) (hkf : (k : Int) ≠ fr) {z : Int} (h : Cn ls (Fr (k : Int)) o z) : Cn ls (Fr fr) at_ z := by
  refine .step (k := k) hkf hk ?_
  by_cases e : ∃ f0 : Nat, (f0 : Int) = fr
  · obtain ⟨f0, hf0⟩ := e
    obtain ⟨w, hw⟩ := hc f0 hf0
    have h' : Cn ls (Wo (fun _ => True) k) o z := h.mono fun j hj => ⟨trivial, by rw [fr_eq] at hj; exact hj⟩
    exact (hf.away hk hw h').mono fun j hj e2 => hj.2 (by rw [← hf0] at e2; exact Int.natCast_inj.1 e2)
  · exact h.mono fun j _ e2 => e ⟨j, e2⟩
theorem For.part {ls : List Lk} (hf : For ls) {at_ fr : Int} (hc : Came ls at_ fr) {k : Nat} {o : Int} (hk : Inc ls k at_ o) (hkf : (k : Int) ≠ fr) {j : Nat} (h : Part ls o k j) : Part ls at_ fr j := by
  obtain ⟨h1, z, w, h2, h3⟩ := h
  refine ⟨fun e => ?_, z, w, h2, hf.behind hc hk hkf h3⟩
  obtain ⟨w', hw'⟩ := hc j e
  rcases hw'.ends h2 with ⟨rfl, rfl⟩ | ⟨rfl, rfl⟩
  · exact hf.cutF hk h3.symm
  · exact hf.cutF hk (Cn.symm (h3.trans (.one h1 hw'.symm)))
theorem dfs_spec {ls : List Lk} (hf : For ls) (b : Int) : ∀ (f : Nat) (E : List Nat) (at_ fr : Int), E.length < f → (∀ j, Part ls at_ fr j → j ∈ E) → Came ls at_ fr →
    ∃ r, dfs ls b f at_ fr = some r ∧ match r with
      | some p => ∃ ks, Tr ls (Fr fr) at_ b ks p
      | none => ¬ Cn ls (Fr fr) at_ b
  | 0, E, at_, fr, hl, _, _ => by omega
  | f + 1, E, at_, fr, hl, hE, hc => by
    unfold dfs
    by_cases e : at_ = b
    · rw [if_pos e]
      exact ⟨_, rfl, [], by rw [e]; exact .nil b, List.nodup_nil, fun k hk => by cases hk⟩
    · rw [if_neg e]
      have key : ∀ (L : List Nat), (∀ k, k ∈ L → k ∈ near ls at_) → ∃ r, loopD (dfs ls b f) ls at_ fr L = some r ∧ match r with
          | some p => ∃ ks, Tr ls (Fr fr) at_ b ks p
          | none => ∀ k, k ∈ L → (k : Int) ≠ fr → ∀ o, Inc ls k at_ o → ¬ Cn ls (Fr (k : Int)) o b := by
        intro L
        induction L with
        | nil => intro _; exact ⟨none, rfl, fun k hk => by cases hk⟩
        | cons k L ih =>
          intro hL
          obtain ⟨r, hr, hr2⟩ := ih fun j hj => hL j (List.mem_cons_of_mem _ hj)
          unfold loopD
          by_cases ek : (k : Int) = fr
          · rw [if_pos ek, hr]
            refine ⟨r, rfl, ?_⟩
            cases r with
            | some p => exact hr2
            | none => exact fun j hj hne o ho => (List.mem_cons.1 hj).elim (fun e2 => absurd (by rw [e2]; exact ek) hne) fun hj => hr2 j hj hne o ho
          · rw [if_neg ek]
            obtain ⟨l, hl2, hla⟩ := mem_near.1 (hL k (List.mem_cons_self ..))
            have hi := inc_at hl2 hla
            have hkE : k ∈ E := hE k ⟨ek, at_, _, hi, .refl _⟩
            obtain ⟨q, hq, hq2⟩ := dfs_spec hf b f (E.erase k) (other l at_) k (by rw [List.length_erase_of_mem hkE]; have := List.length_pos_of_mem hkE; omega)
              (fun j hj => (List.mem_erase_of_ne (by have h := hj.1; rw [fr_eq] at h; exact h)).2 (hE j (hf.part hc hi ek hj))) (fun f0 h0 => by
                have : f0 = k := Int.natCast_inj.1 h0
                subst this; exact ⟨at_, hi.symm⟩)
            rw [hl2]
            simp only
            rw [hq]
            cases q with
            | some p =>
              obtain ⟨ks, ht, hn, hA⟩ := hq2
              refine ⟨_, rfl, k :: ks, .cons hl2 hla ht, List.nodup_cons.2 ⟨fun hm => ?_, hn⟩, fun j hj => ?_⟩
              · have := hA k hm; rw [fr_eq] at this; exact this rfl
              · rcases List.mem_cons.1 hj with rfl | hj
                · exact ek
                · obtain ⟨z, w, h1, h2⟩ := ht.mem hA hj
                  exact (hf.part hc hi ek ⟨hA j hj, z, w, h1, h2⟩).1
            | none =>
              refine ⟨r, hr, ?_⟩
              cases r with
              | some p => exact hr2
              | none =>
                refine fun j hj hne o ho => (List.mem_cons.1 hj).elim (fun e2 => ?_) fun hj => hr2 j hj hne o ho
                subst e2
                rw [← other_eq hf hl2 ho]
                exact hq2
      obtain ⟨r, hr, hr2⟩ := key (near ls at_) fun k hk => hk
      refine ⟨r, hr, ?_⟩
      cases r with
      | some p => exact hr2
      | none =>
        intro hcn
        obtain ⟨k, o, h1, h2, h3⟩ := hcn.first e
        have h2' := h2
        obtain ⟨l, hl2, _⟩ := h2'
        exact hr2 k (mem_near.2 ⟨l, hl2, at_inc hl2 h2⟩) h1 o h2 (h3.mono fun j hj => by rw [fr_eq]; exact hj.2)
theorem inc_lt {ls : List Lk} {k : Nat} {x o : Int} (h : Inc ls k x o) : k < ls.length := by
  obtain ⟨l, h1, _⟩ := h
  exact (List.getElem?_eq_some_iff.1 h1).1
theorem dfs_top {ls : List Lk} (hf : For ls) (a b : Int) : ∃ r, dfs ls b (ls.length + 1) a (-1) = some r ∧ match r with
    | some p => ∃ ks, Tr ls (fun _ => True) a b ks p
    | none => ¬ Cn ls (fun _ => True) a b := by
  have hfr : ∀ j, Fr (-1) j := fun j e => by omega
  obtain ⟨r, h1, h2⟩ := dfs_spec hf b (ls.length + 1) (List.range ls.length) a (-1) (by simp) (fun j ⟨_, z, w, hi, _⟩ => List.mem_range.2 (inc_lt hi)) (fun f0 h => by omega)
  refine ⟨r, h1, ?_⟩
  cases r with
  | some p => obtain ⟨ks, t, n, _⟩ := h2; exact ⟨ks, t, n, fun _ _ => trivial⟩
  | none => exact fun h => h2 (h.mono fun j _ => hfr j)
/-! ### a path, and what is known of it -/
def pathS (ls : List Lk) (a b : Int) : Option (List Lk) := (dfs ls b (ls.length + 1) a (-1)).bind id
theorem pathS_dfs {ls : List Lk} (hf : For ls) (a b : Int) : dfs ls b (ls.length + 1) a (-1) = some (pathS ls a b) := by
  obtain ⟨r, h1, _⟩ := dfs_top hf a b
  unfold pathS
  rw [h1]; rfl
theorem pathS_some {ls : List Lk} (hf : For ls) {a b : Int} {p : List Lk} (h : pathS ls a b = some p) : ∃ ks, Tr ls (fun _ => True) a b ks p := by
  obtain ⟨r, h1, h2⟩ := dfs_top hf a b
  unfold pathS at h
  rw [h1] at h
  have h : r = some p := h
  subst h
  exact h2
theorem pathS_none {ls : List Lk} (hf : For ls) {a b : Int} (h : pathS ls a b = none) : ¬ Cn ls (fun _ => True) a b := by
  obtain ⟨r, h1, h2⟩ := dfs_top hf a b
  unfold pathS at h
  rw [h1] at h
  have h : r = none := h
  subst h
  exact h2
theorem pathS_iff {ls : List Lk} (hf : For ls) {a b : Int} : (pathS ls a b).isSome = true ↔ Cn ls (fun _ => True) a b := by
  cases h : pathS ls a b with
  | none => simp; exact pathS_none hf h
  | some p =>
    simp
    obtain ⟨ks, t, _, _⟩ := pathS_some hf h
    exact t.cn fun _ _ => trivial
theorem pathS_of {ls : List Lk} (hf : For ls) {a b : Int} {ks : List Nat} {p : List Lk} (h : Tr ls (fun _ => True) a b ks p) : pathS ls a b = some p := by
  cases e : pathS ls a b with
  | none => exact absurd (h.1.cn fun _ _ => trivial) (pathS_none hf e)
  | some q =>
    obtain ⟨ks', t⟩ := pathS_some hf e
    rw [(hf.uniq h t).2]
/-! ### one link more -/
theorem get_app {ls : List Lk} {e : Lk} {k : Nat} {l : Lk} (h : (ls ++ [e])[k]? = some l) : ls[k]? = some l ∨ (k = ls.length ∧ l = e) := by
  rw [List.getElem?_append] at h
  split at h
  · exact .inl h
  · rename_i hk
    have : k - ls.length = 0 := by
      have := (List.getElem?_eq_some_iff.1 h).1
      simp at this; exact this
    rw [this] at h
    cases h
    exact .inr ⟨by omega, rfl⟩
theorem Inc.app {ls : List Lk} {more : List Lk} {k : Nat} {x o : Int} (h : Inc ls k x o) : Inc (ls ++ more) k x o := by
  obtain ⟨l, h1, h2⟩ := h
  exact ⟨l, by rw [List.getElem?_append_left (List.getElem?_eq_some_iff.1 h1).1]; exact h1, h2⟩
theorem Cn.app {ls more : List Lk} {A : Nat → Prop} {x y : Int} (h : Cn ls A x y) : Cn (ls ++ more) A x y := by
  induction h with
  | refl x => exact .refl x
  | step ha hi _ ih => exact .step ha hi.app ih
theorem Cn.unapp {ls : List Lk} {e : Lk} {A : Nat → Prop} {x y : Int} (h : Cn (ls ++ [e]) A x y) (hA : ¬ A ls.length) : Cn ls A x y := by
  induction h with
  | refl x => exact .refl x
  | @step k x o z ha hi _ ih =>
    obtain ⟨l, h1, h2⟩ := hi
    rcases get_app h1 with h1 | ⟨rfl, _⟩
    · exact .step ha ⟨l, h1, h2⟩ ih
    · exact absurd ha hA
theorem Inc.last {ls : List Lk} {e : Lk} {x o : Int} (h : Inc (ls ++ [e]) ls.length x o) : (x = e.1 ∧ o = e.2.1) ∨ (x = e.2.1 ∧ o = e.1) := by
  obtain ⟨l, h1, h2⟩ := h
  rw [List.getElem?_append_right (Nat.le_refl _), Nat.sub_self] at h1
  cases h1
  exact h2.imp (fun h => ⟨h.1.symm, h.2.symm⟩) fun h => ⟨h.1.symm, h.2.symm⟩
theorem inc_last (ls : List Lk) (e : Lk) : Inc (ls ++ [e]) ls.length e.1 e.2.1 := ⟨e, by rw [List.getElem?_append_right (Nat.le_refl _), Nat.sub_self]; rfl, .inl ⟨rfl, rfl⟩⟩
/-- Who is connected when a link has come. -/
theorem Cn.snoc {ls : List Lk} {e : Lk} {A : Nat → Prop} {x y : Int} (h : Cn (ls ++ [e]) A x y) : Cn ls A x y ∨ (Cn ls A x e.1 ∧ Cn ls A e.2.1 y) ∨ (Cn ls A x e.2.1 ∧ Cn ls A e.1 y) := by
  induction h with
  | refl x => exact .inl (.refl x)
  | @step k x o z ha hi _ ih =>
    obtain ⟨l, h1, h2⟩ := hi
    rcases get_app h1 with h1 | ⟨rfl, rfl⟩
    · have hi : Inc ls k x o := ⟨l, h1, h2⟩
      rcases ih with ih | ⟨i1, i2⟩ | ⟨i1, i2⟩
      · exact .inl (.step ha hi ih)
      · exact .inr (.inl ⟨.step ha hi i1, i2⟩)
      · exact .inr (.inr ⟨.step ha hi i1, i2⟩)
    · rcases h2 with ⟨rfl, rfl⟩ | ⟨rfl, rfl⟩
      · rcases ih with ih | ⟨i1, i2⟩ | ⟨i1, i2⟩
        · exact .inr (.inl ⟨.refl _, ih⟩)
        · exact .inr (.inl ⟨.refl _, i2⟩)
        · exact .inl i2
      · rcases ih with ih | ⟨i1, i2⟩ | ⟨i1, i2⟩
        · exact .inr (.inr ⟨.refl _, ih⟩)
        · exact .inl i2
        · exact .inr (.inr ⟨.refl _, i2⟩)
theorem For.nil : For [] := fun k x o h => by obtain ⟨l, h1, _⟩ := h; simp at h1
theorem For.snoc {ls : List Lk} (hf : For ls) {e : Lk} (he : ¬ Cn ls (fun _ => True) e.1 e.2.1) : For (ls ++ [e]) := by
  intro k x o hi hc
  have hi0 := hi
  obtain ⟨l, h1, h2⟩ := hi
  rcases get_app h1 with h1 | ⟨rfl, rfl⟩
  · have hk : Inc ls k x o := ⟨l, h1, h2⟩
    have hone : Cn ls (fun _ => True) x o := .one trivial hk
    have up : ∀ {y z : Int}, Cn ls (fun j => j ≠ k) y z → Cn ls (fun _ => True) y z := fun h => h.mono fun _ _ => trivial
    rcases hc.snoc with h | ⟨h, h'⟩ | ⟨h, h'⟩
    · exact hf k x o hk h
    · exact he ((up h).symm.trans (hone.trans (up h').symm))
    · exact he ((up h').trans (hone.symm.trans (up h)))
  · have := hc.unapp (by simp)
    rcases hi0.last with ⟨rfl, rfl⟩ | ⟨rfl, rfl⟩
    · exact he (this.mono fun _ _ => trivial)
    · exact he (this.symm.mono fun _ _ => trivial)
theorem Wk.app {ls more : List Lk} {a b : Int} {ks : List Nat} {p : List Lk} (h : Wk ls a b ks p) : Wk (ls ++ more) a b ks p := by
  induction h with
  | nil a => exact .nil a
  | cons h ha t ih => exact .cons (by rw [List.getElem?_append_left (List.getElem?_eq_some_iff.1 h).1]; exact h) ha ih
/-- Further links leave a path as it was. -/
theorem pathS_app {ls more : List Lk} (hf : For ls) (hf' : For (ls ++ more)) {a b : Int} {p : List Lk} (h : pathS ls a b = some p) : pathS (ls ++ more) a b = some p := by
  obtain ⟨ks, t, n, _⟩ := pathS_some hf h
  exact pathS_of hf' ⟨t.app, n, fun _ _ => trivial⟩
theorem near_app (ls : List Lk) (e : Lk) (x : Int) : near (ls ++ [e]) x = near ls x ++ (if At e x then [ls.length] else []) := by
  unfold near
  rw [List.length_append, List.length_singleton, List.range_succ, List.filter_append]
  congr 1
  · apply List.filter_congr
    intro k hk
    rw [List.getElem?_append_left (List.mem_range.1 hk)]
  · simp only [List.filter_cons, List.filter_nil, List.getElem?_append_right (Nat.le_refl _), Nat.sub_self, List.getElem?_cons_zero]
    by_cases h : At e x
    · rw [if_pos h, decide_eq_true h]; rfl
    · rw [if_neg h, decide_eq_false h]; rfl
/-! ### the way back -/
def turned (l : Lk) : Lk := (l.2.1, l.1, l.2.2)
theorem other_other {l : Lk} {a : Int} (ha : At l a) : At l (other l a) ∧ (l.1 ≠ l.2.1 → other l (other l a) = a ∧ away l (other l a) = turned (away l a)) := by
  unfold other At away turned at *
  by_cases e : l.1 = a
  · rw [if_pos e]
    refine ⟨.inr rfl, fun hne => ?_⟩
    rw [if_neg hne, if_pos e, if_neg hne]
    exact ⟨e, rfl⟩
  · rw [if_neg e]
    refine ⟨.inl rfl, fun hne => ?_⟩
    rw [if_pos rfl, if_neg e, if_pos rfl]
    exact ⟨ha.resolve_left e, rfl⟩
theorem Wk.trans {ls : List Lk} {a b c : Int} {ks ks' : List Nat} {p p' : List Lk} (h : Wk ls a b ks p) (h' : Wk ls b c ks' p') : Wk ls a c (ks ++ ks') (p ++ p') := by
  induction h with
  | nil a => exact h'
  | cons h ha t ih => exact .cons h ha (ih h')
theorem Wk.rev {ls : List Lk} (hf : For ls) {a b : Int} {ks : List Nat} {p : List Lk} (h : Wk ls a b ks p) : Wk ls b a ks.reverse (p.reverse.map turned) := by
  induction h with
  | nil a => exact .nil a
  | @cons k l a b ks p hl ha t ih =>
    have hne : l.1 ≠ l.2.1 := fun e => hf.ne (inc_at hl (.inl rfl : At l l.1)) (by unfold other; rw [if_pos rfl]; exact e)
    obtain ⟨h1, h2⟩ := other_other ha
    obtain ⟨h3, h4⟩ := h2 hne
    have one : Wk ls (other l a) a [k] [turned (away l a)] := by
      have := Wk.cons hl h1 (Wk.nil (ls := ls) (other l (other l a)))
      rwa [h3, h4] at this
    have := ih.trans one
    simpa using this
/-- The path in the other direction. -/
theorem pathS_rev {ls : List Lk} (hf : For ls) {a b : Int} {p : List Lk} (h : pathS ls a b = some p) : pathS ls b a = some (p.reverse.map turned) := by
  obtain ⟨ks, t, n, _⟩ := pathS_some hf h
  exact pathS_of hf ⟨t.rev hf, List.pairwise_reverse.2 (n.imp fun h => Ne.symm h), fun _ _ => trivial⟩
/-! ### the reference's search marks the links that it has used -/
def rloop (rec : List Bool → Int → Option (Option (List Lk) × List Bool)) (ls : List Lk) (at_ : Int) : List Nat → List Bool → Option (Option (List Lk) × List Bool)
  | [], u => some (none, u)
  | i :: is, u => if u.getD i true = true then rloop rec ls at_ is u else match ls[i]? with
    | none => none
    | some l => if At l at_ then (match rec (u.set i true) (other l at_) with
        | none => none
        | some (some p, u') => some (some (away l at_ :: p), u')
        | some (none, u') => rloop rec ls at_ is u') else rloop rec ls at_ is u
def rwalk (ls : List Lk) (b : Int) : Nat → List Bool → Int → Option (Option (List Lk) × List Bool)
  | 0, _, _ => none
  | f + 1, u, at_ => if at_ = b then some (some [], u) else rloop (rwalk ls b f) ls at_ (List.range ls.length) u
/-- What is unused, what is used when one comes to an id. -/
structure Us (ls : List Lk) (at_ fr : Int) (u : List Bool) : Prop where
  len : u.length = ls.length
  free : ∀ j, Part ls at_ fr j → u.getD j true = false
  came : ∀ f0 : Nat, (f0 : Int) = fr → u.getD f0 true = true
theorem getD_setB {u : List Bool} {i j : Nat} (h : i < u.length) : (u.set i true).getD j true = if i = j then true else u.getD j true := by
  rw [List.getD_eq_getElem?_getD, List.getElem?_set, List.getD_eq_getElem?_getD]
  by_cases e : i = j
  · subst e; simp [h]
  · simp [e]
/-- Two ways out of an id lead to parts that share nothing. -/
theorem For.parts {ls : List Lk} (hf : For ls) {x o o' : Int} {k k' : Nat} (hk : Inc ls k x o) (hk' : Inc ls k' x o') (hne : k ≠ k') {j : Nat} (h : Part ls o k j) : ¬ Part ls o' k' j := by
  rintro ⟨h1', z', w', h2', h3'⟩
  obtain ⟨h1, z, w, h2, h3⟩ := h
  rw [fr_eq] at h1 h1' h3 h3'
  have a1 : Cn ls (Wo (fun i => i ≠ k) k') o z := (hf.away hk hk' (h3.mono fun _ h => ⟨h, h⟩)).mono fun _ h => ⟨h.1.1, h.2⟩
  have a2 : Cn ls (Wo (fun i => i ≠ k) k') o' z' := (hf.away hk' hk (h3'.mono fun _ h => ⟨h, h⟩)).mono fun _ h => ⟨h.2, h.1.1⟩
  have c : Cn ls (Wo (fun i => i ≠ k) k') o o' := by
    rcases h2.ends h2' with ⟨rfl, _⟩ | ⟨rfl, _⟩
    · exact a1.trans a2.symm
    · exact a1.trans (.step ⟨h1, h1'⟩ h2 a2.symm)
  refine hf k' x o' hk' (.step (k := k) hne hk ?_)
  exact c.mono fun _ h => h.2
/-- Another link of the id lies in no part behind a link. -/
theorem For.notPart {ls : List Lk} (hf : For ls) {x o o' : Int} {k k' : Nat} (hk : Inc ls k x o) (hk' : Inc ls k' x o') (hne : k' ≠ k) : ¬ Part ls o k k' := by
  rintro ⟨h1, z, w, h2, h3⟩
  rcases hk'.ends h2 with ⟨rfl, rfl⟩ | ⟨rfl, rfl⟩
  · exact hf.cutF hk h3.symm
  · exact hf.cutF hk (Cn.symm (h3.trans (.one h1 h2)))
theorem rwalk_spec {ls : List Lk} (hf : For ls) (b : Int) : ∀ (f : Nat) (at_ fr : Int) (u : List Bool) (r : Option (List Lk)), dfs ls b f at_ fr = some r → Came ls at_ fr → Us ls at_ fr u →
    ∃ u', rwalk ls b f u at_ = some (r, u') ∧ u'.length = ls.length ∧ (∀ j, u.getD j true = true → u'.getD j true = true) ∧ (r = none → ∀ j, u'.getD j true = true → u.getD j true = true ∨ Part ls at_ fr j)
  | 0, at_, fr, u, r, h, _, _ => by cases h
  | f + 1, at_, fr, u, r, h, hc, hu => by
    unfold dfs at h
    unfold rwalk
    by_cases e : at_ = b
    · rw [if_pos e] at h ⊢
      cases h
      exact ⟨u, rfl, hu.len, fun _ h => h, fun e => by cases e⟩
    · rw [if_neg e] at h ⊢
      -- what a round may have turned: links of the id among the first, and what lies behind them
      have key : ∀ (L : List Nat) (v : List Bool), (∀ k, k ∈ L → k < ls.length) → L.Nodup → v.length = ls.length → (∀ j, u.getD j true = true → v.getD j true = true) →
          (∀ j, v.getD j true = true → u.getD j true = true ∨ Part ls at_ fr j) →
          (∀ k, k ∈ L → ∀ o, (k : Int) ≠ fr → Inc ls k at_ o → v.getD k true = false ∧ ∀ j, Part ls o k j → v.getD j true = false) →
          loopD (dfs ls b f) ls at_ fr (L.filter fun k => match ls[k]? with | some l => decide (At l at_) | none => false) = some r →
          ∃ u', rloop (rwalk ls b f) ls at_ L v = some (r, u') ∧ u'.length = ls.length ∧ (∀ j, u.getD j true = true → u'.getD j true = true) ∧ (r = none → ∀ j, u'.getD j true = true → u.getD j true = true ∨ Part ls at_ fr j) := by
        intro L
        induction L with
        | nil =>
          intro v _ _ hv h1 h2 _ h
          simp only [List.filter_nil] at h
          unfold loopD at h
          cases h
          exact ⟨v, rfl, hv, h1, fun _ => h2⟩
        | cons k L ih =>
          intro v hL hN hv h1 h2 h3 h
          obtain ⟨hN1, hN2⟩ := List.nodup_cons.1 hN
          have hkl : k < ls.length := hL k (List.mem_cons_self ..)
          have hlk : ls[k]? = some ls[k] := List.getElem?_eq_getElem hkl
          unfold rloop
          rw [List.filter_cons] at h
          simp only [hlk] at h ⊢
          by_cases ha : At ls[k] at_
          · rw [if_pos (decide_eq_true ha)] at h
            have hi := inc_at hlk ha
            unfold loopD at h
            by_cases ek : (k : Int) = fr
            · rw [if_pos ek] at h
              rw [if_pos (h1 k (hu.came k ek))]
              exact ih v (fun j hj => hL j (List.mem_cons_of_mem _ hj)) hN2 hv h1 h2 (fun j hj => h3 j (List.mem_cons_of_mem _ hj)) h
            · rw [if_neg ek] at h
              simp only [hlk] at h
              obtain ⟨f1, f2⟩ := h3 k (List.mem_cons_self ..) _ ek hi
              rw [if_neg (by rw [f1]; decide), if_pos ha]
              have kv : k < v.length := by omega
              cases hq : dfs ls b f (other ls[k] at_) k with
              | none => rw [hq] at h; cases h
              | some q =>
                rw [hq] at h
                obtain ⟨u', w1, w2, w3, w4⟩ := rwalk_spec hf b f (other ls[k] at_) k (v.set k true) q hq (fun f0 h0 => by
                  have : f0 = k := Int.natCast_inj.1 h0
                  subst this; exact ⟨at_, hi.symm⟩) ⟨by simp [hv], fun j hj => by
                    rw [getD_setB kv, if_neg (by have h := hj.1; rw [fr_eq] at h; exact fun e => h e.symm)]; exact f2 j hj, fun f0 h0 => by
                    have : f0 = k := Int.natCast_inj.1 h0
                    subst this; rw [getD_setB kv, if_pos rfl]⟩
                rw [w1]
                have up : ∀ j, u.getD j true = true → u'.getD j true = true := fun j hj => w3 j (by
                  rw [getD_setB kv]; split
                  · rfl
                  · exact h1 j hj)
                have hkp : Part ls at_ fr k := ⟨ek, at_, _, hi, .refl _⟩
                cases q with
                | some p =>
                  cases h
                  exact ⟨u', rfl, w2, up, fun e => by cases e⟩
                | none =>
                  have back : ∀ j, u'.getD j true = true → v.getD j true = true ∨ j = k ∨ Part ls (other ls[k] at_) k j := fun j hj => by
                    rcases w4 rfl j hj with h | h
                    · rw [getD_setB kv] at h
                      by_cases e2 : k = j
                      · exact .inr (.inl e2.symm)
                      · rw [if_neg e2] at h; exact .inl h
                    · exact .inr (.inr h)
                  refine ih u' (fun j hj => hL j (List.mem_cons_of_mem _ hj)) hN2 w2 up (fun j hj => ?_) (fun j hj o ho hi2 => ?_) h
                  · rcases back j hj with h | rfl | h
                    · exact h2 j h
                    · exact .inr hkp
                    · exact .inr (hf.part hc hi ek h)
                  · obtain ⟨g1, g2⟩ := h3 j (List.mem_cons_of_mem _ hj) o ho hi2
                    have hjk : j ≠ k := fun e2 => hN1 (e2 ▸ hj)
                    have no : ∀ i, v.getD i true = false → i ≠ k → ¬ Part ls (other ls[k] at_) k i → u'.getD i true = false := fun i a1 a2 a3 => by
                      rw [Bool.eq_false_iff]
                      intro h
                      rcases back i h with h | h | h
                      · rw [a1] at h; cases h
                      · exact a2 h
                      · exact a3 h
                    refine ⟨no j g1 hjk (hf.notPart hi hi2 hjk), fun i hi3 => no i (g2 i hi3) (fun e2 => ?_) (fun h => hf.parts hi hi2 (fun e2 => hjk e2.symm) h hi3)⟩
                    subst e2
                    exact hf.notPart hi2 hi (fun e2 => hjk e2.symm) hi3
          · rw [if_neg (by rw [decide_eq_true_eq]; exact ha)] at h
            have go : ∃ u', rloop (rwalk ls b f) ls at_ L v = some (r, u') ∧ u'.length = ls.length ∧ (∀ j, u.getD j true = true → u'.getD j true = true) ∧ (r = none → ∀ j, u'.getD j true = true → u.getD j true = true ∨ Part ls at_ fr j) :=
              ih v (fun j hj => hL j (List.mem_cons_of_mem _ hj)) hN2 hv h1 h2 (fun j hj => h3 j (List.mem_cons_of_mem _ hj)) h
            split
            · exact go
            · first | exact go | (rw [if_neg ha]; exact go)
      exact key (List.range ls.length) u (fun k hk => List.mem_range.1 hk) List.nodup_range hu.len (fun _ h => h) (fun _ h => .inl h) (fun k _ o ho hi => ⟨hu.free k ⟨ho, at_, o, hi, .refl _⟩, fun j hj => hu.free j (hf.part hc hi ho hj)⟩) h
/-- The reference's search from the start. -/
theorem rwalk_top {ls : List Lk} (hf : For ls) (a b : Int) : ∃ u', rwalk ls b (ls.length + 1) (List.replicate ls.length false) a = some (pathS ls a b, u') := by
  have hlt : ∀ j at_ fr, Part ls at_ fr j → j < ls.length := fun j _ _ ⟨_, _, _, hi, _⟩ => inc_lt hi
  obtain ⟨u', h, _⟩ := rwalk_spec hf b (ls.length + 1) a (-1) (List.replicate ls.length false) (pathS ls a b) (pathS_dfs hf a b) (fun f0 h => by omega) ⟨by simp, fun j hj => by
    have := hlt j _ _ hj
    simp [List.getD, this], fun f0 h => by omega⟩
  exact ⟨u', h⟩
end Forest17
