/- A region that draws its order: what only reads may be taken first, where the operations from 'last' on wait for it. -/
import Derived.OrdersHeld
import Derived.WalkKit
namespace Go.Proofs.Ytmkhglpfhnocaaa.Fn
open Go
set_option linter.unusedVariables false
section
variable {P : Program} {ops : Array Oper} {Q : Exit → Act → World → Prop} {md : Region.Mode} {S T : World → Prop} {last : Nat}
def late (last : Nat) (listed : Array Bool) : Prop := ∃ j, last ≤ j ∧ listed.getD j false = true
/-- Whatever order is picked from here on; S holds behind every operation, till one from 'last' on has come up. -/
def wpAnyL (P : Program) (md : Region.Mode) (ops : Array Oper) (Q : Exit → Act → World → Prop) (S : World → Prop) (last : Nat) : Nat → Array Bool → Act → World → Prop
  | 0, listed, a, w => Region.ready md ops listed = [] ∧ Q .normal a w
  | fuel + 1, listed, a, w => (Region.ready md ops listed = [] → Q .normal a w) ∧
    ∀ i ∈ Region.ready md ops listed, wpOp P ops Q i (fun a' w' => (S w' ∨ late last (listed.setIfInBounds i true)) ∧ wpAnyL P md ops Q S last fuel (listed.setIfInBounds i true) a' w') a w
theorem wpAny_of_L : ∀ (fuel : Nat) (listed : Array Bool) (a : Act) (w : World), wpAnyL P md ops Q S last fuel listed a w → wpAny P md ops Q fuel listed a w
  | 0, _, _, _, h => h
  | fuel + 1, _, _, _, h => ⟨h.1, fun i hi => wpOp_mono (fun a' w' h' => wpAny_of_L fuel _ a' w' h'.2) (h.2 i hi)⟩
theorem late.set {listed : Array Bool} {i : Nat} (h : late last listed) : late last (listed.setIfInBounds i true) := by
  obtain ⟨j, h1, h2⟩ := h
  exact ⟨j, h1, getD_set_true h2⟩
theorem late.of_set {listed : Array Bool} {i : Nat} (h : late last (listed.setIfInBounds i true)) (hi : i < last) : late last listed := by
  obtain ⟨j, h1, h2⟩ := h
  exact ⟨j, h1, by rw [getD_set_ne false (by omega)] at h2; exact h2⟩
/-- The operations from 'last' on wait for operation i themselves. -/
def waitsOn (md : Region.Mode) (ops : Array Oper) (last i : Nat) : Bool :=
  (List.range ops.size).all fun j => decide (j < last) || decide (j = i) || (match ops[j]? with | some o => o.after.any (fun e => Region.binds md e && decide (e.on = i)) | none => true)
theorem waitsOn_spec {i : Nat} (h : waitsOn md ops last i = true) {j : Nat} {oj : Oper} (hj : ops[j]? = some oj) (hl : last ≤ j) (hne : j ≠ i) : ∃ e ∈ oj.after, Region.binds md e = true ∧ e.on = i := by
  unfold waitsOn at h
  have hs : j < ops.size := (Array.getElem?_eq_some_iff.1 hj).1
  have := List.all_eq_true.1 h j (List.mem_range.2 hs)
  simp only [hj, Bool.or_eq_true, decide_eq_true_eq] at this
  rcases this with (h1 | h1) | h1
  · omega
  · exact absurd h1 hne
  · obtain ⟨k, hk, hq⟩ := (by simpa using h1 : ∃ (k : Nat) (h : k < oj.after.size), Region.binds md oj.after[k] = true ∧ oj.after[k].on = i)
    exact ⟨oj.after[k], by simp, hq⟩
theorem wpAnyL_first {i : Nat} {oi : Oper} {v : Value} (hi : ops[i]? = some oi) (hsel : ∀ (j : Nat) (o : Oper) cs b, ops[j]? = some o → o.op ≠ .select cs b)
    (hQ : ∀ c a w, Q (.panic c) (a.put oi.dst v) w → Q (.panic c) a w) (hST : ∀ w, S w → T w) (hil : i < last) :
    ∀ (fuel : Nat) (listed : Array Bool) (a : Act) (w : World),
      (∀ j oj, ops[j]? = some oj → j ≠ i → listed.getD j true = false → (∀ e ∈ oj.after, Region.binds md e = true → e.on ≠ i) → oi.apart ops oj = true) →
      i ∈ Region.ready md ops listed → YieldsIf P ops T oi v a → T w → (S w ∨ late last listed) → ((∀ w, T w) ∨ (waitsOn md ops last i = true ∧ ¬ late last listed)) →
      wpAnyL P md ops Q S last fuel (listed.setIfInBounds i true) (a.put oi.dst v) w → wpAnyL P md ops Q S last (fuel + 1) listed a w := by
  intro fuel
  induction fuel with
  | zero =>
    intro listed a w _ hr hy hT hC _ H
    refine ⟨fun h => (by rw [h] at hr; cases hr), fun j hj => ?_⟩
    by_cases hji : j = i
    · subst hji; exact hy.wpOp hi hT ⟨hC.imp id late.set, H⟩
    · have := ready_mono hj hji
      rw [H.1] at this
      cases this
  | succ fuel ih =>
    intro listed a w hfree hr hy hT hC hlast H
    refine ⟨fun h => (by rw [h] at hr; cases hr), fun j hj => ?_⟩
    by_cases hji : j = i
    · subst hji; exact hy.wpOp hi hT ⟨hC.imp id late.set, H⟩
    · have h1 := H.2 j (ready_mono hj hji)
      obtain ⟨hjun, oj, hoj, hall⟩ := mem_ready.1 hj
      have hnot : ∀ e ∈ oj.after, Region.binds md e = true → e.on ≠ i := fun e he hb heq => by
        have h1 := hall e he hb
        have h0 := (mem_ready.1 hr).1
        rw [heq] at h1
        rcases Nat.lt_or_ge i listed.size with h' | h'
        · simp [h'] at h0 h1; rw [h0] at h1; cases h1
        · simp [Array.getElem?_eq_none h'] at h1
      have hlast' : (∀ w, T w) ∨ (waitsOn md ops last i = true ∧ ¬ late last (listed.setIfInBounds j true)) := hlast.imp id fun ⟨h2, h3⟩ => by
        refine ⟨h2, fun h4 => ?_⟩
        by_cases hjl : last ≤ j
        · obtain ⟨e, he, hb, hq⟩ := waitsOn_spec h2 hoj hjl hji
          exact hnot e he hb hq
        · exact h3 (h4.of_set (by omega))
      have h2 := wpOp_putIf hoj (hfree j oj hoj hji hjun hnot) (fun cs b => hsel i oi cs b hi) (fun cs b => hsel j oj cs b hoj) hQ hy h1
      have hfree' : ∀ k ok, ops[k]? = some ok → k ≠ i → (listed.setIfInBounds j true).getD k true = false →
          (∀ e ∈ ok.after, Region.binds md e = true → e.on ≠ i) → oi.apart ops ok = true := fun k ok hk hki hun hno => by
        refine hfree k ok hk hki ?_ hno
        by_cases hjk : j = k
        · subst hjk; exact hjun
        · rw [getD_set_ne true hjk] at hun; exact hun
      refine wpOp_mono (fun a' w' h3 => ?_) h2
      have hC' : S w' ∨ late last (listed.setIfInBounds j true) := h3.2.1.imp id fun h => by
        rw [Array.setIfInBounds_comm _ _ (Ne.symm hji)] at h
        exact h.of_set hil
      have hT' : T w' := by
        rcases hlast' with h | ⟨_, h⟩
        · exact h w'
        · rcases hC' with h5 | h5
          · exact hST w' h5
          · exact absurd h5 h
      refine ⟨hC', ih (listed.setIfInBounds j true) a' w' hfree' (ready_mono hr (Ne.symm hji)) h3.1 hT' hC' hlast' ?_⟩
      rw [Array.setIfInBounds_comm _ _ hji]
      exact h3.2.2
/-- No operation from 'last' on has come up. -/
def early (last : Nat) (listed : Array Bool) : Bool := (List.range listed.size).all fun j => decide (j < last) || !(listed.getD j false)
theorem early_spec {listed : Array Bool} (h : early last listed = true) : ¬ late last listed := by
  rintro ⟨j, h1, h2⟩
  unfold early at h
  have hs : j < listed.size := by
    rcases Nat.lt_or_ge j listed.size with h' | h'
    · exact h'
    · simp [Array.getElem?_eq_none h'] at h2
  have := List.all_eq_true.1 h j (List.mem_range.2 hs)
  simp only [Bool.or_eq_true, decide_eq_true_eq] at this
  rcases this with h3 | h3
  · omega
  · rw [h2] at h3; cases h3
/-- An operation that reads is taken first. -/
theorem wpAnyL_take {i : Nat} {oi : Oper} {v : Value} {fuel : Nat} {listed : Array Bool} {a : Act} {w : World} (hi : ops[i]? = some oi) (hs : Region.noSelect ops = true) (hf : Region.free md ops listed i = true) (hr : (Region.ready md ops listed).contains i = true)
    (hil : decide (i < last) = true) (hw : waitsOn md ops last i = true) (he : early last listed = true) (hQ : ∀ c a w, Q (.panic c) (a.put oi.dst v) w → Q (.panic c) a w) (hS : S w) (hy : YieldsIf P ops S oi v a)
    (h : wpAnyL P md ops Q S last fuel (listed.setIfInBounds i true) (a.put oi.dst v) w) : wpAnyL P md ops Q S last (fuel + 1) listed a w :=
  wpAnyL_first hi (Region.noSelect_spec hs) hQ (fun _ h => h) (of_decide_eq_true hil) fuel listed a w (Region.free_spec hi hf) (by simpa using hr) hy hS (.inl hS) (.inr ⟨hw, early_spec he⟩) h
/-- One that looks at no world. -/
theorem wpAnyL_move {i : Nat} {oi : Oper} {v : Value} {fuel : Nat} {listed : Array Bool} {a : Act} {w : World} (hi : ops[i]? = some oi) (hs : Region.noSelect ops = true) (hf : Region.free md ops listed i = true) (hr : (Region.ready md ops listed).contains i = true)
    (hil : decide (i < last) = true) (hQ : ∀ c a w, Q (.panic c) (a.put oi.dst v) w → Q (.panic c) a w) (hS : S w) (hy : YieldsIf P ops (fun _ => True) oi v a)
    (h : wpAnyL P md ops Q S last fuel (listed.setIfInBounds i true) (a.put oi.dst v) w) : wpAnyL P md ops Q S last (fuel + 1) listed a w :=
  wpAnyL_first hi (Region.noSelect_spec hs) hQ (fun _ _ => trivial) (of_decide_eq_true hil) fuel listed a w (Region.free_spec hi hf) (by simpa using hr) hy trivial (.inl hS) (.inl fun _ => trivial) h
/-- All that is to be checked of a take, in one. -/
def okTake (ops : Array Oper) (last : Nat) (listed : Array Bool) (i : Nat) : Bool :=
  Region.noSelect ops && Region.free .any ops listed i && (Region.ready .any ops listed).contains i && decide (i < last) && waitsOn .any ops last i && early last listed
def okMove (ops : Array Oper) (last : Nat) (listed : Array Bool) (i : Nat) : Bool :=
  Region.noSelect ops && Region.free .any ops listed i && (Region.ready .any ops listed).contains i && decide (i < last)
theorem take1 {i : Nat} {d : Option Tmp} {oi : Oper} {v : Value} {fuel : Nat} {listed : Array Bool} {a : Act} {w : World} (hi : ops[i]? = some oi) (hd : oi.dst = d) (hk : okTake ops last listed i = true) (hg : Region.wanted oi (yielded ops a.tmps) = true) (hQ : ∀ c a w, Q (.panic c) (a.put d v) w → Q (.panic c) a w) (hS : S w)
    (hy : ∀ w, S w → (execOp a.eval oi).run P w = .ok (.value v) w) (h : wpAnyL P .any ops Q S last fuel (listed.setIfInBounds i true) (a.put d v) w) : wpAnyL P .any ops Q S last (fuel + 1) listed a w := by
  subst hd
  unfold okTake at hk
  simp only [Bool.and_eq_true] at hk
  obtain ⟨⟨⟨⟨⟨h1, h2⟩, h3⟩, h4⟩, h5⟩, h6⟩ := hk
  exact wpAnyL_take hi h1 h2 h3 h4 h5 h6 hQ hS (.inl ⟨hg, hy⟩) h
theorem move1 {i : Nat} {d : Option Tmp} {oi : Oper} {v : Value} {fuel : Nat} {listed : Array Bool} {a : Act} {w : World} (hi : ops[i]? = some oi) (hd : oi.dst = d) (hk : okMove ops last listed i = true) (hg : Region.wanted oi (yielded ops a.tmps) = true) (hQ : ∀ c a w, Q (.panic c) (a.put d v) w → Q (.panic c) a w) (hS : S w)
    (hy : ∀ w, (execOp a.eval oi).run P w = .ok (.value v) w) (h : wpAnyL P .any ops Q S last fuel (listed.setIfInBounds i true) (a.put d v) w) : wpAnyL P .any ops Q S last (fuel + 1) listed a w := by
  subst hd
  unfold okMove at hk
  simp only [Bool.and_eq_true] at hk
  obtain ⟨⟨⟨h1, h2⟩, h3⟩, h4⟩ := hk
  exact wpAnyL_move hi h1 h2 h3 h4 hQ hS (.inl ⟨hg, fun w _ => hy w⟩) h
/-- One that its guard passes over. -/
theorem skip1 {i : Nat} {d : Option Tmp} {oi : Oper} {fuel : Nat} {listed : Array Bool} {a : Act} {w : World} (hi : ops[i]? = some oi) (hd : oi.dst = d) (hk : okMove ops last listed i = true) (hg : Region.wanted oi (yielded ops a.tmps) = false) (hQ : ∀ c a w, Q (.panic c) (a.put d undef) w → Q (.panic c) a w) (hS : S w)
    (h : wpAnyL P .any ops Q S last fuel (listed.setIfInBounds i true) (a.put d undef) w) : wpAnyL P .any ops Q S last (fuel + 1) listed a w := by
  subst hd
  unfold okMove at hk
  simp only [Bool.and_eq_true] at hk
  obtain ⟨⟨⟨h1, h2⟩, h3⟩, h4⟩ := hk
  exact wpAnyL_move hi h1 h2 h3 h4 hQ hS (.inr ⟨hg, rfl⟩) h
/-- The only one that may come up: S anew behind it. -/
theorem wpAnyL_only {i : Nat} {fuel : Nat} {listed : Array Bool} {a : Act} {w : World} (hr : Region.ready md ops listed = [i])
    (h : wpOp P ops Q i (fun a' w' => S w' ∧ wpAnyL P md ops Q S last fuel (listed.setIfInBounds i true) a' w') a w) : wpAnyL P md ops Q S last (fuel + 1) listed a w :=
  ⟨fun h0 => (by rw [hr] at h0; cases h0), by rw [hr]; intro j hj; cases List.mem_singleton.1 hj; exact wpOp_mono (fun _ _ h => ⟨.inl h.1, h.2⟩) h⟩
/-- The same, and it is from 'last' on. -/
theorem wpAnyL_tail {i : Nat} {fuel : Nat} {listed : Array Bool} {a : Act} {w : World} (hr : Region.ready md ops listed = [i]) (hl : decide (last ≤ i) = true) (hb : decide (i < listed.size) = true)
    (h : wpOp P ops Q i (fun a' w' => wpAnyL P md ops Q S last fuel (listed.setIfInBounds i true) a' w') a w) : wpAnyL P md ops Q S last (fuel + 1) listed a w :=
  ⟨fun h0 => (by rw [hr] at h0; cases h0), by rw [hr]; intro j hj; cases List.mem_singleton.1 hj; exact wpOp_mono (fun _ _ h => ⟨.inr ⟨i, of_decide_eq_true hl, by simp [of_decide_eq_true hb]⟩, h⟩) h⟩
theorem wpOp_v {i : Nat} {d : Option Tmp} {o : Oper} {v : Value} {a : Act} {w w' : World} {K : Act → World → Prop} (hi : ops[i]? = some o) (hd : o.dst = d) (hg : Region.wanted o (yielded ops a.tmps) = true) (hr : (execOp a.eval o).run P w = .ok (.value v) w') (hK : K (a.put d v) w') : wpOp P ops Q i K a w := by
  subst hd
  unfold wpOp
  simp only [hi, hg, if_true, Oper.wp, hr, Oper.upon]
  exact .inl hK
theorem wpOp_s {i : Nat} {d : Option Tmp} {o : Oper} {a : Act} {w w' : World} {K : Act → World → Prop} (hi : ops[i]? = some o) (hd : o.dst = d) (hg : Region.wanted o (yielded ops a.tmps) = true) (hr : (execOp a.eval o).run P w = .ok .skip w') (hK : K (a.put d undef) w') : wpOp P ops Q i K a w := by
  subst hd
  unfold wpOp
  simp only [hi, hg, if_true, Oper.wp, hr, Oper.upon]
  exact .inl hK
theorem wpOp_c {i : Nat} {d : Option Tmp} {o : Oper} {a : Act} {w w' : World} {K : Act → World → Prop} {f : FuncId} {args : Array Value} (hi : ops[i]? = some o) (hd : o.dst = d) (hg : Region.wanted o (yielded ops a.tmps) = true) (hr : (execOp a.eval o).run P w = .ok (.enter f args) w') (hK : Calls P f args w' fun e w'' => ∃ u, e = .returned u ∧ K (a.put d u) w'') : wpOp P ops Q i K a w := by
  subst hd
  unfold wpOp
  simp only [hi, hg, if_true, Oper.wp, hr, Oper.upon]
  exact .inl (hK.mono fun e w'' h => by obtain ⟨u, rfl, h⟩ := h; exact h)
def okTail (ops : Array Oper) (last : Nat) (listed : Array Bool) (i : Nat) : Bool := (match Region.ready .any ops listed with | [j] => decide (j = i) | _ => false) && decide (last ≤ i) && decide (i < listed.size)
def okOnly (ops : Array Oper) (listed : Array Bool) (i : Nat) : Bool := match Region.ready .any ops listed with | [j] => decide (j = i) | _ => false
theorem okOnly_spec {listed : Array Bool} {i : Nat} (h : okOnly ops listed i = true) : Region.ready .any ops listed = [i] := by
  unfold okOnly at h
  split at h
  · rename_i j hj; rw [hj, of_decide_eq_true h]
  · cases h
theorem tail1 {i : Nat} {fuel : Nat} {listed : Array Bool} {a : Act} {w : World} (hk : okTail ops last listed i = true) (h : wpOp P ops Q i (fun a' w' => wpAnyL P .any ops Q S last fuel (listed.setIfInBounds i true) a' w') a w) : wpAnyL P .any ops Q S last (fuel + 1) listed a w := by
  unfold okTail at hk
  simp only [Bool.and_eq_true] at hk
  exact wpAnyL_tail (okOnly_spec hk.1.1) hk.1.2 hk.2 h
theorem only1 {i : Nat} {fuel : Nat} {listed : Array Bool} {a : Act} {w : World} (hk : okOnly ops listed i = true) (h : wpOp P ops Q i (fun a' w' => S w' ∧ wpAnyL P .any ops Q S last fuel (listed.setIfInBounds i true) a' w') a w) : wpAnyL P .any ops Q S last (fuel + 1) listed a w :=
  wpAnyL_only (okOnly_spec hk) h
theorem start1 {id : Nat} {a : Act} {w : World} (S : World → Prop) (last : Nat) (l : Array Bool) (hl : (Array.replicate ops.size false) = l) (hm : P.follows .mixedOrders = true)
    (h : wpAnyL P .any ops Q S last ops.size l a w.drew) : (Code.region id ops true).wp P Q a w :=
  wp_region_any hm (wpAny_of_L _ _ _ _ (hl ▸ h))
theorem wpAnyL_done {listed : Array Bool} {a : Act} {w : World} (hr : Region.ready md ops listed = []) (h : Q .normal a w) :
    ∀ fuel, wpAnyL P md ops Q S last fuel listed a w
  | 0 => ⟨hr, h⟩
  | _ + 1 => ⟨fun _ => h, by rw [hr]; simp⟩
theorem wp_region_L {id : Nat} {a : Act} {w : World} (S : World → Prop) (last : Nat) (hm : P.follows .mixedOrders = true)
    (h : wpAnyL P .any ops Q S last ops.size (Array.replicate ops.size false) a w.drew) : (Code.region id ops true).wp P Q a w :=
  wp_region_any hm (wpAny_of_L _ _ _ _ h)
end
end Go.Proofs.Ytmkhglpfhnocaaa.Fn
