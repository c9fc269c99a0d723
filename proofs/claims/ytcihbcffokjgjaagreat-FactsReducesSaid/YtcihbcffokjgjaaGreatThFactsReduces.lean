/- FactsReduces, in plain words: Reduce ends in valid facts, again and again the same, and loses no value; nor does Meet. -/
import Derived.Test.YtcihbcffokjgjaaGreatStFactsReduces
import Derived.Test.YtcihbcffokjgjaaGreatFc
import Derived.Test.YtcihbcffokjgjaaGreatFl
namespace Go.Proofs.YtcihbcffokjgjaaGreat.Th
open Go Go.RowKit Go.Proofs.YtcihbcffokjgjaaGreat.Ev Go.Proofs.YtcihbcffokjgjaaGreat.Fn Go.Proofs.YtcihbcffokjgjaaGreat.Bv
set_option linter.unusedVariables false
set_option linter.unusedSimpArgs false
set_option maxRecDepth 100000
theorem reduce_valid {m : F3} (h : Fv m.1 m.2.1 m.2.2) : facts_Reduce.f (fE m) = some (fE m, true) := by
  obtain ⟨q, p1, p2, p3, _⟩ := reduce_ex m.1 (r := m.2.2) h.kv.l1 h.kv.l2
  obtain ⟨e1, e2, e3⟩ := fvl h
  rw [e1, e2, e3] at p2
  rw [p3, p2 h.st, e1]; rfl
theorem ofN_valid {m : F3} (h : Fv m.1 m.2.1 m.2.2) : ofN m.1 m.2.1 m.2.2 = m := if_pos h.val
theorem valid_valid {m : F3} (h : Fv m.1 m.2.1 m.2.2) : facts_Valid.f (fE m) = some true := by rw [facts_Valid_eq m.1 h.kv.l1 h.kv.l2, decide_eq_true h.val]
theorem has_valid {m : F3} (h : Fv m.1 m.2.1 m.2.2) {x : Nat} (hx : x < U64) : facts_Has.f (fE m) x = some (decide (hasN m x)) := by rw [facts_Has_eq m.1 h.kv.l1 h.kv.l2 hx, ofN_valid h]
theorem reduces_p11 (v : Unit → Option Bool) {h} (hv : v () = some true) (n fu : Nat) {m : F3} (hm : Fv m.1 m.2.1 m.2.2) : saturatelaw14_FactsReduces.p11 v h (n + 1) fu m.1 (m.2.1.1 : Int) (m.2.1.2 : Int) (m.2.2.1 : Int) (m.2.2.2 : Int) = some true := by
  have hval := valid_valid hm
  rw [saturatelaw14_FactsReduces.p11_eq, hval, hv]; rfl
theorem reduces_p8 (v : Unit → Option Bool) {h} (hv : v () = some true) (n fu : Nat) (a a' : Int) {z o l u z' o' l' u' x : Nat} (hz : z < U64) (ho : o < U64) (hz' : z' < U64) (ho' : o' < U64) (hx : x < U64) :
    saturatelaw14_FactsReduces.p8 v h (n + 1) (fu + 1) (x : Int) a (z : Int) (o : Int) (l : Int) (u : Int) a' (z' : Int) (o' : Int) (l' : Int) (u' : Int) = some true := by
  obtain ⟨m, b, m1, _, hm, hh⟩ := meet_ex a a' (k := (z, o)) (r := (l, u)) (k' := (z', o')) (r' := (l', u')) hz ho hz' ho'
  have s1 := saturateref14_Has_eq a (k := (z, o)) (r := (l, u)) hz ho hx
  have s2 := saturateref14_Has_eq a' (k := (z', o')) (r := (l', u')) hz' ho' hx
  have hp := fun n => reduces_p11 v (h := h) hv n (fu + 1) hm
  have hhas := has_valid hm hx
  rw [saturatelaw14_FactsReduces.p8_eq, show facts_Meet.f (a, (z : Int), (o : Int), (l : Int), (u : Int)) (a', (z' : Int), (o' : Int), (l' : Int), (u' : Int)) = some (fE m, b) from m1, Option.bind_some]
  simp only
  rw [hp]
  by_cases e : a = a'
  · subst e
    rw [beq_self_eq_true, cond_true, show saturateref14_Has.f (a, (z : Int), (o : Int), (l : Int), (u : Int)) (x : Int) = _ from s1, Option.bind_some, show saturateref14_Has.f (a, (z' : Int), (o' : Int), (l' : Int), (u' : Int)) (x : Int) = _ from s2, Option.bind_some]
    by_cases c1 : hasN (ofN a (z, o) (l, u)) x
    · rw [decide_eq_true c1, cond_true]
      by_cases c2 : hasN (ofN a (z', o') (l', u')) x
      · rw [decide_eq_true c2, cond_true]
        have ew : (ofN a (z, o) (l, u)).1 = (ofN a (z', o') (l', u')).1 := by
          have ha : ∀ k r, k.1 < U64 → k.2 < U64 → (W (ofN a k r).1 : Int) = (W a : Int) := fun k r _ _ => by
            unfold ofN
            split
            · rfl
            · show (W (W a : Int) : Int) = _; rw [W_W]
          have h1 := ofN_fv a (k := (z, o)) (r := (l, u)) hz ho
          have h2 := ofN_fv a (k := (z', o')) (r := (l', u')) hz' ho'
          rw [← W_of' h1.a1 h1.a2, ← W_of' h2.a1 h2.a2, ha _ _ hz ho, ha _ _ hz' ho']
        obtain ⟨hb, hx2⟩ := (hh ew).2 x c1 c2
        rw [hb, Bool.not_true, cond_false]
        rw [show facts_Has.f (m.1, (m.2.1.1 : Int), (m.2.1.2 : Int), (m.2.2.1 : Int), (m.2.2.2 : Int)) (x : Int) = some (decide (hasN m x)) from hhas, decide_eq_true hx2]
        rfl
      · rw [decide_eq_false c2, cond_false]
    · rw [decide_eq_false c1, cond_false]
  · rw [show (a == a') = false by simpa using e, cond_false]
theorem has_parts (a : Int) {z o l u x : Nat} (hz : z < U64) (ho : o < U64) (hx : x < U64) :
    saturateref12_Has.f (W a : Int) ((z : Int), (o : Int)) x = some (decide (khas (kof (MK a) z o) (vcut (W a) x))) ∧
    saturateref13_Has.f (W a : Int) ((l : Int), (u : Int)) x = some (decide (inN (nrmN (MK a) (l, u)) (vcut (W a) x))) := by
  refine ⟨by rw [saturateref12_Has_eq (W a : Int) hz ho hx, MK_W, W_W], ?_⟩
  rw [saturateref13_Has_eq (W a : Int) _ hx, W_W]
  have e : nrm (MM (W a : Int)) ((l : Int), (u : Int)) = cp (nrmN (MK a) (l, u)) := by rw [nrm_cp (W a : Int) (l, u), MK_W]
  rw [e]
  congr 1
  rw [decide_eq_decide]
  exact inN_cast
theorem reduces_abs (v : Unit → Option Bool) {h} (hv : v () = some true) (fu : Nat) (a a' : Int) {z o l u z' o' l' u' x : Nat} (hz : z < U64) (ho : o < U64) (hz' : z' < U64) (ho' : o' < U64) (hx : x < U64) : saturatelaw14_FactsReduces.gv v h (fu + 1) (a, (z : Int), (o : Int), (l : Int), (u : Int)) (a', (z' : Int), (o' : Int), (l' : Int), (u' : Int)) (x : Int) = some true := by
  obtain ⟨q, p1, _, p3, _⟩ := reduce_ex a (k := (z, o)) (r := (l, u)) hz ho
  obtain ⟨s1, s2⟩ := has_parts a (l := l) (u := u) hz ho hx
  have w1 := W_pos a
  have w2 := W_le a
  have hm := redF_fv (a := (W a : Int)) (by omega) (by omega) p1
  have hw : (redF (W a : Int) q).1 = (W a : Int) := by cases q <;> rfl
  have hr := reduce_valid hm
  have hval := valid_valid hm
  have hhas : facts_Has.f ((redF (W a : Int) q).1, ((redF (W a : Int) q).2.1.1 : Int), ((redF (W a : Int) q).2.1.2 : Int), ((redF (W a : Int) q).2.2.1 : Int), ((redF (W a : Int) q).2.2.2 : Int)) (x : Int) = some (decide (hasN (redF (W a : Int) q) x)) := has_valid hm hx
  have hp := reduces_p8 v (h := h) hv fu fu a a' (l := l) (u := u) (l' := l') (u' := u') hz ho hz' ho' hx
  rw [redR_eq] at p3
  unfold saturatelaw14_FactsReduces.gv
  simp only at p3 ⊢
  rw [saturateref01_W_eq, Option.bind_some, p3, Option.bind_some]
  simp only
  rw [hr, Option.bind_some]
  simp only [beq_self_eq_true, Bool.and_self, Bool.not_true]
  rw [cond_false, cond_false, hval, Option.bind_some, Bool.not_true, cond_false, hw, bne_self_eq_false, cond_false, s1, Option.bind_some, s2, Option.bind_some, hp]
  rw [hw] at hhas
  by_cases c1 : khas (kof (MK a) z o) (vcut (W a) x)
  · rw [decide_eq_true c1, cond_true]
    by_cases c2 : inN (nrmN (MK a) (l, u)) (vcut (W a) x)
    · rw [decide_eq_true c2, cond_true]
      have hxm : vcut (W a) x ≤ MK (W a : Int) := by rw [MK_W]; exact le_mask_of (Nat.mod_lt _ (pw_pos _))
      cases q with
      | none =>
        have := p1 _ hxm c1 (by rw [MK_W, nrmN_of (nrmN_ok _ _)]; exact c2)
        exact this.elim
      | some q =>
        have hh := p1.2 _ hxm c1 (by rw [MK_W, nrmN_of (nrmN_ok _ _)]; exact c2)
        have hN : hasN (redF (W a : Int) (some q)) x := by
          refine ⟨?_, ?_⟩
          · show khas q.1 (vcut (W (W a : Int)) x); rw [W_W]; exact hh.1
          · show inN q.2 (vcut (W (W a : Int)) x); rw [W_W]; exact hh.2
        rw [show (some q).isSome = true from rfl, Bool.not_true, cond_false]
        rw [show facts_Has.f ((W a : Int), ((redF (W a : Int) (some q)).2.1.1 : Int), ((redF (W a : Int) (some q)).2.1.2 : Int), ((redF (W a : Int) (some q)).2.2.1 : Int), ((redF (W a : Int) (some q)).2.2.2 : Int)) (x : Int) = some (decide (hasN (redF (W a : Int) (some q)) x)) from hhas, decide_eq_true hN]
        rfl
    · rw [decide_eq_false c2, cond_false]
  · rw [decide_eq_false c1, cond_false]
theorem FactsReduces : St.FactsReduces := by
  intro a a1 a2 a3 a4 b b1 b2 b3 b4 x _ h1 h2 h3 h4 _ g1 g2 g3 g4 hx
  obtain ⟨a1, rfl, l1⟩ := u64_of h1
  obtain ⟨a2, rfl, l2⟩ := u64_of h2
  obtain ⟨a3, rfl, l3⟩ := u64_of h3
  obtain ⟨a4, rfl, l4⟩ := u64_of h4
  obtain ⟨b1, rfl, m1⟩ := u64_of g1
  obtain ⟨b2, rfl, m2⟩ := u64_of g2
  obtain ⟨b3, rfl, m3⟩ := u64_of g3
  obtain ⟨b4, rfl, m4⟩ := u64_of g4
  obtain ⟨x, rfl, lx⟩ := u64_of hx
  have q := @reduces_abs (fun a => saturatelaw14_lives.f) ⟨saturatelaw14_lives.con⟩ lives14_true fuel0 a b a1 a2 a3 a4 b1 b2 b3 b4 x l1 l2 m1 m2 lx
  delta saturatelaw14_FactsReduces.f
  exact q
end Go.Proofs.YtcihbcffokjgjaaGreat.Th
