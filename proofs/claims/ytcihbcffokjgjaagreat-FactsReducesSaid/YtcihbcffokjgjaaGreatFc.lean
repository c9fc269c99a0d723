/- Facts: Meet, Join, Leq and Has, in the program and in the reference alike; what a meet keeps. -/
import Derived.Test.YtcihbcffokjgjaaGreatF3
import Derived.Test.YtcihbcffokjgjaaGreatF4
import Derived.Test.YtcihbcffokjgjaaGreatF5
import Derived.Test.YtcihbcffokjgjaaGreatF6
import Derived.Test.YtcihbcffokjgjaaGreatF7
import Derived.Test.YtcihbcffokjgjaaGreatF8
import Derived.Test.YtcihbcffokjgjaaGreatFb
namespace Go.Proofs.YtcihbcffokjgjaaGreat.Fn
open Go Go.RowKit Go.Proofs.YtcihbcffokjgjaaGreat.Ev Go.Proofs.YtcihbcffokjgjaaGreat.Bv
set_option linter.unusedVariables false
set_option linter.unusedSimpArgs false
set_option maxRecDepth 100000

/-- Reduce of valid parts. -/
theorem reduce_v {a : Int} (h1 : 1 ≤ a) (h2 : a ≤ 64) {k r : Nat × Nat} (hk : Kv a k) (hr : rok (MK a) r) : ∃ q, RedP a k r q ∧
    facts_Reduce.f (fI a k r) = some (fE (redF a q), q.isSome) ∧ saturateref14_Reduce.f (fI a k r) = some (fE (redF a q), q.isSome) := by
  obtain ⟨q, p1, _, p3, p4⟩ := reduce_ex a (r := r) hk.l1 hk.l2
  rw [W_of' h1 h2] at p1 p3 p4
  rw [hk.kof, nrmN_of hr] at p1
  rw [redR_eq] at p3 p4
  exact ⟨q, p1, p3, p4⟩
def hasN (f : F3) (x : Nat) : Prop := khas f.2.1 (vcut (W f.1) x) ∧ inN f.2.2 (vcut (W f.1) x)
instance (f : F3) (x : Nat) : Decidable (hasN f x) := inferInstanceAs (Decidable (_ ∧ _))
theorem inN_cast {r : Nat × Nat} {x : Nat} : (((r.1 : Int) ≤ (x : Int)) ∧ (x : Int) ≤ (r.2 : Int)) ↔ inN r x := by
  unfold inN
  rw [Int.ofNat_le, Int.ofNat_le]
theorem has_f {f : F3} (h : Fv f.1 f.2.1 f.2.2) {x : Nat} (hx : x < U64) : ((known_Has.f f.1 ((f.2.1.1 : Int), (f.2.1.2 : Int)) x).bind fun r2 => bif r2 then (ranges_Has.f f.1 ((f.2.2.1 : Int), (f.2.2.2 : Int)) x).bind fun r3 => some r3 else some false) = some (decide (hasN f x)) := by
  obtain ⟨e1, e2, e3⟩ := fvl h
  rw [known_Has_eq f.1 h.kv.l1 h.kv.l2 hx, Option.bind_some, ranges_Has_eq f.1 _ hx, Option.bind_some, nrm_cp, e2, e3]
  simp only [inN_cast]
  by_cases h1 : khas f.2.1 (vcut (W f.1) x)
  · rw [bifd_pos h1]; congr 1; rw [decide_eq_decide]; exact ⟨fun q => ⟨h1, q⟩, fun q => q.2⟩
  · rw [bifd_neg h1, decide_eq_false (fun q : hasN f x => h1 q.1)]
theorem has_f' {f : F3} (h : Fv f.1 f.2.1 f.2.2) {x : Nat} (hx : x < U64) : ((saturateref12_Has.f f.1 ((f.2.1.1 : Int), (f.2.1.2 : Int)) x).bind fun r2 => bif r2 then (saturateref13_Has.f f.1 ((f.2.2.1 : Int), (f.2.2.2 : Int)) x).bind fun r3 => some r3 else some false) = some (decide (hasN f x)) := by
  obtain ⟨e1, e2, e3⟩ := fvl h
  rw [saturateref12_Has_eq f.1 h.kv.l1 h.kv.l2 hx, Option.bind_some, saturateref13_Has_eq f.1 _ hx, Option.bind_some, nrm_cp, e2, e3]
  simp only [inN_cast]
  by_cases h1 : khas f.2.1 (vcut (W f.1) x)
  · rw [bifd_pos h1]; congr 1; rw [decide_eq_decide]; exact ⟨fun q => ⟨h1, q⟩, fun q => q.2⟩
  · rw [bifd_neg h1, decide_eq_false (fun q : hasN f x => h1 q.1)]
theorem facts_Has_eq (a : Int) {k r : Nat × Nat} (hz : k.1 < U64) (ho : k.2 < U64) {x : Nat} (hx : x < U64) : facts_Has.f (fI a k r) x = some (decide (hasN (ofN a k r) x)) := by
  unfold facts_Has.f
  have h := facts_of_eq a (k := k) (r := r) hz ho
  simp only
  rw [h, Option.bind_some]
  exact has_f (ofN_fv a hz ho) hx
theorem saturateref14_Has_eq (a : Int) {k r : Nat × Nat} (hz : k.1 < U64) (ho : k.2 < U64) {x : Nat} (hx : x < U64) : saturateref14_Has.f (fI a k r) x = some (decide (hasN (ofN a k r) x)) := by
  unfold saturateref14_Has.f
  have h := saturateref14_Norm_eq a (k := k) (r := r) hz ho
  simp only
  rw [h, Option.bind_some]
  exact has_f' (ofN_fv a hz ho) hx
theorem facts_Leq_eq (a a' : Int) {k r k' r' : Nat × Nat} (hz : k.1 < U64) (ho : k.2 < U64) (hz' : k'.1 < U64) (ho' : k'.2 < U64) : ∃ b, facts_Leq.f (fI a k r) (fI a' k' r') = some b ∧ saturateref14_Leq.f (fI a k r) (fI a' k' r') = some b := by
  unfold facts_Leq.f saturateref14_Leq.f
  have h1 := facts_of_eq a (k := k) (r := r) hz ho
  have h2 := facts_of_eq a' (k := k') (r := r') hz' ho'
  have h3 := saturateref14_Norm_eq a (k := k) (r := r) hz ho
  have h4 := saturateref14_Norm_eq a' (k := k') (r := r') hz' ho'
  have f1 := ofN_fv a (r := r) hz ho
  have f2 := ofN_fv a' (r := r') hz' ho'
  simp only
  rw [h1, h2, h3, h4]
  simp only [Option.bind_some]
  generalize ofN a k r = f at f1 ⊢
  generalize ofN a' k' r' = g at f2 ⊢
  rw [known_Leq_eq f.1 f1.kv.l1 f1.kv.l2 f2.kv.l1 f2.kv.l2, saturateref12_Leq_eq f.1 f1.kv.l1 f1.kv.l2 f2.kv.l1 f2.kv.l2, ranges_Leq_eq, saturateref13_Leq_eq]
  simp only [Option.bind_some]
  generalize (f.1 == g.1) = b1
  generalize decide (kle (kof (MK f.1) f.2.1.1 f.2.1.2) (kof (MK f.1) g.2.1.1 g.2.1.2)) = b2
  cases b1 <;> cases b2 <;> exact ⟨_, rfl, rfl⟩
/-- What Meet returns: the same in both; valid facts; and what both contain. -/
theorem meet_ex (a a' : Int) {k r k' r' : Nat × Nat} (hz : k.1 < U64) (ho : k.2 < U64) (hz' : k'.1 < U64) (ho' : k'.2 < U64) : ∃ (m : F3) (b : Bool), facts_Meet.f (fI a k r) (fI a' k' r') = some (fE m, b) ∧ saturateref14_Meet.f (fI a k r) (fI a' k' r') = some (fE m, b) ∧ Fv m.1 m.2.1 m.2.2 ∧
    ((ofN a k r).1 = (ofN a' k' r').1 → m.1 = (ofN a k r).1 ∧ ∀ x, hasN (ofN a k r) x → hasN (ofN a' k' r') x → b = true ∧ hasN m x) := by
  unfold facts_Meet.f saturateref14_Meet.f
  have h1 := facts_of_eq a (k := k) (r := r) hz ho
  have h2 := facts_of_eq a' (k := k') (r := r') hz' ho'
  have h3 := saturateref14_Norm_eq a (k := k) (r := r) hz ho
  have h4 := saturateref14_Norm_eq a' (k := k') (r := r') hz' ho'
  have f1 := ofN_fv a (r := r) hz ho
  have f2 := ofN_fv a' (r := r') hz' ho'
  simp only
  rw [h1, h2, h3, h4]
  simp only [Option.bind_some]
  generalize ofN a k r = f at f1 ⊢
  generalize ofN a' k' r' = g at f2 ⊢
  obtain ⟨a, k, r⟩ := f
  obtain ⟨c, k', r'⟩ := g
  obtain ⟨e1, e2, e3⟩ := fvl f1
  simp only at f1 f2 e1 e2 e3 ⊢
  rw [facts_Top_eq, saturateref14_Top_eq]
  simp only [Option.bind_some]
  have ht := Fv.top a
  rw [e1] at ht ⊢
  by_cases hw : a = c
  · subst hw
    obtain ⟨_, e4, e5⟩ := fvl (f := (a, k', r')) f2
    simp only at e4 e5
    rw [bne_self_eq_false]
    rw [known_Meet_eq a f1.kv.l1 f1.kv.l2 f2.kv.l1 f2.kv.l2, saturateref12_Meet_eq a f1.kv.l1 f1.kv.l2 f2.kv.l1 f2.kv.l2, e2, e4, rMeet_cp a r r', rMeet_cp' a r r', e3, e5]
    simp only [Option.bind_some]
    rw [cond_false, cond_false]
    by_cases hd : kdis k k'
    · rw [if_pos hd]
      simp only
      rw [Bool.not_true, cond_false, cond_false]
      by_cases hn : (mttN r r').2 < (mttN r r').1
      · rw [if_pos hn]
        simp only
        rw [Bool.not_false, cond_true, cond_true]
        refine ⟨(a, (0, 0), (0, MK a)), false, rfl, rfl, ht, fun _ => ⟨rfl, fun x q1 q2 => ?_⟩⟩
        obtain ⟨_, i1, i2⟩ := q1
        obtain ⟨_, i3, i4⟩ := q2
        simp only at i1 i2 i3 i4
        exact absurd hn (by unfold mttN; simp only; omega)
      · rw [if_neg hn]
        simp only
        rw [Bool.not_true, cond_false, cond_false]
        obtain ⟨q, p1, p2, p3⟩ := reduce_v f1.a1 f1.a2 (k := (k.1 ||| k'.1, k.2 ||| k'.2)) (r := mttN r r') ⟨or_lt f1.kv.l1 f2.kv.l1, or_lt f1.kv.l2 f2.kv.l2, kok_or f1.kv.ok f2.kv.ok hd⟩ (mttN_le f1.rv f2.rv hn)
        rw [p2, p3]
        refine ⟨redF a q, q.isSome, rfl, rfl, redF_fv f1.a1 f1.a2 p1, fun _ => ⟨by cases q <;> rfl, fun x q1 q2 => ?_⟩⟩
        obtain ⟨q1, i1, i2⟩ := q1
        obtain ⟨q2, i3, i4⟩ := q2
        simp only at i1 i2 i3 i4 q1 q2
        have hx : vcut (W a) x ≤ MK a := Nat.le_trans i2 f1.rv.2
        have hor := has_or q1 q2
        have hin : inN (nrmN (MK a) (mttN r r')) (vcut (W a) x) := by
          rw [nrmN_of (mttN_le f1.rv f2.rv hn)]
          unfold mttN inN; simp only; omega
        cases q with
        | none => exact (p1 _ hx hor.2 hin).elim
        | some q => exact ⟨rfl, p1.2 _ hx hor.2 hin⟩
    · rw [if_neg hd]
      simp only
      rw [Bool.not_false, cond_true, cond_true]
      exact ⟨(a, (0, 0), (0, MK a)), false, rfl, rfl, ht, fun _ => ⟨rfl, fun x q1 q2 => absurd (has_or q1.1 q2.1).1 hd⟩⟩
  · have n1 : (c != a) = true := by rw [bne_iff_ne]; exact fun q => hw q.symm
    have n2 : (a != c) = true := by rw [bne_iff_ne]; exact hw
    rw [n1, n2, cond_true, cond_true]
    exact ⟨(a, (0, 0), (0, MK a)), false, rfl, rfl, ht, fun q => absurd q hw⟩
theorem jnN_ok {M : Nat} {x y : Nat × Nat} (h : rok M x) (h' : rok M y) : rok M (jnN x y) := by
  obtain ⟨h1, h2⟩ := h
  obtain ⟨h3, h4⟩ := h'
  unfold jnN rok; simp only; omega
theorem join_ex (a a' : Int) {k r k' r' : Nat × Nat} (hz : k.1 < U64) (ho : k.2 < U64) (hz' : k'.1 < U64) (ho' : k'.2 < U64) : ∃ q, facts_Join.f (fI a k r) (fI a' k' r') = some q ∧ saturateref14_Join.f (fI a k r) (fI a' k' r') = some q := by
  unfold facts_Join.f saturateref14_Join.f
  have h1 := facts_of_eq a (k := k) (r := r) hz ho
  have h2 := facts_of_eq a' (k := k') (r := r') hz' ho'
  have h3 := saturateref14_Norm_eq a (k := k) (r := r) hz ho
  have h4 := saturateref14_Norm_eq a' (k := k') (r := r') hz' ho'
  have f1 := ofN_fv a (r := r) hz ho
  have f2 := ofN_fv a' (r := r') hz' ho'
  simp only
  rw [h1, h2, h3, h4]
  simp only [Option.bind_some]
  generalize ofN a k r = f at f1 ⊢
  generalize ofN a' k' r' = g at f2 ⊢
  obtain ⟨a, k, r⟩ := f
  obtain ⟨c, k', r'⟩ := g
  obtain ⟨e1, e2, e3⟩ := fvl f1
  simp only at f1 f2 e1 e2 e3 ⊢
  by_cases hw : a = c
  · subst hw
    obtain ⟨_, e4, e5⟩ := fvl (f := (a, k', r')) f2
    simp only at e4 e5
    rw [bne_self_eq_false, cond_false, cond_false]
    rw [known_Join_eq a f1.kv.l1 f1.kv.l2 f2.kv.l1 f2.kv.l2, saturateref12_Join_eq a f1.kv.l1 f1.kv.l2 f2.kv.l1 f2.kv.l2, e2, e4, ranges_Join_eq, saturateref13_Join_eq]
    simp only [Option.bind_some]
    rw [show nrm (MM a) ((r.1 : Int), (r.2 : Int)) = cp r from by rw [nrm_cp a r, e3], show nrm (MM a) ((r'.1 : Int), (r'.2 : Int)) = cp r' from by rw [nrm_cp a r', e5], jn_cp]
    obtain ⟨q, p1, p2, p3⟩ := reduce_v f1.a1 f1.a2 (k := (k.1 &&& k'.1, k.2 &&& k'.2)) (r := jnN r r') ⟨and_lt f2.kv.l1, and_lt f2.kv.l2, kok_and f1.kv.ok⟩ (jnN_ok f1.rv f2.rv)
    rw [p2, p3]
    exact ⟨_, rfl, rfl⟩
  · have n1 : (c != a) = true := by rw [bne_iff_ne]; exact fun q => hw q.symm
    have n2 : (a != c) = true := by rw [bne_iff_ne]; exact hw
    rw [n1, n2, cond_true, cond_true]
    exact ⟨_, rfl, rfl⟩
end Go.Proofs.YtcihbcffokjgjaaGreat.Fn
