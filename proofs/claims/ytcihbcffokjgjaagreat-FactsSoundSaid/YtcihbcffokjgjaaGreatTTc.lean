/- Facts: validity; Reduce reaches a fixpoint, in the program and in the reference alike, and removes no value. Sums and differences of elements: the program's by two sums, the reference's bit by bit with a carry of three states. More functions of the bit vectors (program and reference), in the words of the theory. -/
import Derived.Test.YtcihbcffokjgjaaGreatTF2
import Derived.Test.YtcihbcffokjgjaaGreatTF3
import Derived.Test.YtcihbcffokjgjaaGreatTF9
import Derived.Test.YtcihbcffokjgjaaGreatTFa
import Derived.Test.YtcihbcffokjgjaaGreatTF12
import Derived.Test.YtcihbcffokjgjaaGreatTTv
namespace Go.Proofs.YtcihbcffokjgjaaGreat.Fn
open Go Go.RowKit Go.Proofs.YtcihbcffokjgjaaGreat.Ev Go.Proofs.YtcihbcffokjgjaaGreat.Bv
set_option linter.unusedVariables false
set_option linter.unusedSimpArgs false
set_option maxRecDepth 100000
def stepN (a : Int) (k r : Nat × Nat) : Option ((Nat × Nat) × (Nat × Nat)) :=
  if (rngN (MK a) k r).2 < (rngN (MK a) k r).1 then none
  else if kdis (kof (MK a) k.1 k.2) (preK (W a) (rngN (MK a) k r)) then some (korN (kof (MK a) k.1 k.2) (preK (W a) (rngN (MK a) k r)), rngN (MK a) k r)
  else none
theorem stepV_some {a : Int} {k r k' r' : Nat × Nat} (h : stepN a k r = some (k', r')) : stepV a k r = (fI a k' r', true) := by
  unfold stepN at h
  unfold stepV
  by_cases h1 : (rngN (MK a) k r).2 < (rngN (MK a) k r).1
  · rw [if_pos h1] at h; exact absurd h (by simp)
  · rw [if_neg h1] at h ⊢
    by_cases h2 : kdis (kof (MK a) k.1 k.2) (preK (W a) (rngN (MK a) k r))
    · rw [if_pos h2] at h ⊢
      injection h with h; injection h with e1 e2
      rw [← e1, ← e2]
    · rw [if_neg h2] at h; exact absurd h (by simp)
theorem stepV_none {a : Int} {k r : Nat × Nat} (h : stepN a k r = none) : (stepV a k r).2 = false := by
  unfold stepN at h
  unfold stepV
  by_cases h1 : (rngN (MK a) k r).2 < (rngN (MK a) k r).1
  · rw [if_pos h1]
  · rw [if_neg h1] at h ⊢
    by_cases h2 : kdis (kof (MK a) k.1 k.2) (preK (W a) (rngN (MK a) k r))
    · rw [if_pos h2] at h; exact absurd h (by simp)
    · rw [if_neg h2]
theorem pr_beq {k k' : Nat × Nat} : (((k.1 : Int) == (k'.1 : Int)) && (((k.2 : Int) == (k'.2 : Int)) && true)) = decide (k = k') := by
  rw [castb, castb, Bool.and_true, ← Bool.decide_and, decide_eq_decide]
  exact ⟨fun h => Prod.ext h.1 h.2, fun h => by rw [h]; exact ⟨rfl, rfl⟩⟩
theorem fI_beq {a : Int} {k r k' r' : Nat × Nat} : ((a == a) && ((((k'.1 : Int) == (k.1 : Int)) && (((k'.2 : Int) == (k.2 : Int)) && true)) && ((((r'.1 : Int) == (r.1 : Int)) && (((r'.2 : Int) == (r.2 : Int)) && true)) && true))) = decide (k' = k ∧ r' = r) := by
  rw [pr_beq, pr_beq, Bool.and_true, beq_self_eq_true, Bool.true_and, Bool.decide_and]
structure Kv (a : Int) (k : Nat × Nat) : Prop where
  l1 : k.1 < U64
  l2 : k.2 < U64
  ok : kok (MK a) k.1 k.2
theorem Kv.zero (a : Int) : Kv a (0, 0) := ⟨by decide, by decide, kok_zero _⟩
theorem Kv.of (a : Int) {k : Nat × Nat} (h1 : k.1 < U64) (h2 : k.2 < U64) : Kv a (kof (MK a) k.1 k.2) := ⟨(kof_lt h1 h2).1, (kof_lt h1 h2).2, kof_kok _ _ _⟩
theorem Kv.kof {a : Int} {k : Nat × Nat} (h : Kv a k) : kof (MK a) k.1 k.2 = k := kof_of h.ok
theorem stepN_eq {a : Int} {k r : Nat × Nat} (hk : Kv a k) : stepN a k r = if (rngN (MK a) k r).2 < (rngN (MK a) k r).1 then none
  else if kdis k (preK (W a) (rngN (MK a) k r)) then some (korN k (preK (W a) (rngN (MK a) k r)), rngN (MK a) k r) else none := by unfold stepN; rw [hk.kof]
theorem stepN_cases {a : Int} {k r k' r' : Nat × Nat} (hk : Kv a k) (h : stepN a k r = some (k', r')) :
    ¬ r'.2 < r'.1 ∧ r' = rngN (MK a) k r ∧ kdis k (preK (W a) r') ∧ k' = korN k (preK (W a) r') ∧ rok (MK a) r' := by
  rw [stepN_eq hk] at h
  by_cases h1 : (rngN (MK a) k r).2 < (rngN (MK a) k r).1
  · rw [if_pos h1] at h; exact absurd h (by simp)
  · rw [if_neg h1] at h
    by_cases h2 : kdis k (preK (W a) (rngN (MK a) k r))
    · rw [if_pos h2] at h
      injection h with h; injection h with e1 e2
      subst e2
      exact ⟨h1, rfl, h2, e1.symm, rngN_ok h1⟩
    · rw [if_neg h2] at h; exact absurd h (by simp)
theorem stepN_kv {a : Int} {k r k' r' : Nat × Nat} (hk : Kv a k) (h : stepN a k r = some (k', r')) : Kv a k' := by
  obtain ⟨_, _, h3, h4, _⟩ := stepN_cases hk h
  have hp := preK_lt (w := W a) (W_le a) r'
  subst h4
  exact ⟨or_lt hk.l1 hp.1, or_lt hk.l2 hp.2, kok_or hk.ok (preK_ok a r') h3⟩
theorem mid_ok {a : Int} {k : Nat × Nat} (hk : Kv a k) : rok (MK a) (midN (MK a) k) := by
  have hle := kok_leA hk.l1 hk.l2 hk.ok
  have := add_disjoint k.1 k.2 hk.ok.1
  have h2 : k.1 ||| k.2 ≤ MK a := (or_le_mask (w := W a)).2 hle
  unfold midN rok; simp only; omega
theorem stepN_again {a : Int} {k r r' : Nat × Nat} (hk : Kv a k) (h : stepN a k r = some (k, r')) : stepN a k r' = some (k, r') := by
  obtain ⟨h1, h2, h3, h4, h5⟩ := stepN_cases hk h
  have hm := mid_ok hk
  have e : rngN (MK a) k r' = r' := by
    unfold rngN
    rw [nrmN_of h5, nrmN_of hm]
    unfold rngN at h2
    rw [nrmN_of hm] at h2
    rw [h2]
    unfold mttN
    simp only
    rw [Nat.max_assoc, Nat.min_assoc, Nat.max_self, Nat.min_self]
  rw [stepN_eq hk, e, if_neg h1, if_pos h3, ← h4]
theorem cnt_mono {f g : Nat → Bool} : ∀ {n : Nat}, (∀ i, i < n → f i = true → g i = true) → cnt f n ≤ cnt g n
  | 0, _ => Nat.le_refl _
  | n + 1, h => by
    have := cnt_mono (n := n) (fun i hi => h i (by omega))
    have h2 := h n (by omega)
    simp only [cnt]
    cases e : f n
    · simp; omega
    · rw [h2 e]; omega
theorem cnt_lt {f g : Nat → Bool} {j : Nat} : ∀ {n : Nat}, (∀ i, i < n → f i = true → g i = true) → j < n → f j = false → g j = true → cnt f n < cnt g n
  | 0, _, hj, _, _ => absurd hj (by omega)
  | n + 1, h, hj, h1, h2 => by
    simp only [cnt]
    by_cases e : j = n
    · subst e
      have := cnt_mono (n := j) (fun i hi => h i (by omega))
      rw [h1, h2]; simp; omega
    · have := cnt_lt (n := n) (fun i hi => h i (by omega)) (by omega) h1 h2
      have h3 := h n (by omega)
      cases e : f n
      · simp; omega
      · rw [h3 e]; omega
def know (k : Nat × Nat) : Nat := ones (k.1 ||| k.2)
theorem know_le (k : Nat × Nat) : know k ≤ 64 := cnt_le _ _
theorem know_lt {k p : Nat × Nat} (hp : p.1 < U64 ∧ p.2 < U64) (hd : kdis k p) (h : korN k p ≠ k) : know k < know (korN k p) := by
  have hm : ∀ i, i < 64 → (k.1 ||| k.2).testBit i = true → ((korN k p).1 ||| (korN k p).2).testBit i = true := fun i _ => by
    unfold korN
    simp only [Nat.testBit_or]
    cases k.1.testBit i <;> cases k.2.testBit i <;> simp
  have hb : ∃ i, (p.1.testBit i = true ∧ k.1.testBit i = false) ∨ (p.2.testBit i = true ∧ k.2.testBit i = false) := by
    refine Classical.byContradiction fun hn => h ?_
    have hn' : ∀ i, ¬ ((p.1.testBit i = true ∧ k.1.testBit i = false) ∨ (p.2.testBit i = true ∧ k.2.testBit i = false)) := fun i q => hn ⟨i, q⟩
    refine Prod.ext (bits_ext fun i => ?_) (bits_ext fun i => ?_)
    · have := hn' i
      show (k.1 ||| p.1).testBit i = k.1.testBit i
      rw [Nat.testBit_or]
      revert this
      cases k.1.testBit i <;> cases p.1.testBit i <;> simp
    · have := hn' i
      show (k.2 ||| p.2).testBit i = k.2.testBit i
      rw [Nat.testBit_or]
      revert this
      cases k.2.testBit i <;> cases p.2.testBit i <;> simp
  obtain ⟨i, hi⟩ := hb
  have hdi := bit_of hd i
  simp only [Nat.testBit_and, Nat.testBit_or, Nat.zero_testBit] at hdi
  have i64 : i < 64 := by
    refine Classical.byContradiction fun hn => ?_
    rcases hi with ⟨hi, _⟩ | ⟨hi, _⟩
    · rw [testBit_ge (lt_pw hp.1) (by omega)] at hi; exact absurd hi (by decide)
    · rw [testBit_ge (lt_pw hp.2) (by omega)] at hi; exact absurd hi (by decide)
  refine cnt_lt hm i64 ?_ ?_
  · rw [Nat.testBit_or]
    rcases hi with ⟨hi, hk⟩ | ⟨hi, hk⟩
    · rw [hi, Bool.or_true, Bool.true_and] at hdi
      rw [hk, Bool.false_or]
      revert hdi
      cases k.2.testBit i <;> simp
    · rw [hi, Bool.or_true, Bool.and_true] at hdi
      rw [hk, Bool.or_false]
      revert hdi
      cases k.1.testBit i <;> simp
  · unfold korN
    simp only [Nat.testBit_or]
    rcases hi with ⟨hi, hk⟩ | ⟨hi, hk⟩ <;> rw [hi] <;> simp
def inN (r : Nat × Nat) (x : Nat) : Prop := r.1 ≤ x ∧ x ≤ r.2
instance (r : Nat × Nat) (x : Nat) : Decidable (inN r x) := inferInstanceAs (Decidable (_ ∧ _))
theorem has_mid {a : Int} {k : Nat × Nat} {x : Nat} (hx : x ≤ MK a) (hk : Kv a k) (h : khas k x) : inN (midN (MK a) k) x := by
  have hle := kok_leA hk.l1 hk.l2 hk.ok
  have e1 := add_disjoint x k.1 h.1
  have e2 : x ||| k.1 ≤ MK a := (or_le_mask (w := W a)).2 ⟨hx, hle.1⟩
  have e3 : x &&& k.2 ≤ x := Nat.and_le_left
  rw [h.2] at e3
  unfold midN inN; simp only; omega
theorem has_or {k p : Nat × Nat} {x : Nat} (h1 : khas k x) (h2 : khas p x) : kdis k p ∧ khas (korN k p) x := by
  have a1 := bit_of h1.1
  have a2 := bit_of h1.2
  have a3 := bit_of h2.1
  have a4 := bit_of h2.2
  refine ⟨bits_ext fun i => ?_, bits_ext fun i => ?_, bits_ext fun i => ?_⟩
  all_goals
    have a1 := a1 i
    have a2 := a2 i
    have a3 := a3 i
    have a4 := a4 i
    simp only [Nat.testBit_and, Nat.zero_testBit] at a1 a2 a3 a4
    try unfold korN
    simp only [Nat.testBit_and, Nat.testBit_or, Nat.zero_testBit]
    revert a1 a2 a3 a4
    cases x.testBit i <;> cases k.1.testBit i <;> cases k.2.testBit i <;> cases p.1.testBit i <;> cases p.2.testBit i <;> decide
theorem stepN_sound {a : Int} {k r : Nat × Nat} {x : Nat} (hx : x ≤ MK a) (hk : Kv a k) (h : khas k x) (hr : inN (nrmN (MK a) r) x) : ∃ k' r', stepN a k r = some (k', r') ∧ khas k' x ∧ inN r' x := by
  have hm := has_mid hx hk h
  have hin : inN (rngN (MK a) k r) x := by
    unfold rngN
    rw [nrmN_of (mid_ok hk)]
    obtain ⟨h1, h2⟩ := hr
    obtain ⟨h3, h4⟩ := hm
    unfold mttN inN; simp only; omega
  have hne : ¬ (rngN (MK a) k r).2 < (rngN (MK a) k r).1 := by obtain ⟨h1, h2⟩ := hin; omega
  have hp := preK_has (rngN_ok hne) hin.1 hin.2
  obtain ⟨d, hh⟩ := has_or h hp
  exact ⟨_, _, by rw [stepN_eq hk, if_neg hne, if_pos d], hh, hin⟩
structure Fv (a : Int) (k r : Nat × Nat) : Prop where
  a1 : 1 ≤ a
  a2 : a ≤ 64
  kv : Kv a k
  rv : rok (MK a) r
  st : stepN a k r = some (k, r)
def fval (a : Int) (k r : Nat × Nat) : Prop := (1 ≤ a ∧ a ≤ 64) ∧ kok (MK a) k.1 k.2 ∧ rok (MK a) r ∧ stepN a k r = some (k, r)
instance (a : Int) (k r : Nat × Nat) : Decidable (fval a k r) := inferInstanceAs (Decidable (_ ∧ _))
theorem Fv.val {a : Int} {k r : Nat × Nat} (h : Fv a k r) : fval a k r := ⟨⟨h.a1, h.a2⟩, h.kv.ok, h.rv, h.st⟩
theorem fval.fv {a : Int} {k r : Nat × Nat} (h : fval a k r) (h1 : k.1 < U64) (h2 : k.2 < U64) : Fv a k r := ⟨h.1.1, h.1.2, ⟨h1, h2, h.2.1⟩, h.2.2.1, h.2.2.2⟩
theorem ok_tail {a : Int} {k r : Nat × Nat} : (bif (stepV a k r).2 then some (((stepV a k r).1.1 == a) && ((((stepV a k r).1.2.1 == (k.1 : Int)) && (((stepV a k r).1.2.2.1 == (k.2 : Int)) && true)) && ((((stepV a k r).1.2.2.2.1 == (r.1 : Int)) && (((stepV a k r).1.2.2.2.2 == (r.2 : Int)) && true)) && true))) else some false) = some (decide (stepN a k r = some (k, r))) := by
  cases h : stepN a k r with
  | none => rw [stepV_none h]; rfl
  | some q =>
    obtain ⟨k', r'⟩ := q
    rw [stepV_some h]
    simp only [cond_true]
    rw [fI_beq]
    congr 1
    rw [decide_eq_decide]
    exact ⟨fun h => by rw [h.1, h.2], fun h => by injection h with h; injection h with h1 h2; exact ⟨h1, h2⟩⟩
theorem rok_cast {a : Int} {r : Nat × Nat} : (((r.1 : Int) ≤ (r.2 : Int)) ∧ (r.2 : Int) ≤ MM a) ↔ rok (MK a) r := by
  unfold rok
  rw [show MM a = ((MK a : Nat) : Int) from rfl, Int.ofNat_le, Int.ofNat_le]
theorem facts_Valid_eq (a : Int) {k r : Nat × Nat} (hz : k.1 < U64) (ho : k.2 < U64) : facts_Valid.f (fI a k r) = some (decide (fval a k r)) := by
  unfold facts_Valid.f facts_clamp.f
  simp only [Option.bind_some]
  have hc : mx 1 (mn a 64) = (W a : Int) := by unfold W mn mx; repeat' split <;> omega
  rw [hc]
  by_cases h1 : 1 ≤ a ∧ a ≤ 64
  · rw [W_of' h1.1 h1.2, bne_self_eq_false, cond_false, known_Valid_eq a hz ho, Option.bind_some, ranges_Valid_eq, Option.bind_some]
    simp only [rok_cast]
    by_cases h2 : kok (MK a) k.1 k.2
    · rw [decide_eq_true h2]
      simp only [Bool.not_true, cond_false]
      by_cases h3 : rok (MK a) r
      · rw [decide_eq_true h3]
        simp only [Bool.not_true, cond_false]
        have hs := facts_step_eq h1.1 h1.2 (r := r) hz ho h2
        rw [hs, Option.bind_some, ok_tail]
        congr 1; rw [decide_eq_decide]
        exact ⟨fun h => ⟨h1, h2, h3, h⟩, fun h => h.2.2.2⟩
      · rw [decide_eq_false h3, decide_eq_false (fun q : fval a k r => h3 q.2.2.1)]; rfl
    · rw [decide_eq_false h2, decide_eq_false (fun q : fval a k r => h2 q.2.1)]; rfl
  · have hne : (a != (W a : Int)) = true := by
      have := W_pos a
      have := W_le a
      rw [bne_iff_ne]; omega
    rw [hne, cond_true, decide_eq_false (fun q : fval a k r => h1 q.1)]
theorem W_W (a : Int) : W (W a : Int) = W a := W_of (W_pos a) (W_le a)
theorem MK_W (a : Int) : MK (W a : Int) = MK a := by show vmask (W (W a : Int)) = vmask (W a); rw [W_W]
theorem facts_Top_eq (a : Int) : facts_Top.f a = some (fI (W a : Int) (0, 0) (0, MK a)) := by
  unfold facts_Top.f facts_clamp.f known_Top.f
  simp only [Option.bind_some]
  have hc : mx 1 (mn a 64) = (W a : Int) := by unfold W mn mx; repeat' split <;> omega
  rw [hc, ranges_Top_eq, Option.bind_some, show MM (W a : Int) = ((MK (W a : Int) : Nat) : Int) from rfl, MK_W]; rfl
abbrev F3 := Int × (Nat × Nat) × (Nat × Nat)
abbrev fE (f : F3) : FT := fI f.1 f.2.1 f.2.2
def topN (a : Int) : F3 := ((W a : Int), (0, 0), (0, MK a))
def ofN (a : Int) (k r : Nat × Nat) : F3 := if fval a k r then (a, k, r) else topN a
theorem preK_top {w : Nat} (h : 1 ≤ w) : preK w (0, vmask w) = (0, 0) := by
  obtain ⟨n, rfl⟩ : ∃ n, w = n + 1 := ⟨w - 1, by omega⟩
  unfold preK preS
  rw [if_neg (by simp only; rw [Nat.zero_testBit, testBit_mask, decide_eq_true (Nat.lt_succ_self n)]; decide)]
theorem Fv.top (a : Int) : Fv (W a : Int) (0, 0) (0, MK a) := by
  have w1 := W_pos a
  have w2 := W_le a
  have hr : rok (MK a) (0, MK a) := ⟨Nat.zero_le _, Nat.le_refl _⟩
  have e : rngN (MK a) (0, 0) (0, MK a) = (0, MK a) := by
    unfold rngN
    rw [show midN (MK a) (0, 0) = (0, MK a) from rfl, nrmN_of hr]
    unfold mttN; simp
  refine ⟨by omega, by omega, Kv.zero _, by rw [MK_W]; exact hr, ?_⟩
  rw [stepN_eq (Kv.zero _), MK_W, e, if_neg (by simp only; omega), W_W, preK_top w1, if_pos (by decide)]
  rfl
theorem facts_of_eq (a : Int) {k r : Nat × Nat} (hz : k.1 < U64) (ho : k.2 < U64) : facts_of.f (fI a k r) = some (fE (ofN a k r)) := by
  unfold facts_of.f ofN
  have h := facts_Valid_eq a (k := k) (r := r) hz ho
  simp only
  rw [h, Option.bind_some, facts_Top_eq, Option.bind_some]
  by_cases c : fval a k r
  · rw [bifd_pos c, if_pos c]
  · rw [bifd_neg c, if_neg c]; rfl
theorem ofN_fv (a : Int) {k r : Nat × Nat} (hz : k.1 < U64) (ho : k.2 < U64) : Fv (ofN a k r).1 (ofN a k r).2.1 (ofN a k r).2.2 := by
  unfold ofN
  by_cases c : fval a k r
  · rw [if_pos c]; exact c.fv hz ho
  · rw [if_neg c]; exact Fv.top a
def redR (a : Int) : Option ((Nat × Nat) × (Nat × Nat)) → FT × Bool
  | none => (fI a (0, 0) (0, MK a), false)
  | some (k, r) => (fI a k r, true)
def RedP (a : Int) (k r : Nat × Nat) : Option ((Nat × Nat) × (Nat × Nat)) → Prop
  | none => ∀ x, x ≤ MK a → khas k x → inN (nrmN (MK a) r) x → False
  | some (k', r') => Fv a k' r' ∧ ∀ x, x ≤ MK a → khas k x → inN (nrmN (MK a) r) x → khas k' x ∧ inN r' x
def Run (a : Int) (L : Nat → Nat → Nat × Nat → Nat × Nat → Option (FT × Bool)) : Prop := ∀ (n i : Nat) (k r : Nat × Nat), Kv a k → i ≤ 200 → L (n + 1) i k r =
  match stepN a k r with | none => some (redR a none) | some (k', r') => bif decide (k' = k ∧ r' = r) then some (redR a (some (k, r))) else L n (i + 1) k' r'
def RedQ (a : Int) (d : Nat) (k r : Nat × Nat) (q : Option ((Nat × Nat) × (Nat × Nat))) : Prop := RedP a k r q ∧ (stepN a k r = some (k, r) → q = some (k, r)) ∧
  ∀ L, Run a L → ∀ n i, d + 2 < n → i + d + 2 ≤ 200 → L n i k r = some (redR a q)
theorem red_ex {a : Int} (h1 : 1 ≤ a) (h2 : a ≤ 64) : ∀ (d : Nat) (k r : Nat × Nat), Kv a k → 64 ≤ know k + d → ∃ q, RedQ a d k r q := by
  intro d
  have none_case : ∀ (d : Nat) (k r : Nat × Nat), Kv a k → stepN a k r = none → RedQ a d k r none := fun d k r hk h => by
    refine ⟨fun x hx hh hin => ?_, fun e => absurd (h.symm.trans e) (by simp), fun L hL n i hn hi => ?_⟩
    · obtain ⟨_, _, e, _⟩ := stepN_sound hx hk hh hin; rw [h] at e; exact absurd e (by simp)
    · obtain ⟨n, rfl⟩ : ∃ m, n = m + 1 := ⟨n - 1, by omega⟩; rw [hL n i k r hk (by omega), h]
  have last_case : ∀ (d : Nat) (k r r' : Nat × Nat), Kv a k → stepN a k r = some (k, r') → RedQ a d k r (some (k, r')) := fun d k r r' hk h => by
    obtain ⟨c1, c2, c3, c4, c5⟩ := stepN_cases hk h
    have hag := stepN_again hk h
    refine ⟨⟨⟨h1, h2, hk, c5, hag⟩, fun x hx hh hin => ?_⟩, fun e => h.symm.trans e, fun L hL n i hn hi => ?_⟩
    · obtain ⟨_, _, e, e1, e2⟩ := stepN_sound hx hk hh hin
      have q := Prod.mk.inj (Option.some.inj (h.symm.trans e)); rw [q.1, q.2]; exact ⟨e1, e2⟩
    · obtain ⟨n, rfl⟩ : ∃ m, n = m + 2 := ⟨n - 2, by omega⟩
      rw [hL (n + 1) i k r hk (by omega), h]
      dsimp only
      by_cases e : r' = r
      · subst e; rw [bifd_pos ⟨rfl, rfl⟩]
      · rw [bifd_neg (fun q => e q.2), hL n (i + 1) k r' hk (by omega), hag]; dsimp only; rw [bifd_pos ⟨rfl, rfl⟩]
  induction d with
  | zero =>
    intro k r hk hd
    cases h : stepN a k r with
    | none => exact ⟨none, none_case 0 k r hk h⟩
    | some q =>
      obtain ⟨k', r'⟩ := q
      obtain ⟨c1, c2, c3, c4, c5⟩ := stepN_cases hk h
      have he : k' = k := by
        refine Classical.byContradiction fun hn => ?_
        rw [c4] at hn
        have := know_lt (preK_lt (W_le a) r') c3 hn
        have := know_le (korN k (preK (W a) r'))
        omega
      subst he
      exact ⟨_, last_case 0 k' r r' hk h⟩
  | succ d ih =>
    intro k r hk hd
    cases h : stepN a k r with
    | none => exact ⟨none, none_case _ k r hk h⟩
    | some q =>
      obtain ⟨k', r'⟩ := q
      have hk' := stepN_kv hk h
      obtain ⟨c1, c2, c3, c4, c5⟩ := stepN_cases hk h
      by_cases he : k' = k
      · subst he
        exact ⟨_, last_case _ k' r r' hk h⟩
      · have hgt : know k < know k' := by
          rw [c4]; rw [c4] at he; exact know_lt (preK_lt (W_le a) r') c3 he
        obtain ⟨q, p1, p2, p3⟩ := ih k' r' hk' (by omega)
        have key : ∀ x, x ≤ MK a → khas k x → inN (nrmN (MK a) r) x → khas k' x ∧ inN (nrmN (MK a) r') x := fun x hx hh hin => by
          obtain ⟨_, _, e, e1, e2⟩ := stepN_sound hx hk hh hin
          have q := Prod.mk.inj (Option.some.inj (h.symm.trans e))
          rw [nrmN_of c5, q.1, q.2]; exact ⟨e1, e2⟩
        refine ⟨q, ?_, fun e => ?_, fun L hL n i hn hi => ?_⟩
        · cases q with
          | none => exact fun x hx hh hin => p1 x hx (key x hx hh hin).1 (key x hx hh hin).2
          | some q => exact ⟨p1.1, fun x hx hh hin => p1.2 x hx (key x hx hh hin).1 (key x hx hh hin).2⟩
        · have e := Prod.mk.inj (Option.some.inj (h.symm.trans e)); exact absurd e.1 he
        · obtain ⟨n, rfl⟩ : ∃ m, n = m + 1 := ⟨n - 1, by omega⟩
          rw [hL n i k r hk (by omega), h]
          dsimp only
          rw [bifd_neg (fun q => he q.1)]
          exact p3 L hL n (i + 1) (by omega) (by omega)
noncomputable def redQ (a : Int) (k r : Nat × Nat) : Option ((Nat × Nat) × (Nat × Nat)) :=
  open Classical in if h : ∃ q, RedQ a 64 k r q then Classical.choose h else none
theorem redQ_spec {a : Int} (h1 : 1 ≤ a) (h2 : a ≤ 64) {k : Nat × Nat} (r : Nat × Nat) (hk : Kv a k) : RedQ a 64 k r (redQ a k r) := by
  have h := red_ex h1 h2 64 k r hk (by omega)
  unfold redQ
  rw [dif_pos h]
  exact Classical.choose_spec h
theorem run_prog {a : Int} (h1 : 1 ≤ a) (h2 : a ≤ 64) (fu : Nat) : Run a fun n i k r => facts_Reduce.j7 fu n a a k.1 k.2 r.1 r.2 0 0 0 0 0 := by
  have htop : facts_Top.f a = some (fI a (0, 0) (0, MK a)) := by rw [facts_Top_eq, W_of' h1 h2]
  intro n i k r hk hi
  have hs := facts_step_eq h1 h2 (r := r) hk.l1 hk.l2 hk.ok
  dsimp only
  rw [facts_Reduce.j7_succ, hs, Option.bind_some]
  cases h : stepN a k r with
  | none => rw [stepV_none h]; simp only [Bool.not_false, cond_true]; rw [htop]; rfl
  | some q =>
    obtain ⟨k', r'⟩ := q
    rw [stepV_some h]
    simp only [Bool.not_true, cond_false]
    rw [fI_beq]; rfl
theorem reduce_prog (a : Int) {k r : Nat × Nat} (hz : k.1 < U64) (ho : k.2 < U64) {res : Option (FT × Bool)}
    (p : ∀ (n fu : Nat), 66 < n → facts_Reduce.j7 fu n (W a : Int) (W a : Int) ((kof (MK a) k.1 k.2).1 : Int) ((kof (MK a) k.1 k.2).2 : Int) ((nrmN (MK a) r).1 : Int) ((nrmN (MK a) r).2 : Int) 0 0 0 0 0 = res) : facts_Reduce.f (fI a k r) = res := by
  unfold facts_Reduce.f
  have hf : 100 < fuel0 := by unfold fuel0; omega
  generalize fuel0 = m at hf
  unfold facts_Reduce.g facts_clamp.f known_Top.f
  simp only [Option.bind_some]
  have hc : mx 1 (mn a 64) = (W a : Int) := by unfold W mn mx; repeat' split <;> omega
  rw [hc, known_Valid_eq (W a : Int) hz ho, Option.bind_some, MK_W]
  have hp6 : ∀ z o : Int, z = ((kof (MK a) k.1 k.2).1 : Int) → o = ((kof (MK a) k.1 k.2).2 : Int) → facts_Reduce.p4 (m + 1) (m + 1) (W a : Int) a z o (r.1 : Int) (r.2 : Int) = res := by
    intro z o e0 e1
    subst e0 e1
    rw [facts_Reduce.p4_eq, ranges_Valid_eq, Option.bind_some]
    simp only [rok_cast]
    rw [MK_W, ranges_Top_eq, Option.bind_some, show MM (W a : Int) = ((MK (W a : Int) : Nat) : Int) from rfl, MK_W, facts_Reduce.p6_eq, facts_Reduce.p6_eq]
    have := p (m + 1) (m + 1) (by omega)
    by_cases h3 : rok (MK a) r
    · rw [decide_eq_true h3]
      rw [Bool.not_true, cond_false]
      rw [nrmN_of h3] at this
      exact this
    · rw [decide_eq_false h3]
      rw [Bool.not_false, cond_true]
      rw [show nrmN (MK a) r = (0, MK a) from if_neg h3] at this
      exact this
  by_cases h : kok (MK a) k.1 k.2
  · rw [decide_eq_true h]
    rw [Bool.not_true, cond_false]
    exact hp6 _ _ (by rw [kof_of h]) (by rw [kof_of h])
  · rw [decide_eq_false h]
    rw [Bool.not_false, cond_true]
    exact hp6 _ _ (by rw [show kof (MK a) k.1 k.2 = (0, 0) from if_neg h]; rfl) (by rw [show kof (MK a) k.1 k.2 = (0, 0) from if_neg h]; rfl)
noncomputable def redS (a : Int) (k r : Nat × Nat) : Option ((Nat × Nat) × (Nat × Nat)) := redQ (W a : Int) (kof (MK a) k.1 k.2) (nrmN (MK a) r)
theorem redS_spec (a : Int) {k : Nat × Nat} (r : Nat × Nat) (hz : k.1 < U64) (ho : k.2 < U64) : RedQ (W a : Int) 64 (kof (MK a) k.1 k.2) (nrmN (MK a) r) (redS a k r) := by
  have w1 := W_pos a
  have w2 := W_le a
  have hk : Kv (W a : Int) (kof (MK a) k.1 k.2) := by have := Kv.of (W a : Int) hz ho; rw [MK_W] at this; exact this
  exact redQ_spec (by omega) (by omega) _ hk
theorem facts_Reduce_eq (a : Int) {k r : Nat × Nat} (hz : k.1 < U64) (ho : k.2 < U64) : facts_Reduce.f (fI a k r) = some (redR (W a : Int) (redS a k r)) := by
  have w1 := W_pos a
  have w2 := W_le a
  exact reduce_prog a hz ho fun n fu hn => (redS_spec a r hz ho).2.2 _ (run_prog (by omega) (by omega) fu) n 0 hn (by omega)
theorem fvl {f : F3} (h : Fv f.1 f.2.1 f.2.2) : (W f.1 : Int) = f.1 ∧ kof (MK f.1) f.2.1.1 f.2.1.2 = f.2.1 ∧ nrmN (MK f.1) f.2.2 = f.2.2 := ⟨W_of' h.a1 h.a2, h.kv.kof, nrmN_of h.rv⟩
def redF (a : Int) : Option ((Nat × Nat) × (Nat × Nat)) → F3
  | none => (a, (0, 0), (0, MK a))
  | some (k, r) => (a, k, r)
theorem redR_eq (a : Int) (q : Option ((Nat × Nat) × (Nat × Nat))) : redR a q = (fE (redF a q), q.isSome) := by
  cases q with
  | none => rfl
  | some q => rfl
theorem redF_fv {a : Int} (h1 : 1 ≤ a) (h2 : a ≤ 64) {k r : Nat × Nat} {q : Option ((Nat × Nat) × (Nat × Nat))} (h : RedP a k r q) : Fv (redF a q).1 (redF a q).2.1 (redF a q).2.2 := by
  cases q with
  | none => have := Fv.top a; rw [W_of' h1 h2] at this; exact this
  | some q => exact h.1
end Go.Proofs.YtcihbcffokjgjaaGreat.Fn
namespace Go.Proofs.YtcihbcffokjgjaaGreat.Fn
open Go Go.RowKit Go.Proofs.YtcihbcffokjgjaaGreat.Ev Go.Proofs.YtcihbcffokjgjaaGreat.Bv
set_option linter.unusedVariables false
set_option linter.unusedSimpArgs false
theorem fuel4 : ∃ k, fuel0 + 1 = k + 4 := ⟨fuel0 - 3, by unfold fuel0; omega⟩
theorem fuelg {n : Nat} (h : n ≤ 1000) : n < fuel0 + 1 := by unfold fuel0; omega
def maj (a b c : Bool) : Bool := (a && b) || (a && c) || (b && c)
def car (c A B i : Nat) : Bool := decide (2 ^ i ≤ A % 2 ^ i + B % 2 ^ i + c)
theorem car_zero {c A B : Nat} : car c A B 0 = decide (1 ≤ c) := by unfold car; simp [Nat.mod_one]
theorem car_succ {c : Nat} (hc : c ≤ 1) (A B i : Nat) : car c A B (i + 1) = maj (A.testBit i) (B.testBit i) (car c A B i) := by
  unfold car
  rw [mod_succ A i, mod_succ B i, Nat.pow_succ]
  have hA := Nat.mod_lt A (pw_pos i)
  have hB := Nat.mod_lt B (pw_pos i)
  generalize A % 2 ^ i = x at *
  generalize B % 2 ^ i = y at *
  generalize 2 ^ i = P at *
  cases A.testBit i <;> cases B.testBit i <;> simp only [maj, Bool.toNat_true, Bool.toNat_false, Bool.true_and, Bool.false_and, Bool.or_false, Bool.false_or, Bool.true_or, Bool.and_false, Nat.zero_mul, Nat.one_mul, Nat.add_zero, Bool.or_self, Bool.or_true]
  · rw [decide_eq_false_iff_not]; omega
  · rw [decide_eq_decide]; omega
  · rw [decide_eq_decide]; omega
  · rw [decide_eq_true_iff]; omega
theorem add_bit {c : Nat} (hc : c ≤ 1) (A B i : Nat) : (A + B + c).testBit i = (A.testBit i ^^ (B.testBit i ^^ car c A B i)) := by
  unfold car
  rw [Nat.testBit_eq_decide_div_mod_eq, Nat.testBit_eq_decide_div_mod_eq (x := A), Nat.testBit_eq_decide_div_mod_eq (x := B)]
  have hA := Nat.mod_lt A (pw_pos i)
  have hB := Nat.mod_lt B (pw_pos i)
  have eA := Nat.div_add_mod A (2 ^ i)
  have eB := Nat.div_add_mod B (2 ^ i)
  have hP := pw_pos i
  have hs : (A + B + c) / 2 ^ i = A / 2 ^ i + B / 2 ^ i + (if 2 ^ i ≤ A % 2 ^ i + B % 2 ^ i + c then 1 else 0) := by
    have e : A + B + c = 2 ^ i * (A / 2 ^ i + B / 2 ^ i) + (A % 2 ^ i + B % 2 ^ i + c) := by rw [Nat.mul_add]; omega
    rw [e, Nat.mul_add_div hP]
    congr 1
    split
    · exact Nat.div_eq_of_lt_le (by rw [Nat.one_mul]; assumption) (by omega)
    · exact Nat.div_eq_of_lt (by omega)
  rw [hs]
  generalize A / 2 ^ i = x
  generalize B / 2 ^ i = y
  by_cases h : 2 ^ i ≤ A % 2 ^ i + B % 2 ^ i + c
  · rw [if_pos h, decide_eq_true h]
    rcases Nat.mod_two_eq_zero_or_one x with h1 | h1 <;> rcases Nat.mod_two_eq_zero_or_one y with h2 | h2 <;> simp [h1, h2] <;> omega
  · rw [if_neg h, decide_eq_false h]
    rcases Nat.mod_two_eq_zero_or_one x with h1 | h1 <;> rcases Nat.mod_two_eq_zero_or_one y with h2 | h2 <;> simp [h1, h2] <;> omega
theorem maj_mono {a b c a' b' c' : Bool} (ha : a = true → a' = true) (hb : b = true → b' = true) (hc : c = true → c' = true) : maj a b c = true → maj a' b' c' = true := by
  revert ha hb hc
  cases a <;> cases b <;> cases c <;> cases a' <;> cases b' <;> cases c' <;> decide
theorem car_mono {c A B A' B' : Nat} (hc : c ≤ 1) (i : Nat) (hA : ∀ j, j < i → A.testBit j = true → A'.testBit j = true) (hB : ∀ j, j < i → B.testBit j = true → B'.testBit j = true) : car c A B i = true → car c A' B' i = true := by
  induction i with
  | zero => rw [car_zero, car_zero]; exact id
  | succ i ih =>
    rw [car_succ hc, car_succ hc]
    exact maj_mono (hA i (by omega)) (hB i (by omega)) (ih (fun j hj => hA j (by omega)) (fun j hj => hB j (by omega)))
theorem bit_mod {m n w i : Nat} (h : m % 2 ^ w = n % 2 ^ w) (hi : i < w) : m.testBit i = n.testBit i := by
  have := bit_of h i
  rw [Nat.testBit_mod_two_pow, Nat.testBit_mod_two_pow, decide_eq_true hi] at this
  simpa using this
def st (lo hi : Bool) : Int := if hi then (if lo then 1 else 2) else 0
def opn (c A B A' B' i : Nat) : Bool := !((A.testBit i == A'.testBit i) && (B.testBit i == B'.testBit i) && (car c A B i == car c A' B' i))
def sbit (c A B i : Nat) : Bool := A.testBit i ^^ (B.testBit i ^^ car c A B i)
def sumZ (c A B A' B' i : Nat) : Bool := !opn c A B A' B' i && !sbit c A B i
def sumO (c A B A' B' i : Nat) : Bool := !opn c A B A' B' i && sbit c A B i
def ksum (w c : Nat) (a b : Nat × Nat) : Nat × Nat := (bld (sumZ c a.2 b.2 (vnot 64 a.1) (vnot 64 b.1)) w, bld (sumO c a.2 b.2 (vnot 64 a.1) (vnot 64 b.1)) w)
theorem and0 {M z o : Nat} (h : kok M z o) : z &&& o = 0 := h.1
theorem known_from_eq (w : Int) {x y : Nat} (hx : x < U64) (hy : y < U64) : known_from.f w x y = some ((bld (fun i => !y.testBit i && !x.testBit i) (W w) : Int), (bld (fun i => !y.testBit i && x.testBit i) (W w) : Int)) := by
  unfold known_from.f
  have hw := W_le w
  have l1 := vcut_lt x hw
  have l2 := vcut_lt y hw
  have l3 : vcut (W w) x &&& (18446744073709551615 - vcut (W w) y) < U64 := and_lt (Nat.lt_of_le_of_lt (Nat.sub_le _ _) (by decide))
  rw [bits_Cut_eq w hy, Option.bind_some, bits_Cut_eq w hx, Option.bind_some, bits_Mask_eq, Option.bind_some, andNot64 l1 l2, or64 l3 l2, andNot64 (vmask_lt hw) (or_lt l3 l2)]
  have cut : ∀ x i, (vcut (W w) x).testBit i = (decide (i < W w) && x.testBit i) := fun x i => by unfold vcut; rw [Nat.testBit_mod_two_pow]
  have e1 : vmask (W w) &&& (18446744073709551615 - ((vcut (W w) x &&& (18446744073709551615 - vcut (W w) y)) ||| vcut (W w) y)) = bld (fun i => !y.testBit i && !x.testBit i) (W w) := bits_ext fun i => by
    rw [Nat.testBit_and, testBit_mask, testBit_comp (or_lt l3 l2), Nat.testBit_or, Nat.testBit_and, testBit_comp l2, cut, cut, testBit_bld]
    by_cases hi : i < W w
    · rw [decide_eq_true hi, decide_eq_true (show i < 64 by omega)]; cases x.testBit i <;> cases y.testBit i <;> rfl
    · rw [decide_eq_false hi]; rfl
  have e2 : vcut (W w) x &&& (18446744073709551615 - vcut (W w) y) = bld (fun i => !y.testBit i && x.testBit i) (W w) := bits_ext fun i => by
    rw [Nat.testBit_and, testBit_comp l2, cut, cut, testBit_bld]
    by_cases hi : i < W w
    · rw [decide_eq_true hi, decide_eq_true (show i < 64 by omega)]; cases x.testBit i <;> cases y.testBit i <;> rfl
    · rw [decide_eq_false hi]; rfl
  rw [e1, e2]
theorem car_congr {c A B A' B' : Nat} (hc : c ≤ 1) (i : Nat) (hA : ∀ j, j < i → A.testBit j = A'.testBit j) (hB : ∀ j, j < i → B.testBit j = B'.testBit j) : car c A B i = car c A' B' i := by
  have h1 := car_mono hc (A := A) (B := B) (A' := A') (B' := B') i (fun j hj h => by rw [← hA j hj]; exact h) (fun j hj h => by rw [← hB j hj]; exact h)
  have h2 := car_mono hc (A := A') (B := B') (A' := A) (B' := B) i (fun j hj h => by rw [hA j hj]; exact h) (fun j hj h => by rw [hB j hj]; exact h)
  revert h1 h2; cases car c A B i <;> cases car c A' B' i <;> simp
theorem kmay_bit {w : Nat} {k : Nat × Nat} (hw : w ≤ 64) (h1 : k.1 < U64) (h2 : k.2 < U64) (e : k.1 &&& k.2 = 0) {i : Nat} (hi : i < w) : (k.2 + kunk w k).testBit i = (vnot 64 k.1).testBit i := by
  have hd : k.2 &&& kunk w k = 0 := bits_ext fun i => by
    rw [Nat.testBit_and, kunk_bit h1 h2 hw, Nat.zero_testBit]
    cases k.2.testBit i <;> simp
  rw [add_disjoint _ _ hd, Nat.testBit_or, kunk_bit h1 h2 hw, testBit_vnot, decide_eq_true hi, decide_eq_true (show i < 64 by omega)]
  have := bit_of e i
  rw [Nat.testBit_and, Nat.zero_testBit] at this
  revert this
  cases k.1.testBit i <;> cases k.2.testBit i <;> decide
theorem kunk_ne {w : Nat} {k : Nat × Nat} (hw : w ≤ 64) (h1 : k.1 < U64) (h2 : k.2 < U64) (e : k.1 &&& k.2 = 0) {i : Nat} (hi : i < w) : (kunk w k).testBit i = !(k.2.testBit i == (vnot 64 k.1).testBit i) := by
  rw [kunk_bit h1 h2 hw, testBit_vnot, decide_eq_true hi, decide_eq_true (show i < 64 by omega)]
  have := bit_of e i
  rw [Nat.testBit_and, Nat.zero_testBit] at this
  revert this
  cases k.1.testBit i <;> cases k.2.testBit i <;> decide
theorem kok_le {w : Nat} (hw : w ≤ 64) {k : Nat × Nat} (h1 : k.1 < U64) (h2 : k.2 < U64) (h : kok (vmask w) k.1 k.2) : k.1 ≤ vmask w ∧ k.2 ≤ vmask w := ((kok_iff hw h1 h2).1 h).2
theorem xor_lt {a b : Nat} (ha : a < U64) (hb : b < U64) : a ^^^ b < U64 := by rw [show U64 = 2 ^ 64 from rfl]; exact Nat.xor_lt_two_pow ha hb
theorem mod_u64 (x : Nat) : x % 18446744073709551616 < U64 := Nat.mod_lt _ (by decide)
theorem known_Add_eq (w : Int) {z o z' o' : Nat} (hz : z < U64) (ho : o < U64) (hz' : z' < U64) (ho' : o' < U64) :
    known_Add.f w ((z : Int), (o : Int)) ((z' : Int), (o' : Int)) = some (((ksum (W w) 0 (kof (MK w) z o) (kof (MK w) z' o')).1 : Int), ((ksum (W w) 0 (kof (MK w) z o) (kof (MK w) z' o')).2 : Int)) := by
  unfold known_Add.f
  simp only
  rw [known_of_eq w hz ho, known_of_eq w hz' ho', Option.bind_some, Option.bind_some]
  have hw := W_le w
  obtain ⟨a1, a2⟩ := kof_lt (M := MK w) hz ho
  obtain ⟨b1, b2⟩ := kof_lt (M := MK w) hz' ho'
  have ka := and0 (kof_kok (MK w) z o)
  have kb := and0 (kof_kok (MK w) z' o')
  generalize kof (MK w) z o = a at *
  generalize kof (MK w) z' o' = b at *
  simp only
  have p := kunk_lt a hw
  have q := kunk_lt b hw
  rw [known_unknown_eq w a1 a2, known_unknown_eq w b1 b2, Option.bind_some, Option.bind_some, wrapu_add, wrapu_add, wrapu_add, xor64 (mod_u64 _) (mod_u64 _), or64 (xor_lt (mod_u64 _) (mod_u64 _)) p, or64 (or_lt (xor_lt (mod_u64 _) (mod_u64 _)) p) q,
    known_from_eq w (mod_u64 _) (or_lt (or_lt (xor_lt (mod_u64 _) (mod_u64 _)) p) q), Option.bind_some]
  have key : ∀ i, i < W w → ((((((a.2 + b.2) % 18446744073709551616 + kunk (W w) a) % 18446744073709551616 + kunk (W w) b) % 18446744073709551616) ^^^ ((a.2 + b.2) % 18446744073709551616) ||| kunk (W w) a ||| kunk (W w) b).testBit i = opn 0 a.2 b.2 (vnot 64 a.1) (vnot 64 b.1) i) ∧ ((a.2 + b.2) % 18446744073709551616).testBit i = sbit 0 a.2 b.2 i := by
    intro i hi
    have hs : ((a.2 + b.2) % 18446744073709551616).testBit i = sbit 0 a.2 b.2 i := by
      rw [bit_mod (w := 64) (n := a.2 + b.2 + 0) (by rw [p64]; omega) (by omega), add_bit (by decide)]; rfl
    have hs2 : ((((a.2 + b.2) % 18446744073709551616 + kunk (W w) a) % 18446744073709551616 + kunk (W w) b) % 18446744073709551616).testBit i = sbit 0 (vnot 64 a.1) (vnot 64 b.1) i := by
      rw [bit_mod (w := 64) (n := (a.2 + kunk (W w) a) + (b.2 + kunk (W w) b) + 0) (by rw [p64]; omega) (by omega), add_bit (by decide)]
      unfold sbit
      rw [kmay_bit hw a1 a2 ka hi, kmay_bit hw b1 b2 kb hi, car_congr (by decide) i (fun j hj => kmay_bit hw a1 a2 ka (by omega)) (fun j hj => kmay_bit hw b1 b2 kb (by omega))]
    refine ⟨?_, hs⟩
    rw [Nat.testBit_or, Nat.testBit_or, Nat.testBit_xor, hs, hs2, kunk_ne hw a1 a2 ka hi, kunk_ne hw b1 b2 kb hi]
    unfold opn sbit
    cases a.2.testBit i <;> cases b.2.testBit i <;> cases (vnot 64 a.1).testBit i <;> cases (vnot 64 b.1).testBit i <;> cases car 0 a.2 b.2 i <;> cases car 0 (vnot 64 a.1) (vnot 64 b.1) i <;> rfl
  unfold ksum
  simp only
  rw [Option.some_inj, Prod.mk.injEq]
  exact ⟨congrArg (fun n : Nat => (n : Int)) (bld_congr fun i hi => by rw [(key i hi).1, (key i hi).2]; rfl), congrArg (fun n : Nat => (n : Int)) (bld_congr fun i hi => by rw [(key i hi).1, (key i hi).2]; rfl)⟩
theorem cut_of_le {w x : Nat} (h : x ≤ vmask w) : x % 2 ^ w = x := Nat.mod_eq_of_lt (lt_of_le_mask h)
theorem known_Sub_eq (w : Int) {z o z' o' : Nat} (hz : z < U64) (ho : o < U64) (hz' : z' < U64) (ho' : o' < U64) :
    known_Sub.f w ((z : Int), (o : Int)) ((z' : Int), (o' : Int)) = some (((ksum (W w) 1 (kof (MK w) z o) ((kof (MK w) z' o').2, (kof (MK w) z' o').1)).1 : Int), ((ksum (W w) 1 (kof (MK w) z o) ((kof (MK w) z' o').2, (kof (MK w) z' o').1)).2 : Int)) := by
  unfold known_Sub.f
  simp only
  rw [known_of_eq w hz ho, known_of_eq w hz' ho', Option.bind_some, Option.bind_some]
  have hw := W_le w
  obtain ⟨a1, a2⟩ := kof_lt (M := MK w) hz ho
  obtain ⟨b1, b2⟩ := kof_lt (M := MK w) hz' ho'
  have ka := and0 (kof_kok (MK w) z o)
  have kb := and0 (kof_kok (MK w) z' o')
  obtain ⟨ma1, ma2⟩ := kok_le hw a1 a2 (kof_kok (MK w) z o)
  obtain ⟨mb1, mb2⟩ := kok_le hw b1 b2 (kof_kok (MK w) z' o')
  generalize kof (MK w) z o = a at *
  generalize kof (MK w) z' o' = b at *
  simp only
  have p := kunk_lt a hw
  have q := kunk_lt b hw
  rw [known_unknown_eq w a1 a2, known_unknown_eq w b1 b2, Option.bind_some, Option.bind_some, wrapu_sub b2, wrapu_add, wrapu_sub q, xor64 (mod_u64 _) (mod_u64 _), or64 (xor_lt (mod_u64 _) (mod_u64 _)) p, or64 (or_lt (xor_lt (mod_u64 _) (mod_u64 _)) p) q,
    known_from_eq w (mod_u64 _) (or_lt (or_lt (xor_lt (mod_u64 _) (mod_u64 _)) p) q), Option.bind_some]
  have hp := pw_pos (W w)
  -- the middle, the least and the greatest
  have c1 := sub_cut hw a.2 b2
  have qm : kunk (W w) b ≤ vmask (W w) := Nat.and_le_left
  have c2 := sub_cut hw ((a.2 + (18446744073709551616 - b.2)) % 18446744073709551616) q
  have sum3 : b.1 + b.2 + kunk (W w) b = vmask (W w) := by
    have h1 := add_disjoint b.1 b.2 kb
    have h2 : (b.1 ||| b.2) &&& kunk (W w) b = 0 := bits_ext fun i => by
      rw [Nat.testBit_and, kunk_bit b1 b2 hw, Nat.testBit_or, Nat.zero_testBit]
      cases b.1.testBit i <;> cases b.2.testBit i <;> simp
    rw [h1, add_disjoint _ _ h2]
    refine bits_ext fun i => ?_
    rw [Nat.testBit_or, kunk_bit b1 b2 hw, testBit_mask, Nat.testBit_or]
    by_cases hi : i < W w
    · rw [decide_eq_true hi]; cases b.1.testBit i <;> cases b.2.testBit i <;> rfl
    · rw [decide_eq_false hi, testBit_ge (lt_of_le_mask mb1) (by omega), testBit_ge (lt_of_le_mask mb2) (by omega)]; rfl
  have m1 : (a.2 + (18446744073709551616 - b.2)) % 18446744073709551616 % 2 ^ W w = (a.2 + vnot (W w) b.2 + 1) % 2 ^ W w := by
    show vcut _ _ = _
    rw [c1]; unfold vsub vnot
    rw [cut_of_le mb2]
    unfold vmask at mb2
    congr 1; omega
  have m2 : ((a.2 + (18446744073709551616 - b.2)) % 18446744073709551616 + kunk (W w) a) % 18446744073709551616 % 2 ^ W w = ((a.2 + kunk (W w) a) + vnot (W w) b.2 + 1) % 2 ^ W w := by
    rw [mod64_mod hw, Nat.add_mod, m1, ← Nat.add_mod]; congr 1; omega
  have m3 : ((a.2 + (18446744073709551616 - b.2)) % 18446744073709551616 + (18446744073709551616 - kunk (W w) b)) % 18446744073709551616 % 2 ^ W w = (a.2 + b.1 + 1) % 2 ^ W w := by
    show vcut _ _ = _
    rw [c2]; unfold vsub
    rw [cut_of_le qm, Nat.add_mod, m1, ← Nat.add_mod]
    have e : a.2 + vnot (W w) b.2 + 1 + (2 ^ W w - kunk (W w) b) = (a.2 + b.1 + 1) + 2 ^ W w := by
      unfold vnot; rw [cut_of_le mb2]; unfold vmask at sum3 mb2 qm; omega
    rw [e, Nat.add_mod_right]
  have kb' : b.2 &&& b.1 = 0 := by rw [Nat.and_comm]; exact kb
  have nb : ∀ j, j < W w → (vnot (W w) b.2).testBit j = (vnot 64 b.2).testBit j := fun j hj => by rw [testBit_vnot, testBit_vnot, decide_eq_true hj, decide_eq_true (show j < 64 by omega)]
  have key : ∀ i, i < W w → (((((a.2 + (18446744073709551616 - b.2)) % 18446744073709551616 + kunk (W w) a) % 18446744073709551616) ^^^ (((a.2 + (18446744073709551616 - b.2)) % 18446744073709551616 + (18446744073709551616 - kunk (W w) b)) % 18446744073709551616) ||| kunk (W w) a ||| kunk (W w) b).testBit i = opn 1 a.2 b.1 (vnot 64 a.1) (vnot 64 b.2) i) ∧
      (opn 1 a.2 b.1 (vnot 64 a.1) (vnot 64 b.2) i = false → ((a.2 + (18446744073709551616 - b.2)) % 18446744073709551616).testBit i = sbit 1 a.2 b.1 i) := by
    intro i hi
    have sub : ∀ {x y : Nat}, x &&& y = 0 → ∀ j, j < i → y.testBit j = true → (vnot 64 x).testBit j = true := by
      intro x y h j hj hy
      have := bit_of h j
      rw [Nat.testBit_and, hy, Nat.zero_testBit] at this
      rw [testBit_vnot, decide_eq_true (show j < 64 by omega)]
      simpa using this
    have hs : ((a.2 + (18446744073709551616 - b.2)) % 18446744073709551616).testBit i = (a.2.testBit i ^^ ((vnot 64 b.2).testBit i ^^ car 1 a.2 (vnot 64 b.2) i)) := by
      rw [bit_mod m1 hi, add_bit (by decide), nb i hi, car_congr (by decide) i (fun j hj => rfl) (fun j hj => nb j (by omega))]
    have hs2 : (((a.2 + (18446744073709551616 - b.2)) % 18446744073709551616 + kunk (W w) a) % 18446744073709551616).testBit i = ((vnot 64 a.1).testBit i ^^ ((vnot 64 b.2).testBit i ^^ car 1 (vnot 64 a.1) (vnot 64 b.2) i)) := by
      rw [bit_mod m2 hi, add_bit (by decide), nb i hi, kmay_bit hw a1 a2 ka hi, car_congr (by decide) i (fun j hj => kmay_bit hw a1 a2 ka (by omega)) (fun j hj => nb j (by omega))]
    have hs3 : (((a.2 + (18446744073709551616 - b.2)) % 18446744073709551616 + (18446744073709551616 - kunk (W w) b)) % 18446744073709551616).testBit i = (a.2.testBit i ^^ (b.1.testBit i ^^ car 1 a.2 b.1 i)) := by
      rw [bit_mod m3 hi, add_bit (by decide)]
    have ub : (kunk (W w) b).testBit i = !(b.1.testBit i == (vnot 64 b.2).testBit i) := by
      have := kunk_ne (k := (b.2, b.1)) hw b2 b1 kb' hi
      have e : kunk (W w) (b.2, b.1) = kunk (W w) b := by unfold kunk; rw [Nat.or_comm]
      rw [e] at this; exact this
    have g1 := car_mono (c := 1) (by decide) i (A := a.2) (B := b.1) (A' := a.2) (B' := vnot 64 b.2) (fun j hj h => h) (sub kb')
    have g2 := car_mono (c := 1) (by decide) i (A := a.2) (B := vnot 64 b.2) (A' := vnot 64 a.1) (B' := vnot 64 b.2) (sub ka) (fun j hj h => h)
    constructor
    · rw [Nat.testBit_or, Nat.testBit_or, Nat.testBit_xor, hs2, hs3, kunk_ne hw a1 a2 ka hi, ub]
      unfold opn
      cases a.2.testBit i <;> cases b.1.testBit i <;> cases (vnot 64 a.1).testBit i <;> cases (vnot 64 b.2).testBit i <;> cases car 1 a.2 b.1 i <;> cases car 1 (vnot 64 a.1) (vnot 64 b.2) i <;> rfl
    · rw [hs]
      unfold opn sbit
      revert g1 g2
      cases a.2.testBit i <;> cases b.1.testBit i <;> cases (vnot 64 a.1).testBit i <;> cases (vnot 64 b.2).testBit i <;> cases car 1 a.2 b.1 i <;> cases car 1 (vnot 64 a.1) (vnot 64 b.2) i <;> cases car 1 a.2 (vnot 64 b.2) i <;> decide
  unfold ksum
  simp only
  rw [Option.some_inj, Prod.mk.injEq]
  refine ⟨congrArg (fun n : Nat => (n : Int)) (bld_congr fun i hi => ?_), congrArg (fun n : Nat => (n : Int)) (bld_congr fun i hi => ?_)⟩
  · rw [(key i hi).1]; unfold sumZ
    cases h : opn 1 a.2 b.1 (vnot 64 a.1) (vnot 64 b.2) i with
    | true => rfl
    | false => rw [(key i hi).2 h]
  · rw [(key i hi).1]; unfold sumO
    cases h : opn 1 a.2 b.1 (vnot 64 a.1) (vnot 64 b.2) i with
    | true => rfl
    | false => rw [(key i hi).2 h]
end Go.Proofs.YtcihbcffokjgjaaGreat.Fn
namespace Go.Proofs.YtcihbcffokjgjaaGreat.Fn
open Go Go.RowKit Go.Proofs.YtcihbcffokjgjaaGreat.Ev Go.Proofs.YtcihbcffokjgjaaGreat.Bv
set_option linter.unusedVariables false
set_option linter.unusedSimpArgs false
theorem bits_Signed_eq (a : Int) {x : Nat} (hx : x < 18446744073709551616) : bits_Signed.f a x = some (sgn (W a) x) := by
  unfold bits_Signed.f; rw [bits_clamp_eq]; simp only [Option.bind_some, wrapi]
  rw [wrapi_64, bifd_neg (by omega), bifd_neg (by omega), shl64, signed_shifts (W_pos a) (W_le a)]
theorem bits_Neg_eq (a : Int) {x : Nat} (hx : x < 18446744073709551616) : bits_Neg.f a x = some (vneg (W a) x : Int) := by
  unfold bits_Neg.f; rw [Int.zero_sub, wrapu_neg hx, bits_Cut_eq a (Nat.mod_lt _ (by decide))]; simp only [Option.bind_some]
  have := sub_cut (W_le a) 0 hx
  rw [Nat.zero_add] at this
  rw [this]; unfold vsub vneg; rw [Nat.zero_add]
theorem bits_Sext_eq (v w : Int) {x : Nat} (hx : x < 18446744073709551616) : bits_Sext.f v w x = some (vsext (W v) (W w) x : Int) := by
  unfold bits_Sext.f; rw [bits_Signed_eq v hx]; simp only [Option.bind_some]
  rw [sgn_wrap (W_pos v) (W_le v), bits_Cut_eq w (s64_lt (W_le v) x)]; simp only [Option.bind_some]
  rw [s64_cut (W_pos v) (W_le v) (W_le w)]
theorem bits_Concat_eq (v w : Int) {x y : Nat} (hx : x < 18446744073709551616) (hy : y < 18446744073709551616) : bits_Concat.f v w x y = some (vconcat (W v) (W w) x y : Int) := by
  unfold bits_Concat.f; rw [bits_Cut_eq v hx, bits_clamp_eq, bits_Cut_eq w hy]; simp only [Option.bind_some]
  rw [bifd_neg (by omega), shl64, or64 (Nat.mod_lt _ (by decide)) (vcut_lt y (W_le w))]
  unfold vconcat vcut; rw [p64]
theorem saturateref01_Not_eq (a : Int) {x : Nat} (hx : x < 18446744073709551616) : saturateref01_Not.f a x = some (vnot (W a) x : Int) := by
  unfold saturateref01_Not.f; rw [saturateref01_Mask_eq a, saturateref01_Cut_eq a hx]; simp only [Option.bind_some]
  rw [wrapu_sub_le (vmask_lt (W_le a)) (by unfold vmask vcut; have := Nat.mod_lt x (pw_pos (W a)); omega)]; rfl
theorem saturateref01_Add_j3 (fu : Nat) {x y : Nat} (hx : x < 18446744073709551616) (hy : y < 18446744073709551616) (d : Nat) : ∀ (k i w z c : Nat), w ≤ 64 → w - i = d → i ≤ w → d < k → z < 2 ^ i → c ≤ 1 → z + c * 2 ^ i = x % 2 ^ i + y % 2 ^ i →
    saturateref01_Add.j3 fu k x y z c w i = some (vadd w x y : Int) := by
  induction d with
  | zero =>
    intro k i w z c hw hd hi hk hz hc he
    obtain ⟨k, rfl⟩ : ∃ m, k = m + 1 := ⟨k - 1, by omega⟩
    obtain rfl : i = w := by omega
    rw [saturateref01_Add.j3_succ, bifd_neg (by omega)]
    unfold vadd
    rw [Nat.add_mod, ← he, Nat.add_mul_mod_self_right, Nat.mod_eq_of_lt hz]
  | succ d ih =>
    intro k i w z c hw hd hi hk hz hc he
    obtain ⟨k, rfl⟩ : ∃ m, k = m + 1 := ⟨k - 1, by omega⟩
    rw [saturateref01_Add.j3_succ, bifd_pos (by omega), saturateref01_Bit_eq hx, saturateref01_Bit_eq hy, wrapu_of (n := i) (by omega)]; simp only [Option.bind_some]
    have hb1 := toNat_le (x.testBit i)
    have hb2 := toNat_le (y.testBit i)
    have hx1 := mod_succ x i
    have hy1 := mod_succ y i
    rw [bifd_neg (by omega), wrapi, wrapi_succ (by omega), ← Int.natCast_add, wrapu_of (by omega), ← Int.natCast_add, wrapu_of (by omega)]
    generalize (x.testBit i).toNat = b1 at *
    generalize (y.testBit i).toNat = b2 at *
    rw [show (2 : Int) = ((2 : Nat) : Int) from rfl, tmod_nat, tdiv_nat, wrapu_of (by omega), put_bit hz (by omega) (by omega)]
    have hp : 2 ^ (i + 1) = 2 * 2 ^ i := by rw [Nat.pow_succ, Nat.mul_comm]
    refine ih k (i + 1) w _ _ hw (by omega) (by omega) (by omega) ?_ (by omega) ?_
    · rw [hp]
      have : (b1 + b2 + c) % 2 * 2 ^ i ≤ 1 * 2 ^ i := Nat.mul_le_mul_right _ (by omega)
      omega
    · rw [hx1, hy1, hp]
      have e1 : (b1 + b2 + c) / 2 * (2 * 2 ^ i) = ((b1 + b2 + c) / 2 * 2) * 2 ^ i := by rw [Nat.mul_assoc]
      have e2 : (b1 + b2 + c) % 2 * 2 ^ i + ((b1 + b2 + c) / 2 * 2) * 2 ^ i = (b1 + b2 + c) * 2 ^ i := by rw [← Nat.add_mul]; congr 1; omega
      have e3 : (b1 + b2 + c) * 2 ^ i = b1 * 2 ^ i + b2 * 2 ^ i + c * 2 ^ i := by rw [Nat.add_mul, Nat.add_mul]
      rw [e1]; omega
theorem fuel_gt {n : Nat} (h : n ≤ 1000) : n < fuel0 + 1 := by unfold fuel0; omega
theorem saturateref01_Add_eq (a : Int) {x y : Nat} (hx : x < 18446744073709551616) (hy : y < 18446744073709551616) : saturateref01_Add.f a x y = some (vadd (W a) x y : Int) := by
  unfold saturateref01_Add.f saturateref01_Add.g; rw [saturateref01_W_eq]; simp only [Option.bind_some]
  have hw := W_le a
  exact saturateref01_Add_j3 (fuel0 + 1) hx hy (W a) (fuel0 + 1) 0 (W a) 0 0 (W_le a) (by omega) (by omega) (fuel_gt (by omega)) (by simp) (by omega) (by simp [Nat.mod_one])
theorem saturateref01_Neg_eq (a : Int) {x : Nat} (hx : x < 18446744073709551616) : saturateref01_Neg.f a x = some (vneg (W a) x : Int) := by
  unfold saturateref01_Neg.f; rw [saturateref01_Not_eq a hx]; simp only [Option.bind_some]
  rw [show (1 : Int) = ((1 : Nat) : Int) from rfl, saturateref01_Add_eq a (vnot_lt x (W_le a)) (by decide)]; simp only [Option.bind_some]
  have := Nat.mod_lt x (pw_pos (W a))
  unfold vadd vneg vnot
  rw [show 2 ^ W a - 1 - x % 2 ^ W a + 1 = 2 ^ W a - x % 2 ^ W a by omega]
theorem saturateref01_Sub_eq (a : Int) {x y : Nat} (hx : x < 18446744073709551616) (hy : y < 18446744073709551616) : saturateref01_Sub.f a x y = some (vsub (W a) x y : Int) := by
  unfold saturateref01_Sub.f; rw [saturateref01_Neg_eq a hy]; simp only [Option.bind_some]
  rw [saturateref01_Add_eq a hx (vneg_lt y (W_le a))]; simp only [Option.bind_some]
  unfold vadd vneg vsub; rw [Nat.add_mod_mod]
theorem saturateref01_shift_j3 (fu : Nat) (a : Int) {x : Nat} (hx : x < 18446744073709551616) (by_ : Int) (h1 : -64 ≤ by_) (h2 : by_ ≤ 64) (fill : Bool) (d : Nat) : ∀ (k i : Nat), W a - i = d → i ≤ W a → d < k →
    saturateref01_shift.j3 (fu + 1) k a x by_ (fill.toNat : Int) (bld (shf (W a) x by_ fill) i : Int) (W a) i = some (bld (shf (W a) x by_ fill) (W a) : Int) := by
  have hw := W_le a
  induction d with
  | zero =>
    intro k i hd hi hk
    obtain ⟨k, rfl⟩ : ∃ m, k = m + 1 := ⟨k - 1, by omega⟩
    obtain rfl : i = W a := by omega
    rw [saturateref01_shift.j3_succ, bifd_neg (by omega)]
  | succ d ih =>
    intro k i hd hi hk
    obtain ⟨k, rfl⟩ : ∃ m, k = m + 1 := ⟨k - 1, by omega⟩
    have hn := ih k (i + 1) (by omega) (by omega) (by omega)
    have hst := bld_step (shf (W a) x by_ fill) (i := i) (by omega)
    rw [saturateref01_shift.j3_succ, bifd_pos (by omega), saturateref01_W_eq, Option.bind_some]
    simp only [saturateref01_shift.p8_eq, wrapi]
    rw [wrapu_of (n := i) (by omega), wrapi_succ (by omega), wrapi_of (a := (i : Int) + by_) (by omega) (by omega)]
    by_cases hlt : (i : Int) + by_ < (W a : Int)
    · rw [bifd_pos hlt]
      by_cases h0 : 0 ≤ (i : Int) + by_
      · have e : (i : Int) + by_ = (((i : Int) + by_).toNat : Int) := by omega
        rw [e, saturateref01_Bit_eq hx, Option.bind_some, bifd_neg (by omega)]
        have hf : shf (W a) x by_ fill i = x.testBit ((i : Int) + by_).toNat := by unfold shf; rw [if_pos hlt, if_pos h0]
        rw [hf] at hst; rw [hst]; exact hn
      · rw [saturateref01_Bit_neg (by omega), Option.bind_some, bifd_neg (by omega)]
        have hf : shf (W a) x by_ fill i = false := by unfold shf; rw [if_pos hlt, if_neg h0]
        rw [hf] at hst; rw [show (0 : Int) = (false.toNat : Int) from rfl, hst]; exact hn
    · rw [bifd_neg hlt, bifd_neg (by omega)]
      have hf : shf (W a) x by_ fill i = fill := by unfold shf; rw [if_neg hlt]
      rw [hf] at hst; rw [hst]; exact hn
theorem saturateref01_shift_eq (a : Int) {x : Nat} (hx : x < 18446744073709551616) (by_ : Int) (h1 : -64 ≤ by_) (h2 : by_ ≤ 64) (fill : Bool) :
    saturateref01_shift.f a x by_ (fill.toNat : Int) = some (bld (shf (W a) x by_ fill) (W a) : Int) := by
  unfold saturateref01_shift.f saturateref01_shift.g; rw [saturateref01_W_eq]; simp only [Option.bind_some]
  have hw := W_le a
  exact saturateref01_shift_j3 fuel0 a hx by_ h1 h2 fill (W a) (fuel0 + 1) 0 (by omega) (by omega) (fuel_gt (by omega))
theorem saturateref01_by_eq (a : Int) {y : Nat} (hy : y < 18446744073709551616) : saturateref01_by.f a y = some ((min (y % 2 ^ W a) 64 : Nat) : Int) := by
  unfold saturateref01_by.f; rw [saturateref01_Cut_eq a hy]; simp only [Option.bind_some, wrapi]
  unfold vcut
  generalize y % 2 ^ W a = n
  congr 1
  unfold mn; split
  · rw [wrapi_of (by omega) (by omega)]; omega
  · rw [wrapi_of (by omega) (by omega)]; omega
theorem saturateref01_Shl_eq (a : Int) {x y : Nat} (hx : x < 18446744073709551616) (hy : y < 18446744073709551616) : saturateref01_Shl.f a x y = some (vshl (W a) x y : Int) := by
  unfold saturateref01_Shl.f; rw [saturateref01_by_eq a hy]; simp only [Option.bind_some, wrapi, Int.zero_sub]
  rw [wrapi_of (a := -_) (by omega) (by omega), show (0 : Int) = (false.toNat : Int) from rfl, saturateref01_shift_eq a hx _ (by omega) (by omega)]; simp only [Option.bind_some]
  rw [shf_shl (W_le a)]
theorem saturateref01_Lshr_eq (a : Int) {x y : Nat} (hx : x < 18446744073709551616) (hy : y < 18446744073709551616) : saturateref01_Lshr.f a x y = some (vlshr (W a) x y : Int) := by
  unfold saturateref01_Lshr.f; rw [saturateref01_by_eq a hy]; simp only [Option.bind_some]
  rw [show (0 : Int) = (false.toNat : Int) from rfl, saturateref01_shift_eq a hx _ (by omega) (by omega)]; simp only [Option.bind_some]
  rw [shf_lshr (W_le a)]
theorem saturateref01_Concat_j3 (fu : Nat) (w : Int) {x y : Nat} (hx : x < 18446744073709551616) (d : Nat) : ∀ (k i v : Nat), v ≤ 64 → v - i = d → i ≤ v → d < k →
    saturateref01_Concat.j3 (fu + 1) k w x (vconcat i (W w) x y : Int) v i = some (vconcat v (W w) x y : Int) := by
  have h1 := W_pos w
  have h2 := W_le w
  induction d with
  | zero =>
    intro k i v hw hd hi hk
    obtain ⟨k, rfl⟩ : ∃ m, k = m + 1 := ⟨k - 1, by omega⟩
    obtain rfl : i = v := by omega
    rw [saturateref01_Concat.j3_succ, bifd_neg (by omega)]
  | succ d ih =>
    intro k i v hw hd hi hk
    obtain ⟨k, rfl⟩ : ∃ m, k = m + 1 := ⟨k - 1, by omega⟩
    have hn := ih k (i + 1) v hw (by omega) (by omega) (by omega)
    rw [saturateref01_Concat.j3_succ, bifd_pos (by omega), saturateref01_W_eq, Option.bind_some]
    simp only [saturateref01_Concat.p7_eq, wrapi]
    rw [wrapi_of (a := (i : Int) + (W w : Int)) (by omega) (by omega), wrapi_succ (by omega)]
    by_cases hlt : i + W w < 64
    · rw [bifd_pos (by omega), saturateref01_Bit_eq hx, Option.bind_some, Option.bind_some, wrapi_of (a := (i : Int) + (W w : Int)) (by omega) (by omega), ← Int.natCast_add, wrapu_of (by omega), bifd_neg (by omega), concat_step h2 hlt]; exact hn
    · rw [bifd_neg (by omega)]
      rw [concat_over (i := i) (w := W w) (a := x) (b := y) (by omega)] at hn; exact hn
theorem saturateref01_Concat_eq (v w : Int) {x y : Nat} (hx : x < 18446744073709551616) (hy : y < 18446744073709551616) : saturateref01_Concat.f v w x y = some (vconcat (W v) (W w) x y : Int) := by
  unfold saturateref01_Concat.f saturateref01_Concat.g; rw [saturateref01_Cut_eq w hy, saturateref01_W_eq]; simp only [Option.bind_some]
  have hw := W_le v
  have := saturateref01_Concat_j3 fuel0 w (y := y) hx (W v) (fuel0 + 1) 0 (W v) (W_le v) (by omega) (by omega) (fuel_gt (by omega))
  rw [concat_zero, show ((0 : Nat) : Int) = 0 from rfl] at this; exact this
theorem saturateref01_Sext_j3 (fu : Nat) (v : Int) {x : Nat} (hx : x < 18446744073709551616) (d : Nat) : ∀ (k i w : Nat), w ≤ 64 → w - i = d → i ≤ w → d < k →
    saturateref01_Sext.j3 fu k v x (bld (fun j => x.testBit (min j (W v - 1))) i : Int) w i = some (bld (fun j => x.testBit (min j (W v - 1))) w : Int) := by
  have h1 := W_pos v
  have h2 := W_le v
  induction d with
  | zero =>
    intro k i w hw hd hi hk
    obtain ⟨k, rfl⟩ : ∃ m, k = m + 1 := ⟨k - 1, by omega⟩
    obtain rfl : i = w := by omega
    rw [saturateref01_Sext.j3_succ, bifd_neg (by omega)]
  | succ d ih =>
    intro k i w hw hd hi hk
    obtain ⟨k, rfl⟩ : ∃ m, k = m + 1 := ⟨k - 1, by omega⟩
    have e : mn (i : Int) ((W v - 1 : Nat) : Int) = ((min i (W v - 1) : Nat) : Int) := by unfold mn; split <;> omega
    rw [saturateref01_Sext.j3_succ, bifd_pos (by omega), saturateref01_W_eq]; simp only [Option.bind_some, wrapi]
    rw [wrapi_pred h1 h2, e, saturateref01_Bit_eq hx, wrapu_of (by omega)]; simp only [Option.bind_some]
    rw [bifd_neg (by omega), wrapi_succ (by omega), bld_step (fun j => x.testBit (min j (W v - 1))) (by omega)]
    exact ih k (i + 1) w hw (by omega) (by omega) (by omega)
theorem saturateref01_Sext_eq (v w : Int) {x : Nat} (hx : x < 18446744073709551616) : saturateref01_Sext.f v w x = some (vsext (W v) (W w) x : Int) := by
  unfold saturateref01_Sext.f saturateref01_Sext.g; rw [saturateref01_W_eq]; simp only [Option.bind_some]
  have hw := W_le w
  exact saturateref01_Sext_j3 (fuel0 + 1) v hx (W w) (fuel0 + 1) 0 (W w) (W_le w) (by omega) (by omega) (fuel_gt (by omega))
end Go.Proofs.YtcihbcffokjgjaaGreat.Fn
