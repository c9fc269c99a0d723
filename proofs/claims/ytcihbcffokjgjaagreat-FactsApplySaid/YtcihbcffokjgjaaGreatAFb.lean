/- Facts: validity; Reduce reaches a fixpoint, in the program and in the reference alike, and removes no value. -/
import Derived.Test.YtcihbcffokjgjaaGreatAF2
import Derived.Test.YtcihbcffokjgjaaGreatAF3
import Derived.Test.YtcihbcffokjgjaaGreatAF7
import Derived.Test.YtcihbcffokjgjaaGreatAFa
namespace Go.Proofs.YtcihbcffokjgjaaGreat.Fn
open Go Go.RowKit Go.Proofs.YtcihbcffokjgjaaGreat.Ev Go.Proofs.YtcihbcffokjgjaaGreat.Bv
set_option linter.unusedVariables false
set_option linter.unusedSimpArgs false
set_option maxRecDepth 100000

def stepN (a : Int) (k r : Nat × Nat) : Option ((Nat × Nat) × (Nat × Nat)) :=
  if (rngN (MK a) k r).2 < (rngN (MK a) k r).1 then none
  else if kdis (kof (MK a) k.1 k.2) (preK (W a) (rngN (MK a) k r)) then some (korN (kof (MK a) k.1 k.2) (preK (W a) (rngN (MK a) k r)), rngN (MK a) k r)
  else none
theorem stepV_some {a : Int} {k r k' r' : Nat × Nat} (h : stepN a k r = some (k', r')) : stepV a k r = (fI a k' r', true) := by
  unfold stepN at h
  unfold stepV
  by_cases h1 : (rngN (MK a) k r).2 < (rngN (MK a) k r).1
  · rw [if_pos h1] at h; exact absurd h (by simp)
  · rw [if_neg h1] at h ⊢
    by_cases h2 : kdis (kof (MK a) k.1 k.2) (preK (W a) (rngN (MK a) k r))
    · rw [if_pos h2] at h ⊢
      injection h with h; injection h with e1 e2
      rw [← e1, ← e2]
    · rw [if_neg h2] at h; exact absurd h (by simp)
theorem stepV_none {a : Int} {k r : Nat × Nat} (h : stepN a k r = none) : (stepV a k r).2 = false := by
  unfold stepN at h
  unfold stepV
  by_cases h1 : (rngN (MK a) k r).2 < (rngN (MK a) k r).1
  · rw [if_pos h1]
  · rw [if_neg h1] at h ⊢
    by_cases h2 : kdis (kof (MK a) k.1 k.2) (preK (W a) (rngN (MK a) k r))
    · rw [if_pos h2] at h; exact absurd h (by simp)
    · rw [if_neg h2]
theorem pr_beq {k k' : Nat × Nat} : (((k.1 : Int) == (k'.1 : Int)) && (((k.2 : Int) == (k'.2 : Int)) && true)) = decide (k = k') := by
  rw [castb, castb, Bool.and_true, ← Bool.decide_and, decide_eq_decide]
  exact ⟨fun h => Prod.ext h.1 h.2, fun h => by rw [h]; exact ⟨rfl, rfl⟩⟩
theorem fI_beq {a : Int} {k r k' r' : Nat × Nat} : ((a == a) && ((((k'.1 : Int) == (k.1 : Int)) && (((k'.2 : Int) == (k.2 : Int)) && true)) && ((((r'.1 : Int) == (r.1 : Int)) && (((r'.2 : Int) == (r.2 : Int)) && true)) && true))) = decide (k' = k ∧ r' = r) := by
  rw [pr_beq, pr_beq, Bool.and_true, beq_self_eq_true, Bool.true_and, Bool.decide_and]
/-! ### what a step does -/
structure Kv (a : Int) (k : Nat × Nat) : Prop where
  l1 : k.1 < U64
  l2 : k.2 < U64
  ok : kok (MK a) k.1 k.2
theorem Kv.zero (a : Int) : Kv a (0, 0) := ⟨by decide, by decide, kok_zero _⟩
theorem Kv.of (a : Int) {k : Nat × Nat} (h1 : k.1 < U64) (h2 : k.2 < U64) : Kv a (kof (MK a) k.1 k.2) := ⟨(kof_lt h1 h2).1, (kof_lt h1 h2).2, kof_kok _ _ _⟩
theorem Kv.kof {a : Int} {k : Nat × Nat} (h : Kv a k) : kof (MK a) k.1 k.2 = k := kof_of h.ok
theorem stepN_eq {a : Int} {k r : Nat × Nat} (hk : Kv a k) : stepN a k r = if (rngN (MK a) k r).2 < (rngN (MK a) k r).1 then none
  else if kdis k (preK (W a) (rngN (MK a) k r)) then some (korN k (preK (W a) (rngN (MK a) k r)), rngN (MK a) k r) else none := by unfold stepN; rw [hk.kof]
theorem stepN_cases {a : Int} {k r k' r' : Nat × Nat} (hk : Kv a k) (h : stepN a k r = some (k', r')) :
    ¬ r'.2 < r'.1 ∧ r' = rngN (MK a) k r ∧ kdis k (preK (W a) r') ∧ k' = korN k (preK (W a) r') ∧ rok (MK a) r' := by
  rw [stepN_eq hk] at h
  by_cases h1 : (rngN (MK a) k r).2 < (rngN (MK a) k r).1
  · rw [if_pos h1] at h; exact absurd h (by simp)
  · rw [if_neg h1] at h
    by_cases h2 : kdis k (preK (W a) (rngN (MK a) k r))
    · rw [if_pos h2] at h
      injection h with h; injection h with e1 e2
      subst e2
      exact ⟨h1, rfl, h2, e1.symm, rngN_ok h1⟩
    · rw [if_neg h2] at h; exact absurd h (by simp)
theorem stepN_kv {a : Int} {k r k' r' : Nat × Nat} (hk : Kv a k) (h : stepN a k r = some (k', r')) : Kv a k' := by
  obtain ⟨_, _, h3, h4, _⟩ := stepN_cases hk h
  have hp := preK_lt (w := W a) (W_le a) r'
  subst h4
  exact ⟨or_lt hk.l1 hp.1, or_lt hk.l2 hp.2, kok_or hk.ok (preK_ok a r') h3⟩
theorem mid_ok {a : Int} {k : Nat × Nat} (hk : Kv a k) : rok (MK a) (midN (MK a) k) := by
  have hle := kok_leA hk.l1 hk.l2 hk.ok
  have := add_disjoint k.1 k.2 hk.ok.1
  have h2 : k.1 ||| k.2 ≤ MK a := (or_le_mask (w := W a)).2 hle
  unfold midN rok; simp only; omega
/-- A step that learns no bit is the last but one. -/
theorem stepN_again {a : Int} {k r r' : Nat × Nat} (hk : Kv a k) (h : stepN a k r = some (k, r')) : stepN a k r' = some (k, r') := by
  obtain ⟨h1, h2, h3, h4, h5⟩ := stepN_cases hk h
  have hm := mid_ok hk
  have e : rngN (MK a) k r' = r' := by
    unfold rngN
    rw [nrmN_of h5, nrmN_of hm]
    unfold rngN at h2
    rw [nrmN_of hm] at h2
    rw [h2]
    unfold mttN
    simp only
    rw [Nat.max_assoc, Nat.min_assoc, Nat.max_self, Nat.min_self]
  rw [stepN_eq hk, e, if_neg h1, if_pos h3, ← h4]
theorem cnt_mono {f g : Nat → Bool} : ∀ {n : Nat}, (∀ i, i < n → f i = true → g i = true) → cnt f n ≤ cnt g n
  | 0, _ => Nat.le_refl _
  | n + 1, h => by
    have := cnt_mono (n := n) (fun i hi => h i (by omega))
    have h2 := h n (by omega)
    simp only [cnt]
    cases e : f n
    · simp; omega
    · rw [h2 e]; omega
theorem cnt_lt {f g : Nat → Bool} {j : Nat} : ∀ {n : Nat}, (∀ i, i < n → f i = true → g i = true) → j < n → f j = false → g j = true → cnt f n < cnt g n
  | 0, _, hj, _, _ => absurd hj (by omega)
  | n + 1, h, hj, h1, h2 => by
    simp only [cnt]
    by_cases e : j = n
    · subst e
      have := cnt_mono (n := j) (fun i hi => h i (by omega))
      rw [h1, h2]; simp; omega
    · have := cnt_lt (n := n) (fun i hi => h i (by omega)) (by omega) h1 h2
      have h3 := h n (by omega)
      cases e : f n
      · simp; omega
      · rw [h3 e]; omega
def know (k : Nat × Nat) : Nat := ones (k.1 ||| k.2)
theorem know_le (k : Nat × Nat) : know k ≤ 64 := cnt_le _ _
theorem know_lt {k p : Nat × Nat} (hp : p.1 < U64 ∧ p.2 < U64) (hd : kdis k p) (h : korN k p ≠ k) : know k < know (korN k p) := by
  have hm : ∀ i, i < 64 → (k.1 ||| k.2).testBit i = true → ((korN k p).1 ||| (korN k p).2).testBit i = true := fun i _ => by
    unfold korN
    simp only [Nat.testBit_or]
    cases k.1.testBit i <;> cases k.2.testBit i <;> simp
  have hb : ∃ i, (p.1.testBit i = true ∧ k.1.testBit i = false) ∨ (p.2.testBit i = true ∧ k.2.testBit i = false) := by
    refine Classical.byContradiction fun hn => h ?_
    have hn' : ∀ i, ¬ ((p.1.testBit i = true ∧ k.1.testBit i = false) ∨ (p.2.testBit i = true ∧ k.2.testBit i = false)) := fun i q => hn ⟨i, q⟩
    refine Prod.ext (bits_ext fun i => ?_) (bits_ext fun i => ?_)
    · have := hn' i
      show (k.1 ||| p.1).testBit i = k.1.testBit i
      rw [Nat.testBit_or]
      revert this
      cases k.1.testBit i <;> cases p.1.testBit i <;> simp
    · have := hn' i
      show (k.2 ||| p.2).testBit i = k.2.testBit i
      rw [Nat.testBit_or]
      revert this
      cases k.2.testBit i <;> cases p.2.testBit i <;> simp
  obtain ⟨i, hi⟩ := hb
  have hdi := bit_of hd i
  simp only [Nat.testBit_and, Nat.testBit_or, Nat.zero_testBit] at hdi
  have i64 : i < 64 := by
    refine Classical.byContradiction fun hn => ?_
    rcases hi with ⟨hi, _⟩ | ⟨hi, _⟩
    · rw [testBit_ge (lt_pw hp.1) (by omega)] at hi; exact absurd hi (by decide)
    · rw [testBit_ge (lt_pw hp.2) (by omega)] at hi; exact absurd hi (by decide)
  refine cnt_lt hm i64 ?_ ?_
  · rw [Nat.testBit_or]
    rcases hi with ⟨hi, hk⟩ | ⟨hi, hk⟩
    · rw [hi, Bool.or_true, Bool.true_and] at hdi
      rw [hk, Bool.false_or]
      revert hdi
      cases k.2.testBit i <;> simp
    · rw [hi, Bool.or_true, Bool.and_true] at hdi
      rw [hk, Bool.or_false]
      revert hdi
      cases k.1.testBit i <;> simp
  · unfold korN
    simp only [Nat.testBit_or]
    rcases hi with ⟨hi, hk⟩ | ⟨hi, hk⟩ <;> rw [hi] <;> simp
def inN (r : Nat × Nat) (x : Nat) : Prop := r.1 ≤ x ∧ x ≤ r.2
instance (r : Nat × Nat) (x : Nat) : Decidable (inN r x) := inferInstanceAs (Decidable (_ ∧ _))
theorem has_mid {a : Int} {k : Nat × Nat} {x : Nat} (hx : x ≤ MK a) (hk : Kv a k) (h : khas k x) : inN (midN (MK a) k) x := by
  have hle := kok_leA hk.l1 hk.l2 hk.ok
  have e1 := add_disjoint x k.1 h.1
  have e2 : x ||| k.1 ≤ MK a := (or_le_mask (w := W a)).2 ⟨hx, hle.1⟩
  have e3 : x &&& k.2 ≤ x := Nat.and_le_left
  rw [h.2] at e3
  unfold midN inN; simp only; omega
theorem has_or {k p : Nat × Nat} {x : Nat} (h1 : khas k x) (h2 : khas p x) : kdis k p ∧ khas (korN k p) x := by
  have a1 := bit_of h1.1
  have a2 := bit_of h1.2
  have a3 := bit_of h2.1
  have a4 := bit_of h2.2
  refine ⟨bits_ext fun i => ?_, bits_ext fun i => ?_, bits_ext fun i => ?_⟩
  all_goals
    have a1 := a1 i
    have a2 := a2 i
    have a3 := a3 i
    have a4 := a4 i
    simp only [Nat.testBit_and, Nat.zero_testBit] at a1 a2 a3 a4
    try unfold korN
    simp only [Nat.testBit_and, Nat.testBit_or, Nat.zero_testBit]
    revert a1 a2 a3 a4
    cases x.testBit i <;> cases k.1.testBit i <;> cases k.2.testBit i <;> cases p.1.testBit i <;> cases p.2.testBit i <;> decide
/-- A step removes no value. -/
theorem stepN_sound {a : Int} {k r : Nat × Nat} {x : Nat} (hx : x ≤ MK a) (hk : Kv a k) (h : khas k x) (hr : inN (nrmN (MK a) r) x) : ∃ k' r', stepN a k r = some (k', r') ∧ khas k' x ∧ inN r' x := by
  have hm := has_mid hx hk h
  have hin : inN (rngN (MK a) k r) x := by
    unfold rngN
    rw [nrmN_of (mid_ok hk)]
    obtain ⟨h1, h2⟩ := hr
    obtain ⟨h3, h4⟩ := hm
    unfold mttN inN; simp only; omega
  have hne : ¬ (rngN (MK a) k r).2 < (rngN (MK a) k r).1 := by obtain ⟨h1, h2⟩ := hin; omega
  have hp := preK_has (rngN_ok hne) hin.1 hin.2
  obtain ⟨d, hh⟩ := has_or h hp
  exact ⟨_, _, by rw [stepN_eq hk, if_neg hne, if_pos d], hh, hin⟩
/-! ### valid facts -/
/-- Facts are valid: a step leaves them as they are. -/
structure Fv (a : Int) (k r : Nat × Nat) : Prop where
  a1 : 1 ≤ a
  a2 : a ≤ 64
  kv : Kv a k
  rv : rok (MK a) r
  st : stepN a k r = some (k, r)
def fval (a : Int) (k r : Nat × Nat) : Prop := (1 ≤ a ∧ a ≤ 64) ∧ kok (MK a) k.1 k.2 ∧ rok (MK a) r ∧ stepN a k r = some (k, r)
instance (a : Int) (k r : Nat × Nat) : Decidable (fval a k r) := inferInstanceAs (Decidable (_ ∧ _))
theorem Fv.val {a : Int} {k r : Nat × Nat} (h : Fv a k r) : fval a k r := ⟨⟨h.a1, h.a2⟩, h.kv.ok, h.rv, h.st⟩
theorem fval.fv {a : Int} {k r : Nat × Nat} (h : fval a k r) (h1 : k.1 < U64) (h2 : k.2 < U64) : Fv a k r := ⟨h.1.1, h.1.2, ⟨h1, h2, h.2.1⟩, h.2.2.1, h.2.2.2⟩
theorem ok_tail {a : Int} {k r : Nat × Nat} : (bif (stepV a k r).2 then some (((stepV a k r).1.1 == a) && ((((stepV a k r).1.2.1 == (k.1 : Int)) && (((stepV a k r).1.2.2.1 == (k.2 : Int)) && true)) && ((((stepV a k r).1.2.2.2.1 == (r.1 : Int)) && (((stepV a k r).1.2.2.2.2 == (r.2 : Int)) && true)) && true))) else some false) = some (decide (stepN a k r = some (k, r))) := by
  cases h : stepN a k r with
  | none => rw [stepV_none h]; rfl
  | some q =>
    obtain ⟨k', r'⟩ := q
    rw [stepV_some h]
    simp only [cond_true]
    rw [fI_beq]
    congr 1
    rw [decide_eq_decide]
    exact ⟨fun h => by rw [h.1, h.2], fun h => by injection h with h; injection h with h1 h2; exact ⟨h1, h2⟩⟩
theorem rok_cast {a : Int} {r : Nat × Nat} : (((r.1 : Int) ≤ (r.2 : Int)) ∧ (r.2 : Int) ≤ MM a) ↔ rok (MK a) r := by
  unfold rok
  rw [show MM a = ((MK a : Nat) : Int) from rfl, Int.ofNat_le, Int.ofNat_le]
theorem facts_Valid_eq (a : Int) {k r : Nat × Nat} (hz : k.1 < U64) (ho : k.2 < U64) : facts_Valid.f (fI a k r) = some (decide (fval a k r)) := by
  unfold facts_Valid.f facts_clamp.f
  simp only [Option.bind_some]
  have hc : mx 1 (mn a 64) = (W a : Int) := by unfold W mn mx; repeat' split <;> omega
  rw [hc]
  by_cases h1 : 1 ≤ a ∧ a ≤ 64
  · rw [W_of' h1.1 h1.2, bne_self_eq_false, cond_false, known_Valid_eq a hz ho, Option.bind_some, ranges_Valid_eq, Option.bind_some]
    simp only [rok_cast]
    by_cases h2 : kok (MK a) k.1 k.2
    · rw [decide_eq_true h2]
      simp only [Bool.not_true, cond_false]
      by_cases h3 : rok (MK a) r
      · rw [decide_eq_true h3]
        simp only [Bool.not_true, cond_false]
        have hs := facts_step_eq h1.1 h1.2 (r := r) hz ho h2
        rw [hs, Option.bind_some, ok_tail]
        congr 1; rw [decide_eq_decide]
        exact ⟨fun h => ⟨h1, h2, h3, h⟩, fun h => h.2.2.2⟩
      · rw [decide_eq_false h3, decide_eq_false (fun q : fval a k r => h3 q.2.2.1)]; rfl
    · rw [decide_eq_false h2, decide_eq_false (fun q : fval a k r => h2 q.2.1)]; rfl
  · have hne : (a != (W a : Int)) = true := by
      have := W_pos a
      have := W_le a
      rw [bne_iff_ne]; omega
    rw [hne, cond_true, decide_eq_false (fun q : fval a k r => h1 q.1)]
theorem saturateref14_Valid_eq (a : Int) {k r : Nat × Nat} (hz : k.1 < U64) (ho : k.2 < U64) : saturateref14_Valid.f (fI a k r) = some (decide (fval a k r)) := by
  unfold saturateref14_Valid.f
  simp only
  by_cases h0 : a < 1
  · rw [bifd_pos h0, decide_eq_false (fun q : fval a k r => absurd q.1.1 (by omega))]
  · rw [bifd_neg h0]
    by_cases h0' : a > 64
    · rw [bifd_pos h0', decide_eq_false (fun q : fval a k r => absurd q.1.2 (by omega))]
    · have h1 : 1 ≤ a ∧ a ≤ 64 := by omega
      rw [bifd_neg h0', saturateref12_Valid_eq a hz ho, Option.bind_some, saturateref13_Valid_eq, Option.bind_some]
      simp only [rok_cast]
      by_cases h2 : kok (MK a) k.1 k.2
      · rw [decide_eq_true h2]
        simp only [Bool.not_true, cond_false]
        by_cases h3 : rok (MK a) r
        · rw [decide_eq_true h3]
          simp only [Bool.not_true, cond_false]
          have hs := saturateref14_step_eq h1.1 h1.2 (r := r) hz ho h2
          rw [hs, Option.bind_some, ok_tail]
          congr 1; rw [decide_eq_decide]
          exact ⟨fun h => ⟨h1, h2, h3, h⟩, fun h => h.2.2.2⟩
        · rw [decide_eq_false h3, decide_eq_false (fun q : fval a k r => h3 q.2.2.1)]; rfl
      · rw [decide_eq_false h2, decide_eq_false (fun q : fval a k r => h2 q.2.1)]; rfl
theorem W_W (a : Int) : W (W a : Int) = W a := W_of (W_pos a) (W_le a)
theorem MK_W (a : Int) : MK (W a : Int) = MK a := by show vmask (W (W a : Int)) = vmask (W a); rw [W_W]
theorem facts_Top_eq (a : Int) : facts_Top.f a = some (fI (W a : Int) (0, 0) (0, MK a)) := by
  unfold facts_Top.f facts_clamp.f known_Top.f
  simp only [Option.bind_some]
  have hc : mx 1 (mn a 64) = (W a : Int) := by unfold W mn mx; repeat' split <;> omega
  rw [hc, ranges_Top_eq, Option.bind_some, show MM (W a : Int) = ((MK (W a : Int) : Nat) : Int) from rfl, MK_W]; rfl
theorem saturateref14_Top_eq (a : Int) : saturateref14_Top.f a = some (fI (W a : Int) (0, 0) (0, MK a)) := by
  unfold saturateref14_Top.f saturateref12_Top.f
  simp only [Option.bind_some]
  rw [saturateref01_W_eq, Option.bind_some, saturateref13_Top_eq, Option.bind_some]; rfl
abbrev F3 := Int × (Nat × Nat) × (Nat × Nat)
abbrev fE (f : F3) : FT := fI f.1 f.2.1 f.2.2
def topN (a : Int) : F3 := ((W a : Int), (0, 0), (0, MK a))
def ofN (a : Int) (k r : Nat × Nat) : F3 := if fval a k r then (a, k, r) else topN a
theorem preK_top {w : Nat} (h : 1 ≤ w) : preK w (0, vmask w) = (0, 0) := by
  obtain ⟨n, rfl⟩ : ∃ n, w = n + 1 := ⟨w - 1, by omega⟩
  unfold preK preS
  rw [if_neg (by simp only; rw [Nat.zero_testBit, testBit_mask, decide_eq_true (Nat.lt_succ_self n)]; decide)]
theorem Fv.top (a : Int) : Fv (W a : Int) (0, 0) (0, MK a) := by
  have w1 := W_pos a
  have w2 := W_le a
  have hr : rok (MK a) (0, MK a) := ⟨Nat.zero_le _, Nat.le_refl _⟩
  have e : rngN (MK a) (0, 0) (0, MK a) = (0, MK a) := by
    unfold rngN
    rw [show midN (MK a) (0, 0) = (0, MK a) from rfl, nrmN_of hr]
    unfold mttN; simp
  refine ⟨by omega, by omega, Kv.zero _, by rw [MK_W]; exact hr, ?_⟩
  rw [stepN_eq (Kv.zero _), MK_W, e, if_neg (by simp only; omega), W_W, preK_top w1, if_pos (by decide)]
  rfl
theorem facts_of_eq (a : Int) {k r : Nat × Nat} (hz : k.1 < U64) (ho : k.2 < U64) : facts_of.f (fI a k r) = some (fE (ofN a k r)) := by
  unfold facts_of.f ofN
  have h := facts_Valid_eq a (k := k) (r := r) hz ho
  simp only
  rw [h, Option.bind_some, facts_Top_eq, Option.bind_some]
  by_cases c : fval a k r
  · rw [bifd_pos c, if_pos c]
  · rw [bifd_neg c, if_neg c]; rfl
theorem saturateref14_Norm_eq (a : Int) {k r : Nat × Nat} (hz : k.1 < U64) (ho : k.2 < U64) : saturateref14_Norm.f (fI a k r) = some (fE (ofN a k r)) := by
  unfold saturateref14_Norm.f ofN
  have h := saturateref14_Valid_eq a (k := k) (r := r) hz ho
  simp only
  rw [h, Option.bind_some, saturateref14_Top_eq, Option.bind_some]
  by_cases c : fval a k r
  · rw [bifd_pos c, if_pos c]
  · rw [bifd_neg c, if_neg c]; rfl
theorem ofN_fv (a : Int) {k r : Nat × Nat} (hz : k.1 < U64) (ho : k.2 < U64) : Fv (ofN a k r).1 (ofN a k r).2.1 (ofN a k r).2.2 := by
  unfold ofN
  by_cases c : fval a k r
  · rw [if_pos c]; exact c.fv hz ho
  · rw [if_neg c]; exact Fv.top a
/-! ### Reduce -/
/-- What Reduce's loop returns: nothing is left, or a fixpoint. -/
def redR (a : Int) : Option ((Nat × Nat) × (Nat × Nat)) → FT × Bool
  | none => (fI a (0, 0) (0, MK a), false)
  | some (k, r) => (fI a k r, true)
def RedP (a : Int) (k r : Nat × Nat) : Option ((Nat × Nat) × (Nat × Nat)) → Prop
  | none => ∀ x, x ≤ MK a → khas k x → inN (nrmN (MK a) r) x → False
  | some (k', r') => Fv a k' r' ∧ ∀ x, x ≤ MK a → khas k x → inN (nrmN (MK a) r) x → khas k' x ∧ inN r' x
theorem red_ex {a : Int} (h1 : 1 ≤ a) (h2 : a ≤ 64) : ∀ (d : Nat) (k r : Nat × Nat), Kv a k → 64 ≤ know k + d → ∃ q, RedP a k r q ∧ (stepN a k r = some (k, r) → q = some (k, r)) ∧
    (∀ (n fu : Nat) (u0 u1 u2 u3 u4 : Int), d + 2 < n → facts_Reduce.j7 fu n a a k.1 k.2 r.1 r.2 u0 u1 u2 u3 u4 = some (redR a q)) ∧
    (∀ (n i fu : Nat) (u0 u1 u2 u3 u4 : Int), d + 2 < n → i + d + 2 ≤ 200 → saturateref14_Reduce.j4 fu n a i a k.1 k.2 r.1 r.2 u0 u1 u2 u3 u4 = some (redR a q)) := by
  intro d
  have hW : (W a : Int) = a := W_of' h1 h2
  have htop : facts_Top.f a = some (fI a (0, 0) (0, MK a)) := by rw [facts_Top_eq, hW]
  have htop' : saturateref14_Top.f a = some (fI a (0, 0) (0, MK a)) := by rw [saturateref14_Top_eq, hW]
  have run : ∀ (k r : Nat × Nat), Kv a k → (∀ (n fu : Nat) (u0 u1 u2 u3 u4 : Int), facts_Reduce.j7 fu (n + 1) a a k.1 k.2 r.1 r.2 u0 u1 u2 u3 u4 =
      match stepN a k r with | none => some (redR a none) | some (k', r') => bif decide (k' = k ∧ r' = r) then some (redR a (some (k, r))) else facts_Reduce.j7 fu n a a k'.1 k'.2 r'.1 r'.2 u0 u1 u2 u3 u4) := by
    intro k r hk n fu u0 u1 u2 u3 u4
    have hs := facts_step_eq h1 h2 (r := r) hk.l1 hk.l2 hk.ok
    rw [facts_Reduce.j7_succ, hs, Option.bind_some]
    cases h : stepN a k r with
    | none => rw [stepV_none h]; simp only [Bool.not_false, cond_true]; rw [htop]; rfl
    | some q =>
      obtain ⟨k', r'⟩ := q
      rw [stepV_some h]
      simp only [Bool.not_true, cond_false]
      rw [fI_beq]; rfl
  have run' : ∀ (k r : Nat × Nat), Kv a k → (∀ (n i fu : Nat) (u0 u1 u2 u3 u4 : Int), i ≤ 200 → saturateref14_Reduce.j4 fu (n + 1) a i a k.1 k.2 r.1 r.2 u0 u1 u2 u3 u4 =
      match stepN a k r with | none => some (redR a none) | some (k', r') => bif decide (k' = k ∧ r' = r) then some (redR a (some (k, r))) else saturateref14_Reduce.j4 fu n a ((i + 1 : Nat) : Int) a k'.1 k'.2 r'.1 r'.2 u0 u1 u2 u3 u4) := by
    intro k r hk n i fu u0 u1 u2 u3 u4 hi
    have hs := saturateref14_step_eq h1 h2 (r := r) hk.l1 hk.l2 hk.ok
    rw [saturateref14_Reduce.j4_succ, bifd_pos (by omega), hs, Option.bind_some, wrapi, wrapi_succ (by omega)]
    cases h : stepN a k r with
    | none => rw [stepV_none h]; simp only [Bool.not_false, cond_true]; rw [htop']; rfl
    | some q =>
      obtain ⟨k', r'⟩ := q
      rw [stepV_some h]
      simp only [Bool.not_true, cond_false]
      rw [fI_beq]; rfl
  induction d with
  | zero =>
    intro k r hk hd
    cases h : stepN a k r with
    | none =>
      refine ⟨none, fun x hx hh hin => ?_, fun e => absurd e (by simp), fun n fu u0 u1 u2 u3 u4 hn => ?_, fun n i fu u0 u1 u2 u3 u4 hn hi => ?_⟩
      · obtain ⟨_, _, e, _⟩ := stepN_sound hx hk hh hin; rw [h] at e; exact absurd e (by simp)
      · obtain ⟨n, rfl⟩ : ∃ m, n = m + 1 := ⟨n - 1, by omega⟩; rw [run k r hk, h]
      · obtain ⟨n, rfl⟩ : ∃ m, n = m + 1 := ⟨n - 1, by omega⟩; rw [run' k r hk _ _ _ _ _ _ _ _ (by omega), h]
    | some q =>
      obtain ⟨k', r'⟩ := q
      have hk' := stepN_kv hk h
      obtain ⟨c1, c2, c3, c4, c5⟩ := stepN_cases hk h
      have he : k' = k := by
        refine Classical.byContradiction fun hn => ?_
        rw [c4] at hn
        have := know_lt (preK_lt (W_le a) r') c3 hn
        have := know_le (korN k (preK (W a) r'))
        omega
      subst he
      have hag := stepN_again hk h
      refine ⟨some (k', r'), ⟨⟨h1, h2, hk, c5, hag⟩, fun x hx hh hin => ?_⟩, fun e => e, fun n fu u0 u1 u2 u3 u4 hn => ?_, fun n i fu u0 u1 u2 u3 u4 hn hi => ?_⟩
      · obtain ⟨_, _, e, e1, e2⟩ := stepN_sound hx hk hh hin; have q := Prod.mk.inj (Option.some.inj (h.symm.trans e)); rw [q.1, q.2]; exact ⟨e1, e2⟩
      · obtain ⟨n, rfl⟩ : ∃ m, n = m + 2 := ⟨n - 2, by omega⟩
        rw [run k' r hk, h]
        dsimp only
        by_cases e : r' = r
        · subst e; rw [bifd_pos ⟨rfl, rfl⟩]
        · rw [bifd_neg (fun q => e q.2), run k' r' hk, hag]; dsimp only; rw [bifd_pos ⟨rfl, rfl⟩]
      · obtain ⟨n, rfl⟩ : ∃ m, n = m + 2 := ⟨n - 2, by omega⟩
        rw [run' k' r hk _ _ _ _ _ _ _ _ (by omega), h]
        dsimp only
        by_cases e : r' = r
        · subst e; rw [bifd_pos ⟨rfl, rfl⟩]
        · rw [bifd_neg (fun q => e q.2), run' k' r' hk _ _ _ _ _ _ _ _ (by omega), hag]; dsimp only; rw [bifd_pos ⟨rfl, rfl⟩]
  | succ d ih =>
    intro k r hk hd
    cases h : stepN a k r with
    | none =>
      refine ⟨none, fun x hx hh hin => ?_, fun e => absurd e (by simp), fun n fu u0 u1 u2 u3 u4 hn => ?_, fun n i fu u0 u1 u2 u3 u4 hn hi => ?_⟩
      · obtain ⟨_, _, e, _⟩ := stepN_sound hx hk hh hin; rw [h] at e; exact absurd e (by simp)
      · obtain ⟨n, rfl⟩ : ∃ m, n = m + 1 := ⟨n - 1, by omega⟩; rw [run k r hk, h]
      · obtain ⟨n, rfl⟩ : ∃ m, n = m + 1 := ⟨n - 1, by omega⟩; rw [run' k r hk _ _ _ _ _ _ _ _ (by omega), h]
    | some q =>
      obtain ⟨k', r'⟩ := q
      have hk' := stepN_kv hk h
      obtain ⟨c1, c2, c3, c4, c5⟩ := stepN_cases hk h
      by_cases he : k' = k
      · subst he
        have hag := stepN_again hk h
        refine ⟨some (k', r'), ⟨⟨h1, h2, hk, c5, hag⟩, fun x hx hh hin => ?_⟩, fun e => e, fun n fu u0 u1 u2 u3 u4 hn => ?_, fun n i fu u0 u1 u2 u3 u4 hn hi => ?_⟩
        · obtain ⟨_, _, e, e1, e2⟩ := stepN_sound hx hk hh hin; have q := Prod.mk.inj (Option.some.inj (h.symm.trans e)); rw [q.1, q.2]; exact ⟨e1, e2⟩
        · obtain ⟨n, rfl⟩ : ∃ m, n = m + 2 := ⟨n - 2, by omega⟩
          rw [run k' r hk, h]
          dsimp only
          by_cases e : r' = r
          · subst e; rw [bifd_pos ⟨rfl, rfl⟩]
          · rw [bifd_neg (fun q => e q.2), run k' r' hk, hag]; dsimp only; rw [bifd_pos ⟨rfl, rfl⟩]
        · obtain ⟨n, rfl⟩ : ∃ m, n = m + 2 := ⟨n - 2, by omega⟩
          rw [run' k' r hk _ _ _ _ _ _ _ _ (by omega), h]
          dsimp only
          by_cases e : r' = r
          · subst e; rw [bifd_pos ⟨rfl, rfl⟩]
          · rw [bifd_neg (fun q => e q.2), run' k' r' hk _ _ _ _ _ _ _ _ (by omega), hag]; dsimp only; rw [bifd_pos ⟨rfl, rfl⟩]
      · have hgt : know k < know k' := by
          rw [c4]; rw [c4] at he; exact know_lt (preK_lt (W_le a) r') c3 he
        obtain ⟨q, p1, p2, p3, p4⟩ := ih k' r' hk' (by omega)
        have key : ∀ x, x ≤ MK a → khas k x → inN (nrmN (MK a) r) x → khas k' x ∧ inN (nrmN (MK a) r') x := fun x hx hh hin => by
          obtain ⟨_, _, e, e1, e2⟩ := stepN_sound hx hk hh hin
          have q := Prod.mk.inj (Option.some.inj (h.symm.trans e))
          rw [nrmN_of c5, q.1, q.2]; exact ⟨e1, e2⟩
        refine ⟨q, ?_, fun e => ?_, fun n fu u0 u1 u2 u3 u4 hn => ?_, fun n i fu u0 u1 u2 u3 u4 hn hi => ?_⟩
        · cases q with
          | none => exact fun x hx hh hin => p1 x hx (key x hx hh hin).1 (key x hx hh hin).2
          | some q => exact ⟨p1.1, fun x hx hh hin => p1.2 x hx (key x hx hh hin).1 (key x hx hh hin).2⟩
        · injection e with e; injection e with e1 e2; exact absurd e1 he
        · obtain ⟨n, rfl⟩ : ∃ m, n = m + 1 := ⟨n - 1, by omega⟩
          rw [run k r hk, h]
          simp only
          rw [bifd_neg (fun q => he q.1)]
          exact p3 n fu u0 u1 u2 u3 u4 (by omega)
        · obtain ⟨n, rfl⟩ : ∃ m, n = m + 1 := ⟨n - 1, by omega⟩
          rw [run' k r hk _ _ _ _ _ _ _ _ (by omega), h]
          simp only
          rw [bifd_neg (fun q => he q.1)]
          exact p4 n (i + 1) fu u0 u1 u2 u3 u4 (by omega) (by omega)
theorem reduce_prog (a : Int) {k r : Nat × Nat} (hz : k.1 < U64) (ho : k.2 < U64) {res : Option (FT × Bool)}
    (p : ∀ (n fu : Nat), 66 < n → facts_Reduce.j7 fu n (W a : Int) (W a : Int) ((kof (MK a) k.1 k.2).1 : Int) ((kof (MK a) k.1 k.2).2 : Int) ((nrmN (MK a) r).1 : Int) ((nrmN (MK a) r).2 : Int) 0 0 0 0 0 = res) : facts_Reduce.f (fI a k r) = res := by
  unfold facts_Reduce.f
  have hf : 100 < fuel0 := by unfold fuel0; omega
  generalize fuel0 = m at hf
  unfold facts_Reduce.g facts_clamp.f known_Top.f
  simp only [Option.bind_some]
  have hc : mx 1 (mn a 64) = (W a : Int) := by unfold W mn mx; repeat' split <;> omega
  rw [hc, known_Valid_eq (W a : Int) hz ho, Option.bind_some, MK_W]
  have hp6 : ∀ z o : Int, z = ((kof (MK a) k.1 k.2).1 : Int) → o = ((kof (MK a) k.1 k.2).2 : Int) → facts_Reduce.p4 (m + 1) (m + 1) (W a : Int) a z o (r.1 : Int) (r.2 : Int) = res := by
    intro z o e0 e1
    subst e0 e1
    rw [facts_Reduce.p4_eq, ranges_Valid_eq, Option.bind_some]
    simp only [rok_cast]
    rw [MK_W, ranges_Top_eq, Option.bind_some, show MM (W a : Int) = ((MK (W a : Int) : Nat) : Int) from rfl, MK_W, facts_Reduce.p6_eq, facts_Reduce.p6_eq]
    have := p (m + 1) (m + 1) (by omega)
    by_cases h3 : rok (MK a) r
    · rw [decide_eq_true h3]
      rw [Bool.not_true, cond_false]
      rw [nrmN_of h3] at this
      exact this
    · rw [decide_eq_false h3]
      rw [Bool.not_false, cond_true]
      rw [show nrmN (MK a) r = (0, MK a) from if_neg h3] at this
      exact this
  by_cases h : kok (MK a) k.1 k.2
  · rw [decide_eq_true h]
    rw [Bool.not_true, cond_false]
    exact hp6 _ _ (by rw [kof_of h]) (by rw [kof_of h])
  · rw [decide_eq_false h]
    rw [Bool.not_false, cond_true]
    exact hp6 _ _ (by rw [show kof (MK a) k.1 k.2 = (0, 0) from if_neg h]; rfl) (by rw [show kof (MK a) k.1 k.2 = (0, 0) from if_neg h]; rfl)
theorem reduce_ref (a : Int) {k r : Nat × Nat} (hz : k.1 < U64) (ho : k.2 < U64) {res : Option (FT × Bool)}
    (p : ∀ (n fu : Nat), 66 < n → saturateref14_Reduce.j4 fu n (W a : Int) 0 (W a : Int) ((kof (MK a) k.1 k.2).1 : Int) ((kof (MK a) k.1 k.2).2 : Int) ((nrmN (MK a) r).1 : Int) ((nrmN (MK a) r).2 : Int) 0 0 0 0 0 = res) : saturateref14_Reduce.f (fI a k r) = res := by
  unfold saturateref14_Reduce.f
  have hf : 100 < fuel0 := by unfold fuel0; omega
  generalize fuel0 = m at hf
  unfold saturateref14_Reduce.g
  simp only
  rw [saturateref01_W_eq, Option.bind_some, saturateref12_Of_eq (W a : Int) hz ho, Option.bind_some, saturateref13_Of_eq, Option.bind_some, MK_W, nrm_cp, MK_W]
  exact p (m + 1) (m + 1) (by omega)
/-- What Reduce starts from. -/
theorem reduce_ex (a : Int) {k r : Nat × Nat} (hz : k.1 < U64) (ho : k.2 < U64) : ∃ q, RedP (W a : Int) (kof (MK a) k.1 k.2) (nrmN (MK a) r) q ∧
    (stepN (W a : Int) (kof (MK a) k.1 k.2) (nrmN (MK a) r) = some (kof (MK a) k.1 k.2, nrmN (MK a) r) → q = some (kof (MK a) k.1 k.2, nrmN (MK a) r)) ∧
    facts_Reduce.f (fI a k r) = some (redR (W a : Int) q) ∧ saturateref14_Reduce.f (fI a k r) = some (redR (W a : Int) q) := by
  have w1 := W_pos a
  have w2 := W_le a
  have hk : Kv (W a : Int) (kof (MK a) k.1 k.2) := by have := Kv.of (W a : Int) hz ho; rw [MK_W] at this; exact this
  obtain ⟨q, p1, p2, p3, p4⟩ := red_ex (a := (W a : Int)) (by omega) (by omega) 64 (kof (MK a) k.1 k.2) (nrmN (MK a) r) hk (by omega)
  exact ⟨q, p1, p2, reduce_prog a hz ho fun n fu hn => p3 n fu 0 0 0 0 0 hn, reduce_ref a hz ho fun n fu hn => p4 n 0 fu 0 0 0 0 0 hn (by omega)⟩
def redF (a : Int) : Option ((Nat × Nat) × (Nat × Nat)) → F3
  | none => (a, (0, 0), (0, MK a))
  | some (k, r) => (a, k, r)
theorem redR_eq (a : Int) (q : Option ((Nat × Nat) × (Nat × Nat))) : redR a q = (fE (redF a q), q.isSome) := by
  cases q with
  | none => rfl
  | some q => rfl
end Go.Proofs.YtcihbcffokjgjaaGreat.Fn
