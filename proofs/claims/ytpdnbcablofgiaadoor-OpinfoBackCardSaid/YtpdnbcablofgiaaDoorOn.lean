/- What the functions of the operators' names return, in plain words: the names' table, and the place of a name in it. -/
import Derived.Test.YtpdnbcablofgiaaDoorF0
import Derived.Test.YtpdnbcablofgiaaDoorEvC
namespace Go.Proofs.YtpdnbcablofgiaaDoor.Fn
open Go Go.RowKit Go.Proofs.YtpdnbcablofgiaaDoor.Ev
set_option linter.unusedVariables false
set_option linter.unusedSimpArgs false

theorem lives04_true : saturatelaw04_lives.f = some true := by kernel_rfl
/-- The name of an operator. -/
def nm (a : Int) : ByteArray := if 1 ≤ a ∧ a ≤ 26 then gtab0_0 a.toNat else ByteArray.mk #[]
theorem ct {b : Bool} {α : Type} {x y : α} (h : b = true) : (bif b then x else y) = x := by rw [h]; rfl
theorem cf {b : Bool} {α : Type} {x y : α} (h : b = false) : (bif b then x else y) = y := by rw [h]; rfl
theorem opinfo_known_eq (a : Int) : opinfo_known.f a = some (decide (1 ≤ a ∧ a ≤ 26)) := by
  unfold opinfo_known.f
  by_cases h : a ≥ 1
  · rw [ct (decide_eq_true h)]
    by_cases h2 : a ≤ 26
    · rw [decide_eq_true h2, decide_eq_true ⟨h, h2⟩]
    · rw [decide_eq_false h2, decide_eq_false (fun q => h2 q.2)]
  · rw [cf (decide_eq_false h), decide_eq_false (fun q => h q.1)]
theorem opinfo_Name_eq (a : Int) : opinfo_Name.f a = some (nm a) := by
  unfold opinfo_Name.f nm
  rw [opinfo_known_eq, Option.bind_some]
  by_cases h : 1 ≤ a ∧ a ≤ 26
  · rw [decide_eq_true h, if_pos h, Bool.not_true, cond_false, ct (decide_eq_true (by omega)), ct (decide_eq_true (by omega))]
  · rw [decide_eq_false h, if_neg h, Bool.not_false, cond_true]
theorem saturateref04_Name_eq (a : Int) : saturateref04_Name.f a = some (nm a) := by
  unfold saturateref04_Name.f nm
  by_cases h1 : a < 1
  · rw [ct (decide_eq_true h1), if_neg (by omega)]
  · by_cases h2 : a > 26
    · rw [cf (decide_eq_false h1), ct (decide_eq_true h2), if_neg (by omega)]
    · rw [cf (decide_eq_false h1), cf (decide_eq_false h2), ct (decide_eq_true (by omega)), ct (decide_eq_true (by omega)), if_pos (by omega)]
      rfl
theorem wrap_small {a : Int} (h1 : 0 ≤ a) (h2 : a ≤ 100) : IntKind.i64.wrap a = a := by
  simp only [IntKind.wrap, IntKind.bits, IntKind.signed]
  simp
  omega

/-- What the search for a name from place x on answers. -/
def Found (s : ByteArray) (x : Int) (r : Int × Bool) : Prop :=
  (r.2 = true → x ≤ r.1 ∧ r.1 ≤ 26 ∧ ((gtab0_0 r.1.toNat).toList == s.toList) = true) ∧ (r.2 = false → r.1 = 0 ∧ ∀ k : Int, x ≤ k → k ≤ 26 → ((gtab0_0 k.toNat).toList == s.toList) = false)
theorem of_ok (fu : Nat) (s : ByteArray) : ∀ (n : Nat) (x : Int), 1 ≤ x → x ≤ 27 → 27 ≤ x + n → ∃ r, opinfo_Of.j2 fu (n + 1) s x = some r ∧ saturateref04_Of.j2 fu (n + 1) s x = some r ∧ Found s x r := by
  intro n
  induction n with
  | zero =>
    intro x h1 h2 h3
    rw [opinfo_Of.j2_succ, saturateref04_Of.j2_succ, cf (decide_eq_false (by omega)), cf (decide_eq_false (by omega))]
    refine ⟨_, rfl, rfl, fun h => ?_, fun _ => ⟨rfl, fun k hk hk' => by omega⟩⟩
    cases h
  | succ n ih =>
    intro x h1 h2 h3
    rw [opinfo_Of.j2_succ, saturateref04_Of.j2_succ]
    by_cases hx : x ≤ 26
    · rw [ct (decide_eq_true hx), ct (decide_eq_true hx), ct (decide_eq_true (by omega)), ct (decide_eq_true (by omega)), saturateref04_Name_eq, Option.bind_some]
      have hn : nm x = gtab0_0 x.toNat := by unfold nm; rw [if_pos ⟨h1, hx⟩]
      rw [hn, wrap_small (by omega) (by omega)]
      cases hb : ((gtab0_0 x.toNat).toList == s.toList) with
      | true =>
        refine ⟨(x, true), rfl, rfl, fun _ => ⟨Int.le_refl _, hx, hb⟩, fun h => ?_⟩
        cases h
      | false =>
        obtain ⟨r, e1, e2, hr1, hr2⟩ := ih (x + 1) (by omega) (by omega) (by omega)
        refine ⟨r, by rw [cond_false, e1], by rw [cond_false, e2], fun h => ?_, fun h => ?_⟩
        · obtain ⟨q1, q2, q3⟩ := hr1 h
          exact ⟨by omega, q2, q3⟩
        · obtain ⟨q1, q2⟩ := hr2 h
          refine ⟨q1, fun k hk hk' => ?_⟩
          by_cases hkx : k = x
          · subst hkx; exact hb
          · exact q2 k (by omega) hk'
    · rw [cf (decide_eq_false hx), cf (decide_eq_false hx)]
      refine ⟨_, rfl, rfl, fun h => ?_, fun _ => ⟨rfl, fun k hk hk' => by omega⟩⟩
      cases h
theorem Of_ok (s : ByteArray) : ∃ r, opinfo_Of.f s = some r ∧ saturateref04_Of.f s = some r ∧ Found s 1 r := by
  unfold opinfo_Of.f saturateref04_Of.f opinfo_Of.g saturateref04_Of.g
  exact of_ok (fuel0 + 1) s fuel0 1 (by decide) (by decide) (by unfold fuel0; decide)

theorem apart0 : ∀ i : Fin 27, ∀ j : Fin 27, ((gtab0_0 i.1).toList == (gtab0_0 j.1).toList) = true → i = j := by decide +kernel
/-- No two operators have one name. -/
theorem apart {x y : Int} (hx : 1 ≤ x) (hx' : x ≤ 26) (hy : 1 ≤ y) (hy' : y ≤ 26) (h : ((gtab0_0 x.toNat).toList == (gtab0_0 y.toNat).toList) = true) : x = y := by
  have := congrArg Fin.val (apart0 ⟨x.toNat, by omega⟩ ⟨y.toNat, by omega⟩ h)
  simp only at this
  omega
theorem nm_in {a : Int} (h1 : 1 ≤ a) (h2 : a ≤ 26) : nm a = gtab0_0 a.toNat := by unfold nm; rw [if_pos ⟨h1, h2⟩]
theorem Of_name {a : Int} (h1 : 1 ≤ a) (h2 : a ≤ 26) : opinfo_Of.f (nm a) = some (a, true) := by
  obtain ⟨r, e, _, r1, r2⟩ := Of_ok (nm a)
  rw [e]
  rw [nm_in h1 h2] at r1 r2
  obtain ⟨k, b⟩ := r
  cases b with
  | true =>
    obtain ⟨q1, q2, q3⟩ := r1 rfl
    have := apart q1 q2 h1 h2 q3
    simp only at this
    rw [this]
  | false =>
    have := (r2 rfl).2 a h1 h2
    rw [beq_self_eq_true] at this
    cases this
end Go.Proofs.YtpdnbcablofgiaaDoor.Fn
