/- FactsSound, in plain words: a term that has a value has facts of its width, and they contain the value. -/
import Derived.Test.YtcihbcffokjgjaaGreatTStFactsSound
import Derived.Test.YtcihbcffokjgjaaGreatTFl
import Derived.Test.YtcihbcffokjgjaaGreatTFc
namespace Go.Proofs.YtcihbcffokjgjaaGreat.Th
open Go Go.RowKit Go.Proofs.YtcihbcffokjgjaaGreat.Ev Go.Proofs.YtcihbcffokjgjaaGreat.Fn Go.Proofs.YtcihbcffokjgjaaGreat.Bv
set_option linter.unusedVariables false
set_option linter.unusedSimpArgs false
set_option maxRecDepth 100000
theorem ofN_valid {m : F3} (h : Fv m.1 m.2.1 m.2.2) : ofN m.1 m.2.1 m.2.2 = m := if_pos h.val
theorem has_valid {m : F3} (h : Fv m.1 m.2.1 m.2.2) {x : Nat} (hx : x < U64) : facts_Has.f (m.1, (m.2.1.1 : Int), (m.2.1.2 : Int), (m.2.2.1 : Int), (m.2.2.2 : Int)) x = some (decide (hasN m x)) := by rw [facts_Has_eq m.1 (k := m.2.1) (r := m.2.2) h.kv.l1 h.kv.l2 hx, ofN_valid h]
theorem chkT_first {t : Tm} (h : chkT t = 0) : firstE (postT t) = 0 := by
  unfold chkT at h
  by_cases h0 : firstE (postT t) ≠ 0
  · rw [if_pos h0] at h; exact absurd h h0
  · exact Decidable.not_not.1 h0
theorem eval_eq {t : Tm} (h : Ok t) (N : Nat) (E : Nat → ByteArray) (V : Nat → Int) : saturateref08_Eval.f t (N, E, V) = if chkT t ≠ 0 then some (0, chkT t) else (saturateref08_Value.f t (N, E, V)).bind fun r2 => bif !r2.2 then some (0, 12) else some (r2.1, 0) := by
  unfold saturateref08_Eval.f
  rw [Tm.eta', check_ref h, Option.bind_some]
  by_cases h0 : chkT t ≠ 0
  · rw [show (chkT t != 0) = true by rw [bne_iff_ne]; exact h0, cond_true, if_pos h0]
  · rw [show (chkT t != 0) = false by rw [bne_eq_false_iff_eq]; exact Decidable.not_not.1 h0, cond_false, if_neg h0]
theorem sound_abs (v : Unit → Option Bool) {e} (hv : v () = some true) (fu : Nat) {t : Tm} (hw : wfT t) (N : Nat) (E : Nat → ByteArray) {V : Nat → Int} (hV : Nums V) : saturatelaw14_FactsSound.gv v e fu t (N, E, V) = some true := by
  unfold saturatelaw14_FactsSound.gv
  obtain ⟨b, h1, h2⟩ := light_eq hw
  rw [Tm.eta', h1, Option.bind_some]
  cases b with
  | false => rw [Bool.not_false, cond_true, hv]; rfl
  | true =>
    have ok := h2 rfl
    simp only
    rw [Bool.not_true, cond_false]
    by_cases hN : N ≤ 20
    · rw [bifd_neg (by omega), of_prog ok, Option.bind_some, eval_eq ok]
      unfold ofT
      by_cases h0 : chkT t ≠ 0
      · rw [if_pos h0, if_pos h0, Option.bind_some]
        simp only
        rw [show (chkT t != 0) = true by rw [bne_iff_ne]; exact h0, cond_true, hv]; rfl
      · rw [if_neg h0, if_neg h0]
        have he := chkT_first (Decidable.not_not.1 h0)
        obtain ⟨m, x, b, s1, s2, s3, s4, s5, s6⟩ := sound_FC (by omega : N ≤ 1000) E hV deep0 t ok (by have := ok.dp; unfold deep0; omega) he
        have hval : saturateref08_Value.f t (N, E, V) = some ((x : Int), b) := s4
        rw [hval, Option.bind_some]
        simp only
        cases b with
        | false =>
          rw [Bool.not_false, cond_true, Option.bind_some]
          simp only
          rw [show ((12 : Int) != 0) = true from rfl, cond_true, hv]; rfl
        | true =>
          rw [Bool.not_true, cond_false, Option.bind_some]
          simp only
          rw [show ((0 : Int) != 0) = false from rfl, cond_false, show ((0 : Int) == 0) = true from rfl, cond_true, s1]
          simp only
          rw [s3, beq_self_eq_true, cond_true, ← s3, has_valid s2 s5, Option.bind_some, decide_eq_true (s6 rfl), cond_true, hv]; rfl
    · rw [bifd_pos (by omega), hv]; rfl
theorem FactsSound : St.FactsSound := by
  intro t N E V hw _ hV
  have q := @sound_abs (fun a => saturatelaw14_lives.f) ⟨saturatelaw14_lives.con⟩ lives14_true (fuel0 + 1) t hw N E V (nums_of hV)
  delta saturatelaw14_FactsSound.f
  exact q
end Go.Proofs.YtcihbcffokjgjaaGreat.Th
