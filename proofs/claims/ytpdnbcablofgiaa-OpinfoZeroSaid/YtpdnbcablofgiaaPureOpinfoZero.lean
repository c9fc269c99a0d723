/- For every operator, width, value and list of operand widths: a width that Width returns without an error is from 0 to 64, and is 0 only if the width given or that of an operand is 0; with an error it is 0. Conditions: none beyond the kinds of the numbers. -/
import Derived.Test.YtpdnbcablofgiaaFunAll0
import Derived.Test.YtpdnbcablofgiaaQAllx6
import Derived.Test.YtpdnbcablofgiaaStOpinfoZero
namespace Go.Proofs.Ytpdnbcablofgiaa.Pure
open Go Go.RowKit Go.Proofs.Ytpdnbcablofgiaa.QAll Go.Proofs.YtpdnbcablofgiaaW.PrintWords Go.Proofs.YtpdnbcablofgiaaW.PrintLast Go.Proofs.Ytpdnbcablofgiaa.Bv Go.Proofs.Ytpdnbcablofgiaa.Op
set_option linter.unusedVariables false
set_option linter.unusedSimpArgs false
def ErrOk (p : Int × Int) : Prop := ¬ p.2 = 0 → p.1 = 0
theorem ite_errOk {c : Prop} [Decidable c] {p q : Int × Int} (h1 : ErrOk p) (h2 : ErrOk q) : ErrOk (if c then p else q) := by split <;> assumption
theorem errOk0 (a : Int) : ErrOk (a, 0) := fun h => absurd rfl h
theorem errOk_ (b : Int) : ErrOk (0, b) := fun _ => rfl
theorem width_err {op w : Int} {x : Nat} {l : List Int} (h : ¬ (widthS op w x l).2 = 0) : (widthS op w x l).1 = 0 := by
  suffices ErrOk (widthS op w x l) from this h
  unfold widthS widthT
  repeat' (first | exact errOk0 _ | exact errOk_ _ | refine ite_errOk ?_ ?_)
theorem width_zero {op w : Int} {x : Nat} {l : List Int} (h : (widthS op w x l).2 = 0) : 0 ≤ (widthS op w x l).1 ∧ (widthS op w x l).1 ≤ 64 ∧ ((widthS op w x l).1 = 0 → w = 0 ∨ 0 ∈ l) := by
  unfold widthS at h ⊢
  by_cases h1 : op < 1 ∨ 26 < op ∨ (l.length : Int) ≠ arity op
  · rw [if_pos h1] at h; exact absurd h (by decide)
  · rw [if_neg h1] at h ⊢
    by_cases h2 : l.all ins = true
    · rw [if_pos h2] at h ⊢
      have hin : ∀ a ∈ l, 0 ≤ a ∧ a ≤ 64 := fun a h => ins_iff.1 (List.all_eq_true.1 h2 a h)
      have A : 0 < l.length → (0 ≤ rd l 0 ∧ rd l 0 ≤ 64) ∧ rd l 0 ∈ l := fun h => ⟨hin _ (rd_mem h), rd_mem h⟩
      have B : 1 < l.length → (0 ≤ rd l 1 ∧ rd l 1 ≤ 64) ∧ rd l 1 ∈ l := fun h => ⟨hin _ (rd_mem h), rd_mem h⟩
      have ha : (l.length : Int) = arity op := by omega
      clear hin h2
      have o1 : 1 ≤ op := by omega
      have o2 : op ≤ 26 := by omega
      clear h1
      rcases ops o1 o2 with rfl | rfl | rfl | rfl | rfl | rfl | rfl | rfl | rfl | rfl | rfl | rfl | rfl | rfl | rfl | rfl | rfl | rfl | rfl | rfl | rfl | rfl | rfl | rfl | rfl | rfl
      all_goals
        have hlen := ha
        simp (config := { decide := true }) only [arity, if_true, if_false, reduceIte] at hlen
        clear ha
        simp (config := { decide := true }) only [widthT, if_true, if_false, reduceIte] at h ⊢
      all_goals first
        | (split at h
           · exact absurd h (by decide)
           · rename_i q
             rw [if_neg q]
             exact ⟨by omega, by omega, fun e => .inl e⟩)
        | (obtain ⟨⟨a1, a2⟩, a3⟩ := A (by omega)
           first
             | exact ⟨a1, a2, fun e => .inr (e ▸ a3)⟩
             | (repeat' split at h
                all_goals first
                  | exact absurd h (by decide)
                  | (repeat' split
                     all_goals first
                       | (exfalso; omega)
                       | exact ⟨a1, a2, fun e => .inr (e ▸ a3)⟩
                       | exact ⟨by decide, by decide, fun e => absurd e (by decide)⟩
                       | exact ⟨by omega, by omega, fun e => by omega⟩
                       | (obtain ⟨⟨b1, b2⟩, b3⟩ := B (by omega)
                          first
                            | exact ⟨b1, b2, fun e => .inr (e ▸ b3)⟩
                            | exact ⟨by omega, by omega, fun e => by omega⟩))))
    · rw [if_neg h2] at h; exact absurd h (by decide)
theorem lives_ge {k : Nat} (hk : 20 ≤ k) : saturatelaw04_lives.f k = some true := by
  unfold saturatelaw04_lives.f
  have e1 : opinfo_Width.f k 20 0 0 [8, 8] = some (16, 0) := opinfo_Width_eq (x := 0) (l := [8, 8]) (by decide) (by decide) hk
  have e2 : opinfo_Width.f k 21 4 5 [8] = some (0, 3) := opinfo_Width_eq (x := 5) (l := [8]) (by decide) (by decide) hk
  rw [e1, e2]; rfl
theorem zero_loop {op w v : Int} {l : List Int} (hl : l.length ≤ 9223372036854775807) {r e : Int} (d : Nat) : ∀ k i (z : Bool), i + d = l.length → d + 21 ≤ k →
    ((if e = 0 then decide (0 ≤ r ∧ r ≤ 64 ∧ (0 < r ∨ (z || decide (0 ∈ l.drop i)) = true)) else decide (r = 0)) = true) →
    saturatelaw04_OpinfoZero.l0 k r e z (l.length : Int) (i : Int) op w v l = some true := by
  induction d with
  | zero =>
    intro k i z hi hk h
    obtain ⟨k, rfl⟩ : ∃ m, k = m + 1 := ⟨k - 1, by omega⟩
    obtain rfl : i = l.length := by omega
    unfold saturatelaw04_OpinfoZero.l0
    rw [if_neg (by omega), lives_ge (by omega)]; simp only [Option.bind_some]
    by_cases he : e = 0
    · rw [if_pos he] at h ⊢
      simp at h
      rw [if_pos (show r ≥ 0 by omega), if_pos (show r ≤ 64 by omega)]
      by_cases hr : r > 0
      · rw [if_pos hr]
      · rw [if_neg hr, if_pos (h.2.2.resolve_left (by omega))]
    · rw [if_neg he] at h ⊢
      rw [if_pos (by simpa using h)]
  | succ d ih =>
    intro k i z hi hk h
    obtain ⟨k, rfl⟩ : ∃ m, k = m + 1 := ⟨k - 1, by omega⟩
    have hlt : i < l.length := by omega
    unfold saturatelaw04_OpinfoZero.l0
    rw [if_pos (by omega), wrapi_succ (by omega)]
    rw [drop_rd hlt] at h
    cases z with
    | true =>
      rw [if_pos rfl]
      exact ih k (i + 1) true (by omega) (by omega) (by simpa using h)
    | false =>
      rw [if_neg (by decide), if_pos (Int.natCast_nonneg _), if_pos (by omega)]
      refine ih k (i + 1) _ (by omega) (by omega) ?_
      by_cases hz : rd l (i : Int) = 0
      · rw [hz] at h; rw [hz]; simpa using h
      · have hz' : ¬ 0 = rd l (i : Int) := fun q => hz q.symm
        simpa [hz, hz'] using h
theorem OpinfoZero : St.OpinfoZero := by
  intro op w v l hop hw hv hl
  obtain ⟨x, rfl, hx⟩ := u64_of hv
  refine ⟨l.length + 1000, ?_⟩
  unfold saturatelaw04_OpinfoZero.f
  rw [opinfo_Width_eq hx hl.1 (by omega)]; simp only [Option.bind_some]
  refine zero_loop hl.1 l.length _ 0 _ (by omega) (by omega) ?_
  by_cases h : (widthS op w x l).2 = 0
  · rw [if_pos h]
    obtain ⟨h1, h2, h3⟩ := width_zero h
    have : 0 < (widthS op w x l).1 ∨ (w = 0 ∨ 0 ∈ l) := by
      by_cases q : (widthS op w x l).1 = 0
      · exact .inr (h3 q)
      · left; omega
    simpa [h1, h2] using this
  · rw [if_neg h]; simpa using width_err h
end Go.Proofs.Ytpdnbcablofgiaa.Pure
