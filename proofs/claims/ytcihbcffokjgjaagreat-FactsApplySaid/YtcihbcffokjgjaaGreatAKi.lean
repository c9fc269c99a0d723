/- Results of Apply: elements, and monotone; the law's loop over joins. -/
import Derived.Test.YtcihbcffokjgjaaGreatAKh
namespace Go.Proofs.YtcihbcffokjgjaaGreat.Fn
open Go Go.RowKit Go.Proofs.YtcihbcffokjgjaaGreat.Ev Go.Proofs.YtcihbcffokjgjaaGreat.Bv
set_option linter.unusedVariables false
set_option linter.unusedSimpArgs false
set_option maxRecDepth 100000

/-- What the checks leave: the operator, the width r of the result, and the widths of the n operands. -/
def Cas (op : Int) (r x n : Nat) (g : Nat → Int) : Prop :=
  ((op = 1 ∨ op = 2) ∧ n = 0) ∨ ((op = 3 ∨ op = 4) ∧ n = 1 ∧ (r : Int) = g 0) ∨
    ((op = 21 ∨ op = 22 ∨ op = 23) ∧ n = 1 ∧ (op = 21 → (x : Int) + r ≤ g 0) ∧ (op = 22 ∨ op = 23 → g 0 ≤ r)) ∨
    (op = 19 ∧ n = 3 ∧ g 0 = 1 ∧ g 1 = r ∧ g 2 = r) ∨ (op = 20 ∧ n = 2 ∧ (r : Int) = g 0 + g 1) ∨
    ((op = 16 ∨ op = 17 ∨ op = 18) ∧ n = 2 ∧ g 1 = g 0 ∧ (r : Int) = 1) ∨ ((5 ≤ op ∧ op ≤ 15) ∧ n = 2 ∧ g 1 = g 0 ∧ (r : Int) = g 0)
/-- The checks let it through. -/
theorem chk_cas {op w : Int} {x n m : Nat} {g : Nat → Int} (h : (chkS op w x n m g).2 = 0) :
    m = n ∧ n ≤ 3 ∧ 1 ≤ op ∧ op ≤ 23 ∧ (∀ i, i < n → 1 ≤ g i ∧ g i ≤ 64) ∧ ∃ r : Nat, (chkS op w x n m g).1 = (r : Int) ∧ 1 ≤ r ∧ r ≤ 64 ∧ Cas op r x n g := by
  obtain ⟨h1, h2, rfl, ha, hg, he, e0, e1⟩ := chkS_ok h
  have ar := arity_in (op := op) (by omega) (by omega)
  obtain ⟨r1, r2, hcases⟩ := widthT_ok h1 h2 ha hg e0 e1
  obtain ⟨r, hr, r1, r2⟩ := nat_of r1 r2
  refine ⟨rfl, by omega, h1, h2, hg, r, by rw [he]; exact hr, r1, r2, ?_⟩
  rw [hr] at hcases
  exact hcases
theorem el_val {op : Int} {r x n : Nat} {g : Nat → Int} {e : Nat → Nat × Nat} (hc : Cas op r x n g) (hg : ∀ i, i < n → 1 ≤ g i ∧ g i ≤ 64) (he : ∀ i, i < n → El (g i).toNat (e i)) (r1 : 1 ≤ r) (r2 : r ≤ 64) : El r (kvalS op r x g e) := by
  unfold kvalS
  rcases hc with ⟨hop, rfl⟩ | ⟨hop, rfl, hr⟩ | ⟨hop, rfl, hr, hr2⟩ | ⟨rfl, rfl, g0, g1, g2⟩ | ⟨rfl, rfl, hr⟩ | ⟨hop, rfl, g1, hr⟩ | ⟨hop, rfl, g1, hr⟩
  · rcases hop with rfl | rfl
    · rw [if_pos rfl]; exact el_top r2
    · rw [if_neg (by decide), if_pos rfl]; exact el_cst r1 r2 _
  · rw [if_neg (by omega), if_neg (by omega), if_neg (by omega), if_pos (by omega)]
    have := hg 0 (by omega)
    exact el_una (he 0 (by omega)) (by omega) r2 (fun _ => by omega)
  · rw [if_neg (by omega), if_neg (by omega), if_neg (by omega), if_pos (by omega)]
    have := hg 0 (by omega)
    exact el_una (he 0 (by omega)) (by omega) r2 (fun h => by omega)
  · rw [if_neg (by decide), if_neg (by decide), if_pos rfl]
    have h1 := he 1 (by omega)
    have h2 := he 2 (by omega)
    rw [show (g 1).toNat = r by omega] at h1
    rw [show (g 2).toNat = r by omega] at h2
    exact el_ite r2 h1 h2
  · rw [if_neg (by decide), if_neg (by decide), if_neg (by decide), if_neg (by decide)]
    have := hg 0 (by omega)
    have := hg 1 (by omega)
    exact el_bin (by decide) (by decide) (by decide) (he 0 (by omega)) (he 1 (by omega)) (by omega) (by omega) (by omega) r1 r2 (fun h => absurd rfl h) (fun h => by omega) (fun h => absurd h (by decide)) (fun _ => by omega)
  · rw [if_neg (by omega), if_neg (by omega), if_neg (by omega), if_neg (by omega)]
    have := hg 0 (by omega)
    have := hg 1 (by omega)
    exact el_bin (by omega) (by omega) (by omega) (he 0 (by omega)) (he 1 (by omega)) (by omega) (by omega) (by omega) r1 r2 (fun h => by omega) (fun h => by omega) (fun h => by omega) (fun h => by omega)
  · rw [if_neg (by omega), if_neg (by omega), if_neg (by omega), if_neg (by omega)]
    have := hg 0 (by omega)
    have := hg 1 (by omega)
    exact el_bin (by omega) (by omega) (by omega) (he 0 (by omega)) (he 1 (by omega)) (by omega) (by omega) (by omega) r1 r2 (fun h => by omega) (fun h => by omega) (fun h => by omega) (fun h => by omega)
end Go.Proofs.YtcihbcffokjgjaaGreat.Fn
