-- Written by a program of this workplace (rows2.py). Lean checks it.
import Derived.Test.YtpdnbcablofgiaaRd
import Derived.Test.YtpdnbcablofgiaaQAllx0
import Derived.Test.YtpdnbcablofgiaaChecked
import Derived.KernelRfl
namespace Go.Proofs.Ytpdnbcablofgiaa.QAll
open Go Go.RowKit Go.Proofs.YtpdnbcablofgiaaW.PrintWords Go.Proofs.YtpdnbcablofgiaaW.PrintLast Go.Proofs.Ytpdnbcablofgiaa.Rd
set_option linter.unusedVariables false
theorem open_p26 {H : Type} {enc : TypeId × Value → H} {w : World} {base : Nat} {spare : Nat → Bool} {held : Bool} {fuel : Nat} {cs : List Value} {y : DataW H × List MemPlace} (h : DataW.trod enc Try.prog w base spare held fuel 26 cs = some y) :
    ∃ (x_f0 : Int) (x_f1 : Int) (x_f2 : Int) (x_f3 : List Int) (A_f3 : Option Addr) (c_f3 : Nat), cs = [.int .i64 x_f0, .int .i64 x_f1, .int .u64 x_f2, .slice A_f3 x_f3.length c_f3] ∧ (Lit.int .i64 x_f0).wf = true ∧ (Lit.int .i64 x_f1).wf = true ∧ (Lit.int .u64 x_f2).wf = true ∧ x_f3.length ≤ c_f3 ∧ Kd.C (Kd.int .i64) w A_f3 x_f3.length x_f3 ∧ (x_f3.length ≤ 9223372036854775807 ∧ ∀ x_ ∈ x_f3, (Lit.int .i64 x_).wf = true) := by
  obtain ⟨xs, n, _, _, hl, hlen, hf⟩ := DataW.trod_struct Try.underlying26 h
  replace hl : cs.length = 4 := hl.trans (by kernel_rfl)
  obtain ⟨z0, hz0⟩ : ∃ z, xs[0]? = some z := ⟨_, List.getElem?_eq_getElem (by rw [hlen]; decide)⟩
  have g0 := hf 0 _ rfl
  rw [hz0] at g0
  obtain ⟨z1, hz1⟩ : ∃ z, xs[1]? = some z := ⟨_, List.getElem?_eq_getElem (by rw [hlen]; decide)⟩
  have g1 := hf 1 _ rfl
  rw [hz1] at g1
  obtain ⟨z2, hz2⟩ : ∃ z, xs[2]? = some z := ⟨_, List.getElem?_eq_getElem (by rw [hlen]; decide)⟩
  have g2 := hf 2 _ rfl
  rw [hz2] at g2
  obtain ⟨z3, hz3⟩ : ∃ z, xs[3]? = some z := ⟨_, List.getElem?_eq_getElem (by rw [hlen]; decide)⟩
  have g3 := hf 3 _ rfl
  rw [hz3] at g3
  match cs, hl with
  | [c0, c1, c2, c3], _ =>
    replace g0 : DataW.trod enc Try.prog w base spare held n 22 [c0] = some z0 := g0
    obtain ⟨y0, e0, h0⟩ := (opens_int Try.underlying22) H enc w base spare held n _ _ g0
    obtain ⟨rfl, _⟩ := List.cons.inj (show [c0] = [.int .i64 y0] from e0)
    replace g1 : DataW.trod enc Try.prog w base spare held n 3 [c1] = some z1 := g1
    obtain ⟨y1, e1, h1⟩ := (opens_int Try.underlying3) H enc w base spare held n _ _ g1
    obtain ⟨rfl, _⟩ := List.cons.inj (show [c1] = [.int .i64 y1] from e1)
    replace g2 : DataW.trod enc Try.prog w base spare held n 23 [c2] = some z2 := g2
    obtain ⟨y2, e2, h2⟩ := (opens_int Try.underlying23) H enc w base spare held n _ _ g2
    obtain ⟨rfl, _⟩ := List.cons.inj (show [c2] = [.int .u64 y2] from e2)
    replace g3 : DataW.trod enc Try.prog w base spare held n 24 [c3] = some z3 := g3
    obtain ⟨y3, ⟨A3, C3, e3, h3a, h3b⟩, h3c⟩ := (opens_slice Try.underlying24 (by kernel_rfl) (opens_int Try.underlying3)) H enc w base spare held n _ _ g3
    obtain ⟨rfl, _⟩ := List.cons.inj e3
    exact ⟨y0, y1, y2, y3, A3, C3, rfl, h0, h1, h2, h3a, h3b, h3c⟩
end Go.Proofs.Ytpdnbcablofgiaa.QAll
