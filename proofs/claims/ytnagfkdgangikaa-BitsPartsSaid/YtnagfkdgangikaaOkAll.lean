-- Written by a program of this workplace (rows2.py). Lean checks it.
import Derived.Test.YtnagfkdgangikaaRd
import Derived.Test.YtnagfkdgangikaaQAllx0
import Derived.Test.YtnagfkdgangikaaChecked
import Derived.KernelRfl
namespace Go.Proofs.Ytnagfkdgangikaa.QAll
open Go Go.RowKit Go.Proofs.YtnagfkdgangikaaW.PrintWords Go.Proofs.YtnagfkdgangikaaW.PrintLast Go.Proofs.Ytnagfkdgangikaa.Rd
set_option linter.unusedVariables false
theorem open_p31 {H : Type} {enc : TypeId × Value → H} {w : World} {base : Nat} {spare : Nat → Bool} {held : Bool} {fuel : Nat} {cs : List Value} {y : DataW H × List MemPlace} (h : DataW.trod enc Try.prog w base spare held fuel 31 cs = some y) :
    ∃ (x_f0 : Int) (x_f1 : Int) (x_f2 : Int) (x_f3 : Int) (x_f4 : Int), cs = [.int .i64 x_f0, .int .i64 x_f1, .int .i64 x_f2, .int .u64 x_f3, .int .u64 x_f4] ∧ (Lit.int .i64 x_f0).wf = true ∧ (Lit.int .i64 x_f1).wf = true ∧ (Lit.int .i64 x_f2).wf = true ∧ (Lit.int .u64 x_f3).wf = true ∧ (Lit.int .u64 x_f4).wf = true := by
  obtain ⟨xs, n, _, _, hl, hlen, hf⟩ := DataW.trod_struct Try.underlying31 h
  replace hl : cs.length = 5 := hl.trans (by kernel_rfl)
  obtain ⟨z0, hz0⟩ : ∃ z, xs[0]? = some z := ⟨_, List.getElem?_eq_getElem (by rw [hlen]; decide)⟩
  have g0 := hf 0 _ rfl
  rw [hz0] at g0
  obtain ⟨z1, hz1⟩ : ∃ z, xs[1]? = some z := ⟨_, List.getElem?_eq_getElem (by rw [hlen]; decide)⟩
  have g1 := hf 1 _ rfl
  rw [hz1] at g1
  obtain ⟨z2, hz2⟩ : ∃ z, xs[2]? = some z := ⟨_, List.getElem?_eq_getElem (by rw [hlen]; decide)⟩
  have g2 := hf 2 _ rfl
  rw [hz2] at g2
  obtain ⟨z3, hz3⟩ : ∃ z, xs[3]? = some z := ⟨_, List.getElem?_eq_getElem (by rw [hlen]; decide)⟩
  have g3 := hf 3 _ rfl
  rw [hz3] at g3
  obtain ⟨z4, hz4⟩ : ∃ z, xs[4]? = some z := ⟨_, List.getElem?_eq_getElem (by rw [hlen]; decide)⟩
  have g4 := hf 4 _ rfl
  rw [hz4] at g4
  match cs, hl with
  | [c0, c1, c2, c3, c4], _ =>
    replace g0 : DataW.trod enc Try.prog w base spare held n 3 [c0] = some z0 := g0
    obtain ⟨y0, e0, h0⟩ := (opens_int Try.underlying3) H enc w base spare held n _ _ g0
    obtain ⟨rfl, _⟩ := List.cons.inj (show [c0] = [.int .i64 y0] from e0)
    replace g1 : DataW.trod enc Try.prog w base spare held n 3 [c1] = some z1 := g1
    obtain ⟨y1, e1, h1⟩ := (opens_int Try.underlying3) H enc w base spare held n _ _ g1
    obtain ⟨rfl, _⟩ := List.cons.inj (show [c1] = [.int .i64 y1] from e1)
    replace g2 : DataW.trod enc Try.prog w base spare held n 3 [c2] = some z2 := g2
    obtain ⟨y2, e2, h2⟩ := (opens_int Try.underlying3) H enc w base spare held n _ _ g2
    obtain ⟨rfl, _⟩ := List.cons.inj (show [c2] = [.int .i64 y2] from e2)
    replace g3 : DataW.trod enc Try.prog w base spare held n 22 [c3] = some z3 := g3
    obtain ⟨y3, e3, h3⟩ := (opens_int Try.underlying22) H enc w base spare held n _ _ g3
    obtain ⟨rfl, _⟩ := List.cons.inj (show [c3] = [.int .u64 y3] from e3)
    replace g4 : DataW.trod enc Try.prog w base spare held n 22 [c4] = some z4 := g4
    obtain ⟨y4, e4, h4⟩ := (opens_int Try.underlying22) H enc w base spare held n _ _ g4
    obtain ⟨rfl, _⟩ := List.cons.inj (show [c4] = [.int .u64 y4] from e4)
    exact ⟨y0, y1, y2, y3, y4, rfl, h0, h1, h2, h3, h4⟩
end Go.Proofs.Ytnagfkdgangikaa.QAll
