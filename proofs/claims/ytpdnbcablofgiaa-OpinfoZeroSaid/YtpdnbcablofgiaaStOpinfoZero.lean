-- Written by a program of this workplace (rows2.py). Lean checks it.
import Derived.Test.YtpdnbcablofgiaaQAllx6
import Derived.Test.YtpdnbcablofgiaaOkAll
namespace Go.Proofs.Ytpdnbcablofgiaa.St
open Go Go.RowKit Go.Proofs.Ytpdnbcablofgiaa.QAll Go.Proofs.YtpdnbcablofgiaaW.PrintWords
/-- THE PURE STATEMENT of saturatelaw04_OpinfoZero. -/
def OpinfoZero : Prop := ∀ (a0_0 : Int) (a0_1 : Int) (a0_2 : Int) (l0_3 : List Int), (Lit.int .i64 a0_0).wf = true → (Lit.int .i64 a0_1).wf = true → (Lit.int .u64 a0_2).wf = true → (l0_3.length ≤ 9223372036854775807 ∧ ∀ x_ ∈ l0_3, (Lit.int .i64 x_).wf = true) → ∃ k, saturatelaw04_OpinfoZero.f k a0_0 a0_1 a0_2 l0_3 = some true
end Go.Proofs.Ytpdnbcablofgiaa.St
