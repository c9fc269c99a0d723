-- Written by a program of this workplace (rows2.py). Lean checks it.
import Derived.Test.YtnagfkdgangikaaQAllx6
import Derived.Test.YtnagfkdgangikaaOkAll
namespace Go.Proofs.Ytnagfkdgangikaa.St
open Go Go.RowKit Go.Proofs.Ytnagfkdgangikaa.QAll Go.Proofs.YtnagfkdgangikaaW.PrintWords
/-- THE PURE STATEMENT of saturatelaw01_BitsParts. -/
def BitsParts : Prop := ∀ (a0_0 : Int) (a0_1 : Int) (a0_2 : Int) (a0_3 : Int) (a0_4 : Int), (Lit.int .i64 a0_0).wf = true → (Lit.int .i64 a0_1).wf = true → (Lit.int .i64 a0_2).wf = true → (Lit.int .u64 a0_3).wf = true → (Lit.int .u64 a0_4).wf = true → ∃ k, saturatelaw01_BitsParts.f k a0_0 a0_1 a0_2 a0_3 a0_4 = some true
end Go.Proofs.Ytnagfkdgangikaa.St
