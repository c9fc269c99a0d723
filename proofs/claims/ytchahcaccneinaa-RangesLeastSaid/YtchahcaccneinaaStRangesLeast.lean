/- The pure statement of RangesLeast: what the evaluator's tree of it returns. -/
import Derived.Test.YtchahcaccneinaaF1
import Derived.Test.YtchahcaccneinaaOpn
namespace Go.Proofs.Ytchahcaccneinaa.St
open Go Go.RowKit Go.Proofs.Ytchahcaccneinaa.Ev Go.Proofs.Ytchahcaccneinaa.Fn
def RangesLeast : Prop := ∀ (a0 : Int) (a1_0 : Int) (a1_1 : Int) (a1_2 : Int) (a1_3 : Int) (a1_4 : Int) (a1_5 : Int) (a2 : Int), (Lit.int .i64 a0).wf = true → (Lit.int .u64 a1_0).wf = true → (Lit.int .u64 a1_1).wf = true → (Lit.int .u64 a1_2).wf = true → (Lit.int .u64 a1_3).wf = true → (Lit.int .u64 a1_4).wf = true → (Lit.int .u64 a1_5).wf = true → (Lit.int .u64 a2).wf = true → saturatelaw13_RangesLeast.f a0 (a1_0, a1_1, a1_2, a1_3, a1_4, a1_5) a2 = some true
end Go.Proofs.Ytchahcaccneinaa.St
