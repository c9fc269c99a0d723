/- The pure statement of RangesElements: what the evaluator's tree of it returns. -/
import Derived.Test.YtchahcaccneinaaF1
import Derived.Test.YtchahcaccneinaaOpn
namespace Go.Proofs.Ytchahcaccneinaa.St
open Go Go.RowKit Go.Proofs.Ytchahcaccneinaa.Ev Go.Proofs.Ytchahcaccneinaa.Fn
def RangesElements : Prop := ∀ (a0 : Int) (a1_0 : Int) (a1_1 : Int) (a2 : Int), (Lit.int .i64 a0).wf = true → (Lit.int .u64 a1_0).wf = true → (Lit.int .u64 a1_1).wf = true → (Lit.int .u64 a2).wf = true → saturatelaw13_RangesElements.f a0 (a1_0, a1_1) a2 = some true
end Go.Proofs.Ytchahcaccneinaa.St
