/- The pure statement of RangesBounds: what the evaluator's tree of it returns. -/
import Derived.Test.YtchahcaccneinaaF1
import Derived.Test.YtchahcaccneinaaOpn
namespace Go.Proofs.Ytchahcaccneinaa.St
open Go Go.RowKit Go.Proofs.Ytchahcaccneinaa.Ev Go.Proofs.Ytchahcaccneinaa.Fn
def RangesBounds : Prop := ∀ (a0 : Int) (a1_0 : Int) (a1_1 : Int) (a2_0 : Int) (a2_1 : Int), (Lit.int .i64 a0).wf = true → (Lit.int .u64 a1_0).wf = true → (Lit.int .u64 a1_1).wf = true → (Lit.int .u64 a2_0).wf = true → (Lit.int .u64 a2_1).wf = true → saturatelaw13_RangesBounds.f a0 (a1_0, a1_1) (a2_0, a2_1) = some true
end Go.Proofs.Ytchahcaccneinaa.St
