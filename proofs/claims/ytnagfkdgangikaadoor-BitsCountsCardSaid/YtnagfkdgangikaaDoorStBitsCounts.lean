/- The pure statement of BitsCounts: what the evaluator's tree of it returns. -/
import Derived.Test.YtnagfkdgangikaaDoorF0
import Derived.Test.YtnagfkdgangikaaDoorOpn
namespace Go.Proofs.YtnagfkdgangikaaDoor.St
open Go Go.RowKit Go.Proofs.YtnagfkdgangikaaDoor.Ev Go.Proofs.YtnagfkdgangikaaDoor.Fn
def BitsCounts : Prop := ∀ (a0 : Int), (Lit.int .u64 a0).wf = true → saturatelaw01_BitsCounts.f a0 = some true
end Go.Proofs.YtnagfkdgangikaaDoor.St
