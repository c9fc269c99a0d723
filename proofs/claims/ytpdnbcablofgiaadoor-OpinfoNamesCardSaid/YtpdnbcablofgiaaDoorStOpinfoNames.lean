/- The pure statement of OpinfoNames: what the evaluator's tree of it returns. -/
import Derived.Test.YtpdnbcablofgiaaDoorF0
import Derived.Test.YtpdnbcablofgiaaDoorOpn
namespace Go.Proofs.YtpdnbcablofgiaaDoor.St
open Go Go.RowKit Go.Proofs.YtpdnbcablofgiaaDoor.Ev Go.Proofs.YtpdnbcablofgiaaDoor.Fn
def OpinfoNames : Prop := ∀ (a0 : Int) (a1 : ByteArray), (Lit.int .i64 a0).wf = true → saturatelaw04_OpinfoNames.f a0 a1 = some true
end Go.Proofs.YtpdnbcablofgiaaDoor.St
