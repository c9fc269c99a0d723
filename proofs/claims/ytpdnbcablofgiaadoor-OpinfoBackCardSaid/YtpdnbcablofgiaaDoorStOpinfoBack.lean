/- The pure statement of OpinfoBack: what the evaluator's tree of it returns. -/
import Derived.Test.YtpdnbcablofgiaaDoorF0
import Derived.Test.YtpdnbcablofgiaaDoorOpn
namespace Go.Proofs.YtpdnbcablofgiaaDoor.St
open Go Go.RowKit Go.Proofs.YtpdnbcablofgiaaDoor.Ev Go.Proofs.YtpdnbcablofgiaaDoor.Fn
def OpinfoBack : Prop := ∀ (a0 : Int) (a1 : Int) (a2 : ByteArray), (Lit.int .i64 a0).wf = true → (Lit.int .i64 a1).wf = true → saturatelaw04_OpinfoBack.f a0 a1 a2 = some true
end Go.Proofs.YtpdnbcablofgiaaDoor.St
