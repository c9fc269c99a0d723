/- The pure statement of KnownElements: what the evaluator's tree of it returns. -/
import Derived.Test.YtbfniopkadaheaaF4
import Derived.Test.YtbfniopkadaheaaOpn
namespace Go.Proofs.Ytbfniopkadaheaa.St
open Go Go.RowKit Go.Proofs.Ytbfniopkadaheaa.Ev Go.Proofs.Ytbfniopkadaheaa.Fn
def KnownElements : Prop := ∀ (a0 : Int) (a1_0 : Int) (a1_1 : Int) (a2 : Int), (Lit.int .i64 a0).wf = true → (Lit.int .u64 a1_0).wf = true → (Lit.int .u64 a1_1).wf = true → (Lit.int .u64 a2).wf = true → saturatelaw12_KnownElements.f a0 (a1_0, a1_1) a2 = some true
end Go.Proofs.Ytbfniopkadaheaa.St
