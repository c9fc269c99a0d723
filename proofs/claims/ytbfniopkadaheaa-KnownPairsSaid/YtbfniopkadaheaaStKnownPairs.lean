/- The pure statement of KnownPairs: what the evaluator's tree of it returns. -/
import Derived.Test.YtbfniopkadaheaaF4
import Derived.Test.YtbfniopkadaheaaOpn
namespace Go.Proofs.Ytbfniopkadaheaa.St
open Go Go.RowKit Go.Proofs.Ytbfniopkadaheaa.Ev Go.Proofs.Ytbfniopkadaheaa.Fn
def KnownPairs : Prop := ∀ (a0 : Int) (a1_0 : Int) (a1_1 : Int) (a2_0 : Int) (a2_1 : Int), (Lit.int .i64 a0).wf = true → (Lit.int .u64 a1_0).wf = true → (Lit.int .u64 a1_1).wf = true → (Lit.int .u64 a2_0).wf = true → (Lit.int .u64 a2_1).wf = true → saturatelaw12_KnownPairs.f a0 (a1_0, a1_1) (a2_0, a2_1) = some true
end Go.Proofs.Ytbfniopkadaheaa.St
