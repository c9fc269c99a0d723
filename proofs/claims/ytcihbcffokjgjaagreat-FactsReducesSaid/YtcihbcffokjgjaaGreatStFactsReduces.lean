/- The pure statement of FactsReduces: what the evaluator's tree of it returns. -/
import Derived.Test.YtcihbcffokjgjaaGreatF8
import Derived.Test.YtcihbcffokjgjaaGreatOpn
namespace Go.Proofs.YtcihbcffokjgjaaGreat.St
open Go Go.RowKit Go.Proofs.YtcihbcffokjgjaaGreat.Ev Go.Proofs.YtcihbcffokjgjaaGreat.Fn
def FactsReduces : Prop := ∀ (a0_0 : Int) (a0_1 : Int) (a0_2 : Int) (a0_3 : Int) (a0_4 : Int) (a1_0 : Int) (a1_1 : Int) (a1_2 : Int) (a1_3 : Int) (a1_4 : Int) (a2 : Int), (Lit.int .i64 a0_0).wf = true → (Lit.int .u64 a0_1).wf = true → (Lit.int .u64 a0_2).wf = true → (Lit.int .u64 a0_3).wf = true → (Lit.int .u64 a0_4).wf = true → (Lit.int .i64 a1_0).wf = true → (Lit.int .u64 a1_1).wf = true → (Lit.int .u64 a1_2).wf = true → (Lit.int .u64 a1_3).wf = true → (Lit.int .u64 a1_4).wf = true → (Lit.int .u64 a2).wf = true → saturatelaw14_FactsReduces.f (a0_0, a0_1, a0_2, a0_3, a0_4) (a1_0, a1_1, a1_2, a1_3, a1_4) a2 = some true
end Go.Proofs.YtcihbcffokjgjaaGreat.St
