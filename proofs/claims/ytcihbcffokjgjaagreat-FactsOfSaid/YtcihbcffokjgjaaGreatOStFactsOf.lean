/- The pure statement of FactsOf: what the evaluator's tree of it returns. -/
import Derived.Test.YtcihbcffokjgjaaGreatOOpn
import Derived.Test.YtcihbcffokjgjaaGreatOOpT
namespace Go.Proofs.YtcihbcffokjgjaaGreat.St
open Go Go.RowKit Go.Proofs.YtcihbcffokjgjaaGreat.Ev Go.Proofs.YtcihbcffokjgjaaGreat.Fn
def FactsOf : Prop := ∀ (t0 : Tm), wfT t0 → saturatelaw14_FactsOf.f t0 = some true
end Go.Proofs.YtcihbcffokjgjaaGreat.St
