/- The pure statement of FactsSound: what the evaluator's tree of it returns. -/
import Derived.Test.YtcihbcffokjgjaaGreatTF14
import Derived.Test.YtcihbcffokjgjaaGreatTOpT
namespace Go.Proofs.YtcihbcffokjgjaaGreat.St
open Go Go.RowKit Go.Proofs.YtcihbcffokjgjaaGreat.Ev Go.Proofs.YtcihbcffokjgjaaGreat.Fn
def FactsSound : Prop := ∀ (t0 : Tm) (n1 : Nat) (g1_0 : Nat → ByteArray) (g1_1 : Nat → Int), wfT t0 → n1 * 24 ≤ reachBytes → (∀ i, (Lit.int .u64 (g1_1 i)).wf = true) → saturatelaw14_FactsSound.f t0 (n1, g1_0, g1_1) = some true
end Go.Proofs.YtcihbcffokjgjaaGreat.St
