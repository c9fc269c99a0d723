/- The pure statement of FactsApplySound: what the evaluator's tree of it returns. -/
import Derived.Test.YtcihbcffokjgjaaGreatSF12
import Derived.Test.YtcihbcffokjgjaaGreatSOpn
namespace Go.Proofs.YtcihbcffokjgjaaGreat.St
open Go Go.RowKit Go.Proofs.YtcihbcffokjgjaaGreat.Ev Go.Proofs.YtcihbcffokjgjaaGreat.Fn
def FactsApplySound : Prop := ∀ (a0 : Int) (a1 : Int) (a2 : Int) (n3 : Nat) (g3_0 : Nat → Int) (g3_1 : Nat → Int) (g3_2 : Nat → Int) (g3_3 : Nat → Int) (g3_4 : Nat → Int) (n4 : Nat) (g4_0 : Nat → Int), (Lit.int .i64 a0).wf = true → (Lit.int .i64 a1).wf = true → (Lit.int .u64 a2).wf = true → n3 * 40 ≤ reachBytes → (∀ i, (Lit.int .i64 (g3_0 i)).wf = true) → (∀ i, (Lit.int .u64 (g3_1 i)).wf = true) → (∀ i, (Lit.int .u64 (g3_2 i)).wf = true) → (∀ i, (Lit.int .u64 (g3_3 i)).wf = true) → (∀ i, (Lit.int .u64 (g3_4 i)).wf = true) → n4 * 8 ≤ reachBytes → (∀ i, (Lit.int .u64 (g4_0 i)).wf = true) → saturatelaw14_FactsApplySound.f a0 a1 a2 (n3, g3_0, g3_1, g3_2, g3_3, g3_4) (n4, g4_0) = some true
end Go.Proofs.YtcihbcffokjgjaaGreat.St
