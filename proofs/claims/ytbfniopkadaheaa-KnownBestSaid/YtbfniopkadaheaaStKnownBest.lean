/- The pure statement of KnownBest: what the evaluator's tree of it returns. -/
import Derived.Test.YtbfniopkadaheaaF4
import Derived.Test.YtbfniopkadaheaaOpn
namespace Go.Proofs.Ytbfniopkadaheaa.St
open Go Go.RowKit Go.Proofs.Ytbfniopkadaheaa.Ev Go.Proofs.Ytbfniopkadaheaa.Fn
def KnownBest : Prop := ∀ (a0_0 : Int) (a0_1 : Int) (a0_2 : Int) (n0_3 : Nat) (g0_3_0 : Nat → Int) (n0_4 : Nat) (g0_4_0 : Nat → Int) (g0_4_1 : Nat → Int), (Lit.int .i64 a0_0).wf = true → (Lit.int .i64 a0_1).wf = true → (Lit.int .u64 a0_2).wf = true → n0_3 * 8 ≤ reachBytes → (∀ i, (Lit.int .i64 (g0_3_0 i)).wf = true) → n0_4 * 16 ≤ reachBytes → (∀ i, (Lit.int .u64 (g0_4_0 i)).wf = true) → (∀ i, (Lit.int .u64 (g0_4_1 i)).wf = true) → saturatelaw12_KnownBest.f (a0_0, a0_1, a0_2, (n0_3, g0_3_0), (n0_4, g0_4_0, g0_4_1)) = some true
end Go.Proofs.Ytbfniopkadaheaa.St
