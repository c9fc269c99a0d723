/- The pure statement of ExecTraces: what the evaluator's tree of it returns. -/
import Derived.Test.YtkmehmlcccdnbaaDoorF11
import Derived.Test.YtkmehmlcccdnbaaDoorOpT
namespace Go.Proofs.YtkmehmlcccdnbaaDoor.St
open Go Go.RowKit Go.Proofs.YtkmehmlcccdnbaaDoor.Ev Go.Proofs.YtkmehmlcccdnbaaDoor.Fn
def ExecTraces : Prop := ∀ (a0_0 : Int) (a0_1 : Int) (n0_2 : Nat) (g0_2_0 : Nat → Int) (g0_2_1 : Nat → Int) (g0_2_2 : Nat → Int) (g0_2_3 : Nat → Int) (g0_2_4 : Nat → Int) (g0_2_5 : Nat → Int) (n0_3 : Nat) (g0_3_0 : Nat → Int) (t1 : List Tm), (Lit.int .i64 a0_0).wf = true → (Lit.int .i64 a0_1).wf = true → n0_2 * 48 ≤ reachBytes → (∀ i, (Lit.int .i64 (g0_2_0 i)).wf = true) → (∀ i, (Lit.int .i64 (g0_2_1 i)).wf = true) → (∀ i, (Lit.int .i64 (g0_2_2 i)).wf = true) → (∀ i, (Lit.int .i64 (g0_2_3 i)).wf = true) → (∀ i, (Lit.int .i64 (g0_2_4 i)).wf = true) → (∀ i, (Lit.int .u64 (g0_2_5 i)).wf = true) → n0_3 * 8 ≤ reachBytes → (∀ i, (Lit.int .i64 (g0_3_0 i)).wf = true) → t1.length * 8 ≤ reachBytes → wfW t1 → saturatelaw49_ExecTraces.f (a0_0, a0_1, (n0_2, g0_2_0, g0_2_1, g0_2_2, g0_2_3, g0_2_4, g0_2_5), (n0_3, g0_3_0)) t1 = some true
end Go.Proofs.YtkmehmlcccdnbaaDoor.St
