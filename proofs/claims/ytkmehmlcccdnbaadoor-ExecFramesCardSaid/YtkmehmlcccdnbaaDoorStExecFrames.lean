/- The pure statement of ExecFrames: what the evaluator's tree of it returns. -/
import Derived.Test.YtkmehmlcccdnbaaDoorF12
import Derived.Test.YtkmehmlcccdnbaaDoorOpT
namespace Go.Proofs.YtkmehmlcccdnbaaDoor.St
open Go Go.RowKit Go.Proofs.YtkmehmlcccdnbaaDoor.Ev Go.Proofs.YtkmehmlcccdnbaaDoor.Fn
def ExecFrames : Prop := ∀ (a0 : Int) (a1_0 : Int) (a1_1 : Int) (a1_2 : Int) (a1_3 : Int) (a1_4 : Int) (a1_5 : Int) (t2 : List Tm) (a3 : Int) (a4 : Int), (Lit.int .i64 a0).wf = true → (Lit.int .i64 a1_0).wf = true → (Lit.int .i64 a1_1).wf = true → (Lit.int .i64 a1_2).wf = true → (Lit.int .i64 a1_3).wf = true → (Lit.int .i64 a1_4).wf = true → (Lit.int .u64 a1_5).wf = true → t2.length * 8 ≤ reachBytes → wfW t2 → (Lit.int .i64 a3).wf = true → (Lit.int .u64 a4).wf = true → saturatelaw49_ExecFrames.f a0 (a1_0, a1_1, a1_2, a1_3, a1_4, a1_5) t2 a3 a4 = some true
end Go.Proofs.YtkmehmlcccdnbaaDoor.St
