/- What the functions return, as the evaluator tells it: written by a program of this workplace (mev.py); Lean checks each equation. -/
import Derived.Test.YtkmehmlcccdnbaaDoorProg
import Derived.Test.YtkmehmlcccdnbaaDoorEvC
import Derived.Test.YtkmehmlcccdnbaaDoorF0
import Derived.Test.YtkmehmlcccdnbaaDoorF2
import Derived.Test.YtkmehmlcccdnbaaDoorF3
import Derived.Test.YtkmehmlcccdnbaaDoorF5
namespace Go.Proofs.YtkmehmlcccdnbaaDoor.Fn
open Go Go.RowKit Go.Proofs.YtkmehmlcccdnbaaDoor.Ev Go.Proofs
set_option linter.unusedVariables false
set_option maxRecDepth 100000
/-! ### saturatelaw49_ExecSteps: function 7 -/
def saturatelaw49_ExecSteps.a : ACods (Int × (Int × Int × Int × Int × Int × Int) × List Tm × Unit) := (.cons (.val (.int .i64)) (.cons (.val (.agg (.cons (.int .i64) (.cons (.int .i64) (.cons (.int .i64) (.cons (.int .i64) (.cons (.int .i64) (.one (.int .u64))))))))) (.cons (.tms 0) .nil)))
def saturatelaw49_ExecSteps.r : RCod (Bool) := .val (.bool)
noncomputable def saturatelaw49_ExecSteps.cs (v_saturatelaw49_live : Unit → Option (Bool)) (h_saturatelaw49_live : Con Tryd.prog 11 saturatelaw49_live.a saturatelaw49_live.r v_saturatelaw49_live) : List (Kn Tryd.prog) := [Kn.of 11 saturatelaw49_live.a saturatelaw49_live.r v_saturatelaw49_live h_saturatelaw49_live.c, exec_Step.c, saturateref49_Step.c, saturateref49_Same.c]
def saturatelaw49_ExecSteps.live : Nat → Option Keep := liveOf []
noncomputable def saturatelaw49_ExecSteps.body : Code := bodyOf Tryd.f7
noncomputable def saturatelaw49_ExecSteps.K (v_saturatelaw49_live : Unit → Option (Bool)) (h_saturatelaw49_live : Con Tryd.prog 11 saturatelaw49_live.a saturatelaw49_live.r v_saturatelaw49_live) (fu : Nat) : Code → St → (Ex → St → Option (Bool)) → Option (Bool) := codeK Tryd.prog (saturatelaw49_ExecSteps.cs v_saturatelaw49_live h_saturatelaw49_live) saturatelaw49_ExecSteps.live fu
noncomputable def saturatelaw49_ExecSteps.gv (v_saturatelaw49_live : Unit → Option (Bool)) (h_saturatelaw49_live : Con Tryd.prog 11 saturatelaw49_live.a saturatelaw49_live.r v_saturatelaw49_live) (fu : Nat) (a0 : Int) (a1 : Int × Int × Int × Int × Int × Int) (a2 : List Tm) : Option (Bool) :=
  bif (decide ((a2.length : Int) > 20)) then
    (v_saturatelaw49_live ()).bind fun r1 =>
    some r1
  else
    (exec_Step.f a0 (a1.1, a1.2.1, a1.2.2.1, a1.2.2.2.1, a1.2.2.2.2.1, a1.2.2.2.2.2) a2).bind fun r2 =>
    (saturateref49_Step.f a0 (a1.1, a1.2.1, a1.2.2.1, a1.2.2.2.1, a1.2.2.2.2.1, a1.2.2.2.2.2) a2).bind fun r3 =>
    (saturateref49_Same.f r2.1 r3.1).bind fun r4 =>
    bif r4 then
      bif (r2.2 == r3.2) then
        (v_saturatelaw49_live ()).bind fun r5 =>
        some r5
      else
        some false
    else
      some false
noncomputable def saturatelaw49_ExecSteps.f (a0 : Int) (a1 : Int × Int × Int × Int × Int × Int) (a2 : List Tm) : Option (Bool) := saturatelaw49_ExecSteps.gv (fun a => saturatelaw49_live.f) ⟨saturatelaw49_live.con⟩ (fuel0 + 1) a0 a1 a2
theorem saturatelaw49_ExecSteps.eq (v_saturatelaw49_live : Unit → Option (Bool)) (h_saturatelaw49_live : Con Tryd.prog 11 saturatelaw49_live.a saturatelaw49_live.r v_saturatelaw49_live) (fu : Nat) (a : Int × (Int × Int × Int × Int × Int × Int) × List Tm × Unit) : bodyK Tryd.prog (saturatelaw49_ExecSteps.cs v_saturatelaw49_live h_saturatelaw49_live) saturatelaw49_ExecSteps.live fu Tryd.f7 false (saturatelaw49_ExecSteps.a.enc a) saturatelaw49_ExecSteps.r.dec = saturatelaw49_ExecSteps.gv v_saturatelaw49_live h_saturatelaw49_live fu a.1 a.2.1 a.2.2.1 := by kernel_rfl
theorem saturatelaw49_ExecSteps.con : ∀ (a : Int × (Int × Int × Int × Int × Int × Int) × List Tm × Unit) (r : Bool), saturatelaw49_ExecSteps.f a.1 a.2.1 a.2.2.1 = some r → Contract Tryd.prog 7 (saturatelaw49_ExecSteps.a.enc a) (saturatelaw49_ExecSteps.r.enc r) := Contract.of_body (F := fun (a : Int × (Int × Int × Int × Int × Int × Int) × List Tm × Unit) => saturatelaw49_ExecSteps.f a.1 a.2.1 a.2.2.1) (fn := Tryd.f7) (cs := saturatelaw49_ExecSteps.cs (fun a => saturatelaw49_live.f) ⟨saturatelaw49_live.con⟩) (live := saturatelaw49_ExecSteps.live) (fuel := fuel0 + 1) (by kernel_rfl) (by kernel_rfl) mixed (saturatelaw49_ExecSteps.eq (fun a => saturatelaw49_live.f) ⟨saturatelaw49_live.con⟩ (fuel0 + 1))
noncomputable def saturatelaw49_ExecSteps.c : Kn Tryd.prog := Kn.of 7 saturatelaw49_ExecSteps.a saturatelaw49_ExecSteps.r (fun a => saturatelaw49_ExecSteps.f a.1 a.2.1 a.2.2.1) saturatelaw49_ExecSteps.con
end Go.Proofs.YtkmehmlcccdnbaaDoor.Fn
