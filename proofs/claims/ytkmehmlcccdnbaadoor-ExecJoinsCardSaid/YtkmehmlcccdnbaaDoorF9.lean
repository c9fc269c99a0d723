/- What the functions return, as the evaluator tells it: written by a program of this workplace (mev.py); Lean checks each equation. -/
import Derived.Test.YtkmehmlcccdnbaaDoorProg
import Derived.Test.YtkmehmlcccdnbaaDoorEvC
import Derived.Test.YtkmehmlcccdnbaaDoorF0
import Derived.Test.YtkmehmlcccdnbaaDoorF1
import Derived.Test.YtkmehmlcccdnbaaDoorF2
import Derived.Test.YtkmehmlcccdnbaaDoorF7
namespace Go.Proofs.YtkmehmlcccdnbaaDoor.Fn
open Go Go.RowKit Go.Proofs.YtkmehmlcccdnbaaDoor.Ev Go.Proofs
set_option linter.unusedVariables false
set_option maxRecDepth 100000
/-! ### saturatelaw49_ExecJoins: function 3 -/
def saturatelaw49_ExecJoins.a : ACods ((Int × Int × (Nat × (Nat → Int) × (Nat → Int) × (Nat → Int) × (Nat → Int) × (Nat → Int) × (Nat → Int)) × (Nat × (Nat → Int))) × (Int × Int × (Nat × (Nat → Int) × (Nat → Int) × (Nat → Int) × (Nat → Int) × (Nat → Int) × (Nat → Int)) × (Nat × (Nat → Int))) × List Tm × Unit) := (.cons (.pk (.cons (.val (.int .i64)) (.cons (.val (.int .i64)) (.cons (.rows (.int .i64 (.int .i64 (.int .i64 (.int .i64 (.int .i64 (.int1 .u64))))))) (.one (.rows (.int1 .i64))))))) (.cons (.pk (.cons (.val (.int .i64)) (.cons (.val (.int .i64)) (.cons (.rows (.int .i64 (.int .i64 (.int .i64 (.int .i64 (.int .i64 (.int1 .u64))))))) (.one (.rows (.int1 .i64))))))) (.cons (.tms 0) .nil)))
def saturatelaw49_ExecJoins.r : RCod (Bool) := .val (.bool)
noncomputable def saturatelaw49_ExecJoins.cs (v_saturatelaw49_live : Unit → Option (Bool)) (h_saturatelaw49_live : Con Tryd.prog 11 saturatelaw49_live.a saturatelaw49_live.r v_saturatelaw49_live) : List (Kn Tryd.prog) := [saturateref48_Check.c, Kn.of 11 saturatelaw49_live.a saturatelaw49_live.r v_saturatelaw49_live h_saturatelaw49_live.c, exec_Run.c, saturateref49_Same.c]
def saturatelaw49_ExecJoins.live : Nat → Option Keep := liveOf []
noncomputable def saturatelaw49_ExecJoins.body : Code := bodyOf Tryd.f3
noncomputable def saturatelaw49_ExecJoins.K (v_saturatelaw49_live : Unit → Option (Bool)) (h_saturatelaw49_live : Con Tryd.prog 11 saturatelaw49_live.a saturatelaw49_live.r v_saturatelaw49_live) (fu : Nat) : Code → St → (Ex → St → Option (Bool)) → Option (Bool) := codeK Tryd.prog (saturatelaw49_ExecJoins.cs v_saturatelaw49_live h_saturatelaw49_live) saturatelaw49_ExecJoins.live fu
noncomputable def saturatelaw49_ExecJoins.gv (v_saturatelaw49_live : Unit → Option (Bool)) (h_saturatelaw49_live : Con Tryd.prog 11 saturatelaw49_live.a saturatelaw49_live.r v_saturatelaw49_live) (fu : Nat) (a0 : Int × Int × (Nat × (Nat → Int) × (Nat → Int) × (Nat → Int) × (Nat → Int) × (Nat → Int) × (Nat → Int)) × (Nat × (Nat → Int))) (a1 : Int × Int × (Nat × (Nat → Int) × (Nat → Int) × (Nat → Int) × (Nat → Int) × (Nat → Int) × (Nat → Int)) × (Nat × (Nat → Int))) (a2 : List Tm) : Option (Bool) :=
  (saturateref48_Check.f (a0.1, a0.2.1, (a0.2.2.1.1, a0.2.2.1.2.1, a0.2.2.1.2.2.1, a0.2.2.1.2.2.2.1, a0.2.2.1.2.2.2.2.1, a0.2.2.1.2.2.2.2.2.1, a0.2.2.1.2.2.2.2.2.2), (a0.2.2.2.1, a0.2.2.2.2))).bind fun r1 =>
  (saturateref48_Check.f (a1.1, a1.2.1, (a1.2.2.1.1, a1.2.2.1.2.1, a1.2.2.1.2.2.1, a1.2.2.1.2.2.2.1, a1.2.2.1.2.2.2.2.1, a1.2.2.1.2.2.2.2.2.1, a1.2.2.1.2.2.2.2.2.2), (a1.2.2.2.1, a1.2.2.2.2))).bind fun r2 =>
  bif (r1.2 != 0) then
    (v_saturatelaw49_live ()).bind fun r3 =>
    some r3
  else
    bif (r2.2 != 0) then
      (v_saturatelaw49_live ()).bind fun r4 =>
      some r4
    else
      bif (a0.1 != a1.1) then
        (v_saturatelaw49_live ()).bind fun r5 =>
        some r5
      else
        bif (a0.2.1 != a1.2.1) then
          (v_saturatelaw49_live ()).bind fun r6 =>
          some r6
        else
          bif (decide ((a0.2.2.1.1 : Int) > 40)) then
            (v_saturatelaw49_live ()).bind fun r7 =>
            some r7
          else
            bif (decide ((a1.2.2.1.1 : Int) > 40)) then
              (v_saturatelaw49_live ()).bind fun r8 =>
              some r8
            else
              bif (decide ((a2.length : Int) > 20)) then
                (v_saturatelaw49_live ()).bind fun r9 =>
                some r9
              else
                bif Nat.ble (a0.2.2.1.1 * 48) 140737488355328 then
                  bif Nat.ble ((a0.2.2.1.1 + a1.2.2.1.1) * 48) 140737488355328 then
                    (exec_Run.f (a0.1, a0.2.1, ((a0.2.2.1.1 + a1.2.2.1.1), (cat a0.2.2.1.1 a0.2.2.1.2.1 a1.2.2.1.2.1), (cat a0.2.2.1.1 a0.2.2.1.2.2.1 a1.2.2.1.2.2.1), (cat a0.2.2.1.1 a0.2.2.1.2.2.2.1 a1.2.2.1.2.2.2.1), (cat a0.2.2.1.1 a0.2.2.1.2.2.2.2.1 a1.2.2.1.2.2.2.2.1), (cat a0.2.2.1.1 a0.2.2.1.2.2.2.2.2.1 a1.2.2.1.2.2.2.2.2.1), (cat a0.2.2.1.1 a0.2.2.1.2.2.2.2.2.2 a1.2.2.1.2.2.2.2.2.2)), (a1.2.2.2.1, a1.2.2.2.2)) a2).bind fun r10 =>
                    (exec_Run.f (a0.1, a0.2.1, (a0.2.2.1.1, a0.2.2.1.2.1, a0.2.2.1.2.2.1, a0.2.2.1.2.2.2.1, a0.2.2.1.2.2.2.2.1, a0.2.2.1.2.2.2.2.2.1, a0.2.2.1.2.2.2.2.2.2), (a0.2.2.2.1, a0.2.2.2.2)) a2).bind fun r11 =>
                    bif (r11.2.2 != 0) then
                      bif ((r10.1.length : Int) == 0) then
                        bif (r10.2.1 == r11.2.1) then
                          bif (r10.2.2 == r11.2.2) then
                            (v_saturatelaw49_live ()).bind fun r12 =>
                            some r12
                          else
                            some false
                        else
                          some false
                      else
                        some false
                    else
                      (exec_Run.f (a1.1, a1.2.1, (a1.2.2.1.1, a1.2.2.1.2.1, a1.2.2.1.2.2.1, a1.2.2.1.2.2.2.1, a1.2.2.1.2.2.2.2.1, a1.2.2.1.2.2.2.2.2.1, a1.2.2.1.2.2.2.2.2.2), (a1.2.2.2.1, a1.2.2.2.2)) r11.1).bind fun r13 =>
                      bif (r13.2.2 != 0) then
                        bif ((r10.1.length : Int) == 0) then
                          bif (r10.2.1 == (IntKind.i64.wrap ((a0.2.2.1.1 : Int) + r13.2.1))) then
                            bif (r10.2.2 == r13.2.2) then
                              (v_saturatelaw49_live ()).bind fun r14 =>
                              some r14
                            else
                              some false
                          else
                            some false
                        else
                          some false
                      else
                        (saturateref49_Same.f r10.1 r13.1).bind fun r15 =>
                        bif r15 then
                          bif (r10.2.1 == 0) then
                            bif (r10.2.2 == 0) then
                              (v_saturatelaw49_live ()).bind fun r16 =>
                              some r16
                            else
                              some false
                          else
                            some false
                        else
                          some false
                  else
                    none
                else
                  none
noncomputable def saturatelaw49_ExecJoins.f (a0 : Int × Int × (Nat × (Nat → Int) × (Nat → Int) × (Nat → Int) × (Nat → Int) × (Nat → Int) × (Nat → Int)) × (Nat × (Nat → Int))) (a1 : Int × Int × (Nat × (Nat → Int) × (Nat → Int) × (Nat → Int) × (Nat → Int) × (Nat → Int) × (Nat → Int)) × (Nat × (Nat → Int))) (a2 : List Tm) : Option (Bool) := saturatelaw49_ExecJoins.gv (fun a => saturatelaw49_live.f) ⟨saturatelaw49_live.con⟩ (fuel0 + 1) a0 a1 a2
theorem saturatelaw49_ExecJoins.eq (v_saturatelaw49_live : Unit → Option (Bool)) (h_saturatelaw49_live : Con Tryd.prog 11 saturatelaw49_live.a saturatelaw49_live.r v_saturatelaw49_live) (fu : Nat) (a : (Int × Int × (Nat × (Nat → Int) × (Nat → Int) × (Nat → Int) × (Nat → Int) × (Nat → Int) × (Nat → Int)) × (Nat × (Nat → Int))) × (Int × Int × (Nat × (Nat → Int) × (Nat → Int) × (Nat → Int) × (Nat → Int) × (Nat → Int) × (Nat → Int)) × (Nat × (Nat → Int))) × List Tm × Unit) : bodyK Tryd.prog (saturatelaw49_ExecJoins.cs v_saturatelaw49_live h_saturatelaw49_live) saturatelaw49_ExecJoins.live fu Tryd.f3 false (saturatelaw49_ExecJoins.a.enc a) saturatelaw49_ExecJoins.r.dec = saturatelaw49_ExecJoins.gv v_saturatelaw49_live h_saturatelaw49_live fu a.1 a.2.1 a.2.2.1 := by kernel_rfl
theorem saturatelaw49_ExecJoins.con : ∀ (a : (Int × Int × (Nat × (Nat → Int) × (Nat → Int) × (Nat → Int) × (Nat → Int) × (Nat → Int) × (Nat → Int)) × (Nat × (Nat → Int))) × (Int × Int × (Nat × (Nat → Int) × (Nat → Int) × (Nat → Int) × (Nat → Int) × (Nat → Int) × (Nat → Int)) × (Nat × (Nat → Int))) × List Tm × Unit) (r : Bool), saturatelaw49_ExecJoins.f a.1 a.2.1 a.2.2.1 = some r → Contract Tryd.prog 3 (saturatelaw49_ExecJoins.a.enc a) (saturatelaw49_ExecJoins.r.enc r) := Contract.of_body (F := fun (a : (Int × Int × (Nat × (Nat → Int) × (Nat → Int) × (Nat → Int) × (Nat → Int) × (Nat → Int) × (Nat → Int)) × (Nat × (Nat → Int))) × (Int × Int × (Nat × (Nat → Int) × (Nat → Int) × (Nat → Int) × (Nat → Int) × (Nat → Int) × (Nat → Int)) × (Nat × (Nat → Int))) × List Tm × Unit) => saturatelaw49_ExecJoins.f a.1 a.2.1 a.2.2.1) (fn := Tryd.f3) (cs := saturatelaw49_ExecJoins.cs (fun a => saturatelaw49_live.f) ⟨saturatelaw49_live.con⟩) (live := saturatelaw49_ExecJoins.live) (fuel := fuel0 + 1) (by kernel_rfl) (by kernel_rfl) mixed (saturatelaw49_ExecJoins.eq (fun a => saturatelaw49_live.f) ⟨saturatelaw49_live.con⟩ (fuel0 + 1))
noncomputable def saturatelaw49_ExecJoins.c : Kn Tryd.prog := Kn.of 3 saturatelaw49_ExecJoins.a saturatelaw49_ExecJoins.r (fun a => saturatelaw49_ExecJoins.f a.1 a.2.1 a.2.2.1) saturatelaw49_ExecJoins.con
end Go.Proofs.YtkmehmlcccdnbaaDoor.Fn
