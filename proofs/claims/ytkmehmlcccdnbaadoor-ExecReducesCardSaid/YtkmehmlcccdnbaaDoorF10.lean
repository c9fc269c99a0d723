/- What the functions return, as the evaluator tells it: written by a program of this workplace (mev.py); Lean checks each equation. -/
import Derived.Test.YtkmehmlcccdnbaaDoorProg
import Derived.Test.YtkmehmlcccdnbaaDoorEvC
import Derived.Test.YtkmehmlcccdnbaaDoorF0
import Derived.Test.YtkmehmlcccdnbaaDoorF1
import Derived.Test.YtkmehmlcccdnbaaDoorF2
import Derived.Test.YtkmehmlcccdnbaaDoorF4
import Derived.Test.YtkmehmlcccdnbaaDoorF7
namespace Go.Proofs.YtkmehmlcccdnbaaDoor.Fn
open Go Go.RowKit Go.Proofs.YtkmehmlcccdnbaaDoor.Ev Go.Proofs
set_option linter.unusedVariables false
set_option maxRecDepth 100000
/-! ### saturatelaw49_ExecReduces: function 4 -/
def saturatelaw49_ExecReduces.a : ACods ((Int × Int × (Nat × (Nat → Int) × (Nat → Int) × (Nat → Int) × (Nat → Int) × (Nat → Int) × (Nat → Int)) × (Nat × (Nat → Int))) × List Tm × Unit) := (.cons (.pk (.cons (.val (.int .i64)) (.cons (.val (.int .i64)) (.cons (.rows (.int .i64 (.int .i64 (.int .i64 (.int .i64 (.int .i64 (.int1 .u64))))))) (.one (.rows (.int1 .i64))))))) (.cons (.tms 0) .nil))
def saturatelaw49_ExecReduces.r : RCod (Bool) := .val (.bool)
noncomputable def saturatelaw49_ExecReduces.cs (v_saturatelaw49_live : Unit → Option (Bool)) (h_saturatelaw49_live : Con Tryd.prog 11 saturatelaw49_live.a saturatelaw49_live.r v_saturatelaw49_live) : List (Kn Tryd.prog) := [saturateref48_Check.c, Kn.of 11 saturatelaw49_live.a saturatelaw49_live.r v_saturatelaw49_live h_saturatelaw49_live.c, exec_Run.c, saturateref49_State.c, saturateref49_Same.c]
def saturatelaw49_ExecReduces.live : Nat → Option Keep := liveOf [(16, ⟨[2, 7], [2, 89, 90], [], [], []⟩)]
noncomputable def saturatelaw49_ExecReduces.body : Code := bodyOf Tryd.f4
noncomputable def saturatelaw49_ExecReduces.K (v_saturatelaw49_live : Unit → Option (Bool)) (h_saturatelaw49_live : Con Tryd.prog 11 saturatelaw49_live.a saturatelaw49_live.r v_saturatelaw49_live) (fu : Nat) : Code → St → (Ex → St → Option (Bool)) → Option (Bool) := codeK Tryd.prog (saturatelaw49_ExecReduces.cs v_saturatelaw49_live h_saturatelaw49_live) saturatelaw49_ExecReduces.live fu
noncomputable def saturatelaw49_ExecReduces.p8 (v_saturatelaw49_live : Unit → Option (Bool)) (h_saturatelaw49_live : Con Tryd.prog 11 saturatelaw49_live.a saturatelaw49_live.r v_saturatelaw49_live) (m fu : Nat) (x7l : List Tm) (c2_0 : Int) (c2_1 : Int) (c2_2n : Nat) (c2_3n : Nat) (m89 : Nat) (g89_0 : Nat → Int) (g89_1 : Nat → Int) (g89_2 : Nat → Int) (g89_3 : Nat → Int) (g89_4 : Nat → Int) (g89_5 : Nat → Int) (m90 : Nat) (g90_0 : Nat → Int) : Option Bool :=
  joinK m (saturatelaw49_ExecReduces.K v_saturatelaw49_live h_saturatelaw49_live fu (sub saturatelaw49_ExecReduces.body [true, true, true, true, true, true])) (stOfX 87 91 [(2, .ptr 2 0 0 0), (7, .tsl 0 x7l)] [(2, .own [.val (.int .i64 c2_0), .val (.int .i64 c2_1), .sl 89 6 c2_2n, .sl 90 1 c2_3n]), (89, .ext m89 [.int .i64 g89_0, .int .i64 g89_1, .int .i64 g89_2, .int .i64 g89_3, .int .i64 g89_4, .int .u64 g89_5]), (90, .ext m90 [.int .i64 g90_0])]) (retC Tryd.prog false (Tryd.f4.results) saturatelaw49_ExecReduces.r.dec)
theorem saturatelaw49_ExecReduces.p8_eq (v_saturatelaw49_live : Unit → Option (Bool)) (h_saturatelaw49_live : Con Tryd.prog 11 saturatelaw49_live.a saturatelaw49_live.r v_saturatelaw49_live) (m fu : Nat) (x7l : List Tm) (c2_0 : Int) (c2_1 : Int) (c2_2n : Nat) (c2_3n : Nat) (m89 : Nat) (g89_0 : Nat → Int) (g89_1 : Nat → Int) (g89_2 : Nat → Int) (g89_3 : Nat → Int) (g89_4 : Nat → Int) (g89_5 : Nat → Int) (m90 : Nat) (g90_0 : Nat → Int) : saturatelaw49_ExecReduces.p8 v_saturatelaw49_live h_saturatelaw49_live (m + 1) fu x7l c2_0 c2_1 c2_2n c2_3n m89 g89_0 g89_1 g89_2 g89_3 g89_4 g89_5 m90 g90_0 =
  (saturateref49_State.f c2_0 (x7l.length : Int) x7l).bind fun r9 =>
  (saturateref49_Same.f x7l r9).bind fun r10 =>
  bif r10 then
    (v_saturatelaw49_live ()).bind fun r11 =>
    some r11
  else
    some false := by kernel_rfl
noncomputable def saturatelaw49_ExecReduces.gv (v_saturatelaw49_live : Unit → Option (Bool)) (h_saturatelaw49_live : Con Tryd.prog 11 saturatelaw49_live.a saturatelaw49_live.r v_saturatelaw49_live) (fu : Nat) (a0 : Int × Int × (Nat × (Nat → Int) × (Nat → Int) × (Nat → Int) × (Nat → Int) × (Nat → Int) × (Nat → Int)) × (Nat × (Nat → Int))) (a1 : List Tm) : Option (Bool) :=
  (saturateref48_Check.f (a0.1, a0.2.1, (a0.2.2.1.1, a0.2.2.1.2.1, a0.2.2.1.2.2.1, a0.2.2.1.2.2.2.1, a0.2.2.1.2.2.2.2.1, a0.2.2.1.2.2.2.2.2.1, a0.2.2.1.2.2.2.2.2.2), (a0.2.2.2.1, a0.2.2.2.2))).bind fun r1 =>
  bif (r1.2 != 0) then
    (v_saturatelaw49_live ()).bind fun r2 =>
    some r2
  else
    bif (decide ((a0.2.2.1.1 : Int) > 40)) then
      (v_saturatelaw49_live ()).bind fun r3 =>
      some r3
    else
      bif (decide ((a1.length : Int) > 20)) then
        (v_saturatelaw49_live ()).bind fun r4 =>
        some r4
      else
        (exec_Run.f (a0.1, a0.2.1, (a0.2.2.1.1, a0.2.2.1.2.1, a0.2.2.1.2.2.1, a0.2.2.1.2.2.2.1, a0.2.2.1.2.2.2.2.1, a0.2.2.1.2.2.2.2.2.1, a0.2.2.1.2.2.2.2.2.2), (a0.2.2.2.1, a0.2.2.2.2)) a1).bind fun r5 =>
        (saturateref49_State.f a0.1 a0.2.1 a1).bind fun r6 =>
        (exec_Run.f (a0.1, a0.2.1, (a0.2.2.1.1, a0.2.2.1.2.1, a0.2.2.1.2.2.1, a0.2.2.1.2.2.2.1, a0.2.2.1.2.2.2.2.1, a0.2.2.1.2.2.2.2.2.1, a0.2.2.1.2.2.2.2.2.2), (a0.2.2.2.1, a0.2.2.2.2)) r6).bind fun r7 =>
        (saturateref49_Same.f r5.1 r7.1).bind fun r8 =>
        bif (!r8) then
          some false
        else
          bif (r5.2.1 != r7.2.1) then
            some false
          else
            bif (r5.2.2 != r7.2.2) then
              some false
            else
              bif (r5.2.2 == 0) then
                bif ((r5.1.length : Int) != a0.2.1) then
                  some false
                else
                  saturatelaw49_ExecReduces.p8 v_saturatelaw49_live h_saturatelaw49_live fu fu r5.1 a0.1 a0.2.1 a0.2.2.1.1 a0.2.2.2.1 a0.2.2.1.1 a0.2.2.1.2.1 a0.2.2.1.2.2.1 a0.2.2.1.2.2.2.1 a0.2.2.1.2.2.2.2.1 a0.2.2.1.2.2.2.2.2.1 a0.2.2.1.2.2.2.2.2.2 a0.2.2.2.1 a0.2.2.2.2
              else
                saturatelaw49_ExecReduces.p8 v_saturatelaw49_live h_saturatelaw49_live fu fu r5.1 a0.1 a0.2.1 a0.2.2.1.1 a0.2.2.2.1 a0.2.2.1.1 a0.2.2.1.2.1 a0.2.2.1.2.2.1 a0.2.2.1.2.2.2.1 a0.2.2.1.2.2.2.2.1 a0.2.2.1.2.2.2.2.2.1 a0.2.2.1.2.2.2.2.2.2 a0.2.2.2.1 a0.2.2.2.2
noncomputable def saturatelaw49_ExecReduces.f (a0 : Int × Int × (Nat × (Nat → Int) × (Nat → Int) × (Nat → Int) × (Nat → Int) × (Nat → Int) × (Nat → Int)) × (Nat × (Nat → Int))) (a1 : List Tm) : Option (Bool) := saturatelaw49_ExecReduces.gv (fun a => saturatelaw49_live.f) ⟨saturatelaw49_live.con⟩ (fuel0 + 1) a0 a1
theorem saturatelaw49_ExecReduces.eq (v_saturatelaw49_live : Unit → Option (Bool)) (h_saturatelaw49_live : Con Tryd.prog 11 saturatelaw49_live.a saturatelaw49_live.r v_saturatelaw49_live) (fu : Nat) (a : (Int × Int × (Nat × (Nat → Int) × (Nat → Int) × (Nat → Int) × (Nat → Int) × (Nat → Int) × (Nat → Int)) × (Nat × (Nat → Int))) × List Tm × Unit) : bodyK Tryd.prog (saturatelaw49_ExecReduces.cs v_saturatelaw49_live h_saturatelaw49_live) saturatelaw49_ExecReduces.live fu Tryd.f4 false (saturatelaw49_ExecReduces.a.enc a) saturatelaw49_ExecReduces.r.dec = saturatelaw49_ExecReduces.gv v_saturatelaw49_live h_saturatelaw49_live fu a.1 a.2.1 := by kernel_rfl
theorem saturatelaw49_ExecReduces.con : ∀ (a : (Int × Int × (Nat × (Nat → Int) × (Nat → Int) × (Nat → Int) × (Nat → Int) × (Nat → Int) × (Nat → Int)) × (Nat × (Nat → Int))) × List Tm × Unit) (r : Bool), saturatelaw49_ExecReduces.f a.1 a.2.1 = some r → Contract Tryd.prog 4 (saturatelaw49_ExecReduces.a.enc a) (saturatelaw49_ExecReduces.r.enc r) := Contract.of_body (F := fun (a : (Int × Int × (Nat × (Nat → Int) × (Nat → Int) × (Nat → Int) × (Nat → Int) × (Nat → Int) × (Nat → Int)) × (Nat × (Nat → Int))) × List Tm × Unit) => saturatelaw49_ExecReduces.f a.1 a.2.1) (fn := Tryd.f4) (cs := saturatelaw49_ExecReduces.cs (fun a => saturatelaw49_live.f) ⟨saturatelaw49_live.con⟩) (live := saturatelaw49_ExecReduces.live) (fuel := fuel0 + 1) (by kernel_rfl) (by kernel_rfl) mixed (saturatelaw49_ExecReduces.eq (fun a => saturatelaw49_live.f) ⟨saturatelaw49_live.con⟩ (fuel0 + 1))
noncomputable def saturatelaw49_ExecReduces.c : Kn Tryd.prog := Kn.of 4 saturatelaw49_ExecReduces.a saturatelaw49_ExecReduces.r (fun a => saturatelaw49_ExecReduces.f a.1 a.2.1) saturatelaw49_ExecReduces.con
end Go.Proofs.YtkmehmlcccdnbaaDoor.Fn
