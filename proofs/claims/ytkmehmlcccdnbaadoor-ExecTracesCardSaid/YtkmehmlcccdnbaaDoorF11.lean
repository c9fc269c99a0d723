/- What the functions return, as the evaluator tells it: written by a program of this workplace (mev.py); Lean checks each equation. -/
import Derived.Test.YtkmehmlcccdnbaaDoorProg
import Derived.Test.YtkmehmlcccdnbaaDoorEvC
import Derived.Test.YtkmehmlcccdnbaaDoorF0
import Derived.Test.YtkmehmlcccdnbaaDoorF1
import Derived.Test.YtkmehmlcccdnbaaDoorF2
import Derived.Test.YtkmehmlcccdnbaaDoorF3
import Derived.Test.YtkmehmlcccdnbaaDoorF4
import Derived.Test.YtkmehmlcccdnbaaDoorF7
namespace Go.Proofs.YtkmehmlcccdnbaaDoor.Fn
open Go Go.RowKit Go.Proofs.YtkmehmlcccdnbaaDoor.Ev Go.Proofs
set_option linter.unusedVariables false
set_option maxRecDepth 100000
/-! ### saturatelaw49_ExecTraces: function 8 -/
def saturatelaw49_ExecTraces.a : ACods ((Int × Int × (Nat × (Nat → Int) × (Nat → Int) × (Nat → Int) × (Nat → Int) × (Nat → Int) × (Nat → Int)) × (Nat × (Nat → Int))) × List Tm × Unit) := (.cons (.pk (.cons (.val (.int .i64)) (.cons (.val (.int .i64)) (.cons (.rows (.int .i64 (.int .i64 (.int .i64 (.int .i64 (.int .i64 (.int1 .u64))))))) (.one (.rows (.int1 .i64))))))) (.cons (.tms 0) .nil))
def saturatelaw49_ExecTraces.r : RCod (Bool) := .val (.bool)
noncomputable def saturatelaw49_ExecTraces.cs (v_saturatelaw49_live : Unit → Option (Bool)) (h_saturatelaw49_live : Con Tryd.prog 11 saturatelaw49_live.a saturatelaw49_live.r v_saturatelaw49_live) : List (Kn Tryd.prog) := [saturateref48_Check.c, Kn.of 11 saturatelaw49_live.a saturatelaw49_live.r v_saturatelaw49_live h_saturatelaw49_live.c, exec_Trace.c, saturateref49_State.c, saturateref49_Same.c, exec_Step.c, exec_Run.c]
def saturatelaw49_ExecTraces.live : Nat → Option Keep := liveOf [(17, ⟨[1, 2, 7, 8, 9], [2, 171, 172], [], [], []⟩)]
noncomputable def saturatelaw49_ExecTraces.body : Code := bodyOf Tryd.f8
noncomputable def saturatelaw49_ExecTraces.K (v_saturatelaw49_live : Unit → Option (Bool)) (h_saturatelaw49_live : Con Tryd.prog 11 saturatelaw49_live.a saturatelaw49_live.r v_saturatelaw49_live) (fu : Nat) : Code → St → (Ex → St → Option (Bool)) → Option (Bool) := codeK Tryd.prog (saturatelaw49_ExecTraces.cs v_saturatelaw49_live h_saturatelaw49_live) saturatelaw49_ExecTraces.live fu
noncomputable def saturatelaw49_ExecTraces.j8 (v_saturatelaw49_live : Unit → Option (Bool)) (h_saturatelaw49_live : Con Tryd.prog 11 saturatelaw49_live.a saturatelaw49_live.r v_saturatelaw49_live) (fu : Nat) (n8 : Nat) (x1l : List Tm) (x7l : List Tm) (x8 : Int) (x9 : Int) (c2_0 : Int) (c2_1 : Int) (c2_2n : Nat) (c2_3n : Nat) (m171 : Nat) (g171_0 : Nat → Int) (g171_1 : Nat → Int) (g171_2 : Nat → Int) (g171_3 : Nat → Int) (g171_4 : Nat → Int) (g171_5 : Nat → Int) (m172 : Nat) (g172_0 : Nat → Int) : Option Bool :=
  loopK (saturatelaw49_ExecTraces.K v_saturatelaw49_live h_saturatelaw49_live fu (sub saturatelaw49_ExecTraces.body [true, true, true, true, true, false, true, false, false])) (saturatelaw49_ExecTraces.live 17) n8 (stOfX 169 173 [(1, .tsl 0 x1l), (2, .ptr 2 0 0 0), (7, .tsl 1 x7l), (8, .val (.int .i64 x8)), (9, .val (.int .i64 x9))] [(2, .own [.val (.int .i64 c2_0), .val (.int .i64 c2_1), .sl 171 6 c2_2n, .sl 172 1 c2_3n]), (171, .ext m171 [.int .i64 g171_0, .int .i64 g171_1, .int .i64 g171_2, .int .i64 g171_3, .int .i64 g171_4, .int .u64 g171_5]), (172, .ext m172 [.int .i64 g172_0])]) (blockC 0 (seqC fu (saturatelaw49_ExecTraces.live 26) (saturatelaw49_ExecTraces.K v_saturatelaw49_live h_saturatelaw49_live fu (sub saturatelaw49_ExecTraces.body [true, true, true, true, true, true])) (retC Tryd.prog false (Tryd.f8.results) saturatelaw49_ExecTraces.r.dec)))
theorem saturatelaw49_ExecTraces.j8_succ (v_saturatelaw49_live : Unit → Option (Bool)) (h_saturatelaw49_live : Con Tryd.prog 11 saturatelaw49_live.a saturatelaw49_live.r v_saturatelaw49_live) (fu : Nat) (n8 : Nat) (x1l : List Tm) (x7l : List Tm) (x8 : Int) (x9 : Int) (c2_0 : Int) (c2_1 : Int) (c2_2n : Nat) (c2_3n : Nat) (m171 : Nat) (g171_0 : Nat → Int) (g171_1 : Nat → Int) (g171_2 : Nat → Int) (g171_3 : Nat → Int) (g171_4 : Nat → Int) (g171_5 : Nat → Int) (m172 : Nat) (g172_0 : Nat → Int) : saturatelaw49_ExecTraces.j8 v_saturatelaw49_live h_saturatelaw49_live fu (n8 + 1) x1l x7l x8 x9 c2_0 c2_1 c2_2n c2_3n m171 g171_0 g171_1 g171_2 g171_3 g171_4 g171_5 m172 g172_0 =
  bif (decide (x9 < (x7l.length : Int))) then
    bif decide (0 ≤ (IntKind.i64.wrap (x9 - 1))) then
      bif decide ((IntKind.i64.wrap (x9 - 1)) < (c2_2n : Int)) then
        bif decide (0 ≤ (IntKind.i64.wrap (x9 - 1))) then
          bif decide ((IntKind.i64.wrap (x9 - 1)) < (x7l.length : Int)) then
            ((x7l[(IntKind.i64.wrap (x9 - 1)).toNat]? : Option Tm)).bind fun u9 =>
            (exec_Step.f c2_0 ((g171_0 (IntKind.i64.wrap (x9 - 1)).toNat), (g171_1 (IntKind.i64.wrap (x9 - 1)).toNat), (g171_2 (IntKind.i64.wrap (x9 - 1)).toNat), (g171_3 (IntKind.i64.wrap (x9 - 1)).toNat), (g171_4 (IntKind.i64.wrap (x9 - 1)).toNat), (g171_5 (IntKind.i64.wrap (x9 - 1)).toNat)) u9.kids).bind fun r10 =>
            bif (r10.2 != 0) then
              some false
            else
              bif decide (0 ≤ x9) then
                bif decide (x9 < (x7l.length : Int)) then
                  ((x7l[x9.toNat]? : Option Tm)).bind fun u11 =>
                  (saturateref49_Same.f r10.1 u11.kids).bind fun r12 =>
                  bif (!r12) then
                    some false
                  else
                    saturatelaw49_ExecTraces.j8 v_saturatelaw49_live h_saturatelaw49_live fu n8 x1l x7l x8 (IntKind.i64.wrap (x9 + 1)) c2_0 c2_1 c2_2n c2_3n m171 g171_0 g171_1 g171_2 g171_3 g171_4 g171_5 m172 g172_0
                else
                  none
              else
                none
          else
            none
        else
          none
      else
        none
    else
      none
  else
    (exec_Run.f (c2_0, c2_1, (c2_2n, g171_0, g171_1, g171_2, g171_3, g171_4, g171_5), (c2_3n, g172_0)) x1l).bind fun r13 =>
    bif (x8 != r13.2.2) then
      some false
    else
      bif (x8 != 0) then
        bif (x8 != 17) then
          some false
        else
          bif (r13.2.1 != (IntKind.i64.wrap ((x7l.length : Int) - 1))) then
            some false
          else
            bif (decide (r13.2.1 ≥ (c2_2n : Int))) then
              some false
            else
              bif decide (0 ≤ r13.2.1) then
                bif decide (r13.2.1 < (c2_2n : Int)) then
                  bif decide (0 ≤ r13.2.1) then
                    bif decide (r13.2.1 < (x7l.length : Int)) then
                      ((x7l[r13.2.1.toNat]? : Option Tm)).bind fun u14 =>
                      (exec_Step.f c2_0 ((g171_0 r13.2.1.toNat), (g171_1 r13.2.1.toNat), (g171_2 r13.2.1.toNat), (g171_3 r13.2.1.toNat), (g171_4 r13.2.1.toNat), (g171_5 r13.2.1.toNat)) u14.kids).bind fun r15 =>
                      bif (r15.2 == 17) then
                        (v_saturatelaw49_live ()).bind fun r16 =>
                        some r16
                      else
                        some false
                    else
                      none
                  else
                    none
                else
                  none
              else
                none
      else
        bif ((x7l.length : Int) == (IntKind.i64.wrap ((c2_2n : Int) + 1))) then
          bif decide (0 ≤ (IntKind.i64.wrap ((x7l.length : Int) - 1))) then
            bif decide ((IntKind.i64.wrap ((x7l.length : Int) - 1)) < (x7l.length : Int)) then
              ((x7l[(IntKind.i64.wrap ((x7l.length : Int) - 1)).toNat]? : Option Tm)).bind fun u17 =>
              (saturateref49_Same.f r13.1 u17.kids).bind fun r18 =>
              bif r18 then
                (v_saturatelaw49_live ()).bind fun r19 =>
                some r19
              else
                some false
            else
              none
          else
            none
        else
          some false := by kernel_rfl
noncomputable def saturatelaw49_ExecTraces.gv (v_saturatelaw49_live : Unit → Option (Bool)) (h_saturatelaw49_live : Con Tryd.prog 11 saturatelaw49_live.a saturatelaw49_live.r v_saturatelaw49_live) (fu : Nat) (a0 : Int × Int × (Nat × (Nat → Int) × (Nat → Int) × (Nat → Int) × (Nat → Int) × (Nat → Int) × (Nat → Int)) × (Nat × (Nat → Int))) (a1 : List Tm) : Option (Bool) :=
  (saturateref48_Check.f (a0.1, a0.2.1, (a0.2.2.1.1, a0.2.2.1.2.1, a0.2.2.1.2.2.1, a0.2.2.1.2.2.2.1, a0.2.2.1.2.2.2.2.1, a0.2.2.1.2.2.2.2.2.1, a0.2.2.1.2.2.2.2.2.2), (a0.2.2.2.1, a0.2.2.2.2))).bind fun r1 =>
  bif (r1.2 != 0) then
    (v_saturatelaw49_live ()).bind fun r2 =>
    some r2
  else
    bif (decide ((a0.2.2.1.1 : Int) > 40)) then
      (v_saturatelaw49_live ()).bind fun r3 =>
      some r3
    else
      bif (decide ((a1.length : Int) > 20)) then
        (v_saturatelaw49_live ()).bind fun r4 =>
        some r4
      else
        (exec_Trace.f (a0.1, a0.2.1, (a0.2.2.1.1, a0.2.2.1.2.1, a0.2.2.1.2.2.1, a0.2.2.1.2.2.2.1, a0.2.2.1.2.2.2.2.1, a0.2.2.1.2.2.2.2.2.1, a0.2.2.1.2.2.2.2.2.2), (a0.2.2.2.1, a0.2.2.2.2)) a1).bind fun r5 =>
        bif (decide ((r5.1.length : Int) < 1)) then
          some false
        else
          bif (decide ((r5.1.length : Int) > (IntKind.i64.wrap ((a0.2.2.1.1 : Int) + 1)))) then
            some false
          else
            bif decide ((0 : Int) < (r5.1.length : Int)) then
              ((r5.1[0]? : Option Tm)).bind fun u6 =>
              (saturateref49_State.f a0.1 a0.2.1 a1).bind fun r7 =>
              (saturateref49_Same.f u6.kids r7).bind fun r8 =>
              bif (!r8) then
                some false
              else
                saturatelaw49_ExecTraces.j8 v_saturatelaw49_live h_saturatelaw49_live fu fu a1 r5.1 r5.2 1 a0.1 a0.2.1 a0.2.2.1.1 a0.2.2.2.1 a0.2.2.1.1 a0.2.2.1.2.1 a0.2.2.1.2.2.1 a0.2.2.1.2.2.2.1 a0.2.2.1.2.2.2.2.1 a0.2.2.1.2.2.2.2.2.1 a0.2.2.1.2.2.2.2.2.2 a0.2.2.2.1 a0.2.2.2.2
            else
              none
noncomputable def saturatelaw49_ExecTraces.f (a0 : Int × Int × (Nat × (Nat → Int) × (Nat → Int) × (Nat → Int) × (Nat → Int) × (Nat → Int) × (Nat → Int)) × (Nat × (Nat → Int))) (a1 : List Tm) : Option (Bool) := saturatelaw49_ExecTraces.gv (fun a => saturatelaw49_live.f) ⟨saturatelaw49_live.con⟩ (fuel0 + 1) a0 a1
theorem saturatelaw49_ExecTraces.eq (v_saturatelaw49_live : Unit → Option (Bool)) (h_saturatelaw49_live : Con Tryd.prog 11 saturatelaw49_live.a saturatelaw49_live.r v_saturatelaw49_live) (fu : Nat) (a : (Int × Int × (Nat × (Nat → Int) × (Nat → Int) × (Nat → Int) × (Nat → Int) × (Nat → Int) × (Nat → Int)) × (Nat × (Nat → Int))) × List Tm × Unit) : bodyK Tryd.prog (saturatelaw49_ExecTraces.cs v_saturatelaw49_live h_saturatelaw49_live) saturatelaw49_ExecTraces.live fu Tryd.f8 false (saturatelaw49_ExecTraces.a.enc a) saturatelaw49_ExecTraces.r.dec = saturatelaw49_ExecTraces.gv v_saturatelaw49_live h_saturatelaw49_live fu a.1 a.2.1 := by kernel_rfl
theorem saturatelaw49_ExecTraces.con : ∀ (a : (Int × Int × (Nat × (Nat → Int) × (Nat → Int) × (Nat → Int) × (Nat → Int) × (Nat → Int) × (Nat → Int)) × (Nat × (Nat → Int))) × List Tm × Unit) (r : Bool), saturatelaw49_ExecTraces.f a.1 a.2.1 = some r → Contract Tryd.prog 8 (saturatelaw49_ExecTraces.a.enc a) (saturatelaw49_ExecTraces.r.enc r) := Contract.of_body (F := fun (a : (Int × Int × (Nat × (Nat → Int) × (Nat → Int) × (Nat → Int) × (Nat → Int) × (Nat → Int) × (Nat → Int)) × (Nat × (Nat → Int))) × List Tm × Unit) => saturatelaw49_ExecTraces.f a.1 a.2.1) (fn := Tryd.f8) (cs := saturatelaw49_ExecTraces.cs (fun a => saturatelaw49_live.f) ⟨saturatelaw49_live.con⟩) (live := saturatelaw49_ExecTraces.live) (fuel := fuel0 + 1) (by kernel_rfl) (by kernel_rfl) mixed (saturatelaw49_ExecTraces.eq (fun a => saturatelaw49_live.f) ⟨saturatelaw49_live.con⟩ (fuel0 + 1))
noncomputable def saturatelaw49_ExecTraces.c : Kn Tryd.prog := Kn.of 8 saturatelaw49_ExecTraces.a saturatelaw49_ExecTraces.r (fun a => saturatelaw49_ExecTraces.f a.1 a.2.1) saturatelaw49_ExecTraces.con
end Go.Proofs.YtkmehmlcccdnbaaDoor.Fn
