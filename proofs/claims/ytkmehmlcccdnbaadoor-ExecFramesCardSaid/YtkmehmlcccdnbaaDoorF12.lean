/- What the functions return, as the evaluator tells it: written by a program of this workplace (mev.py); Lean checks each equation. -/
import Derived.Test.YtkmehmlcccdnbaaDoorProg
import Derived.Test.YtkmehmlcccdnbaaDoorEvC
import Derived.Test.YtkmehmlcccdnbaaDoorF0
import Derived.Test.YtkmehmlcccdnbaaDoorF2
import Derived.Test.YtkmehmlcccdnbaaDoorF3
import Derived.Test.YtkmehmlcccdnbaaDoorF4
import Derived.Test.YtkmehmlcccdnbaaDoorF7
namespace Go.Proofs.YtkmehmlcccdnbaaDoor.Fn
open Go Go.RowKit Go.Proofs.YtkmehmlcccdnbaaDoor.Ev Go.Proofs
set_option linter.unusedVariables false
set_option maxRecDepth 100000
/-! ### saturatelaw49_ExecFrames: function 9 -/
def saturatelaw49_ExecFrames.a : ACods (Int × (Int × Int × Int × Int × Int × Int) × List Tm × Int × Int × Unit) := (.cons (.val (.int .i64)) (.cons (.val (.agg (.cons (.int .i64) (.cons (.int .i64) (.cons (.int .i64) (.cons (.int .i64) (.cons (.int .i64) (.one (.int .u64))))))))) (.cons (.tms 0) (.cons (.val (.int .i64)) (.cons (.val (.int .u64)) .nil)))))
def saturatelaw49_ExecFrames.r : RCod (Bool) := .val (.bool)
noncomputable def saturatelaw49_ExecFrames.cs (v_saturatelaw49_live : Unit → Option (Bool)) (h_saturatelaw49_live : Con Tryd.prog 11 saturatelaw49_live.a saturatelaw49_live.r v_saturatelaw49_live) : List (Kn Tryd.prog) := [Kn.of 11 saturatelaw49_live.a saturatelaw49_live.r v_saturatelaw49_live h_saturatelaw49_live.c, exec_Step.c, saturateref49_State.c, saturateref48_Def.c, saturateref48_Uses.c]
def saturatelaw49_ExecFrames.live : Nat → Option Keep := liveOf [(23, ⟨[0, 2, 3, 4, 6, 11, 13, 14, 15, 16], [6, 56], [], [], []⟩), (24, ⟨[0, 2, 3, 4, 6, 11, 13, 14, 15, 16], [6, 56], [], [], []⟩), (35, ⟨[0, 2, 3, 4, 6, 11, 14, 15, 17, 18], [6, 92], [], [], []⟩), (55, ⟨[3, 11, 14, 15, 20, 22], [], [], [], []⟩), (56, ⟨[3, 11, 14, 15, 20, 22], [], [], [], []⟩)]
noncomputable def saturatelaw49_ExecFrames.body : Code := bodyOf Tryd.f9
noncomputable def saturatelaw49_ExecFrames.K (v_saturatelaw49_live : Unit → Option (Bool)) (h_saturatelaw49_live : Con Tryd.prog 11 saturatelaw49_live.a saturatelaw49_live.r v_saturatelaw49_live) (fu : Nat) : Code → St → (Ex → St → Option (Bool)) → Option (Bool) := codeK Tryd.prog (saturatelaw49_ExecFrames.cs v_saturatelaw49_live h_saturatelaw49_live) saturatelaw49_ExecFrames.live fu
noncomputable def saturatelaw49_ExecFrames.j11 (v_saturatelaw49_live : Unit → Option (Bool)) (h_saturatelaw49_live : Con Tryd.prog 11 saturatelaw49_live.a saturatelaw49_live.r v_saturatelaw49_live) (fu : Nat) (n11 : Nat) (x0 : Int) (x2l : List Tm) (x3 : Int) (x4 : Int) (x11l : List Tm) (x13n : Nat) (x14 : Int) (x15 : Bool) (x16 : Int) (c6_0 : Int) (c6_1 : Int) (c6_2 : Int) (c6_3 : Int) (c6_4 : Int) (c6_5 : Int) (l56 : List Tm) : Option Bool :=
  loopK (saturatelaw49_ExecFrames.K v_saturatelaw49_live h_saturatelaw49_live fu (sub saturatelaw49_ExecFrames.body [true, true, true, true, true, true, true, false, true, false, false])) (saturatelaw49_ExecFrames.live 23) n11 (stOf 173 [(0, .val (.int .i64 x0)), (2, .tsl 0 x2l), (3, .val (.int .i64 x3)), (4, .val (.int .u64 x4)), (6, .ptr 6 0 0 0), (11, .tsl 0 x11l), (13, .sl 56 1 x13n), (14, .val (.int .i64 x14)), (15, .val (.bool x15)), (16, .val (.int .i64 x16))] [(6, .own [.val (.int .i64 c6_0), .val (.int .i64 c6_1), .val (.int .i64 c6_2), .val (.int .i64 c6_3), .val (.int .i64 c6_4), .val (.int .u64 c6_5)]), (56, .growK 45 0 l56)]) (blockC 0 (seqC fu (saturatelaw49_ExecFrames.live 30) (saturatelaw49_ExecFrames.K v_saturatelaw49_live h_saturatelaw49_live fu (sub saturatelaw49_ExecFrames.body [true, true, true, true, true, true, true, true])) (retC Tryd.prog false (Tryd.f9.results) saturatelaw49_ExecFrames.r.dec)))
noncomputable def saturatelaw49_ExecFrames.p12 (v_saturatelaw49_live : Unit → Option (Bool)) (h_saturatelaw49_live : Con Tryd.prog 11 saturatelaw49_live.a saturatelaw49_live.r v_saturatelaw49_live) (m fu : Nat) (n11 : Nat) (x0 : Int) (x2l : List Tm) (x3 : Int) (x4 : Int) (x11l : List Tm) (x13n : Nat) (x14 : Int) (x15 : Bool) (x16 : Int) (c6_0 : Int) (c6_1 : Int) (c6_2 : Int) (c6_3 : Int) (c6_4 : Int) (c6_5 : Int) (l56 : List Tm) : Option Bool :=
  joinK m (saturatelaw49_ExecFrames.K v_saturatelaw49_live h_saturatelaw49_live fu (sub saturatelaw49_ExecFrames.body [true, true, true, true, true, true, true, false, true, false, false, true, true])) (stOf 173 [(0, .val (.int .i64 x0)), (2, .tsl 0 x2l), (3, .val (.int .i64 x3)), (4, .val (.int .u64 x4)), (6, .ptr 6 0 0 0), (11, .tsl 0 x11l), (13, .sl 56 1 x13n), (14, .val (.int .i64 x14)), (15, .val (.bool x15)), (16, .val (.int .i64 x16))] [(6, .own [.val (.int .i64 c6_0), .val (.int .i64 c6_1), .val (.int .i64 c6_2), .val (.int .i64 c6_3), .val (.int .i64 c6_4), .val (.int .u64 c6_5)]), (56, .growK 45 0 l56)]) (roundC (saturatelaw49_ExecFrames.live 23) (loopK (saturatelaw49_ExecFrames.K v_saturatelaw49_live h_saturatelaw49_live fu (sub saturatelaw49_ExecFrames.body [true, true, true, true, true, true, true, false, true, false, false])) (saturatelaw49_ExecFrames.live 23) n11) (blockC 0 (seqC fu (saturatelaw49_ExecFrames.live 30) (saturatelaw49_ExecFrames.K v_saturatelaw49_live h_saturatelaw49_live fu (sub saturatelaw49_ExecFrames.body [true, true, true, true, true, true, true, true])) (retC Tryd.prog false (Tryd.f9.results) saturatelaw49_ExecFrames.r.dec))))
noncomputable def saturatelaw49_ExecFrames.j17 (v_saturatelaw49_live : Unit → Option (Bool)) (h_saturatelaw49_live : Con Tryd.prog 11 saturatelaw49_live.a saturatelaw49_live.r v_saturatelaw49_live) (fu : Nat) (n17 : Nat) (x0 : Int) (x2l : List Tm) (x3 : Int) (x4 : Int) (x11l : List Tm) (x14 : Int) (x15 : Bool) (x17n : Nat) (x18 : Int) (c6_0 : Int) (c6_1 : Int) (c6_2 : Int) (c6_3 : Int) (c6_4 : Int) (c6_5 : Int) (m92 : Nat) (g92_0 : Nat → Int) : Option Bool :=
  loopK (saturatelaw49_ExecFrames.K v_saturatelaw49_live h_saturatelaw49_live fu (sub saturatelaw49_ExecFrames.body [true, true, true, true, true, true, true, true, true, false, true, false, false])) (saturatelaw49_ExecFrames.live 35) n17 (stOf 173 [(0, .val (.int .i64 x0)), (2, .tsl 0 x2l), (3, .val (.int .i64 x3)), (4, .val (.int .u64 x4)), (6, .ptr 6 0 0 0), (11, .tsl 0 x11l), (14, .val (.int .i64 x14)), (15, .val (.bool x15)), (17, .sl 92 1 x17n), (18, .val (.int .i64 x18))] [(6, .own [.val (.int .i64 c6_0), .val (.int .i64 c6_1), .val (.int .i64 c6_2), .val (.int .i64 c6_3), .val (.int .i64 c6_4), .val (.int .u64 c6_5)]), (92, .ext m92 [.int .i64 g92_0])]) (blockC 2 (seqC fu (saturatelaw49_ExecFrames.live 42) (saturatelaw49_ExecFrames.K v_saturatelaw49_live h_saturatelaw49_live fu (sub saturatelaw49_ExecFrames.body [true, true, true, true, true, true, true, true, true, true])) (retC Tryd.prog false (Tryd.f9.results) saturatelaw49_ExecFrames.r.dec)))
noncomputable def saturatelaw49_ExecFrames.j27 (v_saturatelaw49_live : Unit → Option (Bool)) (h_saturatelaw49_live : Con Tryd.prog 11 saturatelaw49_live.a saturatelaw49_live.r v_saturatelaw49_live) (fu : Nat) (n27 : Nat) (x3 : Int) (x11l : List Tm) (x14 : Int) (x15 : Bool) (x20l : List Tm) (x22 : Int) : Option Bool :=
  loopK (saturatelaw49_ExecFrames.K v_saturatelaw49_live h_saturatelaw49_live fu (sub saturatelaw49_ExecFrames.body [true, true, true, true, true, true, true, true, true, true, true, true, true, true, false, true, false, false])) (saturatelaw49_ExecFrames.live 55) n27 (stOf 173 [(3, .val (.int .i64 x3)), (11, .tsl 0 x11l), (14, .val (.int .i64 x14)), (15, .val (.bool x15)), (20, .tsl 0 x20l), (22, .val (.int .i64 x22))] []) (blockC 4 (seqC fu (saturatelaw49_ExecFrames.live 62) (saturatelaw49_ExecFrames.K v_saturatelaw49_live h_saturatelaw49_live fu (sub saturatelaw49_ExecFrames.body [true, true, true, true, true, true, true, true, true, true, true, true, true, true, true])) (retC Tryd.prog false (Tryd.f9.results) saturatelaw49_ExecFrames.r.dec)))
noncomputable def saturatelaw49_ExecFrames.p28 (v_saturatelaw49_live : Unit → Option (Bool)) (h_saturatelaw49_live : Con Tryd.prog 11 saturatelaw49_live.a saturatelaw49_live.r v_saturatelaw49_live) (m fu : Nat) (n27 : Nat) (x3 : Int) (x11l : List Tm) (x14 : Int) (x15 : Bool) (x20l : List Tm) (x22 : Int) : Option Bool :=
  joinK m (saturatelaw49_ExecFrames.K v_saturatelaw49_live h_saturatelaw49_live fu (sub saturatelaw49_ExecFrames.body [true, true, true, true, true, true, true, true, true, true, true, true, true, true, false, true, false, false, true, true])) (stOf 173 [(3, .val (.int .i64 x3)), (11, .tsl 0 x11l), (14, .val (.int .i64 x14)), (15, .val (.bool x15)), (20, .tsl 0 x20l), (22, .val (.int .i64 x22))] []) (roundC (saturatelaw49_ExecFrames.live 55) (loopK (saturatelaw49_ExecFrames.K v_saturatelaw49_live h_saturatelaw49_live fu (sub saturatelaw49_ExecFrames.body [true, true, true, true, true, true, true, true, true, true, true, true, true, true, false, true, false, false])) (saturatelaw49_ExecFrames.live 55) n27) (blockC 4 (seqC fu (saturatelaw49_ExecFrames.live 62) (saturatelaw49_ExecFrames.K v_saturatelaw49_live h_saturatelaw49_live fu (sub saturatelaw49_ExecFrames.body [true, true, true, true, true, true, true, true, true, true, true, true, true, true, true])) (retC Tryd.prog false (Tryd.f9.results) saturatelaw49_ExecFrames.r.dec))))
theorem saturatelaw49_ExecFrames.p12_eq (v_saturatelaw49_live : Unit → Option (Bool)) (h_saturatelaw49_live : Con Tryd.prog 11 saturatelaw49_live.a saturatelaw49_live.r v_saturatelaw49_live) (m fu : Nat) (n11 : Nat) (x0 : Int) (x2l : List Tm) (x3 : Int) (x4 : Int) (x11l : List Tm) (x13n : Nat) (x14 : Int) (x15 : Bool) (x16 : Int) (c6_0 : Int) (c6_1 : Int) (c6_2 : Int) (c6_3 : Int) (c6_4 : Int) (c6_5 : Int) (l56 : List Tm) : saturatelaw49_ExecFrames.p12 v_saturatelaw49_live h_saturatelaw49_live (m + 1) fu n11 x0 x2l x3 x4 x11l x13n x14 x15 x16 c6_0 c6_1 c6_2 c6_3 c6_4 c6_5 l56 =
  saturatelaw49_ExecFrames.j11 v_saturatelaw49_live h_saturatelaw49_live fu n11 x0 x2l x3 x4 x11l x13n x14 x15 (IntKind.i64.wrap (x16 + 1)) c6_0 c6_1 c6_2 c6_3 c6_4 c6_5 l56 := by kernel_rfl
theorem saturatelaw49_ExecFrames.p28_eq (v_saturatelaw49_live : Unit → Option (Bool)) (h_saturatelaw49_live : Con Tryd.prog 11 saturatelaw49_live.a saturatelaw49_live.r v_saturatelaw49_live) (m fu : Nat) (n27 : Nat) (x3 : Int) (x11l : List Tm) (x14 : Int) (x15 : Bool) (x20l : List Tm) (x22 : Int) : saturatelaw49_ExecFrames.p28 v_saturatelaw49_live h_saturatelaw49_live (m + 1) fu n27 x3 x11l x14 x15 x20l x22 =
  saturatelaw49_ExecFrames.j27 v_saturatelaw49_live h_saturatelaw49_live fu n27 x3 x11l x14 x15 x20l (IntKind.i64.wrap (x22 + 1)) := by kernel_rfl
theorem saturatelaw49_ExecFrames.j27_succ (v_saturatelaw49_live : Unit → Option (Bool)) (h_saturatelaw49_live : Con Tryd.prog 11 saturatelaw49_live.a saturatelaw49_live.r v_saturatelaw49_live) (fu : Nat) (n27 : Nat) (x3 : Int) (x11l : List Tm) (x14 : Int) (x15 : Bool) (x20l : List Tm) (x22 : Int) : saturatelaw49_ExecFrames.j27 v_saturatelaw49_live h_saturatelaw49_live fu (n27 + 1) x3 x11l x14 x15 x20l x22 =
  bif (decide (x22 < (x11l.length : Int))) then
    bif (x22 != x3) then
      bif decide (0 ≤ x22) then
        bif decide (x22 < (x11l.length : Int)) then
          ((x11l[x22.toNat]? : Option Tm)).bind fun u13 =>
          bif decide (0 ≤ x22) then
            bif decide (x22 < (x20l.length : Int)) then
              ((x20l[x22.toNat]? : Option Tm)).bind fun u14 =>
              bif (u13.x != u14.x) then
                some false
              else
                bif (x22 == x3) then
                  bif x15 then
                    bif (x14 == x3) then
                      bif decide (0 ≤ x22) then
                        bif decide (x22 < (x11l.length : Int)) then
                          ((x11l[x22.toNat]? : Option Tm)).bind fun u15 =>
                          bif decide (0 ≤ x22) then
                            bif decide (x22 < (x20l.length : Int)) then
                              ((x20l[x22.toNat]? : Option Tm)).bind fun u16 =>
                              bif (u15.x != u16.x) then
                                some false
                              else
                                saturatelaw49_ExecFrames.p28 v_saturatelaw49_live h_saturatelaw49_live fu fu n27 x3 x11l x14 x15 x20l x22
                            else
                              none
                          else
                            none
                        else
                          none
                      else
                        none
                    else
                      saturatelaw49_ExecFrames.p28 v_saturatelaw49_live h_saturatelaw49_live fu fu n27 x3 x11l x14 x15 x20l x22
                  else
                    saturatelaw49_ExecFrames.p28 v_saturatelaw49_live h_saturatelaw49_live fu fu n27 x3 x11l x14 x15 x20l x22
                else
                  saturatelaw49_ExecFrames.p28 v_saturatelaw49_live h_saturatelaw49_live fu fu n27 x3 x11l x14 x15 x20l x22
            else
              none
          else
            none
        else
          none
      else
        none
    else
      bif (x22 == x3) then
        bif x15 then
          bif (x14 == x3) then
            bif decide (0 ≤ x22) then
              bif decide (x22 < (x11l.length : Int)) then
                ((x11l[x22.toNat]? : Option Tm)).bind fun u17 =>
                bif decide (0 ≤ x22) then
                  bif decide (x22 < (x20l.length : Int)) then
                    ((x20l[x22.toNat]? : Option Tm)).bind fun u18 =>
                    bif (u17.x != u18.x) then
                      some false
                    else
                      saturatelaw49_ExecFrames.p28 v_saturatelaw49_live h_saturatelaw49_live fu fu n27 x3 x11l x14 x15 x20l x22
                  else
                    none
                else
                  none
              else
                none
            else
              none
          else
            saturatelaw49_ExecFrames.p28 v_saturatelaw49_live h_saturatelaw49_live fu fu n27 x3 x11l x14 x15 x20l x22
        else
          saturatelaw49_ExecFrames.p28 v_saturatelaw49_live h_saturatelaw49_live fu fu n27 x3 x11l x14 x15 x20l x22
      else
        saturatelaw49_ExecFrames.p28 v_saturatelaw49_live h_saturatelaw49_live fu fu n27 x3 x11l x14 x15 x20l x22
  else
    (v_saturatelaw49_live ()).bind fun r19 =>
    some r19 := by kernel_rfl
theorem saturatelaw49_ExecFrames.j17_succ (v_saturatelaw49_live : Unit → Option (Bool)) (h_saturatelaw49_live : Con Tryd.prog 11 saturatelaw49_live.a saturatelaw49_live.r v_saturatelaw49_live) (fu : Nat) (n17 : Nat) (x0 : Int) (x2l : List Tm) (x3 : Int) (x4 : Int) (x11l : List Tm) (x14 : Int) (x15 : Bool) (x17n : Nat) (x18 : Int) (c6_0 : Int) (c6_1 : Int) (c6_2 : Int) (c6_3 : Int) (c6_4 : Int) (c6_5 : Int) (m92 : Nat) (g92_0 : Nat → Int) : saturatelaw49_ExecFrames.j17 v_saturatelaw49_live h_saturatelaw49_live fu (n17 + 1) x0 x2l x3 x4 x11l x14 x15 x17n x18 c6_0 c6_1 c6_2 c6_3 c6_4 c6_5 m92 g92_0 =
  bif (decide (x18 < (x17n : Int))) then
    bif decide (0 ≤ x18) then
      bif decide (x18 < (x17n : Int)) then
        bif ((g92_0 x18.toNat) == x3) then
          (v_saturatelaw49_live ()).bind fun r11 =>
          some r11
        else
          saturatelaw49_ExecFrames.j17 v_saturatelaw49_live h_saturatelaw49_live fu n17 x0 x2l x3 x4 x11l x14 x15 x17n (IntKind.i64.wrap (x18 + 1)) c6_0 c6_1 c6_2 c6_3 c6_4 c6_5 m92 g92_0
      else
        none
    else
      none
  else
    bif Nat.ble (x2l.length * 8) 140737488355328 then
      bif decide (0 ≤ x3) then
        bif decide (x3 < (x2l.length : Int)) then
          (exec_Step.f x0 (c6_0, c6_1, c6_2, c6_3, c6_4, c6_5) (x2l.set x3.toNat (Tm.mk x4 []))).bind fun r12 =>
          bif (r12.2 != 0) then
            some false
          else
            bif ((r12.1.length : Int) != (x11l.length : Int)) then
              some false
            else
              saturatelaw49_ExecFrames.j27 v_saturatelaw49_live h_saturatelaw49_live fu fu x3 x11l x14 x15 r12.1 0
        else
          none
      else
        none
    else
      none := by kernel_rfl
theorem saturatelaw49_ExecFrames.j11_succ (v_saturatelaw49_live : Unit → Option (Bool)) (h_saturatelaw49_live : Con Tryd.prog 11 saturatelaw49_live.a saturatelaw49_live.r v_saturatelaw49_live) (fu : Nat) (n11 : Nat) (x0 : Int) (x2l : List Tm) (x3 : Int) (x4 : Int) (x11l : List Tm) (x13n : Nat) (x14 : Int) (x15 : Bool) (x16 : Int) (c6_0 : Int) (c6_1 : Int) (c6_2 : Int) (c6_3 : Int) (c6_4 : Int) (c6_5 : Int) (l56 : List Tm) : saturatelaw49_ExecFrames.j11 v_saturatelaw49_live h_saturatelaw49_live fu (n11 + 1) x0 x2l x3 x4 x11l x13n x14 x15 x16 c6_0 c6_1 c6_2 c6_3 c6_4 c6_5 l56 =
  bif (decide (x16 < (x11l.length : Int))) then
    bif decide (0 ≤ x16) then
      bif decide (x16 < (x11l.length : Int)) then
        ((x11l[x16.toNat]? : Option Tm)).bind fun u8 =>
        bif decide (0 ≤ x16) then
          bif decide (x16 < (x13n : Int)) then
            ((l56[x16.toNat]? : Option Tm)).bind fun u9 =>
            bif (u8.x != u9.x) then
              bif (!x15) then
                some false
              else
                bif (x16 != x14) then
                  some false
                else
                  saturatelaw49_ExecFrames.p12 v_saturatelaw49_live h_saturatelaw49_live fu fu n11 x0 x2l x3 x4 x11l x13n x14 x15 x16 c6_0 c6_1 c6_2 c6_3 c6_4 c6_5 l56
            else
              saturatelaw49_ExecFrames.p12 v_saturatelaw49_live h_saturatelaw49_live fu fu n11 x0 x2l x3 x4 x11l x13n x14 x15 x16 c6_0 c6_1 c6_2 c6_3 c6_4 c6_5 l56
          else
            none
        else
          none
      else
        none
    else
      none
  else
    (saturateref48_Uses.f (c6_0, c6_1, c6_2, c6_3, c6_4, c6_5)).bind fun r10 =>
    saturatelaw49_ExecFrames.j17 v_saturatelaw49_live h_saturatelaw49_live fu fu x0 x2l x3 x4 x11l x14 x15 r10.1 0 c6_0 c6_1 c6_2 c6_3 c6_4 c6_5 r10.1 r10.2 := by kernel_rfl
noncomputable def saturatelaw49_ExecFrames.gv (v_saturatelaw49_live : Unit → Option (Bool)) (h_saturatelaw49_live : Con Tryd.prog 11 saturatelaw49_live.a saturatelaw49_live.r v_saturatelaw49_live) (fu : Nat) (a0 : Int) (a1 : Int × Int × Int × Int × Int × Int) (a2 : List Tm) (a3 : Int) (a4 : Int) : Option (Bool) :=
  bif (decide ((a2.length : Int) > 8)) then
    (v_saturatelaw49_live ()).bind fun r1 =>
    some r1
  else
    bif (decide (a3 < 0)) then
      (v_saturatelaw49_live ()).bind fun r2 =>
      some r2
    else
      bif (decide (a3 ≥ (a2.length : Int))) then
        (v_saturatelaw49_live ()).bind fun r3 =>
        some r3
      else
        (exec_Step.f a0 (a1.1, a1.2.1, a1.2.2.1, a1.2.2.2.1, a1.2.2.2.2.1, a1.2.2.2.2.2) a2).bind fun r4 =>
        bif (r4.2 != 0) then
          bif ((r4.1.length : Int) == 0) then
            (v_saturatelaw49_live ()).bind fun r5 =>
            some r5
          else
            some false
        else
          (saturateref49_State.f a0 (a2.length : Int) a2).bind fun r6 =>
          (saturateref48_Def.f (a1.1, a1.2.1, a1.2.2.1, a1.2.2.2.1, a1.2.2.2.2.1, a1.2.2.2.2.2)).bind fun r7 =>
          bif ((r4.1.length : Int) != (a2.length : Int)) then
            some false
          else
            saturatelaw49_ExecFrames.j11 v_saturatelaw49_live h_saturatelaw49_live fu fu a0 a2 a3 a4 r4.1 r6.length r7.1 r7.2 0 a1.1 a1.2.1 a1.2.2.1 a1.2.2.2.1 a1.2.2.2.2.1 a1.2.2.2.2.2 r6
noncomputable def saturatelaw49_ExecFrames.f (a0 : Int) (a1 : Int × Int × Int × Int × Int × Int) (a2 : List Tm) (a3 : Int) (a4 : Int) : Option (Bool) := saturatelaw49_ExecFrames.gv (fun a => saturatelaw49_live.f) ⟨saturatelaw49_live.con⟩ (fuel0 + 1) a0 a1 a2 a3 a4
theorem saturatelaw49_ExecFrames.eq (v_saturatelaw49_live : Unit → Option (Bool)) (h_saturatelaw49_live : Con Tryd.prog 11 saturatelaw49_live.a saturatelaw49_live.r v_saturatelaw49_live) (fu : Nat) (a : Int × (Int × Int × Int × Int × Int × Int) × List Tm × Int × Int × Unit) : bodyK Tryd.prog (saturatelaw49_ExecFrames.cs v_saturatelaw49_live h_saturatelaw49_live) saturatelaw49_ExecFrames.live fu Tryd.f9 false (saturatelaw49_ExecFrames.a.enc a) saturatelaw49_ExecFrames.r.dec = saturatelaw49_ExecFrames.gv v_saturatelaw49_live h_saturatelaw49_live fu a.1 a.2.1 a.2.2.1 a.2.2.2.1 a.2.2.2.2.1 := by kernel_rfl
theorem saturatelaw49_ExecFrames.con : ∀ (a : Int × (Int × Int × Int × Int × Int × Int) × List Tm × Int × Int × Unit) (r : Bool), saturatelaw49_ExecFrames.f a.1 a.2.1 a.2.2.1 a.2.2.2.1 a.2.2.2.2.1 = some r → Contract Tryd.prog 9 (saturatelaw49_ExecFrames.a.enc a) (saturatelaw49_ExecFrames.r.enc r) := Contract.of_body (F := fun (a : Int × (Int × Int × Int × Int × Int × Int) × List Tm × Int × Int × Unit) => saturatelaw49_ExecFrames.f a.1 a.2.1 a.2.2.1 a.2.2.2.1 a.2.2.2.2.1) (fn := Tryd.f9) (cs := saturatelaw49_ExecFrames.cs (fun a => saturatelaw49_live.f) ⟨saturatelaw49_live.con⟩) (live := saturatelaw49_ExecFrames.live) (fuel := fuel0 + 1) (by kernel_rfl) (by kernel_rfl) mixed (saturatelaw49_ExecFrames.eq (fun a => saturatelaw49_live.f) ⟨saturatelaw49_live.con⟩ (fuel0 + 1))
noncomputable def saturatelaw49_ExecFrames.c : Kn Tryd.prog := Kn.of 9 saturatelaw49_ExecFrames.a saturatelaw49_ExecFrames.r (fun a => saturatelaw49_ExecFrames.f a.1 a.2.1 a.2.2.1 a.2.2.2.1 a.2.2.2.2.1) saturatelaw49_ExecFrames.con
end Go.Proofs.YtkmehmlcccdnbaaDoor.Fn
