/- What the functions return, as the evaluator tells it: written by a program of this workplace (mev.py); Lean checks each equation. -/
import Derived.Test.YtkmehmlcccdnbaaDoorProg
import Derived.Test.YtkmehmlcccdnbaaDoorEvC
import Derived.Test.YtkmehmlcccdnbaaDoorF0
import Derived.Test.YtkmehmlcccdnbaaDoorF2
import Derived.Test.YtkmehmlcccdnbaaDoorF7
namespace Go.Proofs.YtkmehmlcccdnbaaDoor.Fn
open Go Go.RowKit Go.Proofs.YtkmehmlcccdnbaaDoor.Ev Go.Proofs
set_option linter.unusedVariables false
set_option maxRecDepth 100000
/-! ### slices_Equal_uint64_uint64: function 37 -/
def slices_Equal_uint64_uint64.a : ACods (List Tm × List Tm × Unit) := (.cons (.tms 0) (.cons (.tms 0) .nil))
def slices_Equal_uint64_uint64.r : RCod (Bool) := .val (.bool)
noncomputable def slices_Equal_uint64_uint64.cs : List (Kn Tryd.prog) := []
def slices_Equal_uint64_uint64.live : Nat → Option Keep := liveOf [(9, ⟨[0, 1, 12, 13], [], [], [], []⟩)]
noncomputable def slices_Equal_uint64_uint64.body : Code := bodyOf Tryd.f37
noncomputable def slices_Equal_uint64_uint64.K (fu : Nat) : Code → St → (Ex → St → Option (Bool)) → Option (Bool) := codeK Tryd.prog (slices_Equal_uint64_uint64.cs) slices_Equal_uint64_uint64.live fu
noncomputable def slices_Equal_uint64_uint64.j4 (fu : Nat) (n4 : Nat) (x0l : List Tm) (x1l : List Tm) (x12 : Int) (x13 : Int) : Option Bool :=
  loopK (slices_Equal_uint64_uint64.K fu (sub slices_Equal_uint64_uint64.body [true, true, false, true, false, false])) (slices_Equal_uint64_uint64.live 9) n4 (stOf 26 [(0, .tsl 0 x0l), (1, .tsl 0 x1l), (12, .val (.int .i64 x12)), (13, .val (.int .i64 x13))] []) (blockC 0 (seqC fu (slices_Equal_uint64_uint64.live 18) (slices_Equal_uint64_uint64.K fu (sub slices_Equal_uint64_uint64.body [true, true, true])) (retC Tryd.prog false (Tryd.f37.results) slices_Equal_uint64_uint64.r.dec)))
theorem slices_Equal_uint64_uint64.j4_succ (fu : Nat) (n4 : Nat) (x0l : List Tm) (x1l : List Tm) (x12 : Int) (x13 : Int) : slices_Equal_uint64_uint64.j4 fu (n4 + 1) x0l x1l x12 x13 =
  bif (decide (x13 < x12)) then
    bif decide (0 ≤ x13) then
      bif decide (x13 < (x0l.length : Int)) then
        ((x0l[x13.toNat]? : Option Tm)).bind fun u1 =>
        bif decide (0 ≤ x13) then
          bif decide (x13 < (x1l.length : Int)) then
            ((x1l[x13.toNat]? : Option Tm)).bind fun u2 =>
            bif (u1.x != u2.x) then
              some false
            else
              slices_Equal_uint64_uint64.j4 fu n4 x0l x1l x12 (IntKind.i64.wrap (x13 + 1))
          else
            none
        else
          none
      else
        none
    else
      none
  else
    some true := by kernel_rfl
noncomputable def slices_Equal_uint64_uint64.g (fu : Nat) (a0 : List Tm) (a1 : List Tm) : Option (Bool) :=
  bif ((a0.length : Int) != (a1.length : Int)) then
    some false
  else
    slices_Equal_uint64_uint64.j4 fu fu a0 a1 (a0.length : Int) 0
noncomputable def slices_Equal_uint64_uint64.f (a0 : List Tm) (a1 : List Tm) : Option (Bool) := slices_Equal_uint64_uint64.g (fuel0 + 1) a0 a1
theorem slices_Equal_uint64_uint64.eq (fu : Nat) (a : List Tm × List Tm × Unit) : bodyK Tryd.prog slices_Equal_uint64_uint64.cs slices_Equal_uint64_uint64.live fu Tryd.f37 false (slices_Equal_uint64_uint64.a.enc a) slices_Equal_uint64_uint64.r.dec = slices_Equal_uint64_uint64.g fu a.1 a.2.1 := by kernel_rfl
theorem slices_Equal_uint64_uint64.con : ∀ (a : List Tm × List Tm × Unit) (r : Bool), slices_Equal_uint64_uint64.f a.1 a.2.1 = some r → Contract Tryd.prog 37 (slices_Equal_uint64_uint64.a.enc a) (slices_Equal_uint64_uint64.r.enc r) := Contract.of_body (F := fun (a : List Tm × List Tm × Unit) => slices_Equal_uint64_uint64.f a.1 a.2.1) (fn := Tryd.f37) (cs := slices_Equal_uint64_uint64.cs) (live := slices_Equal_uint64_uint64.live) (fuel := fuel0 + 1) (by kernel_rfl) (by kernel_rfl) mixed (slices_Equal_uint64_uint64.eq (fuel0 + 1))
noncomputable def slices_Equal_uint64_uint64.c : Kn Tryd.prog := Kn.of 37 slices_Equal_uint64_uint64.a slices_Equal_uint64_uint64.r (fun a => slices_Equal_uint64_uint64.f a.1 a.2.1) slices_Equal_uint64_uint64.con

/-! ### exec_Equal: function 22 -/
def exec_Equal.a : ACods ((Int × Int × (Nat × (Nat → Int) × (Nat → Int) × (Nat → Int) × (Nat → Int) × (Nat → Int) × (Nat → Int)) × (Nat × (Nat → Int))) × (Int × Int × (Nat × (Nat → Int) × (Nat → Int) × (Nat → Int) × (Nat → Int) × (Nat → Int) × (Nat → Int)) × (Nat × (Nat → Int))) × List Tm × Unit) := (.cons (.pk (.cons (.val (.int .i64)) (.cons (.val (.int .i64)) (.cons (.rows (.int .i64 (.int .i64 (.int .i64 (.int .i64 (.int .i64 (.int1 .u64))))))) (.one (.rows (.int1 .i64))))))) (.cons (.pk (.cons (.val (.int .i64)) (.cons (.val (.int .i64)) (.cons (.rows (.int .i64 (.int .i64 (.int .i64 (.int .i64 (.int .i64 (.int1 .u64))))))) (.one (.rows (.int1 .i64))))))) (.cons (.tms 0) .nil)))
def exec_Equal.r : RCod (Bool) := .val (.bool)
noncomputable def exec_Equal.cs : List (Kn Tryd.prog) := [exec_Outs.c, slices_Equal_uint64_uint64.c]
def exec_Equal.live : Nat → Option Keep := liveOf []
noncomputable def exec_Equal.body : Code := bodyOf Tryd.f22
noncomputable def exec_Equal.K (fu : Nat) : Code → St → (Ex → St → Option (Bool)) → Option (Bool) := codeK Tryd.prog (exec_Equal.cs) exec_Equal.live fu
noncomputable def exec_Equal.f (a0 : Int × Int × (Nat × (Nat → Int) × (Nat → Int) × (Nat → Int) × (Nat → Int) × (Nat → Int) × (Nat → Int)) × (Nat × (Nat → Int))) (a1 : Int × Int × (Nat × (Nat → Int) × (Nat → Int) × (Nat → Int) × (Nat → Int) × (Nat → Int) × (Nat → Int)) × (Nat × (Nat → Int))) (a2 : List Tm) : Option (Bool) :=
  (exec_Outs.f (a0.1, a0.2.1, (a0.2.2.1.1, a0.2.2.1.2.1, a0.2.2.1.2.2.1, a0.2.2.1.2.2.2.1, a0.2.2.1.2.2.2.2.1, a0.2.2.1.2.2.2.2.2.1, a0.2.2.1.2.2.2.2.2.2), (a0.2.2.2.1, a0.2.2.2.2)) a2).bind fun r1 =>
  (exec_Outs.f (a1.1, a1.2.1, (a1.2.2.1.1, a1.2.2.1.2.1, a1.2.2.1.2.2.1, a1.2.2.1.2.2.2.1, a1.2.2.1.2.2.2.2.1, a1.2.2.1.2.2.2.2.2.1, a1.2.2.1.2.2.2.2.2.2), (a1.2.2.2.1, a1.2.2.2.2)) a2).bind fun r2 =>
  bif (r1.2 == r2.2) then
    (slices_Equal_uint64_uint64.f r1.1 r2.1).bind fun r3 =>
    some r3
  else
    some false
theorem exec_Equal.eq (fu : Nat) (a : (Int × Int × (Nat × (Nat → Int) × (Nat → Int) × (Nat → Int) × (Nat → Int) × (Nat → Int) × (Nat → Int)) × (Nat × (Nat → Int))) × (Int × Int × (Nat × (Nat → Int) × (Nat → Int) × (Nat → Int) × (Nat → Int) × (Nat → Int) × (Nat → Int)) × (Nat × (Nat → Int))) × List Tm × Unit) : bodyK Tryd.prog exec_Equal.cs exec_Equal.live fu Tryd.f22 false (exec_Equal.a.enc a) exec_Equal.r.dec = exec_Equal.f a.1 a.2.1 a.2.2.1 := by kernel_rfl
theorem exec_Equal.con : ∀ (a : (Int × Int × (Nat × (Nat → Int) × (Nat → Int) × (Nat → Int) × (Nat → Int) × (Nat → Int) × (Nat → Int)) × (Nat × (Nat → Int))) × (Int × Int × (Nat × (Nat → Int) × (Nat → Int) × (Nat → Int) × (Nat → Int) × (Nat → Int) × (Nat → Int)) × (Nat × (Nat → Int))) × List Tm × Unit) (r : Bool), exec_Equal.f a.1 a.2.1 a.2.2.1 = some r → Contract Tryd.prog 22 (exec_Equal.a.enc a) (exec_Equal.r.enc r) := Contract.of_body (F := fun (a : (Int × Int × (Nat × (Nat → Int) × (Nat → Int) × (Nat → Int) × (Nat → Int) × (Nat → Int) × (Nat → Int)) × (Nat × (Nat → Int))) × (Int × Int × (Nat × (Nat → Int) × (Nat → Int) × (Nat → Int) × (Nat → Int) × (Nat → Int) × (Nat → Int)) × (Nat × (Nat → Int))) × List Tm × Unit) => exec_Equal.f a.1 a.2.1 a.2.2.1) (fn := Tryd.f22) (cs := exec_Equal.cs) (live := exec_Equal.live) (fuel := fuel0 + 1) (by kernel_rfl) (by kernel_rfl) mixed (exec_Equal.eq (fuel0 + 1))
noncomputable def exec_Equal.c : Kn Tryd.prog := Kn.of 22 exec_Equal.a exec_Equal.r (fun a => exec_Equal.f a.1 a.2.1 a.2.2.1) exec_Equal.con

/-! ### saturateref49_Equal: function 23 -/
def saturateref49_Equal.a : ACods ((Int × Int × (Nat × (Nat → Int) × (Nat → Int) × (Nat → Int) × (Nat → Int) × (Nat → Int) × (Nat → Int)) × (Nat × (Nat → Int))) × (Int × Int × (Nat × (Nat → Int) × (Nat → Int) × (Nat → Int) × (Nat → Int) × (Nat → Int) × (Nat → Int)) × (Nat × (Nat → Int))) × List Tm × Unit) := (.cons (.pk (.cons (.val (.int .i64)) (.cons (.val (.int .i64)) (.cons (.rows (.int .i64 (.int .i64 (.int .i64 (.int .i64 (.int .i64 (.int1 .u64))))))) (.one (.rows (.int1 .i64))))))) (.cons (.pk (.cons (.val (.int .i64)) (.cons (.val (.int .i64)) (.cons (.rows (.int .i64 (.int .i64 (.int .i64 (.int .i64 (.int .i64 (.int1 .u64))))))) (.one (.rows (.int1 .i64))))))) (.cons (.tms 0) .nil)))
def saturateref49_Equal.r : RCod (Bool) := .val (.bool)
noncomputable def saturateref49_Equal.cs : List (Kn Tryd.prog) := [saturateref49_Outs.c, saturateref49_Same.c]
def saturateref49_Equal.live : Nat → Option Keep := liveOf []
noncomputable def saturateref49_Equal.body : Code := bodyOf Tryd.f23
noncomputable def saturateref49_Equal.K (fu : Nat) : Code → St → (Ex → St → Option (Bool)) → Option (Bool) := codeK Tryd.prog (saturateref49_Equal.cs) saturateref49_Equal.live fu
noncomputable def saturateref49_Equal.f (a0 : Int × Int × (Nat × (Nat → Int) × (Nat → Int) × (Nat → Int) × (Nat → Int) × (Nat → Int) × (Nat → Int)) × (Nat × (Nat → Int))) (a1 : Int × Int × (Nat × (Nat → Int) × (Nat → Int) × (Nat → Int) × (Nat → Int) × (Nat → Int) × (Nat → Int)) × (Nat × (Nat → Int))) (a2 : List Tm) : Option (Bool) :=
  (saturateref49_Outs.f (a0.1, a0.2.1, (a0.2.2.1.1, a0.2.2.1.2.1, a0.2.2.1.2.2.1, a0.2.2.1.2.2.2.1, a0.2.2.1.2.2.2.2.1, a0.2.2.1.2.2.2.2.2.1, a0.2.2.1.2.2.2.2.2.2), (a0.2.2.2.1, a0.2.2.2.2)) a2).bind fun r1 =>
  (saturateref49_Outs.f (a1.1, a1.2.1, (a1.2.2.1.1, a1.2.2.1.2.1, a1.2.2.1.2.2.1, a1.2.2.1.2.2.2.1, a1.2.2.1.2.2.2.2.1, a1.2.2.1.2.2.2.2.2.1, a1.2.2.1.2.2.2.2.2.2), (a1.2.2.2.1, a1.2.2.2.2)) a2).bind fun r2 =>
  (saturateref49_Same.f r1.1 r2.1).bind fun r3 =>
  bif r3 then
    some (r1.2 == r2.2)
  else
    some false
theorem saturateref49_Equal.eq (fu : Nat) (a : (Int × Int × (Nat × (Nat → Int) × (Nat → Int) × (Nat → Int) × (Nat → Int) × (Nat → Int) × (Nat → Int)) × (Nat × (Nat → Int))) × (Int × Int × (Nat × (Nat → Int) × (Nat → Int) × (Nat → Int) × (Nat → Int) × (Nat → Int) × (Nat → Int)) × (Nat × (Nat → Int))) × List Tm × Unit) : bodyK Tryd.prog saturateref49_Equal.cs saturateref49_Equal.live fu Tryd.f23 false (saturateref49_Equal.a.enc a) saturateref49_Equal.r.dec = saturateref49_Equal.f a.1 a.2.1 a.2.2.1 := by kernel_rfl
theorem saturateref49_Equal.con : ∀ (a : (Int × Int × (Nat × (Nat → Int) × (Nat → Int) × (Nat → Int) × (Nat → Int) × (Nat → Int) × (Nat → Int)) × (Nat × (Nat → Int))) × (Int × Int × (Nat × (Nat → Int) × (Nat → Int) × (Nat → Int) × (Nat → Int) × (Nat → Int) × (Nat → Int)) × (Nat × (Nat → Int))) × List Tm × Unit) (r : Bool), saturateref49_Equal.f a.1 a.2.1 a.2.2.1 = some r → Contract Tryd.prog 23 (saturateref49_Equal.a.enc a) (saturateref49_Equal.r.enc r) := Contract.of_body (F := fun (a : (Int × Int × (Nat × (Nat → Int) × (Nat → Int) × (Nat → Int) × (Nat → Int) × (Nat → Int) × (Nat → Int)) × (Nat × (Nat → Int))) × (Int × Int × (Nat × (Nat → Int) × (Nat → Int) × (Nat → Int) × (Nat → Int) × (Nat → Int) × (Nat → Int)) × (Nat × (Nat → Int))) × List Tm × Unit) => saturateref49_Equal.f a.1 a.2.1 a.2.2.1) (fn := Tryd.f23) (cs := saturateref49_Equal.cs) (live := saturateref49_Equal.live) (fuel := fuel0 + 1) (by kernel_rfl) (by kernel_rfl) mixed (saturateref49_Equal.eq (fuel0 + 1))
noncomputable def saturateref49_Equal.c : Kn Tryd.prog := Kn.of 23 saturateref49_Equal.a saturateref49_Equal.r (fun a => saturateref49_Equal.f a.1 a.2.1 a.2.2.1) saturateref49_Equal.con

/-! ### saturatelaw49_ExecEquals: function 6 -/
def saturatelaw49_ExecEquals.a : ACods ((Int × Int × (Nat × (Nat → Int) × (Nat → Int) × (Nat → Int) × (Nat → Int) × (Nat → Int) × (Nat → Int)) × (Nat × (Nat → Int))) × (Int × Int × (Nat × (Nat → Int) × (Nat → Int) × (Nat → Int) × (Nat → Int) × (Nat → Int) × (Nat → Int)) × (Nat × (Nat → Int))) × List Tm × Unit) := (.cons (.pk (.cons (.val (.int .i64)) (.cons (.val (.int .i64)) (.cons (.rows (.int .i64 (.int .i64 (.int .i64 (.int .i64 (.int .i64 (.int1 .u64))))))) (.one (.rows (.int1 .i64))))))) (.cons (.pk (.cons (.val (.int .i64)) (.cons (.val (.int .i64)) (.cons (.rows (.int .i64 (.int .i64 (.int .i64 (.int .i64 (.int .i64 (.int1 .u64))))))) (.one (.rows (.int1 .i64))))))) (.cons (.tms 0) .nil)))
def saturatelaw49_ExecEquals.r : RCod (Bool) := .val (.bool)
noncomputable def saturatelaw49_ExecEquals.cs (v_saturatelaw49_live : Unit → Option (Bool)) (h_saturatelaw49_live : Con Tryd.prog 11 saturatelaw49_live.a saturatelaw49_live.r v_saturatelaw49_live) : List (Kn Tryd.prog) := [saturateref49_Few.c, Kn.of 11 saturatelaw49_live.a saturatelaw49_live.r v_saturatelaw49_live h_saturatelaw49_live.c, exec_Equal.c, saturateref49_Equal.c]
def saturatelaw49_ExecEquals.live : Nat → Option Keep := liveOf []
noncomputable def saturatelaw49_ExecEquals.body : Code := bodyOf Tryd.f6
noncomputable def saturatelaw49_ExecEquals.K (v_saturatelaw49_live : Unit → Option (Bool)) (h_saturatelaw49_live : Con Tryd.prog 11 saturatelaw49_live.a saturatelaw49_live.r v_saturatelaw49_live) (fu : Nat) : Code → St → (Ex → St → Option (Bool)) → Option (Bool) := codeK Tryd.prog (saturatelaw49_ExecEquals.cs v_saturatelaw49_live h_saturatelaw49_live) saturatelaw49_ExecEquals.live fu
noncomputable def saturatelaw49_ExecEquals.gv (v_saturatelaw49_live : Unit → Option (Bool)) (h_saturatelaw49_live : Con Tryd.prog 11 saturatelaw49_live.a saturatelaw49_live.r v_saturatelaw49_live) (fu : Nat) (a0 : Int × Int × (Nat × (Nat → Int) × (Nat → Int) × (Nat → Int) × (Nat → Int) × (Nat → Int) × (Nat → Int)) × (Nat × (Nat → Int))) (a1 : Int × Int × (Nat × (Nat → Int) × (Nat → Int) × (Nat → Int) × (Nat → Int) × (Nat → Int) × (Nat → Int)) × (Nat × (Nat → Int))) (a2 : List Tm) : Option (Bool) :=
  (saturateref49_Few.f (a0.1, a0.2.1, (a0.2.2.1.1, a0.2.2.1.2.1, a0.2.2.1.2.2.1, a0.2.2.1.2.2.2.1, a0.2.2.1.2.2.2.2.1, a0.2.2.1.2.2.2.2.2.1, a0.2.2.1.2.2.2.2.2.2), (a0.2.2.2.1, a0.2.2.2.2))).bind fun r1 =>
  bif (!r1) then
    (v_saturatelaw49_live ()).bind fun r2 =>
    some r2
  else
    (saturateref49_Few.f (a1.1, a1.2.1, (a1.2.2.1.1, a1.2.2.1.2.1, a1.2.2.1.2.2.1, a1.2.2.1.2.2.2.1, a1.2.2.1.2.2.2.2.1, a1.2.2.1.2.2.2.2.2.1, a1.2.2.1.2.2.2.2.2.2), (a1.2.2.2.1, a1.2.2.2.2))).bind fun r3 =>
    bif (!r3) then
      (v_saturatelaw49_live ()).bind fun r4 =>
      some r4
    else
      bif (decide ((a2.length : Int) > 20)) then
        (v_saturatelaw49_live ()).bind fun r5 =>
        some r5
      else
        (exec_Equal.f (a0.1, a0.2.1, (a0.2.2.1.1, a0.2.2.1.2.1, a0.2.2.1.2.2.1, a0.2.2.1.2.2.2.1, a0.2.2.1.2.2.2.2.1, a0.2.2.1.2.2.2.2.2.1, a0.2.2.1.2.2.2.2.2.2), (a0.2.2.2.1, a0.2.2.2.2)) (a1.1, a1.2.1, (a1.2.2.1.1, a1.2.2.1.2.1, a1.2.2.1.2.2.1, a1.2.2.1.2.2.2.1, a1.2.2.1.2.2.2.2.1, a1.2.2.1.2.2.2.2.2.1, a1.2.2.1.2.2.2.2.2.2), (a1.2.2.2.1, a1.2.2.2.2)) a2).bind fun r6 =>
        (saturateref49_Equal.f (a0.1, a0.2.1, (a0.2.2.1.1, a0.2.2.1.2.1, a0.2.2.1.2.2.1, a0.2.2.1.2.2.2.1, a0.2.2.1.2.2.2.2.1, a0.2.2.1.2.2.2.2.2.1, a0.2.2.1.2.2.2.2.2.2), (a0.2.2.2.1, a0.2.2.2.2)) (a1.1, a1.2.1, (a1.2.2.1.1, a1.2.2.1.2.1, a1.2.2.1.2.2.1, a1.2.2.1.2.2.2.1, a1.2.2.1.2.2.2.2.1, a1.2.2.1.2.2.2.2.2.1, a1.2.2.1.2.2.2.2.2.2), (a1.2.2.2.1, a1.2.2.2.2)) a2).bind fun r7 =>
        bif (r6 == r7) then
          (v_saturatelaw49_live ()).bind fun r8 =>
          some r8
        else
          some false
noncomputable def saturatelaw49_ExecEquals.f (a0 : Int × Int × (Nat × (Nat → Int) × (Nat → Int) × (Nat → Int) × (Nat → Int) × (Nat → Int) × (Nat → Int)) × (Nat × (Nat → Int))) (a1 : Int × Int × (Nat × (Nat → Int) × (Nat → Int) × (Nat → Int) × (Nat → Int) × (Nat → Int) × (Nat → Int)) × (Nat × (Nat → Int))) (a2 : List Tm) : Option (Bool) := saturatelaw49_ExecEquals.gv (fun a => saturatelaw49_live.f) ⟨saturatelaw49_live.con⟩ (fuel0 + 1) a0 a1 a2
theorem saturatelaw49_ExecEquals.eq (v_saturatelaw49_live : Unit → Option (Bool)) (h_saturatelaw49_live : Con Tryd.prog 11 saturatelaw49_live.a saturatelaw49_live.r v_saturatelaw49_live) (fu : Nat) (a : (Int × Int × (Nat × (Nat → Int) × (Nat → Int) × (Nat → Int) × (Nat → Int) × (Nat → Int) × (Nat → Int)) × (Nat × (Nat → Int))) × (Int × Int × (Nat × (Nat → Int) × (Nat → Int) × (Nat → Int) × (Nat → Int) × (Nat → Int) × (Nat → Int)) × (Nat × (Nat → Int))) × List Tm × Unit) : bodyK Tryd.prog (saturatelaw49_ExecEquals.cs v_saturatelaw49_live h_saturatelaw49_live) saturatelaw49_ExecEquals.live fu Tryd.f6 false (saturatelaw49_ExecEquals.a.enc a) saturatelaw49_ExecEquals.r.dec = saturatelaw49_ExecEquals.gv v_saturatelaw49_live h_saturatelaw49_live fu a.1 a.2.1 a.2.2.1 := by kernel_rfl
theorem saturatelaw49_ExecEquals.con : ∀ (a : (Int × Int × (Nat × (Nat → Int) × (Nat → Int) × (Nat → Int) × (Nat → Int) × (Nat → Int) × (Nat → Int)) × (Nat × (Nat → Int))) × (Int × Int × (Nat × (Nat → Int) × (Nat → Int) × (Nat → Int) × (Nat → Int) × (Nat → Int) × (Nat → Int)) × (Nat × (Nat → Int))) × List Tm × Unit) (r : Bool), saturatelaw49_ExecEquals.f a.1 a.2.1 a.2.2.1 = some r → Contract Tryd.prog 6 (saturatelaw49_ExecEquals.a.enc a) (saturatelaw49_ExecEquals.r.enc r) := Contract.of_body (F := fun (a : (Int × Int × (Nat × (Nat → Int) × (Nat → Int) × (Nat → Int) × (Nat → Int) × (Nat → Int) × (Nat → Int)) × (Nat × (Nat → Int))) × (Int × Int × (Nat × (Nat → Int) × (Nat → Int) × (Nat → Int) × (Nat → Int) × (Nat → Int) × (Nat → Int)) × (Nat × (Nat → Int))) × List Tm × Unit) => saturatelaw49_ExecEquals.f a.1 a.2.1 a.2.2.1) (fn := Tryd.f6) (cs := saturatelaw49_ExecEquals.cs (fun a => saturatelaw49_live.f) ⟨saturatelaw49_live.con⟩) (live := saturatelaw49_ExecEquals.live) (fuel := fuel0 + 1) (by kernel_rfl) (by kernel_rfl) mixed (saturatelaw49_ExecEquals.eq (fun a => saturatelaw49_live.f) ⟨saturatelaw49_live.con⟩ (fuel0 + 1))
noncomputable def saturatelaw49_ExecEquals.c : Kn Tryd.prog := Kn.of 6 saturatelaw49_ExecEquals.a saturatelaw49_ExecEquals.r (fun a => saturatelaw49_ExecEquals.f a.1 a.2.1 a.2.2.1) saturatelaw49_ExecEquals.con
end Go.Proofs.YtkmehmlcccdnbaaDoor.Fn
