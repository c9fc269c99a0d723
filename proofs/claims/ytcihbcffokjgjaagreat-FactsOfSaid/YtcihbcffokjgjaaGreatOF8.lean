/- What the functions return, as the evaluator tells it: written by a program of this workplace (mev.py); Lean checks each equation. What the functions return, as the evaluator tells it: written by a program of this workplace (mev.py); Lean checks each equation. What the functions return, as the evaluator tells it: written by a program of this workplace (mev.py); Lean checks each equation. What the functions return, as the evaluator tells it: written by a program of this workplace (mev.py); Lean checks each equation. What the functions return, as the evaluator tells it: written by a program of this workplace (mev.py); Lean checks each equation. -/
import Derived.Test.YtcihbcffokjgjaaGreatProg
import Derived.Test.YtcihbcffokjgjaaGreatOEvC
import Derived.Test.YtcihbcffokjgjaaGreatOF0
import Derived.Test.YtcihbcffokjgjaaGreatOF2
import Derived.Test.YtcihbcffokjgjaaGreatOF3
import Derived.Test.YtcihbcffokjgjaaGreatOF1
namespace Go.Proofs.YtcihbcffokjgjaaGreat.Fn
open Go Go.RowKit Go.Proofs.YtcihbcffokjgjaaGreat.Ev Go.Proofs
set_option linter.unusedVariables false
set_option maxRecDepth 100000
def facts_Join.a : ACods ((Int × Int × Int × Int × Int) × (Int × Int × Int × Int × Int) × Unit) := (.cons (.val (.agg (.cons (.int .i64) (.cons (.int .u64) (.cons (.int .u64) (.cons (.int .u64) (.one (.int .u64)))))))) (.cons (.val (.agg (.cons (.int .i64) (.cons (.int .u64) (.cons (.int .u64) (.cons (.int .u64) (.one (.int .u64)))))))) .nil))
def facts_Join.r : RCod ((Int × Int × Int × Int × Int) × Int) := .val (.tup (.cons (.agg (.cons (.int .i64) (.cons (.int .u64) (.cons (.int .u64) (.cons (.int .u64) (.one (.int .u64))))))) (.one (.int .i64))))
noncomputable def facts_Join.cs : List (Kn Tryz.prog) := [facts_of.c, known_Join.c, ranges_Join.c, facts_Reduce.c]
def facts_Join.live : Nat → Option Keep := liveOf []
noncomputable def facts_Join.f (a0 : Int × Int × Int × Int × Int) (a1 : Int × Int × Int × Int × Int) : Option ((Int × Int × Int × Int × Int) × Int) :=
  (facts_of.f (a0.1, a0.2.1, a0.2.2.1, a0.2.2.2.1, a0.2.2.2.2)).bind fun r1 =>
  (facts_of.f (a1.1, a1.2.1, a1.2.2.1, a1.2.2.2.1, a1.2.2.2.2)).bind fun r2 =>
  bif (r2.1 != r1.1) then
    some ((0, 0, 0, 0, 0), 3)
  else
    (known_Join.f r1.1 (r1.2.1, r1.2.2.1) (r2.2.1, r2.2.2.1)).bind fun r3 =>
    (ranges_Join.f r1.1 (r1.2.2.2.1, r1.2.2.2.2) (r2.2.2.2.1, r2.2.2.2.2)).bind fun r4 =>
    (facts_Reduce.f (r1.1, r3.1, r3.2, r4.1, r4.2)).bind fun r5 =>
    some ((r5.1.1, r5.1.2.1, r5.1.2.2.1, r5.1.2.2.2.1, r5.1.2.2.2.2), 0)
theorem facts_Join.eq (fu : Nat) (a : (Int × Int × Int × Int × Int) × (Int × Int × Int × Int × Int) × Unit) : bodyK Tryz.prog facts_Join.cs facts_Join.live fu Tryz.f17 (facts_Join.a.enc a) facts_Join.r.dec = facts_Join.f a.1 a.2.1 := by kernel_rfl
theorem facts_Join.con : ∀ (a : (Int × Int × Int × Int × Int) × (Int × Int × Int × Int × Int) × Unit) (r : (Int × Int × Int × Int × Int) × Int), facts_Join.f a.1 a.2.1 = some r → Contract Tryz.prog 17 (facts_Join.a.enc a) (facts_Join.r.enc r) := Contract.of_body (by kernel_rfl) (by kernel_rfl) mixed (facts_Join.eq (fuel0 + 1))
def saturatelaw14_lives.a : ACods (Unit) := .nil
def saturatelaw14_lives.r : RCod (Bool) := .val (.bool)
def saturatelaw14_lives.live : Nat → Option Keep := liveOf []
noncomputable def saturatelaw14_lives.csv (v_term_Var : ByteArray × Int × Unit → Option (Tm)) (h_term_Var : Con Tryz.prog 31 term_Var.a term_Var.r v_term_Var) (v_term_Const : Int × Int × Unit → Option (Tm)) (h_term_Const : Con Tryz.prog 32 term_Const.a term_Const.r v_term_Const) (v_term_Make : Int × List Tm × Unit → Option (Tm)) (h_term_Make : Con Tryz.prog 30 term_Make.a term_Make.r v_term_Make) (v_facts_Of : Tm × Unit → Option ((Int × Int × Int × Int × Int) × Int)) (h_facts_Of : Con Tryz.prog 13 facts_Of.a facts_Of.r v_facts_Of) (v_facts_Const : Int × Int × Unit → Option (Int × Int × Int × Int × Int)) (h_facts_Const : Con Tryz.prog 33 facts_Const.a facts_Const.r v_facts_Const) (v_facts_Top : Int × Unit → Option (Int × Int × Int × Int × Int)) (h_facts_Top : Con Tryz.prog 34 facts_Top.a facts_Top.r v_facts_Top) (v_facts_Meet : (Int × Int × Int × Int × Int) × (Int × Int × Int × Int × Int) × Unit → Option ((Int × Int × Int × Int × Int) × Bool)) (h_facts_Meet : Con Tryz.prog 15 facts_Meet.a facts_Meet.r v_facts_Meet) (v_facts_Join : (Int × Int × Int × Int × Int) × (Int × Int × Int × Int × Int) × Unit → Option ((Int × Int × Int × Int × Int) × Int)) (h_facts_Join : Con Tryz.prog 17 facts_Join.a facts_Join.r v_facts_Join) (v_facts_Valid : (Int × Int × Int × Int × Int) × Unit → Option (Bool)) (h_facts_Valid : Con Tryz.prog 24 facts_Valid.a facts_Valid.r v_facts_Valid) : List (Kn Tryz.prog) := [Kn.of 31 term_Var.a term_Var.r v_term_Var h_term_Var.c, Kn.of 32 term_Const.a term_Const.r v_term_Const h_term_Const.c, Kn.of 30 term_Make.a term_Make.r v_term_Make h_term_Make.c, Kn.of 13 facts_Of.a facts_Of.r v_facts_Of h_facts_Of.c, Kn.of 33 facts_Const.a facts_Const.r v_facts_Const h_facts_Const.c, Kn.of 34 facts_Top.a facts_Top.r v_facts_Top h_facts_Top.c, Kn.of 15 facts_Meet.a facts_Meet.r v_facts_Meet h_facts_Meet.c, Kn.of 17 facts_Join.a facts_Join.r v_facts_Join h_facts_Join.c, Kn.of 24 facts_Valid.a facts_Valid.r v_facts_Valid h_facts_Valid.c]
noncomputable def saturatelaw14_lives.fv (v_term_Var : ByteArray × Int × Unit → Option (Tm)) (h_term_Var : Con Tryz.prog 31 term_Var.a term_Var.r v_term_Var) (v_term_Const : Int × Int × Unit → Option (Tm)) (h_term_Const : Con Tryz.prog 32 term_Const.a term_Const.r v_term_Const) (v_term_Make : Int × List Tm × Unit → Option (Tm)) (h_term_Make : Con Tryz.prog 30 term_Make.a term_Make.r v_term_Make) (v_facts_Of : Tm × Unit → Option ((Int × Int × Int × Int × Int) × Int)) (h_facts_Of : Con Tryz.prog 13 facts_Of.a facts_Of.r v_facts_Of) (v_facts_Const : Int × Int × Unit → Option (Int × Int × Int × Int × Int)) (h_facts_Const : Con Tryz.prog 33 facts_Const.a facts_Const.r v_facts_Const) (v_facts_Top : Int × Unit → Option (Int × Int × Int × Int × Int)) (h_facts_Top : Con Tryz.prog 34 facts_Top.a facts_Top.r v_facts_Top) (v_facts_Meet : (Int × Int × Int × Int × Int) × (Int × Int × Int × Int × Int) × Unit → Option ((Int × Int × Int × Int × Int) × Bool)) (h_facts_Meet : Con Tryz.prog 15 facts_Meet.a facts_Meet.r v_facts_Meet) (v_facts_Join : (Int × Int × Int × Int × Int) × (Int × Int × Int × Int × Int) × Unit → Option ((Int × Int × Int × Int × Int) × Int)) (h_facts_Join : Con Tryz.prog 17 facts_Join.a facts_Join.r v_facts_Join) (v_facts_Valid : (Int × Int × Int × Int × Int) × Unit → Option (Bool)) (h_facts_Valid : Con Tryz.prog 24 facts_Valid.a facts_Valid.r v_facts_Valid) : Option (Bool) :=
  (v_term_Var ((ByteArray.mk #[120]), 8, ())).bind fun r1 =>
  (v_term_Const (8, 15, ())).bind fun r2 =>
  (v_term_Make (5, ([(Tm.mk r1.op r1.width r1.val r1.name r1.kids), (Tm.mk r2.op r2.width r2.val r2.name r2.kids)]), ())).bind fun r3 =>
  (v_facts_Of ((Tm.mk r3.op r3.width r3.val r3.name r3.kids), ())).bind fun r4 =>
  (v_term_Const (8, 16, ())).bind fun r5 =>
  (v_term_Make (17, ([(Tm.mk r3.op r3.width r3.val r3.name r3.kids), (Tm.mk r5.op r5.width r5.val r5.name r5.kids)]), ())).bind fun r6 =>
  (v_facts_Of ((Tm.mk r6.op r6.width r6.val r6.name r6.kids), ())).bind fun r7 =>
  (v_facts_Of ((Tm.mk 0 0 0 (ByteArray.mk #[]) []), ())).bind fun r8 =>
  (v_facts_Const (8, 3, ())).bind fun r9 =>
  (v_facts_Top (8, ())).bind fun r10 =>
  (v_facts_Meet ((r9.1, r9.2.1, r9.2.2.1, r9.2.2.2.1, r9.2.2.2.2), (r10.1, r10.2.1, r10.2.2.1, r10.2.2.2.1, r10.2.2.2.2), ())).bind fun r11 =>
  (v_facts_Const (8, 3, ())).bind fun r12 =>
  (v_facts_Const (8, 4, ())).bind fun r13 =>
  (v_facts_Meet ((r12.1, r12.2.1, r12.2.2.1, r12.2.2.2.1, r12.2.2.2.2), (r13.1, r13.2.1, r13.2.2.1, r13.2.2.2.1, r13.2.2.2.2), ())).bind fun r14 =>
  (v_facts_Top (8, ())).bind fun r15 =>
  (v_facts_Top (4, ())).bind fun r16 =>
  (v_facts_Join ((r15.1, r15.2.1, r15.2.2.1, r15.2.2.2.1, r15.2.2.2.2), (r16.1, r16.2.1, r16.2.2.1, r16.2.2.2.1, r16.2.2.2.2), ())).bind fun r17 =>
  bif ((r4.1.1 == 8) && (((r4.1.2.1 == 240) && ((r4.1.2.2.1 == 0) && true)) && (((r4.1.2.2.2.1 == 0) && ((r4.1.2.2.2.2 == 15) && true)) && true))) then
    bif (r4.2 == 0) then
      (v_facts_Const (1, 1, ())).bind fun r18 =>
      bif ((r7.1.1 == r18.1) && (((r7.1.2.1 == r18.2.1) && ((r7.1.2.2.1 == r18.2.2.1) && true)) && (((r7.1.2.2.2.1 == r18.2.2.2.1) && ((r7.1.2.2.2.2 == r18.2.2.2.2) && true)) && true))) then
        bif (r7.2 == 0) then
          bif (r8.2 == 4) then
            (v_facts_Const (8, 3, ())).bind fun r19 =>
            bif ((r11.1.1 == r19.1) && (((r11.1.2.1 == r19.2.1) && ((r11.1.2.2.1 == r19.2.2.1) && true)) && (((r11.1.2.2.2.1 == r19.2.2.2.1) && ((r11.1.2.2.2.2 == r19.2.2.2.2) && true)) && true))) then
              bif r11.2 then
                bif (!r14.2) then
                  bif (r17.2 == 3) then
                    (v_facts_Valid ((r4.1.1, r4.1.2.1, r4.1.2.2.1, r4.1.2.2.2.1, r4.1.2.2.2.2), ())).bind fun r20 =>
                    bif r20 then
                      (v_facts_Valid ((8, 240, 0, 0, 255), ())).bind fun r21 =>
                      some (!r21)
                    else
                      some false
                  else
                    some false
                else
                  some false
              else
                some false
            else
              some false
          else
            some false
        else
          some false
      else
        some false
    else
      some false
  else
    some false
theorem saturatelaw14_lives.eqv (v_term_Var : ByteArray × Int × Unit → Option (Tm)) (h_term_Var : Con Tryz.prog 31 term_Var.a term_Var.r v_term_Var) (v_term_Const : Int × Int × Unit → Option (Tm)) (h_term_Const : Con Tryz.prog 32 term_Const.a term_Const.r v_term_Const) (v_term_Make : Int × List Tm × Unit → Option (Tm)) (h_term_Make : Con Tryz.prog 30 term_Make.a term_Make.r v_term_Make) (v_facts_Of : Tm × Unit → Option ((Int × Int × Int × Int × Int) × Int)) (h_facts_Of : Con Tryz.prog 13 facts_Of.a facts_Of.r v_facts_Of) (v_facts_Const : Int × Int × Unit → Option (Int × Int × Int × Int × Int)) (h_facts_Const : Con Tryz.prog 33 facts_Const.a facts_Const.r v_facts_Const) (v_facts_Top : Int × Unit → Option (Int × Int × Int × Int × Int)) (h_facts_Top : Con Tryz.prog 34 facts_Top.a facts_Top.r v_facts_Top) (v_facts_Meet : (Int × Int × Int × Int × Int) × (Int × Int × Int × Int × Int) × Unit → Option ((Int × Int × Int × Int × Int) × Bool)) (h_facts_Meet : Con Tryz.prog 15 facts_Meet.a facts_Meet.r v_facts_Meet) (v_facts_Join : (Int × Int × Int × Int × Int) × (Int × Int × Int × Int × Int) × Unit → Option ((Int × Int × Int × Int × Int) × Int)) (h_facts_Join : Con Tryz.prog 17 facts_Join.a facts_Join.r v_facts_Join) (v_facts_Valid : (Int × Int × Int × Int × Int) × Unit → Option (Bool)) (h_facts_Valid : Con Tryz.prog 24 facts_Valid.a facts_Valid.r v_facts_Valid) (fu : Nat) (a : Unit) : bodyK Tryz.prog (saturatelaw14_lives.csv v_term_Var h_term_Var v_term_Const h_term_Const v_term_Make h_term_Make v_facts_Of h_facts_Of v_facts_Const h_facts_Const v_facts_Top h_facts_Top v_facts_Meet h_facts_Meet v_facts_Join h_facts_Join v_facts_Valid h_facts_Valid) saturatelaw14_lives.live fu Tryz.f9 (saturatelaw14_lives.a.enc a) saturatelaw14_lives.r.dec = saturatelaw14_lives.fv v_term_Var h_term_Var v_term_Const h_term_Const v_term_Make h_term_Make v_facts_Of h_facts_Of v_facts_Const h_facts_Const v_facts_Top h_facts_Top v_facts_Meet h_facts_Meet v_facts_Join h_facts_Join v_facts_Valid h_facts_Valid := by kernel_rfl
noncomputable def saturatelaw14_lives.f : Option (Bool) := saturatelaw14_lives.fv (fun a => term_Var.f a.1 a.2.1) ⟨term_Var.con⟩ (fun a => term_Const.f a.1 a.2.1) ⟨term_Const.con⟩ (fun a => term_Make.f a.1 a.2.1) ⟨term_Make.con⟩ (fun a => facts_Of.f a.1) ⟨facts_Of.con⟩ (fun a => facts_Const.f a.1 a.2.1) ⟨facts_Const.con⟩ (fun a => facts_Top.f a.1) ⟨facts_Top.con⟩ (fun a => facts_Meet.f a.1 a.2.1) ⟨facts_Meet.con⟩ (fun a => facts_Join.f a.1 a.2.1) ⟨facts_Join.con⟩ (fun a => facts_Valid.f a.1) ⟨facts_Valid.con⟩
theorem saturatelaw14_lives.con : ∀ (a : Unit) (r : Bool), saturatelaw14_lives.f = some r → Contract Tryz.prog 9 (saturatelaw14_lives.a.enc a) (saturatelaw14_lives.r.enc r) := Contract.of_body (by kernel_rfl) (by kernel_rfl) mixed (saturatelaw14_lives.eqv (fun a => term_Var.f a.1 a.2.1) ⟨term_Var.con⟩ (fun a => term_Const.f a.1 a.2.1) ⟨term_Const.con⟩ (fun a => term_Make.f a.1 a.2.1) ⟨term_Make.con⟩ (fun a => facts_Of.f a.1) ⟨facts_Of.con⟩ (fun a => facts_Const.f a.1 a.2.1) ⟨facts_Const.con⟩ (fun a => facts_Top.f a.1) ⟨facts_Top.con⟩ (fun a => facts_Meet.f a.1 a.2.1) ⟨facts_Meet.con⟩ (fun a => facts_Join.f a.1 a.2.1) ⟨facts_Join.con⟩ (fun a => facts_Valid.f a.1) ⟨facts_Valid.con⟩ (fuel0 + 1))
end Go.Proofs.YtcihbcffokjgjaaGreat.Fn
namespace Go.Proofs.YtcihbcffokjgjaaGreat.Fn
open Go Go.RowKit Go.Proofs.YtcihbcffokjgjaaGreat.Ev Go.Proofs
set_option linter.unusedVariables false
set_option maxRecDepth 100000
end Go.Proofs.YtcihbcffokjgjaaGreat.Fn
namespace Go.Proofs.YtcihbcffokjgjaaGreat.Fn
open Go Go.RowKit Go.Proofs.YtcihbcffokjgjaaGreat.Ev Go.Proofs
set_option linter.unusedVariables false
set_option maxRecDepth 100000
def saturateref01_W.a : ACods (Int × Unit) := (.cons (.val (.int .i64)) .nil)
def saturateref01_W.r : RCod (Int) := .val (.int .i64)
noncomputable def saturateref01_W.cs : List (Kn Tryz.prog) := []
def saturateref01_W.live : Nat → Option Keep := liveOf []
noncomputable def saturateref01_W.f (a0 : Int) : Option (Int) :=
  some (mn (mx a0 1) 64)
theorem saturateref01_W.eq (fu : Nat) (a : Int × Unit) : bodyK Tryz.prog saturateref01_W.cs saturateref01_W.live fu Tryz.f22 (saturateref01_W.a.enc a) saturateref01_W.r.dec = saturateref01_W.f a.1 := by kernel_rfl
theorem saturateref01_W.con : ∀ (a : Int × Unit) (r : Int), saturateref01_W.f a.1 = some r → Contract Tryz.prog 22 (saturateref01_W.a.enc a) (saturateref01_W.r.enc r) := Contract.of_body (by kernel_rfl) (by kernel_rfl) mixed (saturateref01_W.eq (fuel0 + 1))
noncomputable def saturateref01_W.c : Kn Tryz.prog := Kn.of 22 saturateref01_W.a saturateref01_W.r (fun a => saturateref01_W.f a.1) saturateref01_W.con
def saturateref01_Mask.a : ACods (Int × Unit) := (.cons (.val (.int .i64)) .nil)
def saturateref01_Mask.r : RCod (Int) := .val (.int .u64)
noncomputable def saturateref01_Mask.cs : List (Kn Tryz.prog) := [saturateref01_W.c]
def saturateref01_Mask.live : Nat → Option Keep := liveOf [(7, ⟨[3, 5, 6], [], [], [], []⟩)]
noncomputable def saturateref01_Mask.body : Code := bodyOf Tryz.f106
noncomputable def saturateref01_Mask.K (fu : Nat) : Code → St → (Ex → St → Option (Int)) → Option (Int) := codeK Tryz.prog (saturateref01_Mask.cs) saturateref01_Mask.live fu
noncomputable def saturateref01_Mask.j3 (fu n3 : Nat) (x3 x5 x6 : Int) : Option Int :=
  loopK (saturateref01_Mask.K fu (sub saturateref01_Mask.body [true, true, false, true, false, false])) (saturateref01_Mask.live 7) n3 (stOf 13 [(3, .val (.int .u64 x3)), (5, .val (.int .i64 x5)), (6, .val (.int .i64 x6))] []) (blockC 0 (seqC fu (saturateref01_Mask.live 12) (saturateref01_Mask.K fu (sub saturateref01_Mask.body [true, true, true])) (retC Tryz.prog Tryz.f106.results saturateref01_Mask.r.dec)))
theorem saturateref01_Mask.j3_succ (fu n3 : Nat) (x3 x5 x6 : Int) : saturateref01_Mask.j3 fu (n3 + 1) x3 x5 x6 =
  bif (decide (x6 < x5)) then
    saturateref01_Mask.j3 fu n3 (IntKind.u64.wrap ((IntKind.u64.wrap (x3 * 2)) + 1)) x5 (IntKind.i64.wrap (x6 + 1))
  else
    some x3 := by kernel_rfl
noncomputable def saturateref01_Mask.g (fu : Nat) (a0 : Int) : Option (Int) :=
  (saturateref01_W.f a0).bind fun r1 =>
  saturateref01_Mask.j3 fu fu 0 r1 0
noncomputable def saturateref01_Mask.f (a0 : Int) : Option (Int) := saturateref01_Mask.g (fuel0 + 1) a0
theorem saturateref01_Mask.eq (fu : Nat) (a : Int × Unit) : bodyK Tryz.prog saturateref01_Mask.cs saturateref01_Mask.live fu Tryz.f106 (saturateref01_Mask.a.enc a) saturateref01_Mask.r.dec = saturateref01_Mask.g fu a.1 := by kernel_rfl
theorem saturateref01_Mask.con : ∀ (a : Int × Unit) (r : Int), saturateref01_Mask.f a.1 = some r → Contract Tryz.prog 106 (saturateref01_Mask.a.enc a) (saturateref01_Mask.r.enc r) := Contract.of_body (by kernel_rfl) (by kernel_rfl) mixed (saturateref01_Mask.eq (fuel0 + 1))
noncomputable def saturateref01_Mask.c : Kn Tryz.prog := Kn.of 106 saturateref01_Mask.a saturateref01_Mask.r (fun a => saturateref01_Mask.f a.1) saturateref01_Mask.con
def saturateref12_Valid.a : ACods (Int × (Int × Int) × Unit) := (.cons (.val (.int .i64)) (.cons (.val (.agg (.cons (.int .u64) (.one (.int .u64))))) .nil))
def saturateref12_Valid.r : RCod (Bool) := .val (.bool)
noncomputable def saturateref12_Valid.cs : List (Kn Tryz.prog) := [saturateref01_Mask.c]
def saturateref12_Valid.live : Nat → Option Keep := liveOf []
noncomputable def saturateref12_Valid.f (a0 : Int) (a1 : Int × Int) : Option (Bool) :=
  bif ((Go.bits .and .u64 a1.1 a1.2) == 0) then
    (saturateref01_Mask.f a0).bind fun r1 =>
    bif (decide (a1.1 ≤ r1)) then
      (saturateref01_Mask.f a0).bind fun r2 =>
      some (decide (a1.2 ≤ r2))
    else
      some false
  else
    some false
theorem saturateref12_Valid.eq (fu : Nat) (a : Int × (Int × Int) × Unit) : bodyK Tryz.prog saturateref12_Valid.cs saturateref12_Valid.live fu Tryz.f133 (saturateref12_Valid.a.enc a) saturateref12_Valid.r.dec = saturateref12_Valid.f a.1 a.2.1 := by kernel_rfl
theorem saturateref12_Valid.con : ∀ (a : Int × (Int × Int) × Unit) (r : Bool), saturateref12_Valid.f a.1 a.2.1 = some r → Contract Tryz.prog 133 (saturateref12_Valid.a.enc a) (saturateref12_Valid.r.enc r) := Contract.of_body (by kernel_rfl) (by kernel_rfl) mixed (saturateref12_Valid.eq (fuel0 + 1))
noncomputable def saturateref12_Valid.c : Kn Tryz.prog := Kn.of 133 saturateref12_Valid.a saturateref12_Valid.r (fun a => saturateref12_Valid.f a.1 a.2.1) saturateref12_Valid.con
def saturateref13_Valid.a : ACods (Int × (Int × Int) × Unit) := (.cons (.val (.int .i64)) (.cons (.val (.agg (.cons (.int .u64) (.one (.int .u64))))) .nil))
def saturateref13_Valid.r : RCod (Bool) := .val (.bool)
noncomputable def saturateref13_Valid.cs : List (Kn Tryz.prog) := [saturateref01_Mask.c]
def saturateref13_Valid.live : Nat → Option Keep := liveOf []
noncomputable def saturateref13_Valid.f (a0 : Int) (a1 : Int × Int) : Option (Bool) :=
  bif (decide (a1.1 ≤ a1.2)) then
    (saturateref01_Mask.f a0).bind fun r1 =>
    some (decide (a1.2 ≤ r1))
  else
    some false
theorem saturateref13_Valid.eq (fu : Nat) (a : Int × (Int × Int) × Unit) : bodyK Tryz.prog saturateref13_Valid.cs saturateref13_Valid.live fu Tryz.f135 (saturateref13_Valid.a.enc a) saturateref13_Valid.r.dec = saturateref13_Valid.f a.1 a.2.1 := by kernel_rfl
theorem saturateref13_Valid.con : ∀ (a : Int × (Int × Int) × Unit) (r : Bool), saturateref13_Valid.f a.1 a.2.1 = some r → Contract Tryz.prog 135 (saturateref13_Valid.a.enc a) (saturateref13_Valid.r.enc r) := Contract.of_body (by kernel_rfl) (by kernel_rfl) mixed (saturateref13_Valid.eq (fuel0 + 1))
noncomputable def saturateref13_Valid.c : Kn Tryz.prog := Kn.of 135 saturateref13_Valid.a saturateref13_Valid.r (fun a => saturateref13_Valid.f a.1 a.2.1) saturateref13_Valid.con
def saturateref13_Top.a : ACods (Int × Unit) := (.cons (.val (.int .i64)) .nil)
def saturateref13_Top.r : RCod (Int × Int) := .val (.agg (.cons (.int .u64) (.one (.int .u64))))
noncomputable def saturateref13_Top.cs : List (Kn Tryz.prog) := [saturateref01_Mask.c]
def saturateref13_Top.live : Nat → Option Keep := liveOf []
noncomputable def saturateref13_Top.f (a0 : Int) : Option (Int × Int) :=
  (saturateref01_Mask.f a0).bind fun r1 =>
  some (0, r1)
theorem saturateref13_Top.eq (fu : Nat) (a : Int × Unit) : bodyK Tryz.prog saturateref13_Top.cs saturateref13_Top.live fu Tryz.f107 (saturateref13_Top.a.enc a) saturateref13_Top.r.dec = saturateref13_Top.f a.1 := by kernel_rfl
theorem saturateref13_Top.con : ∀ (a : Int × Unit) (r : Int × Int), saturateref13_Top.f a.1 = some r → Contract Tryz.prog 107 (saturateref13_Top.a.enc a) (saturateref13_Top.r.enc r) := Contract.of_body (by kernel_rfl) (by kernel_rfl) mixed (saturateref13_Top.eq (fuel0 + 1))
noncomputable def saturateref13_Top.c : Kn Tryz.prog := Kn.of 107 saturateref13_Top.a saturateref13_Top.r (fun a => saturateref13_Top.f a.1) saturateref13_Top.con
def saturateref13_Of.a : ACods (Int × (Int × Int) × Unit) := (.cons (.val (.int .i64)) (.cons (.val (.agg (.cons (.int .u64) (.one (.int .u64))))) .nil))
def saturateref13_Of.r : RCod (Int × Int) := .val (.agg (.cons (.int .u64) (.one (.int .u64))))
noncomputable def saturateref13_Of.cs : List (Kn Tryz.prog) := [saturateref13_Valid.c, saturateref13_Top.c]
def saturateref13_Of.live : Nat → Option Keep := liveOf []
noncomputable def saturateref13_Of.f (a0 : Int) (a1 : Int × Int) : Option (Int × Int) :=
  (saturateref13_Valid.f a0 (a1.1, a1.2)).bind fun r1 =>
  bif r1 then
    some (a1.1, a1.2)
  else
    (saturateref13_Top.f a0).bind fun r2 =>
    some (r2.1, r2.2)
theorem saturateref13_Of.eq (fu : Nat) (a : Int × (Int × Int) × Unit) : bodyK Tryz.prog saturateref13_Of.cs saturateref13_Of.live fu Tryz.f76 (saturateref13_Of.a.enc a) saturateref13_Of.r.dec = saturateref13_Of.f a.1 a.2.1 := by kernel_rfl
theorem saturateref13_Of.con : ∀ (a : Int × (Int × Int) × Unit) (r : Int × Int), saturateref13_Of.f a.1 a.2.1 = some r → Contract Tryz.prog 76 (saturateref13_Of.a.enc a) (saturateref13_Of.r.enc r) := Contract.of_body (by kernel_rfl) (by kernel_rfl) mixed (saturateref13_Of.eq (fuel0 + 1))
noncomputable def saturateref13_Of.c : Kn Tryz.prog := Kn.of 76 saturateref13_Of.a saturateref13_Of.r (fun a => saturateref13_Of.f a.1 a.2.1) saturateref13_Of.con
def saturateref13_Meet.a : ACods (Int × (Int × Int) × (Int × Int) × Unit) := (.cons (.val (.int .i64)) (.cons (.val (.agg (.cons (.int .u64) (.one (.int .u64))))) (.cons (.val (.agg (.cons (.int .u64) (.one (.int .u64))))) .nil)))
def saturateref13_Meet.r : RCod ((Int × Int) × Bool) := .val (.tup (.cons (.agg (.cons (.int .u64) (.one (.int .u64)))) (.one (.bool))))
noncomputable def saturateref13_Meet.cs : List (Kn Tryz.prog) := [saturateref13_Of.c, saturateref13_Top.c]
def saturateref13_Meet.live : Nat → Option Keep := liveOf []
noncomputable def saturateref13_Meet.f (a0 : Int) (a1 : Int × Int) (a2 : Int × Int) : Option ((Int × Int) × Bool) :=
  (saturateref13_Of.f a0 (a1.1, a1.2)).bind fun r1 =>
  (saturateref13_Of.f a0 (a2.1, a2.2)).bind fun r2 =>
  bif (decide ((mx r1.1 r2.1) > (mn r1.2 r2.2))) then
    (saturateref13_Top.f a0).bind fun r3 =>
    some ((r3.1, r3.2), false)
  else
    some (((mx r1.1 r2.1), (mn r1.2 r2.2)), true)
theorem saturateref13_Meet.eq (fu : Nat) (a : Int × (Int × Int) × (Int × Int) × Unit) : bodyK Tryz.prog saturateref13_Meet.cs saturateref13_Meet.live fu Tryz.f53 (saturateref13_Meet.a.enc a) saturateref13_Meet.r.dec = saturateref13_Meet.f a.1 a.2.1 a.2.2.1 := by kernel_rfl
theorem saturateref13_Meet.con : ∀ (a : Int × (Int × Int) × (Int × Int) × Unit) (r : (Int × Int) × Bool), saturateref13_Meet.f a.1 a.2.1 a.2.2.1 = some r → Contract Tryz.prog 53 (saturateref13_Meet.a.enc a) (saturateref13_Meet.r.enc r) := Contract.of_body (by kernel_rfl) (by kernel_rfl) mixed (saturateref13_Meet.eq (fuel0 + 1))
noncomputable def saturateref13_Meet.c : Kn Tryz.prog := Kn.of 53 saturateref13_Meet.a saturateref13_Meet.r (fun a => saturateref13_Meet.f a.1 a.2.1 a.2.2.1) saturateref13_Meet.con
def saturateref12_Top.a : ACods (Unit) := .nil
def saturateref12_Top.r : RCod (Int × Int) := .val (.agg (.cons (.int .u64) (.one (.int .u64))))
noncomputable def saturateref12_Top.cs : List (Kn Tryz.prog) := []
def saturateref12_Top.live : Nat → Option Keep := liveOf []
noncomputable def saturateref12_Top.f : Option (Int × Int) :=
  some (0, 0)
theorem saturateref12_Top.eq (fu : Nat) (a : Unit) : bodyK Tryz.prog saturateref12_Top.cs saturateref12_Top.live fu Tryz.f99 (saturateref12_Top.a.enc a) saturateref12_Top.r.dec = saturateref12_Top.f := by kernel_rfl
theorem saturateref12_Top.con : ∀ (a : Unit) (r : Int × Int), saturateref12_Top.f = some r → Contract Tryz.prog 99 (saturateref12_Top.a.enc a) (saturateref12_Top.r.enc r) := Contract.of_body (by kernel_rfl) (by kernel_rfl) mixed (saturateref12_Top.eq (fuel0 + 1))
noncomputable def saturateref12_Top.c : Kn Tryz.prog := Kn.of 99 saturateref12_Top.a saturateref12_Top.r (fun a => saturateref12_Top.f) saturateref12_Top.con
def saturateref01_Bit.a : ACods (Int × Int × Unit) := (.cons (.val (.int .u64)) (.cons (.val (.int .i64)) .nil))
def saturateref01_Bit.r : RCod (Int) := .val (.int .u64)
noncomputable def saturateref01_Bit.cs : List (Kn Tryz.prog) := []
def saturateref01_Bit.live : Nat → Option Keep := liveOf []
noncomputable def saturateref01_Bit.f (a0 a1 : Int) : Option (Int) :=
  bif (decide (a1 < 0)) then
    some 0
  else
    bif (decide (a1 > 63)) then
      some 0
    else
      bif decide ((IntKind.u64.wrap a1) < 0) then
        none
      else
        some (Go.bits .and .u64 (shr .u64 a0 (IntKind.u64.wrap a1)) 1)
theorem saturateref01_Bit.eq (fu : Nat) (a : Int × Int × Unit) : bodyK Tryz.prog saturateref01_Bit.cs saturateref01_Bit.live fu Tryz.f134 (saturateref01_Bit.a.enc a) saturateref01_Bit.r.dec = saturateref01_Bit.f a.1 a.2.1 := by kernel_rfl
theorem saturateref01_Bit.con : ∀ (a : Int × Int × Unit) (r : Int), saturateref01_Bit.f a.1 a.2.1 = some r → Contract Tryz.prog 134 (saturateref01_Bit.a.enc a) (saturateref01_Bit.r.enc r) := Contract.of_body (by kernel_rfl) (by kernel_rfl) mixed (saturateref01_Bit.eq (fuel0 + 1))
noncomputable def saturateref01_Bit.c : Kn Tryz.prog := Kn.of 134 saturateref01_Bit.a saturateref01_Bit.r (fun a => saturateref01_Bit.f a.1 a.2.1) saturateref01_Bit.con
def saturateref14_prefix.a : ACods (Int × (Int × Int) × Unit) := (.cons (.val (.int .i64)) (.cons (.val (.agg (.cons (.int .u64) (.one (.int .u64))))) .nil))
def saturateref14_prefix.r : RCod (Int × Int) := .val (.agg (.cons (.int .u64) (.one (.int .u64))))
noncomputable def saturateref14_prefix.cs : List (Kn Tryz.prog) := [saturateref12_Top.c, saturateref01_Bit.c]
def saturateref14_prefix.live : Nat → Option Keep := liveOf [(7, ⟨[3, 4, 5, 6], [3, 4, 5], [], [], []⟩), (8, ⟨[3, 4, 5, 6], [3, 4, 5], [], [], []⟩), (16, ⟨[4, 5], [4, 5], [], [], []⟩)]
noncomputable def saturateref14_prefix.body : Code := bodyOf Tryz.f181
noncomputable def saturateref14_prefix.K (fu : Nat) : Code → St → (Ex → St → Option (Int × Int)) → Option (Int × Int) := codeK Tryz.prog (saturateref14_prefix.cs) saturateref14_prefix.live fu
noncomputable def saturateref14_prefix.j3 (fu n3 : Nat) (x6 c3_0 c3_1 c4_0 c4_1 c5_0 c5_1 : Int) : Option (Int × Int) :=
  loopK (saturateref14_prefix.K fu (sub saturateref14_prefix.body [true, true, false, true, false, false])) (saturateref14_prefix.live 7) n3 (stOf 45 [(3, .ptr 3 0 0 0), (4, .ptr 4 0 0 0), (5, .ptr 5 0 0 0), (6, .val (.int .i64 x6))] [(3, .own [.val (.int .u64 c3_0), .val (.int .u64 c3_1)]), (4, .own [.val (.int .u64 c4_0), .val (.int .u64 c4_1)]), (5, .own [.val (.int .u64 c5_0), .val (.int .u64 c5_1)])]) (blockC 0 (seqC fu (saturateref14_prefix.live 16) (saturateref14_prefix.K fu (sub saturateref14_prefix.body [true, true, true])) (retC Tryz.prog Tryz.f181.results saturateref14_prefix.r.dec)))
noncomputable def saturateref14_prefix.p4 (m fu : Nat) (n3 : Nat) (x6 c3_0 c3_1 c4_0 c4_1 c5_0 c5_1 : Int) : Option (Int × Int) :=
  joinK m (saturateref14_prefix.K fu (sub saturateref14_prefix.body [true, true, false, true, false, false, true, true])) (stOf 45 [(3, .ptr 3 0 0 0), (4, .ptr 4 0 0 0), (5, .ptr 5 0 0 0), (6, .val (.int .i64 x6))] [(3, .own [.val (.int .u64 c3_0), .val (.int .u64 c3_1)]), (4, .own [.val (.int .u64 c4_0), .val (.int .u64 c4_1)]), (5, .own [.val (.int .u64 c5_0), .val (.int .u64 c5_1)])]) (roundC (saturateref14_prefix.live 7) (loopK (saturateref14_prefix.K fu (sub saturateref14_prefix.body [true, true, false, true, false, false])) (saturateref14_prefix.live 7) n3) (blockC 0 (seqC fu (saturateref14_prefix.live 16) (saturateref14_prefix.K fu (sub saturateref14_prefix.body [true, true, true])) (retC Tryz.prog Tryz.f181.results saturateref14_prefix.r.dec))))
noncomputable def saturateref14_prefix.p8 (m fu : Nat) (c4_0 c4_1 c5_0 c5_1 : Int) : Option (Int × Int) :=
  joinK m (saturateref14_prefix.K fu (sub saturateref14_prefix.body [true, true, true])) (stOf 45 [(4, .ptr 4 0 0 0), (5, .ptr 5 0 0 0)] [(4, .own [.val (.int .u64 c4_0), .val (.int .u64 c4_1)]), (5, .own [.val (.int .u64 c5_0), .val (.int .u64 c5_1)])]) (retC Tryz.prog Tryz.f181.results saturateref14_prefix.r.dec)
theorem saturateref14_prefix.p4_eq (m fu : Nat) (n3 : Nat) (x6 c3_0 c3_1 c4_0 c4_1 c5_0 c5_1 : Int) : saturateref14_prefix.p4 (m + 1) fu n3 x6 c3_0 c3_1 c4_0 c4_1 c5_0 c5_1 =
  saturateref14_prefix.j3 fu n3 (IntKind.i64.wrap (x6 - 1)) c3_0 c3_1 c4_0 c4_1 c5_0 c5_1 := by kernel_rfl
theorem saturateref14_prefix.p8_eq (m fu : Nat) (c4_0 c4_1 c5_0 c5_1 : Int) : saturateref14_prefix.p8 (m + 1) fu c4_0 c4_1 c5_0 c5_1 =
  some (c5_0, c5_1) := by kernel_rfl
theorem saturateref14_prefix.j3_succ (fu n3 : Nat) (x6 c3_0 c3_1 c4_0 c4_1 c5_0 c5_1 : Int) : saturateref14_prefix.j3 fu (n3 + 1) x6 c3_0 c3_1 c4_0 c4_1 c5_0 c5_1 =
  bif (decide (x6 ≥ 0)) then
    (saturateref01_Bit.f c3_0 x6).bind fun r2 =>
    (saturateref01_Bit.f c3_1 x6).bind fun r3 =>
    bif (r2 == r3) then
      (saturateref01_Bit.f c3_0 x6).bind fun r4 =>
      bif (r4 == 1) then
        bif decide ((IntKind.u64.wrap x6) < 0) then
          none
        else
          saturateref14_prefix.p4 fu fu n3 x6 c3_0 c3_1 c4_0 c4_1 c5_0 (Go.bits .or .u64 c5_1 (shl .u64 1 (IntKind.u64.wrap x6)))
      else
        bif decide ((IntKind.u64.wrap x6) < 0) then
          none
        else
          saturateref14_prefix.p4 fu fu n3 x6 c3_0 c3_1 c4_0 c4_1 (Go.bits .or .u64 c5_0 (shl .u64 1 (IntKind.u64.wrap x6))) c5_1
    else
      saturateref14_prefix.p8 fu fu c4_0 c4_1 c5_0 c5_1
  else
    saturateref14_prefix.p8 fu fu c4_0 c4_1 c5_0 c5_1 := by kernel_rfl
noncomputable def saturateref14_prefix.g (fu : Nat) (a0 : Int) (a1 : Int × Int) : Option (Int × Int) :=
  (saturateref12_Top.f).bind fun r1 =>
  saturateref14_prefix.j3 fu fu (IntKind.i64.wrap (a0 - 1)) a1.1 a1.2 0 0 r1.1 r1.2
noncomputable def saturateref14_prefix.f (a0 : Int) (a1 : Int × Int) : Option (Int × Int) := saturateref14_prefix.g (fuel0 + 1) a0 a1
theorem saturateref14_prefix.eq (fu : Nat) (a : Int × (Int × Int) × Unit) : bodyK Tryz.prog saturateref14_prefix.cs saturateref14_prefix.live fu Tryz.f181 (saturateref14_prefix.a.enc a) saturateref14_prefix.r.dec = saturateref14_prefix.g fu a.1 a.2.1 := by kernel_rfl
theorem saturateref14_prefix.con : ∀ (a : Int × (Int × Int) × Unit) (r : Int × Int), saturateref14_prefix.f a.1 a.2.1 = some r → Contract Tryz.prog 181 (saturateref14_prefix.a.enc a) (saturateref14_prefix.r.enc r) := Contract.of_body (by kernel_rfl) (by kernel_rfl) mixed (saturateref14_prefix.eq (fuel0 + 1))
noncomputable def saturateref14_prefix.c : Kn Tryz.prog := Kn.of 181 saturateref14_prefix.a saturateref14_prefix.r (fun a => saturateref14_prefix.f a.1 a.2.1) saturateref14_prefix.con
def saturateref12_Of.a : ACods (Int × (Int × Int) × Unit) := (.cons (.val (.int .i64)) (.cons (.val (.agg (.cons (.int .u64) (.one (.int .u64))))) .nil))
def saturateref12_Of.r : RCod (Int × Int) := .val (.agg (.cons (.int .u64) (.one (.int .u64))))
noncomputable def saturateref12_Of.cs : List (Kn Tryz.prog) := [saturateref12_Valid.c, saturateref12_Top.c]
def saturateref12_Of.live : Nat → Option Keep := liveOf []
noncomputable def saturateref12_Of.f (a0 : Int) (a1 : Int × Int) : Option (Int × Int) :=
  (saturateref12_Valid.f a0 (a1.1, a1.2)).bind fun r1 =>
  bif r1 then
    some (a1.1, a1.2)
  else
    (saturateref12_Top.f).bind fun r2 =>
    some (r2.1, r2.2)
theorem saturateref12_Of.eq (fu : Nat) (a : Int × (Int × Int) × Unit) : bodyK Tryz.prog saturateref12_Of.cs saturateref12_Of.live fu Tryz.f74 (saturateref12_Of.a.enc a) saturateref12_Of.r.dec = saturateref12_Of.f a.1 a.2.1 := by kernel_rfl
theorem saturateref12_Of.con : ∀ (a : Int × (Int × Int) × Unit) (r : Int × Int), saturateref12_Of.f a.1 a.2.1 = some r → Contract Tryz.prog 74 (saturateref12_Of.a.enc a) (saturateref12_Of.r.enc r) := Contract.of_body (by kernel_rfl) (by kernel_rfl) mixed (saturateref12_Of.eq (fuel0 + 1))
noncomputable def saturateref12_Of.c : Kn Tryz.prog := Kn.of 74 saturateref12_Of.a saturateref12_Of.r (fun a => saturateref12_Of.f a.1 a.2.1) saturateref12_Of.con
def saturateref12_Meet.a : ACods (Int × (Int × Int) × (Int × Int) × Unit) := (.cons (.val (.int .i64)) (.cons (.val (.agg (.cons (.int .u64) (.one (.int .u64))))) (.cons (.val (.agg (.cons (.int .u64) (.one (.int .u64))))) .nil)))
def saturateref12_Meet.r : RCod ((Int × Int) × Bool) := .val (.tup (.cons (.agg (.cons (.int .u64) (.one (.int .u64)))) (.one (.bool))))
noncomputable def saturateref12_Meet.cs : List (Kn Tryz.prog) := [saturateref12_Of.c, saturateref12_Top.c]
def saturateref12_Meet.live : Nat → Option Keep := liveOf []
noncomputable def saturateref12_Meet.f (a0 : Int) (a1 : Int × Int) (a2 : Int × Int) : Option ((Int × Int) × Bool) :=
  (saturateref12_Of.f a0 (a1.1, a1.2)).bind fun r1 =>
  (saturateref12_Of.f a0 (a2.1, a2.2)).bind fun r2 =>
  bif ((Go.bits .and .u64 (Go.bits .or .u64 r1.1 r2.1) (Go.bits .or .u64 r1.2 r2.2)) != 0) then
    (saturateref12_Top.f).bind fun r3 =>
    some ((r3.1, r3.2), false)
  else
    some (((Go.bits .or .u64 r1.1 r2.1), (Go.bits .or .u64 r1.2 r2.2)), true)
theorem saturateref12_Meet.eq (fu : Nat) (a : Int × (Int × Int) × (Int × Int) × Unit) : bodyK Tryz.prog saturateref12_Meet.cs saturateref12_Meet.live fu Tryz.f52 (saturateref12_Meet.a.enc a) saturateref12_Meet.r.dec = saturateref12_Meet.f a.1 a.2.1 a.2.2.1 := by kernel_rfl
theorem saturateref12_Meet.con : ∀ (a : Int × (Int × Int) × (Int × Int) × Unit) (r : (Int × Int) × Bool), saturateref12_Meet.f a.1 a.2.1 a.2.2.1 = some r → Contract Tryz.prog 52 (saturateref12_Meet.a.enc a) (saturateref12_Meet.r.enc r) := Contract.of_body (by kernel_rfl) (by kernel_rfl) mixed (saturateref12_Meet.eq (fuel0 + 1))
noncomputable def saturateref12_Meet.c : Kn Tryz.prog := Kn.of 52 saturateref12_Meet.a saturateref12_Meet.r (fun a => saturateref12_Meet.f a.1 a.2.1 a.2.2.1) saturateref12_Meet.con
def saturateref14_step.a : ACods ((Int × Int × Int × Int × Int) × Unit) := (.cons (.val (.agg (.cons (.int .i64) (.cons (.int .u64) (.cons (.int .u64) (.cons (.int .u64) (.one (.int .u64)))))))) .nil)
def saturateref14_step.r : RCod ((Int × Int × Int × Int × Int) × Bool) := .val (.tup (.cons (.agg (.cons (.int .i64) (.cons (.int .u64) (.cons (.int .u64) (.cons (.int .u64) (.one (.int .u64))))))) (.one (.bool))))
noncomputable def saturateref14_step.cs : List (Kn Tryz.prog) := [saturateref01_Mask.c, saturateref13_Meet.c, saturateref14_prefix.c, saturateref12_Meet.c]
def saturateref14_step.live : Nat → Option Keep := liveOf []
noncomputable def saturateref14_step.f (a0 : Int × Int × Int × Int × Int) : Option ((Int × Int × Int × Int × Int) × Bool) :=
  (saturateref01_Mask.f a0.1).bind fun r1 =>
  (saturateref13_Meet.f a0.1 (a0.2.2.2.1, a0.2.2.2.2) (a0.2.2.1, (IntKind.u64.wrap (r1 - a0.2.1)))).bind fun r2 =>
  bif (!r2.2) then
    some ((a0.1, a0.2.1, a0.2.2.1, a0.2.2.2.1, a0.2.2.2.2), false)
  else
    (saturateref14_prefix.f a0.1 (r2.1.1, r2.1.2)).bind fun r3 =>
    (saturateref12_Meet.f a0.1 (a0.2.1, a0.2.2.1) (r3.1, r3.2)).bind fun r4 =>
    some ((a0.1, r4.1.1, r4.1.2, r2.1.1, r2.1.2), r4.2)
theorem saturateref14_step.eq (fu : Nat) (a : (Int × Int × Int × Int × Int) × Unit) : bodyK Tryz.prog saturateref14_step.cs saturateref14_step.live fu Tryz.f114 (saturateref14_step.a.enc a) saturateref14_step.r.dec = saturateref14_step.f a.1 := by kernel_rfl
theorem saturateref14_step.con : ∀ (a : (Int × Int × Int × Int × Int) × Unit) (r : (Int × Int × Int × Int × Int) × Bool), saturateref14_step.f a.1 = some r → Contract Tryz.prog 114 (saturateref14_step.a.enc a) (saturateref14_step.r.enc r) := Contract.of_body (by kernel_rfl) (by kernel_rfl) mixed (saturateref14_step.eq (fuel0 + 1))
noncomputable def saturateref14_step.c : Kn Tryz.prog := Kn.of 114 saturateref14_step.a saturateref14_step.r (fun a => saturateref14_step.f a.1) saturateref14_step.con
def saturateref14_Valid.a : ACods ((Int × Int × Int × Int × Int) × Unit) := (.cons (.val (.agg (.cons (.int .i64) (.cons (.int .u64) (.cons (.int .u64) (.cons (.int .u64) (.one (.int .u64)))))))) .nil)
def saturateref14_Valid.r : RCod (Bool) := .val (.bool)
noncomputable def saturateref14_Valid.cs : List (Kn Tryz.prog) := [saturateref12_Valid.c, saturateref13_Valid.c, saturateref14_step.c]
def saturateref14_Valid.live : Nat → Option Keep := liveOf []
noncomputable def saturateref14_Valid.f (a0 : Int × Int × Int × Int × Int) : Option (Bool) :=
  bif (decide (a0.1 < 1)) then
    some false
  else
    bif (decide (a0.1 > 64)) then
      some false
    else
      (saturateref12_Valid.f a0.1 (a0.2.1, a0.2.2.1)).bind fun r1 =>
      bif (!r1) then
        some false
      else
        (saturateref13_Valid.f a0.1 (a0.2.2.2.1, a0.2.2.2.2)).bind fun r2 =>
        bif (!r2) then
          some false
        else
          (saturateref14_step.f (a0.1, a0.2.1, a0.2.2.1, a0.2.2.2.1, a0.2.2.2.2)).bind fun r3 =>
          bif r3.2 then
            some ((r3.1.1 == a0.1) && (((r3.1.2.1 == a0.2.1) && ((r3.1.2.2.1 == a0.2.2.1) && true)) && (((r3.1.2.2.2.1 == a0.2.2.2.1) && ((r3.1.2.2.2.2 == a0.2.2.2.2) && true)) && true)))
          else
            some false
theorem saturateref14_Valid.eq (fu : Nat) (a : (Int × Int × Int × Int × Int) × Unit) : bodyK Tryz.prog saturateref14_Valid.cs saturateref14_Valid.live fu Tryz.f98 (saturateref14_Valid.a.enc a) saturateref14_Valid.r.dec = saturateref14_Valid.f a.1 := by kernel_rfl
theorem saturateref14_Valid.con : ∀ (a : (Int × Int × Int × Int × Int) × Unit) (r : Bool), saturateref14_Valid.f a.1 = some r → Contract Tryz.prog 98 (saturateref14_Valid.a.enc a) (saturateref14_Valid.r.enc r) := Contract.of_body (by kernel_rfl) (by kernel_rfl) mixed (saturateref14_Valid.eq (fuel0 + 1))
noncomputable def saturateref14_Valid.c : Kn Tryz.prog := Kn.of 98 saturateref14_Valid.a saturateref14_Valid.r (fun a => saturateref14_Valid.f a.1) saturateref14_Valid.con
def saturateref14_Top.a : ACods (Int × Unit) := (.cons (.val (.int .i64)) .nil)
def saturateref14_Top.r : RCod (Int × Int × Int × Int × Int) := .val (.agg (.cons (.int .i64) (.cons (.int .u64) (.cons (.int .u64) (.cons (.int .u64) (.one (.int .u64)))))))
noncomputable def saturateref14_Top.cs : List (Kn Tryz.prog) := [saturateref01_W.c, saturateref12_Top.c, saturateref13_Top.c]
def saturateref14_Top.live : Nat → Option Keep := liveOf []
noncomputable def saturateref14_Top.f (a0 : Int) : Option (Int × Int × Int × Int × Int) :=
  (saturateref01_W.f a0).bind fun r1 =>
  (saturateref12_Top.f).bind fun r2 =>
  (saturateref13_Top.f a0).bind fun r3 =>
  some (r1, r2.1, r2.2, r3.1, r3.2)
theorem saturateref14_Top.eq (fu : Nat) (a : Int × Unit) : bodyK Tryz.prog saturateref14_Top.cs saturateref14_Top.live fu Tryz.f51 (saturateref14_Top.a.enc a) saturateref14_Top.r.dec = saturateref14_Top.f a.1 := by kernel_rfl
theorem saturateref14_Top.con : ∀ (a : Int × Unit) (r : Int × Int × Int × Int × Int), saturateref14_Top.f a.1 = some r → Contract Tryz.prog 51 (saturateref14_Top.a.enc a) (saturateref14_Top.r.enc r) := Contract.of_body (by kernel_rfl) (by kernel_rfl) mixed (saturateref14_Top.eq (fuel0 + 1))
noncomputable def saturateref14_Top.c : Kn Tryz.prog := Kn.of 51 saturateref14_Top.a saturateref14_Top.r (fun a => saturateref14_Top.f a.1) saturateref14_Top.con
def saturateref14_Norm.a : ACods ((Int × Int × Int × Int × Int) × Unit) := (.cons (.val (.agg (.cons (.int .i64) (.cons (.int .u64) (.cons (.int .u64) (.cons (.int .u64) (.one (.int .u64)))))))) .nil)
def saturateref14_Norm.r : RCod (Int × Int × Int × Int × Int) := .val (.agg (.cons (.int .i64) (.cons (.int .u64) (.cons (.int .u64) (.cons (.int .u64) (.one (.int .u64)))))))
noncomputable def saturateref14_Norm.cs : List (Kn Tryz.prog) := [saturateref14_Valid.c, saturateref14_Top.c]
def saturateref14_Norm.live : Nat → Option Keep := liveOf []
noncomputable def saturateref14_Norm.f (a0 : Int × Int × Int × Int × Int) : Option (Int × Int × Int × Int × Int) :=
  (saturateref14_Valid.f (a0.1, a0.2.1, a0.2.2.1, a0.2.2.2.1, a0.2.2.2.2)).bind fun r1 =>
  bif r1 then
    some (a0.1, a0.2.1, a0.2.2.1, a0.2.2.2.1, a0.2.2.2.2)
  else
    (saturateref14_Top.f a0.1).bind fun r2 =>
    some (r2.1, r2.2.1, r2.2.2.1, r2.2.2.2.1, r2.2.2.2.2)
theorem saturateref14_Norm.eq (fu : Nat) (a : (Int × Int × Int × Int × Int) × Unit) : bodyK Tryz.prog saturateref14_Norm.cs saturateref14_Norm.live fu Tryz.f39 (saturateref14_Norm.a.enc a) saturateref14_Norm.r.dec = saturateref14_Norm.f a.1 := by kernel_rfl
theorem saturateref14_Norm.con : ∀ (a : (Int × Int × Int × Int × Int) × Unit) (r : Int × Int × Int × Int × Int), saturateref14_Norm.f a.1 = some r → Contract Tryz.prog 39 (saturateref14_Norm.a.enc a) (saturateref14_Norm.r.enc r) := Contract.of_body (by kernel_rfl) (by kernel_rfl) mixed (saturateref14_Norm.eq (fuel0 + 1))
noncomputable def saturateref14_Norm.c : Kn Tryz.prog := Kn.of 39 saturateref14_Norm.a saturateref14_Norm.r (fun a => saturateref14_Norm.f a.1) saturateref14_Norm.con
def saturateref14_Reduce.a : ACods ((Int × Int × Int × Int × Int) × Unit) := (.cons (.val (.agg (.cons (.int .i64) (.cons (.int .u64) (.cons (.int .u64) (.cons (.int .u64) (.one (.int .u64)))))))) .nil)
def saturateref14_Reduce.r : RCod ((Int × Int × Int × Int × Int) × Bool) := .val (.tup (.cons (.agg (.cons (.int .i64) (.cons (.int .u64) (.cons (.int .u64) (.cons (.int .u64) (.one (.int .u64))))))) (.one (.bool))))
noncomputable def saturateref14_Reduce.cs : List (Kn Tryz.prog) := [saturateref01_W.c, saturateref12_Of.c, saturateref13_Of.c, saturateref14_step.c, saturateref14_Top.c]
def saturateref14_Reduce.live : Nat → Option Keep := liveOf [(9, ⟨[1, 2, 4, 5], [1, 2], [], [], []⟩)]
noncomputable def saturateref14_Reduce.body : Code := bodyOf Tryz.f43
noncomputable def saturateref14_Reduce.K (fu : Nat) : Code → St → (Ex → St → Option ((Int × Int × Int × Int × Int) × Bool)) → Option ((Int × Int × Int × Int × Int) × Bool) := codeK Tryz.prog (saturateref14_Reduce.cs) saturateref14_Reduce.live fu
noncomputable def saturateref14_Reduce.j4 (fu n4 : Nat) (x4 x5 c1_0 c1_1 c1_2 c1_3 c1_4 c2_0 c2_1 c2_2 c2_3 c2_4 : Int) : Option ((Int × Int × Int × Int × Int) × Bool) :=
  loopK (saturateref14_Reduce.K fu (sub saturateref14_Reduce.body [true, true, true, false, true, false, false])) (saturateref14_Reduce.live 9) n4 (stOf 40 [(1, .ptr 1 0 0 0), (2, .ptr 2 0 0 0), (4, .val (.int .i64 x4)), (5, .val (.int .i64 x5))] [(1, .own [.val (.int .i64 c1_0), .val (.int .u64 c1_1), .val (.int .u64 c1_2), .val (.int .u64 c1_3), .val (.int .u64 c1_4)]), (2, .own [.val (.int .i64 c2_0), .val (.int .u64 c2_1), .val (.int .u64 c2_2), .val (.int .u64 c2_3), .val (.int .u64 c2_4)])]) (blockC 0 (seqC fu (saturateref14_Reduce.live 24) (saturateref14_Reduce.K fu (sub saturateref14_Reduce.body [true, true, true, true])) (retC Tryz.prog Tryz.f43.results saturateref14_Reduce.r.dec)))
theorem saturateref14_Reduce.j4_succ (fu n4 : Nat) (x4 x5 c1_0 c1_1 c1_2 c1_3 c1_4 c2_0 c2_1 c2_2 c2_3 c2_4 : Int) : saturateref14_Reduce.j4 fu (n4 + 1) x4 x5 c1_0 c1_1 c1_2 c1_3 c1_4 c2_0 c2_1 c2_2 c2_3 c2_4 =
  bif (decide (x5 ≤ 200)) then
    (saturateref14_step.f (c1_0, c1_1, c1_2, c1_3, c1_4)).bind fun r4 =>
    bif (!r4.2) then
      (saturateref14_Top.f x4).bind fun r5 =>
      some ((r5.1, r5.2.1, r5.2.2.1, r5.2.2.2.1, r5.2.2.2.2), false)
    else
      bif ((r4.1.1 == c1_0) && (((r4.1.2.1 == c1_1) && ((r4.1.2.2.1 == c1_2) && true)) && (((r4.1.2.2.2.1 == c1_3) && ((r4.1.2.2.2.2 == c1_4) && true)) && true))) then
        some ((c1_0, c1_1, c1_2, c1_3, c1_4), true)
      else
        saturateref14_Reduce.j4 fu n4 x4 (IntKind.i64.wrap (x5 + 1)) r4.1.1 r4.1.2.1 r4.1.2.2.1 r4.1.2.2.2.1 r4.1.2.2.2.2 c2_0 c2_1 c2_2 c2_3 c2_4
  else
    some ((c1_0, c1_1, c1_2, c1_3, c1_4), true) := by kernel_rfl
noncomputable def saturateref14_Reduce.g (fu : Nat) (a0 : Int × Int × Int × Int × Int) : Option ((Int × Int × Int × Int × Int) × Bool) :=
  (saturateref01_W.f a0.1).bind fun r1 =>
  (saturateref12_Of.f r1 (a0.2.1, a0.2.2.1)).bind fun r2 =>
  (saturateref13_Of.f r1 (a0.2.2.2.1, a0.2.2.2.2)).bind fun r3 =>
  saturateref14_Reduce.j4 fu fu r1 0 r1 r2.1 r2.2 r3.1 r3.2 0 0 0 0 0
noncomputable def saturateref14_Reduce.f (a0 : Int × Int × Int × Int × Int) : Option ((Int × Int × Int × Int × Int) × Bool) := saturateref14_Reduce.g (fuel0 + 1) a0
theorem saturateref14_Reduce.eq (fu : Nat) (a : (Int × Int × Int × Int × Int) × Unit) : bodyK Tryz.prog saturateref14_Reduce.cs saturateref14_Reduce.live fu Tryz.f43 (saturateref14_Reduce.a.enc a) saturateref14_Reduce.r.dec = saturateref14_Reduce.g fu a.1 := by kernel_rfl
theorem saturateref14_Reduce.con : ∀ (a : (Int × Int × Int × Int × Int) × Unit) (r : (Int × Int × Int × Int × Int) × Bool), saturateref14_Reduce.f a.1 = some r → Contract Tryz.prog 43 (saturateref14_Reduce.a.enc a) (saturateref14_Reduce.r.enc r) := Contract.of_body (by kernel_rfl) (by kernel_rfl) mixed (saturateref14_Reduce.eq (fuel0 + 1))
noncomputable def saturateref14_Reduce.c : Kn Tryz.prog := Kn.of 43 saturateref14_Reduce.a saturateref14_Reduce.r (fun a => saturateref14_Reduce.f a.1) saturateref14_Reduce.con
def saturateref12_Join.a : ACods (Int × (Int × Int) × (Int × Int) × Unit) := (.cons (.val (.int .i64)) (.cons (.val (.agg (.cons (.int .u64) (.one (.int .u64))))) (.cons (.val (.agg (.cons (.int .u64) (.one (.int .u64))))) .nil)))
def saturateref12_Join.r : RCod (Int × Int) := .val (.agg (.cons (.int .u64) (.one (.int .u64))))
noncomputable def saturateref12_Join.cs : List (Kn Tryz.prog) := [saturateref12_Of.c]
def saturateref12_Join.live : Nat → Option Keep := liveOf []
noncomputable def saturateref12_Join.f (a0 : Int) (a1 : Int × Int) (a2 : Int × Int) : Option (Int × Int) :=
  (saturateref12_Of.f a0 (a1.1, a1.2)).bind fun r1 =>
  (saturateref12_Of.f a0 (a2.1, a2.2)).bind fun r2 =>
  some ((Go.bits .and .u64 r1.1 r2.1), (Go.bits .and .u64 r1.2 r2.2))
theorem saturateref12_Join.eq (fu : Nat) (a : Int × (Int × Int) × (Int × Int) × Unit) : bodyK Tryz.prog saturateref12_Join.cs saturateref12_Join.live fu Tryz.f56 (saturateref12_Join.a.enc a) saturateref12_Join.r.dec = saturateref12_Join.f a.1 a.2.1 a.2.2.1 := by kernel_rfl
theorem saturateref12_Join.con : ∀ (a : Int × (Int × Int) × (Int × Int) × Unit) (r : Int × Int), saturateref12_Join.f a.1 a.2.1 a.2.2.1 = some r → Contract Tryz.prog 56 (saturateref12_Join.a.enc a) (saturateref12_Join.r.enc r) := Contract.of_body (by kernel_rfl) (by kernel_rfl) mixed (saturateref12_Join.eq (fuel0 + 1))
noncomputable def saturateref12_Join.c : Kn Tryz.prog := Kn.of 56 saturateref12_Join.a saturateref12_Join.r (fun a => saturateref12_Join.f a.1 a.2.1 a.2.2.1) saturateref12_Join.con
def saturateref13_Join.a : ACods (Int × (Int × Int) × (Int × Int) × Unit) := (.cons (.val (.int .i64)) (.cons (.val (.agg (.cons (.int .u64) (.one (.int .u64))))) (.cons (.val (.agg (.cons (.int .u64) (.one (.int .u64))))) .nil)))
def saturateref13_Join.r : RCod (Int × Int) := .val (.agg (.cons (.int .u64) (.one (.int .u64))))
noncomputable def saturateref13_Join.cs : List (Kn Tryz.prog) := [saturateref13_Of.c]
def saturateref13_Join.live : Nat → Option Keep := liveOf []
noncomputable def saturateref13_Join.f (a0 : Int) (a1 : Int × Int) (a2 : Int × Int) : Option (Int × Int) :=
  (saturateref13_Of.f a0 (a1.1, a1.2)).bind fun r1 =>
  (saturateref13_Of.f a0 (a2.1, a2.2)).bind fun r2 =>
  some ((mn r1.1 r2.1), (mx r1.2 r2.2))
theorem saturateref13_Join.eq (fu : Nat) (a : Int × (Int × Int) × (Int × Int) × Unit) : bodyK Tryz.prog saturateref13_Join.cs saturateref13_Join.live fu Tryz.f57 (saturateref13_Join.a.enc a) saturateref13_Join.r.dec = saturateref13_Join.f a.1 a.2.1 a.2.2.1 := by kernel_rfl
theorem saturateref13_Join.con : ∀ (a : Int × (Int × Int) × (Int × Int) × Unit) (r : Int × Int), saturateref13_Join.f a.1 a.2.1 a.2.2.1 = some r → Contract Tryz.prog 57 (saturateref13_Join.a.enc a) (saturateref13_Join.r.enc r) := Contract.of_body (by kernel_rfl) (by kernel_rfl) mixed (saturateref13_Join.eq (fuel0 + 1))
noncomputable def saturateref13_Join.c : Kn Tryz.prog := Kn.of 57 saturateref13_Join.a saturateref13_Join.r (fun a => saturateref13_Join.f a.1 a.2.1 a.2.2.1) saturateref13_Join.con
end Go.Proofs.YtcihbcffokjgjaaGreat.Fn
namespace Go.Proofs.YtcihbcffokjgjaaGreat.Fn
open Go Go.RowKit Go.Proofs.YtcihbcffokjgjaaGreat.Ev Go.Proofs
set_option linter.unusedVariables false
set_option maxRecDepth 100000
end Go.Proofs.YtcihbcffokjgjaaGreat.Fn
namespace Go.Proofs.YtcihbcffokjgjaaGreat.Fn
open Go Go.RowKit Go.Proofs.YtcihbcffokjgjaaGreat.Ev Go.Proofs
set_option linter.unusedVariables false
set_option maxRecDepth 100000
def saturateref01_Cut.a : ACods (Int × Int × Unit) := (.cons (.val (.int .i64)) (.cons (.val (.int .u64)) .nil))
def saturateref01_Cut.r : RCod (Int) := .val (.int .u64)
noncomputable def saturateref01_Cut.cs : List (Kn Tryz.prog) := [saturateref01_W.c, saturateref01_Bit.c]
def saturateref01_Cut.live : Nat → Option Keep := liveOf [(7, ⟨[1, 5, 8, 9], [], [], [], []⟩)]
noncomputable def saturateref01_Cut.body : Code := bodyOf Tryz.f75
noncomputable def saturateref01_Cut.K (fu : Nat) : Code → St → (Ex → St → Option (Int)) → Option (Int) := codeK Tryz.prog (saturateref01_Cut.cs) saturateref01_Cut.live fu
noncomputable def saturateref01_Cut.j3 (fu n3 : Nat) (x1 x5 x8 x9 : Int) : Option Int :=
  loopK (saturateref01_Cut.K fu (sub saturateref01_Cut.body [true, true, false, true, false, false])) (saturateref01_Cut.live 7) n3 (stOf 22 [(1, .val (.int .u64 x1)), (5, .val (.int .u64 x5)), (8, .val (.int .i64 x8)), (9, .val (.int .i64 x9))] []) (blockC 0 (seqC fu (saturateref01_Cut.live 14) (saturateref01_Cut.K fu (sub saturateref01_Cut.body [true, true, true])) (retC Tryz.prog Tryz.f75.results saturateref01_Cut.r.dec)))
theorem saturateref01_Cut.j3_succ (fu n3 : Nat) (x1 x5 x8 x9 : Int) : saturateref01_Cut.j3 fu (n3 + 1) x1 x5 x8 x9 =
  bif (decide (x9 < x8)) then
    (saturateref01_Bit.f x1 x9).bind fun r2 =>
    bif decide ((IntKind.u64.wrap x9) < 0) then
      none
    else
      saturateref01_Cut.j3 fu n3 x1 (Go.bits .or .u64 x5 (shl .u64 r2 (IntKind.u64.wrap x9))) x8 (IntKind.i64.wrap (x9 + 1))
  else
    some x5 := by kernel_rfl
noncomputable def saturateref01_Cut.g (fu : Nat) (a0 a1 : Int) : Option (Int) :=
  (saturateref01_W.f a0).bind fun r1 =>
  saturateref01_Cut.j3 fu fu a1 0 r1 0
noncomputable def saturateref01_Cut.f (a0 a1 : Int) : Option (Int) := saturateref01_Cut.g (fuel0 + 1) a0 a1
theorem saturateref01_Cut.eq (fu : Nat) (a : Int × Int × Unit) : bodyK Tryz.prog saturateref01_Cut.cs saturateref01_Cut.live fu Tryz.f75 (saturateref01_Cut.a.enc a) saturateref01_Cut.r.dec = saturateref01_Cut.g fu a.1 a.2.1 := by kernel_rfl
theorem saturateref01_Cut.con : ∀ (a : Int × Int × Unit) (r : Int), saturateref01_Cut.f a.1 a.2.1 = some r → Contract Tryz.prog 75 (saturateref01_Cut.a.enc a) (saturateref01_Cut.r.enc r) := Contract.of_body (by kernel_rfl) (by kernel_rfl) mixed (saturateref01_Cut.eq (fuel0 + 1))
noncomputable def saturateref01_Cut.c : Kn Tryz.prog := Kn.of 75 saturateref01_Cut.a saturateref01_Cut.r (fun a => saturateref01_Cut.f a.1 a.2.1) saturateref01_Cut.con
end Go.Proofs.YtcihbcffokjgjaaGreat.Fn
