/- What the functions return, as the evaluator tells it: written by a program of this workplace (mev.py); Lean checks each equation. -/
import Derived.Test.YtcihbcffokjgjaaGreatProg
import Derived.Test.YtcihbcffokjgjaaGreatAEvC
import Derived.Test.YtcihbcffokjgjaaGreatAF0
import Derived.Test.YtcihbcffokjgjaaGreatAF2
import Derived.Test.YtcihbcffokjgjaaGreatAF3
namespace Go.Proofs.YtcihbcffokjgjaaGreat.Fn
open Go Go.RowKit Go.Proofs.YtcihbcffokjgjaaGreat.Ev Go.Proofs
set_option linter.unusedVariables false
set_option maxRecDepth 100000
/-! ### facts_Join: function 17 -/
def facts_Join.a : ACods ((Int × Int × Int × Int × Int) × (Int × Int × Int × Int × Int) × Unit) := (.cons (.val (.agg (.cons (.int .i64) (.cons (.int .u64) (.cons (.int .u64) (.cons (.int .u64) (.one (.int .u64)))))))) (.cons (.val (.agg (.cons (.int .i64) (.cons (.int .u64) (.cons (.int .u64) (.cons (.int .u64) (.one (.int .u64)))))))) .nil))
def facts_Join.r : RCod ((Int × Int × Int × Int × Int) × Int) := .val (.tup (.cons (.agg (.cons (.int .i64) (.cons (.int .u64) (.cons (.int .u64) (.cons (.int .u64) (.one (.int .u64))))))) (.one (.int .i64))))
noncomputable def facts_Join.cs : List (Kn Tryz.prog) := [facts_of.c, known_Join.c, ranges_Join.c, facts_Reduce.c]
def facts_Join.live : Nat → Option Keep := liveOf []
noncomputable def facts_Join.f (a0 : Int × Int × Int × Int × Int) (a1 : Int × Int × Int × Int × Int) : Option ((Int × Int × Int × Int × Int) × Int) :=
  (facts_of.f (a0.1, a0.2.1, a0.2.2.1, a0.2.2.2.1, a0.2.2.2.2)).bind fun r1 =>
  (facts_of.f (a1.1, a1.2.1, a1.2.2.1, a1.2.2.2.1, a1.2.2.2.2)).bind fun r2 =>
  bif (r2.1 != r1.1) then
    some ((0, 0, 0, 0, 0), 3)
  else
    (known_Join.f r1.1 (r1.2.1, r1.2.2.1) (r2.2.1, r2.2.2.1)).bind fun r3 =>
    (ranges_Join.f r1.1 (r1.2.2.2.1, r1.2.2.2.2) (r2.2.2.2.1, r2.2.2.2.2)).bind fun r4 =>
    (facts_Reduce.f (r1.1, r3.1, r3.2, r4.1, r4.2)).bind fun r5 =>
    some ((r5.1.1, r5.1.2.1, r5.1.2.2.1, r5.1.2.2.2.1, r5.1.2.2.2.2), 0)
theorem facts_Join.eq (fu : Nat) (a : (Int × Int × Int × Int × Int) × (Int × Int × Int × Int × Int) × Unit) : bodyK Tryz.prog facts_Join.cs facts_Join.live fu Tryz.f17 (facts_Join.a.enc a) facts_Join.r.dec = facts_Join.f a.1 a.2.1 := by kernel_rfl
theorem facts_Join.con : ∀ (a : (Int × Int × Int × Int × Int) × (Int × Int × Int × Int × Int) × Unit) (r : (Int × Int × Int × Int × Int) × Int), facts_Join.f a.1 a.2.1 = some r → Contract Tryz.prog 17 (facts_Join.a.enc a) (facts_Join.r.enc r) := Contract.of_body (F := fun (a : (Int × Int × Int × Int × Int) × (Int × Int × Int × Int × Int) × Unit) => facts_Join.f a.1 a.2.1) (fn := Tryz.f17) (cs := facts_Join.cs) (live := facts_Join.live) (fuel := fuel0 + 1) (by kernel_rfl) (by kernel_rfl) mixed (facts_Join.eq (fuel0 + 1))
/-! ### saturatelaw14_lives: function 9 -/
def saturatelaw14_lives.a : ACods (Unit) := .nil
def saturatelaw14_lives.r : RCod (Bool) := .val (.bool)
def saturatelaw14_lives.live : Nat → Option Keep := liveOf []
noncomputable def saturatelaw14_lives.csv (v_term_Var : ByteArray × Int × Unit → Option (Tm)) (h_term_Var : Con Tryz.prog 31 term_Var.a term_Var.r v_term_Var) (v_term_Const : Int × Int × Unit → Option (Tm)) (h_term_Const : Con Tryz.prog 32 term_Const.a term_Const.r v_term_Const) (v_term_Make : Int × List Tm × Unit → Option (Tm)) (h_term_Make : Con Tryz.prog 30 term_Make.a term_Make.r v_term_Make) (v_facts_Of : Tm × Unit → Option ((Int × Int × Int × Int × Int) × Int)) (h_facts_Of : Con Tryz.prog 13 facts_Of.a facts_Of.r v_facts_Of) (v_facts_Const : Int × Int × Unit → Option (Int × Int × Int × Int × Int)) (h_facts_Const : Con Tryz.prog 33 facts_Const.a facts_Const.r v_facts_Const) (v_facts_Top : Int × Unit → Option (Int × Int × Int × Int × Int)) (h_facts_Top : Con Tryz.prog 34 facts_Top.a facts_Top.r v_facts_Top) (v_facts_Meet : (Int × Int × Int × Int × Int) × (Int × Int × Int × Int × Int) × Unit → Option ((Int × Int × Int × Int × Int) × Bool)) (h_facts_Meet : Con Tryz.prog 15 facts_Meet.a facts_Meet.r v_facts_Meet) (v_facts_Join : (Int × Int × Int × Int × Int) × (Int × Int × Int × Int × Int) × Unit → Option ((Int × Int × Int × Int × Int) × Int)) (h_facts_Join : Con Tryz.prog 17 facts_Join.a facts_Join.r v_facts_Join) (v_facts_Valid : (Int × Int × Int × Int × Int) × Unit → Option (Bool)) (h_facts_Valid : Con Tryz.prog 24 facts_Valid.a facts_Valid.r v_facts_Valid) : List (Kn Tryz.prog) := [Kn.of 31 term_Var.a term_Var.r v_term_Var h_term_Var.c, Kn.of 32 term_Const.a term_Const.r v_term_Const h_term_Const.c, Kn.of 30 term_Make.a term_Make.r v_term_Make h_term_Make.c, Kn.of 13 facts_Of.a facts_Of.r v_facts_Of h_facts_Of.c, Kn.of 33 facts_Const.a facts_Const.r v_facts_Const h_facts_Const.c, Kn.of 34 facts_Top.a facts_Top.r v_facts_Top h_facts_Top.c, Kn.of 15 facts_Meet.a facts_Meet.r v_facts_Meet h_facts_Meet.c, Kn.of 17 facts_Join.a facts_Join.r v_facts_Join h_facts_Join.c, Kn.of 24 facts_Valid.a facts_Valid.r v_facts_Valid h_facts_Valid.c]
noncomputable def saturatelaw14_lives.fv (v_term_Var : ByteArray × Int × Unit → Option (Tm)) (h_term_Var : Con Tryz.prog 31 term_Var.a term_Var.r v_term_Var) (v_term_Const : Int × Int × Unit → Option (Tm)) (h_term_Const : Con Tryz.prog 32 term_Const.a term_Const.r v_term_Const) (v_term_Make : Int × List Tm × Unit → Option (Tm)) (h_term_Make : Con Tryz.prog 30 term_Make.a term_Make.r v_term_Make) (v_facts_Of : Tm × Unit → Option ((Int × Int × Int × Int × Int) × Int)) (h_facts_Of : Con Tryz.prog 13 facts_Of.a facts_Of.r v_facts_Of) (v_facts_Const : Int × Int × Unit → Option (Int × Int × Int × Int × Int)) (h_facts_Const : Con Tryz.prog 33 facts_Const.a facts_Const.r v_facts_Const) (v_facts_Top : Int × Unit → Option (Int × Int × Int × Int × Int)) (h_facts_Top : Con Tryz.prog 34 facts_Top.a facts_Top.r v_facts_Top) (v_facts_Meet : (Int × Int × Int × Int × Int) × (Int × Int × Int × Int × Int) × Unit → Option ((Int × Int × Int × Int × Int) × Bool)) (h_facts_Meet : Con Tryz.prog 15 facts_Meet.a facts_Meet.r v_facts_Meet) (v_facts_Join : (Int × Int × Int × Int × Int) × (Int × Int × Int × Int × Int) × Unit → Option ((Int × Int × Int × Int × Int) × Int)) (h_facts_Join : Con Tryz.prog 17 facts_Join.a facts_Join.r v_facts_Join) (v_facts_Valid : (Int × Int × Int × Int × Int) × Unit → Option (Bool)) (h_facts_Valid : Con Tryz.prog 24 facts_Valid.a facts_Valid.r v_facts_Valid) : Option (Bool) :=
  (v_term_Var ((ByteArray.mk #[120]), 8, ())).bind fun r1 =>
  (v_term_Const (8, 15, ())).bind fun r2 =>
  (v_term_Make (5, ([(Tm.mk r1.op r1.width r1.val r1.name r1.kids), (Tm.mk r2.op r2.width r2.val r2.name r2.kids)]), ())).bind fun r3 =>
  (v_facts_Of ((Tm.mk r3.op r3.width r3.val r3.name r3.kids), ())).bind fun r4 =>
  (v_term_Const (8, 16, ())).bind fun r5 =>
  (v_term_Make (17, ([(Tm.mk r3.op r3.width r3.val r3.name r3.kids), (Tm.mk r5.op r5.width r5.val r5.name r5.kids)]), ())).bind fun r6 =>
  (v_facts_Of ((Tm.mk r6.op r6.width r6.val r6.name r6.kids), ())).bind fun r7 =>
  (v_facts_Of ((Tm.mk 0 0 0 (ByteArray.mk #[]) []), ())).bind fun r8 =>
  (v_facts_Const (8, 3, ())).bind fun r9 =>
  (v_facts_Top (8, ())).bind fun r10 =>
  (v_facts_Meet ((r9.1, r9.2.1, r9.2.2.1, r9.2.2.2.1, r9.2.2.2.2), (r10.1, r10.2.1, r10.2.2.1, r10.2.2.2.1, r10.2.2.2.2), ())).bind fun r11 =>
  (v_facts_Const (8, 3, ())).bind fun r12 =>
  (v_facts_Const (8, 4, ())).bind fun r13 =>
  (v_facts_Meet ((r12.1, r12.2.1, r12.2.2.1, r12.2.2.2.1, r12.2.2.2.2), (r13.1, r13.2.1, r13.2.2.1, r13.2.2.2.1, r13.2.2.2.2), ())).bind fun r14 =>
  (v_facts_Top (8, ())).bind fun r15 =>
  (v_facts_Top (4, ())).bind fun r16 =>
  (v_facts_Join ((r15.1, r15.2.1, r15.2.2.1, r15.2.2.2.1, r15.2.2.2.2), (r16.1, r16.2.1, r16.2.2.1, r16.2.2.2.1, r16.2.2.2.2), ())).bind fun r17 =>
  bif ((r4.1.1 == 8) && (((r4.1.2.1 == 240) && ((r4.1.2.2.1 == 0) && true)) && (((r4.1.2.2.2.1 == 0) && ((r4.1.2.2.2.2 == 15) && true)) && true))) then
    bif (r4.2 == 0) then
      (v_facts_Const (1, 1, ())).bind fun r18 =>
      bif ((r7.1.1 == r18.1) && (((r7.1.2.1 == r18.2.1) && ((r7.1.2.2.1 == r18.2.2.1) && true)) && (((r7.1.2.2.2.1 == r18.2.2.2.1) && ((r7.1.2.2.2.2 == r18.2.2.2.2) && true)) && true))) then
        bif (r7.2 == 0) then
          bif (r8.2 == 4) then
            (v_facts_Const (8, 3, ())).bind fun r19 =>
            bif ((r11.1.1 == r19.1) && (((r11.1.2.1 == r19.2.1) && ((r11.1.2.2.1 == r19.2.2.1) && true)) && (((r11.1.2.2.2.1 == r19.2.2.2.1) && ((r11.1.2.2.2.2 == r19.2.2.2.2) && true)) && true))) then
              bif r11.2 then
                bif (!r14.2) then
                  bif (r17.2 == 3) then
                    (v_facts_Valid ((r4.1.1, r4.1.2.1, r4.1.2.2.1, r4.1.2.2.2.1, r4.1.2.2.2.2), ())).bind fun r20 =>
                    bif r20 then
                      (v_facts_Valid ((8, 240, 0, 0, 255), ())).bind fun r21 =>
                      some (!r21)
                    else
                      some false
                  else
                    some false
                else
                  some false
              else
                some false
            else
              some false
          else
            some false
        else
          some false
      else
        some false
    else
      some false
  else
    some false
theorem saturatelaw14_lives.eqv (v_term_Var : ByteArray × Int × Unit → Option (Tm)) (h_term_Var : Con Tryz.prog 31 term_Var.a term_Var.r v_term_Var) (v_term_Const : Int × Int × Unit → Option (Tm)) (h_term_Const : Con Tryz.prog 32 term_Const.a term_Const.r v_term_Const) (v_term_Make : Int × List Tm × Unit → Option (Tm)) (h_term_Make : Con Tryz.prog 30 term_Make.a term_Make.r v_term_Make) (v_facts_Of : Tm × Unit → Option ((Int × Int × Int × Int × Int) × Int)) (h_facts_Of : Con Tryz.prog 13 facts_Of.a facts_Of.r v_facts_Of) (v_facts_Const : Int × Int × Unit → Option (Int × Int × Int × Int × Int)) (h_facts_Const : Con Tryz.prog 33 facts_Const.a facts_Const.r v_facts_Const) (v_facts_Top : Int × Unit → Option (Int × Int × Int × Int × Int)) (h_facts_Top : Con Tryz.prog 34 facts_Top.a facts_Top.r v_facts_Top) (v_facts_Meet : (Int × Int × Int × Int × Int) × (Int × Int × Int × Int × Int) × Unit → Option ((Int × Int × Int × Int × Int) × Bool)) (h_facts_Meet : Con Tryz.prog 15 facts_Meet.a facts_Meet.r v_facts_Meet) (v_facts_Join : (Int × Int × Int × Int × Int) × (Int × Int × Int × Int × Int) × Unit → Option ((Int × Int × Int × Int × Int) × Int)) (h_facts_Join : Con Tryz.prog 17 facts_Join.a facts_Join.r v_facts_Join) (v_facts_Valid : (Int × Int × Int × Int × Int) × Unit → Option (Bool)) (h_facts_Valid : Con Tryz.prog 24 facts_Valid.a facts_Valid.r v_facts_Valid) (fu : Nat) (a : Unit) : bodyK Tryz.prog (saturatelaw14_lives.csv v_term_Var h_term_Var v_term_Const h_term_Const v_term_Make h_term_Make v_facts_Of h_facts_Of v_facts_Const h_facts_Const v_facts_Top h_facts_Top v_facts_Meet h_facts_Meet v_facts_Join h_facts_Join v_facts_Valid h_facts_Valid) saturatelaw14_lives.live fu Tryz.f9 (saturatelaw14_lives.a.enc a) saturatelaw14_lives.r.dec = saturatelaw14_lives.fv v_term_Var h_term_Var v_term_Const h_term_Const v_term_Make h_term_Make v_facts_Of h_facts_Of v_facts_Const h_facts_Const v_facts_Top h_facts_Top v_facts_Meet h_facts_Meet v_facts_Join h_facts_Join v_facts_Valid h_facts_Valid := by kernel_rfl
noncomputable def saturatelaw14_lives.f : Option (Bool) := saturatelaw14_lives.fv (fun a => term_Var.f a.1 a.2.1) ⟨term_Var.con⟩ (fun a => term_Const.f a.1 a.2.1) ⟨term_Const.con⟩ (fun a => term_Make.f a.1 a.2.1) ⟨term_Make.con⟩ (fun a => facts_Of.f a.1) ⟨facts_Of.con⟩ (fun a => facts_Const.f a.1 a.2.1) ⟨facts_Const.con⟩ (fun a => facts_Top.f a.1) ⟨facts_Top.con⟩ (fun a => facts_Meet.f a.1 a.2.1) ⟨facts_Meet.con⟩ (fun a => facts_Join.f a.1 a.2.1) ⟨facts_Join.con⟩ (fun a => facts_Valid.f a.1) ⟨facts_Valid.con⟩
theorem saturatelaw14_lives.con : ∀ (a : Unit) (r : Bool), saturatelaw14_lives.f = some r → Contract Tryz.prog 9 (saturatelaw14_lives.a.enc a) (saturatelaw14_lives.r.enc r) := Contract.of_body (F := fun (a : Unit) => saturatelaw14_lives.f) (fn := Tryz.f9) (cs := saturatelaw14_lives.csv (fun a => term_Var.f a.1 a.2.1) ⟨term_Var.con⟩ (fun a => term_Const.f a.1 a.2.1) ⟨term_Const.con⟩ (fun a => term_Make.f a.1 a.2.1) ⟨term_Make.con⟩ (fun a => facts_Of.f a.1) ⟨facts_Of.con⟩ (fun a => facts_Const.f a.1 a.2.1) ⟨facts_Const.con⟩ (fun a => facts_Top.f a.1) ⟨facts_Top.con⟩ (fun a => facts_Meet.f a.1 a.2.1) ⟨facts_Meet.con⟩ (fun a => facts_Join.f a.1 a.2.1) ⟨facts_Join.con⟩ (fun a => facts_Valid.f a.1) ⟨facts_Valid.con⟩) (live := saturatelaw14_lives.live) (fuel := fuel0 + 1) (by kernel_rfl) (by kernel_rfl) mixed (saturatelaw14_lives.eqv (fun a => term_Var.f a.1 a.2.1) ⟨term_Var.con⟩ (fun a => term_Const.f a.1 a.2.1) ⟨term_Const.con⟩ (fun a => term_Make.f a.1 a.2.1) ⟨term_Make.con⟩ (fun a => facts_Of.f a.1) ⟨facts_Of.con⟩ (fun a => facts_Const.f a.1 a.2.1) ⟨facts_Const.con⟩ (fun a => facts_Top.f a.1) ⟨facts_Top.con⟩ (fun a => facts_Meet.f a.1 a.2.1) ⟨facts_Meet.con⟩ (fun a => facts_Join.f a.1 a.2.1) ⟨facts_Join.con⟩ (fun a => facts_Valid.f a.1) ⟨facts_Valid.con⟩ (fuel0 + 1))
end Go.Proofs.YtcihbcffokjgjaaGreat.Fn
