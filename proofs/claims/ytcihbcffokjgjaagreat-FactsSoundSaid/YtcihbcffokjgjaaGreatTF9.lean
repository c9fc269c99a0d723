/- What the functions return, as the evaluator tells it: written by a program of this workplace (mev.py); Lean checks each equation. What the functions return, as the evaluator tells it: written by a program of this workplace (mev.py); Lean checks each equation. What the functions return, as the evaluator tells it: written by a program of this workplace (mev.py); Lean checks each equation. What the functions return, as the evaluator tells it: written by a program of this workplace (mev.py); Lean checks each equation. What the functions return, as the evaluator tells it: written by a program of this workplace (mev.py); Lean checks each equation. What the functions return, as the evaluator tells it: written by a program of this workplace (mev.py); Lean checks each equation. -/
import Derived.Test.YtcihbcffokjgjaaGreatProg
import Derived.Test.YtcihbcffokjgjaaGreatTEvC
import Derived.Test.YtcihbcffokjgjaaGreatTF0
import Derived.Test.YtcihbcffokjgjaaGreatTF2
import Derived.Test.YtcihbcffokjgjaaGreatTF3
import Derived.Test.YtcihbcffokjgjaaGreatTF1
namespace Go.Proofs.YtcihbcffokjgjaaGreat.Fn
open Go Go.RowKit Go.Proofs.YtcihbcffokjgjaaGreat.Ev Go.Proofs
set_option linter.unusedVariables false
set_option maxRecDepth 100000
def facts_Join.a : ACods ((Int × Int × Int × Int × Int) × (Int × Int × Int × Int × Int) × Unit) := (.cons (.val (.agg (.cons (.int .i64) (.cons (.int .u64) (.cons (.int .u64) (.cons (.int .u64) (.one (.int .u64)))))))) (.cons (.val (.agg (.cons (.int .i64) (.cons (.int .u64) (.cons (.int .u64) (.cons (.int .u64) (.one (.int .u64)))))))) .nil))
def facts_Join.r : RCod ((Int × Int × Int × Int × Int) × Int) := .val (.tup (.cons (.agg (.cons (.int .i64) (.cons (.int .u64) (.cons (.int .u64) (.cons (.int .u64) (.one (.int .u64))))))) (.one (.int .i64))))
noncomputable def facts_Join.cs : List (Kn Tryz.prog) := [facts_of.c, known_Join.c, ranges_Join.c, facts_Reduce.c]
def facts_Join.live : Nat → Option Keep := liveOf []
noncomputable def facts_Join.f (a0 : Int × Int × Int × Int × Int) (a1 : Int × Int × Int × Int × Int) : Option ((Int × Int × Int × Int × Int) × Int) :=
  (facts_of.f (a0.1, a0.2.1, a0.2.2.1, a0.2.2.2.1, a0.2.2.2.2)).bind fun r1 =>
  (facts_of.f (a1.1, a1.2.1, a1.2.2.1, a1.2.2.2.1, a1.2.2.2.2)).bind fun r2 =>
  bif (r2.1 != r1.1) then
    some ((0, 0, 0, 0, 0), 3)
  else
    (known_Join.f r1.1 (r1.2.1, r1.2.2.1) (r2.2.1, r2.2.2.1)).bind fun r3 =>
    (ranges_Join.f r1.1 (r1.2.2.2.1, r1.2.2.2.2) (r2.2.2.2.1, r2.2.2.2.2)).bind fun r4 =>
    (facts_Reduce.f (r1.1, r3.1, r3.2, r4.1, r4.2)).bind fun r5 =>
    some ((r5.1.1, r5.1.2.1, r5.1.2.2.1, r5.1.2.2.2.1, r5.1.2.2.2.2), 0)
theorem facts_Join.eq (fu : Nat) (a : (Int × Int × Int × Int × Int) × (Int × Int × Int × Int × Int) × Unit) : bodyK Tryz.prog facts_Join.cs facts_Join.live fu Tryz.f17 (facts_Join.a.enc a) facts_Join.r.dec = facts_Join.f a.1 a.2.1 := by kernel_rfl
theorem facts_Join.con : ∀ (a : (Int × Int × Int × Int × Int) × (Int × Int × Int × Int × Int) × Unit) (r : (Int × Int × Int × Int × Int) × Int), facts_Join.f a.1 a.2.1 = some r → Contract Tryz.prog 17 (facts_Join.a.enc a) (facts_Join.r.enc r) := Contract.of_body (by kernel_rfl) (by kernel_rfl) mixed (facts_Join.eq (fuel0 + 1))
def saturatelaw14_lives.a : ACods (Unit) := .nil
def saturatelaw14_lives.r : RCod (Bool) := .val (.bool)
def saturatelaw14_lives.live : Nat → Option Keep := liveOf []
noncomputable def saturatelaw14_lives.csv (v_term_Var : ByteArray × Int × Unit → Option (Tm)) (h_term_Var : Con Tryz.prog 31 term_Var.a term_Var.r v_term_Var) (v_term_Const : Int × Int × Unit → Option (Tm)) (h_term_Const : Con Tryz.prog 32 term_Const.a term_Const.r v_term_Const) (v_term_Make : Int × List Tm × Unit → Option (Tm)) (h_term_Make : Con Tryz.prog 30 term_Make.a term_Make.r v_term_Make) (v_facts_Of : Tm × Unit → Option ((Int × Int × Int × Int × Int) × Int)) (h_facts_Of : Con Tryz.prog 13 facts_Of.a facts_Of.r v_facts_Of) (v_facts_Const : Int × Int × Unit → Option (Int × Int × Int × Int × Int)) (h_facts_Const : Con Tryz.prog 33 facts_Const.a facts_Const.r v_facts_Const) (v_facts_Top : Int × Unit → Option (Int × Int × Int × Int × Int)) (h_facts_Top : Con Tryz.prog 34 facts_Top.a facts_Top.r v_facts_Top) (v_facts_Meet : (Int × Int × Int × Int × Int) × (Int × Int × Int × Int × Int) × Unit → Option ((Int × Int × Int × Int × Int) × Bool)) (h_facts_Meet : Con Tryz.prog 15 facts_Meet.a facts_Meet.r v_facts_Meet) (v_facts_Join : (Int × Int × Int × Int × Int) × (Int × Int × Int × Int × Int) × Unit → Option ((Int × Int × Int × Int × Int) × Int)) (h_facts_Join : Con Tryz.prog 17 facts_Join.a facts_Join.r v_facts_Join) (v_facts_Valid : (Int × Int × Int × Int × Int) × Unit → Option (Bool)) (h_facts_Valid : Con Tryz.prog 24 facts_Valid.a facts_Valid.r v_facts_Valid) : List (Kn Tryz.prog) := [Kn.of 31 term_Var.a term_Var.r v_term_Var h_term_Var.c, Kn.of 32 term_Const.a term_Const.r v_term_Const h_term_Const.c, Kn.of 30 term_Make.a term_Make.r v_term_Make h_term_Make.c, Kn.of 13 facts_Of.a facts_Of.r v_facts_Of h_facts_Of.c, Kn.of 33 facts_Const.a facts_Const.r v_facts_Const h_facts_Const.c, Kn.of 34 facts_Top.a facts_Top.r v_facts_Top h_facts_Top.c, Kn.of 15 facts_Meet.a facts_Meet.r v_facts_Meet h_facts_Meet.c, Kn.of 17 facts_Join.a facts_Join.r v_facts_Join h_facts_Join.c, Kn.of 24 facts_Valid.a facts_Valid.r v_facts_Valid h_facts_Valid.c]
noncomputable def saturatelaw14_lives.fv (v_term_Var : ByteArray × Int × Unit → Option (Tm)) (h_term_Var : Con Tryz.prog 31 term_Var.a term_Var.r v_term_Var) (v_term_Const : Int × Int × Unit → Option (Tm)) (h_term_Const : Con Tryz.prog 32 term_Const.a term_Const.r v_term_Const) (v_term_Make : Int × List Tm × Unit → Option (Tm)) (h_term_Make : Con Tryz.prog 30 term_Make.a term_Make.r v_term_Make) (v_facts_Of : Tm × Unit → Option ((Int × Int × Int × Int × Int) × Int)) (h_facts_Of : Con Tryz.prog 13 facts_Of.a facts_Of.r v_facts_Of) (v_facts_Const : Int × Int × Unit → Option (Int × Int × Int × Int × Int)) (h_facts_Const : Con Tryz.prog 33 facts_Const.a facts_Const.r v_facts_Const) (v_facts_Top : Int × Unit → Option (Int × Int × Int × Int × Int)) (h_facts_Top : Con Tryz.prog 34 facts_Top.a facts_Top.r v_facts_Top) (v_facts_Meet : (Int × Int × Int × Int × Int) × (Int × Int × Int × Int × Int) × Unit → Option ((Int × Int × Int × Int × Int) × Bool)) (h_facts_Meet : Con Tryz.prog 15 facts_Meet.a facts_Meet.r v_facts_Meet) (v_facts_Join : (Int × Int × Int × Int × Int) × (Int × Int × Int × Int × Int) × Unit → Option ((Int × Int × Int × Int × Int) × Int)) (h_facts_Join : Con Tryz.prog 17 facts_Join.a facts_Join.r v_facts_Join) (v_facts_Valid : (Int × Int × Int × Int × Int) × Unit → Option (Bool)) (h_facts_Valid : Con Tryz.prog 24 facts_Valid.a facts_Valid.r v_facts_Valid) : Option (Bool) :=
  (v_term_Var ((ByteArray.mk #[120]), 8, ())).bind fun r1 =>
  (v_term_Const (8, 15, ())).bind fun r2 =>
  (v_term_Make (5, ([(Tm.mk r1.op r1.width r1.val r1.name r1.kids), (Tm.mk r2.op r2.width r2.val r2.name r2.kids)]), ())).bind fun r3 =>
  (v_facts_Of ((Tm.mk r3.op r3.width r3.val r3.name r3.kids), ())).bind fun r4 =>
  (v_term_Const (8, 16, ())).bind fun r5 =>
  (v_term_Make (17, ([(Tm.mk r3.op r3.width r3.val r3.name r3.kids), (Tm.mk r5.op r5.width r5.val r5.name r5.kids)]), ())).bind fun r6 =>
  (v_facts_Of ((Tm.mk r6.op r6.width r6.val r6.name r6.kids), ())).bind fun r7 =>
  (v_facts_Of ((Tm.mk 0 0 0 (ByteArray.mk #[]) []), ())).bind fun r8 =>
  (v_facts_Const (8, 3, ())).bind fun r9 =>
  (v_facts_Top (8, ())).bind fun r10 =>
  (v_facts_Meet ((r9.1, r9.2.1, r9.2.2.1, r9.2.2.2.1, r9.2.2.2.2), (r10.1, r10.2.1, r10.2.2.1, r10.2.2.2.1, r10.2.2.2.2), ())).bind fun r11 =>
  (v_facts_Const (8, 3, ())).bind fun r12 =>
  (v_facts_Const (8, 4, ())).bind fun r13 =>
  (v_facts_Meet ((r12.1, r12.2.1, r12.2.2.1, r12.2.2.2.1, r12.2.2.2.2), (r13.1, r13.2.1, r13.2.2.1, r13.2.2.2.1, r13.2.2.2.2), ())).bind fun r14 =>
  (v_facts_Top (8, ())).bind fun r15 =>
  (v_facts_Top (4, ())).bind fun r16 =>
  (v_facts_Join ((r15.1, r15.2.1, r15.2.2.1, r15.2.2.2.1, r15.2.2.2.2), (r16.1, r16.2.1, r16.2.2.1, r16.2.2.2.1, r16.2.2.2.2), ())).bind fun r17 =>
  bif ((r4.1.1 == 8) && (((r4.1.2.1 == 240) && ((r4.1.2.2.1 == 0) && true)) && (((r4.1.2.2.2.1 == 0) && ((r4.1.2.2.2.2 == 15) && true)) && true))) then
    bif (r4.2 == 0) then
      (v_facts_Const (1, 1, ())).bind fun r18 =>
      bif ((r7.1.1 == r18.1) && (((r7.1.2.1 == r18.2.1) && ((r7.1.2.2.1 == r18.2.2.1) && true)) && (((r7.1.2.2.2.1 == r18.2.2.2.1) && ((r7.1.2.2.2.2 == r18.2.2.2.2) && true)) && true))) then
        bif (r7.2 == 0) then
          bif (r8.2 == 4) then
            (v_facts_Const (8, 3, ())).bind fun r19 =>
            bif ((r11.1.1 == r19.1) && (((r11.1.2.1 == r19.2.1) && ((r11.1.2.2.1 == r19.2.2.1) && true)) && (((r11.1.2.2.2.1 == r19.2.2.2.1) && ((r11.1.2.2.2.2 == r19.2.2.2.2) && true)) && true))) then
              bif r11.2 then
                bif (!r14.2) then
                  bif (r17.2 == 3) then
                    (v_facts_Valid ((r4.1.1, r4.1.2.1, r4.1.2.2.1, r4.1.2.2.2.1, r4.1.2.2.2.2), ())).bind fun r20 =>
                    bif r20 then
                      (v_facts_Valid ((8, 240, 0, 0, 255), ())).bind fun r21 =>
                      some (!r21)
                    else
                      some false
                  else
                    some false
                else
                  some false
              else
                some false
            else
              some false
          else
            some false
        else
          some false
      else
        some false
    else
      some false
  else
    some false
theorem saturatelaw14_lives.eqv (v_term_Var : ByteArray × Int × Unit → Option (Tm)) (h_term_Var : Con Tryz.prog 31 term_Var.a term_Var.r v_term_Var) (v_term_Const : Int × Int × Unit → Option (Tm)) (h_term_Const : Con Tryz.prog 32 term_Const.a term_Const.r v_term_Const) (v_term_Make : Int × List Tm × Unit → Option (Tm)) (h_term_Make : Con Tryz.prog 30 term_Make.a term_Make.r v_term_Make) (v_facts_Of : Tm × Unit → Option ((Int × Int × Int × Int × Int) × Int)) (h_facts_Of : Con Tryz.prog 13 facts_Of.a facts_Of.r v_facts_Of) (v_facts_Const : Int × Int × Unit → Option (Int × Int × Int × Int × Int)) (h_facts_Const : Con Tryz.prog 33 facts_Const.a facts_Const.r v_facts_Const) (v_facts_Top : Int × Unit → Option (Int × Int × Int × Int × Int)) (h_facts_Top : Con Tryz.prog 34 facts_Top.a facts_Top.r v_facts_Top) (v_facts_Meet : (Int × Int × Int × Int × Int) × (Int × Int × Int × Int × Int) × Unit → Option ((Int × Int × Int × Int × Int) × Bool)) (h_facts_Meet : Con Tryz.prog 15 facts_Meet.a facts_Meet.r v_facts_Meet) (v_facts_Join : (Int × Int × Int × Int × Int) × (Int × Int × Int × Int × Int) × Unit → Option ((Int × Int × Int × Int × Int) × Int)) (h_facts_Join : Con Tryz.prog 17 facts_Join.a facts_Join.r v_facts_Join) (v_facts_Valid : (Int × Int × Int × Int × Int) × Unit → Option (Bool)) (h_facts_Valid : Con Tryz.prog 24 facts_Valid.a facts_Valid.r v_facts_Valid) (fu : Nat) (a : Unit) : bodyK Tryz.prog (saturatelaw14_lives.csv v_term_Var h_term_Var v_term_Const h_term_Const v_term_Make h_term_Make v_facts_Of h_facts_Of v_facts_Const h_facts_Const v_facts_Top h_facts_Top v_facts_Meet h_facts_Meet v_facts_Join h_facts_Join v_facts_Valid h_facts_Valid) saturatelaw14_lives.live fu Tryz.f9 (saturatelaw14_lives.a.enc a) saturatelaw14_lives.r.dec = saturatelaw14_lives.fv v_term_Var h_term_Var v_term_Const h_term_Const v_term_Make h_term_Make v_facts_Of h_facts_Of v_facts_Const h_facts_Const v_facts_Top h_facts_Top v_facts_Meet h_facts_Meet v_facts_Join h_facts_Join v_facts_Valid h_facts_Valid := by kernel_rfl
noncomputable def saturatelaw14_lives.f : Option (Bool) := saturatelaw14_lives.fv (fun a => term_Var.f a.1 a.2.1) ⟨term_Var.con⟩ (fun a => term_Const.f a.1 a.2.1) ⟨term_Const.con⟩ (fun a => term_Make.f a.1 a.2.1) ⟨term_Make.con⟩ (fun a => facts_Of.f a.1) ⟨facts_Of.con⟩ (fun a => facts_Const.f a.1 a.2.1) ⟨facts_Const.con⟩ (fun a => facts_Top.f a.1) ⟨facts_Top.con⟩ (fun a => facts_Meet.f a.1 a.2.1) ⟨facts_Meet.con⟩ (fun a => facts_Join.f a.1 a.2.1) ⟨facts_Join.con⟩ (fun a => facts_Valid.f a.1) ⟨facts_Valid.con⟩
theorem saturatelaw14_lives.con : ∀ (a : Unit) (r : Bool), saturatelaw14_lives.f = some r → Contract Tryz.prog 9 (saturatelaw14_lives.a.enc a) (saturatelaw14_lives.r.enc r) := Contract.of_body (by kernel_rfl) (by kernel_rfl) mixed (saturatelaw14_lives.eqv (fun a => term_Var.f a.1 a.2.1) ⟨term_Var.con⟩ (fun a => term_Const.f a.1 a.2.1) ⟨term_Const.con⟩ (fun a => term_Make.f a.1 a.2.1) ⟨term_Make.con⟩ (fun a => facts_Of.f a.1) ⟨facts_Of.con⟩ (fun a => facts_Const.f a.1 a.2.1) ⟨facts_Const.con⟩ (fun a => facts_Top.f a.1) ⟨facts_Top.con⟩ (fun a => facts_Meet.f a.1 a.2.1) ⟨facts_Meet.con⟩ (fun a => facts_Join.f a.1 a.2.1) ⟨facts_Join.con⟩ (fun a => facts_Valid.f a.1) ⟨facts_Valid.con⟩ (fuel0 + 1))
end Go.Proofs.YtcihbcffokjgjaaGreat.Fn
namespace Go.Proofs.YtcihbcffokjgjaaGreat.Fn
open Go Go.RowKit Go.Proofs.YtcihbcffokjgjaaGreat.Ev Go.Proofs
set_option linter.unusedVariables false
set_option maxRecDepth 100000
def known_Has.a : ACods (Int × (Int × Int) × Int × Unit) := (.cons (.val (.int .i64)) (.cons (.val (.agg (.cons (.int .u64) (.one (.int .u64))))) (.cons (.val (.int .u64)) .nil)))
def known_Has.r : RCod (Bool) := .val (.bool)
noncomputable def known_Has.cs : List (Kn Tryz.prog) := [known_of.c, bits_Cut.c]
def known_Has.live : Nat → Option Keep := liveOf []
noncomputable def known_Has.f (a0 : Int) (a1 : Int × Int) (a2 : Int) : Option (Bool) :=
  (known_of.f a0 (a1.1, a1.2)).bind fun r1 =>
  (bits_Cut.f a0 a2).bind fun r2 =>
  bif ((Go.bits .and .u64 r2 r1.1) == 0) then
    some ((Go.bits .and .u64 r2 r1.2) == r1.2)
  else
    some false
theorem known_Has.eq (fu : Nat) (a : Int × (Int × Int) × Int × Unit) : bodyK Tryz.prog known_Has.cs known_Has.live fu Tryz.f69 (known_Has.a.enc a) known_Has.r.dec = known_Has.f a.1 a.2.1 a.2.2.1 := by kernel_rfl
theorem known_Has.con : ∀ (a : Int × (Int × Int) × Int × Unit) (r : Bool), known_Has.f a.1 a.2.1 a.2.2.1 = some r → Contract Tryz.prog 69 (known_Has.a.enc a) (known_Has.r.enc r) := Contract.of_body (by kernel_rfl) (by kernel_rfl) mixed (known_Has.eq (fuel0 + 1))
noncomputable def known_Has.c : Kn Tryz.prog := Kn.of 69 known_Has.a known_Has.r (fun a => known_Has.f a.1 a.2.1 a.2.2.1) known_Has.con
def ranges_Has.a : ACods (Int × (Int × Int) × Int × Unit) := (.cons (.val (.int .i64)) (.cons (.val (.agg (.cons (.int .u64) (.one (.int .u64))))) (.cons (.val (.int .u64)) .nil)))
def ranges_Has.r : RCod (Bool) := .val (.bool)
noncomputable def ranges_Has.cs : List (Kn Tryz.prog) := [ranges_norm.c, bits_Cut.c]
def ranges_Has.live : Nat → Option Keep := liveOf []
noncomputable def ranges_Has.f (a0 : Int) (a1 : Int × Int) (a2 : Int) : Option (Bool) :=
  (ranges_norm.f a0 (a1.1, a1.2)).bind fun r1 =>
  (bits_Cut.f a0 a2).bind fun r2 =>
  bif (decide (r1.1 ≤ r2)) then
    some (decide (r2 ≤ r1.2))
  else
    some false
theorem ranges_Has.eq (fu : Nat) (a : Int × (Int × Int) × Int × Unit) : bodyK Tryz.prog ranges_Has.cs ranges_Has.live fu Tryz.f70 (ranges_Has.a.enc a) ranges_Has.r.dec = ranges_Has.f a.1 a.2.1 a.2.2.1 := by kernel_rfl
theorem ranges_Has.con : ∀ (a : Int × (Int × Int) × Int × Unit) (r : Bool), ranges_Has.f a.1 a.2.1 a.2.2.1 = some r → Contract Tryz.prog 70 (ranges_Has.a.enc a) (ranges_Has.r.enc r) := Contract.of_body (by kernel_rfl) (by kernel_rfl) mixed (ranges_Has.eq (fuel0 + 1))
noncomputable def ranges_Has.c : Kn Tryz.prog := Kn.of 70 ranges_Has.a ranges_Has.r (fun a => ranges_Has.f a.1 a.2.1 a.2.2.1) ranges_Has.con
def facts_Has.a : ACods ((Int × Int × Int × Int × Int) × Int × Unit) := (.cons (.val (.agg (.cons (.int .i64) (.cons (.int .u64) (.cons (.int .u64) (.cons (.int .u64) (.one (.int .u64)))))))) (.cons (.val (.int .u64)) .nil))
def facts_Has.r : RCod (Bool) := .val (.bool)
noncomputable def facts_Has.cs : List (Kn Tryz.prog) := [facts_of.c, known_Has.c, ranges_Has.c]
def facts_Has.live : Nat → Option Keep := liveOf []
noncomputable def facts_Has.f (a0 : Int × Int × Int × Int × Int) (a1 : Int) : Option (Bool) :=
  (facts_of.f (a0.1, a0.2.1, a0.2.2.1, a0.2.2.2.1, a0.2.2.2.2)).bind fun r1 =>
  (known_Has.f r1.1 (r1.2.1, r1.2.2.1) a1).bind fun r2 =>
  bif r2 then
    (ranges_Has.f r1.1 (r1.2.2.2.1, r1.2.2.2.2) a1).bind fun r3 =>
    some r3
  else
    some false
theorem facts_Has.eq (fu : Nat) (a : (Int × Int × Int × Int × Int) × Int × Unit) : bodyK Tryz.prog facts_Has.cs facts_Has.live fu Tryz.f25 (facts_Has.a.enc a) facts_Has.r.dec = facts_Has.f a.1 a.2.1 := by kernel_rfl
theorem facts_Has.con : ∀ (a : (Int × Int × Int × Int × Int) × Int × Unit) (r : Bool), facts_Has.f a.1 a.2.1 = some r → Contract Tryz.prog 25 (facts_Has.a.enc a) (facts_Has.r.enc r) := Contract.of_body (by kernel_rfl) (by kernel_rfl) mixed (facts_Has.eq (fuel0 + 1))
noncomputable def facts_Has.c : Kn Tryz.prog := Kn.of 25 facts_Has.a facts_Has.r (fun a => facts_Has.f a.1 a.2.1) facts_Has.con
end Go.Proofs.YtcihbcffokjgjaaGreat.Fn
namespace Go.Proofs.YtcihbcffokjgjaaGreat.Fn
open Go Go.RowKit Go.Proofs.YtcihbcffokjgjaaGreat.Ev Go.Proofs
set_option linter.unusedVariables false
set_option maxRecDepth 100000
end Go.Proofs.YtcihbcffokjgjaaGreat.Fn
namespace Go.Proofs.YtcihbcffokjgjaaGreat.Fn
open Go Go.RowKit Go.Proofs.YtcihbcffokjgjaaGreat.Ev Go.Proofs
set_option linter.unusedVariables false
set_option maxRecDepth 100000
def saturateref01_W.a : ACods (Int × Unit) := (.cons (.val (.int .i64)) .nil)
def saturateref01_W.r : RCod (Int) := .val (.int .i64)
noncomputable def saturateref01_W.cs : List (Kn Tryz.prog) := []
def saturateref01_W.live : Nat → Option Keep := liveOf []
noncomputable def saturateref01_W.f (a0 : Int) : Option (Int) :=
  some (mn (mx a0 1) 64)
theorem saturateref01_W.eq (fu : Nat) (a : Int × Unit) : bodyK Tryz.prog saturateref01_W.cs saturateref01_W.live fu Tryz.f22 (saturateref01_W.a.enc a) saturateref01_W.r.dec = saturateref01_W.f a.1 := by kernel_rfl
theorem saturateref01_W.con : ∀ (a : Int × Unit) (r : Int), saturateref01_W.f a.1 = some r → Contract Tryz.prog 22 (saturateref01_W.a.enc a) (saturateref01_W.r.enc r) := Contract.of_body (by kernel_rfl) (by kernel_rfl) mixed (saturateref01_W.eq (fuel0 + 1))
noncomputable def saturateref01_W.c : Kn Tryz.prog := Kn.of 22 saturateref01_W.a saturateref01_W.r (fun a => saturateref01_W.f a.1) saturateref01_W.con
def saturateref01_Mask.a : ACods (Int × Unit) := (.cons (.val (.int .i64)) .nil)
def saturateref01_Mask.r : RCod (Int) := .val (.int .u64)
noncomputable def saturateref01_Mask.cs : List (Kn Tryz.prog) := [saturateref01_W.c]
def saturateref01_Mask.live : Nat → Option Keep := liveOf [(7, ⟨[3, 5, 6], [], [], [], []⟩)]
noncomputable def saturateref01_Mask.body : Code := bodyOf Tryz.f106
noncomputable def saturateref01_Mask.K (fu : Nat) : Code → St → (Ex → St → Option (Int)) → Option (Int) := codeK Tryz.prog (saturateref01_Mask.cs) saturateref01_Mask.live fu
noncomputable def saturateref01_Mask.j3 (fu n3 : Nat) (x3 x5 x6 : Int) : Option Int :=
  loopK (saturateref01_Mask.K fu (sub saturateref01_Mask.body [true, true, false, true, false, false])) (saturateref01_Mask.live 7) n3 (stOf 13 [(3, .val (.int .u64 x3)), (5, .val (.int .i64 x5)), (6, .val (.int .i64 x6))] []) (blockC 0 (seqC fu (saturateref01_Mask.live 12) (saturateref01_Mask.K fu (sub saturateref01_Mask.body [true, true, true])) (retC Tryz.prog Tryz.f106.results saturateref01_Mask.r.dec)))
theorem saturateref01_Mask.j3_succ (fu n3 : Nat) (x3 x5 x6 : Int) : saturateref01_Mask.j3 fu (n3 + 1) x3 x5 x6 =
  bif (decide (x6 < x5)) then
    saturateref01_Mask.j3 fu n3 (IntKind.u64.wrap ((IntKind.u64.wrap (x3 * 2)) + 1)) x5 (IntKind.i64.wrap (x6 + 1))
  else
    some x3 := by kernel_rfl
noncomputable def saturateref01_Mask.g (fu : Nat) (a0 : Int) : Option (Int) :=
  (saturateref01_W.f a0).bind fun r1 =>
  saturateref01_Mask.j3 fu fu 0 r1 0
noncomputable def saturateref01_Mask.f (a0 : Int) : Option (Int) := saturateref01_Mask.g (fuel0 + 1) a0
theorem saturateref01_Mask.eq (fu : Nat) (a : Int × Unit) : bodyK Tryz.prog saturateref01_Mask.cs saturateref01_Mask.live fu Tryz.f106 (saturateref01_Mask.a.enc a) saturateref01_Mask.r.dec = saturateref01_Mask.g fu a.1 := by kernel_rfl
theorem saturateref01_Mask.con : ∀ (a : Int × Unit) (r : Int), saturateref01_Mask.f a.1 = some r → Contract Tryz.prog 106 (saturateref01_Mask.a.enc a) (saturateref01_Mask.r.enc r) := Contract.of_body (by kernel_rfl) (by kernel_rfl) mixed (saturateref01_Mask.eq (fuel0 + 1))
noncomputable def saturateref01_Mask.c : Kn Tryz.prog := Kn.of 106 saturateref01_Mask.a saturateref01_Mask.r (fun a => saturateref01_Mask.f a.1) saturateref01_Mask.con
noncomputable def saturateref12_Valid.f (a0 : Int) (a1 : Int × Int) : Option (Bool) :=
  bif ((Go.bits .and .u64 a1.1 a1.2) == 0) then
    (saturateref01_Mask.f a0).bind fun r1 =>
    bif (decide (a1.1 ≤ r1)) then
      (saturateref01_Mask.f a0).bind fun r2 =>
      some (decide (a1.2 ≤ r2))
    else
      some false
  else
    some false
noncomputable def saturateref12_Top.f : Option (Int × Int) :=
  some (0, 0)
def saturateref01_Bit.a : ACods (Int × Int × Unit) := (.cons (.val (.int .u64)) (.cons (.val (.int .i64)) .nil))
def saturateref01_Bit.r : RCod (Int) := .val (.int .u64)
noncomputable def saturateref01_Bit.cs : List (Kn Tryz.prog) := []
def saturateref01_Bit.live : Nat → Option Keep := liveOf []
noncomputable def saturateref01_Bit.f (a0 a1 : Int) : Option (Int) :=
  bif (decide (a1 < 0)) then
    some 0
  else
    bif (decide (a1 > 63)) then
      some 0
    else
      bif decide ((IntKind.u64.wrap a1) < 0) then
        none
      else
        some (Go.bits .and .u64 (shr .u64 a0 (IntKind.u64.wrap a1)) 1)
theorem saturateref01_Bit.eq (fu : Nat) (a : Int × Int × Unit) : bodyK Tryz.prog saturateref01_Bit.cs saturateref01_Bit.live fu Tryz.f134 (saturateref01_Bit.a.enc a) saturateref01_Bit.r.dec = saturateref01_Bit.f a.1 a.2.1 := by kernel_rfl
theorem saturateref01_Bit.con : ∀ (a : Int × Int × Unit) (r : Int), saturateref01_Bit.f a.1 a.2.1 = some r → Contract Tryz.prog 134 (saturateref01_Bit.a.enc a) (saturateref01_Bit.r.enc r) := Contract.of_body (by kernel_rfl) (by kernel_rfl) mixed (saturateref01_Bit.eq (fuel0 + 1))
noncomputable def saturateref01_Bit.c : Kn Tryz.prog := Kn.of 134 saturateref01_Bit.a saturateref01_Bit.r (fun a => saturateref01_Bit.f a.1 a.2.1) saturateref01_Bit.con
noncomputable def saturateref12_Of.f (a0 : Int) (a1 : Int × Int) : Option (Int × Int) :=
  (saturateref12_Valid.f a0 (a1.1, a1.2)).bind fun r1 =>
  bif r1 then
    some (a1.1, a1.2)
  else
    (saturateref12_Top.f).bind fun r2 =>
    some (r2.1, r2.2)
end Go.Proofs.YtcihbcffokjgjaaGreat.Fn
namespace Go.Proofs.YtcihbcffokjgjaaGreat.Fn
open Go Go.RowKit Go.Proofs.YtcihbcffokjgjaaGreat.Ev Go.Proofs
set_option linter.unusedVariables false
set_option maxRecDepth 100000
def saturateref01_Cut.a : ACods (Int × Int × Unit) := (.cons (.val (.int .i64)) (.cons (.val (.int .u64)) .nil))
def saturateref01_Cut.r : RCod (Int) := .val (.int .u64)
noncomputable def saturateref01_Cut.cs : List (Kn Tryz.prog) := [saturateref01_W.c, saturateref01_Bit.c]
def saturateref01_Cut.live : Nat → Option Keep := liveOf [(7, ⟨[1, 5, 8, 9], [], [], [], []⟩)]
noncomputable def saturateref01_Cut.body : Code := bodyOf Tryz.f75
noncomputable def saturateref01_Cut.K (fu : Nat) : Code → St → (Ex → St → Option (Int)) → Option (Int) := codeK Tryz.prog (saturateref01_Cut.cs) saturateref01_Cut.live fu
noncomputable def saturateref01_Cut.j3 (fu n3 : Nat) (x1 x5 x8 x9 : Int) : Option Int :=
  loopK (saturateref01_Cut.K fu (sub saturateref01_Cut.body [true, true, false, true, false, false])) (saturateref01_Cut.live 7) n3 (stOf 22 [(1, .val (.int .u64 x1)), (5, .val (.int .u64 x5)), (8, .val (.int .i64 x8)), (9, .val (.int .i64 x9))] []) (blockC 0 (seqC fu (saturateref01_Cut.live 14) (saturateref01_Cut.K fu (sub saturateref01_Cut.body [true, true, true])) (retC Tryz.prog Tryz.f75.results saturateref01_Cut.r.dec)))
theorem saturateref01_Cut.j3_succ (fu n3 : Nat) (x1 x5 x8 x9 : Int) : saturateref01_Cut.j3 fu (n3 + 1) x1 x5 x8 x9 =
  bif (decide (x9 < x8)) then
    (saturateref01_Bit.f x1 x9).bind fun r2 =>
    bif decide ((IntKind.u64.wrap x9) < 0) then
      none
    else
      saturateref01_Cut.j3 fu n3 x1 (Go.bits .or .u64 x5 (shl .u64 r2 (IntKind.u64.wrap x9))) x8 (IntKind.i64.wrap (x9 + 1))
  else
    some x5 := by kernel_rfl
noncomputable def saturateref01_Cut.g (fu : Nat) (a0 a1 : Int) : Option (Int) :=
  (saturateref01_W.f a0).bind fun r1 =>
  saturateref01_Cut.j3 fu fu a1 0 r1 0
noncomputable def saturateref01_Cut.f (a0 a1 : Int) : Option (Int) := saturateref01_Cut.g (fuel0 + 1) a0 a1
theorem saturateref01_Cut.eq (fu : Nat) (a : Int × Int × Unit) : bodyK Tryz.prog saturateref01_Cut.cs saturateref01_Cut.live fu Tryz.f75 (saturateref01_Cut.a.enc a) saturateref01_Cut.r.dec = saturateref01_Cut.g fu a.1 a.2.1 := by kernel_rfl
theorem saturateref01_Cut.con : ∀ (a : Int × Int × Unit) (r : Int), saturateref01_Cut.f a.1 a.2.1 = some r → Contract Tryz.prog 75 (saturateref01_Cut.a.enc a) (saturateref01_Cut.r.enc r) := Contract.of_body (by kernel_rfl) (by kernel_rfl) mixed (saturateref01_Cut.eq (fuel0 + 1))
noncomputable def saturateref01_Cut.c : Kn Tryz.prog := Kn.of 75 saturateref01_Cut.a saturateref01_Cut.r (fun a => saturateref01_Cut.f a.1 a.2.1) saturateref01_Cut.con
end Go.Proofs.YtcihbcffokjgjaaGreat.Fn
namespace Go.Proofs.YtcihbcffokjgjaaGreat.Fn
open Go Go.RowKit Go.Proofs.YtcihbcffokjgjaaGreat.Ev Go.Proofs
set_option linter.unusedVariables false
set_option maxRecDepth 100000
def saturateref04_Is.a : ACods (Int × (Nat × (Nat → Int)) × Unit) := (.cons (.val (.int .i64)) (.cons (.rows (.int1 .i64)) .nil))
def saturateref04_Is.r : RCod (Bool) := .val (.bool)
noncomputable def saturateref04_Is.cs : List (Kn Tryz.prog) := []
def saturateref04_Is.live : Nat → Option Keep := liveOf [(5, ⟨[0, 1, 7, 8], [1], [], [], []⟩)]
noncomputable def saturateref04_Is.body : Code := bodyOf Tryz.f126
noncomputable def saturateref04_Is.K (fu : Nat) : Code → St → (Ex → St → Option (Bool)) → Option (Bool) := codeK Tryz.prog (saturateref04_Is.cs) saturateref04_Is.live fu
noncomputable def saturateref04_Is.j2 (fu n2 : Nat) (x0 : Int) (x1n : Nat) (x7 x8 : Int) (m1 : Nat) (g1_0 : Nat → Int) : Option Bool :=
  loopK (saturateref04_Is.K fu (sub saturateref04_Is.body [true, false, true, false, false])) (saturateref04_Is.live 5) n2 (stOf 18 [(0, .val (.int .i64 x0)), (1, .sl 1 1 x1n), (7, .val (.int .i64 x7)), (8, .val (.int .i64 x8))] [(1, .ext m1 [.int .i64 g1_0])]) (blockC 0 (seqC fu (saturateref04_Is.live 14) (saturateref04_Is.K fu (sub saturateref04_Is.body [true, true])) (retC Tryz.prog Tryz.f126.results saturateref04_Is.r.dec)))
theorem saturateref04_Is.j2_succ (fu n2 : Nat) (x0 : Int) (x1n : Nat) (x7 x8 : Int) (m1 : Nat) (g1_0 : Nat → Int) : saturateref04_Is.j2 fu (n2 + 1) x0 x1n x7 x8 m1 g1_0 =
  bif (decide (x8 < x7)) then
    bif decide (0 ≤ x8) then
      bif decide (x8 < (x1n : Int)) then
        bif ((g1_0 x8.toNat) == x0) then
          some true
        else
          saturateref04_Is.j2 fu n2 x0 x1n x7 (IntKind.i64.wrap (x8 + 1)) m1 g1_0
      else
        none
    else
      none
  else
    some false := by kernel_rfl
noncomputable def saturateref04_Is.g (fu : Nat) (a0 : Int) (a1 : Nat × (Nat → Int)) : Option (Bool) :=
  saturateref04_Is.j2 fu fu a0 a1.1 (a1.1 : Int) 0 a1.1 a1.2
noncomputable def saturateref04_Is.f (a0 : Int) (a1 : Nat × (Nat → Int)) : Option (Bool) := saturateref04_Is.g (fuel0 + 1) a0 a1
theorem saturateref04_Is.eq (fu : Nat) (a : Int × (Nat × (Nat → Int)) × Unit) : bodyK Tryz.prog saturateref04_Is.cs saturateref04_Is.live fu Tryz.f126 (saturateref04_Is.a.enc a) saturateref04_Is.r.dec = saturateref04_Is.g fu a.1 a.2.1 := by kernel_rfl
theorem saturateref04_Is.con : ∀ (a : Int × (Nat × (Nat → Int)) × Unit) (r : Bool), saturateref04_Is.f a.1 a.2.1 = some r → Contract Tryz.prog 126 (saturateref04_Is.a.enc a) (saturateref04_Is.r.enc r) := Contract.of_body (by kernel_rfl) (by kernel_rfl) mixed (saturateref04_Is.eq (fuel0 + 1))
noncomputable def saturateref04_Is.c : Kn Tryz.prog := Kn.of 126 saturateref04_Is.a saturateref04_Is.r (fun a => saturateref04_Is.f a.1 a.2.1) saturateref04_Is.con
def saturateref04_Leaf.a : ACods (Int × Unit) := (.cons (.val (.int .i64)) .nil)
def saturateref04_Leaf.r : RCod (Bool) := .val (.bool)
noncomputable def saturateref04_Leaf.cs : List (Kn Tryz.prog) := [saturateref04_Is.c]
def saturateref04_Leaf.live : Nat → Option Keep := liveOf []
noncomputable def saturateref04_Leaf.f (a0 : Int) : Option (Bool) :=
  (saturateref04_Is.f a0 (4, (fun i => [1, 2, 24, 25].getD i 0))).bind fun r1 =>
  some r1
theorem saturateref04_Leaf.eq (fu : Nat) (a : Int × Unit) : bodyK Tryz.prog saturateref04_Leaf.cs saturateref04_Leaf.live fu Tryz.f123 (saturateref04_Leaf.a.enc a) saturateref04_Leaf.r.dec = saturateref04_Leaf.f a.1 := by kernel_rfl
theorem saturateref04_Leaf.con : ∀ (a : Int × Unit) (r : Bool), saturateref04_Leaf.f a.1 = some r → Contract Tryz.prog 123 (saturateref04_Leaf.a.enc a) (saturateref04_Leaf.r.enc r) := Contract.of_body (by kernel_rfl) (by kernel_rfl) mixed (saturateref04_Leaf.eq (fuel0 + 1))
noncomputable def saturateref04_Leaf.c : Kn Tryz.prog := Kn.of 123 saturateref04_Leaf.a saturateref04_Leaf.r (fun a => saturateref04_Leaf.f a.1) saturateref04_Leaf.con
def saturateref04_Arity.a : ACods (Int × Unit) := (.cons (.val (.int .i64)) .nil)
def saturateref04_Arity.r : RCod (Int) := .val (.int .i64)
noncomputable def saturateref04_Arity.cs : List (Kn Tryz.prog) := [saturateref04_Leaf.c, saturateref04_Is.c]
def saturateref04_Arity.live : Nat → Option Keep := liveOf []
noncomputable def saturateref04_Arity.f (a0 : Int) : Option (Int) :=
  bif (decide (a0 < 1)) then
    some (-1)
  else
    bif (decide (a0 > 26)) then
      some (-1)
    else
      (saturateref04_Leaf.f a0).bind fun r1 =>
      bif r1 then
        some 0
      else
        (saturateref04_Is.f a0 (6, (fun i => [3, 4, 21, 22, 23, 26].getD i 0))).bind fun r2 =>
        bif r2 then
          some 1
        else
          bif (a0 == 19) then
            some 3
          else
            some 2
theorem saturateref04_Arity.eq (fu : Nat) (a : Int × Unit) : bodyK Tryz.prog saturateref04_Arity.cs saturateref04_Arity.live fu Tryz.f121 (saturateref04_Arity.a.enc a) saturateref04_Arity.r.dec = saturateref04_Arity.f a.1 := by kernel_rfl
theorem saturateref04_Arity.con : ∀ (a : Int × Unit) (r : Int), saturateref04_Arity.f a.1 = some r → Contract Tryz.prog 121 (saturateref04_Arity.a.enc a) (saturateref04_Arity.r.enc r) := Contract.of_body (by kernel_rfl) (by kernel_rfl) mixed (saturateref04_Arity.eq (fuel0 + 1))
noncomputable def saturateref04_Arity.c : Kn Tryz.prog := Kn.of 121 saturateref04_Arity.a saturateref04_Arity.r (fun a => saturateref04_Arity.f a.1) saturateref04_Arity.con
def saturateref04_width.a : ACods (Int × Unit) := (.cons (.val (.int .i64)) .nil)
def saturateref04_width.r : RCod (Bool) := .val (.bool)
noncomputable def saturateref04_width.cs : List (Kn Tryz.prog) := []
def saturateref04_width.live : Nat → Option Keep := liveOf []
noncomputable def saturateref04_width.f (a0 : Int) : Option (Bool) :=
  bif (decide (a0 ≥ 0)) then
    some (decide (a0 ≤ 64))
  else
    some false
theorem saturateref04_width.eq (fu : Nat) (a : Int × Unit) : bodyK Tryz.prog saturateref04_width.cs saturateref04_width.live fu Tryz.f122 (saturateref04_width.a.enc a) saturateref04_width.r.dec = saturateref04_width.f a.1 := by kernel_rfl
theorem saturateref04_width.con : ∀ (a : Int × Unit) (r : Bool), saturateref04_width.f a.1 = some r → Contract Tryz.prog 122 (saturateref04_width.a.enc a) (saturateref04_width.r.enc r) := Contract.of_body (by kernel_rfl) (by kernel_rfl) mixed (saturateref04_width.eq (fuel0 + 1))
noncomputable def saturateref04_width.c : Kn Tryz.prog := Kn.of 122 saturateref04_width.a saturateref04_width.r (fun a => saturateref04_width.f a.1) saturateref04_width.con
def saturateref04_leaf.a : ACods (Int × Int × Int × Unit) := (.cons (.val (.int .i64)) (.cons (.val (.int .i64)) (.cons (.val (.int .u64)) .nil)))
def saturateref04_leaf.r : RCod (Int × Int) := .val (.tup (.cons (.int .i64) (.one (.int .i64))))
noncomputable def saturateref04_leaf.cs : List (Kn Tryz.prog) := [saturateref04_width.c]
def saturateref04_leaf.live : Nat → Option Keep := liveOf [(6, ⟨[1], [], [], [], []⟩)]
noncomputable def saturateref04_leaf.body : Code := bodyOf Tryz.f124
noncomputable def saturateref04_leaf.K (fu : Nat) : Code → St → (Ex → St → Option (Int × Int)) → Option (Int × Int) := codeK Tryz.prog (saturateref04_leaf.cs) saturateref04_leaf.live fu
noncomputable def saturateref04_leaf.p3 (m fu : Nat) (x1 : Int) : Option (Int × Int) :=
  joinK m (saturateref04_leaf.K fu (sub saturateref04_leaf.body [true, true])) (stOf 31 [(1, .val (.int .i64 x1))] []) (retC Tryz.prog Tryz.f124.results saturateref04_leaf.r.dec)
theorem saturateref04_leaf.p3_eq (m fu : Nat) (x1 : Int) : saturateref04_leaf.p3 (m + 1) fu x1 =
  some (x1, 0) := by kernel_rfl
noncomputable def saturateref04_leaf.g (fu : Nat) (a0 a1 a2 : Int) : Option (Int × Int) :=
  (saturateref04_width.f a1).bind fun r1 =>
  bif (!r1) then
    some (0, 3)
  else
    bif (a0 == 2) then
      bif (decide (a1 > 0)) then
        bif (decide (a1 < 64)) then
          bif decide ((IntKind.u64.wrap a1) < 0) then
            none
          else
            bif (decide (a2 ≥ (shl .u64 1 (IntKind.u64.wrap a1)))) then
              some (0, 3)
            else
              saturateref04_leaf.p3 fu fu a1
        else
          saturateref04_leaf.p3 fu fu a1
      else
        saturateref04_leaf.p3 fu fu a1
    else
      saturateref04_leaf.p3 fu fu a1
noncomputable def saturateref04_leaf.f (a0 a1 a2 : Int) : Option (Int × Int) := saturateref04_leaf.g (fuel0 + 1) a0 a1 a2
theorem saturateref04_leaf.eq (fu : Nat) (a : Int × Int × Int × Unit) : bodyK Tryz.prog saturateref04_leaf.cs saturateref04_leaf.live fu Tryz.f124 (saturateref04_leaf.a.enc a) saturateref04_leaf.r.dec = saturateref04_leaf.g fu a.1 a.2.1 a.2.2.1 := by kernel_rfl
theorem saturateref04_leaf.con : ∀ (a : Int × Int × Int × Unit) (r : Int × Int), saturateref04_leaf.f a.1 a.2.1 a.2.2.1 = some r → Contract Tryz.prog 124 (saturateref04_leaf.a.enc a) (saturateref04_leaf.r.enc r) := Contract.of_body (by kernel_rfl) (by kernel_rfl) mixed (saturateref04_leaf.eq (fuel0 + 1))
noncomputable def saturateref04_leaf.c : Kn Tryz.prog := Kn.of 124 saturateref04_leaf.a saturateref04_leaf.r (fun a => saturateref04_leaf.f a.1 a.2.1 a.2.2.1) saturateref04_leaf.con
def saturateref04_parts.a : ACods (Int × Int × Int × Int × Unit) := (.cons (.val (.int .i64)) (.cons (.val (.int .i64)) (.cons (.val (.int .u64)) (.cons (.val (.int .i64)) .nil))))
def saturateref04_parts.r : RCod (Int × Int) := .val (.tup (.cons (.int .i64) (.one (.int .i64))))
noncomputable def saturateref04_parts.cs : List (Kn Tryz.prog) := [saturateref04_width.c]
def saturateref04_parts.live : Nat → Option Keep := liveOf [(10, ⟨[1], [], [], [], []⟩)]
noncomputable def saturateref04_parts.body : Code := bodyOf Tryz.f125
noncomputable def saturateref04_parts.K (fu : Nat) : Code → St → (Ex → St → Option (Int × Int)) → Option (Int × Int) := codeK Tryz.prog (saturateref04_parts.cs) saturateref04_parts.live fu
noncomputable def saturateref04_parts.p5 (m fu : Nat) (x1 : Int) : Option (Int × Int) :=
  joinK m (saturateref04_parts.K fu (sub saturateref04_parts.body [true, true, true])) (stOf 46 [(1, .val (.int .i64 x1))] []) (retC Tryz.prog Tryz.f125.results saturateref04_parts.r.dec)
theorem saturateref04_parts.p5_eq (m fu : Nat) (x1 : Int) : saturateref04_parts.p5 (m + 1) fu x1 =
  some (x1, 0) := by kernel_rfl
noncomputable def saturateref04_parts.g (fu : Nat) (a0 a1 a2 a3 : Int) : Option (Int × Int) :=
  (saturateref04_width.f a1).bind fun r1 =>
  bif (!r1) then
    some (0, 3)
  else
    bif (decide (a1 < 1)) then
      some (0, 3)
    else
      bif (decide (a3 < 1)) then
        some (0, 3)
      else
        bif (a0 == 21) then
          bif (decide (a1 > a3)) then
            some (0, 3)
          else
            bif (decide (a2 > (IntKind.u64.wrap (IntKind.i64.wrap (a3 - a1))))) then
              some (0, 3)
            else
              bif (a0 != 21) then
                bif (decide (a1 < a3)) then
                  some (0, 3)
                else
                  saturateref04_parts.p5 fu fu a1
              else
                saturateref04_parts.p5 fu fu a1
        else
          bif (a0 != 21) then
            bif (decide (a1 < a3)) then
              some (0, 3)
            else
              saturateref04_parts.p5 fu fu a1
          else
            saturateref04_parts.p5 fu fu a1
noncomputable def saturateref04_parts.f (a0 a1 a2 a3 : Int) : Option (Int × Int) := saturateref04_parts.g (fuel0 + 1) a0 a1 a2 a3
theorem saturateref04_parts.eq (fu : Nat) (a : Int × Int × Int × Int × Unit) : bodyK Tryz.prog saturateref04_parts.cs saturateref04_parts.live fu Tryz.f125 (saturateref04_parts.a.enc a) saturateref04_parts.r.dec = saturateref04_parts.g fu a.1 a.2.1 a.2.2.1 a.2.2.2.1 := by kernel_rfl
theorem saturateref04_parts.con : ∀ (a : Int × Int × Int × Int × Unit) (r : Int × Int), saturateref04_parts.f a.1 a.2.1 a.2.2.1 a.2.2.2.1 = some r → Contract Tryz.prog 125 (saturateref04_parts.a.enc a) (saturateref04_parts.r.enc r) := Contract.of_body (by kernel_rfl) (by kernel_rfl) mixed (saturateref04_parts.eq (fuel0 + 1))
noncomputable def saturateref04_parts.c : Kn Tryz.prog := Kn.of 125 saturateref04_parts.a saturateref04_parts.r (fun a => saturateref04_parts.f a.1 a.2.1 a.2.2.1 a.2.2.2.1) saturateref04_parts.con
def saturateref04_Width.a : ACods (Int × Int × Int × (Nat × (Nat → Int)) × Unit) := (.cons (.val (.int .i64)) (.cons (.val (.int .i64)) (.cons (.val (.int .u64)) (.cons (.rows (.int1 .i64)) .nil))))
def saturateref04_Width.r : RCod (Int × Int) := .val (.tup (.cons (.int .i64) (.one (.int .i64))))
noncomputable def saturateref04_Width.cs : List (Kn Tryz.prog) := [saturateref04_Arity.c, saturateref04_width.c, saturateref04_Leaf.c, saturateref04_leaf.c, saturateref04_parts.c]
def saturateref04_Width.live : Nat → Option Keep := liveOf [(9, ⟨[0, 1, 2, 3, 22, 23], [3], [], [], []⟩)]
noncomputable def saturateref04_Width.body : Code := bodyOf Tryz.f62
noncomputable def saturateref04_Width.K (fu : Nat) : Code → St → (Ex → St → Option (Int × Int)) → Option (Int × Int) := codeK Tryz.prog (saturateref04_Width.cs) saturateref04_Width.live fu
noncomputable def saturateref04_Width.j4 (fu n4 : Nat) (x0 x1 x2 : Int) (x3n : Nat) (x22 x23 : Int) (m3 : Nat) (g3_0 : Nat → Int) : Option (Int × Int) :=
  loopK (saturateref04_Width.K fu (sub saturateref04_Width.body [true, true, false, true, false, false])) (saturateref04_Width.live 9) n4 (stOf 133 [(0, .val (.int .i64 x0)), (1, .val (.int .i64 x1)), (2, .val (.int .u64 x2)), (3, .sl 3 1 x3n), (22, .val (.int .i64 x22)), (23, .val (.int .i64 x23))] [(3, .ext m3 [.int .i64 g3_0])]) (blockC 0 (seqC fu (saturateref04_Width.live 18) (saturateref04_Width.K fu (sub saturateref04_Width.body [true, true, true])) (retC Tryz.prog Tryz.f62.results saturateref04_Width.r.dec)))
theorem saturateref04_Width.j4_succ (fu n4 : Nat) (x0 x1 x2 : Int) (x3n : Nat) (x22 x23 : Int) (m3 : Nat) (g3_0 : Nat → Int) : saturateref04_Width.j4 fu (n4 + 1) x0 x1 x2 x3n x22 x23 m3 g3_0 =
  bif (decide (x23 < x22)) then
    bif decide (0 ≤ x23) then
      bif decide (x23 < (x3n : Int)) then
        (saturateref04_width.f (g3_0 x23.toNat)).bind fun r3 =>
        bif (!r3) then
          some (0, 3)
        else
          saturateref04_Width.j4 fu n4 x0 x1 x2 x3n x22 (IntKind.i64.wrap (x23 + 1)) m3 g3_0
      else
        none
    else
      none
  else
    (saturateref04_Leaf.f x0).bind fun r4 =>
    bif r4 then
      (saturateref04_leaf.f x0 x1 x2).bind fun r5 =>
      some (r5.1, r5.2)
    else
      bif (x0 == 21) then
        bif decide ((0 : Int) < (x3n : Int)) then
          (saturateref04_parts.f x0 x1 x2 (g3_0 0)).bind fun r6 =>
          some (r6.1, r6.2)
        else
          none
      else
        bif (x0 == 22) then
          bif decide ((0 : Int) < (x3n : Int)) then
            (saturateref04_parts.f x0 x1 x2 (g3_0 0)).bind fun r7 =>
            some (r7.1, r7.2)
          else
            none
        else
          bif (x0 == 23) then
            bif decide ((0 : Int) < (x3n : Int)) then
              (saturateref04_parts.f x0 x1 x2 (g3_0 0)).bind fun r8 =>
              some (r8.1, r8.2)
            else
              none
          else
            bif ((x3n : Int) == 1) then
              bif decide ((0 : Int) < (x3n : Int)) then
                some ((g3_0 0), 0)
              else
                none
            else
              bif (x0 == 20) then
                bif decide ((0 : Int) < (x3n : Int)) then
                  bif (decide ((g3_0 0) < 1)) then
                    some (0, 3)
                  else
                    bif decide ((1 : Int) < (x3n : Int)) then
                      bif (decide ((g3_0 1) < 1)) then
                        some (0, 3)
                      else
                        bif decide ((0 : Int) < (x3n : Int)) then
                          bif decide ((1 : Int) < (x3n : Int)) then
                            bif (decide ((IntKind.i64.wrap ((g3_0 0) + (g3_0 1))) > 64)) then
                              some (0, 3)
                            else
                              bif decide ((0 : Int) < (x3n : Int)) then
                                bif decide ((1 : Int) < (x3n : Int)) then
                                  some ((IntKind.i64.wrap ((g3_0 0) + (g3_0 1))), 0)
                                else
                                  none
                              else
                                none
                          else
                            none
                        else
                          none
                    else
                      none
                else
                  none
              else
                bif (x0 == 19) then
                  bif decide ((0 : Int) < (x3n : Int)) then
                    bif ((g3_0 0) != 1) then
                      some (0, 3)
                    else
                      bif decide ((1 : Int) < (x3n : Int)) then
                        bif decide ((2 : Int) < (x3n : Int)) then
                          bif ((g3_0 1) != (g3_0 2)) then
                            some (0, 3)
                          else
                            bif decide ((1 : Int) < (x3n : Int)) then
                              some ((g3_0 1), 0)
                            else
                              none
                        else
                          none
                      else
                        none
                  else
                    none
                else
                  bif decide ((0 : Int) < (x3n : Int)) then
                    bif decide ((1 : Int) < (x3n : Int)) then
                      bif ((g3_0 0) != (g3_0 1)) then
                        some (0, 3)
                      else
                        bif (x0 == 16) then
                          some (1, 0)
                        else
                          bif (x0 == 17) then
                            some (1, 0)
                          else
                            bif (x0 == 18) then
                              some (1, 0)
                            else
                              bif decide ((0 : Int) < (x3n : Int)) then
                                some ((g3_0 0), 0)
                              else
                                none
                    else
                      none
                  else
                    none := by kernel_rfl
noncomputable def saturateref04_Width.g (fu : Nat) (a0 a1 a2 : Int) (a3 : Nat × (Nat → Int)) : Option (Int × Int) :=
  (saturateref04_Arity.f a0).bind fun r1 =>
  bif (decide (r1 < 0)) then
    some (0, 4)
  else
    (saturateref04_Arity.f a0).bind fun r2 =>
    bif ((a3.1 : Int) != r2) then
      some (0, 4)
    else
      saturateref04_Width.j4 fu fu a0 a1 a2 a3.1 (a3.1 : Int) 0 a3.1 a3.2
noncomputable def saturateref04_Width.f (a0 a1 a2 : Int) (a3 : Nat × (Nat → Int)) : Option (Int × Int) := saturateref04_Width.g (fuel0 + 1) a0 a1 a2 a3
theorem saturateref04_Width.eq (fu : Nat) (a : Int × Int × Int × (Nat × (Nat → Int)) × Unit) : bodyK Tryz.prog saturateref04_Width.cs saturateref04_Width.live fu Tryz.f62 (saturateref04_Width.a.enc a) saturateref04_Width.r.dec = saturateref04_Width.g fu a.1 a.2.1 a.2.2.1 a.2.2.2.1 := by kernel_rfl
theorem saturateref04_Width.con : ∀ (a : Int × Int × Int × (Nat × (Nat → Int)) × Unit) (r : Int × Int), saturateref04_Width.f a.1 a.2.1 a.2.2.1 a.2.2.2.1 = some r → Contract Tryz.prog 62 (saturateref04_Width.a.enc a) (saturateref04_Width.r.enc r) := Contract.of_body (by kernel_rfl) (by kernel_rfl) mixed (saturateref04_Width.eq (fuel0 + 1))
noncomputable def saturateref04_Width.c : Kn Tryz.prog := Kn.of 62 saturateref04_Width.a saturateref04_Width.r (fun a => saturateref04_Width.f a.1 a.2.1 a.2.2.1 a.2.2.2.1) saturateref04_Width.con
def saturateref04_Pattern.a : ACods (Int × Unit) := (.cons (.val (.int .i64)) .nil)
def saturateref04_Pattern.r : RCod (Bool) := .val (.bool)
noncomputable def saturateref04_Pattern.cs : List (Kn Tryz.prog) := [saturateref04_Is.c]
def saturateref04_Pattern.live : Nat → Option Keep := liveOf []
noncomputable def saturateref04_Pattern.f (a0 : Int) : Option (Bool) :=
  (saturateref04_Is.f a0 (3, (fun i => [24, 25, 26].getD i 0))).bind fun r1 =>
  some r1
theorem saturateref04_Pattern.eq (fu : Nat) (a : Int × Unit) : bodyK Tryz.prog saturateref04_Pattern.cs saturateref04_Pattern.live fu Tryz.f63 (saturateref04_Pattern.a.enc a) saturateref04_Pattern.r.dec = saturateref04_Pattern.f a.1 := by kernel_rfl
theorem saturateref04_Pattern.con : ∀ (a : Int × Unit) (r : Bool), saturateref04_Pattern.f a.1 = some r → Contract Tryz.prog 63 (saturateref04_Pattern.a.enc a) (saturateref04_Pattern.r.enc r) := Contract.of_body (by kernel_rfl) (by kernel_rfl) mixed (saturateref04_Pattern.eq (fuel0 + 1))
noncomputable def saturateref04_Pattern.c : Kn Tryz.prog := Kn.of 63 saturateref04_Pattern.a saturateref04_Pattern.r (fun a => saturateref04_Pattern.f a.1) saturateref04_Pattern.con
def saturateref01_Add.a : ACods (Int × Int × Int × Unit) := (.cons (.val (.int .i64)) (.cons (.val (.int .u64)) (.cons (.val (.int .u64)) .nil)))
def saturateref01_Add.r : RCod (Int) := .val (.int .u64)
noncomputable def saturateref01_Add.cs : List (Kn Tryz.prog) := [saturateref01_W.c, saturateref01_Bit.c]
def saturateref01_Add.live : Nat → Option Keep := liveOf [(7, ⟨[1, 2, 7, 8, 12, 13], [], [], [], []⟩)]
noncomputable def saturateref01_Add.body : Code := bodyOf Tryz.f193
noncomputable def saturateref01_Add.K (fu : Nat) : Code → St → (Ex → St → Option (Int)) → Option (Int) := codeK Tryz.prog (saturateref01_Add.cs) saturateref01_Add.live fu
noncomputable def saturateref01_Add.j3 (fu n3 : Nat) (x1 x2 x7 x8 x12 x13 : Int) : Option Int :=
  loopK (saturateref01_Add.K fu (sub saturateref01_Add.body [true, true, false, true, false, false])) (saturateref01_Add.live 7) n3 (stOf 36 [(1, .val (.int .u64 x1)), (2, .val (.int .u64 x2)), (7, .val (.int .u64 x7)), (8, .val (.int .u64 x8)), (12, .val (.int .i64 x12)), (13, .val (.int .i64 x13))] []) (blockC 0 (seqC fu (saturateref01_Add.live 18) (saturateref01_Add.K fu (sub saturateref01_Add.body [true, true, true])) (retC Tryz.prog Tryz.f193.results saturateref01_Add.r.dec)))
theorem saturateref01_Add.j3_succ (fu n3 : Nat) (x1 x2 x7 x8 x12 x13 : Int) : saturateref01_Add.j3 fu (n3 + 1) x1 x2 x7 x8 x12 x13 =
  bif (decide (x13 < x12)) then
    (saturateref01_Bit.f x1 x13).bind fun r2 =>
    (saturateref01_Bit.f x2 x13).bind fun r3 =>
    bif decide ((IntKind.u64.wrap x13) < 0) then
      none
    else
      saturateref01_Add.j3 fu n3 x1 x2 (Go.bits .or .u64 x7 (shl .u64 (Int.tmod (IntKind.u64.wrap ((IntKind.u64.wrap (r2 + r3)) + x8)) 2) (IntKind.u64.wrap x13))) (IntKind.u64.wrap (Int.tdiv (IntKind.u64.wrap ((IntKind.u64.wrap (r2 + r3)) + x8)) 2)) x12 (IntKind.i64.wrap (x13 + 1))
  else
    some x7 := by kernel_rfl
noncomputable def saturateref01_Add.g (fu : Nat) (a0 a1 a2 : Int) : Option (Int) :=
  (saturateref01_W.f a0).bind fun r1 =>
  saturateref01_Add.j3 fu fu a1 a2 0 0 r1 0
noncomputable def saturateref01_Add.f (a0 a1 a2 : Int) : Option (Int) := saturateref01_Add.g (fuel0 + 1) a0 a1 a2
theorem saturateref01_Add.eq (fu : Nat) (a : Int × Int × Int × Unit) : bodyK Tryz.prog saturateref01_Add.cs saturateref01_Add.live fu Tryz.f193 (saturateref01_Add.a.enc a) saturateref01_Add.r.dec = saturateref01_Add.g fu a.1 a.2.1 a.2.2.1 := by kernel_rfl
theorem saturateref01_Add.con : ∀ (a : Int × Int × Int × Unit) (r : Int), saturateref01_Add.f a.1 a.2.1 a.2.2.1 = some r → Contract Tryz.prog 193 (saturateref01_Add.a.enc a) (saturateref01_Add.r.enc r) := Contract.of_body (by kernel_rfl) (by kernel_rfl) mixed (saturateref01_Add.eq (fuel0 + 1))
noncomputable def saturateref01_Add.c : Kn Tryz.prog := Kn.of 193 saturateref01_Add.a saturateref01_Add.r (fun a => saturateref01_Add.f a.1 a.2.1 a.2.2.1) saturateref01_Add.con
def saturateref01_Mul.a : ACods (Int × Int × Int × Unit) := (.cons (.val (.int .i64)) (.cons (.val (.int .u64)) (.cons (.val (.int .u64)) .nil)))
def saturateref01_Mul.r : RCod (Int) := .val (.int .u64)
noncomputable def saturateref01_Mul.cs : List (Kn Tryz.prog) := [saturateref01_W.c, saturateref01_Add.c, saturateref01_Bit.c]
def saturateref01_Mul.live : Nat → Option Keep := liveOf [(7, ⟨[0, 1, 2, 7, 8], [], [], [], []⟩), (8, ⟨[0, 1, 2, 7, 8], [], [], [], []⟩)]
noncomputable def saturateref01_Mul.body : Code := bodyOf Tryz.f195
noncomputable def saturateref01_Mul.K (fu : Nat) : Code → St → (Ex → St → Option (Int)) → Option (Int) := codeK Tryz.prog (saturateref01_Mul.cs) saturateref01_Mul.live fu
noncomputable def saturateref01_Mul.j3 (fu n3 : Nat) (x0 x1 x2 x7 x8 : Int) : Option Int :=
  loopK (saturateref01_Mul.K fu (sub saturateref01_Mul.body [true, true, false, true, false, false])) (saturateref01_Mul.live 7) n3 (stOf 29 [(0, .val (.int .i64 x0)), (1, .val (.int .u64 x1)), (2, .val (.int .u64 x2)), (7, .val (.int .u64 x7)), (8, .val (.int .i64 x8))] []) (blockC 0 (seqC fu (saturateref01_Mul.live 16) (saturateref01_Mul.K fu (sub saturateref01_Mul.body [true, true, true])) (retC Tryz.prog Tryz.f195.results saturateref01_Mul.r.dec)))
noncomputable def saturateref01_Mul.p4 (m fu : Nat) (n3 : Nat) (x0 x1 x2 x7 x8 : Int) : Option Int :=
  joinK m (saturateref01_Mul.K fu (sub saturateref01_Mul.body [true, true, false, true, false, false, true, true])) (stOf 29 [(0, .val (.int .i64 x0)), (1, .val (.int .u64 x1)), (2, .val (.int .u64 x2)), (7, .val (.int .u64 x7)), (8, .val (.int .i64 x8))] []) (roundC (saturateref01_Mul.live 7) (loopK (saturateref01_Mul.K fu (sub saturateref01_Mul.body [true, true, false, true, false, false])) (saturateref01_Mul.live 7) n3) (blockC 0 (seqC fu (saturateref01_Mul.live 16) (saturateref01_Mul.K fu (sub saturateref01_Mul.body [true, true, true])) (retC Tryz.prog Tryz.f195.results saturateref01_Mul.r.dec))))
theorem saturateref01_Mul.p4_eq (m fu : Nat) (n3 : Nat) (x0 x1 x2 x7 x8 : Int) : saturateref01_Mul.p4 (m + 1) fu n3 x0 x1 x2 x7 x8 =
  saturateref01_Mul.j3 fu n3 x0 x1 x2 x7 (IntKind.i64.wrap (x8 - 1)) := by kernel_rfl
theorem saturateref01_Mul.j3_succ (fu n3 : Nat) (x0 x1 x2 x7 x8 : Int) : saturateref01_Mul.j3 fu (n3 + 1) x0 x1 x2 x7 x8 =
  bif (decide (x8 ≥ 0)) then
    (saturateref01_Add.f x0 x7 x7).bind fun r2 =>
    (saturateref01_Bit.f x2 x8).bind fun r3 =>
    bif (r3 == 1) then
      (saturateref01_Add.f x0 r2 x1).bind fun r4 =>
      saturateref01_Mul.p4 fu fu n3 x0 x1 x2 r4 x8
    else
      saturateref01_Mul.p4 fu fu n3 x0 x1 x2 r2 x8
  else
    some x7 := by kernel_rfl
noncomputable def saturateref01_Mul.g (fu : Nat) (a0 a1 a2 : Int) : Option (Int) :=
  (saturateref01_W.f a0).bind fun r1 =>
  saturateref01_Mul.j3 fu fu a0 a1 a2 0 (IntKind.i64.wrap (r1 - 1))
noncomputable def saturateref01_Mul.f (a0 a1 a2 : Int) : Option (Int) := saturateref01_Mul.g (fuel0 + 1) a0 a1 a2
theorem saturateref01_Mul.eq (fu : Nat) (a : Int × Int × Int × Unit) : bodyK Tryz.prog saturateref01_Mul.cs saturateref01_Mul.live fu Tryz.f195 (saturateref01_Mul.a.enc a) saturateref01_Mul.r.dec = saturateref01_Mul.g fu a.1 a.2.1 a.2.2.1 := by kernel_rfl
theorem saturateref01_Mul.con : ∀ (a : Int × Int × Int × Unit) (r : Int), saturateref01_Mul.f a.1 a.2.1 a.2.2.1 = some r → Contract Tryz.prog 195 (saturateref01_Mul.a.enc a) (saturateref01_Mul.r.enc r) := Contract.of_body (by kernel_rfl) (by kernel_rfl) mixed (saturateref01_Mul.eq (fuel0 + 1))
noncomputable def saturateref01_Mul.c : Kn Tryz.prog := Kn.of 195 saturateref01_Mul.a saturateref01_Mul.r (fun a => saturateref01_Mul.f a.1 a.2.1 a.2.2.1) saturateref01_Mul.con
end Go.Proofs.YtcihbcffokjgjaaGreat.Fn
