/- What the functions return, as the evaluator tells it: written by a program of this workplace (mev.py); Lean checks each equation. What the functions return, as the evaluator tells it: written by a program of this workplace (mev.py); Lean checks each equation. What the functions return, as the evaluator tells it: written by a program of this workplace (mev.py); Lean checks each equation. -/
import Derived.Test.YtcihbcffokjgjaaGreatProg
import Derived.Test.YtcihbcffokjgjaaGreatTEvC
import Derived.Test.YtcihbcffokjgjaaGreatTF0
import Derived.Test.YtcihbcffokjgjaaGreatTF9
import Derived.Test.YtcihbcffokjgjaaGreatTF3
import Derived.Test.YtcihbcffokjgjaaGreatTF2
namespace Go.Proofs.YtcihbcffokjgjaaGreat.Fn
open Go Go.RowKit Go.Proofs.YtcihbcffokjgjaaGreat.Ev Go.Proofs
set_option linter.unusedVariables false
set_option maxRecDepth 100000
def saturateref01_divide.a : ACods (Int × Int × Unit) := (.cons (.val (.int .u64)) (.cons (.val (.int .u64)) .nil))
def saturateref01_divide.r : RCod (Int × Int) := .val (.tup (.cons (.int .u64) (.one (.int .u64))))
noncomputable def saturateref01_divide.cs : List (Kn Tryz.prog) := [saturateref01_Bit.c]
def saturateref01_divide.live : Nat → Option Keep := liveOf [(7, ⟨[0, 1, 6, 7, 8], [], [], [], []⟩), (8, ⟨[0, 1, 6, 7, 8], [], [], [], []⟩)]
noncomputable def saturateref01_divide.body : Code := bodyOf Tryz.f229
noncomputable def saturateref01_divide.K (fu : Nat) : Code → St → (Ex → St → Option (Int × Int)) → Option (Int × Int) := codeK Tryz.prog (saturateref01_divide.cs) saturateref01_divide.live fu
noncomputable def saturateref01_divide.j3 (fu n3 : Nat) (x0 x1 x6 x7 x8 : Int) : Option (Int × Int) :=
  loopK (saturateref01_divide.K fu (sub saturateref01_divide.body [true, true, false, true, false, false])) (saturateref01_divide.live 7) n3 (stOf 39 [(0, .val (.int .u64 x0)), (1, .val (.int .u64 x1)), (6, .val (.int .u64 x6)), (7, .val (.int .u64 x7)), (8, .val (.int .i64 x8))] []) (blockC 0 (seqC fu (saturateref01_divide.live 20) (saturateref01_divide.K fu (sub saturateref01_divide.body [true, true, true])) (retC Tryz.prog Tryz.f229.results saturateref01_divide.r.dec)))
noncomputable def saturateref01_divide.p4 (m fu : Nat) (n3 : Nat) (x0 x1 x6 x7 x8 : Int) : Option (Int × Int) :=
  joinK m (saturateref01_divide.K fu (sub saturateref01_divide.body [true, true, false, true, false, false, true, true])) (stOf 39 [(0, .val (.int .u64 x0)), (1, .val (.int .u64 x1)), (6, .val (.int .u64 x6)), (7, .val (.int .u64 x7)), (8, .val (.int .i64 x8))] []) (roundC (saturateref01_divide.live 7) (loopK (saturateref01_divide.K fu (sub saturateref01_divide.body [true, true, false, true, false, false])) (saturateref01_divide.live 7) n3) (blockC 0 (seqC fu (saturateref01_divide.live 20) (saturateref01_divide.K fu (sub saturateref01_divide.body [true, true, true])) (retC Tryz.prog Tryz.f229.results saturateref01_divide.r.dec))))
theorem saturateref01_divide.p4_eq (m fu : Nat) (n3 : Nat) (x0 x1 x6 x7 x8 : Int) : saturateref01_divide.p4 (m + 1) fu n3 x0 x1 x6 x7 x8 =
  saturateref01_divide.j3 fu n3 x0 x1 x6 x7 (IntKind.i64.wrap (x8 - 1)) := by kernel_rfl
theorem saturateref01_divide.j3_succ (fu n3 : Nat) (x0 x1 x6 x7 x8 : Int) : saturateref01_divide.j3 fu (n3 + 1) x0 x1 x6 x7 x8 =
  bif (decide (x8 ≥ 0)) then
    (saturateref01_Bit.f x7 63).bind fun r1 =>
    (saturateref01_Bit.f x0 x8).bind fun r2 =>
    bif (r1 == 1) then
      bif decide ((IntKind.u64.wrap x8) < 0) then
        none
      else
        saturateref01_divide.p4 fu fu n3 x0 x1 (Go.bits .or .u64 x6 (shl .u64 1 (IntKind.u64.wrap x8))) (IntKind.u64.wrap ((IntKind.u64.wrap ((IntKind.u64.wrap (x7 * 2)) + r2)) - x1)) x8
    else
      bif (decide ((IntKind.u64.wrap ((IntKind.u64.wrap (x7 * 2)) + r2)) ≥ x1)) then
        bif decide ((IntKind.u64.wrap x8) < 0) then
          none
        else
          saturateref01_divide.p4 fu fu n3 x0 x1 (Go.bits .or .u64 x6 (shl .u64 1 (IntKind.u64.wrap x8))) (IntKind.u64.wrap ((IntKind.u64.wrap ((IntKind.u64.wrap (x7 * 2)) + r2)) - x1)) x8
      else
        saturateref01_divide.p4 fu fu n3 x0 x1 x6 (IntKind.u64.wrap ((IntKind.u64.wrap (x7 * 2)) + r2)) x8
  else
    some (x6, x7) := by kernel_rfl
noncomputable def saturateref01_divide.g (fu : Nat) (a0 a1 : Int) : Option (Int × Int) :=
  saturateref01_divide.j3 fu fu a0 a1 0 0 63
noncomputable def saturateref01_divide.f (a0 a1 : Int) : Option (Int × Int) := saturateref01_divide.g (fuel0 + 1) a0 a1
theorem saturateref01_divide.eq (fu : Nat) (a : Int × Int × Unit) : bodyK Tryz.prog saturateref01_divide.cs saturateref01_divide.live fu Tryz.f229 (saturateref01_divide.a.enc a) saturateref01_divide.r.dec = saturateref01_divide.g fu a.1 a.2.1 := by kernel_rfl
theorem saturateref01_divide.con : ∀ (a : Int × Int × Unit) (r : Int × Int), saturateref01_divide.f a.1 a.2.1 = some r → Contract Tryz.prog 229 (saturateref01_divide.a.enc a) (saturateref01_divide.r.enc r) := Contract.of_body (by kernel_rfl) (by kernel_rfl) mixed (saturateref01_divide.eq (fuel0 + 1))
noncomputable def saturateref01_divide.c : Kn Tryz.prog := Kn.of 229 saturateref01_divide.a saturateref01_divide.r (fun a => saturateref01_divide.f a.1 a.2.1) saturateref01_divide.con
def saturateref01_Udiv.a : ACods (Int × Int × Int × Unit) := (.cons (.val (.int .i64)) (.cons (.val (.int .u64)) (.cons (.val (.int .u64)) .nil)))
def saturateref01_Udiv.r : RCod (Int) := .val (.int .u64)
noncomputable def saturateref01_Udiv.cs : List (Kn Tryz.prog) := [saturateref01_Cut.c, saturateref01_Mask.c, saturateref01_divide.c]
def saturateref01_Udiv.live : Nat → Option Keep := liveOf []
noncomputable def saturateref01_Udiv.f (a0 a1 a2 : Int) : Option (Int) :=
  (saturateref01_Cut.f a0 a2).bind fun r1 =>
  bif (r1 == 0) then
    (saturateref01_Mask.f a0).bind fun r2 =>
    some r2
  else
    (saturateref01_Cut.f a0 a1).bind fun r3 =>
    (saturateref01_Cut.f a0 a2).bind fun r4 =>
    (saturateref01_divide.f r3 r4).bind fun r5 =>
    some r5.1
theorem saturateref01_Udiv.eq (fu : Nat) (a : Int × Int × Int × Unit) : bodyK Tryz.prog saturateref01_Udiv.cs saturateref01_Udiv.live fu Tryz.f196 (saturateref01_Udiv.a.enc a) saturateref01_Udiv.r.dec = saturateref01_Udiv.f a.1 a.2.1 a.2.2.1 := by kernel_rfl
theorem saturateref01_Udiv.con : ∀ (a : Int × Int × Int × Unit) (r : Int), saturateref01_Udiv.f a.1 a.2.1 a.2.2.1 = some r → Contract Tryz.prog 196 (saturateref01_Udiv.a.enc a) (saturateref01_Udiv.r.enc r) := Contract.of_body (by kernel_rfl) (by kernel_rfl) mixed (saturateref01_Udiv.eq (fuel0 + 1))
noncomputable def saturateref01_Udiv.c : Kn Tryz.prog := Kn.of 196 saturateref01_Udiv.a saturateref01_Udiv.r (fun a => saturateref01_Udiv.f a.1 a.2.1 a.2.2.1) saturateref01_Udiv.con
def saturateref01_Urem.a : ACods (Int × Int × Int × Unit) := (.cons (.val (.int .i64)) (.cons (.val (.int .u64)) (.cons (.val (.int .u64)) .nil)))
def saturateref01_Urem.r : RCod (Int) := .val (.int .u64)
noncomputable def saturateref01_Urem.cs : List (Kn Tryz.prog) := [saturateref01_Cut.c, saturateref01_divide.c]
def saturateref01_Urem.live : Nat → Option Keep := liveOf []
noncomputable def saturateref01_Urem.f (a0 a1 a2 : Int) : Option (Int) :=
  (saturateref01_Cut.f a0 a2).bind fun r1 =>
  bif (r1 == 0) then
    (saturateref01_Cut.f a0 a1).bind fun r2 =>
    some r2
  else
    (saturateref01_Cut.f a0 a1).bind fun r3 =>
    (saturateref01_Cut.f a0 a2).bind fun r4 =>
    (saturateref01_divide.f r3 r4).bind fun r5 =>
    some r5.2
theorem saturateref01_Urem.eq (fu : Nat) (a : Int × Int × Int × Unit) : bodyK Tryz.prog saturateref01_Urem.cs saturateref01_Urem.live fu Tryz.f197 (saturateref01_Urem.a.enc a) saturateref01_Urem.r.dec = saturateref01_Urem.f a.1 a.2.1 a.2.2.1 := by kernel_rfl
theorem saturateref01_Urem.con : ∀ (a : Int × Int × Int × Unit) (r : Int), saturateref01_Urem.f a.1 a.2.1 a.2.2.1 = some r → Contract Tryz.prog 197 (saturateref01_Urem.a.enc a) (saturateref01_Urem.r.enc r) := Contract.of_body (by kernel_rfl) (by kernel_rfl) mixed (saturateref01_Urem.eq (fuel0 + 1))
noncomputable def saturateref01_Urem.c : Kn Tryz.prog := Kn.of 197 saturateref01_Urem.a saturateref01_Urem.r (fun a => saturateref01_Urem.f a.1 a.2.1 a.2.2.1) saturateref01_Urem.con
def saturateref01_truth.a : ACods (Bool × Unit) := (.cons (.val (.bool)) .nil)
def saturateref01_truth.r : RCod (Int) := .val (.int .u64)
noncomputable def saturateref01_truth.cs : List (Kn Tryz.prog) := []
def saturateref01_truth.live : Nat → Option Keep := liveOf []
noncomputable def saturateref01_truth.f (a0 : Bool) : Option (Int) :=
  bif a0 then
    some 1
  else
    some 0
theorem saturateref01_truth.eq (fu : Nat) (a : Bool × Unit) : bodyK Tryz.prog saturateref01_truth.cs saturateref01_truth.live fu Tryz.f230 (saturateref01_truth.a.enc a) saturateref01_truth.r.dec = saturateref01_truth.f a.1 := by kernel_rfl
theorem saturateref01_truth.con : ∀ (a : Bool × Unit) (r : Int), saturateref01_truth.f a.1 = some r → Contract Tryz.prog 230 (saturateref01_truth.a.enc a) (saturateref01_truth.r.enc r) := Contract.of_body (by kernel_rfl) (by kernel_rfl) mixed (saturateref01_truth.eq (fuel0 + 1))
noncomputable def saturateref01_truth.c : Kn Tryz.prog := Kn.of 230 saturateref01_truth.a saturateref01_truth.r (fun a => saturateref01_truth.f a.1) saturateref01_truth.con
def saturateref01_Ult.a : ACods (Int × Int × Int × Unit) := (.cons (.val (.int .i64)) (.cons (.val (.int .u64)) (.cons (.val (.int .u64)) .nil)))
def saturateref01_Ult.r : RCod (Int) := .val (.int .u64)
noncomputable def saturateref01_Ult.cs : List (Kn Tryz.prog) := [saturateref01_Cut.c, saturateref01_truth.c]
def saturateref01_Ult.live : Nat → Option Keep := liveOf []
noncomputable def saturateref01_Ult.f (a0 a1 a2 : Int) : Option (Int) :=
  (saturateref01_Cut.f a0 a1).bind fun r1 =>
  (saturateref01_Cut.f a0 a2).bind fun r2 =>
  (saturateref01_truth.f (decide (r1 < r2))).bind fun r3 =>
  some r3
theorem saturateref01_Ult.eq (fu : Nat) (a : Int × Int × Int × Unit) : bodyK Tryz.prog saturateref01_Ult.cs saturateref01_Ult.live fu Tryz.f201 (saturateref01_Ult.a.enc a) saturateref01_Ult.r.dec = saturateref01_Ult.f a.1 a.2.1 a.2.2.1 := by kernel_rfl
theorem saturateref01_Ult.con : ∀ (a : Int × Int × Int × Unit) (r : Int), saturateref01_Ult.f a.1 a.2.1 a.2.2.1 = some r → Contract Tryz.prog 201 (saturateref01_Ult.a.enc a) (saturateref01_Ult.r.enc r) := Contract.of_body (by kernel_rfl) (by kernel_rfl) mixed (saturateref01_Ult.eq (fuel0 + 1))
noncomputable def saturateref01_Ult.c : Kn Tryz.prog := Kn.of 201 saturateref01_Ult.a saturateref01_Ult.r (fun a => saturateref01_Ult.f a.1 a.2.1 a.2.2.1) saturateref01_Ult.con
def saturateref01_Negative.a : ACods (Int × Int × Unit) := (.cons (.val (.int .i64)) (.cons (.val (.int .u64)) .nil))
def saturateref01_Negative.r : RCod (Bool) := .val (.bool)
noncomputable def saturateref01_Negative.cs : List (Kn Tryz.prog) := [saturateref01_W.c, saturateref01_Bit.c]
def saturateref01_Negative.live : Nat → Option Keep := liveOf []
noncomputable def saturateref01_Negative.f (a0 a1 : Int) : Option (Bool) :=
  (saturateref01_W.f a0).bind fun r1 =>
  (saturateref01_Bit.f a1 (IntKind.i64.wrap (r1 - 1))).bind fun r2 =>
  some (r2 == 1)
theorem saturateref01_Negative.eq (fu : Nat) (a : Int × Int × Unit) : bodyK Tryz.prog saturateref01_Negative.cs saturateref01_Negative.live fu Tryz.f236 (saturateref01_Negative.a.enc a) saturateref01_Negative.r.dec = saturateref01_Negative.f a.1 a.2.1 := by kernel_rfl
theorem saturateref01_Negative.con : ∀ (a : Int × Int × Unit) (r : Bool), saturateref01_Negative.f a.1 a.2.1 = some r → Contract Tryz.prog 236 (saturateref01_Negative.a.enc a) (saturateref01_Negative.r.enc r) := Contract.of_body (by kernel_rfl) (by kernel_rfl) mixed (saturateref01_Negative.eq (fuel0 + 1))
noncomputable def saturateref01_Negative.c : Kn Tryz.prog := Kn.of 236 saturateref01_Negative.a saturateref01_Negative.r (fun a => saturateref01_Negative.f a.1 a.2.1) saturateref01_Negative.con
def saturateref01_Signed.a : ACods (Int × Int × Unit) := (.cons (.val (.int .i64)) (.cons (.val (.int .u64)) .nil))
def saturateref01_Signed.r : RCod (Int) := .val (.int .i64)
noncomputable def saturateref01_Signed.cs : List (Kn Tryz.prog) := [saturateref01_Cut.c, saturateref01_Negative.c, saturateref01_Mask.c]
def saturateref01_Signed.live : Nat → Option Keep := liveOf []
noncomputable def saturateref01_Signed.f (a0 a1 : Int) : Option (Int) :=
  (saturateref01_Cut.f a0 a1).bind fun r1 =>
  (saturateref01_Negative.f a0 a1).bind fun r2 =>
  bif r2 then
    (saturateref01_Mask.f a0).bind fun r3 =>
    some (IntKind.i64.wrap ((IntKind.i64.wrap (0 - (IntKind.i64.wrap (IntKind.u64.wrap (r3 - r1))))) - 1))
  else
    some (IntKind.i64.wrap r1)
theorem saturateref01_Signed.eq (fu : Nat) (a : Int × Int × Unit) : bodyK Tryz.prog saturateref01_Signed.cs saturateref01_Signed.live fu Tryz.f231 (saturateref01_Signed.a.enc a) saturateref01_Signed.r.dec = saturateref01_Signed.f a.1 a.2.1 := by kernel_rfl
theorem saturateref01_Signed.con : ∀ (a : Int × Int × Unit) (r : Int), saturateref01_Signed.f a.1 a.2.1 = some r → Contract Tryz.prog 231 (saturateref01_Signed.a.enc a) (saturateref01_Signed.r.enc r) := Contract.of_body (by kernel_rfl) (by kernel_rfl) mixed (saturateref01_Signed.eq (fuel0 + 1))
noncomputable def saturateref01_Signed.c : Kn Tryz.prog := Kn.of 231 saturateref01_Signed.a saturateref01_Signed.r (fun a => saturateref01_Signed.f a.1 a.2.1) saturateref01_Signed.con
def saturateref01_Slt.a : ACods (Int × Int × Int × Unit) := (.cons (.val (.int .i64)) (.cons (.val (.int .u64)) (.cons (.val (.int .u64)) .nil)))
def saturateref01_Slt.r : RCod (Int) := .val (.int .u64)
noncomputable def saturateref01_Slt.cs : List (Kn Tryz.prog) := [saturateref01_Signed.c, saturateref01_truth.c]
def saturateref01_Slt.live : Nat → Option Keep := liveOf []
noncomputable def saturateref01_Slt.f (a0 a1 a2 : Int) : Option (Int) :=
  (saturateref01_Signed.f a0 a1).bind fun r1 =>
  (saturateref01_Signed.f a0 a2).bind fun r2 =>
  (saturateref01_truth.f (decide (r1 < r2))).bind fun r3 =>
  some r3
theorem saturateref01_Slt.eq (fu : Nat) (a : Int × Int × Int × Unit) : bodyK Tryz.prog saturateref01_Slt.cs saturateref01_Slt.live fu Tryz.f202 (saturateref01_Slt.a.enc a) saturateref01_Slt.r.dec = saturateref01_Slt.f a.1 a.2.1 a.2.2.1 := by kernel_rfl
theorem saturateref01_Slt.con : ∀ (a : Int × Int × Int × Unit) (r : Int), saturateref01_Slt.f a.1 a.2.1 a.2.2.1 = some r → Contract Tryz.prog 202 (saturateref01_Slt.a.enc a) (saturateref01_Slt.r.enc r) := Contract.of_body (by kernel_rfl) (by kernel_rfl) mixed (saturateref01_Slt.eq (fuel0 + 1))
noncomputable def saturateref01_Slt.c : Kn Tryz.prog := Kn.of 202 saturateref01_Slt.a saturateref01_Slt.r (fun a => saturateref01_Slt.f a.1 a.2.1 a.2.2.1) saturateref01_Slt.con
def saturateref01_Concat.a : ACods (Int × Int × Int × Int × Unit) := (.cons (.val (.int .i64)) (.cons (.val (.int .i64)) (.cons (.val (.int .u64)) (.cons (.val (.int .u64)) .nil))))
def saturateref01_Concat.r : RCod (Int) := .val (.int .u64)
noncomputable def saturateref01_Concat.cs : List (Kn Tryz.prog) := [saturateref01_Cut.c, saturateref01_W.c, saturateref01_Bit.c]
def saturateref01_Concat.live : Nat → Option Keep := liveOf [(7, ⟨[1, 2, 9, 15, 16], [], [], [], []⟩), (14, ⟨[1, 2, 9, 15, 16], [], [], [], []⟩)]
noncomputable def saturateref01_Concat.body : Code := bodyOf Tryz.f110
noncomputable def saturateref01_Concat.K (fu : Nat) : Code → St → (Ex → St → Option (Int)) → Option (Int) := codeK Tryz.prog (saturateref01_Concat.cs) saturateref01_Concat.live fu
noncomputable def saturateref01_Concat.j3 (fu n3 : Nat) (x1 x2 x9 x15 x16 : Int) : Option Int :=
  loopK (saturateref01_Concat.K fu (sub saturateref01_Concat.body [true, true, false, true, false, false])) (saturateref01_Concat.live 7) n3 (stOf 37 [(1, .val (.int .i64 x1)), (2, .val (.int .u64 x2)), (9, .val (.int .u64 x9)), (15, .val (.int .i64 x15)), (16, .val (.int .i64 x16))] []) (blockC 0 (seqC fu (saturateref01_Concat.live 16) (saturateref01_Concat.K fu (sub saturateref01_Concat.body [true, true, true])) (retC Tryz.prog Tryz.f110.results saturateref01_Concat.r.dec)))
noncomputable def saturateref01_Concat.p7 (m fu : Nat) (n3 : Nat) (x1 x2 x9 x15 x16 : Int) : Option Int :=
  joinK m (saturateref01_Concat.K fu (sub saturateref01_Concat.body [true, true, false, true, false, false, true, true, true])) (stOf 37 [(1, .val (.int .i64 x1)), (2, .val (.int .u64 x2)), (9, .val (.int .u64 x9)), (15, .val (.int .i64 x15)), (16, .val (.int .i64 x16))] []) (roundC (saturateref01_Concat.live 7) (loopK (saturateref01_Concat.K fu (sub saturateref01_Concat.body [true, true, false, true, false, false])) (saturateref01_Concat.live 7) n3) (blockC 0 (seqC fu (saturateref01_Concat.live 16) (saturateref01_Concat.K fu (sub saturateref01_Concat.body [true, true, true])) (retC Tryz.prog Tryz.f110.results saturateref01_Concat.r.dec))))
theorem saturateref01_Concat.p7_eq (m fu : Nat) (n3 : Nat) (x1 x2 x9 x15 x16 : Int) : saturateref01_Concat.p7 (m + 1) fu n3 x1 x2 x9 x15 x16 =
  saturateref01_Concat.j3 fu n3 x1 x2 x9 x15 (IntKind.i64.wrap (x16 + 1)) := by kernel_rfl
theorem saturateref01_Concat.j3_succ (fu n3 : Nat) (x1 x2 x9 x15 x16 : Int) : saturateref01_Concat.j3 fu (n3 + 1) x1 x2 x9 x15 x16 =
  bif (decide (x16 < x15)) then
    (saturateref01_W.f x1).bind fun r3 =>
    bif (decide ((IntKind.i64.wrap (x16 + r3)) < 64)) then
      (saturateref01_Bit.f x2 x16).bind fun r4 =>
      (saturateref01_W.f x1).bind fun r5 =>
      bif decide ((IntKind.u64.wrap (IntKind.i64.wrap (x16 + r5))) < 0) then
        none
      else
        saturateref01_Concat.p7 fu fu n3 x1 x2 (Go.bits .or .u64 x9 (shl .u64 r4 (IntKind.u64.wrap (IntKind.i64.wrap (x16 + r5))))) x15 x16
    else
      saturateref01_Concat.p7 fu fu n3 x1 x2 x9 x15 x16
  else
    some x9 := by kernel_rfl
noncomputable def saturateref01_Concat.g (fu : Nat) (a0 a1 a2 a3 : Int) : Option (Int) :=
  (saturateref01_Cut.f a1 a3).bind fun r1 =>
  (saturateref01_W.f a0).bind fun r2 =>
  saturateref01_Concat.j3 fu fu a1 a2 r1 r2 0
noncomputable def saturateref01_Concat.f (a0 a1 a2 a3 : Int) : Option (Int) := saturateref01_Concat.g (fuel0 + 1) a0 a1 a2 a3
theorem saturateref01_Concat.eq (fu : Nat) (a : Int × Int × Int × Int × Unit) : bodyK Tryz.prog saturateref01_Concat.cs saturateref01_Concat.live fu Tryz.f110 (saturateref01_Concat.a.enc a) saturateref01_Concat.r.dec = saturateref01_Concat.g fu a.1 a.2.1 a.2.2.1 a.2.2.2.1 := by kernel_rfl
theorem saturateref01_Concat.con : ∀ (a : Int × Int × Int × Int × Unit) (r : Int), saturateref01_Concat.f a.1 a.2.1 a.2.2.1 a.2.2.2.1 = some r → Contract Tryz.prog 110 (saturateref01_Concat.a.enc a) (saturateref01_Concat.r.enc r) := Contract.of_body (by kernel_rfl) (by kernel_rfl) mixed (saturateref01_Concat.eq (fuel0 + 1))
noncomputable def saturateref01_Concat.c : Kn Tryz.prog := Kn.of 110 saturateref01_Concat.a saturateref01_Concat.r (fun a => saturateref01_Concat.f a.1 a.2.1 a.2.2.1 a.2.2.2.1) saturateref01_Concat.con
def saturateref01_by.a : ACods (Int × Int × Unit) := (.cons (.val (.int .i64)) (.cons (.val (.int .u64)) .nil))
def saturateref01_by.r : RCod (Int) := .val (.int .i64)
noncomputable def saturateref01_by.cs : List (Kn Tryz.prog) := [saturateref01_Cut.c]
def saturateref01_by.live : Nat → Option Keep := liveOf []
noncomputable def saturateref01_by.f (a0 a1 : Int) : Option (Int) :=
  (saturateref01_Cut.f a0 a1).bind fun r1 =>
  some (IntKind.i64.wrap (mn r1 64))
theorem saturateref01_by.eq (fu : Nat) (a : Int × Int × Unit) : bodyK Tryz.prog saturateref01_by.cs saturateref01_by.live fu Tryz.f225 (saturateref01_by.a.enc a) saturateref01_by.r.dec = saturateref01_by.f a.1 a.2.1 := by kernel_rfl
theorem saturateref01_by.con : ∀ (a : Int × Int × Unit) (r : Int), saturateref01_by.f a.1 a.2.1 = some r → Contract Tryz.prog 225 (saturateref01_by.a.enc a) (saturateref01_by.r.enc r) := Contract.of_body (by kernel_rfl) (by kernel_rfl) mixed (saturateref01_by.eq (fuel0 + 1))
noncomputable def saturateref01_by.c : Kn Tryz.prog := Kn.of 225 saturateref01_by.a saturateref01_by.r (fun a => saturateref01_by.f a.1 a.2.1) saturateref01_by.con
def saturateref01_shift.a : ACods (Int × Int × Int × Int × Unit) := (.cons (.val (.int .i64)) (.cons (.val (.int .u64)) (.cons (.val (.int .i64)) (.cons (.val (.int .u64)) .nil))))
def saturateref01_shift.r : RCod (Int) := .val (.int .u64)
noncomputable def saturateref01_shift.cs : List (Kn Tryz.prog) := [saturateref01_W.c, saturateref01_Bit.c]
def saturateref01_shift.live : Nat → Option Keep := liveOf [(7, ⟨[0, 1, 2, 3, 9, 13, 14], [], [], [], []⟩), (16, ⟨[0, 1, 2, 3, 9, 10, 11, 13, 14], [], [], [], []⟩)]
noncomputable def saturateref01_shift.body : Code := bodyOf Tryz.f224
noncomputable def saturateref01_shift.K (fu : Nat) : Code → St → (Ex → St → Option (Int)) → Option (Int) := codeK Tryz.prog (saturateref01_shift.cs) saturateref01_shift.live fu
noncomputable def saturateref01_shift.j3 (fu n3 : Nat) (x0 x1 x2 x3 x9 x13 x14 : Int) : Option Int :=
  loopK (saturateref01_shift.K fu (sub saturateref01_shift.body [true, true, false, true, false, false])) (saturateref01_shift.live 7) n3 (stOf 37 [(0, .val (.int .i64 x0)), (1, .val (.int .u64 x1)), (2, .val (.int .i64 x2)), (3, .val (.int .u64 x3)), (9, .val (.int .u64 x9)), (13, .val (.int .i64 x13)), (14, .val (.int .i64 x14))] []) (blockC 0 (seqC fu (saturateref01_shift.live 20) (saturateref01_shift.K fu (sub saturateref01_shift.body [true, true, true])) (retC Tryz.prog Tryz.f224.results saturateref01_shift.r.dec)))
noncomputable def saturateref01_shift.p8 (m fu : Nat) (n3 : Nat) (x0 x1 x2 x3 x9 x10 x11 x13 x14 : Int) : Option Int :=
  joinK m (saturateref01_shift.K fu (sub saturateref01_shift.body [true, true, false, true, false, false, true, true, false, false, true, true, true])) (stOf 37 [(0, .val (.int .i64 x0)), (1, .val (.int .u64 x1)), (2, .val (.int .i64 x2)), (3, .val (.int .u64 x3)), (9, .val (.int .u64 x9)), (10, .val (.int .i64 x10)), (11, .val (.int .u64 x11)), (13, .val (.int .i64 x13)), (14, .val (.int .i64 x14))] []) (blockC 1 (seqC fu (saturateref01_shift.live 18) (saturateref01_shift.K fu (sub saturateref01_shift.body [true, true, false, true, false, false, true, true, true])) (roundC (saturateref01_shift.live 7) (loopK (saturateref01_shift.K fu (sub saturateref01_shift.body [true, true, false, true, false, false])) (saturateref01_shift.live 7) n3) (blockC 0 (seqC fu (saturateref01_shift.live 20) (saturateref01_shift.K fu (sub saturateref01_shift.body [true, true, true])) (retC Tryz.prog Tryz.f224.results saturateref01_shift.r.dec))))))
theorem saturateref01_shift.p8_eq (m fu : Nat) (n3 : Nat) (x0 x1 x2 x3 x9 x10 x11 x13 x14 : Int) : saturateref01_shift.p8 (m + 1) fu n3 x0 x1 x2 x3 x9 x10 x11 x13 x14 =
  bif decide ((IntKind.u64.wrap x10) < 0) then
    none
  else
    saturateref01_shift.j3 fu n3 x0 x1 x2 x3 (Go.bits .or .u64 x9 (shl .u64 x11 (IntKind.u64.wrap x10))) x13 (IntKind.i64.wrap (x14 + 1)) := by kernel_rfl
theorem saturateref01_shift.j3_succ (fu n3 : Nat) (x0 x1 x2 x3 x9 x13 x14 : Int) : saturateref01_shift.j3 fu (n3 + 1) x0 x1 x2 x3 x9 x13 x14 =
  bif (decide (x14 < x13)) then
    (saturateref01_W.f x0).bind fun r2 =>
    bif (decide ((IntKind.i64.wrap (x14 + x2)) < r2)) then
      (saturateref01_Bit.f x1 (IntKind.i64.wrap (x14 + x2))).bind fun r3 =>
      saturateref01_shift.p8 fu fu n3 x0 x1 x2 x3 x9 x14 r3 x13 x14
    else
      saturateref01_shift.p8 fu fu n3 x0 x1 x2 x3 x9 x14 x3 x13 x14
  else
    some x9 := by kernel_rfl
noncomputable def saturateref01_shift.g (fu : Nat) (a0 a1 a2 a3 : Int) : Option (Int) :=
  (saturateref01_W.f a0).bind fun r1 =>
  saturateref01_shift.j3 fu fu a0 a1 a2 a3 0 r1 0
noncomputable def saturateref01_shift.f (a0 a1 a2 a3 : Int) : Option (Int) := saturateref01_shift.g (fuel0 + 1) a0 a1 a2 a3
theorem saturateref01_shift.eq (fu : Nat) (a : Int × Int × Int × Int × Unit) : bodyK Tryz.prog saturateref01_shift.cs saturateref01_shift.live fu Tryz.f224 (saturateref01_shift.a.enc a) saturateref01_shift.r.dec = saturateref01_shift.g fu a.1 a.2.1 a.2.2.1 a.2.2.2.1 := by kernel_rfl
theorem saturateref01_shift.con : ∀ (a : Int × Int × Int × Int × Unit) (r : Int), saturateref01_shift.f a.1 a.2.1 a.2.2.1 a.2.2.2.1 = some r → Contract Tryz.prog 224 (saturateref01_shift.a.enc a) (saturateref01_shift.r.enc r) := Contract.of_body (by kernel_rfl) (by kernel_rfl) mixed (saturateref01_shift.eq (fuel0 + 1))
noncomputable def saturateref01_shift.c : Kn Tryz.prog := Kn.of 224 saturateref01_shift.a saturateref01_shift.r (fun a => saturateref01_shift.f a.1 a.2.1 a.2.2.1 a.2.2.2.1) saturateref01_shift.con
def saturateref01_Lshr.a : ACods (Int × Int × Int × Unit) := (.cons (.val (.int .i64)) (.cons (.val (.int .u64)) (.cons (.val (.int .u64)) .nil)))
def saturateref01_Lshr.r : RCod (Int) := .val (.int .u64)
noncomputable def saturateref01_Lshr.cs : List (Kn Tryz.prog) := [saturateref01_by.c, saturateref01_shift.c]
def saturateref01_Lshr.live : Nat → Option Keep := liveOf []
noncomputable def saturateref01_Lshr.f (a0 a1 a2 : Int) : Option (Int) :=
  (saturateref01_by.f a0 a2).bind fun r1 =>
  (saturateref01_shift.f a0 a1 r1 0).bind fun r2 =>
  some r2
theorem saturateref01_Lshr.eq (fu : Nat) (a : Int × Int × Int × Unit) : bodyK Tryz.prog saturateref01_Lshr.cs saturateref01_Lshr.live fu Tryz.f168 (saturateref01_Lshr.a.enc a) saturateref01_Lshr.r.dec = saturateref01_Lshr.f a.1 a.2.1 a.2.2.1 := by kernel_rfl
theorem saturateref01_Lshr.con : ∀ (a : Int × Int × Int × Unit) (r : Int), saturateref01_Lshr.f a.1 a.2.1 a.2.2.1 = some r → Contract Tryz.prog 168 (saturateref01_Lshr.a.enc a) (saturateref01_Lshr.r.enc r) := Contract.of_body (by kernel_rfl) (by kernel_rfl) mixed (saturateref01_Lshr.eq (fuel0 + 1))
noncomputable def saturateref01_Lshr.c : Kn Tryz.prog := Kn.of 168 saturateref01_Lshr.a saturateref01_Lshr.r (fun a => saturateref01_Lshr.f a.1 a.2.1 a.2.2.1) saturateref01_Lshr.con
end Go.Proofs.YtcihbcffokjgjaaGreat.Fn
namespace Go.Proofs.YtcihbcffokjgjaaGreat.Fn
open Go Go.RowKit Go.Proofs.YtcihbcffokjgjaaGreat.Ev Go.Proofs
set_option linter.unusedVariables false
set_option maxRecDepth 100000
def saturateref01_Sext.a : ACods (Int × Int × Int × Unit) := (.cons (.val (.int .i64)) (.cons (.val (.int .i64)) (.cons (.val (.int .u64)) .nil)))
def saturateref01_Sext.r : RCod (Int) := .val (.int .u64)
noncomputable def saturateref01_Sext.cs : List (Kn Tryz.prog) := [saturateref01_W.c, saturateref01_Bit.c]
def saturateref01_Sext.live : Nat → Option Keep := liveOf [(7, ⟨[0, 2, 7, 10, 11], [], [], [], []⟩)]
noncomputable def saturateref01_Sext.body : Code := bodyOf Tryz.f170
noncomputable def saturateref01_Sext.K (fu : Nat) : Code → St → (Ex → St → Option (Int)) → Option (Int) := codeK Tryz.prog (saturateref01_Sext.cs) saturateref01_Sext.live fu
noncomputable def saturateref01_Sext.j3 (fu n3 : Nat) (x0 x2 x7 x10 x11 : Int) : Option Int :=
  loopK (saturateref01_Sext.K fu (sub saturateref01_Sext.body [true, true, false, true, false, false])) (saturateref01_Sext.live 7) n3 (stOf 28 [(0, .val (.int .i64 x0)), (2, .val (.int .u64 x2)), (7, .val (.int .u64 x7)), (10, .val (.int .i64 x10)), (11, .val (.int .i64 x11))] []) (blockC 0 (seqC fu (saturateref01_Sext.live 14) (saturateref01_Sext.K fu (sub saturateref01_Sext.body [true, true, true])) (retC Tryz.prog Tryz.f170.results saturateref01_Sext.r.dec)))
theorem saturateref01_Sext.j3_succ (fu n3 : Nat) (x0 x2 x7 x10 x11 : Int) : saturateref01_Sext.j3 fu (n3 + 1) x0 x2 x7 x10 x11 =
  bif (decide (x11 < x10)) then
    (saturateref01_W.f x0).bind fun r2 =>
    (saturateref01_Bit.f x2 (mn x11 (IntKind.i64.wrap (r2 - 1)))).bind fun r3 =>
    bif decide ((IntKind.u64.wrap x11) < 0) then
      none
    else
      saturateref01_Sext.j3 fu n3 x0 x2 (Go.bits .or .u64 x7 (shl .u64 r3 (IntKind.u64.wrap x11))) x10 (IntKind.i64.wrap (x11 + 1))
  else
    some x7 := by kernel_rfl
noncomputable def saturateref01_Sext.g (fu : Nat) (a0 a1 a2 : Int) : Option (Int) :=
  (saturateref01_W.f a1).bind fun r1 =>
  saturateref01_Sext.j3 fu fu a0 a2 0 r1 0
noncomputable def saturateref01_Sext.f (a0 a1 a2 : Int) : Option (Int) := saturateref01_Sext.g (fuel0 + 1) a0 a1 a2
theorem saturateref01_Sext.eq (fu : Nat) (a : Int × Int × Int × Unit) : bodyK Tryz.prog saturateref01_Sext.cs saturateref01_Sext.live fu Tryz.f170 (saturateref01_Sext.a.enc a) saturateref01_Sext.r.dec = saturateref01_Sext.g fu a.1 a.2.1 a.2.2.1 := by kernel_rfl
theorem saturateref01_Sext.con : ∀ (a : Int × Int × Int × Unit) (r : Int), saturateref01_Sext.f a.1 a.2.1 a.2.2.1 = some r → Contract Tryz.prog 170 (saturateref01_Sext.a.enc a) (saturateref01_Sext.r.enc r) := Contract.of_body (by kernel_rfl) (by kernel_rfl) mixed (saturateref01_Sext.eq (fuel0 + 1))
noncomputable def saturateref01_Sext.c : Kn Tryz.prog := Kn.of 170 saturateref01_Sext.a saturateref01_Sext.r (fun a => saturateref01_Sext.f a.1 a.2.1 a.2.2.1) saturateref01_Sext.con
def saturateref01_Not.a : ACods (Int × Int × Unit) := (.cons (.val (.int .i64)) (.cons (.val (.int .u64)) .nil))
def saturateref01_Not.r : RCod (Int) := .val (.int .u64)
noncomputable def saturateref01_Not.cs : List (Kn Tryz.prog) := [saturateref01_Mask.c, saturateref01_Cut.c]
def saturateref01_Not.live : Nat → Option Keep := liveOf []
noncomputable def saturateref01_Not.f (a0 a1 : Int) : Option (Int) :=
  (saturateref01_Mask.f a0).bind fun r1 =>
  (saturateref01_Cut.f a0 a1).bind fun r2 =>
  some (IntKind.u64.wrap (r1 - r2))
theorem saturateref01_Not.eq (fu : Nat) (a : Int × Int × Unit) : bodyK Tryz.prog saturateref01_Not.cs saturateref01_Not.live fu Tryz.f187 (saturateref01_Not.a.enc a) saturateref01_Not.r.dec = saturateref01_Not.f a.1 a.2.1 := by kernel_rfl
theorem saturateref01_Not.con : ∀ (a : Int × Int × Unit) (r : Int), saturateref01_Not.f a.1 a.2.1 = some r → Contract Tryz.prog 187 (saturateref01_Not.a.enc a) (saturateref01_Not.r.enc r) := Contract.of_body (by kernel_rfl) (by kernel_rfl) mixed (saturateref01_Not.eq (fuel0 + 1))
noncomputable def saturateref01_Not.c : Kn Tryz.prog := Kn.of 187 saturateref01_Not.a saturateref01_Not.r (fun a => saturateref01_Not.f a.1 a.2.1) saturateref01_Not.con
def saturateref01_Neg.a : ACods (Int × Int × Unit) := (.cons (.val (.int .i64)) (.cons (.val (.int .u64)) .nil))
def saturateref01_Neg.r : RCod (Int) := .val (.int .u64)
noncomputable def saturateref01_Neg.cs : List (Kn Tryz.prog) := [saturateref01_Not.c, saturateref01_Add.c]
def saturateref01_Neg.live : Nat → Option Keep := liveOf []
noncomputable def saturateref01_Neg.f (a0 a1 : Int) : Option (Int) :=
  (saturateref01_Not.f a0 a1).bind fun r1 =>
  (saturateref01_Add.f a0 r1 1).bind fun r2 =>
  some r2
theorem saturateref01_Neg.eq (fu : Nat) (a : Int × Int × Unit) : bodyK Tryz.prog saturateref01_Neg.cs saturateref01_Neg.live fu Tryz.f188 (saturateref01_Neg.a.enc a) saturateref01_Neg.r.dec = saturateref01_Neg.f a.1 a.2.1 := by kernel_rfl
theorem saturateref01_Neg.con : ∀ (a : Int × Int × Unit) (r : Int), saturateref01_Neg.f a.1 a.2.1 = some r → Contract Tryz.prog 188 (saturateref01_Neg.a.enc a) (saturateref01_Neg.r.enc r) := Contract.of_body (by kernel_rfl) (by kernel_rfl) mixed (saturateref01_Neg.eq (fuel0 + 1))
noncomputable def saturateref01_Neg.c : Kn Tryz.prog := Kn.of 188 saturateref01_Neg.a saturateref01_Neg.r (fun a => saturateref01_Neg.f a.1 a.2.1) saturateref01_Neg.con
def saturateref01_Sub.a : ACods (Int × Int × Int × Unit) := (.cons (.val (.int .i64)) (.cons (.val (.int .u64)) (.cons (.val (.int .u64)) .nil)))
def saturateref01_Sub.r : RCod (Int) := .val (.int .u64)
noncomputable def saturateref01_Sub.cs : List (Kn Tryz.prog) := [saturateref01_Neg.c, saturateref01_Add.c]
def saturateref01_Sub.live : Nat → Option Keep := liveOf []
noncomputable def saturateref01_Sub.f (a0 a1 a2 : Int) : Option (Int) :=
  (saturateref01_Neg.f a0 a2).bind fun r1 =>
  (saturateref01_Add.f a0 a1 r1).bind fun r2 =>
  some r2
theorem saturateref01_Sub.eq (fu : Nat) (a : Int × Int × Int × Unit) : bodyK Tryz.prog saturateref01_Sub.cs saturateref01_Sub.live fu Tryz.f194 (saturateref01_Sub.a.enc a) saturateref01_Sub.r.dec = saturateref01_Sub.f a.1 a.2.1 a.2.2.1 := by kernel_rfl
theorem saturateref01_Sub.con : ∀ (a : Int × Int × Int × Unit) (r : Int), saturateref01_Sub.f a.1 a.2.1 a.2.2.1 = some r → Contract Tryz.prog 194 (saturateref01_Sub.a.enc a) (saturateref01_Sub.r.enc r) := Contract.of_body (by kernel_rfl) (by kernel_rfl) mixed (saturateref01_Sub.eq (fuel0 + 1))
noncomputable def saturateref01_Sub.c : Kn Tryz.prog := Kn.of 194 saturateref01_Sub.a saturateref01_Sub.r (fun a => saturateref01_Sub.f a.1 a.2.1 a.2.2.1) saturateref01_Sub.con
def saturateref01_Shl.a : ACods (Int × Int × Int × Unit) := (.cons (.val (.int .i64)) (.cons (.val (.int .u64)) (.cons (.val (.int .u64)) .nil)))
def saturateref01_Shl.r : RCod (Int) := .val (.int .u64)
noncomputable def saturateref01_Shl.cs : List (Kn Tryz.prog) := [saturateref01_by.c, saturateref01_shift.c]
def saturateref01_Shl.live : Nat → Option Keep := liveOf []
noncomputable def saturateref01_Shl.f (a0 a1 a2 : Int) : Option (Int) :=
  (saturateref01_by.f a0 a2).bind fun r1 =>
  (saturateref01_shift.f a0 a1 (IntKind.i64.wrap (0 - r1)) 0).bind fun r2 =>
  some r2
theorem saturateref01_Shl.eq (fu : Nat) (a : Int × Int × Int × Unit) : bodyK Tryz.prog saturateref01_Shl.cs saturateref01_Shl.live fu Tryz.f198 (saturateref01_Shl.a.enc a) saturateref01_Shl.r.dec = saturateref01_Shl.f a.1 a.2.1 a.2.2.1 := by kernel_rfl
theorem saturateref01_Shl.con : ∀ (a : Int × Int × Int × Unit) (r : Int), saturateref01_Shl.f a.1 a.2.1 a.2.2.1 = some r → Contract Tryz.prog 198 (saturateref01_Shl.a.enc a) (saturateref01_Shl.r.enc r) := Contract.of_body (by kernel_rfl) (by kernel_rfl) mixed (saturateref01_Shl.eq (fuel0 + 1))
noncomputable def saturateref01_Shl.c : Kn Tryz.prog := Kn.of 198 saturateref01_Shl.a saturateref01_Shl.r (fun a => saturateref01_Shl.f a.1 a.2.1 a.2.2.1) saturateref01_Shl.con
end Go.Proofs.YtcihbcffokjgjaaGreat.Fn
namespace Go.Proofs.YtcihbcffokjgjaaGreat.Fn
open Go Go.RowKit Go.Proofs.YtcihbcffokjgjaaGreat.Ev Go.Proofs
set_option linter.unusedVariables false
set_option maxRecDepth 100000
def saturateref01_Extract.a : ACods (Int × Int × Int × Unit) := (.cons (.val (.int .i64)) (.cons (.val (.int .i64)) (.cons (.val (.int .u64)) .nil)))
def saturateref01_Extract.r : RCod (Int) := .val (.int .u64)
noncomputable def saturateref01_Extract.cs : List (Kn Tryz.prog) := [saturateref01_W.c, saturateref01_Bit.c]
def saturateref01_Extract.live : Nat → Option Keep := liveOf [(11, ⟨[0, 2, 7, 16, 17], [], [], [], []⟩)]
noncomputable def saturateref01_Extract.body : Code := bodyOf Tryz.f189
noncomputable def saturateref01_Extract.K (fu : Nat) : Code → St → (Ex → St → Option (Int)) → Option (Int) := codeK Tryz.prog (saturateref01_Extract.cs) saturateref01_Extract.live fu
noncomputable def saturateref01_Extract.j5 (fu n5 : Nat) (x0 x2 x7 x16 x17 : Int) : Option Int :=
  loopK (saturateref01_Extract.K fu (sub saturateref01_Extract.body [true, true, true, false, true, false, false])) (saturateref01_Extract.live 11) n5 (stOf 32 [(0, .val (.int .i64 x0)), (2, .val (.int .u64 x2)), (7, .val (.int .u64 x7)), (16, .val (.int .i64 x16)), (17, .val (.int .i64 x17))] []) (blockC 0 (seqC fu (saturateref01_Extract.live 18) (saturateref01_Extract.K fu (sub saturateref01_Extract.body [true, true, true, true])) (retC Tryz.prog Tryz.f189.results saturateref01_Extract.r.dec)))
theorem saturateref01_Extract.j5_succ (fu n5 : Nat) (x0 x2 x7 x16 x17 : Int) : saturateref01_Extract.j5 fu (n5 + 1) x0 x2 x7 x16 x17 =
  bif (decide (x17 < x16)) then
    (saturateref01_Bit.f x2 (IntKind.i64.wrap (x0 + x17))).bind fun r2 =>
    bif decide ((IntKind.u64.wrap x17) < 0) then
      none
    else
      saturateref01_Extract.j5 fu n5 x0 x2 (Go.bits .or .u64 x7 (shl .u64 r2 (IntKind.u64.wrap x17))) x16 (IntKind.i64.wrap (x17 + 1))
  else
    some x7 := by kernel_rfl
noncomputable def saturateref01_Extract.g (fu : Nat) (a0 a1 a2 : Int) : Option (Int) :=
  bif (decide (a0 < 0)) then
    some 0
  else
    bif (decide (a0 > 63)) then
      some 0
    else
      (saturateref01_W.f a1).bind fun r1 =>
      saturateref01_Extract.j5 fu fu a0 a2 0 r1 0
noncomputable def saturateref01_Extract.f (a0 a1 a2 : Int) : Option (Int) := saturateref01_Extract.g (fuel0 + 1) a0 a1 a2
theorem saturateref01_Extract.eq (fu : Nat) (a : Int × Int × Int × Unit) : bodyK Tryz.prog saturateref01_Extract.cs saturateref01_Extract.live fu Tryz.f189 (saturateref01_Extract.a.enc a) saturateref01_Extract.r.dec = saturateref01_Extract.g fu a.1 a.2.1 a.2.2.1 := by kernel_rfl
theorem saturateref01_Extract.con : ∀ (a : Int × Int × Int × Unit) (r : Int), saturateref01_Extract.f a.1 a.2.1 a.2.2.1 = some r → Contract Tryz.prog 189 (saturateref01_Extract.a.enc a) (saturateref01_Extract.r.enc r) := Contract.of_body (by kernel_rfl) (by kernel_rfl) mixed (saturateref01_Extract.eq (fuel0 + 1))
noncomputable def saturateref01_Extract.c : Kn Tryz.prog := Kn.of 189 saturateref01_Extract.a saturateref01_Extract.r (fun a => saturateref01_Extract.f a.1 a.2.1 a.2.2.1) saturateref01_Extract.con
def saturateref08_one.a : ACods (Int × Int × Int × Int × Int × Unit) := (.cons (.val (.int .i64)) (.cons (.val (.int .i64)) (.cons (.val (.int .u64)) (.cons (.val (.int .i64)) (.cons (.val (.int .u64)) .nil)))))
def saturateref08_one.r : RCod (Int) := .val (.int .u64)
noncomputable def saturateref08_one.cs : List (Kn Tryz.prog) := [saturateref01_Not.c, saturateref01_Neg.c, saturateref01_Extract.c, saturateref01_Sext.c]
def saturateref08_one.live : Nat → Option Keep := liveOf []
noncomputable def saturateref08_one.f (a0 a1 a2 a3 a4 : Int) : Option (Int) :=
  bif (a0 == 3) then
    (saturateref01_Not.f a3 a4).bind fun r1 =>
    some r1
  else
    bif (a0 == 4) then
      (saturateref01_Neg.f a3 a4).bind fun r2 =>
      some r2
    else
      bif (a0 == 21) then
        (saturateref01_Extract.f (IntKind.i64.wrap a2) a1 a4).bind fun r3 =>
        some r3
      else
        bif (a0 == 23) then
          (saturateref01_Sext.f a3 a1 a4).bind fun r4 =>
          some r4
        else
          some a4
theorem saturateref08_one.eq (fu : Nat) (a : Int × Int × Int × Int × Int × Unit) : bodyK Tryz.prog saturateref08_one.cs saturateref08_one.live fu Tryz.f127 (saturateref08_one.a.enc a) saturateref08_one.r.dec = saturateref08_one.f a.1 a.2.1 a.2.2.1 a.2.2.2.1 a.2.2.2.2.1 := by kernel_rfl
theorem saturateref08_one.con : ∀ (a : Int × Int × Int × Int × Int × Unit) (r : Int), saturateref08_one.f a.1 a.2.1 a.2.2.1 a.2.2.2.1 a.2.2.2.2.1 = some r → Contract Tryz.prog 127 (saturateref08_one.a.enc a) (saturateref08_one.r.enc r) := Contract.of_body (by kernel_rfl) (by kernel_rfl) mixed (saturateref08_one.eq (fuel0 + 1))
noncomputable def saturateref08_one.c : Kn Tryz.prog := Kn.of 127 saturateref08_one.a saturateref08_one.r (fun a => saturateref08_one.f a.1 a.2.1 a.2.2.1 a.2.2.2.1 a.2.2.2.2.1) saturateref08_one.con
def saturateref01_And.a : ACods (Int × Int × Int × Unit) := (.cons (.val (.int .i64)) (.cons (.val (.int .u64)) (.cons (.val (.int .u64)) .nil)))
def saturateref01_And.r : RCod (Int) := .val (.int .u64)
noncomputable def saturateref01_And.cs : List (Kn Tryz.prog) := [saturateref01_W.c, saturateref01_Bit.c]
def saturateref01_And.live : Nat → Option Keep := liveOf [(7, ⟨[1, 2, 7, 10, 11], [], [], [], []⟩), (14, ⟨[1, 2, 7, 10, 11], [], [], [], []⟩)]
noncomputable def saturateref01_And.body : Code := bodyOf Tryz.f190
noncomputable def saturateref01_And.K (fu : Nat) : Code → St → (Ex → St → Option (Int)) → Option (Int) := codeK Tryz.prog (saturateref01_And.cs) saturateref01_And.live fu
noncomputable def saturateref01_And.j3 (fu n3 : Nat) (x1 x2 x7 x10 x11 : Int) : Option Int :=
  loopK (saturateref01_And.K fu (sub saturateref01_And.body [true, true, false, true, false, false])) (saturateref01_And.live 7) n3 (stOf 31 [(1, .val (.int .u64 x1)), (2, .val (.int .u64 x2)), (7, .val (.int .u64 x7)), (10, .val (.int .i64 x10)), (11, .val (.int .i64 x11))] []) (blockC 0 (seqC fu (saturateref01_And.live 16) (saturateref01_And.K fu (sub saturateref01_And.body [true, true, true])) (retC Tryz.prog Tryz.f190.results saturateref01_And.r.dec)))
noncomputable def saturateref01_And.p7 (m fu : Nat) (n3 : Nat) (x1 x2 x7 x10 x11 : Int) : Option Int :=
  joinK m (saturateref01_And.K fu (sub saturateref01_And.body [true, true, false, true, false, false, true, true, true])) (stOf 31 [(1, .val (.int .u64 x1)), (2, .val (.int .u64 x2)), (7, .val (.int .u64 x7)), (10, .val (.int .i64 x10)), (11, .val (.int .i64 x11))] []) (roundC (saturateref01_And.live 7) (loopK (saturateref01_And.K fu (sub saturateref01_And.body [true, true, false, true, false, false])) (saturateref01_And.live 7) n3) (blockC 0 (seqC fu (saturateref01_And.live 16) (saturateref01_And.K fu (sub saturateref01_And.body [true, true, true])) (retC Tryz.prog Tryz.f190.results saturateref01_And.r.dec))))
theorem saturateref01_And.p7_eq (m fu : Nat) (n3 : Nat) (x1 x2 x7 x10 x11 : Int) : saturateref01_And.p7 (m + 1) fu n3 x1 x2 x7 x10 x11 =
  saturateref01_And.j3 fu n3 x1 x2 x7 x10 (IntKind.i64.wrap (x11 + 1)) := by kernel_rfl
theorem saturateref01_And.j3_succ (fu n3 : Nat) (x1 x2 x7 x10 x11 : Int) : saturateref01_And.j3 fu (n3 + 1) x1 x2 x7 x10 x11 =
  bif (decide (x11 < x10)) then
    (saturateref01_Bit.f x1 x11).bind fun r2 =>
    bif (r2 == 1) then
      (saturateref01_Bit.f x2 x11).bind fun r3 =>
      bif (r3 == 1) then
        bif decide ((IntKind.u64.wrap x11) < 0) then
          none
        else
          saturateref01_And.p7 fu fu n3 x1 x2 (Go.bits .or .u64 x7 (shl .u64 1 (IntKind.u64.wrap x11))) x10 x11
      else
        saturateref01_And.p7 fu fu n3 x1 x2 x7 x10 x11
    else
      saturateref01_And.p7 fu fu n3 x1 x2 x7 x10 x11
  else
    some x7 := by kernel_rfl
noncomputable def saturateref01_And.g (fu : Nat) (a0 a1 a2 : Int) : Option (Int) :=
  (saturateref01_W.f a0).bind fun r1 =>
  saturateref01_And.j3 fu fu a1 a2 0 r1 0
noncomputable def saturateref01_And.f (a0 a1 a2 : Int) : Option (Int) := saturateref01_And.g (fuel0 + 1) a0 a1 a2
theorem saturateref01_And.eq (fu : Nat) (a : Int × Int × Int × Unit) : bodyK Tryz.prog saturateref01_And.cs saturateref01_And.live fu Tryz.f190 (saturateref01_And.a.enc a) saturateref01_And.r.dec = saturateref01_And.g fu a.1 a.2.1 a.2.2.1 := by kernel_rfl
theorem saturateref01_And.con : ∀ (a : Int × Int × Int × Unit) (r : Int), saturateref01_And.f a.1 a.2.1 a.2.2.1 = some r → Contract Tryz.prog 190 (saturateref01_And.a.enc a) (saturateref01_And.r.enc r) := Contract.of_body (by kernel_rfl) (by kernel_rfl) mixed (saturateref01_And.eq (fuel0 + 1))
noncomputable def saturateref01_And.c : Kn Tryz.prog := Kn.of 190 saturateref01_And.a saturateref01_And.r (fun a => saturateref01_And.f a.1 a.2.1 a.2.2.1) saturateref01_And.con
def saturateref01_Or.a : ACods (Int × Int × Int × Unit) := (.cons (.val (.int .i64)) (.cons (.val (.int .u64)) (.cons (.val (.int .u64)) .nil)))
def saturateref01_Or.r : RCod (Int) := .val (.int .u64)
noncomputable def saturateref01_Or.cs : List (Kn Tryz.prog) := [saturateref01_Not.c, saturateref01_And.c]
def saturateref01_Or.live : Nat → Option Keep := liveOf []
noncomputable def saturateref01_Or.f (a0 a1 a2 : Int) : Option (Int) :=
  (saturateref01_Not.f a0 a1).bind fun r1 =>
  (saturateref01_Not.f a0 a2).bind fun r2 =>
  (saturateref01_And.f a0 r1 r2).bind fun r3 =>
  (saturateref01_Not.f a0 r3).bind fun r4 =>
  some r4
theorem saturateref01_Or.eq (fu : Nat) (a : Int × Int × Int × Unit) : bodyK Tryz.prog saturateref01_Or.cs saturateref01_Or.live fu Tryz.f191 (saturateref01_Or.a.enc a) saturateref01_Or.r.dec = saturateref01_Or.f a.1 a.2.1 a.2.2.1 := by kernel_rfl
theorem saturateref01_Or.con : ∀ (a : Int × Int × Int × Unit) (r : Int), saturateref01_Or.f a.1 a.2.1 a.2.2.1 = some r → Contract Tryz.prog 191 (saturateref01_Or.a.enc a) (saturateref01_Or.r.enc r) := Contract.of_body (by kernel_rfl) (by kernel_rfl) mixed (saturateref01_Or.eq (fuel0 + 1))
noncomputable def saturateref01_Or.c : Kn Tryz.prog := Kn.of 191 saturateref01_Or.a saturateref01_Or.r (fun a => saturateref01_Or.f a.1 a.2.1 a.2.2.1) saturateref01_Or.con
def saturateref01_Xor.a : ACods (Int × Int × Int × Unit) := (.cons (.val (.int .i64)) (.cons (.val (.int .u64)) (.cons (.val (.int .u64)) .nil)))
def saturateref01_Xor.r : RCod (Int) := .val (.int .u64)
noncomputable def saturateref01_Xor.cs : List (Kn Tryz.prog) := [saturateref01_Or.c, saturateref01_And.c]
def saturateref01_Xor.live : Nat → Option Keep := liveOf []
noncomputable def saturateref01_Xor.f (a0 a1 a2 : Int) : Option (Int) :=
  (saturateref01_Or.f a0 a1 a2).bind fun r1 =>
  (saturateref01_And.f a0 a1 a2).bind fun r2 =>
  some (IntKind.u64.wrap (r1 - r2))
theorem saturateref01_Xor.eq (fu : Nat) (a : Int × Int × Int × Unit) : bodyK Tryz.prog saturateref01_Xor.cs saturateref01_Xor.live fu Tryz.f192 (saturateref01_Xor.a.enc a) saturateref01_Xor.r.dec = saturateref01_Xor.f a.1 a.2.1 a.2.2.1 := by kernel_rfl
theorem saturateref01_Xor.con : ∀ (a : Int × Int × Int × Unit) (r : Int), saturateref01_Xor.f a.1 a.2.1 a.2.2.1 = some r → Contract Tryz.prog 192 (saturateref01_Xor.a.enc a) (saturateref01_Xor.r.enc r) := Contract.of_body (by kernel_rfl) (by kernel_rfl) mixed (saturateref01_Xor.eq (fuel0 + 1))
noncomputable def saturateref01_Xor.c : Kn Tryz.prog := Kn.of 192 saturateref01_Xor.a saturateref01_Xor.r (fun a => saturateref01_Xor.f a.1 a.2.1 a.2.2.1) saturateref01_Xor.con
def saturateref01_Ashr.a : ACods (Int × Int × Int × Unit) := (.cons (.val (.int .i64)) (.cons (.val (.int .u64)) (.cons (.val (.int .u64)) .nil)))
def saturateref01_Ashr.r : RCod (Int) := .val (.int .u64)
noncomputable def saturateref01_Ashr.cs : List (Kn Tryz.prog) := [saturateref01_by.c, saturateref01_W.c, saturateref01_Bit.c, saturateref01_shift.c]
def saturateref01_Ashr.live : Nat → Option Keep := liveOf []
noncomputable def saturateref01_Ashr.f (a0 a1 a2 : Int) : Option (Int) :=
  (saturateref01_by.f a0 a2).bind fun r1 =>
  (saturateref01_W.f a0).bind fun r2 =>
  (saturateref01_Bit.f a1 (IntKind.i64.wrap (r2 - 1))).bind fun r3 =>
  (saturateref01_shift.f a0 a1 r1 r3).bind fun r4 =>
  some r4
theorem saturateref01_Ashr.eq (fu : Nat) (a : Int × Int × Int × Unit) : bodyK Tryz.prog saturateref01_Ashr.cs saturateref01_Ashr.live fu Tryz.f199 (saturateref01_Ashr.a.enc a) saturateref01_Ashr.r.dec = saturateref01_Ashr.f a.1 a.2.1 a.2.2.1 := by kernel_rfl
theorem saturateref01_Ashr.con : ∀ (a : Int × Int × Int × Unit) (r : Int), saturateref01_Ashr.f a.1 a.2.1 a.2.2.1 = some r → Contract Tryz.prog 199 (saturateref01_Ashr.a.enc a) (saturateref01_Ashr.r.enc r) := Contract.of_body (by kernel_rfl) (by kernel_rfl) mixed (saturateref01_Ashr.eq (fuel0 + 1))
noncomputable def saturateref01_Ashr.c : Kn Tryz.prog := Kn.of 199 saturateref01_Ashr.a saturateref01_Ashr.r (fun a => saturateref01_Ashr.f a.1 a.2.1 a.2.2.1) saturateref01_Ashr.con
def saturateref01_Eq.a : ACods (Int × Int × Int × Unit) := (.cons (.val (.int .i64)) (.cons (.val (.int .u64)) (.cons (.val (.int .u64)) .nil)))
def saturateref01_Eq.r : RCod (Int) := .val (.int .u64)
noncomputable def saturateref01_Eq.cs : List (Kn Tryz.prog) := [saturateref01_Cut.c, saturateref01_truth.c]
def saturateref01_Eq.live : Nat → Option Keep := liveOf []
noncomputable def saturateref01_Eq.f (a0 a1 a2 : Int) : Option (Int) :=
  (saturateref01_Cut.f a0 a1).bind fun r1 =>
  (saturateref01_Cut.f a0 a2).bind fun r2 =>
  (saturateref01_truth.f (r1 == r2)).bind fun r3 =>
  some r3
theorem saturateref01_Eq.eq (fu : Nat) (a : Int × Int × Int × Unit) : bodyK Tryz.prog saturateref01_Eq.cs saturateref01_Eq.live fu Tryz.f200 (saturateref01_Eq.a.enc a) saturateref01_Eq.r.dec = saturateref01_Eq.f a.1 a.2.1 a.2.2.1 := by kernel_rfl
theorem saturateref01_Eq.con : ∀ (a : Int × Int × Int × Unit) (r : Int), saturateref01_Eq.f a.1 a.2.1 a.2.2.1 = some r → Contract Tryz.prog 200 (saturateref01_Eq.a.enc a) (saturateref01_Eq.r.enc r) := Contract.of_body (by kernel_rfl) (by kernel_rfl) mixed (saturateref01_Eq.eq (fuel0 + 1))
noncomputable def saturateref01_Eq.c : Kn Tryz.prog := Kn.of 200 saturateref01_Eq.a saturateref01_Eq.r (fun a => saturateref01_Eq.f a.1 a.2.1 a.2.2.1) saturateref01_Eq.con
def saturateref08_two.a : ACods (Int × Int × Int × Int × Unit) := (.cons (.val (.int .i64)) (.cons (.val (.int .i64)) (.cons (.val (.int .u64)) (.cons (.val (.int .u64)) .nil))))
def saturateref08_two.r : RCod (Int) := .val (.int .u64)
noncomputable def saturateref08_two.cs : List (Kn Tryz.prog) := [saturateref01_And.c, saturateref01_Or.c, saturateref01_Xor.c, saturateref01_Add.c, saturateref01_Sub.c, saturateref01_Mul.c, saturateref01_Udiv.c, saturateref01_Urem.c, saturateref01_Shl.c, saturateref01_Lshr.c, saturateref01_Ashr.c, saturateref01_Eq.c, saturateref01_Ult.c, saturateref01_Slt.c]
def saturateref08_two.live : Nat → Option Keep := liveOf []
noncomputable def saturateref08_two.f (a0 a1 a2 a3 : Int) : Option (Int) :=
  bif (a0 == 5) then
    (saturateref01_And.f a1 a2 a3).bind fun r1 =>
    some r1
  else
    bif (a0 == 6) then
      (saturateref01_Or.f a1 a2 a3).bind fun r2 =>
      some r2
    else
      bif (a0 == 7) then
        (saturateref01_Xor.f a1 a2 a3).bind fun r3 =>
        some r3
      else
        bif (a0 == 8) then
          (saturateref01_Add.f a1 a2 a3).bind fun r4 =>
          some r4
        else
          bif (a0 == 9) then
            (saturateref01_Sub.f a1 a2 a3).bind fun r5 =>
            some r5
          else
            bif (a0 == 10) then
              (saturateref01_Mul.f a1 a2 a3).bind fun r6 =>
              some r6
            else
              bif (a0 == 11) then
                (saturateref01_Udiv.f a1 a2 a3).bind fun r7 =>
                some r7
              else
                bif (a0 == 12) then
                  (saturateref01_Urem.f a1 a2 a3).bind fun r8 =>
                  some r8
                else
                  bif (a0 == 13) then
                    (saturateref01_Shl.f a1 a2 a3).bind fun r9 =>
                    some r9
                  else
                    bif (a0 == 14) then
                      (saturateref01_Lshr.f a1 a2 a3).bind fun r10 =>
                      some r10
                    else
                      bif (a0 == 15) then
                        (saturateref01_Ashr.f a1 a2 a3).bind fun r11 =>
                        some r11
                      else
                        bif (a0 == 16) then
                          (saturateref01_Eq.f a1 a2 a3).bind fun r12 =>
                          some r12
                        else
                          bif (a0 == 17) then
                            (saturateref01_Ult.f a1 a2 a3).bind fun r13 =>
                            some r13
                          else
                            (saturateref01_Slt.f a1 a2 a3).bind fun r14 =>
                            some r14
theorem saturateref08_two.eq (fu : Nat) (a : Int × Int × Int × Int × Unit) : bodyK Tryz.prog saturateref08_two.cs saturateref08_two.live fu Tryz.f128 (saturateref08_two.a.enc a) saturateref08_two.r.dec = saturateref08_two.f a.1 a.2.1 a.2.2.1 a.2.2.2.1 := by kernel_rfl
theorem saturateref08_two.con : ∀ (a : Int × Int × Int × Int × Unit) (r : Int), saturateref08_two.f a.1 a.2.1 a.2.2.1 a.2.2.2.1 = some r → Contract Tryz.prog 128 (saturateref08_two.a.enc a) (saturateref08_two.r.enc r) := Contract.of_body (by kernel_rfl) (by kernel_rfl) mixed (saturateref08_two.eq (fuel0 + 1))
noncomputable def saturateref08_two.c : Kn Tryz.prog := Kn.of 128 saturateref08_two.a saturateref08_two.r (fun a => saturateref08_two.f a.1 a.2.1 a.2.2.1 a.2.2.2.1) saturateref08_two.con
def saturateref08_value.a : ACods (Int × Int × Int × (Nat × (Nat → Int) × (Nat → Int)) × Unit) := (.cons (.val (.int .i64)) (.cons (.val (.int .i64)) (.cons (.val (.int .u64)) (.cons (.rows (.int .i64 (.int1 .u64))) .nil))))
def saturateref08_value.r : RCod (Int) := .val (.int .u64)
noncomputable def saturateref08_value.cs : List (Kn Tryz.prog) := [saturateref01_Cut.c, saturateref08_one.c, saturateref01_Concat.c, saturateref08_two.c]
def saturateref08_value.live : Nat → Option Keep := liveOf [(7, ⟨[0, 1, 2, 3, 9, 10], [3, 9], [(9, 23, [.int .u64 (fun _ => 0)])], [], []⟩)]
noncomputable def saturateref08_value.body : Code := bodyOf Tryz.f64
noncomputable def saturateref08_value.K (fu : Nat) : Code → St → (Ex → St → Option (Int)) → Option (Int) := codeK Tryz.prog (saturateref08_value.cs) saturateref08_value.live fu
noncomputable def saturateref08_value.j3 (fu n3 : Nat) (x0 x1 x2 : Int) (x3n x9n : Nat) (x10 : Int) (m3 : Nat) (g3_0 g3_1 : Nat → Int) (m9 : Nat) (g9_0 : Nat → Int) : Option Int :=
  loopK (saturateref08_value.K fu (sub saturateref08_value.body [true, true, false, true, false, false])) (saturateref08_value.live 7) n3 (stOf 90 [(0, .val (.int .i64 x0)), (1, .val (.int .i64 x1)), (2, .val (.int .u64 x2)), (3, .sl 3 2 x3n), (9, .sl 9 1 x9n), (10, .val (.int .i64 x10))] [(3, .ext m3 [.int .i64 g3_0, .int .u64 g3_1]), (9, .grow 23 m9 [.int .u64 g9_0])]) (blockC 0 (seqC fu (saturateref08_value.live 12) (saturateref08_value.K fu (sub saturateref08_value.body [true, true, true])) (retC Tryz.prog Tryz.f64.results saturateref08_value.r.dec)))
theorem saturateref08_value.j3_succ (fu n3 : Nat) (x0 x1 x2 : Int) (x3n x9n : Nat) (x10 : Int) (m3 : Nat) (g3_0 g3_1 : Nat → Int) (m9 : Nat) (g9_0 : Nat → Int) : saturateref08_value.j3 fu (n3 + 1) x0 x1 x2 x3n x9n x10 m3 g3_0 g3_1 m9 g9_0 =
  bif (decide (x10 < (x3n : Int))) then
    bif decide (0 ≤ x10) then
      bif decide (x10 < (x3n : Int)) then
        bif decide (0 ≤ x10) then
          bif decide (x10 < (x3n : Int)) then
            (saturateref01_Cut.f (g3_0 x10.toNat) (g3_1 x10.toNat)).bind fun r1 =>
            bif Nat.ble ((x9n + 1) * 8) 140737488355328 then
              saturateref08_value.j3 fu n3 x0 x1 x2 x3n (x9n + 1) (IntKind.i64.wrap (x10 + 1)) m3 g3_0 g3_1 (x9n + 1) (cat x9n g9_0 (fun i => [r1].getD i 0))
            else
              none
          else
            none
        else
          none
      else
        none
    else
      none
  else
    bif ((x9n : Int) == 0) then
      some x2
    else
      bif ((x9n : Int) == 1) then
        bif decide ((0 : Int) < (x3n : Int)) then
          bif decide ((0 : Int) < (x9n : Int)) then
            (saturateref08_one.f x0 x1 x2 (g3_0 0) (g9_0 0)).bind fun r2 =>
            some r2
          else
            none
        else
          none
      else
        bif ((x9n : Int) == 3) then
          bif decide ((0 : Int) < (x9n : Int)) then
            bif ((g9_0 0) == 1) then
              bif decide ((1 : Int) < (x9n : Int)) then
                some (g9_0 1)
              else
                none
            else
              bif decide ((2 : Int) < (x9n : Int)) then
                some (g9_0 2)
              else
                none
          else
            none
        else
          bif (x0 == 20) then
            bif decide ((0 : Int) < (x3n : Int)) then
              bif decide ((1 : Int) < (x3n : Int)) then
                bif decide ((0 : Int) < (x9n : Int)) then
                  bif decide ((1 : Int) < (x9n : Int)) then
                    (saturateref01_Concat.f (g3_0 0) (g3_0 1) (g9_0 0) (g9_0 1)).bind fun r3 =>
                    some r3
                  else
                    none
                else
                  none
              else
                none
            else
              none
          else
            bif decide ((0 : Int) < (x3n : Int)) then
              bif decide ((0 : Int) < (x9n : Int)) then
                bif decide ((1 : Int) < (x9n : Int)) then
                  (saturateref08_two.f x0 (g3_0 0) (g9_0 0) (g9_0 1)).bind fun r4 =>
                  some r4
                else
                  none
              else
                none
            else
              none := by kernel_rfl
noncomputable def saturateref08_value.g (fu : Nat) (a0 a1 a2 : Int) (a3 : Nat × (Nat → Int) × (Nat → Int)) : Option (Int) :=
  saturateref08_value.j3 fu fu a0 a1 a2 a3.1 0 0 a3.1 a3.2.1 a3.2.2 0 (fun _ => 0)
noncomputable def saturateref08_value.f (a0 a1 a2 : Int) (a3 : Nat × (Nat → Int) × (Nat → Int)) : Option (Int) := saturateref08_value.g (fuel0 + 1) a0 a1 a2 a3
theorem saturateref08_value.eq (fu : Nat) (a : Int × Int × Int × (Nat × (Nat → Int) × (Nat → Int)) × Unit) : bodyK Tryz.prog saturateref08_value.cs saturateref08_value.live fu Tryz.f64 (saturateref08_value.a.enc a) saturateref08_value.r.dec = saturateref08_value.g fu a.1 a.2.1 a.2.2.1 a.2.2.2.1 := by kernel_rfl
theorem saturateref08_value.con : ∀ (a : Int × Int × Int × (Nat × (Nat → Int) × (Nat → Int)) × Unit) (r : Int), saturateref08_value.f a.1 a.2.1 a.2.2.1 a.2.2.2.1 = some r → Contract Tryz.prog 64 (saturateref08_value.a.enc a) (saturateref08_value.r.enc r) := Contract.of_body (by kernel_rfl) (by kernel_rfl) mixed (saturateref08_value.eq (fuel0 + 1))
noncomputable def saturateref08_value.c : Kn Tryz.prog := Kn.of 64 saturateref08_value.a saturateref08_value.r (fun a => saturateref08_value.f a.1 a.2.1 a.2.2.1 a.2.2.2.1) saturateref08_value.con
end Go.Proofs.YtcihbcffokjgjaaGreat.Fn
