/- What the functions return, as the evaluator tells it: written by a program of this workplace (mev.py); Lean checks each equation. -/
import Derived.Test.YtcihbcffokjgjaaGreatProg
import Derived.Test.YtcihbcffokjgjaaGreatSEvC
import Derived.Test.YtcihbcffokjgjaaGreatSF0
import Derived.Test.YtcihbcffokjgjaaGreatSF2
import Derived.Test.YtcihbcffokjgjaaGreatSF3
import Derived.Test.YtcihbcffokjgjaaGreatSF7
import Derived.Test.YtcihbcffokjgjaaGreatSF9
import Derived.Test.YtcihbcffokjgjaaGreatSF11
namespace Go.Proofs.YtcihbcffokjgjaaGreat.Fn
open Go Go.RowKit Go.Proofs.YtcihbcffokjgjaaGreat.Ev Go.Proofs
set_option linter.unusedVariables false
set_option maxRecDepth 100000
/-! ### saturateref01_Extract: function 189 -/
def saturateref01_Extract.a : ACods (Int × Int × Int × Unit) := (.cons (.val (.int .i64)) (.cons (.val (.int .i64)) (.cons (.val (.int .u64)) .nil)))
def saturateref01_Extract.r : RCod (Int) := .val (.int .u64)
noncomputable def saturateref01_Extract.cs : List (Kn Tryz.prog) := [saturateref01_W.c, saturateref01_Bit.c]
def saturateref01_Extract.live : Nat → Option Keep := liveOf [(11, ⟨[0, 2, 7, 16, 17], [], [], [], []⟩)]
noncomputable def saturateref01_Extract.body : Code := bodyOf Tryz.f189
noncomputable def saturateref01_Extract.K (fu : Nat) : Code → St → (Ex → St → Option (Int)) → Option (Int) := codeK Tryz.prog (saturateref01_Extract.cs) saturateref01_Extract.live fu
noncomputable def saturateref01_Extract.j5 (fu n5 : Nat) (x0 x2 x7 x16 x17 : Int) : Option Int :=
  loopK (saturateref01_Extract.K fu (sub saturateref01_Extract.body [true, true, true, false, true, false, false])) (saturateref01_Extract.live 11) n5 (stOf 32 [(0, .val (.int .i64 x0)), (2, .val (.int .u64 x2)), (7, .val (.int .u64 x7)), (16, .val (.int .i64 x16)), (17, .val (.int .i64 x17))] []) (blockC 0 (seqC fu (saturateref01_Extract.live 18) (saturateref01_Extract.K fu (sub saturateref01_Extract.body [true, true, true, true])) (retC Tryz.prog Tryz.f189.results saturateref01_Extract.r.dec)))
theorem saturateref01_Extract.j5_succ (fu n5 : Nat) (x0 x2 x7 x16 x17 : Int) : saturateref01_Extract.j5 fu (n5 + 1) x0 x2 x7 x16 x17 =
  bif (decide (x17 < x16)) then
    (saturateref01_Bit.f x2 (IntKind.i64.wrap (x0 + x17))).bind fun r2 =>
    bif decide ((IntKind.u64.wrap x17) < 0) then
      none
    else
      saturateref01_Extract.j5 fu n5 x0 x2 (Go.bits .or .u64 x7 (shl .u64 r2 (IntKind.u64.wrap x17))) x16 (IntKind.i64.wrap (x17 + 1))
  else
    some x7 := by kernel_rfl
noncomputable def saturateref01_Extract.g (fu : Nat) (a0 a1 a2 : Int) : Option (Int) :=
  bif (decide (a0 < 0)) then
    some 0
  else
    bif (decide (a0 > 63)) then
      some 0
    else
      (saturateref01_W.f a1).bind fun r1 =>
      saturateref01_Extract.j5 fu fu a0 a2 0 r1 0
noncomputable def saturateref01_Extract.f (a0 a1 a2 : Int) : Option (Int) := saturateref01_Extract.g (fuel0 + 1) a0 a1 a2
theorem saturateref01_Extract.eq (fu : Nat) (a : Int × Int × Int × Unit) : bodyK Tryz.prog saturateref01_Extract.cs saturateref01_Extract.live fu Tryz.f189 (saturateref01_Extract.a.enc a) saturateref01_Extract.r.dec = saturateref01_Extract.g fu a.1 a.2.1 a.2.2.1 := by kernel_rfl
theorem saturateref01_Extract.con : ∀ (a : Int × Int × Int × Unit) (r : Int), saturateref01_Extract.f a.1 a.2.1 a.2.2.1 = some r → Contract Tryz.prog 189 (saturateref01_Extract.a.enc a) (saturateref01_Extract.r.enc r) := Contract.of_body (F := fun (a : Int × Int × Int × Unit) => saturateref01_Extract.f a.1 a.2.1 a.2.2.1) (fn := Tryz.f189) (cs := saturateref01_Extract.cs) (live := saturateref01_Extract.live) (fuel := fuel0 + 1) (by kernel_rfl) (by kernel_rfl) mixed (saturateref01_Extract.eq (fuel0 + 1))
noncomputable def saturateref01_Extract.c : Kn Tryz.prog := Kn.of 189 saturateref01_Extract.a saturateref01_Extract.r (fun a => saturateref01_Extract.f a.1 a.2.1 a.2.2.1) saturateref01_Extract.con

/-! ### saturateref08_one: function 127 -/
def saturateref08_one.a : ACods (Int × Int × Int × Int × Int × Unit) := (.cons (.val (.int .i64)) (.cons (.val (.int .i64)) (.cons (.val (.int .u64)) (.cons (.val (.int .i64)) (.cons (.val (.int .u64)) .nil)))))
def saturateref08_one.r : RCod (Int) := .val (.int .u64)
noncomputable def saturateref08_one.cs : List (Kn Tryz.prog) := [saturateref01_Not.c, saturateref01_Neg.c, saturateref01_Extract.c, saturateref01_Sext.c]
def saturateref08_one.live : Nat → Option Keep := liveOf []
noncomputable def saturateref08_one.f (a0 a1 a2 a3 a4 : Int) : Option (Int) :=
  bif (a0 == 3) then
    (saturateref01_Not.f a3 a4).bind fun r1 =>
    some r1
  else
    bif (a0 == 4) then
      (saturateref01_Neg.f a3 a4).bind fun r2 =>
      some r2
    else
      bif (a0 == 21) then
        (saturateref01_Extract.f (IntKind.i64.wrap a2) a1 a4).bind fun r3 =>
        some r3
      else
        bif (a0 == 23) then
          (saturateref01_Sext.f a3 a1 a4).bind fun r4 =>
          some r4
        else
          some a4
theorem saturateref08_one.eq (fu : Nat) (a : Int × Int × Int × Int × Int × Unit) : bodyK Tryz.prog saturateref08_one.cs saturateref08_one.live fu Tryz.f127 (saturateref08_one.a.enc a) saturateref08_one.r.dec = saturateref08_one.f a.1 a.2.1 a.2.2.1 a.2.2.2.1 a.2.2.2.2.1 := by kernel_rfl
theorem saturateref08_one.con : ∀ (a : Int × Int × Int × Int × Int × Unit) (r : Int), saturateref08_one.f a.1 a.2.1 a.2.2.1 a.2.2.2.1 a.2.2.2.2.1 = some r → Contract Tryz.prog 127 (saturateref08_one.a.enc a) (saturateref08_one.r.enc r) := Contract.of_body (F := fun (a : Int × Int × Int × Int × Int × Unit) => saturateref08_one.f a.1 a.2.1 a.2.2.1 a.2.2.2.1 a.2.2.2.2.1) (fn := Tryz.f127) (cs := saturateref08_one.cs) (live := saturateref08_one.live) (fuel := fuel0 + 1) (by kernel_rfl) (by kernel_rfl) mixed (saturateref08_one.eq (fuel0 + 1))
noncomputable def saturateref08_one.c : Kn Tryz.prog := Kn.of 127 saturateref08_one.a saturateref08_one.r (fun a => saturateref08_one.f a.1 a.2.1 a.2.2.1 a.2.2.2.1 a.2.2.2.2.1) saturateref08_one.con

/-! ### saturateref01_And: function 190 -/
def saturateref01_And.a : ACods (Int × Int × Int × Unit) := (.cons (.val (.int .i64)) (.cons (.val (.int .u64)) (.cons (.val (.int .u64)) .nil)))
def saturateref01_And.r : RCod (Int) := .val (.int .u64)
noncomputable def saturateref01_And.cs : List (Kn Tryz.prog) := [saturateref01_W.c, saturateref01_Bit.c]
def saturateref01_And.live : Nat → Option Keep := liveOf [(7, ⟨[1, 2, 7, 10, 11], [], [], [], []⟩), (14, ⟨[1, 2, 7, 10, 11], [], [], [], []⟩)]
noncomputable def saturateref01_And.body : Code := bodyOf Tryz.f190
noncomputable def saturateref01_And.K (fu : Nat) : Code → St → (Ex → St → Option (Int)) → Option (Int) := codeK Tryz.prog (saturateref01_And.cs) saturateref01_And.live fu
noncomputable def saturateref01_And.j3 (fu n3 : Nat) (x1 x2 x7 x10 x11 : Int) : Option Int :=
  loopK (saturateref01_And.K fu (sub saturateref01_And.body [true, true, false, true, false, false])) (saturateref01_And.live 7) n3 (stOf 31 [(1, .val (.int .u64 x1)), (2, .val (.int .u64 x2)), (7, .val (.int .u64 x7)), (10, .val (.int .i64 x10)), (11, .val (.int .i64 x11))] []) (blockC 0 (seqC fu (saturateref01_And.live 16) (saturateref01_And.K fu (sub saturateref01_And.body [true, true, true])) (retC Tryz.prog Tryz.f190.results saturateref01_And.r.dec)))
noncomputable def saturateref01_And.p7 (m fu : Nat) (n3 : Nat) (x1 x2 x7 x10 x11 : Int) : Option Int :=
  joinK m (saturateref01_And.K fu (sub saturateref01_And.body [true, true, false, true, false, false, true, true, true])) (stOf 31 [(1, .val (.int .u64 x1)), (2, .val (.int .u64 x2)), (7, .val (.int .u64 x7)), (10, .val (.int .i64 x10)), (11, .val (.int .i64 x11))] []) (roundC (saturateref01_And.live 7) (loopK (saturateref01_And.K fu (sub saturateref01_And.body [true, true, false, true, false, false])) (saturateref01_And.live 7) n3) (blockC 0 (seqC fu (saturateref01_And.live 16) (saturateref01_And.K fu (sub saturateref01_And.body [true, true, true])) (retC Tryz.prog Tryz.f190.results saturateref01_And.r.dec))))
theorem saturateref01_And.p7_eq (m fu : Nat) (n3 : Nat) (x1 x2 x7 x10 x11 : Int) : saturateref01_And.p7 (m + 1) fu n3 x1 x2 x7 x10 x11 =
  saturateref01_And.j3 fu n3 x1 x2 x7 x10 (IntKind.i64.wrap (x11 + 1)) := by kernel_rfl
theorem saturateref01_And.j3_succ (fu n3 : Nat) (x1 x2 x7 x10 x11 : Int) : saturateref01_And.j3 fu (n3 + 1) x1 x2 x7 x10 x11 =
  bif (decide (x11 < x10)) then
    (saturateref01_Bit.f x1 x11).bind fun r2 =>
    bif (r2 == 1) then
      (saturateref01_Bit.f x2 x11).bind fun r3 =>
      bif (r3 == 1) then
        bif decide ((IntKind.u64.wrap x11) < 0) then
          none
        else
          saturateref01_And.p7 fu fu n3 x1 x2 (Go.bits .or .u64 x7 (shl .u64 1 (IntKind.u64.wrap x11))) x10 x11
      else
        saturateref01_And.p7 fu fu n3 x1 x2 x7 x10 x11
    else
      saturateref01_And.p7 fu fu n3 x1 x2 x7 x10 x11
  else
    some x7 := by kernel_rfl
noncomputable def saturateref01_And.g (fu : Nat) (a0 a1 a2 : Int) : Option (Int) :=
  (saturateref01_W.f a0).bind fun r1 =>
  saturateref01_And.j3 fu fu a1 a2 0 r1 0
noncomputable def saturateref01_And.f (a0 a1 a2 : Int) : Option (Int) := saturateref01_And.g (fuel0 + 1) a0 a1 a2
theorem saturateref01_And.eq (fu : Nat) (a : Int × Int × Int × Unit) : bodyK Tryz.prog saturateref01_And.cs saturateref01_And.live fu Tryz.f190 (saturateref01_And.a.enc a) saturateref01_And.r.dec = saturateref01_And.g fu a.1 a.2.1 a.2.2.1 := by kernel_rfl
theorem saturateref01_And.con : ∀ (a : Int × Int × Int × Unit) (r : Int), saturateref01_And.f a.1 a.2.1 a.2.2.1 = some r → Contract Tryz.prog 190 (saturateref01_And.a.enc a) (saturateref01_And.r.enc r) := Contract.of_body (F := fun (a : Int × Int × Int × Unit) => saturateref01_And.f a.1 a.2.1 a.2.2.1) (fn := Tryz.f190) (cs := saturateref01_And.cs) (live := saturateref01_And.live) (fuel := fuel0 + 1) (by kernel_rfl) (by kernel_rfl) mixed (saturateref01_And.eq (fuel0 + 1))
noncomputable def saturateref01_And.c : Kn Tryz.prog := Kn.of 190 saturateref01_And.a saturateref01_And.r (fun a => saturateref01_And.f a.1 a.2.1 a.2.2.1) saturateref01_And.con

/-! ### saturateref01_Or: function 191 -/
def saturateref01_Or.a : ACods (Int × Int × Int × Unit) := (.cons (.val (.int .i64)) (.cons (.val (.int .u64)) (.cons (.val (.int .u64)) .nil)))
def saturateref01_Or.r : RCod (Int) := .val (.int .u64)
noncomputable def saturateref01_Or.cs : List (Kn Tryz.prog) := [saturateref01_Not.c, saturateref01_And.c]
def saturateref01_Or.live : Nat → Option Keep := liveOf []
noncomputable def saturateref01_Or.f (a0 a1 a2 : Int) : Option (Int) :=
  (saturateref01_Not.f a0 a1).bind fun r1 =>
  (saturateref01_Not.f a0 a2).bind fun r2 =>
  (saturateref01_And.f a0 r1 r2).bind fun r3 =>
  (saturateref01_Not.f a0 r3).bind fun r4 =>
  some r4
theorem saturateref01_Or.eq (fu : Nat) (a : Int × Int × Int × Unit) : bodyK Tryz.prog saturateref01_Or.cs saturateref01_Or.live fu Tryz.f191 (saturateref01_Or.a.enc a) saturateref01_Or.r.dec = saturateref01_Or.f a.1 a.2.1 a.2.2.1 := by kernel_rfl
theorem saturateref01_Or.con : ∀ (a : Int × Int × Int × Unit) (r : Int), saturateref01_Or.f a.1 a.2.1 a.2.2.1 = some r → Contract Tryz.prog 191 (saturateref01_Or.a.enc a) (saturateref01_Or.r.enc r) := Contract.of_body (F := fun (a : Int × Int × Int × Unit) => saturateref01_Or.f a.1 a.2.1 a.2.2.1) (fn := Tryz.f191) (cs := saturateref01_Or.cs) (live := saturateref01_Or.live) (fuel := fuel0 + 1) (by kernel_rfl) (by kernel_rfl) mixed (saturateref01_Or.eq (fuel0 + 1))
noncomputable def saturateref01_Or.c : Kn Tryz.prog := Kn.of 191 saturateref01_Or.a saturateref01_Or.r (fun a => saturateref01_Or.f a.1 a.2.1 a.2.2.1) saturateref01_Or.con

/-! ### saturateref01_Xor: function 192 -/
def saturateref01_Xor.a : ACods (Int × Int × Int × Unit) := (.cons (.val (.int .i64)) (.cons (.val (.int .u64)) (.cons (.val (.int .u64)) .nil)))
def saturateref01_Xor.r : RCod (Int) := .val (.int .u64)
noncomputable def saturateref01_Xor.cs : List (Kn Tryz.prog) := [saturateref01_Or.c, saturateref01_And.c]
def saturateref01_Xor.live : Nat → Option Keep := liveOf []
noncomputable def saturateref01_Xor.f (a0 a1 a2 : Int) : Option (Int) :=
  (saturateref01_Or.f a0 a1 a2).bind fun r1 =>
  (saturateref01_And.f a0 a1 a2).bind fun r2 =>
  some (IntKind.u64.wrap (r1 - r2))
theorem saturateref01_Xor.eq (fu : Nat) (a : Int × Int × Int × Unit) : bodyK Tryz.prog saturateref01_Xor.cs saturateref01_Xor.live fu Tryz.f192 (saturateref01_Xor.a.enc a) saturateref01_Xor.r.dec = saturateref01_Xor.f a.1 a.2.1 a.2.2.1 := by kernel_rfl
theorem saturateref01_Xor.con : ∀ (a : Int × Int × Int × Unit) (r : Int), saturateref01_Xor.f a.1 a.2.1 a.2.2.1 = some r → Contract Tryz.prog 192 (saturateref01_Xor.a.enc a) (saturateref01_Xor.r.enc r) := Contract.of_body (F := fun (a : Int × Int × Int × Unit) => saturateref01_Xor.f a.1 a.2.1 a.2.2.1) (fn := Tryz.f192) (cs := saturateref01_Xor.cs) (live := saturateref01_Xor.live) (fuel := fuel0 + 1) (by kernel_rfl) (by kernel_rfl) mixed (saturateref01_Xor.eq (fuel0 + 1))
noncomputable def saturateref01_Xor.c : Kn Tryz.prog := Kn.of 192 saturateref01_Xor.a saturateref01_Xor.r (fun a => saturateref01_Xor.f a.1 a.2.1 a.2.2.1) saturateref01_Xor.con

/-! ### saturateref01_Ashr: function 199 -/
def saturateref01_Ashr.a : ACods (Int × Int × Int × Unit) := (.cons (.val (.int .i64)) (.cons (.val (.int .u64)) (.cons (.val (.int .u64)) .nil)))
def saturateref01_Ashr.r : RCod (Int) := .val (.int .u64)
noncomputable def saturateref01_Ashr.cs : List (Kn Tryz.prog) := [saturateref01_by.c, saturateref01_W.c, saturateref01_Bit.c, saturateref01_shift.c]
def saturateref01_Ashr.live : Nat → Option Keep := liveOf []
noncomputable def saturateref01_Ashr.f (a0 a1 a2 : Int) : Option (Int) :=
  (saturateref01_by.f a0 a2).bind fun r1 =>
  (saturateref01_W.f a0).bind fun r2 =>
  (saturateref01_Bit.f a1 (IntKind.i64.wrap (r2 - 1))).bind fun r3 =>
  (saturateref01_shift.f a0 a1 r1 r3).bind fun r4 =>
  some r4
theorem saturateref01_Ashr.eq (fu : Nat) (a : Int × Int × Int × Unit) : bodyK Tryz.prog saturateref01_Ashr.cs saturateref01_Ashr.live fu Tryz.f199 (saturateref01_Ashr.a.enc a) saturateref01_Ashr.r.dec = saturateref01_Ashr.f a.1 a.2.1 a.2.2.1 := by kernel_rfl
theorem saturateref01_Ashr.con : ∀ (a : Int × Int × Int × Unit) (r : Int), saturateref01_Ashr.f a.1 a.2.1 a.2.2.1 = some r → Contract Tryz.prog 199 (saturateref01_Ashr.a.enc a) (saturateref01_Ashr.r.enc r) := Contract.of_body (F := fun (a : Int × Int × Int × Unit) => saturateref01_Ashr.f a.1 a.2.1 a.2.2.1) (fn := Tryz.f199) (cs := saturateref01_Ashr.cs) (live := saturateref01_Ashr.live) (fuel := fuel0 + 1) (by kernel_rfl) (by kernel_rfl) mixed (saturateref01_Ashr.eq (fuel0 + 1))
noncomputable def saturateref01_Ashr.c : Kn Tryz.prog := Kn.of 199 saturateref01_Ashr.a saturateref01_Ashr.r (fun a => saturateref01_Ashr.f a.1 a.2.1 a.2.2.1) saturateref01_Ashr.con

/-! ### saturateref01_Eq: function 200 -/
def saturateref01_Eq.a : ACods (Int × Int × Int × Unit) := (.cons (.val (.int .i64)) (.cons (.val (.int .u64)) (.cons (.val (.int .u64)) .nil)))
def saturateref01_Eq.r : RCod (Int) := .val (.int .u64)
noncomputable def saturateref01_Eq.cs : List (Kn Tryz.prog) := [saturateref01_Cut.c, saturateref01_truth.c]
def saturateref01_Eq.live : Nat → Option Keep := liveOf []
noncomputable def saturateref01_Eq.f (a0 a1 a2 : Int) : Option (Int) :=
  (saturateref01_Cut.f a0 a1).bind fun r1 =>
  (saturateref01_Cut.f a0 a2).bind fun r2 =>
  (saturateref01_truth.f (r1 == r2)).bind fun r3 =>
  some r3
theorem saturateref01_Eq.eq (fu : Nat) (a : Int × Int × Int × Unit) : bodyK Tryz.prog saturateref01_Eq.cs saturateref01_Eq.live fu Tryz.f200 (saturateref01_Eq.a.enc a) saturateref01_Eq.r.dec = saturateref01_Eq.f a.1 a.2.1 a.2.2.1 := by kernel_rfl
theorem saturateref01_Eq.con : ∀ (a : Int × Int × Int × Unit) (r : Int), saturateref01_Eq.f a.1 a.2.1 a.2.2.1 = some r → Contract Tryz.prog 200 (saturateref01_Eq.a.enc a) (saturateref01_Eq.r.enc r) := Contract.of_body (F := fun (a : Int × Int × Int × Unit) => saturateref01_Eq.f a.1 a.2.1 a.2.2.1) (fn := Tryz.f200) (cs := saturateref01_Eq.cs) (live := saturateref01_Eq.live) (fuel := fuel0 + 1) (by kernel_rfl) (by kernel_rfl) mixed (saturateref01_Eq.eq (fuel0 + 1))
noncomputable def saturateref01_Eq.c : Kn Tryz.prog := Kn.of 200 saturateref01_Eq.a saturateref01_Eq.r (fun a => saturateref01_Eq.f a.1 a.2.1 a.2.2.1) saturateref01_Eq.con

/-! ### saturateref08_two: function 128 -/
def saturateref08_two.a : ACods (Int × Int × Int × Int × Unit) := (.cons (.val (.int .i64)) (.cons (.val (.int .i64)) (.cons (.val (.int .u64)) (.cons (.val (.int .u64)) .nil))))
def saturateref08_two.r : RCod (Int) := .val (.int .u64)
noncomputable def saturateref08_two.cs : List (Kn Tryz.prog) := [saturateref01_And.c, saturateref01_Or.c, saturateref01_Xor.c, saturateref01_Add.c, saturateref01_Sub.c, saturateref01_Mul.c, saturateref01_Udiv.c, saturateref01_Urem.c, saturateref01_Shl.c, saturateref01_Lshr.c, saturateref01_Ashr.c, saturateref01_Eq.c, saturateref01_Ult.c, saturateref01_Slt.c]
def saturateref08_two.live : Nat → Option Keep := liveOf []
noncomputable def saturateref08_two.f (a0 a1 a2 a3 : Int) : Option (Int) :=
  bif (a0 == 5) then
    (saturateref01_And.f a1 a2 a3).bind fun r1 =>
    some r1
  else
    bif (a0 == 6) then
      (saturateref01_Or.f a1 a2 a3).bind fun r2 =>
      some r2
    else
      bif (a0 == 7) then
        (saturateref01_Xor.f a1 a2 a3).bind fun r3 =>
        some r3
      else
        bif (a0 == 8) then
          (saturateref01_Add.f a1 a2 a3).bind fun r4 =>
          some r4
        else
          bif (a0 == 9) then
            (saturateref01_Sub.f a1 a2 a3).bind fun r5 =>
            some r5
          else
            bif (a0 == 10) then
              (saturateref01_Mul.f a1 a2 a3).bind fun r6 =>
              some r6
            else
              bif (a0 == 11) then
                (saturateref01_Udiv.f a1 a2 a3).bind fun r7 =>
                some r7
              else
                bif (a0 == 12) then
                  (saturateref01_Urem.f a1 a2 a3).bind fun r8 =>
                  some r8
                else
                  bif (a0 == 13) then
                    (saturateref01_Shl.f a1 a2 a3).bind fun r9 =>
                    some r9
                  else
                    bif (a0 == 14) then
                      (saturateref01_Lshr.f a1 a2 a3).bind fun r10 =>
                      some r10
                    else
                      bif (a0 == 15) then
                        (saturateref01_Ashr.f a1 a2 a3).bind fun r11 =>
                        some r11
                      else
                        bif (a0 == 16) then
                          (saturateref01_Eq.f a1 a2 a3).bind fun r12 =>
                          some r12
                        else
                          bif (a0 == 17) then
                            (saturateref01_Ult.f a1 a2 a3).bind fun r13 =>
                            some r13
                          else
                            (saturateref01_Slt.f a1 a2 a3).bind fun r14 =>
                            some r14
theorem saturateref08_two.eq (fu : Nat) (a : Int × Int × Int × Int × Unit) : bodyK Tryz.prog saturateref08_two.cs saturateref08_two.live fu Tryz.f128 (saturateref08_two.a.enc a) saturateref08_two.r.dec = saturateref08_two.f a.1 a.2.1 a.2.2.1 a.2.2.2.1 := by kernel_rfl
theorem saturateref08_two.con : ∀ (a : Int × Int × Int × Int × Unit) (r : Int), saturateref08_two.f a.1 a.2.1 a.2.2.1 a.2.2.2.1 = some r → Contract Tryz.prog 128 (saturateref08_two.a.enc a) (saturateref08_two.r.enc r) := Contract.of_body (F := fun (a : Int × Int × Int × Int × Unit) => saturateref08_two.f a.1 a.2.1 a.2.2.1 a.2.2.2.1) (fn := Tryz.f128) (cs := saturateref08_two.cs) (live := saturateref08_two.live) (fuel := fuel0 + 1) (by kernel_rfl) (by kernel_rfl) mixed (saturateref08_two.eq (fuel0 + 1))
noncomputable def saturateref08_two.c : Kn Tryz.prog := Kn.of 128 saturateref08_two.a saturateref08_two.r (fun a => saturateref08_two.f a.1 a.2.1 a.2.2.1 a.2.2.2.1) saturateref08_two.con

/-! ### saturateref08_value: function 64 -/
def saturateref08_value.a : ACods (Int × Int × Int × (Nat × (Nat → Int) × (Nat → Int)) × Unit) := (.cons (.val (.int .i64)) (.cons (.val (.int .i64)) (.cons (.val (.int .u64)) (.cons (.rows (.int .i64 (.int1 .u64))) .nil))))
def saturateref08_value.r : RCod (Int) := .val (.int .u64)
noncomputable def saturateref08_value.cs : List (Kn Tryz.prog) := [saturateref01_Cut.c, saturateref08_one.c, saturateref01_Concat.c, saturateref08_two.c]
def saturateref08_value.live : Nat → Option Keep := liveOf [(7, ⟨[0, 1, 2, 3, 9, 10], [3, 9], [(9, 23, [.int .u64 (fun _ => 0)])], [], []⟩)]
noncomputable def saturateref08_value.body : Code := bodyOf Tryz.f64
noncomputable def saturateref08_value.K (fu : Nat) : Code → St → (Ex → St → Option (Int)) → Option (Int) := codeK Tryz.prog (saturateref08_value.cs) saturateref08_value.live fu
noncomputable def saturateref08_value.j3 (fu n3 : Nat) (x0 x1 x2 : Int) (x3n x9n : Nat) (x10 : Int) (m3 : Nat) (g3_0 g3_1 : Nat → Int) (m9 : Nat) (g9_0 : Nat → Int) : Option Int :=
  loopK (saturateref08_value.K fu (sub saturateref08_value.body [true, true, false, true, false, false])) (saturateref08_value.live 7) n3 (stOf 90 [(0, .val (.int .i64 x0)), (1, .val (.int .i64 x1)), (2, .val (.int .u64 x2)), (3, .sl 3 2 x3n), (9, .sl 9 1 x9n), (10, .val (.int .i64 x10))] [(3, .ext m3 [.int .i64 g3_0, .int .u64 g3_1]), (9, .grow 23 m9 [.int .u64 g9_0])]) (blockC 0 (seqC fu (saturateref08_value.live 12) (saturateref08_value.K fu (sub saturateref08_value.body [true, true, true])) (retC Tryz.prog Tryz.f64.results saturateref08_value.r.dec)))
theorem saturateref08_value.j3_succ (fu n3 : Nat) (x0 x1 x2 : Int) (x3n x9n : Nat) (x10 : Int) (m3 : Nat) (g3_0 g3_1 : Nat → Int) (m9 : Nat) (g9_0 : Nat → Int) : saturateref08_value.j3 fu (n3 + 1) x0 x1 x2 x3n x9n x10 m3 g3_0 g3_1 m9 g9_0 =
  bif (decide (x10 < (x3n : Int))) then
    bif decide (0 ≤ x10) then
      bif decide (x10 < (x3n : Int)) then
        bif decide (0 ≤ x10) then
          bif decide (x10 < (x3n : Int)) then
            (saturateref01_Cut.f (g3_0 x10.toNat) (g3_1 x10.toNat)).bind fun r1 =>
            bif Nat.ble ((x9n + 1) * 8) 140737488355328 then
              saturateref08_value.j3 fu n3 x0 x1 x2 x3n (x9n + 1) (IntKind.i64.wrap (x10 + 1)) m3 g3_0 g3_1 (x9n + 1) (cat x9n g9_0 (fun i => [r1].getD i 0))
            else
              none
          else
            none
        else
          none
      else
        none
    else
      none
  else
    bif ((x9n : Int) == 0) then
      some x2
    else
      bif ((x9n : Int) == 1) then
        bif decide ((0 : Int) < (x3n : Int)) then
          bif decide ((0 : Int) < (x9n : Int)) then
            (saturateref08_one.f x0 x1 x2 (g3_0 0) (g9_0 0)).bind fun r2 =>
            some r2
          else
            none
        else
          none
      else
        bif ((x9n : Int) == 3) then
          bif decide ((0 : Int) < (x9n : Int)) then
            bif ((g9_0 0) == 1) then
              bif decide ((1 : Int) < (x9n : Int)) then
                some (g9_0 1)
              else
                none
            else
              bif decide ((2 : Int) < (x9n : Int)) then
                some (g9_0 2)
              else
                none
          else
            none
        else
          bif (x0 == 20) then
            bif decide ((0 : Int) < (x3n : Int)) then
              bif decide ((1 : Int) < (x3n : Int)) then
                bif decide ((0 : Int) < (x9n : Int)) then
                  bif decide ((1 : Int) < (x9n : Int)) then
                    (saturateref01_Concat.f (g3_0 0) (g3_0 1) (g9_0 0) (g9_0 1)).bind fun r3 =>
                    some r3
                  else
                    none
                else
                  none
              else
                none
            else
              none
          else
            bif decide ((0 : Int) < (x3n : Int)) then
              bif decide ((0 : Int) < (x9n : Int)) then
                bif decide ((1 : Int) < (x9n : Int)) then
                  (saturateref08_two.f x0 (g3_0 0) (g9_0 0) (g9_0 1)).bind fun r4 =>
                  some r4
                else
                  none
              else
                none
            else
              none := by kernel_rfl
noncomputable def saturateref08_value.g (fu : Nat) (a0 a1 a2 : Int) (a3 : Nat × (Nat → Int) × (Nat → Int)) : Option (Int) :=
  saturateref08_value.j3 fu fu a0 a1 a2 a3.1 0 0 a3.1 a3.2.1 a3.2.2 0 (fun _ => 0)
noncomputable def saturateref08_value.f (a0 a1 a2 : Int) (a3 : Nat × (Nat → Int) × (Nat → Int)) : Option (Int) := saturateref08_value.g (fuel0 + 1) a0 a1 a2 a3
theorem saturateref08_value.eq (fu : Nat) (a : Int × Int × Int × (Nat × (Nat → Int) × (Nat → Int)) × Unit) : bodyK Tryz.prog saturateref08_value.cs saturateref08_value.live fu Tryz.f64 (saturateref08_value.a.enc a) saturateref08_value.r.dec = saturateref08_value.g fu a.1 a.2.1 a.2.2.1 a.2.2.2.1 := by kernel_rfl
theorem saturateref08_value.con : ∀ (a : Int × Int × Int × (Nat × (Nat → Int) × (Nat → Int)) × Unit) (r : Int), saturateref08_value.f a.1 a.2.1 a.2.2.1 a.2.2.2.1 = some r → Contract Tryz.prog 64 (saturateref08_value.a.enc a) (saturateref08_value.r.enc r) := Contract.of_body (F := fun (a : Int × Int × Int × (Nat × (Nat → Int) × (Nat → Int)) × Unit) => saturateref08_value.f a.1 a.2.1 a.2.2.1 a.2.2.2.1) (fn := Tryz.f64) (cs := saturateref08_value.cs) (live := saturateref08_value.live) (fuel := fuel0 + 1) (by kernel_rfl) (by kernel_rfl) mixed (saturateref08_value.eq (fuel0 + 1))
noncomputable def saturateref08_value.c : Kn Tryz.prog := Kn.of 64 saturateref08_value.a saturateref08_value.r (fun a => saturateref08_value.f a.1 a.2.1 a.2.2.1 a.2.2.2.1) saturateref08_value.con

/-! ### saturateref08_Apply: function 23 -/
def saturateref08_Apply.a : ACods (Int × Int × Int × (Nat × (Nat → Int) × (Nat → Int)) × Unit) := (.cons (.val (.int .i64)) (.cons (.val (.int .i64)) (.cons (.val (.int .u64)) (.cons (.rows (.int .i64 (.int1 .u64))) .nil))))
def saturateref08_Apply.r : RCod (Int × Int) := .val (.tup (.cons (.int .u64) (.one (.int .i64))))
noncomputable def saturateref08_Apply.cs : List (Kn Tryz.prog) := [saturateref04_Width.c, saturateref04_Pattern.c, saturateref08_value.c]
def saturateref08_Apply.live : Nat → Option Keep := liveOf [(7, ⟨[0, 1, 2, 3, 10, 11], [3, 10], [(10, 3, [.int .i64 (fun _ => 0)])], [], []⟩), (25, ⟨[0, 2, 3, 10, 12, 14], [3, 10], [], [], []⟩)]
noncomputable def saturateref08_Apply.body : Code := bodyOf Tryz.f23
noncomputable def saturateref08_Apply.K (fu : Nat) : Code → St → (Ex → St → Option (Int × Int)) → Option (Int × Int) := codeK Tryz.prog (saturateref08_Apply.cs) saturateref08_Apply.live fu
noncomputable def saturateref08_Apply.j3 (fu n3 : Nat) (x0 x1 x2 : Int) (x3n x10n : Nat) (x11 : Int) (m3 : Nat) (g3_0 g3_1 : Nat → Int) (m10 : Nat) (g10_0 : Nat → Int) : Option (Int × Int) :=
  loopK (saturateref08_Apply.K fu (sub saturateref08_Apply.body [true, true, false, true, false, false])) (saturateref08_Apply.live 7) n3 (stOf 64 [(0, .val (.int .i64 x0)), (1, .val (.int .i64 x1)), (2, .val (.int .u64 x2)), (3, .sl 3 2 x3n), (10, .sl 10 1 x10n), (11, .val (.int .i64 x11))] [(3, .ext m3 [.int .i64 g3_0, .int .u64 g3_1]), (10, .grow 3 m10 [.int .i64 g10_0])]) (blockC 0 (seqC fu (saturateref08_Apply.live 12) (saturateref08_Apply.K fu (sub saturateref08_Apply.body [true, true, true])) (retC Tryz.prog Tryz.f23.results saturateref08_Apply.r.dec)))
noncomputable def saturateref08_Apply.j12 (fu n12 : Nat) (x0 x2 : Int) (x3n x10n : Nat) (x12 x14 : Int) (m3 : Nat) (g3_0 g3_1 : Nat → Int) (m10 : Nat) (g10_0 : Nat → Int) : Option (Int × Int) :=
  loopK (saturateref08_Apply.K fu (sub saturateref08_Apply.body [true, true, true, true, true, true, false, true, false, false])) (saturateref08_Apply.live 25) n12 (stOf 64 [(0, .val (.int .i64 x0)), (2, .val (.int .u64 x2)), (3, .sl 3 2 x3n), (10, .sl 10 1 x10n), (12, .val (.int .i64 x12)), (14, .val (.int .i64 x14))] [(3, .ext m3 [.int .i64 g3_0, .int .u64 g3_1]), (10, .grow 3 m10 [.int .i64 g10_0])]) (blockC 2 (seqC fu (saturateref08_Apply.live 32) (saturateref08_Apply.K fu (sub saturateref08_Apply.body [true, true, true, true, true, true, true])) (retC Tryz.prog Tryz.f23.results saturateref08_Apply.r.dec)))
theorem saturateref08_Apply.j12_succ (fu n12 : Nat) (x0 x2 : Int) (x3n x10n : Nat) (x12 x14 : Int) (m3 : Nat) (g3_0 g3_1 : Nat → Int) (m10 : Nat) (g10_0 : Nat → Int) : saturateref08_Apply.j12 fu (n12 + 1) x0 x2 x3n x10n x12 x14 m3 g3_0 g3_1 m10 g10_0 =
  bif (decide (x14 < (x10n : Int))) then
    bif decide (0 ≤ x14) then
      bif decide (x14 < (x10n : Int)) then
        bif ((g10_0 x14.toNat) == 0) then
          some (0, 3)
        else
          saturateref08_Apply.j12 fu n12 x0 x2 x3n x10n x12 (IntKind.i64.wrap (x14 + 1)) m3 g3_0 g3_1 m10 g10_0
      else
        none
    else
      none
  else
    bif (x12 == 0) then
      some (0, 3)
    else
      (saturateref08_value.f x0 x12 x2 (x3n, g3_0, g3_1)).bind fun r3 =>
      some (r3, 0) := by kernel_rfl
theorem saturateref08_Apply.j3_succ (fu n3 : Nat) (x0 x1 x2 : Int) (x3n x10n : Nat) (x11 : Int) (m3 : Nat) (g3_0 g3_1 : Nat → Int) (m10 : Nat) (g10_0 : Nat → Int) : saturateref08_Apply.j3 fu (n3 + 1) x0 x1 x2 x3n x10n x11 m3 g3_0 g3_1 m10 g10_0 =
  bif (decide (x11 < (x3n : Int))) then
    bif decide (0 ≤ x11) then
      bif decide (x11 < (x3n : Int)) then
        bif Nat.ble ((x10n + 1) * 8) 140737488355328 then
          saturateref08_Apply.j3 fu n3 x0 x1 x2 x3n (x10n + 1) (IntKind.i64.wrap (x11 + 1)) m3 g3_0 g3_1 (x10n + 1) (cat x10n g10_0 (fun i => [(g3_0 x11.toNat)].getD i 0))
        else
          none
      else
        none
    else
      none
  else
    (saturateref04_Width.f x0 x1 x2 (x10n, g10_0)).bind fun r1 =>
    bif (r1.2 != 0) then
      some (0, r1.2)
    else
      bif (x0 == 1) then
        some (0, 4)
      else
        (saturateref04_Pattern.f x0).bind fun r2 =>
        bif r2 then
          some (0, 4)
        else
          saturateref08_Apply.j12 fu fu x0 x2 x3n x10n r1.1 0 m3 g3_0 g3_1 m10 g10_0 := by kernel_rfl
noncomputable def saturateref08_Apply.g (fu : Nat) (a0 a1 a2 : Int) (a3 : Nat × (Nat → Int) × (Nat → Int)) : Option (Int × Int) :=
  saturateref08_Apply.j3 fu fu a0 a1 a2 a3.1 0 0 a3.1 a3.2.1 a3.2.2 0 (fun _ => 0)
noncomputable def saturateref08_Apply.f (a0 a1 a2 : Int) (a3 : Nat × (Nat → Int) × (Nat → Int)) : Option (Int × Int) := saturateref08_Apply.g (fuel0 + 1) a0 a1 a2 a3
theorem saturateref08_Apply.eq (fu : Nat) (a : Int × Int × Int × (Nat × (Nat → Int) × (Nat → Int)) × Unit) : bodyK Tryz.prog saturateref08_Apply.cs saturateref08_Apply.live fu Tryz.f23 (saturateref08_Apply.a.enc a) saturateref08_Apply.r.dec = saturateref08_Apply.g fu a.1 a.2.1 a.2.2.1 a.2.2.2.1 := by kernel_rfl
theorem saturateref08_Apply.con : ∀ (a : Int × Int × Int × (Nat × (Nat → Int) × (Nat → Int)) × Unit) (r : Int × Int), saturateref08_Apply.f a.1 a.2.1 a.2.2.1 a.2.2.2.1 = some r → Contract Tryz.prog 23 (saturateref08_Apply.a.enc a) (saturateref08_Apply.r.enc r) := Contract.of_body (F := fun (a : Int × Int × Int × (Nat × (Nat → Int) × (Nat → Int)) × Unit) => saturateref08_Apply.f a.1 a.2.1 a.2.2.1 a.2.2.2.1) (fn := Tryz.f23) (cs := saturateref08_Apply.cs) (live := saturateref08_Apply.live) (fuel := fuel0 + 1) (by kernel_rfl) (by kernel_rfl) mixed (saturateref08_Apply.eq (fuel0 + 1))
noncomputable def saturateref08_Apply.c : Kn Tryz.prog := Kn.of 23 saturateref08_Apply.a saturateref08_Apply.r (fun a => saturateref08_Apply.f a.1 a.2.1 a.2.2.1 a.2.2.2.1) saturateref08_Apply.con

/-! ### saturatelaw14_FactsApplySound: function 6 -/
def saturatelaw14_FactsApplySound.a : ACods (Int × Int × Int × (Nat × (Nat → Int) × (Nat → Int) × (Nat → Int) × (Nat → Int) × (Nat → Int)) × (Nat × (Nat → Int)) × Unit) := (.cons (.val (.int .i64)) (.cons (.val (.int .i64)) (.cons (.val (.int .u64)) (.cons (.rows (.int .i64 (.int .u64 (.int .u64 (.int .u64 (.int1 .u64)))))) (.cons (.rows (.int1 .u64)) .nil)))))
def saturatelaw14_FactsApplySound.r : RCod (Bool) := .val (.bool)
noncomputable def saturatelaw14_FactsApplySound.cs (v_saturatelaw14_lives : Unit → Option (Bool)) (h_saturatelaw14_lives : Con Tryz.prog 9 saturatelaw14_lives.a saturatelaw14_lives.r v_saturatelaw14_lives) : List (Kn Tryz.prog) := [Kn.of 9 saturatelaw14_lives.a saturatelaw14_lives.r v_saturatelaw14_lives h_saturatelaw14_lives.c, facts_Apply.c, saturateref14_Has.c, saturateref01_W.c, saturateref08_Apply.c, facts_Valid.c, facts_Has.c]
def saturatelaw14_FactsApplySound.live : Nat → Option Keep := liveOf [(17, ⟨[0, 1, 2, 3, 4, 11, 13, 14], [3, 4, 11, 13], [(13, 50, [.int .i64 (fun _ => 0), .int .u64 (fun _ => 0)])], [], []⟩)]
noncomputable def saturatelaw14_FactsApplySound.body : Code := bodyOf Tryz.f6
noncomputable def saturatelaw14_FactsApplySound.K (v_saturatelaw14_lives : Unit → Option (Bool)) (h_saturatelaw14_lives : Con Tryz.prog 9 saturatelaw14_lives.a saturatelaw14_lives.r v_saturatelaw14_lives) (fu : Nat) : Code → St → (Ex → St → Option (Bool)) → Option (Bool) := codeK Tryz.prog (saturatelaw14_FactsApplySound.cs v_saturatelaw14_lives h_saturatelaw14_lives) saturatelaw14_FactsApplySound.live fu
noncomputable def saturatelaw14_FactsApplySound.j8 (v_saturatelaw14_lives : Unit → Option (Bool)) (h_saturatelaw14_lives : Con Tryz.prog 9 saturatelaw14_lives.a saturatelaw14_lives.r v_saturatelaw14_lives) (fu n8 : Nat) (x0 x1 x2 : Int) (x3n x4n x13n : Nat) (x14 : Int) (m3 : Nat) (g3_0 g3_1 g3_2 g3_3 g3_4 : Nat → Int) (m4 : Nat) (g4_0 : Nat → Int) (c11_0 c11_1 c11_2 c11_3 c11_4 : Int) (m13 : Nat) (g13_0 g13_1 : Nat → Int) : Option Bool :=
  loopK (saturatelaw14_FactsApplySound.K v_saturatelaw14_lives h_saturatelaw14_lives fu (sub saturatelaw14_FactsApplySound.body [true, true, true, true, true, false, true, false, false])) (saturatelaw14_FactsApplySound.live 17) n8 (stOf 96 [(0, .val (.int .i64 x0)), (1, .val (.int .i64 x1)), (2, .val (.int .u64 x2)), (3, .sl 3 5 x3n), (4, .sl 4 1 x4n), (11, .ptr 11 0 0 0), (13, .sl 13 2 x13n), (14, .val (.int .i64 x14))] [(3, .ext m3 [.int .i64 g3_0, .int .u64 g3_1, .int .u64 g3_2, .int .u64 g3_3, .int .u64 g3_4]), (4, .ext m4 [.int .u64 g4_0]), (11, .own [.val (.int .i64 c11_0), .val (.int .u64 c11_1), .val (.int .u64 c11_2), .val (.int .u64 c11_3), .val (.int .u64 c11_4)]), (13, .grow 50 m13 [.int .i64 g13_0, .int .u64 g13_1])]) (blockC 0 (seqC fu (saturatelaw14_FactsApplySound.live 26) (saturatelaw14_FactsApplySound.K v_saturatelaw14_lives h_saturatelaw14_lives fu (sub saturatelaw14_FactsApplySound.body [true, true, true, true, true, true])) (retC Tryz.prog Tryz.f6.results saturatelaw14_FactsApplySound.r.dec)))
theorem saturatelaw14_FactsApplySound.j8_succ (v_saturatelaw14_lives : Unit → Option (Bool)) (h_saturatelaw14_lives : Con Tryz.prog 9 saturatelaw14_lives.a saturatelaw14_lives.r v_saturatelaw14_lives) (fu n8 : Nat) (x0 x1 x2 : Int) (x3n x4n x13n : Nat) (x14 : Int) (m3 : Nat) (g3_0 g3_1 g3_2 g3_3 g3_4 : Nat → Int) (m4 : Nat) (g4_0 : Nat → Int) (c11_0 c11_1 c11_2 c11_3 c11_4 : Int) (m13 : Nat) (g13_0 g13_1 : Nat → Int) : saturatelaw14_FactsApplySound.j8 v_saturatelaw14_lives h_saturatelaw14_lives fu (n8 + 1) x0 x1 x2 x3n x4n x13n x14 m3 g3_0 g3_1 g3_2 g3_3 g3_4 m4 g4_0 c11_0 c11_1 c11_2 c11_3 c11_4 m13 g13_0 g13_1 =
  bif (decide (x14 < (x4n : Int))) then
    bif decide (0 ≤ x14) then
      bif decide (x14 < (x3n : Int)) then
        bif decide (0 ≤ x14) then
          bif decide (x14 < (x4n : Int)) then
            (saturateref14_Has.f ((g3_0 x14.toNat), (g3_1 x14.toNat), (g3_2 x14.toNat), (g3_3 x14.toNat), (g3_4 x14.toNat)) (g4_0 x14.toNat)).bind fun r6 =>
            bif (!r6) then
              (v_saturatelaw14_lives ()).bind fun r7 =>
              some r7
            else
              bif decide (0 ≤ x14) then
                bif decide (x14 < (x3n : Int)) then
                  (saturateref01_W.f (g3_0 x14.toNat)).bind fun r8 =>
                  bif decide (0 ≤ x14) then
                    bif decide (x14 < (x4n : Int)) then
                      bif Nat.ble ((x13n + 1) * 16) 140737488355328 then
                        saturatelaw14_FactsApplySound.j8 v_saturatelaw14_lives h_saturatelaw14_lives fu n8 x0 x1 x2 x3n x4n (x13n + 1) (IntKind.i64.wrap (x14 + 1)) m3 g3_0 g3_1 g3_2 g3_3 g3_4 m4 g4_0 c11_0 c11_1 c11_2 c11_3 c11_4 (x13n + 1) (cat x13n g13_0 (fun i => [r8].getD i 0)) (cat x13n g13_1 (fun i => [(g4_0 x14.toNat)].getD i 0))
                      else
                        none
                    else
                      none
                  else
                    none
                else
                  none
              else
                none
          else
            none
        else
          none
      else
        none
    else
      none
  else
    (saturateref08_Apply.f x0 x1 x2 (x13n, g13_0, g13_1)).bind fun r9 =>
    bif (r9.2 == 0) then
      (facts_Valid.f (c11_0, c11_1, c11_2, c11_3, c11_4)).bind fun r10 =>
      bif r10 then
        (facts_Has.f (c11_0, c11_1, c11_2, c11_3, c11_4) r9.1).bind fun r11 =>
        bif r11 then
          (v_saturatelaw14_lives ()).bind fun r12 =>
          some r12
        else
          some false
      else
        some false
    else
      some false := by kernel_rfl
noncomputable def saturatelaw14_FactsApplySound.gv (v_saturatelaw14_lives : Unit → Option (Bool)) (h_saturatelaw14_lives : Con Tryz.prog 9 saturatelaw14_lives.a saturatelaw14_lives.r v_saturatelaw14_lives) (fu : Nat) (a0 a1 a2 : Int) (a3 : Nat × (Nat → Int) × (Nat → Int) × (Nat → Int) × (Nat → Int) × (Nat → Int)) (a4 : Nat × (Nat → Int)) : Option (Bool) :=
  bif (decide ((a3.1 : Int) > 5)) then
    (v_saturatelaw14_lives ()).bind fun r1 =>
    some r1
  else
    bif ((a4.1 : Int) != (a3.1 : Int)) then
      (v_saturatelaw14_lives ()).bind fun r2 =>
      some r2
    else
      bif (a0 == 1) then
        (v_saturatelaw14_lives ()).bind fun r3 =>
        some r3
      else
        (facts_Apply.f a0 a1 a2 (a3.1, a3.2.1, a3.2.2.1, a3.2.2.2.1, a3.2.2.2.2.1, a3.2.2.2.2.2)).bind fun r4 =>
        bif (r4.2 != 0) then
          (v_saturatelaw14_lives ()).bind fun r5 =>
          some r5
        else
          saturatelaw14_FactsApplySound.j8 v_saturatelaw14_lives h_saturatelaw14_lives fu fu a0 a1 a2 a3.1 a4.1 0 0 a3.1 a3.2.1 a3.2.2.1 a3.2.2.2.1 a3.2.2.2.2.1 a3.2.2.2.2.2 a4.1 a4.2 r4.1.1 r4.1.2.1 r4.1.2.2.1 r4.1.2.2.2.1 r4.1.2.2.2.2 0 (fun _ => 0) (fun _ => 0)
noncomputable def saturatelaw14_FactsApplySound.f (a0 a1 a2 : Int) (a3 : Nat × (Nat → Int) × (Nat → Int) × (Nat → Int) × (Nat → Int) × (Nat → Int)) (a4 : Nat × (Nat → Int)) : Option (Bool) := saturatelaw14_FactsApplySound.gv (fun a => saturatelaw14_lives.f) ⟨saturatelaw14_lives.con⟩ (fuel0 + 1) a0 a1 a2 a3 a4
theorem saturatelaw14_FactsApplySound.eq (v_saturatelaw14_lives : Unit → Option (Bool)) (h_saturatelaw14_lives : Con Tryz.prog 9 saturatelaw14_lives.a saturatelaw14_lives.r v_saturatelaw14_lives) (fu : Nat) (a : Int × Int × Int × (Nat × (Nat → Int) × (Nat → Int) × (Nat → Int) × (Nat → Int) × (Nat → Int)) × (Nat × (Nat → Int)) × Unit) : bodyK Tryz.prog (saturatelaw14_FactsApplySound.cs v_saturatelaw14_lives h_saturatelaw14_lives) saturatelaw14_FactsApplySound.live fu Tryz.f6 (saturatelaw14_FactsApplySound.a.enc a) saturatelaw14_FactsApplySound.r.dec = saturatelaw14_FactsApplySound.gv v_saturatelaw14_lives h_saturatelaw14_lives fu a.1 a.2.1 a.2.2.1 a.2.2.2.1 a.2.2.2.2.1 := by kernel_rfl
theorem saturatelaw14_FactsApplySound.con : ∀ (a : Int × Int × Int × (Nat × (Nat → Int) × (Nat → Int) × (Nat → Int) × (Nat → Int) × (Nat → Int)) × (Nat × (Nat → Int)) × Unit) (r : Bool), saturatelaw14_FactsApplySound.f a.1 a.2.1 a.2.2.1 a.2.2.2.1 a.2.2.2.2.1 = some r → Contract Tryz.prog 6 (saturatelaw14_FactsApplySound.a.enc a) (saturatelaw14_FactsApplySound.r.enc r) := Contract.of_body (F := fun (a : Int × Int × Int × (Nat × (Nat → Int) × (Nat → Int) × (Nat → Int) × (Nat → Int) × (Nat → Int)) × (Nat × (Nat → Int)) × Unit) => saturatelaw14_FactsApplySound.f a.1 a.2.1 a.2.2.1 a.2.2.2.1 a.2.2.2.2.1) (fn := Tryz.f6) (cs := saturatelaw14_FactsApplySound.cs (fun a => saturatelaw14_lives.f) ⟨saturatelaw14_lives.con⟩) (live := saturatelaw14_FactsApplySound.live) (fuel := fuel0 + 1) (by kernel_rfl) (by kernel_rfl) mixed (saturatelaw14_FactsApplySound.eq (fun a => saturatelaw14_lives.f) ⟨saturatelaw14_lives.con⟩ (fuel0 + 1))
end Go.Proofs.YtcihbcffokjgjaaGreat.Fn
