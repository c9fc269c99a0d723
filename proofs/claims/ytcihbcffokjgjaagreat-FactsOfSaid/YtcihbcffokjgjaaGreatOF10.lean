/- What the functions return, as the evaluator tells it: written by a program of this workplace (mev.py); Lean checks each equation. -/
import Derived.Test.YtcihbcffokjgjaaGreatProg
import Derived.Test.YtcihbcffokjgjaaGreatOEvC
import Derived.Test.YtcihbcffokjgjaaGreatOF0
import Derived.Test.YtcihbcffokjgjaaGreatOF8
import Derived.Test.YtcihbcffokjgjaaGreatOF9
namespace Go.Proofs.YtcihbcffokjgjaaGreat.Fn
open Go Go.RowKit Go.Proofs.YtcihbcffokjgjaaGreat.Ev Go.Proofs
set_option linter.unusedVariables false
set_option maxRecDepth 100000
def saturateref12_moved.a : ACods (Int × (Int × Int) × Int × Int × Unit) := (.cons (.val (.int .i64)) (.cons (.val (.agg (.cons (.int .u64) (.one (.int .u64))))) (.cons (.val (.int .i64)) (.cons (.val (.int .i64)) .nil))))
def saturateref12_moved.r : RCod (Int × Int) := .val (.agg (.cons (.int .u64) (.one (.int .u64))))
noncomputable def saturateref12_moved.cs : List (Kn Tryz.prog) := [saturateref12_Top.c, saturateref12_bit.c, saturateref12_with.c]
def saturateref12_moved.live : Nat → Option Keep := liveOf [(7, ⟨[0, 2, 3, 5, 8, 9, 10], [5, 8, 9], [], [], []⟩), (18, ⟨[0, 2, 3, 5, 8, 9, 10, 11, 12], [5, 8, 9], [], [], []⟩), (22, ⟨[0, 2, 3, 5, 8, 9, 10, 12], [5, 8, 9], [], [], []⟩)]
noncomputable def saturateref12_moved.body : Code := bodyOf Tryz.f220
noncomputable def saturateref12_moved.K (fu : Nat) : Code → St → (Ex → St → Option (Int × Int)) → Option (Int × Int) := codeK Tryz.prog (saturateref12_moved.cs) saturateref12_moved.live fu
noncomputable def saturateref12_moved.j3 (fu n3 : Nat) (x0 x2 x3 x10 c5_0 c5_1 c8_0 c8_1 c9_0 c9_1 : Int) : Option (Int × Int) :=
  loopK (saturateref12_moved.K fu (sub saturateref12_moved.body [true, true, false, true, false, false])) (saturateref12_moved.live 7) n3 (stOf 40 [(0, .val (.int .i64 x0)), (2, .val (.int .i64 x2)), (3, .val (.int .i64 x3)), (5, .ptr 5 0 0 0), (8, .ptr 8 0 0 0), (9, .ptr 9 0 0 0), (10, .val (.int .i64 x10))] [(5, .own [.val (.int .u64 c5_0), .val (.int .u64 c5_1)]), (8, .own [.val (.int .u64 c8_0), .val (.int .u64 c8_1)]), (9, .own [.val (.int .u64 c9_0), .val (.int .u64 c9_1)])]) (blockC 0 (seqC fu (saturateref12_moved.live 24) (saturateref12_moved.K fu (sub saturateref12_moved.body [true, true, true])) (retC Tryz.prog Tryz.f220.results saturateref12_moved.r.dec)))
noncomputable def saturateref12_moved.p9 (m fu : Nat) (n3 : Nat) (x0 x2 x3 x10 x11 x12 c5_0 c5_1 c8_0 c8_1 c9_0 c9_1 : Int) : Option (Int × Int) :=
  joinK m (saturateref12_moved.K fu (sub saturateref12_moved.body [true, true, false, true, false, false, true, false, false, true, true, true])) (stOf 40 [(0, .val (.int .i64 x0)), (2, .val (.int .i64 x2)), (3, .val (.int .i64 x3)), (5, .ptr 5 0 0 0), (8, .ptr 8 0 0 0), (9, .ptr 9 0 0 0), (10, .val (.int .i64 x10)), (11, .val (.int .i64 x11)), (12, .val (.int .i64 x12))] [(5, .own [.val (.int .u64 c5_0), .val (.int .u64 c5_1)]), (8, .own [.val (.int .u64 c8_0), .val (.int .u64 c8_1)]), (9, .own [.val (.int .u64 c9_0), .val (.int .u64 c9_1)])]) (blockC 1 (seqC fu (saturateref12_moved.live 8) (saturateref12_moved.K fu (sub saturateref12_moved.body [true, true, false, true, false, false, true, true])) (roundC (saturateref12_moved.live 7) (loopK (saturateref12_moved.K fu (sub saturateref12_moved.body [true, true, false, true, false, false])) (saturateref12_moved.live 7) n3) (blockC 0 (seqC fu (saturateref12_moved.live 24) (saturateref12_moved.K fu (sub saturateref12_moved.body [true, true, true])) (retC Tryz.prog Tryz.f220.results saturateref12_moved.r.dec))))))
noncomputable def saturateref12_moved.p11 (m fu : Nat) (n3 : Nat) (x0 x2 x3 x10 x12 c5_0 c5_1 c8_0 c8_1 c9_0 c9_1 : Int) : Option (Int × Int) :=
  joinK m (saturateref12_moved.K fu (sub saturateref12_moved.body [true, true, false, true, false, false, true, false, false, true, true, true, true])) (stOf 40 [(0, .val (.int .i64 x0)), (2, .val (.int .i64 x2)), (3, .val (.int .i64 x3)), (5, .ptr 5 0 0 0), (8, .ptr 8 0 0 0), (9, .ptr 9 0 0 0), (10, .val (.int .i64 x10)), (12, .val (.int .i64 x12))] [(5, .own [.val (.int .u64 c5_0), .val (.int .u64 c5_1)]), (8, .own [.val (.int .u64 c8_0), .val (.int .u64 c8_1)]), (9, .own [.val (.int .u64 c9_0), .val (.int .u64 c9_1)])]) (blockC 1 (seqC fu (saturateref12_moved.live 8) (saturateref12_moved.K fu (sub saturateref12_moved.body [true, true, false, true, false, false, true, true])) (roundC (saturateref12_moved.live 7) (loopK (saturateref12_moved.K fu (sub saturateref12_moved.body [true, true, false, true, false, false])) (saturateref12_moved.live 7) n3) (blockC 0 (seqC fu (saturateref12_moved.live 24) (saturateref12_moved.K fu (sub saturateref12_moved.body [true, true, true])) (retC Tryz.prog Tryz.f220.results saturateref12_moved.r.dec))))))
theorem saturateref12_moved.p11_eq (m fu : Nat) (n3 : Nat) (x0 x2 x3 x10 x12 c5_0 c5_1 c8_0 c8_1 c9_0 c9_1 : Int) : saturateref12_moved.p11 (m + 1) fu n3 x0 x2 x3 x10 x12 c5_0 c5_1 c8_0 c8_1 c9_0 c9_1 =
  (saturateref12_with.f (c9_0, c9_1) x10 x12).bind fun r3 =>
  saturateref12_moved.j3 fu n3 x0 x2 x3 (IntKind.i64.wrap (x10 + 1)) c5_0 c5_1 c8_0 c8_1 r3.1 r3.2 := by kernel_rfl
theorem saturateref12_moved.p9_eq (m fu : Nat) (n3 : Nat) (x0 x2 x3 x10 x11 x12 c5_0 c5_1 c8_0 c8_1 c9_0 c9_1 : Int) : saturateref12_moved.p9 (m + 1) fu n3 x0 x2 x3 x10 x11 x12 c5_0 c5_1 c8_0 c8_1 c9_0 c9_1 =
  bif (decide (x11 < 0)) then
    saturateref12_moved.p11 fu fu n3 x0 x2 x3 x10 0 c5_0 c5_1 c8_0 c8_1 c9_0 c9_1
  else
    saturateref12_moved.p11 fu fu n3 x0 x2 x3 x10 x12 c5_0 c5_1 c8_0 c8_1 c9_0 c9_1 := by kernel_rfl
theorem saturateref12_moved.j3_succ (fu n3 : Nat) (x0 x2 x3 x10 c5_0 c5_1 c8_0 c8_1 c9_0 c9_1 : Int) : saturateref12_moved.j3 fu (n3 + 1) x0 x2 x3 x10 c5_0 c5_1 c8_0 c8_1 c9_0 c9_1 =
  bif (decide (x10 < x0)) then
    bif (decide ((IntKind.i64.wrap (x10 + x2)) ≥ 0)) then
      bif (decide ((IntKind.i64.wrap (x10 + x2)) < x0)) then
        (saturateref12_bit.f (c5_0, c5_1) (IntKind.i64.wrap (x10 + x2))).bind fun r2 =>
        saturateref12_moved.p9 fu fu n3 x0 x2 x3 x10 (IntKind.i64.wrap (x10 + x2)) r2 c5_0 c5_1 c8_0 c8_1 c9_0 c9_1
      else
        saturateref12_moved.p9 fu fu n3 x0 x2 x3 x10 (IntKind.i64.wrap (x10 + x2)) x3 c5_0 c5_1 c8_0 c8_1 c9_0 c9_1
    else
      saturateref12_moved.p9 fu fu n3 x0 x2 x3 x10 (IntKind.i64.wrap (x10 + x2)) x3 c5_0 c5_1 c8_0 c8_1 c9_0 c9_1
  else
    some (c9_0, c9_1) := by kernel_rfl
noncomputable def saturateref12_moved.g (fu : Nat) (a0 : Int) (a1 : Int × Int) (a2 a3 : Int) : Option (Int × Int) :=
  (saturateref12_Top.f).bind fun r1 =>
  saturateref12_moved.j3 fu fu a0 a2 a3 0 a1.1 a1.2 0 0 r1.1 r1.2
noncomputable def saturateref12_moved.f (a0 : Int) (a1 : Int × Int) (a2 a3 : Int) : Option (Int × Int) := saturateref12_moved.g (fuel0 + 1) a0 a1 a2 a3
theorem saturateref12_moved.eq (fu : Nat) (a : Int × (Int × Int) × Int × Int × Unit) : bodyK Tryz.prog saturateref12_moved.cs saturateref12_moved.live fu Tryz.f220 (saturateref12_moved.a.enc a) saturateref12_moved.r.dec = saturateref12_moved.g fu a.1 a.2.1 a.2.2.1 a.2.2.2.1 := by kernel_rfl
theorem saturateref12_moved.con : ∀ (a : Int × (Int × Int) × Int × Int × Unit) (r : Int × Int), saturateref12_moved.f a.1 a.2.1 a.2.2.1 a.2.2.2.1 = some r → Contract Tryz.prog 220 (saturateref12_moved.a.enc a) (saturateref12_moved.r.enc r) := Contract.of_body (by kernel_rfl) (by kernel_rfl) mixed (saturateref12_moved.eq (fuel0 + 1))
noncomputable def saturateref12_moved.c : Kn Tryz.prog := Kn.of 220 saturateref12_moved.a saturateref12_moved.r (fun a => saturateref12_moved.f a.1 a.2.1 a.2.2.1 a.2.2.2.1) saturateref12_moved.con
def saturateref12_shifted.a : ACods (Int × Int × (Int × Int) × (Int × Int) × Unit) := (.cons (.val (.int .i64)) (.cons (.val (.int .i64)) (.cons (.val (.agg (.cons (.int .u64) (.one (.int .u64))))) (.cons (.val (.agg (.cons (.int .u64) (.one (.int .u64))))) .nil))))
def saturateref12_shifted.r : RCod (Int × Int) := .val (.agg (.cons (.int .u64) (.one (.int .u64))))
noncomputable def saturateref12_shifted.cs : List (Kn Tryz.prog) := [saturateref12_Single.c, saturateref12_Top.c, saturateref12_moved.c, saturateref12_bit.c]
def saturateref12_shifted.live : Nat → Option Keep := liveOf []
noncomputable def saturateref12_shifted.f (a0 a1 : Int) (a2 : Int × Int) (a3 : Int × Int) : Option (Int × Int) :=
  (saturateref12_Single.f a1 (a3.1, a3.2)).bind fun r1 =>
  bif (!r1.2) then
    (saturateref12_Top.f).bind fun r2 =>
    some (r2.1, r2.2)
  else
    bif (a0 == 13) then
      (saturateref12_moved.f a1 (a2.1, a2.2) (IntKind.i64.wrap (0 - (IntKind.i64.wrap (mn r1.1 64)))) 0).bind fun r3 =>
      some (r3.1, r3.2)
    else
      bif (a0 == 14) then
        (saturateref12_moved.f a1 (a2.1, a2.2) (IntKind.i64.wrap (mn r1.1 64)) 0).bind fun r4 =>
        some (r4.1, r4.2)
      else
        (saturateref12_bit.f (a2.1, a2.2) (IntKind.i64.wrap (a1 - 1))).bind fun r5 =>
        (saturateref12_moved.f a1 (a2.1, a2.2) (IntKind.i64.wrap (mn r1.1 64)) r5).bind fun r6 =>
        some (r6.1, r6.2)
theorem saturateref12_shifted.eq (fu : Nat) (a : Int × Int × (Int × Int) × (Int × Int) × Unit) : bodyK Tryz.prog saturateref12_shifted.cs saturateref12_shifted.live fu Tryz.f165 (saturateref12_shifted.a.enc a) saturateref12_shifted.r.dec = saturateref12_shifted.f a.1 a.2.1 a.2.2.1 a.2.2.2.1 := by kernel_rfl
theorem saturateref12_shifted.con : ∀ (a : Int × Int × (Int × Int) × (Int × Int) × Unit) (r : Int × Int), saturateref12_shifted.f a.1 a.2.1 a.2.2.1 a.2.2.2.1 = some r → Contract Tryz.prog 165 (saturateref12_shifted.a.enc a) (saturateref12_shifted.r.enc r) := Contract.of_body (by kernel_rfl) (by kernel_rfl) mixed (saturateref12_shifted.eq (fuel0 + 1))
noncomputable def saturateref12_shifted.c : Kn Tryz.prog := Kn.of 165 saturateref12_shifted.a saturateref12_shifted.r (fun a => saturateref12_shifted.f a.1 a.2.1 a.2.2.1 a.2.2.2.1) saturateref12_shifted.con
def saturateref12_equal.a : ACods (Int × (Int × Int) × (Int × Int) × Unit) := (.cons (.val (.int .i64)) (.cons (.val (.agg (.cons (.int .u64) (.one (.int .u64))))) (.cons (.val (.agg (.cons (.int .u64) (.one (.int .u64))))) .nil)))
def saturateref12_equal.r : RCod (Int × Int) := .val (.agg (.cons (.int .u64) (.one (.int .u64))))
noncomputable def saturateref12_equal.cs : List (Kn Tryz.prog) := [saturateref12_Single.c, saturateref12_Const.c, saturateref12_Top.c]
def saturateref12_equal.live : Nat → Option Keep := liveOf [(14, ⟨[6], [6], [], [], []⟩)]
noncomputable def saturateref12_equal.body : Code := bodyOf Tryz.f166
noncomputable def saturateref12_equal.K (fu : Nat) : Code → St → (Ex → St → Option (Int × Int)) → Option (Int × Int) := codeK Tryz.prog (saturateref12_equal.cs) saturateref12_equal.live fu
noncomputable def saturateref12_equal.p7 (m fu : Nat) : Option (Int × Int) :=
  joinK m (saturateref12_equal.K fu (sub saturateref12_equal.body [true, true, true, true])) (stOf 51 [(6, .ptr 6 0 0 0)] [(6, .own [.val (.int .u64 0), .val (.int .u64 0)])]) (retC Tryz.prog Tryz.f166.results saturateref12_equal.r.dec)
theorem saturateref12_equal.p7_eq (m fu : Nat) : saturateref12_equal.p7 (m + 1) fu =
  (saturateref12_Top.f).bind fun r6 =>
  some (r6.1, r6.2) := by kernel_rfl
noncomputable def saturateref12_equal.g (fu : Nat) (a0 : Int) (a1 : Int × Int) (a2 : Int × Int) : Option (Int × Int) :=
  (saturateref12_Single.f a0 (a1.1, a1.2)).bind fun r1 =>
  (saturateref12_Single.f a0 (a2.1, a2.2)).bind fun r2 =>
  bif ((Go.bits .and .u64 a1.1 a2.2) != 0) then
    (saturateref12_Const.f 1 0).bind fun r3 =>
    some (r3.1, r3.2)
  else
    bif ((Go.bits .and .u64 a1.2 a2.1) != 0) then
      (saturateref12_Const.f 1 0).bind fun r4 =>
      some (r4.1, r4.2)
    else
      bif r1.2 then
        bif r2.2 then
          bif (r1.1 == r2.1) then
            (saturateref12_Const.f 1 1).bind fun r5 =>
            some (r5.1, r5.2)
          else
            saturateref12_equal.p7 fu fu
        else
          saturateref12_equal.p7 fu fu
      else
        saturateref12_equal.p7 fu fu
noncomputable def saturateref12_equal.f (a0 : Int) (a1 : Int × Int) (a2 : Int × Int) : Option (Int × Int) := saturateref12_equal.g (fuel0 + 1) a0 a1 a2
theorem saturateref12_equal.eq (fu : Nat) (a : Int × (Int × Int) × (Int × Int) × Unit) : bodyK Tryz.prog saturateref12_equal.cs saturateref12_equal.live fu Tryz.f166 (saturateref12_equal.a.enc a) saturateref12_equal.r.dec = saturateref12_equal.g fu a.1 a.2.1 a.2.2.1 := by kernel_rfl
theorem saturateref12_equal.con : ∀ (a : Int × (Int × Int) × (Int × Int) × Unit) (r : Int × Int), saturateref12_equal.f a.1 a.2.1 a.2.2.1 = some r → Contract Tryz.prog 166 (saturateref12_equal.a.enc a) (saturateref12_equal.r.enc r) := Contract.of_body (by kernel_rfl) (by kernel_rfl) mixed (saturateref12_equal.eq (fuel0 + 1))
noncomputable def saturateref12_equal.c : Kn Tryz.prog := Kn.of 166 saturateref12_equal.a saturateref12_equal.r (fun a => saturateref12_equal.f a.1 a.2.1 a.2.2.1) saturateref12_equal.con
def saturateref01_divide.a : ACods (Int × Int × Unit) := (.cons (.val (.int .u64)) (.cons (.val (.int .u64)) .nil))
def saturateref01_divide.r : RCod (Int × Int) := .val (.tup (.cons (.int .u64) (.one (.int .u64))))
noncomputable def saturateref01_divide.cs : List (Kn Tryz.prog) := [saturateref01_Bit.c]
def saturateref01_divide.live : Nat → Option Keep := liveOf [(7, ⟨[0, 1, 6, 7, 8], [], [], [], []⟩), (8, ⟨[0, 1, 6, 7, 8], [], [], [], []⟩)]
noncomputable def saturateref01_divide.body : Code := bodyOf Tryz.f229
noncomputable def saturateref01_divide.K (fu : Nat) : Code → St → (Ex → St → Option (Int × Int)) → Option (Int × Int) := codeK Tryz.prog (saturateref01_divide.cs) saturateref01_divide.live fu
noncomputable def saturateref01_divide.j3 (fu n3 : Nat) (x0 x1 x6 x7 x8 : Int) : Option (Int × Int) :=
  loopK (saturateref01_divide.K fu (sub saturateref01_divide.body [true, true, false, true, false, false])) (saturateref01_divide.live 7) n3 (stOf 39 [(0, .val (.int .u64 x0)), (1, .val (.int .u64 x1)), (6, .val (.int .u64 x6)), (7, .val (.int .u64 x7)), (8, .val (.int .i64 x8))] []) (blockC 0 (seqC fu (saturateref01_divide.live 20) (saturateref01_divide.K fu (sub saturateref01_divide.body [true, true, true])) (retC Tryz.prog Tryz.f229.results saturateref01_divide.r.dec)))
noncomputable def saturateref01_divide.p4 (m fu : Nat) (n3 : Nat) (x0 x1 x6 x7 x8 : Int) : Option (Int × Int) :=
  joinK m (saturateref01_divide.K fu (sub saturateref01_divide.body [true, true, false, true, false, false, true, true])) (stOf 39 [(0, .val (.int .u64 x0)), (1, .val (.int .u64 x1)), (6, .val (.int .u64 x6)), (7, .val (.int .u64 x7)), (8, .val (.int .i64 x8))] []) (roundC (saturateref01_divide.live 7) (loopK (saturateref01_divide.K fu (sub saturateref01_divide.body [true, true, false, true, false, false])) (saturateref01_divide.live 7) n3) (blockC 0 (seqC fu (saturateref01_divide.live 20) (saturateref01_divide.K fu (sub saturateref01_divide.body [true, true, true])) (retC Tryz.prog Tryz.f229.results saturateref01_divide.r.dec))))
theorem saturateref01_divide.p4_eq (m fu : Nat) (n3 : Nat) (x0 x1 x6 x7 x8 : Int) : saturateref01_divide.p4 (m + 1) fu n3 x0 x1 x6 x7 x8 =
  saturateref01_divide.j3 fu n3 x0 x1 x6 x7 (IntKind.i64.wrap (x8 - 1)) := by kernel_rfl
theorem saturateref01_divide.j3_succ (fu n3 : Nat) (x0 x1 x6 x7 x8 : Int) : saturateref01_divide.j3 fu (n3 + 1) x0 x1 x6 x7 x8 =
  bif (decide (x8 ≥ 0)) then
    (saturateref01_Bit.f x7 63).bind fun r1 =>
    (saturateref01_Bit.f x0 x8).bind fun r2 =>
    bif (r1 == 1) then
      bif decide ((IntKind.u64.wrap x8) < 0) then
        none
      else
        saturateref01_divide.p4 fu fu n3 x0 x1 (Go.bits .or .u64 x6 (shl .u64 1 (IntKind.u64.wrap x8))) (IntKind.u64.wrap ((IntKind.u64.wrap ((IntKind.u64.wrap (x7 * 2)) + r2)) - x1)) x8
    else
      bif (decide ((IntKind.u64.wrap ((IntKind.u64.wrap (x7 * 2)) + r2)) ≥ x1)) then
        bif decide ((IntKind.u64.wrap x8) < 0) then
          none
        else
          saturateref01_divide.p4 fu fu n3 x0 x1 (Go.bits .or .u64 x6 (shl .u64 1 (IntKind.u64.wrap x8))) (IntKind.u64.wrap ((IntKind.u64.wrap ((IntKind.u64.wrap (x7 * 2)) + r2)) - x1)) x8
      else
        saturateref01_divide.p4 fu fu n3 x0 x1 x6 (IntKind.u64.wrap ((IntKind.u64.wrap (x7 * 2)) + r2)) x8
  else
    some (x6, x7) := by kernel_rfl
noncomputable def saturateref01_divide.g (fu : Nat) (a0 a1 : Int) : Option (Int × Int) :=
  saturateref01_divide.j3 fu fu a0 a1 0 0 63
noncomputable def saturateref01_divide.f (a0 a1 : Int) : Option (Int × Int) := saturateref01_divide.g (fuel0 + 1) a0 a1
theorem saturateref01_divide.eq (fu : Nat) (a : Int × Int × Unit) : bodyK Tryz.prog saturateref01_divide.cs saturateref01_divide.live fu Tryz.f229 (saturateref01_divide.a.enc a) saturateref01_divide.r.dec = saturateref01_divide.g fu a.1 a.2.1 := by kernel_rfl
theorem saturateref01_divide.con : ∀ (a : Int × Int × Unit) (r : Int × Int), saturateref01_divide.f a.1 a.2.1 = some r → Contract Tryz.prog 229 (saturateref01_divide.a.enc a) (saturateref01_divide.r.enc r) := Contract.of_body (by kernel_rfl) (by kernel_rfl) mixed (saturateref01_divide.eq (fuel0 + 1))
noncomputable def saturateref01_divide.c : Kn Tryz.prog := Kn.of 229 saturateref01_divide.a saturateref01_divide.r (fun a => saturateref01_divide.f a.1 a.2.1) saturateref01_divide.con
def saturateref01_Udiv.a : ACods (Int × Int × Int × Unit) := (.cons (.val (.int .i64)) (.cons (.val (.int .u64)) (.cons (.val (.int .u64)) .nil)))
def saturateref01_Udiv.r : RCod (Int) := .val (.int .u64)
noncomputable def saturateref01_Udiv.cs : List (Kn Tryz.prog) := [saturateref01_Cut.c, saturateref01_Mask.c, saturateref01_divide.c]
def saturateref01_Udiv.live : Nat → Option Keep := liveOf []
noncomputable def saturateref01_Udiv.f (a0 a1 a2 : Int) : Option (Int) :=
  (saturateref01_Cut.f a0 a2).bind fun r1 =>
  bif (r1 == 0) then
    (saturateref01_Mask.f a0).bind fun r2 =>
    some r2
  else
    (saturateref01_Cut.f a0 a1).bind fun r3 =>
    (saturateref01_Cut.f a0 a2).bind fun r4 =>
    (saturateref01_divide.f r3 r4).bind fun r5 =>
    some r5.1
theorem saturateref01_Udiv.eq (fu : Nat) (a : Int × Int × Int × Unit) : bodyK Tryz.prog saturateref01_Udiv.cs saturateref01_Udiv.live fu Tryz.f196 (saturateref01_Udiv.a.enc a) saturateref01_Udiv.r.dec = saturateref01_Udiv.f a.1 a.2.1 a.2.2.1 := by kernel_rfl
theorem saturateref01_Udiv.con : ∀ (a : Int × Int × Int × Unit) (r : Int), saturateref01_Udiv.f a.1 a.2.1 a.2.2.1 = some r → Contract Tryz.prog 196 (saturateref01_Udiv.a.enc a) (saturateref01_Udiv.r.enc r) := Contract.of_body (by kernel_rfl) (by kernel_rfl) mixed (saturateref01_Udiv.eq (fuel0 + 1))
noncomputable def saturateref01_Udiv.c : Kn Tryz.prog := Kn.of 196 saturateref01_Udiv.a saturateref01_Udiv.r (fun a => saturateref01_Udiv.f a.1 a.2.1 a.2.2.1) saturateref01_Udiv.con
def saturateref01_Urem.a : ACods (Int × Int × Int × Unit) := (.cons (.val (.int .i64)) (.cons (.val (.int .u64)) (.cons (.val (.int .u64)) .nil)))
def saturateref01_Urem.r : RCod (Int) := .val (.int .u64)
noncomputable def saturateref01_Urem.cs : List (Kn Tryz.prog) := [saturateref01_Cut.c, saturateref01_divide.c]
def saturateref01_Urem.live : Nat → Option Keep := liveOf []
noncomputable def saturateref01_Urem.f (a0 a1 a2 : Int) : Option (Int) :=
  (saturateref01_Cut.f a0 a2).bind fun r1 =>
  bif (r1 == 0) then
    (saturateref01_Cut.f a0 a1).bind fun r2 =>
    some r2
  else
    (saturateref01_Cut.f a0 a1).bind fun r3 =>
    (saturateref01_Cut.f a0 a2).bind fun r4 =>
    (saturateref01_divide.f r3 r4).bind fun r5 =>
    some r5.2
theorem saturateref01_Urem.eq (fu : Nat) (a : Int × Int × Int × Unit) : bodyK Tryz.prog saturateref01_Urem.cs saturateref01_Urem.live fu Tryz.f197 (saturateref01_Urem.a.enc a) saturateref01_Urem.r.dec = saturateref01_Urem.f a.1 a.2.1 a.2.2.1 := by kernel_rfl
theorem saturateref01_Urem.con : ∀ (a : Int × Int × Int × Unit) (r : Int), saturateref01_Urem.f a.1 a.2.1 a.2.2.1 = some r → Contract Tryz.prog 197 (saturateref01_Urem.a.enc a) (saturateref01_Urem.r.enc r) := Contract.of_body (by kernel_rfl) (by kernel_rfl) mixed (saturateref01_Urem.eq (fuel0 + 1))
noncomputable def saturateref01_Urem.c : Kn Tryz.prog := Kn.of 197 saturateref01_Urem.a saturateref01_Urem.r (fun a => saturateref01_Urem.f a.1 a.2.1 a.2.2.1) saturateref01_Urem.con
def saturateref01_truth.a : ACods (Bool × Unit) := (.cons (.val (.bool)) .nil)
def saturateref01_truth.r : RCod (Int) := .val (.int .u64)
noncomputable def saturateref01_truth.cs : List (Kn Tryz.prog) := []
def saturateref01_truth.live : Nat → Option Keep := liveOf []
noncomputable def saturateref01_truth.f (a0 : Bool) : Option (Int) :=
  bif a0 then
    some 1
  else
    some 0
theorem saturateref01_truth.eq (fu : Nat) (a : Bool × Unit) : bodyK Tryz.prog saturateref01_truth.cs saturateref01_truth.live fu Tryz.f230 (saturateref01_truth.a.enc a) saturateref01_truth.r.dec = saturateref01_truth.f a.1 := by kernel_rfl
theorem saturateref01_truth.con : ∀ (a : Bool × Unit) (r : Int), saturateref01_truth.f a.1 = some r → Contract Tryz.prog 230 (saturateref01_truth.a.enc a) (saturateref01_truth.r.enc r) := Contract.of_body (by kernel_rfl) (by kernel_rfl) mixed (saturateref01_truth.eq (fuel0 + 1))
noncomputable def saturateref01_truth.c : Kn Tryz.prog := Kn.of 230 saturateref01_truth.a saturateref01_truth.r (fun a => saturateref01_truth.f a.1) saturateref01_truth.con
def saturateref01_Ult.a : ACods (Int × Int × Int × Unit) := (.cons (.val (.int .i64)) (.cons (.val (.int .u64)) (.cons (.val (.int .u64)) .nil)))
def saturateref01_Ult.r : RCod (Int) := .val (.int .u64)
noncomputable def saturateref01_Ult.cs : List (Kn Tryz.prog) := [saturateref01_Cut.c, saturateref01_truth.c]
def saturateref01_Ult.live : Nat → Option Keep := liveOf []
noncomputable def saturateref01_Ult.f (a0 a1 a2 : Int) : Option (Int) :=
  (saturateref01_Cut.f a0 a1).bind fun r1 =>
  (saturateref01_Cut.f a0 a2).bind fun r2 =>
  (saturateref01_truth.f (decide (r1 < r2))).bind fun r3 =>
  some r3
theorem saturateref01_Ult.eq (fu : Nat) (a : Int × Int × Int × Unit) : bodyK Tryz.prog saturateref01_Ult.cs saturateref01_Ult.live fu Tryz.f201 (saturateref01_Ult.a.enc a) saturateref01_Ult.r.dec = saturateref01_Ult.f a.1 a.2.1 a.2.2.1 := by kernel_rfl
theorem saturateref01_Ult.con : ∀ (a : Int × Int × Int × Unit) (r : Int), saturateref01_Ult.f a.1 a.2.1 a.2.2.1 = some r → Contract Tryz.prog 201 (saturateref01_Ult.a.enc a) (saturateref01_Ult.r.enc r) := Contract.of_body (by kernel_rfl) (by kernel_rfl) mixed (saturateref01_Ult.eq (fuel0 + 1))
noncomputable def saturateref01_Ult.c : Kn Tryz.prog := Kn.of 201 saturateref01_Ult.a saturateref01_Ult.r (fun a => saturateref01_Ult.f a.1 a.2.1 a.2.2.1) saturateref01_Ult.con
def saturateref01_Negative.a : ACods (Int × Int × Unit) := (.cons (.val (.int .i64)) (.cons (.val (.int .u64)) .nil))
def saturateref01_Negative.r : RCod (Bool) := .val (.bool)
noncomputable def saturateref01_Negative.cs : List (Kn Tryz.prog) := [saturateref01_W.c, saturateref01_Bit.c]
def saturateref01_Negative.live : Nat → Option Keep := liveOf []
noncomputable def saturateref01_Negative.f (a0 a1 : Int) : Option (Bool) :=
  (saturateref01_W.f a0).bind fun r1 =>
  (saturateref01_Bit.f a1 (IntKind.i64.wrap (r1 - 1))).bind fun r2 =>
  some (r2 == 1)
theorem saturateref01_Negative.eq (fu : Nat) (a : Int × Int × Unit) : bodyK Tryz.prog saturateref01_Negative.cs saturateref01_Negative.live fu Tryz.f236 (saturateref01_Negative.a.enc a) saturateref01_Negative.r.dec = saturateref01_Negative.f a.1 a.2.1 := by kernel_rfl
theorem saturateref01_Negative.con : ∀ (a : Int × Int × Unit) (r : Bool), saturateref01_Negative.f a.1 a.2.1 = some r → Contract Tryz.prog 236 (saturateref01_Negative.a.enc a) (saturateref01_Negative.r.enc r) := Contract.of_body (by kernel_rfl) (by kernel_rfl) mixed (saturateref01_Negative.eq (fuel0 + 1))
noncomputable def saturateref01_Negative.c : Kn Tryz.prog := Kn.of 236 saturateref01_Negative.a saturateref01_Negative.r (fun a => saturateref01_Negative.f a.1 a.2.1) saturateref01_Negative.con
def saturateref01_Signed.a : ACods (Int × Int × Unit) := (.cons (.val (.int .i64)) (.cons (.val (.int .u64)) .nil))
def saturateref01_Signed.r : RCod (Int) := .val (.int .i64)
noncomputable def saturateref01_Signed.cs : List (Kn Tryz.prog) := [saturateref01_Cut.c, saturateref01_Negative.c, saturateref01_Mask.c]
def saturateref01_Signed.live : Nat → Option Keep := liveOf []
noncomputable def saturateref01_Signed.f (a0 a1 : Int) : Option (Int) :=
  (saturateref01_Cut.f a0 a1).bind fun r1 =>
  (saturateref01_Negative.f a0 a1).bind fun r2 =>
  bif r2 then
    (saturateref01_Mask.f a0).bind fun r3 =>
    some (IntKind.i64.wrap ((IntKind.i64.wrap (0 - (IntKind.i64.wrap (IntKind.u64.wrap (r3 - r1))))) - 1))
  else
    some (IntKind.i64.wrap r1)
theorem saturateref01_Signed.eq (fu : Nat) (a : Int × Int × Unit) : bodyK Tryz.prog saturateref01_Signed.cs saturateref01_Signed.live fu Tryz.f231 (saturateref01_Signed.a.enc a) saturateref01_Signed.r.dec = saturateref01_Signed.f a.1 a.2.1 := by kernel_rfl
theorem saturateref01_Signed.con : ∀ (a : Int × Int × Unit) (r : Int), saturateref01_Signed.f a.1 a.2.1 = some r → Contract Tryz.prog 231 (saturateref01_Signed.a.enc a) (saturateref01_Signed.r.enc r) := Contract.of_body (by kernel_rfl) (by kernel_rfl) mixed (saturateref01_Signed.eq (fuel0 + 1))
noncomputable def saturateref01_Signed.c : Kn Tryz.prog := Kn.of 231 saturateref01_Signed.a saturateref01_Signed.r (fun a => saturateref01_Signed.f a.1 a.2.1) saturateref01_Signed.con
def saturateref01_Slt.a : ACods (Int × Int × Int × Unit) := (.cons (.val (.int .i64)) (.cons (.val (.int .u64)) (.cons (.val (.int .u64)) .nil)))
def saturateref01_Slt.r : RCod (Int) := .val (.int .u64)
noncomputable def saturateref01_Slt.cs : List (Kn Tryz.prog) := [saturateref01_Signed.c, saturateref01_truth.c]
def saturateref01_Slt.live : Nat → Option Keep := liveOf []
noncomputable def saturateref01_Slt.f (a0 a1 a2 : Int) : Option (Int) :=
  (saturateref01_Signed.f a0 a1).bind fun r1 =>
  (saturateref01_Signed.f a0 a2).bind fun r2 =>
  (saturateref01_truth.f (decide (r1 < r2))).bind fun r3 =>
  some r3
theorem saturateref01_Slt.eq (fu : Nat) (a : Int × Int × Int × Unit) : bodyK Tryz.prog saturateref01_Slt.cs saturateref01_Slt.live fu Tryz.f202 (saturateref01_Slt.a.enc a) saturateref01_Slt.r.dec = saturateref01_Slt.f a.1 a.2.1 a.2.2.1 := by kernel_rfl
theorem saturateref01_Slt.con : ∀ (a : Int × Int × Int × Unit) (r : Int), saturateref01_Slt.f a.1 a.2.1 a.2.2.1 = some r → Contract Tryz.prog 202 (saturateref01_Slt.a.enc a) (saturateref01_Slt.r.enc r) := Contract.of_body (by kernel_rfl) (by kernel_rfl) mixed (saturateref01_Slt.eq (fuel0 + 1))
noncomputable def saturateref01_Slt.c : Kn Tryz.prog := Kn.of 202 saturateref01_Slt.a saturateref01_Slt.r (fun a => saturateref01_Slt.f a.1 a.2.1 a.2.2.1) saturateref01_Slt.con
def saturateref12_value.a : ACods (Int × Int × Int × Int × Unit) := (.cons (.val (.int .i64)) (.cons (.val (.int .i64)) (.cons (.val (.int .u64)) (.cons (.val (.int .u64)) .nil))))
def saturateref12_value.r : RCod (Int) := .val (.int .u64)
noncomputable def saturateref12_value.cs : List (Kn Tryz.prog) := [saturateref01_Udiv.c, saturateref01_Urem.c, saturateref01_Ult.c, saturateref01_Slt.c]
def saturateref12_value.live : Nat → Option Keep := liveOf []
noncomputable def saturateref12_value.f (a0 a1 a2 a3 : Int) : Option (Int) :=
  bif (a0 == 11) then
    (saturateref01_Udiv.f a1 a2 a3).bind fun r1 =>
    some r1
  else
    bif (a0 == 12) then
      (saturateref01_Urem.f a1 a2 a3).bind fun r2 =>
      some r2
    else
      bif (a0 == 17) then
        (saturateref01_Ult.f a1 a2 a3).bind fun r3 =>
        some r3
      else
        (saturateref01_Slt.f a1 a2 a3).bind fun r4 =>
        some r4
theorem saturateref12_value.eq (fu : Nat) (a : Int × Int × Int × Int × Unit) : bodyK Tryz.prog saturateref12_value.cs saturateref12_value.live fu Tryz.f221 (saturateref12_value.a.enc a) saturateref12_value.r.dec = saturateref12_value.f a.1 a.2.1 a.2.2.1 a.2.2.2.1 := by kernel_rfl
theorem saturateref12_value.con : ∀ (a : Int × Int × Int × Int × Unit) (r : Int), saturateref12_value.f a.1 a.2.1 a.2.2.1 a.2.2.2.1 = some r → Contract Tryz.prog 221 (saturateref12_value.a.enc a) (saturateref12_value.r.enc r) := Contract.of_body (by kernel_rfl) (by kernel_rfl) mixed (saturateref12_value.eq (fuel0 + 1))
noncomputable def saturateref12_value.c : Kn Tryz.prog := Kn.of 221 saturateref12_value.a saturateref12_value.r (fun a => saturateref12_value.f a.1 a.2.1 a.2.2.1 a.2.2.2.1) saturateref12_value.con
def saturateref01_Count.a : ACods (Int × Unit) := (.cons (.val (.int .u64)) .nil)
def saturateref01_Count.r : RCod (Int) := .val (.int .i64)
noncomputable def saturateref01_Count.cs : List (Kn Tryz.prog) := [saturateref01_Bit.c]
def saturateref01_Count.live : Nat → Option Keep := liveOf [(7, ⟨[0, 3, 5], [], [], [], []⟩)]
noncomputable def saturateref01_Count.body : Code := bodyOf Tryz.f222
noncomputable def saturateref01_Count.K (fu : Nat) : Code → St → (Ex → St → Option (Int)) → Option (Int) := codeK Tryz.prog (saturateref01_Count.cs) saturateref01_Count.live fu
noncomputable def saturateref01_Count.j3 (fu n3 : Nat) (x0 x3 x5 : Int) : Option Int :=
  loopK (saturateref01_Count.K fu (sub saturateref01_Count.body [true, true, false, true, false, false])) (saturateref01_Count.live 7) n3 (stOf 16 [(0, .val (.int .u64 x0)), (3, .val (.int .i64 x3)), (5, .val (.int .i64 x5))] []) (blockC 0 (seqC fu (saturateref01_Count.live 14) (saturateref01_Count.K fu (sub saturateref01_Count.body [true, true, true])) (retC Tryz.prog Tryz.f222.results saturateref01_Count.r.dec)))
theorem saturateref01_Count.j3_succ (fu n3 : Nat) (x0 x3 x5 : Int) : saturateref01_Count.j3 fu (n3 + 1) x0 x3 x5 =
  bif (decide (x5 < 64)) then
    (saturateref01_Bit.f x0 x5).bind fun r1 =>
    saturateref01_Count.j3 fu n3 x0 (IntKind.i64.wrap (x3 + (IntKind.i64.wrap r1))) (IntKind.i64.wrap (x5 + 1))
  else
    some x3 := by kernel_rfl
noncomputable def saturateref01_Count.g (fu : Nat) (a0 : Int) : Option (Int) :=
  saturateref01_Count.j3 fu fu a0 0 0
noncomputable def saturateref01_Count.f (a0 : Int) : Option (Int) := saturateref01_Count.g (fuel0 + 1) a0
theorem saturateref01_Count.eq (fu : Nat) (a : Int × Unit) : bodyK Tryz.prog saturateref01_Count.cs saturateref01_Count.live fu Tryz.f222 (saturateref01_Count.a.enc a) saturateref01_Count.r.dec = saturateref01_Count.g fu a.1 := by kernel_rfl
theorem saturateref01_Count.con : ∀ (a : Int × Unit) (r : Int), saturateref01_Count.f a.1 = some r → Contract Tryz.prog 222 (saturateref01_Count.a.enc a) (saturateref01_Count.r.enc r) := Contract.of_body (by kernel_rfl) (by kernel_rfl) mixed (saturateref01_Count.eq (fuel0 + 1))
noncomputable def saturateref01_Count.c : Kn Tryz.prog := Kn.of 222 saturateref01_Count.a saturateref01_Count.r (fun a => saturateref01_Count.f a.1) saturateref01_Count.con
def saturateref01_Lowest.a : ACods (Int × Unit) := (.cons (.val (.int .u64)) .nil)
def saturateref01_Lowest.r : RCod (Int) := .val (.int .i64)
noncomputable def saturateref01_Lowest.cs : List (Kn Tryz.prog) := [saturateref01_Bit.c]
def saturateref01_Lowest.live : Nat → Option Keep := liveOf [(5, ⟨[0, 4], [], [], [], []⟩)]
noncomputable def saturateref01_Lowest.body : Code := bodyOf Tryz.f223
noncomputable def saturateref01_Lowest.K (fu : Nat) : Code → St → (Ex → St → Option (Int)) → Option (Int) := codeK Tryz.prog (saturateref01_Lowest.cs) saturateref01_Lowest.live fu
noncomputable def saturateref01_Lowest.j2 (fu n2 : Nat) (x0 x4 : Int) : Option Int :=
  loopK (saturateref01_Lowest.K fu (sub saturateref01_Lowest.body [true, false, true, false, false])) (saturateref01_Lowest.live 5) n2 (stOf 13 [(0, .val (.int .u64 x0)), (4, .val (.int .i64 x4))] []) (blockC 0 (seqC fu (saturateref01_Lowest.live 14) (saturateref01_Lowest.K fu (sub saturateref01_Lowest.body [true, true])) (retC Tryz.prog Tryz.f223.results saturateref01_Lowest.r.dec)))
theorem saturateref01_Lowest.j2_succ (fu n2 : Nat) (x0 x4 : Int) : saturateref01_Lowest.j2 fu (n2 + 1) x0 x4 =
  bif (decide (x4 < 64)) then
    (saturateref01_Bit.f x0 x4).bind fun r1 =>
    bif (r1 == 1) then
      some x4
    else
      saturateref01_Lowest.j2 fu n2 x0 (IntKind.i64.wrap (x4 + 1))
  else
    some (-1) := by kernel_rfl
noncomputable def saturateref01_Lowest.g (fu : Nat) (a0 : Int) : Option (Int) :=
  saturateref01_Lowest.j2 fu fu a0 0
noncomputable def saturateref01_Lowest.f (a0 : Int) : Option (Int) := saturateref01_Lowest.g (fuel0 + 1) a0
theorem saturateref01_Lowest.eq (fu : Nat) (a : Int × Unit) : bodyK Tryz.prog saturateref01_Lowest.cs saturateref01_Lowest.live fu Tryz.f223 (saturateref01_Lowest.a.enc a) saturateref01_Lowest.r.dec = saturateref01_Lowest.g fu a.1 := by kernel_rfl
theorem saturateref01_Lowest.con : ∀ (a : Int × Unit) (r : Int), saturateref01_Lowest.f a.1 = some r → Contract Tryz.prog 223 (saturateref01_Lowest.a.enc a) (saturateref01_Lowest.r.enc r) := Contract.of_body (by kernel_rfl) (by kernel_rfl) mixed (saturateref01_Lowest.eq (fuel0 + 1))
noncomputable def saturateref01_Lowest.c : Kn Tryz.prog := Kn.of 223 saturateref01_Lowest.a saturateref01_Lowest.r (fun a => saturateref01_Lowest.f a.1) saturateref01_Lowest.con
def saturateref12_exact.a : ACods (Int × Int × Int × (Int × Int) × (Int × Int) × Unit) := (.cons (.val (.int .i64)) (.cons (.val (.int .i64)) (.cons (.val (.int .i64)) (.cons (.val (.agg (.cons (.int .u64) (.one (.int .u64))))) (.cons (.val (.agg (.cons (.int .u64) (.one (.int .u64))))) .nil)))))
def saturateref12_exact.r : RCod (Int × Int) := .val (.agg (.cons (.int .u64) (.one (.int .u64))))
noncomputable def saturateref12_exact.cs : List (Kn Tryz.prog) := [saturateref12_Single.c, saturateref12_value.c, saturateref12_Const.c, saturateref01_Count.c, saturateref12_Top.c, saturateref01_Lowest.c, saturateref12_bit.c, saturateref12_with.c]
def saturateref12_exact.live : Nat → Option Keep := liveOf [(17, ⟨[1, 8, 10, 13, 15, 16], [8, 10, 15], [], [], []⟩), (26, ⟨[1, 8, 10, 13, 15, 16, 17], [8, 10, 15], [], [], []⟩), (30, ⟨[10], [10], [], [], []⟩)]
noncomputable def saturateref12_exact.body : Code := bodyOf Tryz.f167
noncomputable def saturateref12_exact.K (fu : Nat) : Code → St → (Ex → St → Option (Int × Int)) → Option (Int × Int) := codeK Tryz.prog (saturateref12_exact.cs) saturateref12_exact.live fu
noncomputable def saturateref12_exact.j8 (fu n8 : Nat) (x1 x13 x16 c8_0 c8_1 c10_0 c10_1 c15_0 c15_1 : Int) : Option (Int × Int) :=
  loopK (saturateref12_exact.K fu (sub saturateref12_exact.body [true, true, true, false, false, true, true, true, false, true, false, true, false, false])) (saturateref12_exact.live 17) n8 (stOf 72 [(1, .val (.int .i64 x1)), (8, .ptr 8 0 0 0), (10, .ptr 10 0 0 0), (13, .val (.int .u64 x13)), (15, .ptr 15 0 0 0), (16, .val (.int .i64 x16))] [(8, .own [.val (.int .u64 c8_0), .val (.int .u64 c8_1)]), (10, .own [.val (.int .u64 c10_0), .val (.int .u64 c10_1)]), (15, .own [.val (.int .u64 c15_0), .val (.int .u64 c15_1)])]) (blockC 1 (seqC fu (saturateref12_exact.live 28) (saturateref12_exact.K fu (sub saturateref12_exact.body [true, true, true, false, false, true, true, true, false, true, true])) (blockC 0 (seqC fu (saturateref12_exact.live 30) (saturateref12_exact.K fu (sub saturateref12_exact.body [true, true, true, true])) (retC Tryz.prog Tryz.f167.results saturateref12_exact.r.dec)))))
noncomputable def saturateref12_exact.p13 (m fu : Nat) (n8 : Nat) (x1 x13 x16 x17 c8_0 c8_1 c10_0 c10_1 c15_0 c15_1 : Int) : Option (Int × Int) :=
  joinK m (saturateref12_exact.K fu (sub saturateref12_exact.body [true, true, true, false, false, true, true, true, false, true, false, true, false, false, true, false, false, true, true])) (stOf 72 [(1, .val (.int .i64 x1)), (8, .ptr 8 0 0 0), (10, .ptr 10 0 0 0), (13, .val (.int .u64 x13)), (15, .ptr 15 0 0 0), (16, .val (.int .i64 x16)), (17, .val (.int .i64 x17))] [(8, .own [.val (.int .u64 c8_0), .val (.int .u64 c8_1)]), (10, .own [.val (.int .u64 c10_0), .val (.int .u64 c10_1)]), (15, .own [.val (.int .u64 c15_0), .val (.int .u64 c15_1)])]) (blockC 2 (seqC fu (saturateref12_exact.live 18) (saturateref12_exact.K fu (sub saturateref12_exact.body [true, true, true, false, false, true, true, true, false, true, false, true, false, false, true, true])) (roundC (saturateref12_exact.live 17) (loopK (saturateref12_exact.K fu (sub saturateref12_exact.body [true, true, true, false, false, true, true, true, false, true, false, true, false, false])) (saturateref12_exact.live 17) n8) (blockC 1 (seqC fu (saturateref12_exact.live 28) (saturateref12_exact.K fu (sub saturateref12_exact.body [true, true, true, false, false, true, true, true, false, true, true])) (blockC 0 (seqC fu (saturateref12_exact.live 30) (saturateref12_exact.K fu (sub saturateref12_exact.body [true, true, true, true])) (retC Tryz.prog Tryz.f167.results saturateref12_exact.r.dec))))))))
noncomputable def saturateref12_exact.p15 (m fu : Nat) : Option (Int × Int) :=
  joinK m (saturateref12_exact.K fu (sub saturateref12_exact.body [true, true, true, true])) (stOf 72 [(10, .ptr 10 0 0 0)] [(10, .own [.val (.int .u64 0), .val (.int .u64 0)])]) (retC Tryz.prog Tryz.f167.results saturateref12_exact.r.dec)
theorem saturateref12_exact.p13_eq (m fu : Nat) (n8 : Nat) (x1 x13 x16 x17 c8_0 c8_1 c10_0 c10_1 c15_0 c15_1 : Int) : saturateref12_exact.p13 (m + 1) fu n8 x1 x13 x16 x17 c8_0 c8_1 c10_0 c10_1 c15_0 c15_1 =
  (saturateref12_with.f (c15_0, c15_1) x16 x17).bind fun r9 =>
  saturateref12_exact.j8 fu n8 x1 x13 (IntKind.i64.wrap (x16 + 1)) c8_0 c8_1 c10_0 c10_1 r9.1 r9.2 := by kernel_rfl
theorem saturateref12_exact.j8_succ (fu n8 : Nat) (x1 x13 x16 c8_0 c8_1 c10_0 c10_1 c15_0 c15_1 : Int) : saturateref12_exact.j8 fu (n8 + 1) x1 x13 x16 c8_0 c8_1 c10_0 c10_1 c15_0 c15_1 =
  bif (decide (x16 < x1)) then
    (saturateref01_Lowest.f x13).bind fun r7 =>
    bif (decide (x16 < r7)) then
      (saturateref12_bit.f (c8_0, c8_1) x16).bind fun r8 =>
      saturateref12_exact.p13 fu fu n8 x1 x13 x16 r8 c8_0 c8_1 c10_0 c10_1 c15_0 c15_1
    else
      saturateref12_exact.p13 fu fu n8 x1 x13 x16 0 c8_0 c8_1 c10_0 c10_1 c15_0 c15_1
  else
    some (c15_0, c15_1) := by kernel_rfl
theorem saturateref12_exact.p15_eq (m fu : Nat) : saturateref12_exact.p15 (m + 1) fu =
  (saturateref12_Top.f).bind fun r10 =>
  some (r10.1, r10.2) := by kernel_rfl
noncomputable def saturateref12_exact.g (fu : Nat) (a0 a1 a2 : Int) (a3 : Int × Int) (a4 : Int × Int) : Option (Int × Int) :=
  (saturateref12_Single.f a1 (a3.1, a3.2)).bind fun r1 =>
  (saturateref12_Single.f a1 (a4.1, a4.2)).bind fun r2 =>
  bif r1.2 then
    bif r2.2 then
      (saturateref12_value.f a0 a1 r1.1 r2.1).bind fun r3 =>
      (saturateref12_Const.f a2 r3).bind fun r4 =>
      some (r4.1, r4.2)
    else
      bif (a0 == 12) then
        bif r2.2 then
          (saturateref01_Count.f r2.1).bind fun r5 =>
          bif (r5 == 1) then
            (saturateref12_Top.f).bind fun r6 =>
            saturateref12_exact.j8 fu fu a1 r2.1 0 a3.1 a3.2 0 0 r6.1 r6.2
          else
            saturateref12_exact.p15 fu fu
        else
          saturateref12_exact.p15 fu fu
      else
        saturateref12_exact.p15 fu fu
  else
    bif (a0 == 12) then
      bif r2.2 then
        (saturateref01_Count.f r2.1).bind fun r11 =>
        bif (r11 == 1) then
          (saturateref12_Top.f).bind fun r12 =>
          saturateref12_exact.j8 fu fu a1 r2.1 0 a3.1 a3.2 0 0 r12.1 r12.2
        else
          saturateref12_exact.p15 fu fu
      else
        saturateref12_exact.p15 fu fu
    else
      saturateref12_exact.p15 fu fu
noncomputable def saturateref12_exact.f (a0 a1 a2 : Int) (a3 : Int × Int) (a4 : Int × Int) : Option (Int × Int) := saturateref12_exact.g (fuel0 + 1) a0 a1 a2 a3 a4
theorem saturateref12_exact.eq (fu : Nat) (a : Int × Int × Int × (Int × Int) × (Int × Int) × Unit) : bodyK Tryz.prog saturateref12_exact.cs saturateref12_exact.live fu Tryz.f167 (saturateref12_exact.a.enc a) saturateref12_exact.r.dec = saturateref12_exact.g fu a.1 a.2.1 a.2.2.1 a.2.2.2.1 a.2.2.2.2.1 := by kernel_rfl
theorem saturateref12_exact.con : ∀ (a : Int × Int × Int × (Int × Int) × (Int × Int) × Unit) (r : Int × Int), saturateref12_exact.f a.1 a.2.1 a.2.2.1 a.2.2.2.1 a.2.2.2.2.1 = some r → Contract Tryz.prog 167 (saturateref12_exact.a.enc a) (saturateref12_exact.r.enc r) := Contract.of_body (by kernel_rfl) (by kernel_rfl) mixed (saturateref12_exact.eq (fuel0 + 1))
noncomputable def saturateref12_exact.c : Kn Tryz.prog := Kn.of 167 saturateref12_exact.a saturateref12_exact.r (fun a => saturateref12_exact.f a.1 a.2.1 a.2.2.1 a.2.2.2.1 a.2.2.2.2.1) saturateref12_exact.con
def saturateref12_binary.a : ACods (Int × Int × Int × (Int × Int) × (Int × Int) × Unit) := (.cons (.val (.int .i64)) (.cons (.val (.int .i64)) (.cons (.val (.int .i64)) (.cons (.val (.agg (.cons (.int .u64) (.one (.int .u64))))) (.cons (.val (.agg (.cons (.int .u64) (.one (.int .u64))))) .nil)))))
def saturateref12_binary.r : RCod (Int × Int) := .val (.agg (.cons (.int .u64) (.one (.int .u64))))
noncomputable def saturateref12_binary.cs : List (Kn Tryz.prog) := [saturateref12_bitwise.c, saturateref12_Add.c, saturateref12_Sub.c, saturateref12_times.c, saturateref12_shifted.c, saturateref12_equal.c, saturateref12_exact.c]
def saturateref12_binary.live : Nat → Option Keep := liveOf []
noncomputable def saturateref12_binary.f (a0 a1 a2 : Int) (a3 : Int × Int) (a4 : Int × Int) : Option (Int × Int) :=
  bif (a0 == 5) then
    (saturateref12_bitwise.f a0 (a3.1, a3.2) (a4.1, a4.2)).bind fun r1 =>
    some (r1.1, r1.2)
  else
    bif (a0 == 6) then
      (saturateref12_bitwise.f a0 (a3.1, a3.2) (a4.1, a4.2)).bind fun r2 =>
      some (r2.1, r2.2)
    else
      bif (a0 == 7) then
        (saturateref12_bitwise.f a0 (a3.1, a3.2) (a4.1, a4.2)).bind fun r3 =>
        some (r3.1, r3.2)
      else
        bif (a0 == 8) then
          (saturateref12_Add.f a1 (a3.1, a3.2) (a4.1, a4.2)).bind fun r4 =>
          some (r4.1, r4.2)
        else
          bif (a0 == 9) then
            (saturateref12_Sub.f a1 (a3.1, a3.2) (a4.1, a4.2)).bind fun r5 =>
            some (r5.1, r5.2)
          else
            bif (a0 == 10) then
              (saturateref12_times.f a1 (a3.1, a3.2) (a4.1, a4.2)).bind fun r6 =>
              some (r6.1, r6.2)
            else
              bif (a0 == 13) then
                (saturateref12_shifted.f a0 a1 (a3.1, a3.2) (a4.1, a4.2)).bind fun r7 =>
                some (r7.1, r7.2)
              else
                bif (a0 == 14) then
                  (saturateref12_shifted.f a0 a1 (a3.1, a3.2) (a4.1, a4.2)).bind fun r8 =>
                  some (r8.1, r8.2)
                else
                  bif (a0 == 15) then
                    (saturateref12_shifted.f a0 a1 (a3.1, a3.2) (a4.1, a4.2)).bind fun r9 =>
                    some (r9.1, r9.2)
                  else
                    bif (a0 == 16) then
                      (saturateref12_equal.f a1 (a3.1, a3.2) (a4.1, a4.2)).bind fun r10 =>
                      some (r10.1, r10.2)
                    else
                      (saturateref12_exact.f a0 a1 a2 (a3.1, a3.2) (a4.1, a4.2)).bind fun r11 =>
                      some (r11.1, r11.2)
theorem saturateref12_binary.eq (fu : Nat) (a : Int × Int × Int × (Int × Int) × (Int × Int) × Unit) : bodyK Tryz.prog saturateref12_binary.cs saturateref12_binary.live fu Tryz.f104 (saturateref12_binary.a.enc a) saturateref12_binary.r.dec = saturateref12_binary.f a.1 a.2.1 a.2.2.1 a.2.2.2.1 a.2.2.2.2.1 := by kernel_rfl
theorem saturateref12_binary.con : ∀ (a : Int × Int × Int × (Int × Int) × (Int × Int) × Unit) (r : Int × Int), saturateref12_binary.f a.1 a.2.1 a.2.2.1 a.2.2.2.1 a.2.2.2.2.1 = some r → Contract Tryz.prog 104 (saturateref12_binary.a.enc a) (saturateref12_binary.r.enc r) := Contract.of_body (by kernel_rfl) (by kernel_rfl) mixed (saturateref12_binary.eq (fuel0 + 1))
noncomputable def saturateref12_binary.c : Kn Tryz.prog := Kn.of 104 saturateref12_binary.a saturateref12_binary.r (fun a => saturateref12_binary.f a.1 a.2.1 a.2.2.1 a.2.2.2.1 a.2.2.2.2.1) saturateref12_binary.con
def saturateref12_Apply.a : ACods (Int × Int × Int × (Nat × (Nat → Int)) × (Nat × (Nat → Int) × (Nat → Int)) × Unit) := (.cons (.val (.int .i64)) (.cons (.val (.int .i64)) (.cons (.val (.int .u64)) (.cons (.rows (.int1 .i64)) (.cons (.rows (.int .u64 (.int1 .u64))) .nil)))))
def saturateref12_Apply.r : RCod ((Int × Int) × Int) := .val (.tup (.cons (.agg (.cons (.int .u64) (.one (.int .u64)))) (.one (.int .i64))))
noncomputable def saturateref12_Apply.cs : List (Kn Tryz.prog) := [saturateref12_Refused.c, saturateref12_Of.c, saturateref12_Top.c, saturateref12_Const.c, saturateref12_Single.c, saturateref12_Join.c, saturateref12_concat.c, saturateref12_unary.c, saturateref12_binary.c]
def saturateref12_Apply.live : Nat → Option Keep := liveOf [(13, ⟨[0, 2, 3, 4, 10, 12, 14, 15], [3, 4, 10, 14], [(14, 27, [.int .u64 (fun _ => 0), .int .u64 (fun _ => 0)])], [], []⟩), (40, ⟨[10, 12, 14], [10, 14], [], [], []⟩)]
noncomputable def saturateref12_Apply.body : Code := bodyOf Tryz.f41
noncomputable def saturateref12_Apply.K (fu : Nat) : Code → St → (Ex → St → Option ((Int × Int) × Int)) → Option ((Int × Int) × Int) := codeK Tryz.prog (saturateref12_Apply.cs) saturateref12_Apply.live fu
noncomputable def saturateref12_Apply.j6 (fu n6 : Nat) (x0 x2 : Int) (x3n x4n : Nat) (x12 : Int) (x14n : Nat) (x15 : Int) (m3 : Nat) (g3_0 : Nat → Int) (m4 : Nat) (g4_0 g4_1 : Nat → Int) (c10_0 c10_1 : Int) (m14 : Nat) (g14_0 g14_1 : Nat → Int) : Option ((Int × Int) × Int) :=
  loopK (saturateref12_Apply.K fu (sub saturateref12_Apply.body [true, true, true, true, false, true, false, false])) (saturateref12_Apply.live 13) n6 (stOf 130 [(0, .val (.int .i64 x0)), (2, .val (.int .u64 x2)), (3, .sl 3 1 x3n), (4, .sl 4 2 x4n), (10, .ptr 10 0 0 0), (12, .val (.int .i64 x12)), (14, .sl 14 2 x14n), (15, .val (.int .i64 x15))] [(3, .ext m3 [.int .i64 g3_0]), (4, .ext m4 [.int .u64 g4_0, .int .u64 g4_1]), (10, .own [.val (.int .u64 c10_0), .val (.int .u64 c10_1)]), (14, .grow 27 m14 [.int .u64 g14_0, .int .u64 g14_1])]) (blockC 0 (seqC fu (saturateref12_Apply.live 18) (saturateref12_Apply.K fu (sub saturateref12_Apply.body [true, true, true, true, true])) (retC Tryz.prog Tryz.f41.results saturateref12_Apply.r.dec)))
noncomputable def saturateref12_Apply.g (fu : Nat) (a0 a1 a2 : Int) (a3 : Nat × (Nat → Int)) (a4 : Nat × (Nat → Int) × (Nat → Int)) : Option ((Int × Int) × Int) :=
  (saturateref12_Refused.f a0 a1 a2 (a3.1, a3.2) (a4.1 : Int)).bind fun r1 =>
  bif (r1.2 != 0) then
    some ((0, 0), r1.2)
  else
    saturateref12_Apply.j6 fu fu a0 a2 a3.1 a4.1 r1.1 0 0 a3.1 a3.2 a4.1 a4.2.1 a4.2.2 0 0 0 (fun _ => 0) (fun _ => 0)
noncomputable def saturateref12_Apply.f (a0 a1 a2 : Int) (a3 : Nat × (Nat → Int)) (a4 : Nat × (Nat → Int) × (Nat → Int)) : Option ((Int × Int) × Int) := saturateref12_Apply.g (fuel0 + 1) a0 a1 a2 a3 a4
theorem saturateref12_Apply.eq (fu : Nat) (a : Int × Int × Int × (Nat × (Nat → Int)) × (Nat × (Nat → Int) × (Nat → Int)) × Unit) : bodyK Tryz.prog saturateref12_Apply.cs saturateref12_Apply.live fu Tryz.f41 (saturateref12_Apply.a.enc a) saturateref12_Apply.r.dec = saturateref12_Apply.g fu a.1 a.2.1 a.2.2.1 a.2.2.2.1 a.2.2.2.2.1 := by kernel_rfl
theorem saturateref12_Apply.con : ∀ (a : Int × Int × Int × (Nat × (Nat → Int)) × (Nat × (Nat → Int) × (Nat → Int)) × Unit) (r : (Int × Int) × Int), saturateref12_Apply.f a.1 a.2.1 a.2.2.1 a.2.2.2.1 a.2.2.2.2.1 = some r → Contract Tryz.prog 41 (saturateref12_Apply.a.enc a) (saturateref12_Apply.r.enc r) := Contract.of_body (by kernel_rfl) (by kernel_rfl) mixed (saturateref12_Apply.eq (fuel0 + 1))
noncomputable def saturateref12_Apply.c : Kn Tryz.prog := Kn.of 41 saturateref12_Apply.a saturateref12_Apply.r (fun a => saturateref12_Apply.f a.1 a.2.1 a.2.2.1 a.2.2.2.1 a.2.2.2.2.1) saturateref12_Apply.con
def saturateref13_Refused.a : ACods (Int × Int × Int × (Nat × (Nat → Int)) × Int × Unit) := (.cons (.val (.int .i64)) (.cons (.val (.int .i64)) (.cons (.val (.int .u64)) (.cons (.rows (.int1 .i64)) (.cons (.val (.int .i64)) .nil)))))
def saturateref13_Refused.r : RCod (Int × Int) := .val (.tup (.cons (.int .i64) (.one (.int .i64))))
noncomputable def saturateref13_Refused.cs : List (Kn Tryz.prog) := [saturateref04_Width.c, saturateref04_Pattern.c]
def saturateref13_Refused.live : Nat → Option Keep := liveOf [(19, ⟨[3, 12, 14], [3], [], [], []⟩)]
noncomputable def saturateref13_Refused.body : Code := bodyOf Tryz.f105
noncomputable def saturateref13_Refused.K (fu : Nat) : Code → St → (Ex → St → Option (Int × Int)) → Option (Int × Int) := codeK Tryz.prog (saturateref13_Refused.cs) saturateref13_Refused.live fu
noncomputable def saturateref13_Refused.j9 (fu n9 x3n : Nat) (x12 x14 : Int) (m3 : Nat) (g3_0 : Nat → Int) : Option (Int × Int) :=
  loopK (saturateref13_Refused.K fu (sub saturateref13_Refused.body [true, true, true, true, true, false, true, false, false])) (saturateref13_Refused.live 19) n9 (stOf 46 [(3, .sl 3 1 x3n), (12, .val (.int .i64 x12)), (14, .val (.int .i64 x14))] [(3, .ext m3 [.int .i64 g3_0])]) (blockC 0 (seqC fu (saturateref13_Refused.live 26) (saturateref13_Refused.K fu (sub saturateref13_Refused.body [true, true, true, true, true, true])) (retC Tryz.prog Tryz.f105.results saturateref13_Refused.r.dec)))
theorem saturateref13_Refused.j9_succ (fu n9 x3n : Nat) (x12 x14 : Int) (m3 : Nat) (g3_0 : Nat → Int) : saturateref13_Refused.j9 fu (n9 + 1) x3n x12 x14 m3 g3_0 =
  bif (decide (x14 < (x3n : Int))) then
    bif decide (0 ≤ x14) then
      bif decide (x14 < (x3n : Int)) then
        bif ((g3_0 x14.toNat) == 0) then
          some (0, 3)
        else
          saturateref13_Refused.j9 fu n9 x3n x12 (IntKind.i64.wrap (x14 + 1)) m3 g3_0
      else
        none
    else
      none
  else
    bif (x12 == 0) then
      some (0, 3)
    else
      some (x12, 0) := by kernel_rfl
noncomputable def saturateref13_Refused.g (fu : Nat) (a0 a1 a2 : Int) (a3 : Nat × (Nat → Int)) (a4 : Int) : Option (Int × Int) :=
  bif (a4 != (a3.1 : Int)) then
    some (0, 4)
  else
    (saturateref04_Width.f a0 a1 a2 (a3.1, a3.2)).bind fun r1 =>
    bif (r1.2 != 0) then
      some (0, r1.2)
    else
      (saturateref04_Pattern.f a0).bind fun r2 =>
      bif r2 then
        some (0, 4)
      else
        saturateref13_Refused.j9 fu fu a3.1 r1.1 0 a3.1 a3.2
noncomputable def saturateref13_Refused.f (a0 a1 a2 : Int) (a3 : Nat × (Nat → Int)) (a4 : Int) : Option (Int × Int) := saturateref13_Refused.g (fuel0 + 1) a0 a1 a2 a3 a4
theorem saturateref13_Refused.eq (fu : Nat) (a : Int × Int × Int × (Nat × (Nat → Int)) × Int × Unit) : bodyK Tryz.prog saturateref13_Refused.cs saturateref13_Refused.live fu Tryz.f105 (saturateref13_Refused.a.enc a) saturateref13_Refused.r.dec = saturateref13_Refused.g fu a.1 a.2.1 a.2.2.1 a.2.2.2.1 a.2.2.2.2.1 := by kernel_rfl
theorem saturateref13_Refused.con : ∀ (a : Int × Int × Int × (Nat × (Nat → Int)) × Int × Unit) (r : Int × Int), saturateref13_Refused.f a.1 a.2.1 a.2.2.1 a.2.2.2.1 a.2.2.2.2.1 = some r → Contract Tryz.prog 105 (saturateref13_Refused.a.enc a) (saturateref13_Refused.r.enc r) := Contract.of_body (by kernel_rfl) (by kernel_rfl) mixed (saturateref13_Refused.eq (fuel0 + 1))
noncomputable def saturateref13_Refused.c : Kn Tryz.prog := Kn.of 105 saturateref13_Refused.a saturateref13_Refused.r (fun a => saturateref13_Refused.f a.1 a.2.1 a.2.2.1 a.2.2.2.1 a.2.2.2.2.1) saturateref13_Refused.con
def saturateref13_Const.a : ACods (Int × Int × Unit) := (.cons (.val (.int .i64)) (.cons (.val (.int .u64)) .nil))
def saturateref13_Const.r : RCod (Int × Int) := .val (.agg (.cons (.int .u64) (.one (.int .u64))))
noncomputable def saturateref13_Const.cs : List (Kn Tryz.prog) := [saturateref01_Cut.c]
def saturateref13_Const.live : Nat → Option Keep := liveOf []
noncomputable def saturateref13_Const.f (a0 a1 : Int) : Option (Int × Int) :=
  (saturateref01_Cut.f a0 a1).bind fun r1 =>
  some (r1, r1)
theorem saturateref13_Const.eq (fu : Nat) (a : Int × Int × Unit) : bodyK Tryz.prog saturateref13_Const.cs saturateref13_Const.live fu Tryz.f108 (saturateref13_Const.a.enc a) saturateref13_Const.r.dec = saturateref13_Const.f a.1 a.2.1 := by kernel_rfl
theorem saturateref13_Const.con : ∀ (a : Int × Int × Unit) (r : Int × Int), saturateref13_Const.f a.1 a.2.1 = some r → Contract Tryz.prog 108 (saturateref13_Const.a.enc a) (saturateref13_Const.r.enc r) := Contract.of_body (by kernel_rfl) (by kernel_rfl) mixed (saturateref13_Const.eq (fuel0 + 1))
noncomputable def saturateref13_Const.c : Kn Tryz.prog := Kn.of 108 saturateref13_Const.a saturateref13_Const.r (fun a => saturateref13_Const.f a.1 a.2.1) saturateref13_Const.con
def saturateref13_neg.a : ACods (Int × (Int × Int) × Unit) := (.cons (.val (.int .u64)) (.cons (.val (.agg (.cons (.int .u64) (.one (.int .u64))))) .nil))
def saturateref13_neg.r : RCod (Int × Int) := .val (.agg (.cons (.int .u64) (.one (.int .u64))))
noncomputable def saturateref13_neg.cs : List (Kn Tryz.prog) := []
def saturateref13_neg.live : Nat → Option Keep := liveOf []
noncomputable def saturateref13_neg.f (a0 : Int) (a1 : Int × Int) : Option (Int × Int) :=
  bif (a1.2 == 0) then
    some (0, 0)
  else
    bif (a1.1 == 0) then
      some (0, a0)
    else
      some ((IntKind.u64.wrap ((IntKind.u64.wrap (a0 - a1.2)) + 1)), (IntKind.u64.wrap ((IntKind.u64.wrap (a0 - a1.1)) + 1)))
theorem saturateref13_neg.eq (fu : Nat) (a : Int × (Int × Int) × Unit) : bodyK Tryz.prog saturateref13_neg.cs saturateref13_neg.live fu Tryz.f109 (saturateref13_neg.a.enc a) saturateref13_neg.r.dec = saturateref13_neg.f a.1 a.2.1 := by kernel_rfl
theorem saturateref13_neg.con : ∀ (a : Int × (Int × Int) × Unit) (r : Int × Int), saturateref13_neg.f a.1 a.2.1 = some r → Contract Tryz.prog 109 (saturateref13_neg.a.enc a) (saturateref13_neg.r.enc r) := Contract.of_body (by kernel_rfl) (by kernel_rfl) mixed (saturateref13_neg.eq (fuel0 + 1))
noncomputable def saturateref13_neg.c : Kn Tryz.prog := Kn.of 109 saturateref13_neg.a saturateref13_neg.r (fun a => saturateref13_neg.f a.1 a.2.1) saturateref13_neg.con
def saturateref01_Concat.a : ACods (Int × Int × Int × Int × Unit) := (.cons (.val (.int .i64)) (.cons (.val (.int .i64)) (.cons (.val (.int .u64)) (.cons (.val (.int .u64)) .nil))))
def saturateref01_Concat.r : RCod (Int) := .val (.int .u64)
noncomputable def saturateref01_Concat.cs : List (Kn Tryz.prog) := [saturateref01_Cut.c, saturateref01_W.c, saturateref01_Bit.c]
def saturateref01_Concat.live : Nat → Option Keep := liveOf [(7, ⟨[1, 2, 9, 15, 16], [], [], [], []⟩), (14, ⟨[1, 2, 9, 15, 16], [], [], [], []⟩)]
noncomputable def saturateref01_Concat.body : Code := bodyOf Tryz.f110
noncomputable def saturateref01_Concat.K (fu : Nat) : Code → St → (Ex → St → Option (Int)) → Option (Int) := codeK Tryz.prog (saturateref01_Concat.cs) saturateref01_Concat.live fu
noncomputable def saturateref01_Concat.j3 (fu n3 : Nat) (x1 x2 x9 x15 x16 : Int) : Option Int :=
  loopK (saturateref01_Concat.K fu (sub saturateref01_Concat.body [true, true, false, true, false, false])) (saturateref01_Concat.live 7) n3 (stOf 37 [(1, .val (.int .i64 x1)), (2, .val (.int .u64 x2)), (9, .val (.int .u64 x9)), (15, .val (.int .i64 x15)), (16, .val (.int .i64 x16))] []) (blockC 0 (seqC fu (saturateref01_Concat.live 16) (saturateref01_Concat.K fu (sub saturateref01_Concat.body [true, true, true])) (retC Tryz.prog Tryz.f110.results saturateref01_Concat.r.dec)))
noncomputable def saturateref01_Concat.p7 (m fu : Nat) (n3 : Nat) (x1 x2 x9 x15 x16 : Int) : Option Int :=
  joinK m (saturateref01_Concat.K fu (sub saturateref01_Concat.body [true, true, false, true, false, false, true, true, true])) (stOf 37 [(1, .val (.int .i64 x1)), (2, .val (.int .u64 x2)), (9, .val (.int .u64 x9)), (15, .val (.int .i64 x15)), (16, .val (.int .i64 x16))] []) (roundC (saturateref01_Concat.live 7) (loopK (saturateref01_Concat.K fu (sub saturateref01_Concat.body [true, true, false, true, false, false])) (saturateref01_Concat.live 7) n3) (blockC 0 (seqC fu (saturateref01_Concat.live 16) (saturateref01_Concat.K fu (sub saturateref01_Concat.body [true, true, true])) (retC Tryz.prog Tryz.f110.results saturateref01_Concat.r.dec))))
theorem saturateref01_Concat.p7_eq (m fu : Nat) (n3 : Nat) (x1 x2 x9 x15 x16 : Int) : saturateref01_Concat.p7 (m + 1) fu n3 x1 x2 x9 x15 x16 =
  saturateref01_Concat.j3 fu n3 x1 x2 x9 x15 (IntKind.i64.wrap (x16 + 1)) := by kernel_rfl
theorem saturateref01_Concat.j3_succ (fu n3 : Nat) (x1 x2 x9 x15 x16 : Int) : saturateref01_Concat.j3 fu (n3 + 1) x1 x2 x9 x15 x16 =
  bif (decide (x16 < x15)) then
    (saturateref01_W.f x1).bind fun r3 =>
    bif (decide ((IntKind.i64.wrap (x16 + r3)) < 64)) then
      (saturateref01_Bit.f x2 x16).bind fun r4 =>
      (saturateref01_W.f x1).bind fun r5 =>
      bif decide ((IntKind.u64.wrap (IntKind.i64.wrap (x16 + r5))) < 0) then
        none
      else
        saturateref01_Concat.p7 fu fu n3 x1 x2 (Go.bits .or .u64 x9 (shl .u64 r4 (IntKind.u64.wrap (IntKind.i64.wrap (x16 + r5))))) x15 x16
    else
      saturateref01_Concat.p7 fu fu n3 x1 x2 x9 x15 x16
  else
    some x9 := by kernel_rfl
noncomputable def saturateref01_Concat.g (fu : Nat) (a0 a1 a2 a3 : Int) : Option (Int) :=
  (saturateref01_Cut.f a1 a3).bind fun r1 =>
  (saturateref01_W.f a0).bind fun r2 =>
  saturateref01_Concat.j3 fu fu a1 a2 r1 r2 0
noncomputable def saturateref01_Concat.f (a0 a1 a2 a3 : Int) : Option (Int) := saturateref01_Concat.g (fuel0 + 1) a0 a1 a2 a3
theorem saturateref01_Concat.eq (fu : Nat) (a : Int × Int × Int × Int × Unit) : bodyK Tryz.prog saturateref01_Concat.cs saturateref01_Concat.live fu Tryz.f110 (saturateref01_Concat.a.enc a) saturateref01_Concat.r.dec = saturateref01_Concat.g fu a.1 a.2.1 a.2.2.1 a.2.2.2.1 := by kernel_rfl
theorem saturateref01_Concat.con : ∀ (a : Int × Int × Int × Int × Unit) (r : Int), saturateref01_Concat.f a.1 a.2.1 a.2.2.1 a.2.2.2.1 = some r → Contract Tryz.prog 110 (saturateref01_Concat.a.enc a) (saturateref01_Concat.r.enc r) := Contract.of_body (by kernel_rfl) (by kernel_rfl) mixed (saturateref01_Concat.eq (fuel0 + 1))
noncomputable def saturateref01_Concat.c : Kn Tryz.prog := Kn.of 110 saturateref01_Concat.a saturateref01_Concat.r (fun a => saturateref01_Concat.f a.1 a.2.1 a.2.2.1 a.2.2.2.1) saturateref01_Concat.con
def saturateref01_by.a : ACods (Int × Int × Unit) := (.cons (.val (.int .i64)) (.cons (.val (.int .u64)) .nil))
def saturateref01_by.r : RCod (Int) := .val (.int .i64)
noncomputable def saturateref01_by.cs : List (Kn Tryz.prog) := [saturateref01_Cut.c]
def saturateref01_by.live : Nat → Option Keep := liveOf []
noncomputable def saturateref01_by.f (a0 a1 : Int) : Option (Int) :=
  (saturateref01_Cut.f a0 a1).bind fun r1 =>
  some (IntKind.i64.wrap (mn r1 64))
theorem saturateref01_by.eq (fu : Nat) (a : Int × Int × Unit) : bodyK Tryz.prog saturateref01_by.cs saturateref01_by.live fu Tryz.f225 (saturateref01_by.a.enc a) saturateref01_by.r.dec = saturateref01_by.f a.1 a.2.1 := by kernel_rfl
theorem saturateref01_by.con : ∀ (a : Int × Int × Unit) (r : Int), saturateref01_by.f a.1 a.2.1 = some r → Contract Tryz.prog 225 (saturateref01_by.a.enc a) (saturateref01_by.r.enc r) := Contract.of_body (by kernel_rfl) (by kernel_rfl) mixed (saturateref01_by.eq (fuel0 + 1))
noncomputable def saturateref01_by.c : Kn Tryz.prog := Kn.of 225 saturateref01_by.a saturateref01_by.r (fun a => saturateref01_by.f a.1 a.2.1) saturateref01_by.con
def saturateref01_shift.a : ACods (Int × Int × Int × Int × Unit) := (.cons (.val (.int .i64)) (.cons (.val (.int .u64)) (.cons (.val (.int .i64)) (.cons (.val (.int .u64)) .nil))))
def saturateref01_shift.r : RCod (Int) := .val (.int .u64)
noncomputable def saturateref01_shift.cs : List (Kn Tryz.prog) := [saturateref01_W.c, saturateref01_Bit.c]
def saturateref01_shift.live : Nat → Option Keep := liveOf [(7, ⟨[0, 1, 2, 3, 9, 13, 14], [], [], [], []⟩), (16, ⟨[0, 1, 2, 3, 9, 10, 11, 13, 14], [], [], [], []⟩)]
noncomputable def saturateref01_shift.body : Code := bodyOf Tryz.f224
noncomputable def saturateref01_shift.K (fu : Nat) : Code → St → (Ex → St → Option (Int)) → Option (Int) := codeK Tryz.prog (saturateref01_shift.cs) saturateref01_shift.live fu
noncomputable def saturateref01_shift.j3 (fu n3 : Nat) (x0 x1 x2 x3 x9 x13 x14 : Int) : Option Int :=
  loopK (saturateref01_shift.K fu (sub saturateref01_shift.body [true, true, false, true, false, false])) (saturateref01_shift.live 7) n3 (stOf 37 [(0, .val (.int .i64 x0)), (1, .val (.int .u64 x1)), (2, .val (.int .i64 x2)), (3, .val (.int .u64 x3)), (9, .val (.int .u64 x9)), (13, .val (.int .i64 x13)), (14, .val (.int .i64 x14))] []) (blockC 0 (seqC fu (saturateref01_shift.live 20) (saturateref01_shift.K fu (sub saturateref01_shift.body [true, true, true])) (retC Tryz.prog Tryz.f224.results saturateref01_shift.r.dec)))
noncomputable def saturateref01_shift.p8 (m fu : Nat) (n3 : Nat) (x0 x1 x2 x3 x9 x10 x11 x13 x14 : Int) : Option Int :=
  joinK m (saturateref01_shift.K fu (sub saturateref01_shift.body [true, true, false, true, false, false, true, true, false, false, true, true, true])) (stOf 37 [(0, .val (.int .i64 x0)), (1, .val (.int .u64 x1)), (2, .val (.int .i64 x2)), (3, .val (.int .u64 x3)), (9, .val (.int .u64 x9)), (10, .val (.int .i64 x10)), (11, .val (.int .u64 x11)), (13, .val (.int .i64 x13)), (14, .val (.int .i64 x14))] []) (blockC 1 (seqC fu (saturateref01_shift.live 18) (saturateref01_shift.K fu (sub saturateref01_shift.body [true, true, false, true, false, false, true, true, true])) (roundC (saturateref01_shift.live 7) (loopK (saturateref01_shift.K fu (sub saturateref01_shift.body [true, true, false, true, false, false])) (saturateref01_shift.live 7) n3) (blockC 0 (seqC fu (saturateref01_shift.live 20) (saturateref01_shift.K fu (sub saturateref01_shift.body [true, true, true])) (retC Tryz.prog Tryz.f224.results saturateref01_shift.r.dec))))))
theorem saturateref01_shift.p8_eq (m fu : Nat) (n3 : Nat) (x0 x1 x2 x3 x9 x10 x11 x13 x14 : Int) : saturateref01_shift.p8 (m + 1) fu n3 x0 x1 x2 x3 x9 x10 x11 x13 x14 =
  bif decide ((IntKind.u64.wrap x10) < 0) then
    none
  else
    saturateref01_shift.j3 fu n3 x0 x1 x2 x3 (Go.bits .or .u64 x9 (shl .u64 x11 (IntKind.u64.wrap x10))) x13 (IntKind.i64.wrap (x14 + 1)) := by kernel_rfl
theorem saturateref01_shift.j3_succ (fu n3 : Nat) (x0 x1 x2 x3 x9 x13 x14 : Int) : saturateref01_shift.j3 fu (n3 + 1) x0 x1 x2 x3 x9 x13 x14 =
  bif (decide (x14 < x13)) then
    (saturateref01_W.f x0).bind fun r2 =>
    bif (decide ((IntKind.i64.wrap (x14 + x2)) < r2)) then
      (saturateref01_Bit.f x1 (IntKind.i64.wrap (x14 + x2))).bind fun r3 =>
      saturateref01_shift.p8 fu fu n3 x0 x1 x2 x3 x9 x14 r3 x13 x14
    else
      saturateref01_shift.p8 fu fu n3 x0 x1 x2 x3 x9 x14 x3 x13 x14
  else
    some x9 := by kernel_rfl
noncomputable def saturateref01_shift.g (fu : Nat) (a0 a1 a2 a3 : Int) : Option (Int) :=
  (saturateref01_W.f a0).bind fun r1 =>
  saturateref01_shift.j3 fu fu a0 a1 a2 a3 0 r1 0
noncomputable def saturateref01_shift.f (a0 a1 a2 a3 : Int) : Option (Int) := saturateref01_shift.g (fuel0 + 1) a0 a1 a2 a3
theorem saturateref01_shift.eq (fu : Nat) (a : Int × Int × Int × Int × Unit) : bodyK Tryz.prog saturateref01_shift.cs saturateref01_shift.live fu Tryz.f224 (saturateref01_shift.a.enc a) saturateref01_shift.r.dec = saturateref01_shift.g fu a.1 a.2.1 a.2.2.1 a.2.2.2.1 := by kernel_rfl
theorem saturateref01_shift.con : ∀ (a : Int × Int × Int × Int × Unit) (r : Int), saturateref01_shift.f a.1 a.2.1 a.2.2.1 a.2.2.2.1 = some r → Contract Tryz.prog 224 (saturateref01_shift.a.enc a) (saturateref01_shift.r.enc r) := Contract.of_body (by kernel_rfl) (by kernel_rfl) mixed (saturateref01_shift.eq (fuel0 + 1))
noncomputable def saturateref01_shift.c : Kn Tryz.prog := Kn.of 224 saturateref01_shift.a saturateref01_shift.r (fun a => saturateref01_shift.f a.1 a.2.1 a.2.2.1 a.2.2.2.1) saturateref01_shift.con
def saturateref01_Lshr.a : ACods (Int × Int × Int × Unit) := (.cons (.val (.int .i64)) (.cons (.val (.int .u64)) (.cons (.val (.int .u64)) .nil)))
def saturateref01_Lshr.r : RCod (Int) := .val (.int .u64)
noncomputable def saturateref01_Lshr.cs : List (Kn Tryz.prog) := [saturateref01_by.c, saturateref01_shift.c]
def saturateref01_Lshr.live : Nat → Option Keep := liveOf []
noncomputable def saturateref01_Lshr.f (a0 a1 a2 : Int) : Option (Int) :=
  (saturateref01_by.f a0 a2).bind fun r1 =>
  (saturateref01_shift.f a0 a1 r1 0).bind fun r2 =>
  some r2
theorem saturateref01_Lshr.eq (fu : Nat) (a : Int × Int × Int × Unit) : bodyK Tryz.prog saturateref01_Lshr.cs saturateref01_Lshr.live fu Tryz.f168 (saturateref01_Lshr.a.enc a) saturateref01_Lshr.r.dec = saturateref01_Lshr.f a.1 a.2.1 a.2.2.1 := by kernel_rfl
theorem saturateref01_Lshr.con : ∀ (a : Int × Int × Int × Unit) (r : Int), saturateref01_Lshr.f a.1 a.2.1 a.2.2.1 = some r → Contract Tryz.prog 168 (saturateref01_Lshr.a.enc a) (saturateref01_Lshr.r.enc r) := Contract.of_body (by kernel_rfl) (by kernel_rfl) mixed (saturateref01_Lshr.eq (fuel0 + 1))
noncomputable def saturateref01_Lshr.c : Kn Tryz.prog := Kn.of 168 saturateref01_Lshr.a saturateref01_Lshr.r (fun a => saturateref01_Lshr.f a.1 a.2.1 a.2.2.1) saturateref01_Lshr.con
def saturateref13_extract.a : ACods (Int × Int × Int × (Int × Int) × Unit) := (.cons (.val (.int .i64)) (.cons (.val (.int .u64)) (.cons (.val (.int .i64)) (.cons (.val (.agg (.cons (.int .u64) (.one (.int .u64))))) .nil))))
def saturateref13_extract.r : RCod (Int × Int) := .val (.agg (.cons (.int .u64) (.one (.int .u64))))
noncomputable def saturateref13_extract.cs : List (Kn Tryz.prog) := [saturateref01_Mask.c, saturateref01_Lshr.c, saturateref13_Top.c]
def saturateref13_extract.live : Nat → Option Keep := liveOf [(6, ⟨[0, 1, 2, 7, 8], [7, 8], [], [], []⟩)]
noncomputable def saturateref13_extract.body : Code := bodyOf Tryz.f111
noncomputable def saturateref13_extract.K (fu : Nat) : Code → St → (Ex → St → Option (Int × Int)) → Option (Int × Int) := codeK Tryz.prog (saturateref13_extract.cs) saturateref13_extract.live fu
noncomputable def saturateref13_extract.p3 (m fu : Nat) (x0 x1 x2 c7_0 c7_1 : Int) : Option (Int × Int) :=
  joinK m (saturateref13_extract.K fu (sub saturateref13_extract.body [true, true])) (stOf 39 [(0, .val (.int .i64 x0)), (1, .val (.int .u64 x1)), (2, .val (.int .i64 x2)), (7, .ptr 7 0 0 0), (8, .ptr 8 0 0 0)] [(7, .own [.val (.int .u64 c7_0), .val (.int .u64 c7_1)]), (8, .own [.val (.int .u64 0), .val (.int .u64 0)])]) (retC Tryz.prog Tryz.f111.results saturateref13_extract.r.dec)
theorem saturateref13_extract.p3_eq (m fu : Nat) (x0 x1 x2 c7_0 c7_1 : Int) : saturateref13_extract.p3 (m + 1) fu x0 x1 x2 c7_0 c7_1 =
  bif ((IntKind.u64.wrap (x1 + (IntKind.u64.wrap x0))) == (IntKind.u64.wrap x2)) then
    (saturateref01_Lshr.f x2 c7_0 x1).bind fun r2 =>
    (saturateref01_Lshr.f x2 c7_1 x1).bind fun r3 =>
    some (r2, r3)
  else
    (saturateref13_Top.f x0).bind fun r4 =>
    some (r4.1, r4.2) := by kernel_rfl
noncomputable def saturateref13_extract.g (fu : Nat) (a0 a1 a2 : Int) (a3 : Int × Int) : Option (Int × Int) :=
  bif (a1 == 0) then
    (saturateref01_Mask.f a0).bind fun r1 =>
    bif (decide (a3.2 ≤ r1)) then
      some (a3.1, a3.2)
    else
      saturateref13_extract.p3 fu fu a0 a1 a2 a3.1 a3.2
  else
    saturateref13_extract.p3 fu fu a0 a1 a2 a3.1 a3.2
noncomputable def saturateref13_extract.f (a0 a1 a2 : Int) (a3 : Int × Int) : Option (Int × Int) := saturateref13_extract.g (fuel0 + 1) a0 a1 a2 a3
theorem saturateref13_extract.eq (fu : Nat) (a : Int × Int × Int × (Int × Int) × Unit) : bodyK Tryz.prog saturateref13_extract.cs saturateref13_extract.live fu Tryz.f111 (saturateref13_extract.a.enc a) saturateref13_extract.r.dec = saturateref13_extract.g fu a.1 a.2.1 a.2.2.1 a.2.2.2.1 := by kernel_rfl
theorem saturateref13_extract.con : ∀ (a : Int × Int × Int × (Int × Int) × Unit) (r : Int × Int), saturateref13_extract.f a.1 a.2.1 a.2.2.1 a.2.2.2.1 = some r → Contract Tryz.prog 111 (saturateref13_extract.a.enc a) (saturateref13_extract.r.enc r) := Contract.of_body (by kernel_rfl) (by kernel_rfl) mixed (saturateref13_extract.eq (fuel0 + 1))
noncomputable def saturateref13_extract.c : Kn Tryz.prog := Kn.of 111 saturateref13_extract.a saturateref13_extract.r (fun a => saturateref13_extract.f a.1 a.2.1 a.2.2.1 a.2.2.2.1) saturateref13_extract.con
def saturateref13_half.a : ACods (Int × Unit) := (.cons (.val (.int .i64)) .nil)
def saturateref13_half.r : RCod (Int) := .val (.int .u64)
noncomputable def saturateref13_half.cs : List (Kn Tryz.prog) := [saturateref01_Mask.c]
def saturateref13_half.live : Nat → Option Keep := liveOf []
noncomputable def saturateref13_half.f (a0 : Int) : Option (Int) :=
  (saturateref01_Mask.f a0).bind fun r1 =>
  some (IntKind.u64.wrap ((IntKind.u64.wrap (Int.tdiv r1 2)) + 1))
theorem saturateref13_half.eq (fu : Nat) (a : Int × Unit) : bodyK Tryz.prog saturateref13_half.cs saturateref13_half.live fu Tryz.f169 (saturateref13_half.a.enc a) saturateref13_half.r.dec = saturateref13_half.f a.1 := by kernel_rfl
theorem saturateref13_half.con : ∀ (a : Int × Unit) (r : Int), saturateref13_half.f a.1 = some r → Contract Tryz.prog 169 (saturateref13_half.a.enc a) (saturateref13_half.r.enc r) := Contract.of_body (by kernel_rfl) (by kernel_rfl) mixed (saturateref13_half.eq (fuel0 + 1))
noncomputable def saturateref13_half.c : Kn Tryz.prog := Kn.of 169 saturateref13_half.a saturateref13_half.r (fun a => saturateref13_half.f a.1) saturateref13_half.con
end Go.Proofs.YtcihbcffokjgjaaGreat.Fn
