/- What the functions return, as the evaluator tells it: written by a program of this workplace (mev.py); Lean checks each equation. -/
import Derived.Test.YtcihbcffokjgjaaGreatProg
import Derived.Test.YtcihbcffokjgjaaGreatOEvC
import Derived.Test.YtcihbcffokjgjaaGreatOF0
import Derived.Test.YtcihbcffokjgjaaGreatOF3
import Derived.Test.YtcihbcffokjgjaaGreatOF8
import Derived.Test.YtcihbcffokjgjaaGreatOF9
import Derived.Test.YtcihbcffokjgjaaGreatOF10
namespace Go.Proofs.YtcihbcffokjgjaaGreat.Fn
open Go Go.RowKit Go.Proofs.YtcihbcffokjgjaaGreat.Ev Go.Proofs
set_option linter.unusedVariables false
set_option maxRecDepth 100000
def saturateref01_Sext.a : ACods (Int × Int × Int × Unit) := (.cons (.val (.int .i64)) (.cons (.val (.int .i64)) (.cons (.val (.int .u64)) .nil)))
def saturateref01_Sext.r : RCod (Int) := .val (.int .u64)
noncomputable def saturateref01_Sext.cs : List (Kn Tryz.prog) := [saturateref01_W.c, saturateref01_Bit.c]
def saturateref01_Sext.live : Nat → Option Keep := liveOf [(7, ⟨[0, 2, 7, 10, 11], [], [], [], []⟩)]
noncomputable def saturateref01_Sext.body : Code := bodyOf Tryz.f170
noncomputable def saturateref01_Sext.K (fu : Nat) : Code → St → (Ex → St → Option (Int)) → Option (Int) := codeK Tryz.prog (saturateref01_Sext.cs) saturateref01_Sext.live fu
noncomputable def saturateref01_Sext.j3 (fu n3 : Nat) (x0 x2 x7 x10 x11 : Int) : Option Int :=
  loopK (saturateref01_Sext.K fu (sub saturateref01_Sext.body [true, true, false, true, false, false])) (saturateref01_Sext.live 7) n3 (stOf 28 [(0, .val (.int .i64 x0)), (2, .val (.int .u64 x2)), (7, .val (.int .u64 x7)), (10, .val (.int .i64 x10)), (11, .val (.int .i64 x11))] []) (blockC 0 (seqC fu (saturateref01_Sext.live 14) (saturateref01_Sext.K fu (sub saturateref01_Sext.body [true, true, true])) (retC Tryz.prog Tryz.f170.results saturateref01_Sext.r.dec)))
theorem saturateref01_Sext.j3_succ (fu n3 : Nat) (x0 x2 x7 x10 x11 : Int) : saturateref01_Sext.j3 fu (n3 + 1) x0 x2 x7 x10 x11 =
  bif (decide (x11 < x10)) then
    (saturateref01_W.f x0).bind fun r2 =>
    (saturateref01_Bit.f x2 (mn x11 (IntKind.i64.wrap (r2 - 1)))).bind fun r3 =>
    bif decide ((IntKind.u64.wrap x11) < 0) then
      none
    else
      saturateref01_Sext.j3 fu n3 x0 x2 (Go.bits .or .u64 x7 (shl .u64 r3 (IntKind.u64.wrap x11))) x10 (IntKind.i64.wrap (x11 + 1))
  else
    some x7 := by kernel_rfl
noncomputable def saturateref01_Sext.g (fu : Nat) (a0 a1 a2 : Int) : Option (Int) :=
  (saturateref01_W.f a1).bind fun r1 =>
  saturateref01_Sext.j3 fu fu a0 a2 0 r1 0
noncomputable def saturateref01_Sext.f (a0 a1 a2 : Int) : Option (Int) := saturateref01_Sext.g (fuel0 + 1) a0 a1 a2
theorem saturateref01_Sext.eq (fu : Nat) (a : Int × Int × Int × Unit) : bodyK Tryz.prog saturateref01_Sext.cs saturateref01_Sext.live fu Tryz.f170 (saturateref01_Sext.a.enc a) saturateref01_Sext.r.dec = saturateref01_Sext.g fu a.1 a.2.1 a.2.2.1 := by kernel_rfl
theorem saturateref01_Sext.con : ∀ (a : Int × Int × Int × Unit) (r : Int), saturateref01_Sext.f a.1 a.2.1 a.2.2.1 = some r → Contract Tryz.prog 170 (saturateref01_Sext.a.enc a) (saturateref01_Sext.r.enc r) := Contract.of_body (by kernel_rfl) (by kernel_rfl) mixed (saturateref01_Sext.eq (fuel0 + 1))
noncomputable def saturateref01_Sext.c : Kn Tryz.prog := Kn.of 170 saturateref01_Sext.a saturateref01_Sext.r (fun a => saturateref01_Sext.f a.1 a.2.1 a.2.2.1) saturateref01_Sext.con
def saturateref13_sext.a : ACods (Int × Int × (Int × Int) × Unit) := (.cons (.val (.int .i64)) (.cons (.val (.int .i64)) (.cons (.val (.agg (.cons (.int .u64) (.one (.int .u64))))) .nil)))
def saturateref13_sext.r : RCod (Int × Int) := .val (.agg (.cons (.int .u64) (.one (.int .u64))))
noncomputable def saturateref13_sext.cs : List (Kn Tryz.prog) := [saturateref13_half.c, saturateref01_Sext.c, saturateref13_Top.c]
def saturateref13_sext.live : Nat → Option Keep := liveOf []
noncomputable def saturateref13_sext.f (a0 a1 : Int) (a2 : Int × Int) : Option (Int × Int) :=
  (saturateref13_half.f a1).bind fun r1 =>
  bif (decide (a2.2 < r1)) then
    some (a2.1, a2.2)
  else
    (saturateref13_half.f a1).bind fun r2 =>
    bif (decide (a2.1 ≥ r2)) then
      (saturateref01_Sext.f a1 a0 a2.1).bind fun r3 =>
      (saturateref01_Sext.f a1 a0 a2.2).bind fun r4 =>
      some (r3, r4)
    else
      (saturateref13_Top.f a0).bind fun r5 =>
      some (r5.1, r5.2)
theorem saturateref13_sext.eq (fu : Nat) (a : Int × Int × (Int × Int) × Unit) : bodyK Tryz.prog saturateref13_sext.cs saturateref13_sext.live fu Tryz.f112 (saturateref13_sext.a.enc a) saturateref13_sext.r.dec = saturateref13_sext.f a.1 a.2.1 a.2.2.1 := by kernel_rfl
theorem saturateref13_sext.con : ∀ (a : Int × Int × (Int × Int) × Unit) (r : Int × Int), saturateref13_sext.f a.1 a.2.1 a.2.2.1 = some r → Contract Tryz.prog 112 (saturateref13_sext.a.enc a) (saturateref13_sext.r.enc r) := Contract.of_body (by kernel_rfl) (by kernel_rfl) mixed (saturateref13_sext.eq (fuel0 + 1))
noncomputable def saturateref13_sext.c : Kn Tryz.prog := Kn.of 112 saturateref13_sext.a saturateref13_sext.r (fun a => saturateref13_sext.f a.1 a.2.1 a.2.2.1) saturateref13_sext.con
def saturateref13_Fill.a : ACods (Int × Unit) := (.cons (.val (.int .u64)) .nil)
def saturateref13_Fill.r : RCod (Int) := .val (.int .u64)
noncomputable def saturateref13_Fill.cs : List (Kn Tryz.prog) := []
def saturateref13_Fill.live : Nat → Option Keep := liveOf [(5, ⟨[0, 3], [], [], [], []⟩)]
noncomputable def saturateref13_Fill.body : Code := bodyOf Tryz.f171
noncomputable def saturateref13_Fill.K (fu : Nat) : Code → St → (Ex → St → Option (Int)) → Option (Int) := codeK Tryz.prog (saturateref13_Fill.cs) saturateref13_Fill.live fu
noncomputable def saturateref13_Fill.j2 (fu n2 : Nat) (x0 x3 : Int) : Option Int :=
  loopK (saturateref13_Fill.K fu (sub saturateref13_Fill.body [true, true, false, false, false])) (saturateref13_Fill.live 5) n2 (stOf 11 [(0, .val (.int .u64 x0)), (3, .val (.int .u64 x3))] []) (blockC 0 (seqC fu (saturateref13_Fill.live 8) (saturateref13_Fill.K fu (sub saturateref13_Fill.body [true, true, true])) (retC Tryz.prog Tryz.f171.results saturateref13_Fill.r.dec)))
theorem saturateref13_Fill.j2_succ (fu n2 : Nat) (x0 x3 : Int) : saturateref13_Fill.j2 fu (n2 + 1) x0 x3 =
  bif (decide (x3 < x0)) then
    saturateref13_Fill.j2 fu n2 x0 (IntKind.u64.wrap ((IntKind.u64.wrap (x3 * 2)) + 1))
  else
    some x3 := by kernel_rfl
noncomputable def saturateref13_Fill.g (fu : Nat) (a0 : Int) : Option (Int) :=
  saturateref13_Fill.j2 fu fu a0 0
noncomputable def saturateref13_Fill.f (a0 : Int) : Option (Int) := saturateref13_Fill.g (fuel0 + 1) a0
theorem saturateref13_Fill.eq (fu : Nat) (a : Int × Unit) : bodyK Tryz.prog saturateref13_Fill.cs saturateref13_Fill.live fu Tryz.f171 (saturateref13_Fill.a.enc a) saturateref13_Fill.r.dec = saturateref13_Fill.g fu a.1 := by kernel_rfl
theorem saturateref13_Fill.con : ∀ (a : Int × Unit) (r : Int), saturateref13_Fill.f a.1 = some r → Contract Tryz.prog 171 (saturateref13_Fill.a.enc a) (saturateref13_Fill.r.enc r) := Contract.of_body (by kernel_rfl) (by kernel_rfl) mixed (saturateref13_Fill.eq (fuel0 + 1))
noncomputable def saturateref13_Fill.c : Kn Tryz.prog := Kn.of 171 saturateref13_Fill.a saturateref13_Fill.r (fun a => saturateref13_Fill.f a.1) saturateref13_Fill.con
def saturateref13_over.a : ACods (Int × Int × Int × Unit) := (.cons (.val (.int .u64)) (.cons (.val (.int .u64)) (.cons (.val (.int .u64)) .nil)))
def saturateref13_over.r : RCod (Bool) := .val (.bool)
noncomputable def saturateref13_over.cs : List (Kn Tryz.prog) := []
def saturateref13_over.live : Nat → Option Keep := liveOf []
noncomputable def saturateref13_over.f (a0 a1 a2 : Int) : Option (Bool) :=
  some (decide (a1 > (IntKind.u64.wrap (a0 - a2))))
theorem saturateref13_over.eq (fu : Nat) (a : Int × Int × Int × Unit) : bodyK Tryz.prog saturateref13_over.cs saturateref13_over.live fu Tryz.f226 (saturateref13_over.a.enc a) saturateref13_over.r.dec = saturateref13_over.f a.1 a.2.1 a.2.2.1 := by kernel_rfl
theorem saturateref13_over.con : ∀ (a : Int × Int × Int × Unit) (r : Bool), saturateref13_over.f a.1 a.2.1 a.2.2.1 = some r → Contract Tryz.prog 226 (saturateref13_over.a.enc a) (saturateref13_over.r.enc r) := Contract.of_body (by kernel_rfl) (by kernel_rfl) mixed (saturateref13_over.eq (fuel0 + 1))
noncomputable def saturateref13_over.c : Kn Tryz.prog := Kn.of 226 saturateref13_over.a saturateref13_over.r (fun a => saturateref13_over.f a.1 a.2.1 a.2.2.1) saturateref13_over.con
def saturateref13_add.a : ACods (Int × (Int × Int) × (Int × Int) × Unit) := (.cons (.val (.int .i64)) (.cons (.val (.agg (.cons (.int .u64) (.one (.int .u64))))) (.cons (.val (.agg (.cons (.int .u64) (.one (.int .u64))))) .nil)))
def saturateref13_add.r : RCod (Int × Int) := .val (.agg (.cons (.int .u64) (.one (.int .u64))))
noncomputable def saturateref13_add.cs : List (Kn Tryz.prog) := [saturateref01_Mask.c, saturateref13_over.c, saturateref13_Top.c, saturateref01_Add.c]
def saturateref13_add.live : Nat → Option Keep := liveOf []
noncomputable def saturateref13_add.f (a0 : Int) (a1 : Int × Int) (a2 : Int × Int) : Option (Int × Int) :=
  (saturateref01_Mask.f a0).bind fun r1 =>
  (saturateref13_over.f r1 a1.2 a2.2).bind fun r2 =>
  (saturateref13_over.f r1 a1.1 a2.1).bind fun r3 =>
  bif (!(r2 == r3)) then
    (saturateref13_Top.f a0).bind fun r4 =>
    some (r4.1, r4.2)
  else
    (saturateref01_Add.f a0 a1.1 a2.1).bind fun r5 =>
    (saturateref01_Add.f a0 a1.2 a2.2).bind fun r6 =>
    some (r5, r6)
theorem saturateref13_add.eq (fu : Nat) (a : Int × (Int × Int) × (Int × Int) × Unit) : bodyK Tryz.prog saturateref13_add.cs saturateref13_add.live fu Tryz.f172 (saturateref13_add.a.enc a) saturateref13_add.r.dec = saturateref13_add.f a.1 a.2.1 a.2.2.1 := by kernel_rfl
theorem saturateref13_add.con : ∀ (a : Int × (Int × Int) × (Int × Int) × Unit) (r : Int × Int), saturateref13_add.f a.1 a.2.1 a.2.2.1 = some r → Contract Tryz.prog 172 (saturateref13_add.a.enc a) (saturateref13_add.r.enc r) := Contract.of_body (by kernel_rfl) (by kernel_rfl) mixed (saturateref13_add.eq (fuel0 + 1))
noncomputable def saturateref13_add.c : Kn Tryz.prog := Kn.of 172 saturateref13_add.a saturateref13_add.r (fun a => saturateref13_add.f a.1 a.2.1 a.2.2.1) saturateref13_add.con
def saturateref01_Not.a : ACods (Int × Int × Unit) := (.cons (.val (.int .i64)) (.cons (.val (.int .u64)) .nil))
def saturateref01_Not.r : RCod (Int) := .val (.int .u64)
noncomputable def saturateref01_Not.cs : List (Kn Tryz.prog) := [saturateref01_Mask.c, saturateref01_Cut.c]
def saturateref01_Not.live : Nat → Option Keep := liveOf []
noncomputable def saturateref01_Not.f (a0 a1 : Int) : Option (Int) :=
  (saturateref01_Mask.f a0).bind fun r1 =>
  (saturateref01_Cut.f a0 a1).bind fun r2 =>
  some (IntKind.u64.wrap (r1 - r2))
theorem saturateref01_Not.eq (fu : Nat) (a : Int × Int × Unit) : bodyK Tryz.prog saturateref01_Not.cs saturateref01_Not.live fu Tryz.f187 (saturateref01_Not.a.enc a) saturateref01_Not.r.dec = saturateref01_Not.f a.1 a.2.1 := by kernel_rfl
theorem saturateref01_Not.con : ∀ (a : Int × Int × Unit) (r : Int), saturateref01_Not.f a.1 a.2.1 = some r → Contract Tryz.prog 187 (saturateref01_Not.a.enc a) (saturateref01_Not.r.enc r) := Contract.of_body (by kernel_rfl) (by kernel_rfl) mixed (saturateref01_Not.eq (fuel0 + 1))
noncomputable def saturateref01_Not.c : Kn Tryz.prog := Kn.of 187 saturateref01_Not.a saturateref01_Not.r (fun a => saturateref01_Not.f a.1 a.2.1) saturateref01_Not.con
def saturateref01_Neg.a : ACods (Int × Int × Unit) := (.cons (.val (.int .i64)) (.cons (.val (.int .u64)) .nil))
def saturateref01_Neg.r : RCod (Int) := .val (.int .u64)
noncomputable def saturateref01_Neg.cs : List (Kn Tryz.prog) := [saturateref01_Not.c, saturateref01_Add.c]
def saturateref01_Neg.live : Nat → Option Keep := liveOf []
noncomputable def saturateref01_Neg.f (a0 a1 : Int) : Option (Int) :=
  (saturateref01_Not.f a0 a1).bind fun r1 =>
  (saturateref01_Add.f a0 r1 1).bind fun r2 =>
  some r2
theorem saturateref01_Neg.eq (fu : Nat) (a : Int × Int × Unit) : bodyK Tryz.prog saturateref01_Neg.cs saturateref01_Neg.live fu Tryz.f188 (saturateref01_Neg.a.enc a) saturateref01_Neg.r.dec = saturateref01_Neg.f a.1 a.2.1 := by kernel_rfl
theorem saturateref01_Neg.con : ∀ (a : Int × Int × Unit) (r : Int), saturateref01_Neg.f a.1 a.2.1 = some r → Contract Tryz.prog 188 (saturateref01_Neg.a.enc a) (saturateref01_Neg.r.enc r) := Contract.of_body (by kernel_rfl) (by kernel_rfl) mixed (saturateref01_Neg.eq (fuel0 + 1))
noncomputable def saturateref01_Neg.c : Kn Tryz.prog := Kn.of 188 saturateref01_Neg.a saturateref01_Neg.r (fun a => saturateref01_Neg.f a.1 a.2.1) saturateref01_Neg.con
def saturateref01_Sub.a : ACods (Int × Int × Int × Unit) := (.cons (.val (.int .i64)) (.cons (.val (.int .u64)) (.cons (.val (.int .u64)) .nil)))
def saturateref01_Sub.r : RCod (Int) := .val (.int .u64)
noncomputable def saturateref01_Sub.cs : List (Kn Tryz.prog) := [saturateref01_Neg.c, saturateref01_Add.c]
def saturateref01_Sub.live : Nat → Option Keep := liveOf []
noncomputable def saturateref01_Sub.f (a0 a1 a2 : Int) : Option (Int) :=
  (saturateref01_Neg.f a0 a2).bind fun r1 =>
  (saturateref01_Add.f a0 a1 r1).bind fun r2 =>
  some r2
theorem saturateref01_Sub.eq (fu : Nat) (a : Int × Int × Int × Unit) : bodyK Tryz.prog saturateref01_Sub.cs saturateref01_Sub.live fu Tryz.f194 (saturateref01_Sub.a.enc a) saturateref01_Sub.r.dec = saturateref01_Sub.f a.1 a.2.1 a.2.2.1 := by kernel_rfl
theorem saturateref01_Sub.con : ∀ (a : Int × Int × Int × Unit) (r : Int), saturateref01_Sub.f a.1 a.2.1 a.2.2.1 = some r → Contract Tryz.prog 194 (saturateref01_Sub.a.enc a) (saturateref01_Sub.r.enc r) := Contract.of_body (by kernel_rfl) (by kernel_rfl) mixed (saturateref01_Sub.eq (fuel0 + 1))
noncomputable def saturateref01_Sub.c : Kn Tryz.prog := Kn.of 194 saturateref01_Sub.a saturateref01_Sub.r (fun a => saturateref01_Sub.f a.1 a.2.1 a.2.2.1) saturateref01_Sub.con
def saturateref13_sub.a : ACods (Int × (Int × Int) × (Int × Int) × Unit) := (.cons (.val (.int .i64)) (.cons (.val (.agg (.cons (.int .u64) (.one (.int .u64))))) (.cons (.val (.agg (.cons (.int .u64) (.one (.int .u64))))) .nil)))
def saturateref13_sub.r : RCod (Int × Int) := .val (.agg (.cons (.int .u64) (.one (.int .u64))))
noncomputable def saturateref13_sub.cs : List (Kn Tryz.prog) := [saturateref13_Top.c, saturateref01_Sub.c]
def saturateref13_sub.live : Nat → Option Keep := liveOf []
noncomputable def saturateref13_sub.f (a0 : Int) (a1 : Int × Int) (a2 : Int × Int) : Option (Int × Int) :=
  bif (!((decide (a1.1 < a2.2)) == (decide (a1.2 < a2.1)))) then
    (saturateref13_Top.f a0).bind fun r1 =>
    some (r1.1, r1.2)
  else
    (saturateref01_Sub.f a0 a1.1 a2.2).bind fun r2 =>
    (saturateref01_Sub.f a0 a1.2 a2.1).bind fun r3 =>
    some (r2, r3)
theorem saturateref13_sub.eq (fu : Nat) (a : Int × (Int × Int) × (Int × Int) × Unit) : bodyK Tryz.prog saturateref13_sub.cs saturateref13_sub.live fu Tryz.f173 (saturateref13_sub.a.enc a) saturateref13_sub.r.dec = saturateref13_sub.f a.1 a.2.1 a.2.2.1 := by kernel_rfl
theorem saturateref13_sub.con : ∀ (a : Int × (Int × Int) × (Int × Int) × Unit) (r : Int × Int), saturateref13_sub.f a.1 a.2.1 a.2.2.1 = some r → Contract Tryz.prog 173 (saturateref13_sub.a.enc a) (saturateref13_sub.r.enc r) := Contract.of_body (by kernel_rfl) (by kernel_rfl) mixed (saturateref13_sub.eq (fuel0 + 1))
noncomputable def saturateref13_sub.c : Kn Tryz.prog := Kn.of 173 saturateref13_sub.a saturateref13_sub.r (fun a => saturateref13_sub.f a.1 a.2.1 a.2.2.1) saturateref13_sub.con
def saturateref13_mul.a : ACods (Int × (Int × Int) × (Int × Int) × Unit) := (.cons (.val (.int .i64)) (.cons (.val (.agg (.cons (.int .u64) (.one (.int .u64))))) (.cons (.val (.agg (.cons (.int .u64) (.one (.int .u64))))) .nil)))
def saturateref13_mul.r : RCod (Int × Int) := .val (.agg (.cons (.int .u64) (.one (.int .u64))))
noncomputable def saturateref13_mul.cs : List (Kn Tryz.prog) := [saturateref01_Mask.c, saturateref13_Top.c]
def saturateref13_mul.live : Nat → Option Keep := liveOf [(6, ⟨[4, 5, 6], [4, 5, 6], [], [], []⟩)]
noncomputable def saturateref13_mul.body : Code := bodyOf Tryz.f174
noncomputable def saturateref13_mul.K (fu : Nat) : Code → St → (Ex → St → Option (Int × Int)) → Option (Int × Int) := codeK Tryz.prog (saturateref13_mul.cs) saturateref13_mul.live fu
noncomputable def saturateref13_mul.p3 (m fu : Nat) (c4_0 c4_1 c5_0 c5_1 : Int) : Option (Int × Int) :=
  joinK m (saturateref13_mul.K fu (sub saturateref13_mul.body [true, true])) (stOf 33 [(4, .ptr 4 0 0 0), (5, .ptr 5 0 0 0), (6, .ptr 6 0 0 0)] [(4, .own [.val (.int .u64 c4_0), .val (.int .u64 c4_1)]), (5, .own [.val (.int .u64 c5_0), .val (.int .u64 c5_1)]), (6, .own [.val (.int .u64 0), .val (.int .u64 0)])]) (retC Tryz.prog Tryz.f174.results saturateref13_mul.r.dec)
theorem saturateref13_mul.p3_eq (m fu : Nat) (c4_0 c4_1 c5_0 c5_1 : Int) : saturateref13_mul.p3 (m + 1) fu c4_0 c4_1 c5_0 c5_1 =
  some ((IntKind.u64.wrap (c4_0 * c5_0)), (IntKind.u64.wrap (c4_1 * c5_1))) := by kernel_rfl
noncomputable def saturateref13_mul.g (fu : Nat) (a0 : Int) (a1 : Int × Int) (a2 : Int × Int) : Option (Int × Int) :=
  bif (decide (a2.2 > 0)) then
    (saturateref01_Mask.f a0).bind fun r1 =>
    bif decide (a2.2 = 0) then
      none
    else
      bif (decide (a1.2 > (IntKind.u64.wrap (Int.tdiv r1 a2.2)))) then
        (saturateref13_Top.f a0).bind fun r2 =>
        some (r2.1, r2.2)
      else
        saturateref13_mul.p3 fu fu a1.1 a1.2 a2.1 a2.2
  else
    saturateref13_mul.p3 fu fu a1.1 a1.2 a2.1 a2.2
noncomputable def saturateref13_mul.f (a0 : Int) (a1 : Int × Int) (a2 : Int × Int) : Option (Int × Int) := saturateref13_mul.g (fuel0 + 1) a0 a1 a2
theorem saturateref13_mul.eq (fu : Nat) (a : Int × (Int × Int) × (Int × Int) × Unit) : bodyK Tryz.prog saturateref13_mul.cs saturateref13_mul.live fu Tryz.f174 (saturateref13_mul.a.enc a) saturateref13_mul.r.dec = saturateref13_mul.g fu a.1 a.2.1 a.2.2.1 := by kernel_rfl
theorem saturateref13_mul.con : ∀ (a : Int × (Int × Int) × (Int × Int) × Unit) (r : Int × Int), saturateref13_mul.f a.1 a.2.1 a.2.2.1 = some r → Contract Tryz.prog 174 (saturateref13_mul.a.enc a) (saturateref13_mul.r.enc r) := Contract.of_body (by kernel_rfl) (by kernel_rfl) mixed (saturateref13_mul.eq (fuel0 + 1))
noncomputable def saturateref13_mul.c : Kn Tryz.prog := Kn.of 174 saturateref13_mul.a saturateref13_mul.r (fun a => saturateref13_mul.f a.1 a.2.1 a.2.2.1) saturateref13_mul.con
def saturateref13_urem.a : ACods ((Int × Int) × (Int × Int) × Unit) := (.cons (.val (.agg (.cons (.int .u64) (.one (.int .u64))))) (.cons (.val (.agg (.cons (.int .u64) (.one (.int .u64))))) .nil))
def saturateref13_urem.r : RCod (Int × Int) := .val (.agg (.cons (.int .u64) (.one (.int .u64))))
noncomputable def saturateref13_urem.cs : List (Kn Tryz.prog) := []
def saturateref13_urem.live : Nat → Option Keep := liveOf []
noncomputable def saturateref13_urem.f (a0 : Int × Int) (a1 : Int × Int) : Option (Int × Int) :=
  bif (decide (a0.2 < a1.1)) then
    some (a0.1, a0.2)
  else
    bif (decide (a1.1 > 0)) then
      some (0, (mn a0.2 (IntKind.u64.wrap (a1.2 - 1))))
    else
      some (0, a0.2)
theorem saturateref13_urem.eq (fu : Nat) (a : (Int × Int) × (Int × Int) × Unit) : bodyK Tryz.prog saturateref13_urem.cs saturateref13_urem.live fu Tryz.f175 (saturateref13_urem.a.enc a) saturateref13_urem.r.dec = saturateref13_urem.f a.1 a.2.1 := by kernel_rfl
theorem saturateref13_urem.con : ∀ (a : (Int × Int) × (Int × Int) × Unit) (r : Int × Int), saturateref13_urem.f a.1 a.2.1 = some r → Contract Tryz.prog 175 (saturateref13_urem.a.enc a) (saturateref13_urem.r.enc r) := Contract.of_body (by kernel_rfl) (by kernel_rfl) mixed (saturateref13_urem.eq (fuel0 + 1))
noncomputable def saturateref13_urem.c : Kn Tryz.prog := Kn.of 175 saturateref13_urem.a saturateref13_urem.r (fun a => saturateref13_urem.f a.1 a.2.1) saturateref13_urem.con
def saturateref01_Shl.a : ACods (Int × Int × Int × Unit) := (.cons (.val (.int .i64)) (.cons (.val (.int .u64)) (.cons (.val (.int .u64)) .nil)))
def saturateref01_Shl.r : RCod (Int) := .val (.int .u64)
noncomputable def saturateref01_Shl.cs : List (Kn Tryz.prog) := [saturateref01_by.c, saturateref01_shift.c]
def saturateref01_Shl.live : Nat → Option Keep := liveOf []
noncomputable def saturateref01_Shl.f (a0 a1 a2 : Int) : Option (Int) :=
  (saturateref01_by.f a0 a2).bind fun r1 =>
  (saturateref01_shift.f a0 a1 (IntKind.i64.wrap (0 - r1)) 0).bind fun r2 =>
  some r2
theorem saturateref01_Shl.eq (fu : Nat) (a : Int × Int × Int × Unit) : bodyK Tryz.prog saturateref01_Shl.cs saturateref01_Shl.live fu Tryz.f198 (saturateref01_Shl.a.enc a) saturateref01_Shl.r.dec = saturateref01_Shl.f a.1 a.2.1 a.2.2.1 := by kernel_rfl
theorem saturateref01_Shl.con : ∀ (a : Int × Int × Int × Unit) (r : Int), saturateref01_Shl.f a.1 a.2.1 a.2.2.1 = some r → Contract Tryz.prog 198 (saturateref01_Shl.a.enc a) (saturateref01_Shl.r.enc r) := Contract.of_body (by kernel_rfl) (by kernel_rfl) mixed (saturateref01_Shl.eq (fuel0 + 1))
noncomputable def saturateref01_Shl.c : Kn Tryz.prog := Kn.of 198 saturateref01_Shl.a saturateref01_Shl.r (fun a => saturateref01_Shl.f a.1 a.2.1 a.2.2.1) saturateref01_Shl.con
def saturateref13_shl.a : ACods (Int × (Int × Int) × (Int × Int) × Unit) := (.cons (.val (.int .i64)) (.cons (.val (.agg (.cons (.int .u64) (.one (.int .u64))))) (.cons (.val (.agg (.cons (.int .u64) (.one (.int .u64))))) .nil)))
def saturateref13_shl.r : RCod (Int × Int) := .val (.agg (.cons (.int .u64) (.one (.int .u64))))
noncomputable def saturateref13_shl.cs : List (Kn Tryz.prog) := [saturateref13_Top.c, saturateref01_Mask.c, saturateref01_Lshr.c, saturateref01_Shl.c]
def saturateref13_shl.live : Nat → Option Keep := liveOf []
noncomputable def saturateref13_shl.f (a0 : Int) (a1 : Int × Int) (a2 : Int × Int) : Option (Int × Int) :=
  bif (a2.1 != a2.2) then
    (saturateref13_Top.f a0).bind fun r1 =>
    some (r1.1, r1.2)
  else
    bif (decide (a2.1 ≥ (IntKind.u64.wrap a0))) then
      some (0, 0)
    else
      (saturateref01_Mask.f a0).bind fun r2 =>
      (saturateref01_Lshr.f 64 r2 a2.1).bind fun r3 =>
      bif (decide (a1.2 > r3)) then
        (saturateref13_Top.f a0).bind fun r4 =>
        some (r4.1, r4.2)
      else
        (saturateref01_Shl.f a0 a1.1 a2.1).bind fun r5 =>
        (saturateref01_Shl.f a0 a1.2 a2.1).bind fun r6 =>
        some (r5, r6)
theorem saturateref13_shl.eq (fu : Nat) (a : Int × (Int × Int) × (Int × Int) × Unit) : bodyK Tryz.prog saturateref13_shl.cs saturateref13_shl.live fu Tryz.f176 (saturateref13_shl.a.enc a) saturateref13_shl.r.dec = saturateref13_shl.f a.1 a.2.1 a.2.2.1 := by kernel_rfl
theorem saturateref13_shl.con : ∀ (a : Int × (Int × Int) × (Int × Int) × Unit) (r : Int × Int), saturateref13_shl.f a.1 a.2.1 a.2.2.1 = some r → Contract Tryz.prog 176 (saturateref13_shl.a.enc a) (saturateref13_shl.r.enc r) := Contract.of_body (by kernel_rfl) (by kernel_rfl) mixed (saturateref13_shl.eq (fuel0 + 1))
noncomputable def saturateref13_shl.c : Kn Tryz.prog := Kn.of 176 saturateref13_shl.a saturateref13_shl.r (fun a => saturateref13_shl.f a.1 a.2.1 a.2.2.1) saturateref13_shl.con
def saturateref13_lshr.a : ACods (Int × (Int × Int) × (Int × Int) × Unit) := (.cons (.val (.int .i64)) (.cons (.val (.agg (.cons (.int .u64) (.one (.int .u64))))) (.cons (.val (.agg (.cons (.int .u64) (.one (.int .u64))))) .nil)))
def saturateref13_lshr.r : RCod (Int × Int) := .val (.agg (.cons (.int .u64) (.one (.int .u64))))
noncomputable def saturateref13_lshr.cs : List (Kn Tryz.prog) := [saturateref01_Lshr.c]
def saturateref13_lshr.live : Nat → Option Keep := liveOf []
noncomputable def saturateref13_lshr.f (a0 : Int) (a1 : Int × Int) (a2 : Int × Int) : Option (Int × Int) :=
  bif (a2.1 != a2.2) then
    some (0, a1.2)
  else
    (saturateref01_Lshr.f a0 a1.1 a2.1).bind fun r1 =>
    (saturateref01_Lshr.f a0 a1.2 a2.1).bind fun r2 =>
    some (r1, r2)
theorem saturateref13_lshr.eq (fu : Nat) (a : Int × (Int × Int) × (Int × Int) × Unit) : bodyK Tryz.prog saturateref13_lshr.cs saturateref13_lshr.live fu Tryz.f177 (saturateref13_lshr.a.enc a) saturateref13_lshr.r.dec = saturateref13_lshr.f a.1 a.2.1 a.2.2.1 := by kernel_rfl
theorem saturateref13_lshr.con : ∀ (a : Int × (Int × Int) × (Int × Int) × Unit) (r : Int × Int), saturateref13_lshr.f a.1 a.2.1 a.2.2.1 = some r → Contract Tryz.prog 177 (saturateref13_lshr.a.enc a) (saturateref13_lshr.r.enc r) := Contract.of_body (by kernel_rfl) (by kernel_rfl) mixed (saturateref13_lshr.eq (fuel0 + 1))
noncomputable def saturateref13_lshr.c : Kn Tryz.prog := Kn.of 177 saturateref13_lshr.a saturateref13_lshr.r (fun a => saturateref13_lshr.f a.1 a.2.1 a.2.2.1) saturateref13_lshr.con
def saturateref13_truth.a : ACods (Bool × Bool × Unit) := (.cons (.val (.bool)) (.cons (.val (.bool)) .nil))
def saturateref13_truth.r : RCod (Int × Int) := .val (.agg (.cons (.int .u64) (.one (.int .u64))))
noncomputable def saturateref13_truth.cs : List (Kn Tryz.prog) := []
def saturateref13_truth.live : Nat → Option Keep := liveOf []
noncomputable def saturateref13_truth.f (a0 : Bool) (a1 : Bool) : Option (Int × Int) :=
  bif a0 then
    some (1, 1)
  else
    bif a1 then
      some (0, 0)
    else
      some (0, 1)
theorem saturateref13_truth.eq (fu : Nat) (a : Bool × Bool × Unit) : bodyK Tryz.prog saturateref13_truth.cs saturateref13_truth.live fu Tryz.f178 (saturateref13_truth.a.enc a) saturateref13_truth.r.dec = saturateref13_truth.f a.1 a.2.1 := by kernel_rfl
theorem saturateref13_truth.con : ∀ (a : Bool × Bool × Unit) (r : Int × Int), saturateref13_truth.f a.1 a.2.1 = some r → Contract Tryz.prog 178 (saturateref13_truth.a.enc a) (saturateref13_truth.r.enc r) := Contract.of_body (by kernel_rfl) (by kernel_rfl) mixed (saturateref13_truth.eq (fuel0 + 1))
noncomputable def saturateref13_truth.c : Kn Tryz.prog := Kn.of 178 saturateref13_truth.a saturateref13_truth.r (fun a => saturateref13_truth.f a.1 a.2.1) saturateref13_truth.con
def saturateref13_ult.a : ACods ((Int × Int) × (Int × Int) × Unit) := (.cons (.val (.agg (.cons (.int .u64) (.one (.int .u64))))) (.cons (.val (.agg (.cons (.int .u64) (.one (.int .u64))))) .nil))
def saturateref13_ult.r : RCod (Int × Int) := .val (.agg (.cons (.int .u64) (.one (.int .u64))))
noncomputable def saturateref13_ult.cs : List (Kn Tryz.prog) := [saturateref13_truth.c]
def saturateref13_ult.live : Nat → Option Keep := liveOf []
noncomputable def saturateref13_ult.f (a0 : Int × Int) (a1 : Int × Int) : Option (Int × Int) :=
  (saturateref13_truth.f (decide (a0.2 < a1.1)) (decide (a0.1 ≥ a1.2))).bind fun r1 =>
  some (r1.1, r1.2)
theorem saturateref13_ult.eq (fu : Nat) (a : (Int × Int) × (Int × Int) × Unit) : bodyK Tryz.prog saturateref13_ult.cs saturateref13_ult.live fu Tryz.f179 (saturateref13_ult.a.enc a) saturateref13_ult.r.dec = saturateref13_ult.f a.1 a.2.1 := by kernel_rfl
theorem saturateref13_ult.con : ∀ (a : (Int × Int) × (Int × Int) × Unit) (r : Int × Int), saturateref13_ult.f a.1 a.2.1 = some r → Contract Tryz.prog 179 (saturateref13_ult.a.enc a) (saturateref13_ult.r.enc r) := Contract.of_body (by kernel_rfl) (by kernel_rfl) mixed (saturateref13_ult.eq (fuel0 + 1))
noncomputable def saturateref13_ult.c : Kn Tryz.prog := Kn.of 179 saturateref13_ult.a saturateref13_ult.r (fun a => saturateref13_ult.f a.1 a.2.1) saturateref13_ult.con
def saturateref13_slt.a : ACods (Int × (Int × Int) × (Int × Int) × Unit) := (.cons (.val (.int .i64)) (.cons (.val (.agg (.cons (.int .u64) (.one (.int .u64))))) (.cons (.val (.agg (.cons (.int .u64) (.one (.int .u64))))) .nil)))
def saturateref13_slt.r : RCod (Int × Int) := .val (.agg (.cons (.int .u64) (.one (.int .u64))))
noncomputable def saturateref13_slt.cs : List (Kn Tryz.prog) := [saturateref13_half.c, saturateref13_ult.c]
def saturateref13_slt.live : Nat → Option Keep := liveOf [(8, ⟨[6], [6], [], [], []⟩)]
noncomputable def saturateref13_slt.body : Code := bodyOf Tryz.f180
noncomputable def saturateref13_slt.K (fu : Nat) : Code → St → (Ex → St → Option (Int × Int)) → Option (Int × Int) := codeK Tryz.prog (saturateref13_slt.cs) saturateref13_slt.live fu
noncomputable def saturateref13_slt.p4 (m fu : Nat) : Option (Int × Int) :=
  joinK m (saturateref13_slt.K fu (sub saturateref13_slt.body [true, true, true])) (stOf 36 [(6, .ptr 6 0 0 0)] [(6, .own [.val (.int .u64 0), .val (.int .u64 0)])]) (retC Tryz.prog Tryz.f180.results saturateref13_slt.r.dec)
theorem saturateref13_slt.p4_eq (m fu : Nat) : saturateref13_slt.p4 (m + 1) fu =
  some (0, 1) := by kernel_rfl
noncomputable def saturateref13_slt.g (fu : Nat) (a0 : Int) (a1 : Int × Int) (a2 : Int × Int) : Option (Int × Int) :=
  (saturateref13_half.f a0).bind fun r1 =>
  bif (decide (a1.2 < r1)) then
    bif (decide (a2.2 < r1)) then
      (saturateref13_ult.f (a1.1, a1.2) (a2.1, a2.2)).bind fun r2 =>
      some (r2.1, r2.2)
    else
      bif (decide (a1.1 ≥ r1)) then
        bif (decide (a2.1 ≥ r1)) then
          (saturateref13_ult.f (a1.1, a1.2) (a2.1, a2.2)).bind fun r3 =>
          some (r3.1, r3.2)
        else
          saturateref13_slt.p4 fu fu
      else
        saturateref13_slt.p4 fu fu
  else
    bif (decide (a1.1 ≥ r1)) then
      bif (decide (a2.1 ≥ r1)) then
        (saturateref13_ult.f (a1.1, a1.2) (a2.1, a2.2)).bind fun r4 =>
        some (r4.1, r4.2)
      else
        saturateref13_slt.p4 fu fu
    else
      saturateref13_slt.p4 fu fu
noncomputable def saturateref13_slt.f (a0 : Int) (a1 : Int × Int) (a2 : Int × Int) : Option (Int × Int) := saturateref13_slt.g (fuel0 + 1) a0 a1 a2
theorem saturateref13_slt.eq (fu : Nat) (a : Int × (Int × Int) × (Int × Int) × Unit) : bodyK Tryz.prog saturateref13_slt.cs saturateref13_slt.live fu Tryz.f180 (saturateref13_slt.a.enc a) saturateref13_slt.r.dec = saturateref13_slt.g fu a.1 a.2.1 a.2.2.1 := by kernel_rfl
theorem saturateref13_slt.con : ∀ (a : Int × (Int × Int) × (Int × Int) × Unit) (r : Int × Int), saturateref13_slt.f a.1 a.2.1 a.2.2.1 = some r → Contract Tryz.prog 180 (saturateref13_slt.a.enc a) (saturateref13_slt.r.enc r) := Contract.of_body (by kernel_rfl) (by kernel_rfl) mixed (saturateref13_slt.eq (fuel0 + 1))
noncomputable def saturateref13_slt.c : Kn Tryz.prog := Kn.of 180 saturateref13_slt.a saturateref13_slt.r (fun a => saturateref13_slt.f a.1 a.2.1 a.2.2.1) saturateref13_slt.con
def saturateref13_two.a : ACods (Int × Int × Int × (Int × Int) × (Int × Int) × Unit) := (.cons (.val (.int .i64)) (.cons (.val (.int .i64)) (.cons (.val (.int .i64)) (.cons (.val (.agg (.cons (.int .u64) (.one (.int .u64))))) (.cons (.val (.agg (.cons (.int .u64) (.one (.int .u64))))) .nil)))))
def saturateref13_two.r : RCod (Int × Int) := .val (.agg (.cons (.int .u64) (.one (.int .u64))))
noncomputable def saturateref13_two.cs : List (Kn Tryz.prog) := [saturateref13_Fill.c, saturateref13_add.c, saturateref13_sub.c, saturateref13_mul.c, saturateref13_Top.c, saturateref13_urem.c, saturateref13_shl.c, saturateref13_lshr.c, saturateref13_half.c, saturateref13_truth.c, saturateref13_ult.c, saturateref13_slt.c]
def saturateref13_two.live : Nat → Option Keep := liveOf []
noncomputable def saturateref13_two.f (a0 a1 a2 : Int) (a3 : Int × Int) (a4 : Int × Int) : Option (Int × Int) :=
  bif (a0 == 5) then
    some (0, (mn a3.2 a4.2))
  else
    bif (a0 == 6) then
      (saturateref13_Fill.f (Go.bits .or .u64 a3.2 a4.2)).bind fun r1 =>
      some ((mx a3.1 a4.1), r1)
    else
      bif (a0 == 7) then
        (saturateref13_Fill.f (Go.bits .or .u64 a3.2 a4.2)).bind fun r2 =>
        some (0, r2)
      else
        bif (a0 == 8) then
          (saturateref13_add.f a1 (a3.1, a3.2) (a4.1, a4.2)).bind fun r3 =>
          some (r3.1, r3.2)
        else
          bif (a0 == 9) then
            (saturateref13_sub.f a1 (a3.1, a3.2) (a4.1, a4.2)).bind fun r4 =>
            some (r4.1, r4.2)
          else
            bif (a0 == 10) then
              (saturateref13_mul.f a1 (a3.1, a3.2) (a4.1, a4.2)).bind fun r5 =>
              some (r5.1, r5.2)
            else
              bif (a0 == 11) then
                bif (a4.1 == 0) then
                  (saturateref13_Top.f a1).bind fun r6 =>
                  some (r6.1, r6.2)
                else
                  bif decide (a4.2 = 0) then
                    none
                  else
                    bif decide (a4.1 = 0) then
                      none
                    else
                      some ((IntKind.u64.wrap (Int.tdiv a3.1 a4.2)), (IntKind.u64.wrap (Int.tdiv a3.2 a4.1)))
              else
                bif (a0 == 12) then
                  (saturateref13_urem.f (a3.1, a3.2) (a4.1, a4.2)).bind fun r7 =>
                  some (r7.1, r7.2)
                else
                  bif (a0 == 13) then
                    (saturateref13_shl.f a1 (a3.1, a3.2) (a4.1, a4.2)).bind fun r8 =>
                    some (r8.1, r8.2)
                  else
                    bif (a0 == 14) then
                      (saturateref13_lshr.f a1 (a3.1, a3.2) (a4.1, a4.2)).bind fun r9 =>
                      some (r9.1, r9.2)
                    else
                      bif (a0 == 15) then
                        (saturateref13_half.f a1).bind fun r10 =>
                        bif (decide (a3.2 < r10)) then
                          (saturateref13_lshr.f a1 (a3.1, a3.2) (a4.1, a4.2)).bind fun r11 =>
                          some (r11.1, r11.2)
                        else
                          (saturateref13_Top.f a1).bind fun r12 =>
                          some (r12.1, r12.2)
                      else
                        bif (a0 == 16) then
                          bif (a3.1 == a3.2) then
                            bif (decide (a3.2 < a4.1)) then
                              (saturateref13_truth.f ((a3.1 == a4.1) && ((a3.2 == a4.2) && true)) true).bind fun r13 =>
                              some (r13.1, r13.2)
                            else
                              (saturateref13_truth.f ((a3.1 == a4.1) && ((a3.2 == a4.2) && true)) (decide (a4.2 < a3.1))).bind fun r14 =>
                              some (r14.1, r14.2)
                          else
                            bif (decide (a3.2 < a4.1)) then
                              (saturateref13_truth.f false true).bind fun r15 =>
                              some (r15.1, r15.2)
                            else
                              (saturateref13_truth.f false (decide (a4.2 < a3.1))).bind fun r16 =>
                              some (r16.1, r16.2)
                        else
                          bif (a0 == 17) then
                            (saturateref13_ult.f (a3.1, a3.2) (a4.1, a4.2)).bind fun r17 =>
                            some (r17.1, r17.2)
                          else
                            (saturateref13_slt.f a2 (a3.1, a3.2) (a4.1, a4.2)).bind fun r18 =>
                            some (r18.1, r18.2)
theorem saturateref13_two.eq (fu : Nat) (a : Int × Int × Int × (Int × Int) × (Int × Int) × Unit) : bodyK Tryz.prog saturateref13_two.cs saturateref13_two.live fu Tryz.f113 (saturateref13_two.a.enc a) saturateref13_two.r.dec = saturateref13_two.f a.1 a.2.1 a.2.2.1 a.2.2.2.1 a.2.2.2.2.1 := by kernel_rfl
theorem saturateref13_two.con : ∀ (a : Int × Int × Int × (Int × Int) × (Int × Int) × Unit) (r : Int × Int), saturateref13_two.f a.1 a.2.1 a.2.2.1 a.2.2.2.1 a.2.2.2.2.1 = some r → Contract Tryz.prog 113 (saturateref13_two.a.enc a) (saturateref13_two.r.enc r) := Contract.of_body (by kernel_rfl) (by kernel_rfl) mixed (saturateref13_two.eq (fuel0 + 1))
noncomputable def saturateref13_two.c : Kn Tryz.prog := Kn.of 113 saturateref13_two.a saturateref13_two.r (fun a => saturateref13_two.f a.1 a.2.1 a.2.2.1 a.2.2.2.1 a.2.2.2.2.1) saturateref13_two.con
def saturateref13_Apply.a : ACods (Int × Int × Int × (Nat × (Nat → Int)) × (Nat × (Nat → Int) × (Nat → Int)) × Unit) := (.cons (.val (.int .i64)) (.cons (.val (.int .i64)) (.cons (.val (.int .u64)) (.cons (.rows (.int1 .i64)) (.cons (.rows (.int .u64 (.int1 .u64))) .nil)))))
def saturateref13_Apply.r : RCod ((Int × Int) × Int) := .val (.tup (.cons (.agg (.cons (.int .u64) (.one (.int .u64)))) (.one (.int .i64))))
noncomputable def saturateref13_Apply.cs : List (Kn Tryz.prog) := [saturateref13_Refused.c, saturateref13_Of.c, saturateref01_Mask.c, saturateref13_Top.c, saturateref13_Const.c, saturateref13_neg.c, saturateref13_Join.c, saturateref01_Concat.c, saturateref13_extract.c, saturateref13_sext.c, saturateref13_two.c]
def saturateref13_Apply.live : Nat → Option Keep := liveOf [(13, ⟨[0, 2, 3, 4, 10, 12, 14, 15], [3, 4, 10, 14], [(14, 29, [.int .u64 (fun _ => 0), .int .u64 (fun _ => 0)])], [], []⟩)]
noncomputable def saturateref13_Apply.body : Code := bodyOf Tryz.f42
noncomputable def saturateref13_Apply.K (fu : Nat) : Code → St → (Ex → St → Option ((Int × Int) × Int)) → Option ((Int × Int) × Int) := codeK Tryz.prog (saturateref13_Apply.cs) saturateref13_Apply.live fu
noncomputable def saturateref13_Apply.j6 (fu n6 : Nat) (x0 x2 : Int) (x3n x4n : Nat) (x12 : Int) (x14n : Nat) (x15 : Int) (m3 : Nat) (g3_0 : Nat → Int) (m4 : Nat) (g4_0 g4_1 : Nat → Int) (c10_0 c10_1 : Int) (m14 : Nat) (g14_0 g14_1 : Nat → Int) : Option ((Int × Int) × Int) :=
  loopK (saturateref13_Apply.K fu (sub saturateref13_Apply.body [true, true, true, true, false, true, false, false])) (saturateref13_Apply.live 13) n6 (stOf 183 [(0, .val (.int .i64 x0)), (2, .val (.int .u64 x2)), (3, .sl 3 1 x3n), (4, .sl 4 2 x4n), (10, .ptr 10 0 0 0), (12, .val (.int .i64 x12)), (14, .sl 14 2 x14n), (15, .val (.int .i64 x15))] [(3, .ext m3 [.int .i64 g3_0]), (4, .ext m4 [.int .u64 g4_0, .int .u64 g4_1]), (10, .own [.val (.int .u64 c10_0), .val (.int .u64 c10_1)]), (14, .grow 29 m14 [.int .u64 g14_0, .int .u64 g14_1])]) (blockC 0 (seqC fu (saturateref13_Apply.live 18) (saturateref13_Apply.K fu (sub saturateref13_Apply.body [true, true, true, true, true])) (retC Tryz.prog Tryz.f42.results saturateref13_Apply.r.dec)))
noncomputable def saturateref13_Apply.g (fu : Nat) (a0 a1 a2 : Int) (a3 : Nat × (Nat → Int)) (a4 : Nat × (Nat → Int) × (Nat → Int)) : Option ((Int × Int) × Int) :=
  (saturateref13_Refused.f a0 a1 a2 (a3.1, a3.2) (a4.1 : Int)).bind fun r1 =>
  bif (r1.2 != 0) then
    some ((0, 0), r1.2)
  else
    saturateref13_Apply.j6 fu fu a0 a2 a3.1 a4.1 r1.1 0 0 a3.1 a3.2 a4.1 a4.2.1 a4.2.2 0 0 0 (fun i => [0].getD i 0) (fun i => [0].getD i 0)
noncomputable def saturateref13_Apply.f (a0 a1 a2 : Int) (a3 : Nat × (Nat → Int)) (a4 : Nat × (Nat → Int) × (Nat → Int)) : Option ((Int × Int) × Int) := saturateref13_Apply.g (fuel0 + 1) a0 a1 a2 a3 a4
theorem saturateref13_Apply.eq (fu : Nat) (a : Int × Int × Int × (Nat × (Nat → Int)) × (Nat × (Nat → Int) × (Nat → Int)) × Unit) : bodyK Tryz.prog saturateref13_Apply.cs saturateref13_Apply.live fu Tryz.f42 (saturateref13_Apply.a.enc a) saturateref13_Apply.r.dec = saturateref13_Apply.g fu a.1 a.2.1 a.2.2.1 a.2.2.2.1 a.2.2.2.2.1 := by kernel_rfl
theorem saturateref13_Apply.con : ∀ (a : Int × Int × Int × (Nat × (Nat → Int)) × (Nat × (Nat → Int) × (Nat → Int)) × Unit) (r : (Int × Int) × Int), saturateref13_Apply.f a.1 a.2.1 a.2.2.1 a.2.2.2.1 a.2.2.2.2.1 = some r → Contract Tryz.prog 42 (saturateref13_Apply.a.enc a) (saturateref13_Apply.r.enc r) := Contract.of_body (by kernel_rfl) (by kernel_rfl) mixed (saturateref13_Apply.eq (fuel0 + 1))
noncomputable def saturateref13_Apply.c : Kn Tryz.prog := Kn.of 42 saturateref13_Apply.a saturateref13_Apply.r (fun a => saturateref13_Apply.f a.1 a.2.1 a.2.2.1 a.2.2.2.1 a.2.2.2.2.1) saturateref13_Apply.con
def saturateref14_Apply.a : ACods (Int × Int × Int × (Nat × (Nat → Int) × (Nat → Int) × (Nat → Int) × (Nat → Int) × (Nat → Int)) × Unit) := (.cons (.val (.int .i64)) (.cons (.val (.int .i64)) (.cons (.val (.int .u64)) (.cons (.rows (.int .i64 (.int .u64 (.int .u64 (.int .u64 (.int1 .u64)))))) .nil))))
def saturateref14_Apply.r : RCod ((Int × Int × Int × Int × Int) × Int) := .val (.tup (.cons (.agg (.cons (.int .i64) (.cons (.int .u64) (.cons (.int .u64) (.cons (.int .u64) (.one (.int .u64))))))) (.one (.int .i64))))
noncomputable def saturateref14_Apply.cs : List (Kn Tryz.prog) := [saturateref14_Norm.c, saturateref12_Refused.c, saturateref12_Apply.c, saturateref13_Apply.c, saturateref14_Reduce.c]
def saturateref14_Apply.live : Nat → Option Keep := liveOf [(11, ⟨[0, 1, 2, 3, 8, 10, 11, 12, 13], [3, 8, 10, 11, 12], [(10, 3, [.int .i64 (fun _ => 0)]), (11, 27, [.int .u64 (fun _ => 0), .int .u64 (fun _ => 0)]), (12, 29, [.int .u64 (fun _ => 0), .int .u64 (fun _ => 0)])], [], []⟩)]
noncomputable def saturateref14_Apply.body : Code := bodyOf Tryz.f11
noncomputable def saturateref14_Apply.K (fu : Nat) : Code → St → (Ex → St → Option ((Int × Int × Int × Int × Int) × Int)) → Option ((Int × Int × Int × Int × Int) × Int) := codeK Tryz.prog (saturateref14_Apply.cs) saturateref14_Apply.live fu
noncomputable def saturateref14_Apply.j5 (fu n5 : Nat) (x0 x1 x2 : Int) (x3n x10n x11n x12n : Nat) (x13 : Int) (m3 : Nat) (g3_0 g3_1 g3_2 g3_3 g3_4 : Nat → Int) (c8_0 c8_1 c8_2 c8_3 c8_4 : Int) (m10 : Nat) (g10_0 : Nat → Int) (m11 : Nat) (g11_0 g11_1 : Nat → Int) (m12 : Nat) (g12_0 g12_1 : Nat → Int) : Option ((Int × Int × Int × Int × Int) × Int) :=
  loopK (saturateref14_Apply.K fu (sub saturateref14_Apply.body [true, true, true, true, false, true, false, false])) (saturateref14_Apply.live 11) n5 (stOf 90 [(0, .val (.int .i64 x0)), (1, .val (.int .i64 x1)), (2, .val (.int .u64 x2)), (3, .sl 3 5 x3n), (8, .ptr 8 0 0 0), (10, .sl 10 1 x10n), (11, .sl 11 2 x11n), (12, .sl 12 2 x12n), (13, .val (.int .i64 x13))] [(3, .ext m3 [.int .i64 g3_0, .int .u64 g3_1, .int .u64 g3_2, .int .u64 g3_3, .int .u64 g3_4]), (8, .own [.val (.int .i64 c8_0), .val (.int .u64 c8_1), .val (.int .u64 c8_2), .val (.int .u64 c8_3), .val (.int .u64 c8_4)]), (10, .grow 3 m10 [.int .i64 g10_0]), (11, .grow 27 m11 [.int .u64 g11_0, .int .u64 g11_1]), (12, .grow 29 m12 [.int .u64 g12_0, .int .u64 g12_1])]) (blockC 0 (seqC fu (saturateref14_Apply.live 22) (saturateref14_Apply.K fu (sub saturateref14_Apply.body [true, true, true, true, true])) (retC Tryz.prog Tryz.f11.results saturateref14_Apply.r.dec)))
theorem saturateref14_Apply.j5_succ (fu n5 : Nat) (x0 x1 x2 : Int) (x3n x10n x11n x12n : Nat) (x13 : Int) (m3 : Nat) (g3_0 g3_1 g3_2 g3_3 g3_4 : Nat → Int) (c8_0 c8_1 c8_2 c8_3 c8_4 : Int) (m10 : Nat) (g10_0 : Nat → Int) (m11 : Nat) (g11_0 g11_1 : Nat → Int) (m12 : Nat) (g12_0 g12_1 : Nat → Int) : saturateref14_Apply.j5 fu (n5 + 1) x0 x1 x2 x3n x10n x11n x12n x13 m3 g3_0 g3_1 g3_2 g3_3 g3_4 c8_0 c8_1 c8_2 c8_3 c8_4 m10 g10_0 m11 g11_0 g11_1 m12 g12_0 g12_1 =
  bif (decide (x13 < (x3n : Int))) then
    bif decide (0 ≤ x13) then
      bif decide (x13 < (x3n : Int)) then
        (saturateref14_Norm.f ((g3_0 x13.toNat), (g3_1 x13.toNat), (g3_2 x13.toNat), (g3_3 x13.toNat), (g3_4 x13.toNat))).bind fun r1 =>
        bif Nat.ble ((x10n + 1) * 8) 140737488355328 then
          bif Nat.ble ((x11n + 1) * 16) 140737488355328 then
            bif Nat.ble ((x12n + 1) * 16) 140737488355328 then
              saturateref14_Apply.j5 fu n5 x0 x1 x2 x3n (x10n + 1) (x11n + 1) (x12n + 1) (IntKind.i64.wrap (x13 + 1)) m3 g3_0 g3_1 g3_2 g3_3 g3_4 c8_0 c8_1 c8_2 c8_3 c8_4 (x10n + 1) (cat x10n g10_0 (fun i => [r1.1].getD i 0)) (x11n + 1) (cat x11n g11_0 (fun i => [r1.2.1].getD i 0)) (cat x11n g11_1 (fun i => [r1.2.2.1].getD i 0)) (x12n + 1) (cat x12n g12_0 (fun i => [r1.2.2.2.1].getD i 0)) (cat x12n g12_1 (fun i => [r1.2.2.2.2].getD i 0))
            else
              none
          else
            none
        else
          none
      else
        none
    else
      none
  else
    (saturateref12_Refused.f x0 x1 x2 (x10n, g10_0) (x3n : Int)).bind fun r2 =>
    bif (r2.2 != 0) then
      some ((0, 0, 0, 0, 0), r2.2)
    else
      (saturateref12_Apply.f x0 x1 x2 (x10n, g10_0) (x11n, g11_0, g11_1)).bind fun r3 =>
      (saturateref13_Apply.f x0 x1 x2 (x10n, g10_0) (x12n, g12_0, g12_1)).bind fun r4 =>
      (saturateref14_Reduce.f (r2.1, r3.1.1, r3.1.2, r4.1.1, r4.1.2)).bind fun r5 =>
      some ((r5.1.1, r5.1.2.1, r5.1.2.2.1, r5.1.2.2.2.1, r5.1.2.2.2.2), 0) := by kernel_rfl
noncomputable def saturateref14_Apply.g (fu : Nat) (a0 a1 a2 : Int) (a3 : Nat × (Nat → Int) × (Nat → Int) × (Nat → Int) × (Nat → Int) × (Nat → Int)) : Option ((Int × Int × Int × Int × Int) × Int) :=
  saturateref14_Apply.j5 fu fu a0 a1 a2 a3.1 0 0 0 0 a3.1 a3.2.1 a3.2.2.1 a3.2.2.2.1 a3.2.2.2.2.1 a3.2.2.2.2.2 0 0 0 0 0 0 (fun _ => 0) 0 (fun _ => 0) (fun _ => 0) 0 (fun _ => 0) (fun _ => 0)
noncomputable def saturateref14_Apply.f (a0 a1 a2 : Int) (a3 : Nat × (Nat → Int) × (Nat → Int) × (Nat → Int) × (Nat → Int) × (Nat → Int)) : Option ((Int × Int × Int × Int × Int) × Int) := saturateref14_Apply.g (fuel0 + 1) a0 a1 a2 a3
theorem saturateref14_Apply.eq (fu : Nat) (a : Int × Int × Int × (Nat × (Nat → Int) × (Nat → Int) × (Nat → Int) × (Nat → Int) × (Nat → Int)) × Unit) : bodyK Tryz.prog saturateref14_Apply.cs saturateref14_Apply.live fu Tryz.f11 (saturateref14_Apply.a.enc a) saturateref14_Apply.r.dec = saturateref14_Apply.g fu a.1 a.2.1 a.2.2.1 a.2.2.2.1 := by kernel_rfl
theorem saturateref14_Apply.con : ∀ (a : Int × Int × Int × (Nat × (Nat → Int) × (Nat → Int) × (Nat → Int) × (Nat → Int) × (Nat → Int)) × Unit) (r : (Int × Int × Int × Int × Int) × Int), saturateref14_Apply.f a.1 a.2.1 a.2.2.1 a.2.2.2.1 = some r → Contract Tryz.prog 11 (saturateref14_Apply.a.enc a) (saturateref14_Apply.r.enc r) := Contract.of_body (by kernel_rfl) (by kernel_rfl) mixed (saturateref14_Apply.eq (fuel0 + 1))
noncomputable def saturateref14_Apply.c : Kn Tryz.prog := Kn.of 11 saturateref14_Apply.a saturateref14_Apply.r (fun a => saturateref14_Apply.f a.1 a.2.1 a.2.2.1 a.2.2.2.1) saturateref14_Apply.con
end Go.Proofs.YtcihbcffokjgjaaGreat.Fn
