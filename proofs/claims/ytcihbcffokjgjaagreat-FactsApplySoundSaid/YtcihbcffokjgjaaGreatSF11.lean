/- What the functions return, as the evaluator tells it: written by a program of this workplace (mev.py); Lean checks each equation. What the functions return, as the evaluator tells it: written by a program of this workplace (mev.py); Lean checks each equation. -/
import Derived.Test.YtcihbcffokjgjaaGreatProg
import Derived.Test.YtcihbcffokjgjaaGreatSEvC
import Derived.Test.YtcihbcffokjgjaaGreatSF0
import Derived.Test.YtcihbcffokjgjaaGreatSF7
import Derived.Test.YtcihbcffokjgjaaGreatSF9
import Derived.Test.YtcihbcffokjgjaaGreatSF3
namespace Go.Proofs.YtcihbcffokjgjaaGreat.Fn
open Go Go.RowKit Go.Proofs.YtcihbcffokjgjaaGreat.Ev Go.Proofs
set_option linter.unusedVariables false
set_option maxRecDepth 100000
/-! ### saturateref12_moved: function 220 -/
/-! ### saturateref12_shifted: function 165 -/
/-! ### saturateref12_equal: function 166 -/
/-! ### saturateref01_divide: function 229 -/
def saturateref01_divide.a : ACods (Int × Int × Unit) := (.cons (.val (.int .u64)) (.cons (.val (.int .u64)) .nil))
def saturateref01_divide.r : RCod (Int × Int) := .val (.tup (.cons (.int .u64) (.one (.int .u64))))
noncomputable def saturateref01_divide.cs : List (Kn Tryz.prog) := [saturateref01_Bit.c]
def saturateref01_divide.live : Nat → Option Keep := liveOf [(7, ⟨[0, 1, 6, 7, 8], [], [], [], []⟩), (8, ⟨[0, 1, 6, 7, 8], [], [], [], []⟩)]
noncomputable def saturateref01_divide.body : Code := bodyOf Tryz.f229
noncomputable def saturateref01_divide.K (fu : Nat) : Code → St → (Ex → St → Option (Int × Int)) → Option (Int × Int) := codeK Tryz.prog (saturateref01_divide.cs) saturateref01_divide.live fu
noncomputable def saturateref01_divide.j3 (fu n3 : Nat) (x0 x1 x6 x7 x8 : Int) : Option (Int × Int) :=
  loopK (saturateref01_divide.K fu (sub saturateref01_divide.body [true, true, false, true, false, false])) (saturateref01_divide.live 7) n3 (stOf 39 [(0, .val (.int .u64 x0)), (1, .val (.int .u64 x1)), (6, .val (.int .u64 x6)), (7, .val (.int .u64 x7)), (8, .val (.int .i64 x8))] []) (blockC 0 (seqC fu (saturateref01_divide.live 20) (saturateref01_divide.K fu (sub saturateref01_divide.body [true, true, true])) (retC Tryz.prog Tryz.f229.results saturateref01_divide.r.dec)))
noncomputable def saturateref01_divide.p4 (m fu : Nat) (n3 : Nat) (x0 x1 x6 x7 x8 : Int) : Option (Int × Int) :=
  joinK m (saturateref01_divide.K fu (sub saturateref01_divide.body [true, true, false, true, false, false, true, true])) (stOf 39 [(0, .val (.int .u64 x0)), (1, .val (.int .u64 x1)), (6, .val (.int .u64 x6)), (7, .val (.int .u64 x7)), (8, .val (.int .i64 x8))] []) (roundC (saturateref01_divide.live 7) (loopK (saturateref01_divide.K fu (sub saturateref01_divide.body [true, true, false, true, false, false])) (saturateref01_divide.live 7) n3) (blockC 0 (seqC fu (saturateref01_divide.live 20) (saturateref01_divide.K fu (sub saturateref01_divide.body [true, true, true])) (retC Tryz.prog Tryz.f229.results saturateref01_divide.r.dec))))
theorem saturateref01_divide.p4_eq (m fu : Nat) (n3 : Nat) (x0 x1 x6 x7 x8 : Int) : saturateref01_divide.p4 (m + 1) fu n3 x0 x1 x6 x7 x8 =
  saturateref01_divide.j3 fu n3 x0 x1 x6 x7 (IntKind.i64.wrap (x8 - 1)) := by kernel_rfl
theorem saturateref01_divide.j3_succ (fu n3 : Nat) (x0 x1 x6 x7 x8 : Int) : saturateref01_divide.j3 fu (n3 + 1) x0 x1 x6 x7 x8 =
  bif (decide (x8 ≥ 0)) then
    (saturateref01_Bit.f x7 63).bind fun r1 =>
    (saturateref01_Bit.f x0 x8).bind fun r2 =>
    bif (r1 == 1) then
      bif decide ((IntKind.u64.wrap x8) < 0) then
        none
      else
        saturateref01_divide.p4 fu fu n3 x0 x1 (Go.bits .or .u64 x6 (shl .u64 1 (IntKind.u64.wrap x8))) (IntKind.u64.wrap ((IntKind.u64.wrap ((IntKind.u64.wrap (x7 * 2)) + r2)) - x1)) x8
    else
      bif (decide ((IntKind.u64.wrap ((IntKind.u64.wrap (x7 * 2)) + r2)) ≥ x1)) then
        bif decide ((IntKind.u64.wrap x8) < 0) then
          none
        else
          saturateref01_divide.p4 fu fu n3 x0 x1 (Go.bits .or .u64 x6 (shl .u64 1 (IntKind.u64.wrap x8))) (IntKind.u64.wrap ((IntKind.u64.wrap ((IntKind.u64.wrap (x7 * 2)) + r2)) - x1)) x8
      else
        saturateref01_divide.p4 fu fu n3 x0 x1 x6 (IntKind.u64.wrap ((IntKind.u64.wrap (x7 * 2)) + r2)) x8
  else
    some (x6, x7) := by kernel_rfl
noncomputable def saturateref01_divide.g (fu : Nat) (a0 a1 : Int) : Option (Int × Int) :=
  saturateref01_divide.j3 fu fu a0 a1 0 0 63
noncomputable def saturateref01_divide.f (a0 a1 : Int) : Option (Int × Int) := saturateref01_divide.g (fuel0 + 1) a0 a1
theorem saturateref01_divide.eq (fu : Nat) (a : Int × Int × Unit) : bodyK Tryz.prog saturateref01_divide.cs saturateref01_divide.live fu Tryz.f229 (saturateref01_divide.a.enc a) saturateref01_divide.r.dec = saturateref01_divide.g fu a.1 a.2.1 := by kernel_rfl
theorem saturateref01_divide.con : ∀ (a : Int × Int × Unit) (r : Int × Int), saturateref01_divide.f a.1 a.2.1 = some r → Contract Tryz.prog 229 (saturateref01_divide.a.enc a) (saturateref01_divide.r.enc r) := Contract.of_body (F := fun (a : Int × Int × Unit) => saturateref01_divide.f a.1 a.2.1) (fn := Tryz.f229) (cs := saturateref01_divide.cs) (live := saturateref01_divide.live) (fuel := fuel0 + 1) (by kernel_rfl) (by kernel_rfl) mixed (saturateref01_divide.eq (fuel0 + 1))
noncomputable def saturateref01_divide.c : Kn Tryz.prog := Kn.of 229 saturateref01_divide.a saturateref01_divide.r (fun a => saturateref01_divide.f a.1 a.2.1) saturateref01_divide.con

/-! ### saturateref01_Udiv: function 196 -/
def saturateref01_Udiv.a : ACods (Int × Int × Int × Unit) := (.cons (.val (.int .i64)) (.cons (.val (.int .u64)) (.cons (.val (.int .u64)) .nil)))
def saturateref01_Udiv.r : RCod (Int) := .val (.int .u64)
noncomputable def saturateref01_Udiv.cs : List (Kn Tryz.prog) := [saturateref01_Cut.c, saturateref01_Mask.c, saturateref01_divide.c]
def saturateref01_Udiv.live : Nat → Option Keep := liveOf []
noncomputable def saturateref01_Udiv.f (a0 a1 a2 : Int) : Option (Int) :=
  (saturateref01_Cut.f a0 a2).bind fun r1 =>
  bif (r1 == 0) then
    (saturateref01_Mask.f a0).bind fun r2 =>
    some r2
  else
    (saturateref01_Cut.f a0 a1).bind fun r3 =>
    (saturateref01_Cut.f a0 a2).bind fun r4 =>
    (saturateref01_divide.f r3 r4).bind fun r5 =>
    some r5.1
theorem saturateref01_Udiv.eq (fu : Nat) (a : Int × Int × Int × Unit) : bodyK Tryz.prog saturateref01_Udiv.cs saturateref01_Udiv.live fu Tryz.f196 (saturateref01_Udiv.a.enc a) saturateref01_Udiv.r.dec = saturateref01_Udiv.f a.1 a.2.1 a.2.2.1 := by kernel_rfl
theorem saturateref01_Udiv.con : ∀ (a : Int × Int × Int × Unit) (r : Int), saturateref01_Udiv.f a.1 a.2.1 a.2.2.1 = some r → Contract Tryz.prog 196 (saturateref01_Udiv.a.enc a) (saturateref01_Udiv.r.enc r) := Contract.of_body (F := fun (a : Int × Int × Int × Unit) => saturateref01_Udiv.f a.1 a.2.1 a.2.2.1) (fn := Tryz.f196) (cs := saturateref01_Udiv.cs) (live := saturateref01_Udiv.live) (fuel := fuel0 + 1) (by kernel_rfl) (by kernel_rfl) mixed (saturateref01_Udiv.eq (fuel0 + 1))
noncomputable def saturateref01_Udiv.c : Kn Tryz.prog := Kn.of 196 saturateref01_Udiv.a saturateref01_Udiv.r (fun a => saturateref01_Udiv.f a.1 a.2.1 a.2.2.1) saturateref01_Udiv.con

/-! ### saturateref01_Urem: function 197 -/
def saturateref01_Urem.a : ACods (Int × Int × Int × Unit) := (.cons (.val (.int .i64)) (.cons (.val (.int .u64)) (.cons (.val (.int .u64)) .nil)))
def saturateref01_Urem.r : RCod (Int) := .val (.int .u64)
noncomputable def saturateref01_Urem.cs : List (Kn Tryz.prog) := [saturateref01_Cut.c, saturateref01_divide.c]
def saturateref01_Urem.live : Nat → Option Keep := liveOf []
noncomputable def saturateref01_Urem.f (a0 a1 a2 : Int) : Option (Int) :=
  (saturateref01_Cut.f a0 a2).bind fun r1 =>
  bif (r1 == 0) then
    (saturateref01_Cut.f a0 a1).bind fun r2 =>
    some r2
  else
    (saturateref01_Cut.f a0 a1).bind fun r3 =>
    (saturateref01_Cut.f a0 a2).bind fun r4 =>
    (saturateref01_divide.f r3 r4).bind fun r5 =>
    some r5.2
theorem saturateref01_Urem.eq (fu : Nat) (a : Int × Int × Int × Unit) : bodyK Tryz.prog saturateref01_Urem.cs saturateref01_Urem.live fu Tryz.f197 (saturateref01_Urem.a.enc a) saturateref01_Urem.r.dec = saturateref01_Urem.f a.1 a.2.1 a.2.2.1 := by kernel_rfl
theorem saturateref01_Urem.con : ∀ (a : Int × Int × Int × Unit) (r : Int), saturateref01_Urem.f a.1 a.2.1 a.2.2.1 = some r → Contract Tryz.prog 197 (saturateref01_Urem.a.enc a) (saturateref01_Urem.r.enc r) := Contract.of_body (F := fun (a : Int × Int × Int × Unit) => saturateref01_Urem.f a.1 a.2.1 a.2.2.1) (fn := Tryz.f197) (cs := saturateref01_Urem.cs) (live := saturateref01_Urem.live) (fuel := fuel0 + 1) (by kernel_rfl) (by kernel_rfl) mixed (saturateref01_Urem.eq (fuel0 + 1))
noncomputable def saturateref01_Urem.c : Kn Tryz.prog := Kn.of 197 saturateref01_Urem.a saturateref01_Urem.r (fun a => saturateref01_Urem.f a.1 a.2.1 a.2.2.1) saturateref01_Urem.con

/-! ### saturateref01_truth: function 230 -/
def saturateref01_truth.a : ACods (Bool × Unit) := (.cons (.val (.bool)) .nil)
def saturateref01_truth.r : RCod (Int) := .val (.int .u64)
noncomputable def saturateref01_truth.cs : List (Kn Tryz.prog) := []
def saturateref01_truth.live : Nat → Option Keep := liveOf []
noncomputable def saturateref01_truth.f (a0 : Bool) : Option (Int) :=
  bif a0 then
    some 1
  else
    some 0
theorem saturateref01_truth.eq (fu : Nat) (a : Bool × Unit) : bodyK Tryz.prog saturateref01_truth.cs saturateref01_truth.live fu Tryz.f230 (saturateref01_truth.a.enc a) saturateref01_truth.r.dec = saturateref01_truth.f a.1 := by kernel_rfl
theorem saturateref01_truth.con : ∀ (a : Bool × Unit) (r : Int), saturateref01_truth.f a.1 = some r → Contract Tryz.prog 230 (saturateref01_truth.a.enc a) (saturateref01_truth.r.enc r) := Contract.of_body (F := fun (a : Bool × Unit) => saturateref01_truth.f a.1) (fn := Tryz.f230) (cs := saturateref01_truth.cs) (live := saturateref01_truth.live) (fuel := fuel0 + 1) (by kernel_rfl) (by kernel_rfl) mixed (saturateref01_truth.eq (fuel0 + 1))
noncomputable def saturateref01_truth.c : Kn Tryz.prog := Kn.of 230 saturateref01_truth.a saturateref01_truth.r (fun a => saturateref01_truth.f a.1) saturateref01_truth.con

/-! ### saturateref01_Ult: function 201 -/
def saturateref01_Ult.a : ACods (Int × Int × Int × Unit) := (.cons (.val (.int .i64)) (.cons (.val (.int .u64)) (.cons (.val (.int .u64)) .nil)))
def saturateref01_Ult.r : RCod (Int) := .val (.int .u64)
noncomputable def saturateref01_Ult.cs : List (Kn Tryz.prog) := [saturateref01_Cut.c, saturateref01_truth.c]
def saturateref01_Ult.live : Nat → Option Keep := liveOf []
noncomputable def saturateref01_Ult.f (a0 a1 a2 : Int) : Option (Int) :=
  (saturateref01_Cut.f a0 a1).bind fun r1 =>
  (saturateref01_Cut.f a0 a2).bind fun r2 =>
  (saturateref01_truth.f (decide (r1 < r2))).bind fun r3 =>
  some r3
theorem saturateref01_Ult.eq (fu : Nat) (a : Int × Int × Int × Unit) : bodyK Tryz.prog saturateref01_Ult.cs saturateref01_Ult.live fu Tryz.f201 (saturateref01_Ult.a.enc a) saturateref01_Ult.r.dec = saturateref01_Ult.f a.1 a.2.1 a.2.2.1 := by kernel_rfl
theorem saturateref01_Ult.con : ∀ (a : Int × Int × Int × Unit) (r : Int), saturateref01_Ult.f a.1 a.2.1 a.2.2.1 = some r → Contract Tryz.prog 201 (saturateref01_Ult.a.enc a) (saturateref01_Ult.r.enc r) := Contract.of_body (F := fun (a : Int × Int × Int × Unit) => saturateref01_Ult.f a.1 a.2.1 a.2.2.1) (fn := Tryz.f201) (cs := saturateref01_Ult.cs) (live := saturateref01_Ult.live) (fuel := fuel0 + 1) (by kernel_rfl) (by kernel_rfl) mixed (saturateref01_Ult.eq (fuel0 + 1))
noncomputable def saturateref01_Ult.c : Kn Tryz.prog := Kn.of 201 saturateref01_Ult.a saturateref01_Ult.r (fun a => saturateref01_Ult.f a.1 a.2.1 a.2.2.1) saturateref01_Ult.con

/-! ### saturateref01_Negative: function 236 -/
def saturateref01_Negative.a : ACods (Int × Int × Unit) := (.cons (.val (.int .i64)) (.cons (.val (.int .u64)) .nil))
def saturateref01_Negative.r : RCod (Bool) := .val (.bool)
noncomputable def saturateref01_Negative.cs : List (Kn Tryz.prog) := [saturateref01_W.c, saturateref01_Bit.c]
def saturateref01_Negative.live : Nat → Option Keep := liveOf []
noncomputable def saturateref01_Negative.f (a0 a1 : Int) : Option (Bool) :=
  (saturateref01_W.f a0).bind fun r1 =>
  (saturateref01_Bit.f a1 (IntKind.i64.wrap (r1 - 1))).bind fun r2 =>
  some (r2 == 1)
theorem saturateref01_Negative.eq (fu : Nat) (a : Int × Int × Unit) : bodyK Tryz.prog saturateref01_Negative.cs saturateref01_Negative.live fu Tryz.f236 (saturateref01_Negative.a.enc a) saturateref01_Negative.r.dec = saturateref01_Negative.f a.1 a.2.1 := by kernel_rfl
theorem saturateref01_Negative.con : ∀ (a : Int × Int × Unit) (r : Bool), saturateref01_Negative.f a.1 a.2.1 = some r → Contract Tryz.prog 236 (saturateref01_Negative.a.enc a) (saturateref01_Negative.r.enc r) := Contract.of_body (F := fun (a : Int × Int × Unit) => saturateref01_Negative.f a.1 a.2.1) (fn := Tryz.f236) (cs := saturateref01_Negative.cs) (live := saturateref01_Negative.live) (fuel := fuel0 + 1) (by kernel_rfl) (by kernel_rfl) mixed (saturateref01_Negative.eq (fuel0 + 1))
noncomputable def saturateref01_Negative.c : Kn Tryz.prog := Kn.of 236 saturateref01_Negative.a saturateref01_Negative.r (fun a => saturateref01_Negative.f a.1 a.2.1) saturateref01_Negative.con

/-! ### saturateref01_Signed: function 231 -/
def saturateref01_Signed.a : ACods (Int × Int × Unit) := (.cons (.val (.int .i64)) (.cons (.val (.int .u64)) .nil))
def saturateref01_Signed.r : RCod (Int) := .val (.int .i64)
noncomputable def saturateref01_Signed.cs : List (Kn Tryz.prog) := [saturateref01_Cut.c, saturateref01_Negative.c, saturateref01_Mask.c]
def saturateref01_Signed.live : Nat → Option Keep := liveOf []
noncomputable def saturateref01_Signed.f (a0 a1 : Int) : Option (Int) :=
  (saturateref01_Cut.f a0 a1).bind fun r1 =>
  (saturateref01_Negative.f a0 a1).bind fun r2 =>
  bif r2 then
    (saturateref01_Mask.f a0).bind fun r3 =>
    some (IntKind.i64.wrap ((IntKind.i64.wrap (0 - (IntKind.i64.wrap (IntKind.u64.wrap (r3 - r1))))) - 1))
  else
    some (IntKind.i64.wrap r1)
theorem saturateref01_Signed.eq (fu : Nat) (a : Int × Int × Unit) : bodyK Tryz.prog saturateref01_Signed.cs saturateref01_Signed.live fu Tryz.f231 (saturateref01_Signed.a.enc a) saturateref01_Signed.r.dec = saturateref01_Signed.f a.1 a.2.1 := by kernel_rfl
theorem saturateref01_Signed.con : ∀ (a : Int × Int × Unit) (r : Int), saturateref01_Signed.f a.1 a.2.1 = some r → Contract Tryz.prog 231 (saturateref01_Signed.a.enc a) (saturateref01_Signed.r.enc r) := Contract.of_body (F := fun (a : Int × Int × Unit) => saturateref01_Signed.f a.1 a.2.1) (fn := Tryz.f231) (cs := saturateref01_Signed.cs) (live := saturateref01_Signed.live) (fuel := fuel0 + 1) (by kernel_rfl) (by kernel_rfl) mixed (saturateref01_Signed.eq (fuel0 + 1))
noncomputable def saturateref01_Signed.c : Kn Tryz.prog := Kn.of 231 saturateref01_Signed.a saturateref01_Signed.r (fun a => saturateref01_Signed.f a.1 a.2.1) saturateref01_Signed.con

/-! ### saturateref01_Slt: function 202 -/
def saturateref01_Slt.a : ACods (Int × Int × Int × Unit) := (.cons (.val (.int .i64)) (.cons (.val (.int .u64)) (.cons (.val (.int .u64)) .nil)))
def saturateref01_Slt.r : RCod (Int) := .val (.int .u64)
noncomputable def saturateref01_Slt.cs : List (Kn Tryz.prog) := [saturateref01_Signed.c, saturateref01_truth.c]
def saturateref01_Slt.live : Nat → Option Keep := liveOf []
noncomputable def saturateref01_Slt.f (a0 a1 a2 : Int) : Option (Int) :=
  (saturateref01_Signed.f a0 a1).bind fun r1 =>
  (saturateref01_Signed.f a0 a2).bind fun r2 =>
  (saturateref01_truth.f (decide (r1 < r2))).bind fun r3 =>
  some r3
theorem saturateref01_Slt.eq (fu : Nat) (a : Int × Int × Int × Unit) : bodyK Tryz.prog saturateref01_Slt.cs saturateref01_Slt.live fu Tryz.f202 (saturateref01_Slt.a.enc a) saturateref01_Slt.r.dec = saturateref01_Slt.f a.1 a.2.1 a.2.2.1 := by kernel_rfl
theorem saturateref01_Slt.con : ∀ (a : Int × Int × Int × Unit) (r : Int), saturateref01_Slt.f a.1 a.2.1 a.2.2.1 = some r → Contract Tryz.prog 202 (saturateref01_Slt.a.enc a) (saturateref01_Slt.r.enc r) := Contract.of_body (F := fun (a : Int × Int × Int × Unit) => saturateref01_Slt.f a.1 a.2.1 a.2.2.1) (fn := Tryz.f202) (cs := saturateref01_Slt.cs) (live := saturateref01_Slt.live) (fuel := fuel0 + 1) (by kernel_rfl) (by kernel_rfl) mixed (saturateref01_Slt.eq (fuel0 + 1))
noncomputable def saturateref01_Slt.c : Kn Tryz.prog := Kn.of 202 saturateref01_Slt.a saturateref01_Slt.r (fun a => saturateref01_Slt.f a.1 a.2.1 a.2.2.1) saturateref01_Slt.con

/-! ### saturateref12_value: function 221 -/
/-! ### saturateref01_Count: function 222 -/
/-! ### saturateref01_Lowest: function 223 -/
/-! ### saturateref12_exact: function 167 -/
/-! ### saturateref12_binary: function 104 -/
/-! ### saturateref12_Apply: function 41 -/
/-! ### saturateref13_Refused: function 105 -/
/-! ### saturateref13_Const: function 108 -/
/-! ### saturateref13_neg: function 109 -/
/-! ### saturateref01_Concat: function 110 -/
def saturateref01_Concat.a : ACods (Int × Int × Int × Int × Unit) := (.cons (.val (.int .i64)) (.cons (.val (.int .i64)) (.cons (.val (.int .u64)) (.cons (.val (.int .u64)) .nil))))
def saturateref01_Concat.r : RCod (Int) := .val (.int .u64)
noncomputable def saturateref01_Concat.cs : List (Kn Tryz.prog) := [saturateref01_Cut.c, saturateref01_W.c, saturateref01_Bit.c]
def saturateref01_Concat.live : Nat → Option Keep := liveOf [(7, ⟨[1, 2, 9, 15, 16], [], [], [], []⟩), (14, ⟨[1, 2, 9, 15, 16], [], [], [], []⟩)]
noncomputable def saturateref01_Concat.body : Code := bodyOf Tryz.f110
noncomputable def saturateref01_Concat.K (fu : Nat) : Code → St → (Ex → St → Option (Int)) → Option (Int) := codeK Tryz.prog (saturateref01_Concat.cs) saturateref01_Concat.live fu
noncomputable def saturateref01_Concat.j3 (fu n3 : Nat) (x1 x2 x9 x15 x16 : Int) : Option Int :=
  loopK (saturateref01_Concat.K fu (sub saturateref01_Concat.body [true, true, false, true, false, false])) (saturateref01_Concat.live 7) n3 (stOf 37 [(1, .val (.int .i64 x1)), (2, .val (.int .u64 x2)), (9, .val (.int .u64 x9)), (15, .val (.int .i64 x15)), (16, .val (.int .i64 x16))] []) (blockC 0 (seqC fu (saturateref01_Concat.live 16) (saturateref01_Concat.K fu (sub saturateref01_Concat.body [true, true, true])) (retC Tryz.prog Tryz.f110.results saturateref01_Concat.r.dec)))
noncomputable def saturateref01_Concat.p7 (m fu : Nat) (n3 : Nat) (x1 x2 x9 x15 x16 : Int) : Option Int :=
  joinK m (saturateref01_Concat.K fu (sub saturateref01_Concat.body [true, true, false, true, false, false, true, true, true])) (stOf 37 [(1, .val (.int .i64 x1)), (2, .val (.int .u64 x2)), (9, .val (.int .u64 x9)), (15, .val (.int .i64 x15)), (16, .val (.int .i64 x16))] []) (roundC (saturateref01_Concat.live 7) (loopK (saturateref01_Concat.K fu (sub saturateref01_Concat.body [true, true, false, true, false, false])) (saturateref01_Concat.live 7) n3) (blockC 0 (seqC fu (saturateref01_Concat.live 16) (saturateref01_Concat.K fu (sub saturateref01_Concat.body [true, true, true])) (retC Tryz.prog Tryz.f110.results saturateref01_Concat.r.dec))))
theorem saturateref01_Concat.p7_eq (m fu : Nat) (n3 : Nat) (x1 x2 x9 x15 x16 : Int) : saturateref01_Concat.p7 (m + 1) fu n3 x1 x2 x9 x15 x16 =
  saturateref01_Concat.j3 fu n3 x1 x2 x9 x15 (IntKind.i64.wrap (x16 + 1)) := by kernel_rfl
theorem saturateref01_Concat.j3_succ (fu n3 : Nat) (x1 x2 x9 x15 x16 : Int) : saturateref01_Concat.j3 fu (n3 + 1) x1 x2 x9 x15 x16 =
  bif (decide (x16 < x15)) then
    (saturateref01_W.f x1).bind fun r3 =>
    bif (decide ((IntKind.i64.wrap (x16 + r3)) < 64)) then
      (saturateref01_Bit.f x2 x16).bind fun r4 =>
      (saturateref01_W.f x1).bind fun r5 =>
      bif decide ((IntKind.u64.wrap (IntKind.i64.wrap (x16 + r5))) < 0) then
        none
      else
        saturateref01_Concat.p7 fu fu n3 x1 x2 (Go.bits .or .u64 x9 (shl .u64 r4 (IntKind.u64.wrap (IntKind.i64.wrap (x16 + r5))))) x15 x16
    else
      saturateref01_Concat.p7 fu fu n3 x1 x2 x9 x15 x16
  else
    some x9 := by kernel_rfl
noncomputable def saturateref01_Concat.g (fu : Nat) (a0 a1 a2 a3 : Int) : Option (Int) :=
  (saturateref01_Cut.f a1 a3).bind fun r1 =>
  (saturateref01_W.f a0).bind fun r2 =>
  saturateref01_Concat.j3 fu fu a1 a2 r1 r2 0
noncomputable def saturateref01_Concat.f (a0 a1 a2 a3 : Int) : Option (Int) := saturateref01_Concat.g (fuel0 + 1) a0 a1 a2 a3
theorem saturateref01_Concat.eq (fu : Nat) (a : Int × Int × Int × Int × Unit) : bodyK Tryz.prog saturateref01_Concat.cs saturateref01_Concat.live fu Tryz.f110 (saturateref01_Concat.a.enc a) saturateref01_Concat.r.dec = saturateref01_Concat.g fu a.1 a.2.1 a.2.2.1 a.2.2.2.1 := by kernel_rfl
theorem saturateref01_Concat.con : ∀ (a : Int × Int × Int × Int × Unit) (r : Int), saturateref01_Concat.f a.1 a.2.1 a.2.2.1 a.2.2.2.1 = some r → Contract Tryz.prog 110 (saturateref01_Concat.a.enc a) (saturateref01_Concat.r.enc r) := Contract.of_body (F := fun (a : Int × Int × Int × Int × Unit) => saturateref01_Concat.f a.1 a.2.1 a.2.2.1 a.2.2.2.1) (fn := Tryz.f110) (cs := saturateref01_Concat.cs) (live := saturateref01_Concat.live) (fuel := fuel0 + 1) (by kernel_rfl) (by kernel_rfl) mixed (saturateref01_Concat.eq (fuel0 + 1))
noncomputable def saturateref01_Concat.c : Kn Tryz.prog := Kn.of 110 saturateref01_Concat.a saturateref01_Concat.r (fun a => saturateref01_Concat.f a.1 a.2.1 a.2.2.1 a.2.2.2.1) saturateref01_Concat.con

/-! ### saturateref01_by: function 225 -/
def saturateref01_by.a : ACods (Int × Int × Unit) := (.cons (.val (.int .i64)) (.cons (.val (.int .u64)) .nil))
def saturateref01_by.r : RCod (Int) := .val (.int .i64)
noncomputable def saturateref01_by.cs : List (Kn Tryz.prog) := [saturateref01_Cut.c]
def saturateref01_by.live : Nat → Option Keep := liveOf []
noncomputable def saturateref01_by.f (a0 a1 : Int) : Option (Int) :=
  (saturateref01_Cut.f a0 a1).bind fun r1 =>
  some (IntKind.i64.wrap (mn r1 64))
theorem saturateref01_by.eq (fu : Nat) (a : Int × Int × Unit) : bodyK Tryz.prog saturateref01_by.cs saturateref01_by.live fu Tryz.f225 (saturateref01_by.a.enc a) saturateref01_by.r.dec = saturateref01_by.f a.1 a.2.1 := by kernel_rfl
theorem saturateref01_by.con : ∀ (a : Int × Int × Unit) (r : Int), saturateref01_by.f a.1 a.2.1 = some r → Contract Tryz.prog 225 (saturateref01_by.a.enc a) (saturateref01_by.r.enc r) := Contract.of_body (F := fun (a : Int × Int × Unit) => saturateref01_by.f a.1 a.2.1) (fn := Tryz.f225) (cs := saturateref01_by.cs) (live := saturateref01_by.live) (fuel := fuel0 + 1) (by kernel_rfl) (by kernel_rfl) mixed (saturateref01_by.eq (fuel0 + 1))
noncomputable def saturateref01_by.c : Kn Tryz.prog := Kn.of 225 saturateref01_by.a saturateref01_by.r (fun a => saturateref01_by.f a.1 a.2.1) saturateref01_by.con

/-! ### saturateref01_shift: function 224 -/
def saturateref01_shift.a : ACods (Int × Int × Int × Int × Unit) := (.cons (.val (.int .i64)) (.cons (.val (.int .u64)) (.cons (.val (.int .i64)) (.cons (.val (.int .u64)) .nil))))
def saturateref01_shift.r : RCod (Int) := .val (.int .u64)
noncomputable def saturateref01_shift.cs : List (Kn Tryz.prog) := [saturateref01_W.c, saturateref01_Bit.c]
def saturateref01_shift.live : Nat → Option Keep := liveOf [(7, ⟨[0, 1, 2, 3, 9, 13, 14], [], [], [], []⟩), (16, ⟨[0, 1, 2, 3, 9, 10, 11, 13, 14], [], [], [], []⟩)]
noncomputable def saturateref01_shift.body : Code := bodyOf Tryz.f224
noncomputable def saturateref01_shift.K (fu : Nat) : Code → St → (Ex → St → Option (Int)) → Option (Int) := codeK Tryz.prog (saturateref01_shift.cs) saturateref01_shift.live fu
noncomputable def saturateref01_shift.j3 (fu n3 : Nat) (x0 x1 x2 x3 x9 x13 x14 : Int) : Option Int :=
  loopK (saturateref01_shift.K fu (sub saturateref01_shift.body [true, true, false, true, false, false])) (saturateref01_shift.live 7) n3 (stOf 37 [(0, .val (.int .i64 x0)), (1, .val (.int .u64 x1)), (2, .val (.int .i64 x2)), (3, .val (.int .u64 x3)), (9, .val (.int .u64 x9)), (13, .val (.int .i64 x13)), (14, .val (.int .i64 x14))] []) (blockC 0 (seqC fu (saturateref01_shift.live 20) (saturateref01_shift.K fu (sub saturateref01_shift.body [true, true, true])) (retC Tryz.prog Tryz.f224.results saturateref01_shift.r.dec)))
noncomputable def saturateref01_shift.p8 (m fu : Nat) (n3 : Nat) (x0 x1 x2 x3 x9 x10 x11 x13 x14 : Int) : Option Int :=
  joinK m (saturateref01_shift.K fu (sub saturateref01_shift.body [true, true, false, true, false, false, true, true, false, false, true, true, true])) (stOf 37 [(0, .val (.int .i64 x0)), (1, .val (.int .u64 x1)), (2, .val (.int .i64 x2)), (3, .val (.int .u64 x3)), (9, .val (.int .u64 x9)), (10, .val (.int .i64 x10)), (11, .val (.int .u64 x11)), (13, .val (.int .i64 x13)), (14, .val (.int .i64 x14))] []) (blockC 1 (seqC fu (saturateref01_shift.live 18) (saturateref01_shift.K fu (sub saturateref01_shift.body [true, true, false, true, false, false, true, true, true])) (roundC (saturateref01_shift.live 7) (loopK (saturateref01_shift.K fu (sub saturateref01_shift.body [true, true, false, true, false, false])) (saturateref01_shift.live 7) n3) (blockC 0 (seqC fu (saturateref01_shift.live 20) (saturateref01_shift.K fu (sub saturateref01_shift.body [true, true, true])) (retC Tryz.prog Tryz.f224.results saturateref01_shift.r.dec))))))
theorem saturateref01_shift.p8_eq (m fu : Nat) (n3 : Nat) (x0 x1 x2 x3 x9 x10 x11 x13 x14 : Int) : saturateref01_shift.p8 (m + 1) fu n3 x0 x1 x2 x3 x9 x10 x11 x13 x14 =
  bif decide ((IntKind.u64.wrap x10) < 0) then
    none
  else
    saturateref01_shift.j3 fu n3 x0 x1 x2 x3 (Go.bits .or .u64 x9 (shl .u64 x11 (IntKind.u64.wrap x10))) x13 (IntKind.i64.wrap (x14 + 1)) := by kernel_rfl
theorem saturateref01_shift.j3_succ (fu n3 : Nat) (x0 x1 x2 x3 x9 x13 x14 : Int) : saturateref01_shift.j3 fu (n3 + 1) x0 x1 x2 x3 x9 x13 x14 =
  bif (decide (x14 < x13)) then
    (saturateref01_W.f x0).bind fun r2 =>
    bif (decide ((IntKind.i64.wrap (x14 + x2)) < r2)) then
      (saturateref01_Bit.f x1 (IntKind.i64.wrap (x14 + x2))).bind fun r3 =>
      saturateref01_shift.p8 fu fu n3 x0 x1 x2 x3 x9 x14 r3 x13 x14
    else
      saturateref01_shift.p8 fu fu n3 x0 x1 x2 x3 x9 x14 x3 x13 x14
  else
    some x9 := by kernel_rfl
noncomputable def saturateref01_shift.g (fu : Nat) (a0 a1 a2 a3 : Int) : Option (Int) :=
  (saturateref01_W.f a0).bind fun r1 =>
  saturateref01_shift.j3 fu fu a0 a1 a2 a3 0 r1 0
noncomputable def saturateref01_shift.f (a0 a1 a2 a3 : Int) : Option (Int) := saturateref01_shift.g (fuel0 + 1) a0 a1 a2 a3
theorem saturateref01_shift.eq (fu : Nat) (a : Int × Int × Int × Int × Unit) : bodyK Tryz.prog saturateref01_shift.cs saturateref01_shift.live fu Tryz.f224 (saturateref01_shift.a.enc a) saturateref01_shift.r.dec = saturateref01_shift.g fu a.1 a.2.1 a.2.2.1 a.2.2.2.1 := by kernel_rfl
theorem saturateref01_shift.con : ∀ (a : Int × Int × Int × Int × Unit) (r : Int), saturateref01_shift.f a.1 a.2.1 a.2.2.1 a.2.2.2.1 = some r → Contract Tryz.prog 224 (saturateref01_shift.a.enc a) (saturateref01_shift.r.enc r) := Contract.of_body (F := fun (a : Int × Int × Int × Int × Unit) => saturateref01_shift.f a.1 a.2.1 a.2.2.1 a.2.2.2.1) (fn := Tryz.f224) (cs := saturateref01_shift.cs) (live := saturateref01_shift.live) (fuel := fuel0 + 1) (by kernel_rfl) (by kernel_rfl) mixed (saturateref01_shift.eq (fuel0 + 1))
noncomputable def saturateref01_shift.c : Kn Tryz.prog := Kn.of 224 saturateref01_shift.a saturateref01_shift.r (fun a => saturateref01_shift.f a.1 a.2.1 a.2.2.1 a.2.2.2.1) saturateref01_shift.con

/-! ### saturateref01_Lshr: function 168 -/
def saturateref01_Lshr.a : ACods (Int × Int × Int × Unit) := (.cons (.val (.int .i64)) (.cons (.val (.int .u64)) (.cons (.val (.int .u64)) .nil)))
def saturateref01_Lshr.r : RCod (Int) := .val (.int .u64)
noncomputable def saturateref01_Lshr.cs : List (Kn Tryz.prog) := [saturateref01_by.c, saturateref01_shift.c]
def saturateref01_Lshr.live : Nat → Option Keep := liveOf []
noncomputable def saturateref01_Lshr.f (a0 a1 a2 : Int) : Option (Int) :=
  (saturateref01_by.f a0 a2).bind fun r1 =>
  (saturateref01_shift.f a0 a1 r1 0).bind fun r2 =>
  some r2
theorem saturateref01_Lshr.eq (fu : Nat) (a : Int × Int × Int × Unit) : bodyK Tryz.prog saturateref01_Lshr.cs saturateref01_Lshr.live fu Tryz.f168 (saturateref01_Lshr.a.enc a) saturateref01_Lshr.r.dec = saturateref01_Lshr.f a.1 a.2.1 a.2.2.1 := by kernel_rfl
theorem saturateref01_Lshr.con : ∀ (a : Int × Int × Int × Unit) (r : Int), saturateref01_Lshr.f a.1 a.2.1 a.2.2.1 = some r → Contract Tryz.prog 168 (saturateref01_Lshr.a.enc a) (saturateref01_Lshr.r.enc r) := Contract.of_body (F := fun (a : Int × Int × Int × Unit) => saturateref01_Lshr.f a.1 a.2.1 a.2.2.1) (fn := Tryz.f168) (cs := saturateref01_Lshr.cs) (live := saturateref01_Lshr.live) (fuel := fuel0 + 1) (by kernel_rfl) (by kernel_rfl) mixed (saturateref01_Lshr.eq (fuel0 + 1))
noncomputable def saturateref01_Lshr.c : Kn Tryz.prog := Kn.of 168 saturateref01_Lshr.a saturateref01_Lshr.r (fun a => saturateref01_Lshr.f a.1 a.2.1 a.2.2.1) saturateref01_Lshr.con

/-! ### saturateref13_extract: function 111 -/
/-! ### saturateref13_half: function 169 -/
end Go.Proofs.YtcihbcffokjgjaaGreat.Fn
namespace Go.Proofs.YtcihbcffokjgjaaGreat.Fn
open Go Go.RowKit Go.Proofs.YtcihbcffokjgjaaGreat.Ev Go.Proofs
set_option linter.unusedVariables false
set_option maxRecDepth 100000
/-! ### saturateref01_Sext: function 170 -/
def saturateref01_Sext.a : ACods (Int × Int × Int × Unit) := (.cons (.val (.int .i64)) (.cons (.val (.int .i64)) (.cons (.val (.int .u64)) .nil)))
def saturateref01_Sext.r : RCod (Int) := .val (.int .u64)
noncomputable def saturateref01_Sext.cs : List (Kn Tryz.prog) := [saturateref01_W.c, saturateref01_Bit.c]
def saturateref01_Sext.live : Nat → Option Keep := liveOf [(7, ⟨[0, 2, 7, 10, 11], [], [], [], []⟩)]
noncomputable def saturateref01_Sext.body : Code := bodyOf Tryz.f170
noncomputable def saturateref01_Sext.K (fu : Nat) : Code → St → (Ex → St → Option (Int)) → Option (Int) := codeK Tryz.prog (saturateref01_Sext.cs) saturateref01_Sext.live fu
noncomputable def saturateref01_Sext.j3 (fu n3 : Nat) (x0 x2 x7 x10 x11 : Int) : Option Int :=
  loopK (saturateref01_Sext.K fu (sub saturateref01_Sext.body [true, true, false, true, false, false])) (saturateref01_Sext.live 7) n3 (stOf 28 [(0, .val (.int .i64 x0)), (2, .val (.int .u64 x2)), (7, .val (.int .u64 x7)), (10, .val (.int .i64 x10)), (11, .val (.int .i64 x11))] []) (blockC 0 (seqC fu (saturateref01_Sext.live 14) (saturateref01_Sext.K fu (sub saturateref01_Sext.body [true, true, true])) (retC Tryz.prog Tryz.f170.results saturateref01_Sext.r.dec)))
theorem saturateref01_Sext.j3_succ (fu n3 : Nat) (x0 x2 x7 x10 x11 : Int) : saturateref01_Sext.j3 fu (n3 + 1) x0 x2 x7 x10 x11 =
  bif (decide (x11 < x10)) then
    (saturateref01_W.f x0).bind fun r2 =>
    (saturateref01_Bit.f x2 (mn x11 (IntKind.i64.wrap (r2 - 1)))).bind fun r3 =>
    bif decide ((IntKind.u64.wrap x11) < 0) then
      none
    else
      saturateref01_Sext.j3 fu n3 x0 x2 (Go.bits .or .u64 x7 (shl .u64 r3 (IntKind.u64.wrap x11))) x10 (IntKind.i64.wrap (x11 + 1))
  else
    some x7 := by kernel_rfl
noncomputable def saturateref01_Sext.g (fu : Nat) (a0 a1 a2 : Int) : Option (Int) :=
  (saturateref01_W.f a1).bind fun r1 =>
  saturateref01_Sext.j3 fu fu a0 a2 0 r1 0
noncomputable def saturateref01_Sext.f (a0 a1 a2 : Int) : Option (Int) := saturateref01_Sext.g (fuel0 + 1) a0 a1 a2
theorem saturateref01_Sext.eq (fu : Nat) (a : Int × Int × Int × Unit) : bodyK Tryz.prog saturateref01_Sext.cs saturateref01_Sext.live fu Tryz.f170 (saturateref01_Sext.a.enc a) saturateref01_Sext.r.dec = saturateref01_Sext.g fu a.1 a.2.1 a.2.2.1 := by kernel_rfl
theorem saturateref01_Sext.con : ∀ (a : Int × Int × Int × Unit) (r : Int), saturateref01_Sext.f a.1 a.2.1 a.2.2.1 = some r → Contract Tryz.prog 170 (saturateref01_Sext.a.enc a) (saturateref01_Sext.r.enc r) := Contract.of_body (F := fun (a : Int × Int × Int × Unit) => saturateref01_Sext.f a.1 a.2.1 a.2.2.1) (fn := Tryz.f170) (cs := saturateref01_Sext.cs) (live := saturateref01_Sext.live) (fuel := fuel0 + 1) (by kernel_rfl) (by kernel_rfl) mixed (saturateref01_Sext.eq (fuel0 + 1))
noncomputable def saturateref01_Sext.c : Kn Tryz.prog := Kn.of 170 saturateref01_Sext.a saturateref01_Sext.r (fun a => saturateref01_Sext.f a.1 a.2.1 a.2.2.1) saturateref01_Sext.con

/-! ### saturateref13_sext: function 112 -/
/-! ### saturateref13_Fill: function 171 -/
/-! ### saturateref13_over: function 226 -/
/-! ### saturateref13_add: function 172 -/
/-! ### saturateref01_Not: function 187 -/
def saturateref01_Not.a : ACods (Int × Int × Unit) := (.cons (.val (.int .i64)) (.cons (.val (.int .u64)) .nil))
def saturateref01_Not.r : RCod (Int) := .val (.int .u64)
noncomputable def saturateref01_Not.cs : List (Kn Tryz.prog) := [saturateref01_Mask.c, saturateref01_Cut.c]
def saturateref01_Not.live : Nat → Option Keep := liveOf []
noncomputable def saturateref01_Not.f (a0 a1 : Int) : Option (Int) :=
  (saturateref01_Mask.f a0).bind fun r1 =>
  (saturateref01_Cut.f a0 a1).bind fun r2 =>
  some (IntKind.u64.wrap (r1 - r2))
theorem saturateref01_Not.eq (fu : Nat) (a : Int × Int × Unit) : bodyK Tryz.prog saturateref01_Not.cs saturateref01_Not.live fu Tryz.f187 (saturateref01_Not.a.enc a) saturateref01_Not.r.dec = saturateref01_Not.f a.1 a.2.1 := by kernel_rfl
theorem saturateref01_Not.con : ∀ (a : Int × Int × Unit) (r : Int), saturateref01_Not.f a.1 a.2.1 = some r → Contract Tryz.prog 187 (saturateref01_Not.a.enc a) (saturateref01_Not.r.enc r) := Contract.of_body (F := fun (a : Int × Int × Unit) => saturateref01_Not.f a.1 a.2.1) (fn := Tryz.f187) (cs := saturateref01_Not.cs) (live := saturateref01_Not.live) (fuel := fuel0 + 1) (by kernel_rfl) (by kernel_rfl) mixed (saturateref01_Not.eq (fuel0 + 1))
noncomputable def saturateref01_Not.c : Kn Tryz.prog := Kn.of 187 saturateref01_Not.a saturateref01_Not.r (fun a => saturateref01_Not.f a.1 a.2.1) saturateref01_Not.con

/-! ### saturateref01_Neg: function 188 -/
def saturateref01_Neg.a : ACods (Int × Int × Unit) := (.cons (.val (.int .i64)) (.cons (.val (.int .u64)) .nil))
def saturateref01_Neg.r : RCod (Int) := .val (.int .u64)
noncomputable def saturateref01_Neg.cs : List (Kn Tryz.prog) := [saturateref01_Not.c, saturateref01_Add.c]
def saturateref01_Neg.live : Nat → Option Keep := liveOf []
noncomputable def saturateref01_Neg.f (a0 a1 : Int) : Option (Int) :=
  (saturateref01_Not.f a0 a1).bind fun r1 =>
  (saturateref01_Add.f a0 r1 1).bind fun r2 =>
  some r2
theorem saturateref01_Neg.eq (fu : Nat) (a : Int × Int × Unit) : bodyK Tryz.prog saturateref01_Neg.cs saturateref01_Neg.live fu Tryz.f188 (saturateref01_Neg.a.enc a) saturateref01_Neg.r.dec = saturateref01_Neg.f a.1 a.2.1 := by kernel_rfl
theorem saturateref01_Neg.con : ∀ (a : Int × Int × Unit) (r : Int), saturateref01_Neg.f a.1 a.2.1 = some r → Contract Tryz.prog 188 (saturateref01_Neg.a.enc a) (saturateref01_Neg.r.enc r) := Contract.of_body (F := fun (a : Int × Int × Unit) => saturateref01_Neg.f a.1 a.2.1) (fn := Tryz.f188) (cs := saturateref01_Neg.cs) (live := saturateref01_Neg.live) (fuel := fuel0 + 1) (by kernel_rfl) (by kernel_rfl) mixed (saturateref01_Neg.eq (fuel0 + 1))
noncomputable def saturateref01_Neg.c : Kn Tryz.prog := Kn.of 188 saturateref01_Neg.a saturateref01_Neg.r (fun a => saturateref01_Neg.f a.1 a.2.1) saturateref01_Neg.con

/-! ### saturateref01_Sub: function 194 -/
def saturateref01_Sub.a : ACods (Int × Int × Int × Unit) := (.cons (.val (.int .i64)) (.cons (.val (.int .u64)) (.cons (.val (.int .u64)) .nil)))
def saturateref01_Sub.r : RCod (Int) := .val (.int .u64)
noncomputable def saturateref01_Sub.cs : List (Kn Tryz.prog) := [saturateref01_Neg.c, saturateref01_Add.c]
def saturateref01_Sub.live : Nat → Option Keep := liveOf []
noncomputable def saturateref01_Sub.f (a0 a1 a2 : Int) : Option (Int) :=
  (saturateref01_Neg.f a0 a2).bind fun r1 =>
  (saturateref01_Add.f a0 a1 r1).bind fun r2 =>
  some r2
theorem saturateref01_Sub.eq (fu : Nat) (a : Int × Int × Int × Unit) : bodyK Tryz.prog saturateref01_Sub.cs saturateref01_Sub.live fu Tryz.f194 (saturateref01_Sub.a.enc a) saturateref01_Sub.r.dec = saturateref01_Sub.f a.1 a.2.1 a.2.2.1 := by kernel_rfl
theorem saturateref01_Sub.con : ∀ (a : Int × Int × Int × Unit) (r : Int), saturateref01_Sub.f a.1 a.2.1 a.2.2.1 = some r → Contract Tryz.prog 194 (saturateref01_Sub.a.enc a) (saturateref01_Sub.r.enc r) := Contract.of_body (F := fun (a : Int × Int × Int × Unit) => saturateref01_Sub.f a.1 a.2.1 a.2.2.1) (fn := Tryz.f194) (cs := saturateref01_Sub.cs) (live := saturateref01_Sub.live) (fuel := fuel0 + 1) (by kernel_rfl) (by kernel_rfl) mixed (saturateref01_Sub.eq (fuel0 + 1))
noncomputable def saturateref01_Sub.c : Kn Tryz.prog := Kn.of 194 saturateref01_Sub.a saturateref01_Sub.r (fun a => saturateref01_Sub.f a.1 a.2.1 a.2.2.1) saturateref01_Sub.con

/-! ### saturateref13_sub: function 173 -/
/-! ### saturateref13_mul: function 174 -/
/-! ### saturateref13_urem: function 175 -/
/-! ### saturateref01_Shl: function 198 -/
def saturateref01_Shl.a : ACods (Int × Int × Int × Unit) := (.cons (.val (.int .i64)) (.cons (.val (.int .u64)) (.cons (.val (.int .u64)) .nil)))
def saturateref01_Shl.r : RCod (Int) := .val (.int .u64)
noncomputable def saturateref01_Shl.cs : List (Kn Tryz.prog) := [saturateref01_by.c, saturateref01_shift.c]
def saturateref01_Shl.live : Nat → Option Keep := liveOf []
noncomputable def saturateref01_Shl.f (a0 a1 a2 : Int) : Option (Int) :=
  (saturateref01_by.f a0 a2).bind fun r1 =>
  (saturateref01_shift.f a0 a1 (IntKind.i64.wrap (0 - r1)) 0).bind fun r2 =>
  some r2
theorem saturateref01_Shl.eq (fu : Nat) (a : Int × Int × Int × Unit) : bodyK Tryz.prog saturateref01_Shl.cs saturateref01_Shl.live fu Tryz.f198 (saturateref01_Shl.a.enc a) saturateref01_Shl.r.dec = saturateref01_Shl.f a.1 a.2.1 a.2.2.1 := by kernel_rfl
theorem saturateref01_Shl.con : ∀ (a : Int × Int × Int × Unit) (r : Int), saturateref01_Shl.f a.1 a.2.1 a.2.2.1 = some r → Contract Tryz.prog 198 (saturateref01_Shl.a.enc a) (saturateref01_Shl.r.enc r) := Contract.of_body (F := fun (a : Int × Int × Int × Unit) => saturateref01_Shl.f a.1 a.2.1 a.2.2.1) (fn := Tryz.f198) (cs := saturateref01_Shl.cs) (live := saturateref01_Shl.live) (fuel := fuel0 + 1) (by kernel_rfl) (by kernel_rfl) mixed (saturateref01_Shl.eq (fuel0 + 1))
noncomputable def saturateref01_Shl.c : Kn Tryz.prog := Kn.of 198 saturateref01_Shl.a saturateref01_Shl.r (fun a => saturateref01_Shl.f a.1 a.2.1 a.2.2.1) saturateref01_Shl.con

/-! ### saturateref13_shl: function 176 -/
/-! ### saturateref13_lshr: function 177 -/
/-! ### saturateref13_truth: function 178 -/
/-! ### saturateref13_ult: function 179 -/
/-! ### saturateref13_slt: function 180 -/
/-! ### saturateref13_two: function 113 -/
/-! ### saturateref13_Apply: function 42 -/
/-! ### saturateref14_Apply: function 11 -/
/-! ### saturatelaw14_FactsApply: function 3 -/
end Go.Proofs.YtcihbcffokjgjaaGreat.Fn
