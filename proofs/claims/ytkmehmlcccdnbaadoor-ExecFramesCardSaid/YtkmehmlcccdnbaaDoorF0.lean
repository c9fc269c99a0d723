/- What the functions return, as the evaluator tells it: written by a program of this workplace (mev.py); Lean checks each equation. -/
import Derived.Test.YtkmehmlcccdnbaaDoorProg
import Derived.Test.YtkmehmlcccdnbaaDoorEvC
namespace Go.Proofs.YtkmehmlcccdnbaaDoor.Fn
open Go Go.RowKit Go.Proofs.YtkmehmlcccdnbaaDoor.Ev Go.Proofs
set_option linter.unusedVariables false
set_option maxRecDepth 100000
theorem mixed : Tryd.prog.follows .mixedOrders = true := by kernel_rfl
def fuel0 : Nat := 18446744073709551615
def deep0 : Nat := 1000
/-! ### exec_value_1: function 70 -/
def exec_value_1.a : ACods (Int × List Tm × Unit) := (.cons (.val (.int .i64)) (.cons (.cells (.one (.tms 0))) .nil))
def exec_value_1.r : RCod (Int) := .val (.int .u64)
noncomputable def exec_value_1.cs : List (Kn Tryd.prog) := []
def exec_value_1.live : Nat → Option Keep := liveOf []
noncomputable def exec_value_1.body : Code := bodyOf Tryd.f70
noncomputable def exec_value_1.K (fu : Nat) : Code → St → (Ex → St → Option (Int)) → Option (Int) := codeK Tryd.prog (exec_value_1.cs) exec_value_1.live fu
noncomputable def exec_value_1.f (a0 : Int) (a1 : List Tm) : Option (Int) :=
  bif (decide (a0 < (a1.length : Int))) then
    bif decide (0 ≤ a0) then
      bif decide (a0 < (a1.length : Int)) then
        ((a1[a0.toNat]? : Option Tm)).bind fun u1 =>
        some u1.x
      else
        none
    else
      none
  else
    some 0
theorem exec_value_1.eq (fu : Nat) (a : Int × List Tm × Unit) : bodyK Tryd.prog exec_value_1.cs exec_value_1.live fu Tryd.f70 false (exec_value_1.a.enc a) exec_value_1.r.dec = exec_value_1.f a.1 a.2.1 := by kernel_rfl
theorem exec_value_1.con : ∀ (a : Int × List Tm × Unit) (r : Int), exec_value_1.f a.1 a.2.1 = some r → Contract Tryd.prog 70 (exec_value_1.a.enc a) (exec_value_1.r.enc r) := Contract.of_body (F := fun (a : Int × List Tm × Unit) => exec_value_1.f a.1 a.2.1) (fn := Tryd.f70) (cs := exec_value_1.cs) (live := exec_value_1.live) (fuel := fuel0 + 1) (by kernel_rfl) (by kernel_rfl) mixed (exec_value_1.eq (fuel0 + 1))
noncomputable def exec_value_1.c : Kn Tryd.prog := Kn.of 70 exec_value_1.a exec_value_1.r (fun a => exec_value_1.f a.1 a.2.1) exec_value_1.con

/-! ### bits_clamp: function 89 -/
def bits_clamp.a : ACods (Int × Unit) := (.cons (.val (.int .i64)) .nil)
def bits_clamp.r : RCod (Int) := .val (.int .i64)
noncomputable def bits_clamp.cs : List (Kn Tryd.prog) := []
def bits_clamp.live : Nat → Option Keep := liveOf []
noncomputable def bits_clamp.body : Code := bodyOf Tryd.f89
noncomputable def bits_clamp.K (fu : Nat) : Code → St → (Ex → St → Option (Int)) → Option (Int) := codeK Tryd.prog (bits_clamp.cs) bits_clamp.live fu
noncomputable def bits_clamp.f (a0 : Int) : Option (Int) :=
  some (mn (mx a0 1) 64)
theorem bits_clamp.eq (fu : Nat) (a : Int × Unit) : bodyK Tryd.prog bits_clamp.cs bits_clamp.live fu Tryd.f89 false (bits_clamp.a.enc a) bits_clamp.r.dec = bits_clamp.f a.1 := by kernel_rfl
theorem bits_clamp.con : ∀ (a : Int × Unit) (r : Int), bits_clamp.f a.1 = some r → Contract Tryd.prog 89 (bits_clamp.a.enc a) (bits_clamp.r.enc r) := Contract.of_body (F := fun (a : Int × Unit) => bits_clamp.f a.1) (fn := Tryd.f89) (cs := bits_clamp.cs) (live := bits_clamp.live) (fuel := fuel0 + 1) (by kernel_rfl) (by kernel_rfl) mixed (bits_clamp.eq (fuel0 + 1))
noncomputable def bits_clamp.c : Kn Tryd.prog := Kn.of 89 bits_clamp.a bits_clamp.r (fun a => bits_clamp.f a.1) bits_clamp.con

/-! ### bits_Mask: function 66 -/
def bits_Mask.a : ACods (Int × Unit) := (.cons (.val (.int .i64)) .nil)
def bits_Mask.r : RCod (Int) := .val (.int .u64)
noncomputable def bits_Mask.cs : List (Kn Tryd.prog) := [bits_clamp.c]
def bits_Mask.live : Nat → Option Keep := liveOf []
noncomputable def bits_Mask.body : Code := bodyOf Tryd.f66
noncomputable def bits_Mask.K (fu : Nat) : Code → St → (Ex → St → Option (Int)) → Option (Int) := codeK Tryd.prog (bits_Mask.cs) bits_Mask.live fu
noncomputable def bits_Mask.f (a0 : Int) : Option (Int) :=
  (bits_clamp.f a0).bind fun r1 =>
  bif decide ((IntKind.i64.wrap (64 - r1)) < 0) then
    none
  else
    some (shr .u64 18446744073709551615 (IntKind.i64.wrap (64 - r1)))
theorem bits_Mask.eq (fu : Nat) (a : Int × Unit) : bodyK Tryd.prog bits_Mask.cs bits_Mask.live fu Tryd.f66 false (bits_Mask.a.enc a) bits_Mask.r.dec = bits_Mask.f a.1 := by kernel_rfl
theorem bits_Mask.con : ∀ (a : Int × Unit) (r : Int), bits_Mask.f a.1 = some r → Contract Tryd.prog 66 (bits_Mask.a.enc a) (bits_Mask.r.enc r) := Contract.of_body (F := fun (a : Int × Unit) => bits_Mask.f a.1) (fn := Tryd.f66) (cs := bits_Mask.cs) (live := bits_Mask.live) (fuel := fuel0 + 1) (by kernel_rfl) (by kernel_rfl) mixed (bits_Mask.eq (fuel0 + 1))
noncomputable def bits_Mask.c : Kn Tryd.prog := Kn.of 66 bits_Mask.a bits_Mask.r (fun a => bits_Mask.f a.1) bits_Mask.con

/-! ### bits_Cut: function 48 -/
def bits_Cut.a : ACods (Int × Int × Unit) := (.cons (.val (.int .i64)) (.cons (.val (.int .u64)) .nil))
def bits_Cut.r : RCod (Int) := .val (.int .u64)
noncomputable def bits_Cut.cs : List (Kn Tryd.prog) := [bits_Mask.c]
def bits_Cut.live : Nat → Option Keep := liveOf []
noncomputable def bits_Cut.body : Code := bodyOf Tryd.f48
noncomputable def bits_Cut.K (fu : Nat) : Code → St → (Ex → St → Option (Int)) → Option (Int) := codeK Tryd.prog (bits_Cut.cs) bits_Cut.live fu
noncomputable def bits_Cut.f (a0 : Int) (a1 : Int) : Option (Int) :=
  (bits_Mask.f a0).bind fun r1 =>
  some (Go.bits .and .u64 a1 r1)
theorem bits_Cut.eq (fu : Nat) (a : Int × Int × Unit) : bodyK Tryd.prog bits_Cut.cs bits_Cut.live fu Tryd.f48 false (bits_Cut.a.enc a) bits_Cut.r.dec = bits_Cut.f a.1 a.2.1 := by kernel_rfl
theorem bits_Cut.con : ∀ (a : Int × Int × Unit) (r : Int), bits_Cut.f a.1 a.2.1 = some r → Contract Tryd.prog 48 (bits_Cut.a.enc a) (bits_Cut.r.enc r) := Contract.of_body (F := fun (a : Int × Int × Unit) => bits_Cut.f a.1 a.2.1) (fn := Tryd.f48) (cs := bits_Cut.cs) (live := bits_Cut.live) (fuel := fuel0 + 1) (by kernel_rfl) (by kernel_rfl) mixed (bits_Cut.eq (fuel0 + 1))
noncomputable def bits_Cut.c : Kn Tryd.prog := Kn.of 48 bits_Cut.a bits_Cut.r (fun a => bits_Cut.f a.1 a.2.1) bits_Cut.con

/-! ### bits_Not: function 71 -/
def bits_Not.a : ACods (Int × Int × Unit) := (.cons (.val (.int .i64)) (.cons (.val (.int .u64)) .nil))
def bits_Not.r : RCod (Int) := .val (.int .u64)
noncomputable def bits_Not.cs : List (Kn Tryd.prog) := [bits_Cut.c]
def bits_Not.live : Nat → Option Keep := liveOf []
noncomputable def bits_Not.body : Code := bodyOf Tryd.f71
noncomputable def bits_Not.K (fu : Nat) : Code → St → (Ex → St → Option (Int)) → Option (Int) := codeK Tryd.prog (bits_Not.cs) bits_Not.live fu
noncomputable def bits_Not.f (a0 : Int) (a1 : Int) : Option (Int) :=
  (bits_Cut.f a0 (Go.bits .xor .u64 18446744073709551615 a1)).bind fun r1 =>
  some r1
theorem bits_Not.eq (fu : Nat) (a : Int × Int × Unit) : bodyK Tryd.prog bits_Not.cs bits_Not.live fu Tryd.f71 false (bits_Not.a.enc a) bits_Not.r.dec = bits_Not.f a.1 a.2.1 := by kernel_rfl
theorem bits_Not.con : ∀ (a : Int × Int × Unit) (r : Int), bits_Not.f a.1 a.2.1 = some r → Contract Tryd.prog 71 (bits_Not.a.enc a) (bits_Not.r.enc r) := Contract.of_body (F := fun (a : Int × Int × Unit) => bits_Not.f a.1 a.2.1) (fn := Tryd.f71) (cs := bits_Not.cs) (live := bits_Not.live) (fuel := fuel0 + 1) (by kernel_rfl) (by kernel_rfl) mixed (bits_Not.eq (fuel0 + 1))
noncomputable def bits_Not.c : Kn Tryd.prog := Kn.of 71 bits_Not.a bits_Not.r (fun a => bits_Not.f a.1 a.2.1) bits_Not.con

/-! ### bits_Neg: function 72 -/
def bits_Neg.a : ACods (Int × Int × Unit) := (.cons (.val (.int .i64)) (.cons (.val (.int .u64)) .nil))
def bits_Neg.r : RCod (Int) := .val (.int .u64)
noncomputable def bits_Neg.cs : List (Kn Tryd.prog) := [bits_Cut.c]
def bits_Neg.live : Nat → Option Keep := liveOf []
noncomputable def bits_Neg.body : Code := bodyOf Tryd.f72
noncomputable def bits_Neg.K (fu : Nat) : Code → St → (Ex → St → Option (Int)) → Option (Int) := codeK Tryd.prog (bits_Neg.cs) bits_Neg.live fu
noncomputable def bits_Neg.f (a0 : Int) (a1 : Int) : Option (Int) :=
  (bits_Cut.f a0 (IntKind.u64.wrap (0 - a1))).bind fun r1 =>
  some r1
theorem bits_Neg.eq (fu : Nat) (a : Int × Int × Unit) : bodyK Tryd.prog bits_Neg.cs bits_Neg.live fu Tryd.f72 false (bits_Neg.a.enc a) bits_Neg.r.dec = bits_Neg.f a.1 a.2.1 := by kernel_rfl
theorem bits_Neg.con : ∀ (a : Int × Int × Unit) (r : Int), bits_Neg.f a.1 a.2.1 = some r → Contract Tryd.prog 72 (bits_Neg.a.enc a) (bits_Neg.r.enc r) := Contract.of_body (F := fun (a : Int × Int × Unit) => bits_Neg.f a.1 a.2.1) (fn := Tryd.f72) (cs := bits_Neg.cs) (live := bits_Neg.live) (fuel := fuel0 + 1) (by kernel_rfl) (by kernel_rfl) mixed (bits_Neg.eq (fuel0 + 1))
noncomputable def bits_Neg.c : Kn Tryd.prog := Kn.of 72 bits_Neg.a bits_Neg.r (fun a => bits_Neg.f a.1 a.2.1) bits_Neg.con

/-! ### bits_Add: function 73 -/
def bits_Add.a : ACods (Int × Int × Int × Unit) := (.cons (.val (.int .i64)) (.cons (.val (.int .u64)) (.cons (.val (.int .u64)) .nil)))
def bits_Add.r : RCod (Int) := .val (.int .u64)
noncomputable def bits_Add.cs : List (Kn Tryd.prog) := [bits_Cut.c]
def bits_Add.live : Nat → Option Keep := liveOf []
noncomputable def bits_Add.body : Code := bodyOf Tryd.f73
noncomputable def bits_Add.K (fu : Nat) : Code → St → (Ex → St → Option (Int)) → Option (Int) := codeK Tryd.prog (bits_Add.cs) bits_Add.live fu
noncomputable def bits_Add.f (a0 : Int) (a1 : Int) (a2 : Int) : Option (Int) :=
  (bits_Cut.f a0 (IntKind.u64.wrap (a1 + a2))).bind fun r1 =>
  some r1
theorem bits_Add.eq (fu : Nat) (a : Int × Int × Int × Unit) : bodyK Tryd.prog bits_Add.cs bits_Add.live fu Tryd.f73 false (bits_Add.a.enc a) bits_Add.r.dec = bits_Add.f a.1 a.2.1 a.2.2.1 := by kernel_rfl
theorem bits_Add.con : ∀ (a : Int × Int × Int × Unit) (r : Int), bits_Add.f a.1 a.2.1 a.2.2.1 = some r → Contract Tryd.prog 73 (bits_Add.a.enc a) (bits_Add.r.enc r) := Contract.of_body (F := fun (a : Int × Int × Int × Unit) => bits_Add.f a.1 a.2.1 a.2.2.1) (fn := Tryd.f73) (cs := bits_Add.cs) (live := bits_Add.live) (fuel := fuel0 + 1) (by kernel_rfl) (by kernel_rfl) mixed (bits_Add.eq (fuel0 + 1))
noncomputable def bits_Add.c : Kn Tryd.prog := Kn.of 73 bits_Add.a bits_Add.r (fun a => bits_Add.f a.1 a.2.1 a.2.2.1) bits_Add.con

/-! ### bits_Sub: function 74 -/
def bits_Sub.a : ACods (Int × Int × Int × Unit) := (.cons (.val (.int .i64)) (.cons (.val (.int .u64)) (.cons (.val (.int .u64)) .nil)))
def bits_Sub.r : RCod (Int) := .val (.int .u64)
noncomputable def bits_Sub.cs : List (Kn Tryd.prog) := [bits_Cut.c]
def bits_Sub.live : Nat → Option Keep := liveOf []
noncomputable def bits_Sub.body : Code := bodyOf Tryd.f74
noncomputable def bits_Sub.K (fu : Nat) : Code → St → (Ex → St → Option (Int)) → Option (Int) := codeK Tryd.prog (bits_Sub.cs) bits_Sub.live fu
noncomputable def bits_Sub.f (a0 : Int) (a1 : Int) (a2 : Int) : Option (Int) :=
  (bits_Cut.f a0 (IntKind.u64.wrap (a1 - a2))).bind fun r1 =>
  some r1
theorem bits_Sub.eq (fu : Nat) (a : Int × Int × Int × Unit) : bodyK Tryd.prog bits_Sub.cs bits_Sub.live fu Tryd.f74 false (bits_Sub.a.enc a) bits_Sub.r.dec = bits_Sub.f a.1 a.2.1 a.2.2.1 := by kernel_rfl
theorem bits_Sub.con : ∀ (a : Int × Int × Int × Unit) (r : Int), bits_Sub.f a.1 a.2.1 a.2.2.1 = some r → Contract Tryd.prog 74 (bits_Sub.a.enc a) (bits_Sub.r.enc r) := Contract.of_body (F := fun (a : Int × Int × Int × Unit) => bits_Sub.f a.1 a.2.1 a.2.2.1) (fn := Tryd.f74) (cs := bits_Sub.cs) (live := bits_Sub.live) (fuel := fuel0 + 1) (by kernel_rfl) (by kernel_rfl) mixed (bits_Sub.eq (fuel0 + 1))
noncomputable def bits_Sub.c : Kn Tryd.prog := Kn.of 74 bits_Sub.a bits_Sub.r (fun a => bits_Sub.f a.1 a.2.1 a.2.2.1) bits_Sub.con

/-! ### bits_Mul: function 75 -/
def bits_Mul.a : ACods (Int × Int × Int × Unit) := (.cons (.val (.int .i64)) (.cons (.val (.int .u64)) (.cons (.val (.int .u64)) .nil)))
def bits_Mul.r : RCod (Int) := .val (.int .u64)
noncomputable def bits_Mul.cs : List (Kn Tryd.prog) := [bits_Cut.c]
def bits_Mul.live : Nat → Option Keep := liveOf []
noncomputable def bits_Mul.body : Code := bodyOf Tryd.f75
noncomputable def bits_Mul.K (fu : Nat) : Code → St → (Ex → St → Option (Int)) → Option (Int) := codeK Tryd.prog (bits_Mul.cs) bits_Mul.live fu
noncomputable def bits_Mul.f (a0 : Int) (a1 : Int) (a2 : Int) : Option (Int) :=
  (bits_Cut.f a0 (IntKind.u64.wrap (a1 * a2))).bind fun r1 =>
  some r1
theorem bits_Mul.eq (fu : Nat) (a : Int × Int × Int × Unit) : bodyK Tryd.prog bits_Mul.cs bits_Mul.live fu Tryd.f75 false (bits_Mul.a.enc a) bits_Mul.r.dec = bits_Mul.f a.1 a.2.1 a.2.2.1 := by kernel_rfl
theorem bits_Mul.con : ∀ (a : Int × Int × Int × Unit) (r : Int), bits_Mul.f a.1 a.2.1 a.2.2.1 = some r → Contract Tryd.prog 75 (bits_Mul.a.enc a) (bits_Mul.r.enc r) := Contract.of_body (F := fun (a : Int × Int × Int × Unit) => bits_Mul.f a.1 a.2.1 a.2.2.1) (fn := Tryd.f75) (cs := bits_Mul.cs) (live := bits_Mul.live) (fuel := fuel0 + 1) (by kernel_rfl) (by kernel_rfl) mixed (bits_Mul.eq (fuel0 + 1))
noncomputable def bits_Mul.c : Kn Tryd.prog := Kn.of 75 bits_Mul.a bits_Mul.r (fun a => bits_Mul.f a.1 a.2.1 a.2.2.1) bits_Mul.con

/-! ### bits_Signed: function 93 -/
def bits_Signed.a : ACods (Int × Int × Unit) := (.cons (.val (.int .i64)) (.cons (.val (.int .u64)) .nil))
def bits_Signed.r : RCod (Int) := .val (.int .i64)
noncomputable def bits_Signed.cs : List (Kn Tryd.prog) := [bits_clamp.c]
def bits_Signed.live : Nat → Option Keep := liveOf []
noncomputable def bits_Signed.body : Code := bodyOf Tryd.f93
noncomputable def bits_Signed.K (fu : Nat) : Code → St → (Ex → St → Option (Int)) → Option (Int) := codeK Tryd.prog (bits_Signed.cs) bits_Signed.live fu
noncomputable def bits_Signed.f (a0 : Int) (a1 : Int) : Option (Int) :=
  (bits_clamp.f a0).bind fun r1 =>
  bif decide ((IntKind.i64.wrap (64 - r1)) < 0) then
    none
  else
    bif decide ((IntKind.i64.wrap (64 - r1)) < 0) then
      none
    else
      some (shr .i64 (IntKind.i64.wrap (shl .u64 a1 (IntKind.i64.wrap (64 - r1)))) (IntKind.i64.wrap (64 - r1)))
theorem bits_Signed.eq (fu : Nat) (a : Int × Int × Unit) : bodyK Tryd.prog bits_Signed.cs bits_Signed.live fu Tryd.f93 false (bits_Signed.a.enc a) bits_Signed.r.dec = bits_Signed.f a.1 a.2.1 := by kernel_rfl
theorem bits_Signed.con : ∀ (a : Int × Int × Unit) (r : Int), bits_Signed.f a.1 a.2.1 = some r → Contract Tryd.prog 93 (bits_Signed.a.enc a) (bits_Signed.r.enc r) := Contract.of_body (F := fun (a : Int × Int × Unit) => bits_Signed.f a.1 a.2.1) (fn := Tryd.f93) (cs := bits_Signed.cs) (live := bits_Signed.live) (fuel := fuel0 + 1) (by kernel_rfl) (by kernel_rfl) mixed (bits_Signed.eq (fuel0 + 1))
noncomputable def bits_Signed.c : Kn Tryd.prog := Kn.of 93 bits_Signed.a bits_Signed.r (fun a => bits_Signed.f a.1 a.2.1) bits_Signed.con

/-! ### bits_shift: function 91 -/
def bits_shift.a : ACods (Int × Int × Int × Int × Unit) := (.cons (.val (.int .i64)) (.cons (.val (.int .i64)) (.cons (.val (.int .u64)) (.cons (.val (.int .u64)) .nil))))
def bits_shift.r : RCod (Int) := .val (.int .u64)
noncomputable def bits_shift.cs : List (Kn Tryd.prog) := [bits_Cut.c, bits_clamp.c, bits_Signed.c, bits_Mask.c]
def bits_shift.live : Nat → Option Keep := liveOf [(20, ⟨[9, 10, 11], [], [], [], []⟩)]
noncomputable def bits_shift.body : Code := bodyOf Tryd.f91
noncomputable def bits_shift.K (fu : Nat) : Code → St → (Ex → St → Option (Int)) → Option (Int) := codeK Tryd.prog (bits_shift.cs) bits_shift.live fu
noncomputable def bits_shift.p10 (m fu : Nat) (x9 : Int) (x10 : Int) (x11 : Bool) : Option Int :=
  joinK m (bits_shift.K fu (sub bits_shift.body [true, true, true, false, true, false, true])) (stOf 53 [(9, .val (.int .u64 x9)), (10, .val (.int .u64 x10)), (11, .val (.bool x11))] []) (blockC 0 (seqC fu (bits_shift.live 26) (bits_shift.K fu (sub bits_shift.body [true, true, true, true])) (retC Tryd.prog false (Tryd.f91.results) bits_shift.r.dec)))
theorem bits_shift.p10_eq (m fu : Nat) (x9 : Int) (x10 : Int) (x11 : Bool) : bits_shift.p10 (m + 1) fu x9 x10 x11 =
  bif x11 then
    some 0
  else
    bif decide (x10 < 0) then
      none
    else
      some (shr .u64 x9 x10) := by kernel_rfl
noncomputable def bits_shift.g (fu : Nat) (a0 : Int) (a1 : Int) (a2 : Int) (a3 : Int) : Option (Int) :=
  (bits_Cut.f a1 a2).bind fun r1 =>
  (bits_Cut.f a1 a3).bind fun r2 =>
  (bits_clamp.f a1).bind fun r3 =>
  bif (a0 == 2) then
    (bits_Signed.f a1 r1).bind fun r4 =>
    bif (decide (r4 < 0)) then
      bif (decide (r2 ≥ (IntKind.u64.wrap r3))) then
        (bits_Mask.f a1).bind fun r5 =>
        some r5
      else
        (bits_Signed.f a1 r1).bind fun r6 =>
        bif decide (r2 < 0) then
          none
        else
          (bits_Cut.f a1 (IntKind.u64.wrap (shr .i64 r6 r2))).bind fun r7 =>
          some r7
    else
      bits_shift.p10 fu fu r1 r2 (decide (r2 ≥ (IntKind.u64.wrap r3)))
  else
    bif (a0 == 1) then
      bits_shift.p10 fu fu r1 r2 (decide (r2 ≥ (IntKind.u64.wrap r3)))
    else
      bif (decide (r2 ≥ (IntKind.u64.wrap r3))) then
        some 0
      else
        bif decide (r2 < 0) then
          none
        else
          (bits_Cut.f a1 (shl .u64 r1 r2)).bind fun r8 =>
          some r8
noncomputable def bits_shift.f (a0 : Int) (a1 : Int) (a2 : Int) (a3 : Int) : Option (Int) := bits_shift.g (fuel0 + 1) a0 a1 a2 a3
theorem bits_shift.eq (fu : Nat) (a : Int × Int × Int × Int × Unit) : bodyK Tryd.prog bits_shift.cs bits_shift.live fu Tryd.f91 false (bits_shift.a.enc a) bits_shift.r.dec = bits_shift.g fu a.1 a.2.1 a.2.2.1 a.2.2.2.1 := by kernel_rfl
theorem bits_shift.con : ∀ (a : Int × Int × Int × Int × Unit) (r : Int), bits_shift.f a.1 a.2.1 a.2.2.1 a.2.2.2.1 = some r → Contract Tryd.prog 91 (bits_shift.a.enc a) (bits_shift.r.enc r) := Contract.of_body (F := fun (a : Int × Int × Int × Int × Unit) => bits_shift.f a.1 a.2.1 a.2.2.1 a.2.2.2.1) (fn := Tryd.f91) (cs := bits_shift.cs) (live := bits_shift.live) (fuel := fuel0 + 1) (by kernel_rfl) (by kernel_rfl) mixed (bits_shift.eq (fuel0 + 1))
noncomputable def bits_shift.c : Kn Tryd.prog := Kn.of 91 bits_shift.a bits_shift.r (fun a => bits_shift.f a.1 a.2.1 a.2.2.1 a.2.2.2.1) bits_shift.con

/-! ### bits_Shl: function 76 -/
def bits_Shl.a : ACods (Int × Int × Int × Unit) := (.cons (.val (.int .i64)) (.cons (.val (.int .u64)) (.cons (.val (.int .u64)) .nil)))
def bits_Shl.r : RCod (Int) := .val (.int .u64)
noncomputable def bits_Shl.cs : List (Kn Tryd.prog) := [bits_shift.c]
def bits_Shl.live : Nat → Option Keep := liveOf []
noncomputable def bits_Shl.body : Code := bodyOf Tryd.f76
noncomputable def bits_Shl.K (fu : Nat) : Code → St → (Ex → St → Option (Int)) → Option (Int) := codeK Tryd.prog (bits_Shl.cs) bits_Shl.live fu
noncomputable def bits_Shl.f (a0 : Int) (a1 : Int) (a2 : Int) : Option (Int) :=
  (bits_shift.f 0 a0 a1 a2).bind fun r1 =>
  some r1
theorem bits_Shl.eq (fu : Nat) (a : Int × Int × Int × Unit) : bodyK Tryd.prog bits_Shl.cs bits_Shl.live fu Tryd.f76 false (bits_Shl.a.enc a) bits_Shl.r.dec = bits_Shl.f a.1 a.2.1 a.2.2.1 := by kernel_rfl
theorem bits_Shl.con : ∀ (a : Int × Int × Int × Unit) (r : Int), bits_Shl.f a.1 a.2.1 a.2.2.1 = some r → Contract Tryd.prog 76 (bits_Shl.a.enc a) (bits_Shl.r.enc r) := Contract.of_body (F := fun (a : Int × Int × Int × Unit) => bits_Shl.f a.1 a.2.1 a.2.2.1) (fn := Tryd.f76) (cs := bits_Shl.cs) (live := bits_Shl.live) (fuel := fuel0 + 1) (by kernel_rfl) (by kernel_rfl) mixed (bits_Shl.eq (fuel0 + 1))
noncomputable def bits_Shl.c : Kn Tryd.prog := Kn.of 76 bits_Shl.a bits_Shl.r (fun a => bits_Shl.f a.1 a.2.1 a.2.2.1) bits_Shl.con

/-! ### bits_Lshr: function 77 -/
def bits_Lshr.a : ACods (Int × Int × Int × Unit) := (.cons (.val (.int .i64)) (.cons (.val (.int .u64)) (.cons (.val (.int .u64)) .nil)))
def bits_Lshr.r : RCod (Int) := .val (.int .u64)
noncomputable def bits_Lshr.cs : List (Kn Tryd.prog) := [bits_shift.c]
def bits_Lshr.live : Nat → Option Keep := liveOf []
noncomputable def bits_Lshr.body : Code := bodyOf Tryd.f77
noncomputable def bits_Lshr.K (fu : Nat) : Code → St → (Ex → St → Option (Int)) → Option (Int) := codeK Tryd.prog (bits_Lshr.cs) bits_Lshr.live fu
noncomputable def bits_Lshr.f (a0 : Int) (a1 : Int) (a2 : Int) : Option (Int) :=
  (bits_shift.f 1 a0 a1 a2).bind fun r1 =>
  some r1
theorem bits_Lshr.eq (fu : Nat) (a : Int × Int × Int × Unit) : bodyK Tryd.prog bits_Lshr.cs bits_Lshr.live fu Tryd.f77 false (bits_Lshr.a.enc a) bits_Lshr.r.dec = bits_Lshr.f a.1 a.2.1 a.2.2.1 := by kernel_rfl
theorem bits_Lshr.con : ∀ (a : Int × Int × Int × Unit) (r : Int), bits_Lshr.f a.1 a.2.1 a.2.2.1 = some r → Contract Tryd.prog 77 (bits_Lshr.a.enc a) (bits_Lshr.r.enc r) := Contract.of_body (F := fun (a : Int × Int × Int × Unit) => bits_Lshr.f a.1 a.2.1 a.2.2.1) (fn := Tryd.f77) (cs := bits_Lshr.cs) (live := bits_Lshr.live) (fuel := fuel0 + 1) (by kernel_rfl) (by kernel_rfl) mixed (bits_Lshr.eq (fuel0 + 1))
noncomputable def bits_Lshr.c : Kn Tryd.prog := Kn.of 77 bits_Lshr.a bits_Lshr.r (fun a => bits_Lshr.f a.1 a.2.1 a.2.2.1) bits_Lshr.con

/-! ### bits_Ashr: function 78 -/
def bits_Ashr.a : ACods (Int × Int × Int × Unit) := (.cons (.val (.int .i64)) (.cons (.val (.int .u64)) (.cons (.val (.int .u64)) .nil)))
def bits_Ashr.r : RCod (Int) := .val (.int .u64)
noncomputable def bits_Ashr.cs : List (Kn Tryd.prog) := [bits_shift.c]
def bits_Ashr.live : Nat → Option Keep := liveOf []
noncomputable def bits_Ashr.body : Code := bodyOf Tryd.f78
noncomputable def bits_Ashr.K (fu : Nat) : Code → St → (Ex → St → Option (Int)) → Option (Int) := codeK Tryd.prog (bits_Ashr.cs) bits_Ashr.live fu
noncomputable def bits_Ashr.f (a0 : Int) (a1 : Int) (a2 : Int) : Option (Int) :=
  (bits_shift.f 2 a0 a1 a2).bind fun r1 =>
  some r1
theorem bits_Ashr.eq (fu : Nat) (a : Int × Int × Int × Unit) : bodyK Tryd.prog bits_Ashr.cs bits_Ashr.live fu Tryd.f78 false (bits_Ashr.a.enc a) bits_Ashr.r.dec = bits_Ashr.f a.1 a.2.1 a.2.2.1 := by kernel_rfl
theorem bits_Ashr.con : ∀ (a : Int × Int × Int × Unit) (r : Int), bits_Ashr.f a.1 a.2.1 a.2.2.1 = some r → Contract Tryd.prog 78 (bits_Ashr.a.enc a) (bits_Ashr.r.enc r) := Contract.of_body (F := fun (a : Int × Int × Int × Unit) => bits_Ashr.f a.1 a.2.1 a.2.2.1) (fn := Tryd.f78) (cs := bits_Ashr.cs) (live := bits_Ashr.live) (fuel := fuel0 + 1) (by kernel_rfl) (by kernel_rfl) mixed (bits_Ashr.eq (fuel0 + 1))
noncomputable def bits_Ashr.c : Kn Tryd.prog := Kn.of 78 bits_Ashr.a bits_Ashr.r (fun a => bits_Ashr.f a.1 a.2.1 a.2.2.1) bits_Ashr.con

/-! ### exec_truth: function 79 -/
def exec_truth.a : ACods (Bool × Unit) := (.cons (.val (.bool)) .nil)
def exec_truth.r : RCod (Int) := .val (.int .u64)
noncomputable def exec_truth.cs : List (Kn Tryd.prog) := []
def exec_truth.live : Nat → Option Keep := liveOf []
noncomputable def exec_truth.body : Code := bodyOf Tryd.f79
noncomputable def exec_truth.K (fu : Nat) : Code → St → (Ex → St → Option (Int)) → Option (Int) := codeK Tryd.prog (exec_truth.cs) exec_truth.live fu
noncomputable def exec_truth.f (a0 : Bool) : Option (Int) :=
  bif a0 then
    some 1
  else
    some 0
theorem exec_truth.eq (fu : Nat) (a : Bool × Unit) : bodyK Tryd.prog exec_truth.cs exec_truth.live fu Tryd.f79 false (exec_truth.a.enc a) exec_truth.r.dec = exec_truth.f a.1 := by kernel_rfl
theorem exec_truth.con : ∀ (a : Bool × Unit) (r : Int), exec_truth.f a.1 = some r → Contract Tryd.prog 79 (exec_truth.a.enc a) (exec_truth.r.enc r) := Contract.of_body (F := fun (a : Bool × Unit) => exec_truth.f a.1) (fn := Tryd.f79) (cs := exec_truth.cs) (live := exec_truth.live) (fuel := fuel0 + 1) (by kernel_rfl) (by kernel_rfl) mixed (exec_truth.eq (fuel0 + 1))
noncomputable def exec_truth.c : Kn Tryd.prog := Kn.of 79 exec_truth.a exec_truth.r (fun a => exec_truth.f a.1) exec_truth.con

/-! ### bits_flag: function 92 -/
def bits_flag.a : ACods (Bool × Unit) := (.cons (.val (.bool)) .nil)
def bits_flag.r : RCod (Int) := .val (.int .u64)
noncomputable def bits_flag.cs : List (Kn Tryd.prog) := []
def bits_flag.live : Nat → Option Keep := liveOf []
noncomputable def bits_flag.body : Code := bodyOf Tryd.f92
noncomputable def bits_flag.K (fu : Nat) : Code → St → (Ex → St → Option (Int)) → Option (Int) := codeK Tryd.prog (bits_flag.cs) bits_flag.live fu
noncomputable def bits_flag.f (a0 : Bool) : Option (Int) :=
  bif a0 then
    some 1
  else
    some 0
theorem bits_flag.eq (fu : Nat) (a : Bool × Unit) : bodyK Tryd.prog bits_flag.cs bits_flag.live fu Tryd.f92 false (bits_flag.a.enc a) bits_flag.r.dec = bits_flag.f a.1 := by kernel_rfl
theorem bits_flag.con : ∀ (a : Bool × Unit) (r : Int), bits_flag.f a.1 = some r → Contract Tryd.prog 92 (bits_flag.a.enc a) (bits_flag.r.enc r) := Contract.of_body (F := fun (a : Bool × Unit) => bits_flag.f a.1) (fn := Tryd.f92) (cs := bits_flag.cs) (live := bits_flag.live) (fuel := fuel0 + 1) (by kernel_rfl) (by kernel_rfl) mixed (bits_flag.eq (fuel0 + 1))
noncomputable def bits_flag.c : Kn Tryd.prog := Kn.of 92 bits_flag.a bits_flag.r (fun a => bits_flag.f a.1) bits_flag.con

/-! ### bits_Slt: function 80 -/
def bits_Slt.a : ACods (Int × Int × Int × Unit) := (.cons (.val (.int .i64)) (.cons (.val (.int .u64)) (.cons (.val (.int .u64)) .nil)))
def bits_Slt.r : RCod (Int) := .val (.int .u64)
noncomputable def bits_Slt.cs : List (Kn Tryd.prog) := [bits_Signed.c, bits_flag.c]
def bits_Slt.live : Nat → Option Keep := liveOf []
noncomputable def bits_Slt.body : Code := bodyOf Tryd.f80
noncomputable def bits_Slt.K (fu : Nat) : Code → St → (Ex → St → Option (Int)) → Option (Int) := codeK Tryd.prog (bits_Slt.cs) bits_Slt.live fu
noncomputable def bits_Slt.f (a0 : Int) (a1 : Int) (a2 : Int) : Option (Int) :=
  (bits_Signed.f a0 a1).bind fun r1 =>
  (bits_Signed.f a0 a2).bind fun r2 =>
  (bits_flag.f (decide (r1 < r2))).bind fun r3 =>
  some r3
theorem bits_Slt.eq (fu : Nat) (a : Int × Int × Int × Unit) : bodyK Tryd.prog bits_Slt.cs bits_Slt.live fu Tryd.f80 false (bits_Slt.a.enc a) bits_Slt.r.dec = bits_Slt.f a.1 a.2.1 a.2.2.1 := by kernel_rfl
theorem bits_Slt.con : ∀ (a : Int × Int × Int × Unit) (r : Int), bits_Slt.f a.1 a.2.1 a.2.2.1 = some r → Contract Tryd.prog 80 (bits_Slt.a.enc a) (bits_Slt.r.enc r) := Contract.of_body (F := fun (a : Int × Int × Int × Unit) => bits_Slt.f a.1 a.2.1 a.2.2.1) (fn := Tryd.f80) (cs := bits_Slt.cs) (live := bits_Slt.live) (fuel := fuel0 + 1) (by kernel_rfl) (by kernel_rfl) mixed (bits_Slt.eq (fuel0 + 1))
noncomputable def bits_Slt.c : Kn Tryd.prog := Kn.of 80 bits_Slt.a bits_Slt.r (fun a => bits_Slt.f a.1 a.2.1 a.2.2.1) bits_Slt.con

/-! ### exec_value: function 50 -/
def exec_value.a : ACods (Int × (Int × Int × Int × Int × Int × Int) × List Tm × Unit) := (.cons (.val (.int .i64)) (.cons (.val (.agg (.cons (.int .i64) (.cons (.int .i64) (.cons (.int .i64) (.cons (.int .i64) (.cons (.int .i64) (.one (.int .u64))))))))) (.cons (.tms 0) .nil)))
def exec_value.r : RCod (Option Int) := .pan 64 (.int .u64)
noncomputable def exec_value.cs : List (Kn Tryd.prog) := [exec_value_1.c, bits_Cut.c, bits_Not.c, bits_Neg.c, bits_Add.c, bits_Sub.c, bits_Mul.c, bits_Shl.c, bits_Lshr.c, bits_Ashr.c, exec_truth.c, bits_Slt.c]
def exec_value.live : Nat → Option Keep := liveOf [(56, ⟨[4, 8, 9], [4], [], [], []⟩)]
noncomputable def exec_value.body : Code := bodyOf Tryd.f50
noncomputable def exec_value.K (fu : Nat) : Code → St → (Ex → St → Option (Option Int)) → Option (Option Int) := codeK Tryd.prog (exec_value.cs) exec_value.live fu
noncomputable def exec_value.p28 (m fu : Nat) (x8 : Int) (x9 : Int) (c4_0 : Int) (c4_1 : Int) (c4_2 : Int) (c4_3 : Int) (c4_4 : Int) (c4_5 : Int) : Option (Option Int) :=
  joinK m (exec_value.K fu (sub exec_value.body [true, true, true, false, true, false, true, true, true, true, true, true, true, true, true, true, true, true, true, true, true, true, true, true, true, true, true, false, true])) (stOf 132 [(4, .ptr 4 0 0 0), (8, .val (.int .u64 x8)), (9, .val (.int .u64 x9))] [(4, .own [.val (.int .i64 c4_0), .val (.int .i64 c4_1), .val (.int .i64 c4_2), .val (.int .i64 c4_3), .val (.int .i64 c4_4), .val (.int .u64 c4_5)])]) (blockC 0 (seqC fu (exec_value.live 86) (exec_value.K fu (sub exec_value.body [true, true, true, true])) (retC Tryd.prog false (Tryd.f50.results) exec_value.r.dec)))
theorem exec_value.p28_eq (m fu : Nat) (x8 : Int) (x9 : Int) (c4_0 : Int) (c4_1 : Int) (c4_2 : Int) (c4_3 : Int) (c4_4 : Int) (c4_5 : Int) : exec_value.p28 (m + 1) fu x8 x9 c4_0 c4_1 c4_2 c4_3 c4_4 c4_5 =
  bif (c4_0 == 11) then
    bif decide (x9 = 0) then
      none
    else
      some (some (IntKind.u64.wrap (Int.tdiv x8 x9)))
  else
    bif decide (x9 = 0) then
      none
    else
      some (some (Int.tmod x8 x9)) := by kernel_rfl
noncomputable def exec_value.g (fu : Nat) (a0 : Int) (a1 : Int × Int × Int × Int × Int × Int) (a2 : List Tm) : Option (Option Int) :=
  (exec_value_1.f a1.2.2.1 a2).bind fun r1 =>
  (exec_value_1.f a1.2.2.2.1 a2).bind fun r2 =>
  bif (a1.1 == 1) then
    (bits_Cut.f a0 a1.2.2.2.2.2).bind fun r3 =>
    some (some r3)
  else
    bif (a1.1 == 2) then
      some (some r1)
    else
      bif (a1.1 == 3) then
        (bits_Not.f a0 r1).bind fun r4 =>
        some (some r4)
      else
        bif (a1.1 == 4) then
          (bits_Neg.f a0 r1).bind fun r5 =>
          some (some r5)
        else
          bif (a1.1 == 5) then
            some (some (Go.bits .and .u64 r1 r2))
          else
            bif (a1.1 == 6) then
              some (some (Go.bits .or .u64 r1 r2))
            else
              bif (a1.1 == 7) then
                some (some (Go.bits .xor .u64 r1 r2))
              else
                bif (a1.1 == 8) then
                  (bits_Add.f a0 r1 r2).bind fun r6 =>
                  some (some r6)
                else
                  bif (a1.1 == 9) then
                    (bits_Sub.f a0 r1 r2).bind fun r7 =>
                    some (some r7)
                  else
                    bif (a1.1 == 10) then
                      (bits_Mul.f a0 r1 r2).bind fun r8 =>
                      some (some r8)
                    else
                      bif (a1.1 == 11) then
                        bif (r2 == 0) then
                          some none
                        else
                          exec_value.p28 fu fu r1 r2 a1.1 a1.2.1 a1.2.2.1 a1.2.2.2.1 a1.2.2.2.2.1 a1.2.2.2.2.2
                      else
                        bif (a1.1 == 12) then
                          bif (r2 == 0) then
                            some none
                          else
                            exec_value.p28 fu fu r1 r2 a1.1 a1.2.1 a1.2.2.1 a1.2.2.2.1 a1.2.2.2.2.1 a1.2.2.2.2.2
                        else
                          bif (a1.1 == 13) then
                            (bits_Shl.f a0 r1 r2).bind fun r9 =>
                            some (some r9)
                          else
                            bif (a1.1 == 14) then
                              (bits_Lshr.f a0 r1 r2).bind fun r10 =>
                              some (some r10)
                            else
                              bif (a1.1 == 15) then
                                (bits_Ashr.f a0 r1 r2).bind fun r11 =>
                                some (some r11)
                              else
                                bif (a1.1 == 16) then
                                  (exec_truth.f (r1 == r2)).bind fun r12 =>
                                  some (some r12)
                                else
                                  bif (a1.1 == 17) then
                                    (exec_truth.f (decide (r1 < r2))).bind fun r13 =>
                                    some (some r13)
                                  else
                                    bif (a1.1 == 18) then
                                      (bits_Slt.f a0 r1 r2).bind fun r14 =>
                                      some (some r14)
                                    else
                                      bif (r1 != 0) then
                                        some (some r2)
                                      else
                                        (exec_value_1.f a1.2.2.2.2.1 a2).bind fun r15 =>
                                        some (some r15)
noncomputable def exec_value.f (a0 : Int) (a1 : Int × Int × Int × Int × Int × Int) (a2 : List Tm) : Option (Option Int) := exec_value.g (fuel0 + 1) a0 a1 a2
theorem exec_value.eq (fu : Nat) (a : Int × (Int × Int × Int × Int × Int × Int) × List Tm × Unit) : bodyK Tryd.prog exec_value.cs exec_value.live fu Tryd.f50 false (exec_value.a.enc a) exec_value.r.dec = exec_value.g fu a.1 a.2.1 a.2.2.1 := by kernel_rfl
theorem exec_value.con : ∀ (a : Int × (Int × Int × Int × Int × Int × Int) × List Tm × Unit) (r : Option Int), exec_value.f a.1 a.2.1 a.2.2.1 = some r → Contract Tryd.prog 50 (exec_value.a.enc a) (exec_value.r.enc r) := Contract.of_body (F := fun (a : Int × (Int × Int × Int × Int × Int × Int) × List Tm × Unit) => exec_value.f a.1 a.2.1 a.2.2.1) (fn := Tryd.f50) (cs := exec_value.cs) (live := exec_value.live) (fuel := fuel0 + 1) (by kernel_rfl) (by kernel_rfl) mixed (exec_value.eq (fuel0 + 1))
noncomputable def exec_value.c : Kn Tryd.prog := Kn.of 50 exec_value.a exec_value.r (fun a => exec_value.f a.1 a.2.1 a.2.2.1) exec_value.con

/-! ### exec_words: function 30 -/
def exec_words.a : ACods (Int × Int × List Tm × Unit) := (.cons (.val (.int .i64)) (.cons (.val (.int .i64)) (.cons (.tms 0) .nil)))
def exec_words.r : RCod (List Tm) := .gsl 45 0
noncomputable def exec_words.cs : List (Kn Tryd.prog) := [bits_Cut.c]
def exec_words.live : Nat → Option Keep := liveOf [(7, ⟨[0, 2, 7, 14, 15], [10], [], [], []⟩)]
noncomputable def exec_words.body : Code := bodyOf Tryd.f30
noncomputable def exec_words.K (fu : Nat) : Code → St → (Ex → St → Option (List Tm)) → Option (List Tm) := codeK Tryd.prog (exec_words.cs) exec_words.live fu
noncomputable def exec_words.j3 (fu : Nat) (n3 : Nat) (x0 : Int) (x2l : List Tm) (x7n : Nat) (x14 : Int) (x15 : Int) (l10 : List Tm) : Option (List Tm) :=
  loopK (exec_words.K fu (sub exec_words.body [true, true, false, true, false, false])) (exec_words.live 7) n3 (stOf 29 [(0, .val (.int .i64 x0)), (2, .tsl 0 x2l), (7, .sl 10 1 x7n), (14, .val (.int .i64 x14)), (15, .val (.int .i64 x15))] [(10, .growK 45 0 l10)]) (blockC 0 (seqC fu (exec_words.live 14) (exec_words.K fu (sub exec_words.body [true, true, true])) (retC Tryd.prog true (Tryd.f30.results) exec_words.r.dec)))
theorem exec_words.j3_succ (fu : Nat) (n3 : Nat) (x0 : Int) (x2l : List Tm) (x7n : Nat) (x14 : Int) (x15 : Int) (l10 : List Tm) : exec_words.j3 fu (n3 + 1) x0 x2l x7n x14 x15 l10 =
  bif (decide (x15 < x14)) then
    bif decide (0 ≤ x15) then
      bif decide (x15 < (x2l.length : Int)) then
        ((x2l[x15.toNat]? : Option Tm)).bind fun u1 =>
        (bits_Cut.f x0 u1.x).bind fun r2 =>
        bif decide (0 ≤ x15) then
          bif decide (x15 < (x7n : Int)) then
            exec_words.j3 fu n3 x0 x2l x7n x14 (IntKind.i64.wrap (x15 + 1)) (l10.set x15.toNat (Tm.mk r2 []))
          else
            none
        else
          none
      else
        none
    else
      none
  else
    some l10 := by kernel_rfl
noncomputable def exec_words.g (fu : Nat) (a0 : Int) (a1 : Int) (a2 : List Tm) : Option (List Tm) :=
  bif decide (0 ≤ a1) then
    bif Nat.ble (a1.toNat * 8) 140737488355328 then
      exec_words.j3 fu fu a0 a2 a1.toNat (mn a1 (a2.length : Int)) 0 (List.replicate a1.toNat (Tm.mk 0 []))
    else
      none
  else
    none
noncomputable def exec_words.f (a0 : Int) (a1 : Int) (a2 : List Tm) : Option (List Tm) := exec_words.g (fuel0 + 1) a0 a1 a2
theorem exec_words.eq (fu : Nat) (a : Int × Int × List Tm × Unit) : bodyK Tryd.prog exec_words.cs exec_words.live fu Tryd.f30 true (exec_words.a.enc a) exec_words.r.dec = exec_words.g fu a.1 a.2.1 a.2.2.1 := by kernel_rfl
theorem exec_words.con : ∀ (a : Int × Int × List Tm × Unit) (r : List Tm), exec_words.f a.1 a.2.1 a.2.2.1 = some r → Contract Tryd.prog 30 (exec_words.a.enc a) (exec_words.r.enc r) := Contract.of_body (F := fun (a : Int × Int × List Tm × Unit) => exec_words.f a.1 a.2.1 a.2.2.1) (fn := Tryd.f30) (cs := exec_words.cs) (live := exec_words.live) (fuel := fuel0 + 1) (by kernel_rfl) (by kernel_rfl) mixed (exec_words.eq (fuel0 + 1))
noncomputable def exec_words.c : Kn Tryd.prog := Kn.of 30 exec_words.a exec_words.r (fun a => exec_words.f a.1 a.2.1 a.2.2.1) exec_words.con

/-! ### isa_known: function 53 -/
def isa_known.a : ACods (Int × Unit) := (.cons (.val (.int .i64)) .nil)
def isa_known.r : RCod (Bool) := .val (.bool)
noncomputable def isa_known.cs : List (Kn Tryd.prog) := []
def isa_known.live : Nat → Option Keep := liveOf []
noncomputable def isa_known.body : Code := bodyOf Tryd.f53
noncomputable def isa_known.K (fu : Nat) : Code → St → (Ex → St → Option (Bool)) → Option (Bool) := codeK Tryd.prog (isa_known.cs) isa_known.live fu
noncomputable def isa_known.f (a0 : Int) : Option (Bool) :=
  bif (decide (a0 ≥ 0)) then
    some (decide (a0 < 20))
  else
    some false
theorem isa_known.eq (fu : Nat) (a : Int × Unit) : bodyK Tryd.prog isa_known.cs isa_known.live fu Tryd.f53 false (isa_known.a.enc a) isa_known.r.dec = isa_known.f a.1 := by kernel_rfl
theorem isa_known.con : ∀ (a : Int × Unit) (r : Bool), isa_known.f a.1 = some r → Contract Tryd.prog 53 (isa_known.a.enc a) (isa_known.r.enc r) := Contract.of_body (F := fun (a : Int × Unit) => isa_known.f a.1) (fn := Tryd.f53) (cs := isa_known.cs) (live := isa_known.live) (fuel := fuel0 + 1) (by kernel_rfl) (by kernel_rfl) mixed (isa_known.eq (fuel0 + 1))
noncomputable def isa_known.c : Kn Tryd.prog := Kn.of 53 isa_known.a isa_known.r (fun a => isa_known.f a.1) isa_known.con

/-! ### isa_Def: function 40 -/
def isa_Def.a : ACods ((Int × Int × Int × Int × Int × Int) × Unit) := (.cons (.val (.agg (.cons (.int .i64) (.cons (.int .i64) (.cons (.int .i64) (.cons (.int .i64) (.cons (.int .i64) (.one (.int .u64))))))))) .nil)
def isa_Def.r : RCod (Int × Bool) := .val (.tup (.cons (.int .i64) (.one (.bool))))
noncomputable def isa_Def.cs : List (Kn Tryd.prog) := [isa_known.c]
def isa_Def.live : Nat → Option Keep := liveOf []
noncomputable def isa_Def.body : Code := bodyOf Tryd.f40
noncomputable def isa_Def.K (fu : Nat) : Code → St → (Ex → St → Option (Int × Bool)) → Option (Int × Bool) := codeK Tryd.prog (isa_Def.cs) isa_Def.live fu
noncomputable def isa_Def.f (a0 : Int × Int × Int × Int × Int × Int) : Option (Int × Bool) :=
  (isa_known.f a0.1).bind fun r1 =>
  bif (!r1) then
    some (0, false)
  else
    bif (a0.1 == 0) then
      some (0, false)
    else
      some (a0.2.1, true)
theorem isa_Def.eq (fu : Nat) (a : (Int × Int × Int × Int × Int × Int) × Unit) : bodyK Tryd.prog isa_Def.cs isa_Def.live fu Tryd.f40 false (isa_Def.a.enc a) isa_Def.r.dec = isa_Def.f a.1 := by kernel_rfl
theorem isa_Def.con : ∀ (a : (Int × Int × Int × Int × Int × Int) × Unit) (r : Int × Bool), isa_Def.f a.1 = some r → Contract Tryd.prog 40 (isa_Def.a.enc a) (isa_Def.r.enc r) := Contract.of_body (F := fun (a : (Int × Int × Int × Int × Int × Int) × Unit) => isa_Def.f a.1) (fn := Tryd.f40) (cs := isa_Def.cs) (live := isa_Def.live) (fuel := fuel0 + 1) (by kernel_rfl) (by kernel_rfl) mixed (isa_Def.eq (fuel0 + 1))
noncomputable def isa_Def.c : Kn Tryd.prog := Kn.of 40 isa_Def.a isa_Def.r (fun a => isa_Def.f a.1) isa_Def.con

/-! ### isa_ins_1: function 65 -/
def isa_ins_1.a : ACods (Int × (Int × Int × (Nat × (Nat → Int) × (Nat → Int) × (Nat → Int) × (Nat → Int) × (Nat → Int) × (Nat → Int)) × (Nat × (Nat → Int))) × Unit) := (.cons (.val (.int .i64)) (.cons (.cells (.cons (.val (.int .i64)) (.cons (.val (.int .i64)) (.cons (.rows (.int .i64 (.int .i64 (.int .i64 (.int .i64 (.int .i64 (.int1 .u64))))))) (.one (.rows (.int1 .i64))))))) .nil))
def isa_ins_1.r : RCod (Bool) := .val (.bool)
noncomputable def isa_ins_1.cs : List (Kn Tryd.prog) := []
def isa_ins_1.live : Nat → Option Keep := liveOf []
noncomputable def isa_ins_1.body : Code := bodyOf Tryd.f65
noncomputable def isa_ins_1.K (fu : Nat) : Code → St → (Ex → St → Option (Bool)) → Option (Bool) := codeK Tryd.prog (isa_ins_1.cs) isa_ins_1.live fu
noncomputable def isa_ins_1.f (a0 : Int) (a1 : Int × Int × (Nat × (Nat → Int) × (Nat → Int) × (Nat → Int) × (Nat → Int) × (Nat → Int) × (Nat → Int)) × (Nat × (Nat → Int))) : Option (Bool) :=
  bif (decide (a0 ≥ 0)) then
    some (decide (a0 < a1.2.1))
  else
    some false
theorem isa_ins_1.eq (fu : Nat) (a : Int × (Int × Int × (Nat × (Nat → Int) × (Nat → Int) × (Nat → Int) × (Nat → Int) × (Nat → Int) × (Nat → Int)) × (Nat × (Nat → Int))) × Unit) : bodyK Tryd.prog isa_ins_1.cs isa_ins_1.live fu Tryd.f65 false (isa_ins_1.a.enc a) isa_ins_1.r.dec = isa_ins_1.f a.1 a.2.1 := by kernel_rfl
theorem isa_ins_1.con : ∀ (a : Int × (Int × Int × (Nat × (Nat → Int) × (Nat → Int) × (Nat → Int) × (Nat → Int) × (Nat → Int) × (Nat → Int)) × (Nat × (Nat → Int))) × Unit) (r : Bool), isa_ins_1.f a.1 a.2.1 = some r → Contract Tryd.prog 65 (isa_ins_1.a.enc a) (isa_ins_1.r.enc r) := Contract.of_body (F := fun (a : Int × (Int × Int × (Nat × (Nat → Int) × (Nat → Int) × (Nat → Int) × (Nat → Int) × (Nat → Int) × (Nat → Int)) × (Nat × (Nat → Int))) × Unit) => isa_ins_1.f a.1 a.2.1) (fn := Tryd.f65) (cs := isa_ins_1.cs) (live := isa_ins_1.live) (fuel := fuel0 + 1) (by kernel_rfl) (by kernel_rfl) mixed (isa_ins_1.eq (fuel0 + 1))
noncomputable def isa_ins_1.c : Kn Tryd.prog := Kn.of 65 isa_ins_1.a isa_ins_1.r (fun a => isa_ins_1.f a.1 a.2.1) isa_ins_1.con

/-! ### isa_Sources: function 38 -/
def isa_Sources.a : ACods (Int × Unit) := (.cons (.val (.int .i64)) .nil)
def isa_Sources.r : RCod (Int) := .val (.int .i64)
noncomputable def isa_Sources.cs : List (Kn Tryd.prog) := [isa_known.c]
def isa_Sources.live : Nat → Option Keep := liveOf []
noncomputable def isa_Sources.body : Code := bodyOf Tryd.f38
noncomputable def isa_Sources.K (fu : Nat) : Code → St → (Ex → St → Option (Int)) → Option (Int) := codeK Tryd.prog (isa_Sources.cs) isa_Sources.live fu
noncomputable def isa_Sources.f (a0 : Int) : Option (Int) :=
  (isa_known.f a0).bind fun r1 =>
  bif (!r1) then
    some (-1)
  else
    bif decide (0 ≤ a0) then
      bif decide (a0 < (20 : Int)) then
        some (gtab0_1 a0.toNat)
      else
        none
    else
      none
theorem isa_Sources.eq (fu : Nat) (a : Int × Unit) : bodyK Tryd.prog isa_Sources.cs isa_Sources.live fu Tryd.f38 false (isa_Sources.a.enc a) isa_Sources.r.dec = isa_Sources.f a.1 := by kernel_rfl
theorem isa_Sources.con : ∀ (a : Int × Unit) (r : Int), isa_Sources.f a.1 = some r → Contract Tryd.prog 38 (isa_Sources.a.enc a) (isa_Sources.r.enc r) := Contract.of_body (F := fun (a : Int × Unit) => isa_Sources.f a.1) (fn := Tryd.f38) (cs := isa_Sources.cs) (live := isa_Sources.live) (fuel := fuel0 + 1) (by kernel_rfl) (by kernel_rfl) mixed (isa_Sources.eq (fuel0 + 1))
noncomputable def isa_Sources.c : Kn Tryd.prog := Kn.of 38 isa_Sources.a isa_Sources.r (fun a => isa_Sources.f a.1) isa_Sources.con

/-! ### isa_Uses: function 39 -/
def isa_Uses.a : ACods ((Int × Int × Int × Int × Int × Int) × Unit) := (.cons (.val (.agg (.cons (.int .i64) (.cons (.int .i64) (.cons (.int .i64) (.cons (.int .i64) (.cons (.int .i64) (.one (.int .u64))))))))) .nil)
def isa_Uses.r : RCod (Nat × (Nat → Int)) := .rows (.int1 .i64)
noncomputable def isa_Uses.cs : List (Kn Tryd.prog) := [isa_Sources.c]
def isa_Uses.live : Nat → Option Keep := liveOf []
noncomputable def isa_Uses.body : Code := bodyOf Tryd.f39
noncomputable def isa_Uses.K (fu : Nat) : Code → St → (Ex → St → Option (Nat × (Nat → Int))) → Option (Nat × (Nat → Int)) := codeK Tryd.prog (isa_Uses.cs) isa_Uses.live fu
noncomputable def isa_Uses.f (a0 : Int × Int × Int × Int × Int × Int) : Option (Nat × (Nat → Int)) :=
  (isa_Sources.f a0.1).bind fun r1 =>
  bif decide (0 ≤ (mx r1 0)) then
    bif decide ((mx r1 0) ≤ (3 : Int)) then
      some ((mx r1 0).toNat, (fun i => [a0.2.2.1, a0.2.2.2.1, a0.2.2.2.2.1].getD i 0))
    else
      none
  else
    none
theorem isa_Uses.eq (fu : Nat) (a : (Int × Int × Int × Int × Int × Int) × Unit) : bodyK Tryd.prog isa_Uses.cs isa_Uses.live fu Tryd.f39 false (isa_Uses.a.enc a) isa_Uses.r.dec = isa_Uses.f a.1 := by kernel_rfl
theorem isa_Uses.con : ∀ (a : (Int × Int × Int × Int × Int × Int) × Unit) (r : Nat × (Nat → Int)), isa_Uses.f a.1 = some r → Contract Tryd.prog 39 (isa_Uses.a.enc a) (isa_Uses.r.enc r) := Contract.of_body (F := fun (a : (Int × Int × Int × Int × Int × Int) × Unit) => isa_Uses.f a.1) (fn := Tryd.f39) (cs := isa_Uses.cs) (live := isa_Uses.live) (fuel := fuel0 + 1) (by kernel_rfl) (by kernel_rfl) mixed (isa_Uses.eq (fuel0 + 1))
noncomputable def isa_Uses.c : Kn Tryd.prog := Kn.of 39 isa_Uses.a isa_Uses.r (fun a => isa_Uses.f a.1) isa_Uses.con

/-! ### isa_ins_2: function 68 -/
def isa_ins_2.a : ACods (Int × Unit) := (.cons (.val (.int .i64)) .nil)
def isa_ins_2.r : RCod (Bool) := .val (.bool)
noncomputable def isa_ins_2.cs : List (Kn Tryd.prog) := []
def isa_ins_2.live : Nat → Option Keep := liveOf []
noncomputable def isa_ins_2.body : Code := bodyOf Tryd.f68
noncomputable def isa_ins_2.K (fu : Nat) : Code → St → (Ex → St → Option (Bool)) → Option (Bool) := codeK Tryd.prog (isa_ins_2.cs) isa_ins_2.live fu
noncomputable def isa_ins_2.f (a0 : Int) : Option (Bool) :=
  some (a0 != 0)
theorem isa_ins_2.eq (fu : Nat) (a : Int × Unit) : bodyK Tryd.prog isa_ins_2.cs isa_ins_2.live fu Tryd.f68 false (isa_ins_2.a.enc a) isa_ins_2.r.dec = isa_ins_2.f a.1 := by kernel_rfl
theorem isa_ins_2.con : ∀ (a : Int × Unit) (r : Bool), isa_ins_2.f a.1 = some r → Contract Tryd.prog 68 (isa_ins_2.a.enc a) (isa_ins_2.r.enc r) := Contract.of_body (F := fun (a : Int × Unit) => isa_ins_2.f a.1) (fn := Tryd.f68) (cs := isa_ins_2.cs) (live := isa_ins_2.live) (fuel := fuel0 + 1) (by kernel_rfl) (by kernel_rfl) mixed (isa_ins_2.eq (fuel0 + 1))
noncomputable def isa_ins_2.c : Kn Tryd.prog := Kn.of 68 isa_ins_2.a isa_ins_2.r (fun a => isa_ins_2.f a.1) isa_ins_2.con

/-! ### slices_IndexFunc_int_int: function 90 -/
def slices_IndexFunc_int_int.a : ACods ((Nat × (Nat → Int)) × Unit × Unit) := (.cons (.rows (.int1 .i64)) (.cons (.fv 68) .nil))
def slices_IndexFunc_int_int.r : RCod (Int) := .val (.int .i64)
noncomputable def slices_IndexFunc_int_int.cs : List (Kn Tryd.prog) := [isa_ins_2.c]
def slices_IndexFunc_int_int.live : Nat → Option Keep := liveOf [(5, ⟨[0, 1, 7, 8], [0], [], [], []⟩)]
noncomputable def slices_IndexFunc_int_int.body : Code := bodyOf Tryd.f90
noncomputable def slices_IndexFunc_int_int.K (fu : Nat) : Code → St → (Ex → St → Option (Int)) → Option (Int) := codeK Tryd.prog (slices_IndexFunc_int_int.cs) slices_IndexFunc_int_int.live fu
noncomputable def slices_IndexFunc_int_int.j2 (fu : Nat) (n2 : Nat) (x0n : Nat) (x7 : Int) (x8 : Int) (m0 : Nat) (g0_0 : Nat → Int) : Option Int :=
  loopK (slices_IndexFunc_int_int.K fu (sub slices_IndexFunc_int_int.body [true, false, true, false, false])) (slices_IndexFunc_int_int.live 5) n2 (stOf 19 [(0, .sl 0 1 x0n), (1, .val (.func (.func 68) #[] #[])), (7, .val (.int .i64 x7)), (8, .val (.int .i64 x8))] [(0, .ext m0 [.int .i64 g0_0])]) (blockC 0 (seqC fu (slices_IndexFunc_int_int.live 14) (slices_IndexFunc_int_int.K fu (sub slices_IndexFunc_int_int.body [true, true])) (retC Tryd.prog false (Tryd.f90.results) slices_IndexFunc_int_int.r.dec)))
theorem slices_IndexFunc_int_int.j2_succ (fu : Nat) (n2 : Nat) (x0n : Nat) (x7 : Int) (x8 : Int) (m0 : Nat) (g0_0 : Nat → Int) : slices_IndexFunc_int_int.j2 fu (n2 + 1) x0n x7 x8 m0 g0_0 =
  bif (decide (x8 < x7)) then
    bif decide (0 ≤ x8) then
      bif decide (x8 < (x0n : Int)) then
        (isa_ins_2.f (g0_0 x8.toNat)).bind fun r1 =>
        bif r1 then
          some x8
        else
          slices_IndexFunc_int_int.j2 fu n2 x0n x7 (IntKind.i64.wrap (x8 + 1)) m0 g0_0
      else
        none
    else
      none
  else
    some (-1) := by kernel_rfl
noncomputable def slices_IndexFunc_int_int.g (fu : Nat) (a0 : Nat × (Nat → Int)) (a1 : Unit) : Option (Int) :=
  slices_IndexFunc_int_int.j2 fu fu a0.1 (a0.1 : Int) 0 a0.1 a0.2
noncomputable def slices_IndexFunc_int_int.f (a0 : Nat × (Nat → Int)) (a1 : Unit) : Option (Int) := slices_IndexFunc_int_int.g (fuel0 + 1) a0 a1
theorem slices_IndexFunc_int_int.eq (fu : Nat) (a : (Nat × (Nat → Int)) × Unit × Unit) : bodyK Tryd.prog slices_IndexFunc_int_int.cs slices_IndexFunc_int_int.live fu Tryd.f90 false (slices_IndexFunc_int_int.a.enc a) slices_IndexFunc_int_int.r.dec = slices_IndexFunc_int_int.g fu a.1 a.2.1 := by kernel_rfl
theorem slices_IndexFunc_int_int.con : ∀ (a : (Nat × (Nat → Int)) × Unit × Unit) (r : Int), slices_IndexFunc_int_int.f a.1 a.2.1 = some r → Contract Tryd.prog 90 (slices_IndexFunc_int_int.a.enc a) (slices_IndexFunc_int_int.r.enc r) := Contract.of_body (F := fun (a : (Nat × (Nat → Int)) × Unit × Unit) => slices_IndexFunc_int_int.f a.1 a.2.1) (fn := Tryd.f90) (cs := slices_IndexFunc_int_int.cs) (live := slices_IndexFunc_int_int.live) (fuel := fuel0 + 1) (by kernel_rfl) (by kernel_rfl) mixed (slices_IndexFunc_int_int.eq (fuel0 + 1))
noncomputable def slices_IndexFunc_int_int.c : Kn Tryd.prog := Kn.of 90 slices_IndexFunc_int_int.a slices_IndexFunc_int_int.r (fun a => slices_IndexFunc_int_int.f a.1 a.2.1) slices_IndexFunc_int_int.con

/-! ### slices_ContainsFunc_int_int: function 67 -/
def slices_ContainsFunc_int_int.a : ACods ((Nat × (Nat → Int)) × Unit × Unit) := (.cons (.rows (.int1 .i64)) (.cons (.fv 68) .nil))
def slices_ContainsFunc_int_int.r : RCod (Bool) := .val (.bool)
noncomputable def slices_ContainsFunc_int_int.cs : List (Kn Tryd.prog) := [slices_IndexFunc_int_int.c]
def slices_ContainsFunc_int_int.live : Nat → Option Keep := liveOf []
noncomputable def slices_ContainsFunc_int_int.body : Code := bodyOf Tryd.f67
noncomputable def slices_ContainsFunc_int_int.K (fu : Nat) : Code → St → (Ex → St → Option (Bool)) → Option (Bool) := codeK Tryd.prog (slices_ContainsFunc_int_int.cs) slices_ContainsFunc_int_int.live fu
noncomputable def slices_ContainsFunc_int_int.f (a0 : Nat × (Nat → Int)) (a1 : Unit) : Option (Bool) :=
  (slices_IndexFunc_int_int.f (a0.1, a0.2) ()).bind fun r1 =>
  some (decide (r1 ≥ 0))
theorem slices_ContainsFunc_int_int.eq (fu : Nat) (a : (Nat × (Nat → Int)) × Unit × Unit) : bodyK Tryd.prog slices_ContainsFunc_int_int.cs slices_ContainsFunc_int_int.live fu Tryd.f67 false (slices_ContainsFunc_int_int.a.enc a) slices_ContainsFunc_int_int.r.dec = slices_ContainsFunc_int_int.f a.1 a.2.1 := by kernel_rfl
theorem slices_ContainsFunc_int_int.con : ∀ (a : (Nat × (Nat → Int)) × Unit × Unit) (r : Bool), slices_ContainsFunc_int_int.f a.1 a.2.1 = some r → Contract Tryd.prog 67 (slices_ContainsFunc_int_int.a.enc a) (slices_ContainsFunc_int_int.r.enc r) := Contract.of_body (F := fun (a : (Nat × (Nat → Int)) × Unit × Unit) => slices_ContainsFunc_int_int.f a.1 a.2.1) (fn := Tryd.f67) (cs := slices_ContainsFunc_int_int.cs) (live := slices_ContainsFunc_int_int.live) (fuel := fuel0 + 1) (by kernel_rfl) (by kernel_rfl) mixed (slices_ContainsFunc_int_int.eq (fuel0 + 1))
noncomputable def slices_ContainsFunc_int_int.c : Kn Tryd.prog := Kn.of 67 slices_ContainsFunc_int_int.a slices_ContainsFunc_int_int.r (fun a => slices_ContainsFunc_int_int.f a.1 a.2.1) slices_ContainsFunc_int_int.con

/-! ### isa_ins: function 46 -/
def isa_ins.a : ACods ((Int × Int × (Nat × (Nat → Int) × (Nat → Int) × (Nat → Int) × (Nat → Int) × (Nat → Int) × (Nat → Int)) × (Nat × (Nat → Int))) × (Int × Int × Int × Int × Int × Int) × Unit) := (.cons (.pk (.cons (.val (.int .i64)) (.cons (.val (.int .i64)) (.cons (.rows (.int .i64 (.int .i64 (.int .i64 (.int .i64 (.int .i64 (.int1 .u64))))))) (.one (.rows (.int1 .i64))))))) (.cons (.val (.agg (.cons (.int .i64) (.cons (.int .i64) (.cons (.int .i64) (.cons (.int .i64) (.cons (.int .i64) (.one (.int .u64))))))))) .nil))
def isa_ins.r : RCod (Int) := .val (.int .i64)
noncomputable def isa_ins.cs : List (Kn Tryd.prog) := [isa_known.c, isa_Def.c, isa_ins_1.c, isa_Uses.c, bits_Mask.c, isa_Sources.c, slices_ContainsFunc_int_int.c]
def isa_ins.live : Nat → Option Keep := liveOf [(14, ⟨[2, 3, 5], [2, 3, 84, 85], [], [], []⟩), (17, ⟨[2, 3, 5, 29, 30, 31], [2, 3, 29, 84, 85], [], [], []⟩), (30, ⟨[3], [3], [], [], []⟩), (36, ⟨[3, 10], [3, 10], [(10, 3, [])], [], []⟩), (40, ⟨[], [], [], [], []⟩)]
noncomputable def isa_ins.body : Code := bodyOf Tryd.f46
noncomputable def isa_ins.K (fu : Nat) : Code → St → (Ex → St → Option (Int)) → Option (Int) := codeK Tryd.prog (isa_ins.cs) isa_ins.live fu
noncomputable def isa_ins.p7 (m fu : Nat) (c2_0 : Int) (c2_1 : Int) (c2_2n : Nat) (c2_3n : Nat) (c3_0 : Int) (c3_1 : Int) (c3_2 : Int) (c3_3 : Int) (c3_4 : Int) (c3_5 : Int) (m84 : Nat) (g84_0 : Nat → Int) (g84_1 : Nat → Int) (g84_2 : Nat → Int) (g84_3 : Nat → Int) (g84_4 : Nat → Int) (g84_5 : Nat → Int) (m85 : Nat) (g85_0 : Nat → Int) : Option Int :=
  joinK m (isa_ins.K fu (sub isa_ins.body [true, true, true, true])) (stOfX 82 86 [(2, .ptr 2 0 0 0), (3, .ptr 3 0 0 0), (5, .clo 65 2)] [(2, .own [.val (.int .i64 c2_0), .val (.int .i64 c2_1), .sl 84 6 c2_2n, .sl 85 1 c2_3n]), (3, .own [.val (.int .i64 c3_0), .val (.int .i64 c3_1), .val (.int .i64 c3_2), .val (.int .i64 c3_3), .val (.int .i64 c3_4), .val (.int .u64 c3_5)]), (84, .ext m84 [.int .i64 g84_0, .int .i64 g84_1, .int .i64 g84_2, .int .i64 g84_3, .int .i64 g84_4, .int .u64 g84_5]), (85, .ext m85 [.int .i64 g85_0])]) (retC Tryd.prog false (Tryd.f46.results) isa_ins.r.dec)
noncomputable def isa_ins.j8 (fu : Nat) (n8 : Nat) (x29n : Nat) (x30 : Int) (x31 : Int) (c2_0 : Int) (c2_1 : Int) (c2_2n : Nat) (c2_3n : Nat) (c3_0 : Int) (c3_1 : Int) (c3_2 : Int) (c3_3 : Int) (c3_4 : Int) (c3_5 : Int) (m29 : Nat) (g29_0 : Nat → Int) (m84 : Nat) (g84_0 : Nat → Int) (g84_1 : Nat → Int) (g84_2 : Nat → Int) (g84_3 : Nat → Int) (g84_4 : Nat → Int) (g84_5 : Nat → Int) (m85 : Nat) (g85_0 : Nat → Int) : Option Int :=
  loopK (isa_ins.K fu (sub isa_ins.body [true, true, true, true, false, true, false, false])) (isa_ins.live 17) n8 (stOfX 82 86 [(2, .ptr 2 0 0 0), (3, .ptr 3 0 0 0), (5, .clo 65 2), (29, .sl 29 1 x29n), (30, .val (.int .i64 x30)), (31, .val (.int .i64 x31))] [(2, .own [.val (.int .i64 c2_0), .val (.int .i64 c2_1), .sl 84 6 c2_2n, .sl 85 1 c2_3n]), (3, .own [.val (.int .i64 c3_0), .val (.int .i64 c3_1), .val (.int .i64 c3_2), .val (.int .i64 c3_3), .val (.int .i64 c3_4), .val (.int .u64 c3_5)]), (29, .ext m29 [.int .i64 g29_0]), (84, .ext m84 [.int .i64 g84_0, .int .i64 g84_1, .int .i64 g84_2, .int .i64 g84_3, .int .i64 g84_4, .int .u64 g84_5]), (85, .ext m85 [.int .i64 g85_0])]) (blockC 0 (seqC fu (isa_ins.live 26) (isa_ins.K fu (sub isa_ins.body [true, true, true, true, true])) (retC Tryd.prog false (Tryd.f46.results) isa_ins.r.dec)))
noncomputable def isa_ins.p15 (m fu : Nat) (c3_0 : Int) (c3_1 : Int) (c3_2 : Int) (c3_3 : Int) (c3_4 : Int) (c3_5 : Int) : Option Int :=
  joinK m (isa_ins.K fu (sub isa_ins.body [true, true, true, true, true, true])) (stOfX 82 86 [(3, .ptr 3 0 0 0)] [(3, .own [.val (.int .i64 c3_0), .val (.int .i64 c3_1), .val (.int .i64 c3_2), .val (.int .i64 c3_3), .val (.int .i64 c3_4), .val (.int .u64 c3_5)])]) (retC Tryd.prog false (Tryd.f46.results) isa_ins.r.dec)
noncomputable def isa_ins.p18 (m fu : Nat) (x10n : Nat) (c3_0 : Int) (c3_1 : Int) (c3_2 : Int) (c3_3 : Int) (c3_4 : Int) (c3_5 : Int) (m10 : Nat) (g10_0 : Nat → Int) : Option Int :=
  joinK m (isa_ins.K fu (sub isa_ins.body [true, true, true, true, true, true, true, true])) (stOfX 82 86 [(3, .ptr 3 0 0 0), (10, .sl 10 1 x10n)] [(3, .own [.val (.int .i64 c3_0), .val (.int .i64 c3_1), .val (.int .i64 c3_2), .val (.int .i64 c3_3), .val (.int .i64 c3_4), .val (.int .u64 c3_5)]), (10, .ext m10 [.int .i64 g10_0])]) (retC Tryd.prog false (Tryd.f46.results) isa_ins.r.dec)
noncomputable def isa_ins.p20 (m fu : Nat) : Option Int :=
  joinK m (isa_ins.K fu (sub isa_ins.body [true, true, true, true, true, true, true, true, true])) (stOfX 82 86 [] []) (retC Tryd.prog false (Tryd.f46.results) isa_ins.r.dec)
theorem isa_ins.p20_eq (m fu : Nat) : isa_ins.p20 (m + 1) fu =
  some 0 := by kernel_rfl
theorem isa_ins.p18_eq (m fu : Nat) (x10n : Nat) (c3_0 : Int) (c3_1 : Int) (c3_2 : Int) (c3_3 : Int) (c3_4 : Int) (c3_5 : Int) (m10 : Nat) (g10_0 : Nat → Int) : isa_ins.p18 (m + 1) fu x10n c3_0 c3_1 c3_2 c3_3 c3_4 c3_5 m10 g10_0 =
  bif (c3_0 != 1) then
    bif (c3_5 != 0) then
      some 19
    else
      (slices_ContainsFunc_int_int.f (x10n, g10_0) ()).bind fun r8 =>
      bif r8 then
        some 19
      else
        isa_ins.p20 fu fu
  else
    (slices_ContainsFunc_int_int.f (x10n, g10_0) ()).bind fun r9 =>
    bif r9 then
      some 19
    else
      isa_ins.p20 fu fu := by kernel_rfl
theorem isa_ins.p15_eq (m fu : Nat) (c3_0 : Int) (c3_1 : Int) (c3_2 : Int) (c3_3 : Int) (c3_4 : Int) (c3_5 : Int) : isa_ins.p15 (m + 1) fu c3_0 c3_1 c3_2 c3_3 c3_4 c3_5 =
  (isa_Sources.f c3_0).bind fun r7 =>
  bif decide (r7 = 0) then
    bif (c3_0 == 0) then
      isa_ins.p18 fu fu 4 c3_0 c3_1 c3_2 c3_3 c3_4 c3_5 4 (cat 3 (fun i => [c3_2, c3_3, c3_4].getD i 0) (fun i => [c3_1].getD i 0))
    else
      isa_ins.p18 fu fu 3 c3_0 c3_1 c3_2 c3_3 c3_4 c3_5 3 (fun i => [c3_2, c3_3, c3_4].getD i 0)
  else
    bif decide (0 ≤ r7) then
      bif decide (r7 ≤ (3 : Int)) then
        bif (c3_0 == 0) then
          none
        else
          isa_ins.p18 fu fu (3 - r7.toNat) c3_0 c3_1 c3_2 c3_3 c3_4 c3_5 (3 - r7.toNat) (fun i => (fun i => [c3_2, c3_3, c3_4].getD i 0) (i + r7.toNat))
      else
        none
    else
      none := by kernel_rfl
theorem isa_ins.j8_succ (fu : Nat) (n8 : Nat) (x29n : Nat) (x30 : Int) (x31 : Int) (c2_0 : Int) (c2_1 : Int) (c2_2n : Nat) (c2_3n : Nat) (c3_0 : Int) (c3_1 : Int) (c3_2 : Int) (c3_3 : Int) (c3_4 : Int) (c3_5 : Int) (m29 : Nat) (g29_0 : Nat → Int) (m84 : Nat) (g84_0 : Nat → Int) (g84_1 : Nat → Int) (g84_2 : Nat → Int) (g84_3 : Nat → Int) (g84_4 : Nat → Int) (g84_5 : Nat → Int) (m85 : Nat) (g85_0 : Nat → Int) : isa_ins.j8 fu (n8 + 1) x29n x30 x31 c2_0 c2_1 c2_2n c2_3n c3_0 c3_1 c3_2 c3_3 c3_4 c3_5 m29 g29_0 m84 g84_0 g84_1 g84_2 g84_3 g84_4 g84_5 m85 g85_0 =
  bif (decide (x31 < x30)) then
    bif decide (0 ≤ x31) then
      bif decide (x31 < (x29n : Int)) then
        (isa_ins_1.f (g29_0 x31.toNat) (c2_0, c2_1, (c2_2n, g84_0, g84_1, g84_2, g84_3, g84_4, g84_5), (c2_3n, g85_0))).bind fun r5 =>
        bif (!r5) then
          some 18
        else
          isa_ins.j8 fu n8 x29n x30 (IntKind.i64.wrap (x31 + 1)) c2_0 c2_1 c2_2n c2_3n c3_0 c3_1 c3_2 c3_3 c3_4 c3_5 m29 g29_0 m84 g84_0 g84_1 g84_2 g84_3 g84_4 g84_5 m85 g85_0
      else
        none
    else
      none
  else
    bif (c3_0 == 1) then
      (bits_Mask.f c2_0).bind fun r6 =>
      bif (decide (c3_5 > r6)) then
        some 2
      else
        isa_ins.p15 fu fu c3_0 c3_1 c3_2 c3_3 c3_4 c3_5
    else
      isa_ins.p15 fu fu c3_0 c3_1 c3_2 c3_3 c3_4 c3_5 := by kernel_rfl
theorem isa_ins.p7_eq (m fu : Nat) (c2_0 : Int) (c2_1 : Int) (c2_2n : Nat) (c2_3n : Nat) (c3_0 : Int) (c3_1 : Int) (c3_2 : Int) (c3_3 : Int) (c3_4 : Int) (c3_5 : Int) (m84 : Nat) (g84_0 : Nat → Int) (g84_1 : Nat → Int) (g84_2 : Nat → Int) (g84_3 : Nat → Int) (g84_4 : Nat → Int) (g84_5 : Nat → Int) (m85 : Nat) (g85_0 : Nat → Int) : isa_ins.p7 (m + 1) fu c2_0 c2_1 c2_2n c2_3n c3_0 c3_1 c3_2 c3_3 c3_4 c3_5 m84 g84_0 g84_1 g84_2 g84_3 g84_4 g84_5 m85 g85_0 =
  (isa_Uses.f (c3_0, c3_1, c3_2, c3_3, c3_4, c3_5)).bind fun r4 =>
  isa_ins.j8 fu fu r4.1 (r4.1 : Int) 0 c2_0 c2_1 c2_2n c2_3n c3_0 c3_1 c3_2 c3_3 c3_4 c3_5 r4.1 r4.2 m84 g84_0 g84_1 g84_2 g84_3 g84_4 g84_5 m85 g85_0 := by kernel_rfl
noncomputable def isa_ins.g (fu : Nat) (a0 : Int × Int × (Nat × (Nat → Int) × (Nat → Int) × (Nat → Int) × (Nat → Int) × (Nat → Int) × (Nat → Int)) × (Nat × (Nat → Int))) (a1 : Int × Int × Int × Int × Int × Int) : Option (Int) :=
  (isa_known.f a1.1).bind fun r1 =>
  bif (!r1) then
    some 4
  else
    (isa_Def.f (a1.1, a1.2.1, a1.2.2.1, a1.2.2.2.1, a1.2.2.2.2.1, a1.2.2.2.2.2)).bind fun r2 =>
    bif r2.2 then
      (isa_ins_1.f r2.1 (a0.1, a0.2.1, (a0.2.2.1.1, a0.2.2.1.2.1, a0.2.2.1.2.2.1, a0.2.2.1.2.2.2.1, a0.2.2.1.2.2.2.2.1, a0.2.2.1.2.2.2.2.2.1, a0.2.2.1.2.2.2.2.2.2), (a0.2.2.2.1, a0.2.2.2.2))).bind fun r3 =>
      bif (!r3) then
        some 18
      else
        isa_ins.p7 fu fu a0.1 a0.2.1 a0.2.2.1.1 a0.2.2.2.1 a1.1 a1.2.1 a1.2.2.1 a1.2.2.2.1 a1.2.2.2.2.1 a1.2.2.2.2.2 a0.2.2.1.1 a0.2.2.1.2.1 a0.2.2.1.2.2.1 a0.2.2.1.2.2.2.1 a0.2.2.1.2.2.2.2.1 a0.2.2.1.2.2.2.2.2.1 a0.2.2.1.2.2.2.2.2.2 a0.2.2.2.1 a0.2.2.2.2
    else
      isa_ins.p7 fu fu a0.1 a0.2.1 a0.2.2.1.1 a0.2.2.2.1 a1.1 a1.2.1 a1.2.2.1 a1.2.2.2.1 a1.2.2.2.2.1 a1.2.2.2.2.2 a0.2.2.1.1 a0.2.2.1.2.1 a0.2.2.1.2.2.1 a0.2.2.1.2.2.2.1 a0.2.2.1.2.2.2.2.1 a0.2.2.1.2.2.2.2.2.1 a0.2.2.1.2.2.2.2.2.2 a0.2.2.2.1 a0.2.2.2.2
noncomputable def isa_ins.f (a0 : Int × Int × (Nat × (Nat → Int) × (Nat → Int) × (Nat → Int) × (Nat → Int) × (Nat → Int) × (Nat → Int)) × (Nat × (Nat → Int))) (a1 : Int × Int × Int × Int × Int × Int) : Option (Int) := isa_ins.g (fuel0 + 1) a0 a1
theorem isa_ins.eq (fu : Nat) (a : (Int × Int × (Nat × (Nat → Int) × (Nat → Int) × (Nat → Int) × (Nat → Int) × (Nat → Int) × (Nat → Int)) × (Nat × (Nat → Int))) × (Int × Int × Int × Int × Int × Int) × Unit) : bodyK Tryd.prog isa_ins.cs isa_ins.live fu Tryd.f46 false (isa_ins.a.enc a) isa_ins.r.dec = isa_ins.g fu a.1 a.2.1 := by kernel_rfl
theorem isa_ins.con : ∀ (a : (Int × Int × (Nat × (Nat → Int) × (Nat → Int) × (Nat → Int) × (Nat → Int) × (Nat → Int) × (Nat → Int)) × (Nat × (Nat → Int))) × (Int × Int × Int × Int × Int × Int) × Unit) (r : Int), isa_ins.f a.1 a.2.1 = some r → Contract Tryd.prog 46 (isa_ins.a.enc a) (isa_ins.r.enc r) := Contract.of_body (F := fun (a : (Int × Int × (Nat × (Nat → Int) × (Nat → Int) × (Nat → Int) × (Nat → Int) × (Nat → Int) × (Nat → Int)) × (Nat × (Nat → Int))) × (Int × Int × Int × Int × Int × Int) × Unit) => isa_ins.f a.1 a.2.1) (fn := Tryd.f46) (cs := isa_ins.cs) (live := isa_ins.live) (fuel := fuel0 + 1) (by kernel_rfl) (by kernel_rfl) mixed (isa_ins.eq (fuel0 + 1))
noncomputable def isa_ins.c : Kn Tryd.prog := Kn.of 46 isa_ins.a isa_ins.r (fun a => isa_ins.f a.1 a.2.1) isa_ins.con

/-! ### slices_Index_int_int: function 69 -/
def slices_Index_int_int.a : ACods ((Nat × (Nat → Int)) × Int × Unit) := (.cons (.rows (.int1 .i64)) (.cons (.val (.int .i64)) .nil))
def slices_Index_int_int.r : RCod (Int) := .val (.int .i64)
noncomputable def slices_Index_int_int.cs : List (Kn Tryd.prog) := []
def slices_Index_int_int.live : Nat → Option Keep := liveOf [(5, ⟨[0, 1, 7, 8], [0], [], [], []⟩)]
noncomputable def slices_Index_int_int.body : Code := bodyOf Tryd.f69
noncomputable def slices_Index_int_int.K (fu : Nat) : Code → St → (Ex → St → Option (Int)) → Option (Int) := codeK Tryd.prog (slices_Index_int_int.cs) slices_Index_int_int.live fu
noncomputable def slices_Index_int_int.j2 (fu : Nat) (n2 : Nat) (x0n : Nat) (x1 : Int) (x7 : Int) (x8 : Int) (m0 : Nat) (g0_0 : Nat → Int) : Option Int :=
  loopK (slices_Index_int_int.K fu (sub slices_Index_int_int.body [true, false, true, false, false])) (slices_Index_int_int.live 5) n2 (stOf 19 [(0, .sl 0 1 x0n), (1, .val (.int .i64 x1)), (7, .val (.int .i64 x7)), (8, .val (.int .i64 x8))] [(0, .ext m0 [.int .i64 g0_0])]) (blockC 0 (seqC fu (slices_Index_int_int.live 14) (slices_Index_int_int.K fu (sub slices_Index_int_int.body [true, true])) (retC Tryd.prog false (Tryd.f69.results) slices_Index_int_int.r.dec)))
theorem slices_Index_int_int.j2_succ (fu : Nat) (n2 : Nat) (x0n : Nat) (x1 : Int) (x7 : Int) (x8 : Int) (m0 : Nat) (g0_0 : Nat → Int) : slices_Index_int_int.j2 fu (n2 + 1) x0n x1 x7 x8 m0 g0_0 =
  bif (decide (x8 < x7)) then
    bif decide (0 ≤ x8) then
      bif decide (x8 < (x0n : Int)) then
        bif (x1 == (g0_0 x8.toNat)) then
          some x8
        else
          slices_Index_int_int.j2 fu n2 x0n x1 x7 (IntKind.i64.wrap (x8 + 1)) m0 g0_0
      else
        none
    else
      none
  else
    some (-1) := by kernel_rfl
noncomputable def slices_Index_int_int.g (fu : Nat) (a0 : Nat × (Nat → Int)) (a1 : Int) : Option (Int) :=
  slices_Index_int_int.j2 fu fu a0.1 a1 (a0.1 : Int) 0 a0.1 a0.2
noncomputable def slices_Index_int_int.f (a0 : Nat × (Nat → Int)) (a1 : Int) : Option (Int) := slices_Index_int_int.g (fuel0 + 1) a0 a1
theorem slices_Index_int_int.eq (fu : Nat) (a : (Nat × (Nat → Int)) × Int × Unit) : bodyK Tryd.prog slices_Index_int_int.cs slices_Index_int_int.live fu Tryd.f69 false (slices_Index_int_int.a.enc a) slices_Index_int_int.r.dec = slices_Index_int_int.g fu a.1 a.2.1 := by kernel_rfl
theorem slices_Index_int_int.con : ∀ (a : (Nat × (Nat → Int)) × Int × Unit) (r : Int), slices_Index_int_int.f a.1 a.2.1 = some r → Contract Tryd.prog 69 (slices_Index_int_int.a.enc a) (slices_Index_int_int.r.enc r) := Contract.of_body (F := fun (a : (Nat × (Nat → Int)) × Int × Unit) => slices_Index_int_int.f a.1 a.2.1) (fn := Tryd.f69) (cs := slices_Index_int_int.cs) (live := slices_Index_int_int.live) (fuel := fuel0 + 1) (by kernel_rfl) (by kernel_rfl) mixed (slices_Index_int_int.eq (fuel0 + 1))
noncomputable def slices_Index_int_int.c : Kn Tryd.prog := Kn.of 69 slices_Index_int_int.a slices_Index_int_int.r (fun a => slices_Index_int_int.f a.1 a.2.1) slices_Index_int_int.con

/-! ### slices_Contains_int_int: function 47 -/
def slices_Contains_int_int.a : ACods ((Nat × (Nat → Int)) × Int × Unit) := (.cons (.rows (.int1 .i64)) (.cons (.val (.int .i64)) .nil))
def slices_Contains_int_int.r : RCod (Bool) := .val (.bool)
noncomputable def slices_Contains_int_int.cs : List (Kn Tryd.prog) := [slices_Index_int_int.c]
def slices_Contains_int_int.live : Nat → Option Keep := liveOf []
noncomputable def slices_Contains_int_int.body : Code := bodyOf Tryd.f47
noncomputable def slices_Contains_int_int.K (fu : Nat) : Code → St → (Ex → St → Option (Bool)) → Option (Bool) := codeK Tryd.prog (slices_Contains_int_int.cs) slices_Contains_int_int.live fu
noncomputable def slices_Contains_int_int.f (a0 : Nat × (Nat → Int)) (a1 : Int) : Option (Bool) :=
  (slices_Index_int_int.f (a0.1, a0.2) a1).bind fun r1 =>
  some (decide (r1 ≥ 0))
theorem slices_Contains_int_int.eq (fu : Nat) (a : (Nat × (Nat → Int)) × Int × Unit) : bodyK Tryd.prog slices_Contains_int_int.cs slices_Contains_int_int.live fu Tryd.f47 false (slices_Contains_int_int.a.enc a) slices_Contains_int_int.r.dec = slices_Contains_int_int.f a.1 a.2.1 := by kernel_rfl
theorem slices_Contains_int_int.con : ∀ (a : (Nat × (Nat → Int)) × Int × Unit) (r : Bool), slices_Contains_int_int.f a.1 a.2.1 = some r → Contract Tryd.prog 47 (slices_Contains_int_int.a.enc a) (slices_Contains_int_int.r.enc r) := Contract.of_body (F := fun (a : (Nat × (Nat → Int)) × Int × Unit) => slices_Contains_int_int.f a.1 a.2.1) (fn := Tryd.f47) (cs := slices_Contains_int_int.cs) (live := slices_Contains_int_int.live) (fuel := fuel0 + 1) (by kernel_rfl) (by kernel_rfl) mixed (slices_Contains_int_int.eq (fuel0 + 1))
noncomputable def slices_Contains_int_int.c : Kn Tryd.prog := Kn.of 47 slices_Contains_int_int.a slices_Contains_int_int.r (fun a => slices_Contains_int_int.f a.1 a.2.1) slices_Contains_int_int.con

/-! ### isa_Check: function 29 -/
def isa_Check.a : ACods ((Int × Int × (Nat × (Nat → Int) × (Nat → Int) × (Nat → Int) × (Nat → Int) × (Nat → Int) × (Nat → Int)) × (Nat × (Nat → Int))) × Unit) := (.cons (.pk (.cons (.val (.int .i64)) (.cons (.val (.int .i64)) (.cons (.rows (.int .i64 (.int .i64 (.int .i64 (.int .i64 (.int .i64 (.int1 .u64))))))) (.one (.rows (.int1 .i64))))))) .nil)
def isa_Check.r : RCod (Int × Int) := .val (.tup (.cons (.int .i64) (.one (.int .i64))))
noncomputable def isa_Check.cs : List (Kn Tryd.prog) := [isa_ins.c, slices_Contains_int_int.c]
def isa_Check.live : Nat → Option Keep := liveOf [(17, ⟨[1, 35, 36, 37], [1, 83, 84], [], [], []⟩), (31, ⟨[1, 51, 52, 53], [1, 83, 84], [], [], []⟩), (43, ⟨[1, 67, 68, 69], [1, 83, 84], [], [], []⟩)]
noncomputable def isa_Check.body : Code := bodyOf Tryd.f29
noncomputable def isa_Check.K (fu : Nat) : Code → St → (Ex → St → Option (Int × Int)) → Option (Int × Int) := codeK Tryd.prog (isa_Check.cs) isa_Check.live fu
noncomputable def isa_Check.j8 (fu : Nat) (n8 : Nat) (x35n : Nat) (x36 : Int) (x37 : Int) (c1_0 : Int) (c1_1 : Int) (c1_2n : Nat) (c1_3n : Nat) (m83 : Nat) (g83_0 : Nat → Int) (g83_1 : Nat → Int) (g83_2 : Nat → Int) (g83_3 : Nat → Int) (g83_4 : Nat → Int) (g83_5 : Nat → Int) (m84 : Nat) (g84_0 : Nat → Int) : Option (Int × Int) :=
  loopK (isa_Check.K fu (sub isa_Check.body [true, true, false, true, false, false])) (isa_Check.live 17) n8 (stOfX 81 85 [(1, .ptr 1 0 0 0), (35, .sl 83 6 x35n), (36, .val (.int .i64 x36)), (37, .val (.int .i64 x37))] [(1, .own [.val (.int .i64 c1_0), .val (.int .i64 c1_1), .sl 83 6 c1_2n, .sl 84 1 c1_3n]), (83, .ext m83 [.int .i64 g83_0, .int .i64 g83_1, .int .i64 g83_2, .int .i64 g83_3, .int .i64 g83_4, .int .u64 g83_5]), (84, .ext m84 [.int .i64 g84_0])]) (blockC 1 (seqC fu (isa_Check.live 28) (isa_Check.K fu (sub isa_Check.body [true, true, true])) (retC Tryd.prog false (Tryd.f29.results) isa_Check.r.dec)))
noncomputable def isa_Check.j15 (fu : Nat) (n15 : Nat) (x51n : Nat) (x52 : Int) (x53 : Int) (c1_0 : Int) (c1_1 : Int) (c1_2n : Nat) (c1_3n : Nat) (m83 : Nat) (g83_0 : Nat → Int) (g83_1 : Nat → Int) (g83_2 : Nat → Int) (g83_3 : Nat → Int) (g83_4 : Nat → Int) (g83_5 : Nat → Int) (m84 : Nat) (g84_0 : Nat → Int) : Option (Int × Int) :=
  loopK (isa_Check.K fu (sub isa_Check.body [true, true, true, false, true, false, false])) (isa_Check.live 31) n15 (stOfX 81 85 [(1, .ptr 1 0 0 0), (51, .sl 84 1 x51n), (52, .val (.int .i64 x52)), (53, .val (.int .i64 x53))] [(1, .own [.val (.int .i64 c1_0), .val (.int .i64 c1_1), .sl 83 6 c1_2n, .sl 84 1 c1_3n]), (83, .ext m83 [.int .i64 g83_0, .int .i64 g83_1, .int .i64 g83_2, .int .i64 g83_3, .int .i64 g83_4, .int .u64 g83_5]), (84, .ext m84 [.int .i64 g84_0])]) (blockC 3 (seqC fu (isa_Check.live 40) (isa_Check.K fu (sub isa_Check.body [true, true, true, true])) (retC Tryd.prog false (Tryd.f29.results) isa_Check.r.dec)))
noncomputable def isa_Check.j21 (fu : Nat) (n21 : Nat) (x67n : Nat) (x68 : Int) (x69 : Int) (c1_0 : Int) (c1_1 : Int) (c1_2n : Nat) (c1_3n : Nat) (m83 : Nat) (g83_0 : Nat → Int) (g83_1 : Nat → Int) (g83_2 : Nat → Int) (g83_3 : Nat → Int) (g83_4 : Nat → Int) (g83_5 : Nat → Int) (m84 : Nat) (g84_0 : Nat → Int) : Option (Int × Int) :=
  loopK (isa_Check.K fu (sub isa_Check.body [true, true, true, true, false, true, false, false])) (isa_Check.live 43) n21 (stOfX 81 85 [(1, .ptr 1 0 0 0), (67, .sl 84 1 x67n), (68, .val (.int .i64 x68)), (69, .val (.int .i64 x69))] [(1, .own [.val (.int .i64 c1_0), .val (.int .i64 c1_1), .sl 83 6 c1_2n, .sl 84 1 c1_3n]), (83, .ext m83 [.int .i64 g83_0, .int .i64 g83_1, .int .i64 g83_2, .int .i64 g83_3, .int .i64 g83_4, .int .u64 g83_5]), (84, .ext m84 [.int .i64 g84_0])]) (blockC 5 (seqC fu (isa_Check.live 52) (isa_Check.K fu (sub isa_Check.body [true, true, true, true, true])) (retC Tryd.prog false (Tryd.f29.results) isa_Check.r.dec)))
theorem isa_Check.j21_succ (fu : Nat) (n21 : Nat) (x67n : Nat) (x68 : Int) (x69 : Int) (c1_0 : Int) (c1_1 : Int) (c1_2n : Nat) (c1_3n : Nat) (m83 : Nat) (g83_0 : Nat → Int) (g83_1 : Nat → Int) (g83_2 : Nat → Int) (g83_3 : Nat → Int) (g83_4 : Nat → Int) (g83_5 : Nat → Int) (m84 : Nat) (g84_0 : Nat → Int) : isa_Check.j21 fu (n21 + 1) x67n x68 x69 c1_0 c1_1 c1_2n c1_3n m83 g83_0 g83_1 g83_2 g83_3 g83_4 g83_5 m84 g84_0 =
  bif (decide (x69 < x68)) then
    bif decide (0 ≤ x69) then
      bif decide (x69 < (x67n : Int)) then
        bif decide (0 ≤ x69) then
          bif decide (x69 ≤ (c1_3n : Int)) then
            (slices_Contains_int_int.f (x69.toNat, g84_0) (g84_0 x69.toNat)).bind fun r2 =>
            bif r2 then
              some ((-1), 9)
            else
              isa_Check.j21 fu n21 x67n x68 (IntKind.i64.wrap (x69 + 1)) c1_0 c1_1 c1_2n c1_3n m83 g83_0 g83_1 g83_2 g83_3 g83_4 g83_5 m84 g84_0
          else
            none
        else
          none
      else
        none
    else
      none
  else
    some (0, 0) := by kernel_rfl
theorem isa_Check.j15_succ (fu : Nat) (n15 : Nat) (x51n : Nat) (x52 : Int) (x53 : Int) (c1_0 : Int) (c1_1 : Int) (c1_2n : Nat) (c1_3n : Nat) (m83 : Nat) (g83_0 : Nat → Int) (g83_1 : Nat → Int) (g83_2 : Nat → Int) (g83_3 : Nat → Int) (g83_4 : Nat → Int) (g83_5 : Nat → Int) (m84 : Nat) (g84_0 : Nat → Int) : isa_Check.j15 fu (n15 + 1) x51n x52 x53 c1_0 c1_1 c1_2n c1_3n m83 g83_0 g83_1 g83_2 g83_3 g83_4 g83_5 m84 g84_0 =
  bif (decide (x53 < x52)) then
    bif decide (0 ≤ x53) then
      bif decide (x53 < (x51n : Int)) then
        bif (decide ((g84_0 x53.toNat) < 0)) then
          some ((-1), 18)
        else
          bif (decide ((g84_0 x53.toNat) ≥ c1_1)) then
            some ((-1), 18)
          else
            isa_Check.j15 fu n15 x51n x52 (IntKind.i64.wrap (x53 + 1)) c1_0 c1_1 c1_2n c1_3n m83 g83_0 g83_1 g83_2 g83_3 g83_4 g83_5 m84 g84_0
      else
        none
    else
      none
  else
    isa_Check.j21 fu fu c1_3n (c1_3n : Int) 0 c1_0 c1_1 c1_2n c1_3n m83 g83_0 g83_1 g83_2 g83_3 g83_4 g83_5 m84 g84_0 := by kernel_rfl
theorem isa_Check.j8_succ (fu : Nat) (n8 : Nat) (x35n : Nat) (x36 : Int) (x37 : Int) (c1_0 : Int) (c1_1 : Int) (c1_2n : Nat) (c1_3n : Nat) (m83 : Nat) (g83_0 : Nat → Int) (g83_1 : Nat → Int) (g83_2 : Nat → Int) (g83_3 : Nat → Int) (g83_4 : Nat → Int) (g83_5 : Nat → Int) (m84 : Nat) (g84_0 : Nat → Int) : isa_Check.j8 fu (n8 + 1) x35n x36 x37 c1_0 c1_1 c1_2n c1_3n m83 g83_0 g83_1 g83_2 g83_3 g83_4 g83_5 m84 g84_0 =
  bif (decide (x37 < x36)) then
    bif decide (0 ≤ x37) then
      bif decide (x37 < (x35n : Int)) then
        (isa_ins.f (c1_0, c1_1, (c1_2n, g83_0, g83_1, g83_2, g83_3, g83_4, g83_5), (c1_3n, g84_0)) ((g83_0 x37.toNat), (g83_1 x37.toNat), (g83_2 x37.toNat), (g83_3 x37.toNat), (g83_4 x37.toNat), (g83_5 x37.toNat))).bind fun r1 =>
        bif (r1 != 0) then
          some (x37, r1)
        else
          isa_Check.j8 fu n8 x35n x36 (IntKind.i64.wrap (x37 + 1)) c1_0 c1_1 c1_2n c1_3n m83 g83_0 g83_1 g83_2 g83_3 g83_4 g83_5 m84 g84_0
      else
        none
    else
      none
  else
    isa_Check.j15 fu fu c1_3n (c1_3n : Int) 0 c1_0 c1_1 c1_2n c1_3n m83 g83_0 g83_1 g83_2 g83_3 g83_4 g83_5 m84 g84_0 := by kernel_rfl
noncomputable def isa_Check.g (fu : Nat) (a0 : Int × Int × (Nat × (Nat → Int) × (Nat → Int) × (Nat → Int) × (Nat → Int) × (Nat → Int) × (Nat → Int)) × (Nat × (Nat → Int))) : Option (Int × Int) :=
  bif (decide (a0.1 < 1)) then
    some ((-1), 3)
  else
    bif (decide (a0.1 > 64)) then
      some ((-1), 3)
    else
      bif (decide (a0.2.1 < 1)) then
        some ((-1), 18)
      else
        bif (decide (a0.2.1 > 8)) then
          some ((-1), 18)
        else
          bif (decide ((a0.2.2.1.1 : Int) > 256)) then
            some ((-1), 7)
          else
            isa_Check.j8 fu fu a0.2.2.1.1 (a0.2.2.1.1 : Int) 0 a0.1 a0.2.1 a0.2.2.1.1 a0.2.2.2.1 a0.2.2.1.1 a0.2.2.1.2.1 a0.2.2.1.2.2.1 a0.2.2.1.2.2.2.1 a0.2.2.1.2.2.2.2.1 a0.2.2.1.2.2.2.2.2.1 a0.2.2.1.2.2.2.2.2.2 a0.2.2.2.1 a0.2.2.2.2
noncomputable def isa_Check.f (a0 : Int × Int × (Nat × (Nat → Int) × (Nat → Int) × (Nat → Int) × (Nat → Int) × (Nat → Int) × (Nat → Int)) × (Nat × (Nat → Int))) : Option (Int × Int) := isa_Check.g (fuel0 + 1) a0
theorem isa_Check.eq (fu : Nat) (a : (Int × Int × (Nat × (Nat → Int) × (Nat → Int) × (Nat → Int) × (Nat → Int) × (Nat → Int) × (Nat → Int)) × (Nat × (Nat → Int))) × Unit) : bodyK Tryd.prog isa_Check.cs isa_Check.live fu Tryd.f29 false (isa_Check.a.enc a) isa_Check.r.dec = isa_Check.g fu a.1 := by kernel_rfl
theorem isa_Check.con : ∀ (a : (Int × Int × (Nat × (Nat → Int) × (Nat → Int) × (Nat → Int) × (Nat → Int) × (Nat → Int) × (Nat → Int)) × (Nat × (Nat → Int))) × Unit) (r : Int × Int), isa_Check.f a.1 = some r → Contract Tryd.prog 29 (isa_Check.a.enc a) (isa_Check.r.enc r) := Contract.of_body (F := fun (a : (Int × Int × (Nat × (Nat → Int) × (Nat → Int) × (Nat → Int) × (Nat → Int) × (Nat → Int) × (Nat → Int)) × (Nat × (Nat → Int))) × Unit) => isa_Check.f a.1) (fn := Tryd.f29) (cs := isa_Check.cs) (live := isa_Check.live) (fuel := fuel0 + 1) (by kernel_rfl) (by kernel_rfl) mixed (isa_Check.eq (fuel0 + 1))
noncomputable def isa_Check.c : Kn Tryd.prog := Kn.of 29 isa_Check.a isa_Check.r (fun a => isa_Check.f a.1) isa_Check.con
end Go.Proofs.YtkmehmlcccdnbaaDoor.Fn
