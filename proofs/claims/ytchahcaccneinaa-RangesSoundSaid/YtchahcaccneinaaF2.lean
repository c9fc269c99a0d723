/- What the functions return, as the evaluator tells it: written by a program of this workplace (mev.py); Lean checks each equation. -/
import Derived.Test.YtchahcaccneinaaProg
import Derived.Test.YtchahcaccneinaaEvC
import Derived.Test.YtchahcaccneinaaF1
namespace Go.Proofs.Ytchahcaccneinaa.Fn
open Go Go.RowKit Go.Proofs.Ytchahcaccneinaa.Ev Go.Proofs
set_option linter.unusedVariables false
set_option maxRecDepth 100000
/-! ### saturateref01_Add: function 54 -/
def saturateref01_Add.a : ACods (Int × Int × Int × Unit) := (.cons (.val (.int .i64)) (.cons (.val (.int .u64)) (.cons (.val (.int .u64)) .nil)))
def saturateref01_Add.r : RCod (Int) := .val (.int .u64)
noncomputable def saturateref01_Add.cs : List (Kn Try.prog) := [saturateref01_W.c, saturateref01_Bit.c]
def saturateref01_Add.live : Nat → Option Keep := liveOf [(7, ⟨[1, 2, 7, 8, 12, 13], [], []⟩)]
noncomputable def saturateref01_Add.body : Code := bodyOf Try.f54
noncomputable def saturateref01_Add.K (fu : Nat) : Code → St → (Ex → St → Option (Int)) → Option (Int) := codeK Try.prog saturateref01_Add.cs saturateref01_Add.live fu
noncomputable def saturateref01_Add.j3 (fu : Nat) (n3 : Nat) (x1 : Int) (x2 : Int) (x7 : Int) (x8 : Int) (x12 : Int) (x13 : Int) : Option Int :=
  loopK (saturateref01_Add.K fu (sub saturateref01_Add.body [true, true, false, true, false, false])) (saturateref01_Add.live 7) n3 (stOf 36 [(1, .val (.int .u64 x1)), (2, .val (.int .u64 x2)), (7, .val (.int .u64 x7)), (8, .val (.int .u64 x8)), (12, .val (.int .i64 x12)), (13, .val (.int .i64 x13))] []) (blockC 0 (seqC fu (saturateref01_Add.live 18) (saturateref01_Add.K fu (sub saturateref01_Add.body [true, true, true])) (retC Try.prog Try.f54.results saturateref01_Add.r.dec)))
theorem saturateref01_Add.j3_succ (fu : Nat) (n3 : Nat) (x1 : Int) (x2 : Int) (x7 : Int) (x8 : Int) (x12 : Int) (x13 : Int) : saturateref01_Add.j3 fu (n3 + 1) x1 x2 x7 x8 x12 x13 =
  bif (decide (x13 < x12)) then
    (saturateref01_Bit.f x1 x13).bind fun r2 =>
    (saturateref01_Bit.f x2 x13).bind fun r3 =>
    bif decide ((IntKind.u64.wrap x13) < 0) then
      none
    else
      saturateref01_Add.j3 fu n3 x1 x2 (Go.bits .or .u64 x7 (shl .u64 (Int.tmod (IntKind.u64.wrap ((IntKind.u64.wrap (r2 + r3)) + x8)) 2) (IntKind.u64.wrap x13))) (IntKind.u64.wrap (Int.tdiv (IntKind.u64.wrap ((IntKind.u64.wrap (r2 + r3)) + x8)) 2)) x12 (IntKind.i64.wrap (x13 + 1))
  else
    some x7 := by kernel_rfl
noncomputable def saturateref01_Add.g (fu : Nat) (a0 : Int) (a1 : Int) (a2 : Int) : Option (Int) :=
  (saturateref01_W.f a0).bind fun r1 =>
  saturateref01_Add.j3 fu fu a1 a2 0 0 r1 0
noncomputable def saturateref01_Add.f (a0 : Int) (a1 : Int) (a2 : Int) : Option (Int) := saturateref01_Add.g (fuel0 + 1) a0 a1 a2
theorem saturateref01_Add.eq (fu : Nat) (a : Int × Int × Int × Unit) : bodyK Try.prog saturateref01_Add.cs saturateref01_Add.live fu Try.f54 (saturateref01_Add.a.enc a) saturateref01_Add.r.dec = saturateref01_Add.g fu a.1 a.2.1 a.2.2.1 := by kernel_rfl
theorem saturateref01_Add.con : ∀ (a : Int × Int × Int × Unit) (r : Int), saturateref01_Add.f a.1 a.2.1 a.2.2.1 = some r → Contract Try.prog 54 (saturateref01_Add.a.enc a) (saturateref01_Add.r.enc r) := Contract.of_body (F := fun (a : Int × Int × Int × Unit) => saturateref01_Add.f a.1 a.2.1 a.2.2.1) (fn := Try.f54) (cs := saturateref01_Add.cs) (live := saturateref01_Add.live) (fuel := fuel0 + 1) (by kernel_rfl) (by kernel_rfl) mixed (saturateref01_Add.eq (fuel0 + 1))
noncomputable def saturateref01_Add.c : Kn Try.prog := Kn.of 54 saturateref01_Add.a saturateref01_Add.r (fun a => saturateref01_Add.f a.1 a.2.1 a.2.2.1) saturateref01_Add.con

/-! ### saturateref13_add: function 81 -/
def saturateref13_add.a : ACods (Int × (Int × Int) × (Int × Int) × Unit) := (.cons (.val (.int .i64)) (.cons (.val (.agg (.cons (.int .u64) (.one (.int .u64))))) (.cons (.val (.agg (.cons (.int .u64) (.one (.int .u64))))) .nil)))
def saturateref13_add.r : RCod (Int × Int) := .val (.agg (.cons (.int .u64) (.one (.int .u64))))
noncomputable def saturateref13_add.cs : List (Kn Try.prog) := [saturateref01_Mask.c, saturateref13_over.c, saturateref13_Top.c, saturateref01_Add.c]
def saturateref13_add.live : Nat → Option Keep := liveOf []
noncomputable def saturateref13_add.body : Code := bodyOf Try.f81
noncomputable def saturateref13_add.K (fu : Nat) : Code → St → (Ex → St → Option (Int × Int)) → Option (Int × Int) := codeK Try.prog saturateref13_add.cs saturateref13_add.live fu
noncomputable def saturateref13_add.f (a0 : Int) (a1 : Int × Int) (a2 : Int × Int) : Option (Int × Int) :=
  (saturateref01_Mask.f a0).bind fun r1 =>
  (saturateref13_over.f r1 a1.2 a2.2).bind fun r2 =>
  (saturateref13_over.f r1 a1.1 a2.1).bind fun r3 =>
  bif (!(r2 == r3)) then
    (saturateref13_Top.f a0).bind fun r4 =>
    some (r4.1, r4.2)
  else
    (saturateref01_Add.f a0 a1.1 a2.1).bind fun r5 =>
    (saturateref01_Add.f a0 a1.2 a2.2).bind fun r6 =>
    some (r5, r6)
theorem saturateref13_add.eq (fu : Nat) (a : Int × (Int × Int) × (Int × Int) × Unit) : bodyK Try.prog saturateref13_add.cs saturateref13_add.live fu Try.f81 (saturateref13_add.a.enc a) saturateref13_add.r.dec = saturateref13_add.f a.1 a.2.1 a.2.2.1 := by kernel_rfl
theorem saturateref13_add.con : ∀ (a : Int × (Int × Int) × (Int × Int) × Unit) (r : Int × Int), saturateref13_add.f a.1 a.2.1 a.2.2.1 = some r → Contract Try.prog 81 (saturateref13_add.a.enc a) (saturateref13_add.r.enc r) := Contract.of_body (F := fun (a : Int × (Int × Int) × (Int × Int) × Unit) => saturateref13_add.f a.1 a.2.1 a.2.2.1) (fn := Try.f81) (cs := saturateref13_add.cs) (live := saturateref13_add.live) (fuel := fuel0 + 1) (by kernel_rfl) (by kernel_rfl) mixed (saturateref13_add.eq (fuel0 + 1))
noncomputable def saturateref13_add.c : Kn Try.prog := Kn.of 81 saturateref13_add.a saturateref13_add.r (fun a => saturateref13_add.f a.1 a.2.1 a.2.2.1) saturateref13_add.con

/-! ### saturateref01_Not: function 96 -/
def saturateref01_Not.a : ACods (Int × Int × Unit) := (.cons (.val (.int .i64)) (.cons (.val (.int .u64)) .nil))
def saturateref01_Not.r : RCod (Int) := .val (.int .u64)
noncomputable def saturateref01_Not.cs : List (Kn Try.prog) := [saturateref01_Mask.c, saturateref01_Cut.c]
def saturateref01_Not.live : Nat → Option Keep := liveOf []
noncomputable def saturateref01_Not.body : Code := bodyOf Try.f96
noncomputable def saturateref01_Not.K (fu : Nat) : Code → St → (Ex → St → Option (Int)) → Option (Int) := codeK Try.prog saturateref01_Not.cs saturateref01_Not.live fu
noncomputable def saturateref01_Not.f (a0 : Int) (a1 : Int) : Option (Int) :=
  (saturateref01_Mask.f a0).bind fun r1 =>
  (saturateref01_Cut.f a0 a1).bind fun r2 =>
  some (IntKind.u64.wrap (r1 - r2))
theorem saturateref01_Not.eq (fu : Nat) (a : Int × Int × Unit) : bodyK Try.prog saturateref01_Not.cs saturateref01_Not.live fu Try.f96 (saturateref01_Not.a.enc a) saturateref01_Not.r.dec = saturateref01_Not.f a.1 a.2.1 := by kernel_rfl
theorem saturateref01_Not.con : ∀ (a : Int × Int × Unit) (r : Int), saturateref01_Not.f a.1 a.2.1 = some r → Contract Try.prog 96 (saturateref01_Not.a.enc a) (saturateref01_Not.r.enc r) := Contract.of_body (F := fun (a : Int × Int × Unit) => saturateref01_Not.f a.1 a.2.1) (fn := Try.f96) (cs := saturateref01_Not.cs) (live := saturateref01_Not.live) (fuel := fuel0 + 1) (by kernel_rfl) (by kernel_rfl) mixed (saturateref01_Not.eq (fuel0 + 1))
noncomputable def saturateref01_Not.c : Kn Try.prog := Kn.of 96 saturateref01_Not.a saturateref01_Not.r (fun a => saturateref01_Not.f a.1 a.2.1) saturateref01_Not.con

/-! ### saturateref01_Neg: function 97 -/
def saturateref01_Neg.a : ACods (Int × Int × Unit) := (.cons (.val (.int .i64)) (.cons (.val (.int .u64)) .nil))
def saturateref01_Neg.r : RCod (Int) := .val (.int .u64)
noncomputable def saturateref01_Neg.cs : List (Kn Try.prog) := [saturateref01_Not.c, saturateref01_Add.c]
def saturateref01_Neg.live : Nat → Option Keep := liveOf []
noncomputable def saturateref01_Neg.body : Code := bodyOf Try.f97
noncomputable def saturateref01_Neg.K (fu : Nat) : Code → St → (Ex → St → Option (Int)) → Option (Int) := codeK Try.prog saturateref01_Neg.cs saturateref01_Neg.live fu
noncomputable def saturateref01_Neg.f (a0 : Int) (a1 : Int) : Option (Int) :=
  (saturateref01_Not.f a0 a1).bind fun r1 =>
  (saturateref01_Add.f a0 r1 1).bind fun r2 =>
  some r2
theorem saturateref01_Neg.eq (fu : Nat) (a : Int × Int × Unit) : bodyK Try.prog saturateref01_Neg.cs saturateref01_Neg.live fu Try.f97 (saturateref01_Neg.a.enc a) saturateref01_Neg.r.dec = saturateref01_Neg.f a.1 a.2.1 := by kernel_rfl
theorem saturateref01_Neg.con : ∀ (a : Int × Int × Unit) (r : Int), saturateref01_Neg.f a.1 a.2.1 = some r → Contract Try.prog 97 (saturateref01_Neg.a.enc a) (saturateref01_Neg.r.enc r) := Contract.of_body (F := fun (a : Int × Int × Unit) => saturateref01_Neg.f a.1 a.2.1) (fn := Try.f97) (cs := saturateref01_Neg.cs) (live := saturateref01_Neg.live) (fuel := fuel0 + 1) (by kernel_rfl) (by kernel_rfl) mixed (saturateref01_Neg.eq (fuel0 + 1))
noncomputable def saturateref01_Neg.c : Kn Try.prog := Kn.of 97 saturateref01_Neg.a saturateref01_Neg.r (fun a => saturateref01_Neg.f a.1 a.2.1) saturateref01_Neg.con

/-! ### saturateref01_Sub: function 55 -/
def saturateref01_Sub.a : ACods (Int × Int × Int × Unit) := (.cons (.val (.int .i64)) (.cons (.val (.int .u64)) (.cons (.val (.int .u64)) .nil)))
def saturateref01_Sub.r : RCod (Int) := .val (.int .u64)
noncomputable def saturateref01_Sub.cs : List (Kn Try.prog) := [saturateref01_Neg.c, saturateref01_Add.c]
def saturateref01_Sub.live : Nat → Option Keep := liveOf []
noncomputable def saturateref01_Sub.body : Code := bodyOf Try.f55
noncomputable def saturateref01_Sub.K (fu : Nat) : Code → St → (Ex → St → Option (Int)) → Option (Int) := codeK Try.prog saturateref01_Sub.cs saturateref01_Sub.live fu
noncomputable def saturateref01_Sub.f (a0 : Int) (a1 : Int) (a2 : Int) : Option (Int) :=
  (saturateref01_Neg.f a0 a2).bind fun r1 =>
  (saturateref01_Add.f a0 a1 r1).bind fun r2 =>
  some r2
theorem saturateref01_Sub.eq (fu : Nat) (a : Int × Int × Int × Unit) : bodyK Try.prog saturateref01_Sub.cs saturateref01_Sub.live fu Try.f55 (saturateref01_Sub.a.enc a) saturateref01_Sub.r.dec = saturateref01_Sub.f a.1 a.2.1 a.2.2.1 := by kernel_rfl
theorem saturateref01_Sub.con : ∀ (a : Int × Int × Int × Unit) (r : Int), saturateref01_Sub.f a.1 a.2.1 a.2.2.1 = some r → Contract Try.prog 55 (saturateref01_Sub.a.enc a) (saturateref01_Sub.r.enc r) := Contract.of_body (F := fun (a : Int × Int × Int × Unit) => saturateref01_Sub.f a.1 a.2.1 a.2.2.1) (fn := Try.f55) (cs := saturateref01_Sub.cs) (live := saturateref01_Sub.live) (fuel := fuel0 + 1) (by kernel_rfl) (by kernel_rfl) mixed (saturateref01_Sub.eq (fuel0 + 1))
noncomputable def saturateref01_Sub.c : Kn Try.prog := Kn.of 55 saturateref01_Sub.a saturateref01_Sub.r (fun a => saturateref01_Sub.f a.1 a.2.1 a.2.2.1) saturateref01_Sub.con

/-! ### saturateref13_sub: function 82 -/
def saturateref13_sub.a : ACods (Int × (Int × Int) × (Int × Int) × Unit) := (.cons (.val (.int .i64)) (.cons (.val (.agg (.cons (.int .u64) (.one (.int .u64))))) (.cons (.val (.agg (.cons (.int .u64) (.one (.int .u64))))) .nil)))
def saturateref13_sub.r : RCod (Int × Int) := .val (.agg (.cons (.int .u64) (.one (.int .u64))))
noncomputable def saturateref13_sub.cs : List (Kn Try.prog) := [saturateref13_Top.c, saturateref01_Sub.c]
def saturateref13_sub.live : Nat → Option Keep := liveOf []
noncomputable def saturateref13_sub.body : Code := bodyOf Try.f82
noncomputable def saturateref13_sub.K (fu : Nat) : Code → St → (Ex → St → Option (Int × Int)) → Option (Int × Int) := codeK Try.prog saturateref13_sub.cs saturateref13_sub.live fu
noncomputable def saturateref13_sub.f (a0 : Int) (a1 : Int × Int) (a2 : Int × Int) : Option (Int × Int) :=
  bif (!((decide (a1.1 < a2.2)) == (decide (a1.2 < a2.1)))) then
    (saturateref13_Top.f a0).bind fun r1 =>
    some (r1.1, r1.2)
  else
    (saturateref01_Sub.f a0 a1.1 a2.2).bind fun r2 =>
    (saturateref01_Sub.f a0 a1.2 a2.1).bind fun r3 =>
    some (r2, r3)
theorem saturateref13_sub.eq (fu : Nat) (a : Int × (Int × Int) × (Int × Int) × Unit) : bodyK Try.prog saturateref13_sub.cs saturateref13_sub.live fu Try.f82 (saturateref13_sub.a.enc a) saturateref13_sub.r.dec = saturateref13_sub.f a.1 a.2.1 a.2.2.1 := by kernel_rfl
theorem saturateref13_sub.con : ∀ (a : Int × (Int × Int) × (Int × Int) × Unit) (r : Int × Int), saturateref13_sub.f a.1 a.2.1 a.2.2.1 = some r → Contract Try.prog 82 (saturateref13_sub.a.enc a) (saturateref13_sub.r.enc r) := Contract.of_body (F := fun (a : Int × (Int × Int) × (Int × Int) × Unit) => saturateref13_sub.f a.1 a.2.1 a.2.2.1) (fn := Try.f82) (cs := saturateref13_sub.cs) (live := saturateref13_sub.live) (fuel := fuel0 + 1) (by kernel_rfl) (by kernel_rfl) mixed (saturateref13_sub.eq (fuel0 + 1))
noncomputable def saturateref13_sub.c : Kn Try.prog := Kn.of 82 saturateref13_sub.a saturateref13_sub.r (fun a => saturateref13_sub.f a.1 a.2.1 a.2.2.1) saturateref13_sub.con

/-! ### saturateref13_mul: function 83 -/
def saturateref13_mul.a : ACods (Int × (Int × Int) × (Int × Int) × Unit) := (.cons (.val (.int .i64)) (.cons (.val (.agg (.cons (.int .u64) (.one (.int .u64))))) (.cons (.val (.agg (.cons (.int .u64) (.one (.int .u64))))) .nil)))
def saturateref13_mul.r : RCod (Int × Int) := .val (.agg (.cons (.int .u64) (.one (.int .u64))))
noncomputable def saturateref13_mul.cs : List (Kn Try.prog) := [saturateref01_Mask.c, saturateref13_Top.c]
def saturateref13_mul.live : Nat → Option Keep := liveOf [(6, ⟨[4, 5, 6], [4, 5, 6], []⟩)]
noncomputable def saturateref13_mul.body : Code := bodyOf Try.f83
noncomputable def saturateref13_mul.K (fu : Nat) : Code → St → (Ex → St → Option (Int × Int)) → Option (Int × Int) := codeK Try.prog saturateref13_mul.cs saturateref13_mul.live fu
noncomputable def saturateref13_mul.p3 (m fu : Nat) (c4_0 : Int) (c4_1 : Int) (c5_0 : Int) (c5_1 : Int) : Option (Int × Int) :=
  joinK m (saturateref13_mul.K fu (sub saturateref13_mul.body [true, true])) (stOf 33 [(4, .ptr 4 0 0 0), (5, .ptr 5 0 0 0), (6, .ptr 6 0 0 0)] [(4, .own [.val (.int .u64 c4_0), .val (.int .u64 c4_1)]), (5, .own [.val (.int .u64 c5_0), .val (.int .u64 c5_1)]), (6, .own [.val (.int .u64 0), .val (.int .u64 0)])]) (retC Try.prog Try.f83.results saturateref13_mul.r.dec)
theorem saturateref13_mul.p3_eq (m fu : Nat) (c4_0 : Int) (c4_1 : Int) (c5_0 : Int) (c5_1 : Int) : saturateref13_mul.p3 (m + 1) fu c4_0 c4_1 c5_0 c5_1 =
  some ((IntKind.u64.wrap (c4_0 * c5_0)), (IntKind.u64.wrap (c4_1 * c5_1))) := by kernel_rfl
noncomputable def saturateref13_mul.g (fu : Nat) (a0 : Int) (a1 : Int × Int) (a2 : Int × Int) : Option (Int × Int) :=
  bif (decide (a2.2 > 0)) then
    (saturateref01_Mask.f a0).bind fun r1 =>
    bif decide (a2.2 = 0) then
      none
    else
      bif (decide (a1.2 > (IntKind.u64.wrap (Int.tdiv r1 a2.2)))) then
        (saturateref13_Top.f a0).bind fun r2 =>
        some (r2.1, r2.2)
      else
        saturateref13_mul.p3 fu fu a1.1 a1.2 a2.1 a2.2
  else
    saturateref13_mul.p3 fu fu a1.1 a1.2 a2.1 a2.2
noncomputable def saturateref13_mul.f (a0 : Int) (a1 : Int × Int) (a2 : Int × Int) : Option (Int × Int) := saturateref13_mul.g (fuel0 + 1) a0 a1 a2
theorem saturateref13_mul.eq (fu : Nat) (a : Int × (Int × Int) × (Int × Int) × Unit) : bodyK Try.prog saturateref13_mul.cs saturateref13_mul.live fu Try.f83 (saturateref13_mul.a.enc a) saturateref13_mul.r.dec = saturateref13_mul.g fu a.1 a.2.1 a.2.2.1 := by kernel_rfl
theorem saturateref13_mul.con : ∀ (a : Int × (Int × Int) × (Int × Int) × Unit) (r : Int × Int), saturateref13_mul.f a.1 a.2.1 a.2.2.1 = some r → Contract Try.prog 83 (saturateref13_mul.a.enc a) (saturateref13_mul.r.enc r) := Contract.of_body (F := fun (a : Int × (Int × Int) × (Int × Int) × Unit) => saturateref13_mul.f a.1 a.2.1 a.2.2.1) (fn := Try.f83) (cs := saturateref13_mul.cs) (live := saturateref13_mul.live) (fuel := fuel0 + 1) (by kernel_rfl) (by kernel_rfl) mixed (saturateref13_mul.eq (fuel0 + 1))
noncomputable def saturateref13_mul.c : Kn Try.prog := Kn.of 83 saturateref13_mul.a saturateref13_mul.r (fun a => saturateref13_mul.f a.1 a.2.1 a.2.2.1) saturateref13_mul.con

/-! ### saturateref13_urem: function 84 -/
def saturateref13_urem.a : ACods ((Int × Int) × (Int × Int) × Unit) := (.cons (.val (.agg (.cons (.int .u64) (.one (.int .u64))))) (.cons (.val (.agg (.cons (.int .u64) (.one (.int .u64))))) .nil))
def saturateref13_urem.r : RCod (Int × Int) := .val (.agg (.cons (.int .u64) (.one (.int .u64))))
noncomputable def saturateref13_urem.cs : List (Kn Try.prog) := []
def saturateref13_urem.live : Nat → Option Keep := liveOf []
noncomputable def saturateref13_urem.body : Code := bodyOf Try.f84
noncomputable def saturateref13_urem.K (fu : Nat) : Code → St → (Ex → St → Option (Int × Int)) → Option (Int × Int) := codeK Try.prog saturateref13_urem.cs saturateref13_urem.live fu
noncomputable def saturateref13_urem.f (a0 : Int × Int) (a1 : Int × Int) : Option (Int × Int) :=
  bif (decide (a0.2 < a1.1)) then
    some (a0.1, a0.2)
  else
    bif (decide (a1.1 > 0)) then
      some (0, (mn a0.2 (IntKind.u64.wrap (a1.2 - 1))))
    else
      some (0, a0.2)
theorem saturateref13_urem.eq (fu : Nat) (a : (Int × Int) × (Int × Int) × Unit) : bodyK Try.prog saturateref13_urem.cs saturateref13_urem.live fu Try.f84 (saturateref13_urem.a.enc a) saturateref13_urem.r.dec = saturateref13_urem.f a.1 a.2.1 := by kernel_rfl
theorem saturateref13_urem.con : ∀ (a : (Int × Int) × (Int × Int) × Unit) (r : Int × Int), saturateref13_urem.f a.1 a.2.1 = some r → Contract Try.prog 84 (saturateref13_urem.a.enc a) (saturateref13_urem.r.enc r) := Contract.of_body (F := fun (a : (Int × Int) × (Int × Int) × Unit) => saturateref13_urem.f a.1 a.2.1) (fn := Try.f84) (cs := saturateref13_urem.cs) (live := saturateref13_urem.live) (fuel := fuel0 + 1) (by kernel_rfl) (by kernel_rfl) mixed (saturateref13_urem.eq (fuel0 + 1))
noncomputable def saturateref13_urem.c : Kn Try.prog := Kn.of 84 saturateref13_urem.a saturateref13_urem.r (fun a => saturateref13_urem.f a.1 a.2.1) saturateref13_urem.con

/-! ### saturateref01_Shl: function 59 -/
def saturateref01_Shl.a : ACods (Int × Int × Int × Unit) := (.cons (.val (.int .i64)) (.cons (.val (.int .u64)) (.cons (.val (.int .u64)) .nil)))
def saturateref01_Shl.r : RCod (Int) := .val (.int .u64)
noncomputable def saturateref01_Shl.cs : List (Kn Try.prog) := [saturateref01_by.c, saturateref01_shift.c]
def saturateref01_Shl.live : Nat → Option Keep := liveOf []
noncomputable def saturateref01_Shl.body : Code := bodyOf Try.f59
noncomputable def saturateref01_Shl.K (fu : Nat) : Code → St → (Ex → St → Option (Int)) → Option (Int) := codeK Try.prog saturateref01_Shl.cs saturateref01_Shl.live fu
noncomputable def saturateref01_Shl.f (a0 : Int) (a1 : Int) (a2 : Int) : Option (Int) :=
  (saturateref01_by.f a0 a2).bind fun r1 =>
  (saturateref01_shift.f a0 a1 (IntKind.i64.wrap (0 - r1)) 0).bind fun r2 =>
  some r2
theorem saturateref01_Shl.eq (fu : Nat) (a : Int × Int × Int × Unit) : bodyK Try.prog saturateref01_Shl.cs saturateref01_Shl.live fu Try.f59 (saturateref01_Shl.a.enc a) saturateref01_Shl.r.dec = saturateref01_Shl.f a.1 a.2.1 a.2.2.1 := by kernel_rfl
theorem saturateref01_Shl.con : ∀ (a : Int × Int × Int × Unit) (r : Int), saturateref01_Shl.f a.1 a.2.1 a.2.2.1 = some r → Contract Try.prog 59 (saturateref01_Shl.a.enc a) (saturateref01_Shl.r.enc r) := Contract.of_body (F := fun (a : Int × Int × Int × Unit) => saturateref01_Shl.f a.1 a.2.1 a.2.2.1) (fn := Try.f59) (cs := saturateref01_Shl.cs) (live := saturateref01_Shl.live) (fuel := fuel0 + 1) (by kernel_rfl) (by kernel_rfl) mixed (saturateref01_Shl.eq (fuel0 + 1))
noncomputable def saturateref01_Shl.c : Kn Try.prog := Kn.of 59 saturateref01_Shl.a saturateref01_Shl.r (fun a => saturateref01_Shl.f a.1 a.2.1 a.2.2.1) saturateref01_Shl.con

/-! ### saturateref13_shl: function 85 -/
def saturateref13_shl.a : ACods (Int × (Int × Int) × (Int × Int) × Unit) := (.cons (.val (.int .i64)) (.cons (.val (.agg (.cons (.int .u64) (.one (.int .u64))))) (.cons (.val (.agg (.cons (.int .u64) (.one (.int .u64))))) .nil)))
def saturateref13_shl.r : RCod (Int × Int) := .val (.agg (.cons (.int .u64) (.one (.int .u64))))
noncomputable def saturateref13_shl.cs : List (Kn Try.prog) := [saturateref13_Top.c, saturateref01_Mask.c, saturateref01_Lshr.c, saturateref01_Shl.c]
def saturateref13_shl.live : Nat → Option Keep := liveOf []
noncomputable def saturateref13_shl.body : Code := bodyOf Try.f85
noncomputable def saturateref13_shl.K (fu : Nat) : Code → St → (Ex → St → Option (Int × Int)) → Option (Int × Int) := codeK Try.prog saturateref13_shl.cs saturateref13_shl.live fu
noncomputable def saturateref13_shl.f (a0 : Int) (a1 : Int × Int) (a2 : Int × Int) : Option (Int × Int) :=
  bif (a2.1 != a2.2) then
    (saturateref13_Top.f a0).bind fun r1 =>
    some (r1.1, r1.2)
  else
    bif (decide (a2.1 ≥ (IntKind.u64.wrap a0))) then
      some (0, 0)
    else
      (saturateref01_Mask.f a0).bind fun r2 =>
      (saturateref01_Lshr.f 64 r2 a2.1).bind fun r3 =>
      bif (decide (a1.2 > r3)) then
        (saturateref13_Top.f a0).bind fun r4 =>
        some (r4.1, r4.2)
      else
        (saturateref01_Shl.f a0 a1.1 a2.1).bind fun r5 =>
        (saturateref01_Shl.f a0 a1.2 a2.1).bind fun r6 =>
        some (r5, r6)
theorem saturateref13_shl.eq (fu : Nat) (a : Int × (Int × Int) × (Int × Int) × Unit) : bodyK Try.prog saturateref13_shl.cs saturateref13_shl.live fu Try.f85 (saturateref13_shl.a.enc a) saturateref13_shl.r.dec = saturateref13_shl.f a.1 a.2.1 a.2.2.1 := by kernel_rfl
theorem saturateref13_shl.con : ∀ (a : Int × (Int × Int) × (Int × Int) × Unit) (r : Int × Int), saturateref13_shl.f a.1 a.2.1 a.2.2.1 = some r → Contract Try.prog 85 (saturateref13_shl.a.enc a) (saturateref13_shl.r.enc r) := Contract.of_body (F := fun (a : Int × (Int × Int) × (Int × Int) × Unit) => saturateref13_shl.f a.1 a.2.1 a.2.2.1) (fn := Try.f85) (cs := saturateref13_shl.cs) (live := saturateref13_shl.live) (fuel := fuel0 + 1) (by kernel_rfl) (by kernel_rfl) mixed (saturateref13_shl.eq (fuel0 + 1))
noncomputable def saturateref13_shl.c : Kn Try.prog := Kn.of 85 saturateref13_shl.a saturateref13_shl.r (fun a => saturateref13_shl.f a.1 a.2.1 a.2.2.1) saturateref13_shl.con

/-! ### saturateref13_lshr: function 86 -/
def saturateref13_lshr.a : ACods (Int × (Int × Int) × (Int × Int) × Unit) := (.cons (.val (.int .i64)) (.cons (.val (.agg (.cons (.int .u64) (.one (.int .u64))))) (.cons (.val (.agg (.cons (.int .u64) (.one (.int .u64))))) .nil)))
def saturateref13_lshr.r : RCod (Int × Int) := .val (.agg (.cons (.int .u64) (.one (.int .u64))))
noncomputable def saturateref13_lshr.cs : List (Kn Try.prog) := [saturateref01_Lshr.c]
def saturateref13_lshr.live : Nat → Option Keep := liveOf []
noncomputable def saturateref13_lshr.body : Code := bodyOf Try.f86
noncomputable def saturateref13_lshr.K (fu : Nat) : Code → St → (Ex → St → Option (Int × Int)) → Option (Int × Int) := codeK Try.prog saturateref13_lshr.cs saturateref13_lshr.live fu
noncomputable def saturateref13_lshr.f (a0 : Int) (a1 : Int × Int) (a2 : Int × Int) : Option (Int × Int) :=
  bif (a2.1 != a2.2) then
    some (0, a1.2)
  else
    (saturateref01_Lshr.f a0 a1.1 a2.1).bind fun r1 =>
    (saturateref01_Lshr.f a0 a1.2 a2.1).bind fun r2 =>
    some (r1, r2)
theorem saturateref13_lshr.eq (fu : Nat) (a : Int × (Int × Int) × (Int × Int) × Unit) : bodyK Try.prog saturateref13_lshr.cs saturateref13_lshr.live fu Try.f86 (saturateref13_lshr.a.enc a) saturateref13_lshr.r.dec = saturateref13_lshr.f a.1 a.2.1 a.2.2.1 := by kernel_rfl
theorem saturateref13_lshr.con : ∀ (a : Int × (Int × Int) × (Int × Int) × Unit) (r : Int × Int), saturateref13_lshr.f a.1 a.2.1 a.2.2.1 = some r → Contract Try.prog 86 (saturateref13_lshr.a.enc a) (saturateref13_lshr.r.enc r) := Contract.of_body (F := fun (a : Int × (Int × Int) × (Int × Int) × Unit) => saturateref13_lshr.f a.1 a.2.1 a.2.2.1) (fn := Try.f86) (cs := saturateref13_lshr.cs) (live := saturateref13_lshr.live) (fuel := fuel0 + 1) (by kernel_rfl) (by kernel_rfl) mixed (saturateref13_lshr.eq (fuel0 + 1))
noncomputable def saturateref13_lshr.c : Kn Try.prog := Kn.of 86 saturateref13_lshr.a saturateref13_lshr.r (fun a => saturateref13_lshr.f a.1 a.2.1 a.2.2.1) saturateref13_lshr.con

/-! ### saturateref13_truth: function 87 -/
def saturateref13_truth.a : ACods (Bool × Bool × Unit) := (.cons (.val (.bool)) (.cons (.val (.bool)) .nil))
def saturateref13_truth.r : RCod (Int × Int) := .val (.agg (.cons (.int .u64) (.one (.int .u64))))
noncomputable def saturateref13_truth.cs : List (Kn Try.prog) := []
def saturateref13_truth.live : Nat → Option Keep := liveOf []
noncomputable def saturateref13_truth.body : Code := bodyOf Try.f87
noncomputable def saturateref13_truth.K (fu : Nat) : Code → St → (Ex → St → Option (Int × Int)) → Option (Int × Int) := codeK Try.prog saturateref13_truth.cs saturateref13_truth.live fu
noncomputable def saturateref13_truth.f (a0 : Bool) (a1 : Bool) : Option (Int × Int) :=
  bif a0 then
    some (1, 1)
  else
    bif a1 then
      some (0, 0)
    else
      some (0, 1)
theorem saturateref13_truth.eq (fu : Nat) (a : Bool × Bool × Unit) : bodyK Try.prog saturateref13_truth.cs saturateref13_truth.live fu Try.f87 (saturateref13_truth.a.enc a) saturateref13_truth.r.dec = saturateref13_truth.f a.1 a.2.1 := by kernel_rfl
theorem saturateref13_truth.con : ∀ (a : Bool × Bool × Unit) (r : Int × Int), saturateref13_truth.f a.1 a.2.1 = some r → Contract Try.prog 87 (saturateref13_truth.a.enc a) (saturateref13_truth.r.enc r) := Contract.of_body (F := fun (a : Bool × Bool × Unit) => saturateref13_truth.f a.1 a.2.1) (fn := Try.f87) (cs := saturateref13_truth.cs) (live := saturateref13_truth.live) (fuel := fuel0 + 1) (by kernel_rfl) (by kernel_rfl) mixed (saturateref13_truth.eq (fuel0 + 1))
noncomputable def saturateref13_truth.c : Kn Try.prog := Kn.of 87 saturateref13_truth.a saturateref13_truth.r (fun a => saturateref13_truth.f a.1 a.2.1) saturateref13_truth.con

/-! ### saturateref13_ult: function 88 -/
def saturateref13_ult.a : ACods ((Int × Int) × (Int × Int) × Unit) := (.cons (.val (.agg (.cons (.int .u64) (.one (.int .u64))))) (.cons (.val (.agg (.cons (.int .u64) (.one (.int .u64))))) .nil))
def saturateref13_ult.r : RCod (Int × Int) := .val (.agg (.cons (.int .u64) (.one (.int .u64))))
noncomputable def saturateref13_ult.cs : List (Kn Try.prog) := [saturateref13_truth.c]
def saturateref13_ult.live : Nat → Option Keep := liveOf []
noncomputable def saturateref13_ult.body : Code := bodyOf Try.f88
noncomputable def saturateref13_ult.K (fu : Nat) : Code → St → (Ex → St → Option (Int × Int)) → Option (Int × Int) := codeK Try.prog saturateref13_ult.cs saturateref13_ult.live fu
noncomputable def saturateref13_ult.f (a0 : Int × Int) (a1 : Int × Int) : Option (Int × Int) :=
  (saturateref13_truth.f (decide (a0.2 < a1.1)) (decide (a0.1 ≥ a1.2))).bind fun r1 =>
  some (r1.1, r1.2)
theorem saturateref13_ult.eq (fu : Nat) (a : (Int × Int) × (Int × Int) × Unit) : bodyK Try.prog saturateref13_ult.cs saturateref13_ult.live fu Try.f88 (saturateref13_ult.a.enc a) saturateref13_ult.r.dec = saturateref13_ult.f a.1 a.2.1 := by kernel_rfl
theorem saturateref13_ult.con : ∀ (a : (Int × Int) × (Int × Int) × Unit) (r : Int × Int), saturateref13_ult.f a.1 a.2.1 = some r → Contract Try.prog 88 (saturateref13_ult.a.enc a) (saturateref13_ult.r.enc r) := Contract.of_body (F := fun (a : (Int × Int) × (Int × Int) × Unit) => saturateref13_ult.f a.1 a.2.1) (fn := Try.f88) (cs := saturateref13_ult.cs) (live := saturateref13_ult.live) (fuel := fuel0 + 1) (by kernel_rfl) (by kernel_rfl) mixed (saturateref13_ult.eq (fuel0 + 1))
noncomputable def saturateref13_ult.c : Kn Try.prog := Kn.of 88 saturateref13_ult.a saturateref13_ult.r (fun a => saturateref13_ult.f a.1 a.2.1) saturateref13_ult.con

/-! ### saturateref13_slt: function 89 -/
def saturateref13_slt.a : ACods (Int × (Int × Int) × (Int × Int) × Unit) := (.cons (.val (.int .i64)) (.cons (.val (.agg (.cons (.int .u64) (.one (.int .u64))))) (.cons (.val (.agg (.cons (.int .u64) (.one (.int .u64))))) .nil)))
def saturateref13_slt.r : RCod (Int × Int) := .val (.agg (.cons (.int .u64) (.one (.int .u64))))
noncomputable def saturateref13_slt.cs : List (Kn Try.prog) := [saturateref13_half.c, saturateref13_ult.c]
def saturateref13_slt.live : Nat → Option Keep := liveOf [(8, ⟨[6], [6], []⟩)]
noncomputable def saturateref13_slt.body : Code := bodyOf Try.f89
noncomputable def saturateref13_slt.K (fu : Nat) : Code → St → (Ex → St → Option (Int × Int)) → Option (Int × Int) := codeK Try.prog saturateref13_slt.cs saturateref13_slt.live fu
noncomputable def saturateref13_slt.p4 (m fu : Nat) : Option (Int × Int) :=
  joinK m (saturateref13_slt.K fu (sub saturateref13_slt.body [true, true, true])) (stOf 36 [(6, .ptr 6 0 0 0)] [(6, .own [.val (.int .u64 0), .val (.int .u64 0)])]) (retC Try.prog Try.f89.results saturateref13_slt.r.dec)
theorem saturateref13_slt.p4_eq (m fu : Nat) : saturateref13_slt.p4 (m + 1) fu =
  some (0, 1) := by kernel_rfl
noncomputable def saturateref13_slt.g (fu : Nat) (a0 : Int) (a1 : Int × Int) (a2 : Int × Int) : Option (Int × Int) :=
  (saturateref13_half.f a0).bind fun r1 =>
  bif (decide (a1.2 < r1)) then
    bif (decide (a2.2 < r1)) then
      (saturateref13_ult.f (a1.1, a1.2) (a2.1, a2.2)).bind fun r2 =>
      some (r2.1, r2.2)
    else
      bif (decide (a1.1 ≥ r1)) then
        bif (decide (a2.1 ≥ r1)) then
          (saturateref13_ult.f (a1.1, a1.2) (a2.1, a2.2)).bind fun r3 =>
          some (r3.1, r3.2)
        else
          saturateref13_slt.p4 fu fu
      else
        saturateref13_slt.p4 fu fu
  else
    bif (decide (a1.1 ≥ r1)) then
      bif (decide (a2.1 ≥ r1)) then
        (saturateref13_ult.f (a1.1, a1.2) (a2.1, a2.2)).bind fun r4 =>
        some (r4.1, r4.2)
      else
        saturateref13_slt.p4 fu fu
    else
      saturateref13_slt.p4 fu fu
noncomputable def saturateref13_slt.f (a0 : Int) (a1 : Int × Int) (a2 : Int × Int) : Option (Int × Int) := saturateref13_slt.g (fuel0 + 1) a0 a1 a2
theorem saturateref13_slt.eq (fu : Nat) (a : Int × (Int × Int) × (Int × Int) × Unit) : bodyK Try.prog saturateref13_slt.cs saturateref13_slt.live fu Try.f89 (saturateref13_slt.a.enc a) saturateref13_slt.r.dec = saturateref13_slt.g fu a.1 a.2.1 a.2.2.1 := by kernel_rfl
theorem saturateref13_slt.con : ∀ (a : Int × (Int × Int) × (Int × Int) × Unit) (r : Int × Int), saturateref13_slt.f a.1 a.2.1 a.2.2.1 = some r → Contract Try.prog 89 (saturateref13_slt.a.enc a) (saturateref13_slt.r.enc r) := Contract.of_body (F := fun (a : Int × (Int × Int) × (Int × Int) × Unit) => saturateref13_slt.f a.1 a.2.1 a.2.2.1) (fn := Try.f89) (cs := saturateref13_slt.cs) (live := saturateref13_slt.live) (fuel := fuel0 + 1) (by kernel_rfl) (by kernel_rfl) mixed (saturateref13_slt.eq (fuel0 + 1))
noncomputable def saturateref13_slt.c : Kn Try.prog := Kn.of 89 saturateref13_slt.a saturateref13_slt.r (fun a => saturateref13_slt.f a.1 a.2.1 a.2.2.1) saturateref13_slt.con

/-! ### saturateref13_two: function 44 -/
def saturateref13_two.a : ACods (Int × Int × Int × (Int × Int) × (Int × Int) × Unit) := (.cons (.val (.int .i64)) (.cons (.val (.int .i64)) (.cons (.val (.int .i64)) (.cons (.val (.agg (.cons (.int .u64) (.one (.int .u64))))) (.cons (.val (.agg (.cons (.int .u64) (.one (.int .u64))))) .nil)))))
def saturateref13_two.r : RCod (Int × Int) := .val (.agg (.cons (.int .u64) (.one (.int .u64))))
noncomputable def saturateref13_two.cs : List (Kn Try.prog) := [saturateref13_Fill.c, saturateref13_add.c, saturateref13_sub.c, saturateref13_mul.c, saturateref13_Top.c, saturateref13_urem.c, saturateref13_shl.c, saturateref13_lshr.c, saturateref13_half.c, saturateref13_truth.c, saturateref13_ult.c, saturateref13_slt.c]
def saturateref13_two.live : Nat → Option Keep := liveOf []
noncomputable def saturateref13_two.body : Code := bodyOf Try.f44
noncomputable def saturateref13_two.K (fu : Nat) : Code → St → (Ex → St → Option (Int × Int)) → Option (Int × Int) := codeK Try.prog saturateref13_two.cs saturateref13_two.live fu
noncomputable def saturateref13_two.f (a0 : Int) (a1 : Int) (a2 : Int) (a3 : Int × Int) (a4 : Int × Int) : Option (Int × Int) :=
  bif (a0 == 5) then
    some (0, (mn a3.2 a4.2))
  else
    bif (a0 == 6) then
      (saturateref13_Fill.f (Go.bits .or .u64 a3.2 a4.2)).bind fun r1 =>
      some ((mx a3.1 a4.1), r1)
    else
      bif (a0 == 7) then
        (saturateref13_Fill.f (Go.bits .or .u64 a3.2 a4.2)).bind fun r2 =>
        some (0, r2)
      else
        bif (a0 == 8) then
          (saturateref13_add.f a1 (a3.1, a3.2) (a4.1, a4.2)).bind fun r3 =>
          some (r3.1, r3.2)
        else
          bif (a0 == 9) then
            (saturateref13_sub.f a1 (a3.1, a3.2) (a4.1, a4.2)).bind fun r4 =>
            some (r4.1, r4.2)
          else
            bif (a0 == 10) then
              (saturateref13_mul.f a1 (a3.1, a3.2) (a4.1, a4.2)).bind fun r5 =>
              some (r5.1, r5.2)
            else
              bif (a0 == 11) then
                bif (a4.1 == 0) then
                  (saturateref13_Top.f a1).bind fun r6 =>
                  some (r6.1, r6.2)
                else
                  bif decide (a4.2 = 0) then
                    none
                  else
                    bif decide (a4.1 = 0) then
                      none
                    else
                      some ((IntKind.u64.wrap (Int.tdiv a3.1 a4.2)), (IntKind.u64.wrap (Int.tdiv a3.2 a4.1)))
              else
                bif (a0 == 12) then
                  (saturateref13_urem.f (a3.1, a3.2) (a4.1, a4.2)).bind fun r7 =>
                  some (r7.1, r7.2)
                else
                  bif (a0 == 13) then
                    (saturateref13_shl.f a1 (a3.1, a3.2) (a4.1, a4.2)).bind fun r8 =>
                    some (r8.1, r8.2)
                  else
                    bif (a0 == 14) then
                      (saturateref13_lshr.f a1 (a3.1, a3.2) (a4.1, a4.2)).bind fun r9 =>
                      some (r9.1, r9.2)
                    else
                      bif (a0 == 15) then
                        (saturateref13_half.f a1).bind fun r10 =>
                        bif (decide (a3.2 < r10)) then
                          (saturateref13_lshr.f a1 (a3.1, a3.2) (a4.1, a4.2)).bind fun r11 =>
                          some (r11.1, r11.2)
                        else
                          (saturateref13_Top.f a1).bind fun r12 =>
                          some (r12.1, r12.2)
                      else
                        bif (a0 == 16) then
                          bif (a3.1 == a3.2) then
                            bif (decide (a3.2 < a4.1)) then
                              (saturateref13_truth.f ((a3.1 == a4.1) && ((a3.2 == a4.2) && true)) true).bind fun r13 =>
                              some (r13.1, r13.2)
                            else
                              (saturateref13_truth.f ((a3.1 == a4.1) && ((a3.2 == a4.2) && true)) (decide (a4.2 < a3.1))).bind fun r14 =>
                              some (r14.1, r14.2)
                          else
                            bif (decide (a3.2 < a4.1)) then
                              (saturateref13_truth.f false true).bind fun r15 =>
                              some (r15.1, r15.2)
                            else
                              (saturateref13_truth.f false (decide (a4.2 < a3.1))).bind fun r16 =>
                              some (r16.1, r16.2)
                        else
                          bif (a0 == 17) then
                            (saturateref13_ult.f (a3.1, a3.2) (a4.1, a4.2)).bind fun r17 =>
                            some (r17.1, r17.2)
                          else
                            (saturateref13_slt.f a2 (a3.1, a3.2) (a4.1, a4.2)).bind fun r18 =>
                            some (r18.1, r18.2)
theorem saturateref13_two.eq (fu : Nat) (a : Int × Int × Int × (Int × Int) × (Int × Int) × Unit) : bodyK Try.prog saturateref13_two.cs saturateref13_two.live fu Try.f44 (saturateref13_two.a.enc a) saturateref13_two.r.dec = saturateref13_two.f a.1 a.2.1 a.2.2.1 a.2.2.2.1 a.2.2.2.2.1 := by kernel_rfl
theorem saturateref13_two.con : ∀ (a : Int × Int × Int × (Int × Int) × (Int × Int) × Unit) (r : Int × Int), saturateref13_two.f a.1 a.2.1 a.2.2.1 a.2.2.2.1 a.2.2.2.2.1 = some r → Contract Try.prog 44 (saturateref13_two.a.enc a) (saturateref13_two.r.enc r) := Contract.of_body (F := fun (a : Int × Int × Int × (Int × Int) × (Int × Int) × Unit) => saturateref13_two.f a.1 a.2.1 a.2.2.1 a.2.2.2.1 a.2.2.2.2.1) (fn := Try.f44) (cs := saturateref13_two.cs) (live := saturateref13_two.live) (fuel := fuel0 + 1) (by kernel_rfl) (by kernel_rfl) mixed (saturateref13_two.eq (fuel0 + 1))
noncomputable def saturateref13_two.c : Kn Try.prog := Kn.of 44 saturateref13_two.a saturateref13_two.r (fun a => saturateref13_two.f a.1 a.2.1 a.2.2.1 a.2.2.2.1 a.2.2.2.2.1) saturateref13_two.con

/-! ### saturateref13_Apply: function 10 -/
def saturateref13_Apply.a : ACods (Int × Int × Int × (Nat × (Nat → Int)) × (Nat × (Nat → Int) × (Nat → Int)) × Unit) := (.cons (.val (.int .i64)) (.cons (.val (.int .i64)) (.cons (.val (.int .u64)) (.cons (.rows (.int1 .i64)) (.cons (.rows (.int .u64 (.int1 .u64))) .nil)))))
def saturateref13_Apply.r : RCod ((Int × Int) × Int) := .val (.tup (.cons (.agg (.cons (.int .u64) (.one (.int .u64)))) (.one (.int .i64))))
noncomputable def saturateref13_Apply.cs : List (Kn Try.prog) := [saturateref13_Refused.c, saturateref13_Of.c, saturateref01_Mask.c, saturateref13_Top.c, saturateref13_Const.c, saturateref13_neg.c, saturateref13_Join.c, saturateref01_Concat.c, saturateref13_extract.c, saturateref13_sext.c, saturateref13_two.c]
def saturateref13_Apply.live : Nat → Option Keep := liveOf [(13, ⟨[0, 2, 3, 4, 10, 12, 14, 15], [3, 4, 10, 14], [(14, 29, [.int .u64 (fun _ => 0), .int .u64 (fun _ => 0)])]⟩)]
noncomputable def saturateref13_Apply.body : Code := bodyOf Try.f10
noncomputable def saturateref13_Apply.K (fu : Nat) : Code → St → (Ex → St → Option ((Int × Int) × Int)) → Option ((Int × Int) × Int) := codeK Try.prog saturateref13_Apply.cs saturateref13_Apply.live fu
noncomputable def saturateref13_Apply.j6 (fu : Nat) (n6 : Nat) (x0 : Int) (x2 : Int) (x3n : Nat) (x4n : Nat) (x12 : Int) (x14n : Nat) (x15 : Int) (m3 : Nat) (g3_0 : Nat → Int) (m4 : Nat) (g4_0 : Nat → Int) (g4_1 : Nat → Int) (c10_0 : Int) (c10_1 : Int) (m14 : Nat) (g14_0 : Nat → Int) (g14_1 : Nat → Int) : Option ((Int × Int) × Int) :=
  loopK (saturateref13_Apply.K fu (sub saturateref13_Apply.body [true, true, true, true, false, true, false, false])) (saturateref13_Apply.live 13) n6 (stOf 183 [(0, .val (.int .i64 x0)), (2, .val (.int .u64 x2)), (3, .sl 3 1 x3n), (4, .sl 4 2 x4n), (10, .ptr 10 0 0 0), (12, .val (.int .i64 x12)), (14, .sl 14 2 x14n), (15, .val (.int .i64 x15))] [(3, .ext m3 [.int .i64 g3_0]), (4, .ext m4 [.int .u64 g4_0, .int .u64 g4_1]), (10, .own [.val (.int .u64 c10_0), .val (.int .u64 c10_1)]), (14, .grow 29 m14 [.int .u64 g14_0, .int .u64 g14_1])]) (blockC 0 (seqC fu (saturateref13_Apply.live 18) (saturateref13_Apply.K fu (sub saturateref13_Apply.body [true, true, true, true, true])) (retC Try.prog Try.f10.results saturateref13_Apply.r.dec)))
theorem saturateref13_Apply.j6_succ (fu : Nat) (n6 : Nat) (x0 : Int) (x2 : Int) (x3n : Nat) (x4n : Nat) (x12 : Int) (x14n : Nat) (x15 : Int) (m3 : Nat) (g3_0 : Nat → Int) (m4 : Nat) (g4_0 : Nat → Int) (g4_1 : Nat → Int) (c10_0 : Int) (c10_1 : Int) (m14 : Nat) (g14_0 : Nat → Int) (g14_1 : Nat → Int) : saturateref13_Apply.j6 fu (n6 + 1) x0 x2 x3n x4n x12 x14n x15 m3 g3_0 m4 g4_0 g4_1 c10_0 c10_1 m14 g14_0 g14_1 =
  bif (decide (x15 < (x4n : Int))) then
    bif decide (0 ≤ x15) then
      bif decide (x15 < (x3n : Int)) then
        bif decide (0 ≤ x15) then
          bif decide (x15 < (x4n : Int)) then
            (saturateref13_Of.f (g3_0 x15.toNat) ((g4_0 x15.toNat), (g4_1 x15.toNat))).bind fun r2 =>
            bif Nat.ble ((x14n + 1) * 16) 140737488355328 then
              saturateref13_Apply.j6 fu n6 x0 x2 x3n x4n x12 (x14n + 1) (IntKind.i64.wrap (x15 + 1)) m3 g3_0 m4 g4_0 g4_1 c10_0 c10_1 (x14n + 1) (cat x14n g14_0 (fun i => [r2.1].getD i 0)) (cat x14n g14_1 (fun i => [r2.2].getD i 0))
            else
              none
          else
            none
        else
          none
      else
        none
    else
      none
  else
    (saturateref01_Mask.f x12).bind fun r3 =>
    bif (x0 == 1) then
      (saturateref13_Top.f x12).bind fun r4 =>
      some ((r4.1, r4.2), 0)
    else
      bif (x0 == 2) then
        (saturateref13_Const.f x12 x2).bind fun r5 =>
        some ((r5.1, r5.2), 0)
      else
        bif (x0 == 3) then
          bif decide ((0 : Int) < (x14n : Int)) then
            bif decide ((0 : Int) < (x14n : Int)) then
              some (((IntKind.u64.wrap (r3 - (g14_1 0))), (IntKind.u64.wrap (r3 - (g14_0 0)))), 0)
            else
              none
          else
            none
        else
          bif (x0 == 4) then
            bif decide ((0 : Int) < (x14n : Int)) then
              (saturateref13_neg.f r3 ((g14_0 0), (g14_1 0))).bind fun r6 =>
              some ((r6.1, r6.2), 0)
            else
              none
          else
            bif (x0 == 19) then
              bif decide ((0 : Int) < (x14n : Int)) then
                bif decide ((0 : Int) < (x14n : Int)) then
                  bif ((g14_0 0) != (g14_1 0)) then
                    bif decide ((1 : Int) < (x14n : Int)) then
                      bif decide ((2 : Int) < (x14n : Int)) then
                        (saturateref13_Join.f x12 ((g14_0 1), (g14_1 1)) ((g14_0 2), (g14_1 2))).bind fun r7 =>
                        some ((r7.1, r7.2), 0)
                      else
                        none
                    else
                      none
                  else
                    bif decide ((0 : Int) < (x14n : Int)) then
                      bif decide (0 ≤ (IntKind.i64.wrap (2 - (IntKind.i64.wrap (g14_0 0))))) then
                        bif decide ((IntKind.i64.wrap (2 - (IntKind.i64.wrap (g14_0 0)))) < (x14n : Int)) then
                          some (((g14_0 (IntKind.i64.wrap (2 - (IntKind.i64.wrap (g14_0 0)))).toNat), (g14_1 (IntKind.i64.wrap (2 - (IntKind.i64.wrap (g14_0 0)))).toNat)), 0)
                        else
                          none
                      else
                        none
                    else
                      none
                else
                  none
              else
                none
            else
              bif (x0 == 20) then
                bif decide ((0 : Int) < (x3n : Int)) then
                  bif decide ((1 : Int) < (x3n : Int)) then
                    bif decide ((0 : Int) < (x14n : Int)) then
                      bif decide ((1 : Int) < (x14n : Int)) then
                        (saturateref01_Concat.f (g3_0 0) (g3_0 1) (g14_0 0) (g14_0 1)).bind fun r8 =>
                        bif decide ((0 : Int) < (x3n : Int)) then
                          bif decide ((1 : Int) < (x3n : Int)) then
                            bif decide ((0 : Int) < (x14n : Int)) then
                              bif decide ((1 : Int) < (x14n : Int)) then
                                (saturateref01_Concat.f (g3_0 0) (g3_0 1) (g14_1 0) (g14_1 1)).bind fun r9 =>
                                some ((r8, r9), 0)
                              else
                                none
                            else
                              none
                          else
                            none
                        else
                          none
                      else
                        none
                    else
                      none
                  else
                    none
                else
                  none
              else
                bif (x0 == 21) then
                  bif decide ((0 : Int) < (x3n : Int)) then
                    bif decide ((0 : Int) < (x14n : Int)) then
                      (saturateref13_extract.f x12 x2 (g3_0 0) ((g14_0 0), (g14_1 0))).bind fun r10 =>
                      some ((r10.1, r10.2), 0)
                    else
                      none
                  else
                    none
                else
                  bif (x0 == 22) then
                    bif decide ((0 : Int) < (x14n : Int)) then
                      some (((g14_0 0), (g14_1 0)), 0)
                    else
                      none
                  else
                    bif (x0 == 23) then
                      bif decide ((0 : Int) < (x3n : Int)) then
                        bif decide ((0 : Int) < (x14n : Int)) then
                          (saturateref13_sext.f x12 (g3_0 0) ((g14_0 0), (g14_1 0))).bind fun r11 =>
                          some ((r11.1, r11.2), 0)
                        else
                          none
                      else
                        none
                    else
                      bif decide ((0 : Int) < (x3n : Int)) then
                        bif decide ((0 : Int) < (x14n : Int)) then
                          bif decide ((1 : Int) < (x14n : Int)) then
                            (saturateref13_two.f x0 x12 (g3_0 0) ((g14_0 0), (g14_1 0)) ((g14_0 1), (g14_1 1))).bind fun r12 =>
                            some ((r12.1, r12.2), 0)
                          else
                            none
                        else
                          none
                      else
                        none := by kernel_rfl
noncomputable def saturateref13_Apply.g (fu : Nat) (a0 : Int) (a1 : Int) (a2 : Int) (a3 : Nat × (Nat → Int)) (a4 : Nat × (Nat → Int) × (Nat → Int)) : Option ((Int × Int) × Int) :=
  (saturateref13_Refused.f a0 a1 a2 (a3.1, a3.2) (a4.1 : Int)).bind fun r1 =>
  bif (r1.2 != 0) then
    some ((0, 0), r1.2)
  else
    saturateref13_Apply.j6 fu fu a0 a2 a3.1 a4.1 r1.1 0 0 a3.1 a3.2 a4.1 a4.2.1 a4.2.2 0 0 0 (fun i => [0].getD i 0) (fun i => [0].getD i 0)
noncomputable def saturateref13_Apply.f (a0 : Int) (a1 : Int) (a2 : Int) (a3 : Nat × (Nat → Int)) (a4 : Nat × (Nat → Int) × (Nat → Int)) : Option ((Int × Int) × Int) := saturateref13_Apply.g (fuel0 + 1) a0 a1 a2 a3 a4
theorem saturateref13_Apply.eq (fu : Nat) (a : Int × Int × Int × (Nat × (Nat → Int)) × (Nat × (Nat → Int) × (Nat → Int)) × Unit) : bodyK Try.prog saturateref13_Apply.cs saturateref13_Apply.live fu Try.f10 (saturateref13_Apply.a.enc a) saturateref13_Apply.r.dec = saturateref13_Apply.g fu a.1 a.2.1 a.2.2.1 a.2.2.2.1 a.2.2.2.2.1 := by kernel_rfl
theorem saturateref13_Apply.con : ∀ (a : Int × Int × Int × (Nat × (Nat → Int)) × (Nat × (Nat → Int) × (Nat → Int)) × Unit) (r : (Int × Int) × Int), saturateref13_Apply.f a.1 a.2.1 a.2.2.1 a.2.2.2.1 a.2.2.2.2.1 = some r → Contract Try.prog 10 (saturateref13_Apply.a.enc a) (saturateref13_Apply.r.enc r) := Contract.of_body (F := fun (a : Int × Int × Int × (Nat × (Nat → Int)) × (Nat × (Nat → Int) × (Nat → Int)) × Unit) => saturateref13_Apply.f a.1 a.2.1 a.2.2.1 a.2.2.2.1 a.2.2.2.2.1) (fn := Try.f10) (cs := saturateref13_Apply.cs) (live := saturateref13_Apply.live) (fuel := fuel0 + 1) (by kernel_rfl) (by kernel_rfl) mixed (saturateref13_Apply.eq (fuel0 + 1))
noncomputable def saturateref13_Apply.c : Kn Try.prog := Kn.of 10 saturateref13_Apply.a saturateref13_Apply.r (fun a => saturateref13_Apply.f a.1 a.2.1 a.2.2.1 a.2.2.2.1 a.2.2.2.2.1) saturateref13_Apply.con

/-! ### saturatelaw13_lives: function 11 -/
def saturatelaw13_lives.a : ACods (Unit) := .nil
def saturatelaw13_lives.r : RCod (Bool) := .val (.bool)
noncomputable def saturatelaw13_lives.cs : List (Kn Try.prog) := [ranges_Apply.c]
def saturatelaw13_lives.live : Nat → Option Keep := liveOf []
noncomputable def saturatelaw13_lives.body : Code := bodyOf Try.f11
noncomputable def saturatelaw13_lives.K (fu : Nat) : Code → St → (Ex → St → Option (Bool)) → Option (Bool) := codeK Try.prog saturatelaw13_lives.cs saturatelaw13_lives.live fu
noncomputable def saturatelaw13_lives.f : Option (Bool) :=
  (ranges_Apply.f 8 0 0 (2, (fun i => [4, 4].getD i 0)) (2, (fun i => [1, 2].getD i 0), (fun i => [3, 5].getD i 0))).bind fun r1 =>
  (ranges_Apply.f 8 0 0 (2, (fun i => [4, 4].getD i 0)) (2, (fun i => [9, 9].getD i 0), (fun i => [15, 9].getD i 0))).bind fun r2 =>
  (ranges_Apply.f 8 0 0 (2, (fun i => [4, 4].getD i 0)) (2, (fun i => [0, 1].getD i 0), (fun i => [15, 1].getD i 0))).bind fun r3 =>
  bif (r1.2 == 0) then
    bif (r2.2 == 0) then
      bif (r3.2 == 0) then
        bif ((r1.1.1 == 3) && ((r1.1.2 == 8) && true)) then
          bif ((r2.1.1 == 2) && ((r2.1.2 == 8) && true)) then
            some ((r3.1.1 == 0) && ((r3.1.2 == 15) && true))
          else
            some false
        else
          some false
      else
        some false
    else
      some false
  else
    some false
theorem saturatelaw13_lives.eq (fu : Nat) (a : Unit) : bodyK Try.prog saturatelaw13_lives.cs saturatelaw13_lives.live fu Try.f11 (saturatelaw13_lives.a.enc a) saturatelaw13_lives.r.dec = saturatelaw13_lives.f := by kernel_rfl
theorem saturatelaw13_lives.con : ∀ (a : Unit) (r : Bool), saturatelaw13_lives.f = some r → Contract Try.prog 11 (saturatelaw13_lives.a.enc a) (saturatelaw13_lives.r.enc r) := Contract.of_body (F := fun (a : Unit) => saturatelaw13_lives.f) (fn := Try.f11) (cs := saturatelaw13_lives.cs) (live := saturatelaw13_lives.live) (fuel := fuel0 + 1) (by kernel_rfl) (by kernel_rfl) mixed (saturatelaw13_lives.eq (fuel0 + 1))
noncomputable def saturatelaw13_lives.c : Kn Try.prog := Kn.of 11 saturatelaw13_lives.a saturatelaw13_lives.r (fun a => saturatelaw13_lives.f) saturatelaw13_lives.con

/-! ### saturatelaw13_RangesApply: function 3 -/
def saturatelaw13_RangesApply.a : ACods ((Int × Int × Int × (Nat × (Nat → Int)) × (Nat × (Nat → Int) × (Nat → Int))) × Unit) := (.cons (.pk (.cons (.val (.int .i64)) (.cons (.val (.int .i64)) (.cons (.val (.int .u64)) (.cons (.rows (.int1 .i64)) (.one (.rows (.int .u64 (.int1 .u64))))))))) .nil)
def saturatelaw13_RangesApply.r : RCod (Bool) := .val (.bool)
noncomputable def saturatelaw13_RangesApply.cs : List (Kn Try.prog) := [ranges_Apply.c, saturateref13_Apply.c, saturatelaw13_lives.c]
def saturatelaw13_RangesApply.live : Nat → Option Keep := liveOf []
noncomputable def saturatelaw13_RangesApply.body : Code := bodyOf Try.f3
noncomputable def saturatelaw13_RangesApply.K (fu : Nat) : Code → St → (Ex → St → Option (Bool)) → Option (Bool) := codeK Try.prog saturatelaw13_RangesApply.cs saturatelaw13_RangesApply.live fu
noncomputable def saturatelaw13_RangesApply.f (a0 : Int × Int × Int × (Nat × (Nat → Int)) × (Nat × (Nat → Int) × (Nat → Int))) : Option (Bool) :=
  (ranges_Apply.f a0.1 a0.2.1 a0.2.2.1 (a0.2.2.2.1.1, a0.2.2.2.1.2) (a0.2.2.2.2.1, a0.2.2.2.2.2.1, a0.2.2.2.2.2.2)).bind fun r1 =>
  (saturateref13_Apply.f a0.1 a0.2.1 a0.2.2.1 (a0.2.2.2.1.1, a0.2.2.2.1.2) (a0.2.2.2.2.1, a0.2.2.2.2.2.1, a0.2.2.2.2.2.2)).bind fun r2 =>
  bif ((r1.1.1 == r2.1.1) && ((r1.1.2 == r2.1.2) && true)) then
    bif (r1.2 == r2.2) then
      (saturatelaw13_lives.f).bind fun r3 =>
      some r3
    else
      some false
  else
    some false
theorem saturatelaw13_RangesApply.eq (fu : Nat) (a : (Int × Int × Int × (Nat × (Nat → Int)) × (Nat × (Nat → Int) × (Nat → Int))) × Unit) : bodyK Try.prog saturatelaw13_RangesApply.cs saturatelaw13_RangesApply.live fu Try.f3 (saturatelaw13_RangesApply.a.enc a) saturatelaw13_RangesApply.r.dec = saturatelaw13_RangesApply.f a.1 := by kernel_rfl
theorem saturatelaw13_RangesApply.con : ∀ (a : (Int × Int × Int × (Nat × (Nat → Int)) × (Nat × (Nat → Int) × (Nat → Int))) × Unit) (r : Bool), saturatelaw13_RangesApply.f a.1 = some r → Contract Try.prog 3 (saturatelaw13_RangesApply.a.enc a) (saturatelaw13_RangesApply.r.enc r) := Contract.of_body (F := fun (a : (Int × Int × Int × (Nat × (Nat → Int)) × (Nat × (Nat → Int) × (Nat → Int))) × Unit) => saturatelaw13_RangesApply.f a.1) (fn := Try.f3) (cs := saturatelaw13_RangesApply.cs) (live := saturatelaw13_RangesApply.live) (fuel := fuel0 + 1) (by kernel_rfl) (by kernel_rfl) mixed (saturatelaw13_RangesApply.eq (fuel0 + 1))
noncomputable def saturatelaw13_RangesApply.c : Kn Try.prog := Kn.of 3 saturatelaw13_RangesApply.a saturatelaw13_RangesApply.r (fun a => saturatelaw13_RangesApply.f a.1) saturatelaw13_RangesApply.con

/-! ### ranges_Has: function 14 -/
def ranges_Has.a : ACods (Int × (Int × Int) × Int × Unit) := (.cons (.val (.int .i64)) (.cons (.val (.agg (.cons (.int .u64) (.one (.int .u64))))) (.cons (.val (.int .u64)) .nil)))
def ranges_Has.r : RCod (Bool) := .val (.bool)
noncomputable def ranges_Has.cs : List (Kn Try.prog) := [ranges_norm.c, bits_Cut.c]
def ranges_Has.live : Nat → Option Keep := liveOf []
noncomputable def ranges_Has.body : Code := bodyOf Try.f14
noncomputable def ranges_Has.K (fu : Nat) : Code → St → (Ex → St → Option (Bool)) → Option (Bool) := codeK Try.prog ranges_Has.cs ranges_Has.live fu
noncomputable def ranges_Has.f (a0 : Int) (a1 : Int × Int) (a2 : Int) : Option (Bool) :=
  (ranges_norm.f a0 (a1.1, a1.2)).bind fun r1 =>
  (bits_Cut.f a0 a2).bind fun r2 =>
  bif (decide (r1.1 ≤ r2)) then
    some (decide (r2 ≤ r1.2))
  else
    some false
theorem ranges_Has.eq (fu : Nat) (a : Int × (Int × Int) × Int × Unit) : bodyK Try.prog ranges_Has.cs ranges_Has.live fu Try.f14 (ranges_Has.a.enc a) ranges_Has.r.dec = ranges_Has.f a.1 a.2.1 a.2.2.1 := by kernel_rfl
theorem ranges_Has.con : ∀ (a : Int × (Int × Int) × Int × Unit) (r : Bool), ranges_Has.f a.1 a.2.1 a.2.2.1 = some r → Contract Try.prog 14 (ranges_Has.a.enc a) (ranges_Has.r.enc r) := Contract.of_body (F := fun (a : Int × (Int × Int) × Int × Unit) => ranges_Has.f a.1 a.2.1 a.2.2.1) (fn := Try.f14) (cs := ranges_Has.cs) (live := ranges_Has.live) (fuel := fuel0 + 1) (by kernel_rfl) (by kernel_rfl) mixed (ranges_Has.eq (fuel0 + 1))
noncomputable def ranges_Has.c : Kn Try.prog := Kn.of 14 ranges_Has.a ranges_Has.r (fun a => ranges_Has.f a.1 a.2.1 a.2.2.1) ranges_Has.con

/-! ### saturateref01_Extract: function 98 -/
def saturateref01_Extract.a : ACods (Int × Int × Int × Unit) := (.cons (.val (.int .i64)) (.cons (.val (.int .i64)) (.cons (.val (.int .u64)) .nil)))
def saturateref01_Extract.r : RCod (Int) := .val (.int .u64)
noncomputable def saturateref01_Extract.cs : List (Kn Try.prog) := [saturateref01_W.c, saturateref01_Bit.c]
def saturateref01_Extract.live : Nat → Option Keep := liveOf [(11, ⟨[0, 2, 7, 16, 17], [], []⟩)]
noncomputable def saturateref01_Extract.body : Code := bodyOf Try.f98
noncomputable def saturateref01_Extract.K (fu : Nat) : Code → St → (Ex → St → Option (Int)) → Option (Int) := codeK Try.prog saturateref01_Extract.cs saturateref01_Extract.live fu
noncomputable def saturateref01_Extract.j5 (fu : Nat) (n5 : Nat) (x0 : Int) (x2 : Int) (x7 : Int) (x16 : Int) (x17 : Int) : Option Int :=
  loopK (saturateref01_Extract.K fu (sub saturateref01_Extract.body [true, true, true, false, true, false, false])) (saturateref01_Extract.live 11) n5 (stOf 32 [(0, .val (.int .i64 x0)), (2, .val (.int .u64 x2)), (7, .val (.int .u64 x7)), (16, .val (.int .i64 x16)), (17, .val (.int .i64 x17))] []) (blockC 0 (seqC fu (saturateref01_Extract.live 18) (saturateref01_Extract.K fu (sub saturateref01_Extract.body [true, true, true, true])) (retC Try.prog Try.f98.results saturateref01_Extract.r.dec)))
theorem saturateref01_Extract.j5_succ (fu : Nat) (n5 : Nat) (x0 : Int) (x2 : Int) (x7 : Int) (x16 : Int) (x17 : Int) : saturateref01_Extract.j5 fu (n5 + 1) x0 x2 x7 x16 x17 =
  bif (decide (x17 < x16)) then
    (saturateref01_Bit.f x2 (IntKind.i64.wrap (x0 + x17))).bind fun r2 =>
    bif decide ((IntKind.u64.wrap x17) < 0) then
      none
    else
      saturateref01_Extract.j5 fu n5 x0 x2 (Go.bits .or .u64 x7 (shl .u64 r2 (IntKind.u64.wrap x17))) x16 (IntKind.i64.wrap (x17 + 1))
  else
    some x7 := by kernel_rfl
noncomputable def saturateref01_Extract.g (fu : Nat) (a0 : Int) (a1 : Int) (a2 : Int) : Option (Int) :=
  bif (decide (a0 < 0)) then
    some 0
  else
    bif (decide (a0 > 63)) then
      some 0
    else
      (saturateref01_W.f a1).bind fun r1 =>
      saturateref01_Extract.j5 fu fu a0 a2 0 r1 0
noncomputable def saturateref01_Extract.f (a0 : Int) (a1 : Int) (a2 : Int) : Option (Int) := saturateref01_Extract.g (fuel0 + 1) a0 a1 a2
theorem saturateref01_Extract.eq (fu : Nat) (a : Int × Int × Int × Unit) : bodyK Try.prog saturateref01_Extract.cs saturateref01_Extract.live fu Try.f98 (saturateref01_Extract.a.enc a) saturateref01_Extract.r.dec = saturateref01_Extract.g fu a.1 a.2.1 a.2.2.1 := by kernel_rfl
theorem saturateref01_Extract.con : ∀ (a : Int × Int × Int × Unit) (r : Int), saturateref01_Extract.f a.1 a.2.1 a.2.2.1 = some r → Contract Try.prog 98 (saturateref01_Extract.a.enc a) (saturateref01_Extract.r.enc r) := Contract.of_body (F := fun (a : Int × Int × Int × Unit) => saturateref01_Extract.f a.1 a.2.1 a.2.2.1) (fn := Try.f98) (cs := saturateref01_Extract.cs) (live := saturateref01_Extract.live) (fuel := fuel0 + 1) (by kernel_rfl) (by kernel_rfl) mixed (saturateref01_Extract.eq (fuel0 + 1))
noncomputable def saturateref01_Extract.c : Kn Try.prog := Kn.of 98 saturateref01_Extract.a saturateref01_Extract.r (fun a => saturateref01_Extract.f a.1 a.2.1 a.2.2.1) saturateref01_Extract.con

/-! ### saturateref13_one: function 50 -/
def saturateref13_one.a : ACods (Int × Int × Int × (Nat × (Nat → Int)) × (Nat × (Nat → Int)) × Unit) := (.cons (.val (.int .i64)) (.cons (.val (.int .i64)) (.cons (.val (.int .u64)) (.cons (.rows (.int1 .i64)) (.cons (.rows (.int1 .u64)) .nil)))))
def saturateref13_one.r : RCod (Int) := .val (.int .u64)
noncomputable def saturateref13_one.cs : List (Kn Try.prog) := [saturateref01_Not.c, saturateref01_Neg.c, saturateref01_Extract.c, saturateref01_Sext.c]
def saturateref13_one.live : Nat → Option Keep := liveOf []
noncomputable def saturateref13_one.body : Code := bodyOf Try.f50
noncomputable def saturateref13_one.K (fu : Nat) : Code → St → (Ex → St → Option (Int)) → Option (Int) := codeK Try.prog saturateref13_one.cs saturateref13_one.live fu
noncomputable def saturateref13_one.f (a0 : Int) (a1 : Int) (a2 : Int) (a3 : Nat × (Nat → Int)) (a4 : Nat × (Nat → Int)) : Option (Int) :=
  bif (a0 == 3) then
    bif decide ((0 : Int) < (a3.1 : Int)) then
      bif decide ((0 : Int) < (a4.1 : Int)) then
        (saturateref01_Not.f (a3.2 0) (a4.2 0)).bind fun r1 =>
        some r1
      else
        none
    else
      none
  else
    bif (a0 == 4) then
      bif decide ((0 : Int) < (a3.1 : Int)) then
        bif decide ((0 : Int) < (a4.1 : Int)) then
          (saturateref01_Neg.f (a3.2 0) (a4.2 0)).bind fun r2 =>
          some r2
        else
          none
      else
        none
    else
      bif (a0 == 19) then
        bif decide ((0 : Int) < (a4.1 : Int)) then
          bif ((a4.2 0) == 1) then
            bif decide ((1 : Int) < (a4.1 : Int)) then
              some (a4.2 1)
            else
              none
          else
            bif decide ((2 : Int) < (a4.1 : Int)) then
              some (a4.2 2)
            else
              none
        else
          none
      else
        bif (a0 == 21) then
          bif decide ((0 : Int) < (a4.1 : Int)) then
            (saturateref01_Extract.f (IntKind.i64.wrap a2) a1 (a4.2 0)).bind fun r3 =>
            some r3
          else
            none
        else
          bif (a0 == 23) then
            bif decide ((0 : Int) < (a3.1 : Int)) then
              bif decide ((0 : Int) < (a4.1 : Int)) then
                (saturateref01_Sext.f (a3.2 0) a1 (a4.2 0)).bind fun r4 =>
                some r4
              else
                none
            else
              none
          else
            bif decide ((0 : Int) < (a4.1 : Int)) then
              some (a4.2 0)
            else
              none
theorem saturateref13_one.eq (fu : Nat) (a : Int × Int × Int × (Nat × (Nat → Int)) × (Nat × (Nat → Int)) × Unit) : bodyK Try.prog saturateref13_one.cs saturateref13_one.live fu Try.f50 (saturateref13_one.a.enc a) saturateref13_one.r.dec = saturateref13_one.f a.1 a.2.1 a.2.2.1 a.2.2.2.1 a.2.2.2.2.1 := by kernel_rfl
theorem saturateref13_one.con : ∀ (a : Int × Int × Int × (Nat × (Nat → Int)) × (Nat × (Nat → Int)) × Unit) (r : Int), saturateref13_one.f a.1 a.2.1 a.2.2.1 a.2.2.2.1 a.2.2.2.2.1 = some r → Contract Try.prog 50 (saturateref13_one.a.enc a) (saturateref13_one.r.enc r) := Contract.of_body (F := fun (a : Int × Int × Int × (Nat × (Nat → Int)) × (Nat × (Nat → Int)) × Unit) => saturateref13_one.f a.1 a.2.1 a.2.2.1 a.2.2.2.1 a.2.2.2.2.1) (fn := Try.f50) (cs := saturateref13_one.cs) (live := saturateref13_one.live) (fuel := fuel0 + 1) (by kernel_rfl) (by kernel_rfl) mixed (saturateref13_one.eq (fuel0 + 1))
noncomputable def saturateref13_one.c : Kn Try.prog := Kn.of 50 saturateref13_one.a saturateref13_one.r (fun a => saturateref13_one.f a.1 a.2.1 a.2.2.1 a.2.2.2.1 a.2.2.2.2.1) saturateref13_one.con

/-! ### saturateref01_And: function 51 -/
def saturateref01_And.a : ACods (Int × Int × Int × Unit) := (.cons (.val (.int .i64)) (.cons (.val (.int .u64)) (.cons (.val (.int .u64)) .nil)))
def saturateref01_And.r : RCod (Int) := .val (.int .u64)
noncomputable def saturateref01_And.cs : List (Kn Try.prog) := [saturateref01_W.c, saturateref01_Bit.c]
def saturateref01_And.live : Nat → Option Keep := liveOf [(7, ⟨[1, 2, 7, 10, 11], [], []⟩), (14, ⟨[1, 2, 7, 10, 11], [], []⟩)]
noncomputable def saturateref01_And.body : Code := bodyOf Try.f51
noncomputable def saturateref01_And.K (fu : Nat) : Code → St → (Ex → St → Option (Int)) → Option (Int) := codeK Try.prog saturateref01_And.cs saturateref01_And.live fu
noncomputable def saturateref01_And.j3 (fu : Nat) (n3 : Nat) (x1 : Int) (x2 : Int) (x7 : Int) (x10 : Int) (x11 : Int) : Option Int :=
  loopK (saturateref01_And.K fu (sub saturateref01_And.body [true, true, false, true, false, false])) (saturateref01_And.live 7) n3 (stOf 31 [(1, .val (.int .u64 x1)), (2, .val (.int .u64 x2)), (7, .val (.int .u64 x7)), (10, .val (.int .i64 x10)), (11, .val (.int .i64 x11))] []) (blockC 0 (seqC fu (saturateref01_And.live 16) (saturateref01_And.K fu (sub saturateref01_And.body [true, true, true])) (retC Try.prog Try.f51.results saturateref01_And.r.dec)))
noncomputable def saturateref01_And.p7 (m fu : Nat) (n3 : Nat) (x1 : Int) (x2 : Int) (x7 : Int) (x10 : Int) (x11 : Int) : Option Int :=
  joinK m (saturateref01_And.K fu (sub saturateref01_And.body [true, true, false, true, false, false, true, true, true])) (stOf 31 [(1, .val (.int .u64 x1)), (2, .val (.int .u64 x2)), (7, .val (.int .u64 x7)), (10, .val (.int .i64 x10)), (11, .val (.int .i64 x11))] []) (roundC (saturateref01_And.live 7) (loopK (saturateref01_And.K fu (sub saturateref01_And.body [true, true, false, true, false, false])) (saturateref01_And.live 7) n3) (blockC 0 (seqC fu (saturateref01_And.live 16) (saturateref01_And.K fu (sub saturateref01_And.body [true, true, true])) (retC Try.prog Try.f51.results saturateref01_And.r.dec))))
theorem saturateref01_And.p7_eq (m fu : Nat) (n3 : Nat) (x1 : Int) (x2 : Int) (x7 : Int) (x10 : Int) (x11 : Int) : saturateref01_And.p7 (m + 1) fu n3 x1 x2 x7 x10 x11 =
  saturateref01_And.j3 fu n3 x1 x2 x7 x10 (IntKind.i64.wrap (x11 + 1)) := by kernel_rfl
theorem saturateref01_And.j3_succ (fu : Nat) (n3 : Nat) (x1 : Int) (x2 : Int) (x7 : Int) (x10 : Int) (x11 : Int) : saturateref01_And.j3 fu (n3 + 1) x1 x2 x7 x10 x11 =
  bif (decide (x11 < x10)) then
    (saturateref01_Bit.f x1 x11).bind fun r2 =>
    bif (r2 == 1) then
      (saturateref01_Bit.f x2 x11).bind fun r3 =>
      bif (r3 == 1) then
        bif decide ((IntKind.u64.wrap x11) < 0) then
          none
        else
          saturateref01_And.p7 fu fu n3 x1 x2 (Go.bits .or .u64 x7 (shl .u64 1 (IntKind.u64.wrap x11))) x10 x11
      else
        saturateref01_And.p7 fu fu n3 x1 x2 x7 x10 x11
    else
      saturateref01_And.p7 fu fu n3 x1 x2 x7 x10 x11
  else
    some x7 := by kernel_rfl
noncomputable def saturateref01_And.g (fu : Nat) (a0 : Int) (a1 : Int) (a2 : Int) : Option (Int) :=
  (saturateref01_W.f a0).bind fun r1 =>
  saturateref01_And.j3 fu fu a1 a2 0 r1 0
noncomputable def saturateref01_And.f (a0 : Int) (a1 : Int) (a2 : Int) : Option (Int) := saturateref01_And.g (fuel0 + 1) a0 a1 a2
theorem saturateref01_And.eq (fu : Nat) (a : Int × Int × Int × Unit) : bodyK Try.prog saturateref01_And.cs saturateref01_And.live fu Try.f51 (saturateref01_And.a.enc a) saturateref01_And.r.dec = saturateref01_And.g fu a.1 a.2.1 a.2.2.1 := by kernel_rfl
theorem saturateref01_And.con : ∀ (a : Int × Int × Int × Unit) (r : Int), saturateref01_And.f a.1 a.2.1 a.2.2.1 = some r → Contract Try.prog 51 (saturateref01_And.a.enc a) (saturateref01_And.r.enc r) := Contract.of_body (F := fun (a : Int × Int × Int × Unit) => saturateref01_And.f a.1 a.2.1 a.2.2.1) (fn := Try.f51) (cs := saturateref01_And.cs) (live := saturateref01_And.live) (fuel := fuel0 + 1) (by kernel_rfl) (by kernel_rfl) mixed (saturateref01_And.eq (fuel0 + 1))
noncomputable def saturateref01_And.c : Kn Try.prog := Kn.of 51 saturateref01_And.a saturateref01_And.r (fun a => saturateref01_And.f a.1 a.2.1 a.2.2.1) saturateref01_And.con

/-! ### saturateref01_Or: function 52 -/
def saturateref01_Or.a : ACods (Int × Int × Int × Unit) := (.cons (.val (.int .i64)) (.cons (.val (.int .u64)) (.cons (.val (.int .u64)) .nil)))
def saturateref01_Or.r : RCod (Int) := .val (.int .u64)
noncomputable def saturateref01_Or.cs : List (Kn Try.prog) := [saturateref01_Not.c, saturateref01_And.c]
def saturateref01_Or.live : Nat → Option Keep := liveOf []
noncomputable def saturateref01_Or.body : Code := bodyOf Try.f52
noncomputable def saturateref01_Or.K (fu : Nat) : Code → St → (Ex → St → Option (Int)) → Option (Int) := codeK Try.prog saturateref01_Or.cs saturateref01_Or.live fu
noncomputable def saturateref01_Or.f (a0 : Int) (a1 : Int) (a2 : Int) : Option (Int) :=
  (saturateref01_Not.f a0 a1).bind fun r1 =>
  (saturateref01_Not.f a0 a2).bind fun r2 =>
  (saturateref01_And.f a0 r1 r2).bind fun r3 =>
  (saturateref01_Not.f a0 r3).bind fun r4 =>
  some r4
theorem saturateref01_Or.eq (fu : Nat) (a : Int × Int × Int × Unit) : bodyK Try.prog saturateref01_Or.cs saturateref01_Or.live fu Try.f52 (saturateref01_Or.a.enc a) saturateref01_Or.r.dec = saturateref01_Or.f a.1 a.2.1 a.2.2.1 := by kernel_rfl
theorem saturateref01_Or.con : ∀ (a : Int × Int × Int × Unit) (r : Int), saturateref01_Or.f a.1 a.2.1 a.2.2.1 = some r → Contract Try.prog 52 (saturateref01_Or.a.enc a) (saturateref01_Or.r.enc r) := Contract.of_body (F := fun (a : Int × Int × Int × Unit) => saturateref01_Or.f a.1 a.2.1 a.2.2.1) (fn := Try.f52) (cs := saturateref01_Or.cs) (live := saturateref01_Or.live) (fuel := fuel0 + 1) (by kernel_rfl) (by kernel_rfl) mixed (saturateref01_Or.eq (fuel0 + 1))
noncomputable def saturateref01_Or.c : Kn Try.prog := Kn.of 52 saturateref01_Or.a saturateref01_Or.r (fun a => saturateref01_Or.f a.1 a.2.1 a.2.2.1) saturateref01_Or.con

/-! ### saturateref01_Xor: function 53 -/
def saturateref01_Xor.a : ACods (Int × Int × Int × Unit) := (.cons (.val (.int .i64)) (.cons (.val (.int .u64)) (.cons (.val (.int .u64)) .nil)))
def saturateref01_Xor.r : RCod (Int) := .val (.int .u64)
noncomputable def saturateref01_Xor.cs : List (Kn Try.prog) := [saturateref01_Or.c, saturateref01_And.c]
def saturateref01_Xor.live : Nat → Option Keep := liveOf []
noncomputable def saturateref01_Xor.body : Code := bodyOf Try.f53
noncomputable def saturateref01_Xor.K (fu : Nat) : Code → St → (Ex → St → Option (Int)) → Option (Int) := codeK Try.prog saturateref01_Xor.cs saturateref01_Xor.live fu
noncomputable def saturateref01_Xor.f (a0 : Int) (a1 : Int) (a2 : Int) : Option (Int) :=
  (saturateref01_Or.f a0 a1 a2).bind fun r1 =>
  (saturateref01_And.f a0 a1 a2).bind fun r2 =>
  some (IntKind.u64.wrap (r1 - r2))
theorem saturateref01_Xor.eq (fu : Nat) (a : Int × Int × Int × Unit) : bodyK Try.prog saturateref01_Xor.cs saturateref01_Xor.live fu Try.f53 (saturateref01_Xor.a.enc a) saturateref01_Xor.r.dec = saturateref01_Xor.f a.1 a.2.1 a.2.2.1 := by kernel_rfl
theorem saturateref01_Xor.con : ∀ (a : Int × Int × Int × Unit) (r : Int), saturateref01_Xor.f a.1 a.2.1 a.2.2.1 = some r → Contract Try.prog 53 (saturateref01_Xor.a.enc a) (saturateref01_Xor.r.enc r) := Contract.of_body (F := fun (a : Int × Int × Int × Unit) => saturateref01_Xor.f a.1 a.2.1 a.2.2.1) (fn := Try.f53) (cs := saturateref01_Xor.cs) (live := saturateref01_Xor.live) (fuel := fuel0 + 1) (by kernel_rfl) (by kernel_rfl) mixed (saturateref01_Xor.eq (fuel0 + 1))
noncomputable def saturateref01_Xor.c : Kn Try.prog := Kn.of 53 saturateref01_Xor.a saturateref01_Xor.r (fun a => saturateref01_Xor.f a.1 a.2.1 a.2.2.1) saturateref01_Xor.con

/-! ### saturateref01_Mul: function 56 -/
def saturateref01_Mul.a : ACods (Int × Int × Int × Unit) := (.cons (.val (.int .i64)) (.cons (.val (.int .u64)) (.cons (.val (.int .u64)) .nil)))
def saturateref01_Mul.r : RCod (Int) := .val (.int .u64)
noncomputable def saturateref01_Mul.cs : List (Kn Try.prog) := [saturateref01_W.c, saturateref01_Add.c, saturateref01_Bit.c]
def saturateref01_Mul.live : Nat → Option Keep := liveOf [(7, ⟨[0, 1, 2, 7, 8], [], []⟩), (8, ⟨[0, 1, 2, 7, 8], [], []⟩)]
noncomputable def saturateref01_Mul.body : Code := bodyOf Try.f56
noncomputable def saturateref01_Mul.K (fu : Nat) : Code → St → (Ex → St → Option (Int)) → Option (Int) := codeK Try.prog saturateref01_Mul.cs saturateref01_Mul.live fu
noncomputable def saturateref01_Mul.j3 (fu : Nat) (n3 : Nat) (x0 : Int) (x1 : Int) (x2 : Int) (x7 : Int) (x8 : Int) : Option Int :=
  loopK (saturateref01_Mul.K fu (sub saturateref01_Mul.body [true, true, false, true, false, false])) (saturateref01_Mul.live 7) n3 (stOf 29 [(0, .val (.int .i64 x0)), (1, .val (.int .u64 x1)), (2, .val (.int .u64 x2)), (7, .val (.int .u64 x7)), (8, .val (.int .i64 x8))] []) (blockC 0 (seqC fu (saturateref01_Mul.live 16) (saturateref01_Mul.K fu (sub saturateref01_Mul.body [true, true, true])) (retC Try.prog Try.f56.results saturateref01_Mul.r.dec)))
noncomputable def saturateref01_Mul.p4 (m fu : Nat) (n3 : Nat) (x0 : Int) (x1 : Int) (x2 : Int) (x7 : Int) (x8 : Int) : Option Int :=
  joinK m (saturateref01_Mul.K fu (sub saturateref01_Mul.body [true, true, false, true, false, false, true, true])) (stOf 29 [(0, .val (.int .i64 x0)), (1, .val (.int .u64 x1)), (2, .val (.int .u64 x2)), (7, .val (.int .u64 x7)), (8, .val (.int .i64 x8))] []) (roundC (saturateref01_Mul.live 7) (loopK (saturateref01_Mul.K fu (sub saturateref01_Mul.body [true, true, false, true, false, false])) (saturateref01_Mul.live 7) n3) (blockC 0 (seqC fu (saturateref01_Mul.live 16) (saturateref01_Mul.K fu (sub saturateref01_Mul.body [true, true, true])) (retC Try.prog Try.f56.results saturateref01_Mul.r.dec))))
theorem saturateref01_Mul.p4_eq (m fu : Nat) (n3 : Nat) (x0 : Int) (x1 : Int) (x2 : Int) (x7 : Int) (x8 : Int) : saturateref01_Mul.p4 (m + 1) fu n3 x0 x1 x2 x7 x8 =
  saturateref01_Mul.j3 fu n3 x0 x1 x2 x7 (IntKind.i64.wrap (x8 - 1)) := by kernel_rfl
theorem saturateref01_Mul.j3_succ (fu : Nat) (n3 : Nat) (x0 : Int) (x1 : Int) (x2 : Int) (x7 : Int) (x8 : Int) : saturateref01_Mul.j3 fu (n3 + 1) x0 x1 x2 x7 x8 =
  bif (decide (x8 ≥ 0)) then
    (saturateref01_Add.f x0 x7 x7).bind fun r2 =>
    (saturateref01_Bit.f x2 x8).bind fun r3 =>
    bif (r3 == 1) then
      (saturateref01_Add.f x0 r2 x1).bind fun r4 =>
      saturateref01_Mul.p4 fu fu n3 x0 x1 x2 r4 x8
    else
      saturateref01_Mul.p4 fu fu n3 x0 x1 x2 r2 x8
  else
    some x7 := by kernel_rfl
noncomputable def saturateref01_Mul.g (fu : Nat) (a0 : Int) (a1 : Int) (a2 : Int) : Option (Int) :=
  (saturateref01_W.f a0).bind fun r1 =>
  saturateref01_Mul.j3 fu fu a0 a1 a2 0 (IntKind.i64.wrap (r1 - 1))
noncomputable def saturateref01_Mul.f (a0 : Int) (a1 : Int) (a2 : Int) : Option (Int) := saturateref01_Mul.g (fuel0 + 1) a0 a1 a2
theorem saturateref01_Mul.eq (fu : Nat) (a : Int × Int × Int × Unit) : bodyK Try.prog saturateref01_Mul.cs saturateref01_Mul.live fu Try.f56 (saturateref01_Mul.a.enc a) saturateref01_Mul.r.dec = saturateref01_Mul.g fu a.1 a.2.1 a.2.2.1 := by kernel_rfl
theorem saturateref01_Mul.con : ∀ (a : Int × Int × Int × Unit) (r : Int), saturateref01_Mul.f a.1 a.2.1 a.2.2.1 = some r → Contract Try.prog 56 (saturateref01_Mul.a.enc a) (saturateref01_Mul.r.enc r) := Contract.of_body (F := fun (a : Int × Int × Int × Unit) => saturateref01_Mul.f a.1 a.2.1 a.2.2.1) (fn := Try.f56) (cs := saturateref01_Mul.cs) (live := saturateref01_Mul.live) (fuel := fuel0 + 1) (by kernel_rfl) (by kernel_rfl) mixed (saturateref01_Mul.eq (fuel0 + 1))
noncomputable def saturateref01_Mul.c : Kn Try.prog := Kn.of 56 saturateref01_Mul.a saturateref01_Mul.r (fun a => saturateref01_Mul.f a.1 a.2.1 a.2.2.1) saturateref01_Mul.con

/-! ### saturateref01_divide: function 99 -/
def saturateref01_divide.a : ACods (Int × Int × Unit) := (.cons (.val (.int .u64)) (.cons (.val (.int .u64)) .nil))
def saturateref01_divide.r : RCod (Int × Int) := .val (.tup (.cons (.int .u64) (.one (.int .u64))))
noncomputable def saturateref01_divide.cs : List (Kn Try.prog) := [saturateref01_Bit.c]
def saturateref01_divide.live : Nat → Option Keep := liveOf [(7, ⟨[0, 1, 6, 7, 8], [], []⟩), (8, ⟨[0, 1, 6, 7, 8], [], []⟩)]
noncomputable def saturateref01_divide.body : Code := bodyOf Try.f99
noncomputable def saturateref01_divide.K (fu : Nat) : Code → St → (Ex → St → Option (Int × Int)) → Option (Int × Int) := codeK Try.prog saturateref01_divide.cs saturateref01_divide.live fu
noncomputable def saturateref01_divide.j3 (fu : Nat) (n3 : Nat) (x0 : Int) (x1 : Int) (x6 : Int) (x7 : Int) (x8 : Int) : Option (Int × Int) :=
  loopK (saturateref01_divide.K fu (sub saturateref01_divide.body [true, true, false, true, false, false])) (saturateref01_divide.live 7) n3 (stOf 39 [(0, .val (.int .u64 x0)), (1, .val (.int .u64 x1)), (6, .val (.int .u64 x6)), (7, .val (.int .u64 x7)), (8, .val (.int .i64 x8))] []) (blockC 0 (seqC fu (saturateref01_divide.live 20) (saturateref01_divide.K fu (sub saturateref01_divide.body [true, true, true])) (retC Try.prog Try.f99.results saturateref01_divide.r.dec)))
noncomputable def saturateref01_divide.p4 (m fu : Nat) (n3 : Nat) (x0 : Int) (x1 : Int) (x6 : Int) (x7 : Int) (x8 : Int) : Option (Int × Int) :=
  joinK m (saturateref01_divide.K fu (sub saturateref01_divide.body [true, true, false, true, false, false, true, true])) (stOf 39 [(0, .val (.int .u64 x0)), (1, .val (.int .u64 x1)), (6, .val (.int .u64 x6)), (7, .val (.int .u64 x7)), (8, .val (.int .i64 x8))] []) (roundC (saturateref01_divide.live 7) (loopK (saturateref01_divide.K fu (sub saturateref01_divide.body [true, true, false, true, false, false])) (saturateref01_divide.live 7) n3) (blockC 0 (seqC fu (saturateref01_divide.live 20) (saturateref01_divide.K fu (sub saturateref01_divide.body [true, true, true])) (retC Try.prog Try.f99.results saturateref01_divide.r.dec))))
theorem saturateref01_divide.p4_eq (m fu : Nat) (n3 : Nat) (x0 : Int) (x1 : Int) (x6 : Int) (x7 : Int) (x8 : Int) : saturateref01_divide.p4 (m + 1) fu n3 x0 x1 x6 x7 x8 =
  saturateref01_divide.j3 fu n3 x0 x1 x6 x7 (IntKind.i64.wrap (x8 - 1)) := by kernel_rfl
theorem saturateref01_divide.j3_succ (fu : Nat) (n3 : Nat) (x0 : Int) (x1 : Int) (x6 : Int) (x7 : Int) (x8 : Int) : saturateref01_divide.j3 fu (n3 + 1) x0 x1 x6 x7 x8 =
  bif (decide (x8 ≥ 0)) then
    (saturateref01_Bit.f x7 63).bind fun r1 =>
    (saturateref01_Bit.f x0 x8).bind fun r2 =>
    bif (r1 == 1) then
      bif decide ((IntKind.u64.wrap x8) < 0) then
        none
      else
        saturateref01_divide.p4 fu fu n3 x0 x1 (Go.bits .or .u64 x6 (shl .u64 1 (IntKind.u64.wrap x8))) (IntKind.u64.wrap ((IntKind.u64.wrap ((IntKind.u64.wrap (x7 * 2)) + r2)) - x1)) x8
    else
      bif (decide ((IntKind.u64.wrap ((IntKind.u64.wrap (x7 * 2)) + r2)) ≥ x1)) then
        bif decide ((IntKind.u64.wrap x8) < 0) then
          none
        else
          saturateref01_divide.p4 fu fu n3 x0 x1 (Go.bits .or .u64 x6 (shl .u64 1 (IntKind.u64.wrap x8))) (IntKind.u64.wrap ((IntKind.u64.wrap ((IntKind.u64.wrap (x7 * 2)) + r2)) - x1)) x8
      else
        saturateref01_divide.p4 fu fu n3 x0 x1 x6 (IntKind.u64.wrap ((IntKind.u64.wrap (x7 * 2)) + r2)) x8
  else
    some (x6, x7) := by kernel_rfl
noncomputable def saturateref01_divide.g (fu : Nat) (a0 : Int) (a1 : Int) : Option (Int × Int) :=
  saturateref01_divide.j3 fu fu a0 a1 0 0 63
noncomputable def saturateref01_divide.f (a0 : Int) (a1 : Int) : Option (Int × Int) := saturateref01_divide.g (fuel0 + 1) a0 a1
theorem saturateref01_divide.eq (fu : Nat) (a : Int × Int × Unit) : bodyK Try.prog saturateref01_divide.cs saturateref01_divide.live fu Try.f99 (saturateref01_divide.a.enc a) saturateref01_divide.r.dec = saturateref01_divide.g fu a.1 a.2.1 := by kernel_rfl
theorem saturateref01_divide.con : ∀ (a : Int × Int × Unit) (r : Int × Int), saturateref01_divide.f a.1 a.2.1 = some r → Contract Try.prog 99 (saturateref01_divide.a.enc a) (saturateref01_divide.r.enc r) := Contract.of_body (F := fun (a : Int × Int × Unit) => saturateref01_divide.f a.1 a.2.1) (fn := Try.f99) (cs := saturateref01_divide.cs) (live := saturateref01_divide.live) (fuel := fuel0 + 1) (by kernel_rfl) (by kernel_rfl) mixed (saturateref01_divide.eq (fuel0 + 1))
noncomputable def saturateref01_divide.c : Kn Try.prog := Kn.of 99 saturateref01_divide.a saturateref01_divide.r (fun a => saturateref01_divide.f a.1 a.2.1) saturateref01_divide.con

/-! ### saturateref01_Udiv: function 57 -/
def saturateref01_Udiv.a : ACods (Int × Int × Int × Unit) := (.cons (.val (.int .i64)) (.cons (.val (.int .u64)) (.cons (.val (.int .u64)) .nil)))
def saturateref01_Udiv.r : RCod (Int) := .val (.int .u64)
noncomputable def saturateref01_Udiv.cs : List (Kn Try.prog) := [saturateref01_Cut.c, saturateref01_Mask.c, saturateref01_divide.c]
def saturateref01_Udiv.live : Nat → Option Keep := liveOf []
noncomputable def saturateref01_Udiv.body : Code := bodyOf Try.f57
noncomputable def saturateref01_Udiv.K (fu : Nat) : Code → St → (Ex → St → Option (Int)) → Option (Int) := codeK Try.prog saturateref01_Udiv.cs saturateref01_Udiv.live fu
noncomputable def saturateref01_Udiv.f (a0 : Int) (a1 : Int) (a2 : Int) : Option (Int) :=
  (saturateref01_Cut.f a0 a2).bind fun r1 =>
  bif (r1 == 0) then
    (saturateref01_Mask.f a0).bind fun r2 =>
    some r2
  else
    (saturateref01_Cut.f a0 a1).bind fun r3 =>
    (saturateref01_Cut.f a0 a2).bind fun r4 =>
    (saturateref01_divide.f r3 r4).bind fun r5 =>
    some r5.1
theorem saturateref01_Udiv.eq (fu : Nat) (a : Int × Int × Int × Unit) : bodyK Try.prog saturateref01_Udiv.cs saturateref01_Udiv.live fu Try.f57 (saturateref01_Udiv.a.enc a) saturateref01_Udiv.r.dec = saturateref01_Udiv.f a.1 a.2.1 a.2.2.1 := by kernel_rfl
theorem saturateref01_Udiv.con : ∀ (a : Int × Int × Int × Unit) (r : Int), saturateref01_Udiv.f a.1 a.2.1 a.2.2.1 = some r → Contract Try.prog 57 (saturateref01_Udiv.a.enc a) (saturateref01_Udiv.r.enc r) := Contract.of_body (F := fun (a : Int × Int × Int × Unit) => saturateref01_Udiv.f a.1 a.2.1 a.2.2.1) (fn := Try.f57) (cs := saturateref01_Udiv.cs) (live := saturateref01_Udiv.live) (fuel := fuel0 + 1) (by kernel_rfl) (by kernel_rfl) mixed (saturateref01_Udiv.eq (fuel0 + 1))
noncomputable def saturateref01_Udiv.c : Kn Try.prog := Kn.of 57 saturateref01_Udiv.a saturateref01_Udiv.r (fun a => saturateref01_Udiv.f a.1 a.2.1 a.2.2.1) saturateref01_Udiv.con

/-! ### saturateref01_Urem: function 58 -/
def saturateref01_Urem.a : ACods (Int × Int × Int × Unit) := (.cons (.val (.int .i64)) (.cons (.val (.int .u64)) (.cons (.val (.int .u64)) .nil)))
def saturateref01_Urem.r : RCod (Int) := .val (.int .u64)
noncomputable def saturateref01_Urem.cs : List (Kn Try.prog) := [saturateref01_Cut.c, saturateref01_divide.c]
def saturateref01_Urem.live : Nat → Option Keep := liveOf []
noncomputable def saturateref01_Urem.body : Code := bodyOf Try.f58
noncomputable def saturateref01_Urem.K (fu : Nat) : Code → St → (Ex → St → Option (Int)) → Option (Int) := codeK Try.prog saturateref01_Urem.cs saturateref01_Urem.live fu
noncomputable def saturateref01_Urem.f (a0 : Int) (a1 : Int) (a2 : Int) : Option (Int) :=
  (saturateref01_Cut.f a0 a2).bind fun r1 =>
  bif (r1 == 0) then
    (saturateref01_Cut.f a0 a1).bind fun r2 =>
    some r2
  else
    (saturateref01_Cut.f a0 a1).bind fun r3 =>
    (saturateref01_Cut.f a0 a2).bind fun r4 =>
    (saturateref01_divide.f r3 r4).bind fun r5 =>
    some r5.2
theorem saturateref01_Urem.eq (fu : Nat) (a : Int × Int × Int × Unit) : bodyK Try.prog saturateref01_Urem.cs saturateref01_Urem.live fu Try.f58 (saturateref01_Urem.a.enc a) saturateref01_Urem.r.dec = saturateref01_Urem.f a.1 a.2.1 a.2.2.1 := by kernel_rfl
theorem saturateref01_Urem.con : ∀ (a : Int × Int × Int × Unit) (r : Int), saturateref01_Urem.f a.1 a.2.1 a.2.2.1 = some r → Contract Try.prog 58 (saturateref01_Urem.a.enc a) (saturateref01_Urem.r.enc r) := Contract.of_body (F := fun (a : Int × Int × Int × Unit) => saturateref01_Urem.f a.1 a.2.1 a.2.2.1) (fn := Try.f58) (cs := saturateref01_Urem.cs) (live := saturateref01_Urem.live) (fuel := fuel0 + 1) (by kernel_rfl) (by kernel_rfl) mixed (saturateref01_Urem.eq (fuel0 + 1))
noncomputable def saturateref01_Urem.c : Kn Try.prog := Kn.of 58 saturateref01_Urem.a saturateref01_Urem.r (fun a => saturateref01_Urem.f a.1 a.2.1 a.2.2.1) saturateref01_Urem.con

/-! ### saturateref01_Ashr: function 61 -/
def saturateref01_Ashr.a : ACods (Int × Int × Int × Unit) := (.cons (.val (.int .i64)) (.cons (.val (.int .u64)) (.cons (.val (.int .u64)) .nil)))
def saturateref01_Ashr.r : RCod (Int) := .val (.int .u64)
noncomputable def saturateref01_Ashr.cs : List (Kn Try.prog) := [saturateref01_by.c, saturateref01_W.c, saturateref01_Bit.c, saturateref01_shift.c]
def saturateref01_Ashr.live : Nat → Option Keep := liveOf []
noncomputable def saturateref01_Ashr.body : Code := bodyOf Try.f61
noncomputable def saturateref01_Ashr.K (fu : Nat) : Code → St → (Ex → St → Option (Int)) → Option (Int) := codeK Try.prog saturateref01_Ashr.cs saturateref01_Ashr.live fu
noncomputable def saturateref01_Ashr.f (a0 : Int) (a1 : Int) (a2 : Int) : Option (Int) :=
  (saturateref01_by.f a0 a2).bind fun r1 =>
  (saturateref01_W.f a0).bind fun r2 =>
  (saturateref01_Bit.f a1 (IntKind.i64.wrap (r2 - 1))).bind fun r3 =>
  (saturateref01_shift.f a0 a1 r1 r3).bind fun r4 =>
  some r4
theorem saturateref01_Ashr.eq (fu : Nat) (a : Int × Int × Int × Unit) : bodyK Try.prog saturateref01_Ashr.cs saturateref01_Ashr.live fu Try.f61 (saturateref01_Ashr.a.enc a) saturateref01_Ashr.r.dec = saturateref01_Ashr.f a.1 a.2.1 a.2.2.1 := by kernel_rfl
theorem saturateref01_Ashr.con : ∀ (a : Int × Int × Int × Unit) (r : Int), saturateref01_Ashr.f a.1 a.2.1 a.2.2.1 = some r → Contract Try.prog 61 (saturateref01_Ashr.a.enc a) (saturateref01_Ashr.r.enc r) := Contract.of_body (F := fun (a : Int × Int × Int × Unit) => saturateref01_Ashr.f a.1 a.2.1 a.2.2.1) (fn := Try.f61) (cs := saturateref01_Ashr.cs) (live := saturateref01_Ashr.live) (fuel := fuel0 + 1) (by kernel_rfl) (by kernel_rfl) mixed (saturateref01_Ashr.eq (fuel0 + 1))
noncomputable def saturateref01_Ashr.c : Kn Try.prog := Kn.of 61 saturateref01_Ashr.a saturateref01_Ashr.r (fun a => saturateref01_Ashr.f a.1 a.2.1 a.2.2.1) saturateref01_Ashr.con

/-! ### saturateref01_truth: function 102 -/
def saturateref01_truth.a : ACods (Bool × Unit) := (.cons (.val (.bool)) .nil)
def saturateref01_truth.r : RCod (Int) := .val (.int .u64)
noncomputable def saturateref01_truth.cs : List (Kn Try.prog) := []
def saturateref01_truth.live : Nat → Option Keep := liveOf []
noncomputable def saturateref01_truth.body : Code := bodyOf Try.f102
noncomputable def saturateref01_truth.K (fu : Nat) : Code → St → (Ex → St → Option (Int)) → Option (Int) := codeK Try.prog saturateref01_truth.cs saturateref01_truth.live fu
noncomputable def saturateref01_truth.f (a0 : Bool) : Option (Int) :=
  bif a0 then
    some 1
  else
    some 0
theorem saturateref01_truth.eq (fu : Nat) (a : Bool × Unit) : bodyK Try.prog saturateref01_truth.cs saturateref01_truth.live fu Try.f102 (saturateref01_truth.a.enc a) saturateref01_truth.r.dec = saturateref01_truth.f a.1 := by kernel_rfl
theorem saturateref01_truth.con : ∀ (a : Bool × Unit) (r : Int), saturateref01_truth.f a.1 = some r → Contract Try.prog 102 (saturateref01_truth.a.enc a) (saturateref01_truth.r.enc r) := Contract.of_body (F := fun (a : Bool × Unit) => saturateref01_truth.f a.1) (fn := Try.f102) (cs := saturateref01_truth.cs) (live := saturateref01_truth.live) (fuel := fuel0 + 1) (by kernel_rfl) (by kernel_rfl) mixed (saturateref01_truth.eq (fuel0 + 1))
noncomputable def saturateref01_truth.c : Kn Try.prog := Kn.of 102 saturateref01_truth.a saturateref01_truth.r (fun a => saturateref01_truth.f a.1) saturateref01_truth.con

/-! ### saturateref01_Eq: function 62 -/
def saturateref01_Eq.a : ACods (Int × Int × Int × Unit) := (.cons (.val (.int .i64)) (.cons (.val (.int .u64)) (.cons (.val (.int .u64)) .nil)))
def saturateref01_Eq.r : RCod (Int) := .val (.int .u64)
noncomputable def saturateref01_Eq.cs : List (Kn Try.prog) := [saturateref01_Cut.c, saturateref01_truth.c]
def saturateref01_Eq.live : Nat → Option Keep := liveOf []
noncomputable def saturateref01_Eq.body : Code := bodyOf Try.f62
noncomputable def saturateref01_Eq.K (fu : Nat) : Code → St → (Ex → St → Option (Int)) → Option (Int) := codeK Try.prog saturateref01_Eq.cs saturateref01_Eq.live fu
noncomputable def saturateref01_Eq.f (a0 : Int) (a1 : Int) (a2 : Int) : Option (Int) :=
  (saturateref01_Cut.f a0 a1).bind fun r1 =>
  (saturateref01_Cut.f a0 a2).bind fun r2 =>
  (saturateref01_truth.f (r1 == r2)).bind fun r3 =>
  some r3
theorem saturateref01_Eq.eq (fu : Nat) (a : Int × Int × Int × Unit) : bodyK Try.prog saturateref01_Eq.cs saturateref01_Eq.live fu Try.f62 (saturateref01_Eq.a.enc a) saturateref01_Eq.r.dec = saturateref01_Eq.f a.1 a.2.1 a.2.2.1 := by kernel_rfl
theorem saturateref01_Eq.con : ∀ (a : Int × Int × Int × Unit) (r : Int), saturateref01_Eq.f a.1 a.2.1 a.2.2.1 = some r → Contract Try.prog 62 (saturateref01_Eq.a.enc a) (saturateref01_Eq.r.enc r) := Contract.of_body (F := fun (a : Int × Int × Int × Unit) => saturateref01_Eq.f a.1 a.2.1 a.2.2.1) (fn := Try.f62) (cs := saturateref01_Eq.cs) (live := saturateref01_Eq.live) (fuel := fuel0 + 1) (by kernel_rfl) (by kernel_rfl) mixed (saturateref01_Eq.eq (fuel0 + 1))
noncomputable def saturateref01_Eq.c : Kn Try.prog := Kn.of 62 saturateref01_Eq.a saturateref01_Eq.r (fun a => saturateref01_Eq.f a.1 a.2.1 a.2.2.1) saturateref01_Eq.con

/-! ### saturateref01_Ult: function 63 -/
def saturateref01_Ult.a : ACods (Int × Int × Int × Unit) := (.cons (.val (.int .i64)) (.cons (.val (.int .u64)) (.cons (.val (.int .u64)) .nil)))
def saturateref01_Ult.r : RCod (Int) := .val (.int .u64)
noncomputable def saturateref01_Ult.cs : List (Kn Try.prog) := [saturateref01_Cut.c, saturateref01_truth.c]
def saturateref01_Ult.live : Nat → Option Keep := liveOf []
noncomputable def saturateref01_Ult.body : Code := bodyOf Try.f63
noncomputable def saturateref01_Ult.K (fu : Nat) : Code → St → (Ex → St → Option (Int)) → Option (Int) := codeK Try.prog saturateref01_Ult.cs saturateref01_Ult.live fu
noncomputable def saturateref01_Ult.f (a0 : Int) (a1 : Int) (a2 : Int) : Option (Int) :=
  (saturateref01_Cut.f a0 a1).bind fun r1 =>
  (saturateref01_Cut.f a0 a2).bind fun r2 =>
  (saturateref01_truth.f (decide (r1 < r2))).bind fun r3 =>
  some r3
theorem saturateref01_Ult.eq (fu : Nat) (a : Int × Int × Int × Unit) : bodyK Try.prog saturateref01_Ult.cs saturateref01_Ult.live fu Try.f63 (saturateref01_Ult.a.enc a) saturateref01_Ult.r.dec = saturateref01_Ult.f a.1 a.2.1 a.2.2.1 := by kernel_rfl
theorem saturateref01_Ult.con : ∀ (a : Int × Int × Int × Unit) (r : Int), saturateref01_Ult.f a.1 a.2.1 a.2.2.1 = some r → Contract Try.prog 63 (saturateref01_Ult.a.enc a) (saturateref01_Ult.r.enc r) := Contract.of_body (F := fun (a : Int × Int × Int × Unit) => saturateref01_Ult.f a.1 a.2.1 a.2.2.1) (fn := Try.f63) (cs := saturateref01_Ult.cs) (live := saturateref01_Ult.live) (fuel := fuel0 + 1) (by kernel_rfl) (by kernel_rfl) mixed (saturateref01_Ult.eq (fuel0 + 1))
noncomputable def saturateref01_Ult.c : Kn Try.prog := Kn.of 63 saturateref01_Ult.a saturateref01_Ult.r (fun a => saturateref01_Ult.f a.1 a.2.1 a.2.2.1) saturateref01_Ult.con
end Go.Proofs.Ytchahcaccneinaa.Fn
