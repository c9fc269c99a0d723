/- What the functions return, as the evaluator tells it: written by a program of this workplace (mev.py); Lean checks each equation. -/
import Derived.Test.YtchahcaccneinaaProg
import Derived.Test.YtchahcaccneinaaEvC
import Derived.Test.YtchahcaccneinaaF0
namespace Go.Proofs.Ytchahcaccneinaa.Fn
open Go Go.RowKit Go.Proofs.Ytchahcaccneinaa.Ev Go.Proofs
set_option linter.unusedVariables false
set_option maxRecDepth 100000
/-! ### ranges_sum: function 71 -/
def ranges_sum.a : ACods (Int × (Int × Int) × (Int × Int) × Unit) := (.cons (.val (.int .i64)) (.cons (.val (.agg (.cons (.int .u64) (.one (.int .u64))))) (.cons (.val (.agg (.cons (.int .u64) (.one (.int .u64))))) .nil)))
def ranges_sum.r : RCod (Int × Int) := .val (.agg (.cons (.int .u64) (.one (.int .u64))))
noncomputable def ranges_sum.cs : List (Kn Try.prog) := [bits_Mask.c, bits_Add64.c, ranges_Top.c, bits_Cut.c]
def ranges_sum.live : Nat → Option Keep := liveOf [(14, ⟨[0, 6, 8, 10], [6], []⟩)]
noncomputable def ranges_sum.body : Code := bodyOf Try.f71
noncomputable def ranges_sum.K (fu : Nat) : Code → St → (Ex → St → Option (Int × Int)) → Option (Int × Int) := codeK Try.prog ranges_sum.cs ranges_sum.live fu
noncomputable def ranges_sum.p7 (m fu : Nat) (x0 : Int) (x8 : Int) (x10 : Int) : Option (Int × Int) :=
  joinK m (ranges_sum.K fu (sub ranges_sum.body [true, true, true, true, true, true])) (stOf 58 [(0, .val (.int .i64 x0)), (6, .ptr 6 0 0 0), (8, .val (.int .u64 x8)), (10, .val (.int .u64 x10))] [(6, .own [.val (.int .u64 0), .val (.int .u64 0)])]) (retC Try.prog Try.f71.results ranges_sum.r.dec)
theorem ranges_sum.p7_eq (m fu : Nat) (x0 : Int) (x8 : Int) (x10 : Int) : ranges_sum.p7 (m + 1) fu x0 x8 x10 =
  (bits_Cut.f x0 x8).bind fun r5 =>
  (bits_Cut.f x0 x10).bind fun r6 =>
  some (r5, r6) := by kernel_rfl
noncomputable def ranges_sum.g (fu : Nat) (a0 : Int) (a1 : Int × Int) (a2 : Int × Int) : Option (Int × Int) :=
  (bits_Mask.f a0).bind fun r1 =>
  (bits_Add64.f a1.1 a2.1 0).bind fun r2 =>
  (bits_Add64.f a1.2 a2.2 0).bind fun r3 =>
  bif (r2.2 == 0) then
    bif (r3.2 == 0) then
      bif (!((decide (r2.1 ≤ r1)) == (decide (r3.1 ≤ r1)))) then
        (ranges_Top.f a0).bind fun r4 =>
        some (r4.1, r4.2)
      else
        ranges_sum.p7 fu fu a0 r2.1 r3.1
    else
      bif (!((decide (r2.1 ≤ r1)) == false)) then
        (ranges_Top.f a0).bind fun r7 =>
        some (r7.1, r7.2)
      else
        ranges_sum.p7 fu fu a0 r2.1 r3.1
  else
    bif (r3.2 == 0) then
      bif (!(false == (decide (r3.1 ≤ r1)))) then
        (ranges_Top.f a0).bind fun r8 =>
        some (r8.1, r8.2)
      else
        ranges_sum.p7 fu fu a0 r2.1 r3.1
    else
      ranges_sum.p7 fu fu a0 r2.1 r3.1
noncomputable def ranges_sum.f (a0 : Int) (a1 : Int × Int) (a2 : Int × Int) : Option (Int × Int) := ranges_sum.g (fuel0 + 1) a0 a1 a2
theorem ranges_sum.eq (fu : Nat) (a : Int × (Int × Int) × (Int × Int) × Unit) : bodyK Try.prog ranges_sum.cs ranges_sum.live fu Try.f71 (ranges_sum.a.enc a) ranges_sum.r.dec = ranges_sum.g fu a.1 a.2.1 a.2.2.1 := by kernel_rfl
theorem ranges_sum.con : ∀ (a : Int × (Int × Int) × (Int × Int) × Unit) (r : Int × Int), ranges_sum.f a.1 a.2.1 a.2.2.1 = some r → Contract Try.prog 71 (ranges_sum.a.enc a) (ranges_sum.r.enc r) := Contract.of_body (F := fun (a : Int × (Int × Int) × (Int × Int) × Unit) => ranges_sum.f a.1 a.2.1 a.2.2.1) (fn := Try.f71) (cs := ranges_sum.cs) (live := ranges_sum.live) (fuel := fuel0 + 1) (by kernel_rfl) (by kernel_rfl) mixed (ranges_sum.eq (fuel0 + 1))
noncomputable def ranges_sum.c : Kn Try.prog := Kn.of 71 ranges_sum.a ranges_sum.r (fun a => ranges_sum.f a.1 a.2.1 a.2.2.1) ranges_sum.con

/-! ### ranges_difference: function 72 -/
def ranges_difference.a : ACods (Int × (Int × Int) × (Int × Int) × Unit) := (.cons (.val (.int .i64)) (.cons (.val (.agg (.cons (.int .u64) (.one (.int .u64))))) (.cons (.val (.agg (.cons (.int .u64) (.one (.int .u64))))) .nil)))
def ranges_difference.r : RCod (Int × Int) := .val (.agg (.cons (.int .u64) (.one (.int .u64))))
noncomputable def ranges_difference.cs : List (Kn Try.prog) := [ranges_Top.c, bits_Cut.c]
def ranges_difference.live : Nat → Option Keep := liveOf []
noncomputable def ranges_difference.body : Code := bodyOf Try.f72
noncomputable def ranges_difference.K (fu : Nat) : Code → St → (Ex → St → Option (Int × Int)) → Option (Int × Int) := codeK Try.prog ranges_difference.cs ranges_difference.live fu
noncomputable def ranges_difference.f (a0 : Int) (a1 : Int × Int) (a2 : Int × Int) : Option (Int × Int) :=
  bif (!((decide (a1.1 < a2.2)) == (decide (a1.2 < a2.1)))) then
    (ranges_Top.f a0).bind fun r1 =>
    some (r1.1, r1.2)
  else
    (bits_Cut.f a0 (IntKind.u64.wrap (a1.1 - a2.2))).bind fun r2 =>
    (bits_Cut.f a0 (IntKind.u64.wrap (a1.2 - a2.1))).bind fun r3 =>
    some (r2, r3)
theorem ranges_difference.eq (fu : Nat) (a : Int × (Int × Int) × (Int × Int) × Unit) : bodyK Try.prog ranges_difference.cs ranges_difference.live fu Try.f72 (ranges_difference.a.enc a) ranges_difference.r.dec = ranges_difference.f a.1 a.2.1 a.2.2.1 := by kernel_rfl
theorem ranges_difference.con : ∀ (a : Int × (Int × Int) × (Int × Int) × Unit) (r : Int × Int), ranges_difference.f a.1 a.2.1 a.2.2.1 = some r → Contract Try.prog 72 (ranges_difference.a.enc a) (ranges_difference.r.enc r) := Contract.of_body (F := fun (a : Int × (Int × Int) × (Int × Int) × Unit) => ranges_difference.f a.1 a.2.1 a.2.2.1) (fn := Try.f72) (cs := ranges_difference.cs) (live := ranges_difference.live) (fuel := fuel0 + 1) (by kernel_rfl) (by kernel_rfl) mixed (ranges_difference.eq (fuel0 + 1))
noncomputable def ranges_difference.c : Kn Try.prog := Kn.of 72 ranges_difference.a ranges_difference.r (fun a => ranges_difference.f a.1 a.2.1 a.2.2.1) ranges_difference.con

/-! ### bits_Mul64: function 113 -/
def bits_Mul64.a : ACods (Int × Int × Unit) := (.cons (.val (.int .u64)) (.cons (.val (.int .u64)) .nil))
def bits_Mul64.r : RCod (Int × Int) := .val (.tup (.cons (.int .u64) (.one (.int .u64))))
noncomputable def bits_Mul64.cs : List (Kn Try.prog) := []
def bits_Mul64.live : Nat → Option Keep := liveOf []
noncomputable def bits_Mul64.body : Code := bodyOf Try.f113
noncomputable def bits_Mul64.K (fu : Nat) : Code → St → (Ex → St → Option (Int × Int)) → Option (Int × Int) := codeK Try.prog bits_Mul64.cs bits_Mul64.live fu
noncomputable def bits_Mul64.f (a0 : Int) (a1 : Int) : Option (Int × Int) :=
  some ((IntKind.u64.wrap ((IntKind.u64.wrap ((IntKind.u64.wrap ((shr .u64 a0 32) * (shr .u64 a1 32))) + (shr .u64 (IntKind.u64.wrap ((IntKind.u64.wrap ((shr .u64 a0 32) * (Go.bits .and .u64 a1 4294967295))) + (shr .u64 (IntKind.u64.wrap ((Go.bits .and .u64 a0 4294967295) * (Go.bits .and .u64 a1 4294967295))) 32))) 32))) + (shr .u64 (IntKind.u64.wrap ((Go.bits .and .u64 (IntKind.u64.wrap ((IntKind.u64.wrap ((shr .u64 a0 32) * (Go.bits .and .u64 a1 4294967295))) + (shr .u64 (IntKind.u64.wrap ((Go.bits .and .u64 a0 4294967295) * (Go.bits .and .u64 a1 4294967295))) 32))) 4294967295) + (IntKind.u64.wrap ((Go.bits .and .u64 a0 4294967295) * (shr .u64 a1 32))))) 32))), (IntKind.u64.wrap (a0 * a1)))
theorem bits_Mul64.eq (fu : Nat) (a : Int × Int × Unit) : bodyK Try.prog bits_Mul64.cs bits_Mul64.live fu Try.f113 (bits_Mul64.a.enc a) bits_Mul64.r.dec = bits_Mul64.f a.1 a.2.1 := by kernel_rfl
theorem bits_Mul64.con : ∀ (a : Int × Int × Unit) (r : Int × Int), bits_Mul64.f a.1 a.2.1 = some r → Contract Try.prog 113 (bits_Mul64.a.enc a) (bits_Mul64.r.enc r) := Contract.of_body (F := fun (a : Int × Int × Unit) => bits_Mul64.f a.1 a.2.1) (fn := Try.f113) (cs := bits_Mul64.cs) (live := bits_Mul64.live) (fuel := fuel0 + 1) (by kernel_rfl) (by kernel_rfl) mixed (bits_Mul64.eq (fuel0 + 1))
noncomputable def bits_Mul64.c : Kn Try.prog := Kn.of 113 bits_Mul64.a bits_Mul64.r (fun a => bits_Mul64.f a.1 a.2.1) bits_Mul64.con

/-! ### ranges_product: function 73 -/
def ranges_product.a : ACods (Int × (Int × Int) × (Int × Int) × Unit) := (.cons (.val (.int .i64)) (.cons (.val (.agg (.cons (.int .u64) (.one (.int .u64))))) (.cons (.val (.agg (.cons (.int .u64) (.one (.int .u64))))) .nil)))
def ranges_product.r : RCod (Int × Int) := .val (.agg (.cons (.int .u64) (.one (.int .u64))))
noncomputable def ranges_product.cs : List (Kn Try.prog) := [bits_Mul64.c, ranges_Top.c, bits_Mask.c]
def ranges_product.live : Nat → Option Keep := liveOf []
noncomputable def ranges_product.body : Code := bodyOf Try.f73
noncomputable def ranges_product.K (fu : Nat) : Code → St → (Ex → St → Option (Int × Int)) → Option (Int × Int) := codeK Try.prog ranges_product.cs ranges_product.live fu
noncomputable def ranges_product.f (a0 : Int) (a1 : Int × Int) (a2 : Int × Int) : Option (Int × Int) :=
  (bits_Mul64.f a1.2 a2.2).bind fun r1 =>
  bif (r1.1 != 0) then
    (ranges_Top.f a0).bind fun r2 =>
    some (r2.1, r2.2)
  else
    (bits_Mask.f a0).bind fun r3 =>
    bif (decide (r1.2 > r3)) then
      (ranges_Top.f a0).bind fun r4 =>
      some (r4.1, r4.2)
    else
      some ((IntKind.u64.wrap (a1.1 * a2.1)), r1.2)
theorem ranges_product.eq (fu : Nat) (a : Int × (Int × Int) × (Int × Int) × Unit) : bodyK Try.prog ranges_product.cs ranges_product.live fu Try.f73 (ranges_product.a.enc a) ranges_product.r.dec = ranges_product.f a.1 a.2.1 a.2.2.1 := by kernel_rfl
theorem ranges_product.con : ∀ (a : Int × (Int × Int) × (Int × Int) × Unit) (r : Int × Int), ranges_product.f a.1 a.2.1 a.2.2.1 = some r → Contract Try.prog 73 (ranges_product.a.enc a) (ranges_product.r.enc r) := Contract.of_body (F := fun (a : Int × (Int × Int) × (Int × Int) × Unit) => ranges_product.f a.1 a.2.1 a.2.2.1) (fn := Try.f73) (cs := ranges_product.cs) (live := ranges_product.live) (fuel := fuel0 + 1) (by kernel_rfl) (by kernel_rfl) mixed (ranges_product.eq (fuel0 + 1))
noncomputable def ranges_product.c : Kn Try.prog := Kn.of 73 ranges_product.a ranges_product.r (fun a => ranges_product.f a.1 a.2.1 a.2.2.1) ranges_product.con

/-! ### ranges_quotient: function 74 -/
def ranges_quotient.a : ACods (Int × (Int × Int) × (Int × Int) × Unit) := (.cons (.val (.int .i64)) (.cons (.val (.agg (.cons (.int .u64) (.one (.int .u64))))) (.cons (.val (.agg (.cons (.int .u64) (.one (.int .u64))))) .nil)))
def ranges_quotient.r : RCod (Int × Int) := .val (.agg (.cons (.int .u64) (.one (.int .u64))))
noncomputable def ranges_quotient.cs : List (Kn Try.prog) := [ranges_Top.c]
def ranges_quotient.live : Nat → Option Keep := liveOf []
noncomputable def ranges_quotient.body : Code := bodyOf Try.f74
noncomputable def ranges_quotient.K (fu : Nat) : Code → St → (Ex → St → Option (Int × Int)) → Option (Int × Int) := codeK Try.prog ranges_quotient.cs ranges_quotient.live fu
noncomputable def ranges_quotient.f (a0 : Int) (a1 : Int × Int) (a2 : Int × Int) : Option (Int × Int) :=
  bif (a2.1 == 0) then
    (ranges_Top.f a0).bind fun r1 =>
    some (r1.1, r1.2)
  else
    bif decide (a2.2 = 0) then
      none
    else
      bif decide (a2.1 = 0) then
        none
      else
        some ((IntKind.u64.wrap (Int.tdiv a1.1 a2.2)), (IntKind.u64.wrap (Int.tdiv a1.2 a2.1)))
theorem ranges_quotient.eq (fu : Nat) (a : Int × (Int × Int) × (Int × Int) × Unit) : bodyK Try.prog ranges_quotient.cs ranges_quotient.live fu Try.f74 (ranges_quotient.a.enc a) ranges_quotient.r.dec = ranges_quotient.f a.1 a.2.1 a.2.2.1 := by kernel_rfl
theorem ranges_quotient.con : ∀ (a : Int × (Int × Int) × (Int × Int) × Unit) (r : Int × Int), ranges_quotient.f a.1 a.2.1 a.2.2.1 = some r → Contract Try.prog 74 (ranges_quotient.a.enc a) (ranges_quotient.r.enc r) := Contract.of_body (F := fun (a : Int × (Int × Int) × (Int × Int) × Unit) => ranges_quotient.f a.1 a.2.1 a.2.2.1) (fn := Try.f74) (cs := ranges_quotient.cs) (live := ranges_quotient.live) (fuel := fuel0 + 1) (by kernel_rfl) (by kernel_rfl) mixed (ranges_quotient.eq (fuel0 + 1))
noncomputable def ranges_quotient.c : Kn Try.prog := Kn.of 74 ranges_quotient.a ranges_quotient.r (fun a => ranges_quotient.f a.1 a.2.1 a.2.2.1) ranges_quotient.con

/-! ### ranges_remainder: function 75 -/
def ranges_remainder.a : ACods ((Int × Int) × (Int × Int) × Unit) := (.cons (.val (.agg (.cons (.int .u64) (.one (.int .u64))))) (.cons (.val (.agg (.cons (.int .u64) (.one (.int .u64))))) .nil))
def ranges_remainder.r : RCod (Int × Int) := .val (.agg (.cons (.int .u64) (.one (.int .u64))))
noncomputable def ranges_remainder.cs : List (Kn Try.prog) := []
def ranges_remainder.live : Nat → Option Keep := liveOf []
noncomputable def ranges_remainder.body : Code := bodyOf Try.f75
noncomputable def ranges_remainder.K (fu : Nat) : Code → St → (Ex → St → Option (Int × Int)) → Option (Int × Int) := codeK Try.prog ranges_remainder.cs ranges_remainder.live fu
noncomputable def ranges_remainder.f (a0 : Int × Int) (a1 : Int × Int) : Option (Int × Int) :=
  bif (decide (a0.2 < a1.1)) then
    some (a0.1, a0.2)
  else
    bif (decide (a1.1 > 0)) then
      some (0, (mn a0.2 (IntKind.u64.wrap (a1.2 - 1))))
    else
      some (0, a0.2)
theorem ranges_remainder.eq (fu : Nat) (a : (Int × Int) × (Int × Int) × Unit) : bodyK Try.prog ranges_remainder.cs ranges_remainder.live fu Try.f75 (ranges_remainder.a.enc a) ranges_remainder.r.dec = ranges_remainder.f a.1 a.2.1 := by kernel_rfl
theorem ranges_remainder.con : ∀ (a : (Int × Int) × (Int × Int) × Unit) (r : Int × Int), ranges_remainder.f a.1 a.2.1 = some r → Contract Try.prog 75 (ranges_remainder.a.enc a) (ranges_remainder.r.enc r) := Contract.of_body (F := fun (a : (Int × Int) × (Int × Int) × Unit) => ranges_remainder.f a.1 a.2.1) (fn := Try.f75) (cs := ranges_remainder.cs) (live := ranges_remainder.live) (fuel := fuel0 + 1) (by kernel_rfl) (by kernel_rfl) mixed (ranges_remainder.eq (fuel0 + 1))
noncomputable def ranges_remainder.c : Kn Try.prog := Kn.of 75 ranges_remainder.a ranges_remainder.r (fun a => ranges_remainder.f a.1 a.2.1) ranges_remainder.con

/-! ### ranges_single: function 37 -/
def ranges_single.a : ACods ((Int × Int) × Unit) := (.cons (.val (.agg (.cons (.int .u64) (.one (.int .u64))))) .nil)
def ranges_single.r : RCod (Bool) := .val (.bool)
noncomputable def ranges_single.cs : List (Kn Try.prog) := []
def ranges_single.live : Nat → Option Keep := liveOf []
noncomputable def ranges_single.body : Code := bodyOf Try.f37
noncomputable def ranges_single.K (fu : Nat) : Code → St → (Ex → St → Option (Bool)) → Option (Bool) := codeK Try.prog ranges_single.cs ranges_single.live fu
noncomputable def ranges_single.f (a0 : Int × Int) : Option (Bool) :=
  some (a0.1 == a0.2)
theorem ranges_single.eq (fu : Nat) (a : (Int × Int) × Unit) : bodyK Try.prog ranges_single.cs ranges_single.live fu Try.f37 (ranges_single.a.enc a) ranges_single.r.dec = ranges_single.f a.1 := by kernel_rfl
theorem ranges_single.con : ∀ (a : (Int × Int) × Unit) (r : Bool), ranges_single.f a.1 = some r → Contract Try.prog 37 (ranges_single.a.enc a) (ranges_single.r.enc r) := Contract.of_body (F := fun (a : (Int × Int) × Unit) => ranges_single.f a.1) (fn := Try.f37) (cs := ranges_single.cs) (live := ranges_single.live) (fuel := fuel0 + 1) (by kernel_rfl) (by kernel_rfl) mixed (ranges_single.eq (fuel0 + 1))
noncomputable def ranges_single.c : Kn Try.prog := Kn.of 37 ranges_single.a ranges_single.r (fun a => ranges_single.f a.1) ranges_single.con

/-! ### ranges_shift: function 76 -/
def ranges_shift.a : ACods (Int × Int × (Int × Int) × (Int × Int) × Unit) := (.cons (.val (.int .i64)) (.cons (.val (.int .i64)) (.cons (.val (.agg (.cons (.int .u64) (.one (.int .u64))))) (.cons (.val (.agg (.cons (.int .u64) (.one (.int .u64))))) .nil))))
def ranges_shift.r : RCod (Int × Int) := .val (.agg (.cons (.int .u64) (.one (.int .u64))))
noncomputable def ranges_shift.cs : List (Kn Try.prog) := [bits_Mask.c, ranges_Top.c, ranges_single.c]
def ranges_shift.live : Nat → Option Keep := liveOf [(12, ⟨[6, 7, 8], [6, 7, 8], []⟩)]
noncomputable def ranges_shift.body : Code := bodyOf Try.f76
noncomputable def ranges_shift.K (fu : Nat) : Code → St → (Ex → St → Option (Int × Int)) → Option (Int × Int) := codeK Try.prog ranges_shift.cs ranges_shift.live fu
noncomputable def ranges_shift.p6 (m fu : Nat) (c6_0 : Int) (c6_1 : Int) (c7_0 : Int) (c7_1 : Int) (c8_0 : Int) (c8_1 : Int) : Option (Int × Int) :=
  joinK m (ranges_shift.K fu (sub ranges_shift.body [true, false, true, false, true])) (stOf 71 [(6, .ptr 6 0 0 0), (7, .ptr 7 0 0 0), (8, .ptr 8 0 0 0)] [(6, .own [.val (.int .u64 c6_0), .val (.int .u64 c6_1)]), (7, .own [.val (.int .u64 c7_0), .val (.int .u64 c7_1)]), (8, .own [.val (.int .u64 c8_0), .val (.int .u64 c8_1)])]) (blockC 0 (seqC fu (ranges_shift.live 18) (ranges_shift.K fu (sub ranges_shift.body [true, true])) (retC Try.prog Try.f76.results ranges_shift.r.dec)))
theorem ranges_shift.p6_eq (m fu : Nat) (c6_0 : Int) (c6_1 : Int) (c7_0 : Int) (c7_1 : Int) (c8_0 : Int) (c8_1 : Int) : ranges_shift.p6 (m + 1) fu c6_0 c6_1 c7_0 c7_1 c8_0 c8_1 =
  (ranges_single.f (c7_0, c7_1)).bind fun r3 =>
  bif (!r3) then
    some (0, c6_1)
  else
    bif decide (c7_0 < 0) then
      none
    else
      bif decide (c7_0 < 0) then
        none
      else
        some ((shr .u64 c6_0 c7_0), (shr .u64 c6_1 c7_0)) := by kernel_rfl
noncomputable def ranges_shift.g (fu : Nat) (a0 : Int) (a1 : Int) (a2 : Int × Int) (a3 : Int × Int) : Option (Int × Int) :=
  bif (a0 == 15) then
    (bits_Mask.f a1).bind fun r1 =>
    bif (decide (a2.2 > (shr .u64 r1 1))) then
      (ranges_Top.f a1).bind fun r2 =>
      some (r2.1, r2.2)
    else
      ranges_shift.p6 fu fu a2.1 a2.2 a3.1 a3.2 0 0
  else
    bif (a0 == 14) then
      ranges_shift.p6 fu fu a2.1 a2.2 a3.1 a3.2 0 0
    else
      (ranges_single.f (a3.1, a3.2)).bind fun r4 =>
      bif (!r4) then
        (ranges_Top.f a1).bind fun r5 =>
        some (r5.1, r5.2)
      else
        bif (decide (a3.1 ≥ (IntKind.u64.wrap a1))) then
          some (0, 0)
        else
          (bits_Mask.f a1).bind fun r6 =>
          bif decide (a3.1 < 0) then
            none
          else
            bif (decide (a2.2 > (shr .u64 r6 a3.1))) then
              (ranges_Top.f a1).bind fun r7 =>
              some (r7.1, r7.2)
            else
              bif decide (a3.1 < 0) then
                none
              else
                bif decide (a3.1 < 0) then
                  none
                else
                  some ((shl .u64 a2.1 a3.1), (shl .u64 a2.2 a3.1))
noncomputable def ranges_shift.f (a0 : Int) (a1 : Int) (a2 : Int × Int) (a3 : Int × Int) : Option (Int × Int) := ranges_shift.g (fuel0 + 1) a0 a1 a2 a3
theorem ranges_shift.eq (fu : Nat) (a : Int × Int × (Int × Int) × (Int × Int) × Unit) : bodyK Try.prog ranges_shift.cs ranges_shift.live fu Try.f76 (ranges_shift.a.enc a) ranges_shift.r.dec = ranges_shift.g fu a.1 a.2.1 a.2.2.1 a.2.2.2.1 := by kernel_rfl
theorem ranges_shift.con : ∀ (a : Int × Int × (Int × Int) × (Int × Int) × Unit) (r : Int × Int), ranges_shift.f a.1 a.2.1 a.2.2.1 a.2.2.2.1 = some r → Contract Try.prog 76 (ranges_shift.a.enc a) (ranges_shift.r.enc r) := Contract.of_body (F := fun (a : Int × Int × (Int × Int) × (Int × Int) × Unit) => ranges_shift.f a.1 a.2.1 a.2.2.1 a.2.2.2.1) (fn := Try.f76) (cs := ranges_shift.cs) (live := ranges_shift.live) (fuel := fuel0 + 1) (by kernel_rfl) (by kernel_rfl) mixed (ranges_shift.eq (fuel0 + 1))
noncomputable def ranges_shift.c : Kn Try.prog := Kn.of 76 ranges_shift.a ranges_shift.r (fun a => ranges_shift.f a.1 a.2.1 a.2.2.1 a.2.2.2.1) ranges_shift.con

/-! ### bits_Concat: function 77 -/
def bits_Concat.a : ACods (Int × Int × Int × Int × Unit) := (.cons (.val (.int .i64)) (.cons (.val (.int .i64)) (.cons (.val (.int .u64)) (.cons (.val (.int .u64)) .nil))))
def bits_Concat.r : RCod (Int) := .val (.int .u64)
noncomputable def bits_Concat.cs : List (Kn Try.prog) := [bits_Cut.c, bits_clamp.c]
def bits_Concat.live : Nat → Option Keep := liveOf []
noncomputable def bits_Concat.body : Code := bodyOf Try.f77
noncomputable def bits_Concat.K (fu : Nat) : Code → St → (Ex → St → Option (Int)) → Option (Int) := codeK Try.prog bits_Concat.cs bits_Concat.live fu
noncomputable def bits_Concat.f (a0 : Int) (a1 : Int) (a2 : Int) (a3 : Int) : Option (Int) :=
  (bits_Cut.f a0 a2).bind fun r1 =>
  (bits_clamp.f a1).bind fun r2 =>
  bif decide (r2 < 0) then
    none
  else
    (bits_Cut.f a1 a3).bind fun r3 =>
    some (Go.bits .or .u64 (shl .u64 r1 r2) r3)
theorem bits_Concat.eq (fu : Nat) (a : Int × Int × Int × Int × Unit) : bodyK Try.prog bits_Concat.cs bits_Concat.live fu Try.f77 (bits_Concat.a.enc a) bits_Concat.r.dec = bits_Concat.f a.1 a.2.1 a.2.2.1 a.2.2.2.1 := by kernel_rfl
theorem bits_Concat.con : ∀ (a : Int × Int × Int × Int × Unit) (r : Int), bits_Concat.f a.1 a.2.1 a.2.2.1 a.2.2.2.1 = some r → Contract Try.prog 77 (bits_Concat.a.enc a) (bits_Concat.r.enc r) := Contract.of_body (F := fun (a : Int × Int × Int × Int × Unit) => bits_Concat.f a.1 a.2.1 a.2.2.1 a.2.2.2.1) (fn := Try.f77) (cs := bits_Concat.cs) (live := bits_Concat.live) (fuel := fuel0 + 1) (by kernel_rfl) (by kernel_rfl) mixed (bits_Concat.eq (fuel0 + 1))
noncomputable def bits_Concat.c : Kn Try.prog := Kn.of 77 bits_Concat.a bits_Concat.r (fun a => bits_Concat.f a.1 a.2.1 a.2.2.1 a.2.2.2.1) bits_Concat.con

/-! ### ranges_compare: function 78 -/
def ranges_compare.a : ACods (Int × Int × (Int × Int) × (Int × Int) × Unit) := (.cons (.val (.int .i64)) (.cons (.val (.int .i64)) (.cons (.val (.agg (.cons (.int .u64) (.one (.int .u64))))) (.cons (.val (.agg (.cons (.int .u64) (.one (.int .u64))))) .nil))))
def ranges_compare.r : RCod (Int × Int) := .val (.agg (.cons (.int .u64) (.one (.int .u64))))
noncomputable def ranges_compare.cs : List (Kn Try.prog) := [bits_Mask.c, ranges_single.c, ranges_Top.c]
def ranges_compare.live : Nat → Option Keep := liveOf [(18, ⟨[8], [8], []⟩), (24, ⟨[6, 7, 8], [6, 7, 8], []⟩)]
noncomputable def ranges_compare.body : Code := bodyOf Try.f78
noncomputable def ranges_compare.K (fu : Nat) : Code → St → (Ex → St → Option (Int × Int)) → Option (Int × Int) := codeK Try.prog ranges_compare.cs ranges_compare.live fu
noncomputable def ranges_compare.p9 (m fu : Nat) (c8_0 : Int) (c8_1 : Int) : Option (Int × Int) :=
  joinK m (ranges_compare.K fu (sub ranges_compare.body [true, true, false, true, false, false, false, false, false, true, false, true, true])) (stOf 75 [(8, .ptr 8 0 0 0)] [(8, .own [.val (.int .u64 c8_0), .val (.int .u64 c8_1)])]) (seqC fu (ranges_compare.live 0) (ranges_compare.K fu (sub ranges_compare.body [true, true, false, true, false, false, false, false, false, true, true])) (blockC 2 (seqC fu (ranges_compare.live 20) (ranges_compare.K fu (sub ranges_compare.body [true, true, false, true, false, false, false, true])) (blockC 3 (seqC fu (ranges_compare.live 24) (ranges_compare.K fu (sub ranges_compare.body [true, true, false, true, false, true])) (blockC 0 (seqC fu (ranges_compare.live 32) (ranges_compare.K fu (sub ranges_compare.body [true, true, true])) (retC Try.prog Try.f78.results ranges_compare.r.dec))))))))
noncomputable def ranges_compare.p12 (m fu : Nat) (c6_0 : Int) (c6_1 : Int) (c7_0 : Int) (c7_1 : Int) (c8_0 : Int) (c8_1 : Int) : Option (Int × Int) :=
  joinK m (ranges_compare.K fu (sub ranges_compare.body [true, true, false, true, false, true])) (stOf 75 [(6, .ptr 6 0 0 0), (7, .ptr 7 0 0 0), (8, .ptr 8 0 0 0)] [(6, .own [.val (.int .u64 c6_0), .val (.int .u64 c6_1)]), (7, .own [.val (.int .u64 c7_0), .val (.int .u64 c7_1)]), (8, .own [.val (.int .u64 c8_0), .val (.int .u64 c8_1)])]) (blockC 0 (seqC fu (ranges_compare.live 32) (ranges_compare.K fu (sub ranges_compare.body [true, true, true])) (retC Try.prog Try.f78.results ranges_compare.r.dec)))
theorem ranges_compare.p9_eq (m fu : Nat) (c8_0 : Int) (c8_1 : Int) : ranges_compare.p9 (m + 1) fu c8_0 c8_1 =
  (ranges_Top.f 1).bind fun r4 =>
  some (r4.1, r4.2) := by kernel_rfl
theorem ranges_compare.p12_eq (m fu : Nat) (c6_0 : Int) (c6_1 : Int) (c7_0 : Int) (c7_1 : Int) (c8_0 : Int) (c8_1 : Int) : ranges_compare.p12 (m + 1) fu c6_0 c6_1 c7_0 c7_1 c8_0 c8_1 =
  bif (decide (c6_1 < c7_0)) then
    some (1, 1)
  else
    bif (decide (c6_0 ≥ c7_1)) then
      some (0, 0)
    else
      (ranges_Top.f 1).bind fun r7 =>
      some (r7.1, r7.2) := by kernel_rfl
noncomputable def ranges_compare.g (fu : Nat) (a0 : Int) (a1 : Int) (a2 : Int × Int) (a3 : Int × Int) : Option (Int × Int) :=
  (bits_Mask.f a1).bind fun r1 =>
  bif (a0 == 16) then
    bif (decide (a2.2 < a3.1)) then
      some (0, 0)
    else
      bif (decide (a3.2 < a2.1)) then
        some (0, 0)
      else
        (ranges_single.f (a2.1, a2.2)).bind fun r2 =>
        bif r2 then
          (ranges_single.f (a3.1, a3.2)).bind fun r3 =>
          bif r3 then
            some (1, 1)
          else
            ranges_compare.p9 fu fu 0 0
        else
          ranges_compare.p9 fu fu 0 0
  else
    bif (a0 == 18) then
      bif (decide (a2.2 > (shr .u64 r1 1))) then
        bif (decide (a2.1 ≤ (shr .u64 r1 1))) then
          (ranges_Top.f 1).bind fun r5 =>
          some (r5.1, r5.2)
        else
          bif (decide (a3.1 ≤ (shr .u64 r1 1))) then
            (ranges_Top.f 1).bind fun r6 =>
            some (r6.1, r6.2)
          else
            ranges_compare.p12 fu fu a2.1 a2.2 a3.1 a3.2 0 0
      else
        bif (decide (a3.2 > (shr .u64 r1 1))) then
          bif (decide (a2.1 ≤ (shr .u64 r1 1))) then
            (ranges_Top.f 1).bind fun r8 =>
            some (r8.1, r8.2)
          else
            bif (decide (a3.1 ≤ (shr .u64 r1 1))) then
              (ranges_Top.f 1).bind fun r9 =>
              some (r9.1, r9.2)
            else
              ranges_compare.p12 fu fu a2.1 a2.2 a3.1 a3.2 0 0
        else
          ranges_compare.p12 fu fu a2.1 a2.2 a3.1 a3.2 0 0
    else
      ranges_compare.p12 fu fu a2.1 a2.2 a3.1 a3.2 0 0
noncomputable def ranges_compare.f (a0 : Int) (a1 : Int) (a2 : Int × Int) (a3 : Int × Int) : Option (Int × Int) := ranges_compare.g (fuel0 + 1) a0 a1 a2 a3
theorem ranges_compare.eq (fu : Nat) (a : Int × Int × (Int × Int) × (Int × Int) × Unit) : bodyK Try.prog ranges_compare.cs ranges_compare.live fu Try.f78 (ranges_compare.a.enc a) ranges_compare.r.dec = ranges_compare.g fu a.1 a.2.1 a.2.2.1 a.2.2.2.1 := by kernel_rfl
theorem ranges_compare.con : ∀ (a : Int × Int × (Int × Int) × (Int × Int) × Unit) (r : Int × Int), ranges_compare.f a.1 a.2.1 a.2.2.1 a.2.2.2.1 = some r → Contract Try.prog 78 (ranges_compare.a.enc a) (ranges_compare.r.enc r) := Contract.of_body (F := fun (a : Int × Int × (Int × Int) × (Int × Int) × Unit) => ranges_compare.f a.1 a.2.1 a.2.2.1 a.2.2.2.1) (fn := Try.f78) (cs := ranges_compare.cs) (live := ranges_compare.live) (fuel := fuel0 + 1) (by kernel_rfl) (by kernel_rfl) mixed (ranges_compare.eq (fuel0 + 1))
noncomputable def ranges_compare.c : Kn Try.prog := Kn.of 78 ranges_compare.a ranges_compare.r (fun a => ranges_compare.f a.1 a.2.1 a.2.2.1 a.2.2.2.1) ranges_compare.con

/-! ### ranges_binary: function 36 -/
def ranges_binary.a : ACods (Int × Int × Int × (Int × Int) × (Int × Int) × Unit) := (.cons (.val (.int .i64)) (.cons (.val (.int .i64)) (.cons (.val (.int .i64)) (.cons (.val (.agg (.cons (.int .u64) (.one (.int .u64))))) (.cons (.val (.agg (.cons (.int .u64) (.one (.int .u64))))) .nil)))))
def ranges_binary.r : RCod (Int × Int) := .val (.agg (.cons (.int .u64) (.one (.int .u64))))
noncomputable def ranges_binary.cs : List (Kn Try.prog) := [ranges_Fill.c, ranges_sum.c, ranges_difference.c, ranges_product.c, ranges_quotient.c, ranges_remainder.c, ranges_shift.c, bits_Concat.c, ranges_compare.c]
def ranges_binary.live : Nat → Option Keep := liveOf []
noncomputable def ranges_binary.body : Code := bodyOf Try.f36
noncomputable def ranges_binary.K (fu : Nat) : Code → St → (Ex → St → Option (Int × Int)) → Option (Int × Int) := codeK Try.prog ranges_binary.cs ranges_binary.live fu
noncomputable def ranges_binary.f (a0 : Int) (a1 : Int) (a2 : Int) (a3 : Int × Int) (a4 : Int × Int) : Option (Int × Int) :=
  bif (a0 == 5) then
    some (0, (mn a3.2 a4.2))
  else
    bif (a0 == 6) then
      (ranges_Fill.f (Go.bits .or .u64 a3.2 a4.2)).bind fun r1 =>
      some ((mx a3.1 a4.1), r1)
    else
      bif (a0 == 7) then
        (ranges_Fill.f (Go.bits .or .u64 a3.2 a4.2)).bind fun r2 =>
        some (0, r2)
      else
        bif (a0 == 8) then
          (ranges_sum.f a1 (a3.1, a3.2) (a4.1, a4.2)).bind fun r3 =>
          some (r3.1, r3.2)
        else
          bif (a0 == 9) then
            (ranges_difference.f a1 (a3.1, a3.2) (a4.1, a4.2)).bind fun r4 =>
            some (r4.1, r4.2)
          else
            bif (a0 == 10) then
              (ranges_product.f a1 (a3.1, a3.2) (a4.1, a4.2)).bind fun r5 =>
              some (r5.1, r5.2)
            else
              bif (a0 == 11) then
                (ranges_quotient.f a1 (a3.1, a3.2) (a4.1, a4.2)).bind fun r6 =>
                some (r6.1, r6.2)
              else
                bif (a0 == 12) then
                  (ranges_remainder.f (a3.1, a3.2) (a4.1, a4.2)).bind fun r7 =>
                  some (r7.1, r7.2)
                else
                  bif (a0 == 13) then
                    (ranges_shift.f a0 a1 (a3.1, a3.2) (a4.1, a4.2)).bind fun r8 =>
                    some (r8.1, r8.2)
                  else
                    bif (a0 == 14) then
                      (ranges_shift.f a0 a1 (a3.1, a3.2) (a4.1, a4.2)).bind fun r9 =>
                      some (r9.1, r9.2)
                    else
                      bif (a0 == 15) then
                        (ranges_shift.f a0 a1 (a3.1, a3.2) (a4.1, a4.2)).bind fun r10 =>
                        some (r10.1, r10.2)
                      else
                        bif (a0 == 20) then
                          (bits_Concat.f a1 a2 a3.1 a4.1).bind fun r11 =>
                          (bits_Concat.f a1 a2 a3.2 a4.2).bind fun r12 =>
                          some (r11, r12)
                        else
                          (ranges_compare.f a0 a1 (a3.1, a3.2) (a4.1, a4.2)).bind fun r13 =>
                          some (r13.1, r13.2)
theorem ranges_binary.eq (fu : Nat) (a : Int × Int × Int × (Int × Int) × (Int × Int) × Unit) : bodyK Try.prog ranges_binary.cs ranges_binary.live fu Try.f36 (ranges_binary.a.enc a) ranges_binary.r.dec = ranges_binary.f a.1 a.2.1 a.2.2.1 a.2.2.2.1 a.2.2.2.2.1 := by kernel_rfl
theorem ranges_binary.con : ∀ (a : Int × Int × Int × (Int × Int) × (Int × Int) × Unit) (r : Int × Int), ranges_binary.f a.1 a.2.1 a.2.2.1 a.2.2.2.1 a.2.2.2.2.1 = some r → Contract Try.prog 36 (ranges_binary.a.enc a) (ranges_binary.r.enc r) := Contract.of_body (F := fun (a : Int × Int × Int × (Int × Int) × (Int × Int) × Unit) => ranges_binary.f a.1 a.2.1 a.2.2.1 a.2.2.2.1 a.2.2.2.2.1) (fn := Try.f36) (cs := ranges_binary.cs) (live := ranges_binary.live) (fuel := fuel0 + 1) (by kernel_rfl) (by kernel_rfl) mixed (ranges_binary.eq (fuel0 + 1))
noncomputable def ranges_binary.c : Kn Try.prog := Kn.of 36 ranges_binary.a ranges_binary.r (fun a => ranges_binary.f a.1 a.2.1 a.2.2.1 a.2.2.2.1 a.2.2.2.2.1) ranges_binary.con

/-! ### ranges_Join: function 29 -/
def ranges_Join.a : ACods (Int × (Int × Int) × (Int × Int) × Unit) := (.cons (.val (.int .i64)) (.cons (.val (.agg (.cons (.int .u64) (.one (.int .u64))))) (.cons (.val (.agg (.cons (.int .u64) (.one (.int .u64))))) .nil)))
def ranges_Join.r : RCod (Int × Int) := .val (.agg (.cons (.int .u64) (.one (.int .u64))))
noncomputable def ranges_Join.cs : List (Kn Try.prog) := [ranges_norm.c]
def ranges_Join.live : Nat → Option Keep := liveOf []
noncomputable def ranges_Join.body : Code := bodyOf Try.f29
noncomputable def ranges_Join.K (fu : Nat) : Code → St → (Ex → St → Option (Int × Int)) → Option (Int × Int) := codeK Try.prog ranges_Join.cs ranges_Join.live fu
noncomputable def ranges_Join.f (a0 : Int) (a1 : Int × Int) (a2 : Int × Int) : Option (Int × Int) :=
  (ranges_norm.f a0 (a1.1, a1.2)).bind fun r1 =>
  (ranges_norm.f a0 (a2.1, a2.2)).bind fun r2 =>
  some ((mn r1.1 r2.1), (mx r1.2 r2.2))
theorem ranges_Join.eq (fu : Nat) (a : Int × (Int × Int) × (Int × Int) × Unit) : bodyK Try.prog ranges_Join.cs ranges_Join.live fu Try.f29 (ranges_Join.a.enc a) ranges_Join.r.dec = ranges_Join.f a.1 a.2.1 a.2.2.1 := by kernel_rfl
theorem ranges_Join.con : ∀ (a : Int × (Int × Int) × (Int × Int) × Unit) (r : Int × Int), ranges_Join.f a.1 a.2.1 a.2.2.1 = some r → Contract Try.prog 29 (ranges_Join.a.enc a) (ranges_Join.r.enc r) := Contract.of_body (F := fun (a : Int × (Int × Int) × (Int × Int) × Unit) => ranges_Join.f a.1 a.2.1 a.2.2.1) (fn := Try.f29) (cs := ranges_Join.cs) (live := ranges_Join.live) (fuel := fuel0 + 1) (by kernel_rfl) (by kernel_rfl) mixed (ranges_Join.eq (fuel0 + 1))
noncomputable def ranges_Join.c : Kn Try.prog := Kn.of 29 ranges_Join.a ranges_Join.r (fun a => ranges_Join.f a.1 a.2.1 a.2.2.1) ranges_Join.con

/-! ### ranges_Apply: function 9 -/
def ranges_Apply.a : ACods (Int × Int × Int × (Nat × (Nat → Int)) × (Nat × (Nat → Int) × (Nat → Int)) × Unit) := (.cons (.val (.int .i64)) (.cons (.val (.int .i64)) (.cons (.val (.int .u64)) (.cons (.rows (.int1 .i64)) (.cons (.rows (.int .u64 (.int1 .u64))) .nil)))))
def ranges_Apply.r : RCod ((Int × Int) × Int) := .val (.tup (.cons (.agg (.cons (.int .u64) (.one (.int .u64)))) (.one (.int .i64))))
noncomputable def ranges_Apply.cs : List (Kn Try.prog) := [ranges_check.c, ranges_norm.c, ranges_Const.c, ranges_Top.c, ranges_unary.c, ranges_binary.c, ranges_single.c, ranges_Join.c]
def ranges_Apply.live : Nat → Option Keep := liveOf [(13, ⟨[0, 2, 3, 10, 12, 14, 30, 31, 32], [3, 4, 10, 14], [(14, 29, [.int .u64 (fun _ => 0), .int .u64 (fun _ => 0)])]⟩)]
noncomputable def ranges_Apply.body : Code := bodyOf Try.f9
noncomputable def ranges_Apply.K (fu : Nat) : Code → St → (Ex → St → Option ((Int × Int) × Int)) → Option ((Int × Int) × Int) := codeK Try.prog ranges_Apply.cs ranges_Apply.live fu
noncomputable def ranges_Apply.j6 (fu : Nat) (n6 : Nat) (x0 : Int) (x2 : Int) (x3n : Nat) (x12 : Int) (x14n : Nat) (x30n : Nat) (x31 : Int) (x32 : Int) (m3 : Nat) (g3_0 : Nat → Int) (m4 : Nat) (g4_0 : Nat → Int) (g4_1 : Nat → Int) (c10_0 : Int) (c10_1 : Int) (m14 : Nat) (g14_0 : Nat → Int) (g14_1 : Nat → Int) : Option ((Int × Int) × Int) :=
  loopK (ranges_Apply.K fu (sub ranges_Apply.body [true, true, true, true, false, true, false, false])) (ranges_Apply.live 13) n6 (stOf 110 [(0, .val (.int .i64 x0)), (2, .val (.int .u64 x2)), (3, .sl 3 1 x3n), (10, .ptr 10 0 0 0), (12, .val (.int .i64 x12)), (14, .sl 14 2 x14n), (30, .sl 4 2 x30n), (31, .val (.int .i64 x31)), (32, .val (.int .i64 x32))] [(3, .ext m3 [.int .i64 g3_0]), (4, .ext m4 [.int .u64 g4_0, .int .u64 g4_1]), (10, .own [.val (.int .u64 c10_0), .val (.int .u64 c10_1)]), (14, .grow 29 m14 [.int .u64 g14_0, .int .u64 g14_1])]) (blockC 0 (seqC fu (ranges_Apply.live 20) (ranges_Apply.K fu (sub ranges_Apply.body [true, true, true, true, true])) (retC Try.prog Try.f9.results ranges_Apply.r.dec)))
theorem ranges_Apply.j6_succ (fu : Nat) (n6 : Nat) (x0 : Int) (x2 : Int) (x3n : Nat) (x12 : Int) (x14n : Nat) (x30n : Nat) (x31 : Int) (x32 : Int) (m3 : Nat) (g3_0 : Nat → Int) (m4 : Nat) (g4_0 : Nat → Int) (g4_1 : Nat → Int) (c10_0 : Int) (c10_1 : Int) (m14 : Nat) (g14_0 : Nat → Int) (g14_1 : Nat → Int) : ranges_Apply.j6 fu (n6 + 1) x0 x2 x3n x12 x14n x30n x31 x32 m3 g3_0 m4 g4_0 g4_1 c10_0 c10_1 m14 g14_0 g14_1 =
  bif (decide (x32 < x31)) then
    bif decide (0 ≤ x32) then
      bif decide (x32 < (x30n : Int)) then
        bif decide (0 ≤ x32) then
          bif decide (x32 < (x3n : Int)) then
            (ranges_norm.f (g3_0 x32.toNat) ((g4_0 x32.toNat), (g4_1 x32.toNat))).bind fun r2 =>
            bif Nat.ble ((x14n + 1) * 16) 140737488355328 then
              ranges_Apply.j6 fu n6 x0 x2 x3n x12 (x14n + 1) x30n x31 (IntKind.i64.wrap (x32 + 1)) m3 g3_0 m4 g4_0 g4_1 c10_0 c10_1 (x14n + 1) (cat x14n g14_0 (fun i => [r2.1].getD i 0)) (cat x14n g14_1 (fun i => [r2.2].getD i 0))
            else
              none
          else
            none
        else
          none
      else
        none
    else
      none
  else
    bif ((x14n : Int) == 0) then
      bif (x0 == 2) then
        (ranges_Const.f x12 x2).bind fun r3 =>
        some ((r3.1, r3.2), 0)
      else
        (ranges_Top.f x12).bind fun r4 =>
        some ((r4.1, r4.2), 0)
    else
      bif ((x14n : Int) == 1) then
        bif decide ((0 : Int) < (x3n : Int)) then
          bif decide ((0 : Int) < (x14n : Int)) then
            (ranges_unary.f x0 x12 x2 (g3_0 0) ((g14_0 0), (g14_1 0))).bind fun r5 =>
            some ((r5.1, r5.2), 0)
          else
            none
        else
          none
      else
        bif ((x14n : Int) == 2) then
          bif decide ((0 : Int) < (x3n : Int)) then
            bif decide ((1 : Int) < (x3n : Int)) then
              bif decide ((0 : Int) < (x14n : Int)) then
                bif decide ((1 : Int) < (x14n : Int)) then
                  (ranges_binary.f x0 (g3_0 0) (g3_0 1) ((g14_0 0), (g14_1 0)) ((g14_0 1), (g14_1 1))).bind fun r6 =>
                  some ((r6.1, r6.2), 0)
                else
                  none
              else
                none
            else
              none
          else
            none
        else
          bif decide ((0 : Int) < (x14n : Int)) then
            (ranges_single.f ((g14_0 0), (g14_1 0))).bind fun r7 =>
            bif (!r7) then
              bif decide ((1 : Int) < (x14n : Int)) then
                bif decide ((2 : Int) < (x14n : Int)) then
                  (ranges_Join.f x12 ((g14_0 1), (g14_1 1)) ((g14_0 2), (g14_1 2))).bind fun r8 =>
                  some ((r8.1, r8.2), 0)
                else
                  none
              else
                none
            else
              bif decide ((0 : Int) < (x14n : Int)) then
                bif ((g14_0 0) == 1) then
                  bif decide ((1 : Int) < (x14n : Int)) then
                    some (((g14_0 1), (g14_1 1)), 0)
                  else
                    none
                else
                  bif decide ((2 : Int) < (x14n : Int)) then
                    some (((g14_0 2), (g14_1 2)), 0)
                  else
                    none
              else
                none
          else
            none := by kernel_rfl
noncomputable def ranges_Apply.g (fu : Nat) (a0 : Int) (a1 : Int) (a2 : Int) (a3 : Nat × (Nat → Int)) (a4 : Nat × (Nat → Int) × (Nat → Int)) : Option ((Int × Int) × Int) :=
  (ranges_check.f a0 a1 a2 (a3.1, a3.2) (a4.1, a4.2.1, a4.2.2)).bind fun r1 =>
  bif (r1.2 != 0) then
    some ((0, 0), r1.2)
  else
    ranges_Apply.j6 fu fu a0 a2 a3.1 r1.1 0 a4.1 (a4.1 : Int) 0 a3.1 a3.2 a4.1 a4.2.1 a4.2.2 0 0 0 (fun _ => 0) (fun _ => 0)
noncomputable def ranges_Apply.f (a0 : Int) (a1 : Int) (a2 : Int) (a3 : Nat × (Nat → Int)) (a4 : Nat × (Nat → Int) × (Nat → Int)) : Option ((Int × Int) × Int) := ranges_Apply.g (fuel0 + 1) a0 a1 a2 a3 a4
theorem ranges_Apply.eq (fu : Nat) (a : Int × Int × Int × (Nat × (Nat → Int)) × (Nat × (Nat → Int) × (Nat → Int)) × Unit) : bodyK Try.prog ranges_Apply.cs ranges_Apply.live fu Try.f9 (ranges_Apply.a.enc a) ranges_Apply.r.dec = ranges_Apply.g fu a.1 a.2.1 a.2.2.1 a.2.2.2.1 a.2.2.2.2.1 := by kernel_rfl
theorem ranges_Apply.con : ∀ (a : Int × Int × Int × (Nat × (Nat → Int)) × (Nat × (Nat → Int) × (Nat → Int)) × Unit) (r : (Int × Int) × Int), ranges_Apply.f a.1 a.2.1 a.2.2.1 a.2.2.2.1 a.2.2.2.2.1 = some r → Contract Try.prog 9 (ranges_Apply.a.enc a) (ranges_Apply.r.enc r) := Contract.of_body (F := fun (a : Int × Int × Int × (Nat × (Nat → Int)) × (Nat × (Nat → Int) × (Nat → Int)) × Unit) => ranges_Apply.f a.1 a.2.1 a.2.2.1 a.2.2.2.1 a.2.2.2.2.1) (fn := Try.f9) (cs := ranges_Apply.cs) (live := ranges_Apply.live) (fuel := fuel0 + 1) (by kernel_rfl) (by kernel_rfl) mixed (ranges_Apply.eq (fuel0 + 1))
noncomputable def ranges_Apply.c : Kn Try.prog := Kn.of 9 ranges_Apply.a ranges_Apply.r (fun a => ranges_Apply.f a.1 a.2.1 a.2.2.1 a.2.2.2.1 a.2.2.2.2.1) ranges_Apply.con

/-! ### saturatelaw13_lives: function 11 -/
def saturatelaw13_lives.a : ACods (Unit) := .nil
def saturatelaw13_lives.r : RCod (Bool) := .val (.bool)
noncomputable def saturatelaw13_lives.cs : List (Kn Try.prog) := [ranges_Apply.c]
def saturatelaw13_lives.live : Nat → Option Keep := liveOf []
noncomputable def saturatelaw13_lives.body : Code := bodyOf Try.f11
noncomputable def saturatelaw13_lives.K (fu : Nat) : Code → St → (Ex → St → Option (Bool)) → Option (Bool) := codeK Try.prog saturatelaw13_lives.cs saturatelaw13_lives.live fu
noncomputable def saturatelaw13_lives.f : Option (Bool) :=
  (ranges_Apply.f 8 0 0 (2, (fun i => [4, 4].getD i 0)) (2, (fun i => [1, 2].getD i 0), (fun i => [3, 5].getD i 0))).bind fun r1 =>
  (ranges_Apply.f 8 0 0 (2, (fun i => [4, 4].getD i 0)) (2, (fun i => [9, 9].getD i 0), (fun i => [15, 9].getD i 0))).bind fun r2 =>
  (ranges_Apply.f 8 0 0 (2, (fun i => [4, 4].getD i 0)) (2, (fun i => [0, 1].getD i 0), (fun i => [15, 1].getD i 0))).bind fun r3 =>
  bif (r1.2 == 0) then
    bif (r2.2 == 0) then
      bif (r3.2 == 0) then
        bif ((r1.1.1 == 3) && ((r1.1.2 == 8) && true)) then
          bif ((r2.1.1 == 2) && ((r2.1.2 == 8) && true)) then
            some ((r3.1.1 == 0) && ((r3.1.2 == 15) && true))
          else
            some false
        else
          some false
      else
        some false
    else
      some false
  else
    some false
theorem saturatelaw13_lives.eq (fu : Nat) (a : Unit) : bodyK Try.prog saturatelaw13_lives.cs saturatelaw13_lives.live fu Try.f11 (saturatelaw13_lives.a.enc a) saturatelaw13_lives.r.dec = saturatelaw13_lives.f := by kernel_rfl
theorem saturatelaw13_lives.con : ∀ (a : Unit) (r : Bool), saturatelaw13_lives.f = some r → Contract Try.prog 11 (saturatelaw13_lives.a.enc a) (saturatelaw13_lives.r.enc r) := Contract.of_body (F := fun (a : Unit) => saturatelaw13_lives.f) (fn := Try.f11) (cs := saturatelaw13_lives.cs) (live := saturatelaw13_lives.live) (fuel := fuel0 + 1) (by kernel_rfl) (by kernel_rfl) mixed (saturatelaw13_lives.eq (fuel0 + 1))
noncomputable def saturatelaw13_lives.c : Kn Try.prog := Kn.of 11 saturatelaw13_lives.a saturatelaw13_lives.r (fun a => saturatelaw13_lives.f) saturatelaw13_lives.con

/-! ### saturatelaw13_RangesElements: function 5 -/
def saturatelaw13_RangesElements.a : ACods (Int × (Int × Int) × Int × Unit) := (.cons (.val (.int .i64)) (.cons (.val (.agg (.cons (.int .u64) (.one (.int .u64))))) (.cons (.val (.int .u64)) .nil)))
def saturatelaw13_RangesElements.r : RCod (Bool) := .val (.bool)
noncomputable def saturatelaw13_RangesElements.cs : List (Kn Try.prog) := [ranges_Single.c, saturateref13_Single.c, ranges_Top.c, saturateref13_Top.c, ranges_Const.c, saturateref13_Const.c, ranges_Valid.c, saturateref13_Valid.c, ranges_Has.c, saturateref13_Has.c, ranges_Fill.c, saturateref13_Fill.c, saturatelaw13_lives.c]
def saturatelaw13_RangesElements.live : Nat → Option Keep := liveOf []
noncomputable def saturatelaw13_RangesElements.body : Code := bodyOf Try.f5
noncomputable def saturatelaw13_RangesElements.K (fu : Nat) : Code → St → (Ex → St → Option (Bool)) → Option (Bool) := codeK Try.prog saturatelaw13_RangesElements.cs saturatelaw13_RangesElements.live fu
noncomputable def saturatelaw13_RangesElements.f (a0 : Int) (a1 : Int × Int) (a2 : Int) : Option (Bool) :=
  (ranges_Single.f a0 (a1.1, a1.2)).bind fun r1 =>
  (saturateref13_Single.f a0 (a1.1, a1.2)).bind fun r2 =>
  bif (r1.1 != r2.1) then
    some false
  else
    bif (!(r1.2 == r2.2)) then
      some false
    else
      (ranges_Top.f a0).bind fun r3 =>
      (saturateref13_Top.f a0).bind fun r4 =>
      bif (!((r3.1 == r4.1) && ((r3.2 == r4.2) && true))) then
        some false
      else
        (ranges_Const.f a0 a2).bind fun r5 =>
        (saturateref13_Const.f a0 a2).bind fun r6 =>
        bif (!((r5.1 == r6.1) && ((r5.2 == r6.2) && true))) then
          some false
        else
          (ranges_Valid.f a0 (a1.1, a1.2)).bind fun r7 =>
          (saturateref13_Valid.f a0 (a1.1, a1.2)).bind fun r8 =>
          bif (r7 == r8) then
            (ranges_Has.f a0 (a1.1, a1.2) a2).bind fun r9 =>
            (saturateref13_Has.f a0 (a1.1, a1.2) a2).bind fun r10 =>
            bif (r9 == r10) then
              (ranges_Fill.f a2).bind fun r11 =>
              (saturateref13_Fill.f a2).bind fun r12 =>
              bif (r11 == r12) then
                (saturatelaw13_lives.f).bind fun r13 =>
                some r13
              else
                some false
            else
              some false
          else
            some false
theorem saturatelaw13_RangesElements.eq (fu : Nat) (a : Int × (Int × Int) × Int × Unit) : bodyK Try.prog saturatelaw13_RangesElements.cs saturatelaw13_RangesElements.live fu Try.f5 (saturatelaw13_RangesElements.a.enc a) saturatelaw13_RangesElements.r.dec = saturatelaw13_RangesElements.f a.1 a.2.1 a.2.2.1 := by kernel_rfl
theorem saturatelaw13_RangesElements.con : ∀ (a : Int × (Int × Int) × Int × Unit) (r : Bool), saturatelaw13_RangesElements.f a.1 a.2.1 a.2.2.1 = some r → Contract Try.prog 5 (saturatelaw13_RangesElements.a.enc a) (saturatelaw13_RangesElements.r.enc r) := Contract.of_body (F := fun (a : Int × (Int × Int) × Int × Unit) => saturatelaw13_RangesElements.f a.1 a.2.1 a.2.2.1) (fn := Try.f5) (cs := saturatelaw13_RangesElements.cs) (live := saturatelaw13_RangesElements.live) (fuel := fuel0 + 1) (by kernel_rfl) (by kernel_rfl) mixed (saturatelaw13_RangesElements.eq (fuel0 + 1))
noncomputable def saturatelaw13_RangesElements.c : Kn Try.prog := Kn.of 5 saturatelaw13_RangesElements.a saturatelaw13_RangesElements.r (fun a => saturatelaw13_RangesElements.f a.1 a.2.1 a.2.2.1) saturatelaw13_RangesElements.con

/-! ### ranges_Meet: function 27 -/
def ranges_Meet.a : ACods (Int × (Int × Int) × (Int × Int) × Unit) := (.cons (.val (.int .i64)) (.cons (.val (.agg (.cons (.int .u64) (.one (.int .u64))))) (.cons (.val (.agg (.cons (.int .u64) (.one (.int .u64))))) .nil)))
def ranges_Meet.r : RCod ((Int × Int) × Bool) := .val (.tup (.cons (.agg (.cons (.int .u64) (.one (.int .u64)))) (.one (.bool))))
noncomputable def ranges_Meet.cs : List (Kn Try.prog) := [ranges_norm.c, ranges_Top.c]
def ranges_Meet.live : Nat → Option Keep := liveOf []
noncomputable def ranges_Meet.body : Code := bodyOf Try.f27
noncomputable def ranges_Meet.K (fu : Nat) : Code → St → (Ex → St → Option ((Int × Int) × Bool)) → Option ((Int × Int) × Bool) := codeK Try.prog ranges_Meet.cs ranges_Meet.live fu
noncomputable def ranges_Meet.f (a0 : Int) (a1 : Int × Int) (a2 : Int × Int) : Option ((Int × Int) × Bool) :=
  (ranges_norm.f a0 (a1.1, a1.2)).bind fun r1 =>
  (ranges_norm.f a0 (a2.1, a2.2)).bind fun r2 =>
  bif (decide ((mx r1.1 r2.1) > (mn r1.2 r2.2))) then
    (ranges_Top.f a0).bind fun r3 =>
    some ((r3.1, r3.2), false)
  else
    some (((mx r1.1 r2.1), (mn r1.2 r2.2)), true)
theorem ranges_Meet.eq (fu : Nat) (a : Int × (Int × Int) × (Int × Int) × Unit) : bodyK Try.prog ranges_Meet.cs ranges_Meet.live fu Try.f27 (ranges_Meet.a.enc a) ranges_Meet.r.dec = ranges_Meet.f a.1 a.2.1 a.2.2.1 := by kernel_rfl
theorem ranges_Meet.con : ∀ (a : Int × (Int × Int) × (Int × Int) × Unit) (r : (Int × Int) × Bool), ranges_Meet.f a.1 a.2.1 a.2.2.1 = some r → Contract Try.prog 27 (ranges_Meet.a.enc a) (ranges_Meet.r.enc r) := Contract.of_body (F := fun (a : Int × (Int × Int) × (Int × Int) × Unit) => ranges_Meet.f a.1 a.2.1 a.2.2.1) (fn := Try.f27) (cs := ranges_Meet.cs) (live := ranges_Meet.live) (fuel := fuel0 + 1) (by kernel_rfl) (by kernel_rfl) mixed (ranges_Meet.eq (fuel0 + 1))
noncomputable def ranges_Meet.c : Kn Try.prog := Kn.of 27 ranges_Meet.a ranges_Meet.r (fun a => ranges_Meet.f a.1 a.2.1 a.2.2.1) ranges_Meet.con

/-! ### saturateref13_Meet: function 28 -/
def saturateref13_Meet.a : ACods (Int × (Int × Int) × (Int × Int) × Unit) := (.cons (.val (.int .i64)) (.cons (.val (.agg (.cons (.int .u64) (.one (.int .u64))))) (.cons (.val (.agg (.cons (.int .u64) (.one (.int .u64))))) .nil)))
def saturateref13_Meet.r : RCod ((Int × Int) × Bool) := .val (.tup (.cons (.agg (.cons (.int .u64) (.one (.int .u64)))) (.one (.bool))))
noncomputable def saturateref13_Meet.cs : List (Kn Try.prog) := [saturateref13_Of.c, saturateref13_Top.c]
def saturateref13_Meet.live : Nat → Option Keep := liveOf []
noncomputable def saturateref13_Meet.body : Code := bodyOf Try.f28
noncomputable def saturateref13_Meet.K (fu : Nat) : Code → St → (Ex → St → Option ((Int × Int) × Bool)) → Option ((Int × Int) × Bool) := codeK Try.prog saturateref13_Meet.cs saturateref13_Meet.live fu
noncomputable def saturateref13_Meet.f (a0 : Int) (a1 : Int × Int) (a2 : Int × Int) : Option ((Int × Int) × Bool) :=
  (saturateref13_Of.f a0 (a1.1, a1.2)).bind fun r1 =>
  (saturateref13_Of.f a0 (a2.1, a2.2)).bind fun r2 =>
  bif (decide ((mx r1.1 r2.1) > (mn r1.2 r2.2))) then
    (saturateref13_Top.f a0).bind fun r3 =>
    some ((r3.1, r3.2), false)
  else
    some (((mx r1.1 r2.1), (mn r1.2 r2.2)), true)
theorem saturateref13_Meet.eq (fu : Nat) (a : Int × (Int × Int) × (Int × Int) × Unit) : bodyK Try.prog saturateref13_Meet.cs saturateref13_Meet.live fu Try.f28 (saturateref13_Meet.a.enc a) saturateref13_Meet.r.dec = saturateref13_Meet.f a.1 a.2.1 a.2.2.1 := by kernel_rfl
theorem saturateref13_Meet.con : ∀ (a : Int × (Int × Int) × (Int × Int) × Unit) (r : (Int × Int) × Bool), saturateref13_Meet.f a.1 a.2.1 a.2.2.1 = some r → Contract Try.prog 28 (saturateref13_Meet.a.enc a) (saturateref13_Meet.r.enc r) := Contract.of_body (F := fun (a : Int × (Int × Int) × (Int × Int) × Unit) => saturateref13_Meet.f a.1 a.2.1 a.2.2.1) (fn := Try.f28) (cs := saturateref13_Meet.cs) (live := saturateref13_Meet.live) (fuel := fuel0 + 1) (by kernel_rfl) (by kernel_rfl) mixed (saturateref13_Meet.eq (fuel0 + 1))
noncomputable def saturateref13_Meet.c : Kn Try.prog := Kn.of 28 saturateref13_Meet.a saturateref13_Meet.r (fun a => saturateref13_Meet.f a.1 a.2.1 a.2.2.1) saturateref13_Meet.con

/-! ### saturateref13_Join: function 30 -/
def saturateref13_Join.a : ACods (Int × (Int × Int) × (Int × Int) × Unit) := (.cons (.val (.int .i64)) (.cons (.val (.agg (.cons (.int .u64) (.one (.int .u64))))) (.cons (.val (.agg (.cons (.int .u64) (.one (.int .u64))))) .nil)))
def saturateref13_Join.r : RCod (Int × Int) := .val (.agg (.cons (.int .u64) (.one (.int .u64))))
noncomputable def saturateref13_Join.cs : List (Kn Try.prog) := [saturateref13_Of.c]
def saturateref13_Join.live : Nat → Option Keep := liveOf []
noncomputable def saturateref13_Join.body : Code := bodyOf Try.f30
noncomputable def saturateref13_Join.K (fu : Nat) : Code → St → (Ex → St → Option (Int × Int)) → Option (Int × Int) := codeK Try.prog saturateref13_Join.cs saturateref13_Join.live fu
noncomputable def saturateref13_Join.f (a0 : Int) (a1 : Int × Int) (a2 : Int × Int) : Option (Int × Int) :=
  (saturateref13_Of.f a0 (a1.1, a1.2)).bind fun r1 =>
  (saturateref13_Of.f a0 (a2.1, a2.2)).bind fun r2 =>
  some ((mn r1.1 r2.1), (mx r1.2 r2.2))
theorem saturateref13_Join.eq (fu : Nat) (a : Int × (Int × Int) × (Int × Int) × Unit) : bodyK Try.prog saturateref13_Join.cs saturateref13_Join.live fu Try.f30 (saturateref13_Join.a.enc a) saturateref13_Join.r.dec = saturateref13_Join.f a.1 a.2.1 a.2.2.1 := by kernel_rfl
theorem saturateref13_Join.con : ∀ (a : Int × (Int × Int) × (Int × Int) × Unit) (r : Int × Int), saturateref13_Join.f a.1 a.2.1 a.2.2.1 = some r → Contract Try.prog 30 (saturateref13_Join.a.enc a) (saturateref13_Join.r.enc r) := Contract.of_body (F := fun (a : Int × (Int × Int) × (Int × Int) × Unit) => saturateref13_Join.f a.1 a.2.1 a.2.2.1) (fn := Try.f30) (cs := saturateref13_Join.cs) (live := saturateref13_Join.live) (fuel := fuel0 + 1) (by kernel_rfl) (by kernel_rfl) mixed (saturateref13_Join.eq (fuel0 + 1))
noncomputable def saturateref13_Join.c : Kn Try.prog := Kn.of 30 saturateref13_Join.a saturateref13_Join.r (fun a => saturateref13_Join.f a.1 a.2.1 a.2.2.1) saturateref13_Join.con

/-! ### ranges_Leq: function 31 -/
def ranges_Leq.a : ACods (Int × (Int × Int) × (Int × Int) × Unit) := (.cons (.val (.int .i64)) (.cons (.val (.agg (.cons (.int .u64) (.one (.int .u64))))) (.cons (.val (.agg (.cons (.int .u64) (.one (.int .u64))))) .nil)))
def ranges_Leq.r : RCod (Bool) := .val (.bool)
noncomputable def ranges_Leq.cs : List (Kn Try.prog) := [ranges_norm.c]
def ranges_Leq.live : Nat → Option Keep := liveOf []
noncomputable def ranges_Leq.body : Code := bodyOf Try.f31
noncomputable def ranges_Leq.K (fu : Nat) : Code → St → (Ex → St → Option (Bool)) → Option (Bool) := codeK Try.prog ranges_Leq.cs ranges_Leq.live fu
noncomputable def ranges_Leq.f (a0 : Int) (a1 : Int × Int) (a2 : Int × Int) : Option (Bool) :=
  (ranges_norm.f a0 (a1.1, a1.2)).bind fun r1 =>
  (ranges_norm.f a0 (a2.1, a2.2)).bind fun r2 =>
  bif (decide (r2.1 ≤ r1.1)) then
    some (decide (r1.2 ≤ r2.2))
  else
    some false
theorem ranges_Leq.eq (fu : Nat) (a : Int × (Int × Int) × (Int × Int) × Unit) : bodyK Try.prog ranges_Leq.cs ranges_Leq.live fu Try.f31 (ranges_Leq.a.enc a) ranges_Leq.r.dec = ranges_Leq.f a.1 a.2.1 a.2.2.1 := by kernel_rfl
theorem ranges_Leq.con : ∀ (a : Int × (Int × Int) × (Int × Int) × Unit) (r : Bool), ranges_Leq.f a.1 a.2.1 a.2.2.1 = some r → Contract Try.prog 31 (ranges_Leq.a.enc a) (ranges_Leq.r.enc r) := Contract.of_body (F := fun (a : Int × (Int × Int) × (Int × Int) × Unit) => ranges_Leq.f a.1 a.2.1 a.2.2.1) (fn := Try.f31) (cs := ranges_Leq.cs) (live := ranges_Leq.live) (fuel := fuel0 + 1) (by kernel_rfl) (by kernel_rfl) mixed (ranges_Leq.eq (fuel0 + 1))
noncomputable def ranges_Leq.c : Kn Try.prog := Kn.of 31 ranges_Leq.a ranges_Leq.r (fun a => ranges_Leq.f a.1 a.2.1 a.2.2.1) ranges_Leq.con

/-! ### saturateref13_Leq: function 32 -/
def saturateref13_Leq.a : ACods (Int × (Int × Int) × (Int × Int) × Unit) := (.cons (.val (.int .i64)) (.cons (.val (.agg (.cons (.int .u64) (.one (.int .u64))))) (.cons (.val (.agg (.cons (.int .u64) (.one (.int .u64))))) .nil)))
def saturateref13_Leq.r : RCod (Bool) := .val (.bool)
noncomputable def saturateref13_Leq.cs : List (Kn Try.prog) := [saturateref13_Of.c]
def saturateref13_Leq.live : Nat → Option Keep := liveOf []
noncomputable def saturateref13_Leq.body : Code := bodyOf Try.f32
noncomputable def saturateref13_Leq.K (fu : Nat) : Code → St → (Ex → St → Option (Bool)) → Option (Bool) := codeK Try.prog saturateref13_Leq.cs saturateref13_Leq.live fu
noncomputable def saturateref13_Leq.f (a0 : Int) (a1 : Int × Int) (a2 : Int × Int) : Option (Bool) :=
  (saturateref13_Of.f a0 (a1.1, a1.2)).bind fun r1 =>
  (saturateref13_Of.f a0 (a2.1, a2.2)).bind fun r2 =>
  bif (decide (r2.1 ≤ r1.1)) then
    some (decide (r1.2 ≤ r2.2))
  else
    some false
theorem saturateref13_Leq.eq (fu : Nat) (a : Int × (Int × Int) × (Int × Int) × Unit) : bodyK Try.prog saturateref13_Leq.cs saturateref13_Leq.live fu Try.f32 (saturateref13_Leq.a.enc a) saturateref13_Leq.r.dec = saturateref13_Leq.f a.1 a.2.1 a.2.2.1 := by kernel_rfl
theorem saturateref13_Leq.con : ∀ (a : Int × (Int × Int) × (Int × Int) × Unit) (r : Bool), saturateref13_Leq.f a.1 a.2.1 a.2.2.1 = some r → Contract Try.prog 32 (saturateref13_Leq.a.enc a) (saturateref13_Leq.r.enc r) := Contract.of_body (F := fun (a : Int × (Int × Int) × (Int × Int) × Unit) => saturateref13_Leq.f a.1 a.2.1 a.2.2.1) (fn := Try.f32) (cs := saturateref13_Leq.cs) (live := saturateref13_Leq.live) (fuel := fuel0 + 1) (by kernel_rfl) (by kernel_rfl) mixed (saturateref13_Leq.eq (fuel0 + 1))
noncomputable def saturateref13_Leq.c : Kn Try.prog := Kn.of 32 saturateref13_Leq.a saturateref13_Leq.r (fun a => saturateref13_Leq.f a.1 a.2.1 a.2.2.1) saturateref13_Leq.con

/-! ### saturatelaw13_RangesPairs: function 6 -/
def saturatelaw13_RangesPairs.a : ACods (Int × (Int × Int) × (Int × Int) × Unit) := (.cons (.val (.int .i64)) (.cons (.val (.agg (.cons (.int .u64) (.one (.int .u64))))) (.cons (.val (.agg (.cons (.int .u64) (.one (.int .u64))))) .nil)))
def saturatelaw13_RangesPairs.r : RCod (Bool) := .val (.bool)
noncomputable def saturatelaw13_RangesPairs.cs : List (Kn Try.prog) := [ranges_Meet.c, saturateref13_Meet.c, ranges_Join.c, saturateref13_Join.c, ranges_Leq.c, saturateref13_Leq.c, saturatelaw13_lives.c]
def saturatelaw13_RangesPairs.live : Nat → Option Keep := liveOf []
noncomputable def saturatelaw13_RangesPairs.body : Code := bodyOf Try.f6
noncomputable def saturatelaw13_RangesPairs.K (fu : Nat) : Code → St → (Ex → St → Option (Bool)) → Option (Bool) := codeK Try.prog saturatelaw13_RangesPairs.cs saturatelaw13_RangesPairs.live fu
noncomputable def saturatelaw13_RangesPairs.f (a0 : Int) (a1 : Int × Int) (a2 : Int × Int) : Option (Bool) :=
  (ranges_Meet.f a0 (a1.1, a1.2) (a2.1, a2.2)).bind fun r1 =>
  (saturateref13_Meet.f a0 (a1.1, a1.2) (a2.1, a2.2)).bind fun r2 =>
  bif ((r1.1.1 == r2.1.1) && ((r1.1.2 == r2.1.2) && true)) then
    bif (r1.2 == r2.2) then
      (ranges_Join.f a0 (a1.1, a1.2) (a2.1, a2.2)).bind fun r3 =>
      (saturateref13_Join.f a0 (a1.1, a1.2) (a2.1, a2.2)).bind fun r4 =>
      bif ((r3.1 == r4.1) && ((r3.2 == r4.2) && true)) then
        (ranges_Leq.f a0 (a1.1, a1.2) (a2.1, a2.2)).bind fun r5 =>
        (saturateref13_Leq.f a0 (a1.1, a1.2) (a2.1, a2.2)).bind fun r6 =>
        bif (r5 == r6) then
          (saturatelaw13_lives.f).bind fun r7 =>
          some r7
        else
          some false
      else
        some false
    else
      some false
  else
    some false
theorem saturatelaw13_RangesPairs.eq (fu : Nat) (a : Int × (Int × Int) × (Int × Int) × Unit) : bodyK Try.prog saturatelaw13_RangesPairs.cs saturatelaw13_RangesPairs.live fu Try.f6 (saturatelaw13_RangesPairs.a.enc a) saturatelaw13_RangesPairs.r.dec = saturatelaw13_RangesPairs.f a.1 a.2.1 a.2.2.1 := by kernel_rfl
theorem saturatelaw13_RangesPairs.con : ∀ (a : Int × (Int × Int) × (Int × Int) × Unit) (r : Bool), saturatelaw13_RangesPairs.f a.1 a.2.1 a.2.2.1 = some r → Contract Try.prog 6 (saturatelaw13_RangesPairs.a.enc a) (saturatelaw13_RangesPairs.r.enc r) := Contract.of_body (F := fun (a : Int × (Int × Int) × (Int × Int) × Unit) => saturatelaw13_RangesPairs.f a.1 a.2.1 a.2.2.1) (fn := Try.f6) (cs := saturatelaw13_RangesPairs.cs) (live := saturatelaw13_RangesPairs.live) (fuel := fuel0 + 1) (by kernel_rfl) (by kernel_rfl) mixed (saturatelaw13_RangesPairs.eq (fuel0 + 1))
noncomputable def saturatelaw13_RangesPairs.c : Kn Try.prog := Kn.of 6 saturatelaw13_RangesPairs.a saturatelaw13_RangesPairs.r (fun a => saturatelaw13_RangesPairs.f a.1 a.2.1 a.2.2.1) saturatelaw13_RangesPairs.con

/-! ### saturatelaw13_RangesBounds: function 7 -/
def saturatelaw13_RangesBounds.a : ACods (Int × (Int × Int) × (Int × Int) × Unit) := (.cons (.val (.int .i64)) (.cons (.val (.agg (.cons (.int .u64) (.one (.int .u64))))) (.cons (.val (.agg (.cons (.int .u64) (.one (.int .u64))))) .nil)))
def saturatelaw13_RangesBounds.r : RCod (Bool) := .val (.bool)
noncomputable def saturatelaw13_RangesBounds.cs : List (Kn Try.prog) := [ranges_Meet.c, ranges_Join.c, ranges_Leq.c, ranges_Valid.c, saturatelaw13_lives.c]
def saturatelaw13_RangesBounds.live : Nat → Option Keep := liveOf [(14, ⟨[0, 4, 5, 7, 8, 9], [4, 5, 7, 9], []⟩)]
noncomputable def saturatelaw13_RangesBounds.body : Code := bodyOf Try.f7
noncomputable def saturatelaw13_RangesBounds.K (fu : Nat) : Code → St → (Ex → St → Option (Bool)) → Option (Bool) := codeK Try.prog saturatelaw13_RangesBounds.cs saturatelaw13_RangesBounds.live fu
noncomputable def saturatelaw13_RangesBounds.p7 (m fu : Nat) (x0 : Int) (x8 : Bool) (c4_0 : Int) (c4_1 : Int) (c5_0 : Int) (c5_1 : Int) (c7_0 : Int) (c7_1 : Int) (c9_0 : Int) (c9_1 : Int) : Option Bool :=
  joinK m (saturatelaw13_RangesBounds.K fu (sub saturatelaw13_RangesBounds.body [true, true, true, true, true])) (stOf 92 [(0, .val (.int .i64 x0)), (4, .ptr 4 0 0 0), (5, .ptr 5 0 0 0), (7, .ptr 7 0 0 0), (8, .val (.bool x8)), (9, .ptr 9 0 0 0)] [(4, .own [.val (.int .u64 c4_0), .val (.int .u64 c4_1)]), (5, .own [.val (.int .u64 c5_0), .val (.int .u64 c5_1)]), (7, .own [.val (.int .u64 c7_0), .val (.int .u64 c7_1)]), (9, .own [.val (.int .u64 c9_0), .val (.int .u64 c9_1)])]) (retC Try.prog Try.f7.results saturatelaw13_RangesBounds.r.dec)
theorem saturatelaw13_RangesBounds.p7_eq (m fu : Nat) (x0 : Int) (x8 : Bool) (c4_0 : Int) (c4_1 : Int) (c5_0 : Int) (c5_1 : Int) (c7_0 : Int) (c7_1 : Int) (c9_0 : Int) (c9_1 : Int) : saturatelaw13_RangesBounds.p7 (m + 1) fu x0 x8 c4_0 c4_1 c5_0 c5_1 c7_0 c7_1 c9_0 c9_1 =
  (ranges_Leq.f x0 (c4_0, c4_1) (c5_0, c5_1)).bind fun r9 =>
  (ranges_Join.f x0 (c5_0, c5_1) (c5_0, c5_1)).bind fun r10 =>
  bif (r9 == ((c9_0 == r10.1) && ((c9_1 == r10.2) && true))) then
    (ranges_Leq.f x0 (c4_0, c4_1) (c5_0, c5_1)).bind fun r11 =>
    bif (!r11) then
      (saturatelaw13_lives.f).bind fun r12 =>
      some r12
    else
      bif x8 then
        (ranges_Join.f x0 (c4_0, c4_1) (c4_0, c4_1)).bind fun r13 =>
        bif ((c7_0 == r13.1) && ((c7_1 == r13.2) && true)) then
          (saturatelaw13_lives.f).bind fun r14 =>
          some r14
        else
          some false
      else
        some false
  else
    some false := by kernel_rfl
noncomputable def saturatelaw13_RangesBounds.g (fu : Nat) (a0 : Int) (a1 : Int × Int) (a2 : Int × Int) : Option (Bool) :=
  (ranges_Meet.f a0 (a1.1, a1.2) (a2.1, a2.2)).bind fun r1 =>
  (ranges_Join.f a0 (a1.1, a1.2) (a2.1, a2.2)).bind fun r2 =>
  (ranges_Leq.f a0 (a1.1, a1.2) (r2.1, r2.2)).bind fun r3 =>
  bif (!r3) then
    some false
  else
    (ranges_Leq.f a0 (a2.1, a2.2) (r2.1, r2.2)).bind fun r4 =>
    bif (!r4) then
      some false
    else
      (ranges_Valid.f a0 (r2.1, r2.2)).bind fun r5 =>
      bif (!r5) then
        some false
      else
        (ranges_Valid.f a0 (r1.1.1, r1.1.2)).bind fun r6 =>
        bif (!r6) then
          some false
        else
          bif r1.2 then
            (ranges_Leq.f a0 (r1.1.1, r1.1.2) (a1.1, a1.2)).bind fun r7 =>
            bif (!r7) then
              some false
            else
              (ranges_Leq.f a0 (r1.1.1, r1.1.2) (a2.1, a2.2)).bind fun r8 =>
              bif (!r8) then
                some false
              else
                saturatelaw13_RangesBounds.p7 fu fu a0 r1.2 a1.1 a1.2 a2.1 a2.2 r1.1.1 r1.1.2 r2.1 r2.2
          else
            saturatelaw13_RangesBounds.p7 fu fu a0 r1.2 a1.1 a1.2 a2.1 a2.2 r1.1.1 r1.1.2 r2.1 r2.2
noncomputable def saturatelaw13_RangesBounds.f (a0 : Int) (a1 : Int × Int) (a2 : Int × Int) : Option (Bool) := saturatelaw13_RangesBounds.g (fuel0 + 1) a0 a1 a2
theorem saturatelaw13_RangesBounds.eq (fu : Nat) (a : Int × (Int × Int) × (Int × Int) × Unit) : bodyK Try.prog saturatelaw13_RangesBounds.cs saturatelaw13_RangesBounds.live fu Try.f7 (saturatelaw13_RangesBounds.a.enc a) saturatelaw13_RangesBounds.r.dec = saturatelaw13_RangesBounds.g fu a.1 a.2.1 a.2.2.1 := by kernel_rfl
theorem saturatelaw13_RangesBounds.con : ∀ (a : Int × (Int × Int) × (Int × Int) × Unit) (r : Bool), saturatelaw13_RangesBounds.f a.1 a.2.1 a.2.2.1 = some r → Contract Try.prog 7 (saturatelaw13_RangesBounds.a.enc a) (saturatelaw13_RangesBounds.r.enc r) := Contract.of_body (F := fun (a : Int × (Int × Int) × (Int × Int) × Unit) => saturatelaw13_RangesBounds.f a.1 a.2.1 a.2.2.1) (fn := Try.f7) (cs := saturatelaw13_RangesBounds.cs) (live := saturatelaw13_RangesBounds.live) (fuel := fuel0 + 1) (by kernel_rfl) (by kernel_rfl) mixed (saturatelaw13_RangesBounds.eq (fuel0 + 1))
noncomputable def saturatelaw13_RangesBounds.c : Kn Try.prog := Kn.of 7 saturatelaw13_RangesBounds.a saturatelaw13_RangesBounds.r (fun a => saturatelaw13_RangesBounds.f a.1 a.2.1 a.2.2.1) saturatelaw13_RangesBounds.con

/-! ### saturatelaw13_RangesLeast: function 8 -/
def saturatelaw13_RangesLeast.a : ACods (Int × (Int × Int × Int × Int × Int × Int) × Int × Unit) := (.cons (.val (.int .i64)) (.cons (.val (.agg (.cons (.int .u64) (.cons (.int .u64) (.cons (.int .u64) (.cons (.int .u64) (.cons (.int .u64) (.one (.int .u64))))))))) (.cons (.val (.int .u64)) .nil)))
def saturatelaw13_RangesLeast.r : RCod (Bool) := .val (.bool)
noncomputable def saturatelaw13_RangesLeast.cs : List (Kn Try.prog) := [ranges_Meet.c, ranges_Leq.c, ranges_Join.c, ranges_Has.c, saturatelaw13_lives.c]
def saturatelaw13_RangesLeast.live : Nat → Option Keep := liveOf [(10, ⟨[0, 2, 7, 8, 9, 10, 11], [7, 8, 9, 10], []⟩), (14, ⟨[0, 2, 7, 8, 10, 11], [7, 8, 10], []⟩)]
noncomputable def saturatelaw13_RangesLeast.body : Code := bodyOf Try.f8
noncomputable def saturatelaw13_RangesLeast.K (fu : Nat) : Code → St → (Ex → St → Option (Bool)) → Option (Bool) := codeK Try.prog saturatelaw13_RangesLeast.cs saturatelaw13_RangesLeast.live fu
noncomputable def saturatelaw13_RangesLeast.p5 (m fu : Nat) (x0 : Int) (x2 : Int) (x11 : Bool) (c7_0 : Int) (c7_1 : Int) (c8_0 : Int) (c8_1 : Int) (c9_0 : Int) (c9_1 : Int) (c10_0 : Int) (c10_1 : Int) : Option Bool :=
  joinK m (saturatelaw13_RangesLeast.K fu (sub saturatelaw13_RangesLeast.body [true, true, true, true])) (stOf 89 [(0, .val (.int .i64 x0)), (2, .val (.int .u64 x2)), (7, .ptr 7 0 0 0), (8, .ptr 8 0 0 0), (9, .ptr 9 0 0 0), (10, .ptr 10 0 0 0), (11, .val (.bool x11))] [(7, .own [.val (.int .u64 c7_0), .val (.int .u64 c7_1)]), (8, .own [.val (.int .u64 c8_0), .val (.int .u64 c8_1)]), (9, .own [.val (.int .u64 c9_0), .val (.int .u64 c9_1)]), (10, .own [.val (.int .u64 c10_0), .val (.int .u64 c10_1)])]) (retC Try.prog Try.f8.results saturatelaw13_RangesLeast.r.dec)
noncomputable def saturatelaw13_RangesLeast.p7 (m fu : Nat) (x0 : Int) (x2 : Int) (x11 : Bool) (c7_0 : Int) (c7_1 : Int) (c8_0 : Int) (c8_1 : Int) (c10_0 : Int) (c10_1 : Int) : Option Bool :=
  joinK m (saturatelaw13_RangesLeast.K fu (sub saturatelaw13_RangesLeast.body [true, true, true, true, true])) (stOf 89 [(0, .val (.int .i64 x0)), (2, .val (.int .u64 x2)), (7, .ptr 7 0 0 0), (8, .ptr 8 0 0 0), (10, .ptr 10 0 0 0), (11, .val (.bool x11))] [(7, .own [.val (.int .u64 c7_0), .val (.int .u64 c7_1)]), (8, .own [.val (.int .u64 c8_0), .val (.int .u64 c8_1)]), (10, .own [.val (.int .u64 c10_0), .val (.int .u64 c10_1)])]) (retC Try.prog Try.f8.results saturatelaw13_RangesLeast.r.dec)
theorem saturatelaw13_RangesLeast.p7_eq (m fu : Nat) (x0 : Int) (x2 : Int) (x11 : Bool) (c7_0 : Int) (c7_1 : Int) (c8_0 : Int) (c8_1 : Int) (c10_0 : Int) (c10_1 : Int) : saturatelaw13_RangesLeast.p7 (m + 1) fu x0 x2 x11 c7_0 c7_1 c8_0 c8_1 c10_0 c10_1 =
  (ranges_Has.f x0 (c7_0, c7_1) x2).bind fun r9 =>
  bif r9 then
    (ranges_Has.f x0 (c8_0, c8_1) x2).bind fun r10 =>
    bif x11 then
      (ranges_Has.f x0 (c10_0, c10_1) x2).bind fun r11 =>
      bif (r10 == r11) then
        (saturatelaw13_lives.f).bind fun r12 =>
        some r12
      else
        some false
    else
      bif (r10 == false) then
        (saturatelaw13_lives.f).bind fun r13 =>
        some r13
      else
        some false
  else
    bif x11 then
      (ranges_Has.f x0 (c10_0, c10_1) x2).bind fun r14 =>
      bif (false == r14) then
        (saturatelaw13_lives.f).bind fun r15 =>
        some r15
      else
        some false
    else
      (saturatelaw13_lives.f).bind fun r16 =>
      some r16 := by kernel_rfl
theorem saturatelaw13_RangesLeast.p5_eq (m fu : Nat) (x0 : Int) (x2 : Int) (x11 : Bool) (c7_0 : Int) (c7_1 : Int) (c8_0 : Int) (c8_1 : Int) (c9_0 : Int) (c9_1 : Int) (c10_0 : Int) (c10_1 : Int) : saturatelaw13_RangesLeast.p5 (m + 1) fu x0 x2 x11 c7_0 c7_1 c8_0 c8_1 c9_0 c9_1 c10_0 c10_1 =
  (ranges_Leq.f x0 (c9_0, c9_1) (c7_0, c7_1)).bind fun r6 =>
  bif r6 then
    (ranges_Leq.f x0 (c9_0, c9_1) (c8_0, c8_1)).bind fun r7 =>
    bif r7 then
      bif (!x11) then
        some false
      else
        (ranges_Leq.f x0 (c9_0, c9_1) (c10_0, c10_1)).bind fun r8 =>
        bif (!r8) then
          some false
        else
          saturatelaw13_RangesLeast.p7 fu fu x0 x2 x11 c7_0 c7_1 c8_0 c8_1 c10_0 c10_1
    else
      saturatelaw13_RangesLeast.p7 fu fu x0 x2 x11 c7_0 c7_1 c8_0 c8_1 c10_0 c10_1
  else
    saturatelaw13_RangesLeast.p7 fu fu x0 x2 x11 c7_0 c7_1 c8_0 c8_1 c10_0 c10_1 := by kernel_rfl
noncomputable def saturatelaw13_RangesLeast.g (fu : Nat) (a0 : Int) (a1 : Int × Int × Int × Int × Int × Int) (a2 : Int) : Option (Bool) :=
  (ranges_Meet.f a0 (a1.1, a1.2.1) (a1.2.2.1, a1.2.2.2.1)).bind fun r1 =>
  (ranges_Leq.f a0 (a1.1, a1.2.1) (a1.2.2.2.2.1, a1.2.2.2.2.2)).bind fun r2 =>
  bif r2 then
    (ranges_Leq.f a0 (a1.2.2.1, a1.2.2.2.1) (a1.2.2.2.2.1, a1.2.2.2.2.2)).bind fun r3 =>
    bif r3 then
      (ranges_Join.f a0 (a1.1, a1.2.1) (a1.2.2.1, a1.2.2.2.1)).bind fun r4 =>
      (ranges_Leq.f a0 (r4.1, r4.2) (a1.2.2.2.2.1, a1.2.2.2.2.2)).bind fun r5 =>
      bif (!r5) then
        some false
      else
        saturatelaw13_RangesLeast.p5 fu fu a0 a2 r1.2 a1.1 a1.2.1 a1.2.2.1 a1.2.2.2.1 a1.2.2.2.2.1 a1.2.2.2.2.2 r1.1.1 r1.1.2
    else
      saturatelaw13_RangesLeast.p5 fu fu a0 a2 r1.2 a1.1 a1.2.1 a1.2.2.1 a1.2.2.2.1 a1.2.2.2.2.1 a1.2.2.2.2.2 r1.1.1 r1.1.2
  else
    saturatelaw13_RangesLeast.p5 fu fu a0 a2 r1.2 a1.1 a1.2.1 a1.2.2.1 a1.2.2.2.1 a1.2.2.2.2.1 a1.2.2.2.2.2 r1.1.1 r1.1.2
noncomputable def saturatelaw13_RangesLeast.f (a0 : Int) (a1 : Int × Int × Int × Int × Int × Int) (a2 : Int) : Option (Bool) := saturatelaw13_RangesLeast.g (fuel0 + 1) a0 a1 a2
theorem saturatelaw13_RangesLeast.eq (fu : Nat) (a : Int × (Int × Int × Int × Int × Int × Int) × Int × Unit) : bodyK Try.prog saturatelaw13_RangesLeast.cs saturatelaw13_RangesLeast.live fu Try.f8 (saturatelaw13_RangesLeast.a.enc a) saturatelaw13_RangesLeast.r.dec = saturatelaw13_RangesLeast.g fu a.1 a.2.1 a.2.2.1 := by kernel_rfl
theorem saturatelaw13_RangesLeast.con : ∀ (a : Int × (Int × Int × Int × Int × Int × Int) × Int × Unit) (r : Bool), saturatelaw13_RangesLeast.f a.1 a.2.1 a.2.2.1 = some r → Contract Try.prog 8 (saturatelaw13_RangesLeast.a.enc a) (saturatelaw13_RangesLeast.r.enc r) := Contract.of_body (F := fun (a : Int × (Int × Int × Int × Int × Int × Int) × Int × Unit) => saturatelaw13_RangesLeast.f a.1 a.2.1 a.2.2.1) (fn := Try.f8) (cs := saturatelaw13_RangesLeast.cs) (live := saturatelaw13_RangesLeast.live) (fuel := fuel0 + 1) (by kernel_rfl) (by kernel_rfl) mixed (saturatelaw13_RangesLeast.eq (fuel0 + 1))
noncomputable def saturatelaw13_RangesLeast.c : Kn Try.prog := Kn.of 8 saturatelaw13_RangesLeast.a saturatelaw13_RangesLeast.r (fun a => saturatelaw13_RangesLeast.f a.1 a.2.1 a.2.2.1) saturatelaw13_RangesLeast.con

/-! ### saturateref04_Is: function 95 -/
def saturateref04_Is.a : ACods (Int × (Nat × (Nat → Int)) × Unit) := (.cons (.val (.int .i64)) (.cons (.rows (.int1 .i64)) .nil))
def saturateref04_Is.r : RCod (Bool) := .val (.bool)
noncomputable def saturateref04_Is.cs : List (Kn Try.prog) := []
def saturateref04_Is.live : Nat → Option Keep := liveOf [(5, ⟨[0, 1, 7, 8], [1], []⟩)]
noncomputable def saturateref04_Is.body : Code := bodyOf Try.f95
noncomputable def saturateref04_Is.K (fu : Nat) : Code → St → (Ex → St → Option (Bool)) → Option (Bool) := codeK Try.prog saturateref04_Is.cs saturateref04_Is.live fu
noncomputable def saturateref04_Is.j2 (fu : Nat) (n2 : Nat) (x0 : Int) (x1n : Nat) (x7 : Int) (x8 : Int) (m1 : Nat) (g1_0 : Nat → Int) : Option Bool :=
  loopK (saturateref04_Is.K fu (sub saturateref04_Is.body [true, false, true, false, false])) (saturateref04_Is.live 5) n2 (stOf 18 [(0, .val (.int .i64 x0)), (1, .sl 1 1 x1n), (7, .val (.int .i64 x7)), (8, .val (.int .i64 x8))] [(1, .ext m1 [.int .i64 g1_0])]) (blockC 0 (seqC fu (saturateref04_Is.live 14) (saturateref04_Is.K fu (sub saturateref04_Is.body [true, true])) (retC Try.prog Try.f95.results saturateref04_Is.r.dec)))
theorem saturateref04_Is.j2_succ (fu : Nat) (n2 : Nat) (x0 : Int) (x1n : Nat) (x7 : Int) (x8 : Int) (m1 : Nat) (g1_0 : Nat → Int) : saturateref04_Is.j2 fu (n2 + 1) x0 x1n x7 x8 m1 g1_0 =
  bif (decide (x8 < x7)) then
    bif decide (0 ≤ x8) then
      bif decide (x8 < (x1n : Int)) then
        bif ((g1_0 x8.toNat) == x0) then
          some true
        else
          saturateref04_Is.j2 fu n2 x0 x1n x7 (IntKind.i64.wrap (x8 + 1)) m1 g1_0
      else
        none
    else
      none
  else
    some false := by kernel_rfl
noncomputable def saturateref04_Is.g (fu : Nat) (a0 : Int) (a1 : Nat × (Nat → Int)) : Option (Bool) :=
  saturateref04_Is.j2 fu fu a0 a1.1 (a1.1 : Int) 0 a1.1 a1.2
noncomputable def saturateref04_Is.f (a0 : Int) (a1 : Nat × (Nat → Int)) : Option (Bool) := saturateref04_Is.g (fuel0 + 1) a0 a1
theorem saturateref04_Is.eq (fu : Nat) (a : Int × (Nat × (Nat → Int)) × Unit) : bodyK Try.prog saturateref04_Is.cs saturateref04_Is.live fu Try.f95 (saturateref04_Is.a.enc a) saturateref04_Is.r.dec = saturateref04_Is.g fu a.1 a.2.1 := by kernel_rfl
theorem saturateref04_Is.con : ∀ (a : Int × (Nat × (Nat → Int)) × Unit) (r : Bool), saturateref04_Is.f a.1 a.2.1 = some r → Contract Try.prog 95 (saturateref04_Is.a.enc a) (saturateref04_Is.r.enc r) := Contract.of_body (F := fun (a : Int × (Nat × (Nat → Int)) × Unit) => saturateref04_Is.f a.1 a.2.1) (fn := Try.f95) (cs := saturateref04_Is.cs) (live := saturateref04_Is.live) (fuel := fuel0 + 1) (by kernel_rfl) (by kernel_rfl) mixed (saturateref04_Is.eq (fuel0 + 1))
noncomputable def saturateref04_Is.c : Kn Try.prog := Kn.of 95 saturateref04_Is.a saturateref04_Is.r (fun a => saturateref04_Is.f a.1 a.2.1) saturateref04_Is.con

/-! ### saturateref04_Leaf: function 92 -/
def saturateref04_Leaf.a : ACods (Int × Unit) := (.cons (.val (.int .i64)) .nil)
def saturateref04_Leaf.r : RCod (Bool) := .val (.bool)
noncomputable def saturateref04_Leaf.cs : List (Kn Try.prog) := [saturateref04_Is.c]
def saturateref04_Leaf.live : Nat → Option Keep := liveOf []
noncomputable def saturateref04_Leaf.body : Code := bodyOf Try.f92
noncomputable def saturateref04_Leaf.K (fu : Nat) : Code → St → (Ex → St → Option (Bool)) → Option (Bool) := codeK Try.prog saturateref04_Leaf.cs saturateref04_Leaf.live fu
noncomputable def saturateref04_Leaf.f (a0 : Int) : Option (Bool) :=
  (saturateref04_Is.f a0 (4, (fun i => [1, 2, 24, 25].getD i 0))).bind fun r1 =>
  some r1
theorem saturateref04_Leaf.eq (fu : Nat) (a : Int × Unit) : bodyK Try.prog saturateref04_Leaf.cs saturateref04_Leaf.live fu Try.f92 (saturateref04_Leaf.a.enc a) saturateref04_Leaf.r.dec = saturateref04_Leaf.f a.1 := by kernel_rfl
theorem saturateref04_Leaf.con : ∀ (a : Int × Unit) (r : Bool), saturateref04_Leaf.f a.1 = some r → Contract Try.prog 92 (saturateref04_Leaf.a.enc a) (saturateref04_Leaf.r.enc r) := Contract.of_body (F := fun (a : Int × Unit) => saturateref04_Leaf.f a.1) (fn := Try.f92) (cs := saturateref04_Leaf.cs) (live := saturateref04_Leaf.live) (fuel := fuel0 + 1) (by kernel_rfl) (by kernel_rfl) mixed (saturateref04_Leaf.eq (fuel0 + 1))
noncomputable def saturateref04_Leaf.c : Kn Try.prog := Kn.of 92 saturateref04_Leaf.a saturateref04_Leaf.r (fun a => saturateref04_Leaf.f a.1) saturateref04_Leaf.con

/-! ### saturateref04_Arity: function 90 -/
def saturateref04_Arity.a : ACods (Int × Unit) := (.cons (.val (.int .i64)) .nil)
def saturateref04_Arity.r : RCod (Int) := .val (.int .i64)
noncomputable def saturateref04_Arity.cs : List (Kn Try.prog) := [saturateref04_Leaf.c, saturateref04_Is.c]
def saturateref04_Arity.live : Nat → Option Keep := liveOf []
noncomputable def saturateref04_Arity.body : Code := bodyOf Try.f90
noncomputable def saturateref04_Arity.K (fu : Nat) : Code → St → (Ex → St → Option (Int)) → Option (Int) := codeK Try.prog saturateref04_Arity.cs saturateref04_Arity.live fu
noncomputable def saturateref04_Arity.f (a0 : Int) : Option (Int) :=
  bif (decide (a0 < 1)) then
    some (-1)
  else
    bif (decide (a0 > 26)) then
      some (-1)
    else
      (saturateref04_Leaf.f a0).bind fun r1 =>
      bif r1 then
        some 0
      else
        (saturateref04_Is.f a0 (6, (fun i => [3, 4, 21, 22, 23, 26].getD i 0))).bind fun r2 =>
        bif r2 then
          some 1
        else
          bif (a0 == 19) then
            some 3
          else
            some 2
theorem saturateref04_Arity.eq (fu : Nat) (a : Int × Unit) : bodyK Try.prog saturateref04_Arity.cs saturateref04_Arity.live fu Try.f90 (saturateref04_Arity.a.enc a) saturateref04_Arity.r.dec = saturateref04_Arity.f a.1 := by kernel_rfl
theorem saturateref04_Arity.con : ∀ (a : Int × Unit) (r : Int), saturateref04_Arity.f a.1 = some r → Contract Try.prog 90 (saturateref04_Arity.a.enc a) (saturateref04_Arity.r.enc r) := Contract.of_body (F := fun (a : Int × Unit) => saturateref04_Arity.f a.1) (fn := Try.f90) (cs := saturateref04_Arity.cs) (live := saturateref04_Arity.live) (fuel := fuel0 + 1) (by kernel_rfl) (by kernel_rfl) mixed (saturateref04_Arity.eq (fuel0 + 1))
noncomputable def saturateref04_Arity.c : Kn Try.prog := Kn.of 90 saturateref04_Arity.a saturateref04_Arity.r (fun a => saturateref04_Arity.f a.1) saturateref04_Arity.con

/-! ### saturateref04_width: function 91 -/
def saturateref04_width.a : ACods (Int × Unit) := (.cons (.val (.int .i64)) .nil)
def saturateref04_width.r : RCod (Bool) := .val (.bool)
noncomputable def saturateref04_width.cs : List (Kn Try.prog) := []
def saturateref04_width.live : Nat → Option Keep := liveOf []
noncomputable def saturateref04_width.body : Code := bodyOf Try.f91
noncomputable def saturateref04_width.K (fu : Nat) : Code → St → (Ex → St → Option (Bool)) → Option (Bool) := codeK Try.prog saturateref04_width.cs saturateref04_width.live fu
noncomputable def saturateref04_width.f (a0 : Int) : Option (Bool) :=
  bif (decide (a0 ≥ 0)) then
    some (decide (a0 ≤ 64))
  else
    some false
theorem saturateref04_width.eq (fu : Nat) (a : Int × Unit) : bodyK Try.prog saturateref04_width.cs saturateref04_width.live fu Try.f91 (saturateref04_width.a.enc a) saturateref04_width.r.dec = saturateref04_width.f a.1 := by kernel_rfl
theorem saturateref04_width.con : ∀ (a : Int × Unit) (r : Bool), saturateref04_width.f a.1 = some r → Contract Try.prog 91 (saturateref04_width.a.enc a) (saturateref04_width.r.enc r) := Contract.of_body (F := fun (a : Int × Unit) => saturateref04_width.f a.1) (fn := Try.f91) (cs := saturateref04_width.cs) (live := saturateref04_width.live) (fuel := fuel0 + 1) (by kernel_rfl) (by kernel_rfl) mixed (saturateref04_width.eq (fuel0 + 1))
noncomputable def saturateref04_width.c : Kn Try.prog := Kn.of 91 saturateref04_width.a saturateref04_width.r (fun a => saturateref04_width.f a.1) saturateref04_width.con

/-! ### saturateref04_leaf: function 93 -/
def saturateref04_leaf.a : ACods (Int × Int × Int × Unit) := (.cons (.val (.int .i64)) (.cons (.val (.int .i64)) (.cons (.val (.int .u64)) .nil)))
def saturateref04_leaf.r : RCod (Int × Int) := .val (.tup (.cons (.int .i64) (.one (.int .i64))))
noncomputable def saturateref04_leaf.cs : List (Kn Try.prog) := [saturateref04_width.c]
def saturateref04_leaf.live : Nat → Option Keep := liveOf [(6, ⟨[1], [], []⟩)]
noncomputable def saturateref04_leaf.body : Code := bodyOf Try.f93
noncomputable def saturateref04_leaf.K (fu : Nat) : Code → St → (Ex → St → Option (Int × Int)) → Option (Int × Int) := codeK Try.prog saturateref04_leaf.cs saturateref04_leaf.live fu
noncomputable def saturateref04_leaf.p3 (m fu : Nat) (x1 : Int) : Option (Int × Int) :=
  joinK m (saturateref04_leaf.K fu (sub saturateref04_leaf.body [true, true])) (stOf 31 [(1, .val (.int .i64 x1))] []) (retC Try.prog Try.f93.results saturateref04_leaf.r.dec)
theorem saturateref04_leaf.p3_eq (m fu : Nat) (x1 : Int) : saturateref04_leaf.p3 (m + 1) fu x1 =
  some (x1, 0) := by kernel_rfl
noncomputable def saturateref04_leaf.g (fu : Nat) (a0 : Int) (a1 : Int) (a2 : Int) : Option (Int × Int) :=
  (saturateref04_width.f a1).bind fun r1 =>
  bif (!r1) then
    some (0, 3)
  else
    bif (a0 == 2) then
      bif (decide (a1 > 0)) then
        bif (decide (a1 < 64)) then
          bif decide ((IntKind.u64.wrap a1) < 0) then
            none
          else
            bif (decide (a2 ≥ (shl .u64 1 (IntKind.u64.wrap a1)))) then
              some (0, 3)
            else
              saturateref04_leaf.p3 fu fu a1
        else
          saturateref04_leaf.p3 fu fu a1
      else
        saturateref04_leaf.p3 fu fu a1
    else
      saturateref04_leaf.p3 fu fu a1
noncomputable def saturateref04_leaf.f (a0 : Int) (a1 : Int) (a2 : Int) : Option (Int × Int) := saturateref04_leaf.g (fuel0 + 1) a0 a1 a2
theorem saturateref04_leaf.eq (fu : Nat) (a : Int × Int × Int × Unit) : bodyK Try.prog saturateref04_leaf.cs saturateref04_leaf.live fu Try.f93 (saturateref04_leaf.a.enc a) saturateref04_leaf.r.dec = saturateref04_leaf.g fu a.1 a.2.1 a.2.2.1 := by kernel_rfl
theorem saturateref04_leaf.con : ∀ (a : Int × Int × Int × Unit) (r : Int × Int), saturateref04_leaf.f a.1 a.2.1 a.2.2.1 = some r → Contract Try.prog 93 (saturateref04_leaf.a.enc a) (saturateref04_leaf.r.enc r) := Contract.of_body (F := fun (a : Int × Int × Int × Unit) => saturateref04_leaf.f a.1 a.2.1 a.2.2.1) (fn := Try.f93) (cs := saturateref04_leaf.cs) (live := saturateref04_leaf.live) (fuel := fuel0 + 1) (by kernel_rfl) (by kernel_rfl) mixed (saturateref04_leaf.eq (fuel0 + 1))
noncomputable def saturateref04_leaf.c : Kn Try.prog := Kn.of 93 saturateref04_leaf.a saturateref04_leaf.r (fun a => saturateref04_leaf.f a.1 a.2.1 a.2.2.1) saturateref04_leaf.con

/-! ### saturateref04_parts: function 94 -/
def saturateref04_parts.a : ACods (Int × Int × Int × Int × Unit) := (.cons (.val (.int .i64)) (.cons (.val (.int .i64)) (.cons (.val (.int .u64)) (.cons (.val (.int .i64)) .nil))))
def saturateref04_parts.r : RCod (Int × Int) := .val (.tup (.cons (.int .i64) (.one (.int .i64))))
noncomputable def saturateref04_parts.cs : List (Kn Try.prog) := [saturateref04_width.c]
def saturateref04_parts.live : Nat → Option Keep := liveOf [(10, ⟨[1], [], []⟩)]
noncomputable def saturateref04_parts.body : Code := bodyOf Try.f94
noncomputable def saturateref04_parts.K (fu : Nat) : Code → St → (Ex → St → Option (Int × Int)) → Option (Int × Int) := codeK Try.prog saturateref04_parts.cs saturateref04_parts.live fu
noncomputable def saturateref04_parts.p5 (m fu : Nat) (x1 : Int) : Option (Int × Int) :=
  joinK m (saturateref04_parts.K fu (sub saturateref04_parts.body [true, true, true])) (stOf 46 [(1, .val (.int .i64 x1))] []) (retC Try.prog Try.f94.results saturateref04_parts.r.dec)
theorem saturateref04_parts.p5_eq (m fu : Nat) (x1 : Int) : saturateref04_parts.p5 (m + 1) fu x1 =
  some (x1, 0) := by kernel_rfl
noncomputable def saturateref04_parts.g (fu : Nat) (a0 : Int) (a1 : Int) (a2 : Int) (a3 : Int) : Option (Int × Int) :=
  (saturateref04_width.f a1).bind fun r1 =>
  bif (!r1) then
    some (0, 3)
  else
    bif (decide (a1 < 1)) then
      some (0, 3)
    else
      bif (decide (a3 < 1)) then
        some (0, 3)
      else
        bif (a0 == 21) then
          bif (decide (a1 > a3)) then
            some (0, 3)
          else
            bif (decide (a2 > (IntKind.u64.wrap (IntKind.i64.wrap (a3 - a1))))) then
              some (0, 3)
            else
              bif (a0 != 21) then
                bif (decide (a1 < a3)) then
                  some (0, 3)
                else
                  saturateref04_parts.p5 fu fu a1
              else
                saturateref04_parts.p5 fu fu a1
        else
          bif (a0 != 21) then
            bif (decide (a1 < a3)) then
              some (0, 3)
            else
              saturateref04_parts.p5 fu fu a1
          else
            saturateref04_parts.p5 fu fu a1
noncomputable def saturateref04_parts.f (a0 : Int) (a1 : Int) (a2 : Int) (a3 : Int) : Option (Int × Int) := saturateref04_parts.g (fuel0 + 1) a0 a1 a2 a3
theorem saturateref04_parts.eq (fu : Nat) (a : Int × Int × Int × Int × Unit) : bodyK Try.prog saturateref04_parts.cs saturateref04_parts.live fu Try.f94 (saturateref04_parts.a.enc a) saturateref04_parts.r.dec = saturateref04_parts.g fu a.1 a.2.1 a.2.2.1 a.2.2.2.1 := by kernel_rfl
theorem saturateref04_parts.con : ∀ (a : Int × Int × Int × Int × Unit) (r : Int × Int), saturateref04_parts.f a.1 a.2.1 a.2.2.1 a.2.2.2.1 = some r → Contract Try.prog 94 (saturateref04_parts.a.enc a) (saturateref04_parts.r.enc r) := Contract.of_body (F := fun (a : Int × Int × Int × Int × Unit) => saturateref04_parts.f a.1 a.2.1 a.2.2.1 a.2.2.2.1) (fn := Try.f94) (cs := saturateref04_parts.cs) (live := saturateref04_parts.live) (fuel := fuel0 + 1) (by kernel_rfl) (by kernel_rfl) mixed (saturateref04_parts.eq (fuel0 + 1))
noncomputable def saturateref04_parts.c : Kn Try.prog := Kn.of 94 saturateref04_parts.a saturateref04_parts.r (fun a => saturateref04_parts.f a.1 a.2.1 a.2.2.1 a.2.2.2.1) saturateref04_parts.con
end Go.Proofs.Ytchahcaccneinaa.Fn
