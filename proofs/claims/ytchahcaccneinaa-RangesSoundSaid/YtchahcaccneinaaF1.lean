/- What the functions return, as the evaluator tells it: written by a program of this workplace (mev.py); Lean checks each equation. -/
import Derived.Test.YtchahcaccneinaaProg
import Derived.Test.YtchahcaccneinaaEvC
import Derived.Test.YtchahcaccneinaaF0
namespace Go.Proofs.Ytchahcaccneinaa.Fn
open Go Go.RowKit Go.Proofs.Ytchahcaccneinaa.Ev Go.Proofs
set_option linter.unusedVariables false
set_option maxRecDepth 100000
/-! ### ranges_binary: function 36 -/
def ranges_binary.a : ACods (Int × Int × Int × (Int × Int) × (Int × Int) × Unit) := (.cons (.val (.int .i64)) (.cons (.val (.int .i64)) (.cons (.val (.int .i64)) (.cons (.val (.agg (.cons (.int .u64) (.one (.int .u64))))) (.cons (.val (.agg (.cons (.int .u64) (.one (.int .u64))))) .nil)))))
def ranges_binary.r : RCod (Int × Int) := .val (.agg (.cons (.int .u64) (.one (.int .u64))))
noncomputable def ranges_binary.cs : List (Kn Try.prog) := [ranges_Fill.c, ranges_sum.c, ranges_difference.c, ranges_product.c, ranges_quotient.c, ranges_remainder.c, ranges_shift.c, bits_Concat.c, ranges_compare.c]
def ranges_binary.live : Nat → Option Keep := liveOf []
noncomputable def ranges_binary.body : Code := bodyOf Try.f36
noncomputable def ranges_binary.K (fu : Nat) : Code → St → (Ex → St → Option (Int × Int)) → Option (Int × Int) := codeK Try.prog ranges_binary.cs ranges_binary.live fu
noncomputable def ranges_binary.f (a0 : Int) (a1 : Int) (a2 : Int) (a3 : Int × Int) (a4 : Int × Int) : Option (Int × Int) :=
  bif (a0 == 5) then
    some (0, (mn a3.2 a4.2))
  else
    bif (a0 == 6) then
      (ranges_Fill.f (Go.bits .or .u64 a3.2 a4.2)).bind fun r1 =>
      some ((mx a3.1 a4.1), r1)
    else
      bif (a0 == 7) then
        (ranges_Fill.f (Go.bits .or .u64 a3.2 a4.2)).bind fun r2 =>
        some (0, r2)
      else
        bif (a0 == 8) then
          (ranges_sum.f a1 (a3.1, a3.2) (a4.1, a4.2)).bind fun r3 =>
          some (r3.1, r3.2)
        else
          bif (a0 == 9) then
            (ranges_difference.f a1 (a3.1, a3.2) (a4.1, a4.2)).bind fun r4 =>
            some (r4.1, r4.2)
          else
            bif (a0 == 10) then
              (ranges_product.f a1 (a3.1, a3.2) (a4.1, a4.2)).bind fun r5 =>
              some (r5.1, r5.2)
            else
              bif (a0 == 11) then
                (ranges_quotient.f a1 (a3.1, a3.2) (a4.1, a4.2)).bind fun r6 =>
                some (r6.1, r6.2)
              else
                bif (a0 == 12) then
                  (ranges_remainder.f (a3.1, a3.2) (a4.1, a4.2)).bind fun r7 =>
                  some (r7.1, r7.2)
                else
                  bif (a0 == 13) then
                    (ranges_shift.f a0 a1 (a3.1, a3.2) (a4.1, a4.2)).bind fun r8 =>
                    some (r8.1, r8.2)
                  else
                    bif (a0 == 14) then
                      (ranges_shift.f a0 a1 (a3.1, a3.2) (a4.1, a4.2)).bind fun r9 =>
                      some (r9.1, r9.2)
                    else
                      bif (a0 == 15) then
                        (ranges_shift.f a0 a1 (a3.1, a3.2) (a4.1, a4.2)).bind fun r10 =>
                        some (r10.1, r10.2)
                      else
                        bif (a0 == 20) then
                          (bits_Concat.f a1 a2 a3.1 a4.1).bind fun r11 =>
                          (bits_Concat.f a1 a2 a3.2 a4.2).bind fun r12 =>
                          some (r11, r12)
                        else
                          (ranges_compare.f a0 a1 (a3.1, a3.2) (a4.1, a4.2)).bind fun r13 =>
                          some (r13.1, r13.2)
theorem ranges_binary.eq (fu : Nat) (a : Int × Int × Int × (Int × Int) × (Int × Int) × Unit) : bodyK Try.prog ranges_binary.cs ranges_binary.live fu Try.f36 (ranges_binary.a.enc a) ranges_binary.r.dec = ranges_binary.f a.1 a.2.1 a.2.2.1 a.2.2.2.1 a.2.2.2.2.1 := by kernel_rfl
theorem ranges_binary.con : ∀ (a : Int × Int × Int × (Int × Int) × (Int × Int) × Unit) (r : Int × Int), ranges_binary.f a.1 a.2.1 a.2.2.1 a.2.2.2.1 a.2.2.2.2.1 = some r → Contract Try.prog 36 (ranges_binary.a.enc a) (ranges_binary.r.enc r) := Contract.of_body (F := fun (a : Int × Int × Int × (Int × Int) × (Int × Int) × Unit) => ranges_binary.f a.1 a.2.1 a.2.2.1 a.2.2.2.1 a.2.2.2.2.1) (fn := Try.f36) (cs := ranges_binary.cs) (live := ranges_binary.live) (fuel := fuel0 + 1) (by kernel_rfl) (by kernel_rfl) mixed (ranges_binary.eq (fuel0 + 1))
noncomputable def ranges_binary.c : Kn Try.prog := Kn.of 36 ranges_binary.a ranges_binary.r (fun a => ranges_binary.f a.1 a.2.1 a.2.2.1 a.2.2.2.1 a.2.2.2.2.1) ranges_binary.con

/-! ### ranges_Join: function 29 -/
def ranges_Join.a : ACods (Int × (Int × Int) × (Int × Int) × Unit) := (.cons (.val (.int .i64)) (.cons (.val (.agg (.cons (.int .u64) (.one (.int .u64))))) (.cons (.val (.agg (.cons (.int .u64) (.one (.int .u64))))) .nil)))
def ranges_Join.r : RCod (Int × Int) := .val (.agg (.cons (.int .u64) (.one (.int .u64))))
noncomputable def ranges_Join.cs : List (Kn Try.prog) := [ranges_norm.c]
def ranges_Join.live : Nat → Option Keep := liveOf []
noncomputable def ranges_Join.body : Code := bodyOf Try.f29
noncomputable def ranges_Join.K (fu : Nat) : Code → St → (Ex → St → Option (Int × Int)) → Option (Int × Int) := codeK Try.prog ranges_Join.cs ranges_Join.live fu
noncomputable def ranges_Join.f (a0 : Int) (a1 : Int × Int) (a2 : Int × Int) : Option (Int × Int) :=
  (ranges_norm.f a0 (a1.1, a1.2)).bind fun r1 =>
  (ranges_norm.f a0 (a2.1, a2.2)).bind fun r2 =>
  some ((mn r1.1 r2.1), (mx r1.2 r2.2))
theorem ranges_Join.eq (fu : Nat) (a : Int × (Int × Int) × (Int × Int) × Unit) : bodyK Try.prog ranges_Join.cs ranges_Join.live fu Try.f29 (ranges_Join.a.enc a) ranges_Join.r.dec = ranges_Join.f a.1 a.2.1 a.2.2.1 := by kernel_rfl
theorem ranges_Join.con : ∀ (a : Int × (Int × Int) × (Int × Int) × Unit) (r : Int × Int), ranges_Join.f a.1 a.2.1 a.2.2.1 = some r → Contract Try.prog 29 (ranges_Join.a.enc a) (ranges_Join.r.enc r) := Contract.of_body (F := fun (a : Int × (Int × Int) × (Int × Int) × Unit) => ranges_Join.f a.1 a.2.1 a.2.2.1) (fn := Try.f29) (cs := ranges_Join.cs) (live := ranges_Join.live) (fuel := fuel0 + 1) (by kernel_rfl) (by kernel_rfl) mixed (ranges_Join.eq (fuel0 + 1))
noncomputable def ranges_Join.c : Kn Try.prog := Kn.of 29 ranges_Join.a ranges_Join.r (fun a => ranges_Join.f a.1 a.2.1 a.2.2.1) ranges_Join.con

/-! ### ranges_Apply: function 9 -/
def ranges_Apply.a : ACods (Int × Int × Int × (Nat × (Nat → Int)) × (Nat × (Nat → Int) × (Nat → Int)) × Unit) := (.cons (.val (.int .i64)) (.cons (.val (.int .i64)) (.cons (.val (.int .u64)) (.cons (.rows (.int1 .i64)) (.cons (.rows (.int .u64 (.int1 .u64))) .nil)))))
def ranges_Apply.r : RCod ((Int × Int) × Int) := .val (.tup (.cons (.agg (.cons (.int .u64) (.one (.int .u64)))) (.one (.int .i64))))
noncomputable def ranges_Apply.cs : List (Kn Try.prog) := [ranges_check.c, ranges_norm.c, ranges_Const.c, ranges_Top.c, ranges_unary.c, ranges_binary.c, ranges_single.c, ranges_Join.c]
def ranges_Apply.live : Nat → Option Keep := liveOf [(13, ⟨[0, 2, 3, 10, 12, 14, 30, 31, 32], [3, 4, 10, 14], [(14, 29, [.int .u64 (fun _ => 0), .int .u64 (fun _ => 0)])]⟩)]
noncomputable def ranges_Apply.body : Code := bodyOf Try.f9
noncomputable def ranges_Apply.K (fu : Nat) : Code → St → (Ex → St → Option ((Int × Int) × Int)) → Option ((Int × Int) × Int) := codeK Try.prog ranges_Apply.cs ranges_Apply.live fu
noncomputable def ranges_Apply.j6 (fu : Nat) (n6 : Nat) (x0 : Int) (x2 : Int) (x3n : Nat) (x12 : Int) (x14n : Nat) (x30n : Nat) (x31 : Int) (x32 : Int) (m3 : Nat) (g3_0 : Nat → Int) (m4 : Nat) (g4_0 : Nat → Int) (g4_1 : Nat → Int) (c10_0 : Int) (c10_1 : Int) (m14 : Nat) (g14_0 : Nat → Int) (g14_1 : Nat → Int) : Option ((Int × Int) × Int) :=
  loopK (ranges_Apply.K fu (sub ranges_Apply.body [true, true, true, true, false, true, false, false])) (ranges_Apply.live 13) n6 (stOf 110 [(0, .val (.int .i64 x0)), (2, .val (.int .u64 x2)), (3, .sl 3 1 x3n), (10, .ptr 10 0 0 0), (12, .val (.int .i64 x12)), (14, .sl 14 2 x14n), (30, .sl 4 2 x30n), (31, .val (.int .i64 x31)), (32, .val (.int .i64 x32))] [(3, .ext m3 [.int .i64 g3_0]), (4, .ext m4 [.int .u64 g4_0, .int .u64 g4_1]), (10, .own [.val (.int .u64 c10_0), .val (.int .u64 c10_1)]), (14, .grow 29 m14 [.int .u64 g14_0, .int .u64 g14_1])]) (blockC 0 (seqC fu (ranges_Apply.live 20) (ranges_Apply.K fu (sub ranges_Apply.body [true, true, true, true, true])) (retC Try.prog Try.f9.results ranges_Apply.r.dec)))
theorem ranges_Apply.j6_succ (fu : Nat) (n6 : Nat) (x0 : Int) (x2 : Int) (x3n : Nat) (x12 : Int) (x14n : Nat) (x30n : Nat) (x31 : Int) (x32 : Int) (m3 : Nat) (g3_0 : Nat → Int) (m4 : Nat) (g4_0 : Nat → Int) (g4_1 : Nat → Int) (c10_0 : Int) (c10_1 : Int) (m14 : Nat) (g14_0 : Nat → Int) (g14_1 : Nat → Int) : ranges_Apply.j6 fu (n6 + 1) x0 x2 x3n x12 x14n x30n x31 x32 m3 g3_0 m4 g4_0 g4_1 c10_0 c10_1 m14 g14_0 g14_1 =
  bif (decide (x32 < x31)) then
    bif decide (0 ≤ x32) then
      bif decide (x32 < (x30n : Int)) then
        bif decide (0 ≤ x32) then
          bif decide (x32 < (x3n : Int)) then
            (ranges_norm.f (g3_0 x32.toNat) ((g4_0 x32.toNat), (g4_1 x32.toNat))).bind fun r2 =>
            bif Nat.ble ((x14n + 1) * 16) 140737488355328 then
              ranges_Apply.j6 fu n6 x0 x2 x3n x12 (x14n + 1) x30n x31 (IntKind.i64.wrap (x32 + 1)) m3 g3_0 m4 g4_0 g4_1 c10_0 c10_1 (x14n + 1) (cat x14n g14_0 (fun i => [r2.1].getD i 0)) (cat x14n g14_1 (fun i => [r2.2].getD i 0))
            else
              none
          else
            none
        else
          none
      else
        none
    else
      none
  else
    bif ((x14n : Int) == 0) then
      bif (x0 == 2) then
        (ranges_Const.f x12 x2).bind fun r3 =>
        some ((r3.1, r3.2), 0)
      else
        (ranges_Top.f x12).bind fun r4 =>
        some ((r4.1, r4.2), 0)
    else
      bif ((x14n : Int) == 1) then
        bif decide ((0 : Int) < (x3n : Int)) then
          bif decide ((0 : Int) < (x14n : Int)) then
            (ranges_unary.f x0 x12 x2 (g3_0 0) ((g14_0 0), (g14_1 0))).bind fun r5 =>
            some ((r5.1, r5.2), 0)
          else
            none
        else
          none
      else
        bif ((x14n : Int) == 2) then
          bif decide ((0 : Int) < (x3n : Int)) then
            bif decide ((1 : Int) < (x3n : Int)) then
              bif decide ((0 : Int) < (x14n : Int)) then
                bif decide ((1 : Int) < (x14n : Int)) then
                  (ranges_binary.f x0 (g3_0 0) (g3_0 1) ((g14_0 0), (g14_1 0)) ((g14_0 1), (g14_1 1))).bind fun r6 =>
                  some ((r6.1, r6.2), 0)
                else
                  none
              else
                none
            else
              none
          else
            none
        else
          bif decide ((0 : Int) < (x14n : Int)) then
            (ranges_single.f ((g14_0 0), (g14_1 0))).bind fun r7 =>
            bif (!r7) then
              bif decide ((1 : Int) < (x14n : Int)) then
                bif decide ((2 : Int) < (x14n : Int)) then
                  (ranges_Join.f x12 ((g14_0 1), (g14_1 1)) ((g14_0 2), (g14_1 2))).bind fun r8 =>
                  some ((r8.1, r8.2), 0)
                else
                  none
              else
                none
            else
              bif decide ((0 : Int) < (x14n : Int)) then
                bif ((g14_0 0) == 1) then
                  bif decide ((1 : Int) < (x14n : Int)) then
                    some (((g14_0 1), (g14_1 1)), 0)
                  else
                    none
                else
                  bif decide ((2 : Int) < (x14n : Int)) then
                    some (((g14_0 2), (g14_1 2)), 0)
                  else
                    none
              else
                none
          else
            none := by kernel_rfl
noncomputable def ranges_Apply.g (fu : Nat) (a0 : Int) (a1 : Int) (a2 : Int) (a3 : Nat × (Nat → Int)) (a4 : Nat × (Nat → Int) × (Nat → Int)) : Option ((Int × Int) × Int) :=
  (ranges_check.f a0 a1 a2 (a3.1, a3.2) (a4.1, a4.2.1, a4.2.2)).bind fun r1 =>
  bif (r1.2 != 0) then
    some ((0, 0), r1.2)
  else
    ranges_Apply.j6 fu fu a0 a2 a3.1 r1.1 0 a4.1 (a4.1 : Int) 0 a3.1 a3.2 a4.1 a4.2.1 a4.2.2 0 0 0 (fun _ => 0) (fun _ => 0)
noncomputable def ranges_Apply.f (a0 : Int) (a1 : Int) (a2 : Int) (a3 : Nat × (Nat → Int)) (a4 : Nat × (Nat → Int) × (Nat → Int)) : Option ((Int × Int) × Int) := ranges_Apply.g (fuel0 + 1) a0 a1 a2 a3 a4
theorem ranges_Apply.eq (fu : Nat) (a : Int × Int × Int × (Nat × (Nat → Int)) × (Nat × (Nat → Int) × (Nat → Int)) × Unit) : bodyK Try.prog ranges_Apply.cs ranges_Apply.live fu Try.f9 (ranges_Apply.a.enc a) ranges_Apply.r.dec = ranges_Apply.g fu a.1 a.2.1 a.2.2.1 a.2.2.2.1 a.2.2.2.2.1 := by kernel_rfl
theorem ranges_Apply.con : ∀ (a : Int × Int × Int × (Nat × (Nat → Int)) × (Nat × (Nat → Int) × (Nat → Int)) × Unit) (r : (Int × Int) × Int), ranges_Apply.f a.1 a.2.1 a.2.2.1 a.2.2.2.1 a.2.2.2.2.1 = some r → Contract Try.prog 9 (ranges_Apply.a.enc a) (ranges_Apply.r.enc r) := Contract.of_body (F := fun (a : Int × Int × Int × (Nat × (Nat → Int)) × (Nat × (Nat → Int) × (Nat → Int)) × Unit) => ranges_Apply.f a.1 a.2.1 a.2.2.1 a.2.2.2.1 a.2.2.2.2.1) (fn := Try.f9) (cs := ranges_Apply.cs) (live := ranges_Apply.live) (fuel := fuel0 + 1) (by kernel_rfl) (by kernel_rfl) mixed (ranges_Apply.eq (fuel0 + 1))
noncomputable def ranges_Apply.c : Kn Try.prog := Kn.of 9 ranges_Apply.a ranges_Apply.r (fun a => ranges_Apply.f a.1 a.2.1 a.2.2.1 a.2.2.2.1 a.2.2.2.2.1) ranges_Apply.con

/-! ### saturateref04_Is: function 95 -/
def saturateref04_Is.a : ACods (Int × (Nat × (Nat → Int)) × Unit) := (.cons (.val (.int .i64)) (.cons (.rows (.int1 .i64)) .nil))
def saturateref04_Is.r : RCod (Bool) := .val (.bool)
noncomputable def saturateref04_Is.cs : List (Kn Try.prog) := []
def saturateref04_Is.live : Nat → Option Keep := liveOf [(5, ⟨[0, 1, 7, 8], [1], []⟩)]
noncomputable def saturateref04_Is.body : Code := bodyOf Try.f95
noncomputable def saturateref04_Is.K (fu : Nat) : Code → St → (Ex → St → Option (Bool)) → Option (Bool) := codeK Try.prog saturateref04_Is.cs saturateref04_Is.live fu
noncomputable def saturateref04_Is.j2 (fu : Nat) (n2 : Nat) (x0 : Int) (x1n : Nat) (x7 : Int) (x8 : Int) (m1 : Nat) (g1_0 : Nat → Int) : Option Bool :=
  loopK (saturateref04_Is.K fu (sub saturateref04_Is.body [true, false, true, false, false])) (saturateref04_Is.live 5) n2 (stOf 18 [(0, .val (.int .i64 x0)), (1, .sl 1 1 x1n), (7, .val (.int .i64 x7)), (8, .val (.int .i64 x8))] [(1, .ext m1 [.int .i64 g1_0])]) (blockC 0 (seqC fu (saturateref04_Is.live 14) (saturateref04_Is.K fu (sub saturateref04_Is.body [true, true])) (retC Try.prog Try.f95.results saturateref04_Is.r.dec)))
theorem saturateref04_Is.j2_succ (fu : Nat) (n2 : Nat) (x0 : Int) (x1n : Nat) (x7 : Int) (x8 : Int) (m1 : Nat) (g1_0 : Nat → Int) : saturateref04_Is.j2 fu (n2 + 1) x0 x1n x7 x8 m1 g1_0 =
  bif (decide (x8 < x7)) then
    bif decide (0 ≤ x8) then
      bif decide (x8 < (x1n : Int)) then
        bif ((g1_0 x8.toNat) == x0) then
          some true
        else
          saturateref04_Is.j2 fu n2 x0 x1n x7 (IntKind.i64.wrap (x8 + 1)) m1 g1_0
      else
        none
    else
      none
  else
    some false := by kernel_rfl
noncomputable def saturateref04_Is.g (fu : Nat) (a0 : Int) (a1 : Nat × (Nat → Int)) : Option (Bool) :=
  saturateref04_Is.j2 fu fu a0 a1.1 (a1.1 : Int) 0 a1.1 a1.2
noncomputable def saturateref04_Is.f (a0 : Int) (a1 : Nat × (Nat → Int)) : Option (Bool) := saturateref04_Is.g (fuel0 + 1) a0 a1
theorem saturateref04_Is.eq (fu : Nat) (a : Int × (Nat × (Nat → Int)) × Unit) : bodyK Try.prog saturateref04_Is.cs saturateref04_Is.live fu Try.f95 (saturateref04_Is.a.enc a) saturateref04_Is.r.dec = saturateref04_Is.g fu a.1 a.2.1 := by kernel_rfl
theorem saturateref04_Is.con : ∀ (a : Int × (Nat × (Nat → Int)) × Unit) (r : Bool), saturateref04_Is.f a.1 a.2.1 = some r → Contract Try.prog 95 (saturateref04_Is.a.enc a) (saturateref04_Is.r.enc r) := Contract.of_body (F := fun (a : Int × (Nat × (Nat → Int)) × Unit) => saturateref04_Is.f a.1 a.2.1) (fn := Try.f95) (cs := saturateref04_Is.cs) (live := saturateref04_Is.live) (fuel := fuel0 + 1) (by kernel_rfl) (by kernel_rfl) mixed (saturateref04_Is.eq (fuel0 + 1))
noncomputable def saturateref04_Is.c : Kn Try.prog := Kn.of 95 saturateref04_Is.a saturateref04_Is.r (fun a => saturateref04_Is.f a.1 a.2.1) saturateref04_Is.con

/-! ### saturateref04_Leaf: function 92 -/
def saturateref04_Leaf.a : ACods (Int × Unit) := (.cons (.val (.int .i64)) .nil)
def saturateref04_Leaf.r : RCod (Bool) := .val (.bool)
noncomputable def saturateref04_Leaf.cs : List (Kn Try.prog) := [saturateref04_Is.c]
def saturateref04_Leaf.live : Nat → Option Keep := liveOf []
noncomputable def saturateref04_Leaf.body : Code := bodyOf Try.f92
noncomputable def saturateref04_Leaf.K (fu : Nat) : Code → St → (Ex → St → Option (Bool)) → Option (Bool) := codeK Try.prog saturateref04_Leaf.cs saturateref04_Leaf.live fu
noncomputable def saturateref04_Leaf.f (a0 : Int) : Option (Bool) :=
  (saturateref04_Is.f a0 (4, (fun i => [1, 2, 24, 25].getD i 0))).bind fun r1 =>
  some r1
theorem saturateref04_Leaf.eq (fu : Nat) (a : Int × Unit) : bodyK Try.prog saturateref04_Leaf.cs saturateref04_Leaf.live fu Try.f92 (saturateref04_Leaf.a.enc a) saturateref04_Leaf.r.dec = saturateref04_Leaf.f a.1 := by kernel_rfl
theorem saturateref04_Leaf.con : ∀ (a : Int × Unit) (r : Bool), saturateref04_Leaf.f a.1 = some r → Contract Try.prog 92 (saturateref04_Leaf.a.enc a) (saturateref04_Leaf.r.enc r) := Contract.of_body (F := fun (a : Int × Unit) => saturateref04_Leaf.f a.1) (fn := Try.f92) (cs := saturateref04_Leaf.cs) (live := saturateref04_Leaf.live) (fuel := fuel0 + 1) (by kernel_rfl) (by kernel_rfl) mixed (saturateref04_Leaf.eq (fuel0 + 1))
noncomputable def saturateref04_Leaf.c : Kn Try.prog := Kn.of 92 saturateref04_Leaf.a saturateref04_Leaf.r (fun a => saturateref04_Leaf.f a.1) saturateref04_Leaf.con

/-! ### saturateref04_Arity: function 90 -/
def saturateref04_Arity.a : ACods (Int × Unit) := (.cons (.val (.int .i64)) .nil)
def saturateref04_Arity.r : RCod (Int) := .val (.int .i64)
noncomputable def saturateref04_Arity.cs : List (Kn Try.prog) := [saturateref04_Leaf.c, saturateref04_Is.c]
def saturateref04_Arity.live : Nat → Option Keep := liveOf []
noncomputable def saturateref04_Arity.body : Code := bodyOf Try.f90
noncomputable def saturateref04_Arity.K (fu : Nat) : Code → St → (Ex → St → Option (Int)) → Option (Int) := codeK Try.prog saturateref04_Arity.cs saturateref04_Arity.live fu
noncomputable def saturateref04_Arity.f (a0 : Int) : Option (Int) :=
  bif (decide (a0 < 1)) then
    some (-1)
  else
    bif (decide (a0 > 26)) then
      some (-1)
    else
      (saturateref04_Leaf.f a0).bind fun r1 =>
      bif r1 then
        some 0
      else
        (saturateref04_Is.f a0 (6, (fun i => [3, 4, 21, 22, 23, 26].getD i 0))).bind fun r2 =>
        bif r2 then
          some 1
        else
          bif (a0 == 19) then
            some 3
          else
            some 2
theorem saturateref04_Arity.eq (fu : Nat) (a : Int × Unit) : bodyK Try.prog saturateref04_Arity.cs saturateref04_Arity.live fu Try.f90 (saturateref04_Arity.a.enc a) saturateref04_Arity.r.dec = saturateref04_Arity.f a.1 := by kernel_rfl
theorem saturateref04_Arity.con : ∀ (a : Int × Unit) (r : Int), saturateref04_Arity.f a.1 = some r → Contract Try.prog 90 (saturateref04_Arity.a.enc a) (saturateref04_Arity.r.enc r) := Contract.of_body (F := fun (a : Int × Unit) => saturateref04_Arity.f a.1) (fn := Try.f90) (cs := saturateref04_Arity.cs) (live := saturateref04_Arity.live) (fuel := fuel0 + 1) (by kernel_rfl) (by kernel_rfl) mixed (saturateref04_Arity.eq (fuel0 + 1))
noncomputable def saturateref04_Arity.c : Kn Try.prog := Kn.of 90 saturateref04_Arity.a saturateref04_Arity.r (fun a => saturateref04_Arity.f a.1) saturateref04_Arity.con

/-! ### saturateref04_width: function 91 -/
def saturateref04_width.a : ACods (Int × Unit) := (.cons (.val (.int .i64)) .nil)
def saturateref04_width.r : RCod (Bool) := .val (.bool)
noncomputable def saturateref04_width.cs : List (Kn Try.prog) := []
def saturateref04_width.live : Nat → Option Keep := liveOf []
noncomputable def saturateref04_width.body : Code := bodyOf Try.f91
noncomputable def saturateref04_width.K (fu : Nat) : Code → St → (Ex → St → Option (Bool)) → Option (Bool) := codeK Try.prog saturateref04_width.cs saturateref04_width.live fu
noncomputable def saturateref04_width.f (a0 : Int) : Option (Bool) :=
  bif (decide (a0 ≥ 0)) then
    some (decide (a0 ≤ 64))
  else
    some false
theorem saturateref04_width.eq (fu : Nat) (a : Int × Unit) : bodyK Try.prog saturateref04_width.cs saturateref04_width.live fu Try.f91 (saturateref04_width.a.enc a) saturateref04_width.r.dec = saturateref04_width.f a.1 := by kernel_rfl
theorem saturateref04_width.con : ∀ (a : Int × Unit) (r : Bool), saturateref04_width.f a.1 = some r → Contract Try.prog 91 (saturateref04_width.a.enc a) (saturateref04_width.r.enc r) := Contract.of_body (F := fun (a : Int × Unit) => saturateref04_width.f a.1) (fn := Try.f91) (cs := saturateref04_width.cs) (live := saturateref04_width.live) (fuel := fuel0 + 1) (by kernel_rfl) (by kernel_rfl) mixed (saturateref04_width.eq (fuel0 + 1))
noncomputable def saturateref04_width.c : Kn Try.prog := Kn.of 91 saturateref04_width.a saturateref04_width.r (fun a => saturateref04_width.f a.1) saturateref04_width.con

/-! ### saturateref04_leaf: function 93 -/
def saturateref04_leaf.a : ACods (Int × Int × Int × Unit) := (.cons (.val (.int .i64)) (.cons (.val (.int .i64)) (.cons (.val (.int .u64)) .nil)))
def saturateref04_leaf.r : RCod (Int × Int) := .val (.tup (.cons (.int .i64) (.one (.int .i64))))
noncomputable def saturateref04_leaf.cs : List (Kn Try.prog) := [saturateref04_width.c]
def saturateref04_leaf.live : Nat → Option Keep := liveOf [(6, ⟨[1], [], []⟩)]
noncomputable def saturateref04_leaf.body : Code := bodyOf Try.f93
noncomputable def saturateref04_leaf.K (fu : Nat) : Code → St → (Ex → St → Option (Int × Int)) → Option (Int × Int) := codeK Try.prog saturateref04_leaf.cs saturateref04_leaf.live fu
noncomputable def saturateref04_leaf.p3 (m fu : Nat) (x1 : Int) : Option (Int × Int) :=
  joinK m (saturateref04_leaf.K fu (sub saturateref04_leaf.body [true, true])) (stOf 31 [(1, .val (.int .i64 x1))] []) (retC Try.prog Try.f93.results saturateref04_leaf.r.dec)
theorem saturateref04_leaf.p3_eq (m fu : Nat) (x1 : Int) : saturateref04_leaf.p3 (m + 1) fu x1 =
  some (x1, 0) := by kernel_rfl
noncomputable def saturateref04_leaf.g (fu : Nat) (a0 : Int) (a1 : Int) (a2 : Int) : Option (Int × Int) :=
  (saturateref04_width.f a1).bind fun r1 =>
  bif (!r1) then
    some (0, 3)
  else
    bif (a0 == 2) then
      bif (decide (a1 > 0)) then
        bif (decide (a1 < 64)) then
          bif decide ((IntKind.u64.wrap a1) < 0) then
            none
          else
            bif (decide (a2 ≥ (shl .u64 1 (IntKind.u64.wrap a1)))) then
              some (0, 3)
            else
              saturateref04_leaf.p3 fu fu a1
        else
          saturateref04_leaf.p3 fu fu a1
      else
        saturateref04_leaf.p3 fu fu a1
    else
      saturateref04_leaf.p3 fu fu a1
noncomputable def saturateref04_leaf.f (a0 : Int) (a1 : Int) (a2 : Int) : Option (Int × Int) := saturateref04_leaf.g (fuel0 + 1) a0 a1 a2
theorem saturateref04_leaf.eq (fu : Nat) (a : Int × Int × Int × Unit) : bodyK Try.prog saturateref04_leaf.cs saturateref04_leaf.live fu Try.f93 (saturateref04_leaf.a.enc a) saturateref04_leaf.r.dec = saturateref04_leaf.g fu a.1 a.2.1 a.2.2.1 := by kernel_rfl
theorem saturateref04_leaf.con : ∀ (a : Int × Int × Int × Unit) (r : Int × Int), saturateref04_leaf.f a.1 a.2.1 a.2.2.1 = some r → Contract Try.prog 93 (saturateref04_leaf.a.enc a) (saturateref04_leaf.r.enc r) := Contract.of_body (F := fun (a : Int × Int × Int × Unit) => saturateref04_leaf.f a.1 a.2.1 a.2.2.1) (fn := Try.f93) (cs := saturateref04_leaf.cs) (live := saturateref04_leaf.live) (fuel := fuel0 + 1) (by kernel_rfl) (by kernel_rfl) mixed (saturateref04_leaf.eq (fuel0 + 1))
noncomputable def saturateref04_leaf.c : Kn Try.prog := Kn.of 93 saturateref04_leaf.a saturateref04_leaf.r (fun a => saturateref04_leaf.f a.1 a.2.1 a.2.2.1) saturateref04_leaf.con

/-! ### saturateref04_parts: function 94 -/
def saturateref04_parts.a : ACods (Int × Int × Int × Int × Unit) := (.cons (.val (.int .i64)) (.cons (.val (.int .i64)) (.cons (.val (.int .u64)) (.cons (.val (.int .i64)) .nil))))
def saturateref04_parts.r : RCod (Int × Int) := .val (.tup (.cons (.int .i64) (.one (.int .i64))))
noncomputable def saturateref04_parts.cs : List (Kn Try.prog) := [saturateref04_width.c]
def saturateref04_parts.live : Nat → Option Keep := liveOf [(10, ⟨[1], [], []⟩)]
noncomputable def saturateref04_parts.body : Code := bodyOf Try.f94
noncomputable def saturateref04_parts.K (fu : Nat) : Code → St → (Ex → St → Option (Int × Int)) → Option (Int × Int) := codeK Try.prog saturateref04_parts.cs saturateref04_parts.live fu
noncomputable def saturateref04_parts.p5 (m fu : Nat) (x1 : Int) : Option (Int × Int) :=
  joinK m (saturateref04_parts.K fu (sub saturateref04_parts.body [true, true, true])) (stOf 46 [(1, .val (.int .i64 x1))] []) (retC Try.prog Try.f94.results saturateref04_parts.r.dec)
theorem saturateref04_parts.p5_eq (m fu : Nat) (x1 : Int) : saturateref04_parts.p5 (m + 1) fu x1 =
  some (x1, 0) := by kernel_rfl
noncomputable def saturateref04_parts.g (fu : Nat) (a0 : Int) (a1 : Int) (a2 : Int) (a3 : Int) : Option (Int × Int) :=
  (saturateref04_width.f a1).bind fun r1 =>
  bif (!r1) then
    some (0, 3)
  else
    bif (decide (a1 < 1)) then
      some (0, 3)
    else
      bif (decide (a3 < 1)) then
        some (0, 3)
      else
        bif (a0 == 21) then
          bif (decide (a1 > a3)) then
            some (0, 3)
          else
            bif (decide (a2 > (IntKind.u64.wrap (IntKind.i64.wrap (a3 - a1))))) then
              some (0, 3)
            else
              bif (a0 != 21) then
                bif (decide (a1 < a3)) then
                  some (0, 3)
                else
                  saturateref04_parts.p5 fu fu a1
              else
                saturateref04_parts.p5 fu fu a1
        else
          bif (a0 != 21) then
            bif (decide (a1 < a3)) then
              some (0, 3)
            else
              saturateref04_parts.p5 fu fu a1
          else
            saturateref04_parts.p5 fu fu a1
noncomputable def saturateref04_parts.f (a0 : Int) (a1 : Int) (a2 : Int) (a3 : Int) : Option (Int × Int) := saturateref04_parts.g (fuel0 + 1) a0 a1 a2 a3
theorem saturateref04_parts.eq (fu : Nat) (a : Int × Int × Int × Int × Unit) : bodyK Try.prog saturateref04_parts.cs saturateref04_parts.live fu Try.f94 (saturateref04_parts.a.enc a) saturateref04_parts.r.dec = saturateref04_parts.g fu a.1 a.2.1 a.2.2.1 a.2.2.2.1 := by kernel_rfl
theorem saturateref04_parts.con : ∀ (a : Int × Int × Int × Int × Unit) (r : Int × Int), saturateref04_parts.f a.1 a.2.1 a.2.2.1 a.2.2.2.1 = some r → Contract Try.prog 94 (saturateref04_parts.a.enc a) (saturateref04_parts.r.enc r) := Contract.of_body (F := fun (a : Int × Int × Int × Int × Unit) => saturateref04_parts.f a.1 a.2.1 a.2.2.1 a.2.2.2.1) (fn := Try.f94) (cs := saturateref04_parts.cs) (live := saturateref04_parts.live) (fuel := fuel0 + 1) (by kernel_rfl) (by kernel_rfl) mixed (saturateref04_parts.eq (fuel0 + 1))
noncomputable def saturateref04_parts.c : Kn Try.prog := Kn.of 94 saturateref04_parts.a saturateref04_parts.r (fun a => saturateref04_parts.f a.1 a.2.1 a.2.2.1 a.2.2.2.1) saturateref04_parts.con

/-! ### saturateref04_Width: function 45 -/
def saturateref04_Width.a : ACods (Int × Int × Int × (Nat × (Nat → Int)) × Unit) := (.cons (.val (.int .i64)) (.cons (.val (.int .i64)) (.cons (.val (.int .u64)) (.cons (.rows (.int1 .i64)) .nil))))
def saturateref04_Width.r : RCod (Int × Int) := .val (.tup (.cons (.int .i64) (.one (.int .i64))))
noncomputable def saturateref04_Width.cs : List (Kn Try.prog) := [saturateref04_Arity.c, saturateref04_width.c, saturateref04_Leaf.c, saturateref04_leaf.c, saturateref04_parts.c]
def saturateref04_Width.live : Nat → Option Keep := liveOf [(9, ⟨[0, 1, 2, 3, 22, 23], [3], []⟩)]
noncomputable def saturateref04_Width.body : Code := bodyOf Try.f45
noncomputable def saturateref04_Width.K (fu : Nat) : Code → St → (Ex → St → Option (Int × Int)) → Option (Int × Int) := codeK Try.prog saturateref04_Width.cs saturateref04_Width.live fu
noncomputable def saturateref04_Width.j4 (fu : Nat) (n4 : Nat) (x0 : Int) (x1 : Int) (x2 : Int) (x3n : Nat) (x22 : Int) (x23 : Int) (m3 : Nat) (g3_0 : Nat → Int) : Option (Int × Int) :=
  loopK (saturateref04_Width.K fu (sub saturateref04_Width.body [true, true, false, true, false, false])) (saturateref04_Width.live 9) n4 (stOf 133 [(0, .val (.int .i64 x0)), (1, .val (.int .i64 x1)), (2, .val (.int .u64 x2)), (3, .sl 3 1 x3n), (22, .val (.int .i64 x22)), (23, .val (.int .i64 x23))] [(3, .ext m3 [.int .i64 g3_0])]) (blockC 0 (seqC fu (saturateref04_Width.live 18) (saturateref04_Width.K fu (sub saturateref04_Width.body [true, true, true])) (retC Try.prog Try.f45.results saturateref04_Width.r.dec)))
theorem saturateref04_Width.j4_succ (fu : Nat) (n4 : Nat) (x0 : Int) (x1 : Int) (x2 : Int) (x3n : Nat) (x22 : Int) (x23 : Int) (m3 : Nat) (g3_0 : Nat → Int) : saturateref04_Width.j4 fu (n4 + 1) x0 x1 x2 x3n x22 x23 m3 g3_0 =
  bif (decide (x23 < x22)) then
    bif decide (0 ≤ x23) then
      bif decide (x23 < (x3n : Int)) then
        (saturateref04_width.f (g3_0 x23.toNat)).bind fun r3 =>
        bif (!r3) then
          some (0, 3)
        else
          saturateref04_Width.j4 fu n4 x0 x1 x2 x3n x22 (IntKind.i64.wrap (x23 + 1)) m3 g3_0
      else
        none
    else
      none
  else
    (saturateref04_Leaf.f x0).bind fun r4 =>
    bif r4 then
      (saturateref04_leaf.f x0 x1 x2).bind fun r5 =>
      some (r5.1, r5.2)
    else
      bif (x0 == 21) then
        bif decide ((0 : Int) < (x3n : Int)) then
          (saturateref04_parts.f x0 x1 x2 (g3_0 0)).bind fun r6 =>
          some (r6.1, r6.2)
        else
          none
      else
        bif (x0 == 22) then
          bif decide ((0 : Int) < (x3n : Int)) then
            (saturateref04_parts.f x0 x1 x2 (g3_0 0)).bind fun r7 =>
            some (r7.1, r7.2)
          else
            none
        else
          bif (x0 == 23) then
            bif decide ((0 : Int) < (x3n : Int)) then
              (saturateref04_parts.f x0 x1 x2 (g3_0 0)).bind fun r8 =>
              some (r8.1, r8.2)
            else
              none
          else
            bif ((x3n : Int) == 1) then
              bif decide ((0 : Int) < (x3n : Int)) then
                some ((g3_0 0), 0)
              else
                none
            else
              bif (x0 == 20) then
                bif decide ((0 : Int) < (x3n : Int)) then
                  bif (decide ((g3_0 0) < 1)) then
                    some (0, 3)
                  else
                    bif decide ((1 : Int) < (x3n : Int)) then
                      bif (decide ((g3_0 1) < 1)) then
                        some (0, 3)
                      else
                        bif decide ((0 : Int) < (x3n : Int)) then
                          bif decide ((1 : Int) < (x3n : Int)) then
                            bif (decide ((IntKind.i64.wrap ((g3_0 0) + (g3_0 1))) > 64)) then
                              some (0, 3)
                            else
                              bif decide ((0 : Int) < (x3n : Int)) then
                                bif decide ((1 : Int) < (x3n : Int)) then
                                  some ((IntKind.i64.wrap ((g3_0 0) + (g3_0 1))), 0)
                                else
                                  none
                              else
                                none
                          else
                            none
                        else
                          none
                    else
                      none
                else
                  none
              else
                bif (x0 == 19) then
                  bif decide ((0 : Int) < (x3n : Int)) then
                    bif ((g3_0 0) != 1) then
                      some (0, 3)
                    else
                      bif decide ((1 : Int) < (x3n : Int)) then
                        bif decide ((2 : Int) < (x3n : Int)) then
                          bif ((g3_0 1) != (g3_0 2)) then
                            some (0, 3)
                          else
                            bif decide ((1 : Int) < (x3n : Int)) then
                              some ((g3_0 1), 0)
                            else
                              none
                        else
                          none
                      else
                        none
                  else
                    none
                else
                  bif decide ((0 : Int) < (x3n : Int)) then
                    bif decide ((1 : Int) < (x3n : Int)) then
                      bif ((g3_0 0) != (g3_0 1)) then
                        some (0, 3)
                      else
                        bif (x0 == 16) then
                          some (1, 0)
                        else
                          bif (x0 == 17) then
                            some (1, 0)
                          else
                            bif (x0 == 18) then
                              some (1, 0)
                            else
                              bif decide ((0 : Int) < (x3n : Int)) then
                                some ((g3_0 0), 0)
                              else
                                none
                    else
                      none
                  else
                    none := by kernel_rfl
noncomputable def saturateref04_Width.g (fu : Nat) (a0 : Int) (a1 : Int) (a2 : Int) (a3 : Nat × (Nat → Int)) : Option (Int × Int) :=
  (saturateref04_Arity.f a0).bind fun r1 =>
  bif (decide (r1 < 0)) then
    some (0, 4)
  else
    (saturateref04_Arity.f a0).bind fun r2 =>
    bif ((a3.1 : Int) != r2) then
      some (0, 4)
    else
      saturateref04_Width.j4 fu fu a0 a1 a2 a3.1 (a3.1 : Int) 0 a3.1 a3.2
noncomputable def saturateref04_Width.f (a0 : Int) (a1 : Int) (a2 : Int) (a3 : Nat × (Nat → Int)) : Option (Int × Int) := saturateref04_Width.g (fuel0 + 1) a0 a1 a2 a3
theorem saturateref04_Width.eq (fu : Nat) (a : Int × Int × Int × (Nat × (Nat → Int)) × Unit) : bodyK Try.prog saturateref04_Width.cs saturateref04_Width.live fu Try.f45 (saturateref04_Width.a.enc a) saturateref04_Width.r.dec = saturateref04_Width.g fu a.1 a.2.1 a.2.2.1 a.2.2.2.1 := by kernel_rfl
theorem saturateref04_Width.con : ∀ (a : Int × Int × Int × (Nat × (Nat → Int)) × Unit) (r : Int × Int), saturateref04_Width.f a.1 a.2.1 a.2.2.1 a.2.2.2.1 = some r → Contract Try.prog 45 (saturateref04_Width.a.enc a) (saturateref04_Width.r.enc r) := Contract.of_body (F := fun (a : Int × Int × Int × (Nat × (Nat → Int)) × Unit) => saturateref04_Width.f a.1 a.2.1 a.2.2.1 a.2.2.2.1) (fn := Try.f45) (cs := saturateref04_Width.cs) (live := saturateref04_Width.live) (fuel := fuel0 + 1) (by kernel_rfl) (by kernel_rfl) mixed (saturateref04_Width.eq (fuel0 + 1))
noncomputable def saturateref04_Width.c : Kn Try.prog := Kn.of 45 saturateref04_Width.a saturateref04_Width.r (fun a => saturateref04_Width.f a.1 a.2.1 a.2.2.1 a.2.2.2.1) saturateref04_Width.con

/-! ### saturateref04_Pattern: function 46 -/
def saturateref04_Pattern.a : ACods (Int × Unit) := (.cons (.val (.int .i64)) .nil)
def saturateref04_Pattern.r : RCod (Bool) := .val (.bool)
noncomputable def saturateref04_Pattern.cs : List (Kn Try.prog) := [saturateref04_Is.c]
def saturateref04_Pattern.live : Nat → Option Keep := liveOf []
noncomputable def saturateref04_Pattern.body : Code := bodyOf Try.f46
noncomputable def saturateref04_Pattern.K (fu : Nat) : Code → St → (Ex → St → Option (Bool)) → Option (Bool) := codeK Try.prog saturateref04_Pattern.cs saturateref04_Pattern.live fu
noncomputable def saturateref04_Pattern.f (a0 : Int) : Option (Bool) :=
  (saturateref04_Is.f a0 (3, (fun i => [24, 25, 26].getD i 0))).bind fun r1 =>
  some r1
theorem saturateref04_Pattern.eq (fu : Nat) (a : Int × Unit) : bodyK Try.prog saturateref04_Pattern.cs saturateref04_Pattern.live fu Try.f46 (saturateref04_Pattern.a.enc a) saturateref04_Pattern.r.dec = saturateref04_Pattern.f a.1 := by kernel_rfl
theorem saturateref04_Pattern.con : ∀ (a : Int × Unit) (r : Bool), saturateref04_Pattern.f a.1 = some r → Contract Try.prog 46 (saturateref04_Pattern.a.enc a) (saturateref04_Pattern.r.enc r) := Contract.of_body (F := fun (a : Int × Unit) => saturateref04_Pattern.f a.1) (fn := Try.f46) (cs := saturateref04_Pattern.cs) (live := saturateref04_Pattern.live) (fuel := fuel0 + 1) (by kernel_rfl) (by kernel_rfl) mixed (saturateref04_Pattern.eq (fuel0 + 1))
noncomputable def saturateref04_Pattern.c : Kn Try.prog := Kn.of 46 saturateref04_Pattern.a saturateref04_Pattern.r (fun a => saturateref04_Pattern.f a.1) saturateref04_Pattern.con

/-! ### saturateref13_Refused: function 12 -/
def saturateref13_Refused.a : ACods (Int × Int × Int × (Nat × (Nat → Int)) × Int × Unit) := (.cons (.val (.int .i64)) (.cons (.val (.int .i64)) (.cons (.val (.int .u64)) (.cons (.rows (.int1 .i64)) (.cons (.val (.int .i64)) .nil)))))
def saturateref13_Refused.r : RCod (Int × Int) := .val (.tup (.cons (.int .i64) (.one (.int .i64))))
noncomputable def saturateref13_Refused.cs : List (Kn Try.prog) := [saturateref04_Width.c, saturateref04_Pattern.c]
def saturateref13_Refused.live : Nat → Option Keep := liveOf [(19, ⟨[3, 12, 14], [3], []⟩)]
noncomputable def saturateref13_Refused.body : Code := bodyOf Try.f12
noncomputable def saturateref13_Refused.K (fu : Nat) : Code → St → (Ex → St → Option (Int × Int)) → Option (Int × Int) := codeK Try.prog saturateref13_Refused.cs saturateref13_Refused.live fu
noncomputable def saturateref13_Refused.j9 (fu : Nat) (n9 : Nat) (x3n : Nat) (x12 : Int) (x14 : Int) (m3 : Nat) (g3_0 : Nat → Int) : Option (Int × Int) :=
  loopK (saturateref13_Refused.K fu (sub saturateref13_Refused.body [true, true, true, true, true, false, true, false, false])) (saturateref13_Refused.live 19) n9 (stOf 46 [(3, .sl 3 1 x3n), (12, .val (.int .i64 x12)), (14, .val (.int .i64 x14))] [(3, .ext m3 [.int .i64 g3_0])]) (blockC 0 (seqC fu (saturateref13_Refused.live 26) (saturateref13_Refused.K fu (sub saturateref13_Refused.body [true, true, true, true, true, true])) (retC Try.prog Try.f12.results saturateref13_Refused.r.dec)))
theorem saturateref13_Refused.j9_succ (fu : Nat) (n9 : Nat) (x3n : Nat) (x12 : Int) (x14 : Int) (m3 : Nat) (g3_0 : Nat → Int) : saturateref13_Refused.j9 fu (n9 + 1) x3n x12 x14 m3 g3_0 =
  bif (decide (x14 < (x3n : Int))) then
    bif decide (0 ≤ x14) then
      bif decide (x14 < (x3n : Int)) then
        bif ((g3_0 x14.toNat) == 0) then
          some (0, 3)
        else
          saturateref13_Refused.j9 fu n9 x3n x12 (IntKind.i64.wrap (x14 + 1)) m3 g3_0
      else
        none
    else
      none
  else
    bif (x12 == 0) then
      some (0, 3)
    else
      some (x12, 0) := by kernel_rfl
noncomputable def saturateref13_Refused.g (fu : Nat) (a0 : Int) (a1 : Int) (a2 : Int) (a3 : Nat × (Nat → Int)) (a4 : Int) : Option (Int × Int) :=
  bif (a4 != (a3.1 : Int)) then
    some (0, 4)
  else
    (saturateref04_Width.f a0 a1 a2 (a3.1, a3.2)).bind fun r1 =>
    bif (r1.2 != 0) then
      some (0, r1.2)
    else
      (saturateref04_Pattern.f a0).bind fun r2 =>
      bif r2 then
        some (0, 4)
      else
        saturateref13_Refused.j9 fu fu a3.1 r1.1 0 a3.1 a3.2
noncomputable def saturateref13_Refused.f (a0 : Int) (a1 : Int) (a2 : Int) (a3 : Nat × (Nat → Int)) (a4 : Int) : Option (Int × Int) := saturateref13_Refused.g (fuel0 + 1) a0 a1 a2 a3 a4
theorem saturateref13_Refused.eq (fu : Nat) (a : Int × Int × Int × (Nat × (Nat → Int)) × Int × Unit) : bodyK Try.prog saturateref13_Refused.cs saturateref13_Refused.live fu Try.f12 (saturateref13_Refused.a.enc a) saturateref13_Refused.r.dec = saturateref13_Refused.g fu a.1 a.2.1 a.2.2.1 a.2.2.2.1 a.2.2.2.2.1 := by kernel_rfl
theorem saturateref13_Refused.con : ∀ (a : Int × Int × Int × (Nat × (Nat → Int)) × Int × Unit) (r : Int × Int), saturateref13_Refused.f a.1 a.2.1 a.2.2.1 a.2.2.2.1 a.2.2.2.2.1 = some r → Contract Try.prog 12 (saturateref13_Refused.a.enc a) (saturateref13_Refused.r.enc r) := Contract.of_body (F := fun (a : Int × Int × Int × (Nat × (Nat → Int)) × Int × Unit) => saturateref13_Refused.f a.1 a.2.1 a.2.2.1 a.2.2.2.1 a.2.2.2.2.1) (fn := Try.f12) (cs := saturateref13_Refused.cs) (live := saturateref13_Refused.live) (fuel := fuel0 + 1) (by kernel_rfl) (by kernel_rfl) mixed (saturateref13_Refused.eq (fuel0 + 1))
noncomputable def saturateref13_Refused.c : Kn Try.prog := Kn.of 12 saturateref13_Refused.a saturateref13_Refused.r (fun a => saturateref13_Refused.f a.1 a.2.1 a.2.2.1 a.2.2.2.1 a.2.2.2.2.1) saturateref13_Refused.con

/-! ### saturateref01_W: function 47 -/
def saturateref01_W.a : ACods (Int × Unit) := (.cons (.val (.int .i64)) .nil)
def saturateref01_W.r : RCod (Int) := .val (.int .i64)
noncomputable def saturateref01_W.cs : List (Kn Try.prog) := []
def saturateref01_W.live : Nat → Option Keep := liveOf []
noncomputable def saturateref01_W.body : Code := bodyOf Try.f47
noncomputable def saturateref01_W.K (fu : Nat) : Code → St → (Ex → St → Option (Int)) → Option (Int) := codeK Try.prog saturateref01_W.cs saturateref01_W.live fu
noncomputable def saturateref01_W.f (a0 : Int) : Option (Int) :=
  some (mn (mx a0 1) 64)
theorem saturateref01_W.eq (fu : Nat) (a : Int × Unit) : bodyK Try.prog saturateref01_W.cs saturateref01_W.live fu Try.f47 (saturateref01_W.a.enc a) saturateref01_W.r.dec = saturateref01_W.f a.1 := by kernel_rfl
theorem saturateref01_W.con : ∀ (a : Int × Unit) (r : Int), saturateref01_W.f a.1 = some r → Contract Try.prog 47 (saturateref01_W.a.enc a) (saturateref01_W.r.enc r) := Contract.of_body (F := fun (a : Int × Unit) => saturateref01_W.f a.1) (fn := Try.f47) (cs := saturateref01_W.cs) (live := saturateref01_W.live) (fuel := fuel0 + 1) (by kernel_rfl) (by kernel_rfl) mixed (saturateref01_W.eq (fuel0 + 1))
noncomputable def saturateref01_W.c : Kn Try.prog := Kn.of 47 saturateref01_W.a saturateref01_W.r (fun a => saturateref01_W.f a.1) saturateref01_W.con

/-! ### saturateref01_Mask: function 39 -/
def saturateref01_Mask.a : ACods (Int × Unit) := (.cons (.val (.int .i64)) .nil)
def saturateref01_Mask.r : RCod (Int) := .val (.int .u64)
noncomputable def saturateref01_Mask.cs : List (Kn Try.prog) := [saturateref01_W.c]
def saturateref01_Mask.live : Nat → Option Keep := liveOf [(7, ⟨[3, 5, 6], [], []⟩)]
noncomputable def saturateref01_Mask.body : Code := bodyOf Try.f39
noncomputable def saturateref01_Mask.K (fu : Nat) : Code → St → (Ex → St → Option (Int)) → Option (Int) := codeK Try.prog saturateref01_Mask.cs saturateref01_Mask.live fu
noncomputable def saturateref01_Mask.j3 (fu : Nat) (n3 : Nat) (x3 : Int) (x5 : Int) (x6 : Int) : Option Int :=
  loopK (saturateref01_Mask.K fu (sub saturateref01_Mask.body [true, true, false, true, false, false])) (saturateref01_Mask.live 7) n3 (stOf 13 [(3, .val (.int .u64 x3)), (5, .val (.int .i64 x5)), (6, .val (.int .i64 x6))] []) (blockC 0 (seqC fu (saturateref01_Mask.live 12) (saturateref01_Mask.K fu (sub saturateref01_Mask.body [true, true, true])) (retC Try.prog Try.f39.results saturateref01_Mask.r.dec)))
theorem saturateref01_Mask.j3_succ (fu : Nat) (n3 : Nat) (x3 : Int) (x5 : Int) (x6 : Int) : saturateref01_Mask.j3 fu (n3 + 1) x3 x5 x6 =
  bif (decide (x6 < x5)) then
    saturateref01_Mask.j3 fu n3 (IntKind.u64.wrap ((IntKind.u64.wrap (x3 * 2)) + 1)) x5 (IntKind.i64.wrap (x6 + 1))
  else
    some x3 := by kernel_rfl
noncomputable def saturateref01_Mask.g (fu : Nat) (a0 : Int) : Option (Int) :=
  (saturateref01_W.f a0).bind fun r1 =>
  saturateref01_Mask.j3 fu fu 0 r1 0
noncomputable def saturateref01_Mask.f (a0 : Int) : Option (Int) := saturateref01_Mask.g (fuel0 + 1) a0
theorem saturateref01_Mask.eq (fu : Nat) (a : Int × Unit) : bodyK Try.prog saturateref01_Mask.cs saturateref01_Mask.live fu Try.f39 (saturateref01_Mask.a.enc a) saturateref01_Mask.r.dec = saturateref01_Mask.g fu a.1 := by kernel_rfl
theorem saturateref01_Mask.con : ∀ (a : Int × Unit) (r : Int), saturateref01_Mask.f a.1 = some r → Contract Try.prog 39 (saturateref01_Mask.a.enc a) (saturateref01_Mask.r.enc r) := Contract.of_body (F := fun (a : Int × Unit) => saturateref01_Mask.f a.1) (fn := Try.f39) (cs := saturateref01_Mask.cs) (live := saturateref01_Mask.live) (fuel := fuel0 + 1) (by kernel_rfl) (by kernel_rfl) mixed (saturateref01_Mask.eq (fuel0 + 1))
noncomputable def saturateref01_Mask.c : Kn Try.prog := Kn.of 39 saturateref01_Mask.a saturateref01_Mask.r (fun a => saturateref01_Mask.f a.1) saturateref01_Mask.con

/-! ### saturateref13_Valid: function 23 -/
def saturateref13_Valid.a : ACods (Int × (Int × Int) × Unit) := (.cons (.val (.int .i64)) (.cons (.val (.agg (.cons (.int .u64) (.one (.int .u64))))) .nil))
def saturateref13_Valid.r : RCod (Bool) := .val (.bool)
noncomputable def saturateref13_Valid.cs : List (Kn Try.prog) := [saturateref01_Mask.c]
def saturateref13_Valid.live : Nat → Option Keep := liveOf []
noncomputable def saturateref13_Valid.body : Code := bodyOf Try.f23
noncomputable def saturateref13_Valid.K (fu : Nat) : Code → St → (Ex → St → Option (Bool)) → Option (Bool) := codeK Try.prog saturateref13_Valid.cs saturateref13_Valid.live fu
noncomputable def saturateref13_Valid.f (a0 : Int) (a1 : Int × Int) : Option (Bool) :=
  bif (decide (a1.1 ≤ a1.2)) then
    (saturateref01_Mask.f a0).bind fun r1 =>
    some (decide (a1.2 ≤ r1))
  else
    some false
theorem saturateref13_Valid.eq (fu : Nat) (a : Int × (Int × Int) × Unit) : bodyK Try.prog saturateref13_Valid.cs saturateref13_Valid.live fu Try.f23 (saturateref13_Valid.a.enc a) saturateref13_Valid.r.dec = saturateref13_Valid.f a.1 a.2.1 := by kernel_rfl
theorem saturateref13_Valid.con : ∀ (a : Int × (Int × Int) × Unit) (r : Bool), saturateref13_Valid.f a.1 a.2.1 = some r → Contract Try.prog 23 (saturateref13_Valid.a.enc a) (saturateref13_Valid.r.enc r) := Contract.of_body (F := fun (a : Int × (Int × Int) × Unit) => saturateref13_Valid.f a.1 a.2.1) (fn := Try.f23) (cs := saturateref13_Valid.cs) (live := saturateref13_Valid.live) (fuel := fuel0 + 1) (by kernel_rfl) (by kernel_rfl) mixed (saturateref13_Valid.eq (fuel0 + 1))
noncomputable def saturateref13_Valid.c : Kn Try.prog := Kn.of 23 saturateref13_Valid.a saturateref13_Valid.r (fun a => saturateref13_Valid.f a.1 a.2.1) saturateref13_Valid.con

/-! ### saturateref13_Top: function 20 -/
def saturateref13_Top.a : ACods (Int × Unit) := (.cons (.val (.int .i64)) .nil)
def saturateref13_Top.r : RCod (Int × Int) := .val (.agg (.cons (.int .u64) (.one (.int .u64))))
noncomputable def saturateref13_Top.cs : List (Kn Try.prog) := [saturateref01_Mask.c]
def saturateref13_Top.live : Nat → Option Keep := liveOf []
noncomputable def saturateref13_Top.body : Code := bodyOf Try.f20
noncomputable def saturateref13_Top.K (fu : Nat) : Code → St → (Ex → St → Option (Int × Int)) → Option (Int × Int) := codeK Try.prog saturateref13_Top.cs saturateref13_Top.live fu
noncomputable def saturateref13_Top.f (a0 : Int) : Option (Int × Int) :=
  (saturateref01_Mask.f a0).bind fun r1 =>
  some (0, r1)
theorem saturateref13_Top.eq (fu : Nat) (a : Int × Unit) : bodyK Try.prog saturateref13_Top.cs saturateref13_Top.live fu Try.f20 (saturateref13_Top.a.enc a) saturateref13_Top.r.dec = saturateref13_Top.f a.1 := by kernel_rfl
theorem saturateref13_Top.con : ∀ (a : Int × Unit) (r : Int × Int), saturateref13_Top.f a.1 = some r → Contract Try.prog 20 (saturateref13_Top.a.enc a) (saturateref13_Top.r.enc r) := Contract.of_body (F := fun (a : Int × Unit) => saturateref13_Top.f a.1) (fn := Try.f20) (cs := saturateref13_Top.cs) (live := saturateref13_Top.live) (fuel := fuel0 + 1) (by kernel_rfl) (by kernel_rfl) mixed (saturateref13_Top.eq (fuel0 + 1))
noncomputable def saturateref13_Top.c : Kn Try.prog := Kn.of 20 saturateref13_Top.a saturateref13_Top.r (fun a => saturateref13_Top.f a.1) saturateref13_Top.con

/-! ### saturateref13_Of: function 38 -/
def saturateref13_Of.a : ACods (Int × (Int × Int) × Unit) := (.cons (.val (.int .i64)) (.cons (.val (.agg (.cons (.int .u64) (.one (.int .u64))))) .nil))
def saturateref13_Of.r : RCod (Int × Int) := .val (.agg (.cons (.int .u64) (.one (.int .u64))))
noncomputable def saturateref13_Of.cs : List (Kn Try.prog) := [saturateref13_Valid.c, saturateref13_Top.c]
def saturateref13_Of.live : Nat → Option Keep := liveOf []
noncomputable def saturateref13_Of.body : Code := bodyOf Try.f38
noncomputable def saturateref13_Of.K (fu : Nat) : Code → St → (Ex → St → Option (Int × Int)) → Option (Int × Int) := codeK Try.prog saturateref13_Of.cs saturateref13_Of.live fu
noncomputable def saturateref13_Of.f (a0 : Int) (a1 : Int × Int) : Option (Int × Int) :=
  (saturateref13_Valid.f a0 (a1.1, a1.2)).bind fun r1 =>
  bif r1 then
    some (a1.1, a1.2)
  else
    (saturateref13_Top.f a0).bind fun r2 =>
    some (r2.1, r2.2)
theorem saturateref13_Of.eq (fu : Nat) (a : Int × (Int × Int) × Unit) : bodyK Try.prog saturateref13_Of.cs saturateref13_Of.live fu Try.f38 (saturateref13_Of.a.enc a) saturateref13_Of.r.dec = saturateref13_Of.f a.1 a.2.1 := by kernel_rfl
theorem saturateref13_Of.con : ∀ (a : Int × (Int × Int) × Unit) (r : Int × Int), saturateref13_Of.f a.1 a.2.1 = some r → Contract Try.prog 38 (saturateref13_Of.a.enc a) (saturateref13_Of.r.enc r) := Contract.of_body (F := fun (a : Int × (Int × Int) × Unit) => saturateref13_Of.f a.1 a.2.1) (fn := Try.f38) (cs := saturateref13_Of.cs) (live := saturateref13_Of.live) (fuel := fuel0 + 1) (by kernel_rfl) (by kernel_rfl) mixed (saturateref13_Of.eq (fuel0 + 1))
noncomputable def saturateref13_Of.c : Kn Try.prog := Kn.of 38 saturateref13_Of.a saturateref13_Of.r (fun a => saturateref13_Of.f a.1 a.2.1) saturateref13_Of.con

/-! ### saturateref01_Bit: function 48 -/
def saturateref01_Bit.a : ACods (Int × Int × Unit) := (.cons (.val (.int .u64)) (.cons (.val (.int .i64)) .nil))
def saturateref01_Bit.r : RCod (Int) := .val (.int .u64)
noncomputable def saturateref01_Bit.cs : List (Kn Try.prog) := []
def saturateref01_Bit.live : Nat → Option Keep := liveOf []
noncomputable def saturateref01_Bit.body : Code := bodyOf Try.f48
noncomputable def saturateref01_Bit.K (fu : Nat) : Code → St → (Ex → St → Option (Int)) → Option (Int) := codeK Try.prog saturateref01_Bit.cs saturateref01_Bit.live fu
noncomputable def saturateref01_Bit.f (a0 : Int) (a1 : Int) : Option (Int) :=
  bif (decide (a1 < 0)) then
    some 0
  else
    bif (decide (a1 > 63)) then
      some 0
    else
      bif decide ((IntKind.u64.wrap a1) < 0) then
        none
      else
        some (Go.bits .and .u64 (shr .u64 a0 (IntKind.u64.wrap a1)) 1)
theorem saturateref01_Bit.eq (fu : Nat) (a : Int × Int × Unit) : bodyK Try.prog saturateref01_Bit.cs saturateref01_Bit.live fu Try.f48 (saturateref01_Bit.a.enc a) saturateref01_Bit.r.dec = saturateref01_Bit.f a.1 a.2.1 := by kernel_rfl
theorem saturateref01_Bit.con : ∀ (a : Int × Int × Unit) (r : Int), saturateref01_Bit.f a.1 a.2.1 = some r → Contract Try.prog 48 (saturateref01_Bit.a.enc a) (saturateref01_Bit.r.enc r) := Contract.of_body (F := fun (a : Int × Int × Unit) => saturateref01_Bit.f a.1 a.2.1) (fn := Try.f48) (cs := saturateref01_Bit.cs) (live := saturateref01_Bit.live) (fuel := fuel0 + 1) (by kernel_rfl) (by kernel_rfl) mixed (saturateref01_Bit.eq (fuel0 + 1))
noncomputable def saturateref01_Bit.c : Kn Try.prog := Kn.of 48 saturateref01_Bit.a saturateref01_Bit.r (fun a => saturateref01_Bit.f a.1 a.2.1) saturateref01_Bit.con

/-! ### saturateref01_Cut: function 13 -/
def saturateref01_Cut.a : ACods (Int × Int × Unit) := (.cons (.val (.int .i64)) (.cons (.val (.int .u64)) .nil))
def saturateref01_Cut.r : RCod (Int) := .val (.int .u64)
noncomputable def saturateref01_Cut.cs : List (Kn Try.prog) := [saturateref01_W.c, saturateref01_Bit.c]
def saturateref01_Cut.live : Nat → Option Keep := liveOf [(7, ⟨[1, 5, 8, 9], [], []⟩)]
noncomputable def saturateref01_Cut.body : Code := bodyOf Try.f13
noncomputable def saturateref01_Cut.K (fu : Nat) : Code → St → (Ex → St → Option (Int)) → Option (Int) := codeK Try.prog saturateref01_Cut.cs saturateref01_Cut.live fu
noncomputable def saturateref01_Cut.j3 (fu : Nat) (n3 : Nat) (x1 : Int) (x5 : Int) (x8 : Int) (x9 : Int) : Option Int :=
  loopK (saturateref01_Cut.K fu (sub saturateref01_Cut.body [true, true, false, true, false, false])) (saturateref01_Cut.live 7) n3 (stOf 22 [(1, .val (.int .u64 x1)), (5, .val (.int .u64 x5)), (8, .val (.int .i64 x8)), (9, .val (.int .i64 x9))] []) (blockC 0 (seqC fu (saturateref01_Cut.live 14) (saturateref01_Cut.K fu (sub saturateref01_Cut.body [true, true, true])) (retC Try.prog Try.f13.results saturateref01_Cut.r.dec)))
theorem saturateref01_Cut.j3_succ (fu : Nat) (n3 : Nat) (x1 : Int) (x5 : Int) (x8 : Int) (x9 : Int) : saturateref01_Cut.j3 fu (n3 + 1) x1 x5 x8 x9 =
  bif (decide (x9 < x8)) then
    (saturateref01_Bit.f x1 x9).bind fun r2 =>
    bif decide ((IntKind.u64.wrap x9) < 0) then
      none
    else
      saturateref01_Cut.j3 fu n3 x1 (Go.bits .or .u64 x5 (shl .u64 r2 (IntKind.u64.wrap x9))) x8 (IntKind.i64.wrap (x9 + 1))
  else
    some x5 := by kernel_rfl
noncomputable def saturateref01_Cut.g (fu : Nat) (a0 : Int) (a1 : Int) : Option (Int) :=
  (saturateref01_W.f a0).bind fun r1 =>
  saturateref01_Cut.j3 fu fu a1 0 r1 0
noncomputable def saturateref01_Cut.f (a0 : Int) (a1 : Int) : Option (Int) := saturateref01_Cut.g (fuel0 + 1) a0 a1
theorem saturateref01_Cut.eq (fu : Nat) (a : Int × Int × Unit) : bodyK Try.prog saturateref01_Cut.cs saturateref01_Cut.live fu Try.f13 (saturateref01_Cut.a.enc a) saturateref01_Cut.r.dec = saturateref01_Cut.g fu a.1 a.2.1 := by kernel_rfl
theorem saturateref01_Cut.con : ∀ (a : Int × Int × Unit) (r : Int), saturateref01_Cut.f a.1 a.2.1 = some r → Contract Try.prog 13 (saturateref01_Cut.a.enc a) (saturateref01_Cut.r.enc r) := Contract.of_body (F := fun (a : Int × Int × Unit) => saturateref01_Cut.f a.1 a.2.1) (fn := Try.f13) (cs := saturateref01_Cut.cs) (live := saturateref01_Cut.live) (fuel := fuel0 + 1) (by kernel_rfl) (by kernel_rfl) mixed (saturateref01_Cut.eq (fuel0 + 1))
noncomputable def saturateref01_Cut.c : Kn Try.prog := Kn.of 13 saturateref01_Cut.a saturateref01_Cut.r (fun a => saturateref01_Cut.f a.1 a.2.1) saturateref01_Cut.con

/-! ### saturateref13_Const: function 22 -/
def saturateref13_Const.a : ACods (Int × Int × Unit) := (.cons (.val (.int .i64)) (.cons (.val (.int .u64)) .nil))
def saturateref13_Const.r : RCod (Int × Int) := .val (.agg (.cons (.int .u64) (.one (.int .u64))))
noncomputable def saturateref13_Const.cs : List (Kn Try.prog) := [saturateref01_Cut.c]
def saturateref13_Const.live : Nat → Option Keep := liveOf []
noncomputable def saturateref13_Const.body : Code := bodyOf Try.f22
noncomputable def saturateref13_Const.K (fu : Nat) : Code → St → (Ex → St → Option (Int × Int)) → Option (Int × Int) := codeK Try.prog saturateref13_Const.cs saturateref13_Const.live fu
noncomputable def saturateref13_Const.f (a0 : Int) (a1 : Int) : Option (Int × Int) :=
  (saturateref01_Cut.f a0 a1).bind fun r1 =>
  some (r1, r1)
theorem saturateref13_Const.eq (fu : Nat) (a : Int × Int × Unit) : bodyK Try.prog saturateref13_Const.cs saturateref13_Const.live fu Try.f22 (saturateref13_Const.a.enc a) saturateref13_Const.r.dec = saturateref13_Const.f a.1 a.2.1 := by kernel_rfl
theorem saturateref13_Const.con : ∀ (a : Int × Int × Unit) (r : Int × Int), saturateref13_Const.f a.1 a.2.1 = some r → Contract Try.prog 22 (saturateref13_Const.a.enc a) (saturateref13_Const.r.enc r) := Contract.of_body (F := fun (a : Int × Int × Unit) => saturateref13_Const.f a.1 a.2.1) (fn := Try.f22) (cs := saturateref13_Const.cs) (live := saturateref13_Const.live) (fuel := fuel0 + 1) (by kernel_rfl) (by kernel_rfl) mixed (saturateref13_Const.eq (fuel0 + 1))
noncomputable def saturateref13_Const.c : Kn Try.prog := Kn.of 22 saturateref13_Const.a saturateref13_Const.r (fun a => saturateref13_Const.f a.1 a.2.1) saturateref13_Const.con

/-! ### saturateref13_neg: function 40 -/
def saturateref13_neg.a : ACods (Int × (Int × Int) × Unit) := (.cons (.val (.int .u64)) (.cons (.val (.agg (.cons (.int .u64) (.one (.int .u64))))) .nil))
def saturateref13_neg.r : RCod (Int × Int) := .val (.agg (.cons (.int .u64) (.one (.int .u64))))
noncomputable def saturateref13_neg.cs : List (Kn Try.prog) := []
def saturateref13_neg.live : Nat → Option Keep := liveOf []
noncomputable def saturateref13_neg.body : Code := bodyOf Try.f40
noncomputable def saturateref13_neg.K (fu : Nat) : Code → St → (Ex → St → Option (Int × Int)) → Option (Int × Int) := codeK Try.prog saturateref13_neg.cs saturateref13_neg.live fu
noncomputable def saturateref13_neg.f (a0 : Int) (a1 : Int × Int) : Option (Int × Int) :=
  bif (a1.2 == 0) then
    some (0, 0)
  else
    bif (a1.1 == 0) then
      some (0, a0)
    else
      some ((IntKind.u64.wrap ((IntKind.u64.wrap (a0 - a1.2)) + 1)), (IntKind.u64.wrap ((IntKind.u64.wrap (a0 - a1.1)) + 1)))
theorem saturateref13_neg.eq (fu : Nat) (a : Int × (Int × Int) × Unit) : bodyK Try.prog saturateref13_neg.cs saturateref13_neg.live fu Try.f40 (saturateref13_neg.a.enc a) saturateref13_neg.r.dec = saturateref13_neg.f a.1 a.2.1 := by kernel_rfl
theorem saturateref13_neg.con : ∀ (a : Int × (Int × Int) × Unit) (r : Int × Int), saturateref13_neg.f a.1 a.2.1 = some r → Contract Try.prog 40 (saturateref13_neg.a.enc a) (saturateref13_neg.r.enc r) := Contract.of_body (F := fun (a : Int × (Int × Int) × Unit) => saturateref13_neg.f a.1 a.2.1) (fn := Try.f40) (cs := saturateref13_neg.cs) (live := saturateref13_neg.live) (fuel := fuel0 + 1) (by kernel_rfl) (by kernel_rfl) mixed (saturateref13_neg.eq (fuel0 + 1))
noncomputable def saturateref13_neg.c : Kn Try.prog := Kn.of 40 saturateref13_neg.a saturateref13_neg.r (fun a => saturateref13_neg.f a.1 a.2.1) saturateref13_neg.con

/-! ### saturateref13_Join: function 30 -/
def saturateref13_Join.a : ACods (Int × (Int × Int) × (Int × Int) × Unit) := (.cons (.val (.int .i64)) (.cons (.val (.agg (.cons (.int .u64) (.one (.int .u64))))) (.cons (.val (.agg (.cons (.int .u64) (.one (.int .u64))))) .nil)))
def saturateref13_Join.r : RCod (Int × Int) := .val (.agg (.cons (.int .u64) (.one (.int .u64))))
noncomputable def saturateref13_Join.cs : List (Kn Try.prog) := [saturateref13_Of.c]
def saturateref13_Join.live : Nat → Option Keep := liveOf []
noncomputable def saturateref13_Join.body : Code := bodyOf Try.f30
noncomputable def saturateref13_Join.K (fu : Nat) : Code → St → (Ex → St → Option (Int × Int)) → Option (Int × Int) := codeK Try.prog saturateref13_Join.cs saturateref13_Join.live fu
noncomputable def saturateref13_Join.f (a0 : Int) (a1 : Int × Int) (a2 : Int × Int) : Option (Int × Int) :=
  (saturateref13_Of.f a0 (a1.1, a1.2)).bind fun r1 =>
  (saturateref13_Of.f a0 (a2.1, a2.2)).bind fun r2 =>
  some ((mn r1.1 r2.1), (mx r1.2 r2.2))
theorem saturateref13_Join.eq (fu : Nat) (a : Int × (Int × Int) × (Int × Int) × Unit) : bodyK Try.prog saturateref13_Join.cs saturateref13_Join.live fu Try.f30 (saturateref13_Join.a.enc a) saturateref13_Join.r.dec = saturateref13_Join.f a.1 a.2.1 a.2.2.1 := by kernel_rfl
theorem saturateref13_Join.con : ∀ (a : Int × (Int × Int) × (Int × Int) × Unit) (r : Int × Int), saturateref13_Join.f a.1 a.2.1 a.2.2.1 = some r → Contract Try.prog 30 (saturateref13_Join.a.enc a) (saturateref13_Join.r.enc r) := Contract.of_body (F := fun (a : Int × (Int × Int) × (Int × Int) × Unit) => saturateref13_Join.f a.1 a.2.1 a.2.2.1) (fn := Try.f30) (cs := saturateref13_Join.cs) (live := saturateref13_Join.live) (fuel := fuel0 + 1) (by kernel_rfl) (by kernel_rfl) mixed (saturateref13_Join.eq (fuel0 + 1))
noncomputable def saturateref13_Join.c : Kn Try.prog := Kn.of 30 saturateref13_Join.a saturateref13_Join.r (fun a => saturateref13_Join.f a.1 a.2.1 a.2.2.1) saturateref13_Join.con

/-! ### saturateref01_Concat: function 41 -/
def saturateref01_Concat.a : ACods (Int × Int × Int × Int × Unit) := (.cons (.val (.int .i64)) (.cons (.val (.int .i64)) (.cons (.val (.int .u64)) (.cons (.val (.int .u64)) .nil))))
def saturateref01_Concat.r : RCod (Int) := .val (.int .u64)
noncomputable def saturateref01_Concat.cs : List (Kn Try.prog) := [saturateref01_Cut.c, saturateref01_W.c, saturateref01_Bit.c]
def saturateref01_Concat.live : Nat → Option Keep := liveOf [(7, ⟨[1, 2, 9, 15, 16], [], []⟩), (14, ⟨[1, 2, 9, 15, 16], [], []⟩)]
noncomputable def saturateref01_Concat.body : Code := bodyOf Try.f41
noncomputable def saturateref01_Concat.K (fu : Nat) : Code → St → (Ex → St → Option (Int)) → Option (Int) := codeK Try.prog saturateref01_Concat.cs saturateref01_Concat.live fu
noncomputable def saturateref01_Concat.j3 (fu : Nat) (n3 : Nat) (x1 : Int) (x2 : Int) (x9 : Int) (x15 : Int) (x16 : Int) : Option Int :=
  loopK (saturateref01_Concat.K fu (sub saturateref01_Concat.body [true, true, false, true, false, false])) (saturateref01_Concat.live 7) n3 (stOf 37 [(1, .val (.int .i64 x1)), (2, .val (.int .u64 x2)), (9, .val (.int .u64 x9)), (15, .val (.int .i64 x15)), (16, .val (.int .i64 x16))] []) (blockC 0 (seqC fu (saturateref01_Concat.live 16) (saturateref01_Concat.K fu (sub saturateref01_Concat.body [true, true, true])) (retC Try.prog Try.f41.results saturateref01_Concat.r.dec)))
noncomputable def saturateref01_Concat.p7 (m fu : Nat) (n3 : Nat) (x1 : Int) (x2 : Int) (x9 : Int) (x15 : Int) (x16 : Int) : Option Int :=
  joinK m (saturateref01_Concat.K fu (sub saturateref01_Concat.body [true, true, false, true, false, false, true, true, true])) (stOf 37 [(1, .val (.int .i64 x1)), (2, .val (.int .u64 x2)), (9, .val (.int .u64 x9)), (15, .val (.int .i64 x15)), (16, .val (.int .i64 x16))] []) (roundC (saturateref01_Concat.live 7) (loopK (saturateref01_Concat.K fu (sub saturateref01_Concat.body [true, true, false, true, false, false])) (saturateref01_Concat.live 7) n3) (blockC 0 (seqC fu (saturateref01_Concat.live 16) (saturateref01_Concat.K fu (sub saturateref01_Concat.body [true, true, true])) (retC Try.prog Try.f41.results saturateref01_Concat.r.dec))))
theorem saturateref01_Concat.p7_eq (m fu : Nat) (n3 : Nat) (x1 : Int) (x2 : Int) (x9 : Int) (x15 : Int) (x16 : Int) : saturateref01_Concat.p7 (m + 1) fu n3 x1 x2 x9 x15 x16 =
  saturateref01_Concat.j3 fu n3 x1 x2 x9 x15 (IntKind.i64.wrap (x16 + 1)) := by kernel_rfl
theorem saturateref01_Concat.j3_succ (fu : Nat) (n3 : Nat) (x1 : Int) (x2 : Int) (x9 : Int) (x15 : Int) (x16 : Int) : saturateref01_Concat.j3 fu (n3 + 1) x1 x2 x9 x15 x16 =
  bif (decide (x16 < x15)) then
    (saturateref01_W.f x1).bind fun r3 =>
    bif (decide ((IntKind.i64.wrap (x16 + r3)) < 64)) then
      (saturateref01_Bit.f x2 x16).bind fun r4 =>
      (saturateref01_W.f x1).bind fun r5 =>
      bif decide ((IntKind.u64.wrap (IntKind.i64.wrap (x16 + r5))) < 0) then
        none
      else
        saturateref01_Concat.p7 fu fu n3 x1 x2 (Go.bits .or .u64 x9 (shl .u64 r4 (IntKind.u64.wrap (IntKind.i64.wrap (x16 + r5))))) x15 x16
    else
      saturateref01_Concat.p7 fu fu n3 x1 x2 x9 x15 x16
  else
    some x9 := by kernel_rfl
noncomputable def saturateref01_Concat.g (fu : Nat) (a0 : Int) (a1 : Int) (a2 : Int) (a3 : Int) : Option (Int) :=
  (saturateref01_Cut.f a1 a3).bind fun r1 =>
  (saturateref01_W.f a0).bind fun r2 =>
  saturateref01_Concat.j3 fu fu a1 a2 r1 r2 0
noncomputable def saturateref01_Concat.f (a0 : Int) (a1 : Int) (a2 : Int) (a3 : Int) : Option (Int) := saturateref01_Concat.g (fuel0 + 1) a0 a1 a2 a3
theorem saturateref01_Concat.eq (fu : Nat) (a : Int × Int × Int × Int × Unit) : bodyK Try.prog saturateref01_Concat.cs saturateref01_Concat.live fu Try.f41 (saturateref01_Concat.a.enc a) saturateref01_Concat.r.dec = saturateref01_Concat.g fu a.1 a.2.1 a.2.2.1 a.2.2.2.1 := by kernel_rfl
theorem saturateref01_Concat.con : ∀ (a : Int × Int × Int × Int × Unit) (r : Int), saturateref01_Concat.f a.1 a.2.1 a.2.2.1 a.2.2.2.1 = some r → Contract Try.prog 41 (saturateref01_Concat.a.enc a) (saturateref01_Concat.r.enc r) := Contract.of_body (F := fun (a : Int × Int × Int × Int × Unit) => saturateref01_Concat.f a.1 a.2.1 a.2.2.1 a.2.2.2.1) (fn := Try.f41) (cs := saturateref01_Concat.cs) (live := saturateref01_Concat.live) (fuel := fuel0 + 1) (by kernel_rfl) (by kernel_rfl) mixed (saturateref01_Concat.eq (fuel0 + 1))
noncomputable def saturateref01_Concat.c : Kn Try.prog := Kn.of 41 saturateref01_Concat.a saturateref01_Concat.r (fun a => saturateref01_Concat.f a.1 a.2.1 a.2.2.1 a.2.2.2.1) saturateref01_Concat.con

/-! ### saturateref01_by: function 101 -/
def saturateref01_by.a : ACods (Int × Int × Unit) := (.cons (.val (.int .i64)) (.cons (.val (.int .u64)) .nil))
def saturateref01_by.r : RCod (Int) := .val (.int .i64)
noncomputable def saturateref01_by.cs : List (Kn Try.prog) := [saturateref01_Cut.c]
def saturateref01_by.live : Nat → Option Keep := liveOf []
noncomputable def saturateref01_by.body : Code := bodyOf Try.f101
noncomputable def saturateref01_by.K (fu : Nat) : Code → St → (Ex → St → Option (Int)) → Option (Int) := codeK Try.prog saturateref01_by.cs saturateref01_by.live fu
noncomputable def saturateref01_by.f (a0 : Int) (a1 : Int) : Option (Int) :=
  (saturateref01_Cut.f a0 a1).bind fun r1 =>
  some (IntKind.i64.wrap (mn r1 64))
theorem saturateref01_by.eq (fu : Nat) (a : Int × Int × Unit) : bodyK Try.prog saturateref01_by.cs saturateref01_by.live fu Try.f101 (saturateref01_by.a.enc a) saturateref01_by.r.dec = saturateref01_by.f a.1 a.2.1 := by kernel_rfl
theorem saturateref01_by.con : ∀ (a : Int × Int × Unit) (r : Int), saturateref01_by.f a.1 a.2.1 = some r → Contract Try.prog 101 (saturateref01_by.a.enc a) (saturateref01_by.r.enc r) := Contract.of_body (F := fun (a : Int × Int × Unit) => saturateref01_by.f a.1 a.2.1) (fn := Try.f101) (cs := saturateref01_by.cs) (live := saturateref01_by.live) (fuel := fuel0 + 1) (by kernel_rfl) (by kernel_rfl) mixed (saturateref01_by.eq (fuel0 + 1))
noncomputable def saturateref01_by.c : Kn Try.prog := Kn.of 101 saturateref01_by.a saturateref01_by.r (fun a => saturateref01_by.f a.1 a.2.1) saturateref01_by.con

/-! ### saturateref01_shift: function 100 -/
def saturateref01_shift.a : ACods (Int × Int × Int × Int × Unit) := (.cons (.val (.int .i64)) (.cons (.val (.int .u64)) (.cons (.val (.int .i64)) (.cons (.val (.int .u64)) .nil))))
def saturateref01_shift.r : RCod (Int) := .val (.int .u64)
noncomputable def saturateref01_shift.cs : List (Kn Try.prog) := [saturateref01_W.c, saturateref01_Bit.c]
def saturateref01_shift.live : Nat → Option Keep := liveOf [(7, ⟨[0, 1, 2, 3, 9, 13, 14], [], []⟩), (16, ⟨[0, 1, 2, 3, 9, 10, 11, 13, 14], [], []⟩)]
noncomputable def saturateref01_shift.body : Code := bodyOf Try.f100
noncomputable def saturateref01_shift.K (fu : Nat) : Code → St → (Ex → St → Option (Int)) → Option (Int) := codeK Try.prog saturateref01_shift.cs saturateref01_shift.live fu
noncomputable def saturateref01_shift.j3 (fu : Nat) (n3 : Nat) (x0 : Int) (x1 : Int) (x2 : Int) (x3 : Int) (x9 : Int) (x13 : Int) (x14 : Int) : Option Int :=
  loopK (saturateref01_shift.K fu (sub saturateref01_shift.body [true, true, false, true, false, false])) (saturateref01_shift.live 7) n3 (stOf 37 [(0, .val (.int .i64 x0)), (1, .val (.int .u64 x1)), (2, .val (.int .i64 x2)), (3, .val (.int .u64 x3)), (9, .val (.int .u64 x9)), (13, .val (.int .i64 x13)), (14, .val (.int .i64 x14))] []) (blockC 0 (seqC fu (saturateref01_shift.live 20) (saturateref01_shift.K fu (sub saturateref01_shift.body [true, true, true])) (retC Try.prog Try.f100.results saturateref01_shift.r.dec)))
noncomputable def saturateref01_shift.p8 (m fu : Nat) (n3 : Nat) (x0 : Int) (x1 : Int) (x2 : Int) (x3 : Int) (x9 : Int) (x10 : Int) (x11 : Int) (x13 : Int) (x14 : Int) : Option Int :=
  joinK m (saturateref01_shift.K fu (sub saturateref01_shift.body [true, true, false, true, false, false, true, true, false, false, true, true, true])) (stOf 37 [(0, .val (.int .i64 x0)), (1, .val (.int .u64 x1)), (2, .val (.int .i64 x2)), (3, .val (.int .u64 x3)), (9, .val (.int .u64 x9)), (10, .val (.int .i64 x10)), (11, .val (.int .u64 x11)), (13, .val (.int .i64 x13)), (14, .val (.int .i64 x14))] []) (blockC 1 (seqC fu (saturateref01_shift.live 18) (saturateref01_shift.K fu (sub saturateref01_shift.body [true, true, false, true, false, false, true, true, true])) (roundC (saturateref01_shift.live 7) (loopK (saturateref01_shift.K fu (sub saturateref01_shift.body [true, true, false, true, false, false])) (saturateref01_shift.live 7) n3) (blockC 0 (seqC fu (saturateref01_shift.live 20) (saturateref01_shift.K fu (sub saturateref01_shift.body [true, true, true])) (retC Try.prog Try.f100.results saturateref01_shift.r.dec))))))
theorem saturateref01_shift.p8_eq (m fu : Nat) (n3 : Nat) (x0 : Int) (x1 : Int) (x2 : Int) (x3 : Int) (x9 : Int) (x10 : Int) (x11 : Int) (x13 : Int) (x14 : Int) : saturateref01_shift.p8 (m + 1) fu n3 x0 x1 x2 x3 x9 x10 x11 x13 x14 =
  bif decide ((IntKind.u64.wrap x10) < 0) then
    none
  else
    saturateref01_shift.j3 fu n3 x0 x1 x2 x3 (Go.bits .or .u64 x9 (shl .u64 x11 (IntKind.u64.wrap x10))) x13 (IntKind.i64.wrap (x14 + 1)) := by kernel_rfl
theorem saturateref01_shift.j3_succ (fu : Nat) (n3 : Nat) (x0 : Int) (x1 : Int) (x2 : Int) (x3 : Int) (x9 : Int) (x13 : Int) (x14 : Int) : saturateref01_shift.j3 fu (n3 + 1) x0 x1 x2 x3 x9 x13 x14 =
  bif (decide (x14 < x13)) then
    (saturateref01_W.f x0).bind fun r2 =>
    bif (decide ((IntKind.i64.wrap (x14 + x2)) < r2)) then
      (saturateref01_Bit.f x1 (IntKind.i64.wrap (x14 + x2))).bind fun r3 =>
      saturateref01_shift.p8 fu fu n3 x0 x1 x2 x3 x9 x14 r3 x13 x14
    else
      saturateref01_shift.p8 fu fu n3 x0 x1 x2 x3 x9 x14 x3 x13 x14
  else
    some x9 := by kernel_rfl
noncomputable def saturateref01_shift.g (fu : Nat) (a0 : Int) (a1 : Int) (a2 : Int) (a3 : Int) : Option (Int) :=
  (saturateref01_W.f a0).bind fun r1 =>
  saturateref01_shift.j3 fu fu a0 a1 a2 a3 0 r1 0
noncomputable def saturateref01_shift.f (a0 : Int) (a1 : Int) (a2 : Int) (a3 : Int) : Option (Int) := saturateref01_shift.g (fuel0 + 1) a0 a1 a2 a3
theorem saturateref01_shift.eq (fu : Nat) (a : Int × Int × Int × Int × Unit) : bodyK Try.prog saturateref01_shift.cs saturateref01_shift.live fu Try.f100 (saturateref01_shift.a.enc a) saturateref01_shift.r.dec = saturateref01_shift.g fu a.1 a.2.1 a.2.2.1 a.2.2.2.1 := by kernel_rfl
theorem saturateref01_shift.con : ∀ (a : Int × Int × Int × Int × Unit) (r : Int), saturateref01_shift.f a.1 a.2.1 a.2.2.1 a.2.2.2.1 = some r → Contract Try.prog 100 (saturateref01_shift.a.enc a) (saturateref01_shift.r.enc r) := Contract.of_body (F := fun (a : Int × Int × Int × Int × Unit) => saturateref01_shift.f a.1 a.2.1 a.2.2.1 a.2.2.2.1) (fn := Try.f100) (cs := saturateref01_shift.cs) (live := saturateref01_shift.live) (fuel := fuel0 + 1) (by kernel_rfl) (by kernel_rfl) mixed (saturateref01_shift.eq (fuel0 + 1))
noncomputable def saturateref01_shift.c : Kn Try.prog := Kn.of 100 saturateref01_shift.a saturateref01_shift.r (fun a => saturateref01_shift.f a.1 a.2.1 a.2.2.1 a.2.2.2.1) saturateref01_shift.con

/-! ### saturateref01_Lshr: function 60 -/
def saturateref01_Lshr.a : ACods (Int × Int × Int × Unit) := (.cons (.val (.int .i64)) (.cons (.val (.int .u64)) (.cons (.val (.int .u64)) .nil)))
def saturateref01_Lshr.r : RCod (Int) := .val (.int .u64)
noncomputable def saturateref01_Lshr.cs : List (Kn Try.prog) := [saturateref01_by.c, saturateref01_shift.c]
def saturateref01_Lshr.live : Nat → Option Keep := liveOf []
noncomputable def saturateref01_Lshr.body : Code := bodyOf Try.f60
noncomputable def saturateref01_Lshr.K (fu : Nat) : Code → St → (Ex → St → Option (Int)) → Option (Int) := codeK Try.prog saturateref01_Lshr.cs saturateref01_Lshr.live fu
noncomputable def saturateref01_Lshr.f (a0 : Int) (a1 : Int) (a2 : Int) : Option (Int) :=
  (saturateref01_by.f a0 a2).bind fun r1 =>
  (saturateref01_shift.f a0 a1 r1 0).bind fun r2 =>
  some r2
theorem saturateref01_Lshr.eq (fu : Nat) (a : Int × Int × Int × Unit) : bodyK Try.prog saturateref01_Lshr.cs saturateref01_Lshr.live fu Try.f60 (saturateref01_Lshr.a.enc a) saturateref01_Lshr.r.dec = saturateref01_Lshr.f a.1 a.2.1 a.2.2.1 := by kernel_rfl
theorem saturateref01_Lshr.con : ∀ (a : Int × Int × Int × Unit) (r : Int), saturateref01_Lshr.f a.1 a.2.1 a.2.2.1 = some r → Contract Try.prog 60 (saturateref01_Lshr.a.enc a) (saturateref01_Lshr.r.enc r) := Contract.of_body (F := fun (a : Int × Int × Int × Unit) => saturateref01_Lshr.f a.1 a.2.1 a.2.2.1) (fn := Try.f60) (cs := saturateref01_Lshr.cs) (live := saturateref01_Lshr.live) (fuel := fuel0 + 1) (by kernel_rfl) (by kernel_rfl) mixed (saturateref01_Lshr.eq (fuel0 + 1))
noncomputable def saturateref01_Lshr.c : Kn Try.prog := Kn.of 60 saturateref01_Lshr.a saturateref01_Lshr.r (fun a => saturateref01_Lshr.f a.1 a.2.1 a.2.2.1) saturateref01_Lshr.con

/-! ### saturateref13_extract: function 42 -/
def saturateref13_extract.a : ACods (Int × Int × Int × (Int × Int) × Unit) := (.cons (.val (.int .i64)) (.cons (.val (.int .u64)) (.cons (.val (.int .i64)) (.cons (.val (.agg (.cons (.int .u64) (.one (.int .u64))))) .nil))))
def saturateref13_extract.r : RCod (Int × Int) := .val (.agg (.cons (.int .u64) (.one (.int .u64))))
noncomputable def saturateref13_extract.cs : List (Kn Try.prog) := [saturateref01_Mask.c, saturateref01_Lshr.c, saturateref13_Top.c]
def saturateref13_extract.live : Nat → Option Keep := liveOf [(6, ⟨[0, 1, 2, 7, 8], [7, 8], []⟩)]
noncomputable def saturateref13_extract.body : Code := bodyOf Try.f42
noncomputable def saturateref13_extract.K (fu : Nat) : Code → St → (Ex → St → Option (Int × Int)) → Option (Int × Int) := codeK Try.prog saturateref13_extract.cs saturateref13_extract.live fu
noncomputable def saturateref13_extract.p3 (m fu : Nat) (x0 : Int) (x1 : Int) (x2 : Int) (c7_0 : Int) (c7_1 : Int) : Option (Int × Int) :=
  joinK m (saturateref13_extract.K fu (sub saturateref13_extract.body [true, true])) (stOf 39 [(0, .val (.int .i64 x0)), (1, .val (.int .u64 x1)), (2, .val (.int .i64 x2)), (7, .ptr 7 0 0 0), (8, .ptr 8 0 0 0)] [(7, .own [.val (.int .u64 c7_0), .val (.int .u64 c7_1)]), (8, .own [.val (.int .u64 0), .val (.int .u64 0)])]) (retC Try.prog Try.f42.results saturateref13_extract.r.dec)
theorem saturateref13_extract.p3_eq (m fu : Nat) (x0 : Int) (x1 : Int) (x2 : Int) (c7_0 : Int) (c7_1 : Int) : saturateref13_extract.p3 (m + 1) fu x0 x1 x2 c7_0 c7_1 =
  bif ((IntKind.u64.wrap (x1 + (IntKind.u64.wrap x0))) == (IntKind.u64.wrap x2)) then
    (saturateref01_Lshr.f x2 c7_0 x1).bind fun r2 =>
    (saturateref01_Lshr.f x2 c7_1 x1).bind fun r3 =>
    some (r2, r3)
  else
    (saturateref13_Top.f x0).bind fun r4 =>
    some (r4.1, r4.2) := by kernel_rfl
noncomputable def saturateref13_extract.g (fu : Nat) (a0 : Int) (a1 : Int) (a2 : Int) (a3 : Int × Int) : Option (Int × Int) :=
  bif (a1 == 0) then
    (saturateref01_Mask.f a0).bind fun r1 =>
    bif (decide (a3.2 ≤ r1)) then
      some (a3.1, a3.2)
    else
      saturateref13_extract.p3 fu fu a0 a1 a2 a3.1 a3.2
  else
    saturateref13_extract.p3 fu fu a0 a1 a2 a3.1 a3.2
noncomputable def saturateref13_extract.f (a0 : Int) (a1 : Int) (a2 : Int) (a3 : Int × Int) : Option (Int × Int) := saturateref13_extract.g (fuel0 + 1) a0 a1 a2 a3
theorem saturateref13_extract.eq (fu : Nat) (a : Int × Int × Int × (Int × Int) × Unit) : bodyK Try.prog saturateref13_extract.cs saturateref13_extract.live fu Try.f42 (saturateref13_extract.a.enc a) saturateref13_extract.r.dec = saturateref13_extract.g fu a.1 a.2.1 a.2.2.1 a.2.2.2.1 := by kernel_rfl
theorem saturateref13_extract.con : ∀ (a : Int × Int × Int × (Int × Int) × Unit) (r : Int × Int), saturateref13_extract.f a.1 a.2.1 a.2.2.1 a.2.2.2.1 = some r → Contract Try.prog 42 (saturateref13_extract.a.enc a) (saturateref13_extract.r.enc r) := Contract.of_body (F := fun (a : Int × Int × Int × (Int × Int) × Unit) => saturateref13_extract.f a.1 a.2.1 a.2.2.1 a.2.2.2.1) (fn := Try.f42) (cs := saturateref13_extract.cs) (live := saturateref13_extract.live) (fuel := fuel0 + 1) (by kernel_rfl) (by kernel_rfl) mixed (saturateref13_extract.eq (fuel0 + 1))
noncomputable def saturateref13_extract.c : Kn Try.prog := Kn.of 42 saturateref13_extract.a saturateref13_extract.r (fun a => saturateref13_extract.f a.1 a.2.1 a.2.2.1 a.2.2.2.1) saturateref13_extract.con

/-! ### saturateref13_half: function 79 -/
def saturateref13_half.a : ACods (Int × Unit) := (.cons (.val (.int .i64)) .nil)
def saturateref13_half.r : RCod (Int) := .val (.int .u64)
noncomputable def saturateref13_half.cs : List (Kn Try.prog) := [saturateref01_Mask.c]
def saturateref13_half.live : Nat → Option Keep := liveOf []
noncomputable def saturateref13_half.body : Code := bodyOf Try.f79
noncomputable def saturateref13_half.K (fu : Nat) : Code → St → (Ex → St → Option (Int)) → Option (Int) := codeK Try.prog saturateref13_half.cs saturateref13_half.live fu
noncomputable def saturateref13_half.f (a0 : Int) : Option (Int) :=
  (saturateref01_Mask.f a0).bind fun r1 =>
  some (IntKind.u64.wrap ((IntKind.u64.wrap (Int.tdiv r1 2)) + 1))
theorem saturateref13_half.eq (fu : Nat) (a : Int × Unit) : bodyK Try.prog saturateref13_half.cs saturateref13_half.live fu Try.f79 (saturateref13_half.a.enc a) saturateref13_half.r.dec = saturateref13_half.f a.1 := by kernel_rfl
theorem saturateref13_half.con : ∀ (a : Int × Unit) (r : Int), saturateref13_half.f a.1 = some r → Contract Try.prog 79 (saturateref13_half.a.enc a) (saturateref13_half.r.enc r) := Contract.of_body (F := fun (a : Int × Unit) => saturateref13_half.f a.1) (fn := Try.f79) (cs := saturateref13_half.cs) (live := saturateref13_half.live) (fuel := fuel0 + 1) (by kernel_rfl) (by kernel_rfl) mixed (saturateref13_half.eq (fuel0 + 1))
noncomputable def saturateref13_half.c : Kn Try.prog := Kn.of 79 saturateref13_half.a saturateref13_half.r (fun a => saturateref13_half.f a.1) saturateref13_half.con

/-! ### saturateref01_Sext: function 80 -/
def saturateref01_Sext.a : ACods (Int × Int × Int × Unit) := (.cons (.val (.int .i64)) (.cons (.val (.int .i64)) (.cons (.val (.int .u64)) .nil)))
def saturateref01_Sext.r : RCod (Int) := .val (.int .u64)
noncomputable def saturateref01_Sext.cs : List (Kn Try.prog) := [saturateref01_W.c, saturateref01_Bit.c]
def saturateref01_Sext.live : Nat → Option Keep := liveOf [(7, ⟨[0, 2, 7, 10, 11], [], []⟩)]
noncomputable def saturateref01_Sext.body : Code := bodyOf Try.f80
noncomputable def saturateref01_Sext.K (fu : Nat) : Code → St → (Ex → St → Option (Int)) → Option (Int) := codeK Try.prog saturateref01_Sext.cs saturateref01_Sext.live fu
noncomputable def saturateref01_Sext.j3 (fu : Nat) (n3 : Nat) (x0 : Int) (x2 : Int) (x7 : Int) (x10 : Int) (x11 : Int) : Option Int :=
  loopK (saturateref01_Sext.K fu (sub saturateref01_Sext.body [true, true, false, true, false, false])) (saturateref01_Sext.live 7) n3 (stOf 28 [(0, .val (.int .i64 x0)), (2, .val (.int .u64 x2)), (7, .val (.int .u64 x7)), (10, .val (.int .i64 x10)), (11, .val (.int .i64 x11))] []) (blockC 0 (seqC fu (saturateref01_Sext.live 14) (saturateref01_Sext.K fu (sub saturateref01_Sext.body [true, true, true])) (retC Try.prog Try.f80.results saturateref01_Sext.r.dec)))
theorem saturateref01_Sext.j3_succ (fu : Nat) (n3 : Nat) (x0 : Int) (x2 : Int) (x7 : Int) (x10 : Int) (x11 : Int) : saturateref01_Sext.j3 fu (n3 + 1) x0 x2 x7 x10 x11 =
  bif (decide (x11 < x10)) then
    (saturateref01_W.f x0).bind fun r2 =>
    (saturateref01_Bit.f x2 (mn x11 (IntKind.i64.wrap (r2 - 1)))).bind fun r3 =>
    bif decide ((IntKind.u64.wrap x11) < 0) then
      none
    else
      saturateref01_Sext.j3 fu n3 x0 x2 (Go.bits .or .u64 x7 (shl .u64 r3 (IntKind.u64.wrap x11))) x10 (IntKind.i64.wrap (x11 + 1))
  else
    some x7 := by kernel_rfl
noncomputable def saturateref01_Sext.g (fu : Nat) (a0 : Int) (a1 : Int) (a2 : Int) : Option (Int) :=
  (saturateref01_W.f a1).bind fun r1 =>
  saturateref01_Sext.j3 fu fu a0 a2 0 r1 0
noncomputable def saturateref01_Sext.f (a0 : Int) (a1 : Int) (a2 : Int) : Option (Int) := saturateref01_Sext.g (fuel0 + 1) a0 a1 a2
theorem saturateref01_Sext.eq (fu : Nat) (a : Int × Int × Int × Unit) : bodyK Try.prog saturateref01_Sext.cs saturateref01_Sext.live fu Try.f80 (saturateref01_Sext.a.enc a) saturateref01_Sext.r.dec = saturateref01_Sext.g fu a.1 a.2.1 a.2.2.1 := by kernel_rfl
theorem saturateref01_Sext.con : ∀ (a : Int × Int × Int × Unit) (r : Int), saturateref01_Sext.f a.1 a.2.1 a.2.2.1 = some r → Contract Try.prog 80 (saturateref01_Sext.a.enc a) (saturateref01_Sext.r.enc r) := Contract.of_body (F := fun (a : Int × Int × Int × Unit) => saturateref01_Sext.f a.1 a.2.1 a.2.2.1) (fn := Try.f80) (cs := saturateref01_Sext.cs) (live := saturateref01_Sext.live) (fuel := fuel0 + 1) (by kernel_rfl) (by kernel_rfl) mixed (saturateref01_Sext.eq (fuel0 + 1))
noncomputable def saturateref01_Sext.c : Kn Try.prog := Kn.of 80 saturateref01_Sext.a saturateref01_Sext.r (fun a => saturateref01_Sext.f a.1 a.2.1 a.2.2.1) saturateref01_Sext.con

/-! ### saturateref13_sext: function 43 -/
def saturateref13_sext.a : ACods (Int × Int × (Int × Int) × Unit) := (.cons (.val (.int .i64)) (.cons (.val (.int .i64)) (.cons (.val (.agg (.cons (.int .u64) (.one (.int .u64))))) .nil)))
def saturateref13_sext.r : RCod (Int × Int) := .val (.agg (.cons (.int .u64) (.one (.int .u64))))
noncomputable def saturateref13_sext.cs : List (Kn Try.prog) := [saturateref13_half.c, saturateref01_Sext.c, saturateref13_Top.c]
def saturateref13_sext.live : Nat → Option Keep := liveOf []
noncomputable def saturateref13_sext.body : Code := bodyOf Try.f43
noncomputable def saturateref13_sext.K (fu : Nat) : Code → St → (Ex → St → Option (Int × Int)) → Option (Int × Int) := codeK Try.prog saturateref13_sext.cs saturateref13_sext.live fu
noncomputable def saturateref13_sext.f (a0 : Int) (a1 : Int) (a2 : Int × Int) : Option (Int × Int) :=
  (saturateref13_half.f a1).bind fun r1 =>
  bif (decide (a2.2 < r1)) then
    some (a2.1, a2.2)
  else
    (saturateref13_half.f a1).bind fun r2 =>
    bif (decide (a2.1 ≥ r2)) then
      (saturateref01_Sext.f a1 a0 a2.1).bind fun r3 =>
      (saturateref01_Sext.f a1 a0 a2.2).bind fun r4 =>
      some (r3, r4)
    else
      (saturateref13_Top.f a0).bind fun r5 =>
      some (r5.1, r5.2)
theorem saturateref13_sext.eq (fu : Nat) (a : Int × Int × (Int × Int) × Unit) : bodyK Try.prog saturateref13_sext.cs saturateref13_sext.live fu Try.f43 (saturateref13_sext.a.enc a) saturateref13_sext.r.dec = saturateref13_sext.f a.1 a.2.1 a.2.2.1 := by kernel_rfl
theorem saturateref13_sext.con : ∀ (a : Int × Int × (Int × Int) × Unit) (r : Int × Int), saturateref13_sext.f a.1 a.2.1 a.2.2.1 = some r → Contract Try.prog 43 (saturateref13_sext.a.enc a) (saturateref13_sext.r.enc r) := Contract.of_body (F := fun (a : Int × Int × (Int × Int) × Unit) => saturateref13_sext.f a.1 a.2.1 a.2.2.1) (fn := Try.f43) (cs := saturateref13_sext.cs) (live := saturateref13_sext.live) (fuel := fuel0 + 1) (by kernel_rfl) (by kernel_rfl) mixed (saturateref13_sext.eq (fuel0 + 1))
noncomputable def saturateref13_sext.c : Kn Try.prog := Kn.of 43 saturateref13_sext.a saturateref13_sext.r (fun a => saturateref13_sext.f a.1 a.2.1 a.2.2.1) saturateref13_sext.con

/-! ### saturateref13_Fill: function 26 -/
def saturateref13_Fill.a : ACods (Int × Unit) := (.cons (.val (.int .u64)) .nil)
def saturateref13_Fill.r : RCod (Int) := .val (.int .u64)
noncomputable def saturateref13_Fill.cs : List (Kn Try.prog) := []
def saturateref13_Fill.live : Nat → Option Keep := liveOf [(5, ⟨[0, 3], [], []⟩)]
noncomputable def saturateref13_Fill.body : Code := bodyOf Try.f26
noncomputable def saturateref13_Fill.K (fu : Nat) : Code → St → (Ex → St → Option (Int)) → Option (Int) := codeK Try.prog saturateref13_Fill.cs saturateref13_Fill.live fu
noncomputable def saturateref13_Fill.j2 (fu : Nat) (n2 : Nat) (x0 : Int) (x3 : Int) : Option Int :=
  loopK (saturateref13_Fill.K fu (sub saturateref13_Fill.body [true, true, false, false, false])) (saturateref13_Fill.live 5) n2 (stOf 11 [(0, .val (.int .u64 x0)), (3, .val (.int .u64 x3))] []) (blockC 0 (seqC fu (saturateref13_Fill.live 8) (saturateref13_Fill.K fu (sub saturateref13_Fill.body [true, true, true])) (retC Try.prog Try.f26.results saturateref13_Fill.r.dec)))
theorem saturateref13_Fill.j2_succ (fu : Nat) (n2 : Nat) (x0 : Int) (x3 : Int) : saturateref13_Fill.j2 fu (n2 + 1) x0 x3 =
  bif (decide (x3 < x0)) then
    saturateref13_Fill.j2 fu n2 x0 (IntKind.u64.wrap ((IntKind.u64.wrap (x3 * 2)) + 1))
  else
    some x3 := by kernel_rfl
noncomputable def saturateref13_Fill.g (fu : Nat) (a0 : Int) : Option (Int) :=
  saturateref13_Fill.j2 fu fu a0 0
noncomputable def saturateref13_Fill.f (a0 : Int) : Option (Int) := saturateref13_Fill.g (fuel0 + 1) a0
theorem saturateref13_Fill.eq (fu : Nat) (a : Int × Unit) : bodyK Try.prog saturateref13_Fill.cs saturateref13_Fill.live fu Try.f26 (saturateref13_Fill.a.enc a) saturateref13_Fill.r.dec = saturateref13_Fill.g fu a.1 := by kernel_rfl
theorem saturateref13_Fill.con : ∀ (a : Int × Unit) (r : Int), saturateref13_Fill.f a.1 = some r → Contract Try.prog 26 (saturateref13_Fill.a.enc a) (saturateref13_Fill.r.enc r) := Contract.of_body (F := fun (a : Int × Unit) => saturateref13_Fill.f a.1) (fn := Try.f26) (cs := saturateref13_Fill.cs) (live := saturateref13_Fill.live) (fuel := fuel0 + 1) (by kernel_rfl) (by kernel_rfl) mixed (saturateref13_Fill.eq (fuel0 + 1))
noncomputable def saturateref13_Fill.c : Kn Try.prog := Kn.of 26 saturateref13_Fill.a saturateref13_Fill.r (fun a => saturateref13_Fill.f a.1) saturateref13_Fill.con

/-! ### saturateref13_over: function 114 -/
def saturateref13_over.a : ACods (Int × Int × Int × Unit) := (.cons (.val (.int .u64)) (.cons (.val (.int .u64)) (.cons (.val (.int .u64)) .nil)))
def saturateref13_over.r : RCod (Bool) := .val (.bool)
noncomputable def saturateref13_over.cs : List (Kn Try.prog) := []
def saturateref13_over.live : Nat → Option Keep := liveOf []
noncomputable def saturateref13_over.body : Code := bodyOf Try.f114
noncomputable def saturateref13_over.K (fu : Nat) : Code → St → (Ex → St → Option (Bool)) → Option (Bool) := codeK Try.prog saturateref13_over.cs saturateref13_over.live fu
noncomputable def saturateref13_over.f (a0 : Int) (a1 : Int) (a2 : Int) : Option (Bool) :=
  some (decide (a1 > (IntKind.u64.wrap (a0 - a2))))
theorem saturateref13_over.eq (fu : Nat) (a : Int × Int × Int × Unit) : bodyK Try.prog saturateref13_over.cs saturateref13_over.live fu Try.f114 (saturateref13_over.a.enc a) saturateref13_over.r.dec = saturateref13_over.f a.1 a.2.1 a.2.2.1 := by kernel_rfl
theorem saturateref13_over.con : ∀ (a : Int × Int × Int × Unit) (r : Bool), saturateref13_over.f a.1 a.2.1 a.2.2.1 = some r → Contract Try.prog 114 (saturateref13_over.a.enc a) (saturateref13_over.r.enc r) := Contract.of_body (F := fun (a : Int × Int × Int × Unit) => saturateref13_over.f a.1 a.2.1 a.2.2.1) (fn := Try.f114) (cs := saturateref13_over.cs) (live := saturateref13_over.live) (fuel := fuel0 + 1) (by kernel_rfl) (by kernel_rfl) mixed (saturateref13_over.eq (fuel0 + 1))
noncomputable def saturateref13_over.c : Kn Try.prog := Kn.of 114 saturateref13_over.a saturateref13_over.r (fun a => saturateref13_over.f a.1 a.2.1 a.2.2.1) saturateref13_over.con
end Go.Proofs.Ytchahcaccneinaa.Fn
