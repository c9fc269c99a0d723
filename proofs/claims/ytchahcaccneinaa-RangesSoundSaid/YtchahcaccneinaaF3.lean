/- What the functions return, as the evaluator tells it: written by a program of this workplace (mev.py); Lean checks each equation. -/
import Derived.Test.YtchahcaccneinaaProg
import Derived.Test.YtchahcaccneinaaEvC
import Derived.Test.YtchahcaccneinaaF2
namespace Go.Proofs.Ytchahcaccneinaa.Fn
open Go Go.RowKit Go.Proofs.Ytchahcaccneinaa.Ev Go.Proofs
set_option linter.unusedVariables false
set_option maxRecDepth 100000
/-! ### saturateref01_Negative: function 115 -/
def saturateref01_Negative.a : ACods (Int × Int × Unit) := (.cons (.val (.int .i64)) (.cons (.val (.int .u64)) .nil))
def saturateref01_Negative.r : RCod (Bool) := .val (.bool)
noncomputable def saturateref01_Negative.cs : List (Kn Try.prog) := [saturateref01_W.c, saturateref01_Bit.c]
def saturateref01_Negative.live : Nat → Option Keep := liveOf []
noncomputable def saturateref01_Negative.body : Code := bodyOf Try.f115
noncomputable def saturateref01_Negative.K (fu : Nat) : Code → St → (Ex → St → Option (Bool)) → Option (Bool) := codeK Try.prog saturateref01_Negative.cs saturateref01_Negative.live fu
noncomputable def saturateref01_Negative.f (a0 : Int) (a1 : Int) : Option (Bool) :=
  (saturateref01_W.f a0).bind fun r1 =>
  (saturateref01_Bit.f a1 (IntKind.i64.wrap (r1 - 1))).bind fun r2 =>
  some (r2 == 1)
theorem saturateref01_Negative.eq (fu : Nat) (a : Int × Int × Unit) : bodyK Try.prog saturateref01_Negative.cs saturateref01_Negative.live fu Try.f115 (saturateref01_Negative.a.enc a) saturateref01_Negative.r.dec = saturateref01_Negative.f a.1 a.2.1 := by kernel_rfl
theorem saturateref01_Negative.con : ∀ (a : Int × Int × Unit) (r : Bool), saturateref01_Negative.f a.1 a.2.1 = some r → Contract Try.prog 115 (saturateref01_Negative.a.enc a) (saturateref01_Negative.r.enc r) := Contract.of_body (F := fun (a : Int × Int × Unit) => saturateref01_Negative.f a.1 a.2.1) (fn := Try.f115) (cs := saturateref01_Negative.cs) (live := saturateref01_Negative.live) (fuel := fuel0 + 1) (by kernel_rfl) (by kernel_rfl) mixed (saturateref01_Negative.eq (fuel0 + 1))
noncomputable def saturateref01_Negative.c : Kn Try.prog := Kn.of 115 saturateref01_Negative.a saturateref01_Negative.r (fun a => saturateref01_Negative.f a.1 a.2.1) saturateref01_Negative.con

/-! ### saturateref01_Signed: function 103 -/
def saturateref01_Signed.a : ACods (Int × Int × Unit) := (.cons (.val (.int .i64)) (.cons (.val (.int .u64)) .nil))
def saturateref01_Signed.r : RCod (Int) := .val (.int .i64)
noncomputable def saturateref01_Signed.cs : List (Kn Try.prog) := [saturateref01_Cut.c, saturateref01_Negative.c, saturateref01_Mask.c]
def saturateref01_Signed.live : Nat → Option Keep := liveOf []
noncomputable def saturateref01_Signed.body : Code := bodyOf Try.f103
noncomputable def saturateref01_Signed.K (fu : Nat) : Code → St → (Ex → St → Option (Int)) → Option (Int) := codeK Try.prog saturateref01_Signed.cs saturateref01_Signed.live fu
noncomputable def saturateref01_Signed.f (a0 : Int) (a1 : Int) : Option (Int) :=
  (saturateref01_Cut.f a0 a1).bind fun r1 =>
  (saturateref01_Negative.f a0 a1).bind fun r2 =>
  bif r2 then
    (saturateref01_Mask.f a0).bind fun r3 =>
    some (IntKind.i64.wrap ((IntKind.i64.wrap (0 - (IntKind.i64.wrap (IntKind.u64.wrap (r3 - r1))))) - 1))
  else
    some (IntKind.i64.wrap r1)
theorem saturateref01_Signed.eq (fu : Nat) (a : Int × Int × Unit) : bodyK Try.prog saturateref01_Signed.cs saturateref01_Signed.live fu Try.f103 (saturateref01_Signed.a.enc a) saturateref01_Signed.r.dec = saturateref01_Signed.f a.1 a.2.1 := by kernel_rfl
theorem saturateref01_Signed.con : ∀ (a : Int × Int × Unit) (r : Int), saturateref01_Signed.f a.1 a.2.1 = some r → Contract Try.prog 103 (saturateref01_Signed.a.enc a) (saturateref01_Signed.r.enc r) := Contract.of_body (F := fun (a : Int × Int × Unit) => saturateref01_Signed.f a.1 a.2.1) (fn := Try.f103) (cs := saturateref01_Signed.cs) (live := saturateref01_Signed.live) (fuel := fuel0 + 1) (by kernel_rfl) (by kernel_rfl) mixed (saturateref01_Signed.eq (fuel0 + 1))
noncomputable def saturateref01_Signed.c : Kn Try.prog := Kn.of 103 saturateref01_Signed.a saturateref01_Signed.r (fun a => saturateref01_Signed.f a.1 a.2.1) saturateref01_Signed.con

/-! ### saturateref01_Slt: function 64 -/
def saturateref01_Slt.a : ACods (Int × Int × Int × Unit) := (.cons (.val (.int .i64)) (.cons (.val (.int .u64)) (.cons (.val (.int .u64)) .nil)))
def saturateref01_Slt.r : RCod (Int) := .val (.int .u64)
noncomputable def saturateref01_Slt.cs : List (Kn Try.prog) := [saturateref01_Signed.c, saturateref01_truth.c]
def saturateref01_Slt.live : Nat → Option Keep := liveOf []
noncomputable def saturateref01_Slt.body : Code := bodyOf Try.f64
noncomputable def saturateref01_Slt.K (fu : Nat) : Code → St → (Ex → St → Option (Int)) → Option (Int) := codeK Try.prog saturateref01_Slt.cs saturateref01_Slt.live fu
noncomputable def saturateref01_Slt.f (a0 : Int) (a1 : Int) (a2 : Int) : Option (Int) :=
  (saturateref01_Signed.f a0 a1).bind fun r1 =>
  (saturateref01_Signed.f a0 a2).bind fun r2 =>
  (saturateref01_truth.f (decide (r1 < r2))).bind fun r3 =>
  some r3
theorem saturateref01_Slt.eq (fu : Nat) (a : Int × Int × Int × Unit) : bodyK Try.prog saturateref01_Slt.cs saturateref01_Slt.live fu Try.f64 (saturateref01_Slt.a.enc a) saturateref01_Slt.r.dec = saturateref01_Slt.f a.1 a.2.1 a.2.2.1 := by kernel_rfl
theorem saturateref01_Slt.con : ∀ (a : Int × Int × Int × Unit) (r : Int), saturateref01_Slt.f a.1 a.2.1 a.2.2.1 = some r → Contract Try.prog 64 (saturateref01_Slt.a.enc a) (saturateref01_Slt.r.enc r) := Contract.of_body (F := fun (a : Int × Int × Int × Unit) => saturateref01_Slt.f a.1 a.2.1 a.2.2.1) (fn := Try.f64) (cs := saturateref01_Slt.cs) (live := saturateref01_Slt.live) (fuel := fuel0 + 1) (by kernel_rfl) (by kernel_rfl) mixed (saturateref01_Slt.eq (fuel0 + 1))
noncomputable def saturateref01_Slt.c : Kn Try.prog := Kn.of 64 saturateref01_Slt.a saturateref01_Slt.r (fun a => saturateref01_Slt.f a.1 a.2.1 a.2.2.1) saturateref01_Slt.con

/-! ### saturateref13_Value: function 15 -/
def saturateref13_Value.a : ACods (Int × Int × Int × (Nat × (Nat → Int)) × (Nat × (Nat → Int)) × Unit) := (.cons (.val (.int .i64)) (.cons (.val (.int .i64)) (.cons (.val (.int .u64)) (.cons (.rows (.int1 .i64)) (.cons (.rows (.int1 .u64)) .nil)))))
def saturateref13_Value.r : RCod (Int) := .val (.int .u64)
noncomputable def saturateref13_Value.cs : List (Kn Try.prog) := [saturateref13_one.c, saturateref01_And.c, saturateref01_Or.c, saturateref01_Xor.c, saturateref01_Add.c, saturateref01_Sub.c, saturateref01_Mul.c, saturateref01_Udiv.c, saturateref01_Urem.c, saturateref01_Shl.c, saturateref01_Lshr.c, saturateref01_Ashr.c, saturateref01_Eq.c, saturateref01_Ult.c, saturateref01_Slt.c, saturateref01_Concat.c]
def saturateref13_Value.live : Nat → Option Keep := liveOf []
noncomputable def saturateref13_Value.body : Code := bodyOf Try.f15
noncomputable def saturateref13_Value.K (fu : Nat) : Code → St → (Ex → St → Option (Int)) → Option (Int) := codeK Try.prog saturateref13_Value.cs saturateref13_Value.live fu
noncomputable def saturateref13_Value.f (a0 : Int) (a1 : Int) (a2 : Int) (a3 : Nat × (Nat → Int)) (a4 : Nat × (Nat → Int)) : Option (Int) :=
  bif ((a4.1 : Int) != 2) then
    (saturateref13_one.f a0 a1 a2 (a3.1, a3.2) (a4.1, a4.2)).bind fun r1 =>
    some r1
  else
    bif decide ((0 : Int) < (a3.1 : Int)) then
      bif (a0 == 5) then
        bif decide ((0 : Int) < (a4.1 : Int)) then
          bif decide ((1 : Int) < (a4.1 : Int)) then
            (saturateref01_And.f (a3.2 0) (a4.2 0) (a4.2 1)).bind fun r2 =>
            some r2
          else
            none
        else
          none
      else
        bif (a0 == 6) then
          bif decide ((0 : Int) < (a4.1 : Int)) then
            bif decide ((1 : Int) < (a4.1 : Int)) then
              (saturateref01_Or.f (a3.2 0) (a4.2 0) (a4.2 1)).bind fun r3 =>
              some r3
            else
              none
          else
            none
        else
          bif (a0 == 7) then
            bif decide ((0 : Int) < (a4.1 : Int)) then
              bif decide ((1 : Int) < (a4.1 : Int)) then
                (saturateref01_Xor.f (a3.2 0) (a4.2 0) (a4.2 1)).bind fun r4 =>
                some r4
              else
                none
            else
              none
          else
            bif (a0 == 8) then
              bif decide ((0 : Int) < (a4.1 : Int)) then
                bif decide ((1 : Int) < (a4.1 : Int)) then
                  (saturateref01_Add.f (a3.2 0) (a4.2 0) (a4.2 1)).bind fun r5 =>
                  some r5
                else
                  none
              else
                none
            else
              bif (a0 == 9) then
                bif decide ((0 : Int) < (a4.1 : Int)) then
                  bif decide ((1 : Int) < (a4.1 : Int)) then
                    (saturateref01_Sub.f (a3.2 0) (a4.2 0) (a4.2 1)).bind fun r6 =>
                    some r6
                  else
                    none
                else
                  none
              else
                bif (a0 == 10) then
                  bif decide ((0 : Int) < (a4.1 : Int)) then
                    bif decide ((1 : Int) < (a4.1 : Int)) then
                      (saturateref01_Mul.f (a3.2 0) (a4.2 0) (a4.2 1)).bind fun r7 =>
                      some r7
                    else
                      none
                  else
                    none
                else
                  bif (a0 == 11) then
                    bif decide ((0 : Int) < (a4.1 : Int)) then
                      bif decide ((1 : Int) < (a4.1 : Int)) then
                        (saturateref01_Udiv.f (a3.2 0) (a4.2 0) (a4.2 1)).bind fun r8 =>
                        some r8
                      else
                        none
                    else
                      none
                  else
                    bif (a0 == 12) then
                      bif decide ((0 : Int) < (a4.1 : Int)) then
                        bif decide ((1 : Int) < (a4.1 : Int)) then
                          (saturateref01_Urem.f (a3.2 0) (a4.2 0) (a4.2 1)).bind fun r9 =>
                          some r9
                        else
                          none
                      else
                        none
                    else
                      bif (a0 == 13) then
                        bif decide ((0 : Int) < (a4.1 : Int)) then
                          bif decide ((1 : Int) < (a4.1 : Int)) then
                            (saturateref01_Shl.f (a3.2 0) (a4.2 0) (a4.2 1)).bind fun r10 =>
                            some r10
                          else
                            none
                        else
                          none
                      else
                        bif (a0 == 14) then
                          bif decide ((0 : Int) < (a4.1 : Int)) then
                            bif decide ((1 : Int) < (a4.1 : Int)) then
                              (saturateref01_Lshr.f (a3.2 0) (a4.2 0) (a4.2 1)).bind fun r11 =>
                              some r11
                            else
                              none
                          else
                            none
                        else
                          bif (a0 == 15) then
                            bif decide ((0 : Int) < (a4.1 : Int)) then
                              bif decide ((1 : Int) < (a4.1 : Int)) then
                                (saturateref01_Ashr.f (a3.2 0) (a4.2 0) (a4.2 1)).bind fun r12 =>
                                some r12
                              else
                                none
                            else
                              none
                          else
                            bif (a0 == 16) then
                              bif decide ((0 : Int) < (a4.1 : Int)) then
                                bif decide ((1 : Int) < (a4.1 : Int)) then
                                  (saturateref01_Eq.f (a3.2 0) (a4.2 0) (a4.2 1)).bind fun r13 =>
                                  some r13
                                else
                                  none
                              else
                                none
                            else
                              bif (a0 == 17) then
                                bif decide ((0 : Int) < (a4.1 : Int)) then
                                  bif decide ((1 : Int) < (a4.1 : Int)) then
                                    (saturateref01_Ult.f (a3.2 0) (a4.2 0) (a4.2 1)).bind fun r14 =>
                                    some r14
                                  else
                                    none
                                else
                                  none
                              else
                                bif (a0 == 18) then
                                  bif decide ((0 : Int) < (a4.1 : Int)) then
                                    bif decide ((1 : Int) < (a4.1 : Int)) then
                                      (saturateref01_Slt.f (a3.2 0) (a4.2 0) (a4.2 1)).bind fun r15 =>
                                      some r15
                                    else
                                      none
                                  else
                                    none
                                else
                                  bif decide ((1 : Int) < (a3.1 : Int)) then
                                    bif decide ((0 : Int) < (a4.1 : Int)) then
                                      bif decide ((1 : Int) < (a4.1 : Int)) then
                                        (saturateref01_Concat.f (a3.2 0) (a3.2 1) (a4.2 0) (a4.2 1)).bind fun r16 =>
                                        some r16
                                      else
                                        none
                                    else
                                      none
                                  else
                                    none
    else
      none
theorem saturateref13_Value.eq (fu : Nat) (a : Int × Int × Int × (Nat × (Nat → Int)) × (Nat × (Nat → Int)) × Unit) : bodyK Try.prog saturateref13_Value.cs saturateref13_Value.live fu Try.f15 (saturateref13_Value.a.enc a) saturateref13_Value.r.dec = saturateref13_Value.f a.1 a.2.1 a.2.2.1 a.2.2.2.1 a.2.2.2.2.1 := by kernel_rfl
theorem saturateref13_Value.con : ∀ (a : Int × Int × Int × (Nat × (Nat → Int)) × (Nat × (Nat → Int)) × Unit) (r : Int), saturateref13_Value.f a.1 a.2.1 a.2.2.1 a.2.2.2.1 a.2.2.2.2.1 = some r → Contract Try.prog 15 (saturateref13_Value.a.enc a) (saturateref13_Value.r.enc r) := Contract.of_body (F := fun (a : Int × Int × Int × (Nat × (Nat → Int)) × (Nat × (Nat → Int)) × Unit) => saturateref13_Value.f a.1 a.2.1 a.2.2.1 a.2.2.2.1 a.2.2.2.2.1) (fn := Try.f15) (cs := saturateref13_Value.cs) (live := saturateref13_Value.live) (fuel := fuel0 + 1) (by kernel_rfl) (by kernel_rfl) mixed (saturateref13_Value.eq (fuel0 + 1))
noncomputable def saturateref13_Value.c : Kn Try.prog := Kn.of 15 saturateref13_Value.a saturateref13_Value.r (fun a => saturateref13_Value.f a.1 a.2.1 a.2.2.1 a.2.2.2.1 a.2.2.2.2.1) saturateref13_Value.con

/-! ### saturatelaw13_RangesSound: function 4 -/
def saturatelaw13_RangesSound.a : ACods ((Int × Int × Int × (Nat × (Nat → Int)) × (Nat × (Nat → Int) × (Nat → Int))) × (Nat × (Nat → Int)) × Unit) := (.cons (.pk (.cons (.val (.int .i64)) (.cons (.val (.int .i64)) (.cons (.val (.int .u64)) (.cons (.rows (.int1 .i64)) (.one (.rows (.int .u64 (.int1 .u64))))))))) (.cons (.rows (.int1 .u64)) .nil))
def saturatelaw13_RangesSound.r : RCod (Bool) := .val (.bool)
noncomputable def saturatelaw13_RangesSound.cs : List (Kn Try.prog) := [ranges_Apply.c, saturatelaw13_lives.c, saturateref13_Refused.c, saturateref01_Cut.c, ranges_Has.c, saturateref13_Value.c, ranges_Valid.c]
def saturatelaw13_RangesSound.live : Nat → Option Keep := liveOf [(19, ⟨[1, 2, 5, 7, 9, 69, 70], [1, 2, 5, 9, 126, 127], [(9, 23, [.int .u64 (fun _ => 0)])]⟩)]
noncomputable def saturatelaw13_RangesSound.body : Code := bodyOf Try.f4
noncomputable def saturatelaw13_RangesSound.K (fu : Nat) : Code → St → (Ex → St → Option (Bool)) → Option (Bool) := codeK Try.prog saturatelaw13_RangesSound.cs saturatelaw13_RangesSound.live fu
noncomputable def saturatelaw13_RangesSound.j9 (fu : Nat) (n9 : Nat) (x1n : Nat) (x7 : Int) (x9n : Nat) (x69 : Int) (x70 : Int) (m1 : Nat) (g1_0 : Nat → Int) (c2_0 : Int) (c2_1 : Int) (c2_2 : Int) (c2_3n : Nat) (c2_4n : Nat) (c5_0 : Int) (c5_1 : Int) (m9 : Nat) (g9_0 : Nat → Int) (m126 : Nat) (g126_0 : Nat → Int) (m127 : Nat) (g127_0 : Nat → Int) (g127_1 : Nat → Int) : Option Bool :=
  loopK (saturatelaw13_RangesSound.K fu (sub saturatelaw13_RangesSound.body [true, true, true, true, true, true, false, true, false, false])) (saturatelaw13_RangesSound.live 19) n9 (stOfX 123 128 [(1, .sl 1 1 x1n), (2, .ptr 2 0 0 0), (5, .ptr 5 0 0 0), (7, .val (.int .i64 x7)), (9, .sl 9 1 x9n), (69, .val (.int .i64 x69)), (70, .val (.int .i64 x70))] [(1, .ext m1 [.int .u64 g1_0]), (2, .own [.val (.int .i64 c2_0), .val (.int .i64 c2_1), .val (.int .u64 c2_2), .sl 126 1 c2_3n, .sl 127 2 c2_4n]), (5, .own [.val (.int .u64 c5_0), .val (.int .u64 c5_1)]), (9, .grow 23 m9 [.int .u64 g9_0]), (126, .ext m126 [.int .i64 g126_0]), (127, .ext m127 [.int .u64 g127_0, .int .u64 g127_1])]) (blockC 0 (seqC fu (saturatelaw13_RangesSound.live 32) (saturatelaw13_RangesSound.K fu (sub saturatelaw13_RangesSound.body [true, true, true, true, true, true, true])) (retC Try.prog Try.f4.results saturatelaw13_RangesSound.r.dec)))
theorem saturatelaw13_RangesSound.j9_succ (fu : Nat) (n9 : Nat) (x1n : Nat) (x7 : Int) (x9n : Nat) (x69 : Int) (x70 : Int) (m1 : Nat) (g1_0 : Nat → Int) (c2_0 : Int) (c2_1 : Int) (c2_2 : Int) (c2_3n : Nat) (c2_4n : Nat) (c5_0 : Int) (c5_1 : Int) (m9 : Nat) (g9_0 : Nat → Int) (m126 : Nat) (g126_0 : Nat → Int) (m127 : Nat) (g127_0 : Nat → Int) (g127_1 : Nat → Int) : saturatelaw13_RangesSound.j9 fu (n9 + 1) x1n x7 x9n x69 x70 m1 g1_0 c2_0 c2_1 c2_2 c2_3n c2_4n c5_0 c5_1 m9 g9_0 m126 g126_0 m127 g127_0 g127_1 =
  bif (decide (x70 < x69)) then
    bif decide (0 ≤ x70) then
      bif decide (x70 < (c2_3n : Int)) then
        bif decide (0 ≤ x70) then
          bif decide (x70 < (x1n : Int)) then
            (saturateref01_Cut.f (g126_0 x70.toNat) (g1_0 x70.toNat)).bind fun r7 =>
            bif decide (0 ≤ x70) then
              bif decide (x70 < (c2_3n : Int)) then
                bif decide (0 ≤ x70) then
                  bif decide (x70 < (c2_4n : Int)) then
                    (ranges_Has.f (g126_0 x70.toNat) ((g127_0 x70.toNat), (g127_1 x70.toNat)) r7).bind fun r8 =>
                    bif (!r8) then
                      (saturatelaw13_lives.f).bind fun r9 =>
                      some r9
                    else
                      bif Nat.ble ((x9n + 1) * 8) 140737488355328 then
                        saturatelaw13_RangesSound.j9 fu n9 x1n x7 (x9n + 1) x69 (IntKind.i64.wrap (x70 + 1)) m1 g1_0 c2_0 c2_1 c2_2 c2_3n c2_4n c5_0 c5_1 (x9n + 1) (cat x9n g9_0 (fun i => [r7].getD i 0)) m126 g126_0 m127 g127_0 g127_1
                      else
                        none
                  else
                    none
                else
                  none
              else
                none
            else
              none
          else
            none
        else
          none
      else
        none
    else
      none
  else
    (saturateref13_Value.f c2_0 x7 c2_2 (c2_3n, g126_0) (x9n, g9_0)).bind fun r10 =>
    (ranges_Valid.f x7 (c5_0, c5_1)).bind fun r11 =>
    bif r11 then
      (ranges_Has.f x7 (c5_0, c5_1) r10).bind fun r12 =>
      bif r12 then
        (saturatelaw13_lives.f).bind fun r13 =>
        some r13
      else
        some false
    else
      some false := by kernel_rfl
noncomputable def saturatelaw13_RangesSound.g (fu : Nat) (a0 : Int × Int × Int × (Nat × (Nat → Int)) × (Nat × (Nat → Int) × (Nat → Int))) (a1 : Nat × (Nat → Int)) : Option (Bool) :=
  (ranges_Apply.f a0.1 a0.2.1 a0.2.2.1 (a0.2.2.2.1.1, a0.2.2.2.1.2) (a0.2.2.2.2.1, a0.2.2.2.2.2.1, a0.2.2.2.2.2.2)).bind fun r1 =>
  bif (r1.2 != 0) then
    (saturatelaw13_lives.f).bind fun r2 =>
    some r2
  else
    bif ((a1.1 : Int) != (a0.2.2.2.2.1 : Int)) then
      (saturatelaw13_lives.f).bind fun r3 =>
      some r3
    else
      bif ((a1.1 : Int) == 0) then
        (saturatelaw13_lives.f).bind fun r4 =>
        some r4
      else
        bif ((a0.2.2.2.1.1 : Int) != (a1.1 : Int)) then
          (saturatelaw13_lives.f).bind fun r5 =>
          some r5
        else
          (saturateref13_Refused.f a0.1 a0.2.1 a0.2.2.1 (a0.2.2.2.1.1, a0.2.2.2.1.2) (a0.2.2.2.2.1 : Int)).bind fun r6 =>
          bif (r6.2 != 0) then
            some false
          else
            saturatelaw13_RangesSound.j9 fu fu a1.1 r6.1 0 (a1.1 : Int) 0 a1.1 a1.2 a0.1 a0.2.1 a0.2.2.1 a0.2.2.2.1.1 a0.2.2.2.2.1 r1.1.1 r1.1.2 0 (fun _ => 0) a0.2.2.2.1.1 a0.2.2.2.1.2 a0.2.2.2.2.1 a0.2.2.2.2.2.1 a0.2.2.2.2.2.2
noncomputable def saturatelaw13_RangesSound.f (a0 : Int × Int × Int × (Nat × (Nat → Int)) × (Nat × (Nat → Int) × (Nat → Int))) (a1 : Nat × (Nat → Int)) : Option (Bool) := saturatelaw13_RangesSound.g (fuel0 + 1) a0 a1
theorem saturatelaw13_RangesSound.eq (fu : Nat) (a : (Int × Int × Int × (Nat × (Nat → Int)) × (Nat × (Nat → Int) × (Nat → Int))) × (Nat × (Nat → Int)) × Unit) : bodyK Try.prog saturatelaw13_RangesSound.cs saturatelaw13_RangesSound.live fu Try.f4 (saturatelaw13_RangesSound.a.enc a) saturatelaw13_RangesSound.r.dec = saturatelaw13_RangesSound.g fu a.1 a.2.1 := by kernel_rfl
theorem saturatelaw13_RangesSound.con : ∀ (a : (Int × Int × Int × (Nat × (Nat → Int)) × (Nat × (Nat → Int) × (Nat → Int))) × (Nat × (Nat → Int)) × Unit) (r : Bool), saturatelaw13_RangesSound.f a.1 a.2.1 = some r → Contract Try.prog 4 (saturatelaw13_RangesSound.a.enc a) (saturatelaw13_RangesSound.r.enc r) := Contract.of_body (F := fun (a : (Int × Int × Int × (Nat × (Nat → Int)) × (Nat × (Nat → Int) × (Nat → Int))) × (Nat × (Nat → Int)) × Unit) => saturatelaw13_RangesSound.f a.1 a.2.1) (fn := Try.f4) (cs := saturatelaw13_RangesSound.cs) (live := saturatelaw13_RangesSound.live) (fuel := fuel0 + 1) (by kernel_rfl) (by kernel_rfl) mixed (saturatelaw13_RangesSound.eq (fuel0 + 1))
noncomputable def saturatelaw13_RangesSound.c : Kn Try.prog := Kn.of 4 saturatelaw13_RangesSound.a saturatelaw13_RangesSound.r (fun a => saturatelaw13_RangesSound.f a.1 a.2.1) saturatelaw13_RangesSound.con

/-! ### ranges_Single: function 17 -/
def ranges_Single.a : ACods (Int × (Int × Int) × Unit) := (.cons (.val (.int .i64)) (.cons (.val (.agg (.cons (.int .u64) (.one (.int .u64))))) .nil))
def ranges_Single.r : RCod (Int × Bool) := .val (.tup (.cons (.int .u64) (.one (.bool))))
noncomputable def ranges_Single.cs : List (Kn Try.prog) := [ranges_norm.c]
def ranges_Single.live : Nat → Option Keep := liveOf []
noncomputable def ranges_Single.body : Code := bodyOf Try.f17
noncomputable def ranges_Single.K (fu : Nat) : Code → St → (Ex → St → Option (Int × Bool)) → Option (Int × Bool) := codeK Try.prog ranges_Single.cs ranges_Single.live fu
noncomputable def ranges_Single.f (a0 : Int) (a1 : Int × Int) : Option (Int × Bool) :=
  (ranges_norm.f a0 (a1.1, a1.2)).bind fun r1 =>
  bif (r1.1 != r1.2) then
    some (0, false)
  else
    some (r1.1, true)
theorem ranges_Single.eq (fu : Nat) (a : Int × (Int × Int) × Unit) : bodyK Try.prog ranges_Single.cs ranges_Single.live fu Try.f17 (ranges_Single.a.enc a) ranges_Single.r.dec = ranges_Single.f a.1 a.2.1 := by kernel_rfl
theorem ranges_Single.con : ∀ (a : Int × (Int × Int) × Unit) (r : Int × Bool), ranges_Single.f a.1 a.2.1 = some r → Contract Try.prog 17 (ranges_Single.a.enc a) (ranges_Single.r.enc r) := Contract.of_body (F := fun (a : Int × (Int × Int) × Unit) => ranges_Single.f a.1 a.2.1) (fn := Try.f17) (cs := ranges_Single.cs) (live := ranges_Single.live) (fuel := fuel0 + 1) (by kernel_rfl) (by kernel_rfl) mixed (ranges_Single.eq (fuel0 + 1))
noncomputable def ranges_Single.c : Kn Try.prog := Kn.of 17 ranges_Single.a ranges_Single.r (fun a => ranges_Single.f a.1 a.2.1) ranges_Single.con

/-! ### saturateref13_Single: function 18 -/
def saturateref13_Single.a : ACods (Int × (Int × Int) × Unit) := (.cons (.val (.int .i64)) (.cons (.val (.agg (.cons (.int .u64) (.one (.int .u64))))) .nil))
def saturateref13_Single.r : RCod (Int × Bool) := .val (.tup (.cons (.int .u64) (.one (.bool))))
noncomputable def saturateref13_Single.cs : List (Kn Try.prog) := [saturateref13_Of.c]
def saturateref13_Single.live : Nat → Option Keep := liveOf []
noncomputable def saturateref13_Single.body : Code := bodyOf Try.f18
noncomputable def saturateref13_Single.K (fu : Nat) : Code → St → (Ex → St → Option (Int × Bool)) → Option (Int × Bool) := codeK Try.prog saturateref13_Single.cs saturateref13_Single.live fu
noncomputable def saturateref13_Single.f (a0 : Int) (a1 : Int × Int) : Option (Int × Bool) :=
  (saturateref13_Of.f a0 (a1.1, a1.2)).bind fun r1 =>
  bif (r1.1 == r1.2) then
    some (r1.1, true)
  else
    some (0, false)
theorem saturateref13_Single.eq (fu : Nat) (a : Int × (Int × Int) × Unit) : bodyK Try.prog saturateref13_Single.cs saturateref13_Single.live fu Try.f18 (saturateref13_Single.a.enc a) saturateref13_Single.r.dec = saturateref13_Single.f a.1 a.2.1 := by kernel_rfl
theorem saturateref13_Single.con : ∀ (a : Int × (Int × Int) × Unit) (r : Int × Bool), saturateref13_Single.f a.1 a.2.1 = some r → Contract Try.prog 18 (saturateref13_Single.a.enc a) (saturateref13_Single.r.enc r) := Contract.of_body (F := fun (a : Int × (Int × Int) × Unit) => saturateref13_Single.f a.1 a.2.1) (fn := Try.f18) (cs := saturateref13_Single.cs) (live := saturateref13_Single.live) (fuel := fuel0 + 1) (by kernel_rfl) (by kernel_rfl) mixed (saturateref13_Single.eq (fuel0 + 1))
noncomputable def saturateref13_Single.c : Kn Try.prog := Kn.of 18 saturateref13_Single.a saturateref13_Single.r (fun a => saturateref13_Single.f a.1 a.2.1) saturateref13_Single.con

/-! ### saturateref13_Has: function 24 -/
def saturateref13_Has.a : ACods (Int × (Int × Int) × Int × Unit) := (.cons (.val (.int .i64)) (.cons (.val (.agg (.cons (.int .u64) (.one (.int .u64))))) (.cons (.val (.int .u64)) .nil)))
def saturateref13_Has.r : RCod (Bool) := .val (.bool)
noncomputable def saturateref13_Has.cs : List (Kn Try.prog) := [saturateref13_Of.c, saturateref01_Cut.c]
def saturateref13_Has.live : Nat → Option Keep := liveOf []
noncomputable def saturateref13_Has.body : Code := bodyOf Try.f24
noncomputable def saturateref13_Has.K (fu : Nat) : Code → St → (Ex → St → Option (Bool)) → Option (Bool) := codeK Try.prog saturateref13_Has.cs saturateref13_Has.live fu
noncomputable def saturateref13_Has.f (a0 : Int) (a1 : Int × Int) (a2 : Int) : Option (Bool) :=
  (saturateref13_Of.f a0 (a1.1, a1.2)).bind fun r1 =>
  (saturateref01_Cut.f a0 a2).bind fun r2 =>
  bif (decide (r1.1 ≤ r2)) then
    some (decide (r2 ≤ r1.2))
  else
    some false
theorem saturateref13_Has.eq (fu : Nat) (a : Int × (Int × Int) × Int × Unit) : bodyK Try.prog saturateref13_Has.cs saturateref13_Has.live fu Try.f24 (saturateref13_Has.a.enc a) saturateref13_Has.r.dec = saturateref13_Has.f a.1 a.2.1 a.2.2.1 := by kernel_rfl
theorem saturateref13_Has.con : ∀ (a : Int × (Int × Int) × Int × Unit) (r : Bool), saturateref13_Has.f a.1 a.2.1 a.2.2.1 = some r → Contract Try.prog 24 (saturateref13_Has.a.enc a) (saturateref13_Has.r.enc r) := Contract.of_body (F := fun (a : Int × (Int × Int) × Int × Unit) => saturateref13_Has.f a.1 a.2.1 a.2.2.1) (fn := Try.f24) (cs := saturateref13_Has.cs) (live := saturateref13_Has.live) (fuel := fuel0 + 1) (by kernel_rfl) (by kernel_rfl) mixed (saturateref13_Has.eq (fuel0 + 1))
noncomputable def saturateref13_Has.c : Kn Try.prog := Kn.of 24 saturateref13_Has.a saturateref13_Has.r (fun a => saturateref13_Has.f a.1 a.2.1 a.2.2.1) saturateref13_Has.con

/-! ### saturatelaw13_RangesElements: function 5 -/
def saturatelaw13_RangesElements.a : ACods (Int × (Int × Int) × Int × Unit) := (.cons (.val (.int .i64)) (.cons (.val (.agg (.cons (.int .u64) (.one (.int .u64))))) (.cons (.val (.int .u64)) .nil)))
def saturatelaw13_RangesElements.r : RCod (Bool) := .val (.bool)
noncomputable def saturatelaw13_RangesElements.cs : List (Kn Try.prog) := [ranges_Single.c, saturateref13_Single.c, ranges_Top.c, saturateref13_Top.c, ranges_Const.c, saturateref13_Const.c, ranges_Valid.c, saturateref13_Valid.c, ranges_Has.c, saturateref13_Has.c, ranges_Fill.c, saturateref13_Fill.c, saturatelaw13_lives.c]
def saturatelaw13_RangesElements.live : Nat → Option Keep := liveOf []
noncomputable def saturatelaw13_RangesElements.body : Code := bodyOf Try.f5
noncomputable def saturatelaw13_RangesElements.K (fu : Nat) : Code → St → (Ex → St → Option (Bool)) → Option (Bool) := codeK Try.prog saturatelaw13_RangesElements.cs saturatelaw13_RangesElements.live fu
noncomputable def saturatelaw13_RangesElements.f (a0 : Int) (a1 : Int × Int) (a2 : Int) : Option (Bool) :=
  (ranges_Single.f a0 (a1.1, a1.2)).bind fun r1 =>
  (saturateref13_Single.f a0 (a1.1, a1.2)).bind fun r2 =>
  bif (r1.1 != r2.1) then
    some false
  else
    bif (!(r1.2 == r2.2)) then
      some false
    else
      (ranges_Top.f a0).bind fun r3 =>
      (saturateref13_Top.f a0).bind fun r4 =>
      bif (!((r3.1 == r4.1) && ((r3.2 == r4.2) && true))) then
        some false
      else
        (ranges_Const.f a0 a2).bind fun r5 =>
        (saturateref13_Const.f a0 a2).bind fun r6 =>
        bif (!((r5.1 == r6.1) && ((r5.2 == r6.2) && true))) then
          some false
        else
          (ranges_Valid.f a0 (a1.1, a1.2)).bind fun r7 =>
          (saturateref13_Valid.f a0 (a1.1, a1.2)).bind fun r8 =>
          bif (r7 == r8) then
            (ranges_Has.f a0 (a1.1, a1.2) a2).bind fun r9 =>
            (saturateref13_Has.f a0 (a1.1, a1.2) a2).bind fun r10 =>
            bif (r9 == r10) then
              (ranges_Fill.f a2).bind fun r11 =>
              (saturateref13_Fill.f a2).bind fun r12 =>
              bif (r11 == r12) then
                (saturatelaw13_lives.f).bind fun r13 =>
                some r13
              else
                some false
            else
              some false
          else
            some false
theorem saturatelaw13_RangesElements.eq (fu : Nat) (a : Int × (Int × Int) × Int × Unit) : bodyK Try.prog saturatelaw13_RangesElements.cs saturatelaw13_RangesElements.live fu Try.f5 (saturatelaw13_RangesElements.a.enc a) saturatelaw13_RangesElements.r.dec = saturatelaw13_RangesElements.f a.1 a.2.1 a.2.2.1 := by kernel_rfl
theorem saturatelaw13_RangesElements.con : ∀ (a : Int × (Int × Int) × Int × Unit) (r : Bool), saturatelaw13_RangesElements.f a.1 a.2.1 a.2.2.1 = some r → Contract Try.prog 5 (saturatelaw13_RangesElements.a.enc a) (saturatelaw13_RangesElements.r.enc r) := Contract.of_body (F := fun (a : Int × (Int × Int) × Int × Unit) => saturatelaw13_RangesElements.f a.1 a.2.1 a.2.2.1) (fn := Try.f5) (cs := saturatelaw13_RangesElements.cs) (live := saturatelaw13_RangesElements.live) (fuel := fuel0 + 1) (by kernel_rfl) (by kernel_rfl) mixed (saturatelaw13_RangesElements.eq (fuel0 + 1))
noncomputable def saturatelaw13_RangesElements.c : Kn Try.prog := Kn.of 5 saturatelaw13_RangesElements.a saturatelaw13_RangesElements.r (fun a => saturatelaw13_RangesElements.f a.1 a.2.1 a.2.2.1) saturatelaw13_RangesElements.con

/-! ### ranges_Meet: function 27 -/
def ranges_Meet.a : ACods (Int × (Int × Int) × (Int × Int) × Unit) := (.cons (.val (.int .i64)) (.cons (.val (.agg (.cons (.int .u64) (.one (.int .u64))))) (.cons (.val (.agg (.cons (.int .u64) (.one (.int .u64))))) .nil)))
def ranges_Meet.r : RCod ((Int × Int) × Bool) := .val (.tup (.cons (.agg (.cons (.int .u64) (.one (.int .u64)))) (.one (.bool))))
noncomputable def ranges_Meet.cs : List (Kn Try.prog) := [ranges_norm.c, ranges_Top.c]
def ranges_Meet.live : Nat → Option Keep := liveOf []
noncomputable def ranges_Meet.body : Code := bodyOf Try.f27
noncomputable def ranges_Meet.K (fu : Nat) : Code → St → (Ex → St → Option ((Int × Int) × Bool)) → Option ((Int × Int) × Bool) := codeK Try.prog ranges_Meet.cs ranges_Meet.live fu
noncomputable def ranges_Meet.f (a0 : Int) (a1 : Int × Int) (a2 : Int × Int) : Option ((Int × Int) × Bool) :=
  (ranges_norm.f a0 (a1.1, a1.2)).bind fun r1 =>
  (ranges_norm.f a0 (a2.1, a2.2)).bind fun r2 =>
  bif (decide ((mx r1.1 r2.1) > (mn r1.2 r2.2))) then
    (ranges_Top.f a0).bind fun r3 =>
    some ((r3.1, r3.2), false)
  else
    some (((mx r1.1 r2.1), (mn r1.2 r2.2)), true)
theorem ranges_Meet.eq (fu : Nat) (a : Int × (Int × Int) × (Int × Int) × Unit) : bodyK Try.prog ranges_Meet.cs ranges_Meet.live fu Try.f27 (ranges_Meet.a.enc a) ranges_Meet.r.dec = ranges_Meet.f a.1 a.2.1 a.2.2.1 := by kernel_rfl
theorem ranges_Meet.con : ∀ (a : Int × (Int × Int) × (Int × Int) × Unit) (r : (Int × Int) × Bool), ranges_Meet.f a.1 a.2.1 a.2.2.1 = some r → Contract Try.prog 27 (ranges_Meet.a.enc a) (ranges_Meet.r.enc r) := Contract.of_body (F := fun (a : Int × (Int × Int) × (Int × Int) × Unit) => ranges_Meet.f a.1 a.2.1 a.2.2.1) (fn := Try.f27) (cs := ranges_Meet.cs) (live := ranges_Meet.live) (fuel := fuel0 + 1) (by kernel_rfl) (by kernel_rfl) mixed (ranges_Meet.eq (fuel0 + 1))
noncomputable def ranges_Meet.c : Kn Try.prog := Kn.of 27 ranges_Meet.a ranges_Meet.r (fun a => ranges_Meet.f a.1 a.2.1 a.2.2.1) ranges_Meet.con

/-! ### saturateref13_Meet: function 28 -/
def saturateref13_Meet.a : ACods (Int × (Int × Int) × (Int × Int) × Unit) := (.cons (.val (.int .i64)) (.cons (.val (.agg (.cons (.int .u64) (.one (.int .u64))))) (.cons (.val (.agg (.cons (.int .u64) (.one (.int .u64))))) .nil)))
def saturateref13_Meet.r : RCod ((Int × Int) × Bool) := .val (.tup (.cons (.agg (.cons (.int .u64) (.one (.int .u64)))) (.one (.bool))))
noncomputable def saturateref13_Meet.cs : List (Kn Try.prog) := [saturateref13_Of.c, saturateref13_Top.c]
def saturateref13_Meet.live : Nat → Option Keep := liveOf []
noncomputable def saturateref13_Meet.body : Code := bodyOf Try.f28
noncomputable def saturateref13_Meet.K (fu : Nat) : Code → St → (Ex → St → Option ((Int × Int) × Bool)) → Option ((Int × Int) × Bool) := codeK Try.prog saturateref13_Meet.cs saturateref13_Meet.live fu
noncomputable def saturateref13_Meet.f (a0 : Int) (a1 : Int × Int) (a2 : Int × Int) : Option ((Int × Int) × Bool) :=
  (saturateref13_Of.f a0 (a1.1, a1.2)).bind fun r1 =>
  (saturateref13_Of.f a0 (a2.1, a2.2)).bind fun r2 =>
  bif (decide ((mx r1.1 r2.1) > (mn r1.2 r2.2))) then
    (saturateref13_Top.f a0).bind fun r3 =>
    some ((r3.1, r3.2), false)
  else
    some (((mx r1.1 r2.1), (mn r1.2 r2.2)), true)
theorem saturateref13_Meet.eq (fu : Nat) (a : Int × (Int × Int) × (Int × Int) × Unit) : bodyK Try.prog saturateref13_Meet.cs saturateref13_Meet.live fu Try.f28 (saturateref13_Meet.a.enc a) saturateref13_Meet.r.dec = saturateref13_Meet.f a.1 a.2.1 a.2.2.1 := by kernel_rfl
theorem saturateref13_Meet.con : ∀ (a : Int × (Int × Int) × (Int × Int) × Unit) (r : (Int × Int) × Bool), saturateref13_Meet.f a.1 a.2.1 a.2.2.1 = some r → Contract Try.prog 28 (saturateref13_Meet.a.enc a) (saturateref13_Meet.r.enc r) := Contract.of_body (F := fun (a : Int × (Int × Int) × (Int × Int) × Unit) => saturateref13_Meet.f a.1 a.2.1 a.2.2.1) (fn := Try.f28) (cs := saturateref13_Meet.cs) (live := saturateref13_Meet.live) (fuel := fuel0 + 1) (by kernel_rfl) (by kernel_rfl) mixed (saturateref13_Meet.eq (fuel0 + 1))
noncomputable def saturateref13_Meet.c : Kn Try.prog := Kn.of 28 saturateref13_Meet.a saturateref13_Meet.r (fun a => saturateref13_Meet.f a.1 a.2.1 a.2.2.1) saturateref13_Meet.con

/-! ### ranges_Leq: function 31 -/
def ranges_Leq.a : ACods (Int × (Int × Int) × (Int × Int) × Unit) := (.cons (.val (.int .i64)) (.cons (.val (.agg (.cons (.int .u64) (.one (.int .u64))))) (.cons (.val (.agg (.cons (.int .u64) (.one (.int .u64))))) .nil)))
def ranges_Leq.r : RCod (Bool) := .val (.bool)
noncomputable def ranges_Leq.cs : List (Kn Try.prog) := [ranges_norm.c]
def ranges_Leq.live : Nat → Option Keep := liveOf []
noncomputable def ranges_Leq.body : Code := bodyOf Try.f31
noncomputable def ranges_Leq.K (fu : Nat) : Code → St → (Ex → St → Option (Bool)) → Option (Bool) := codeK Try.prog ranges_Leq.cs ranges_Leq.live fu
noncomputable def ranges_Leq.f (a0 : Int) (a1 : Int × Int) (a2 : Int × Int) : Option (Bool) :=
  (ranges_norm.f a0 (a1.1, a1.2)).bind fun r1 =>
  (ranges_norm.f a0 (a2.1, a2.2)).bind fun r2 =>
  bif (decide (r2.1 ≤ r1.1)) then
    some (decide (r1.2 ≤ r2.2))
  else
    some false
theorem ranges_Leq.eq (fu : Nat) (a : Int × (Int × Int) × (Int × Int) × Unit) : bodyK Try.prog ranges_Leq.cs ranges_Leq.live fu Try.f31 (ranges_Leq.a.enc a) ranges_Leq.r.dec = ranges_Leq.f a.1 a.2.1 a.2.2.1 := by kernel_rfl
theorem ranges_Leq.con : ∀ (a : Int × (Int × Int) × (Int × Int) × Unit) (r : Bool), ranges_Leq.f a.1 a.2.1 a.2.2.1 = some r → Contract Try.prog 31 (ranges_Leq.a.enc a) (ranges_Leq.r.enc r) := Contract.of_body (F := fun (a : Int × (Int × Int) × (Int × Int) × Unit) => ranges_Leq.f a.1 a.2.1 a.2.2.1) (fn := Try.f31) (cs := ranges_Leq.cs) (live := ranges_Leq.live) (fuel := fuel0 + 1) (by kernel_rfl) (by kernel_rfl) mixed (ranges_Leq.eq (fuel0 + 1))
noncomputable def ranges_Leq.c : Kn Try.prog := Kn.of 31 ranges_Leq.a ranges_Leq.r (fun a => ranges_Leq.f a.1 a.2.1 a.2.2.1) ranges_Leq.con

/-! ### saturateref13_Leq: function 32 -/
def saturateref13_Leq.a : ACods (Int × (Int × Int) × (Int × Int) × Unit) := (.cons (.val (.int .i64)) (.cons (.val (.agg (.cons (.int .u64) (.one (.int .u64))))) (.cons (.val (.agg (.cons (.int .u64) (.one (.int .u64))))) .nil)))
def saturateref13_Leq.r : RCod (Bool) := .val (.bool)
noncomputable def saturateref13_Leq.cs : List (Kn Try.prog) := [saturateref13_Of.c]
def saturateref13_Leq.live : Nat → Option Keep := liveOf []
noncomputable def saturateref13_Leq.body : Code := bodyOf Try.f32
noncomputable def saturateref13_Leq.K (fu : Nat) : Code → St → (Ex → St → Option (Bool)) → Option (Bool) := codeK Try.prog saturateref13_Leq.cs saturateref13_Leq.live fu
noncomputable def saturateref13_Leq.f (a0 : Int) (a1 : Int × Int) (a2 : Int × Int) : Option (Bool) :=
  (saturateref13_Of.f a0 (a1.1, a1.2)).bind fun r1 =>
  (saturateref13_Of.f a0 (a2.1, a2.2)).bind fun r2 =>
  bif (decide (r2.1 ≤ r1.1)) then
    some (decide (r1.2 ≤ r2.2))
  else
    some false
theorem saturateref13_Leq.eq (fu : Nat) (a : Int × (Int × Int) × (Int × Int) × Unit) : bodyK Try.prog saturateref13_Leq.cs saturateref13_Leq.live fu Try.f32 (saturateref13_Leq.a.enc a) saturateref13_Leq.r.dec = saturateref13_Leq.f a.1 a.2.1 a.2.2.1 := by kernel_rfl
theorem saturateref13_Leq.con : ∀ (a : Int × (Int × Int) × (Int × Int) × Unit) (r : Bool), saturateref13_Leq.f a.1 a.2.1 a.2.2.1 = some r → Contract Try.prog 32 (saturateref13_Leq.a.enc a) (saturateref13_Leq.r.enc r) := Contract.of_body (F := fun (a : Int × (Int × Int) × (Int × Int) × Unit) => saturateref13_Leq.f a.1 a.2.1 a.2.2.1) (fn := Try.f32) (cs := saturateref13_Leq.cs) (live := saturateref13_Leq.live) (fuel := fuel0 + 1) (by kernel_rfl) (by kernel_rfl) mixed (saturateref13_Leq.eq (fuel0 + 1))
noncomputable def saturateref13_Leq.c : Kn Try.prog := Kn.of 32 saturateref13_Leq.a saturateref13_Leq.r (fun a => saturateref13_Leq.f a.1 a.2.1 a.2.2.1) saturateref13_Leq.con

/-! ### saturatelaw13_RangesPairs: function 6 -/
def saturatelaw13_RangesPairs.a : ACods (Int × (Int × Int) × (Int × Int) × Unit) := (.cons (.val (.int .i64)) (.cons (.val (.agg (.cons (.int .u64) (.one (.int .u64))))) (.cons (.val (.agg (.cons (.int .u64) (.one (.int .u64))))) .nil)))
def saturatelaw13_RangesPairs.r : RCod (Bool) := .val (.bool)
noncomputable def saturatelaw13_RangesPairs.cs : List (Kn Try.prog) := [ranges_Meet.c, saturateref13_Meet.c, ranges_Join.c, saturateref13_Join.c, ranges_Leq.c, saturateref13_Leq.c, saturatelaw13_lives.c]
def saturatelaw13_RangesPairs.live : Nat → Option Keep := liveOf []
noncomputable def saturatelaw13_RangesPairs.body : Code := bodyOf Try.f6
noncomputable def saturatelaw13_RangesPairs.K (fu : Nat) : Code → St → (Ex → St → Option (Bool)) → Option (Bool) := codeK Try.prog saturatelaw13_RangesPairs.cs saturatelaw13_RangesPairs.live fu
noncomputable def saturatelaw13_RangesPairs.f (a0 : Int) (a1 : Int × Int) (a2 : Int × Int) : Option (Bool) :=
  (ranges_Meet.f a0 (a1.1, a1.2) (a2.1, a2.2)).bind fun r1 =>
  (saturateref13_Meet.f a0 (a1.1, a1.2) (a2.1, a2.2)).bind fun r2 =>
  bif ((r1.1.1 == r2.1.1) && ((r1.1.2 == r2.1.2) && true)) then
    bif (r1.2 == r2.2) then
      (ranges_Join.f a0 (a1.1, a1.2) (a2.1, a2.2)).bind fun r3 =>
      (saturateref13_Join.f a0 (a1.1, a1.2) (a2.1, a2.2)).bind fun r4 =>
      bif ((r3.1 == r4.1) && ((r3.2 == r4.2) && true)) then
        (ranges_Leq.f a0 (a1.1, a1.2) (a2.1, a2.2)).bind fun r5 =>
        (saturateref13_Leq.f a0 (a1.1, a1.2) (a2.1, a2.2)).bind fun r6 =>
        bif (r5 == r6) then
          (saturatelaw13_lives.f).bind fun r7 =>
          some r7
        else
          some false
      else
        some false
    else
      some false
  else
    some false
theorem saturatelaw13_RangesPairs.eq (fu : Nat) (a : Int × (Int × Int) × (Int × Int) × Unit) : bodyK Try.prog saturatelaw13_RangesPairs.cs saturatelaw13_RangesPairs.live fu Try.f6 (saturatelaw13_RangesPairs.a.enc a) saturatelaw13_RangesPairs.r.dec = saturatelaw13_RangesPairs.f a.1 a.2.1 a.2.2.1 := by kernel_rfl
theorem saturatelaw13_RangesPairs.con : ∀ (a : Int × (Int × Int) × (Int × Int) × Unit) (r : Bool), saturatelaw13_RangesPairs.f a.1 a.2.1 a.2.2.1 = some r → Contract Try.prog 6 (saturatelaw13_RangesPairs.a.enc a) (saturatelaw13_RangesPairs.r.enc r) := Contract.of_body (F := fun (a : Int × (Int × Int) × (Int × Int) × Unit) => saturatelaw13_RangesPairs.f a.1 a.2.1 a.2.2.1) (fn := Try.f6) (cs := saturatelaw13_RangesPairs.cs) (live := saturatelaw13_RangesPairs.live) (fuel := fuel0 + 1) (by kernel_rfl) (by kernel_rfl) mixed (saturatelaw13_RangesPairs.eq (fuel0 + 1))
noncomputable def saturatelaw13_RangesPairs.c : Kn Try.prog := Kn.of 6 saturatelaw13_RangesPairs.a saturatelaw13_RangesPairs.r (fun a => saturatelaw13_RangesPairs.f a.1 a.2.1 a.2.2.1) saturatelaw13_RangesPairs.con

/-! ### saturatelaw13_RangesBounds: function 7 -/
def saturatelaw13_RangesBounds.a : ACods (Int × (Int × Int) × (Int × Int) × Unit) := (.cons (.val (.int .i64)) (.cons (.val (.agg (.cons (.int .u64) (.one (.int .u64))))) (.cons (.val (.agg (.cons (.int .u64) (.one (.int .u64))))) .nil)))
def saturatelaw13_RangesBounds.r : RCod (Bool) := .val (.bool)
noncomputable def saturatelaw13_RangesBounds.cs : List (Kn Try.prog) := [ranges_Meet.c, ranges_Join.c, ranges_Leq.c, ranges_Valid.c, saturatelaw13_lives.c]
def saturatelaw13_RangesBounds.live : Nat → Option Keep := liveOf [(14, ⟨[0, 4, 5, 7, 8, 9], [4, 5, 7, 9], []⟩)]
noncomputable def saturatelaw13_RangesBounds.body : Code := bodyOf Try.f7
noncomputable def saturatelaw13_RangesBounds.K (fu : Nat) : Code → St → (Ex → St → Option (Bool)) → Option (Bool) := codeK Try.prog saturatelaw13_RangesBounds.cs saturatelaw13_RangesBounds.live fu
noncomputable def saturatelaw13_RangesBounds.p7 (m fu : Nat) (x0 : Int) (x8 : Bool) (c4_0 : Int) (c4_1 : Int) (c5_0 : Int) (c5_1 : Int) (c7_0 : Int) (c7_1 : Int) (c9_0 : Int) (c9_1 : Int) : Option Bool :=
  joinK m (saturatelaw13_RangesBounds.K fu (sub saturatelaw13_RangesBounds.body [true, true, true, true, true])) (stOf 92 [(0, .val (.int .i64 x0)), (4, .ptr 4 0 0 0), (5, .ptr 5 0 0 0), (7, .ptr 7 0 0 0), (8, .val (.bool x8)), (9, .ptr 9 0 0 0)] [(4, .own [.val (.int .u64 c4_0), .val (.int .u64 c4_1)]), (5, .own [.val (.int .u64 c5_0), .val (.int .u64 c5_1)]), (7, .own [.val (.int .u64 c7_0), .val (.int .u64 c7_1)]), (9, .own [.val (.int .u64 c9_0), .val (.int .u64 c9_1)])]) (retC Try.prog Try.f7.results saturatelaw13_RangesBounds.r.dec)
theorem saturatelaw13_RangesBounds.p7_eq (m fu : Nat) (x0 : Int) (x8 : Bool) (c4_0 : Int) (c4_1 : Int) (c5_0 : Int) (c5_1 : Int) (c7_0 : Int) (c7_1 : Int) (c9_0 : Int) (c9_1 : Int) : saturatelaw13_RangesBounds.p7 (m + 1) fu x0 x8 c4_0 c4_1 c5_0 c5_1 c7_0 c7_1 c9_0 c9_1 =
  (ranges_Leq.f x0 (c4_0, c4_1) (c5_0, c5_1)).bind fun r9 =>
  (ranges_Join.f x0 (c5_0, c5_1) (c5_0, c5_1)).bind fun r10 =>
  bif (r9 == ((c9_0 == r10.1) && ((c9_1 == r10.2) && true))) then
    (ranges_Leq.f x0 (c4_0, c4_1) (c5_0, c5_1)).bind fun r11 =>
    bif (!r11) then
      (saturatelaw13_lives.f).bind fun r12 =>
      some r12
    else
      bif x8 then
        (ranges_Join.f x0 (c4_0, c4_1) (c4_0, c4_1)).bind fun r13 =>
        bif ((c7_0 == r13.1) && ((c7_1 == r13.2) && true)) then
          (saturatelaw13_lives.f).bind fun r14 =>
          some r14
        else
          some false
      else
        some false
  else
    some false := by kernel_rfl
noncomputable def saturatelaw13_RangesBounds.g (fu : Nat) (a0 : Int) (a1 : Int × Int) (a2 : Int × Int) : Option (Bool) :=
  (ranges_Meet.f a0 (a1.1, a1.2) (a2.1, a2.2)).bind fun r1 =>
  (ranges_Join.f a0 (a1.1, a1.2) (a2.1, a2.2)).bind fun r2 =>
  (ranges_Leq.f a0 (a1.1, a1.2) (r2.1, r2.2)).bind fun r3 =>
  bif (!r3) then
    some false
  else
    (ranges_Leq.f a0 (a2.1, a2.2) (r2.1, r2.2)).bind fun r4 =>
    bif (!r4) then
      some false
    else
      (ranges_Valid.f a0 (r2.1, r2.2)).bind fun r5 =>
      bif (!r5) then
        some false
      else
        (ranges_Valid.f a0 (r1.1.1, r1.1.2)).bind fun r6 =>
        bif (!r6) then
          some false
        else
          bif r1.2 then
            (ranges_Leq.f a0 (r1.1.1, r1.1.2) (a1.1, a1.2)).bind fun r7 =>
            bif (!r7) then
              some false
            else
              (ranges_Leq.f a0 (r1.1.1, r1.1.2) (a2.1, a2.2)).bind fun r8 =>
              bif (!r8) then
                some false
              else
                saturatelaw13_RangesBounds.p7 fu fu a0 r1.2 a1.1 a1.2 a2.1 a2.2 r1.1.1 r1.1.2 r2.1 r2.2
          else
            saturatelaw13_RangesBounds.p7 fu fu a0 r1.2 a1.1 a1.2 a2.1 a2.2 r1.1.1 r1.1.2 r2.1 r2.2
noncomputable def saturatelaw13_RangesBounds.f (a0 : Int) (a1 : Int × Int) (a2 : Int × Int) : Option (Bool) := saturatelaw13_RangesBounds.g (fuel0 + 1) a0 a1 a2
theorem saturatelaw13_RangesBounds.eq (fu : Nat) (a : Int × (Int × Int) × (Int × Int) × Unit) : bodyK Try.prog saturatelaw13_RangesBounds.cs saturatelaw13_RangesBounds.live fu Try.f7 (saturatelaw13_RangesBounds.a.enc a) saturatelaw13_RangesBounds.r.dec = saturatelaw13_RangesBounds.g fu a.1 a.2.1 a.2.2.1 := by kernel_rfl
theorem saturatelaw13_RangesBounds.con : ∀ (a : Int × (Int × Int) × (Int × Int) × Unit) (r : Bool), saturatelaw13_RangesBounds.f a.1 a.2.1 a.2.2.1 = some r → Contract Try.prog 7 (saturatelaw13_RangesBounds.a.enc a) (saturatelaw13_RangesBounds.r.enc r) := Contract.of_body (F := fun (a : Int × (Int × Int) × (Int × Int) × Unit) => saturatelaw13_RangesBounds.f a.1 a.2.1 a.2.2.1) (fn := Try.f7) (cs := saturatelaw13_RangesBounds.cs) (live := saturatelaw13_RangesBounds.live) (fuel := fuel0 + 1) (by kernel_rfl) (by kernel_rfl) mixed (saturatelaw13_RangesBounds.eq (fuel0 + 1))
noncomputable def saturatelaw13_RangesBounds.c : Kn Try.prog := Kn.of 7 saturatelaw13_RangesBounds.a saturatelaw13_RangesBounds.r (fun a => saturatelaw13_RangesBounds.f a.1 a.2.1 a.2.2.1) saturatelaw13_RangesBounds.con

/-! ### saturatelaw13_RangesLeast: function 8 -/
def saturatelaw13_RangesLeast.a : ACods (Int × (Int × Int × Int × Int × Int × Int) × Int × Unit) := (.cons (.val (.int .i64)) (.cons (.val (.agg (.cons (.int .u64) (.cons (.int .u64) (.cons (.int .u64) (.cons (.int .u64) (.cons (.int .u64) (.one (.int .u64))))))))) (.cons (.val (.int .u64)) .nil)))
def saturatelaw13_RangesLeast.r : RCod (Bool) := .val (.bool)
noncomputable def saturatelaw13_RangesLeast.cs : List (Kn Try.prog) := [ranges_Meet.c, ranges_Leq.c, ranges_Join.c, ranges_Has.c, saturatelaw13_lives.c]
def saturatelaw13_RangesLeast.live : Nat → Option Keep := liveOf [(10, ⟨[0, 2, 7, 8, 9, 10, 11], [7, 8, 9, 10], []⟩), (14, ⟨[0, 2, 7, 8, 10, 11], [7, 8, 10], []⟩)]
noncomputable def saturatelaw13_RangesLeast.body : Code := bodyOf Try.f8
noncomputable def saturatelaw13_RangesLeast.K (fu : Nat) : Code → St → (Ex → St → Option (Bool)) → Option (Bool) := codeK Try.prog saturatelaw13_RangesLeast.cs saturatelaw13_RangesLeast.live fu
noncomputable def saturatelaw13_RangesLeast.p5 (m fu : Nat) (x0 : Int) (x2 : Int) (x11 : Bool) (c7_0 : Int) (c7_1 : Int) (c8_0 : Int) (c8_1 : Int) (c9_0 : Int) (c9_1 : Int) (c10_0 : Int) (c10_1 : Int) : Option Bool :=
  joinK m (saturatelaw13_RangesLeast.K fu (sub saturatelaw13_RangesLeast.body [true, true, true, true])) (stOf 89 [(0, .val (.int .i64 x0)), (2, .val (.int .u64 x2)), (7, .ptr 7 0 0 0), (8, .ptr 8 0 0 0), (9, .ptr 9 0 0 0), (10, .ptr 10 0 0 0), (11, .val (.bool x11))] [(7, .own [.val (.int .u64 c7_0), .val (.int .u64 c7_1)]), (8, .own [.val (.int .u64 c8_0), .val (.int .u64 c8_1)]), (9, .own [.val (.int .u64 c9_0), .val (.int .u64 c9_1)]), (10, .own [.val (.int .u64 c10_0), .val (.int .u64 c10_1)])]) (retC Try.prog Try.f8.results saturatelaw13_RangesLeast.r.dec)
noncomputable def saturatelaw13_RangesLeast.p7 (m fu : Nat) (x0 : Int) (x2 : Int) (x11 : Bool) (c7_0 : Int) (c7_1 : Int) (c8_0 : Int) (c8_1 : Int) (c10_0 : Int) (c10_1 : Int) : Option Bool :=
  joinK m (saturatelaw13_RangesLeast.K fu (sub saturatelaw13_RangesLeast.body [true, true, true, true, true])) (stOf 89 [(0, .val (.int .i64 x0)), (2, .val (.int .u64 x2)), (7, .ptr 7 0 0 0), (8, .ptr 8 0 0 0), (10, .ptr 10 0 0 0), (11, .val (.bool x11))] [(7, .own [.val (.int .u64 c7_0), .val (.int .u64 c7_1)]), (8, .own [.val (.int .u64 c8_0), .val (.int .u64 c8_1)]), (10, .own [.val (.int .u64 c10_0), .val (.int .u64 c10_1)])]) (retC Try.prog Try.f8.results saturatelaw13_RangesLeast.r.dec)
theorem saturatelaw13_RangesLeast.p7_eq (m fu : Nat) (x0 : Int) (x2 : Int) (x11 : Bool) (c7_0 : Int) (c7_1 : Int) (c8_0 : Int) (c8_1 : Int) (c10_0 : Int) (c10_1 : Int) : saturatelaw13_RangesLeast.p7 (m + 1) fu x0 x2 x11 c7_0 c7_1 c8_0 c8_1 c10_0 c10_1 =
  (ranges_Has.f x0 (c7_0, c7_1) x2).bind fun r9 =>
  bif r9 then
    (ranges_Has.f x0 (c8_0, c8_1) x2).bind fun r10 =>
    bif x11 then
      (ranges_Has.f x0 (c10_0, c10_1) x2).bind fun r11 =>
      bif (r10 == r11) then
        (saturatelaw13_lives.f).bind fun r12 =>
        some r12
      else
        some false
    else
      bif (r10 == false) then
        (saturatelaw13_lives.f).bind fun r13 =>
        some r13
      else
        some false
  else
    bif x11 then
      (ranges_Has.f x0 (c10_0, c10_1) x2).bind fun r14 =>
      bif (false == r14) then
        (saturatelaw13_lives.f).bind fun r15 =>
        some r15
      else
        some false
    else
      (saturatelaw13_lives.f).bind fun r16 =>
      some r16 := by kernel_rfl
theorem saturatelaw13_RangesLeast.p5_eq (m fu : Nat) (x0 : Int) (x2 : Int) (x11 : Bool) (c7_0 : Int) (c7_1 : Int) (c8_0 : Int) (c8_1 : Int) (c9_0 : Int) (c9_1 : Int) (c10_0 : Int) (c10_1 : Int) : saturatelaw13_RangesLeast.p5 (m + 1) fu x0 x2 x11 c7_0 c7_1 c8_0 c8_1 c9_0 c9_1 c10_0 c10_1 =
  (ranges_Leq.f x0 (c9_0, c9_1) (c7_0, c7_1)).bind fun r6 =>
  bif r6 then
    (ranges_Leq.f x0 (c9_0, c9_1) (c8_0, c8_1)).bind fun r7 =>
    bif r7 then
      bif (!x11) then
        some false
      else
        (ranges_Leq.f x0 (c9_0, c9_1) (c10_0, c10_1)).bind fun r8 =>
        bif (!r8) then
          some false
        else
          saturatelaw13_RangesLeast.p7 fu fu x0 x2 x11 c7_0 c7_1 c8_0 c8_1 c10_0 c10_1
    else
      saturatelaw13_RangesLeast.p7 fu fu x0 x2 x11 c7_0 c7_1 c8_0 c8_1 c10_0 c10_1
  else
    saturatelaw13_RangesLeast.p7 fu fu x0 x2 x11 c7_0 c7_1 c8_0 c8_1 c10_0 c10_1 := by kernel_rfl
noncomputable def saturatelaw13_RangesLeast.g (fu : Nat) (a0 : Int) (a1 : Int × Int × Int × Int × Int × Int) (a2 : Int) : Option (Bool) :=
  (ranges_Meet.f a0 (a1.1, a1.2.1) (a1.2.2.1, a1.2.2.2.1)).bind fun r1 =>
  (ranges_Leq.f a0 (a1.1, a1.2.1) (a1.2.2.2.2.1, a1.2.2.2.2.2)).bind fun r2 =>
  bif r2 then
    (ranges_Leq.f a0 (a1.2.2.1, a1.2.2.2.1) (a1.2.2.2.2.1, a1.2.2.2.2.2)).bind fun r3 =>
    bif r3 then
      (ranges_Join.f a0 (a1.1, a1.2.1) (a1.2.2.1, a1.2.2.2.1)).bind fun r4 =>
      (ranges_Leq.f a0 (r4.1, r4.2) (a1.2.2.2.2.1, a1.2.2.2.2.2)).bind fun r5 =>
      bif (!r5) then
        some false
      else
        saturatelaw13_RangesLeast.p5 fu fu a0 a2 r1.2 a1.1 a1.2.1 a1.2.2.1 a1.2.2.2.1 a1.2.2.2.2.1 a1.2.2.2.2.2 r1.1.1 r1.1.2
    else
      saturatelaw13_RangesLeast.p5 fu fu a0 a2 r1.2 a1.1 a1.2.1 a1.2.2.1 a1.2.2.2.1 a1.2.2.2.2.1 a1.2.2.2.2.2 r1.1.1 r1.1.2
  else
    saturatelaw13_RangesLeast.p5 fu fu a0 a2 r1.2 a1.1 a1.2.1 a1.2.2.1 a1.2.2.2.1 a1.2.2.2.2.1 a1.2.2.2.2.2 r1.1.1 r1.1.2
noncomputable def saturatelaw13_RangesLeast.f (a0 : Int) (a1 : Int × Int × Int × Int × Int × Int) (a2 : Int) : Option (Bool) := saturatelaw13_RangesLeast.g (fuel0 + 1) a0 a1 a2
theorem saturatelaw13_RangesLeast.eq (fu : Nat) (a : Int × (Int × Int × Int × Int × Int × Int) × Int × Unit) : bodyK Try.prog saturatelaw13_RangesLeast.cs saturatelaw13_RangesLeast.live fu Try.f8 (saturatelaw13_RangesLeast.a.enc a) saturatelaw13_RangesLeast.r.dec = saturatelaw13_RangesLeast.g fu a.1 a.2.1 a.2.2.1 := by kernel_rfl
theorem saturatelaw13_RangesLeast.con : ∀ (a : Int × (Int × Int × Int × Int × Int × Int) × Int × Unit) (r : Bool), saturatelaw13_RangesLeast.f a.1 a.2.1 a.2.2.1 = some r → Contract Try.prog 8 (saturatelaw13_RangesLeast.a.enc a) (saturatelaw13_RangesLeast.r.enc r) := Contract.of_body (F := fun (a : Int × (Int × Int × Int × Int × Int × Int) × Int × Unit) => saturatelaw13_RangesLeast.f a.1 a.2.1 a.2.2.1) (fn := Try.f8) (cs := saturatelaw13_RangesLeast.cs) (live := saturatelaw13_RangesLeast.live) (fuel := fuel0 + 1) (by kernel_rfl) (by kernel_rfl) mixed (saturatelaw13_RangesLeast.eq (fuel0 + 1))
noncomputable def saturatelaw13_RangesLeast.c : Kn Try.prog := Kn.of 8 saturatelaw13_RangesLeast.a saturatelaw13_RangesLeast.r (fun a => saturatelaw13_RangesLeast.f a.1 a.2.1 a.2.2.1) saturatelaw13_RangesLeast.con
end Go.Proofs.Ytchahcaccneinaa.Fn
