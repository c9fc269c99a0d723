/- What the functions return, as the evaluator tells it: written by a program of this workplace (mev.py); Lean checks each equation. -/
import Derived.Test.YtbfniopkadaheaaProg
import Derived.Test.YtbfniopkadaheaaEvC
import Derived.Test.YtbfniopkadaheaaF2
namespace Go.Proofs.Ytbfniopkadaheaa.Fn
open Go Go.RowKit Go.Proofs.Ytbfniopkadaheaa.Ev Go.Proofs
set_option linter.unusedVariables false
set_option maxRecDepth 100000
/-! ### saturateref12_exact: function 77 -/
def saturateref12_exact.a : ACods (Int × Int × Int × (Int × Int) × (Int × Int) × Unit) := (.cons (.val (.int .i64)) (.cons (.val (.int .i64)) (.cons (.val (.int .i64)) (.cons (.val (.agg (.cons (.int .u64) (.one (.int .u64))))) (.cons (.val (.agg (.cons (.int .u64) (.one (.int .u64))))) .nil)))))
def saturateref12_exact.r : RCod (Int × Int) := .val (.agg (.cons (.int .u64) (.one (.int .u64))))
noncomputable def saturateref12_exact.cs : List (Kn Try.prog) := [saturateref12_Single.c, saturateref12_value.c, saturateref12_Const.c, saturateref01_Count.c, saturateref12_Top.c, saturateref01_Lowest.c, saturateref12_bit.c, saturateref12_with.c]
def saturateref12_exact.live : Nat → Option Keep := liveOf [(17, ⟨[1, 8, 10, 13, 15, 16], [8, 10, 15], []⟩), (26, ⟨[1, 8, 10, 13, 15, 16, 17], [8, 10, 15], []⟩), (30, ⟨[10], [10], []⟩)]
noncomputable def saturateref12_exact.body : Code := bodyOf Try.f77
noncomputable def saturateref12_exact.K (fu : Nat) : Code → St → (Ex → St → Option (Int × Int)) → Option (Int × Int) := codeK Try.prog saturateref12_exact.cs saturateref12_exact.live fu
noncomputable def saturateref12_exact.j8 (fu : Nat) (n8 : Nat) (x1 : Int) (x13 : Int) (x16 : Int) (c8_0 : Int) (c8_1 : Int) (c10_0 : Int) (c10_1 : Int) (c15_0 : Int) (c15_1 : Int) : Option (Int × Int) :=
  loopK (saturateref12_exact.K fu (sub saturateref12_exact.body [true, true, true, false, false, true, true, true, false, true, false, true, false, false])) (saturateref12_exact.live 17) n8 (stOf 72 [(1, .val (.int .i64 x1)), (8, .ptr 8 0 0 0), (10, .ptr 10 0 0 0), (13, .val (.int .u64 x13)), (15, .ptr 15 0 0 0), (16, .val (.int .i64 x16))] [(8, .own [.val (.int .u64 c8_0), .val (.int .u64 c8_1)]), (10, .own [.val (.int .u64 c10_0), .val (.int .u64 c10_1)]), (15, .own [.val (.int .u64 c15_0), .val (.int .u64 c15_1)])]) (blockC 1 (seqC fu (saturateref12_exact.live 28) (saturateref12_exact.K fu (sub saturateref12_exact.body [true, true, true, false, false, true, true, true, false, true, true])) (blockC 0 (seqC fu (saturateref12_exact.live 30) (saturateref12_exact.K fu (sub saturateref12_exact.body [true, true, true, true])) (retC Try.prog Try.f77.results saturateref12_exact.r.dec)))))
noncomputable def saturateref12_exact.p13 (m fu : Nat) (n8 : Nat) (x1 : Int) (x13 : Int) (x16 : Int) (x17 : Int) (c8_0 : Int) (c8_1 : Int) (c10_0 : Int) (c10_1 : Int) (c15_0 : Int) (c15_1 : Int) : Option (Int × Int) :=
  joinK m (saturateref12_exact.K fu (sub saturateref12_exact.body [true, true, true, false, false, true, true, true, false, true, false, true, false, false, true, false, false, true, true])) (stOf 72 [(1, .val (.int .i64 x1)), (8, .ptr 8 0 0 0), (10, .ptr 10 0 0 0), (13, .val (.int .u64 x13)), (15, .ptr 15 0 0 0), (16, .val (.int .i64 x16)), (17, .val (.int .i64 x17))] [(8, .own [.val (.int .u64 c8_0), .val (.int .u64 c8_1)]), (10, .own [.val (.int .u64 c10_0), .val (.int .u64 c10_1)]), (15, .own [.val (.int .u64 c15_0), .val (.int .u64 c15_1)])]) (blockC 2 (seqC fu (saturateref12_exact.live 18) (saturateref12_exact.K fu (sub saturateref12_exact.body [true, true, true, false, false, true, true, true, false, true, false, true, false, false, true, true])) (roundC (saturateref12_exact.live 17) (loopK (saturateref12_exact.K fu (sub saturateref12_exact.body [true, true, true, false, false, true, true, true, false, true, false, true, false, false])) (saturateref12_exact.live 17) n8) (blockC 1 (seqC fu (saturateref12_exact.live 28) (saturateref12_exact.K fu (sub saturateref12_exact.body [true, true, true, false, false, true, true, true, false, true, true])) (blockC 0 (seqC fu (saturateref12_exact.live 30) (saturateref12_exact.K fu (sub saturateref12_exact.body [true, true, true, true])) (retC Try.prog Try.f77.results saturateref12_exact.r.dec))))))))
noncomputable def saturateref12_exact.p15 (m fu : Nat) : Option (Int × Int) :=
  joinK m (saturateref12_exact.K fu (sub saturateref12_exact.body [true, true, true, true])) (stOf 72 [(10, .ptr 10 0 0 0)] [(10, .own [.val (.int .u64 0), .val (.int .u64 0)])]) (retC Try.prog Try.f77.results saturateref12_exact.r.dec)
theorem saturateref12_exact.p13_eq (m fu : Nat) (n8 : Nat) (x1 : Int) (x13 : Int) (x16 : Int) (x17 : Int) (c8_0 : Int) (c8_1 : Int) (c10_0 : Int) (c10_1 : Int) (c15_0 : Int) (c15_1 : Int) : saturateref12_exact.p13 (m + 1) fu n8 x1 x13 x16 x17 c8_0 c8_1 c10_0 c10_1 c15_0 c15_1 =
  (saturateref12_with.f (c15_0, c15_1) x16 x17).bind fun r9 =>
  saturateref12_exact.j8 fu n8 x1 x13 (IntKind.i64.wrap (x16 + 1)) c8_0 c8_1 c10_0 c10_1 r9.1 r9.2 := by kernel_rfl
theorem saturateref12_exact.j8_succ (fu : Nat) (n8 : Nat) (x1 : Int) (x13 : Int) (x16 : Int) (c8_0 : Int) (c8_1 : Int) (c10_0 : Int) (c10_1 : Int) (c15_0 : Int) (c15_1 : Int) : saturateref12_exact.j8 fu (n8 + 1) x1 x13 x16 c8_0 c8_1 c10_0 c10_1 c15_0 c15_1 =
  bif (decide (x16 < x1)) then
    (saturateref01_Lowest.f x13).bind fun r7 =>
    bif (decide (x16 < r7)) then
      (saturateref12_bit.f (c8_0, c8_1) x16).bind fun r8 =>
      saturateref12_exact.p13 fu fu n8 x1 x13 x16 r8 c8_0 c8_1 c10_0 c10_1 c15_0 c15_1
    else
      saturateref12_exact.p13 fu fu n8 x1 x13 x16 0 c8_0 c8_1 c10_0 c10_1 c15_0 c15_1
  else
    some (c15_0, c15_1) := by kernel_rfl
theorem saturateref12_exact.p15_eq (m fu : Nat) : saturateref12_exact.p15 (m + 1) fu =
  (saturateref12_Top.f).bind fun r10 =>
  some (r10.1, r10.2) := by kernel_rfl
noncomputable def saturateref12_exact.g (fu : Nat) (a0 : Int) (a1 : Int) (a2 : Int) (a3 : Int × Int) (a4 : Int × Int) : Option (Int × Int) :=
  (saturateref12_Single.f a1 (a3.1, a3.2)).bind fun r1 =>
  (saturateref12_Single.f a1 (a4.1, a4.2)).bind fun r2 =>
  bif r1.2 then
    bif r2.2 then
      (saturateref12_value.f a0 a1 r1.1 r2.1).bind fun r3 =>
      (saturateref12_Const.f a2 r3).bind fun r4 =>
      some (r4.1, r4.2)
    else
      bif (a0 == 12) then
        bif r2.2 then
          (saturateref01_Count.f r2.1).bind fun r5 =>
          bif (r5 == 1) then
            (saturateref12_Top.f).bind fun r6 =>
            saturateref12_exact.j8 fu fu a1 r2.1 0 a3.1 a3.2 0 0 r6.1 r6.2
          else
            saturateref12_exact.p15 fu fu
        else
          saturateref12_exact.p15 fu fu
      else
        saturateref12_exact.p15 fu fu
  else
    bif (a0 == 12) then
      bif r2.2 then
        (saturateref01_Count.f r2.1).bind fun r11 =>
        bif (r11 == 1) then
          (saturateref12_Top.f).bind fun r12 =>
          saturateref12_exact.j8 fu fu a1 r2.1 0 a3.1 a3.2 0 0 r12.1 r12.2
        else
          saturateref12_exact.p15 fu fu
      else
        saturateref12_exact.p15 fu fu
    else
      saturateref12_exact.p15 fu fu
noncomputable def saturateref12_exact.f (a0 : Int) (a1 : Int) (a2 : Int) (a3 : Int × Int) (a4 : Int × Int) : Option (Int × Int) := saturateref12_exact.g (fuel0 + 1) a0 a1 a2 a3 a4
theorem saturateref12_exact.eq (fu : Nat) (a : Int × Int × Int × (Int × Int) × (Int × Int) × Unit) : bodyK Try.prog saturateref12_exact.cs saturateref12_exact.live fu Try.f77 (saturateref12_exact.a.enc a) saturateref12_exact.r.dec = saturateref12_exact.g fu a.1 a.2.1 a.2.2.1 a.2.2.2.1 a.2.2.2.2.1 := by kernel_rfl
theorem saturateref12_exact.con : ∀ (a : Int × Int × Int × (Int × Int) × (Int × Int) × Unit) (r : Int × Int), saturateref12_exact.f a.1 a.2.1 a.2.2.1 a.2.2.2.1 a.2.2.2.2.1 = some r → Contract Try.prog 77 (saturateref12_exact.a.enc a) (saturateref12_exact.r.enc r) := Contract.of_body (F := fun (a : Int × Int × Int × (Int × Int) × (Int × Int) × Unit) => saturateref12_exact.f a.1 a.2.1 a.2.2.1 a.2.2.2.1 a.2.2.2.2.1) (fn := Try.f77) (cs := saturateref12_exact.cs) (live := saturateref12_exact.live) (fuel := fuel0 + 1) (by kernel_rfl) (by kernel_rfl) mixed (saturateref12_exact.eq (fuel0 + 1))
noncomputable def saturateref12_exact.c : Kn Try.prog := Kn.of 77 saturateref12_exact.a saturateref12_exact.r (fun a => saturateref12_exact.f a.1 a.2.1 a.2.2.1 a.2.2.2.1 a.2.2.2.2.1) saturateref12_exact.con

/-! ### saturateref12_binary: function 47 -/
def saturateref12_binary.a : ACods (Int × Int × Int × (Int × Int) × (Int × Int) × Unit) := (.cons (.val (.int .i64)) (.cons (.val (.int .i64)) (.cons (.val (.int .i64)) (.cons (.val (.agg (.cons (.int .u64) (.one (.int .u64))))) (.cons (.val (.agg (.cons (.int .u64) (.one (.int .u64))))) .nil)))))
def saturateref12_binary.r : RCod (Int × Int) := .val (.agg (.cons (.int .u64) (.one (.int .u64))))
noncomputable def saturateref12_binary.cs : List (Kn Try.prog) := [saturateref12_bitwise.c, saturateref12_Add.c, saturateref12_Sub.c, saturateref12_times.c, saturateref12_shifted.c, saturateref12_equal.c, saturateref12_exact.c]
def saturateref12_binary.live : Nat → Option Keep := liveOf []
noncomputable def saturateref12_binary.body : Code := bodyOf Try.f47
noncomputable def saturateref12_binary.K (fu : Nat) : Code → St → (Ex → St → Option (Int × Int)) → Option (Int × Int) := codeK Try.prog saturateref12_binary.cs saturateref12_binary.live fu
noncomputable def saturateref12_binary.f (a0 : Int) (a1 : Int) (a2 : Int) (a3 : Int × Int) (a4 : Int × Int) : Option (Int × Int) :=
  bif (a0 == 5) then
    (saturateref12_bitwise.f a0 (a3.1, a3.2) (a4.1, a4.2)).bind fun r1 =>
    some (r1.1, r1.2)
  else
    bif (a0 == 6) then
      (saturateref12_bitwise.f a0 (a3.1, a3.2) (a4.1, a4.2)).bind fun r2 =>
      some (r2.1, r2.2)
    else
      bif (a0 == 7) then
        (saturateref12_bitwise.f a0 (a3.1, a3.2) (a4.1, a4.2)).bind fun r3 =>
        some (r3.1, r3.2)
      else
        bif (a0 == 8) then
          (saturateref12_Add.f a1 (a3.1, a3.2) (a4.1, a4.2)).bind fun r4 =>
          some (r4.1, r4.2)
        else
          bif (a0 == 9) then
            (saturateref12_Sub.f a1 (a3.1, a3.2) (a4.1, a4.2)).bind fun r5 =>
            some (r5.1, r5.2)
          else
            bif (a0 == 10) then
              (saturateref12_times.f a1 (a3.1, a3.2) (a4.1, a4.2)).bind fun r6 =>
              some (r6.1, r6.2)
            else
              bif (a0 == 13) then
                (saturateref12_shifted.f a0 a1 (a3.1, a3.2) (a4.1, a4.2)).bind fun r7 =>
                some (r7.1, r7.2)
              else
                bif (a0 == 14) then
                  (saturateref12_shifted.f a0 a1 (a3.1, a3.2) (a4.1, a4.2)).bind fun r8 =>
                  some (r8.1, r8.2)
                else
                  bif (a0 == 15) then
                    (saturateref12_shifted.f a0 a1 (a3.1, a3.2) (a4.1, a4.2)).bind fun r9 =>
                    some (r9.1, r9.2)
                  else
                    bif (a0 == 16) then
                      (saturateref12_equal.f a1 (a3.1, a3.2) (a4.1, a4.2)).bind fun r10 =>
                      some (r10.1, r10.2)
                    else
                      (saturateref12_exact.f a0 a1 a2 (a3.1, a3.2) (a4.1, a4.2)).bind fun r11 =>
                      some (r11.1, r11.2)
theorem saturateref12_binary.eq (fu : Nat) (a : Int × Int × Int × (Int × Int) × (Int × Int) × Unit) : bodyK Try.prog saturateref12_binary.cs saturateref12_binary.live fu Try.f47 (saturateref12_binary.a.enc a) saturateref12_binary.r.dec = saturateref12_binary.f a.1 a.2.1 a.2.2.1 a.2.2.2.1 a.2.2.2.2.1 := by kernel_rfl
theorem saturateref12_binary.con : ∀ (a : Int × Int × Int × (Int × Int) × (Int × Int) × Unit) (r : Int × Int), saturateref12_binary.f a.1 a.2.1 a.2.2.1 a.2.2.2.1 a.2.2.2.2.1 = some r → Contract Try.prog 47 (saturateref12_binary.a.enc a) (saturateref12_binary.r.enc r) := Contract.of_body (F := fun (a : Int × Int × Int × (Int × Int) × (Int × Int) × Unit) => saturateref12_binary.f a.1 a.2.1 a.2.2.1 a.2.2.2.1 a.2.2.2.2.1) (fn := Try.f47) (cs := saturateref12_binary.cs) (live := saturateref12_binary.live) (fuel := fuel0 + 1) (by kernel_rfl) (by kernel_rfl) mixed (saturateref12_binary.eq (fuel0 + 1))
noncomputable def saturateref12_binary.c : Kn Try.prog := Kn.of 47 saturateref12_binary.a saturateref12_binary.r (fun a => saturateref12_binary.f a.1 a.2.1 a.2.2.1 a.2.2.2.1 a.2.2.2.2.1) saturateref12_binary.con

/-! ### saturateref12_Apply: function 13 -/
def saturateref12_Apply.a : ACods (Int × Int × Int × (Nat × (Nat → Int)) × (Nat × (Nat → Int) × (Nat → Int)) × Unit) := (.cons (.val (.int .i64)) (.cons (.val (.int .i64)) (.cons (.val (.int .u64)) (.cons (.rows (.int1 .i64)) (.cons (.rows (.int .u64 (.int1 .u64))) .nil)))))
def saturateref12_Apply.r : RCod ((Int × Int) × Int) := .val (.tup (.cons (.agg (.cons (.int .u64) (.one (.int .u64)))) (.one (.int .i64))))
noncomputable def saturateref12_Apply.cs : List (Kn Try.prog) := [saturateref12_Refused.c, saturateref12_Of.c, saturateref12_Top.c, saturateref12_Const.c, saturateref12_Single.c, saturateref12_Join.c, saturateref12_concat.c, saturateref12_unary.c, saturateref12_binary.c]
def saturateref12_Apply.live : Nat → Option Keep := liveOf [(13, ⟨[0, 2, 3, 4, 10, 12, 14, 15], [3, 4, 10, 14], [(14, 31, [.int .u64 (fun _ => 0), .int .u64 (fun _ => 0)])]⟩), (40, ⟨[10, 12, 14], [10, 14], []⟩)]
noncomputable def saturateref12_Apply.body : Code := bodyOf Try.f13
noncomputable def saturateref12_Apply.K (fu : Nat) : Code → St → (Ex → St → Option ((Int × Int) × Int)) → Option ((Int × Int) × Int) := codeK Try.prog saturateref12_Apply.cs saturateref12_Apply.live fu
noncomputable def saturateref12_Apply.j6 (fu : Nat) (n6 : Nat) (x0 : Int) (x2 : Int) (x3n : Nat) (x4n : Nat) (x12 : Int) (x14n : Nat) (x15 : Int) (m3 : Nat) (g3_0 : Nat → Int) (m4 : Nat) (g4_0 : Nat → Int) (g4_1 : Nat → Int) (c10_0 : Int) (c10_1 : Int) (m14 : Nat) (g14_0 : Nat → Int) (g14_1 : Nat → Int) : Option ((Int × Int) × Int) :=
  loopK (saturateref12_Apply.K fu (sub saturateref12_Apply.body [true, true, true, true, false, true, false, false])) (saturateref12_Apply.live 13) n6 (stOf 130 [(0, .val (.int .i64 x0)), (2, .val (.int .u64 x2)), (3, .sl 3 1 x3n), (4, .sl 4 2 x4n), (10, .ptr 10 0 0 0), (12, .val (.int .i64 x12)), (14, .sl 14 2 x14n), (15, .val (.int .i64 x15))] [(3, .ext m3 [.int .i64 g3_0]), (4, .ext m4 [.int .u64 g4_0, .int .u64 g4_1]), (10, .own [.val (.int .u64 c10_0), .val (.int .u64 c10_1)]), (14, .grow 31 m14 [.int .u64 g14_0, .int .u64 g14_1])]) (blockC 0 (seqC fu (saturateref12_Apply.live 18) (saturateref12_Apply.K fu (sub saturateref12_Apply.body [true, true, true, true, true])) (retC Try.prog Try.f13.results saturateref12_Apply.r.dec)))
noncomputable def saturateref12_Apply.p20 (m fu : Nat) (x12 : Int) (x14n : Nat) (c10_0 : Int) (c10_1 : Int) (m14 : Nat) (g14_0 : Nat → Int) (g14_1 : Nat → Int) : Option ((Int × Int) × Int) :=
  joinK m (saturateref12_Apply.K fu (sub saturateref12_Apply.body [true, true, true, true, true, false, true, false, true, true, true, true, true, false, true, true])) (stOf 130 [(10, .ptr 10 0 0 0), (12, .val (.int .i64 x12)), (14, .sl 14 2 x14n)] [(10, .own [.val (.int .u64 c10_0), .val (.int .u64 c10_1)]), (14, .grow 31 m14 [.int .u64 g14_0, .int .u64 g14_1])]) (blockC 2 (seqC fu (saturateref12_Apply.live 46) (saturateref12_Apply.K fu (sub saturateref12_Apply.body [true, true, true, true, true, true])) (retC Try.prog Try.f13.results saturateref12_Apply.r.dec)))
theorem saturateref12_Apply.p20_eq (m fu : Nat) (x12 : Int) (x14n : Nat) (c10_0 : Int) (c10_1 : Int) (m14 : Nat) (g14_0 : Nat → Int) (g14_1 : Nat → Int) : saturateref12_Apply.p20 (m + 1) fu x12 x14n c10_0 c10_1 m14 g14_0 g14_1 =
  bif decide ((1 : Int) < (x14n : Int)) then
    bif decide ((2 : Int) < (x14n : Int)) then
      (saturateref12_Join.f x12 ((g14_0 1), (g14_1 1)) ((g14_0 2), (g14_1 2))).bind fun r6 =>
      some ((r6.1, r6.2), 0)
    else
      none
  else
    none := by kernel_rfl
theorem saturateref12_Apply.j6_succ (fu : Nat) (n6 : Nat) (x0 : Int) (x2 : Int) (x3n : Nat) (x4n : Nat) (x12 : Int) (x14n : Nat) (x15 : Int) (m3 : Nat) (g3_0 : Nat → Int) (m4 : Nat) (g4_0 : Nat → Int) (g4_1 : Nat → Int) (c10_0 : Int) (c10_1 : Int) (m14 : Nat) (g14_0 : Nat → Int) (g14_1 : Nat → Int) : saturateref12_Apply.j6 fu (n6 + 1) x0 x2 x3n x4n x12 x14n x15 m3 g3_0 m4 g4_0 g4_1 c10_0 c10_1 m14 g14_0 g14_1 =
  bif (decide (x15 < (x4n : Int))) then
    bif decide (0 ≤ x15) then
      bif decide (x15 < (x3n : Int)) then
        bif decide (0 ≤ x15) then
          bif decide (x15 < (x4n : Int)) then
            (saturateref12_Of.f (g3_0 x15.toNat) ((g4_0 x15.toNat), (g4_1 x15.toNat))).bind fun r2 =>
            bif Nat.ble ((x14n + 1) * 16) 140737488355328 then
              saturateref12_Apply.j6 fu n6 x0 x2 x3n x4n x12 (x14n + 1) (IntKind.i64.wrap (x15 + 1)) m3 g3_0 m4 g4_0 g4_1 c10_0 c10_1 (x14n + 1) (cat x14n g14_0 (fun i => [r2.1].getD i 0)) (cat x14n g14_1 (fun i => [r2.2].getD i 0))
            else
              none
          else
            none
        else
          none
      else
        none
    else
      none
  else
    bif (x0 == 1) then
      (saturateref12_Top.f).bind fun r3 =>
      some ((r3.1, r3.2), 0)
    else
      bif (x0 == 2) then
        (saturateref12_Const.f x12 x2).bind fun r4 =>
        some ((r4.1, r4.2), 0)
      else
        bif (x0 == 19) then
          bif decide ((0 : Int) < (x14n : Int)) then
            (saturateref12_Single.f 1 ((g14_0 0), (g14_1 0))).bind fun r5 =>
            bif r5.2 then
              bif (r5.1 == 1) then
                bif decide ((1 : Int) < (x14n : Int)) then
                  some (((g14_0 1), (g14_1 1)), 0)
                else
                  none
              else
                bif r5.2 then
                  bif decide ((2 : Int) < (x14n : Int)) then
                    some (((g14_0 2), (g14_1 2)), 0)
                  else
                    none
                else
                  saturateref12_Apply.p20 fu fu x12 x14n c10_0 c10_1 m14 g14_0 g14_1
            else
              bif r5.2 then
                bif decide ((2 : Int) < (x14n : Int)) then
                  some (((g14_0 2), (g14_1 2)), 0)
                else
                  none
              else
                saturateref12_Apply.p20 fu fu x12 x14n c10_0 c10_1 m14 g14_0 g14_1
          else
            none
        else
          bif (x0 == 20) then
            bif decide ((0 : Int) < (x3n : Int)) then
              bif decide ((1 : Int) < (x3n : Int)) then
                bif decide ((0 : Int) < (x14n : Int)) then
                  bif decide ((1 : Int) < (x14n : Int)) then
                    (saturateref12_concat.f (g3_0 0) (g3_0 1) ((g14_0 0), (g14_1 0)) ((g14_0 1), (g14_1 1))).bind fun r7 =>
                    some ((r7.1, r7.2), 0)
                  else
                    none
                else
                  none
              else
                none
            else
              none
          else
            bif ((x14n : Int) == 1) then
              bif decide ((0 : Int) < (x3n : Int)) then
                bif decide ((0 : Int) < (x14n : Int)) then
                  (saturateref12_unary.f x0 x12 x2 (g3_0 0) ((g14_0 0), (g14_1 0))).bind fun r8 =>
                  some ((r8.1, r8.2), 0)
                else
                  none
              else
                none
            else
              bif decide ((0 : Int) < (x3n : Int)) then
                bif decide ((0 : Int) < (x14n : Int)) then
                  bif decide ((1 : Int) < (x14n : Int)) then
                    (saturateref12_binary.f x0 (g3_0 0) x12 ((g14_0 0), (g14_1 0)) ((g14_0 1), (g14_1 1))).bind fun r9 =>
                    some ((r9.1, r9.2), 0)
                  else
                    none
                else
                  none
              else
                none := by kernel_rfl
noncomputable def saturateref12_Apply.g (fu : Nat) (a0 : Int) (a1 : Int) (a2 : Int) (a3 : Nat × (Nat → Int)) (a4 : Nat × (Nat → Int) × (Nat → Int)) : Option ((Int × Int) × Int) :=
  (saturateref12_Refused.f a0 a1 a2 (a3.1, a3.2) (a4.1 : Int)).bind fun r1 =>
  bif (r1.2 != 0) then
    some ((0, 0), r1.2)
  else
    saturateref12_Apply.j6 fu fu a0 a2 a3.1 a4.1 r1.1 0 0 a3.1 a3.2 a4.1 a4.2.1 a4.2.2 0 0 0 (fun _ => 0) (fun _ => 0)
noncomputable def saturateref12_Apply.f (a0 : Int) (a1 : Int) (a2 : Int) (a3 : Nat × (Nat → Int)) (a4 : Nat × (Nat → Int) × (Nat → Int)) : Option ((Int × Int) × Int) := saturateref12_Apply.g (fuel0 + 1) a0 a1 a2 a3 a4
theorem saturateref12_Apply.eq (fu : Nat) (a : Int × Int × Int × (Nat × (Nat → Int)) × (Nat × (Nat → Int) × (Nat → Int)) × Unit) : bodyK Try.prog saturateref12_Apply.cs saturateref12_Apply.live fu Try.f13 (saturateref12_Apply.a.enc a) saturateref12_Apply.r.dec = saturateref12_Apply.g fu a.1 a.2.1 a.2.2.1 a.2.2.2.1 a.2.2.2.2.1 := by kernel_rfl
theorem saturateref12_Apply.con : ∀ (a : Int × Int × Int × (Nat × (Nat → Int)) × (Nat × (Nat → Int) × (Nat → Int)) × Unit) (r : (Int × Int) × Int), saturateref12_Apply.f a.1 a.2.1 a.2.2.1 a.2.2.2.1 a.2.2.2.2.1 = some r → Contract Try.prog 13 (saturateref12_Apply.a.enc a) (saturateref12_Apply.r.enc r) := Contract.of_body (F := fun (a : Int × Int × Int × (Nat × (Nat → Int)) × (Nat × (Nat → Int) × (Nat → Int)) × Unit) => saturateref12_Apply.f a.1 a.2.1 a.2.2.1 a.2.2.2.1 a.2.2.2.2.1) (fn := Try.f13) (cs := saturateref12_Apply.cs) (live := saturateref12_Apply.live) (fuel := fuel0 + 1) (by kernel_rfl) (by kernel_rfl) mixed (saturateref12_Apply.eq (fuel0 + 1))
noncomputable def saturateref12_Apply.c : Kn Try.prog := Kn.of 13 saturateref12_Apply.a saturateref12_Apply.r (fun a => saturateref12_Apply.f a.1 a.2.1 a.2.2.1 a.2.2.2.1 a.2.2.2.2.1) saturateref12_Apply.con

/-! ### saturatelaw12_KnownApply: function 3 -/
def saturatelaw12_KnownApply.a : ACods ((Int × Int × Int × (Nat × (Nat → Int)) × (Nat × (Nat → Int) × (Nat → Int))) × Unit) := (.cons (.pk (.cons (.val (.int .i64)) (.cons (.val (.int .i64)) (.cons (.val (.int .u64)) (.cons (.rows (.int1 .i64)) (.one (.rows (.int .u64 (.int1 .u64))))))))) .nil)
def saturatelaw12_KnownApply.r : RCod (Bool) := .val (.bool)
noncomputable def saturatelaw12_KnownApply.cs : List (Kn Try.prog) := [saturatelaw12_few.c, saturatelaw12_lives.c, known_Apply.c, saturateref12_Apply.c]
def saturatelaw12_KnownApply.live : Nat → Option Keep := liveOf []
noncomputable def saturatelaw12_KnownApply.body : Code := bodyOf Try.f3
noncomputable def saturatelaw12_KnownApply.K (fu : Nat) : Code → St → (Ex → St → Option (Bool)) → Option (Bool) := codeK Try.prog saturatelaw12_KnownApply.cs saturatelaw12_KnownApply.live fu
noncomputable def saturatelaw12_KnownApply.f (a0 : Int × Int × Int × (Nat × (Nat → Int)) × (Nat × (Nat → Int) × (Nat → Int))) : Option (Bool) :=
  (saturatelaw12_few.f (a0.1, a0.2.1, a0.2.2.1, (a0.2.2.2.1.1, a0.2.2.2.1.2), (a0.2.2.2.2.1, a0.2.2.2.2.2.1, a0.2.2.2.2.2.2))).bind fun r1 =>
  bif (!r1) then
    (saturatelaw12_lives.f).bind fun r2 =>
    some r2
  else
    (known_Apply.f a0.1 a0.2.1 a0.2.2.1 (a0.2.2.2.1.1, a0.2.2.2.1.2) (a0.2.2.2.2.1, a0.2.2.2.2.2.1, a0.2.2.2.2.2.2)).bind fun r3 =>
    (saturateref12_Apply.f a0.1 a0.2.1 a0.2.2.1 (a0.2.2.2.1.1, a0.2.2.2.1.2) (a0.2.2.2.2.1, a0.2.2.2.2.2.1, a0.2.2.2.2.2.2)).bind fun r4 =>
    bif ((r3.1.1 == r4.1.1) && ((r3.1.2 == r4.1.2) && true)) then
      bif (r3.2 == r4.2) then
        (saturatelaw12_lives.f).bind fun r5 =>
        some r5
      else
        some false
    else
      some false
theorem saturatelaw12_KnownApply.eq (fu : Nat) (a : (Int × Int × Int × (Nat × (Nat → Int)) × (Nat × (Nat → Int) × (Nat → Int))) × Unit) : bodyK Try.prog saturatelaw12_KnownApply.cs saturatelaw12_KnownApply.live fu Try.f3 (saturatelaw12_KnownApply.a.enc a) saturatelaw12_KnownApply.r.dec = saturatelaw12_KnownApply.f a.1 := by kernel_rfl
theorem saturatelaw12_KnownApply.con : ∀ (a : (Int × Int × Int × (Nat × (Nat → Int)) × (Nat × (Nat → Int) × (Nat → Int))) × Unit) (r : Bool), saturatelaw12_KnownApply.f a.1 = some r → Contract Try.prog 3 (saturatelaw12_KnownApply.a.enc a) (saturatelaw12_KnownApply.r.enc r) := Contract.of_body (F := fun (a : (Int × Int × Int × (Nat × (Nat → Int)) × (Nat × (Nat → Int) × (Nat → Int))) × Unit) => saturatelaw12_KnownApply.f a.1) (fn := Try.f3) (cs := saturatelaw12_KnownApply.cs) (live := saturatelaw12_KnownApply.live) (fuel := fuel0 + 1) (by kernel_rfl) (by kernel_rfl) mixed (saturatelaw12_KnownApply.eq (fuel0 + 1))
noncomputable def saturatelaw12_KnownApply.c : Kn Try.prog := Kn.of 3 saturatelaw12_KnownApply.a saturatelaw12_KnownApply.r (fun a => saturatelaw12_KnownApply.f a.1) saturatelaw12_KnownApply.con

/-! ### saturatelaw12_best: function 15 -/
def saturatelaw12_best.a : ACods ((Int × Int × Int × (Nat × (Nat → Int)) × (Nat × (Nat → Int) × (Nat → Int))) × Unit) := (.cons (.pk (.cons (.val (.int .i64)) (.cons (.val (.int .i64)) (.cons (.val (.int .u64)) (.cons (.rows (.int1 .i64)) (.one (.rows (.int .u64 (.int1 .u64))))))))) .nil)
def saturatelaw12_best.r : RCod (Bool) := .val (.bool)
noncomputable def saturatelaw12_best.cs : List (Kn Try.prog) := [saturateref12_Single.c, saturateref01_Count.c]
def saturatelaw12_best.live : Nat → Option Keep := liveOf []
noncomputable def saturatelaw12_best.body : Code := bodyOf Try.f15
noncomputable def saturatelaw12_best.K (fu : Nat) : Code → St → (Ex → St → Option (Bool)) → Option (Bool) := codeK Try.prog saturatelaw12_best.cs saturatelaw12_best.live fu
noncomputable def saturatelaw12_best.f (a0 : Int × Int × Int × (Nat × (Nat → Int)) × (Nat × (Nat → Int) × (Nat → Int))) : Option (Bool) :=
  bif (a0.1 == 3) then
    some true
  else
    bif (a0.1 == 4) then
      some true
    else
      bif (a0.1 == 5) then
        some true
      else
        bif (a0.1 == 6) then
          some true
        else
          bif (a0.1 == 7) then
            some true
          else
            bif (a0.1 == 8) then
              some true
            else
              bif (a0.1 == 9) then
                some true
              else
                bif (a0.1 == 19) then
                  some true
                else
                  bif (a0.1 == 20) then
                    some true
                  else
                    bif (a0.1 == 21) then
                      some true
                    else
                      bif (a0.1 == 22) then
                        some true
                      else
                        bif (a0.1 == 23) then
                          some true
                        else
                          bif (a0.1 == 13) then
                            bif decide ((1 : Int) < (a0.2.2.2.1.1 : Int)) then
                              bif decide ((1 : Int) < (a0.2.2.2.2.1 : Int)) then
                                (saturateref12_Single.f (a0.2.2.2.1.2 1) ((a0.2.2.2.2.2.1 1), (a0.2.2.2.2.2.2 1))).bind fun r1 =>
                                some r1.2
                              else
                                none
                            else
                              none
                          else
                            bif (a0.1 == 14) then
                              bif decide ((1 : Int) < (a0.2.2.2.1.1 : Int)) then
                                bif decide ((1 : Int) < (a0.2.2.2.2.1 : Int)) then
                                  (saturateref12_Single.f (a0.2.2.2.1.2 1) ((a0.2.2.2.2.2.1 1), (a0.2.2.2.2.2.2 1))).bind fun r2 =>
                                  some r2.2
                                else
                                  none
                              else
                                none
                            else
                              bif (a0.1 == 15) then
                                bif decide ((1 : Int) < (a0.2.2.2.1.1 : Int)) then
                                  bif decide ((1 : Int) < (a0.2.2.2.2.1 : Int)) then
                                    (saturateref12_Single.f (a0.2.2.2.1.2 1) ((a0.2.2.2.2.2.1 1), (a0.2.2.2.2.2.2 1))).bind fun r3 =>
                                    some r3.2
                                  else
                                    none
                                else
                                  none
                              else
                                bif (a0.1 == 12) then
                                  bif decide ((1 : Int) < (a0.2.2.2.1.1 : Int)) then
                                    bif decide ((1 : Int) < (a0.2.2.2.2.1 : Int)) then
                                      (saturateref12_Single.f (a0.2.2.2.1.2 1) ((a0.2.2.2.2.2.1 1), (a0.2.2.2.2.2.2 1))).bind fun r4 =>
                                      bif r4.2 then
                                        (saturateref01_Count.f r4.1).bind fun r5 =>
                                        some (r5 == 1)
                                      else
                                        some false
                                    else
                                      none
                                  else
                                    none
                                else
                                  some false
theorem saturatelaw12_best.eq (fu : Nat) (a : (Int × Int × Int × (Nat × (Nat → Int)) × (Nat × (Nat → Int) × (Nat → Int))) × Unit) : bodyK Try.prog saturatelaw12_best.cs saturatelaw12_best.live fu Try.f15 (saturatelaw12_best.a.enc a) saturatelaw12_best.r.dec = saturatelaw12_best.f a.1 := by kernel_rfl
theorem saturatelaw12_best.con : ∀ (a : (Int × Int × Int × (Nat × (Nat → Int)) × (Nat × (Nat → Int) × (Nat → Int))) × Unit) (r : Bool), saturatelaw12_best.f a.1 = some r → Contract Try.prog 15 (saturatelaw12_best.a.enc a) (saturatelaw12_best.r.enc r) := Contract.of_body (F := fun (a : (Int × Int × Int × (Nat × (Nat → Int)) × (Nat × (Nat → Int) × (Nat → Int))) × Unit) => saturatelaw12_best.f a.1) (fn := Try.f15) (cs := saturatelaw12_best.cs) (live := saturatelaw12_best.live) (fuel := fuel0 + 1) (by kernel_rfl) (by kernel_rfl) mixed (saturatelaw12_best.eq (fuel0 + 1))
noncomputable def saturatelaw12_best.c : Kn Try.prog := Kn.of 15 saturatelaw12_best.a saturatelaw12_best.r (fun a => saturatelaw12_best.f a.1) saturatelaw12_best.con

/-! ### saturateref12_Has: function 17 -/
def saturateref12_Has.a : ACods (Int × (Int × Int) × Int × Unit) := (.cons (.val (.int .i64)) (.cons (.val (.agg (.cons (.int .u64) (.one (.int .u64))))) (.cons (.val (.int .u64)) .nil)))
def saturateref12_Has.r : RCod (Bool) := .val (.bool)
noncomputable def saturateref12_Has.cs : List (Kn Try.prog) := [saturateref12_Of.c, saturateref01_Cut.c]
def saturateref12_Has.live : Nat → Option Keep := liveOf []
noncomputable def saturateref12_Has.body : Code := bodyOf Try.f17
noncomputable def saturateref12_Has.K (fu : Nat) : Code → St → (Ex → St → Option (Bool)) → Option (Bool) := codeK Try.prog saturateref12_Has.cs saturateref12_Has.live fu
noncomputable def saturateref12_Has.f (a0 : Int) (a1 : Int × Int) (a2 : Int) : Option (Bool) :=
  (saturateref12_Of.f a0 (a1.1, a1.2)).bind fun r1 =>
  (saturateref01_Cut.f a0 a2).bind fun r2 =>
  bif ((Go.bits .and .u64 r2 r1.1) == 0) then
    some ((Go.bits .and .u64 r2 r1.2) == r1.2)
  else
    some false
theorem saturateref12_Has.eq (fu : Nat) (a : Int × (Int × Int) × Int × Unit) : bodyK Try.prog saturateref12_Has.cs saturateref12_Has.live fu Try.f17 (saturateref12_Has.a.enc a) saturateref12_Has.r.dec = saturateref12_Has.f a.1 a.2.1 a.2.2.1 := by kernel_rfl
theorem saturateref12_Has.con : ∀ (a : Int × (Int × Int) × Int × Unit) (r : Bool), saturateref12_Has.f a.1 a.2.1 a.2.2.1 = some r → Contract Try.prog 17 (saturateref12_Has.a.enc a) (saturateref12_Has.r.enc r) := Contract.of_body (F := fun (a : Int × (Int × Int) × Int × Unit) => saturateref12_Has.f a.1 a.2.1 a.2.2.1) (fn := Try.f17) (cs := saturateref12_Has.cs) (live := saturateref12_Has.live) (fuel := fuel0 + 1) (by kernel_rfl) (by kernel_rfl) mixed (saturateref12_Has.eq (fuel0 + 1))
noncomputable def saturateref12_Has.c : Kn Try.prog := Kn.of 17 saturateref12_Has.a saturateref12_Has.r (fun a => saturateref12_Has.f a.1 a.2.1 a.2.2.1) saturateref12_Has.con

/-! ### saturateref01_Not: function 119 -/
def saturateref01_Not.a : ACods (Int × Int × Unit) := (.cons (.val (.int .i64)) (.cons (.val (.int .u64)) .nil))
def saturateref01_Not.r : RCod (Int) := .val (.int .u64)
noncomputable def saturateref01_Not.cs : List (Kn Try.prog) := [saturateref01_Mask.c, saturateref01_Cut.c]
def saturateref01_Not.live : Nat → Option Keep := liveOf []
noncomputable def saturateref01_Not.body : Code := bodyOf Try.f119
noncomputable def saturateref01_Not.K (fu : Nat) : Code → St → (Ex → St → Option (Int)) → Option (Int) := codeK Try.prog saturateref01_Not.cs saturateref01_Not.live fu
noncomputable def saturateref01_Not.f (a0 : Int) (a1 : Int) : Option (Int) :=
  (saturateref01_Mask.f a0).bind fun r1 =>
  (saturateref01_Cut.f a0 a1).bind fun r2 =>
  some (IntKind.u64.wrap (r1 - r2))
theorem saturateref01_Not.eq (fu : Nat) (a : Int × Int × Unit) : bodyK Try.prog saturateref01_Not.cs saturateref01_Not.live fu Try.f119 (saturateref01_Not.a.enc a) saturateref01_Not.r.dec = saturateref01_Not.f a.1 a.2.1 := by kernel_rfl
theorem saturateref01_Not.con : ∀ (a : Int × Int × Unit) (r : Int), saturateref01_Not.f a.1 a.2.1 = some r → Contract Try.prog 119 (saturateref01_Not.a.enc a) (saturateref01_Not.r.enc r) := Contract.of_body (F := fun (a : Int × Int × Unit) => saturateref01_Not.f a.1 a.2.1) (fn := Try.f119) (cs := saturateref01_Not.cs) (live := saturateref01_Not.live) (fuel := fuel0 + 1) (by kernel_rfl) (by kernel_rfl) mixed (saturateref01_Not.eq (fuel0 + 1))
noncomputable def saturateref01_Not.c : Kn Try.prog := Kn.of 119 saturateref01_Not.a saturateref01_Not.r (fun a => saturateref01_Not.f a.1 a.2.1) saturateref01_Not.con

/-! ### saturateref01_Neg: function 120 -/
def saturateref01_Neg.a : ACods (Int × Int × Unit) := (.cons (.val (.int .i64)) (.cons (.val (.int .u64)) .nil))
def saturateref01_Neg.r : RCod (Int) := .val (.int .u64)
noncomputable def saturateref01_Neg.cs : List (Kn Try.prog) := [saturateref01_Not.c, saturateref01_Add.c]
def saturateref01_Neg.live : Nat → Option Keep := liveOf []
noncomputable def saturateref01_Neg.body : Code := bodyOf Try.f120
noncomputable def saturateref01_Neg.K (fu : Nat) : Code → St → (Ex → St → Option (Int)) → Option (Int) := codeK Try.prog saturateref01_Neg.cs saturateref01_Neg.live fu
noncomputable def saturateref01_Neg.f (a0 : Int) (a1 : Int) : Option (Int) :=
  (saturateref01_Not.f a0 a1).bind fun r1 =>
  (saturateref01_Add.f a0 r1 1).bind fun r2 =>
  some r2
theorem saturateref01_Neg.eq (fu : Nat) (a : Int × Int × Unit) : bodyK Try.prog saturateref01_Neg.cs saturateref01_Neg.live fu Try.f120 (saturateref01_Neg.a.enc a) saturateref01_Neg.r.dec = saturateref01_Neg.f a.1 a.2.1 := by kernel_rfl
theorem saturateref01_Neg.con : ∀ (a : Int × Int × Unit) (r : Int), saturateref01_Neg.f a.1 a.2.1 = some r → Contract Try.prog 120 (saturateref01_Neg.a.enc a) (saturateref01_Neg.r.enc r) := Contract.of_body (F := fun (a : Int × Int × Unit) => saturateref01_Neg.f a.1 a.2.1) (fn := Try.f120) (cs := saturateref01_Neg.cs) (live := saturateref01_Neg.live) (fuel := fuel0 + 1) (by kernel_rfl) (by kernel_rfl) mixed (saturateref01_Neg.eq (fuel0 + 1))
noncomputable def saturateref01_Neg.c : Kn Try.prog := Kn.of 120 saturateref01_Neg.a saturateref01_Neg.r (fun a => saturateref01_Neg.f a.1 a.2.1) saturateref01_Neg.con

/-! ### saturateref01_Extract: function 121 -/
def saturateref01_Extract.a : ACods (Int × Int × Int × Unit) := (.cons (.val (.int .i64)) (.cons (.val (.int .i64)) (.cons (.val (.int .u64)) .nil)))
def saturateref01_Extract.r : RCod (Int) := .val (.int .u64)
noncomputable def saturateref01_Extract.cs : List (Kn Try.prog) := [saturateref01_W.c, saturateref01_Bit.c]
def saturateref01_Extract.live : Nat → Option Keep := liveOf [(11, ⟨[0, 2, 7, 16, 17], [], []⟩)]
noncomputable def saturateref01_Extract.body : Code := bodyOf Try.f121
noncomputable def saturateref01_Extract.K (fu : Nat) : Code → St → (Ex → St → Option (Int)) → Option (Int) := codeK Try.prog saturateref01_Extract.cs saturateref01_Extract.live fu
noncomputable def saturateref01_Extract.j5 (fu : Nat) (n5 : Nat) (x0 : Int) (x2 : Int) (x7 : Int) (x16 : Int) (x17 : Int) : Option Int :=
  loopK (saturateref01_Extract.K fu (sub saturateref01_Extract.body [true, true, true, false, true, false, false])) (saturateref01_Extract.live 11) n5 (stOf 32 [(0, .val (.int .i64 x0)), (2, .val (.int .u64 x2)), (7, .val (.int .u64 x7)), (16, .val (.int .i64 x16)), (17, .val (.int .i64 x17))] []) (blockC 0 (seqC fu (saturateref01_Extract.live 18) (saturateref01_Extract.K fu (sub saturateref01_Extract.body [true, true, true, true])) (retC Try.prog Try.f121.results saturateref01_Extract.r.dec)))
theorem saturateref01_Extract.j5_succ (fu : Nat) (n5 : Nat) (x0 : Int) (x2 : Int) (x7 : Int) (x16 : Int) (x17 : Int) : saturateref01_Extract.j5 fu (n5 + 1) x0 x2 x7 x16 x17 =
  bif (decide (x17 < x16)) then
    (saturateref01_Bit.f x2 (IntKind.i64.wrap (x0 + x17))).bind fun r2 =>
    bif decide ((IntKind.u64.wrap x17) < 0) then
      none
    else
      saturateref01_Extract.j5 fu n5 x0 x2 (Go.bits .or .u64 x7 (shl .u64 r2 (IntKind.u64.wrap x17))) x16 (IntKind.i64.wrap (x17 + 1))
  else
    some x7 := by kernel_rfl
noncomputable def saturateref01_Extract.g (fu : Nat) (a0 : Int) (a1 : Int) (a2 : Int) : Option (Int) :=
  bif (decide (a0 < 0)) then
    some 0
  else
    bif (decide (a0 > 63)) then
      some 0
    else
      (saturateref01_W.f a1).bind fun r1 =>
      saturateref01_Extract.j5 fu fu a0 a2 0 r1 0
noncomputable def saturateref01_Extract.f (a0 : Int) (a1 : Int) (a2 : Int) : Option (Int) := saturateref01_Extract.g (fuel0 + 1) a0 a1 a2
theorem saturateref01_Extract.eq (fu : Nat) (a : Int × Int × Int × Unit) : bodyK Try.prog saturateref01_Extract.cs saturateref01_Extract.live fu Try.f121 (saturateref01_Extract.a.enc a) saturateref01_Extract.r.dec = saturateref01_Extract.g fu a.1 a.2.1 a.2.2.1 := by kernel_rfl
theorem saturateref01_Extract.con : ∀ (a : Int × Int × Int × Unit) (r : Int), saturateref01_Extract.f a.1 a.2.1 a.2.2.1 = some r → Contract Try.prog 121 (saturateref01_Extract.a.enc a) (saturateref01_Extract.r.enc r) := Contract.of_body (F := fun (a : Int × Int × Int × Unit) => saturateref01_Extract.f a.1 a.2.1 a.2.2.1) (fn := Try.f121) (cs := saturateref01_Extract.cs) (live := saturateref01_Extract.live) (fuel := fuel0 + 1) (by kernel_rfl) (by kernel_rfl) mixed (saturateref01_Extract.eq (fuel0 + 1))
noncomputable def saturateref01_Extract.c : Kn Try.prog := Kn.of 121 saturateref01_Extract.a saturateref01_Extract.r (fun a => saturateref01_Extract.f a.1 a.2.1 a.2.2.1) saturateref01_Extract.con

/-! ### saturateref01_Sext: function 122 -/
def saturateref01_Sext.a : ACods (Int × Int × Int × Unit) := (.cons (.val (.int .i64)) (.cons (.val (.int .i64)) (.cons (.val (.int .u64)) .nil)))
def saturateref01_Sext.r : RCod (Int) := .val (.int .u64)
noncomputable def saturateref01_Sext.cs : List (Kn Try.prog) := [saturateref01_W.c, saturateref01_Bit.c]
def saturateref01_Sext.live : Nat → Option Keep := liveOf [(7, ⟨[0, 2, 7, 10, 11], [], []⟩)]
noncomputable def saturateref01_Sext.body : Code := bodyOf Try.f122
noncomputable def saturateref01_Sext.K (fu : Nat) : Code → St → (Ex → St → Option (Int)) → Option (Int) := codeK Try.prog saturateref01_Sext.cs saturateref01_Sext.live fu
noncomputable def saturateref01_Sext.j3 (fu : Nat) (n3 : Nat) (x0 : Int) (x2 : Int) (x7 : Int) (x10 : Int) (x11 : Int) : Option Int :=
  loopK (saturateref01_Sext.K fu (sub saturateref01_Sext.body [true, true, false, true, false, false])) (saturateref01_Sext.live 7) n3 (stOf 28 [(0, .val (.int .i64 x0)), (2, .val (.int .u64 x2)), (7, .val (.int .u64 x7)), (10, .val (.int .i64 x10)), (11, .val (.int .i64 x11))] []) (blockC 0 (seqC fu (saturateref01_Sext.live 14) (saturateref01_Sext.K fu (sub saturateref01_Sext.body [true, true, true])) (retC Try.prog Try.f122.results saturateref01_Sext.r.dec)))
theorem saturateref01_Sext.j3_succ (fu : Nat) (n3 : Nat) (x0 : Int) (x2 : Int) (x7 : Int) (x10 : Int) (x11 : Int) : saturateref01_Sext.j3 fu (n3 + 1) x0 x2 x7 x10 x11 =
  bif (decide (x11 < x10)) then
    (saturateref01_W.f x0).bind fun r2 =>
    (saturateref01_Bit.f x2 (mn x11 (IntKind.i64.wrap (r2 - 1)))).bind fun r3 =>
    bif decide ((IntKind.u64.wrap x11) < 0) then
      none
    else
      saturateref01_Sext.j3 fu n3 x0 x2 (Go.bits .or .u64 x7 (shl .u64 r3 (IntKind.u64.wrap x11))) x10 (IntKind.i64.wrap (x11 + 1))
  else
    some x7 := by kernel_rfl
noncomputable def saturateref01_Sext.g (fu : Nat) (a0 : Int) (a1 : Int) (a2 : Int) : Option (Int) :=
  (saturateref01_W.f a1).bind fun r1 =>
  saturateref01_Sext.j3 fu fu a0 a2 0 r1 0
noncomputable def saturateref01_Sext.f (a0 : Int) (a1 : Int) (a2 : Int) : Option (Int) := saturateref01_Sext.g (fuel0 + 1) a0 a1 a2
theorem saturateref01_Sext.eq (fu : Nat) (a : Int × Int × Int × Unit) : bodyK Try.prog saturateref01_Sext.cs saturateref01_Sext.live fu Try.f122 (saturateref01_Sext.a.enc a) saturateref01_Sext.r.dec = saturateref01_Sext.g fu a.1 a.2.1 a.2.2.1 := by kernel_rfl
theorem saturateref01_Sext.con : ∀ (a : Int × Int × Int × Unit) (r : Int), saturateref01_Sext.f a.1 a.2.1 a.2.2.1 = some r → Contract Try.prog 122 (saturateref01_Sext.a.enc a) (saturateref01_Sext.r.enc r) := Contract.of_body (F := fun (a : Int × Int × Int × Unit) => saturateref01_Sext.f a.1 a.2.1 a.2.2.1) (fn := Try.f122) (cs := saturateref01_Sext.cs) (live := saturateref01_Sext.live) (fuel := fuel0 + 1) (by kernel_rfl) (by kernel_rfl) mixed (saturateref01_Sext.eq (fuel0 + 1))
noncomputable def saturateref01_Sext.c : Kn Try.prog := Kn.of 122 saturateref01_Sext.a saturateref01_Sext.r (fun a => saturateref01_Sext.f a.1 a.2.1 a.2.2.1) saturateref01_Sext.con

/-! ### saturateref08_one: function 108 -/
def saturateref08_one.a : ACods (Int × Int × Int × Int × Int × Unit) := (.cons (.val (.int .i64)) (.cons (.val (.int .i64)) (.cons (.val (.int .u64)) (.cons (.val (.int .i64)) (.cons (.val (.int .u64)) .nil)))))
def saturateref08_one.r : RCod (Int) := .val (.int .u64)
noncomputable def saturateref08_one.cs : List (Kn Try.prog) := [saturateref01_Not.c, saturateref01_Neg.c, saturateref01_Extract.c, saturateref01_Sext.c]
def saturateref08_one.live : Nat → Option Keep := liveOf []
noncomputable def saturateref08_one.body : Code := bodyOf Try.f108
noncomputable def saturateref08_one.K (fu : Nat) : Code → St → (Ex → St → Option (Int)) → Option (Int) := codeK Try.prog saturateref08_one.cs saturateref08_one.live fu
noncomputable def saturateref08_one.f (a0 : Int) (a1 : Int) (a2 : Int) (a3 : Int) (a4 : Int) : Option (Int) :=
  bif (a0 == 3) then
    (saturateref01_Not.f a3 a4).bind fun r1 =>
    some r1
  else
    bif (a0 == 4) then
      (saturateref01_Neg.f a3 a4).bind fun r2 =>
      some r2
    else
      bif (a0 == 21) then
        (saturateref01_Extract.f (IntKind.i64.wrap a2) a1 a4).bind fun r3 =>
        some r3
      else
        bif (a0 == 23) then
          (saturateref01_Sext.f a3 a1 a4).bind fun r4 =>
          some r4
        else
          some a4
theorem saturateref08_one.eq (fu : Nat) (a : Int × Int × Int × Int × Int × Unit) : bodyK Try.prog saturateref08_one.cs saturateref08_one.live fu Try.f108 (saturateref08_one.a.enc a) saturateref08_one.r.dec = saturateref08_one.f a.1 a.2.1 a.2.2.1 a.2.2.2.1 a.2.2.2.2.1 := by kernel_rfl
theorem saturateref08_one.con : ∀ (a : Int × Int × Int × Int × Int × Unit) (r : Int), saturateref08_one.f a.1 a.2.1 a.2.2.1 a.2.2.2.1 a.2.2.2.2.1 = some r → Contract Try.prog 108 (saturateref08_one.a.enc a) (saturateref08_one.r.enc r) := Contract.of_body (F := fun (a : Int × Int × Int × Int × Int × Unit) => saturateref08_one.f a.1 a.2.1 a.2.2.1 a.2.2.2.1 a.2.2.2.2.1) (fn := Try.f108) (cs := saturateref08_one.cs) (live := saturateref08_one.live) (fuel := fuel0 + 1) (by kernel_rfl) (by kernel_rfl) mixed (saturateref08_one.eq (fuel0 + 1))
noncomputable def saturateref08_one.c : Kn Try.prog := Kn.of 108 saturateref08_one.a saturateref08_one.r (fun a => saturateref08_one.f a.1 a.2.1 a.2.2.1 a.2.2.2.1 a.2.2.2.2.1) saturateref08_one.con

/-! ### saturateref01_Concat: function 109 -/
def saturateref01_Concat.a : ACods (Int × Int × Int × Int × Unit) := (.cons (.val (.int .i64)) (.cons (.val (.int .i64)) (.cons (.val (.int .u64)) (.cons (.val (.int .u64)) .nil))))
def saturateref01_Concat.r : RCod (Int) := .val (.int .u64)
noncomputable def saturateref01_Concat.cs : List (Kn Try.prog) := [saturateref01_Cut.c, saturateref01_W.c, saturateref01_Bit.c]
def saturateref01_Concat.live : Nat → Option Keep := liveOf [(7, ⟨[1, 2, 9, 15, 16], [], []⟩), (14, ⟨[1, 2, 9, 15, 16], [], []⟩)]
noncomputable def saturateref01_Concat.body : Code := bodyOf Try.f109
noncomputable def saturateref01_Concat.K (fu : Nat) : Code → St → (Ex → St → Option (Int)) → Option (Int) := codeK Try.prog saturateref01_Concat.cs saturateref01_Concat.live fu
noncomputable def saturateref01_Concat.j3 (fu : Nat) (n3 : Nat) (x1 : Int) (x2 : Int) (x9 : Int) (x15 : Int) (x16 : Int) : Option Int :=
  loopK (saturateref01_Concat.K fu (sub saturateref01_Concat.body [true, true, false, true, false, false])) (saturateref01_Concat.live 7) n3 (stOf 37 [(1, .val (.int .i64 x1)), (2, .val (.int .u64 x2)), (9, .val (.int .u64 x9)), (15, .val (.int .i64 x15)), (16, .val (.int .i64 x16))] []) (blockC 0 (seqC fu (saturateref01_Concat.live 16) (saturateref01_Concat.K fu (sub saturateref01_Concat.body [true, true, true])) (retC Try.prog Try.f109.results saturateref01_Concat.r.dec)))
noncomputable def saturateref01_Concat.p7 (m fu : Nat) (n3 : Nat) (x1 : Int) (x2 : Int) (x9 : Int) (x15 : Int) (x16 : Int) : Option Int :=
  joinK m (saturateref01_Concat.K fu (sub saturateref01_Concat.body [true, true, false, true, false, false, true, true, true])) (stOf 37 [(1, .val (.int .i64 x1)), (2, .val (.int .u64 x2)), (9, .val (.int .u64 x9)), (15, .val (.int .i64 x15)), (16, .val (.int .i64 x16))] []) (roundC (saturateref01_Concat.live 7) (loopK (saturateref01_Concat.K fu (sub saturateref01_Concat.body [true, true, false, true, false, false])) (saturateref01_Concat.live 7) n3) (blockC 0 (seqC fu (saturateref01_Concat.live 16) (saturateref01_Concat.K fu (sub saturateref01_Concat.body [true, true, true])) (retC Try.prog Try.f109.results saturateref01_Concat.r.dec))))
theorem saturateref01_Concat.p7_eq (m fu : Nat) (n3 : Nat) (x1 : Int) (x2 : Int) (x9 : Int) (x15 : Int) (x16 : Int) : saturateref01_Concat.p7 (m + 1) fu n3 x1 x2 x9 x15 x16 =
  saturateref01_Concat.j3 fu n3 x1 x2 x9 x15 (IntKind.i64.wrap (x16 + 1)) := by kernel_rfl
theorem saturateref01_Concat.j3_succ (fu : Nat) (n3 : Nat) (x1 : Int) (x2 : Int) (x9 : Int) (x15 : Int) (x16 : Int) : saturateref01_Concat.j3 fu (n3 + 1) x1 x2 x9 x15 x16 =
  bif (decide (x16 < x15)) then
    (saturateref01_W.f x1).bind fun r3 =>
    bif (decide ((IntKind.i64.wrap (x16 + r3)) < 64)) then
      (saturateref01_Bit.f x2 x16).bind fun r4 =>
      (saturateref01_W.f x1).bind fun r5 =>
      bif decide ((IntKind.u64.wrap (IntKind.i64.wrap (x16 + r5))) < 0) then
        none
      else
        saturateref01_Concat.p7 fu fu n3 x1 x2 (Go.bits .or .u64 x9 (shl .u64 r4 (IntKind.u64.wrap (IntKind.i64.wrap (x16 + r5))))) x15 x16
    else
      saturateref01_Concat.p7 fu fu n3 x1 x2 x9 x15 x16
  else
    some x9 := by kernel_rfl
noncomputable def saturateref01_Concat.g (fu : Nat) (a0 : Int) (a1 : Int) (a2 : Int) (a3 : Int) : Option (Int) :=
  (saturateref01_Cut.f a1 a3).bind fun r1 =>
  (saturateref01_W.f a0).bind fun r2 =>
  saturateref01_Concat.j3 fu fu a1 a2 r1 r2 0
noncomputable def saturateref01_Concat.f (a0 : Int) (a1 : Int) (a2 : Int) (a3 : Int) : Option (Int) := saturateref01_Concat.g (fuel0 + 1) a0 a1 a2 a3
theorem saturateref01_Concat.eq (fu : Nat) (a : Int × Int × Int × Int × Unit) : bodyK Try.prog saturateref01_Concat.cs saturateref01_Concat.live fu Try.f109 (saturateref01_Concat.a.enc a) saturateref01_Concat.r.dec = saturateref01_Concat.g fu a.1 a.2.1 a.2.2.1 a.2.2.2.1 := by kernel_rfl
theorem saturateref01_Concat.con : ∀ (a : Int × Int × Int × Int × Unit) (r : Int), saturateref01_Concat.f a.1 a.2.1 a.2.2.1 a.2.2.2.1 = some r → Contract Try.prog 109 (saturateref01_Concat.a.enc a) (saturateref01_Concat.r.enc r) := Contract.of_body (F := fun (a : Int × Int × Int × Int × Unit) => saturateref01_Concat.f a.1 a.2.1 a.2.2.1 a.2.2.2.1) (fn := Try.f109) (cs := saturateref01_Concat.cs) (live := saturateref01_Concat.live) (fuel := fuel0 + 1) (by kernel_rfl) (by kernel_rfl) mixed (saturateref01_Concat.eq (fuel0 + 1))
noncomputable def saturateref01_Concat.c : Kn Try.prog := Kn.of 109 saturateref01_Concat.a saturateref01_Concat.r (fun a => saturateref01_Concat.f a.1 a.2.1 a.2.2.1 a.2.2.2.1) saturateref01_Concat.con

/-! ### saturateref01_And: function 123 -/
def saturateref01_And.a : ACods (Int × Int × Int × Unit) := (.cons (.val (.int .i64)) (.cons (.val (.int .u64)) (.cons (.val (.int .u64)) .nil)))
def saturateref01_And.r : RCod (Int) := .val (.int .u64)
noncomputable def saturateref01_And.cs : List (Kn Try.prog) := [saturateref01_W.c, saturateref01_Bit.c]
def saturateref01_And.live : Nat → Option Keep := liveOf [(7, ⟨[1, 2, 7, 10, 11], [], []⟩), (14, ⟨[1, 2, 7, 10, 11], [], []⟩)]
noncomputable def saturateref01_And.body : Code := bodyOf Try.f123
noncomputable def saturateref01_And.K (fu : Nat) : Code → St → (Ex → St → Option (Int)) → Option (Int) := codeK Try.prog saturateref01_And.cs saturateref01_And.live fu
noncomputable def saturateref01_And.j3 (fu : Nat) (n3 : Nat) (x1 : Int) (x2 : Int) (x7 : Int) (x10 : Int) (x11 : Int) : Option Int :=
  loopK (saturateref01_And.K fu (sub saturateref01_And.body [true, true, false, true, false, false])) (saturateref01_And.live 7) n3 (stOf 31 [(1, .val (.int .u64 x1)), (2, .val (.int .u64 x2)), (7, .val (.int .u64 x7)), (10, .val (.int .i64 x10)), (11, .val (.int .i64 x11))] []) (blockC 0 (seqC fu (saturateref01_And.live 16) (saturateref01_And.K fu (sub saturateref01_And.body [true, true, true])) (retC Try.prog Try.f123.results saturateref01_And.r.dec)))
noncomputable def saturateref01_And.p7 (m fu : Nat) (n3 : Nat) (x1 : Int) (x2 : Int) (x7 : Int) (x10 : Int) (x11 : Int) : Option Int :=
  joinK m (saturateref01_And.K fu (sub saturateref01_And.body [true, true, false, true, false, false, true, true, true])) (stOf 31 [(1, .val (.int .u64 x1)), (2, .val (.int .u64 x2)), (7, .val (.int .u64 x7)), (10, .val (.int .i64 x10)), (11, .val (.int .i64 x11))] []) (roundC (saturateref01_And.live 7) (loopK (saturateref01_And.K fu (sub saturateref01_And.body [true, true, false, true, false, false])) (saturateref01_And.live 7) n3) (blockC 0 (seqC fu (saturateref01_And.live 16) (saturateref01_And.K fu (sub saturateref01_And.body [true, true, true])) (retC Try.prog Try.f123.results saturateref01_And.r.dec))))
theorem saturateref01_And.p7_eq (m fu : Nat) (n3 : Nat) (x1 : Int) (x2 : Int) (x7 : Int) (x10 : Int) (x11 : Int) : saturateref01_And.p7 (m + 1) fu n3 x1 x2 x7 x10 x11 =
  saturateref01_And.j3 fu n3 x1 x2 x7 x10 (IntKind.i64.wrap (x11 + 1)) := by kernel_rfl
theorem saturateref01_And.j3_succ (fu : Nat) (n3 : Nat) (x1 : Int) (x2 : Int) (x7 : Int) (x10 : Int) (x11 : Int) : saturateref01_And.j3 fu (n3 + 1) x1 x2 x7 x10 x11 =
  bif (decide (x11 < x10)) then
    (saturateref01_Bit.f x1 x11).bind fun r2 =>
    bif (r2 == 1) then
      (saturateref01_Bit.f x2 x11).bind fun r3 =>
      bif (r3 == 1) then
        bif decide ((IntKind.u64.wrap x11) < 0) then
          none
        else
          saturateref01_And.p7 fu fu n3 x1 x2 (Go.bits .or .u64 x7 (shl .u64 1 (IntKind.u64.wrap x11))) x10 x11
      else
        saturateref01_And.p7 fu fu n3 x1 x2 x7 x10 x11
    else
      saturateref01_And.p7 fu fu n3 x1 x2 x7 x10 x11
  else
    some x7 := by kernel_rfl
noncomputable def saturateref01_And.g (fu : Nat) (a0 : Int) (a1 : Int) (a2 : Int) : Option (Int) :=
  (saturateref01_W.f a0).bind fun r1 =>
  saturateref01_And.j3 fu fu a1 a2 0 r1 0
noncomputable def saturateref01_And.f (a0 : Int) (a1 : Int) (a2 : Int) : Option (Int) := saturateref01_And.g (fuel0 + 1) a0 a1 a2
theorem saturateref01_And.eq (fu : Nat) (a : Int × Int × Int × Unit) : bodyK Try.prog saturateref01_And.cs saturateref01_And.live fu Try.f123 (saturateref01_And.a.enc a) saturateref01_And.r.dec = saturateref01_And.g fu a.1 a.2.1 a.2.2.1 := by kernel_rfl
theorem saturateref01_And.con : ∀ (a : Int × Int × Int × Unit) (r : Int), saturateref01_And.f a.1 a.2.1 a.2.2.1 = some r → Contract Try.prog 123 (saturateref01_And.a.enc a) (saturateref01_And.r.enc r) := Contract.of_body (F := fun (a : Int × Int × Int × Unit) => saturateref01_And.f a.1 a.2.1 a.2.2.1) (fn := Try.f123) (cs := saturateref01_And.cs) (live := saturateref01_And.live) (fuel := fuel0 + 1) (by kernel_rfl) (by kernel_rfl) mixed (saturateref01_And.eq (fuel0 + 1))
noncomputable def saturateref01_And.c : Kn Try.prog := Kn.of 123 saturateref01_And.a saturateref01_And.r (fun a => saturateref01_And.f a.1 a.2.1 a.2.2.1) saturateref01_And.con

/-! ### saturateref01_Or: function 124 -/
def saturateref01_Or.a : ACods (Int × Int × Int × Unit) := (.cons (.val (.int .i64)) (.cons (.val (.int .u64)) (.cons (.val (.int .u64)) .nil)))
def saturateref01_Or.r : RCod (Int) := .val (.int .u64)
noncomputable def saturateref01_Or.cs : List (Kn Try.prog) := [saturateref01_Not.c, saturateref01_And.c]
def saturateref01_Or.live : Nat → Option Keep := liveOf []
noncomputable def saturateref01_Or.body : Code := bodyOf Try.f124
noncomputable def saturateref01_Or.K (fu : Nat) : Code → St → (Ex → St → Option (Int)) → Option (Int) := codeK Try.prog saturateref01_Or.cs saturateref01_Or.live fu
noncomputable def saturateref01_Or.f (a0 : Int) (a1 : Int) (a2 : Int) : Option (Int) :=
  (saturateref01_Not.f a0 a1).bind fun r1 =>
  (saturateref01_Not.f a0 a2).bind fun r2 =>
  (saturateref01_And.f a0 r1 r2).bind fun r3 =>
  (saturateref01_Not.f a0 r3).bind fun r4 =>
  some r4
theorem saturateref01_Or.eq (fu : Nat) (a : Int × Int × Int × Unit) : bodyK Try.prog saturateref01_Or.cs saturateref01_Or.live fu Try.f124 (saturateref01_Or.a.enc a) saturateref01_Or.r.dec = saturateref01_Or.f a.1 a.2.1 a.2.2.1 := by kernel_rfl
theorem saturateref01_Or.con : ∀ (a : Int × Int × Int × Unit) (r : Int), saturateref01_Or.f a.1 a.2.1 a.2.2.1 = some r → Contract Try.prog 124 (saturateref01_Or.a.enc a) (saturateref01_Or.r.enc r) := Contract.of_body (F := fun (a : Int × Int × Int × Unit) => saturateref01_Or.f a.1 a.2.1 a.2.2.1) (fn := Try.f124) (cs := saturateref01_Or.cs) (live := saturateref01_Or.live) (fuel := fuel0 + 1) (by kernel_rfl) (by kernel_rfl) mixed (saturateref01_Or.eq (fuel0 + 1))
noncomputable def saturateref01_Or.c : Kn Try.prog := Kn.of 124 saturateref01_Or.a saturateref01_Or.r (fun a => saturateref01_Or.f a.1 a.2.1 a.2.2.1) saturateref01_Or.con

/-! ### saturateref01_Xor: function 125 -/
def saturateref01_Xor.a : ACods (Int × Int × Int × Unit) := (.cons (.val (.int .i64)) (.cons (.val (.int .u64)) (.cons (.val (.int .u64)) .nil)))
def saturateref01_Xor.r : RCod (Int) := .val (.int .u64)
noncomputable def saturateref01_Xor.cs : List (Kn Try.prog) := [saturateref01_Or.c, saturateref01_And.c]
def saturateref01_Xor.live : Nat → Option Keep := liveOf []
noncomputable def saturateref01_Xor.body : Code := bodyOf Try.f125
noncomputable def saturateref01_Xor.K (fu : Nat) : Code → St → (Ex → St → Option (Int)) → Option (Int) := codeK Try.prog saturateref01_Xor.cs saturateref01_Xor.live fu
noncomputable def saturateref01_Xor.f (a0 : Int) (a1 : Int) (a2 : Int) : Option (Int) :=
  (saturateref01_Or.f a0 a1 a2).bind fun r1 =>
  (saturateref01_And.f a0 a1 a2).bind fun r2 =>
  some (IntKind.u64.wrap (r1 - r2))
theorem saturateref01_Xor.eq (fu : Nat) (a : Int × Int × Int × Unit) : bodyK Try.prog saturateref01_Xor.cs saturateref01_Xor.live fu Try.f125 (saturateref01_Xor.a.enc a) saturateref01_Xor.r.dec = saturateref01_Xor.f a.1 a.2.1 a.2.2.1 := by kernel_rfl
theorem saturateref01_Xor.con : ∀ (a : Int × Int × Int × Unit) (r : Int), saturateref01_Xor.f a.1 a.2.1 a.2.2.1 = some r → Contract Try.prog 125 (saturateref01_Xor.a.enc a) (saturateref01_Xor.r.enc r) := Contract.of_body (F := fun (a : Int × Int × Int × Unit) => saturateref01_Xor.f a.1 a.2.1 a.2.2.1) (fn := Try.f125) (cs := saturateref01_Xor.cs) (live := saturateref01_Xor.live) (fuel := fuel0 + 1) (by kernel_rfl) (by kernel_rfl) mixed (saturateref01_Xor.eq (fuel0 + 1))
noncomputable def saturateref01_Xor.c : Kn Try.prog := Kn.of 125 saturateref01_Xor.a saturateref01_Xor.r (fun a => saturateref01_Xor.f a.1 a.2.1 a.2.2.1) saturateref01_Xor.con

/-! ### saturateref01_Sub: function 126 -/
def saturateref01_Sub.a : ACods (Int × Int × Int × Unit) := (.cons (.val (.int .i64)) (.cons (.val (.int .u64)) (.cons (.val (.int .u64)) .nil)))
def saturateref01_Sub.r : RCod (Int) := .val (.int .u64)
noncomputable def saturateref01_Sub.cs : List (Kn Try.prog) := [saturateref01_Neg.c, saturateref01_Add.c]
def saturateref01_Sub.live : Nat → Option Keep := liveOf []
noncomputable def saturateref01_Sub.body : Code := bodyOf Try.f126
noncomputable def saturateref01_Sub.K (fu : Nat) : Code → St → (Ex → St → Option (Int)) → Option (Int) := codeK Try.prog saturateref01_Sub.cs saturateref01_Sub.live fu
noncomputable def saturateref01_Sub.f (a0 : Int) (a1 : Int) (a2 : Int) : Option (Int) :=
  (saturateref01_Neg.f a0 a2).bind fun r1 =>
  (saturateref01_Add.f a0 a1 r1).bind fun r2 =>
  some r2
theorem saturateref01_Sub.eq (fu : Nat) (a : Int × Int × Int × Unit) : bodyK Try.prog saturateref01_Sub.cs saturateref01_Sub.live fu Try.f126 (saturateref01_Sub.a.enc a) saturateref01_Sub.r.dec = saturateref01_Sub.f a.1 a.2.1 a.2.2.1 := by kernel_rfl
theorem saturateref01_Sub.con : ∀ (a : Int × Int × Int × Unit) (r : Int), saturateref01_Sub.f a.1 a.2.1 a.2.2.1 = some r → Contract Try.prog 126 (saturateref01_Sub.a.enc a) (saturateref01_Sub.r.enc r) := Contract.of_body (F := fun (a : Int × Int × Int × Unit) => saturateref01_Sub.f a.1 a.2.1 a.2.2.1) (fn := Try.f126) (cs := saturateref01_Sub.cs) (live := saturateref01_Sub.live) (fuel := fuel0 + 1) (by kernel_rfl) (by kernel_rfl) mixed (saturateref01_Sub.eq (fuel0 + 1))
noncomputable def saturateref01_Sub.c : Kn Try.prog := Kn.of 126 saturateref01_Sub.a saturateref01_Sub.r (fun a => saturateref01_Sub.f a.1 a.2.1 a.2.2.1) saturateref01_Sub.con

/-! ### saturateref01_by: function 135 -/
def saturateref01_by.a : ACods (Int × Int × Unit) := (.cons (.val (.int .i64)) (.cons (.val (.int .u64)) .nil))
def saturateref01_by.r : RCod (Int) := .val (.int .i64)
noncomputable def saturateref01_by.cs : List (Kn Try.prog) := [saturateref01_Cut.c]
def saturateref01_by.live : Nat → Option Keep := liveOf []
noncomputable def saturateref01_by.body : Code := bodyOf Try.f135
noncomputable def saturateref01_by.K (fu : Nat) : Code → St → (Ex → St → Option (Int)) → Option (Int) := codeK Try.prog saturateref01_by.cs saturateref01_by.live fu
noncomputable def saturateref01_by.f (a0 : Int) (a1 : Int) : Option (Int) :=
  (saturateref01_Cut.f a0 a1).bind fun r1 =>
  some (IntKind.i64.wrap (mn r1 64))
theorem saturateref01_by.eq (fu : Nat) (a : Int × Int × Unit) : bodyK Try.prog saturateref01_by.cs saturateref01_by.live fu Try.f135 (saturateref01_by.a.enc a) saturateref01_by.r.dec = saturateref01_by.f a.1 a.2.1 := by kernel_rfl
theorem saturateref01_by.con : ∀ (a : Int × Int × Unit) (r : Int), saturateref01_by.f a.1 a.2.1 = some r → Contract Try.prog 135 (saturateref01_by.a.enc a) (saturateref01_by.r.enc r) := Contract.of_body (F := fun (a : Int × Int × Unit) => saturateref01_by.f a.1 a.2.1) (fn := Try.f135) (cs := saturateref01_by.cs) (live := saturateref01_by.live) (fuel := fuel0 + 1) (by kernel_rfl) (by kernel_rfl) mixed (saturateref01_by.eq (fuel0 + 1))
noncomputable def saturateref01_by.c : Kn Try.prog := Kn.of 135 saturateref01_by.a saturateref01_by.r (fun a => saturateref01_by.f a.1 a.2.1) saturateref01_by.con

/-! ### saturateref01_shift: function 134 -/
def saturateref01_shift.a : ACods (Int × Int × Int × Int × Unit) := (.cons (.val (.int .i64)) (.cons (.val (.int .u64)) (.cons (.val (.int .i64)) (.cons (.val (.int .u64)) .nil))))
def saturateref01_shift.r : RCod (Int) := .val (.int .u64)
noncomputable def saturateref01_shift.cs : List (Kn Try.prog) := [saturateref01_W.c, saturateref01_Bit.c]
def saturateref01_shift.live : Nat → Option Keep := liveOf [(7, ⟨[0, 1, 2, 3, 9, 13, 14], [], []⟩), (16, ⟨[0, 1, 2, 3, 9, 10, 11, 13, 14], [], []⟩)]
noncomputable def saturateref01_shift.body : Code := bodyOf Try.f134
noncomputable def saturateref01_shift.K (fu : Nat) : Code → St → (Ex → St → Option (Int)) → Option (Int) := codeK Try.prog saturateref01_shift.cs saturateref01_shift.live fu
noncomputable def saturateref01_shift.j3 (fu : Nat) (n3 : Nat) (x0 : Int) (x1 : Int) (x2 : Int) (x3 : Int) (x9 : Int) (x13 : Int) (x14 : Int) : Option Int :=
  loopK (saturateref01_shift.K fu (sub saturateref01_shift.body [true, true, false, true, false, false])) (saturateref01_shift.live 7) n3 (stOf 37 [(0, .val (.int .i64 x0)), (1, .val (.int .u64 x1)), (2, .val (.int .i64 x2)), (3, .val (.int .u64 x3)), (9, .val (.int .u64 x9)), (13, .val (.int .i64 x13)), (14, .val (.int .i64 x14))] []) (blockC 0 (seqC fu (saturateref01_shift.live 20) (saturateref01_shift.K fu (sub saturateref01_shift.body [true, true, true])) (retC Try.prog Try.f134.results saturateref01_shift.r.dec)))
noncomputable def saturateref01_shift.p8 (m fu : Nat) (n3 : Nat) (x0 : Int) (x1 : Int) (x2 : Int) (x3 : Int) (x9 : Int) (x10 : Int) (x11 : Int) (x13 : Int) (x14 : Int) : Option Int :=
  joinK m (saturateref01_shift.K fu (sub saturateref01_shift.body [true, true, false, true, false, false, true, true, false, false, true, true, true])) (stOf 37 [(0, .val (.int .i64 x0)), (1, .val (.int .u64 x1)), (2, .val (.int .i64 x2)), (3, .val (.int .u64 x3)), (9, .val (.int .u64 x9)), (10, .val (.int .i64 x10)), (11, .val (.int .u64 x11)), (13, .val (.int .i64 x13)), (14, .val (.int .i64 x14))] []) (blockC 1 (seqC fu (saturateref01_shift.live 18) (saturateref01_shift.K fu (sub saturateref01_shift.body [true, true, false, true, false, false, true, true, true])) (roundC (saturateref01_shift.live 7) (loopK (saturateref01_shift.K fu (sub saturateref01_shift.body [true, true, false, true, false, false])) (saturateref01_shift.live 7) n3) (blockC 0 (seqC fu (saturateref01_shift.live 20) (saturateref01_shift.K fu (sub saturateref01_shift.body [true, true, true])) (retC Try.prog Try.f134.results saturateref01_shift.r.dec))))))
theorem saturateref01_shift.p8_eq (m fu : Nat) (n3 : Nat) (x0 : Int) (x1 : Int) (x2 : Int) (x3 : Int) (x9 : Int) (x10 : Int) (x11 : Int) (x13 : Int) (x14 : Int) : saturateref01_shift.p8 (m + 1) fu n3 x0 x1 x2 x3 x9 x10 x11 x13 x14 =
  bif decide ((IntKind.u64.wrap x10) < 0) then
    none
  else
    saturateref01_shift.j3 fu n3 x0 x1 x2 x3 (Go.bits .or .u64 x9 (shl .u64 x11 (IntKind.u64.wrap x10))) x13 (IntKind.i64.wrap (x14 + 1)) := by kernel_rfl
theorem saturateref01_shift.j3_succ (fu : Nat) (n3 : Nat) (x0 : Int) (x1 : Int) (x2 : Int) (x3 : Int) (x9 : Int) (x13 : Int) (x14 : Int) : saturateref01_shift.j3 fu (n3 + 1) x0 x1 x2 x3 x9 x13 x14 =
  bif (decide (x14 < x13)) then
    (saturateref01_W.f x0).bind fun r2 =>
    bif (decide ((IntKind.i64.wrap (x14 + x2)) < r2)) then
      (saturateref01_Bit.f x1 (IntKind.i64.wrap (x14 + x2))).bind fun r3 =>
      saturateref01_shift.p8 fu fu n3 x0 x1 x2 x3 x9 x14 r3 x13 x14
    else
      saturateref01_shift.p8 fu fu n3 x0 x1 x2 x3 x9 x14 x3 x13 x14
  else
    some x9 := by kernel_rfl
noncomputable def saturateref01_shift.g (fu : Nat) (a0 : Int) (a1 : Int) (a2 : Int) (a3 : Int) : Option (Int) :=
  (saturateref01_W.f a0).bind fun r1 =>
  saturateref01_shift.j3 fu fu a0 a1 a2 a3 0 r1 0
noncomputable def saturateref01_shift.f (a0 : Int) (a1 : Int) (a2 : Int) (a3 : Int) : Option (Int) := saturateref01_shift.g (fuel0 + 1) a0 a1 a2 a3
theorem saturateref01_shift.eq (fu : Nat) (a : Int × Int × Int × Int × Unit) : bodyK Try.prog saturateref01_shift.cs saturateref01_shift.live fu Try.f134 (saturateref01_shift.a.enc a) saturateref01_shift.r.dec = saturateref01_shift.g fu a.1 a.2.1 a.2.2.1 a.2.2.2.1 := by kernel_rfl
theorem saturateref01_shift.con : ∀ (a : Int × Int × Int × Int × Unit) (r : Int), saturateref01_shift.f a.1 a.2.1 a.2.2.1 a.2.2.2.1 = some r → Contract Try.prog 134 (saturateref01_shift.a.enc a) (saturateref01_shift.r.enc r) := Contract.of_body (F := fun (a : Int × Int × Int × Int × Unit) => saturateref01_shift.f a.1 a.2.1 a.2.2.1 a.2.2.2.1) (fn := Try.f134) (cs := saturateref01_shift.cs) (live := saturateref01_shift.live) (fuel := fuel0 + 1) (by kernel_rfl) (by kernel_rfl) mixed (saturateref01_shift.eq (fuel0 + 1))
noncomputable def saturateref01_shift.c : Kn Try.prog := Kn.of 134 saturateref01_shift.a saturateref01_shift.r (fun a => saturateref01_shift.f a.1 a.2.1 a.2.2.1 a.2.2.2.1) saturateref01_shift.con

/-! ### saturateref01_Shl: function 127 -/
def saturateref01_Shl.a : ACods (Int × Int × Int × Unit) := (.cons (.val (.int .i64)) (.cons (.val (.int .u64)) (.cons (.val (.int .u64)) .nil)))
def saturateref01_Shl.r : RCod (Int) := .val (.int .u64)
noncomputable def saturateref01_Shl.cs : List (Kn Try.prog) := [saturateref01_by.c, saturateref01_shift.c]
def saturateref01_Shl.live : Nat → Option Keep := liveOf []
noncomputable def saturateref01_Shl.body : Code := bodyOf Try.f127
noncomputable def saturateref01_Shl.K (fu : Nat) : Code → St → (Ex → St → Option (Int)) → Option (Int) := codeK Try.prog saturateref01_Shl.cs saturateref01_Shl.live fu
noncomputable def saturateref01_Shl.f (a0 : Int) (a1 : Int) (a2 : Int) : Option (Int) :=
  (saturateref01_by.f a0 a2).bind fun r1 =>
  (saturateref01_shift.f a0 a1 (IntKind.i64.wrap (0 - r1)) 0).bind fun r2 =>
  some r2
theorem saturateref01_Shl.eq (fu : Nat) (a : Int × Int × Int × Unit) : bodyK Try.prog saturateref01_Shl.cs saturateref01_Shl.live fu Try.f127 (saturateref01_Shl.a.enc a) saturateref01_Shl.r.dec = saturateref01_Shl.f a.1 a.2.1 a.2.2.1 := by kernel_rfl
theorem saturateref01_Shl.con : ∀ (a : Int × Int × Int × Unit) (r : Int), saturateref01_Shl.f a.1 a.2.1 a.2.2.1 = some r → Contract Try.prog 127 (saturateref01_Shl.a.enc a) (saturateref01_Shl.r.enc r) := Contract.of_body (F := fun (a : Int × Int × Int × Unit) => saturateref01_Shl.f a.1 a.2.1 a.2.2.1) (fn := Try.f127) (cs := saturateref01_Shl.cs) (live := saturateref01_Shl.live) (fuel := fuel0 + 1) (by kernel_rfl) (by kernel_rfl) mixed (saturateref01_Shl.eq (fuel0 + 1))
noncomputable def saturateref01_Shl.c : Kn Try.prog := Kn.of 127 saturateref01_Shl.a saturateref01_Shl.r (fun a => saturateref01_Shl.f a.1 a.2.1 a.2.2.1) saturateref01_Shl.con

/-! ### saturateref01_Lshr: function 128 -/
def saturateref01_Lshr.a : ACods (Int × Int × Int × Unit) := (.cons (.val (.int .i64)) (.cons (.val (.int .u64)) (.cons (.val (.int .u64)) .nil)))
def saturateref01_Lshr.r : RCod (Int) := .val (.int .u64)
noncomputable def saturateref01_Lshr.cs : List (Kn Try.prog) := [saturateref01_by.c, saturateref01_shift.c]
def saturateref01_Lshr.live : Nat → Option Keep := liveOf []
noncomputable def saturateref01_Lshr.body : Code := bodyOf Try.f128
noncomputable def saturateref01_Lshr.K (fu : Nat) : Code → St → (Ex → St → Option (Int)) → Option (Int) := codeK Try.prog saturateref01_Lshr.cs saturateref01_Lshr.live fu
noncomputable def saturateref01_Lshr.f (a0 : Int) (a1 : Int) (a2 : Int) : Option (Int) :=
  (saturateref01_by.f a0 a2).bind fun r1 =>
  (saturateref01_shift.f a0 a1 r1 0).bind fun r2 =>
  some r2
theorem saturateref01_Lshr.eq (fu : Nat) (a : Int × Int × Int × Unit) : bodyK Try.prog saturateref01_Lshr.cs saturateref01_Lshr.live fu Try.f128 (saturateref01_Lshr.a.enc a) saturateref01_Lshr.r.dec = saturateref01_Lshr.f a.1 a.2.1 a.2.2.1 := by kernel_rfl
theorem saturateref01_Lshr.con : ∀ (a : Int × Int × Int × Unit) (r : Int), saturateref01_Lshr.f a.1 a.2.1 a.2.2.1 = some r → Contract Try.prog 128 (saturateref01_Lshr.a.enc a) (saturateref01_Lshr.r.enc r) := Contract.of_body (F := fun (a : Int × Int × Int × Unit) => saturateref01_Lshr.f a.1 a.2.1 a.2.2.1) (fn := Try.f128) (cs := saturateref01_Lshr.cs) (live := saturateref01_Lshr.live) (fuel := fuel0 + 1) (by kernel_rfl) (by kernel_rfl) mixed (saturateref01_Lshr.eq (fuel0 + 1))
noncomputable def saturateref01_Lshr.c : Kn Try.prog := Kn.of 128 saturateref01_Lshr.a saturateref01_Lshr.r (fun a => saturateref01_Lshr.f a.1 a.2.1 a.2.2.1) saturateref01_Lshr.con

/-! ### saturateref01_Ashr: function 129 -/
def saturateref01_Ashr.a : ACods (Int × Int × Int × Unit) := (.cons (.val (.int .i64)) (.cons (.val (.int .u64)) (.cons (.val (.int .u64)) .nil)))
def saturateref01_Ashr.r : RCod (Int) := .val (.int .u64)
noncomputable def saturateref01_Ashr.cs : List (Kn Try.prog) := [saturateref01_by.c, saturateref01_W.c, saturateref01_Bit.c, saturateref01_shift.c]
def saturateref01_Ashr.live : Nat → Option Keep := liveOf []
noncomputable def saturateref01_Ashr.body : Code := bodyOf Try.f129
noncomputable def saturateref01_Ashr.K (fu : Nat) : Code → St → (Ex → St → Option (Int)) → Option (Int) := codeK Try.prog saturateref01_Ashr.cs saturateref01_Ashr.live fu
noncomputable def saturateref01_Ashr.f (a0 : Int) (a1 : Int) (a2 : Int) : Option (Int) :=
  (saturateref01_by.f a0 a2).bind fun r1 =>
  (saturateref01_W.f a0).bind fun r2 =>
  (saturateref01_Bit.f a1 (IntKind.i64.wrap (r2 - 1))).bind fun r3 =>
  (saturateref01_shift.f a0 a1 r1 r3).bind fun r4 =>
  some r4
theorem saturateref01_Ashr.eq (fu : Nat) (a : Int × Int × Int × Unit) : bodyK Try.prog saturateref01_Ashr.cs saturateref01_Ashr.live fu Try.f129 (saturateref01_Ashr.a.enc a) saturateref01_Ashr.r.dec = saturateref01_Ashr.f a.1 a.2.1 a.2.2.1 := by kernel_rfl
theorem saturateref01_Ashr.con : ∀ (a : Int × Int × Int × Unit) (r : Int), saturateref01_Ashr.f a.1 a.2.1 a.2.2.1 = some r → Contract Try.prog 129 (saturateref01_Ashr.a.enc a) (saturateref01_Ashr.r.enc r) := Contract.of_body (F := fun (a : Int × Int × Int × Unit) => saturateref01_Ashr.f a.1 a.2.1 a.2.2.1) (fn := Try.f129) (cs := saturateref01_Ashr.cs) (live := saturateref01_Ashr.live) (fuel := fuel0 + 1) (by kernel_rfl) (by kernel_rfl) mixed (saturateref01_Ashr.eq (fuel0 + 1))
noncomputable def saturateref01_Ashr.c : Kn Try.prog := Kn.of 129 saturateref01_Ashr.a saturateref01_Ashr.r (fun a => saturateref01_Ashr.f a.1 a.2.1 a.2.2.1) saturateref01_Ashr.con

/-! ### saturateref01_Eq: function 130 -/
def saturateref01_Eq.a : ACods (Int × Int × Int × Unit) := (.cons (.val (.int .i64)) (.cons (.val (.int .u64)) (.cons (.val (.int .u64)) .nil)))
def saturateref01_Eq.r : RCod (Int) := .val (.int .u64)
noncomputable def saturateref01_Eq.cs : List (Kn Try.prog) := [saturateref01_Cut.c, saturateref01_truth.c]
def saturateref01_Eq.live : Nat → Option Keep := liveOf []
noncomputable def saturateref01_Eq.body : Code := bodyOf Try.f130
noncomputable def saturateref01_Eq.K (fu : Nat) : Code → St → (Ex → St → Option (Int)) → Option (Int) := codeK Try.prog saturateref01_Eq.cs saturateref01_Eq.live fu
noncomputable def saturateref01_Eq.f (a0 : Int) (a1 : Int) (a2 : Int) : Option (Int) :=
  (saturateref01_Cut.f a0 a1).bind fun r1 =>
  (saturateref01_Cut.f a0 a2).bind fun r2 =>
  (saturateref01_truth.f (r1 == r2)).bind fun r3 =>
  some r3
theorem saturateref01_Eq.eq (fu : Nat) (a : Int × Int × Int × Unit) : bodyK Try.prog saturateref01_Eq.cs saturateref01_Eq.live fu Try.f130 (saturateref01_Eq.a.enc a) saturateref01_Eq.r.dec = saturateref01_Eq.f a.1 a.2.1 a.2.2.1 := by kernel_rfl
theorem saturateref01_Eq.con : ∀ (a : Int × Int × Int × Unit) (r : Int), saturateref01_Eq.f a.1 a.2.1 a.2.2.1 = some r → Contract Try.prog 130 (saturateref01_Eq.a.enc a) (saturateref01_Eq.r.enc r) := Contract.of_body (F := fun (a : Int × Int × Int × Unit) => saturateref01_Eq.f a.1 a.2.1 a.2.2.1) (fn := Try.f130) (cs := saturateref01_Eq.cs) (live := saturateref01_Eq.live) (fuel := fuel0 + 1) (by kernel_rfl) (by kernel_rfl) mixed (saturateref01_Eq.eq (fuel0 + 1))
noncomputable def saturateref01_Eq.c : Kn Try.prog := Kn.of 130 saturateref01_Eq.a saturateref01_Eq.r (fun a => saturateref01_Eq.f a.1 a.2.1 a.2.2.1) saturateref01_Eq.con

/-! ### saturateref08_two: function 110 -/
def saturateref08_two.a : ACods (Int × Int × Int × Int × Unit) := (.cons (.val (.int .i64)) (.cons (.val (.int .i64)) (.cons (.val (.int .u64)) (.cons (.val (.int .u64)) .nil))))
def saturateref08_two.r : RCod (Int) := .val (.int .u64)
noncomputable def saturateref08_two.cs : List (Kn Try.prog) := [saturateref01_And.c, saturateref01_Or.c, saturateref01_Xor.c, saturateref01_Add.c, saturateref01_Sub.c, saturateref01_Mul.c, saturateref01_Udiv.c, saturateref01_Urem.c, saturateref01_Shl.c, saturateref01_Lshr.c, saturateref01_Ashr.c, saturateref01_Eq.c, saturateref01_Ult.c, saturateref01_Slt.c]
def saturateref08_two.live : Nat → Option Keep := liveOf []
noncomputable def saturateref08_two.body : Code := bodyOf Try.f110
noncomputable def saturateref08_two.K (fu : Nat) : Code → St → (Ex → St → Option (Int)) → Option (Int) := codeK Try.prog saturateref08_two.cs saturateref08_two.live fu
noncomputable def saturateref08_two.f (a0 : Int) (a1 : Int) (a2 : Int) (a3 : Int) : Option (Int) :=
  bif (a0 == 5) then
    (saturateref01_And.f a1 a2 a3).bind fun r1 =>
    some r1
  else
    bif (a0 == 6) then
      (saturateref01_Or.f a1 a2 a3).bind fun r2 =>
      some r2
    else
      bif (a0 == 7) then
        (saturateref01_Xor.f a1 a2 a3).bind fun r3 =>
        some r3
      else
        bif (a0 == 8) then
          (saturateref01_Add.f a1 a2 a3).bind fun r4 =>
          some r4
        else
          bif (a0 == 9) then
            (saturateref01_Sub.f a1 a2 a3).bind fun r5 =>
            some r5
          else
            bif (a0 == 10) then
              (saturateref01_Mul.f a1 a2 a3).bind fun r6 =>
              some r6
            else
              bif (a0 == 11) then
                (saturateref01_Udiv.f a1 a2 a3).bind fun r7 =>
                some r7
              else
                bif (a0 == 12) then
                  (saturateref01_Urem.f a1 a2 a3).bind fun r8 =>
                  some r8
                else
                  bif (a0 == 13) then
                    (saturateref01_Shl.f a1 a2 a3).bind fun r9 =>
                    some r9
                  else
                    bif (a0 == 14) then
                      (saturateref01_Lshr.f a1 a2 a3).bind fun r10 =>
                      some r10
                    else
                      bif (a0 == 15) then
                        (saturateref01_Ashr.f a1 a2 a3).bind fun r11 =>
                        some r11
                      else
                        bif (a0 == 16) then
                          (saturateref01_Eq.f a1 a2 a3).bind fun r12 =>
                          some r12
                        else
                          bif (a0 == 17) then
                            (saturateref01_Ult.f a1 a2 a3).bind fun r13 =>
                            some r13
                          else
                            (saturateref01_Slt.f a1 a2 a3).bind fun r14 =>
                            some r14
theorem saturateref08_two.eq (fu : Nat) (a : Int × Int × Int × Int × Unit) : bodyK Try.prog saturateref08_two.cs saturateref08_two.live fu Try.f110 (saturateref08_two.a.enc a) saturateref08_two.r.dec = saturateref08_two.f a.1 a.2.1 a.2.2.1 a.2.2.2.1 := by kernel_rfl
theorem saturateref08_two.con : ∀ (a : Int × Int × Int × Int × Unit) (r : Int), saturateref08_two.f a.1 a.2.1 a.2.2.1 a.2.2.2.1 = some r → Contract Try.prog 110 (saturateref08_two.a.enc a) (saturateref08_two.r.enc r) := Contract.of_body (F := fun (a : Int × Int × Int × Int × Unit) => saturateref08_two.f a.1 a.2.1 a.2.2.1 a.2.2.2.1) (fn := Try.f110) (cs := saturateref08_two.cs) (live := saturateref08_two.live) (fuel := fuel0 + 1) (by kernel_rfl) (by kernel_rfl) mixed (saturateref08_two.eq (fuel0 + 1))
noncomputable def saturateref08_two.c : Kn Try.prog := Kn.of 110 saturateref08_two.a saturateref08_two.r (fun a => saturateref08_two.f a.1 a.2.1 a.2.2.1 a.2.2.2.1) saturateref08_two.con

/-! ### saturateref08_value: function 84 -/
def saturateref08_value.a : ACods (Int × Int × Int × (Nat × (Nat → Int) × (Nat → Int)) × Unit) := (.cons (.val (.int .i64)) (.cons (.val (.int .i64)) (.cons (.val (.int .u64)) (.cons (.rows (.int .i64 (.int1 .u64))) .nil))))
def saturateref08_value.r : RCod (Int) := .val (.int .u64)
noncomputable def saturateref08_value.cs : List (Kn Try.prog) := [saturateref01_Cut.c, saturateref08_one.c, saturateref01_Concat.c, saturateref08_two.c]
def saturateref08_value.live : Nat → Option Keep := liveOf [(7, ⟨[0, 1, 2, 3, 9, 10], [3, 9], [(9, 23, [.int .u64 (fun _ => 0)])]⟩)]
noncomputable def saturateref08_value.body : Code := bodyOf Try.f84
noncomputable def saturateref08_value.K (fu : Nat) : Code → St → (Ex → St → Option (Int)) → Option (Int) := codeK Try.prog saturateref08_value.cs saturateref08_value.live fu
noncomputable def saturateref08_value.j3 (fu : Nat) (n3 : Nat) (x0 : Int) (x1 : Int) (x2 : Int) (x3n : Nat) (x9n : Nat) (x10 : Int) (m3 : Nat) (g3_0 : Nat → Int) (g3_1 : Nat → Int) (m9 : Nat) (g9_0 : Nat → Int) : Option Int :=
  loopK (saturateref08_value.K fu (sub saturateref08_value.body [true, true, false, true, false, false])) (saturateref08_value.live 7) n3 (stOf 90 [(0, .val (.int .i64 x0)), (1, .val (.int .i64 x1)), (2, .val (.int .u64 x2)), (3, .sl 3 2 x3n), (9, .sl 9 1 x9n), (10, .val (.int .i64 x10))] [(3, .ext m3 [.int .i64 g3_0, .int .u64 g3_1]), (9, .grow 23 m9 [.int .u64 g9_0])]) (blockC 0 (seqC fu (saturateref08_value.live 12) (saturateref08_value.K fu (sub saturateref08_value.body [true, true, true])) (retC Try.prog Try.f84.results saturateref08_value.r.dec)))
theorem saturateref08_value.j3_succ (fu : Nat) (n3 : Nat) (x0 : Int) (x1 : Int) (x2 : Int) (x3n : Nat) (x9n : Nat) (x10 : Int) (m3 : Nat) (g3_0 : Nat → Int) (g3_1 : Nat → Int) (m9 : Nat) (g9_0 : Nat → Int) : saturateref08_value.j3 fu (n3 + 1) x0 x1 x2 x3n x9n x10 m3 g3_0 g3_1 m9 g9_0 =
  bif (decide (x10 < (x3n : Int))) then
    bif decide (0 ≤ x10) then
      bif decide (x10 < (x3n : Int)) then
        bif decide (0 ≤ x10) then
          bif decide (x10 < (x3n : Int)) then
            (saturateref01_Cut.f (g3_0 x10.toNat) (g3_1 x10.toNat)).bind fun r1 =>
            bif Nat.ble ((x9n + 1) * 8) 140737488355328 then
              saturateref08_value.j3 fu n3 x0 x1 x2 x3n (x9n + 1) (IntKind.i64.wrap (x10 + 1)) m3 g3_0 g3_1 (x9n + 1) (cat x9n g9_0 (fun i => [r1].getD i 0))
            else
              none
          else
            none
        else
          none
      else
        none
    else
      none
  else
    bif ((x9n : Int) == 0) then
      some x2
    else
      bif ((x9n : Int) == 1) then
        bif decide ((0 : Int) < (x3n : Int)) then
          bif decide ((0 : Int) < (x9n : Int)) then
            (saturateref08_one.f x0 x1 x2 (g3_0 0) (g9_0 0)).bind fun r2 =>
            some r2
          else
            none
        else
          none
      else
        bif ((x9n : Int) == 3) then
          bif decide ((0 : Int) < (x9n : Int)) then
            bif ((g9_0 0) == 1) then
              bif decide ((1 : Int) < (x9n : Int)) then
                some (g9_0 1)
              else
                none
            else
              bif decide ((2 : Int) < (x9n : Int)) then
                some (g9_0 2)
              else
                none
          else
            none
        else
          bif (x0 == 20) then
            bif decide ((0 : Int) < (x3n : Int)) then
              bif decide ((1 : Int) < (x3n : Int)) then
                bif decide ((0 : Int) < (x9n : Int)) then
                  bif decide ((1 : Int) < (x9n : Int)) then
                    (saturateref01_Concat.f (g3_0 0) (g3_0 1) (g9_0 0) (g9_0 1)).bind fun r3 =>
                    some r3
                  else
                    none
                else
                  none
              else
                none
            else
              none
          else
            bif decide ((0 : Int) < (x3n : Int)) then
              bif decide ((0 : Int) < (x9n : Int)) then
                bif decide ((1 : Int) < (x9n : Int)) then
                  (saturateref08_two.f x0 (g3_0 0) (g9_0 0) (g9_0 1)).bind fun r4 =>
                  some r4
                else
                  none
              else
                none
            else
              none := by kernel_rfl
noncomputable def saturateref08_value.g (fu : Nat) (a0 : Int) (a1 : Int) (a2 : Int) (a3 : Nat × (Nat → Int) × (Nat → Int)) : Option (Int) :=
  saturateref08_value.j3 fu fu a0 a1 a2 a3.1 0 0 a3.1 a3.2.1 a3.2.2 0 (fun _ => 0)
noncomputable def saturateref08_value.f (a0 : Int) (a1 : Int) (a2 : Int) (a3 : Nat × (Nat → Int) × (Nat → Int)) : Option (Int) := saturateref08_value.g (fuel0 + 1) a0 a1 a2 a3
theorem saturateref08_value.eq (fu : Nat) (a : Int × Int × Int × (Nat × (Nat → Int) × (Nat → Int)) × Unit) : bodyK Try.prog saturateref08_value.cs saturateref08_value.live fu Try.f84 (saturateref08_value.a.enc a) saturateref08_value.r.dec = saturateref08_value.g fu a.1 a.2.1 a.2.2.1 a.2.2.2.1 := by kernel_rfl
theorem saturateref08_value.con : ∀ (a : Int × Int × Int × (Nat × (Nat → Int) × (Nat → Int)) × Unit) (r : Int), saturateref08_value.f a.1 a.2.1 a.2.2.1 a.2.2.2.1 = some r → Contract Try.prog 84 (saturateref08_value.a.enc a) (saturateref08_value.r.enc r) := Contract.of_body (F := fun (a : Int × Int × Int × (Nat × (Nat → Int) × (Nat → Int)) × Unit) => saturateref08_value.f a.1 a.2.1 a.2.2.1 a.2.2.2.1) (fn := Try.f84) (cs := saturateref08_value.cs) (live := saturateref08_value.live) (fuel := fuel0 + 1) (by kernel_rfl) (by kernel_rfl) mixed (saturateref08_value.eq (fuel0 + 1))
noncomputable def saturateref08_value.c : Kn Try.prog := Kn.of 84 saturateref08_value.a saturateref08_value.r (fun a => saturateref08_value.f a.1 a.2.1 a.2.2.1 a.2.2.2.1) saturateref08_value.con

/-! ### saturateref08_Apply: function 53 -/
def saturateref08_Apply.a : ACods (Int × Int × Int × (Nat × (Nat → Int) × (Nat → Int)) × Unit) := (.cons (.val (.int .i64)) (.cons (.val (.int .i64)) (.cons (.val (.int .u64)) (.cons (.rows (.int .i64 (.int1 .u64))) .nil))))
def saturateref08_Apply.r : RCod (Int × Int) := .val (.tup (.cons (.int .u64) (.one (.int .i64))))
noncomputable def saturateref08_Apply.cs : List (Kn Try.prog) := [saturateref04_Width.c, saturateref04_Pattern.c, saturateref08_value.c]
def saturateref08_Apply.live : Nat → Option Keep := liveOf [(7, ⟨[0, 1, 2, 3, 10, 11], [3, 10], [(10, 3, [.int .i64 (fun _ => 0)])]⟩), (25, ⟨[0, 2, 3, 10, 12, 14], [3, 10], []⟩)]
noncomputable def saturateref08_Apply.body : Code := bodyOf Try.f53
noncomputable def saturateref08_Apply.K (fu : Nat) : Code → St → (Ex → St → Option (Int × Int)) → Option (Int × Int) := codeK Try.prog saturateref08_Apply.cs saturateref08_Apply.live fu
noncomputable def saturateref08_Apply.j3 (fu : Nat) (n3 : Nat) (x0 : Int) (x1 : Int) (x2 : Int) (x3n : Nat) (x10n : Nat) (x11 : Int) (m3 : Nat) (g3_0 : Nat → Int) (g3_1 : Nat → Int) (m10 : Nat) (g10_0 : Nat → Int) : Option (Int × Int) :=
  loopK (saturateref08_Apply.K fu (sub saturateref08_Apply.body [true, true, false, true, false, false])) (saturateref08_Apply.live 7) n3 (stOf 64 [(0, .val (.int .i64 x0)), (1, .val (.int .i64 x1)), (2, .val (.int .u64 x2)), (3, .sl 3 2 x3n), (10, .sl 10 1 x10n), (11, .val (.int .i64 x11))] [(3, .ext m3 [.int .i64 g3_0, .int .u64 g3_1]), (10, .grow 3 m10 [.int .i64 g10_0])]) (blockC 0 (seqC fu (saturateref08_Apply.live 12) (saturateref08_Apply.K fu (sub saturateref08_Apply.body [true, true, true])) (retC Try.prog Try.f53.results saturateref08_Apply.r.dec)))
noncomputable def saturateref08_Apply.j12 (fu : Nat) (n12 : Nat) (x0 : Int) (x2 : Int) (x3n : Nat) (x10n : Nat) (x12 : Int) (x14 : Int) (m3 : Nat) (g3_0 : Nat → Int) (g3_1 : Nat → Int) (m10 : Nat) (g10_0 : Nat → Int) : Option (Int × Int) :=
  loopK (saturateref08_Apply.K fu (sub saturateref08_Apply.body [true, true, true, true, true, true, false, true, false, false])) (saturateref08_Apply.live 25) n12 (stOf 64 [(0, .val (.int .i64 x0)), (2, .val (.int .u64 x2)), (3, .sl 3 2 x3n), (10, .sl 10 1 x10n), (12, .val (.int .i64 x12)), (14, .val (.int .i64 x14))] [(3, .ext m3 [.int .i64 g3_0, .int .u64 g3_1]), (10, .grow 3 m10 [.int .i64 g10_0])]) (blockC 2 (seqC fu (saturateref08_Apply.live 32) (saturateref08_Apply.K fu (sub saturateref08_Apply.body [true, true, true, true, true, true, true])) (retC Try.prog Try.f53.results saturateref08_Apply.r.dec)))
theorem saturateref08_Apply.j12_succ (fu : Nat) (n12 : Nat) (x0 : Int) (x2 : Int) (x3n : Nat) (x10n : Nat) (x12 : Int) (x14 : Int) (m3 : Nat) (g3_0 : Nat → Int) (g3_1 : Nat → Int) (m10 : Nat) (g10_0 : Nat → Int) : saturateref08_Apply.j12 fu (n12 + 1) x0 x2 x3n x10n x12 x14 m3 g3_0 g3_1 m10 g10_0 =
  bif (decide (x14 < (x10n : Int))) then
    bif decide (0 ≤ x14) then
      bif decide (x14 < (x10n : Int)) then
        bif ((g10_0 x14.toNat) == 0) then
          some (0, 3)
        else
          saturateref08_Apply.j12 fu n12 x0 x2 x3n x10n x12 (IntKind.i64.wrap (x14 + 1)) m3 g3_0 g3_1 m10 g10_0
      else
        none
    else
      none
  else
    bif (x12 == 0) then
      some (0, 3)
    else
      (saturateref08_value.f x0 x12 x2 (x3n, g3_0, g3_1)).bind fun r3 =>
      some (r3, 0) := by kernel_rfl
theorem saturateref08_Apply.j3_succ (fu : Nat) (n3 : Nat) (x0 : Int) (x1 : Int) (x2 : Int) (x3n : Nat) (x10n : Nat) (x11 : Int) (m3 : Nat) (g3_0 : Nat → Int) (g3_1 : Nat → Int) (m10 : Nat) (g10_0 : Nat → Int) : saturateref08_Apply.j3 fu (n3 + 1) x0 x1 x2 x3n x10n x11 m3 g3_0 g3_1 m10 g10_0 =
  bif (decide (x11 < (x3n : Int))) then
    bif decide (0 ≤ x11) then
      bif decide (x11 < (x3n : Int)) then
        bif Nat.ble ((x10n + 1) * 8) 140737488355328 then
          saturateref08_Apply.j3 fu n3 x0 x1 x2 x3n (x10n + 1) (IntKind.i64.wrap (x11 + 1)) m3 g3_0 g3_1 (x10n + 1) (cat x10n g10_0 (fun i => [(g3_0 x11.toNat)].getD i 0))
        else
          none
      else
        none
    else
      none
  else
    (saturateref04_Width.f x0 x1 x2 (x10n, g10_0)).bind fun r1 =>
    bif (r1.2 != 0) then
      some (0, r1.2)
    else
      bif (x0 == 1) then
        some (0, 4)
      else
        (saturateref04_Pattern.f x0).bind fun r2 =>
        bif r2 then
          some (0, 4)
        else
          saturateref08_Apply.j12 fu fu x0 x2 x3n x10n r1.1 0 m3 g3_0 g3_1 m10 g10_0 := by kernel_rfl
noncomputable def saturateref08_Apply.g (fu : Nat) (a0 : Int) (a1 : Int) (a2 : Int) (a3 : Nat × (Nat → Int) × (Nat → Int)) : Option (Int × Int) :=
  saturateref08_Apply.j3 fu fu a0 a1 a2 a3.1 0 0 a3.1 a3.2.1 a3.2.2 0 (fun _ => 0)
noncomputable def saturateref08_Apply.f (a0 : Int) (a1 : Int) (a2 : Int) (a3 : Nat × (Nat → Int) × (Nat → Int)) : Option (Int × Int) := saturateref08_Apply.g (fuel0 + 1) a0 a1 a2 a3
theorem saturateref08_Apply.eq (fu : Nat) (a : Int × Int × Int × (Nat × (Nat → Int) × (Nat → Int)) × Unit) : bodyK Try.prog saturateref08_Apply.cs saturateref08_Apply.live fu Try.f53 (saturateref08_Apply.a.enc a) saturateref08_Apply.r.dec = saturateref08_Apply.g fu a.1 a.2.1 a.2.2.1 a.2.2.2.1 := by kernel_rfl
theorem saturateref08_Apply.con : ∀ (a : Int × Int × Int × (Nat × (Nat → Int) × (Nat → Int)) × Unit) (r : Int × Int), saturateref08_Apply.f a.1 a.2.1 a.2.2.1 a.2.2.2.1 = some r → Contract Try.prog 53 (saturateref08_Apply.a.enc a) (saturateref08_Apply.r.enc r) := Contract.of_body (F := fun (a : Int × Int × Int × (Nat × (Nat → Int) × (Nat → Int)) × Unit) => saturateref08_Apply.f a.1 a.2.1 a.2.2.1 a.2.2.2.1) (fn := Try.f53) (cs := saturateref08_Apply.cs) (live := saturateref08_Apply.live) (fuel := fuel0 + 1) (by kernel_rfl) (by kernel_rfl) mixed (saturateref08_Apply.eq (fuel0 + 1))
noncomputable def saturateref08_Apply.c : Kn Try.prog := Kn.of 53 saturateref08_Apply.a saturateref08_Apply.r (fun a => saturateref08_Apply.f a.1 a.2.1 a.2.2.1 a.2.2.2.1) saturateref08_Apply.con
end Go.Proofs.Ytbfniopkadaheaa.Fn
