/- What the functions return, as the evaluator tells it: written by a program of this workplace (mev.py); Lean checks each equation. -/
import Derived.Test.YtkmehmlcccdnbaaDoorProg
import Derived.Test.YtkmehmlcccdnbaaDoorEvC
import Derived.Test.YtkmehmlcccdnbaaDoorF0
import Derived.Test.YtkmehmlcccdnbaaDoorF1
import Derived.Test.YtkmehmlcccdnbaaDoorF2
import Derived.Test.YtkmehmlcccdnbaaDoorF4
import Derived.Test.YtkmehmlcccdnbaaDoorF5
namespace Go.Proofs.YtkmehmlcccdnbaaDoor.Fn
open Go Go.RowKit Go.Proofs.YtkmehmlcccdnbaaDoor.Ev Go.Proofs
set_option linter.unusedVariables false
set_option maxRecDepth 100000
/-! ### saturateref49_Few: function 15 -/
def saturateref49_Few.a : ACods ((Int × Int × (Nat × (Nat → Int) × (Nat → Int) × (Nat → Int) × (Nat → Int) × (Nat → Int) × (Nat → Int)) × (Nat × (Nat → Int))) × Unit) := (.cons (.pk (.cons (.val (.int .i64)) (.cons (.val (.int .i64)) (.cons (.rows (.int .i64 (.int .i64 (.int .i64 (.int .i64 (.int .i64 (.int1 .u64))))))) (.one (.rows (.int1 .i64))))))) .nil)
def saturateref49_Few.r : RCod (Bool) := .val (.bool)
noncomputable def saturateref49_Few.cs : List (Kn Tryd.prog) := []
def saturateref49_Few.live : Nat → Option Keep := liveOf []
noncomputable def saturateref49_Few.body : Code := bodyOf Tryd.f15
noncomputable def saturateref49_Few.K (fu : Nat) : Code → St → (Ex → St → Option (Bool)) → Option (Bool) := codeK Tryd.prog (saturateref49_Few.cs) saturateref49_Few.live fu
noncomputable def saturateref49_Few.f (a0 : Int × Int × (Nat × (Nat → Int) × (Nat → Int) × (Nat → Int) × (Nat → Int) × (Nat → Int) × (Nat → Int)) × (Nat × (Nat → Int))) : Option (Bool) :=
  bif (decide ((a0.2.2.1.1 : Int) ≤ 40)) then
    some (decide ((a0.2.2.2.1 : Int) ≤ 40))
  else
    bif (decide ((a0.2.2.1.1 : Int) > 256)) then
      some (decide ((a0.2.2.2.1 : Int) ≤ 40))
    else
      some false
theorem saturateref49_Few.eq (fu : Nat) (a : (Int × Int × (Nat × (Nat → Int) × (Nat → Int) × (Nat → Int) × (Nat → Int) × (Nat → Int) × (Nat → Int)) × (Nat × (Nat → Int))) × Unit) : bodyK Tryd.prog saturateref49_Few.cs saturateref49_Few.live fu Tryd.f15 false (saturateref49_Few.a.enc a) saturateref49_Few.r.dec = saturateref49_Few.f a.1 := by kernel_rfl
theorem saturateref49_Few.con : ∀ (a : (Int × Int × (Nat × (Nat → Int) × (Nat → Int) × (Nat → Int) × (Nat → Int) × (Nat → Int) × (Nat → Int)) × (Nat × (Nat → Int))) × Unit) (r : Bool), saturateref49_Few.f a.1 = some r → Contract Tryd.prog 15 (saturateref49_Few.a.enc a) (saturateref49_Few.r.enc r) := Contract.of_body (F := fun (a : (Int × Int × (Nat × (Nat → Int) × (Nat → Int) × (Nat → Int) × (Nat → Int) × (Nat → Int) × (Nat → Int)) × (Nat × (Nat → Int))) × Unit) => saturateref49_Few.f a.1) (fn := Tryd.f15) (cs := saturateref49_Few.cs) (live := saturateref49_Few.live) (fuel := fuel0 + 1) (by kernel_rfl) (by kernel_rfl) mixed (saturateref49_Few.eq (fuel0 + 1))
noncomputable def saturateref49_Few.c : Kn Tryd.prog := Kn.of 15 saturateref49_Few.a saturateref49_Few.r (fun a => saturateref49_Few.f a.1) saturateref49_Few.con

/-! ### saturateref48_Def: function 26 -/
def saturateref48_Def.a : ACods ((Int × Int × Int × Int × Int × Int) × Unit) := (.cons (.val (.agg (.cons (.int .i64) (.cons (.int .i64) (.cons (.int .i64) (.cons (.int .i64) (.cons (.int .i64) (.one (.int .u64))))))))) .nil)
def saturateref48_Def.r : RCod (Int × Bool) := .val (.tup (.cons (.int .i64) (.one (.bool))))
noncomputable def saturateref48_Def.cs : List (Kn Tryd.prog) := [saturateref48_Known.c]
def saturateref48_Def.live : Nat → Option Keep := liveOf []
noncomputable def saturateref48_Def.body : Code := bodyOf Tryd.f26
noncomputable def saturateref48_Def.K (fu : Nat) : Code → St → (Ex → St → Option (Int × Bool)) → Option (Int × Bool) := codeK Tryd.prog (saturateref48_Def.cs) saturateref48_Def.live fu
noncomputable def saturateref48_Def.f (a0 : Int × Int × Int × Int × Int × Int) : Option (Int × Bool) :=
  (saturateref48_Known.f a0.1).bind fun r1 =>
  bif (!r1) then
    some (0, false)
  else
    bif (a0.1 == 0) then
      some (0, false)
    else
      some (a0.2.1, true)
theorem saturateref48_Def.eq (fu : Nat) (a : (Int × Int × Int × Int × Int × Int) × Unit) : bodyK Tryd.prog saturateref48_Def.cs saturateref48_Def.live fu Tryd.f26 false (saturateref48_Def.a.enc a) saturateref48_Def.r.dec = saturateref48_Def.f a.1 := by kernel_rfl
theorem saturateref48_Def.con : ∀ (a : (Int × Int × Int × Int × Int × Int) × Unit) (r : Int × Bool), saturateref48_Def.f a.1 = some r → Contract Tryd.prog 26 (saturateref48_Def.a.enc a) (saturateref48_Def.r.enc r) := Contract.of_body (F := fun (a : (Int × Int × Int × Int × Int × Int) × Unit) => saturateref48_Def.f a.1) (fn := Tryd.f26) (cs := saturateref48_Def.cs) (live := saturateref48_Def.live) (fuel := fuel0 + 1) (by kernel_rfl) (by kernel_rfl) mixed (saturateref48_Def.eq (fuel0 + 1))
noncomputable def saturateref48_Def.c : Kn Tryd.prog := Kn.of 26 saturateref48_Def.a saturateref48_Def.r (fun a => saturateref48_Def.f a.1) saturateref48_Def.con

/-! ### saturateref48_ins: function 28 -/
def saturateref48_ins.a : ACods ((Int × Int × (Nat × (Nat → Int) × (Nat → Int) × (Nat → Int) × (Nat → Int) × (Nat → Int) × (Nat → Int)) × (Nat × (Nat → Int))) × (Int × Int × Int × Int × Int × Int) × Unit) := (.cons (.pk (.cons (.val (.int .i64)) (.cons (.val (.int .i64)) (.cons (.rows (.int .i64 (.int .i64 (.int .i64 (.int .i64 (.int .i64 (.int1 .u64))))))) (.one (.rows (.int1 .i64))))))) (.cons (.val (.agg (.cons (.int .i64) (.cons (.int .i64) (.cons (.int .i64) (.cons (.int .i64) (.cons (.int .i64) (.one (.int .u64))))))))) .nil))
def saturateref48_ins.r : RCod (Int) := .val (.int .i64)
noncomputable def saturateref48_ins.cs : List (Kn Tryd.prog) := [saturateref48_Known.c, saturateref48_Uses.c, saturateref48_Def.c, saturateref01_Cut.c, saturateref48_Sources.c]
def saturateref48_ins.live : Nat → Option Keep := liveOf [(14, ⟨[2, 3, 5, 7], [2, 3, 5, 108, 109], [(5, 3, [])], [], []⟩), (17, ⟨[2, 3, 5, 7, 8], [2, 3, 5, 108, 109], [], [], []⟩), (28, ⟨[3, 7], [3], [], [], []⟩), (34, ⟨[], [], [], [], []⟩)]
noncomputable def saturateref48_ins.body : Code := bodyOf Tryd.f28
noncomputable def saturateref48_ins.K (fu : Nat) : Code → St → (Ex → St → Option (Int)) → Option (Int) := codeK Tryd.prog (saturateref48_ins.cs) saturateref48_ins.live fu
noncomputable def saturateref48_ins.p7 (m fu : Nat) (x5n : Nat) (x7 : Bool) (c2_0 : Int) (c2_1 : Int) (c2_2n : Nat) (c2_3n : Nat) (c3_0 : Int) (c3_1 : Int) (c3_2 : Int) (c3_3 : Int) (c3_4 : Int) (c3_5 : Int) (m5 : Nat) (g5_0 : Nat → Int) (m108 : Nat) (g108_0 : Nat → Int) (g108_1 : Nat → Int) (g108_2 : Nat → Int) (g108_3 : Nat → Int) (g108_4 : Nat → Int) (g108_5 : Nat → Int) (m109 : Nat) (g109_0 : Nat → Int) : Option Int :=
  joinK m (saturateref48_ins.K fu (sub saturateref48_ins.body [true, true, true, true, true])) (stOfX 106 110 [(2, .ptr 2 0 0 0), (3, .ptr 3 0 0 0), (5, .sl 5 1 x5n), (7, .val (.bool x7))] [(2, .own [.val (.int .i64 c2_0), .val (.int .i64 c2_1), .sl 108 6 c2_2n, .sl 109 1 c2_3n]), (3, .own [.val (.int .i64 c3_0), .val (.int .i64 c3_1), .val (.int .i64 c3_2), .val (.int .i64 c3_3), .val (.int .i64 c3_4), .val (.int .u64 c3_5)]), (5, .ext m5 [.int .i64 g5_0]), (108, .ext m108 [.int .i64 g108_0, .int .i64 g108_1, .int .i64 g108_2, .int .i64 g108_3, .int .i64 g108_4, .int .u64 g108_5]), (109, .ext m109 [.int .i64 g109_0])]) (retC Tryd.prog false (Tryd.f28.results) saturateref48_ins.r.dec)
noncomputable def saturateref48_ins.j8 (fu : Nat) (n8 : Nat) (x5n : Nat) (x7 : Bool) (x8 : Int) (c2_0 : Int) (c2_1 : Int) (c2_2n : Nat) (c2_3n : Nat) (c3_0 : Int) (c3_1 : Int) (c3_2 : Int) (c3_3 : Int) (c3_4 : Int) (c3_5 : Int) (m5 : Nat) (g5_0 : Nat → Int) (m108 : Nat) (g108_0 : Nat → Int) (g108_1 : Nat → Int) (g108_2 : Nat → Int) (g108_3 : Nat → Int) (g108_4 : Nat → Int) (g108_5 : Nat → Int) (m109 : Nat) (g109_0 : Nat → Int) : Option Int :=
  loopK (saturateref48_ins.K fu (sub saturateref48_ins.body [true, true, true, true, true, false, true, false, false])) (saturateref48_ins.live 17) n8 (stOfX 106 110 [(2, .ptr 2 0 0 0), (3, .ptr 3 0 0 0), (5, .sl 5 1 x5n), (7, .val (.bool x7)), (8, .val (.int .i64 x8))] [(2, .own [.val (.int .i64 c2_0), .val (.int .i64 c2_1), .sl 108 6 c2_2n, .sl 109 1 c2_3n]), (3, .own [.val (.int .i64 c3_0), .val (.int .i64 c3_1), .val (.int .i64 c3_2), .val (.int .i64 c3_3), .val (.int .i64 c3_4), .val (.int .u64 c3_5)]), (5, .ext m5 [.int .i64 g5_0]), (108, .ext m108 [.int .i64 g108_0, .int .i64 g108_1, .int .i64 g108_2, .int .i64 g108_3, .int .i64 g108_4, .int .u64 g108_5]), (109, .ext m109 [.int .i64 g109_0])]) (blockC 0 (seqC fu (saturateref48_ins.live 24) (saturateref48_ins.K fu (sub saturateref48_ins.body [true, true, true, true, true, true])) (retC Tryd.prog false (Tryd.f28.results) saturateref48_ins.r.dec)))
noncomputable def saturateref48_ins.p14 (m fu : Nat) (x7 : Bool) (c3_0 : Int) (c3_1 : Int) (c3_2 : Int) (c3_3 : Int) (c3_4 : Int) (c3_5 : Int) : Option Int :=
  joinK m (saturateref48_ins.K fu (sub saturateref48_ins.body [true, true, true, true, true, true, true])) (stOfX 106 110 [(3, .ptr 3 0 0 0), (7, .val (.bool x7))] [(3, .own [.val (.int .i64 c3_0), .val (.int .i64 c3_1), .val (.int .i64 c3_2), .val (.int .i64 c3_3), .val (.int .i64 c3_4), .val (.int .u64 c3_5)])]) (retC Tryd.prog false (Tryd.f28.results) saturateref48_ins.r.dec)
noncomputable def saturateref48_ins.p17 (m fu : Nat) : Option Int :=
  joinK m (saturateref48_ins.K fu (sub saturateref48_ins.body [true, true, true, true, true, true, true, true, true])) (stOfX 106 110 [] []) (retC Tryd.prog false (Tryd.f28.results) saturateref48_ins.r.dec)
theorem saturateref48_ins.p17_eq (m fu : Nat) : saturateref48_ins.p17 (m + 1) fu =
  some 0 := by kernel_rfl
theorem saturateref48_ins.p14_eq (m fu : Nat) (x7 : Bool) (c3_0 : Int) (c3_1 : Int) (c3_2 : Int) (c3_3 : Int) (c3_4 : Int) (c3_5 : Int) : saturateref48_ins.p14 (m + 1) fu x7 c3_0 c3_1 c3_2 c3_3 c3_4 c3_5 =
  (saturateref48_Sources.f c3_0).bind fun r5 =>
  bif (c3_0 != 1) then
    bif (c3_5 != 0) then
      some 19
    else
      bif (!x7) then
        bif (c3_1 != 0) then
          some 19
        else
          bif (decide (r5 < 1)) then
            bif (c3_2 != 0) then
              some 19
            else
              bif (decide (r5 < 2)) then
                bif (c3_3 != 0) then
                  some 19
                else
                  bif (decide (r5 < 3)) then
                    bif (c3_4 != 0) then
                      some 19
                    else
                      saturateref48_ins.p17 fu fu
                  else
                    saturateref48_ins.p17 fu fu
              else
                bif (decide (r5 < 3)) then
                  bif (c3_4 != 0) then
                    some 19
                  else
                    saturateref48_ins.p17 fu fu
                else
                  saturateref48_ins.p17 fu fu
          else
            bif (decide (r5 < 2)) then
              bif (c3_3 != 0) then
                some 19
              else
                bif (decide (r5 < 3)) then
                  bif (c3_4 != 0) then
                    some 19
                  else
                    saturateref48_ins.p17 fu fu
                else
                  saturateref48_ins.p17 fu fu
            else
              bif (decide (r5 < 3)) then
                bif (c3_4 != 0) then
                  some 19
                else
                  saturateref48_ins.p17 fu fu
              else
                saturateref48_ins.p17 fu fu
      else
        bif (decide (r5 < 1)) then
          bif (c3_2 != 0) then
            some 19
          else
            bif (decide (r5 < 2)) then
              bif (c3_3 != 0) then
                some 19
              else
                bif (decide (r5 < 3)) then
                  bif (c3_4 != 0) then
                    some 19
                  else
                    saturateref48_ins.p17 fu fu
                else
                  saturateref48_ins.p17 fu fu
            else
              bif (decide (r5 < 3)) then
                bif (c3_4 != 0) then
                  some 19
                else
                  saturateref48_ins.p17 fu fu
              else
                saturateref48_ins.p17 fu fu
        else
          bif (decide (r5 < 2)) then
            bif (c3_3 != 0) then
              some 19
            else
              bif (decide (r5 < 3)) then
                bif (c3_4 != 0) then
                  some 19
                else
                  saturateref48_ins.p17 fu fu
              else
                saturateref48_ins.p17 fu fu
          else
            bif (decide (r5 < 3)) then
              bif (c3_4 != 0) then
                some 19
              else
                saturateref48_ins.p17 fu fu
            else
              saturateref48_ins.p17 fu fu
  else
    bif (!x7) then
      bif (c3_1 != 0) then
        some 19
      else
        bif (decide (r5 < 1)) then
          bif (c3_2 != 0) then
            some 19
          else
            bif (decide (r5 < 2)) then
              bif (c3_3 != 0) then
                some 19
              else
                bif (decide (r5 < 3)) then
                  bif (c3_4 != 0) then
                    some 19
                  else
                    saturateref48_ins.p17 fu fu
                else
                  saturateref48_ins.p17 fu fu
            else
              bif (decide (r5 < 3)) then
                bif (c3_4 != 0) then
                  some 19
                else
                  saturateref48_ins.p17 fu fu
              else
                saturateref48_ins.p17 fu fu
        else
          bif (decide (r5 < 2)) then
            bif (c3_3 != 0) then
              some 19
            else
              bif (decide (r5 < 3)) then
                bif (c3_4 != 0) then
                  some 19
                else
                  saturateref48_ins.p17 fu fu
              else
                saturateref48_ins.p17 fu fu
          else
            bif (decide (r5 < 3)) then
              bif (c3_4 != 0) then
                some 19
              else
                saturateref48_ins.p17 fu fu
            else
              saturateref48_ins.p17 fu fu
    else
      bif (decide (r5 < 1)) then
        bif (c3_2 != 0) then
          some 19
        else
          bif (decide (r5 < 2)) then
            bif (c3_3 != 0) then
              some 19
            else
              bif (decide (r5 < 3)) then
                bif (c3_4 != 0) then
                  some 19
                else
                  saturateref48_ins.p17 fu fu
              else
                saturateref48_ins.p17 fu fu
          else
            bif (decide (r5 < 3)) then
              bif (c3_4 != 0) then
                some 19
              else
                saturateref48_ins.p17 fu fu
            else
              saturateref48_ins.p17 fu fu
      else
        bif (decide (r5 < 2)) then
          bif (c3_3 != 0) then
            some 19
          else
            bif (decide (r5 < 3)) then
              bif (c3_4 != 0) then
                some 19
              else
                saturateref48_ins.p17 fu fu
            else
              saturateref48_ins.p17 fu fu
        else
          bif (decide (r5 < 3)) then
            bif (c3_4 != 0) then
              some 19
            else
              saturateref48_ins.p17 fu fu
          else
            saturateref48_ins.p17 fu fu := by kernel_rfl
theorem saturateref48_ins.j8_succ (fu : Nat) (n8 : Nat) (x5n : Nat) (x7 : Bool) (x8 : Int) (c2_0 : Int) (c2_1 : Int) (c2_2n : Nat) (c2_3n : Nat) (c3_0 : Int) (c3_1 : Int) (c3_2 : Int) (c3_3 : Int) (c3_4 : Int) (c3_5 : Int) (m5 : Nat) (g5_0 : Nat → Int) (m108 : Nat) (g108_0 : Nat → Int) (g108_1 : Nat → Int) (g108_2 : Nat → Int) (g108_3 : Nat → Int) (g108_4 : Nat → Int) (g108_5 : Nat → Int) (m109 : Nat) (g109_0 : Nat → Int) : saturateref48_ins.j8 fu (n8 + 1) x5n x7 x8 c2_0 c2_1 c2_2n c2_3n c3_0 c3_1 c3_2 c3_3 c3_4 c3_5 m5 g5_0 m108 g108_0 g108_1 g108_2 g108_3 g108_4 g108_5 m109 g109_0 =
  bif (decide (x8 < (x5n : Int))) then
    bif decide (0 ≤ x8) then
      bif decide (x8 < (x5n : Int)) then
        bif (decide ((g5_0 x8.toNat) < 0)) then
          some 18
        else
          bif decide (0 ≤ x8) then
            bif decide (x8 < (x5n : Int)) then
              bif (decide ((g5_0 x8.toNat) ≥ c2_1)) then
                some 18
              else
                saturateref48_ins.j8 fu n8 x5n x7 (IntKind.i64.wrap (x8 + 1)) c2_0 c2_1 c2_2n c2_3n c3_0 c3_1 c3_2 c3_3 c3_4 c3_5 m5 g5_0 m108 g108_0 g108_1 g108_2 g108_3 g108_4 g108_5 m109 g109_0
            else
              none
          else
            none
      else
        none
    else
      none
  else
    bif (c3_0 == 1) then
      (saturateref01_Cut.f c2_0 c3_5).bind fun r4 =>
      bif (r4 != c3_5) then
        some 2
      else
        saturateref48_ins.p14 fu fu x7 c3_0 c3_1 c3_2 c3_3 c3_4 c3_5
    else
      saturateref48_ins.p14 fu fu x7 c3_0 c3_1 c3_2 c3_3 c3_4 c3_5 := by kernel_rfl
theorem saturateref48_ins.p7_eq (m fu : Nat) (x5n : Nat) (x7 : Bool) (c2_0 : Int) (c2_1 : Int) (c2_2n : Nat) (c2_3n : Nat) (c3_0 : Int) (c3_1 : Int) (c3_2 : Int) (c3_3 : Int) (c3_4 : Int) (c3_5 : Int) (m5 : Nat) (g5_0 : Nat → Int) (m108 : Nat) (g108_0 : Nat → Int) (g108_1 : Nat → Int) (g108_2 : Nat → Int) (g108_3 : Nat → Int) (g108_4 : Nat → Int) (g108_5 : Nat → Int) (m109 : Nat) (g109_0 : Nat → Int) : saturateref48_ins.p7 (m + 1) fu x5n x7 c2_0 c2_1 c2_2n c2_3n c3_0 c3_1 c3_2 c3_3 c3_4 c3_5 m5 g5_0 m108 g108_0 g108_1 g108_2 g108_3 g108_4 g108_5 m109 g109_0 =
  saturateref48_ins.j8 fu fu x5n x7 0 c2_0 c2_1 c2_2n c2_3n c3_0 c3_1 c3_2 c3_3 c3_4 c3_5 m5 g5_0 m108 g108_0 g108_1 g108_2 g108_3 g108_4 g108_5 m109 g109_0 := by kernel_rfl
noncomputable def saturateref48_ins.g (fu : Nat) (a0 : Int × Int × (Nat × (Nat → Int) × (Nat → Int) × (Nat → Int) × (Nat → Int) × (Nat → Int) × (Nat → Int)) × (Nat × (Nat → Int))) (a1 : Int × Int × Int × Int × Int × Int) : Option (Int) :=
  (saturateref48_Known.f a1.1).bind fun r1 =>
  bif (!r1) then
    some 4
  else
    (saturateref48_Uses.f (a1.1, a1.2.1, a1.2.2.1, a1.2.2.2.1, a1.2.2.2.2.1, a1.2.2.2.2.2)).bind fun r2 =>
    (saturateref48_Def.f (a1.1, a1.2.1, a1.2.2.1, a1.2.2.2.1, a1.2.2.2.2.1, a1.2.2.2.2.2)).bind fun r3 =>
    bif r3.2 then
      bif Nat.ble ((1 + r2.1) * 8) 140737488355328 then
        saturateref48_ins.p7 fu fu (1 + r2.1) r3.2 a0.1 a0.2.1 a0.2.2.1.1 a0.2.2.2.1 a1.1 a1.2.1 a1.2.2.1 a1.2.2.2.1 a1.2.2.2.2.1 a1.2.2.2.2.2 (1 + r2.1) (cat 1 (fun i => [r3.1].getD i 0) r2.2) a0.2.2.1.1 a0.2.2.1.2.1 a0.2.2.1.2.2.1 a0.2.2.1.2.2.2.1 a0.2.2.1.2.2.2.2.1 a0.2.2.1.2.2.2.2.2.1 a0.2.2.1.2.2.2.2.2.2 a0.2.2.2.1 a0.2.2.2.2
      else
        none
    else
      saturateref48_ins.p7 fu fu r2.1 r3.2 a0.1 a0.2.1 a0.2.2.1.1 a0.2.2.2.1 a1.1 a1.2.1 a1.2.2.1 a1.2.2.2.1 a1.2.2.2.2.1 a1.2.2.2.2.2 r2.1 r2.2 a0.2.2.1.1 a0.2.2.1.2.1 a0.2.2.1.2.2.1 a0.2.2.1.2.2.2.1 a0.2.2.1.2.2.2.2.1 a0.2.2.1.2.2.2.2.2.1 a0.2.2.1.2.2.2.2.2.2 a0.2.2.2.1 a0.2.2.2.2
noncomputable def saturateref48_ins.f (a0 : Int × Int × (Nat × (Nat → Int) × (Nat → Int) × (Nat → Int) × (Nat → Int) × (Nat → Int) × (Nat → Int)) × (Nat × (Nat → Int))) (a1 : Int × Int × Int × Int × Int × Int) : Option (Int) := saturateref48_ins.g (fuel0 + 1) a0 a1
theorem saturateref48_ins.eq (fu : Nat) (a : (Int × Int × (Nat × (Nat → Int) × (Nat → Int) × (Nat → Int) × (Nat → Int) × (Nat → Int) × (Nat → Int)) × (Nat × (Nat → Int))) × (Int × Int × Int × Int × Int × Int) × Unit) : bodyK Tryd.prog saturateref48_ins.cs saturateref48_ins.live fu Tryd.f28 false (saturateref48_ins.a.enc a) saturateref48_ins.r.dec = saturateref48_ins.g fu a.1 a.2.1 := by kernel_rfl
theorem saturateref48_ins.con : ∀ (a : (Int × Int × (Nat × (Nat → Int) × (Nat → Int) × (Nat → Int) × (Nat → Int) × (Nat → Int) × (Nat → Int)) × (Nat × (Nat → Int))) × (Int × Int × Int × Int × Int × Int) × Unit) (r : Int), saturateref48_ins.f a.1 a.2.1 = some r → Contract Tryd.prog 28 (saturateref48_ins.a.enc a) (saturateref48_ins.r.enc r) := Contract.of_body (F := fun (a : (Int × Int × (Nat × (Nat → Int) × (Nat → Int) × (Nat → Int) × (Nat → Int) × (Nat → Int) × (Nat → Int)) × (Nat × (Nat → Int))) × (Int × Int × Int × Int × Int × Int) × Unit) => saturateref48_ins.f a.1 a.2.1) (fn := Tryd.f28) (cs := saturateref48_ins.cs) (live := saturateref48_ins.live) (fuel := fuel0 + 1) (by kernel_rfl) (by kernel_rfl) mixed (saturateref48_ins.eq (fuel0 + 1))
noncomputable def saturateref48_ins.c : Kn Tryd.prog := Kn.of 28 saturateref48_ins.a saturateref48_ins.r (fun a => saturateref48_ins.f a.1 a.2.1) saturateref48_ins.con

/-! ### saturateref48_Check: function 10 -/
def saturateref48_Check.a : ACods ((Int × Int × (Nat × (Nat → Int) × (Nat → Int) × (Nat → Int) × (Nat → Int) × (Nat → Int) × (Nat → Int)) × (Nat × (Nat → Int))) × Unit) := (.cons (.pk (.cons (.val (.int .i64)) (.cons (.val (.int .i64)) (.cons (.rows (.int .i64 (.int .i64 (.int .i64 (.int .i64 (.int .i64 (.int1 .u64))))))) (.one (.rows (.int1 .i64))))))) .nil)
def saturateref48_Check.r : RCod (Int × Int) := .val (.tup (.cons (.int .i64) (.one (.int .i64))))
noncomputable def saturateref48_Check.cs : List (Kn Tryd.prog) := [saturateref48_ins.c]
def saturateref48_Check.live : Nat → Option Keep := liveOf [(17, ⟨[1, 4], [1, 98, 99], [], [], []⟩), (29, ⟨[1, 6], [1, 98, 99], [], [], []⟩), (39, ⟨[1, 7], [1, 98, 99], [], [], []⟩), (45, ⟨[1, 7, 8], [1, 98, 99], [], [], []⟩)]
noncomputable def saturateref48_Check.body : Code := bodyOf Tryd.f10
noncomputable def saturateref48_Check.K (fu : Nat) : Code → St → (Ex → St → Option (Int × Int)) → Option (Int × Int) := codeK Tryd.prog (saturateref48_Check.cs) saturateref48_Check.live fu
noncomputable def saturateref48_Check.j8 (fu : Nat) (n8 : Nat) (x4 : Int) (c1_0 : Int) (c1_1 : Int) (c1_2n : Nat) (c1_3n : Nat) (m98 : Nat) (g98_0 : Nat → Int) (g98_1 : Nat → Int) (g98_2 : Nat → Int) (g98_3 : Nat → Int) (g98_4 : Nat → Int) (g98_5 : Nat → Int) (m99 : Nat) (g99_0 : Nat → Int) : Option (Int × Int) :=
  loopK (saturateref48_Check.K fu (sub saturateref48_Check.body [true, true, false, true, false, false])) (saturateref48_Check.live 17) n8 (stOfX 96 100 [(1, .ptr 1 0 0 0), (4, .val (.int .i64 x4))] [(1, .own [.val (.int .i64 c1_0), .val (.int .i64 c1_1), .sl 98 6 c1_2n, .sl 99 1 c1_3n]), (98, .ext m98 [.int .i64 g98_0, .int .i64 g98_1, .int .i64 g98_2, .int .i64 g98_3, .int .i64 g98_4, .int .u64 g98_5]), (99, .ext m99 [.int .i64 g99_0])]) (blockC 1 (seqC fu (saturateref48_Check.live 26) (saturateref48_Check.K fu (sub saturateref48_Check.body [true, true, true])) (retC Tryd.prog false (Tryd.f10.results) saturateref48_Check.r.dec)))
noncomputable def saturateref48_Check.j14 (fu : Nat) (n14 : Nat) (x6 : Int) (c1_0 : Int) (c1_1 : Int) (c1_2n : Nat) (c1_3n : Nat) (m98 : Nat) (g98_0 : Nat → Int) (g98_1 : Nat → Int) (g98_2 : Nat → Int) (g98_3 : Nat → Int) (g98_4 : Nat → Int) (g98_5 : Nat → Int) (m99 : Nat) (g99_0 : Nat → Int) : Option (Int × Int) :=
  loopK (saturateref48_Check.K fu (sub saturateref48_Check.body [true, true, true, false, true, false, false])) (saturateref48_Check.live 29) n14 (stOfX 96 100 [(1, .ptr 1 0 0 0), (6, .val (.int .i64 x6))] [(1, .own [.val (.int .i64 c1_0), .val (.int .i64 c1_1), .sl 98 6 c1_2n, .sl 99 1 c1_3n]), (98, .ext m98 [.int .i64 g98_0, .int .i64 g98_1, .int .i64 g98_2, .int .i64 g98_3, .int .i64 g98_4, .int .u64 g98_5]), (99, .ext m99 [.int .i64 g99_0])]) (blockC 3 (seqC fu (saturateref48_Check.live 36) (saturateref48_Check.K fu (sub saturateref48_Check.body [true, true, true, true])) (retC Tryd.prog false (Tryd.f10.results) saturateref48_Check.r.dec)))
noncomputable def saturateref48_Check.j19 (fu : Nat) (n19 : Nat) (x7 : Int) (c1_0 : Int) (c1_1 : Int) (c1_2n : Nat) (c1_3n : Nat) (m98 : Nat) (g98_0 : Nat → Int) (g98_1 : Nat → Int) (g98_2 : Nat → Int) (g98_3 : Nat → Int) (g98_4 : Nat → Int) (g98_5 : Nat → Int) (m99 : Nat) (g99_0 : Nat → Int) : Option (Int × Int) :=
  loopK (saturateref48_Check.K fu (sub saturateref48_Check.body [true, true, true, true, false, true, false, false])) (saturateref48_Check.live 39) n19 (stOfX 96 100 [(1, .ptr 1 0 0 0), (7, .val (.int .i64 x7))] [(1, .own [.val (.int .i64 c1_0), .val (.int .i64 c1_1), .sl 98 6 c1_2n, .sl 99 1 c1_3n]), (98, .ext m98 [.int .i64 g98_0, .int .i64 g98_1, .int .i64 g98_2, .int .i64 g98_3, .int .i64 g98_4, .int .u64 g98_5]), (99, .ext m99 [.int .i64 g99_0])]) (blockC 5 (seqC fu (saturateref48_Check.live 52) (saturateref48_Check.K fu (sub saturateref48_Check.body [true, true, true, true, true])) (retC Tryd.prog false (Tryd.f10.results) saturateref48_Check.r.dec)))
noncomputable def saturateref48_Check.j22 (fu : Nat) (n19 : Nat) (n22 : Nat) (x7 : Int) (x8 : Int) (c1_0 : Int) (c1_1 : Int) (c1_2n : Nat) (c1_3n : Nat) (m98 : Nat) (g98_0 : Nat → Int) (g98_1 : Nat → Int) (g98_2 : Nat → Int) (g98_3 : Nat → Int) (g98_4 : Nat → Int) (g98_5 : Nat → Int) (m99 : Nat) (g99_0 : Nat → Int) : Option (Int × Int) :=
  loopK (saturateref48_Check.K fu (sub saturateref48_Check.body [true, true, true, true, false, true, false, false, true, false, false, true, false, false])) (saturateref48_Check.live 45) n22 (stOfX 96 100 [(1, .ptr 1 0 0 0), (7, .val (.int .i64 x7)), (8, .val (.int .i64 x8))] [(1, .own [.val (.int .i64 c1_0), .val (.int .i64 c1_1), .sl 98 6 c1_2n, .sl 99 1 c1_3n]), (98, .ext m98 [.int .i64 g98_0, .int .i64 g98_1, .int .i64 g98_2, .int .i64 g98_3, .int .i64 g98_4, .int .u64 g98_5]), (99, .ext m99 [.int .i64 g99_0])]) (blockC 7 (blockC 6 (seqC fu (saturateref48_Check.live 40) (saturateref48_Check.K fu (sub saturateref48_Check.body [true, true, true, true, false, true, false, false, true, true])) (roundC (saturateref48_Check.live 39) (loopK (saturateref48_Check.K fu (sub saturateref48_Check.body [true, true, true, true, false, true, false, false])) (saturateref48_Check.live 39) n19) (blockC 5 (seqC fu (saturateref48_Check.live 52) (saturateref48_Check.K fu (sub saturateref48_Check.body [true, true, true, true, true])) (retC Tryd.prog false (Tryd.f10.results) saturateref48_Check.r.dec)))))))
theorem saturateref48_Check.j22_succ (fu : Nat) (n19 : Nat) (n22 : Nat) (x7 : Int) (x8 : Int) (c1_0 : Int) (c1_1 : Int) (c1_2n : Nat) (c1_3n : Nat) (m98 : Nat) (g98_0 : Nat → Int) (g98_1 : Nat → Int) (g98_2 : Nat → Int) (g98_3 : Nat → Int) (g98_4 : Nat → Int) (g98_5 : Nat → Int) (m99 : Nat) (g99_0 : Nat → Int) : saturateref48_Check.j22 fu n19 (n22 + 1) x7 x8 c1_0 c1_1 c1_2n c1_3n m98 g98_0 g98_1 g98_2 g98_3 g98_4 g98_5 m99 g99_0 =
  bif (decide (x8 < x7)) then
    bif decide (0 ≤ x7) then
      bif decide (x7 < (c1_3n : Int)) then
        bif decide (0 ≤ x8) then
          bif decide (x8 < (c1_3n : Int)) then
            bif ((g99_0 x7.toNat) == (g99_0 x8.toNat)) then
              some ((-1), 9)
            else
              saturateref48_Check.j22 fu n19 n22 x7 (IntKind.i64.wrap (x8 + 1)) c1_0 c1_1 c1_2n c1_3n m98 g98_0 g98_1 g98_2 g98_3 g98_4 g98_5 m99 g99_0
          else
            none
        else
          none
      else
        none
    else
      none
  else
    saturateref48_Check.j19 fu n19 (IntKind.i64.wrap (x7 + 1)) c1_0 c1_1 c1_2n c1_3n m98 g98_0 g98_1 g98_2 g98_3 g98_4 g98_5 m99 g99_0 := by kernel_rfl
theorem saturateref48_Check.j19_succ (fu : Nat) (n19 : Nat) (x7 : Int) (c1_0 : Int) (c1_1 : Int) (c1_2n : Nat) (c1_3n : Nat) (m98 : Nat) (g98_0 : Nat → Int) (g98_1 : Nat → Int) (g98_2 : Nat → Int) (g98_3 : Nat → Int) (g98_4 : Nat → Int) (g98_5 : Nat → Int) (m99 : Nat) (g99_0 : Nat → Int) : saturateref48_Check.j19 fu (n19 + 1) x7 c1_0 c1_1 c1_2n c1_3n m98 g98_0 g98_1 g98_2 g98_3 g98_4 g98_5 m99 g99_0 =
  bif (decide (x7 < (c1_3n : Int))) then
    saturateref48_Check.j22 fu n19 fu x7 0 c1_0 c1_1 c1_2n c1_3n m98 g98_0 g98_1 g98_2 g98_3 g98_4 g98_5 m99 g99_0
  else
    some (0, 0) := by kernel_rfl
theorem saturateref48_Check.j14_succ (fu : Nat) (n14 : Nat) (x6 : Int) (c1_0 : Int) (c1_1 : Int) (c1_2n : Nat) (c1_3n : Nat) (m98 : Nat) (g98_0 : Nat → Int) (g98_1 : Nat → Int) (g98_2 : Nat → Int) (g98_3 : Nat → Int) (g98_4 : Nat → Int) (g98_5 : Nat → Int) (m99 : Nat) (g99_0 : Nat → Int) : saturateref48_Check.j14 fu (n14 + 1) x6 c1_0 c1_1 c1_2n c1_3n m98 g98_0 g98_1 g98_2 g98_3 g98_4 g98_5 m99 g99_0 =
  bif (decide (x6 < (c1_3n : Int))) then
    bif decide (0 ≤ x6) then
      bif decide (x6 < (c1_3n : Int)) then
        bif (decide ((g99_0 x6.toNat) < 0)) then
          some ((-1), 18)
        else
          bif decide (0 ≤ x6) then
            bif decide (x6 < (c1_3n : Int)) then
              bif (decide ((g99_0 x6.toNat) ≥ c1_1)) then
                some ((-1), 18)
              else
                saturateref48_Check.j14 fu n14 (IntKind.i64.wrap (x6 + 1)) c1_0 c1_1 c1_2n c1_3n m98 g98_0 g98_1 g98_2 g98_3 g98_4 g98_5 m99 g99_0
            else
              none
          else
            none
      else
        none
    else
      none
  else
    saturateref48_Check.j19 fu fu 0 c1_0 c1_1 c1_2n c1_3n m98 g98_0 g98_1 g98_2 g98_3 g98_4 g98_5 m99 g99_0 := by kernel_rfl
theorem saturateref48_Check.j8_succ (fu : Nat) (n8 : Nat) (x4 : Int) (c1_0 : Int) (c1_1 : Int) (c1_2n : Nat) (c1_3n : Nat) (m98 : Nat) (g98_0 : Nat → Int) (g98_1 : Nat → Int) (g98_2 : Nat → Int) (g98_3 : Nat → Int) (g98_4 : Nat → Int) (g98_5 : Nat → Int) (m99 : Nat) (g99_0 : Nat → Int) : saturateref48_Check.j8 fu (n8 + 1) x4 c1_0 c1_1 c1_2n c1_3n m98 g98_0 g98_1 g98_2 g98_3 g98_4 g98_5 m99 g99_0 =
  bif (decide (x4 < (c1_2n : Int))) then
    bif decide (0 ≤ x4) then
      bif decide (x4 < (c1_2n : Int)) then
        (saturateref48_ins.f (c1_0, c1_1, (c1_2n, g98_0, g98_1, g98_2, g98_3, g98_4, g98_5), (c1_3n, g99_0)) ((g98_0 x4.toNat), (g98_1 x4.toNat), (g98_2 x4.toNat), (g98_3 x4.toNat), (g98_4 x4.toNat), (g98_5 x4.toNat))).bind fun r1 =>
        bif (r1 != 0) then
          some (x4, r1)
        else
          saturateref48_Check.j8 fu n8 (IntKind.i64.wrap (x4 + 1)) c1_0 c1_1 c1_2n c1_3n m98 g98_0 g98_1 g98_2 g98_3 g98_4 g98_5 m99 g99_0
      else
        none
    else
      none
  else
    saturateref48_Check.j14 fu fu 0 c1_0 c1_1 c1_2n c1_3n m98 g98_0 g98_1 g98_2 g98_3 g98_4 g98_5 m99 g99_0 := by kernel_rfl
noncomputable def saturateref48_Check.g (fu : Nat) (a0 : Int × Int × (Nat × (Nat → Int) × (Nat → Int) × (Nat → Int) × (Nat → Int) × (Nat → Int) × (Nat → Int)) × (Nat × (Nat → Int))) : Option (Int × Int) :=
  bif (decide (a0.1 < 1)) then
    some ((-1), 3)
  else
    bif (decide (a0.1 > 64)) then
      some ((-1), 3)
    else
      bif (decide (a0.2.1 < 1)) then
        some ((-1), 18)
      else
        bif (decide (a0.2.1 > 8)) then
          some ((-1), 18)
        else
          bif (decide ((a0.2.2.1.1 : Int) > 256)) then
            some ((-1), 7)
          else
            saturateref48_Check.j8 fu fu 0 a0.1 a0.2.1 a0.2.2.1.1 a0.2.2.2.1 a0.2.2.1.1 a0.2.2.1.2.1 a0.2.2.1.2.2.1 a0.2.2.1.2.2.2.1 a0.2.2.1.2.2.2.2.1 a0.2.2.1.2.2.2.2.2.1 a0.2.2.1.2.2.2.2.2.2 a0.2.2.2.1 a0.2.2.2.2
noncomputable def saturateref48_Check.f (a0 : Int × Int × (Nat × (Nat → Int) × (Nat → Int) × (Nat → Int) × (Nat → Int) × (Nat → Int) × (Nat → Int)) × (Nat × (Nat → Int))) : Option (Int × Int) := saturateref48_Check.g (fuel0 + 1) a0
theorem saturateref48_Check.eq (fu : Nat) (a : (Int × Int × (Nat × (Nat → Int) × (Nat → Int) × (Nat → Int) × (Nat → Int) × (Nat → Int) × (Nat → Int)) × (Nat × (Nat → Int))) × Unit) : bodyK Tryd.prog saturateref48_Check.cs saturateref48_Check.live fu Tryd.f10 false (saturateref48_Check.a.enc a) saturateref48_Check.r.dec = saturateref48_Check.g fu a.1 := by kernel_rfl
theorem saturateref48_Check.con : ∀ (a : (Int × Int × (Nat × (Nat → Int) × (Nat → Int) × (Nat → Int) × (Nat → Int) × (Nat → Int) × (Nat → Int)) × (Nat × (Nat → Int))) × Unit) (r : Int × Int), saturateref48_Check.f a.1 = some r → Contract Tryd.prog 10 (saturateref48_Check.a.enc a) (saturateref48_Check.r.enc r) := Contract.of_body (F := fun (a : (Int × Int × (Nat × (Nat → Int) × (Nat → Int) × (Nat → Int) × (Nat → Int) × (Nat → Int) × (Nat → Int)) × (Nat × (Nat → Int))) × Unit) => saturateref48_Check.f a.1) (fn := Tryd.f10) (cs := saturateref48_Check.cs) (live := saturateref48_Check.live) (fuel := fuel0 + 1) (by kernel_rfl) (by kernel_rfl) mixed (saturateref48_Check.eq (fuel0 + 1))
noncomputable def saturateref48_Check.c : Kn Tryd.prog := Kn.of 10 saturateref48_Check.a saturateref48_Check.r (fun a => saturateref48_Check.f a.1) saturateref48_Check.con

/-! ### saturateref49_Trace: function 20 -/
def saturateref49_Trace.a : ACods ((Int × Int × (Nat × (Nat → Int) × (Nat → Int) × (Nat → Int) × (Nat → Int) × (Nat → Int) × (Nat → Int)) × (Nat × (Nat → Int))) × List Tm × Unit) := (.cons (.pk (.cons (.val (.int .i64)) (.cons (.val (.int .i64)) (.cons (.rows (.int .i64 (.int .i64 (.int .i64 (.int .i64 (.int .i64 (.int1 .u64))))))) (.one (.rows (.int1 .i64))))))) (.cons (.tms 0) .nil))
def saturateref49_Trace.r : RCod (List Tm × Int) := .tup (.cons (.tms 1) (.one (.val (.int .i64))))
noncomputable def saturateref49_Trace.cs : List (Kn Tryd.prog) := [saturateref48_Check.c, saturateref49_State.c, saturateref49_Step.c]
def saturateref49_Trace.live : Nat → Option Keep := liveOf [(15, ⟨[2, 8, 9, 10], [2, 9, 60, 61], [], [(8, 45, 0), (9, 26, 1)], []⟩)]
noncomputable def saturateref49_Trace.body : Code := bodyOf Tryd.f20
noncomputable def saturateref49_Trace.K (fu : Nat) : Code → St → (Ex → St → Option (List Tm × Int)) → Option (List Tm × Int) := codeK Tryd.prog (saturateref49_Trace.cs) saturateref49_Trace.live fu
noncomputable def saturateref49_Trace.j7 (fu : Nat) (n7 : Nat) (x8l : List Tm) (x9n : Nat) (x10 : Int) (c2_0 : Int) (c2_1 : Int) (c2_2n : Nat) (c2_3n : Nat) (l9 : List Tm) (m60 : Nat) (g60_0 : Nat → Int) (g60_1 : Nat → Int) (g60_2 : Nat → Int) (g60_3 : Nat → Int) (g60_4 : Nat → Int) (g60_5 : Nat → Int) (m61 : Nat) (g61_0 : Nat → Int) : Option (List Tm × Int) :=
  loopK (saturateref49_Trace.K fu (sub saturateref49_Trace.body [true, true, true, true, true, false, true, false, false])) (saturateref49_Trace.live 15) n7 (stOfX 58 62 [(2, .ptr 2 0 0 0), (8, .tsl 0 x8l), (9, .sl 9 1 x9n), (10, .val (.int .i64 x10))] [(2, .own [.val (.int .i64 c2_0), .val (.int .i64 c2_1), .sl 60 6 c2_2n, .sl 61 1 c2_3n]), (9, .growK 26 1 l9), (60, .ext m60 [.int .i64 g60_0, .int .i64 g60_1, .int .i64 g60_2, .int .i64 g60_3, .int .i64 g60_4, .int .u64 g60_5]), (61, .ext m61 [.int .i64 g61_0])]) (blockC 0 (seqC fu (saturateref49_Trace.live 28) (saturateref49_Trace.K fu (sub saturateref49_Trace.body [true, true, true, true, true, true])) (retC Tryd.prog false (Tryd.f20.results) saturateref49_Trace.r.dec)))
theorem saturateref49_Trace.j7_succ (fu : Nat) (n7 : Nat) (x8l : List Tm) (x9n : Nat) (x10 : Int) (c2_0 : Int) (c2_1 : Int) (c2_2n : Nat) (c2_3n : Nat) (l9 : List Tm) (m60 : Nat) (g60_0 : Nat → Int) (g60_1 : Nat → Int) (g60_2 : Nat → Int) (g60_3 : Nat → Int) (g60_4 : Nat → Int) (g60_5 : Nat → Int) (m61 : Nat) (g61_0 : Nat → Int) : saturateref49_Trace.j7 fu (n7 + 1) x8l x9n x10 c2_0 c2_1 c2_2n c2_3n l9 m60 g60_0 g60_1 g60_2 g60_3 g60_4 g60_5 m61 g61_0 =
  bif (decide (x10 < (c2_2n : Int))) then
    bif decide (0 ≤ x10) then
      bif decide (x10 < (c2_2n : Int)) then
        (saturateref49_Step.f c2_0 ((g60_0 x10.toNat), (g60_1 x10.toNat), (g60_2 x10.toNat), (g60_3 x10.toNat), (g60_4 x10.toNat), (g60_5 x10.toNat)) x8l).bind fun r3 =>
        bif (r3.2 != 0) then
          some (l9, r3.2)
        else
          bif Nat.ble ((x9n + 1) * 24) 140737488355328 then
            saturateref49_Trace.j7 fu n7 r3.1 (x9n + 1) (IntKind.i64.wrap (x10 + 1)) c2_0 c2_1 c2_2n c2_3n (l9 ++ ([(Tm.mk 0 r3.1)])) m60 g60_0 g60_1 g60_2 g60_3 g60_4 g60_5 m61 g61_0
          else
            none
      else
        none
    else
      none
  else
    some (l9, 0) := by kernel_rfl
noncomputable def saturateref49_Trace.g (fu : Nat) (a0 : Int × Int × (Nat × (Nat → Int) × (Nat → Int) × (Nat → Int) × (Nat → Int) × (Nat → Int) × (Nat → Int)) × (Nat × (Nat → Int))) (a1 : List Tm) : Option (List Tm × Int) :=
  (saturateref48_Check.f (a0.1, a0.2.1, (a0.2.2.1.1, a0.2.2.1.2.1, a0.2.2.1.2.2.1, a0.2.2.1.2.2.2.1, a0.2.2.1.2.2.2.2.1, a0.2.2.1.2.2.2.2.2.1, a0.2.2.1.2.2.2.2.2.2), (a0.2.2.2.1, a0.2.2.2.2))).bind fun r1 =>
  bif (r1.2 != 0) then
    some ([], r1.2)
  else
    (saturateref49_State.f a0.1 a0.2.1 a1).bind fun r2 =>
    saturateref49_Trace.j7 fu fu r2 1 0 a0.1 a0.2.1 a0.2.2.1.1 a0.2.2.2.1 ([(Tm.mk 0 r2)]) a0.2.2.1.1 a0.2.2.1.2.1 a0.2.2.1.2.2.1 a0.2.2.1.2.2.2.1 a0.2.2.1.2.2.2.2.1 a0.2.2.1.2.2.2.2.2.1 a0.2.2.1.2.2.2.2.2.2 a0.2.2.2.1 a0.2.2.2.2
noncomputable def saturateref49_Trace.f (a0 : Int × Int × (Nat × (Nat → Int) × (Nat → Int) × (Nat → Int) × (Nat → Int) × (Nat → Int) × (Nat → Int)) × (Nat × (Nat → Int))) (a1 : List Tm) : Option (List Tm × Int) := saturateref49_Trace.g (fuel0 + 1) a0 a1
theorem saturateref49_Trace.eq (fu : Nat) (a : (Int × Int × (Nat × (Nat → Int) × (Nat → Int) × (Nat → Int) × (Nat → Int) × (Nat → Int) × (Nat → Int)) × (Nat × (Nat → Int))) × List Tm × Unit) : bodyK Tryd.prog saturateref49_Trace.cs saturateref49_Trace.live fu Tryd.f20 false (saturateref49_Trace.a.enc a) saturateref49_Trace.r.dec = saturateref49_Trace.g fu a.1 a.2.1 := by kernel_rfl
theorem saturateref49_Trace.con : ∀ (a : (Int × Int × (Nat × (Nat → Int) × (Nat → Int) × (Nat → Int) × (Nat → Int) × (Nat → Int) × (Nat → Int)) × (Nat × (Nat → Int))) × List Tm × Unit) (r : List Tm × Int), saturateref49_Trace.f a.1 a.2.1 = some r → Contract Tryd.prog 20 (saturateref49_Trace.a.enc a) (saturateref49_Trace.r.enc r) := Contract.of_body (F := fun (a : (Int × Int × (Nat × (Nat → Int) × (Nat → Int) × (Nat → Int) × (Nat → Int) × (Nat → Int) × (Nat → Int)) × (Nat × (Nat → Int))) × List Tm × Unit) => saturateref49_Trace.f a.1 a.2.1) (fn := Tryd.f20) (cs := saturateref49_Trace.cs) (live := saturateref49_Trace.live) (fuel := fuel0 + 1) (by kernel_rfl) (by kernel_rfl) mixed (saturateref49_Trace.eq (fuel0 + 1))
noncomputable def saturateref49_Trace.c : Kn Tryd.prog := Kn.of 20 saturateref49_Trace.a saturateref49_Trace.r (fun a => saturateref49_Trace.f a.1 a.2.1) saturateref49_Trace.con

/-! ### saturateref49_Run: function 16 -/
def saturateref49_Run.a : ACods ((Int × Int × (Nat × (Nat → Int) × (Nat → Int) × (Nat → Int) × (Nat → Int) × (Nat → Int) × (Nat → Int)) × (Nat × (Nat → Int))) × List Tm × Unit) := (.cons (.pk (.cons (.val (.int .i64)) (.cons (.val (.int .i64)) (.cons (.rows (.int .i64 (.int .i64 (.int .i64 (.int .i64 (.int .i64 (.int1 .u64))))))) (.one (.rows (.int1 .i64))))))) (.cons (.tms 0) .nil))
def saturateref49_Run.r : RCod (List Tm × Int × Int) := .tup (.cons (.tms 0) (.cons (.val (.int .i64)) (.one (.val (.int .i64)))))
noncomputable def saturateref49_Run.cs : List (Kn Tryd.prog) := [saturateref48_Check.c, saturateref49_Trace.c]
def saturateref49_Run.live : Nat → Option Keep := liveOf []
noncomputable def saturateref49_Run.body : Code := bodyOf Tryd.f16
noncomputable def saturateref49_Run.K (fu : Nat) : Code → St → (Ex → St → Option (List Tm × Int × Int)) → Option (List Tm × Int × Int) := codeK Tryd.prog (saturateref49_Run.cs) saturateref49_Run.live fu
noncomputable def saturateref49_Run.f (a0 : Int × Int × (Nat × (Nat → Int) × (Nat → Int) × (Nat → Int) × (Nat → Int) × (Nat → Int) × (Nat → Int)) × (Nat × (Nat → Int))) (a1 : List Tm) : Option (List Tm × Int × Int) :=
  (saturateref48_Check.f (a0.1, a0.2.1, (a0.2.2.1.1, a0.2.2.1.2.1, a0.2.2.1.2.2.1, a0.2.2.1.2.2.2.1, a0.2.2.1.2.2.2.2.1, a0.2.2.1.2.2.2.2.2.1, a0.2.2.1.2.2.2.2.2.2), (a0.2.2.2.1, a0.2.2.2.2))).bind fun r1 =>
  bif (r1.2 != 0) then
    some ([], r1.1, r1.2)
  else
    (saturateref49_Trace.f (a0.1, a0.2.1, (a0.2.2.1.1, a0.2.2.1.2.1, a0.2.2.1.2.2.1, a0.2.2.1.2.2.2.1, a0.2.2.1.2.2.2.2.1, a0.2.2.1.2.2.2.2.2.1, a0.2.2.1.2.2.2.2.2.2), (a0.2.2.2.1, a0.2.2.2.2)) a1).bind fun r2 =>
    bif (r2.2 != 0) then
      some ([], (IntKind.i64.wrap ((r2.1.length : Int) - 1)), r2.2)
    else
      bif decide (0 ≤ (IntKind.i64.wrap ((r2.1.length : Int) - 1))) then
        bif decide ((IntKind.i64.wrap ((r2.1.length : Int) - 1)) < (r2.1.length : Int)) then
          ((r2.1[(IntKind.i64.wrap ((r2.1.length : Int) - 1)).toNat]? : Option Tm)).bind fun u3 =>
          some (u3.kids, 0, 0)
        else
          none
      else
        none
theorem saturateref49_Run.eq (fu : Nat) (a : (Int × Int × (Nat × (Nat → Int) × (Nat → Int) × (Nat → Int) × (Nat → Int) × (Nat → Int) × (Nat → Int)) × (Nat × (Nat → Int))) × List Tm × Unit) : bodyK Tryd.prog saturateref49_Run.cs saturateref49_Run.live fu Tryd.f16 false (saturateref49_Run.a.enc a) saturateref49_Run.r.dec = saturateref49_Run.f a.1 a.2.1 := by kernel_rfl
theorem saturateref49_Run.con : ∀ (a : (Int × Int × (Nat × (Nat → Int) × (Nat → Int) × (Nat → Int) × (Nat → Int) × (Nat → Int) × (Nat → Int)) × (Nat × (Nat → Int))) × List Tm × Unit) (r : List Tm × Int × Int), saturateref49_Run.f a.1 a.2.1 = some r → Contract Tryd.prog 16 (saturateref49_Run.a.enc a) (saturateref49_Run.r.enc r) := Contract.of_body (F := fun (a : (Int × Int × (Nat × (Nat → Int) × (Nat → Int) × (Nat → Int) × (Nat → Int) × (Nat → Int) × (Nat → Int)) × (Nat × (Nat → Int))) × List Tm × Unit) => saturateref49_Run.f a.1 a.2.1) (fn := Tryd.f16) (cs := saturateref49_Run.cs) (live := saturateref49_Run.live) (fuel := fuel0 + 1) (by kernel_rfl) (by kernel_rfl) mixed (saturateref49_Run.eq (fuel0 + 1))
noncomputable def saturateref49_Run.c : Kn Tryd.prog := Kn.of 16 saturateref49_Run.a saturateref49_Run.r (fun a => saturateref49_Run.f a.1 a.2.1) saturateref49_Run.con

/-! ### exec_Outs: function 17 -/
def exec_Outs.a : ACods ((Int × Int × (Nat × (Nat → Int) × (Nat → Int) × (Nat → Int) × (Nat → Int) × (Nat → Int) × (Nat → Int)) × (Nat × (Nat → Int))) × List Tm × Unit) := (.cons (.pk (.cons (.val (.int .i64)) (.cons (.val (.int .i64)) (.cons (.rows (.int .i64 (.int .i64 (.int .i64 (.int .i64 (.int .i64 (.int1 .u64))))))) (.one (.rows (.int1 .i64))))))) (.cons (.tms 0) .nil))
def exec_Outs.r : RCod (List Tm × Int) := .tup (.cons (.tms 0) (.one (.val (.int .i64))))
noncomputable def exec_Outs.cs : List (Kn Tryd.prog) := [exec_Run.c]
def exec_Outs.live : Nat → Option Keep := liveOf [(13, ⟨[6, 9, 23, 24, 25], [9, 41], [], [(9, 45, 0)], []⟩)]
noncomputable def exec_Outs.body : Code := bodyOf Tryd.f17
noncomputable def exec_Outs.K (fu : Nat) : Code → St → (Ex → St → Option (List Tm × Int)) → Option (List Tm × Int) := codeK Tryd.prog (exec_Outs.cs) exec_Outs.live fu
noncomputable def exec_Outs.j6 (fu : Nat) (n6 : Nat) (x6l : List Tm) (x9n : Nat) (x23n : Nat) (x24 : Int) (x25 : Int) (l9 : List Tm) (m41 : Nat) (g41_0 : Nat → Int) : Option (List Tm × Int) :=
  loopK (exec_Outs.K fu (sub exec_Outs.body [true, true, true, true, false, true, false, false])) (exec_Outs.live 13) n6 (stOfX 38 42 [(6, .tsl 0 x6l), (9, .sl 9 1 x9n), (23, .sl 41 1 x23n), (24, .val (.int .i64 x24)), (25, .val (.int .i64 x25))] [(9, .growK 45 0 l9), (41, .ext m41 [.int .i64 g41_0])]) (blockC 0 (seqC fu (exec_Outs.live 20) (exec_Outs.K fu (sub exec_Outs.body [true, true, true, true, true])) (retC Tryd.prog false (Tryd.f17.results) exec_Outs.r.dec)))
theorem exec_Outs.j6_succ (fu : Nat) (n6 : Nat) (x6l : List Tm) (x9n : Nat) (x23n : Nat) (x24 : Int) (x25 : Int) (l9 : List Tm) (m41 : Nat) (g41_0 : Nat → Int) : exec_Outs.j6 fu (n6 + 1) x6l x9n x23n x24 x25 l9 m41 g41_0 =
  bif (decide (x25 < x24)) then
    bif decide (0 ≤ x25) then
      bif decide (x25 < (x23n : Int)) then
        bif decide (0 ≤ (g41_0 x25.toNat)) then
          bif decide ((g41_0 x25.toNat) < (x6l.length : Int)) then
            ((x6l[(g41_0 x25.toNat).toNat]? : Option Tm)).bind fun u2 =>
            bif Nat.ble ((x9n + 1) * 8) 140737488355328 then
              exec_Outs.j6 fu n6 x6l (x9n + 1) x23n x24 (IntKind.i64.wrap (x25 + 1)) (l9 ++ ([(Tm.mk u2.x [])])) m41 g41_0
            else
              none
          else
            none
        else
          none
      else
        none
    else
      none
  else
    some (l9, 0) := by kernel_rfl
noncomputable def exec_Outs.g (fu : Nat) (a0 : Int × Int × (Nat × (Nat → Int) × (Nat → Int) × (Nat → Int) × (Nat → Int) × (Nat → Int) × (Nat → Int)) × (Nat × (Nat → Int))) (a1 : List Tm) : Option (List Tm × Int) :=
  (exec_Run.f (a0.1, a0.2.1, (a0.2.2.1.1, a0.2.2.1.2.1, a0.2.2.1.2.2.1, a0.2.2.1.2.2.2.1, a0.2.2.1.2.2.2.2.1, a0.2.2.1.2.2.2.2.2.1, a0.2.2.1.2.2.2.2.2.2), (a0.2.2.2.1, a0.2.2.2.2)) a1).bind fun r1 =>
  bif (r1.2.2 != 0) then
    some ([], r1.2.2)
  else
    exec_Outs.j6 fu fu r1.1 0 a0.2.2.2.1 (a0.2.2.2.1 : Int) 0 ([]) a0.2.2.2.1 a0.2.2.2.2
noncomputable def exec_Outs.f (a0 : Int × Int × (Nat × (Nat → Int) × (Nat → Int) × (Nat → Int) × (Nat → Int) × (Nat → Int) × (Nat → Int)) × (Nat × (Nat → Int))) (a1 : List Tm) : Option (List Tm × Int) := exec_Outs.g (fuel0 + 1) a0 a1
theorem exec_Outs.eq (fu : Nat) (a : (Int × Int × (Nat × (Nat → Int) × (Nat → Int) × (Nat → Int) × (Nat → Int) × (Nat → Int) × (Nat → Int)) × (Nat × (Nat → Int))) × List Tm × Unit) : bodyK Tryd.prog exec_Outs.cs exec_Outs.live fu Tryd.f17 false (exec_Outs.a.enc a) exec_Outs.r.dec = exec_Outs.g fu a.1 a.2.1 := by kernel_rfl
theorem exec_Outs.con : ∀ (a : (Int × Int × (Nat × (Nat → Int) × (Nat → Int) × (Nat → Int) × (Nat → Int) × (Nat → Int) × (Nat → Int)) × (Nat × (Nat → Int))) × List Tm × Unit) (r : List Tm × Int), exec_Outs.f a.1 a.2.1 = some r → Contract Tryd.prog 17 (exec_Outs.a.enc a) (exec_Outs.r.enc r) := Contract.of_body (F := fun (a : (Int × Int × (Nat × (Nat → Int) × (Nat → Int) × (Nat → Int) × (Nat → Int) × (Nat → Int) × (Nat → Int)) × (Nat × (Nat → Int))) × List Tm × Unit) => exec_Outs.f a.1 a.2.1) (fn := Tryd.f17) (cs := exec_Outs.cs) (live := exec_Outs.live) (fuel := fuel0 + 1) (by kernel_rfl) (by kernel_rfl) mixed (exec_Outs.eq (fuel0 + 1))
noncomputable def exec_Outs.c : Kn Tryd.prog := Kn.of 17 exec_Outs.a exec_Outs.r (fun a => exec_Outs.f a.1 a.2.1) exec_Outs.con

/-! ### saturateref49_Outs: function 18 -/
def saturateref49_Outs.a : ACods ((Int × Int × (Nat × (Nat → Int) × (Nat → Int) × (Nat → Int) × (Nat → Int) × (Nat → Int) × (Nat → Int)) × (Nat × (Nat → Int))) × List Tm × Unit) := (.cons (.pk (.cons (.val (.int .i64)) (.cons (.val (.int .i64)) (.cons (.rows (.int .i64 (.int .i64 (.int .i64 (.int .i64 (.int .i64 (.int1 .u64))))))) (.one (.rows (.int1 .i64))))))) (.cons (.tms 0) .nil))
def saturateref49_Outs.r : RCod (List Tm × Int) := .tup (.cons (.tms 0) (.one (.val (.int .i64))))
noncomputable def saturateref49_Outs.cs : List (Kn Tryd.prog) := [saturateref49_Run.c]
def saturateref49_Outs.live : Nat → Option Keep := liveOf [(13, ⟨[2, 6, 9, 10], [2, 9, 42, 43], [], [(9, 45, 0)], []⟩)]
noncomputable def saturateref49_Outs.body : Code := bodyOf Tryd.f18
noncomputable def saturateref49_Outs.K (fu : Nat) : Code → St → (Ex → St → Option (List Tm × Int)) → Option (List Tm × Int) := codeK Tryd.prog (saturateref49_Outs.cs) saturateref49_Outs.live fu
noncomputable def saturateref49_Outs.j6 (fu : Nat) (n6 : Nat) (x6l : List Tm) (x9n : Nat) (x10 : Int) (c2_0 : Int) (c2_1 : Int) (c2_2n : Nat) (c2_3n : Nat) (l9 : List Tm) (m42 : Nat) (g42_0 : Nat → Int) (g42_1 : Nat → Int) (g42_2 : Nat → Int) (g42_3 : Nat → Int) (g42_4 : Nat → Int) (g42_5 : Nat → Int) (m43 : Nat) (g43_0 : Nat → Int) : Option (List Tm × Int) :=
  loopK (saturateref49_Outs.K fu (sub saturateref49_Outs.body [true, true, true, true, false, true, false, false])) (saturateref49_Outs.live 13) n6 (stOfX 40 44 [(2, .ptr 2 0 0 0), (6, .tsl 0 x6l), (9, .sl 9 1 x9n), (10, .val (.int .i64 x10))] [(2, .own [.val (.int .i64 c2_0), .val (.int .i64 c2_1), .sl 42 6 c2_2n, .sl 43 1 c2_3n]), (9, .growK 45 0 l9), (42, .ext m42 [.int .i64 g42_0, .int .i64 g42_1, .int .i64 g42_2, .int .i64 g42_3, .int .i64 g42_4, .int .u64 g42_5]), (43, .ext m43 [.int .i64 g43_0])]) (blockC 0 (seqC fu (saturateref49_Outs.live 18) (saturateref49_Outs.K fu (sub saturateref49_Outs.body [true, true, true, true, true])) (retC Tryd.prog false (Tryd.f18.results) saturateref49_Outs.r.dec)))
theorem saturateref49_Outs.j6_succ (fu : Nat) (n6 : Nat) (x6l : List Tm) (x9n : Nat) (x10 : Int) (c2_0 : Int) (c2_1 : Int) (c2_2n : Nat) (c2_3n : Nat) (l9 : List Tm) (m42 : Nat) (g42_0 : Nat → Int) (g42_1 : Nat → Int) (g42_2 : Nat → Int) (g42_3 : Nat → Int) (g42_4 : Nat → Int) (g42_5 : Nat → Int) (m43 : Nat) (g43_0 : Nat → Int) : saturateref49_Outs.j6 fu (n6 + 1) x6l x9n x10 c2_0 c2_1 c2_2n c2_3n l9 m42 g42_0 g42_1 g42_2 g42_3 g42_4 g42_5 m43 g43_0 =
  bif (decide (x10 < (c2_3n : Int))) then
    bif decide (0 ≤ x10) then
      bif decide (x10 < (c2_3n : Int)) then
        bif decide (0 ≤ (g43_0 x10.toNat)) then
          bif decide ((g43_0 x10.toNat) < (x6l.length : Int)) then
            ((x6l[(g43_0 x10.toNat).toNat]? : Option Tm)).bind fun u2 =>
            bif Nat.ble ((x9n + 1) * 8) 140737488355328 then
              saturateref49_Outs.j6 fu n6 x6l (x9n + 1) (IntKind.i64.wrap (x10 + 1)) c2_0 c2_1 c2_2n c2_3n (l9 ++ ([(Tm.mk u2.x [])])) m42 g42_0 g42_1 g42_2 g42_3 g42_4 g42_5 m43 g43_0
            else
              none
          else
            none
        else
          none
      else
        none
    else
      none
  else
    some (l9, 0) := by kernel_rfl
noncomputable def saturateref49_Outs.g (fu : Nat) (a0 : Int × Int × (Nat × (Nat → Int) × (Nat → Int) × (Nat → Int) × (Nat → Int) × (Nat → Int) × (Nat → Int)) × (Nat × (Nat → Int))) (a1 : List Tm) : Option (List Tm × Int) :=
  (saturateref49_Run.f (a0.1, a0.2.1, (a0.2.2.1.1, a0.2.2.1.2.1, a0.2.2.1.2.2.1, a0.2.2.1.2.2.2.1, a0.2.2.1.2.2.2.2.1, a0.2.2.1.2.2.2.2.2.1, a0.2.2.1.2.2.2.2.2.2), (a0.2.2.2.1, a0.2.2.2.2)) a1).bind fun r1 =>
  bif (r1.2.2 != 0) then
    some ([], r1.2.2)
  else
    saturateref49_Outs.j6 fu fu r1.1 0 0 a0.1 a0.2.1 a0.2.2.1.1 a0.2.2.2.1 ([]) a0.2.2.1.1 a0.2.2.1.2.1 a0.2.2.1.2.2.1 a0.2.2.1.2.2.2.1 a0.2.2.1.2.2.2.2.1 a0.2.2.1.2.2.2.2.2.1 a0.2.2.1.2.2.2.2.2.2 a0.2.2.2.1 a0.2.2.2.2
noncomputable def saturateref49_Outs.f (a0 : Int × Int × (Nat × (Nat → Int) × (Nat → Int) × (Nat → Int) × (Nat → Int) × (Nat → Int) × (Nat → Int)) × (Nat × (Nat → Int))) (a1 : List Tm) : Option (List Tm × Int) := saturateref49_Outs.g (fuel0 + 1) a0 a1
theorem saturateref49_Outs.eq (fu : Nat) (a : (Int × Int × (Nat × (Nat → Int) × (Nat → Int) × (Nat → Int) × (Nat → Int) × (Nat → Int) × (Nat → Int)) × (Nat × (Nat → Int))) × List Tm × Unit) : bodyK Tryd.prog saturateref49_Outs.cs saturateref49_Outs.live fu Tryd.f18 false (saturateref49_Outs.a.enc a) saturateref49_Outs.r.dec = saturateref49_Outs.g fu a.1 a.2.1 := by kernel_rfl
theorem saturateref49_Outs.con : ∀ (a : (Int × Int × (Nat × (Nat → Int) × (Nat → Int) × (Nat → Int) × (Nat → Int) × (Nat → Int) × (Nat → Int)) × (Nat × (Nat → Int))) × List Tm × Unit) (r : List Tm × Int), saturateref49_Outs.f a.1 a.2.1 = some r → Contract Tryd.prog 18 (saturateref49_Outs.a.enc a) (saturateref49_Outs.r.enc r) := Contract.of_body (F := fun (a : (Int × Int × (Nat × (Nat → Int) × (Nat → Int) × (Nat → Int) × (Nat → Int) × (Nat → Int) × (Nat → Int)) × (Nat × (Nat → Int))) × List Tm × Unit) => saturateref49_Outs.f a.1 a.2.1) (fn := Tryd.f18) (cs := saturateref49_Outs.cs) (live := saturateref49_Outs.live) (fuel := fuel0 + 1) (by kernel_rfl) (by kernel_rfl) mixed (saturateref49_Outs.eq (fuel0 + 1))
noncomputable def saturateref49_Outs.c : Kn Tryd.prog := Kn.of 18 saturateref49_Outs.a saturateref49_Outs.r (fun a => saturateref49_Outs.f a.1 a.2.1) saturateref49_Outs.con

/-! ### saturateref49_SameStates: function 21 -/
def saturateref49_SameStates.a : ACods (List Tm × List Tm × Unit) := (.cons (.tms 1) (.cons (.tms 1) .nil))
def saturateref49_SameStates.r : RCod (Bool) := .val (.bool)
noncomputable def saturateref49_SameStates.cs : List (Kn Tryd.prog) := [saturateref49_Same.c]
def saturateref49_SameStates.live : Nat → Option Keep := liveOf [(9, ⟨[0, 1, 5], [], [], [], []⟩)]
noncomputable def saturateref49_SameStates.body : Code := bodyOf Tryd.f21
noncomputable def saturateref49_SameStates.K (fu : Nat) : Code → St → (Ex → St → Option (Bool)) → Option (Bool) := codeK Tryd.prog (saturateref49_SameStates.cs) saturateref49_SameStates.live fu
noncomputable def saturateref49_SameStates.j4 (fu : Nat) (n4 : Nat) (x0l : List Tm) (x1l : List Tm) (x5 : Int) : Option Bool :=
  loopK (saturateref49_SameStates.K fu (sub saturateref49_SameStates.body [true, true, false, true, false, false])) (saturateref49_SameStates.live 9) n4 (stOf 27 [(0, .tsl 1 x0l), (1, .tsl 1 x1l), (5, .val (.int .i64 x5))] []) (blockC 0 (seqC fu (saturateref49_SameStates.live 16) (saturateref49_SameStates.K fu (sub saturateref49_SameStates.body [true, true, true])) (retC Tryd.prog false (Tryd.f21.results) saturateref49_SameStates.r.dec)))
theorem saturateref49_SameStates.j4_succ (fu : Nat) (n4 : Nat) (x0l : List Tm) (x1l : List Tm) (x5 : Int) : saturateref49_SameStates.j4 fu (n4 + 1) x0l x1l x5 =
  bif (decide (x5 < (x0l.length : Int))) then
    bif decide (0 ≤ x5) then
      bif decide (x5 < (x0l.length : Int)) then
        ((x0l[x5.toNat]? : Option Tm)).bind fun u1 =>
        bif decide (0 ≤ x5) then
          bif decide (x5 < (x1l.length : Int)) then
            ((x1l[x5.toNat]? : Option Tm)).bind fun u2 =>
            (saturateref49_Same.f u1.kids u2.kids).bind fun r3 =>
            bif (!r3) then
              some false
            else
              saturateref49_SameStates.j4 fu n4 x0l x1l (IntKind.i64.wrap (x5 + 1))
          else
            none
        else
          none
      else
        none
    else
      none
  else
    some true := by kernel_rfl
noncomputable def saturateref49_SameStates.g (fu : Nat) (a0 : List Tm) (a1 : List Tm) : Option (Bool) :=
  bif ((a0.length : Int) != (a1.length : Int)) then
    some false
  else
    saturateref49_SameStates.j4 fu fu a0 a1 0
noncomputable def saturateref49_SameStates.f (a0 : List Tm) (a1 : List Tm) : Option (Bool) := saturateref49_SameStates.g (fuel0 + 1) a0 a1
theorem saturateref49_SameStates.eq (fu : Nat) (a : List Tm × List Tm × Unit) : bodyK Tryd.prog saturateref49_SameStates.cs saturateref49_SameStates.live fu Tryd.f21 false (saturateref49_SameStates.a.enc a) saturateref49_SameStates.r.dec = saturateref49_SameStates.g fu a.1 a.2.1 := by kernel_rfl
theorem saturateref49_SameStates.con : ∀ (a : List Tm × List Tm × Unit) (r : Bool), saturateref49_SameStates.f a.1 a.2.1 = some r → Contract Tryd.prog 21 (saturateref49_SameStates.a.enc a) (saturateref49_SameStates.r.enc r) := Contract.of_body (F := fun (a : List Tm × List Tm × Unit) => saturateref49_SameStates.f a.1 a.2.1) (fn := Tryd.f21) (cs := saturateref49_SameStates.cs) (live := saturateref49_SameStates.live) (fuel := fuel0 + 1) (by kernel_rfl) (by kernel_rfl) mixed (saturateref49_SameStates.eq (fuel0 + 1))
noncomputable def saturateref49_SameStates.c : Kn Tryd.prog := Kn.of 21 saturateref49_SameStates.a saturateref49_SameStates.r (fun a => saturateref49_SameStates.f a.1 a.2.1) saturateref49_SameStates.con

/-! ### saturatelaw49_ExecRuns: function 5 -/
def saturatelaw49_ExecRuns.a : ACods ((Int × Int × (Nat × (Nat → Int) × (Nat → Int) × (Nat → Int) × (Nat → Int) × (Nat → Int) × (Nat → Int)) × (Nat × (Nat → Int))) × List Tm × Unit) := (.cons (.pk (.cons (.val (.int .i64)) (.cons (.val (.int .i64)) (.cons (.rows (.int .i64 (.int .i64 (.int .i64 (.int .i64 (.int .i64 (.int1 .u64))))))) (.one (.rows (.int1 .i64))))))) (.cons (.tms 0) .nil))
def saturatelaw49_ExecRuns.r : RCod (Bool) := .val (.bool)
noncomputable def saturatelaw49_ExecRuns.cs (v_saturatelaw49_live : Unit → Option (Bool)) (h_saturatelaw49_live : Con Tryd.prog 11 saturatelaw49_live.a saturatelaw49_live.r v_saturatelaw49_live) : List (Kn Tryd.prog) := [saturateref49_Few.c, Kn.of 11 saturatelaw49_live.a saturatelaw49_live.r v_saturatelaw49_live h_saturatelaw49_live.c, exec_Run.c, saturateref49_Run.c, saturateref49_Same.c, exec_Outs.c, saturateref49_Outs.c, exec_Trace.c, saturateref49_Trace.c, saturateref49_SameStates.c]
def saturatelaw49_ExecRuns.live : Nat → Option Keep := liveOf []
noncomputable def saturatelaw49_ExecRuns.body : Code := bodyOf Tryd.f5
noncomputable def saturatelaw49_ExecRuns.K (v_saturatelaw49_live : Unit → Option (Bool)) (h_saturatelaw49_live : Con Tryd.prog 11 saturatelaw49_live.a saturatelaw49_live.r v_saturatelaw49_live) (fu : Nat) : Code → St → (Ex → St → Option (Bool)) → Option (Bool) := codeK Tryd.prog (saturatelaw49_ExecRuns.cs v_saturatelaw49_live h_saturatelaw49_live) saturatelaw49_ExecRuns.live fu
noncomputable def saturatelaw49_ExecRuns.gv (v_saturatelaw49_live : Unit → Option (Bool)) (h_saturatelaw49_live : Con Tryd.prog 11 saturatelaw49_live.a saturatelaw49_live.r v_saturatelaw49_live) (fu : Nat) (a0 : Int × Int × (Nat × (Nat → Int) × (Nat → Int) × (Nat → Int) × (Nat → Int) × (Nat → Int) × (Nat → Int)) × (Nat × (Nat → Int))) (a1 : List Tm) : Option (Bool) :=
  (saturateref49_Few.f (a0.1, a0.2.1, (a0.2.2.1.1, a0.2.2.1.2.1, a0.2.2.1.2.2.1, a0.2.2.1.2.2.2.1, a0.2.2.1.2.2.2.2.1, a0.2.2.1.2.2.2.2.2.1, a0.2.2.1.2.2.2.2.2.2), (a0.2.2.2.1, a0.2.2.2.2))).bind fun r1 =>
  bif (!r1) then
    (v_saturatelaw49_live ()).bind fun r2 =>
    some r2
  else
    bif (decide ((a1.length : Int) > 20)) then
      (v_saturatelaw49_live ()).bind fun r3 =>
      some r3
    else
      (exec_Run.f (a0.1, a0.2.1, (a0.2.2.1.1, a0.2.2.1.2.1, a0.2.2.1.2.2.1, a0.2.2.1.2.2.2.1, a0.2.2.1.2.2.2.2.1, a0.2.2.1.2.2.2.2.2.1, a0.2.2.1.2.2.2.2.2.2), (a0.2.2.2.1, a0.2.2.2.2)) a1).bind fun r4 =>
      (saturateref49_Run.f (a0.1, a0.2.1, (a0.2.2.1.1, a0.2.2.1.2.1, a0.2.2.1.2.2.1, a0.2.2.1.2.2.2.1, a0.2.2.1.2.2.2.2.1, a0.2.2.1.2.2.2.2.2.1, a0.2.2.1.2.2.2.2.2.2), (a0.2.2.2.1, a0.2.2.2.2)) a1).bind fun r5 =>
      (saturateref49_Same.f r4.1 r5.1).bind fun r6 =>
      bif (!r6) then
        some false
      else
        bif (r4.2.1 != r5.2.1) then
          some false
        else
          bif (r4.2.2 != r5.2.2) then
            some false
          else
            (exec_Outs.f (a0.1, a0.2.1, (a0.2.2.1.1, a0.2.2.1.2.1, a0.2.2.1.2.2.1, a0.2.2.1.2.2.2.1, a0.2.2.1.2.2.2.2.1, a0.2.2.1.2.2.2.2.2.1, a0.2.2.1.2.2.2.2.2.2), (a0.2.2.2.1, a0.2.2.2.2)) a1).bind fun r7 =>
            (saturateref49_Outs.f (a0.1, a0.2.1, (a0.2.2.1.1, a0.2.2.1.2.1, a0.2.2.1.2.2.1, a0.2.2.1.2.2.2.1, a0.2.2.1.2.2.2.2.1, a0.2.2.1.2.2.2.2.2.1, a0.2.2.1.2.2.2.2.2.2), (a0.2.2.2.1, a0.2.2.2.2)) a1).bind fun r8 =>
            (exec_Trace.f (a0.1, a0.2.1, (a0.2.2.1.1, a0.2.2.1.2.1, a0.2.2.1.2.2.1, a0.2.2.1.2.2.2.1, a0.2.2.1.2.2.2.2.1, a0.2.2.1.2.2.2.2.2.1, a0.2.2.1.2.2.2.2.2.2), (a0.2.2.2.1, a0.2.2.2.2)) a1).bind fun r9 =>
            (saturateref49_Trace.f (a0.1, a0.2.1, (a0.2.2.1.1, a0.2.2.1.2.1, a0.2.2.1.2.2.1, a0.2.2.1.2.2.2.1, a0.2.2.1.2.2.2.2.1, a0.2.2.1.2.2.2.2.2.1, a0.2.2.1.2.2.2.2.2.2), (a0.2.2.2.1, a0.2.2.2.2)) a1).bind fun r10 =>
            (saturateref49_Same.f r7.1 r8.1).bind fun r11 =>
            bif r11 then
              bif (r7.2 == r8.2) then
                (saturateref49_SameStates.f r9.1 r10.1).bind fun r12 =>
                bif r12 then
                  bif (r9.2 == r10.2) then
                    (v_saturatelaw49_live ()).bind fun r13 =>
                    some r13
                  else
                    some false
                else
                  some false
              else
                some false
            else
              some false
noncomputable def saturatelaw49_ExecRuns.f (a0 : Int × Int × (Nat × (Nat → Int) × (Nat → Int) × (Nat → Int) × (Nat → Int) × (Nat → Int) × (Nat → Int)) × (Nat × (Nat → Int))) (a1 : List Tm) : Option (Bool) := saturatelaw49_ExecRuns.gv (fun a => saturatelaw49_live.f) ⟨saturatelaw49_live.con⟩ (fuel0 + 1) a0 a1
theorem saturatelaw49_ExecRuns.eq (v_saturatelaw49_live : Unit → Option (Bool)) (h_saturatelaw49_live : Con Tryd.prog 11 saturatelaw49_live.a saturatelaw49_live.r v_saturatelaw49_live) (fu : Nat) (a : (Int × Int × (Nat × (Nat → Int) × (Nat → Int) × (Nat → Int) × (Nat → Int) × (Nat → Int) × (Nat → Int)) × (Nat × (Nat → Int))) × List Tm × Unit) : bodyK Tryd.prog (saturatelaw49_ExecRuns.cs v_saturatelaw49_live h_saturatelaw49_live) saturatelaw49_ExecRuns.live fu Tryd.f5 false (saturatelaw49_ExecRuns.a.enc a) saturatelaw49_ExecRuns.r.dec = saturatelaw49_ExecRuns.gv v_saturatelaw49_live h_saturatelaw49_live fu a.1 a.2.1 := by kernel_rfl
theorem saturatelaw49_ExecRuns.con : ∀ (a : (Int × Int × (Nat × (Nat → Int) × (Nat → Int) × (Nat → Int) × (Nat → Int) × (Nat → Int) × (Nat → Int)) × (Nat × (Nat → Int))) × List Tm × Unit) (r : Bool), saturatelaw49_ExecRuns.f a.1 a.2.1 = some r → Contract Tryd.prog 5 (saturatelaw49_ExecRuns.a.enc a) (saturatelaw49_ExecRuns.r.enc r) := Contract.of_body (F := fun (a : (Int × Int × (Nat × (Nat → Int) × (Nat → Int) × (Nat → Int) × (Nat → Int) × (Nat → Int) × (Nat → Int)) × (Nat × (Nat → Int))) × List Tm × Unit) => saturatelaw49_ExecRuns.f a.1 a.2.1) (fn := Tryd.f5) (cs := saturatelaw49_ExecRuns.cs (fun a => saturatelaw49_live.f) ⟨saturatelaw49_live.con⟩) (live := saturatelaw49_ExecRuns.live) (fuel := fuel0 + 1) (by kernel_rfl) (by kernel_rfl) mixed (saturatelaw49_ExecRuns.eq (fun a => saturatelaw49_live.f) ⟨saturatelaw49_live.con⟩ (fuel0 + 1))
noncomputable def saturatelaw49_ExecRuns.c : Kn Tryd.prog := Kn.of 5 saturatelaw49_ExecRuns.a saturatelaw49_ExecRuns.r (fun a => saturatelaw49_ExecRuns.f a.1 a.2.1) saturatelaw49_ExecRuns.con
end Go.Proofs.YtkmehmlcccdnbaaDoor.Fn
