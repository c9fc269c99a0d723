/- What the functions return, as the evaluator tells it: written by a program of this workplace (mev.py); Lean checks each equation. -/
import Derived.Test.YtcihbcffokjgjaaGreatProg
import Derived.Test.YtcihbcffokjgjaaGreatOEvC
import Derived.Test.YtcihbcffokjgjaaGreatOF0
import Derived.Test.YtcihbcffokjgjaaGreatOF8
namespace Go.Proofs.YtcihbcffokjgjaaGreat.Fn
open Go Go.RowKit Go.Proofs.YtcihbcffokjgjaaGreat.Ev Go.Proofs
set_option linter.unusedVariables false
set_option maxRecDepth 100000
def saturateref04_Is.a : ACods (Int × (Nat × (Nat → Int)) × Unit) := (.cons (.val (.int .i64)) (.cons (.rows (.int1 .i64)) .nil))
def saturateref04_Is.r : RCod (Bool) := .val (.bool)
noncomputable def saturateref04_Is.cs : List (Kn Tryz.prog) := []
def saturateref04_Is.live : Nat → Option Keep := liveOf [(5, ⟨[0, 1, 7, 8], [1], [], [], []⟩)]
noncomputable def saturateref04_Is.body : Code := bodyOf Tryz.f126
noncomputable def saturateref04_Is.K (fu : Nat) : Code → St → (Ex → St → Option (Bool)) → Option (Bool) := codeK Tryz.prog (saturateref04_Is.cs) saturateref04_Is.live fu
noncomputable def saturateref04_Is.j2 (fu n2 : Nat) (x0 : Int) (x1n : Nat) (x7 x8 : Int) (m1 : Nat) (g1_0 : Nat → Int) : Option Bool :=
  loopK (saturateref04_Is.K fu (sub saturateref04_Is.body [true, false, true, false, false])) (saturateref04_Is.live 5) n2 (stOf 18 [(0, .val (.int .i64 x0)), (1, .sl 1 1 x1n), (7, .val (.int .i64 x7)), (8, .val (.int .i64 x8))] [(1, .ext m1 [.int .i64 g1_0])]) (blockC 0 (seqC fu (saturateref04_Is.live 14) (saturateref04_Is.K fu (sub saturateref04_Is.body [true, true])) (retC Tryz.prog Tryz.f126.results saturateref04_Is.r.dec)))
theorem saturateref04_Is.j2_succ (fu n2 : Nat) (x0 : Int) (x1n : Nat) (x7 x8 : Int) (m1 : Nat) (g1_0 : Nat → Int) : saturateref04_Is.j2 fu (n2 + 1) x0 x1n x7 x8 m1 g1_0 =
  bif (decide (x8 < x7)) then
    bif decide (0 ≤ x8) then
      bif decide (x8 < (x1n : Int)) then
        bif ((g1_0 x8.toNat) == x0) then
          some true
        else
          saturateref04_Is.j2 fu n2 x0 x1n x7 (IntKind.i64.wrap (x8 + 1)) m1 g1_0
      else
        none
    else
      none
  else
    some false := by kernel_rfl
noncomputable def saturateref04_Is.g (fu : Nat) (a0 : Int) (a1 : Nat × (Nat → Int)) : Option (Bool) :=
  saturateref04_Is.j2 fu fu a0 a1.1 (a1.1 : Int) 0 a1.1 a1.2
noncomputable def saturateref04_Is.f (a0 : Int) (a1 : Nat × (Nat → Int)) : Option (Bool) := saturateref04_Is.g (fuel0 + 1) a0 a1
theorem saturateref04_Is.eq (fu : Nat) (a : Int × (Nat × (Nat → Int)) × Unit) : bodyK Tryz.prog saturateref04_Is.cs saturateref04_Is.live fu Tryz.f126 (saturateref04_Is.a.enc a) saturateref04_Is.r.dec = saturateref04_Is.g fu a.1 a.2.1 := by kernel_rfl
theorem saturateref04_Is.con : ∀ (a : Int × (Nat × (Nat → Int)) × Unit) (r : Bool), saturateref04_Is.f a.1 a.2.1 = some r → Contract Tryz.prog 126 (saturateref04_Is.a.enc a) (saturateref04_Is.r.enc r) := Contract.of_body (by kernel_rfl) (by kernel_rfl) mixed (saturateref04_Is.eq (fuel0 + 1))
noncomputable def saturateref04_Is.c : Kn Tryz.prog := Kn.of 126 saturateref04_Is.a saturateref04_Is.r (fun a => saturateref04_Is.f a.1 a.2.1) saturateref04_Is.con
def saturateref04_Leaf.a : ACods (Int × Unit) := (.cons (.val (.int .i64)) .nil)
def saturateref04_Leaf.r : RCod (Bool) := .val (.bool)
noncomputable def saturateref04_Leaf.cs : List (Kn Tryz.prog) := [saturateref04_Is.c]
def saturateref04_Leaf.live : Nat → Option Keep := liveOf []
noncomputable def saturateref04_Leaf.f (a0 : Int) : Option (Bool) :=
  (saturateref04_Is.f a0 (4, (fun i => [1, 2, 24, 25].getD i 0))).bind fun r1 =>
  some r1
theorem saturateref04_Leaf.eq (fu : Nat) (a : Int × Unit) : bodyK Tryz.prog saturateref04_Leaf.cs saturateref04_Leaf.live fu Tryz.f123 (saturateref04_Leaf.a.enc a) saturateref04_Leaf.r.dec = saturateref04_Leaf.f a.1 := by kernel_rfl
theorem saturateref04_Leaf.con : ∀ (a : Int × Unit) (r : Bool), saturateref04_Leaf.f a.1 = some r → Contract Tryz.prog 123 (saturateref04_Leaf.a.enc a) (saturateref04_Leaf.r.enc r) := Contract.of_body (by kernel_rfl) (by kernel_rfl) mixed (saturateref04_Leaf.eq (fuel0 + 1))
noncomputable def saturateref04_Leaf.c : Kn Tryz.prog := Kn.of 123 saturateref04_Leaf.a saturateref04_Leaf.r (fun a => saturateref04_Leaf.f a.1) saturateref04_Leaf.con
def saturateref04_Arity.a : ACods (Int × Unit) := (.cons (.val (.int .i64)) .nil)
def saturateref04_Arity.r : RCod (Int) := .val (.int .i64)
noncomputable def saturateref04_Arity.cs : List (Kn Tryz.prog) := [saturateref04_Leaf.c, saturateref04_Is.c]
def saturateref04_Arity.live : Nat → Option Keep := liveOf []
noncomputable def saturateref04_Arity.f (a0 : Int) : Option (Int) :=
  bif (decide (a0 < 1)) then
    some (-1)
  else
    bif (decide (a0 > 26)) then
      some (-1)
    else
      (saturateref04_Leaf.f a0).bind fun r1 =>
      bif r1 then
        some 0
      else
        (saturateref04_Is.f a0 (6, (fun i => [3, 4, 21, 22, 23, 26].getD i 0))).bind fun r2 =>
        bif r2 then
          some 1
        else
          bif (a0 == 19) then
            some 3
          else
            some 2
theorem saturateref04_Arity.eq (fu : Nat) (a : Int × Unit) : bodyK Tryz.prog saturateref04_Arity.cs saturateref04_Arity.live fu Tryz.f121 (saturateref04_Arity.a.enc a) saturateref04_Arity.r.dec = saturateref04_Arity.f a.1 := by kernel_rfl
theorem saturateref04_Arity.con : ∀ (a : Int × Unit) (r : Int), saturateref04_Arity.f a.1 = some r → Contract Tryz.prog 121 (saturateref04_Arity.a.enc a) (saturateref04_Arity.r.enc r) := Contract.of_body (by kernel_rfl) (by kernel_rfl) mixed (saturateref04_Arity.eq (fuel0 + 1))
noncomputable def saturateref04_Arity.c : Kn Tryz.prog := Kn.of 121 saturateref04_Arity.a saturateref04_Arity.r (fun a => saturateref04_Arity.f a.1) saturateref04_Arity.con
def saturateref04_width.a : ACods (Int × Unit) := (.cons (.val (.int .i64)) .nil)
def saturateref04_width.r : RCod (Bool) := .val (.bool)
noncomputable def saturateref04_width.cs : List (Kn Tryz.prog) := []
def saturateref04_width.live : Nat → Option Keep := liveOf []
noncomputable def saturateref04_width.f (a0 : Int) : Option (Bool) :=
  bif (decide (a0 ≥ 0)) then
    some (decide (a0 ≤ 64))
  else
    some false
theorem saturateref04_width.eq (fu : Nat) (a : Int × Unit) : bodyK Tryz.prog saturateref04_width.cs saturateref04_width.live fu Tryz.f122 (saturateref04_width.a.enc a) saturateref04_width.r.dec = saturateref04_width.f a.1 := by kernel_rfl
theorem saturateref04_width.con : ∀ (a : Int × Unit) (r : Bool), saturateref04_width.f a.1 = some r → Contract Tryz.prog 122 (saturateref04_width.a.enc a) (saturateref04_width.r.enc r) := Contract.of_body (by kernel_rfl) (by kernel_rfl) mixed (saturateref04_width.eq (fuel0 + 1))
noncomputable def saturateref04_width.c : Kn Tryz.prog := Kn.of 122 saturateref04_width.a saturateref04_width.r (fun a => saturateref04_width.f a.1) saturateref04_width.con
def saturateref04_leaf.a : ACods (Int × Int × Int × Unit) := (.cons (.val (.int .i64)) (.cons (.val (.int .i64)) (.cons (.val (.int .u64)) .nil)))
def saturateref04_leaf.r : RCod (Int × Int) := .val (.tup (.cons (.int .i64) (.one (.int .i64))))
noncomputable def saturateref04_leaf.cs : List (Kn Tryz.prog) := [saturateref04_width.c]
def saturateref04_leaf.live : Nat → Option Keep := liveOf [(6, ⟨[1], [], [], [], []⟩)]
noncomputable def saturateref04_leaf.body : Code := bodyOf Tryz.f124
noncomputable def saturateref04_leaf.K (fu : Nat) : Code → St → (Ex → St → Option (Int × Int)) → Option (Int × Int) := codeK Tryz.prog (saturateref04_leaf.cs) saturateref04_leaf.live fu
noncomputable def saturateref04_leaf.p3 (m fu : Nat) (x1 : Int) : Option (Int × Int) :=
  joinK m (saturateref04_leaf.K fu (sub saturateref04_leaf.body [true, true])) (stOf 31 [(1, .val (.int .i64 x1))] []) (retC Tryz.prog Tryz.f124.results saturateref04_leaf.r.dec)
theorem saturateref04_leaf.p3_eq (m fu : Nat) (x1 : Int) : saturateref04_leaf.p3 (m + 1) fu x1 =
  some (x1, 0) := by kernel_rfl
noncomputable def saturateref04_leaf.g (fu : Nat) (a0 a1 a2 : Int) : Option (Int × Int) :=
  (saturateref04_width.f a1).bind fun r1 =>
  bif (!r1) then
    some (0, 3)
  else
    bif (a0 == 2) then
      bif (decide (a1 > 0)) then
        bif (decide (a1 < 64)) then
          bif decide ((IntKind.u64.wrap a1) < 0) then
            none
          else
            bif (decide (a2 ≥ (shl .u64 1 (IntKind.u64.wrap a1)))) then
              some (0, 3)
            else
              saturateref04_leaf.p3 fu fu a1
        else
          saturateref04_leaf.p3 fu fu a1
      else
        saturateref04_leaf.p3 fu fu a1
    else
      saturateref04_leaf.p3 fu fu a1
noncomputable def saturateref04_leaf.f (a0 a1 a2 : Int) : Option (Int × Int) := saturateref04_leaf.g (fuel0 + 1) a0 a1 a2
theorem saturateref04_leaf.eq (fu : Nat) (a : Int × Int × Int × Unit) : bodyK Tryz.prog saturateref04_leaf.cs saturateref04_leaf.live fu Tryz.f124 (saturateref04_leaf.a.enc a) saturateref04_leaf.r.dec = saturateref04_leaf.g fu a.1 a.2.1 a.2.2.1 := by kernel_rfl
theorem saturateref04_leaf.con : ∀ (a : Int × Int × Int × Unit) (r : Int × Int), saturateref04_leaf.f a.1 a.2.1 a.2.2.1 = some r → Contract Tryz.prog 124 (saturateref04_leaf.a.enc a) (saturateref04_leaf.r.enc r) := Contract.of_body (by kernel_rfl) (by kernel_rfl) mixed (saturateref04_leaf.eq (fuel0 + 1))
noncomputable def saturateref04_leaf.c : Kn Tryz.prog := Kn.of 124 saturateref04_leaf.a saturateref04_leaf.r (fun a => saturateref04_leaf.f a.1 a.2.1 a.2.2.1) saturateref04_leaf.con
def saturateref04_parts.a : ACods (Int × Int × Int × Int × Unit) := (.cons (.val (.int .i64)) (.cons (.val (.int .i64)) (.cons (.val (.int .u64)) (.cons (.val (.int .i64)) .nil))))
def saturateref04_parts.r : RCod (Int × Int) := .val (.tup (.cons (.int .i64) (.one (.int .i64))))
noncomputable def saturateref04_parts.cs : List (Kn Tryz.prog) := [saturateref04_width.c]
def saturateref04_parts.live : Nat → Option Keep := liveOf [(10, ⟨[1], [], [], [], []⟩)]
noncomputable def saturateref04_parts.body : Code := bodyOf Tryz.f125
noncomputable def saturateref04_parts.K (fu : Nat) : Code → St → (Ex → St → Option (Int × Int)) → Option (Int × Int) := codeK Tryz.prog (saturateref04_parts.cs) saturateref04_parts.live fu
noncomputable def saturateref04_parts.p5 (m fu : Nat) (x1 : Int) : Option (Int × Int) :=
  joinK m (saturateref04_parts.K fu (sub saturateref04_parts.body [true, true, true])) (stOf 46 [(1, .val (.int .i64 x1))] []) (retC Tryz.prog Tryz.f125.results saturateref04_parts.r.dec)
theorem saturateref04_parts.p5_eq (m fu : Nat) (x1 : Int) : saturateref04_parts.p5 (m + 1) fu x1 =
  some (x1, 0) := by kernel_rfl
noncomputable def saturateref04_parts.g (fu : Nat) (a0 a1 a2 a3 : Int) : Option (Int × Int) :=
  (saturateref04_width.f a1).bind fun r1 =>
  bif (!r1) then
    some (0, 3)
  else
    bif (decide (a1 < 1)) then
      some (0, 3)
    else
      bif (decide (a3 < 1)) then
        some (0, 3)
      else
        bif (a0 == 21) then
          bif (decide (a1 > a3)) then
            some (0, 3)
          else
            bif (decide (a2 > (IntKind.u64.wrap (IntKind.i64.wrap (a3 - a1))))) then
              some (0, 3)
            else
              bif (a0 != 21) then
                bif (decide (a1 < a3)) then
                  some (0, 3)
                else
                  saturateref04_parts.p5 fu fu a1
              else
                saturateref04_parts.p5 fu fu a1
        else
          bif (a0 != 21) then
            bif (decide (a1 < a3)) then
              some (0, 3)
            else
              saturateref04_parts.p5 fu fu a1
          else
            saturateref04_parts.p5 fu fu a1
noncomputable def saturateref04_parts.f (a0 a1 a2 a3 : Int) : Option (Int × Int) := saturateref04_parts.g (fuel0 + 1) a0 a1 a2 a3
theorem saturateref04_parts.eq (fu : Nat) (a : Int × Int × Int × Int × Unit) : bodyK Tryz.prog saturateref04_parts.cs saturateref04_parts.live fu Tryz.f125 (saturateref04_parts.a.enc a) saturateref04_parts.r.dec = saturateref04_parts.g fu a.1 a.2.1 a.2.2.1 a.2.2.2.1 := by kernel_rfl
theorem saturateref04_parts.con : ∀ (a : Int × Int × Int × Int × Unit) (r : Int × Int), saturateref04_parts.f a.1 a.2.1 a.2.2.1 a.2.2.2.1 = some r → Contract Tryz.prog 125 (saturateref04_parts.a.enc a) (saturateref04_parts.r.enc r) := Contract.of_body (by kernel_rfl) (by kernel_rfl) mixed (saturateref04_parts.eq (fuel0 + 1))
noncomputable def saturateref04_parts.c : Kn Tryz.prog := Kn.of 125 saturateref04_parts.a saturateref04_parts.r (fun a => saturateref04_parts.f a.1 a.2.1 a.2.2.1 a.2.2.2.1) saturateref04_parts.con
def saturateref04_Width.a : ACods (Int × Int × Int × (Nat × (Nat → Int)) × Unit) := (.cons (.val (.int .i64)) (.cons (.val (.int .i64)) (.cons (.val (.int .u64)) (.cons (.rows (.int1 .i64)) .nil))))
def saturateref04_Width.r : RCod (Int × Int) := .val (.tup (.cons (.int .i64) (.one (.int .i64))))
noncomputable def saturateref04_Width.cs : List (Kn Tryz.prog) := [saturateref04_Arity.c, saturateref04_width.c, saturateref04_Leaf.c, saturateref04_leaf.c, saturateref04_parts.c]
def saturateref04_Width.live : Nat → Option Keep := liveOf [(9, ⟨[0, 1, 2, 3, 22, 23], [3], [], [], []⟩)]
noncomputable def saturateref04_Width.body : Code := bodyOf Tryz.f62
noncomputable def saturateref04_Width.K (fu : Nat) : Code → St → (Ex → St → Option (Int × Int)) → Option (Int × Int) := codeK Tryz.prog (saturateref04_Width.cs) saturateref04_Width.live fu
noncomputable def saturateref04_Width.j4 (fu n4 : Nat) (x0 x1 x2 : Int) (x3n : Nat) (x22 x23 : Int) (m3 : Nat) (g3_0 : Nat → Int) : Option (Int × Int) :=
  loopK (saturateref04_Width.K fu (sub saturateref04_Width.body [true, true, false, true, false, false])) (saturateref04_Width.live 9) n4 (stOf 133 [(0, .val (.int .i64 x0)), (1, .val (.int .i64 x1)), (2, .val (.int .u64 x2)), (3, .sl 3 1 x3n), (22, .val (.int .i64 x22)), (23, .val (.int .i64 x23))] [(3, .ext m3 [.int .i64 g3_0])]) (blockC 0 (seqC fu (saturateref04_Width.live 18) (saturateref04_Width.K fu (sub saturateref04_Width.body [true, true, true])) (retC Tryz.prog Tryz.f62.results saturateref04_Width.r.dec)))
theorem saturateref04_Width.j4_succ (fu n4 : Nat) (x0 x1 x2 : Int) (x3n : Nat) (x22 x23 : Int) (m3 : Nat) (g3_0 : Nat → Int) : saturateref04_Width.j4 fu (n4 + 1) x0 x1 x2 x3n x22 x23 m3 g3_0 =
  bif (decide (x23 < x22)) then
    bif decide (0 ≤ x23) then
      bif decide (x23 < (x3n : Int)) then
        (saturateref04_width.f (g3_0 x23.toNat)).bind fun r3 =>
        bif (!r3) then
          some (0, 3)
        else
          saturateref04_Width.j4 fu n4 x0 x1 x2 x3n x22 (IntKind.i64.wrap (x23 + 1)) m3 g3_0
      else
        none
    else
      none
  else
    (saturateref04_Leaf.f x0).bind fun r4 =>
    bif r4 then
      (saturateref04_leaf.f x0 x1 x2).bind fun r5 =>
      some (r5.1, r5.2)
    else
      bif (x0 == 21) then
        bif decide ((0 : Int) < (x3n : Int)) then
          (saturateref04_parts.f x0 x1 x2 (g3_0 0)).bind fun r6 =>
          some (r6.1, r6.2)
        else
          none
      else
        bif (x0 == 22) then
          bif decide ((0 : Int) < (x3n : Int)) then
            (saturateref04_parts.f x0 x1 x2 (g3_0 0)).bind fun r7 =>
            some (r7.1, r7.2)
          else
            none
        else
          bif (x0 == 23) then
            bif decide ((0 : Int) < (x3n : Int)) then
              (saturateref04_parts.f x0 x1 x2 (g3_0 0)).bind fun r8 =>
              some (r8.1, r8.2)
            else
              none
          else
            bif ((x3n : Int) == 1) then
              bif decide ((0 : Int) < (x3n : Int)) then
                some ((g3_0 0), 0)
              else
                none
            else
              bif (x0 == 20) then
                bif decide ((0 : Int) < (x3n : Int)) then
                  bif (decide ((g3_0 0) < 1)) then
                    some (0, 3)
                  else
                    bif decide ((1 : Int) < (x3n : Int)) then
                      bif (decide ((g3_0 1) < 1)) then
                        some (0, 3)
                      else
                        bif decide ((0 : Int) < (x3n : Int)) then
                          bif decide ((1 : Int) < (x3n : Int)) then
                            bif (decide ((IntKind.i64.wrap ((g3_0 0) + (g3_0 1))) > 64)) then
                              some (0, 3)
                            else
                              bif decide ((0 : Int) < (x3n : Int)) then
                                bif decide ((1 : Int) < (x3n : Int)) then
                                  some ((IntKind.i64.wrap ((g3_0 0) + (g3_0 1))), 0)
                                else
                                  none
                              else
                                none
                          else
                            none
                        else
                          none
                    else
                      none
                else
                  none
              else
                bif (x0 == 19) then
                  bif decide ((0 : Int) < (x3n : Int)) then
                    bif ((g3_0 0) != 1) then
                      some (0, 3)
                    else
                      bif decide ((1 : Int) < (x3n : Int)) then
                        bif decide ((2 : Int) < (x3n : Int)) then
                          bif ((g3_0 1) != (g3_0 2)) then
                            some (0, 3)
                          else
                            bif decide ((1 : Int) < (x3n : Int)) then
                              some ((g3_0 1), 0)
                            else
                              none
                        else
                          none
                      else
                        none
                  else
                    none
                else
                  bif decide ((0 : Int) < (x3n : Int)) then
                    bif decide ((1 : Int) < (x3n : Int)) then
                      bif ((g3_0 0) != (g3_0 1)) then
                        some (0, 3)
                      else
                        bif (x0 == 16) then
                          some (1, 0)
                        else
                          bif (x0 == 17) then
                            some (1, 0)
                          else
                            bif (x0 == 18) then
                              some (1, 0)
                            else
                              bif decide ((0 : Int) < (x3n : Int)) then
                                some ((g3_0 0), 0)
                              else
                                none
                    else
                      none
                  else
                    none := by kernel_rfl
noncomputable def saturateref04_Width.g (fu : Nat) (a0 a1 a2 : Int) (a3 : Nat × (Nat → Int)) : Option (Int × Int) :=
  (saturateref04_Arity.f a0).bind fun r1 =>
  bif (decide (r1 < 0)) then
    some (0, 4)
  else
    (saturateref04_Arity.f a0).bind fun r2 =>
    bif ((a3.1 : Int) != r2) then
      some (0, 4)
    else
      saturateref04_Width.j4 fu fu a0 a1 a2 a3.1 (a3.1 : Int) 0 a3.1 a3.2
noncomputable def saturateref04_Width.f (a0 a1 a2 : Int) (a3 : Nat × (Nat → Int)) : Option (Int × Int) := saturateref04_Width.g (fuel0 + 1) a0 a1 a2 a3
theorem saturateref04_Width.eq (fu : Nat) (a : Int × Int × Int × (Nat × (Nat → Int)) × Unit) : bodyK Tryz.prog saturateref04_Width.cs saturateref04_Width.live fu Tryz.f62 (saturateref04_Width.a.enc a) saturateref04_Width.r.dec = saturateref04_Width.g fu a.1 a.2.1 a.2.2.1 a.2.2.2.1 := by kernel_rfl
theorem saturateref04_Width.con : ∀ (a : Int × Int × Int × (Nat × (Nat → Int)) × Unit) (r : Int × Int), saturateref04_Width.f a.1 a.2.1 a.2.2.1 a.2.2.2.1 = some r → Contract Tryz.prog 62 (saturateref04_Width.a.enc a) (saturateref04_Width.r.enc r) := Contract.of_body (by kernel_rfl) (by kernel_rfl) mixed (saturateref04_Width.eq (fuel0 + 1))
noncomputable def saturateref04_Width.c : Kn Tryz.prog := Kn.of 62 saturateref04_Width.a saturateref04_Width.r (fun a => saturateref04_Width.f a.1 a.2.1 a.2.2.1 a.2.2.2.1) saturateref04_Width.con
def saturateref04_Pattern.a : ACods (Int × Unit) := (.cons (.val (.int .i64)) .nil)
def saturateref04_Pattern.r : RCod (Bool) := .val (.bool)
noncomputable def saturateref04_Pattern.cs : List (Kn Tryz.prog) := [saturateref04_Is.c]
def saturateref04_Pattern.live : Nat → Option Keep := liveOf []
noncomputable def saturateref04_Pattern.f (a0 : Int) : Option (Bool) :=
  (saturateref04_Is.f a0 (3, (fun i => [24, 25, 26].getD i 0))).bind fun r1 =>
  some r1
theorem saturateref04_Pattern.eq (fu : Nat) (a : Int × Unit) : bodyK Tryz.prog saturateref04_Pattern.cs saturateref04_Pattern.live fu Tryz.f63 (saturateref04_Pattern.a.enc a) saturateref04_Pattern.r.dec = saturateref04_Pattern.f a.1 := by kernel_rfl
theorem saturateref04_Pattern.con : ∀ (a : Int × Unit) (r : Bool), saturateref04_Pattern.f a.1 = some r → Contract Tryz.prog 63 (saturateref04_Pattern.a.enc a) (saturateref04_Pattern.r.enc r) := Contract.of_body (by kernel_rfl) (by kernel_rfl) mixed (saturateref04_Pattern.eq (fuel0 + 1))
noncomputable def saturateref04_Pattern.c : Kn Tryz.prog := Kn.of 63 saturateref04_Pattern.a saturateref04_Pattern.r (fun a => saturateref04_Pattern.f a.1) saturateref04_Pattern.con
def saturateref12_Refused.a : ACods (Int × Int × Int × (Nat × (Nat → Int)) × Int × Unit) := (.cons (.val (.int .i64)) (.cons (.val (.int .i64)) (.cons (.val (.int .u64)) (.cons (.rows (.int1 .i64)) (.cons (.val (.int .i64)) .nil)))))
def saturateref12_Refused.r : RCod (Int × Int) := .val (.tup (.cons (.int .i64) (.one (.int .i64))))
noncomputable def saturateref12_Refused.cs : List (Kn Tryz.prog) := [saturateref04_Width.c, saturateref04_Pattern.c]
def saturateref12_Refused.live : Nat → Option Keep := liveOf [(19, ⟨[3, 12, 14], [3], [], [], []⟩)]
noncomputable def saturateref12_Refused.body : Code := bodyOf Tryz.f40
noncomputable def saturateref12_Refused.K (fu : Nat) : Code → St → (Ex → St → Option (Int × Int)) → Option (Int × Int) := codeK Tryz.prog (saturateref12_Refused.cs) saturateref12_Refused.live fu
noncomputable def saturateref12_Refused.j9 (fu n9 x3n : Nat) (x12 x14 : Int) (m3 : Nat) (g3_0 : Nat → Int) : Option (Int × Int) :=
  loopK (saturateref12_Refused.K fu (sub saturateref12_Refused.body [true, true, true, true, true, false, true, false, false])) (saturateref12_Refused.live 19) n9 (stOf 46 [(3, .sl 3 1 x3n), (12, .val (.int .i64 x12)), (14, .val (.int .i64 x14))] [(3, .ext m3 [.int .i64 g3_0])]) (blockC 0 (seqC fu (saturateref12_Refused.live 26) (saturateref12_Refused.K fu (sub saturateref12_Refused.body [true, true, true, true, true, true])) (retC Tryz.prog Tryz.f40.results saturateref12_Refused.r.dec)))
theorem saturateref12_Refused.j9_succ (fu n9 x3n : Nat) (x12 x14 : Int) (m3 : Nat) (g3_0 : Nat → Int) : saturateref12_Refused.j9 fu (n9 + 1) x3n x12 x14 m3 g3_0 =
  bif (decide (x14 < (x3n : Int))) then
    bif decide (0 ≤ x14) then
      bif decide (x14 < (x3n : Int)) then
        bif ((g3_0 x14.toNat) == 0) then
          some (0, 3)
        else
          saturateref12_Refused.j9 fu n9 x3n x12 (IntKind.i64.wrap (x14 + 1)) m3 g3_0
      else
        none
    else
      none
  else
    bif (x12 == 0) then
      some (0, 3)
    else
      some (x12, 0) := by kernel_rfl
noncomputable def saturateref12_Refused.g (fu : Nat) (a0 a1 a2 : Int) (a3 : Nat × (Nat → Int)) (a4 : Int) : Option (Int × Int) :=
  bif (a4 != (a3.1 : Int)) then
    some (0, 4)
  else
    (saturateref04_Width.f a0 a1 a2 (a3.1, a3.2)).bind fun r1 =>
    bif (r1.2 != 0) then
      some (0, r1.2)
    else
      (saturateref04_Pattern.f a0).bind fun r2 =>
      bif r2 then
        some (0, 4)
      else
        saturateref12_Refused.j9 fu fu a3.1 r1.1 0 a3.1 a3.2
noncomputable def saturateref12_Refused.f (a0 a1 a2 : Int) (a3 : Nat × (Nat → Int)) (a4 : Int) : Option (Int × Int) := saturateref12_Refused.g (fuel0 + 1) a0 a1 a2 a3 a4
theorem saturateref12_Refused.eq (fu : Nat) (a : Int × Int × Int × (Nat × (Nat → Int)) × Int × Unit) : bodyK Tryz.prog saturateref12_Refused.cs saturateref12_Refused.live fu Tryz.f40 (saturateref12_Refused.a.enc a) saturateref12_Refused.r.dec = saturateref12_Refused.g fu a.1 a.2.1 a.2.2.1 a.2.2.2.1 a.2.2.2.2.1 := by kernel_rfl
theorem saturateref12_Refused.con : ∀ (a : Int × Int × Int × (Nat × (Nat → Int)) × Int × Unit) (r : Int × Int), saturateref12_Refused.f a.1 a.2.1 a.2.2.1 a.2.2.2.1 a.2.2.2.2.1 = some r → Contract Tryz.prog 40 (saturateref12_Refused.a.enc a) (saturateref12_Refused.r.enc r) := Contract.of_body (by kernel_rfl) (by kernel_rfl) mixed (saturateref12_Refused.eq (fuel0 + 1))
noncomputable def saturateref12_Refused.c : Kn Tryz.prog := Kn.of 40 saturateref12_Refused.a saturateref12_Refused.r (fun a => saturateref12_Refused.f a.1 a.2.1 a.2.2.1 a.2.2.2.1 a.2.2.2.2.1) saturateref12_Refused.con
def saturateref12_Const.a : ACods (Int × Int × Unit) := (.cons (.val (.int .i64)) (.cons (.val (.int .u64)) .nil))
def saturateref12_Const.r : RCod (Int × Int) := .val (.agg (.cons (.int .u64) (.one (.int .u64))))
noncomputable def saturateref12_Const.cs : List (Kn Tryz.prog) := [saturateref01_Cut.c, saturateref01_Mask.c]
def saturateref12_Const.live : Nat → Option Keep := liveOf []
noncomputable def saturateref12_Const.f (a0 a1 : Int) : Option (Int × Int) :=
  (saturateref01_Cut.f a0 a1).bind fun r1 =>
  (saturateref01_Mask.f a0).bind fun r2 =>
  some ((IntKind.u64.wrap (r2 - r1)), r1)
theorem saturateref12_Const.eq (fu : Nat) (a : Int × Int × Unit) : bodyK Tryz.prog saturateref12_Const.cs saturateref12_Const.live fu Tryz.f100 (saturateref12_Const.a.enc a) saturateref12_Const.r.dec = saturateref12_Const.f a.1 a.2.1 := by kernel_rfl
theorem saturateref12_Const.con : ∀ (a : Int × Int × Unit) (r : Int × Int), saturateref12_Const.f a.1 a.2.1 = some r → Contract Tryz.prog 100 (saturateref12_Const.a.enc a) (saturateref12_Const.r.enc r) := Contract.of_body (by kernel_rfl) (by kernel_rfl) mixed (saturateref12_Const.eq (fuel0 + 1))
noncomputable def saturateref12_Const.c : Kn Tryz.prog := Kn.of 100 saturateref12_Const.a saturateref12_Const.r (fun a => saturateref12_Const.f a.1 a.2.1) saturateref12_Const.con
def saturateref12_Single.a : ACods (Int × (Int × Int) × Unit) := (.cons (.val (.int .i64)) (.cons (.val (.agg (.cons (.int .u64) (.one (.int .u64))))) .nil))
def saturateref12_Single.r : RCod (Int × Bool) := .val (.tup (.cons (.int .u64) (.one (.bool))))
noncomputable def saturateref12_Single.cs : List (Kn Tryz.prog) := [saturateref12_Of.c, saturateref01_Mask.c]
def saturateref12_Single.live : Nat → Option Keep := liveOf []
noncomputable def saturateref12_Single.f (a0 : Int) (a1 : Int × Int) : Option (Int × Bool) :=
  (saturateref12_Of.f a0 (a1.1, a1.2)).bind fun r1 =>
  (saturateref01_Mask.f a0).bind fun r2 =>
  bif ((IntKind.u64.wrap (r1.1 + r1.2)) != r2) then
    some (0, false)
  else
    some (r1.2, true)
theorem saturateref12_Single.eq (fu : Nat) (a : Int × (Int × Int) × Unit) : bodyK Tryz.prog saturateref12_Single.cs saturateref12_Single.live fu Tryz.f101 (saturateref12_Single.a.enc a) saturateref12_Single.r.dec = saturateref12_Single.f a.1 a.2.1 := by kernel_rfl
theorem saturateref12_Single.con : ∀ (a : Int × (Int × Int) × Unit) (r : Int × Bool), saturateref12_Single.f a.1 a.2.1 = some r → Contract Tryz.prog 101 (saturateref12_Single.a.enc a) (saturateref12_Single.r.enc r) := Contract.of_body (by kernel_rfl) (by kernel_rfl) mixed (saturateref12_Single.eq (fuel0 + 1))
noncomputable def saturateref12_Single.c : Kn Tryz.prog := Kn.of 101 saturateref12_Single.a saturateref12_Single.r (fun a => saturateref12_Single.f a.1 a.2.1) saturateref12_Single.con
def saturateref12_bit.a : ACods ((Int × Int) × Int × Unit) := (.cons (.val (.agg (.cons (.int .u64) (.one (.int .u64))))) (.cons (.val (.int .i64)) .nil))
def saturateref12_bit.r : RCod (Int) := .val (.int .i64)
noncomputable def saturateref12_bit.cs : List (Kn Tryz.prog) := [saturateref01_Bit.c]
def saturateref12_bit.live : Nat → Option Keep := liveOf []
noncomputable def saturateref12_bit.f (a0 : Int × Int) (a1 : Int) : Option (Int) :=
  bif (decide (a1 > 63)) then
    some 0
  else
    (saturateref01_Bit.f a0.1 a1).bind fun r1 =>
    bif (r1 == 1) then
      some 0
    else
      (saturateref01_Bit.f a0.2 a1).bind fun r2 =>
      bif (r2 == 1) then
        some 1
      else
        some 2
theorem saturateref12_bit.eq (fu : Nat) (a : (Int × Int) × Int × Unit) : bodyK Tryz.prog saturateref12_bit.cs saturateref12_bit.live fu Tryz.f158 (saturateref12_bit.a.enc a) saturateref12_bit.r.dec = saturateref12_bit.f a.1 a.2.1 := by kernel_rfl
theorem saturateref12_bit.con : ∀ (a : (Int × Int) × Int × Unit) (r : Int), saturateref12_bit.f a.1 a.2.1 = some r → Contract Tryz.prog 158 (saturateref12_bit.a.enc a) (saturateref12_bit.r.enc r) := Contract.of_body (by kernel_rfl) (by kernel_rfl) mixed (saturateref12_bit.eq (fuel0 + 1))
noncomputable def saturateref12_bit.c : Kn Tryz.prog := Kn.of 158 saturateref12_bit.a saturateref12_bit.r (fun a => saturateref12_bit.f a.1 a.2.1) saturateref12_bit.con
def saturateref12_with.a : ACods ((Int × Int) × Int × Int × Unit) := (.cons (.val (.agg (.cons (.int .u64) (.one (.int .u64))))) (.cons (.val (.int .i64)) (.cons (.val (.int .i64)) .nil)))
def saturateref12_with.r : RCod (Int × Int) := .val (.agg (.cons (.int .u64) (.one (.int .u64))))
noncomputable def saturateref12_with.cs : List (Kn Tryz.prog) := []
def saturateref12_with.live : Nat → Option Keep := liveOf [(12, ⟨[3, 6], [3, 6], [], [], []⟩)]
noncomputable def saturateref12_with.body : Code := bodyOf Tryz.f159
noncomputable def saturateref12_with.K (fu : Nat) : Code → St → (Ex → St → Option (Int × Int)) → Option (Int × Int) := codeK Tryz.prog (saturateref12_with.cs) saturateref12_with.live fu
noncomputable def saturateref12_with.p6 (m fu : Nat) (c3_0 c3_1 : Int) : Option (Int × Int) :=
  joinK m (saturateref12_with.K fu (sub saturateref12_with.body [true, true])) (stOf 27 [(3, .ptr 3 0 0 0), (6, .ptr 6 0 0 0)] [(3, .own [.val (.int .u64 c3_0), .val (.int .u64 c3_1)]), (6, .own [.val (.int .u64 0), .val (.int .u64 0)])]) (retC Tryz.prog Tryz.f159.results saturateref12_with.r.dec)
theorem saturateref12_with.p6_eq (m fu : Nat) (c3_0 c3_1 : Int) : saturateref12_with.p6 (m + 1) fu c3_0 c3_1 =
  some (c3_0, c3_1) := by kernel_rfl
noncomputable def saturateref12_with.g (fu : Nat) (a0 : Int × Int) (a1 a2 : Int) : Option (Int × Int) :=
  bif (a2 == 0) then
    bif decide ((IntKind.u64.wrap a1) < 0) then
      none
    else
      saturateref12_with.p6 fu fu (Go.bits .or .u64 a0.1 (shl .u64 1 (IntKind.u64.wrap a1))) a0.2
  else
    bif (a2 == 1) then
      bif decide ((IntKind.u64.wrap a1) < 0) then
        none
      else
        saturateref12_with.p6 fu fu a0.1 (Go.bits .or .u64 a0.2 (shl .u64 1 (IntKind.u64.wrap a1)))
    else
      saturateref12_with.p6 fu fu a0.1 a0.2
noncomputable def saturateref12_with.f (a0 : Int × Int) (a1 a2 : Int) : Option (Int × Int) := saturateref12_with.g (fuel0 + 1) a0 a1 a2
theorem saturateref12_with.eq (fu : Nat) (a : (Int × Int) × Int × Int × Unit) : bodyK Tryz.prog saturateref12_with.cs saturateref12_with.live fu Tryz.f159 (saturateref12_with.a.enc a) saturateref12_with.r.dec = saturateref12_with.g fu a.1 a.2.1 a.2.2.1 := by kernel_rfl
theorem saturateref12_with.con : ∀ (a : (Int × Int) × Int × Int × Unit) (r : Int × Int), saturateref12_with.f a.1 a.2.1 a.2.2.1 = some r → Contract Tryz.prog 159 (saturateref12_with.a.enc a) (saturateref12_with.r.enc r) := Contract.of_body (by kernel_rfl) (by kernel_rfl) mixed (saturateref12_with.eq (fuel0 + 1))
noncomputable def saturateref12_with.c : Kn Tryz.prog := Kn.of 159 saturateref12_with.a saturateref12_with.r (fun a => saturateref12_with.f a.1 a.2.1 a.2.2.1) saturateref12_with.con
def saturateref12_concat.a : ACods (Int × Int × (Int × Int) × (Int × Int) × Unit) := (.cons (.val (.int .i64)) (.cons (.val (.int .i64)) (.cons (.val (.agg (.cons (.int .u64) (.one (.int .u64))))) (.cons (.val (.agg (.cons (.int .u64) (.one (.int .u64))))) .nil))))
def saturateref12_concat.r : RCod (Int × Int) := .val (.agg (.cons (.int .u64) (.one (.int .u64))))
noncomputable def saturateref12_concat.cs : List (Kn Tryz.prog) := [saturateref12_Top.c, saturateref12_bit.c, saturateref12_with.c]
def saturateref12_concat.live : Nat → Option Keep := liveOf [(7, ⟨[0, 1, 6, 7, 8, 9, 10], [6, 7, 8, 9], [], [], []⟩), (16, ⟨[0, 1, 6, 7, 8, 9, 10, 11], [6, 7, 8, 9], [], [], []⟩)]
noncomputable def saturateref12_concat.body : Code := bodyOf Tryz.f102
noncomputable def saturateref12_concat.K (fu : Nat) : Code → St → (Ex → St → Option (Int × Int)) → Option (Int × Int) := codeK Tryz.prog (saturateref12_concat.cs) saturateref12_concat.live fu
noncomputable def saturateref12_concat.j3 (fu n3 : Nat) (x0 x1 x10 c6_0 c6_1 c7_0 c7_1 c8_0 c8_1 c9_0 c9_1 : Int) : Option (Int × Int) :=
  loopK (saturateref12_concat.K fu (sub saturateref12_concat.body [true, true, false, true, false, false])) (saturateref12_concat.live 7) n3 (stOf 36 [(0, .val (.int .i64 x0)), (1, .val (.int .i64 x1)), (6, .ptr 6 0 0 0), (7, .ptr 7 0 0 0), (8, .ptr 8 0 0 0), (9, .ptr 9 0 0 0), (10, .val (.int .i64 x10))] [(6, .own [.val (.int .u64 c6_0), .val (.int .u64 c6_1)]), (7, .own [.val (.int .u64 c7_0), .val (.int .u64 c7_1)]), (8, .own [.val (.int .u64 c8_0), .val (.int .u64 c8_1)]), (9, .own [.val (.int .u64 c9_0), .val (.int .u64 c9_1)])]) (blockC 0 (seqC fu (saturateref12_concat.live 18) (saturateref12_concat.K fu (sub saturateref12_concat.body [true, true, true])) (retC Tryz.prog Tryz.f102.results saturateref12_concat.r.dec)))
noncomputable def saturateref12_concat.p8 (m fu : Nat) (n3 : Nat) (x0 x1 x10 x11 c6_0 c6_1 c7_0 c7_1 c8_0 c8_1 c9_0 c9_1 : Int) : Option (Int × Int) :=
  joinK m (saturateref12_concat.K fu (sub saturateref12_concat.body [true, true, false, true, false, false, true, false, false, true, true])) (stOf 36 [(0, .val (.int .i64 x0)), (1, .val (.int .i64 x1)), (6, .ptr 6 0 0 0), (7, .ptr 7 0 0 0), (8, .ptr 8 0 0 0), (9, .ptr 9 0 0 0), (10, .val (.int .i64 x10)), (11, .val (.int .i64 x11))] [(6, .own [.val (.int .u64 c6_0), .val (.int .u64 c6_1)]), (7, .own [.val (.int .u64 c7_0), .val (.int .u64 c7_1)]), (8, .own [.val (.int .u64 c8_0), .val (.int .u64 c8_1)]), (9, .own [.val (.int .u64 c9_0), .val (.int .u64 c9_1)])]) (blockC 1 (seqC fu (saturateref12_concat.live 8) (saturateref12_concat.K fu (sub saturateref12_concat.body [true, true, false, true, false, false, true, true])) (roundC (saturateref12_concat.live 7) (loopK (saturateref12_concat.K fu (sub saturateref12_concat.body [true, true, false, true, false, false])) (saturateref12_concat.live 7) n3) (blockC 0 (seqC fu (saturateref12_concat.live 18) (saturateref12_concat.K fu (sub saturateref12_concat.body [true, true, true])) (retC Tryz.prog Tryz.f102.results saturateref12_concat.r.dec))))))
theorem saturateref12_concat.p8_eq (m fu : Nat) (n3 : Nat) (x0 x1 x10 x11 c6_0 c6_1 c7_0 c7_1 c8_0 c8_1 c9_0 c9_1 : Int) : saturateref12_concat.p8 (m + 1) fu n3 x0 x1 x10 x11 c6_0 c6_1 c7_0 c7_1 c8_0 c8_1 c9_0 c9_1 =
  (saturateref12_with.f (c9_0, c9_1) x10 x11).bind fun r4 =>
  saturateref12_concat.j3 fu n3 x0 x1 (IntKind.i64.wrap (x10 + 1)) c6_0 c6_1 c7_0 c7_1 c8_0 c8_1 r4.1 r4.2 := by kernel_rfl
theorem saturateref12_concat.j3_succ (fu n3 : Nat) (x0 x1 x10 c6_0 c6_1 c7_0 c7_1 c8_0 c8_1 c9_0 c9_1 : Int) : saturateref12_concat.j3 fu (n3 + 1) x0 x1 x10 c6_0 c6_1 c7_0 c7_1 c8_0 c8_1 c9_0 c9_1 =
  bif (decide (x10 < (IntKind.i64.wrap (x0 + x1)))) then
    (saturateref12_bit.f (c7_0, c7_1) x10).bind fun r2 =>
    bif (decide (x10 ≥ x1)) then
      (saturateref12_bit.f (c6_0, c6_1) (IntKind.i64.wrap (x10 - x1))).bind fun r3 =>
      saturateref12_concat.p8 fu fu n3 x0 x1 x10 r3 c6_0 c6_1 c7_0 c7_1 c8_0 c8_1 c9_0 c9_1
    else
      saturateref12_concat.p8 fu fu n3 x0 x1 x10 r2 c6_0 c6_1 c7_0 c7_1 c8_0 c8_1 c9_0 c9_1
  else
    some (c9_0, c9_1) := by kernel_rfl
noncomputable def saturateref12_concat.g (fu : Nat) (a0 a1 : Int) (a2 : Int × Int) (a3 : Int × Int) : Option (Int × Int) :=
  (saturateref12_Top.f).bind fun r1 =>
  saturateref12_concat.j3 fu fu a0 a1 0 a2.1 a2.2 a3.1 a3.2 0 0 r1.1 r1.2
noncomputable def saturateref12_concat.f (a0 a1 : Int) (a2 : Int × Int) (a3 : Int × Int) : Option (Int × Int) := saturateref12_concat.g (fuel0 + 1) a0 a1 a2 a3
theorem saturateref12_concat.eq (fu : Nat) (a : Int × Int × (Int × Int) × (Int × Int) × Unit) : bodyK Tryz.prog saturateref12_concat.cs saturateref12_concat.live fu Tryz.f102 (saturateref12_concat.a.enc a) saturateref12_concat.r.dec = saturateref12_concat.g fu a.1 a.2.1 a.2.2.1 a.2.2.2.1 := by kernel_rfl
theorem saturateref12_concat.con : ∀ (a : Int × Int × (Int × Int) × (Int × Int) × Unit) (r : Int × Int), saturateref12_concat.f a.1 a.2.1 a.2.2.1 a.2.2.2.1 = some r → Contract Tryz.prog 102 (saturateref12_concat.a.enc a) (saturateref12_concat.r.enc r) := Contract.of_body (by kernel_rfl) (by kernel_rfl) mixed (saturateref12_concat.eq (fuel0 + 1))
noncomputable def saturateref12_concat.c : Kn Tryz.prog := Kn.of 102 saturateref12_concat.a saturateref12_concat.r (fun a => saturateref12_concat.f a.1 a.2.1 a.2.2.1 a.2.2.2.1) saturateref12_concat.con
def saturateref12_Not.a : ACods (Int × (Int × Int) × Unit) := (.cons (.val (.int .i64)) (.cons (.val (.agg (.cons (.int .u64) (.one (.int .u64))))) .nil))
def saturateref12_Not.r : RCod (Int × Int) := .val (.agg (.cons (.int .u64) (.one (.int .u64))))
noncomputable def saturateref12_Not.cs : List (Kn Tryz.prog) := []
def saturateref12_Not.live : Nat → Option Keep := liveOf []
noncomputable def saturateref12_Not.f (a0 : Int) (a1 : Int × Int) : Option (Int × Int) :=
  some (a1.2, a1.1)
theorem saturateref12_Not.eq (fu : Nat) (a : Int × (Int × Int) × Unit) : bodyK Tryz.prog saturateref12_Not.cs saturateref12_Not.live fu Tryz.f160 (saturateref12_Not.a.enc a) saturateref12_Not.r.dec = saturateref12_Not.f a.1 a.2.1 := by kernel_rfl
theorem saturateref12_Not.con : ∀ (a : Int × (Int × Int) × Unit) (r : Int × Int), saturateref12_Not.f a.1 a.2.1 = some r → Contract Tryz.prog 160 (saturateref12_Not.a.enc a) (saturateref12_Not.r.enc r) := Contract.of_body (by kernel_rfl) (by kernel_rfl) mixed (saturateref12_Not.eq (fuel0 + 1))
noncomputable def saturateref12_Not.c : Kn Tryz.prog := Kn.of 160 saturateref12_Not.a saturateref12_Not.r (fun a => saturateref12_Not.f a.1 a.2.1) saturateref12_Not.con
def saturateref12_xor.a : ACods (Int × Int × Unit) := (.cons (.val (.int .i64)) (.cons (.val (.int .i64)) .nil))
def saturateref12_xor.r : RCod (Int) := .val (.int .i64)
noncomputable def saturateref12_xor.cs : List (Kn Tryz.prog) := []
def saturateref12_xor.live : Nat → Option Keep := liveOf []
noncomputable def saturateref12_xor.f (a0 a1 : Int) : Option (Int) :=
  bif (a0 == 2) then
    some 2
  else
    bif (a1 == 2) then
      some 2
    else
      some (Int.tmod (IntKind.i64.wrap (a0 + a1)) 2)
theorem saturateref12_xor.eq (fu : Nat) (a : Int × Int × Unit) : bodyK Tryz.prog saturateref12_xor.cs saturateref12_xor.live fu Tryz.f234 (saturateref12_xor.a.enc a) saturateref12_xor.r.dec = saturateref12_xor.f a.1 a.2.1 := by kernel_rfl
theorem saturateref12_xor.con : ∀ (a : Int × Int × Unit) (r : Int), saturateref12_xor.f a.1 a.2.1 = some r → Contract Tryz.prog 234 (saturateref12_xor.a.enc a) (saturateref12_xor.r.enc r) := Contract.of_body (by kernel_rfl) (by kernel_rfl) mixed (saturateref12_xor.eq (fuel0 + 1))
noncomputable def saturateref12_xor.c : Kn Tryz.prog := Kn.of 234 saturateref12_xor.a saturateref12_xor.r (fun a => saturateref12_xor.f a.1 a.2.1) saturateref12_xor.con
def saturateref12_most.a : ACods (Int × Int × Int × Unit) := (.cons (.val (.int .i64)) (.cons (.val (.int .i64)) (.cons (.val (.int .i64)) .nil)))
def saturateref12_most.r : RCod (Int) := .val (.int .i64)
noncomputable def saturateref12_most.cs : List (Kn Tryz.prog) := []
def saturateref12_most.live : Nat → Option Keep := liveOf [(5, ⟨[0, 1, 2, 7], [], [], [], []⟩), (6, ⟨[0, 1, 2, 7], [], [], [], []⟩)]
noncomputable def saturateref12_most.body : Code := bodyOf Tryz.f235
noncomputable def saturateref12_most.K (fu : Nat) : Code → St → (Ex → St → Option (Int)) → Option (Int) := codeK Tryz.prog (saturateref12_most.cs) saturateref12_most.live fu
noncomputable def saturateref12_most.j2 (fu n2 : Nat) (x0 x1 x2 x7 : Int) : Option Int :=
  loopK (saturateref12_most.K fu (sub saturateref12_most.body [true, false, true, false, false])) (saturateref12_most.live 5) n2 (stOf 41 [(0, .val (.int .i64 x0)), (1, .val (.int .i64 x1)), (2, .val (.int .i64 x2)), (7, .val (.int .i64 x7))] []) (blockC 0 (seqC fu (saturateref12_most.live 12) (saturateref12_most.K fu (sub saturateref12_most.body [true, true])) (retC Tryz.prog Tryz.f235.results saturateref12_most.r.dec)))
noncomputable def saturateref12_most.p3 (m fu : Nat) (n2 : Nat) (x0 x1 x2 x7 : Int) : Option Int :=
  joinK m (saturateref12_most.K fu (sub saturateref12_most.body [true, false, true, false, false, true, true])) (stOf 41 [(0, .val (.int .i64 x0)), (1, .val (.int .i64 x1)), (2, .val (.int .i64 x2)), (7, .val (.int .i64 x7))] []) (roundC (saturateref12_most.live 5) (loopK (saturateref12_most.K fu (sub saturateref12_most.body [true, false, true, false, false])) (saturateref12_most.live 5) n2) (blockC 0 (seqC fu (saturateref12_most.live 12) (saturateref12_most.K fu (sub saturateref12_most.body [true, true])) (retC Tryz.prog Tryz.f235.results saturateref12_most.r.dec))))
theorem saturateref12_most.p3_eq (m fu : Nat) (n2 : Nat) (x0 x1 x2 x7 : Int) : saturateref12_most.p3 (m + 1) fu n2 x0 x1 x2 x7 =
  saturateref12_most.j2 fu n2 x0 x1 x2 (IntKind.i64.wrap (x7 + 1)) := by kernel_rfl
theorem saturateref12_most.j2_succ (fu n2 : Nat) (x0 x1 x2 x7 : Int) : saturateref12_most.j2 fu (n2 + 1) x0 x1 x2 x7 =
  bif (decide (x7 ≤ 1)) then
    bif (x0 == x7) then
      bif (x1 == x7) then
        some x7
      else
        bif (x0 == x7) then
          bif (x2 == x7) then
            some x7
          else
            bif (x1 == x7) then
              bif (x2 == x7) then
                some x7
              else
                saturateref12_most.p3 fu fu n2 x0 x1 x2 x7
            else
              saturateref12_most.p3 fu fu n2 x0 x1 x2 x7
        else
          bif (x1 == x7) then
            bif (x2 == x7) then
              some x7
            else
              saturateref12_most.p3 fu fu n2 x0 x1 x2 x7
          else
            saturateref12_most.p3 fu fu n2 x0 x1 x2 x7
    else
      bif (x0 == x7) then
        bif (x2 == x7) then
          some x7
        else
          bif (x1 == x7) then
            bif (x2 == x7) then
              some x7
            else
              saturateref12_most.p3 fu fu n2 x0 x1 x2 x7
          else
            saturateref12_most.p3 fu fu n2 x0 x1 x2 x7
      else
        bif (x1 == x7) then
          bif (x2 == x7) then
            some x7
          else
            saturateref12_most.p3 fu fu n2 x0 x1 x2 x7
        else
          saturateref12_most.p3 fu fu n2 x0 x1 x2 x7
  else
    some 2 := by kernel_rfl
noncomputable def saturateref12_most.g (fu : Nat) (a0 a1 a2 : Int) : Option (Int) :=
  saturateref12_most.j2 fu fu a0 a1 a2 0
noncomputable def saturateref12_most.f (a0 a1 a2 : Int) : Option (Int) := saturateref12_most.g (fuel0 + 1) a0 a1 a2
theorem saturateref12_most.eq (fu : Nat) (a : Int × Int × Int × Unit) : bodyK Tryz.prog saturateref12_most.cs saturateref12_most.live fu Tryz.f235 (saturateref12_most.a.enc a) saturateref12_most.r.dec = saturateref12_most.g fu a.1 a.2.1 a.2.2.1 := by kernel_rfl
theorem saturateref12_most.con : ∀ (a : Int × Int × Int × Unit) (r : Int), saturateref12_most.f a.1 a.2.1 a.2.2.1 = some r → Contract Tryz.prog 235 (saturateref12_most.a.enc a) (saturateref12_most.r.enc r) := Contract.of_body (by kernel_rfl) (by kernel_rfl) mixed (saturateref12_most.eq (fuel0 + 1))
noncomputable def saturateref12_most.c : Kn Tryz.prog := Kn.of 235 saturateref12_most.a saturateref12_most.r (fun a => saturateref12_most.f a.1 a.2.1 a.2.2.1) saturateref12_most.con
def saturateref12_sum.a : ACods (Int × (Int × Int) × (Int × Int) × Int × Unit) := (.cons (.val (.int .i64)) (.cons (.val (.agg (.cons (.int .u64) (.one (.int .u64))))) (.cons (.val (.agg (.cons (.int .u64) (.one (.int .u64))))) (.cons (.val (.int .i64)) .nil))))
def saturateref12_sum.r : RCod (Int × Int) := .val (.agg (.cons (.int .u64) (.one (.int .u64))))
noncomputable def saturateref12_sum.cs : List (Kn Tryz.prog) := [saturateref12_Top.c, saturateref01_W.c, saturateref12_bit.c, saturateref12_xor.c, saturateref12_with.c, saturateref12_most.c]
def saturateref12_sum.live : Nat → Option Keep := liveOf [(7, ⟨[0, 3, 5, 6, 8, 9, 10], [5, 6, 8, 9], [], [], []⟩)]
noncomputable def saturateref12_sum.body : Code := bodyOf Tryz.f218
noncomputable def saturateref12_sum.K (fu : Nat) : Code → St → (Ex → St → Option (Int × Int)) → Option (Int × Int) := codeK Tryz.prog (saturateref12_sum.cs) saturateref12_sum.live fu
noncomputable def saturateref12_sum.j3 (fu n3 : Nat) (x0 x3 x10 c5_0 c5_1 c6_0 c6_1 c8_0 c8_1 c9_0 c9_1 : Int) : Option (Int × Int) :=
  loopK (saturateref12_sum.K fu (sub saturateref12_sum.body [true, true, false, true, false, false])) (saturateref12_sum.live 7) n3 (stOf 39 [(0, .val (.int .i64 x0)), (3, .val (.int .i64 x3)), (5, .ptr 5 0 0 0), (6, .ptr 6 0 0 0), (8, .ptr 8 0 0 0), (9, .ptr 9 0 0 0), (10, .val (.int .i64 x10))] [(5, .own [.val (.int .u64 c5_0), .val (.int .u64 c5_1)]), (6, .own [.val (.int .u64 c6_0), .val (.int .u64 c6_1)]), (8, .own [.val (.int .u64 c8_0), .val (.int .u64 c8_1)]), (9, .own [.val (.int .u64 c9_0), .val (.int .u64 c9_1)])]) (blockC 0 (seqC fu (saturateref12_sum.live 16) (saturateref12_sum.K fu (sub saturateref12_sum.body [true, true, true])) (retC Tryz.prog Tryz.f218.results saturateref12_sum.r.dec)))
theorem saturateref12_sum.j3_succ (fu n3 : Nat) (x0 x3 x10 c5_0 c5_1 c6_0 c6_1 c8_0 c8_1 c9_0 c9_1 : Int) : saturateref12_sum.j3 fu (n3 + 1) x0 x3 x10 c5_0 c5_1 c6_0 c6_1 c8_0 c8_1 c9_0 c9_1 =
  (saturateref01_W.f x0).bind fun r2 =>
  bif (decide (x10 < r2)) then
    (saturateref12_bit.f (c5_0, c5_1) x10).bind fun r3 =>
    (saturateref12_bit.f (c6_0, c6_1) x10).bind fun r4 =>
    (saturateref12_xor.f r3 r4).bind fun r5 =>
    (saturateref12_xor.f r5 x3).bind fun r6 =>
    (saturateref12_with.f (c9_0, c9_1) x10 r6).bind fun r7 =>
    (saturateref12_most.f r3 r4 x3).bind fun r8 =>
    saturateref12_sum.j3 fu n3 x0 r8 (IntKind.i64.wrap (x10 + 1)) c5_0 c5_1 c6_0 c6_1 c8_0 c8_1 r7.1 r7.2
  else
    some (c9_0, c9_1) := by kernel_rfl
noncomputable def saturateref12_sum.g (fu : Nat) (a0 : Int) (a1 : Int × Int) (a2 : Int × Int) (a3 : Int) : Option (Int × Int) :=
  (saturateref12_Top.f).bind fun r1 =>
  saturateref12_sum.j3 fu fu a0 a3 0 a1.1 a1.2 a2.1 a2.2 0 0 r1.1 r1.2
noncomputable def saturateref12_sum.f (a0 : Int) (a1 : Int × Int) (a2 : Int × Int) (a3 : Int) : Option (Int × Int) := saturateref12_sum.g (fuel0 + 1) a0 a1 a2 a3
theorem saturateref12_sum.eq (fu : Nat) (a : Int × (Int × Int) × (Int × Int) × Int × Unit) : bodyK Tryz.prog saturateref12_sum.cs saturateref12_sum.live fu Tryz.f218 (saturateref12_sum.a.enc a) saturateref12_sum.r.dec = saturateref12_sum.g fu a.1 a.2.1 a.2.2.1 a.2.2.2.1 := by kernel_rfl
theorem saturateref12_sum.con : ∀ (a : Int × (Int × Int) × (Int × Int) × Int × Unit) (r : Int × Int), saturateref12_sum.f a.1 a.2.1 a.2.2.1 a.2.2.2.1 = some r → Contract Tryz.prog 218 (saturateref12_sum.a.enc a) (saturateref12_sum.r.enc r) := Contract.of_body (by kernel_rfl) (by kernel_rfl) mixed (saturateref12_sum.eq (fuel0 + 1))
noncomputable def saturateref12_sum.c : Kn Tryz.prog := Kn.of 218 saturateref12_sum.a saturateref12_sum.r (fun a => saturateref12_sum.f a.1 a.2.1 a.2.2.1 a.2.2.2.1) saturateref12_sum.con
def saturateref12_Sub.a : ACods (Int × (Int × Int) × (Int × Int) × Unit) := (.cons (.val (.int .i64)) (.cons (.val (.agg (.cons (.int .u64) (.one (.int .u64))))) (.cons (.val (.agg (.cons (.int .u64) (.one (.int .u64))))) .nil)))
def saturateref12_Sub.r : RCod (Int × Int) := .val (.agg (.cons (.int .u64) (.one (.int .u64))))
noncomputable def saturateref12_Sub.cs : List (Kn Tryz.prog) := [saturateref12_Of.c, saturateref12_Not.c, saturateref12_sum.c]
def saturateref12_Sub.live : Nat → Option Keep := liveOf []
noncomputable def saturateref12_Sub.f (a0 : Int) (a1 : Int × Int) (a2 : Int × Int) : Option (Int × Int) :=
  (saturateref12_Of.f a0 (a1.1, a1.2)).bind fun r1 =>
  (saturateref12_Of.f a0 (a2.1, a2.2)).bind fun r2 =>
  (saturateref12_Not.f a0 (r2.1, r2.2)).bind fun r3 =>
  (saturateref12_sum.f a0 (r1.1, r1.2) (r3.1, r3.2) 1).bind fun r4 =>
  some (r4.1, r4.2)
theorem saturateref12_Sub.eq (fu : Nat) (a : Int × (Int × Int) × (Int × Int) × Unit) : bodyK Tryz.prog saturateref12_Sub.cs saturateref12_Sub.live fu Tryz.f161 (saturateref12_Sub.a.enc a) saturateref12_Sub.r.dec = saturateref12_Sub.f a.1 a.2.1 a.2.2.1 := by kernel_rfl
theorem saturateref12_Sub.con : ∀ (a : Int × (Int × Int) × (Int × Int) × Unit) (r : Int × Int), saturateref12_Sub.f a.1 a.2.1 a.2.2.1 = some r → Contract Tryz.prog 161 (saturateref12_Sub.a.enc a) (saturateref12_Sub.r.enc r) := Contract.of_body (by kernel_rfl) (by kernel_rfl) mixed (saturateref12_Sub.eq (fuel0 + 1))
noncomputable def saturateref12_Sub.c : Kn Tryz.prog := Kn.of 161 saturateref12_Sub.a saturateref12_Sub.r (fun a => saturateref12_Sub.f a.1 a.2.1 a.2.2.1) saturateref12_Sub.con
def saturateref12_unary.a : ACods (Int × Int × Int × Int × (Int × Int) × Unit) := (.cons (.val (.int .i64)) (.cons (.val (.int .i64)) (.cons (.val (.int .u64)) (.cons (.val (.int .i64)) (.cons (.val (.agg (.cons (.int .u64) (.one (.int .u64))))) .nil)))))
def saturateref12_unary.r : RCod (Int × Int) := .val (.agg (.cons (.int .u64) (.one (.int .u64))))
noncomputable def saturateref12_unary.cs : List (Kn Tryz.prog) := [saturateref12_Not.c, saturateref12_Const.c, saturateref12_Sub.c, saturateref12_Top.c, saturateref12_bit.c, saturateref12_with.c]
def saturateref12_unary.live : Nat → Option Keep := liveOf [(17, ⟨[0, 1, 2, 3, 9, 10, 11, 12], [9, 10, 11], [], [], []⟩), (34, ⟨[0, 1, 2, 3, 9, 10, 11, 12, 13], [9, 10, 11], [], [], []⟩)]
noncomputable def saturateref12_unary.body : Code := bodyOf Tryz.f103
noncomputable def saturateref12_unary.K (fu : Nat) : Code → St → (Ex → St → Option (Int × Int)) → Option (Int × Int) := codeK Tryz.prog (saturateref12_unary.cs) saturateref12_unary.live fu
noncomputable def saturateref12_unary.j8 (fu n8 : Nat) (x0 x1 x2 x3 x12 c9_0 c9_1 c10_0 c10_1 c11_0 c11_1 : Int) : Option (Int × Int) :=
  loopK (saturateref12_unary.K fu (sub saturateref12_unary.body [true, true, true, false, true, false, false])) (saturateref12_unary.live 17) n8 (stOf 61 [(0, .val (.int .i64 x0)), (1, .val (.int .i64 x1)), (2, .val (.int .u64 x2)), (3, .val (.int .i64 x3)), (9, .ptr 9 0 0 0), (10, .ptr 10 0 0 0), (11, .ptr 11 0 0 0), (12, .val (.int .i64 x12))] [(9, .own [.val (.int .u64 c9_0), .val (.int .u64 c9_1)]), (10, .own [.val (.int .u64 c10_0), .val (.int .u64 c10_1)]), (11, .own [.val (.int .u64 c11_0), .val (.int .u64 c11_1)])]) (blockC 1 (seqC fu (saturateref12_unary.live 36) (saturateref12_unary.K fu (sub saturateref12_unary.body [true, true, true, true])) (retC Tryz.prog Tryz.f103.results saturateref12_unary.r.dec)))
noncomputable def saturateref12_unary.p17 (m fu : Nat) (n8 : Nat) (x0 x1 x2 x3 x12 x13 c9_0 c9_1 c10_0 c10_1 c11_0 c11_1 : Int) : Option (Int × Int) :=
  joinK m (saturateref12_unary.K fu (sub saturateref12_unary.body [true, true, true, false, true, false, false, true, false, false, true, true])) (stOf 61 [(0, .val (.int .i64 x0)), (1, .val (.int .i64 x1)), (2, .val (.int .u64 x2)), (3, .val (.int .i64 x3)), (9, .ptr 9 0 0 0), (10, .ptr 10 0 0 0), (11, .ptr 11 0 0 0), (12, .val (.int .i64 x12)), (13, .val (.int .i64 x13))] [(9, .own [.val (.int .u64 c9_0), .val (.int .u64 c9_1)]), (10, .own [.val (.int .u64 c10_0), .val (.int .u64 c10_1)]), (11, .own [.val (.int .u64 c11_0), .val (.int .u64 c11_1)])]) (blockC 2 (seqC fu (saturateref12_unary.live 18) (saturateref12_unary.K fu (sub saturateref12_unary.body [true, true, true, false, true, false, false, true, true])) (roundC (saturateref12_unary.live 17) (loopK (saturateref12_unary.K fu (sub saturateref12_unary.body [true, true, true, false, true, false, false])) (saturateref12_unary.live 17) n8) (blockC 1 (seqC fu (saturateref12_unary.live 36) (saturateref12_unary.K fu (sub saturateref12_unary.body [true, true, true, true])) (retC Tryz.prog Tryz.f103.results saturateref12_unary.r.dec))))))
theorem saturateref12_unary.p17_eq (m fu : Nat) (n8 : Nat) (x0 x1 x2 x3 x12 x13 c9_0 c9_1 c10_0 c10_1 c11_0 c11_1 : Int) : saturateref12_unary.p17 (m + 1) fu n8 x0 x1 x2 x3 x12 x13 c9_0 c9_1 c10_0 c10_1 c11_0 c11_1 =
  (saturateref12_with.f (c11_0, c11_1) x12 x13).bind fun r6 =>
  saturateref12_unary.j8 fu n8 x0 x1 x2 x3 (IntKind.i64.wrap (x12 + 1)) c9_0 c9_1 c10_0 c10_1 r6.1 r6.2 := by kernel_rfl
theorem saturateref12_unary.j8_succ (fu n8 : Nat) (x0 x1 x2 x3 x12 c9_0 c9_1 c10_0 c10_1 c11_0 c11_1 : Int) : saturateref12_unary.j8 fu (n8 + 1) x0 x1 x2 x3 x12 c9_0 c9_1 c10_0 c10_1 c11_0 c11_1 =
  bif (decide (x12 < x1)) then
    bif (x0 == 21) then
      (saturateref12_bit.f (c9_0, c9_1) (IntKind.i64.wrap (x12 + (IntKind.i64.wrap x2)))).bind fun r5 =>
      saturateref12_unary.p17 fu fu n8 x0 x1 x2 x3 x12 r5 c9_0 c9_1 c10_0 c10_1 c11_0 c11_1
    else
      bif (decide (x12 < x3)) then
        (saturateref12_bit.f (c9_0, c9_1) x12).bind fun r7 =>
        saturateref12_unary.p17 fu fu n8 x0 x1 x2 x3 x12 r7 c9_0 c9_1 c10_0 c10_1 c11_0 c11_1
      else
        bif (x0 == 23) then
          (saturateref12_bit.f (c9_0, c9_1) (IntKind.i64.wrap (x3 - 1))).bind fun r8 =>
          saturateref12_unary.p17 fu fu n8 x0 x1 x2 x3 x12 r8 c9_0 c9_1 c10_0 c10_1 c11_0 c11_1
        else
          saturateref12_unary.p17 fu fu n8 x0 x1 x2 x3 x12 0 c9_0 c9_1 c10_0 c10_1 c11_0 c11_1
  else
    some (c11_0, c11_1) := by kernel_rfl
noncomputable def saturateref12_unary.g (fu : Nat) (a0 a1 a2 a3 : Int) (a4 : Int × Int) : Option (Int × Int) :=
  bif (a0 == 3) then
    (saturateref12_Not.f a3 (a4.1, a4.2)).bind fun r1 =>
    some (r1.1, r1.2)
  else
    bif (a0 == 4) then
      (saturateref12_Const.f a3 0).bind fun r2 =>
      (saturateref12_Sub.f a3 (r2.1, r2.2) (a4.1, a4.2)).bind fun r3 =>
      some (r3.1, r3.2)
    else
      (saturateref12_Top.f).bind fun r4 =>
      saturateref12_unary.j8 fu fu a0 a1 a2 a3 0 a4.1 a4.2 0 0 r4.1 r4.2
noncomputable def saturateref12_unary.f (a0 a1 a2 a3 : Int) (a4 : Int × Int) : Option (Int × Int) := saturateref12_unary.g (fuel0 + 1) a0 a1 a2 a3 a4
theorem saturateref12_unary.eq (fu : Nat) (a : Int × Int × Int × Int × (Int × Int) × Unit) : bodyK Tryz.prog saturateref12_unary.cs saturateref12_unary.live fu Tryz.f103 (saturateref12_unary.a.enc a) saturateref12_unary.r.dec = saturateref12_unary.g fu a.1 a.2.1 a.2.2.1 a.2.2.2.1 a.2.2.2.2.1 := by kernel_rfl
theorem saturateref12_unary.con : ∀ (a : Int × Int × Int × Int × (Int × Int) × Unit) (r : Int × Int), saturateref12_unary.f a.1 a.2.1 a.2.2.1 a.2.2.2.1 a.2.2.2.2.1 = some r → Contract Tryz.prog 103 (saturateref12_unary.a.enc a) (saturateref12_unary.r.enc r) := Contract.of_body (by kernel_rfl) (by kernel_rfl) mixed (saturateref12_unary.eq (fuel0 + 1))
noncomputable def saturateref12_unary.c : Kn Tryz.prog := Kn.of 103 saturateref12_unary.a saturateref12_unary.r (fun a => saturateref12_unary.f a.1 a.2.1 a.2.2.1 a.2.2.2.1 a.2.2.2.2.1) saturateref12_unary.con
def saturateref12_bitwise.a : ACods (Int × (Int × Int) × (Int × Int) × Unit) := (.cons (.val (.int .i64)) (.cons (.val (.agg (.cons (.int .u64) (.one (.int .u64))))) (.cons (.val (.agg (.cons (.int .u64) (.one (.int .u64))))) .nil)))
def saturateref12_bitwise.r : RCod (Int × Int) := .val (.agg (.cons (.int .u64) (.one (.int .u64))))
noncomputable def saturateref12_bitwise.cs : List (Kn Tryz.prog) := []
def saturateref12_bitwise.live : Nat → Option Keep := liveOf []
noncomputable def saturateref12_bitwise.f (a0 : Int) (a1 : Int × Int) (a2 : Int × Int) : Option (Int × Int) :=
  bif (a0 == 5) then
    some ((Go.bits .or .u64 a1.1 a2.1), (Go.bits .and .u64 a1.2 a2.2))
  else
    bif (a0 == 6) then
      some ((Go.bits .and .u64 a1.1 a2.1), (Go.bits .or .u64 a1.2 a2.2))
    else
      some ((Go.bits .or .u64 (Go.bits .and .u64 a1.1 a2.1) (Go.bits .and .u64 a1.2 a2.2)), (Go.bits .or .u64 (Go.bits .and .u64 a1.1 a2.2) (Go.bits .and .u64 a1.2 a2.1)))
theorem saturateref12_bitwise.eq (fu : Nat) (a : Int × (Int × Int) × (Int × Int) × Unit) : bodyK Tryz.prog saturateref12_bitwise.cs saturateref12_bitwise.live fu Tryz.f162 (saturateref12_bitwise.a.enc a) saturateref12_bitwise.r.dec = saturateref12_bitwise.f a.1 a.2.1 a.2.2.1 := by kernel_rfl
theorem saturateref12_bitwise.con : ∀ (a : Int × (Int × Int) × (Int × Int) × Unit) (r : Int × Int), saturateref12_bitwise.f a.1 a.2.1 a.2.2.1 = some r → Contract Tryz.prog 162 (saturateref12_bitwise.a.enc a) (saturateref12_bitwise.r.enc r) := Contract.of_body (by kernel_rfl) (by kernel_rfl) mixed (saturateref12_bitwise.eq (fuel0 + 1))
noncomputable def saturateref12_bitwise.c : Kn Tryz.prog := Kn.of 162 saturateref12_bitwise.a saturateref12_bitwise.r (fun a => saturateref12_bitwise.f a.1 a.2.1 a.2.2.1) saturateref12_bitwise.con
def saturateref12_Add.a : ACods (Int × (Int × Int) × (Int × Int) × Unit) := (.cons (.val (.int .i64)) (.cons (.val (.agg (.cons (.int .u64) (.one (.int .u64))))) (.cons (.val (.agg (.cons (.int .u64) (.one (.int .u64))))) .nil)))
def saturateref12_Add.r : RCod (Int × Int) := .val (.agg (.cons (.int .u64) (.one (.int .u64))))
noncomputable def saturateref12_Add.cs : List (Kn Tryz.prog) := [saturateref12_Of.c, saturateref12_sum.c]
def saturateref12_Add.live : Nat → Option Keep := liveOf []
noncomputable def saturateref12_Add.f (a0 : Int) (a1 : Int × Int) (a2 : Int × Int) : Option (Int × Int) :=
  (saturateref12_Of.f a0 (a1.1, a1.2)).bind fun r1 =>
  (saturateref12_Of.f a0 (a2.1, a2.2)).bind fun r2 =>
  (saturateref12_sum.f a0 (r1.1, r1.2) (r2.1, r2.2) 0).bind fun r3 =>
  some (r3.1, r3.2)
theorem saturateref12_Add.eq (fu : Nat) (a : Int × (Int × Int) × (Int × Int) × Unit) : bodyK Tryz.prog saturateref12_Add.cs saturateref12_Add.live fu Tryz.f163 (saturateref12_Add.a.enc a) saturateref12_Add.r.dec = saturateref12_Add.f a.1 a.2.1 a.2.2.1 := by kernel_rfl
theorem saturateref12_Add.con : ∀ (a : Int × (Int × Int) × (Int × Int) × Unit) (r : Int × Int), saturateref12_Add.f a.1 a.2.1 a.2.2.1 = some r → Contract Tryz.prog 163 (saturateref12_Add.a.enc a) (saturateref12_Add.r.enc r) := Contract.of_body (by kernel_rfl) (by kernel_rfl) mixed (saturateref12_Add.eq (fuel0 + 1))
noncomputable def saturateref12_Add.c : Kn Tryz.prog := Kn.of 163 saturateref12_Add.a saturateref12_Add.r (fun a => saturateref12_Add.f a.1 a.2.1 a.2.2.1) saturateref12_Add.con
def saturateref01_Add.a : ACods (Int × Int × Int × Unit) := (.cons (.val (.int .i64)) (.cons (.val (.int .u64)) (.cons (.val (.int .u64)) .nil)))
def saturateref01_Add.r : RCod (Int) := .val (.int .u64)
noncomputable def saturateref01_Add.cs : List (Kn Tryz.prog) := [saturateref01_W.c, saturateref01_Bit.c]
def saturateref01_Add.live : Nat → Option Keep := liveOf [(7, ⟨[1, 2, 7, 8, 12, 13], [], [], [], []⟩)]
noncomputable def saturateref01_Add.body : Code := bodyOf Tryz.f193
noncomputable def saturateref01_Add.K (fu : Nat) : Code → St → (Ex → St → Option (Int)) → Option (Int) := codeK Tryz.prog (saturateref01_Add.cs) saturateref01_Add.live fu
noncomputable def saturateref01_Add.j3 (fu n3 : Nat) (x1 x2 x7 x8 x12 x13 : Int) : Option Int :=
  loopK (saturateref01_Add.K fu (sub saturateref01_Add.body [true, true, false, true, false, false])) (saturateref01_Add.live 7) n3 (stOf 36 [(1, .val (.int .u64 x1)), (2, .val (.int .u64 x2)), (7, .val (.int .u64 x7)), (8, .val (.int .u64 x8)), (12, .val (.int .i64 x12)), (13, .val (.int .i64 x13))] []) (blockC 0 (seqC fu (saturateref01_Add.live 18) (saturateref01_Add.K fu (sub saturateref01_Add.body [true, true, true])) (retC Tryz.prog Tryz.f193.results saturateref01_Add.r.dec)))
theorem saturateref01_Add.j3_succ (fu n3 : Nat) (x1 x2 x7 x8 x12 x13 : Int) : saturateref01_Add.j3 fu (n3 + 1) x1 x2 x7 x8 x12 x13 =
  bif (decide (x13 < x12)) then
    (saturateref01_Bit.f x1 x13).bind fun r2 =>
    (saturateref01_Bit.f x2 x13).bind fun r3 =>
    bif decide ((IntKind.u64.wrap x13) < 0) then
      none
    else
      saturateref01_Add.j3 fu n3 x1 x2 (Go.bits .or .u64 x7 (shl .u64 (Int.tmod (IntKind.u64.wrap ((IntKind.u64.wrap (r2 + r3)) + x8)) 2) (IntKind.u64.wrap x13))) (IntKind.u64.wrap (Int.tdiv (IntKind.u64.wrap ((IntKind.u64.wrap (r2 + r3)) + x8)) 2)) x12 (IntKind.i64.wrap (x13 + 1))
  else
    some x7 := by kernel_rfl
noncomputable def saturateref01_Add.g (fu : Nat) (a0 a1 a2 : Int) : Option (Int) :=
  (saturateref01_W.f a0).bind fun r1 =>
  saturateref01_Add.j3 fu fu a1 a2 0 0 r1 0
noncomputable def saturateref01_Add.f (a0 a1 a2 : Int) : Option (Int) := saturateref01_Add.g (fuel0 + 1) a0 a1 a2
theorem saturateref01_Add.eq (fu : Nat) (a : Int × Int × Int × Unit) : bodyK Tryz.prog saturateref01_Add.cs saturateref01_Add.live fu Tryz.f193 (saturateref01_Add.a.enc a) saturateref01_Add.r.dec = saturateref01_Add.g fu a.1 a.2.1 a.2.2.1 := by kernel_rfl
theorem saturateref01_Add.con : ∀ (a : Int × Int × Int × Unit) (r : Int), saturateref01_Add.f a.1 a.2.1 a.2.2.1 = some r → Contract Tryz.prog 193 (saturateref01_Add.a.enc a) (saturateref01_Add.r.enc r) := Contract.of_body (by kernel_rfl) (by kernel_rfl) mixed (saturateref01_Add.eq (fuel0 + 1))
noncomputable def saturateref01_Add.c : Kn Tryz.prog := Kn.of 193 saturateref01_Add.a saturateref01_Add.r (fun a => saturateref01_Add.f a.1 a.2.1 a.2.2.1) saturateref01_Add.con
def saturateref01_Mul.a : ACods (Int × Int × Int × Unit) := (.cons (.val (.int .i64)) (.cons (.val (.int .u64)) (.cons (.val (.int .u64)) .nil)))
def saturateref01_Mul.r : RCod (Int) := .val (.int .u64)
noncomputable def saturateref01_Mul.cs : List (Kn Tryz.prog) := [saturateref01_W.c, saturateref01_Add.c, saturateref01_Bit.c]
def saturateref01_Mul.live : Nat → Option Keep := liveOf [(7, ⟨[0, 1, 2, 7, 8], [], [], [], []⟩), (8, ⟨[0, 1, 2, 7, 8], [], [], [], []⟩)]
noncomputable def saturateref01_Mul.body : Code := bodyOf Tryz.f195
noncomputable def saturateref01_Mul.K (fu : Nat) : Code → St → (Ex → St → Option (Int)) → Option (Int) := codeK Tryz.prog (saturateref01_Mul.cs) saturateref01_Mul.live fu
noncomputable def saturateref01_Mul.j3 (fu n3 : Nat) (x0 x1 x2 x7 x8 : Int) : Option Int :=
  loopK (saturateref01_Mul.K fu (sub saturateref01_Mul.body [true, true, false, true, false, false])) (saturateref01_Mul.live 7) n3 (stOf 29 [(0, .val (.int .i64 x0)), (1, .val (.int .u64 x1)), (2, .val (.int .u64 x2)), (7, .val (.int .u64 x7)), (8, .val (.int .i64 x8))] []) (blockC 0 (seqC fu (saturateref01_Mul.live 16) (saturateref01_Mul.K fu (sub saturateref01_Mul.body [true, true, true])) (retC Tryz.prog Tryz.f195.results saturateref01_Mul.r.dec)))
noncomputable def saturateref01_Mul.p4 (m fu : Nat) (n3 : Nat) (x0 x1 x2 x7 x8 : Int) : Option Int :=
  joinK m (saturateref01_Mul.K fu (sub saturateref01_Mul.body [true, true, false, true, false, false, true, true])) (stOf 29 [(0, .val (.int .i64 x0)), (1, .val (.int .u64 x1)), (2, .val (.int .u64 x2)), (7, .val (.int .u64 x7)), (8, .val (.int .i64 x8))] []) (roundC (saturateref01_Mul.live 7) (loopK (saturateref01_Mul.K fu (sub saturateref01_Mul.body [true, true, false, true, false, false])) (saturateref01_Mul.live 7) n3) (blockC 0 (seqC fu (saturateref01_Mul.live 16) (saturateref01_Mul.K fu (sub saturateref01_Mul.body [true, true, true])) (retC Tryz.prog Tryz.f195.results saturateref01_Mul.r.dec))))
theorem saturateref01_Mul.p4_eq (m fu : Nat) (n3 : Nat) (x0 x1 x2 x7 x8 : Int) : saturateref01_Mul.p4 (m + 1) fu n3 x0 x1 x2 x7 x8 =
  saturateref01_Mul.j3 fu n3 x0 x1 x2 x7 (IntKind.i64.wrap (x8 - 1)) := by kernel_rfl
theorem saturateref01_Mul.j3_succ (fu n3 : Nat) (x0 x1 x2 x7 x8 : Int) : saturateref01_Mul.j3 fu (n3 + 1) x0 x1 x2 x7 x8 =
  bif (decide (x8 ≥ 0)) then
    (saturateref01_Add.f x0 x7 x7).bind fun r2 =>
    (saturateref01_Bit.f x2 x8).bind fun r3 =>
    bif (r3 == 1) then
      (saturateref01_Add.f x0 r2 x1).bind fun r4 =>
      saturateref01_Mul.p4 fu fu n3 x0 x1 x2 r4 x8
    else
      saturateref01_Mul.p4 fu fu n3 x0 x1 x2 r2 x8
  else
    some x7 := by kernel_rfl
noncomputable def saturateref01_Mul.g (fu : Nat) (a0 a1 a2 : Int) : Option (Int) :=
  (saturateref01_W.f a0).bind fun r1 =>
  saturateref01_Mul.j3 fu fu a0 a1 a2 0 (IntKind.i64.wrap (r1 - 1))
noncomputable def saturateref01_Mul.f (a0 a1 a2 : Int) : Option (Int) := saturateref01_Mul.g (fuel0 + 1) a0 a1 a2
theorem saturateref01_Mul.eq (fu : Nat) (a : Int × Int × Int × Unit) : bodyK Tryz.prog saturateref01_Mul.cs saturateref01_Mul.live fu Tryz.f195 (saturateref01_Mul.a.enc a) saturateref01_Mul.r.dec = saturateref01_Mul.g fu a.1 a.2.1 a.2.2.1 := by kernel_rfl
theorem saturateref01_Mul.con : ∀ (a : Int × Int × Int × Unit) (r : Int), saturateref01_Mul.f a.1 a.2.1 a.2.2.1 = some r → Contract Tryz.prog 195 (saturateref01_Mul.a.enc a) (saturateref01_Mul.r.enc r) := Contract.of_body (by kernel_rfl) (by kernel_rfl) mixed (saturateref01_Mul.eq (fuel0 + 1))
noncomputable def saturateref01_Mul.c : Kn Tryz.prog := Kn.of 195 saturateref01_Mul.a saturateref01_Mul.r (fun a => saturateref01_Mul.f a.1 a.2.1 a.2.2.1) saturateref01_Mul.con
def saturateref12_low.a : ACods (Int × (Int × Int) × Unit) := (.cons (.val (.int .i64)) (.cons (.val (.agg (.cons (.int .u64) (.one (.int .u64))))) .nil))
def saturateref12_low.r : RCod (Int) := .val (.int .i64)
noncomputable def saturateref12_low.cs : List (Kn Tryz.prog) := [saturateref12_bit.c]
def saturateref12_low.live : Nat → Option Keep := liveOf [(5, ⟨[0, 3, 5], [3], [], [], []⟩), (8, ⟨[5], [], [], [], []⟩)]
noncomputable def saturateref12_low.body : Code := bodyOf Tryz.f219
noncomputable def saturateref12_low.K (fu : Nat) : Code → St → (Ex → St → Option (Int)) → Option (Int) := codeK Tryz.prog (saturateref12_low.cs) saturateref12_low.live fu
noncomputable def saturateref12_low.j2 (fu n2 : Nat) (x0 x5 c3_0 c3_1 : Int) : Option Int :=
  loopK (saturateref12_low.K fu (sub saturateref12_low.body [true, true, false, false, false])) (saturateref12_low.live 5) n2 (stOf 18 [(0, .val (.int .i64 x0)), (3, .ptr 3 0 0 0), (5, .val (.int .i64 x5))] [(3, .own [.val (.int .u64 c3_0), .val (.int .u64 c3_1)])]) (blockC 0 (seqC fu (saturateref12_low.live 8) (saturateref12_low.K fu (sub saturateref12_low.body [true, true, true])) (retC Tryz.prog Tryz.f219.results saturateref12_low.r.dec)))
noncomputable def saturateref12_low.p4 (m fu : Nat) (x5 : Int) : Option Int :=
  joinK m (saturateref12_low.K fu (sub saturateref12_low.body [true, true, true])) (stOf 18 [(5, .val (.int .i64 x5))] []) (retC Tryz.prog Tryz.f219.results saturateref12_low.r.dec)
theorem saturateref12_low.p4_eq (m fu : Nat) (x5 : Int) : saturateref12_low.p4 (m + 1) fu x5 =
  some x5 := by kernel_rfl
theorem saturateref12_low.j2_succ (fu n2 : Nat) (x0 x5 c3_0 c3_1 : Int) : saturateref12_low.j2 fu (n2 + 1) x0 x5 c3_0 c3_1 =
  bif (decide (x5 < x0)) then
    (saturateref12_bit.f (c3_0, c3_1) x5).bind fun r1 =>
    bif (r1 == 0) then
      saturateref12_low.j2 fu n2 x0 (IntKind.i64.wrap (x5 + 1)) c3_0 c3_1
    else
      saturateref12_low.p4 fu fu x5
  else
    saturateref12_low.p4 fu fu x5 := by kernel_rfl
noncomputable def saturateref12_low.g (fu : Nat) (a0 : Int) (a1 : Int × Int) : Option (Int) :=
  saturateref12_low.j2 fu fu a0 0 a1.1 a1.2
noncomputable def saturateref12_low.f (a0 : Int) (a1 : Int × Int) : Option (Int) := saturateref12_low.g (fuel0 + 1) a0 a1
theorem saturateref12_low.eq (fu : Nat) (a : Int × (Int × Int) × Unit) : bodyK Tryz.prog saturateref12_low.cs saturateref12_low.live fu Tryz.f219 (saturateref12_low.a.enc a) saturateref12_low.r.dec = saturateref12_low.g fu a.1 a.2.1 := by kernel_rfl
theorem saturateref12_low.con : ∀ (a : Int × (Int × Int) × Unit) (r : Int), saturateref12_low.f a.1 a.2.1 = some r → Contract Tryz.prog 219 (saturateref12_low.a.enc a) (saturateref12_low.r.enc r) := Contract.of_body (by kernel_rfl) (by kernel_rfl) mixed (saturateref12_low.eq (fuel0 + 1))
noncomputable def saturateref12_low.c : Kn Tryz.prog := Kn.of 219 saturateref12_low.a saturateref12_low.r (fun a => saturateref12_low.f a.1 a.2.1) saturateref12_low.con
def saturateref12_times.a : ACods (Int × (Int × Int) × (Int × Int) × Unit) := (.cons (.val (.int .i64)) (.cons (.val (.agg (.cons (.int .u64) (.one (.int .u64))))) (.cons (.val (.agg (.cons (.int .u64) (.one (.int .u64))))) .nil)))
def saturateref12_times.r : RCod (Int × Int) := .val (.agg (.cons (.int .u64) (.one (.int .u64))))
noncomputable def saturateref12_times.cs : List (Kn Tryz.prog) := [saturateref12_Single.c, saturateref01_Mul.c, saturateref12_Const.c, saturateref12_Top.c, saturateref12_low.c, saturateref12_with.c]
def saturateref12_times.live : Nat → Option Keep := liveOf [(10, ⟨[0, 4, 5, 6], [4, 5, 6], [], [], []⟩), (15, ⟨[0, 4, 5, 6, 11, 12], [4, 5, 6, 11], [], [], []⟩)]
noncomputable def saturateref12_times.body : Code := bodyOf Tryz.f164
noncomputable def saturateref12_times.K (fu : Nat) : Code → St → (Ex → St → Option (Int × Int)) → Option (Int × Int) := codeK Tryz.prog (saturateref12_times.cs) saturateref12_times.live fu
noncomputable def saturateref12_times.p5 (m fu : Nat) (x0 c4_0 c4_1 c5_0 c5_1 : Int) : Option (Int × Int) :=
  joinK m (saturateref12_times.K fu (sub saturateref12_times.body [true, true, true, true])) (stOf 53 [(0, .val (.int .i64 x0)), (4, .ptr 4 0 0 0), (5, .ptr 5 0 0 0), (6, .ptr 6 0 0 0)] [(4, .own [.val (.int .u64 c4_0), .val (.int .u64 c4_1)]), (5, .own [.val (.int .u64 c5_0), .val (.int .u64 c5_1)]), (6, .own [.val (.int .u64 0), .val (.int .u64 0)])]) (retC Tryz.prog Tryz.f164.results saturateref12_times.r.dec)
noncomputable def saturateref12_times.j7 (fu n7 : Nat) (x0 x12 c4_0 c4_1 c5_0 c5_1 c6_0 c6_1 c11_0 c11_1 : Int) : Option (Int × Int) :=
  loopK (saturateref12_times.K fu (sub saturateref12_times.body [true, true, true, true, true, false, true, false, false])) (saturateref12_times.live 15) n7 (stOf 53 [(0, .val (.int .i64 x0)), (4, .ptr 4 0 0 0), (5, .ptr 5 0 0 0), (6, .ptr 6 0 0 0), (11, .ptr 11 0 0 0), (12, .val (.int .i64 x12))] [(4, .own [.val (.int .u64 c4_0), .val (.int .u64 c4_1)]), (5, .own [.val (.int .u64 c5_0), .val (.int .u64 c5_1)]), (6, .own [.val (.int .u64 c6_0), .val (.int .u64 c6_1)]), (11, .own [.val (.int .u64 c11_0), .val (.int .u64 c11_1)])]) (blockC 0 (seqC fu (saturateref12_times.live 20) (saturateref12_times.K fu (sub saturateref12_times.body [true, true, true, true, true, true])) (retC Tryz.prog Tryz.f164.results saturateref12_times.r.dec)))
theorem saturateref12_times.j7_succ (fu n7 : Nat) (x0 x12 c4_0 c4_1 c5_0 c5_1 c6_0 c6_1 c11_0 c11_1 : Int) : saturateref12_times.j7 fu (n7 + 1) x0 x12 c4_0 c4_1 c5_0 c5_1 c6_0 c6_1 c11_0 c11_1 =
  (saturateref12_low.f x0 (c4_0, c4_1)).bind fun r6 =>
  (saturateref12_low.f x0 (c5_0, c5_1)).bind fun r7 =>
  bif (decide (x12 < (mn x0 (IntKind.i64.wrap (r6 + r7))))) then
    (saturateref12_with.f (c11_0, c11_1) x12 0).bind fun r8 =>
    saturateref12_times.j7 fu n7 x0 (IntKind.i64.wrap (x12 + 1)) c4_0 c4_1 c5_0 c5_1 c6_0 c6_1 r8.1 r8.2
  else
    some (c11_0, c11_1) := by kernel_rfl
theorem saturateref12_times.p5_eq (m fu : Nat) (x0 c4_0 c4_1 c5_0 c5_1 : Int) : saturateref12_times.p5 (m + 1) fu x0 c4_0 c4_1 c5_0 c5_1 =
  (saturateref12_Top.f).bind fun r5 =>
  saturateref12_times.j7 fu fu x0 0 c4_0 c4_1 c5_0 c5_1 0 0 r5.1 r5.2 := by kernel_rfl
noncomputable def saturateref12_times.g (fu : Nat) (a0 : Int) (a1 : Int × Int) (a2 : Int × Int) : Option (Int × Int) :=
  (saturateref12_Single.f a0 (a1.1, a1.2)).bind fun r1 =>
  (saturateref12_Single.f a0 (a2.1, a2.2)).bind fun r2 =>
  bif r1.2 then
    bif r2.2 then
      (saturateref01_Mul.f a0 r1.1 r2.1).bind fun r3 =>
      (saturateref12_Const.f a0 r3).bind fun r4 =>
      some (r4.1, r4.2)
    else
      saturateref12_times.p5 fu fu a0 a1.1 a1.2 a2.1 a2.2
  else
    saturateref12_times.p5 fu fu a0 a1.1 a1.2 a2.1 a2.2
noncomputable def saturateref12_times.f (a0 : Int) (a1 : Int × Int) (a2 : Int × Int) : Option (Int × Int) := saturateref12_times.g (fuel0 + 1) a0 a1 a2
theorem saturateref12_times.eq (fu : Nat) (a : Int × (Int × Int) × (Int × Int) × Unit) : bodyK Tryz.prog saturateref12_times.cs saturateref12_times.live fu Tryz.f164 (saturateref12_times.a.enc a) saturateref12_times.r.dec = saturateref12_times.g fu a.1 a.2.1 a.2.2.1 := by kernel_rfl
theorem saturateref12_times.con : ∀ (a : Int × (Int × Int) × (Int × Int) × Unit) (r : Int × Int), saturateref12_times.f a.1 a.2.1 a.2.2.1 = some r → Contract Tryz.prog 164 (saturateref12_times.a.enc a) (saturateref12_times.r.enc r) := Contract.of_body (by kernel_rfl) (by kernel_rfl) mixed (saturateref12_times.eq (fuel0 + 1))
noncomputable def saturateref12_times.c : Kn Tryz.prog := Kn.of 164 saturateref12_times.a saturateref12_times.r (fun a => saturateref12_times.f a.1 a.2.1 a.2.2.1) saturateref12_times.con
end Go.Proofs.YtcihbcffokjgjaaGreat.Fn
