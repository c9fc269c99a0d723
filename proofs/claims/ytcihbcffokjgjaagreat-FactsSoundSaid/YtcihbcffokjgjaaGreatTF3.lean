/- What the functions return, as the evaluator tells it: written by a program of this workplace (mev.py); Lean checks each equation. -/
import Derived.Test.YtcihbcffokjgjaaGreatProg
import Derived.Test.YtcihbcffokjgjaaGreatTEvC
import Derived.Test.YtcihbcffokjgjaaGreatTF0
import Derived.Test.YtcihbcffokjgjaaGreatTF1
import Derived.Test.YtcihbcffokjgjaaGreatTF2
namespace Go.Proofs.YtcihbcffokjgjaaGreat.Fn
open Go Go.RowKit Go.Proofs.YtcihbcffokjgjaaGreat.Ev Go.Proofs
set_option linter.unusedVariables false
set_option maxRecDepth 100000
def ranges_check.a : ACods (Int × Int × Int × (Nat × (Nat → Int)) × (Nat × (Nat → Int) × (Nat → Int)) × Unit) := (.cons (.val (.int .i64)) (.cons (.val (.int .i64)) (.cons (.val (.int .u64)) (.cons (.rows (.int1 .i64)) (.cons (.rows (.int .u64 (.int1 .u64))) .nil)))))
def ranges_check.r : RCod (Int × Int) := .val (.tup (.cons (.int .i64) (.one (.int .i64))))
noncomputable def ranges_check.cs : List (Kn Tryz.prog) := [opinfo_Width.c, opinfo_Pattern.c]
def ranges_check.live : Nat → Option Keep := liveOf [(21, ⟨[12, 14, 37, 38, 39], [3], [], [], []⟩), (26, ⟨[12, 14, 37, 38, 39], [3], [], [], []⟩)]
noncomputable def ranges_check.body : Code := bodyOf Tryz.f87
noncomputable def ranges_check.K (fu : Nat) : Code → St → (Ex → St → Option (Int × Int)) → Option (Int × Int) := codeK Tryz.prog (ranges_check.cs) ranges_check.live fu
noncomputable def ranges_check.j10 (fu n10 : Nat) (x12 : Int) (x14 : Bool) (x37n : Nat) (x38 x39 : Int) (m3 : Nat) (g3_0 : Nat → Int) : Option (Int × Int) :=
  loopK (ranges_check.K fu (sub ranges_check.body [true, true, true, true, true, true, false, true, false, false])) (ranges_check.live 21) n10 (stOf 51 [(12, .val (.int .i64 x12)), (14, .val (.bool x14)), (37, .sl 3 1 x37n), (38, .val (.int .i64 x38)), (39, .val (.int .i64 x39))] [(3, .ext m3 [.int .i64 g3_0])]) (blockC 0 (seqC fu (ranges_check.live 28) (ranges_check.K fu (sub ranges_check.body [true, true, true, true, true, true, true])) (retC Tryz.prog Tryz.f87.results ranges_check.r.dec)))
noncomputable def ranges_check.p13 (m fu : Nat) (n10 : Nat) (x12 : Int) (x14 : Bool) (x37n : Nat) (x38 x39 : Int) (m3 : Nat) (g3_0 : Nat → Int) : Option (Int × Int) :=
  joinK m (ranges_check.K fu (sub ranges_check.body [true, true, true, true, true, true, false, true, false, false, true, true, true])) (stOf 51 [(12, .val (.int .i64 x12)), (14, .val (.bool x14)), (37, .sl 3 1 x37n), (38, .val (.int .i64 x38)), (39, .val (.int .i64 x39))] [(3, .ext m3 [.int .i64 g3_0])]) (roundC (ranges_check.live 21) (loopK (ranges_check.K fu (sub ranges_check.body [true, true, true, true, true, true, false, true, false, false])) (ranges_check.live 21) n10) (blockC 0 (seqC fu (ranges_check.live 28) (ranges_check.K fu (sub ranges_check.body [true, true, true, true, true, true, true])) (retC Tryz.prog Tryz.f87.results ranges_check.r.dec))))
theorem ranges_check.p13_eq (m fu : Nat) (n10 : Nat) (x12 : Int) (x14 : Bool) (x37n : Nat) (x38 x39 : Int) (m3 : Nat) (g3_0 : Nat → Int) : ranges_check.p13 (m + 1) fu n10 x12 x14 x37n x38 x39 m3 g3_0 =
  ranges_check.j10 fu n10 x12 x14 x37n x38 (IntKind.i64.wrap (x39 + 1)) m3 g3_0 := by kernel_rfl
theorem ranges_check.j10_succ (fu n10 : Nat) (x12 : Int) (x14 : Bool) (x37n : Nat) (x38 x39 : Int) (m3 : Nat) (g3_0 : Nat → Int) : ranges_check.j10 fu (n10 + 1) x12 x14 x37n x38 x39 m3 g3_0 =
  bif (decide (x39 < x38)) then
    bif decide (0 ≤ x39) then
      bif decide (x39 < (x37n : Int)) then
        bif x14 then
          ranges_check.p13 fu fu n10 x12 true x37n x38 x39 m3 g3_0
        else
          ranges_check.p13 fu fu n10 x12 ((g3_0 x39.toNat) == 0) x37n x38 x39 m3 g3_0
      else
        none
    else
      none
  else
    bif x14 then
      some (0, 3)
    else
      some (x12, 0) := by kernel_rfl
noncomputable def ranges_check.g (fu : Nat) (a0 a1 a2 : Int) (a3 : Nat × (Nat → Int)) (a4 : Nat × (Nat → Int) × (Nat → Int)) : Option (Int × Int) :=
  bif ((a4.1 : Int) != (a3.1 : Int)) then
    some (0, 4)
  else
    (opinfo_Width.f a0 a1 a2 (a3.1, a3.2)).bind fun r1 =>
    bif (r1.2 != 0) then
      some (0, r1.2)
    else
      (opinfo_Pattern.f a0).bind fun r2 =>
      bif r2 then
        some (0, 4)
      else
        ranges_check.j10 fu fu r1.1 (r1.1 == 0) a3.1 (a3.1 : Int) 0 a3.1 a3.2
noncomputable def ranges_check.f (a0 a1 a2 : Int) (a3 : Nat × (Nat → Int)) (a4 : Nat × (Nat → Int) × (Nat → Int)) : Option (Int × Int) := ranges_check.g (fuel0 + 1) a0 a1 a2 a3 a4
theorem ranges_check.eq (fu : Nat) (a : Int × Int × Int × (Nat × (Nat → Int)) × (Nat × (Nat → Int) × (Nat → Int)) × Unit) : bodyK Tryz.prog ranges_check.cs ranges_check.live fu Tryz.f87 (ranges_check.a.enc a) ranges_check.r.dec = ranges_check.g fu a.1 a.2.1 a.2.2.1 a.2.2.2.1 a.2.2.2.2.1 := by kernel_rfl
theorem ranges_check.con : ∀ (a : Int × Int × Int × (Nat × (Nat → Int)) × (Nat × (Nat → Int) × (Nat → Int)) × Unit) (r : Int × Int), ranges_check.f a.1 a.2.1 a.2.2.1 a.2.2.2.1 a.2.2.2.2.1 = some r → Contract Tryz.prog 87 (ranges_check.a.enc a) (ranges_check.r.enc r) := Contract.of_body (by kernel_rfl) (by kernel_rfl) mixed (ranges_check.eq (fuel0 + 1))
noncomputable def ranges_check.c : Kn Tryz.prog := Kn.of 87 ranges_check.a ranges_check.r (fun a => ranges_check.f a.1 a.2.1 a.2.2.1 a.2.2.2.1 a.2.2.2.2.1) ranges_check.con
def ranges_Const.a : ACods (Int × Int × Unit) := (.cons (.val (.int .i64)) (.cons (.val (.int .u64)) .nil))
def ranges_Const.r : RCod (Int × Int) := .val (.agg (.cons (.int .u64) (.one (.int .u64))))
noncomputable def ranges_Const.cs : List (Kn Tryz.prog) := [bits_Cut.c]
def ranges_Const.live : Nat → Option Keep := liveOf []
noncomputable def ranges_Const.f (a0 a1 : Int) : Option (Int × Int) :=
  (bits_Cut.f a0 a1).bind fun r1 =>
  some (r1, r1)
theorem ranges_Const.eq (fu : Nat) (a : Int × Int × Unit) : bodyK Tryz.prog ranges_Const.cs ranges_Const.live fu Tryz.f81 (ranges_Const.a.enc a) ranges_Const.r.dec = ranges_Const.f a.1 a.2.1 := by kernel_rfl
theorem ranges_Const.con : ∀ (a : Int × Int × Unit) (r : Int × Int), ranges_Const.f a.1 a.2.1 = some r → Contract Tryz.prog 81 (ranges_Const.a.enc a) (ranges_Const.r.enc r) := Contract.of_body (by kernel_rfl) (by kernel_rfl) mixed (ranges_Const.eq (fuel0 + 1))
noncomputable def ranges_Const.c : Kn Tryz.prog := Kn.of 81 ranges_Const.a ranges_Const.r (fun a => ranges_Const.f a.1 a.2.1) ranges_Const.con
def bits_Neg.a : ACods (Int × Int × Unit) := (.cons (.val (.int .i64)) (.cons (.val (.int .u64)) .nil))
def bits_Neg.r : RCod (Int) := .val (.int .u64)
noncomputable def bits_Neg.cs : List (Kn Tryz.prog) := [bits_Cut.c]
def bits_Neg.live : Nat → Option Keep := liveOf []
noncomputable def bits_Neg.f (a0 a1 : Int) : Option (Int) :=
  (bits_Cut.f a0 (IntKind.u64.wrap (0 - a1))).bind fun r1 =>
  some r1
theorem bits_Neg.eq (fu : Nat) (a : Int × Int × Unit) : bodyK Tryz.prog bits_Neg.cs bits_Neg.live fu Tryz.f148 (bits_Neg.a.enc a) bits_Neg.r.dec = bits_Neg.f a.1 a.2.1 := by kernel_rfl
theorem bits_Neg.con : ∀ (a : Int × Int × Unit) (r : Int), bits_Neg.f a.1 a.2.1 = some r → Contract Tryz.prog 148 (bits_Neg.a.enc a) (bits_Neg.r.enc r) := Contract.of_body (by kernel_rfl) (by kernel_rfl) mixed (bits_Neg.eq (fuel0 + 1))
noncomputable def bits_Neg.c : Kn Tryz.prog := Kn.of 148 bits_Neg.a bits_Neg.r (fun a => bits_Neg.f a.1 a.2.1) bits_Neg.con
def bits_Sext.a : ACods (Int × Int × Int × Unit) := (.cons (.val (.int .i64)) (.cons (.val (.int .i64)) (.cons (.val (.int .u64)) .nil)))
def bits_Sext.r : RCod (Int) := .val (.int .u64)
noncomputable def bits_Sext.cs : List (Kn Tryz.prog) := [bits_Signed.c, bits_Cut.c]
def bits_Sext.live : Nat → Option Keep := liveOf []
noncomputable def bits_Sext.f (a0 a1 a2 : Int) : Option (Int) :=
  (bits_Signed.f a0 a2).bind fun r1 =>
  (bits_Cut.f a1 (IntKind.u64.wrap r1)).bind fun r2 =>
  some r2
theorem bits_Sext.eq (fu : Nat) (a : Int × Int × Int × Unit) : bodyK Tryz.prog bits_Sext.cs bits_Sext.live fu Tryz.f149 (bits_Sext.a.enc a) bits_Sext.r.dec = bits_Sext.f a.1 a.2.1 a.2.2.1 := by kernel_rfl
theorem bits_Sext.con : ∀ (a : Int × Int × Int × Unit) (r : Int), bits_Sext.f a.1 a.2.1 a.2.2.1 = some r → Contract Tryz.prog 149 (bits_Sext.a.enc a) (bits_Sext.r.enc r) := Contract.of_body (by kernel_rfl) (by kernel_rfl) mixed (bits_Sext.eq (fuel0 + 1))
noncomputable def bits_Sext.c : Kn Tryz.prog := Kn.of 149 bits_Sext.a bits_Sext.r (fun a => bits_Sext.f a.1 a.2.1 a.2.2.1) bits_Sext.con
def ranges_unary.a : ACods (Int × Int × Int × Int × (Int × Int) × Unit) := (.cons (.val (.int .i64)) (.cons (.val (.int .i64)) (.cons (.val (.int .u64)) (.cons (.val (.int .i64)) (.cons (.val (.agg (.cons (.int .u64) (.one (.int .u64))))) .nil)))))
def ranges_unary.r : RCod (Int × Int) := .val (.agg (.cons (.int .u64) (.one (.int .u64))))
noncomputable def ranges_unary.cs : List (Kn Tryz.prog) := [bits_Mask.c, ranges_Top.c, bits_Neg.c, bits_Sext.c]
def ranges_unary.live : Nat → Option Keep := liveOf [(16, ⟨[1, 9, 10], [9, 10], [], [], []⟩), (24, ⟨[1, 2, 3, 9, 10], [9, 10], [], [], []⟩), (42, ⟨[9, 10], [9, 10], [], [], []⟩)]
noncomputable def ranges_unary.body : Code := bodyOf Tryz.f89
noncomputable def ranges_unary.K (fu : Nat) : Code → St → (Ex → St → Option (Int × Int)) → Option (Int × Int) := codeK Tryz.prog (ranges_unary.cs) ranges_unary.live fu
noncomputable def ranges_unary.p8 (m fu : Nat) (x1 c9_0 c9_1 : Int) : Option (Int × Int) :=
  joinK m (ranges_unary.K fu (sub ranges_unary.body [true, true, false, true, false, true, true, true, false, true])) (stOf 104 [(1, .val (.int .i64 x1)), (9, .ptr 9 0 0 0), (10, .ptr 10 0 0 0)] [(9, .own [.val (.int .u64 c9_0), .val (.int .u64 c9_1)]), (10, .own [.val (.int .u64 0), .val (.int .u64 0)])]) (blockC 0 (seqC fu (ranges_unary.live 42) (ranges_unary.K fu (sub ranges_unary.body [true, true, true])) (retC Tryz.prog Tryz.f89.results ranges_unary.r.dec)))
noncomputable def ranges_unary.p12 (m fu : Nat) (x1 x2 x3 c9_0 c9_1 : Int) : Option (Int × Int) :=
  joinK m (ranges_unary.K fu (sub ranges_unary.body [true, true, false, true, false, true, true, true, true, true, false, true])) (stOf 104 [(1, .val (.int .i64 x1)), (2, .val (.int .u64 x2)), (3, .val (.int .i64 x3)), (9, .ptr 9 0 0 0), (10, .ptr 10 0 0 0)] [(9, .own [.val (.int .u64 c9_0), .val (.int .u64 c9_1)]), (10, .own [.val (.int .u64 0), .val (.int .u64 0)])]) (blockC 0 (seqC fu (ranges_unary.live 42) (ranges_unary.K fu (sub ranges_unary.body [true, true, true])) (retC Tryz.prog Tryz.f89.results ranges_unary.r.dec)))
noncomputable def ranges_unary.p21 (m fu : Nat) (c9_0 c9_1 c10_0 c10_1 : Int) : Option (Int × Int) :=
  joinK m (ranges_unary.K fu (sub ranges_unary.body [true, true, true])) (stOf 104 [(9, .ptr 9 0 0 0), (10, .ptr 10 0 0 0)] [(9, .own [.val (.int .u64 c9_0), .val (.int .u64 c9_1)]), (10, .own [.val (.int .u64 c10_0), .val (.int .u64 c10_1)])]) (retC Tryz.prog Tryz.f89.results ranges_unary.r.dec)
theorem ranges_unary.p8_eq (m fu : Nat) (x1 c9_0 c9_1 : Int) : ranges_unary.p8 (m + 1) fu x1 c9_0 c9_1 =
  (bits_Neg.f x1 c9_1).bind fun r3 =>
  (bits_Neg.f x1 c9_0).bind fun r4 =>
  some (r3, r4) := by kernel_rfl
theorem ranges_unary.p12_eq (m fu : Nat) (x1 x2 x3 c9_0 c9_1 : Int) : ranges_unary.p12 (m + 1) fu x1 x2 x3 c9_0 c9_1 =
  bif ((IntKind.u64.wrap (x2 + (IntKind.u64.wrap x1))) == (IntKind.u64.wrap x3)) then
    bif decide (x2 < 0) then
      none
    else
      bif decide (x2 < 0) then
        none
      else
        some ((shr .u64 c9_0 x2), (shr .u64 c9_1 x2))
  else
    (ranges_Top.f x1).bind fun r5 =>
    some (r5.1, r5.2) := by kernel_rfl
theorem ranges_unary.p21_eq (m fu : Nat) (c9_0 c9_1 c10_0 c10_1 : Int) : ranges_unary.p21 (m + 1) fu c9_0 c9_1 c10_0 c10_1 =
  some (c9_0, c9_1) := by kernel_rfl
noncomputable def ranges_unary.g (fu : Nat) (a0 a1 a2 a3 : Int) (a4 : Int × Int) : Option (Int × Int) :=
  (bits_Mask.f a1).bind fun r1 =>
  bif (a0 == 3) then
    some ((IntKind.u64.wrap (r1 - a4.2)), (IntKind.u64.wrap (r1 - a4.1)))
  else
    bif (a0 == 4) then
      bif (a4.1 == 0) then
        bif (decide (a4.2 > 0)) then
          (ranges_Top.f a1).bind fun r2 =>
          some (r2.1, r2.2)
        else
          ranges_unary.p8 fu fu a1 a4.1 a4.2
      else
        ranges_unary.p8 fu fu a1 a4.1 a4.2
    else
      bif (a0 == 21) then
        bif (a2 == 0) then
          bif (decide (a4.2 ≤ r1)) then
            some (a4.1, a4.2)
          else
            ranges_unary.p12 fu fu a1 a2 a3 a4.1 a4.2
        else
          ranges_unary.p12 fu fu a1 a2 a3 a4.1 a4.2
      else
        bif (a0 == 23) then
          (bits_Mask.f a3).bind fun r6 =>
          bif (decide (a4.1 > (shr .u64 r6 1))) then
            (bits_Sext.f a3 a1 a4.1).bind fun r7 =>
            (bits_Sext.f a3 a1 a4.2).bind fun r8 =>
            some (r7, r8)
          else
            bif (decide (a4.2 > (shr .u64 r6 1))) then
              (ranges_Top.f a1).bind fun r9 =>
              some (r9.1, r9.2)
            else
              ranges_unary.p21 fu fu a4.1 a4.2 0 0
        else
          ranges_unary.p21 fu fu a4.1 a4.2 0 0
noncomputable def ranges_unary.f (a0 a1 a2 a3 : Int) (a4 : Int × Int) : Option (Int × Int) := ranges_unary.g (fuel0 + 1) a0 a1 a2 a3 a4
theorem ranges_unary.eq (fu : Nat) (a : Int × Int × Int × Int × (Int × Int) × Unit) : bodyK Tryz.prog ranges_unary.cs ranges_unary.live fu Tryz.f89 (ranges_unary.a.enc a) ranges_unary.r.dec = ranges_unary.g fu a.1 a.2.1 a.2.2.1 a.2.2.2.1 a.2.2.2.2.1 := by kernel_rfl
theorem ranges_unary.con : ∀ (a : Int × Int × Int × Int × (Int × Int) × Unit) (r : Int × Int), ranges_unary.f a.1 a.2.1 a.2.2.1 a.2.2.2.1 a.2.2.2.2.1 = some r → Contract Tryz.prog 89 (ranges_unary.a.enc a) (ranges_unary.r.enc r) := Contract.of_body (by kernel_rfl) (by kernel_rfl) mixed (ranges_unary.eq (fuel0 + 1))
noncomputable def ranges_unary.c : Kn Tryz.prog := Kn.of 89 ranges_unary.a ranges_unary.r (fun a => ranges_unary.f a.1 a.2.1 a.2.2.1 a.2.2.2.1 a.2.2.2.2.1) ranges_unary.con
def bits_Len64.a : ACods (Int × Unit) := (.cons (.val (.int .u64)) .nil)
def bits_Len64.r : RCod (Int) := .val (.int .i64)
noncomputable def bits_Len64.cs : List (Kn Tryz.prog) := []
def bits_Len64.live : Nat → Option Keep := liveOf [(8, ⟨[0, 2], [], [], [], []⟩), (14, ⟨[0, 2], [], [], [], []⟩), (20, ⟨[0, 2], [], [], [], []⟩)]
noncomputable def bits_Len64.body : Code := bodyOf Tryz.f215
noncomputable def bits_Len64.K (fu : Nat) : Code → St → (Ex → St → Option (Int)) → Option (Int) := codeK Tryz.prog (bits_Len64.cs) bits_Len64.live fu
noncomputable def bits_Len64.p4 (m fu : Nat) (x0 x2 : Int) : Option Int :=
  joinK m (bits_Len64.K fu (sub bits_Len64.body [true, true])) (stOf 25 [(0, .val (.int .u64 x0)), (2, .val (.int .i64 x2))] []) (retC Tryz.prog Tryz.f215.results bits_Len64.r.dec)
noncomputable def bits_Len64.p7 (m fu : Nat) (x0 x2 : Int) : Option Int :=
  joinK m (bits_Len64.K fu (sub bits_Len64.body [true, true, true])) (stOf 25 [(0, .val (.int .u64 x0)), (2, .val (.int .i64 x2))] []) (retC Tryz.prog Tryz.f215.results bits_Len64.r.dec)
noncomputable def bits_Len64.p10 (m fu : Nat) (x0 x2 : Int) : Option Int :=
  joinK m (bits_Len64.K fu (sub bits_Len64.body [true, true, true, true])) (stOf 25 [(0, .val (.int .u64 x0)), (2, .val (.int .i64 x2))] []) (retC Tryz.prog Tryz.f215.results bits_Len64.r.dec)
theorem bits_Len64.p10_eq (m fu : Nat) (x0 x2 : Int) : bits_Len64.p10 (m + 1) fu x0 x2 =
  bif decide (0 ≤ (IntKind.u8.wrap x0)) then
    (((ByteArray.mk (List.toArray (List.append (List.append [0, 1, 2, 2, 3, 3, 3, 3, 4, 4, 4, 4, 4, 4, 4, 4, 5, 5, 5, 5, 5, 5, 5, 5, 5, 5, 5, 5, 5, 5, 5, 5, 6, 6, 6, 6, 6, 6, 6, 6, 6, 6, 6, 6, 6, 6, 6, 6, 6, 6, 6, 6, 6, 6, 6, 6, 6, 6, 6, 6, 6, 6, 6, 6] [7, 7, 7, 7, 7, 7, 7, 7, 7, 7, 7, 7, 7, 7, 7, 7, 7, 7, 7, 7, 7, 7, 7, 7, 7, 7, 7, 7, 7, 7, 7, 7, 7, 7, 7, 7, 7, 7, 7, 7, 7, 7, 7, 7, 7, 7, 7, 7, 7, 7, 7, 7, 7, 7, 7, 7, 7, 7, 7, 7, 7, 7, 7, 7]) (List.append [8, 8, 8, 8, 8, 8, 8, 8, 8, 8, 8, 8, 8, 8, 8, 8, 8, 8, 8, 8, 8, 8, 8, 8, 8, 8, 8, 8, 8, 8, 8, 8, 8, 8, 8, 8, 8, 8, 8, 8, 8, 8, 8, 8, 8, 8, 8, 8, 8, 8, 8, 8, 8, 8, 8, 8, 8, 8, 8, 8, 8, 8, 8, 8] [8, 8, 8, 8, 8, 8, 8, 8, 8, 8, 8, 8, 8, 8, 8, 8, 8, 8, 8, 8, 8, 8, 8, 8, 8, 8, 8, 8, 8, 8, 8, 8, 8, 8, 8, 8, 8, 8, 8, 8, 8, 8, 8, 8, 8, 8, 8, 8, 8, 8, 8, 8, 8, 8, 8, 8, 8, 8, 8, 8, 8, 8, 8, 8]))))[(IntKind.u8.wrap x0).toNat]? : Option UInt8)).bind fun u1 =>
    some (IntKind.i64.wrap (x2 + (IntKind.i64.wrap (u1.toNat : Int))))
  else
    none := by kernel_rfl
theorem bits_Len64.p7_eq (m fu : Nat) (x0 x2 : Int) : bits_Len64.p7 (m + 1) fu x0 x2 =
  bif (decide (x0 ≥ 256)) then
    bits_Len64.p10 fu fu (shr .u64 x0 8) (IntKind.i64.wrap (x2 + 8))
  else
    bits_Len64.p10 fu fu x0 x2 := by kernel_rfl
theorem bits_Len64.p4_eq (m fu : Nat) (x0 x2 : Int) : bits_Len64.p4 (m + 1) fu x0 x2 =
  bif (decide (x0 ≥ 65536)) then
    bits_Len64.p7 fu fu (shr .u64 x0 16) (IntKind.i64.wrap (x2 + 16))
  else
    bits_Len64.p7 fu fu x0 x2 := by kernel_rfl
noncomputable def bits_Len64.g (fu : Nat) (a0 : Int) : Option (Int) :=
  bif (decide (a0 ≥ 4294967296)) then
    bits_Len64.p4 fu fu (shr .u64 a0 32) 32
  else
    bits_Len64.p4 fu fu a0 0
noncomputable def bits_Len64.f (a0 : Int) : Option (Int) := bits_Len64.g (fuel0 + 1) a0
theorem bits_Len64.eq (fu : Nat) (a : Int × Unit) : bodyK Tryz.prog bits_Len64.cs bits_Len64.live fu Tryz.f215 (bits_Len64.a.enc a) bits_Len64.r.dec = bits_Len64.g fu a.1 := by kernel_rfl
theorem bits_Len64.con : ∀ (a : Int × Unit) (r : Int), bits_Len64.f a.1 = some r → Contract Tryz.prog 215 (bits_Len64.a.enc a) (bits_Len64.r.enc r) := Contract.of_body (by kernel_rfl) (by kernel_rfl) mixed (bits_Len64.eq (fuel0 + 1))
noncomputable def bits_Len64.c : Kn Tryz.prog := Kn.of 215 bits_Len64.a bits_Len64.r (fun a => bits_Len64.f a.1) bits_Len64.con
def ranges_Fill.a : ACods (Int × Unit) := (.cons (.val (.int .u64)) .nil)
def ranges_Fill.r : RCod (Int) := .val (.int .u64)
noncomputable def ranges_Fill.cs : List (Kn Tryz.prog) := [bits_Len64.c, bits_Mask.c]
def ranges_Fill.live : Nat → Option Keep := liveOf []
noncomputable def ranges_Fill.f (a0 : Int) : Option (Int) :=
  bif (a0 == 0) then
    some 0
  else
    (bits_Len64.f a0).bind fun r1 =>
    (bits_Mask.f r1).bind fun r2 =>
    some r2
theorem ranges_Fill.eq (fu : Nat) (a : Int × Unit) : bodyK Tryz.prog ranges_Fill.cs ranges_Fill.live fu Tryz.f150 (ranges_Fill.a.enc a) ranges_Fill.r.dec = ranges_Fill.f a.1 := by kernel_rfl
theorem ranges_Fill.con : ∀ (a : Int × Unit) (r : Int), ranges_Fill.f a.1 = some r → Contract Tryz.prog 150 (ranges_Fill.a.enc a) (ranges_Fill.r.enc r) := Contract.of_body (by kernel_rfl) (by kernel_rfl) mixed (ranges_Fill.eq (fuel0 + 1))
noncomputable def ranges_Fill.c : Kn Tryz.prog := Kn.of 150 ranges_Fill.a ranges_Fill.r (fun a => ranges_Fill.f a.1) ranges_Fill.con
def bits_Add64.a : ACods (Int × Int × Int × Unit) := (.cons (.val (.int .u64)) (.cons (.val (.int .u64)) (.cons (.val (.int .u64)) .nil)))
def bits_Add64.r : RCod (Int × Int) := .val (.tup (.cons (.int .u64) (.one (.int .u64))))
noncomputable def bits_Add64.f (a0 a1 a2 : Int) : Option (Int × Int) :=
  bif decide (0 ≤ a0) && (decide (0 ≤ a1) && (decide (0 ≤ a2) && decide (a2 ≤ 1))) then some ((a0 + a1 + a2) % 18446744073709551616, (a0 + a1 + a2) / 18446744073709551616) else none
theorem bits_Add64.con (a : Int × Int × Int × Unit) (r : Int × Int) (h : bits_Add64.f a.1 a.2.1 a.2.2.1 = some r) : Contract Tryz.prog 216 (bits_Add64.a.enc a) (bits_Add64.r.enc r) := by
  obtain ⟨x, y, c, ⟨⟩⟩ := a
  unfold bits_Add64.f at h
  obtain ⟨hc, h⟩ := bif_some h
  simp only [Bool.and_eq_true, decide_eq_true_eq] at hc
  obtain ⟨h1, h2, h3, h4⟩ := hc
  cases h
  intro fz w args hfz _ ⟨hl, ha⟩
  have hs : args.size = 3 := hl.symm
  have e0 : args[0]? = some (.int .u64 x) := by obtain ⟨v, hv, hr⟩ := ha 0 _ rfl; have hr : v = _ := hr; rw [hv, hr]; rfl
  have e1 : args[1]? = some (.int .u64 y) := by obtain ⟨v, hv, hr⟩ := ha 1 _ rfl; have hr : v = _ := hr; rw [hv, hr]; rfl
  have e2 : args[2]? = some (.int .u64 c) := by obtain ⟨v, hv, hr⟩ := ha 2 _ rfl; have hr : v = _ := hr; rw [hv, hr]; rfl
  have hargs : args = #[.int .u64 x, .int .u64 y, .int .u64 c] := by
    apply Array.ext_getElem?
    intro i
    match i with
    | 0 => exact e0
    | 1 => exact e1
    | 2 => exact e2
    | i + 3 => rw [Array.getElem?_eq_none (by omega)]; exact (Array.getElem?_eq_none (by simp)).symm
  unfold CallOk
  rw [hargs, run_callFunc_extern (fn := Tryz.f216) (by kernel_rfl) (by kernel_rfl) (by kernel_rfl) (by kernel_rfl) (e := add64Entry) (by kernel_rfl), run_add64 x y c h1 h2 h3 h4]
  exact ⟨Below.refl _ _, fz, hfz, ⟨fun _ _ h => h, fun _ _ h => .inl h⟩, rfl⟩
noncomputable def bits_Add64.c : Kn Tryz.prog := Kn.of 216 bits_Add64.a bits_Add64.r (fun a => bits_Add64.f a.1 a.2.1 a.2.2.1) bits_Add64.con
def ranges_sum.a : ACods (Int × (Int × Int) × (Int × Int) × Unit) := (.cons (.val (.int .i64)) (.cons (.val (.agg (.cons (.int .u64) (.one (.int .u64))))) (.cons (.val (.agg (.cons (.int .u64) (.one (.int .u64))))) .nil)))
def ranges_sum.r : RCod (Int × Int) := .val (.agg (.cons (.int .u64) (.one (.int .u64))))
noncomputable def ranges_sum.cs : List (Kn Tryz.prog) := [bits_Mask.c, bits_Add64.c, ranges_Top.c, bits_Cut.c]
def ranges_sum.live : Nat → Option Keep := liveOf [(14, ⟨[0, 6, 8, 10], [6], [], [], []⟩)]
noncomputable def ranges_sum.body : Code := bodyOf Tryz.f151
noncomputable def ranges_sum.K (fu : Nat) : Code → St → (Ex → St → Option (Int × Int)) → Option (Int × Int) := codeK Tryz.prog (ranges_sum.cs) ranges_sum.live fu
noncomputable def ranges_sum.p7 (m fu : Nat) (x0 x8 x10 : Int) : Option (Int × Int) :=
  joinK m (ranges_sum.K fu (sub ranges_sum.body [true, true, true, true, true, true])) (stOf 58 [(0, .val (.int .i64 x0)), (6, .ptr 6 0 0 0), (8, .val (.int .u64 x8)), (10, .val (.int .u64 x10))] [(6, .own [.val (.int .u64 0), .val (.int .u64 0)])]) (retC Tryz.prog Tryz.f151.results ranges_sum.r.dec)
theorem ranges_sum.p7_eq (m fu : Nat) (x0 x8 x10 : Int) : ranges_sum.p7 (m + 1) fu x0 x8 x10 =
  (bits_Cut.f x0 x8).bind fun r5 =>
  (bits_Cut.f x0 x10).bind fun r6 =>
  some (r5, r6) := by kernel_rfl
noncomputable def ranges_sum.g (fu : Nat) (a0 : Int) (a1 : Int × Int) (a2 : Int × Int) : Option (Int × Int) :=
  (bits_Mask.f a0).bind fun r1 =>
  (bits_Add64.f a1.1 a2.1 0).bind fun r2 =>
  (bits_Add64.f a1.2 a2.2 0).bind fun r3 =>
  bif (r2.2 == 0) then
    bif (r3.2 == 0) then
      bif (!((decide (r2.1 ≤ r1)) == (decide (r3.1 ≤ r1)))) then
        (ranges_Top.f a0).bind fun r4 =>
        some (r4.1, r4.2)
      else
        ranges_sum.p7 fu fu a0 r2.1 r3.1
    else
      bif (!((decide (r2.1 ≤ r1)) == false)) then
        (ranges_Top.f a0).bind fun r7 =>
        some (r7.1, r7.2)
      else
        ranges_sum.p7 fu fu a0 r2.1 r3.1
  else
    bif (r3.2 == 0) then
      bif (!(false == (decide (r3.1 ≤ r1)))) then
        (ranges_Top.f a0).bind fun r8 =>
        some (r8.1, r8.2)
      else
        ranges_sum.p7 fu fu a0 r2.1 r3.1
    else
      ranges_sum.p7 fu fu a0 r2.1 r3.1
noncomputable def ranges_sum.f (a0 : Int) (a1 : Int × Int) (a2 : Int × Int) : Option (Int × Int) := ranges_sum.g (fuel0 + 1) a0 a1 a2
theorem ranges_sum.eq (fu : Nat) (a : Int × (Int × Int) × (Int × Int) × Unit) : bodyK Tryz.prog ranges_sum.cs ranges_sum.live fu Tryz.f151 (ranges_sum.a.enc a) ranges_sum.r.dec = ranges_sum.g fu a.1 a.2.1 a.2.2.1 := by kernel_rfl
theorem ranges_sum.con : ∀ (a : Int × (Int × Int) × (Int × Int) × Unit) (r : Int × Int), ranges_sum.f a.1 a.2.1 a.2.2.1 = some r → Contract Tryz.prog 151 (ranges_sum.a.enc a) (ranges_sum.r.enc r) := Contract.of_body (by kernel_rfl) (by kernel_rfl) mixed (ranges_sum.eq (fuel0 + 1))
noncomputable def ranges_sum.c : Kn Tryz.prog := Kn.of 151 ranges_sum.a ranges_sum.r (fun a => ranges_sum.f a.1 a.2.1 a.2.2.1) ranges_sum.con
def ranges_difference.a : ACods (Int × (Int × Int) × (Int × Int) × Unit) := (.cons (.val (.int .i64)) (.cons (.val (.agg (.cons (.int .u64) (.one (.int .u64))))) (.cons (.val (.agg (.cons (.int .u64) (.one (.int .u64))))) .nil)))
def ranges_difference.r : RCod (Int × Int) := .val (.agg (.cons (.int .u64) (.one (.int .u64))))
noncomputable def ranges_difference.cs : List (Kn Tryz.prog) := [ranges_Top.c, bits_Cut.c]
def ranges_difference.live : Nat → Option Keep := liveOf []
noncomputable def ranges_difference.f (a0 : Int) (a1 : Int × Int) (a2 : Int × Int) : Option (Int × Int) :=
  bif (!((decide (a1.1 < a2.2)) == (decide (a1.2 < a2.1)))) then
    (ranges_Top.f a0).bind fun r1 =>
    some (r1.1, r1.2)
  else
    (bits_Cut.f a0 (IntKind.u64.wrap (a1.1 - a2.2))).bind fun r2 =>
    (bits_Cut.f a0 (IntKind.u64.wrap (a1.2 - a2.1))).bind fun r3 =>
    some (r2, r3)
theorem ranges_difference.eq (fu : Nat) (a : Int × (Int × Int) × (Int × Int) × Unit) : bodyK Tryz.prog ranges_difference.cs ranges_difference.live fu Tryz.f152 (ranges_difference.a.enc a) ranges_difference.r.dec = ranges_difference.f a.1 a.2.1 a.2.2.1 := by kernel_rfl
theorem ranges_difference.con : ∀ (a : Int × (Int × Int) × (Int × Int) × Unit) (r : Int × Int), ranges_difference.f a.1 a.2.1 a.2.2.1 = some r → Contract Tryz.prog 152 (ranges_difference.a.enc a) (ranges_difference.r.enc r) := Contract.of_body (by kernel_rfl) (by kernel_rfl) mixed (ranges_difference.eq (fuel0 + 1))
noncomputable def ranges_difference.c : Kn Tryz.prog := Kn.of 152 ranges_difference.a ranges_difference.r (fun a => ranges_difference.f a.1 a.2.1 a.2.2.1) ranges_difference.con
def bits_Mul64.a : ACods (Int × Int × Unit) := (.cons (.val (.int .u64)) (.cons (.val (.int .u64)) .nil))
def bits_Mul64.r : RCod (Int × Int) := .val (.tup (.cons (.int .u64) (.one (.int .u64))))
noncomputable def bits_Mul64.cs : List (Kn Tryz.prog) := []
def bits_Mul64.live : Nat → Option Keep := liveOf []
noncomputable def bits_Mul64.f (a0 a1 : Int) : Option (Int × Int) :=
  some ((IntKind.u64.wrap ((IntKind.u64.wrap ((IntKind.u64.wrap ((shr .u64 a0 32) * (shr .u64 a1 32))) + (shr .u64 (IntKind.u64.wrap ((IntKind.u64.wrap ((shr .u64 a0 32) * (Go.bits .and .u64 a1 4294967295))) + (shr .u64 (IntKind.u64.wrap ((Go.bits .and .u64 a0 4294967295) * (Go.bits .and .u64 a1 4294967295))) 32))) 32))) + (shr .u64 (IntKind.u64.wrap ((Go.bits .and .u64 (IntKind.u64.wrap ((IntKind.u64.wrap ((shr .u64 a0 32) * (Go.bits .and .u64 a1 4294967295))) + (shr .u64 (IntKind.u64.wrap ((Go.bits .and .u64 a0 4294967295) * (Go.bits .and .u64 a1 4294967295))) 32))) 4294967295) + (IntKind.u64.wrap ((Go.bits .and .u64 a0 4294967295) * (shr .u64 a1 32))))) 32))), (IntKind.u64.wrap (a0 * a1)))
theorem bits_Mul64.eq (fu : Nat) (a : Int × Int × Unit) : bodyK Tryz.prog bits_Mul64.cs bits_Mul64.live fu Tryz.f217 (bits_Mul64.a.enc a) bits_Mul64.r.dec = bits_Mul64.f a.1 a.2.1 := by kernel_rfl
theorem bits_Mul64.con : ∀ (a : Int × Int × Unit) (r : Int × Int), bits_Mul64.f a.1 a.2.1 = some r → Contract Tryz.prog 217 (bits_Mul64.a.enc a) (bits_Mul64.r.enc r) := Contract.of_body (by kernel_rfl) (by kernel_rfl) mixed (bits_Mul64.eq (fuel0 + 1))
noncomputable def bits_Mul64.c : Kn Tryz.prog := Kn.of 217 bits_Mul64.a bits_Mul64.r (fun a => bits_Mul64.f a.1 a.2.1) bits_Mul64.con
def ranges_product.a : ACods (Int × (Int × Int) × (Int × Int) × Unit) := (.cons (.val (.int .i64)) (.cons (.val (.agg (.cons (.int .u64) (.one (.int .u64))))) (.cons (.val (.agg (.cons (.int .u64) (.one (.int .u64))))) .nil)))
def ranges_product.r : RCod (Int × Int) := .val (.agg (.cons (.int .u64) (.one (.int .u64))))
noncomputable def ranges_product.cs : List (Kn Tryz.prog) := [bits_Mul64.c, ranges_Top.c, bits_Mask.c]
def ranges_product.live : Nat → Option Keep := liveOf []
noncomputable def ranges_product.f (a0 : Int) (a1 : Int × Int) (a2 : Int × Int) : Option (Int × Int) :=
  (bits_Mul64.f a1.2 a2.2).bind fun r1 =>
  bif (r1.1 != 0) then
    (ranges_Top.f a0).bind fun r2 =>
    some (r2.1, r2.2)
  else
    (bits_Mask.f a0).bind fun r3 =>
    bif (decide (r1.2 > r3)) then
      (ranges_Top.f a0).bind fun r4 =>
      some (r4.1, r4.2)
    else
      some ((IntKind.u64.wrap (a1.1 * a2.1)), r1.2)
theorem ranges_product.eq (fu : Nat) (a : Int × (Int × Int) × (Int × Int) × Unit) : bodyK Tryz.prog ranges_product.cs ranges_product.live fu Tryz.f153 (ranges_product.a.enc a) ranges_product.r.dec = ranges_product.f a.1 a.2.1 a.2.2.1 := by kernel_rfl
theorem ranges_product.con : ∀ (a : Int × (Int × Int) × (Int × Int) × Unit) (r : Int × Int), ranges_product.f a.1 a.2.1 a.2.2.1 = some r → Contract Tryz.prog 153 (ranges_product.a.enc a) (ranges_product.r.enc r) := Contract.of_body (by kernel_rfl) (by kernel_rfl) mixed (ranges_product.eq (fuel0 + 1))
noncomputable def ranges_product.c : Kn Tryz.prog := Kn.of 153 ranges_product.a ranges_product.r (fun a => ranges_product.f a.1 a.2.1 a.2.2.1) ranges_product.con
def ranges_quotient.a : ACods (Int × (Int × Int) × (Int × Int) × Unit) := (.cons (.val (.int .i64)) (.cons (.val (.agg (.cons (.int .u64) (.one (.int .u64))))) (.cons (.val (.agg (.cons (.int .u64) (.one (.int .u64))))) .nil)))
def ranges_quotient.r : RCod (Int × Int) := .val (.agg (.cons (.int .u64) (.one (.int .u64))))
noncomputable def ranges_quotient.cs : List (Kn Tryz.prog) := [ranges_Top.c]
def ranges_quotient.live : Nat → Option Keep := liveOf []
noncomputable def ranges_quotient.f (a0 : Int) (a1 : Int × Int) (a2 : Int × Int) : Option (Int × Int) :=
  bif (a2.1 == 0) then
    (ranges_Top.f a0).bind fun r1 =>
    some (r1.1, r1.2)
  else
    bif decide (a2.2 = 0) then
      none
    else
      bif decide (a2.1 = 0) then
        none
      else
        some ((IntKind.u64.wrap (Int.tdiv a1.1 a2.2)), (IntKind.u64.wrap (Int.tdiv a1.2 a2.1)))
theorem ranges_quotient.eq (fu : Nat) (a : Int × (Int × Int) × (Int × Int) × Unit) : bodyK Tryz.prog ranges_quotient.cs ranges_quotient.live fu Tryz.f154 (ranges_quotient.a.enc a) ranges_quotient.r.dec = ranges_quotient.f a.1 a.2.1 a.2.2.1 := by kernel_rfl
theorem ranges_quotient.con : ∀ (a : Int × (Int × Int) × (Int × Int) × Unit) (r : Int × Int), ranges_quotient.f a.1 a.2.1 a.2.2.1 = some r → Contract Tryz.prog 154 (ranges_quotient.a.enc a) (ranges_quotient.r.enc r) := Contract.of_body (by kernel_rfl) (by kernel_rfl) mixed (ranges_quotient.eq (fuel0 + 1))
noncomputable def ranges_quotient.c : Kn Tryz.prog := Kn.of 154 ranges_quotient.a ranges_quotient.r (fun a => ranges_quotient.f a.1 a.2.1 a.2.2.1) ranges_quotient.con
def ranges_remainder.a : ACods ((Int × Int) × (Int × Int) × Unit) := (.cons (.val (.agg (.cons (.int .u64) (.one (.int .u64))))) (.cons (.val (.agg (.cons (.int .u64) (.one (.int .u64))))) .nil))
def ranges_remainder.r : RCod (Int × Int) := .val (.agg (.cons (.int .u64) (.one (.int .u64))))
noncomputable def ranges_remainder.cs : List (Kn Tryz.prog) := []
def ranges_remainder.live : Nat → Option Keep := liveOf []
noncomputable def ranges_remainder.f (a0 : Int × Int) (a1 : Int × Int) : Option (Int × Int) :=
  bif (decide (a0.2 < a1.1)) then
    some (a0.1, a0.2)
  else
    bif (decide (a1.1 > 0)) then
      some (0, (mn a0.2 (IntKind.u64.wrap (a1.2 - 1))))
    else
      some (0, a0.2)
theorem ranges_remainder.eq (fu : Nat) (a : (Int × Int) × (Int × Int) × Unit) : bodyK Tryz.prog ranges_remainder.cs ranges_remainder.live fu Tryz.f155 (ranges_remainder.a.enc a) ranges_remainder.r.dec = ranges_remainder.f a.1 a.2.1 := by kernel_rfl
theorem ranges_remainder.con : ∀ (a : (Int × Int) × (Int × Int) × Unit) (r : Int × Int), ranges_remainder.f a.1 a.2.1 = some r → Contract Tryz.prog 155 (ranges_remainder.a.enc a) (ranges_remainder.r.enc r) := Contract.of_body (by kernel_rfl) (by kernel_rfl) mixed (ranges_remainder.eq (fuel0 + 1))
noncomputable def ranges_remainder.c : Kn Tryz.prog := Kn.of 155 ranges_remainder.a ranges_remainder.r (fun a => ranges_remainder.f a.1 a.2.1) ranges_remainder.con
def ranges_single.a : ACods ((Int × Int) × Unit) := (.cons (.val (.agg (.cons (.int .u64) (.one (.int .u64))))) .nil)
def ranges_single.r : RCod (Bool) := .val (.bool)
noncomputable def ranges_single.cs : List (Kn Tryz.prog) := []
def ranges_single.live : Nat → Option Keep := liveOf []
noncomputable def ranges_single.f (a0 : Int × Int) : Option (Bool) :=
  some (a0.1 == a0.2)
theorem ranges_single.eq (fu : Nat) (a : (Int × Int) × Unit) : bodyK Tryz.prog ranges_single.cs ranges_single.live fu Tryz.f91 (ranges_single.a.enc a) ranges_single.r.dec = ranges_single.f a.1 := by kernel_rfl
theorem ranges_single.con : ∀ (a : (Int × Int) × Unit) (r : Bool), ranges_single.f a.1 = some r → Contract Tryz.prog 91 (ranges_single.a.enc a) (ranges_single.r.enc r) := Contract.of_body (by kernel_rfl) (by kernel_rfl) mixed (ranges_single.eq (fuel0 + 1))
noncomputable def ranges_single.c : Kn Tryz.prog := Kn.of 91 ranges_single.a ranges_single.r (fun a => ranges_single.f a.1) ranges_single.con
def ranges_shift.a : ACods (Int × Int × (Int × Int) × (Int × Int) × Unit) := (.cons (.val (.int .i64)) (.cons (.val (.int .i64)) (.cons (.val (.agg (.cons (.int .u64) (.one (.int .u64))))) (.cons (.val (.agg (.cons (.int .u64) (.one (.int .u64))))) .nil))))
def ranges_shift.r : RCod (Int × Int) := .val (.agg (.cons (.int .u64) (.one (.int .u64))))
noncomputable def ranges_shift.cs : List (Kn Tryz.prog) := [bits_Mask.c, ranges_Top.c, ranges_single.c]
def ranges_shift.live : Nat → Option Keep := liveOf [(12, ⟨[6, 7, 8], [6, 7, 8], [], [], []⟩)]
noncomputable def ranges_shift.body : Code := bodyOf Tryz.f156
noncomputable def ranges_shift.K (fu : Nat) : Code → St → (Ex → St → Option (Int × Int)) → Option (Int × Int) := codeK Tryz.prog (ranges_shift.cs) ranges_shift.live fu
noncomputable def ranges_shift.p6 (m fu : Nat) (c6_0 c6_1 c7_0 c7_1 c8_0 c8_1 : Int) : Option (Int × Int) :=
  joinK m (ranges_shift.K fu (sub ranges_shift.body [true, false, true, false, true])) (stOf 71 [(6, .ptr 6 0 0 0), (7, .ptr 7 0 0 0), (8, .ptr 8 0 0 0)] [(6, .own [.val (.int .u64 c6_0), .val (.int .u64 c6_1)]), (7, .own [.val (.int .u64 c7_0), .val (.int .u64 c7_1)]), (8, .own [.val (.int .u64 c8_0), .val (.int .u64 c8_1)])]) (blockC 0 (seqC fu (ranges_shift.live 18) (ranges_shift.K fu (sub ranges_shift.body [true, true])) (retC Tryz.prog Tryz.f156.results ranges_shift.r.dec)))
theorem ranges_shift.p6_eq (m fu : Nat) (c6_0 c6_1 c7_0 c7_1 c8_0 c8_1 : Int) : ranges_shift.p6 (m + 1) fu c6_0 c6_1 c7_0 c7_1 c8_0 c8_1 =
  (ranges_single.f (c7_0, c7_1)).bind fun r3 =>
  bif (!r3) then
    some (0, c6_1)
  else
    bif decide (c7_0 < 0) then
      none
    else
      bif decide (c7_0 < 0) then
        none
      else
        some ((shr .u64 c6_0 c7_0), (shr .u64 c6_1 c7_0)) := by kernel_rfl
noncomputable def ranges_shift.g (fu : Nat) (a0 a1 : Int) (a2 : Int × Int) (a3 : Int × Int) : Option (Int × Int) :=
  bif (a0 == 15) then
    (bits_Mask.f a1).bind fun r1 =>
    bif (decide (a2.2 > (shr .u64 r1 1))) then
      (ranges_Top.f a1).bind fun r2 =>
      some (r2.1, r2.2)
    else
      ranges_shift.p6 fu fu a2.1 a2.2 a3.1 a3.2 0 0
  else
    bif (a0 == 14) then
      ranges_shift.p6 fu fu a2.1 a2.2 a3.1 a3.2 0 0
    else
      (ranges_single.f (a3.1, a3.2)).bind fun r4 =>
      bif (!r4) then
        (ranges_Top.f a1).bind fun r5 =>
        some (r5.1, r5.2)
      else
        bif (decide (a3.1 ≥ (IntKind.u64.wrap a1))) then
          some (0, 0)
        else
          (bits_Mask.f a1).bind fun r6 =>
          bif decide (a3.1 < 0) then
            none
          else
            bif (decide (a2.2 > (shr .u64 r6 a3.1))) then
              (ranges_Top.f a1).bind fun r7 =>
              some (r7.1, r7.2)
            else
              bif decide (a3.1 < 0) then
                none
              else
                bif decide (a3.1 < 0) then
                  none
                else
                  some ((shl .u64 a2.1 a3.1), (shl .u64 a2.2 a3.1))
noncomputable def ranges_shift.f (a0 a1 : Int) (a2 : Int × Int) (a3 : Int × Int) : Option (Int × Int) := ranges_shift.g (fuel0 + 1) a0 a1 a2 a3
theorem ranges_shift.eq (fu : Nat) (a : Int × Int × (Int × Int) × (Int × Int) × Unit) : bodyK Tryz.prog ranges_shift.cs ranges_shift.live fu Tryz.f156 (ranges_shift.a.enc a) ranges_shift.r.dec = ranges_shift.g fu a.1 a.2.1 a.2.2.1 a.2.2.2.1 := by kernel_rfl
theorem ranges_shift.con : ∀ (a : Int × Int × (Int × Int) × (Int × Int) × Unit) (r : Int × Int), ranges_shift.f a.1 a.2.1 a.2.2.1 a.2.2.2.1 = some r → Contract Tryz.prog 156 (ranges_shift.a.enc a) (ranges_shift.r.enc r) := Contract.of_body (by kernel_rfl) (by kernel_rfl) mixed (ranges_shift.eq (fuel0 + 1))
noncomputable def ranges_shift.c : Kn Tryz.prog := Kn.of 156 ranges_shift.a ranges_shift.r (fun a => ranges_shift.f a.1 a.2.1 a.2.2.1 a.2.2.2.1) ranges_shift.con
def ranges_compare.a : ACods (Int × Int × (Int × Int) × (Int × Int) × Unit) := (.cons (.val (.int .i64)) (.cons (.val (.int .i64)) (.cons (.val (.agg (.cons (.int .u64) (.one (.int .u64))))) (.cons (.val (.agg (.cons (.int .u64) (.one (.int .u64))))) .nil))))
def ranges_compare.r : RCod (Int × Int) := .val (.agg (.cons (.int .u64) (.one (.int .u64))))
noncomputable def ranges_compare.cs : List (Kn Tryz.prog) := [bits_Mask.c, ranges_single.c, ranges_Top.c]
def ranges_compare.live : Nat → Option Keep := liveOf [(18, ⟨[8], [8], [], [], []⟩), (24, ⟨[6, 7, 8], [6, 7, 8], [], [], []⟩)]
noncomputable def ranges_compare.body : Code := bodyOf Tryz.f157
noncomputable def ranges_compare.K (fu : Nat) : Code → St → (Ex → St → Option (Int × Int)) → Option (Int × Int) := codeK Tryz.prog (ranges_compare.cs) ranges_compare.live fu
noncomputable def ranges_compare.p9 (m fu : Nat) (c8_0 c8_1 : Int) : Option (Int × Int) :=
  joinK m (ranges_compare.K fu (sub ranges_compare.body [true, true, false, true, false, false, false, false, false, true, false, true, true])) (stOf 75 [(8, .ptr 8 0 0 0)] [(8, .own [.val (.int .u64 c8_0), .val (.int .u64 c8_1)])]) (seqC fu (ranges_compare.live 0) (ranges_compare.K fu (sub ranges_compare.body [true, true, false, true, false, false, false, false, false, true, true])) (blockC 2 (seqC fu (ranges_compare.live 20) (ranges_compare.K fu (sub ranges_compare.body [true, true, false, true, false, false, false, true])) (blockC 3 (seqC fu (ranges_compare.live 24) (ranges_compare.K fu (sub ranges_compare.body [true, true, false, true, false, true])) (blockC 0 (seqC fu (ranges_compare.live 32) (ranges_compare.K fu (sub ranges_compare.body [true, true, true])) (retC Tryz.prog Tryz.f157.results ranges_compare.r.dec))))))))
noncomputable def ranges_compare.p12 (m fu : Nat) (c6_0 c6_1 c7_0 c7_1 c8_0 c8_1 : Int) : Option (Int × Int) :=
  joinK m (ranges_compare.K fu (sub ranges_compare.body [true, true, false, true, false, true])) (stOf 75 [(6, .ptr 6 0 0 0), (7, .ptr 7 0 0 0), (8, .ptr 8 0 0 0)] [(6, .own [.val (.int .u64 c6_0), .val (.int .u64 c6_1)]), (7, .own [.val (.int .u64 c7_0), .val (.int .u64 c7_1)]), (8, .own [.val (.int .u64 c8_0), .val (.int .u64 c8_1)])]) (blockC 0 (seqC fu (ranges_compare.live 32) (ranges_compare.K fu (sub ranges_compare.body [true, true, true])) (retC Tryz.prog Tryz.f157.results ranges_compare.r.dec)))
theorem ranges_compare.p9_eq (m fu : Nat) (c8_0 c8_1 : Int) : ranges_compare.p9 (m + 1) fu c8_0 c8_1 =
  (ranges_Top.f 1).bind fun r4 =>
  some (r4.1, r4.2) := by kernel_rfl
theorem ranges_compare.p12_eq (m fu : Nat) (c6_0 c6_1 c7_0 c7_1 c8_0 c8_1 : Int) : ranges_compare.p12 (m + 1) fu c6_0 c6_1 c7_0 c7_1 c8_0 c8_1 =
  bif (decide (c6_1 < c7_0)) then
    some (1, 1)
  else
    bif (decide (c6_0 ≥ c7_1)) then
      some (0, 0)
    else
      (ranges_Top.f 1).bind fun r7 =>
      some (r7.1, r7.2) := by kernel_rfl
noncomputable def ranges_compare.g (fu : Nat) (a0 a1 : Int) (a2 : Int × Int) (a3 : Int × Int) : Option (Int × Int) :=
  (bits_Mask.f a1).bind fun r1 =>
  bif (a0 == 16) then
    bif (decide (a2.2 < a3.1)) then
      some (0, 0)
    else
      bif (decide (a3.2 < a2.1)) then
        some (0, 0)
      else
        (ranges_single.f (a2.1, a2.2)).bind fun r2 =>
        bif r2 then
          (ranges_single.f (a3.1, a3.2)).bind fun r3 =>
          bif r3 then
            some (1, 1)
          else
            ranges_compare.p9 fu fu 0 0
        else
          ranges_compare.p9 fu fu 0 0
  else
    bif (a0 == 18) then
      bif (decide (a2.2 > (shr .u64 r1 1))) then
        bif (decide (a2.1 ≤ (shr .u64 r1 1))) then
          (ranges_Top.f 1).bind fun r5 =>
          some (r5.1, r5.2)
        else
          bif (decide (a3.1 ≤ (shr .u64 r1 1))) then
            (ranges_Top.f 1).bind fun r6 =>
            some (r6.1, r6.2)
          else
            ranges_compare.p12 fu fu a2.1 a2.2 a3.1 a3.2 0 0
      else
        bif (decide (a3.2 > (shr .u64 r1 1))) then
          bif (decide (a2.1 ≤ (shr .u64 r1 1))) then
            (ranges_Top.f 1).bind fun r8 =>
            some (r8.1, r8.2)
          else
            bif (decide (a3.1 ≤ (shr .u64 r1 1))) then
              (ranges_Top.f 1).bind fun r9 =>
              some (r9.1, r9.2)
            else
              ranges_compare.p12 fu fu a2.1 a2.2 a3.1 a3.2 0 0
        else
          ranges_compare.p12 fu fu a2.1 a2.2 a3.1 a3.2 0 0
    else
      ranges_compare.p12 fu fu a2.1 a2.2 a3.1 a3.2 0 0
noncomputable def ranges_compare.f (a0 a1 : Int) (a2 : Int × Int) (a3 : Int × Int) : Option (Int × Int) := ranges_compare.g (fuel0 + 1) a0 a1 a2 a3
theorem ranges_compare.eq (fu : Nat) (a : Int × Int × (Int × Int) × (Int × Int) × Unit) : bodyK Tryz.prog ranges_compare.cs ranges_compare.live fu Tryz.f157 (ranges_compare.a.enc a) ranges_compare.r.dec = ranges_compare.g fu a.1 a.2.1 a.2.2.1 a.2.2.2.1 := by kernel_rfl
theorem ranges_compare.con : ∀ (a : Int × Int × (Int × Int) × (Int × Int) × Unit) (r : Int × Int), ranges_compare.f a.1 a.2.1 a.2.2.1 a.2.2.2.1 = some r → Contract Tryz.prog 157 (ranges_compare.a.enc a) (ranges_compare.r.enc r) := Contract.of_body (by kernel_rfl) (by kernel_rfl) mixed (ranges_compare.eq (fuel0 + 1))
noncomputable def ranges_compare.c : Kn Tryz.prog := Kn.of 157 ranges_compare.a ranges_compare.r (fun a => ranges_compare.f a.1 a.2.1 a.2.2.1 a.2.2.2.1) ranges_compare.con
def ranges_binary.a : ACods (Int × Int × Int × (Int × Int) × (Int × Int) × Unit) := (.cons (.val (.int .i64)) (.cons (.val (.int .i64)) (.cons (.val (.int .i64)) (.cons (.val (.agg (.cons (.int .u64) (.one (.int .u64))))) (.cons (.val (.agg (.cons (.int .u64) (.one (.int .u64))))) .nil)))))
def ranges_binary.r : RCod (Int × Int) := .val (.agg (.cons (.int .u64) (.one (.int .u64))))
noncomputable def ranges_binary.cs : List (Kn Tryz.prog) := [ranges_Fill.c, ranges_sum.c, ranges_difference.c, ranges_product.c, ranges_quotient.c, ranges_remainder.c, ranges_shift.c, bits_Concat.c, ranges_compare.c]
def ranges_binary.live : Nat → Option Keep := liveOf []
noncomputable def ranges_binary.f (a0 a1 a2 : Int) (a3 : Int × Int) (a4 : Int × Int) : Option (Int × Int) :=
  bif (a0 == 5) then
    some (0, (mn a3.2 a4.2))
  else
    bif (a0 == 6) then
      (ranges_Fill.f (Go.bits .or .u64 a3.2 a4.2)).bind fun r1 =>
      some ((mx a3.1 a4.1), r1)
    else
      bif (a0 == 7) then
        (ranges_Fill.f (Go.bits .or .u64 a3.2 a4.2)).bind fun r2 =>
        some (0, r2)
      else
        bif (a0 == 8) then
          (ranges_sum.f a1 (a3.1, a3.2) (a4.1, a4.2)).bind fun r3 =>
          some (r3.1, r3.2)
        else
          bif (a0 == 9) then
            (ranges_difference.f a1 (a3.1, a3.2) (a4.1, a4.2)).bind fun r4 =>
            some (r4.1, r4.2)
          else
            bif (a0 == 10) then
              (ranges_product.f a1 (a3.1, a3.2) (a4.1, a4.2)).bind fun r5 =>
              some (r5.1, r5.2)
            else
              bif (a0 == 11) then
                (ranges_quotient.f a1 (a3.1, a3.2) (a4.1, a4.2)).bind fun r6 =>
                some (r6.1, r6.2)
              else
                bif (a0 == 12) then
                  (ranges_remainder.f (a3.1, a3.2) (a4.1, a4.2)).bind fun r7 =>
                  some (r7.1, r7.2)
                else
                  bif (a0 == 13) then
                    (ranges_shift.f a0 a1 (a3.1, a3.2) (a4.1, a4.2)).bind fun r8 =>
                    some (r8.1, r8.2)
                  else
                    bif (a0 == 14) then
                      (ranges_shift.f a0 a1 (a3.1, a3.2) (a4.1, a4.2)).bind fun r9 =>
                      some (r9.1, r9.2)
                    else
                      bif (a0 == 15) then
                        (ranges_shift.f a0 a1 (a3.1, a3.2) (a4.1, a4.2)).bind fun r10 =>
                        some (r10.1, r10.2)
                      else
                        bif (a0 == 20) then
                          (bits_Concat.f a1 a2 a3.1 a4.1).bind fun r11 =>
                          (bits_Concat.f a1 a2 a3.2 a4.2).bind fun r12 =>
                          some (r11, r12)
                        else
                          (ranges_compare.f a0 a1 (a3.1, a3.2) (a4.1, a4.2)).bind fun r13 =>
                          some (r13.1, r13.2)
theorem ranges_binary.eq (fu : Nat) (a : Int × Int × Int × (Int × Int) × (Int × Int) × Unit) : bodyK Tryz.prog ranges_binary.cs ranges_binary.live fu Tryz.f90 (ranges_binary.a.enc a) ranges_binary.r.dec = ranges_binary.f a.1 a.2.1 a.2.2.1 a.2.2.2.1 a.2.2.2.2.1 := by kernel_rfl
theorem ranges_binary.con : ∀ (a : Int × Int × Int × (Int × Int) × (Int × Int) × Unit) (r : Int × Int), ranges_binary.f a.1 a.2.1 a.2.2.1 a.2.2.2.1 a.2.2.2.2.1 = some r → Contract Tryz.prog 90 (ranges_binary.a.enc a) (ranges_binary.r.enc r) := Contract.of_body (by kernel_rfl) (by kernel_rfl) mixed (ranges_binary.eq (fuel0 + 1))
noncomputable def ranges_binary.c : Kn Tryz.prog := Kn.of 90 ranges_binary.a ranges_binary.r (fun a => ranges_binary.f a.1 a.2.1 a.2.2.1 a.2.2.2.1 a.2.2.2.2.1) ranges_binary.con
def ranges_Join.a : ACods (Int × (Int × Int) × (Int × Int) × Unit) := (.cons (.val (.int .i64)) (.cons (.val (.agg (.cons (.int .u64) (.one (.int .u64))))) (.cons (.val (.agg (.cons (.int .u64) (.one (.int .u64))))) .nil)))
def ranges_Join.r : RCod (Int × Int) := .val (.agg (.cons (.int .u64) (.one (.int .u64))))
noncomputable def ranges_Join.cs : List (Kn Tryz.prog) := [ranges_norm.c]
def ranges_Join.live : Nat → Option Keep := liveOf []
noncomputable def ranges_Join.f (a0 : Int) (a1 : Int × Int) (a2 : Int × Int) : Option (Int × Int) :=
  (ranges_norm.f a0 (a1.1, a1.2)).bind fun r1 =>
  (ranges_norm.f a0 (a2.1, a2.2)).bind fun r2 =>
  some ((mn r1.1 r2.1), (mx r1.2 r2.2))
theorem ranges_Join.eq (fu : Nat) (a : Int × (Int × Int) × (Int × Int) × Unit) : bodyK Tryz.prog ranges_Join.cs ranges_Join.live fu Tryz.f55 (ranges_Join.a.enc a) ranges_Join.r.dec = ranges_Join.f a.1 a.2.1 a.2.2.1 := by kernel_rfl
theorem ranges_Join.con : ∀ (a : Int × (Int × Int) × (Int × Int) × Unit) (r : Int × Int), ranges_Join.f a.1 a.2.1 a.2.2.1 = some r → Contract Tryz.prog 55 (ranges_Join.a.enc a) (ranges_Join.r.enc r) := Contract.of_body (by kernel_rfl) (by kernel_rfl) mixed (ranges_Join.eq (fuel0 + 1))
noncomputable def ranges_Join.c : Kn Tryz.prog := Kn.of 55 ranges_Join.a ranges_Join.r (fun a => ranges_Join.f a.1 a.2.1 a.2.2.1) ranges_Join.con
def ranges_Apply.a : ACods (Int × Int × Int × (Nat × (Nat → Int)) × (Nat × (Nat → Int) × (Nat → Int)) × Unit) := (.cons (.val (.int .i64)) (.cons (.val (.int .i64)) (.cons (.val (.int .u64)) (.cons (.rows (.int1 .i64)) (.cons (.rows (.int .u64 (.int1 .u64))) .nil)))))
def ranges_Apply.r : RCod ((Int × Int) × Int) := .val (.tup (.cons (.agg (.cons (.int .u64) (.one (.int .u64)))) (.one (.int .i64))))
noncomputable def ranges_Apply.cs : List (Kn Tryz.prog) := [ranges_check.c, ranges_norm.c, ranges_Const.c, ranges_Top.c, ranges_unary.c, ranges_binary.c, ranges_single.c, ranges_Join.c]
def ranges_Apply.live : Nat → Option Keep := liveOf [(13, ⟨[0, 2, 3, 10, 12, 14, 30, 31, 32], [3, 4, 10, 14], [(14, 29, [.int .u64 (fun _ => 0), .int .u64 (fun _ => 0)])], [], []⟩)]
noncomputable def ranges_Apply.body : Code := bodyOf Tryz.f37
noncomputable def ranges_Apply.K (fu : Nat) : Code → St → (Ex → St → Option ((Int × Int) × Int)) → Option ((Int × Int) × Int) := codeK Tryz.prog (ranges_Apply.cs) ranges_Apply.live fu
noncomputable def ranges_Apply.j6 (fu n6 : Nat) (x0 x2 : Int) (x3n : Nat) (x12 : Int) (x14n x30n : Nat) (x31 x32 : Int) (m3 : Nat) (g3_0 : Nat → Int) (m4 : Nat) (g4_0 g4_1 : Nat → Int) (c10_0 c10_1 : Int) (m14 : Nat) (g14_0 g14_1 : Nat → Int) : Option ((Int × Int) × Int) :=
  loopK (ranges_Apply.K fu (sub ranges_Apply.body [true, true, true, true, false, true, false, false])) (ranges_Apply.live 13) n6 (stOf 110 [(0, .val (.int .i64 x0)), (2, .val (.int .u64 x2)), (3, .sl 3 1 x3n), (10, .ptr 10 0 0 0), (12, .val (.int .i64 x12)), (14, .sl 14 2 x14n), (30, .sl 4 2 x30n), (31, .val (.int .i64 x31)), (32, .val (.int .i64 x32))] [(3, .ext m3 [.int .i64 g3_0]), (4, .ext m4 [.int .u64 g4_0, .int .u64 g4_1]), (10, .own [.val (.int .u64 c10_0), .val (.int .u64 c10_1)]), (14, .grow 29 m14 [.int .u64 g14_0, .int .u64 g14_1])]) (blockC 0 (seqC fu (ranges_Apply.live 20) (ranges_Apply.K fu (sub ranges_Apply.body [true, true, true, true, true])) (retC Tryz.prog Tryz.f37.results ranges_Apply.r.dec)))
noncomputable def ranges_Apply.g (fu : Nat) (a0 a1 a2 : Int) (a3 : Nat × (Nat → Int)) (a4 : Nat × (Nat → Int) × (Nat → Int)) : Option ((Int × Int) × Int) :=
  (ranges_check.f a0 a1 a2 (a3.1, a3.2) (a4.1, a4.2.1, a4.2.2)).bind fun r1 =>
  bif (r1.2 != 0) then
    some ((0, 0), r1.2)
  else
    ranges_Apply.j6 fu fu a0 a2 a3.1 r1.1 0 a4.1 (a4.1 : Int) 0 a3.1 a3.2 a4.1 a4.2.1 a4.2.2 0 0 0 (fun _ => 0) (fun _ => 0)
noncomputable def ranges_Apply.f (a0 a1 a2 : Int) (a3 : Nat × (Nat → Int)) (a4 : Nat × (Nat → Int) × (Nat → Int)) : Option ((Int × Int) × Int) := ranges_Apply.g (fuel0 + 1) a0 a1 a2 a3 a4
theorem ranges_Apply.eq (fu : Nat) (a : Int × Int × Int × (Nat × (Nat → Int)) × (Nat × (Nat → Int) × (Nat → Int)) × Unit) : bodyK Tryz.prog ranges_Apply.cs ranges_Apply.live fu Tryz.f37 (ranges_Apply.a.enc a) ranges_Apply.r.dec = ranges_Apply.g fu a.1 a.2.1 a.2.2.1 a.2.2.2.1 a.2.2.2.2.1 := by kernel_rfl
theorem ranges_Apply.con : ∀ (a : Int × Int × Int × (Nat × (Nat → Int)) × (Nat × (Nat → Int) × (Nat → Int)) × Unit) (r : (Int × Int) × Int), ranges_Apply.f a.1 a.2.1 a.2.2.1 a.2.2.2.1 a.2.2.2.2.1 = some r → Contract Tryz.prog 37 (ranges_Apply.a.enc a) (ranges_Apply.r.enc r) := Contract.of_body (by kernel_rfl) (by kernel_rfl) mixed (ranges_Apply.eq (fuel0 + 1))
noncomputable def ranges_Apply.c : Kn Tryz.prog := Kn.of 37 ranges_Apply.a ranges_Apply.r (fun a => ranges_Apply.f a.1 a.2.1 a.2.2.1 a.2.2.2.1 a.2.2.2.2.1) ranges_Apply.con
def facts_Reduce.a : ACods ((Int × Int × Int × Int × Int) × Unit) := (.cons (.val (.agg (.cons (.int .i64) (.cons (.int .u64) (.cons (.int .u64) (.cons (.int .u64) (.one (.int .u64)))))))) .nil)
def facts_Reduce.r : RCod ((Int × Int × Int × Int × Int) × Bool) := .val (.tup (.cons (.agg (.cons (.int .i64) (.cons (.int .u64) (.cons (.int .u64) (.cons (.int .u64) (.one (.int .u64))))))) (.one (.bool))))
noncomputable def facts_Reduce.cs : List (Kn Tryz.prog) := [facts_clamp.c, known_Valid.c, known_Top.c, ranges_Valid.c, ranges_Top.c, facts_step.c, facts_Top.c]
def facts_Reduce.live : Nat → Option Keep := liveOf [(8, ⟨[1, 2, 4], [1, 2], [], [], []⟩), (12, ⟨[1, 2, 4], [1, 2], [], [], []⟩), (15, ⟨[1, 2, 4], [1, 2], [], [], []⟩)]
noncomputable def facts_Reduce.body : Code := bodyOf Tryz.f27
noncomputable def facts_Reduce.K (fu : Nat) : Code → St → (Ex → St → Option ((Int × Int × Int × Int × Int) × Bool)) → Option ((Int × Int × Int × Int × Int) × Bool) := codeK Tryz.prog (facts_Reduce.cs) facts_Reduce.live fu
noncomputable def facts_Reduce.p4 (m fu : Nat) (x4 c1_0 c1_1 c1_2 c1_3 c1_4 : Int) : Option ((Int × Int × Int × Int × Int) × Bool) :=
  joinK m (facts_Reduce.K fu (sub facts_Reduce.body [true, false, true, true])) (stOf 44 [(1, .ptr 1 0 0 0), (2, .ptr 2 0 0 0), (4, .val (.int .i64 x4))] [(1, .own [.val (.int .i64 c1_0), .val (.int .u64 c1_1), .val (.int .u64 c1_2), .val (.int .u64 c1_3), .val (.int .u64 c1_4)]), (2, .own [.val (.int .i64 0), .val (.int .u64 0), .val (.int .u64 0), .val (.int .u64 0), .val (.int .u64 0)])]) (retC Tryz.prog Tryz.f27.results facts_Reduce.r.dec)
noncomputable def facts_Reduce.p6 (m fu : Nat) (x4 c1_0 c1_1 c1_2 c1_3 c1_4 c2_0 c2_1 c2_2 c2_3 c2_4 : Int) : Option ((Int × Int × Int × Int × Int) × Bool) :=
  joinK m (facts_Reduce.K fu (sub facts_Reduce.body [true, false, true, true, true])) (stOf 44 [(1, .ptr 1 0 0 0), (2, .ptr 2 0 0 0), (4, .val (.int .i64 x4))] [(1, .own [.val (.int .i64 c1_0), .val (.int .u64 c1_1), .val (.int .u64 c1_2), .val (.int .u64 c1_3), .val (.int .u64 c1_4)]), (2, .own [.val (.int .i64 c2_0), .val (.int .u64 c2_1), .val (.int .u64 c2_2), .val (.int .u64 c2_3), .val (.int .u64 c2_4)])]) (retC Tryz.prog Tryz.f27.results facts_Reduce.r.dec)
noncomputable def facts_Reduce.j7 (fu n7 : Nat) (x4 c1_0 c1_1 c1_2 c1_3 c1_4 c2_0 c2_1 c2_2 c2_3 c2_4 : Int) : Option ((Int × Int × Int × Int × Int) × Bool) :=
  loopK (facts_Reduce.K fu (sub facts_Reduce.body [true, false, true, true, true, true, true, false, false, false])) (facts_Reduce.live 15) n7 (stOf 44 [(1, .ptr 1 0 0 0), (2, .ptr 2 0 0 0), (4, .val (.int .i64 x4))] [(1, .own [.val (.int .i64 c1_0), .val (.int .u64 c1_1), .val (.int .u64 c1_2), .val (.int .u64 c1_3), .val (.int .u64 c1_4)]), (2, .own [.val (.int .i64 c2_0), .val (.int .u64 c2_1), .val (.int .u64 c2_2), .val (.int .u64 c2_3), .val (.int .u64 c2_4)])]) (blockC 0 (seqC fu (facts_Reduce.live 24) (facts_Reduce.K fu (sub facts_Reduce.body [true, false, true, true, true, true, true, true])) (retC Tryz.prog Tryz.f27.results facts_Reduce.r.dec)))
theorem facts_Reduce.j7_succ (fu n7 : Nat) (x4 c1_0 c1_1 c1_2 c1_3 c1_4 c2_0 c2_1 c2_2 c2_3 c2_4 : Int) : facts_Reduce.j7 fu (n7 + 1) x4 c1_0 c1_1 c1_2 c1_3 c1_4 c2_0 c2_1 c2_2 c2_3 c2_4 =
  (facts_step.f (c1_0, c1_1, c1_2, c1_3, c1_4)).bind fun r6 =>
  bif (!r6.2) then
    (facts_Top.f x4).bind fun r7 =>
    some ((r7.1, r7.2.1, r7.2.2.1, r7.2.2.2.1, r7.2.2.2.2), false)
  else
    bif ((r6.1.1 == c1_0) && (((r6.1.2.1 == c1_1) && ((r6.1.2.2.1 == c1_2) && true)) && (((r6.1.2.2.2.1 == c1_3) && ((r6.1.2.2.2.2 == c1_4) && true)) && true))) then
      some ((c1_0, c1_1, c1_2, c1_3, c1_4), true)
    else
      facts_Reduce.j7 fu n7 x4 r6.1.1 r6.1.2.1 r6.1.2.2.1 r6.1.2.2.2.1 r6.1.2.2.2.2 c2_0 c2_1 c2_2 c2_3 c2_4 := by kernel_rfl
theorem facts_Reduce.p6_eq (m fu : Nat) (x4 c1_0 c1_1 c1_2 c1_3 c1_4 c2_0 c2_1 c2_2 c2_3 c2_4 : Int) : facts_Reduce.p6 (m + 1) fu x4 c1_0 c1_1 c1_2 c1_3 c1_4 c2_0 c2_1 c2_2 c2_3 c2_4 =
  facts_Reduce.j7 fu fu x4 x4 c1_1 c1_2 c1_3 c1_4 c2_0 c2_1 c2_2 c2_3 c2_4 := by kernel_rfl
theorem facts_Reduce.p4_eq (m fu : Nat) (x4 c1_0 c1_1 c1_2 c1_3 c1_4 : Int) : facts_Reduce.p4 (m + 1) fu x4 c1_0 c1_1 c1_2 c1_3 c1_4 =
  (ranges_Valid.f x4 (c1_3, c1_4)).bind fun r4 =>
  bif (!r4) then
    (ranges_Top.f x4).bind fun r5 =>
    facts_Reduce.p6 fu fu x4 c1_0 c1_1 c1_2 r5.1 r5.2 0 0 0 0 0
  else
    facts_Reduce.p6 fu fu x4 c1_0 c1_1 c1_2 c1_3 c1_4 0 0 0 0 0 := by kernel_rfl
noncomputable def facts_Reduce.g (fu : Nat) (a0 : Int × Int × Int × Int × Int) : Option ((Int × Int × Int × Int × Int) × Bool) :=
  (facts_clamp.f a0.1).bind fun r1 =>
  (known_Valid.f r1 (a0.2.1, a0.2.2.1)).bind fun r2 =>
  bif (!r2) then
    (known_Top.f r1).bind fun r3 =>
    facts_Reduce.p4 fu fu r1 a0.1 r3.1 r3.2 a0.2.2.2.1 a0.2.2.2.2
  else
    facts_Reduce.p4 fu fu r1 a0.1 a0.2.1 a0.2.2.1 a0.2.2.2.1 a0.2.2.2.2
noncomputable def facts_Reduce.f (a0 : Int × Int × Int × Int × Int) : Option ((Int × Int × Int × Int × Int) × Bool) := facts_Reduce.g (fuel0 + 1) a0
theorem facts_Reduce.eq (fu : Nat) (a : (Int × Int × Int × Int × Int) × Unit) : bodyK Tryz.prog facts_Reduce.cs facts_Reduce.live fu Tryz.f27 (facts_Reduce.a.enc a) facts_Reduce.r.dec = facts_Reduce.g fu a.1 := by kernel_rfl
theorem facts_Reduce.con : ∀ (a : (Int × Int × Int × Int × Int) × Unit) (r : (Int × Int × Int × Int × Int) × Bool), facts_Reduce.f a.1 = some r → Contract Tryz.prog 27 (facts_Reduce.a.enc a) (facts_Reduce.r.enc r) := Contract.of_body (by kernel_rfl) (by kernel_rfl) mixed (facts_Reduce.eq (fuel0 + 1))
noncomputable def facts_Reduce.c : Kn Tryz.prog := Kn.of 27 facts_Reduce.a facts_Reduce.r (fun a => facts_Reduce.f a.1) facts_Reduce.con
def facts_Apply.a : ACods (Int × Int × Int × (Nat × (Nat → Int) × (Nat → Int) × (Nat → Int) × (Nat → Int) × (Nat → Int)) × Unit) := (.cons (.val (.int .i64)) (.cons (.val (.int .i64)) (.cons (.val (.int .u64)) (.cons (.rows (.int .i64 (.int .u64 (.int .u64 (.int .u64 (.int1 .u64)))))) .nil))))
def facts_Apply.r : RCod ((Int × Int × Int × Int × Int) × Int) := .val (.tup (.cons (.agg (.cons (.int .i64) (.cons (.int .u64) (.cons (.int .u64) (.cons (.int .u64) (.one (.int .u64))))))) (.one (.int .i64))))
noncomputable def facts_Apply.cs : List (Kn Tryz.prog) := [facts_of.c, known_Apply.c, ranges_Apply.c, opinfo_Width.c, facts_Reduce.c]
def facts_Apply.live : Nat → Option Keep := liveOf [(11, ⟨[0, 1, 2, 8, 10, 11, 12, 30, 31, 32], [3, 8, 23, 26, 29], [], [], []⟩)]
noncomputable def facts_Apply.body : Code := bodyOf Tryz.f10
noncomputable def facts_Apply.K (fu : Nat) : Code → St → (Ex → St → Option ((Int × Int × Int × Int × Int) × Int)) → Option ((Int × Int × Int × Int × Int) × Int) := codeK Tryz.prog (facts_Apply.cs) facts_Apply.live fu
noncomputable def facts_Apply.j5 (fu n5 : Nat) (x0 x1 x2 : Int) (x10n x11n x12n x30n : Nat) (x31 x32 : Int) (m3 : Nat) (g3_0 g3_1 g3_2 g3_3 g3_4 : Nat → Int) (c8_0 c8_1 c8_2 c8_3 c8_4 : Int) (m23 : Nat) (g23_0 : Nat → Int) (m26 : Nat) (g26_0 g26_1 : Nat → Int) (m29 : Nat) (g29_0 g29_1 : Nat → Int) : Option ((Int × Int × Int × Int × Int) × Int) :=
  loopK (facts_Apply.K fu (sub facts_Apply.body [true, true, true, true, false, true, false, false])) (facts_Apply.live 11) n5 (stOf 102 [(0, .val (.int .i64 x0)), (1, .val (.int .i64 x1)), (2, .val (.int .u64 x2)), (8, .ptr 8 0 0 0), (10, .sl 23 1 x10n), (11, .sl 26 2 x11n), (12, .sl 29 2 x12n), (30, .sl 3 5 x30n), (31, .val (.int .i64 x31)), (32, .val (.int .i64 x32))] [(3, .ext m3 [.int .i64 g3_0, .int .u64 g3_1, .int .u64 g3_2, .int .u64 g3_3, .int .u64 g3_4]), (8, .own [.val (.int .i64 c8_0), .val (.int .u64 c8_1), .val (.int .u64 c8_2), .val (.int .u64 c8_3), .val (.int .u64 c8_4)]), (23, .grow 3 m23 [.int .i64 g23_0]), (26, .grow 27 m26 [.int .u64 g26_0, .int .u64 g26_1]), (29, .grow 29 m29 [.int .u64 g29_0, .int .u64 g29_1])]) (blockC 0 (seqC fu (facts_Apply.live 20) (facts_Apply.K fu (sub facts_Apply.body [true, true, true, true, true])) (retC Tryz.prog Tryz.f10.results facts_Apply.r.dec)))
theorem facts_Apply.j5_succ (fu n5 : Nat) (x0 x1 x2 : Int) (x10n x11n x12n x30n : Nat) (x31 x32 : Int) (m3 : Nat) (g3_0 g3_1 g3_2 g3_3 g3_4 : Nat → Int) (c8_0 c8_1 c8_2 c8_3 c8_4 : Int) (m23 : Nat) (g23_0 : Nat → Int) (m26 : Nat) (g26_0 g26_1 : Nat → Int) (m29 : Nat) (g29_0 g29_1 : Nat → Int) : facts_Apply.j5 fu (n5 + 1) x0 x1 x2 x10n x11n x12n x30n x31 x32 m3 g3_0 g3_1 g3_2 g3_3 g3_4 c8_0 c8_1 c8_2 c8_3 c8_4 m23 g23_0 m26 g26_0 g26_1 m29 g29_0 g29_1 =
  bif (decide (x32 < x31)) then
    bif decide (0 ≤ x32) then
      bif decide (x32 < (x30n : Int)) then
        (facts_of.f ((g3_0 x32.toNat), (g3_1 x32.toNat), (g3_2 x32.toNat), (g3_3 x32.toNat), (g3_4 x32.toNat))).bind fun r1 =>
        bif decide (0 ≤ x32) then
          bif decide (x32 < (x10n : Int)) then
            bif decide (0 ≤ x32) then
              bif decide (x32 < (x11n : Int)) then
                bif decide (0 ≤ x32) then
                  bif decide (x32 < (x12n : Int)) then
                    facts_Apply.j5 fu n5 x0 x1 x2 x10n x11n x12n x30n x31 (IntKind.i64.wrap (x32 + 1)) m3 g3_0 g3_1 g3_2 g3_3 g3_4 c8_0 c8_1 c8_2 c8_3 c8_4 m23 (upd x32.toNat r1.1 g23_0) m26 (upd x32.toNat r1.2.1 g26_0) (upd x32.toNat r1.2.2.1 g26_1) m29 (upd x32.toNat r1.2.2.2.1 g29_0) (upd x32.toNat r1.2.2.2.2 g29_1)
                  else
                    none
                else
                  none
              else
                none
            else
              none
          else
            none
        else
          none
      else
        none
    else
      none
  else
    (known_Apply.f x0 x1 x2 (x10n, g23_0) (x11n, g26_0, g26_1)).bind fun r2 =>
    bif (r2.2 != 0) then
      some ((0, 0, 0, 0, 0), r2.2)
    else
      (ranges_Apply.f x0 x1 x2 (x10n, g23_0) (x12n, g29_0, g29_1)).bind fun r3 =>
      bif (r3.2 != 0) then
        some ((0, 0, 0, 0, 0), r3.2)
      else
        (opinfo_Width.f x0 x1 x2 (x10n, g23_0)).bind fun r4 =>
        bif (r4.2 != 0) then
          some ((0, 0, 0, 0, 0), r4.2)
        else
          (facts_Reduce.f (r4.1, r2.1.1, r2.1.2, r3.1.1, r3.1.2)).bind fun r5 =>
          some ((r5.1.1, r5.1.2.1, r5.1.2.2.1, r5.1.2.2.2.1, r5.1.2.2.2.2), 0) := by kernel_rfl
noncomputable def facts_Apply.g (fu : Nat) (a0 a1 a2 : Int) (a3 : Nat × (Nat → Int) × (Nat → Int) × (Nat → Int) × (Nat → Int) × (Nat → Int)) : Option ((Int × Int × Int × Int × Int) × Int) :=
  bif decide (0 ≤ (a3.1 : Int)) then
    bif Nat.ble (a3.1 * 8) 140737488355328 then
      bif decide (0 ≤ (a3.1 : Int)) then
        bif Nat.ble (a3.1 * 16) 140737488355328 then
          bif decide (0 ≤ (a3.1 : Int)) then
            bif Nat.ble (a3.1 * 16) 140737488355328 then
              facts_Apply.j5 fu fu a0 a1 a2 a3.1 a3.1 a3.1 a3.1 (a3.1 : Int) 0 a3.1 a3.2.1 a3.2.2.1 a3.2.2.2.1 a3.2.2.2.2.1 a3.2.2.2.2.2 0 0 0 0 0 a3.1 (fun _ => 0) a3.1 (fun _ => 0) (fun _ => 0) a3.1 (fun _ => 0) (fun _ => 0)
            else
              none
          else
            none
        else
          none
      else
        none
    else
      none
  else
    none
noncomputable def facts_Apply.f (a0 a1 a2 : Int) (a3 : Nat × (Nat → Int) × (Nat → Int) × (Nat → Int) × (Nat → Int) × (Nat → Int)) : Option ((Int × Int × Int × Int × Int) × Int) := facts_Apply.g (fuel0 + 1) a0 a1 a2 a3
theorem facts_Apply.eq (fu : Nat) (a : Int × Int × Int × (Nat × (Nat → Int) × (Nat → Int) × (Nat → Int) × (Nat → Int) × (Nat → Int)) × Unit) : bodyK Tryz.prog facts_Apply.cs facts_Apply.live fu Tryz.f10 (facts_Apply.a.enc a) facts_Apply.r.dec = facts_Apply.g fu a.1 a.2.1 a.2.2.1 a.2.2.2.1 := by kernel_rfl
theorem facts_Apply.con : ∀ (a : Int × Int × Int × (Nat × (Nat → Int) × (Nat → Int) × (Nat → Int) × (Nat → Int) × (Nat → Int)) × Unit) (r : (Int × Int × Int × Int × Int) × Int), facts_Apply.f a.1 a.2.1 a.2.2.1 a.2.2.2.1 = some r → Contract Tryz.prog 10 (facts_Apply.a.enc a) (facts_Apply.r.enc r) := Contract.of_body (by kernel_rfl) (by kernel_rfl) mixed (facts_Apply.eq (fuel0 + 1))
noncomputable def facts_Apply.c : Kn Tryz.prog := Kn.of 10 facts_Apply.a facts_Apply.r (fun a => facts_Apply.f a.1 a.2.1 a.2.2.1 a.2.2.2.1) facts_Apply.con
def facts_compute.a : ACods (Tm × Unit) := (.cons .tm .nil)
def facts_compute.r : RCod (Int × Int × Int × Int × Int) := .val (.agg (.cons (.int .i64) (.cons (.int .u64) (.cons (.int .u64) (.cons (.int .u64) (.one (.int .u64)))))))
noncomputable def facts_compute.cs (rec : Tm × Unit → Option (Int × Int × Int × Int × Int)) (hrec : Con Tryz.prog 46 facts_compute.a facts_compute.r rec) : List (Kn Tryz.prog) := [facts_Apply.c, Kn.of 46 facts_compute.a facts_compute.r rec hrec.c]
def facts_compute.live : Nat → Option Keep := liveOf [(7, ⟨[1, 2, 3, 9, 10, 11], [1, 2, 3], [(3, 31, [.int .i64 (fun _ => 0), .int .u64 (fun _ => 0), .int .u64 (fun _ => 0), .int .u64 (fun _ => 0), .int .u64 (fun _ => 0)])], [], []⟩)]
noncomputable def facts_compute.body : Code := bodyOf Tryz.f46
noncomputable def facts_compute.K (rec : Tm × Unit → Option (Int × Int × Int × Int × Int)) (hrec : Con Tryz.prog 46 facts_compute.a facts_compute.r rec) (fu : Nat) : Code → St → (Ex → St → Option (Int × Int × Int × Int × Int)) → Option (Int × Int × Int × Int × Int) := codeK Tryz.prog (facts_compute.cs rec hrec) facts_compute.live fu
noncomputable def facts_compute.j3 (rec : Tm × Unit → Option (Int × Int × Int × Int × Int)) (hrec : Con Tryz.prog 46 facts_compute.a facts_compute.r rec) (fu n3 x3n : Nat) (x9l : List Tm) (x10 x11 c1_0 c1_1 c1_2 : Int) (c1_3 : ByteArray) (c1_4l : List Tm) (c2_0 c2_1 c2_2 c2_3 c2_4 : Int) (m3 : Nat) (g3_0 g3_1 g3_2 g3_3 g3_4 : Nat → Int) : Option (Int × Int × Int × Int × Int) :=
  loopK (facts_compute.K rec hrec fu (sub facts_compute.body [true, true, false, true, false, false])) (facts_compute.live 7) n3 (stOfX 33 38 [(1, .ptr 1 0 0 0), (2, .ptr 2 0 0 0), (3, .sl 3 5 x3n), (9, .tsl x9l), (10, .val (.int .i64 x10)), (11, .val (.int .i64 x11))] [(1, .own [.val (.int .i64 c1_0), .val (.int .i64 c1_1), .val (.int .u64 c1_2), .val (.string c1_3), .tsl c1_4l]), (2, .own [.val (.int .i64 c2_0), .val (.int .u64 c2_1), .val (.int .u64 c2_2), .val (.int .u64 c2_3), .val (.int .u64 c2_4)]), (3, .grow 31 m3 [.int .i64 g3_0, .int .u64 g3_1, .int .u64 g3_2, .int .u64 g3_3, .int .u64 g3_4])]) (blockC 0 (seqC fu (facts_compute.live 14) (facts_compute.K rec hrec fu (sub facts_compute.body [true, true, true])) (retC Tryz.prog Tryz.f46.results facts_compute.r.dec)))
theorem facts_compute.j3_succ (rec : Tm × Unit → Option (Int × Int × Int × Int × Int)) (hrec : Con Tryz.prog 46 facts_compute.a facts_compute.r rec) (fu n3 x3n : Nat) (x9l : List Tm) (x10 x11 c1_0 c1_1 c1_2 : Int) (c1_3 : ByteArray) (c1_4l : List Tm) (c2_0 c2_1 c2_2 c2_3 c2_4 : Int) (m3 : Nat) (g3_0 g3_1 g3_2 g3_3 g3_4 : Nat → Int) : facts_compute.j3 rec hrec fu (n3 + 1) x3n x9l x10 x11 c1_0 c1_1 c1_2 c1_3 c1_4l c2_0 c2_1 c2_2 c2_3 c2_4 m3 g3_0 g3_1 g3_2 g3_3 g3_4 =
  bif (decide (x11 < x10)) then
    bif decide (0 ≤ x11) then
      bif decide (x11 < (x9l.length : Int)) then
        ((x9l[x11.toNat]? : Option Tm)).bind fun u1 =>
        (rec ((Tm.mk u1.op u1.width u1.val u1.name u1.kids), ())).bind fun r2 =>
        bif Nat.ble ((x3n + 1) * 40) 140737488355328 then
          facts_compute.j3 rec hrec fu n3 (x3n + 1) x9l x10 (IntKind.i64.wrap (x11 + 1)) c1_0 c1_1 c1_2 c1_3 c1_4l c2_0 c2_1 c2_2 c2_3 c2_4 (x3n + 1) (cat x3n g3_0 (fun i => [r2.1].getD i 0)) (cat x3n g3_1 (fun i => [r2.2.1].getD i 0)) (cat x3n g3_2 (fun i => [r2.2.2.1].getD i 0)) (cat x3n g3_3 (fun i => [r2.2.2.2.1].getD i 0)) (cat x3n g3_4 (fun i => [r2.2.2.2.2].getD i 0))
        else
          none
      else
        none
    else
      none
  else
    (facts_Apply.f c1_0 c1_1 c1_2 (x3n, g3_0, g3_1, g3_2, g3_3, g3_4)).bind fun r3 =>
    some (r3.1.1, r3.1.2.1, r3.1.2.2.1, r3.1.2.2.2.1, r3.1.2.2.2.2) := by kernel_rfl
noncomputable def facts_compute.g (rec : Tm × Unit → Option (Int × Int × Int × Int × Int)) (hrec : Con Tryz.prog 46 facts_compute.a facts_compute.r rec) (fu : Nat) (a0 : Tm) : Option (Int × Int × Int × Int × Int) :=
  facts_compute.j3 rec hrec fu fu 0 a0.kids (a0.kids.length : Int) 0 a0.op a0.width a0.val a0.name a0.kids 0 0 0 0 0 0 (fun _ => 0) (fun _ => 0) (fun _ => 0) (fun _ => 0) (fun _ => 0)
theorem facts_compute.eq (rec : Tm × Unit → Option (Int × Int × Int × Int × Int)) (hrec : Con Tryz.prog 46 facts_compute.a facts_compute.r rec) (fu : Nat) (a : Tm × Unit) : bodyK Tryz.prog (facts_compute.cs rec hrec) facts_compute.live fu Tryz.f46 (facts_compute.a.enc a) facts_compute.r.dec = facts_compute.g rec hrec fu a.1 := by kernel_rfl
theorem facts_compute.con1 (rec : Tm × Unit → Option (Int × Int × Int × Int × Int)) (hrec : Con Tryz.prog 46 facts_compute.a facts_compute.r rec) : ∀ (a : Tm × Unit) (r : Int × Int × Int × Int × Int), facts_compute.g rec hrec (fuel0 + 1) a.1 = some r → Contract Tryz.prog 46 (facts_compute.a.enc a) (facts_compute.r.enc r) := Contract.of_body (by kernel_rfl) (by kernel_rfl) mixed (facts_compute.eq rec hrec (fuel0 + 1))
noncomputable def facts_compute.FC : Nat → { F : Tm × Unit → Option (Int × Int × Int × Int × Int) // Con Tryz.prog 46 facts_compute.a facts_compute.r F }
  | 0 => ⟨fun _ => none, ⟨fun _ _ h => (by cases h)⟩⟩
  | n + 1 => ⟨fun a => facts_compute.g (facts_compute.FC n).1 (facts_compute.FC n).2 (fuel0 + 1) a.1, ⟨facts_compute.con1 (facts_compute.FC n).1 (facts_compute.FC n).2⟩⟩
noncomputable def facts_compute.f (a0 : Tm) : Option (Int × Int × Int × Int × Int) := (facts_compute.FC deep0).1 (a0, ())
theorem facts_compute.con (a : Tm × Unit) (r : Int × Int × Int × Int × Int) (h : facts_compute.f a.1 = some r) : Contract Tryz.prog 46 (facts_compute.a.enc a) (facts_compute.r.enc r) := (facts_compute.FC deep0).2.c a r h
noncomputable def facts_compute.c : Kn Tryz.prog := Kn.of 46 facts_compute.a facts_compute.r (fun a => facts_compute.f a.1) facts_compute.con
def facts_Of.a : ACods (Tm × Unit) := (.cons .tm .nil)
def facts_Of.r : RCod ((Int × Int × Int × Int × Int) × Int) := .val (.tup (.cons (.agg (.cons (.int .i64) (.cons (.int .u64) (.cons (.int .u64) (.cons (.int .u64) (.one (.int .u64))))))) (.one (.int .i64))))
noncomputable def facts_Of.cs : List (Kn Tryz.prog) := [term_Check.c, facts_compute.c]
def facts_Of.live : Nat → Option Keep := liveOf []
noncomputable def facts_Of.f (a0 : Tm) : Option ((Int × Int × Int × Int × Int) × Int) :=
  (term_Check.f (Tm.mk a0.op a0.width a0.val a0.name a0.kids)).bind fun r1 =>
  bif (r1 != 0) then
    some ((0, 0, 0, 0, 0), r1)
  else
    (facts_compute.f (Tm.mk a0.op a0.width a0.val a0.name a0.kids)).bind fun r2 =>
    some ((r2.1, r2.2.1, r2.2.2.1, r2.2.2.2.1, r2.2.2.2.2), 0)
theorem facts_Of.eq (fu : Nat) (a : Tm × Unit) : bodyK Tryz.prog facts_Of.cs facts_Of.live fu Tryz.f13 (facts_Of.a.enc a) facts_Of.r.dec = facts_Of.f a.1 := by kernel_rfl
theorem facts_Of.con : ∀ (a : Tm × Unit) (r : (Int × Int × Int × Int × Int) × Int), facts_Of.f a.1 = some r → Contract Tryz.prog 13 (facts_Of.a.enc a) (facts_Of.r.enc r) := Contract.of_body (by kernel_rfl) (by kernel_rfl) mixed (facts_Of.eq (fuel0 + 1))
noncomputable def facts_Of.c : Kn Tryz.prog := Kn.of 13 facts_Of.a facts_Of.r (fun a => facts_Of.f a.1) facts_Of.con
def facts_Const.a : ACods (Int × Int × Unit) := (.cons (.val (.int .i64)) (.cons (.val (.int .u64)) .nil))
def facts_Const.r : RCod (Int × Int × Int × Int × Int) := .val (.agg (.cons (.int .i64) (.cons (.int .u64) (.cons (.int .u64) (.cons (.int .u64) (.one (.int .u64)))))))
noncomputable def facts_Const.cs : List (Kn Tryz.prog) := [facts_clamp.c, known_Const.c, ranges_Const.c]
def facts_Const.live : Nat → Option Keep := liveOf []
noncomputable def facts_Const.f (a0 a1 : Int) : Option (Int × Int × Int × Int × Int) :=
  (facts_clamp.f a0).bind fun r1 =>
  (known_Const.f r1 a1).bind fun r2 =>
  (ranges_Const.f r1 a1).bind fun r3 =>
  some (r1, r2.1, r2.2, r3.1, r3.2)
theorem facts_Const.eq (fu : Nat) (a : Int × Int × Unit) : bodyK Tryz.prog facts_Const.cs facts_Const.live fu Tryz.f33 (facts_Const.a.enc a) facts_Const.r.dec = facts_Const.f a.1 a.2.1 := by kernel_rfl
theorem facts_Const.con : ∀ (a : Int × Int × Unit) (r : Int × Int × Int × Int × Int), facts_Const.f a.1 a.2.1 = some r → Contract Tryz.prog 33 (facts_Const.a.enc a) (facts_Const.r.enc r) := Contract.of_body (by kernel_rfl) (by kernel_rfl) mixed (facts_Const.eq (fuel0 + 1))
def facts_Meet.a : ACods ((Int × Int × Int × Int × Int) × (Int × Int × Int × Int × Int) × Unit) := (.cons (.val (.agg (.cons (.int .i64) (.cons (.int .u64) (.cons (.int .u64) (.cons (.int .u64) (.one (.int .u64)))))))) (.cons (.val (.agg (.cons (.int .i64) (.cons (.int .u64) (.cons (.int .u64) (.cons (.int .u64) (.one (.int .u64)))))))) .nil))
def facts_Meet.r : RCod ((Int × Int × Int × Int × Int) × Bool) := .val (.tup (.cons (.agg (.cons (.int .i64) (.cons (.int .u64) (.cons (.int .u64) (.cons (.int .u64) (.one (.int .u64))))))) (.one (.bool))))
noncomputable def facts_Meet.cs : List (Kn Tryz.prog) := [facts_of.c, facts_Top.c, known_Meet.c, ranges_Meet.c, facts_Reduce.c]
def facts_Meet.live : Nat → Option Keep := liveOf []
noncomputable def facts_Meet.f (a0 : Int × Int × Int × Int × Int) (a1 : Int × Int × Int × Int × Int) : Option ((Int × Int × Int × Int × Int) × Bool) :=
  (facts_of.f (a0.1, a0.2.1, a0.2.2.1, a0.2.2.2.1, a0.2.2.2.2)).bind fun r1 =>
  (facts_of.f (a1.1, a1.2.1, a1.2.2.1, a1.2.2.2.1, a1.2.2.2.2)).bind fun r2 =>
  bif (r2.1 != r1.1) then
    (facts_Top.f r1.1).bind fun r3 =>
    some ((r3.1, r3.2.1, r3.2.2.1, r3.2.2.2.1, r3.2.2.2.2), false)
  else
    (known_Meet.f r1.1 (r1.2.1, r1.2.2.1) (r2.2.1, r2.2.2.1)).bind fun r4 =>
    (ranges_Meet.f r1.1 (r1.2.2.2.1, r1.2.2.2.2) (r2.2.2.2.1, r2.2.2.2.2)).bind fun r5 =>
    bif (!r4.2) then
      (facts_Top.f r1.1).bind fun r6 =>
      some ((r6.1, r6.2.1, r6.2.2.1, r6.2.2.2.1, r6.2.2.2.2), false)
    else
      bif (!r5.2) then
        (facts_Top.f r1.1).bind fun r7 =>
        some ((r7.1, r7.2.1, r7.2.2.1, r7.2.2.2.1, r7.2.2.2.2), false)
      else
        (facts_Reduce.f (r1.1, r4.1.1, r4.1.2, r5.1.1, r5.1.2)).bind fun r8 =>
        some ((r8.1.1, r8.1.2.1, r8.1.2.2.1, r8.1.2.2.2.1, r8.1.2.2.2.2), r8.2)
theorem facts_Meet.eq (fu : Nat) (a : (Int × Int × Int × Int × Int) × (Int × Int × Int × Int × Int) × Unit) : bodyK Tryz.prog facts_Meet.cs facts_Meet.live fu Tryz.f15 (facts_Meet.a.enc a) facts_Meet.r.dec = facts_Meet.f a.1 a.2.1 := by kernel_rfl
theorem facts_Meet.con : ∀ (a : (Int × Int × Int × Int × Int) × (Int × Int × Int × Int × Int) × Unit) (r : (Int × Int × Int × Int × Int) × Bool), facts_Meet.f a.1 a.2.1 = some r → Contract Tryz.prog 15 (facts_Meet.a.enc a) (facts_Meet.r.enc r) := Contract.of_body (by kernel_rfl) (by kernel_rfl) mixed (facts_Meet.eq (fuel0 + 1))
end Go.Proofs.YtcihbcffokjgjaaGreat.Fn
