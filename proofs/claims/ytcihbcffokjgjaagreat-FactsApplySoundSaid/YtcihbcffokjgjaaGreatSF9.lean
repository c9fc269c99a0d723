/- What the functions return, as the evaluator tells it: written by a program of this workplace (mev.py); Lean checks each equation. What the functions return, as the evaluator tells it: written by a program of this workplace (mev.py); Lean checks each equation. -/
import Derived.Test.YtcihbcffokjgjaaGreatProg
import Derived.Test.YtcihbcffokjgjaaGreatSEvC
import Derived.Test.YtcihbcffokjgjaaGreatSF0
import Derived.Test.YtcihbcffokjgjaaGreatSF2
import Derived.Test.YtcihbcffokjgjaaGreatSF3
import Derived.Test.YtcihbcffokjgjaaGreatSF7
namespace Go.Proofs.YtcihbcffokjgjaaGreat.Fn
open Go Go.RowKit Go.Proofs.YtcihbcffokjgjaaGreat.Ev Go.Proofs
set_option linter.unusedVariables false
set_option maxRecDepth 100000
/-! ### saturateref01_Cut: function 75 -/
def saturateref01_Cut.a : ACods (Int × Int × Unit) := (.cons (.val (.int .i64)) (.cons (.val (.int .u64)) .nil))
def saturateref01_Cut.r : RCod (Int) := .val (.int .u64)
noncomputable def saturateref01_Cut.cs : List (Kn Tryz.prog) := [saturateref01_W.c, saturateref01_Bit.c]
def saturateref01_Cut.live : Nat → Option Keep := liveOf [(7, ⟨[1, 5, 8, 9], [], [], [], []⟩)]
noncomputable def saturateref01_Cut.body : Code := bodyOf Tryz.f75
noncomputable def saturateref01_Cut.K (fu : Nat) : Code → St → (Ex → St → Option (Int)) → Option (Int) := codeK Tryz.prog (saturateref01_Cut.cs) saturateref01_Cut.live fu
noncomputable def saturateref01_Cut.j3 (fu n3 : Nat) (x1 x5 x8 x9 : Int) : Option Int :=
  loopK (saturateref01_Cut.K fu (sub saturateref01_Cut.body [true, true, false, true, false, false])) (saturateref01_Cut.live 7) n3 (stOf 22 [(1, .val (.int .u64 x1)), (5, .val (.int .u64 x5)), (8, .val (.int .i64 x8)), (9, .val (.int .i64 x9))] []) (blockC 0 (seqC fu (saturateref01_Cut.live 14) (saturateref01_Cut.K fu (sub saturateref01_Cut.body [true, true, true])) (retC Tryz.prog Tryz.f75.results saturateref01_Cut.r.dec)))
theorem saturateref01_Cut.j3_succ (fu n3 : Nat) (x1 x5 x8 x9 : Int) : saturateref01_Cut.j3 fu (n3 + 1) x1 x5 x8 x9 =
  bif (decide (x9 < x8)) then
    (saturateref01_Bit.f x1 x9).bind fun r2 =>
    bif decide ((IntKind.u64.wrap x9) < 0) then
      none
    else
      saturateref01_Cut.j3 fu n3 x1 (Go.bits .or .u64 x5 (shl .u64 r2 (IntKind.u64.wrap x9))) x8 (IntKind.i64.wrap (x9 + 1))
  else
    some x5 := by kernel_rfl
noncomputable def saturateref01_Cut.g (fu : Nat) (a0 a1 : Int) : Option (Int) :=
  (saturateref01_W.f a0).bind fun r1 =>
  saturateref01_Cut.j3 fu fu a1 0 r1 0
noncomputable def saturateref01_Cut.f (a0 a1 : Int) : Option (Int) := saturateref01_Cut.g (fuel0 + 1) a0 a1
theorem saturateref01_Cut.eq (fu : Nat) (a : Int × Int × Unit) : bodyK Tryz.prog saturateref01_Cut.cs saturateref01_Cut.live fu Tryz.f75 (saturateref01_Cut.a.enc a) saturateref01_Cut.r.dec = saturateref01_Cut.g fu a.1 a.2.1 := by kernel_rfl
theorem saturateref01_Cut.con : ∀ (a : Int × Int × Unit) (r : Int), saturateref01_Cut.f a.1 a.2.1 = some r → Contract Tryz.prog 75 (saturateref01_Cut.a.enc a) (saturateref01_Cut.r.enc r) := Contract.of_body (F := fun (a : Int × Int × Unit) => saturateref01_Cut.f a.1 a.2.1) (fn := Tryz.f75) (cs := saturateref01_Cut.cs) (live := saturateref01_Cut.live) (fuel := fuel0 + 1) (by kernel_rfl) (by kernel_rfl) mixed (saturateref01_Cut.eq (fuel0 + 1))
noncomputable def saturateref01_Cut.c : Kn Tryz.prog := Kn.of 75 saturateref01_Cut.a saturateref01_Cut.r (fun a => saturateref01_Cut.f a.1 a.2.1) saturateref01_Cut.con

/-! ### saturateref12_Has: function 28 -/
def saturateref12_Has.a : ACods (Int × (Int × Int) × Int × Unit) := (.cons (.val (.int .i64)) (.cons (.val (.agg (.cons (.int .u64) (.one (.int .u64))))) (.cons (.val (.int .u64)) .nil)))
def saturateref12_Has.r : RCod (Bool) := .val (.bool)
noncomputable def saturateref12_Has.cs : List (Kn Tryz.prog) := [saturateref12_Of.c, saturateref01_Cut.c]
def saturateref12_Has.live : Nat → Option Keep := liveOf []
noncomputable def saturateref12_Has.f (a0 : Int) (a1 : Int × Int) (a2 : Int) : Option (Bool) :=
  (saturateref12_Of.f a0 (a1.1, a1.2)).bind fun r1 =>
  (saturateref01_Cut.f a0 a2).bind fun r2 =>
  bif ((Go.bits .and .u64 r2 r1.1) == 0) then
    some ((Go.bits .and .u64 r2 r1.2) == r1.2)
  else
    some false
theorem saturateref12_Has.eq (fu : Nat) (a : Int × (Int × Int) × Int × Unit) : bodyK Tryz.prog saturateref12_Has.cs saturateref12_Has.live fu Tryz.f28 (saturateref12_Has.a.enc a) saturateref12_Has.r.dec = saturateref12_Has.f a.1 a.2.1 a.2.2.1 := by kernel_rfl
theorem saturateref12_Has.con : ∀ (a : Int × (Int × Int) × Int × Unit) (r : Bool), saturateref12_Has.f a.1 a.2.1 a.2.2.1 = some r → Contract Tryz.prog 28 (saturateref12_Has.a.enc a) (saturateref12_Has.r.enc r) := Contract.of_body (F := fun (a : Int × (Int × Int) × Int × Unit) => saturateref12_Has.f a.1 a.2.1 a.2.2.1) (fn := Tryz.f28) (cs := saturateref12_Has.cs) (live := saturateref12_Has.live) (fuel := fuel0 + 1) (by kernel_rfl) (by kernel_rfl) mixed (saturateref12_Has.eq (fuel0 + 1))
noncomputable def saturateref12_Has.c : Kn Tryz.prog := Kn.of 28 saturateref12_Has.a saturateref12_Has.r (fun a => saturateref12_Has.f a.1 a.2.1 a.2.2.1) saturateref12_Has.con

/-! ### saturateref13_Has: function 29 -/
def saturateref13_Has.a : ACods (Int × (Int × Int) × Int × Unit) := (.cons (.val (.int .i64)) (.cons (.val (.agg (.cons (.int .u64) (.one (.int .u64))))) (.cons (.val (.int .u64)) .nil)))
def saturateref13_Has.r : RCod (Bool) := .val (.bool)
noncomputable def saturateref13_Has.cs : List (Kn Tryz.prog) := [saturateref13_Of.c, saturateref01_Cut.c]
def saturateref13_Has.live : Nat → Option Keep := liveOf []
noncomputable def saturateref13_Has.f (a0 : Int) (a1 : Int × Int) (a2 : Int) : Option (Bool) :=
  (saturateref13_Of.f a0 (a1.1, a1.2)).bind fun r1 =>
  (saturateref01_Cut.f a0 a2).bind fun r2 =>
  bif (decide (r1.1 ≤ r2)) then
    some (decide (r2 ≤ r1.2))
  else
    some false
theorem saturateref13_Has.eq (fu : Nat) (a : Int × (Int × Int) × Int × Unit) : bodyK Tryz.prog saturateref13_Has.cs saturateref13_Has.live fu Tryz.f29 (saturateref13_Has.a.enc a) saturateref13_Has.r.dec = saturateref13_Has.f a.1 a.2.1 a.2.2.1 := by kernel_rfl
theorem saturateref13_Has.con : ∀ (a : Int × (Int × Int) × Int × Unit) (r : Bool), saturateref13_Has.f a.1 a.2.1 a.2.2.1 = some r → Contract Tryz.prog 29 (saturateref13_Has.a.enc a) (saturateref13_Has.r.enc r) := Contract.of_body (F := fun (a : Int × (Int × Int) × Int × Unit) => saturateref13_Has.f a.1 a.2.1 a.2.2.1) (fn := Tryz.f29) (cs := saturateref13_Has.cs) (live := saturateref13_Has.live) (fuel := fuel0 + 1) (by kernel_rfl) (by kernel_rfl) mixed (saturateref13_Has.eq (fuel0 + 1))
noncomputable def saturateref13_Has.c : Kn Tryz.prog := Kn.of 29 saturateref13_Has.a saturateref13_Has.r (fun a => saturateref13_Has.f a.1 a.2.1 a.2.2.1) saturateref13_Has.con

/-! ### saturateref14_Has: function 21 -/
def saturateref14_Has.a : ACods ((Int × Int × Int × Int × Int) × Int × Unit) := (.cons (.val (.agg (.cons (.int .i64) (.cons (.int .u64) (.cons (.int .u64) (.cons (.int .u64) (.one (.int .u64)))))))) (.cons (.val (.int .u64)) .nil))
def saturateref14_Has.r : RCod (Bool) := .val (.bool)
noncomputable def saturateref14_Has.cs : List (Kn Tryz.prog) := [saturateref14_Norm.c, saturateref12_Has.c, saturateref13_Has.c]
def saturateref14_Has.live : Nat → Option Keep := liveOf []
noncomputable def saturateref14_Has.f (a0 : Int × Int × Int × Int × Int) (a1 : Int) : Option (Bool) :=
  (saturateref14_Norm.f (a0.1, a0.2.1, a0.2.2.1, a0.2.2.2.1, a0.2.2.2.2)).bind fun r1 =>
  (saturateref12_Has.f r1.1 (r1.2.1, r1.2.2.1) a1).bind fun r2 =>
  bif r2 then
    (saturateref13_Has.f r1.1 (r1.2.2.2.1, r1.2.2.2.2) a1).bind fun r3 =>
    some r3
  else
    some false
theorem saturateref14_Has.eq (fu : Nat) (a : (Int × Int × Int × Int × Int) × Int × Unit) : bodyK Tryz.prog saturateref14_Has.cs saturateref14_Has.live fu Tryz.f21 (saturateref14_Has.a.enc a) saturateref14_Has.r.dec = saturateref14_Has.f a.1 a.2.1 := by kernel_rfl
theorem saturateref14_Has.con : ∀ (a : (Int × Int × Int × Int × Int) × Int × Unit) (r : Bool), saturateref14_Has.f a.1 a.2.1 = some r → Contract Tryz.prog 21 (saturateref14_Has.a.enc a) (saturateref14_Has.r.enc r) := Contract.of_body (F := fun (a : (Int × Int × Int × Int × Int) × Int × Unit) => saturateref14_Has.f a.1 a.2.1) (fn := Tryz.f21) (cs := saturateref14_Has.cs) (live := saturateref14_Has.live) (fuel := fuel0 + 1) (by kernel_rfl) (by kernel_rfl) mixed (saturateref14_Has.eq (fuel0 + 1))
noncomputable def saturateref14_Has.c : Kn Tryz.prog := Kn.of 21 saturateref14_Has.a saturateref14_Has.r (fun a => saturateref14_Has.f a.1 a.2.1) saturateref14_Has.con

/-! ### saturatelaw14_FactsReduces: function 8 -/
end Go.Proofs.YtcihbcffokjgjaaGreat.Fn
namespace Go.Proofs.YtcihbcffokjgjaaGreat.Fn
open Go Go.RowKit Go.Proofs.YtcihbcffokjgjaaGreat.Ev Go.Proofs
set_option linter.unusedVariables false
set_option maxRecDepth 100000
/-! ### saturateref04_Is: function 126 -/
def saturateref04_Is.a : ACods (Int × (Nat × (Nat → Int)) × Unit) := (.cons (.val (.int .i64)) (.cons (.rows (.int1 .i64)) .nil))
def saturateref04_Is.r : RCod (Bool) := .val (.bool)
noncomputable def saturateref04_Is.cs : List (Kn Tryz.prog) := []
def saturateref04_Is.live : Nat → Option Keep := liveOf [(5, ⟨[0, 1, 7, 8], [1], [], [], []⟩)]
noncomputable def saturateref04_Is.body : Code := bodyOf Tryz.f126
noncomputable def saturateref04_Is.K (fu : Nat) : Code → St → (Ex → St → Option (Bool)) → Option (Bool) := codeK Tryz.prog (saturateref04_Is.cs) saturateref04_Is.live fu
noncomputable def saturateref04_Is.j2 (fu n2 : Nat) (x0 : Int) (x1n : Nat) (x7 x8 : Int) (m1 : Nat) (g1_0 : Nat → Int) : Option Bool :=
  loopK (saturateref04_Is.K fu (sub saturateref04_Is.body [true, false, true, false, false])) (saturateref04_Is.live 5) n2 (stOf 18 [(0, .val (.int .i64 x0)), (1, .sl 1 1 x1n), (7, .val (.int .i64 x7)), (8, .val (.int .i64 x8))] [(1, .ext m1 [.int .i64 g1_0])]) (blockC 0 (seqC fu (saturateref04_Is.live 14) (saturateref04_Is.K fu (sub saturateref04_Is.body [true, true])) (retC Tryz.prog Tryz.f126.results saturateref04_Is.r.dec)))
theorem saturateref04_Is.j2_succ (fu n2 : Nat) (x0 : Int) (x1n : Nat) (x7 x8 : Int) (m1 : Nat) (g1_0 : Nat → Int) : saturateref04_Is.j2 fu (n2 + 1) x0 x1n x7 x8 m1 g1_0 =
  bif (decide (x8 < x7)) then
    bif decide (0 ≤ x8) then
      bif decide (x8 < (x1n : Int)) then
        bif ((g1_0 x8.toNat) == x0) then
          some true
        else
          saturateref04_Is.j2 fu n2 x0 x1n x7 (IntKind.i64.wrap (x8 + 1)) m1 g1_0
      else
        none
    else
      none
  else
    some false := by kernel_rfl
noncomputable def saturateref04_Is.g (fu : Nat) (a0 : Int) (a1 : Nat × (Nat → Int)) : Option (Bool) :=
  saturateref04_Is.j2 fu fu a0 a1.1 (a1.1 : Int) 0 a1.1 a1.2
noncomputable def saturateref04_Is.f (a0 : Int) (a1 : Nat × (Nat → Int)) : Option (Bool) := saturateref04_Is.g (fuel0 + 1) a0 a1
theorem saturateref04_Is.eq (fu : Nat) (a : Int × (Nat × (Nat → Int)) × Unit) : bodyK Tryz.prog saturateref04_Is.cs saturateref04_Is.live fu Tryz.f126 (saturateref04_Is.a.enc a) saturateref04_Is.r.dec = saturateref04_Is.g fu a.1 a.2.1 := by kernel_rfl
theorem saturateref04_Is.con : ∀ (a : Int × (Nat × (Nat → Int)) × Unit) (r : Bool), saturateref04_Is.f a.1 a.2.1 = some r → Contract Tryz.prog 126 (saturateref04_Is.a.enc a) (saturateref04_Is.r.enc r) := Contract.of_body (F := fun (a : Int × (Nat × (Nat → Int)) × Unit) => saturateref04_Is.f a.1 a.2.1) (fn := Tryz.f126) (cs := saturateref04_Is.cs) (live := saturateref04_Is.live) (fuel := fuel0 + 1) (by kernel_rfl) (by kernel_rfl) mixed (saturateref04_Is.eq (fuel0 + 1))
noncomputable def saturateref04_Is.c : Kn Tryz.prog := Kn.of 126 saturateref04_Is.a saturateref04_Is.r (fun a => saturateref04_Is.f a.1 a.2.1) saturateref04_Is.con

/-! ### saturateref04_Leaf: function 123 -/
def saturateref04_Leaf.a : ACods (Int × Unit) := (.cons (.val (.int .i64)) .nil)
def saturateref04_Leaf.r : RCod (Bool) := .val (.bool)
noncomputable def saturateref04_Leaf.cs : List (Kn Tryz.prog) := [saturateref04_Is.c]
def saturateref04_Leaf.live : Nat → Option Keep := liveOf []
noncomputable def saturateref04_Leaf.f (a0 : Int) : Option (Bool) :=
  (saturateref04_Is.f a0 (4, (fun i => [1, 2, 24, 25].getD i 0))).bind fun r1 =>
  some r1
theorem saturateref04_Leaf.eq (fu : Nat) (a : Int × Unit) : bodyK Tryz.prog saturateref04_Leaf.cs saturateref04_Leaf.live fu Tryz.f123 (saturateref04_Leaf.a.enc a) saturateref04_Leaf.r.dec = saturateref04_Leaf.f a.1 := by kernel_rfl
theorem saturateref04_Leaf.con : ∀ (a : Int × Unit) (r : Bool), saturateref04_Leaf.f a.1 = some r → Contract Tryz.prog 123 (saturateref04_Leaf.a.enc a) (saturateref04_Leaf.r.enc r) := Contract.of_body (F := fun (a : Int × Unit) => saturateref04_Leaf.f a.1) (fn := Tryz.f123) (cs := saturateref04_Leaf.cs) (live := saturateref04_Leaf.live) (fuel := fuel0 + 1) (by kernel_rfl) (by kernel_rfl) mixed (saturateref04_Leaf.eq (fuel0 + 1))
noncomputable def saturateref04_Leaf.c : Kn Tryz.prog := Kn.of 123 saturateref04_Leaf.a saturateref04_Leaf.r (fun a => saturateref04_Leaf.f a.1) saturateref04_Leaf.con

/-! ### saturateref04_Arity: function 121 -/
def saturateref04_Arity.a : ACods (Int × Unit) := (.cons (.val (.int .i64)) .nil)
def saturateref04_Arity.r : RCod (Int) := .val (.int .i64)
noncomputable def saturateref04_Arity.cs : List (Kn Tryz.prog) := [saturateref04_Leaf.c, saturateref04_Is.c]
def saturateref04_Arity.live : Nat → Option Keep := liveOf []
noncomputable def saturateref04_Arity.f (a0 : Int) : Option (Int) :=
  bif (decide (a0 < 1)) then
    some (-1)
  else
    bif (decide (a0 > 26)) then
      some (-1)
    else
      (saturateref04_Leaf.f a0).bind fun r1 =>
      bif r1 then
        some 0
      else
        (saturateref04_Is.f a0 (6, (fun i => [3, 4, 21, 22, 23, 26].getD i 0))).bind fun r2 =>
        bif r2 then
          some 1
        else
          bif (a0 == 19) then
            some 3
          else
            some 2
theorem saturateref04_Arity.eq (fu : Nat) (a : Int × Unit) : bodyK Tryz.prog saturateref04_Arity.cs saturateref04_Arity.live fu Tryz.f121 (saturateref04_Arity.a.enc a) saturateref04_Arity.r.dec = saturateref04_Arity.f a.1 := by kernel_rfl
theorem saturateref04_Arity.con : ∀ (a : Int × Unit) (r : Int), saturateref04_Arity.f a.1 = some r → Contract Tryz.prog 121 (saturateref04_Arity.a.enc a) (saturateref04_Arity.r.enc r) := Contract.of_body (F := fun (a : Int × Unit) => saturateref04_Arity.f a.1) (fn := Tryz.f121) (cs := saturateref04_Arity.cs) (live := saturateref04_Arity.live) (fuel := fuel0 + 1) (by kernel_rfl) (by kernel_rfl) mixed (saturateref04_Arity.eq (fuel0 + 1))
noncomputable def saturateref04_Arity.c : Kn Tryz.prog := Kn.of 121 saturateref04_Arity.a saturateref04_Arity.r (fun a => saturateref04_Arity.f a.1) saturateref04_Arity.con

/-! ### saturateref04_width: function 122 -/
def saturateref04_width.a : ACods (Int × Unit) := (.cons (.val (.int .i64)) .nil)
def saturateref04_width.r : RCod (Bool) := .val (.bool)
noncomputable def saturateref04_width.cs : List (Kn Tryz.prog) := []
def saturateref04_width.live : Nat → Option Keep := liveOf []
noncomputable def saturateref04_width.f (a0 : Int) : Option (Bool) :=
  bif (decide (a0 ≥ 0)) then
    some (decide (a0 ≤ 64))
  else
    some false
theorem saturateref04_width.eq (fu : Nat) (a : Int × Unit) : bodyK Tryz.prog saturateref04_width.cs saturateref04_width.live fu Tryz.f122 (saturateref04_width.a.enc a) saturateref04_width.r.dec = saturateref04_width.f a.1 := by kernel_rfl
theorem saturateref04_width.con : ∀ (a : Int × Unit) (r : Bool), saturateref04_width.f a.1 = some r → Contract Tryz.prog 122 (saturateref04_width.a.enc a) (saturateref04_width.r.enc r) := Contract.of_body (F := fun (a : Int × Unit) => saturateref04_width.f a.1) (fn := Tryz.f122) (cs := saturateref04_width.cs) (live := saturateref04_width.live) (fuel := fuel0 + 1) (by kernel_rfl) (by kernel_rfl) mixed (saturateref04_width.eq (fuel0 + 1))
noncomputable def saturateref04_width.c : Kn Tryz.prog := Kn.of 122 saturateref04_width.a saturateref04_width.r (fun a => saturateref04_width.f a.1) saturateref04_width.con

/-! ### saturateref04_leaf: function 124 -/
def saturateref04_leaf.a : ACods (Int × Int × Int × Unit) := (.cons (.val (.int .i64)) (.cons (.val (.int .i64)) (.cons (.val (.int .u64)) .nil)))
def saturateref04_leaf.r : RCod (Int × Int) := .val (.tup (.cons (.int .i64) (.one (.int .i64))))
noncomputable def saturateref04_leaf.cs : List (Kn Tryz.prog) := [saturateref04_width.c]
def saturateref04_leaf.live : Nat → Option Keep := liveOf [(6, ⟨[1], [], [], [], []⟩)]
noncomputable def saturateref04_leaf.body : Code := bodyOf Tryz.f124
noncomputable def saturateref04_leaf.K (fu : Nat) : Code → St → (Ex → St → Option (Int × Int)) → Option (Int × Int) := codeK Tryz.prog (saturateref04_leaf.cs) saturateref04_leaf.live fu
noncomputable def saturateref04_leaf.p3 (m fu : Nat) (x1 : Int) : Option (Int × Int) :=
  joinK m (saturateref04_leaf.K fu (sub saturateref04_leaf.body [true, true])) (stOf 31 [(1, .val (.int .i64 x1))] []) (retC Tryz.prog Tryz.f124.results saturateref04_leaf.r.dec)
theorem saturateref04_leaf.p3_eq (m fu : Nat) (x1 : Int) : saturateref04_leaf.p3 (m + 1) fu x1 =
  some (x1, 0) := by kernel_rfl
noncomputable def saturateref04_leaf.g (fu : Nat) (a0 a1 a2 : Int) : Option (Int × Int) :=
  (saturateref04_width.f a1).bind fun r1 =>
  bif (!r1) then
    some (0, 3)
  else
    bif (a0 == 2) then
      bif (decide (a1 > 0)) then
        bif (decide (a1 < 64)) then
          bif decide ((IntKind.u64.wrap a1) < 0) then
            none
          else
            bif (decide (a2 ≥ (shl .u64 1 (IntKind.u64.wrap a1)))) then
              some (0, 3)
            else
              saturateref04_leaf.p3 fu fu a1
        else
          saturateref04_leaf.p3 fu fu a1
      else
        saturateref04_leaf.p3 fu fu a1
    else
      saturateref04_leaf.p3 fu fu a1
noncomputable def saturateref04_leaf.f (a0 a1 a2 : Int) : Option (Int × Int) := saturateref04_leaf.g (fuel0 + 1) a0 a1 a2
theorem saturateref04_leaf.eq (fu : Nat) (a : Int × Int × Int × Unit) : bodyK Tryz.prog saturateref04_leaf.cs saturateref04_leaf.live fu Tryz.f124 (saturateref04_leaf.a.enc a) saturateref04_leaf.r.dec = saturateref04_leaf.g fu a.1 a.2.1 a.2.2.1 := by kernel_rfl
theorem saturateref04_leaf.con : ∀ (a : Int × Int × Int × Unit) (r : Int × Int), saturateref04_leaf.f a.1 a.2.1 a.2.2.1 = some r → Contract Tryz.prog 124 (saturateref04_leaf.a.enc a) (saturateref04_leaf.r.enc r) := Contract.of_body (F := fun (a : Int × Int × Int × Unit) => saturateref04_leaf.f a.1 a.2.1 a.2.2.1) (fn := Tryz.f124) (cs := saturateref04_leaf.cs) (live := saturateref04_leaf.live) (fuel := fuel0 + 1) (by kernel_rfl) (by kernel_rfl) mixed (saturateref04_leaf.eq (fuel0 + 1))
noncomputable def saturateref04_leaf.c : Kn Tryz.prog := Kn.of 124 saturateref04_leaf.a saturateref04_leaf.r (fun a => saturateref04_leaf.f a.1 a.2.1 a.2.2.1) saturateref04_leaf.con

/-! ### saturateref04_parts: function 125 -/
def saturateref04_parts.a : ACods (Int × Int × Int × Int × Unit) := (.cons (.val (.int .i64)) (.cons (.val (.int .i64)) (.cons (.val (.int .u64)) (.cons (.val (.int .i64)) .nil))))
def saturateref04_parts.r : RCod (Int × Int) := .val (.tup (.cons (.int .i64) (.one (.int .i64))))
noncomputable def saturateref04_parts.cs : List (Kn Tryz.prog) := [saturateref04_width.c]
def saturateref04_parts.live : Nat → Option Keep := liveOf [(10, ⟨[1], [], [], [], []⟩)]
noncomputable def saturateref04_parts.body : Code := bodyOf Tryz.f125
noncomputable def saturateref04_parts.K (fu : Nat) : Code → St → (Ex → St → Option (Int × Int)) → Option (Int × Int) := codeK Tryz.prog (saturateref04_parts.cs) saturateref04_parts.live fu
noncomputable def saturateref04_parts.p5 (m fu : Nat) (x1 : Int) : Option (Int × Int) :=
  joinK m (saturateref04_parts.K fu (sub saturateref04_parts.body [true, true, true])) (stOf 46 [(1, .val (.int .i64 x1))] []) (retC Tryz.prog Tryz.f125.results saturateref04_parts.r.dec)
theorem saturateref04_parts.p5_eq (m fu : Nat) (x1 : Int) : saturateref04_parts.p5 (m + 1) fu x1 =
  some (x1, 0) := by kernel_rfl
noncomputable def saturateref04_parts.g (fu : Nat) (a0 a1 a2 a3 : Int) : Option (Int × Int) :=
  (saturateref04_width.f a1).bind fun r1 =>
  bif (!r1) then
    some (0, 3)
  else
    bif (decide (a1 < 1)) then
      some (0, 3)
    else
      bif (decide (a3 < 1)) then
        some (0, 3)
      else
        bif (a0 == 21) then
          bif (decide (a1 > a3)) then
            some (0, 3)
          else
            bif (decide (a2 > (IntKind.u64.wrap (IntKind.i64.wrap (a3 - a1))))) then
              some (0, 3)
            else
              bif (a0 != 21) then
                bif (decide (a1 < a3)) then
                  some (0, 3)
                else
                  saturateref04_parts.p5 fu fu a1
              else
                saturateref04_parts.p5 fu fu a1
        else
          bif (a0 != 21) then
            bif (decide (a1 < a3)) then
              some (0, 3)
            else
              saturateref04_parts.p5 fu fu a1
          else
            saturateref04_parts.p5 fu fu a1
noncomputable def saturateref04_parts.f (a0 a1 a2 a3 : Int) : Option (Int × Int) := saturateref04_parts.g (fuel0 + 1) a0 a1 a2 a3
theorem saturateref04_parts.eq (fu : Nat) (a : Int × Int × Int × Int × Unit) : bodyK Tryz.prog saturateref04_parts.cs saturateref04_parts.live fu Tryz.f125 (saturateref04_parts.a.enc a) saturateref04_parts.r.dec = saturateref04_parts.g fu a.1 a.2.1 a.2.2.1 a.2.2.2.1 := by kernel_rfl
theorem saturateref04_parts.con : ∀ (a : Int × Int × Int × Int × Unit) (r : Int × Int), saturateref04_parts.f a.1 a.2.1 a.2.2.1 a.2.2.2.1 = some r → Contract Tryz.prog 125 (saturateref04_parts.a.enc a) (saturateref04_parts.r.enc r) := Contract.of_body (F := fun (a : Int × Int × Int × Int × Unit) => saturateref04_parts.f a.1 a.2.1 a.2.2.1 a.2.2.2.1) (fn := Tryz.f125) (cs := saturateref04_parts.cs) (live := saturateref04_parts.live) (fuel := fuel0 + 1) (by kernel_rfl) (by kernel_rfl) mixed (saturateref04_parts.eq (fuel0 + 1))
noncomputable def saturateref04_parts.c : Kn Tryz.prog := Kn.of 125 saturateref04_parts.a saturateref04_parts.r (fun a => saturateref04_parts.f a.1 a.2.1 a.2.2.1 a.2.2.2.1) saturateref04_parts.con

/-! ### saturateref04_Width: function 62 -/
def saturateref04_Width.a : ACods (Int × Int × Int × (Nat × (Nat → Int)) × Unit) := (.cons (.val (.int .i64)) (.cons (.val (.int .i64)) (.cons (.val (.int .u64)) (.cons (.rows (.int1 .i64)) .nil))))
def saturateref04_Width.r : RCod (Int × Int) := .val (.tup (.cons (.int .i64) (.one (.int .i64))))
noncomputable def saturateref04_Width.cs : List (Kn Tryz.prog) := [saturateref04_Arity.c, saturateref04_width.c, saturateref04_Leaf.c, saturateref04_leaf.c, saturateref04_parts.c]
def saturateref04_Width.live : Nat → Option Keep := liveOf [(9, ⟨[0, 1, 2, 3, 22, 23], [3], [], [], []⟩)]
noncomputable def saturateref04_Width.body : Code := bodyOf Tryz.f62
noncomputable def saturateref04_Width.K (fu : Nat) : Code → St → (Ex → St → Option (Int × Int)) → Option (Int × Int) := codeK Tryz.prog (saturateref04_Width.cs) saturateref04_Width.live fu
noncomputable def saturateref04_Width.j4 (fu n4 : Nat) (x0 x1 x2 : Int) (x3n : Nat) (x22 x23 : Int) (m3 : Nat) (g3_0 : Nat → Int) : Option (Int × Int) :=
  loopK (saturateref04_Width.K fu (sub saturateref04_Width.body [true, true, false, true, false, false])) (saturateref04_Width.live 9) n4 (stOf 133 [(0, .val (.int .i64 x0)), (1, .val (.int .i64 x1)), (2, .val (.int .u64 x2)), (3, .sl 3 1 x3n), (22, .val (.int .i64 x22)), (23, .val (.int .i64 x23))] [(3, .ext m3 [.int .i64 g3_0])]) (blockC 0 (seqC fu (saturateref04_Width.live 18) (saturateref04_Width.K fu (sub saturateref04_Width.body [true, true, true])) (retC Tryz.prog Tryz.f62.results saturateref04_Width.r.dec)))
theorem saturateref04_Width.j4_succ (fu n4 : Nat) (x0 x1 x2 : Int) (x3n : Nat) (x22 x23 : Int) (m3 : Nat) (g3_0 : Nat → Int) : saturateref04_Width.j4 fu (n4 + 1) x0 x1 x2 x3n x22 x23 m3 g3_0 =
  bif (decide (x23 < x22)) then
    bif decide (0 ≤ x23) then
      bif decide (x23 < (x3n : Int)) then
        (saturateref04_width.f (g3_0 x23.toNat)).bind fun r3 =>
        bif (!r3) then
          some (0, 3)
        else
          saturateref04_Width.j4 fu n4 x0 x1 x2 x3n x22 (IntKind.i64.wrap (x23 + 1)) m3 g3_0
      else
        none
    else
      none
  else
    (saturateref04_Leaf.f x0).bind fun r4 =>
    bif r4 then
      (saturateref04_leaf.f x0 x1 x2).bind fun r5 =>
      some (r5.1, r5.2)
    else
      bif (x0 == 21) then
        bif decide ((0 : Int) < (x3n : Int)) then
          (saturateref04_parts.f x0 x1 x2 (g3_0 0)).bind fun r6 =>
          some (r6.1, r6.2)
        else
          none
      else
        bif (x0 == 22) then
          bif decide ((0 : Int) < (x3n : Int)) then
            (saturateref04_parts.f x0 x1 x2 (g3_0 0)).bind fun r7 =>
            some (r7.1, r7.2)
          else
            none
        else
          bif (x0 == 23) then
            bif decide ((0 : Int) < (x3n : Int)) then
              (saturateref04_parts.f x0 x1 x2 (g3_0 0)).bind fun r8 =>
              some (r8.1, r8.2)
            else
              none
          else
            bif ((x3n : Int) == 1) then
              bif decide ((0 : Int) < (x3n : Int)) then
                some ((g3_0 0), 0)
              else
                none
            else
              bif (x0 == 20) then
                bif decide ((0 : Int) < (x3n : Int)) then
                  bif (decide ((g3_0 0) < 1)) then
                    some (0, 3)
                  else
                    bif decide ((1 : Int) < (x3n : Int)) then
                      bif (decide ((g3_0 1) < 1)) then
                        some (0, 3)
                      else
                        bif decide ((0 : Int) < (x3n : Int)) then
                          bif decide ((1 : Int) < (x3n : Int)) then
                            bif (decide ((IntKind.i64.wrap ((g3_0 0) + (g3_0 1))) > 64)) then
                              some (0, 3)
                            else
                              bif decide ((0 : Int) < (x3n : Int)) then
                                bif decide ((1 : Int) < (x3n : Int)) then
                                  some ((IntKind.i64.wrap ((g3_0 0) + (g3_0 1))), 0)
                                else
                                  none
                              else
                                none
                          else
                            none
                        else
                          none
                    else
                      none
                else
                  none
              else
                bif (x0 == 19) then
                  bif decide ((0 : Int) < (x3n : Int)) then
                    bif ((g3_0 0) != 1) then
                      some (0, 3)
                    else
                      bif decide ((1 : Int) < (x3n : Int)) then
                        bif decide ((2 : Int) < (x3n : Int)) then
                          bif ((g3_0 1) != (g3_0 2)) then
                            some (0, 3)
                          else
                            bif decide ((1 : Int) < (x3n : Int)) then
                              some ((g3_0 1), 0)
                            else
                              none
                        else
                          none
                      else
                        none
                  else
                    none
                else
                  bif decide ((0 : Int) < (x3n : Int)) then
                    bif decide ((1 : Int) < (x3n : Int)) then
                      bif ((g3_0 0) != (g3_0 1)) then
                        some (0, 3)
                      else
                        bif (x0 == 16) then
                          some (1, 0)
                        else
                          bif (x0 == 17) then
                            some (1, 0)
                          else
                            bif (x0 == 18) then
                              some (1, 0)
                            else
                              bif decide ((0 : Int) < (x3n : Int)) then
                                some ((g3_0 0), 0)
                              else
                                none
                    else
                      none
                  else
                    none := by kernel_rfl
noncomputable def saturateref04_Width.g (fu : Nat) (a0 a1 a2 : Int) (a3 : Nat × (Nat → Int)) : Option (Int × Int) :=
  (saturateref04_Arity.f a0).bind fun r1 =>
  bif (decide (r1 < 0)) then
    some (0, 4)
  else
    (saturateref04_Arity.f a0).bind fun r2 =>
    bif ((a3.1 : Int) != r2) then
      some (0, 4)
    else
      saturateref04_Width.j4 fu fu a0 a1 a2 a3.1 (a3.1 : Int) 0 a3.1 a3.2
noncomputable def saturateref04_Width.f (a0 a1 a2 : Int) (a3 : Nat × (Nat → Int)) : Option (Int × Int) := saturateref04_Width.g (fuel0 + 1) a0 a1 a2 a3
theorem saturateref04_Width.eq (fu : Nat) (a : Int × Int × Int × (Nat × (Nat → Int)) × Unit) : bodyK Tryz.prog saturateref04_Width.cs saturateref04_Width.live fu Tryz.f62 (saturateref04_Width.a.enc a) saturateref04_Width.r.dec = saturateref04_Width.g fu a.1 a.2.1 a.2.2.1 a.2.2.2.1 := by kernel_rfl
theorem saturateref04_Width.con : ∀ (a : Int × Int × Int × (Nat × (Nat → Int)) × Unit) (r : Int × Int), saturateref04_Width.f a.1 a.2.1 a.2.2.1 a.2.2.2.1 = some r → Contract Tryz.prog 62 (saturateref04_Width.a.enc a) (saturateref04_Width.r.enc r) := Contract.of_body (F := fun (a : Int × Int × Int × (Nat × (Nat → Int)) × Unit) => saturateref04_Width.f a.1 a.2.1 a.2.2.1 a.2.2.2.1) (fn := Tryz.f62) (cs := saturateref04_Width.cs) (live := saturateref04_Width.live) (fuel := fuel0 + 1) (by kernel_rfl) (by kernel_rfl) mixed (saturateref04_Width.eq (fuel0 + 1))
noncomputable def saturateref04_Width.c : Kn Tryz.prog := Kn.of 62 saturateref04_Width.a saturateref04_Width.r (fun a => saturateref04_Width.f a.1 a.2.1 a.2.2.1 a.2.2.2.1) saturateref04_Width.con

/-! ### saturateref04_Pattern: function 63 -/
def saturateref04_Pattern.a : ACods (Int × Unit) := (.cons (.val (.int .i64)) .nil)
def saturateref04_Pattern.r : RCod (Bool) := .val (.bool)
noncomputable def saturateref04_Pattern.cs : List (Kn Tryz.prog) := [saturateref04_Is.c]
def saturateref04_Pattern.live : Nat → Option Keep := liveOf []
noncomputable def saturateref04_Pattern.f (a0 : Int) : Option (Bool) :=
  (saturateref04_Is.f a0 (3, (fun i => [24, 25, 26].getD i 0))).bind fun r1 =>
  some r1
theorem saturateref04_Pattern.eq (fu : Nat) (a : Int × Unit) : bodyK Tryz.prog saturateref04_Pattern.cs saturateref04_Pattern.live fu Tryz.f63 (saturateref04_Pattern.a.enc a) saturateref04_Pattern.r.dec = saturateref04_Pattern.f a.1 := by kernel_rfl
theorem saturateref04_Pattern.con : ∀ (a : Int × Unit) (r : Bool), saturateref04_Pattern.f a.1 = some r → Contract Tryz.prog 63 (saturateref04_Pattern.a.enc a) (saturateref04_Pattern.r.enc r) := Contract.of_body (F := fun (a : Int × Unit) => saturateref04_Pattern.f a.1) (fn := Tryz.f63) (cs := saturateref04_Pattern.cs) (live := saturateref04_Pattern.live) (fuel := fuel0 + 1) (by kernel_rfl) (by kernel_rfl) mixed (saturateref04_Pattern.eq (fuel0 + 1))
noncomputable def saturateref04_Pattern.c : Kn Tryz.prog := Kn.of 63 saturateref04_Pattern.a saturateref04_Pattern.r (fun a => saturateref04_Pattern.f a.1) saturateref04_Pattern.con

/-! ### saturateref12_Refused: function 40 -/
/-! ### saturateref12_Const: function 100 -/
/-! ### saturateref12_Single: function 101 -/
/-! ### saturateref12_bit: function 158 -/
/-! ### saturateref12_with: function 159 -/
/-! ### saturateref12_concat: function 102 -/
/-! ### saturateref12_Not: function 160 -/
/-! ### saturateref12_xor: function 234 -/
/-! ### saturateref12_most: function 235 -/
/-! ### saturateref12_sum: function 218 -/
/-! ### saturateref12_Sub: function 161 -/
/-! ### saturateref12_unary: function 103 -/
/-! ### saturateref12_bitwise: function 162 -/
/-! ### saturateref12_Add: function 163 -/
/-! ### saturateref01_Add: function 193 -/
def saturateref01_Add.a : ACods (Int × Int × Int × Unit) := (.cons (.val (.int .i64)) (.cons (.val (.int .u64)) (.cons (.val (.int .u64)) .nil)))
def saturateref01_Add.r : RCod (Int) := .val (.int .u64)
noncomputable def saturateref01_Add.cs : List (Kn Tryz.prog) := [saturateref01_W.c, saturateref01_Bit.c]
def saturateref01_Add.live : Nat → Option Keep := liveOf [(7, ⟨[1, 2, 7, 8, 12, 13], [], [], [], []⟩)]
noncomputable def saturateref01_Add.body : Code := bodyOf Tryz.f193
noncomputable def saturateref01_Add.K (fu : Nat) : Code → St → (Ex → St → Option (Int)) → Option (Int) := codeK Tryz.prog (saturateref01_Add.cs) saturateref01_Add.live fu
noncomputable def saturateref01_Add.j3 (fu n3 : Nat) (x1 x2 x7 x8 x12 x13 : Int) : Option Int :=
  loopK (saturateref01_Add.K fu (sub saturateref01_Add.body [true, true, false, true, false, false])) (saturateref01_Add.live 7) n3 (stOf 36 [(1, .val (.int .u64 x1)), (2, .val (.int .u64 x2)), (7, .val (.int .u64 x7)), (8, .val (.int .u64 x8)), (12, .val (.int .i64 x12)), (13, .val (.int .i64 x13))] []) (blockC 0 (seqC fu (saturateref01_Add.live 18) (saturateref01_Add.K fu (sub saturateref01_Add.body [true, true, true])) (retC Tryz.prog Tryz.f193.results saturateref01_Add.r.dec)))
theorem saturateref01_Add.j3_succ (fu n3 : Nat) (x1 x2 x7 x8 x12 x13 : Int) : saturateref01_Add.j3 fu (n3 + 1) x1 x2 x7 x8 x12 x13 =
  bif (decide (x13 < x12)) then
    (saturateref01_Bit.f x1 x13).bind fun r2 =>
    (saturateref01_Bit.f x2 x13).bind fun r3 =>
    bif decide ((IntKind.u64.wrap x13) < 0) then
      none
    else
      saturateref01_Add.j3 fu n3 x1 x2 (Go.bits .or .u64 x7 (shl .u64 (Int.tmod (IntKind.u64.wrap ((IntKind.u64.wrap (r2 + r3)) + x8)) 2) (IntKind.u64.wrap x13))) (IntKind.u64.wrap (Int.tdiv (IntKind.u64.wrap ((IntKind.u64.wrap (r2 + r3)) + x8)) 2)) x12 (IntKind.i64.wrap (x13 + 1))
  else
    some x7 := by kernel_rfl
noncomputable def saturateref01_Add.g (fu : Nat) (a0 a1 a2 : Int) : Option (Int) :=
  (saturateref01_W.f a0).bind fun r1 =>
  saturateref01_Add.j3 fu fu a1 a2 0 0 r1 0
noncomputable def saturateref01_Add.f (a0 a1 a2 : Int) : Option (Int) := saturateref01_Add.g (fuel0 + 1) a0 a1 a2
theorem saturateref01_Add.eq (fu : Nat) (a : Int × Int × Int × Unit) : bodyK Tryz.prog saturateref01_Add.cs saturateref01_Add.live fu Tryz.f193 (saturateref01_Add.a.enc a) saturateref01_Add.r.dec = saturateref01_Add.g fu a.1 a.2.1 a.2.2.1 := by kernel_rfl
theorem saturateref01_Add.con : ∀ (a : Int × Int × Int × Unit) (r : Int), saturateref01_Add.f a.1 a.2.1 a.2.2.1 = some r → Contract Tryz.prog 193 (saturateref01_Add.a.enc a) (saturateref01_Add.r.enc r) := Contract.of_body (F := fun (a : Int × Int × Int × Unit) => saturateref01_Add.f a.1 a.2.1 a.2.2.1) (fn := Tryz.f193) (cs := saturateref01_Add.cs) (live := saturateref01_Add.live) (fuel := fuel0 + 1) (by kernel_rfl) (by kernel_rfl) mixed (saturateref01_Add.eq (fuel0 + 1))
noncomputable def saturateref01_Add.c : Kn Tryz.prog := Kn.of 193 saturateref01_Add.a saturateref01_Add.r (fun a => saturateref01_Add.f a.1 a.2.1 a.2.2.1) saturateref01_Add.con

/-! ### saturateref01_Mul: function 195 -/
def saturateref01_Mul.a : ACods (Int × Int × Int × Unit) := (.cons (.val (.int .i64)) (.cons (.val (.int .u64)) (.cons (.val (.int .u64)) .nil)))
def saturateref01_Mul.r : RCod (Int) := .val (.int .u64)
noncomputable def saturateref01_Mul.cs : List (Kn Tryz.prog) := [saturateref01_W.c, saturateref01_Add.c, saturateref01_Bit.c]
def saturateref01_Mul.live : Nat → Option Keep := liveOf [(7, ⟨[0, 1, 2, 7, 8], [], [], [], []⟩), (8, ⟨[0, 1, 2, 7, 8], [], [], [], []⟩)]
noncomputable def saturateref01_Mul.body : Code := bodyOf Tryz.f195
noncomputable def saturateref01_Mul.K (fu : Nat) : Code → St → (Ex → St → Option (Int)) → Option (Int) := codeK Tryz.prog (saturateref01_Mul.cs) saturateref01_Mul.live fu
noncomputable def saturateref01_Mul.j3 (fu n3 : Nat) (x0 x1 x2 x7 x8 : Int) : Option Int :=
  loopK (saturateref01_Mul.K fu (sub saturateref01_Mul.body [true, true, false, true, false, false])) (saturateref01_Mul.live 7) n3 (stOf 29 [(0, .val (.int .i64 x0)), (1, .val (.int .u64 x1)), (2, .val (.int .u64 x2)), (7, .val (.int .u64 x7)), (8, .val (.int .i64 x8))] []) (blockC 0 (seqC fu (saturateref01_Mul.live 16) (saturateref01_Mul.K fu (sub saturateref01_Mul.body [true, true, true])) (retC Tryz.prog Tryz.f195.results saturateref01_Mul.r.dec)))
noncomputable def saturateref01_Mul.p4 (m fu : Nat) (n3 : Nat) (x0 x1 x2 x7 x8 : Int) : Option Int :=
  joinK m (saturateref01_Mul.K fu (sub saturateref01_Mul.body [true, true, false, true, false, false, true, true])) (stOf 29 [(0, .val (.int .i64 x0)), (1, .val (.int .u64 x1)), (2, .val (.int .u64 x2)), (7, .val (.int .u64 x7)), (8, .val (.int .i64 x8))] []) (roundC (saturateref01_Mul.live 7) (loopK (saturateref01_Mul.K fu (sub saturateref01_Mul.body [true, true, false, true, false, false])) (saturateref01_Mul.live 7) n3) (blockC 0 (seqC fu (saturateref01_Mul.live 16) (saturateref01_Mul.K fu (sub saturateref01_Mul.body [true, true, true])) (retC Tryz.prog Tryz.f195.results saturateref01_Mul.r.dec))))
theorem saturateref01_Mul.p4_eq (m fu : Nat) (n3 : Nat) (x0 x1 x2 x7 x8 : Int) : saturateref01_Mul.p4 (m + 1) fu n3 x0 x1 x2 x7 x8 =
  saturateref01_Mul.j3 fu n3 x0 x1 x2 x7 (IntKind.i64.wrap (x8 - 1)) := by kernel_rfl
theorem saturateref01_Mul.j3_succ (fu n3 : Nat) (x0 x1 x2 x7 x8 : Int) : saturateref01_Mul.j3 fu (n3 + 1) x0 x1 x2 x7 x8 =
  bif (decide (x8 ≥ 0)) then
    (saturateref01_Add.f x0 x7 x7).bind fun r2 =>
    (saturateref01_Bit.f x2 x8).bind fun r3 =>
    bif (r3 == 1) then
      (saturateref01_Add.f x0 r2 x1).bind fun r4 =>
      saturateref01_Mul.p4 fu fu n3 x0 x1 x2 r4 x8
    else
      saturateref01_Mul.p4 fu fu n3 x0 x1 x2 r2 x8
  else
    some x7 := by kernel_rfl
noncomputable def saturateref01_Mul.g (fu : Nat) (a0 a1 a2 : Int) : Option (Int) :=
  (saturateref01_W.f a0).bind fun r1 =>
  saturateref01_Mul.j3 fu fu a0 a1 a2 0 (IntKind.i64.wrap (r1 - 1))
noncomputable def saturateref01_Mul.f (a0 a1 a2 : Int) : Option (Int) := saturateref01_Mul.g (fuel0 + 1) a0 a1 a2
theorem saturateref01_Mul.eq (fu : Nat) (a : Int × Int × Int × Unit) : bodyK Tryz.prog saturateref01_Mul.cs saturateref01_Mul.live fu Tryz.f195 (saturateref01_Mul.a.enc a) saturateref01_Mul.r.dec = saturateref01_Mul.g fu a.1 a.2.1 a.2.2.1 := by kernel_rfl
theorem saturateref01_Mul.con : ∀ (a : Int × Int × Int × Unit) (r : Int), saturateref01_Mul.f a.1 a.2.1 a.2.2.1 = some r → Contract Tryz.prog 195 (saturateref01_Mul.a.enc a) (saturateref01_Mul.r.enc r) := Contract.of_body (F := fun (a : Int × Int × Int × Unit) => saturateref01_Mul.f a.1 a.2.1 a.2.2.1) (fn := Tryz.f195) (cs := saturateref01_Mul.cs) (live := saturateref01_Mul.live) (fuel := fuel0 + 1) (by kernel_rfl) (by kernel_rfl) mixed (saturateref01_Mul.eq (fuel0 + 1))
noncomputable def saturateref01_Mul.c : Kn Tryz.prog := Kn.of 195 saturateref01_Mul.a saturateref01_Mul.r (fun a => saturateref01_Mul.f a.1 a.2.1 a.2.2.1) saturateref01_Mul.con

/-! ### saturateref12_low: function 219 -/
/-! ### saturateref12_times: function 164 -/
end Go.Proofs.YtcihbcffokjgjaaGreat.Fn
