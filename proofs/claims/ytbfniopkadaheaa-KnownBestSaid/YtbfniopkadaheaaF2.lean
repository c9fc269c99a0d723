/- What the functions return, as the evaluator tells it: written by a program of this workplace (mev.py); Lean checks each equation. -/
import Derived.Test.YtbfniopkadaheaaProg
import Derived.Test.YtbfniopkadaheaaEvC
import Derived.Test.YtbfniopkadaheaaF1
namespace Go.Proofs.Ytbfniopkadaheaa.Fn
open Go Go.RowKit Go.Proofs.Ytbfniopkadaheaa.Ev Go.Proofs
set_option linter.unusedVariables false
set_option maxRecDepth 100000
/-! ### saturateref12_concat: function 45 -/
def saturateref12_concat.a : ACods (Int × Int × (Int × Int) × (Int × Int) × Unit) := (.cons (.val (.int .i64)) (.cons (.val (.int .i64)) (.cons (.val (.agg (.cons (.int .u64) (.one (.int .u64))))) (.cons (.val (.agg (.cons (.int .u64) (.one (.int .u64))))) .nil))))
def saturateref12_concat.r : RCod (Int × Int) := .val (.agg (.cons (.int .u64) (.one (.int .u64))))
noncomputable def saturateref12_concat.cs : List (Kn Try.prog) := [saturateref12_Top.c, saturateref12_bit.c, saturateref12_with.c]
def saturateref12_concat.live : Nat → Option Keep := liveOf [(7, ⟨[0, 1, 6, 7, 8, 9, 10], [6, 7, 8, 9], []⟩), (16, ⟨[0, 1, 6, 7, 8, 9, 10, 11], [6, 7, 8, 9], []⟩)]
noncomputable def saturateref12_concat.body : Code := bodyOf Try.f45
noncomputable def saturateref12_concat.K (fu : Nat) : Code → St → (Ex → St → Option (Int × Int)) → Option (Int × Int) := codeK Try.prog saturateref12_concat.cs saturateref12_concat.live fu
noncomputable def saturateref12_concat.j3 (fu : Nat) (n3 : Nat) (x0 : Int) (x1 : Int) (x10 : Int) (c6_0 : Int) (c6_1 : Int) (c7_0 : Int) (c7_1 : Int) (c8_0 : Int) (c8_1 : Int) (c9_0 : Int) (c9_1 : Int) : Option (Int × Int) :=
  loopK (saturateref12_concat.K fu (sub saturateref12_concat.body [true, true, false, true, false, false])) (saturateref12_concat.live 7) n3 (stOf 36 [(0, .val (.int .i64 x0)), (1, .val (.int .i64 x1)), (6, .ptr 6 0 0 0), (7, .ptr 7 0 0 0), (8, .ptr 8 0 0 0), (9, .ptr 9 0 0 0), (10, .val (.int .i64 x10))] [(6, .own [.val (.int .u64 c6_0), .val (.int .u64 c6_1)]), (7, .own [.val (.int .u64 c7_0), .val (.int .u64 c7_1)]), (8, .own [.val (.int .u64 c8_0), .val (.int .u64 c8_1)]), (9, .own [.val (.int .u64 c9_0), .val (.int .u64 c9_1)])]) (blockC 0 (seqC fu (saturateref12_concat.live 18) (saturateref12_concat.K fu (sub saturateref12_concat.body [true, true, true])) (retC Try.prog Try.f45.results saturateref12_concat.r.dec)))
noncomputable def saturateref12_concat.p8 (m fu : Nat) (n3 : Nat) (x0 : Int) (x1 : Int) (x10 : Int) (x11 : Int) (c6_0 : Int) (c6_1 : Int) (c7_0 : Int) (c7_1 : Int) (c8_0 : Int) (c8_1 : Int) (c9_0 : Int) (c9_1 : Int) : Option (Int × Int) :=
  joinK m (saturateref12_concat.K fu (sub saturateref12_concat.body [true, true, false, true, false, false, true, false, false, true, true])) (stOf 36 [(0, .val (.int .i64 x0)), (1, .val (.int .i64 x1)), (6, .ptr 6 0 0 0), (7, .ptr 7 0 0 0), (8, .ptr 8 0 0 0), (9, .ptr 9 0 0 0), (10, .val (.int .i64 x10)), (11, .val (.int .i64 x11))] [(6, .own [.val (.int .u64 c6_0), .val (.int .u64 c6_1)]), (7, .own [.val (.int .u64 c7_0), .val (.int .u64 c7_1)]), (8, .own [.val (.int .u64 c8_0), .val (.int .u64 c8_1)]), (9, .own [.val (.int .u64 c9_0), .val (.int .u64 c9_1)])]) (blockC 1 (seqC fu (saturateref12_concat.live 8) (saturateref12_concat.K fu (sub saturateref12_concat.body [true, true, false, true, false, false, true, true])) (roundC (saturateref12_concat.live 7) (loopK (saturateref12_concat.K fu (sub saturateref12_concat.body [true, true, false, true, false, false])) (saturateref12_concat.live 7) n3) (blockC 0 (seqC fu (saturateref12_concat.live 18) (saturateref12_concat.K fu (sub saturateref12_concat.body [true, true, true])) (retC Try.prog Try.f45.results saturateref12_concat.r.dec))))))
theorem saturateref12_concat.p8_eq (m fu : Nat) (n3 : Nat) (x0 : Int) (x1 : Int) (x10 : Int) (x11 : Int) (c6_0 : Int) (c6_1 : Int) (c7_0 : Int) (c7_1 : Int) (c8_0 : Int) (c8_1 : Int) (c9_0 : Int) (c9_1 : Int) : saturateref12_concat.p8 (m + 1) fu n3 x0 x1 x10 x11 c6_0 c6_1 c7_0 c7_1 c8_0 c8_1 c9_0 c9_1 =
  (saturateref12_with.f (c9_0, c9_1) x10 x11).bind fun r4 =>
  saturateref12_concat.j3 fu n3 x0 x1 (IntKind.i64.wrap (x10 + 1)) c6_0 c6_1 c7_0 c7_1 c8_0 c8_1 r4.1 r4.2 := by kernel_rfl
theorem saturateref12_concat.j3_succ (fu : Nat) (n3 : Nat) (x0 : Int) (x1 : Int) (x10 : Int) (c6_0 : Int) (c6_1 : Int) (c7_0 : Int) (c7_1 : Int) (c8_0 : Int) (c8_1 : Int) (c9_0 : Int) (c9_1 : Int) : saturateref12_concat.j3 fu (n3 + 1) x0 x1 x10 c6_0 c6_1 c7_0 c7_1 c8_0 c8_1 c9_0 c9_1 =
  bif (decide (x10 < (IntKind.i64.wrap (x0 + x1)))) then
    (saturateref12_bit.f (c7_0, c7_1) x10).bind fun r2 =>
    bif (decide (x10 ≥ x1)) then
      (saturateref12_bit.f (c6_0, c6_1) (IntKind.i64.wrap (x10 - x1))).bind fun r3 =>
      saturateref12_concat.p8 fu fu n3 x0 x1 x10 r3 c6_0 c6_1 c7_0 c7_1 c8_0 c8_1 c9_0 c9_1
    else
      saturateref12_concat.p8 fu fu n3 x0 x1 x10 r2 c6_0 c6_1 c7_0 c7_1 c8_0 c8_1 c9_0 c9_1
  else
    some (c9_0, c9_1) := by kernel_rfl
noncomputable def saturateref12_concat.g (fu : Nat) (a0 : Int) (a1 : Int) (a2 : Int × Int) (a3 : Int × Int) : Option (Int × Int) :=
  (saturateref12_Top.f).bind fun r1 =>
  saturateref12_concat.j3 fu fu a0 a1 0 a2.1 a2.2 a3.1 a3.2 0 0 r1.1 r1.2
noncomputable def saturateref12_concat.f (a0 : Int) (a1 : Int) (a2 : Int × Int) (a3 : Int × Int) : Option (Int × Int) := saturateref12_concat.g (fuel0 + 1) a0 a1 a2 a3
theorem saturateref12_concat.eq (fu : Nat) (a : Int × Int × (Int × Int) × (Int × Int) × Unit) : bodyK Try.prog saturateref12_concat.cs saturateref12_concat.live fu Try.f45 (saturateref12_concat.a.enc a) saturateref12_concat.r.dec = saturateref12_concat.g fu a.1 a.2.1 a.2.2.1 a.2.2.2.1 := by kernel_rfl
theorem saturateref12_concat.con : ∀ (a : Int × Int × (Int × Int) × (Int × Int) × Unit) (r : Int × Int), saturateref12_concat.f a.1 a.2.1 a.2.2.1 a.2.2.2.1 = some r → Contract Try.prog 45 (saturateref12_concat.a.enc a) (saturateref12_concat.r.enc r) := Contract.of_body (F := fun (a : Int × Int × (Int × Int) × (Int × Int) × Unit) => saturateref12_concat.f a.1 a.2.1 a.2.2.1 a.2.2.2.1) (fn := Try.f45) (cs := saturateref12_concat.cs) (live := saturateref12_concat.live) (fuel := fuel0 + 1) (by kernel_rfl) (by kernel_rfl) mixed (saturateref12_concat.eq (fuel0 + 1))
noncomputable def saturateref12_concat.c : Kn Try.prog := Kn.of 45 saturateref12_concat.a saturateref12_concat.r (fun a => saturateref12_concat.f a.1 a.2.1 a.2.2.1 a.2.2.2.1) saturateref12_concat.con

/-! ### saturateref12_Not: function 58 -/
def saturateref12_Not.a : ACods (Int × (Int × Int) × Unit) := (.cons (.val (.int .i64)) (.cons (.val (.agg (.cons (.int .u64) (.one (.int .u64))))) .nil))
def saturateref12_Not.r : RCod (Int × Int) := .val (.agg (.cons (.int .u64) (.one (.int .u64))))
noncomputable def saturateref12_Not.cs : List (Kn Try.prog) := []
def saturateref12_Not.live : Nat → Option Keep := liveOf []
noncomputable def saturateref12_Not.body : Code := bodyOf Try.f58
noncomputable def saturateref12_Not.K (fu : Nat) : Code → St → (Ex → St → Option (Int × Int)) → Option (Int × Int) := codeK Try.prog saturateref12_Not.cs saturateref12_Not.live fu
noncomputable def saturateref12_Not.f (a0 : Int) (a1 : Int × Int) : Option (Int × Int) :=
  some (a1.2, a1.1)
theorem saturateref12_Not.eq (fu : Nat) (a : Int × (Int × Int) × Unit) : bodyK Try.prog saturateref12_Not.cs saturateref12_Not.live fu Try.f58 (saturateref12_Not.a.enc a) saturateref12_Not.r.dec = saturateref12_Not.f a.1 a.2.1 := by kernel_rfl
theorem saturateref12_Not.con : ∀ (a : Int × (Int × Int) × Unit) (r : Int × Int), saturateref12_Not.f a.1 a.2.1 = some r → Contract Try.prog 58 (saturateref12_Not.a.enc a) (saturateref12_Not.r.enc r) := Contract.of_body (F := fun (a : Int × (Int × Int) × Unit) => saturateref12_Not.f a.1 a.2.1) (fn := Try.f58) (cs := saturateref12_Not.cs) (live := saturateref12_Not.live) (fuel := fuel0 + 1) (by kernel_rfl) (by kernel_rfl) mixed (saturateref12_Not.eq (fuel0 + 1))
noncomputable def saturateref12_Not.c : Kn Try.prog := Kn.of 58 saturateref12_Not.a saturateref12_Not.r (fun a => saturateref12_Not.f a.1 a.2.1) saturateref12_Not.con

/-! ### saturateref12_xor: function 85 -/
def saturateref12_xor.a : ACods (Int × Int × Unit) := (.cons (.val (.int .i64)) (.cons (.val (.int .i64)) .nil))
def saturateref12_xor.r : RCod (Int) := .val (.int .i64)
noncomputable def saturateref12_xor.cs : List (Kn Try.prog) := []
def saturateref12_xor.live : Nat → Option Keep := liveOf []
noncomputable def saturateref12_xor.body : Code := bodyOf Try.f85
noncomputable def saturateref12_xor.K (fu : Nat) : Code → St → (Ex → St → Option (Int)) → Option (Int) := codeK Try.prog saturateref12_xor.cs saturateref12_xor.live fu
noncomputable def saturateref12_xor.f (a0 : Int) (a1 : Int) : Option (Int) :=
  bif (a0 == 2) then
    some 2
  else
    bif (a1 == 2) then
      some 2
    else
      some (Int.tmod (IntKind.i64.wrap (a0 + a1)) 2)
theorem saturateref12_xor.eq (fu : Nat) (a : Int × Int × Unit) : bodyK Try.prog saturateref12_xor.cs saturateref12_xor.live fu Try.f85 (saturateref12_xor.a.enc a) saturateref12_xor.r.dec = saturateref12_xor.f a.1 a.2.1 := by kernel_rfl
theorem saturateref12_xor.con : ∀ (a : Int × Int × Unit) (r : Int), saturateref12_xor.f a.1 a.2.1 = some r → Contract Try.prog 85 (saturateref12_xor.a.enc a) (saturateref12_xor.r.enc r) := Contract.of_body (F := fun (a : Int × Int × Unit) => saturateref12_xor.f a.1 a.2.1) (fn := Try.f85) (cs := saturateref12_xor.cs) (live := saturateref12_xor.live) (fuel := fuel0 + 1) (by kernel_rfl) (by kernel_rfl) mixed (saturateref12_xor.eq (fuel0 + 1))
noncomputable def saturateref12_xor.c : Kn Try.prog := Kn.of 85 saturateref12_xor.a saturateref12_xor.r (fun a => saturateref12_xor.f a.1 a.2.1) saturateref12_xor.con

/-! ### saturateref12_most: function 86 -/
def saturateref12_most.a : ACods (Int × Int × Int × Unit) := (.cons (.val (.int .i64)) (.cons (.val (.int .i64)) (.cons (.val (.int .i64)) .nil)))
def saturateref12_most.r : RCod (Int) := .val (.int .i64)
noncomputable def saturateref12_most.cs : List (Kn Try.prog) := []
def saturateref12_most.live : Nat → Option Keep := liveOf [(5, ⟨[0, 1, 2, 7], [], []⟩), (6, ⟨[0, 1, 2, 7], [], []⟩)]
noncomputable def saturateref12_most.body : Code := bodyOf Try.f86
noncomputable def saturateref12_most.K (fu : Nat) : Code → St → (Ex → St → Option (Int)) → Option (Int) := codeK Try.prog saturateref12_most.cs saturateref12_most.live fu
noncomputable def saturateref12_most.j2 (fu : Nat) (n2 : Nat) (x0 : Int) (x1 : Int) (x2 : Int) (x7 : Int) : Option Int :=
  loopK (saturateref12_most.K fu (sub saturateref12_most.body [true, false, true, false, false])) (saturateref12_most.live 5) n2 (stOf 41 [(0, .val (.int .i64 x0)), (1, .val (.int .i64 x1)), (2, .val (.int .i64 x2)), (7, .val (.int .i64 x7))] []) (blockC 0 (seqC fu (saturateref12_most.live 12) (saturateref12_most.K fu (sub saturateref12_most.body [true, true])) (retC Try.prog Try.f86.results saturateref12_most.r.dec)))
noncomputable def saturateref12_most.p3 (m fu : Nat) (n2 : Nat) (x0 : Int) (x1 : Int) (x2 : Int) (x7 : Int) : Option Int :=
  joinK m (saturateref12_most.K fu (sub saturateref12_most.body [true, false, true, false, false, true, true])) (stOf 41 [(0, .val (.int .i64 x0)), (1, .val (.int .i64 x1)), (2, .val (.int .i64 x2)), (7, .val (.int .i64 x7))] []) (roundC (saturateref12_most.live 5) (loopK (saturateref12_most.K fu (sub saturateref12_most.body [true, false, true, false, false])) (saturateref12_most.live 5) n2) (blockC 0 (seqC fu (saturateref12_most.live 12) (saturateref12_most.K fu (sub saturateref12_most.body [true, true])) (retC Try.prog Try.f86.results saturateref12_most.r.dec))))
theorem saturateref12_most.p3_eq (m fu : Nat) (n2 : Nat) (x0 : Int) (x1 : Int) (x2 : Int) (x7 : Int) : saturateref12_most.p3 (m + 1) fu n2 x0 x1 x2 x7 =
  saturateref12_most.j2 fu n2 x0 x1 x2 (IntKind.i64.wrap (x7 + 1)) := by kernel_rfl
theorem saturateref12_most.j2_succ (fu : Nat) (n2 : Nat) (x0 : Int) (x1 : Int) (x2 : Int) (x7 : Int) : saturateref12_most.j2 fu (n2 + 1) x0 x1 x2 x7 =
  bif (decide (x7 ≤ 1)) then
    bif (x0 == x7) then
      bif (x1 == x7) then
        some x7
      else
        bif (x0 == x7) then
          bif (x2 == x7) then
            some x7
          else
            bif (x1 == x7) then
              bif (x2 == x7) then
                some x7
              else
                saturateref12_most.p3 fu fu n2 x0 x1 x2 x7
            else
              saturateref12_most.p3 fu fu n2 x0 x1 x2 x7
        else
          bif (x1 == x7) then
            bif (x2 == x7) then
              some x7
            else
              saturateref12_most.p3 fu fu n2 x0 x1 x2 x7
          else
            saturateref12_most.p3 fu fu n2 x0 x1 x2 x7
    else
      bif (x0 == x7) then
        bif (x2 == x7) then
          some x7
        else
          bif (x1 == x7) then
            bif (x2 == x7) then
              some x7
            else
              saturateref12_most.p3 fu fu n2 x0 x1 x2 x7
          else
            saturateref12_most.p3 fu fu n2 x0 x1 x2 x7
      else
        bif (x1 == x7) then
          bif (x2 == x7) then
            some x7
          else
            saturateref12_most.p3 fu fu n2 x0 x1 x2 x7
        else
          saturateref12_most.p3 fu fu n2 x0 x1 x2 x7
  else
    some 2 := by kernel_rfl
noncomputable def saturateref12_most.g (fu : Nat) (a0 : Int) (a1 : Int) (a2 : Int) : Option (Int) :=
  saturateref12_most.j2 fu fu a0 a1 a2 0
noncomputable def saturateref12_most.f (a0 : Int) (a1 : Int) (a2 : Int) : Option (Int) := saturateref12_most.g (fuel0 + 1) a0 a1 a2
theorem saturateref12_most.eq (fu : Nat) (a : Int × Int × Int × Unit) : bodyK Try.prog saturateref12_most.cs saturateref12_most.live fu Try.f86 (saturateref12_most.a.enc a) saturateref12_most.r.dec = saturateref12_most.g fu a.1 a.2.1 a.2.2.1 := by kernel_rfl
theorem saturateref12_most.con : ∀ (a : Int × Int × Int × Unit) (r : Int), saturateref12_most.f a.1 a.2.1 a.2.2.1 = some r → Contract Try.prog 86 (saturateref12_most.a.enc a) (saturateref12_most.r.enc r) := Contract.of_body (F := fun (a : Int × Int × Int × Unit) => saturateref12_most.f a.1 a.2.1 a.2.2.1) (fn := Try.f86) (cs := saturateref12_most.cs) (live := saturateref12_most.live) (fuel := fuel0 + 1) (by kernel_rfl) (by kernel_rfl) mixed (saturateref12_most.eq (fuel0 + 1))
noncomputable def saturateref12_most.c : Kn Try.prog := Kn.of 86 saturateref12_most.a saturateref12_most.r (fun a => saturateref12_most.f a.1 a.2.1 a.2.2.1) saturateref12_most.con

/-! ### saturateref12_sum: function 57 -/
def saturateref12_sum.a : ACods (Int × (Int × Int) × (Int × Int) × Int × Unit) := (.cons (.val (.int .i64)) (.cons (.val (.agg (.cons (.int .u64) (.one (.int .u64))))) (.cons (.val (.agg (.cons (.int .u64) (.one (.int .u64))))) (.cons (.val (.int .i64)) .nil))))
def saturateref12_sum.r : RCod (Int × Int) := .val (.agg (.cons (.int .u64) (.one (.int .u64))))
noncomputable def saturateref12_sum.cs : List (Kn Try.prog) := [saturateref12_Top.c, saturateref01_W.c, saturateref12_bit.c, saturateref12_xor.c, saturateref12_with.c, saturateref12_most.c]
def saturateref12_sum.live : Nat → Option Keep := liveOf [(7, ⟨[0, 3, 5, 6, 8, 9, 10], [5, 6, 8, 9], []⟩)]
noncomputable def saturateref12_sum.body : Code := bodyOf Try.f57
noncomputable def saturateref12_sum.K (fu : Nat) : Code → St → (Ex → St → Option (Int × Int)) → Option (Int × Int) := codeK Try.prog saturateref12_sum.cs saturateref12_sum.live fu
noncomputable def saturateref12_sum.j3 (fu : Nat) (n3 : Nat) (x0 : Int) (x3 : Int) (x10 : Int) (c5_0 : Int) (c5_1 : Int) (c6_0 : Int) (c6_1 : Int) (c8_0 : Int) (c8_1 : Int) (c9_0 : Int) (c9_1 : Int) : Option (Int × Int) :=
  loopK (saturateref12_sum.K fu (sub saturateref12_sum.body [true, true, false, true, false, false])) (saturateref12_sum.live 7) n3 (stOf 39 [(0, .val (.int .i64 x0)), (3, .val (.int .i64 x3)), (5, .ptr 5 0 0 0), (6, .ptr 6 0 0 0), (8, .ptr 8 0 0 0), (9, .ptr 9 0 0 0), (10, .val (.int .i64 x10))] [(5, .own [.val (.int .u64 c5_0), .val (.int .u64 c5_1)]), (6, .own [.val (.int .u64 c6_0), .val (.int .u64 c6_1)]), (8, .own [.val (.int .u64 c8_0), .val (.int .u64 c8_1)]), (9, .own [.val (.int .u64 c9_0), .val (.int .u64 c9_1)])]) (blockC 0 (seqC fu (saturateref12_sum.live 16) (saturateref12_sum.K fu (sub saturateref12_sum.body [true, true, true])) (retC Try.prog Try.f57.results saturateref12_sum.r.dec)))
theorem saturateref12_sum.j3_succ (fu : Nat) (n3 : Nat) (x0 : Int) (x3 : Int) (x10 : Int) (c5_0 : Int) (c5_1 : Int) (c6_0 : Int) (c6_1 : Int) (c8_0 : Int) (c8_1 : Int) (c9_0 : Int) (c9_1 : Int) : saturateref12_sum.j3 fu (n3 + 1) x0 x3 x10 c5_0 c5_1 c6_0 c6_1 c8_0 c8_1 c9_0 c9_1 =
  (saturateref01_W.f x0).bind fun r2 =>
  bif (decide (x10 < r2)) then
    (saturateref12_bit.f (c5_0, c5_1) x10).bind fun r3 =>
    (saturateref12_bit.f (c6_0, c6_1) x10).bind fun r4 =>
    (saturateref12_xor.f r3 r4).bind fun r5 =>
    (saturateref12_xor.f r5 x3).bind fun r6 =>
    (saturateref12_with.f (c9_0, c9_1) x10 r6).bind fun r7 =>
    (saturateref12_most.f r3 r4 x3).bind fun r8 =>
    saturateref12_sum.j3 fu n3 x0 r8 (IntKind.i64.wrap (x10 + 1)) c5_0 c5_1 c6_0 c6_1 c8_0 c8_1 r7.1 r7.2
  else
    some (c9_0, c9_1) := by kernel_rfl
noncomputable def saturateref12_sum.g (fu : Nat) (a0 : Int) (a1 : Int × Int) (a2 : Int × Int) (a3 : Int) : Option (Int × Int) :=
  (saturateref12_Top.f).bind fun r1 =>
  saturateref12_sum.j3 fu fu a0 a3 0 a1.1 a1.2 a2.1 a2.2 0 0 r1.1 r1.2
noncomputable def saturateref12_sum.f (a0 : Int) (a1 : Int × Int) (a2 : Int × Int) (a3 : Int) : Option (Int × Int) := saturateref12_sum.g (fuel0 + 1) a0 a1 a2 a3
theorem saturateref12_sum.eq (fu : Nat) (a : Int × (Int × Int) × (Int × Int) × Int × Unit) : bodyK Try.prog saturateref12_sum.cs saturateref12_sum.live fu Try.f57 (saturateref12_sum.a.enc a) saturateref12_sum.r.dec = saturateref12_sum.g fu a.1 a.2.1 a.2.2.1 a.2.2.2.1 := by kernel_rfl
theorem saturateref12_sum.con : ∀ (a : Int × (Int × Int) × (Int × Int) × Int × Unit) (r : Int × Int), saturateref12_sum.f a.1 a.2.1 a.2.2.1 a.2.2.2.1 = some r → Contract Try.prog 57 (saturateref12_sum.a.enc a) (saturateref12_sum.r.enc r) := Contract.of_body (F := fun (a : Int × (Int × Int) × (Int × Int) × Int × Unit) => saturateref12_sum.f a.1 a.2.1 a.2.2.1 a.2.2.2.1) (fn := Try.f57) (cs := saturateref12_sum.cs) (live := saturateref12_sum.live) (fuel := fuel0 + 1) (by kernel_rfl) (by kernel_rfl) mixed (saturateref12_sum.eq (fuel0 + 1))
noncomputable def saturateref12_sum.c : Kn Try.prog := Kn.of 57 saturateref12_sum.a saturateref12_sum.r (fun a => saturateref12_sum.f a.1 a.2.1 a.2.2.1 a.2.2.2.1) saturateref12_sum.con

/-! ### saturateref12_Sub: function 29 -/
def saturateref12_Sub.a : ACods (Int × (Int × Int) × (Int × Int) × Unit) := (.cons (.val (.int .i64)) (.cons (.val (.agg (.cons (.int .u64) (.one (.int .u64))))) (.cons (.val (.agg (.cons (.int .u64) (.one (.int .u64))))) .nil)))
def saturateref12_Sub.r : RCod (Int × Int) := .val (.agg (.cons (.int .u64) (.one (.int .u64))))
noncomputable def saturateref12_Sub.cs : List (Kn Try.prog) := [saturateref12_Of.c, saturateref12_Not.c, saturateref12_sum.c]
def saturateref12_Sub.live : Nat → Option Keep := liveOf []
noncomputable def saturateref12_Sub.body : Code := bodyOf Try.f29
noncomputable def saturateref12_Sub.K (fu : Nat) : Code → St → (Ex → St → Option (Int × Int)) → Option (Int × Int) := codeK Try.prog saturateref12_Sub.cs saturateref12_Sub.live fu
noncomputable def saturateref12_Sub.f (a0 : Int) (a1 : Int × Int) (a2 : Int × Int) : Option (Int × Int) :=
  (saturateref12_Of.f a0 (a1.1, a1.2)).bind fun r1 =>
  (saturateref12_Of.f a0 (a2.1, a2.2)).bind fun r2 =>
  (saturateref12_Not.f a0 (r2.1, r2.2)).bind fun r3 =>
  (saturateref12_sum.f a0 (r1.1, r1.2) (r3.1, r3.2) 1).bind fun r4 =>
  some (r4.1, r4.2)
theorem saturateref12_Sub.eq (fu : Nat) (a : Int × (Int × Int) × (Int × Int) × Unit) : bodyK Try.prog saturateref12_Sub.cs saturateref12_Sub.live fu Try.f29 (saturateref12_Sub.a.enc a) saturateref12_Sub.r.dec = saturateref12_Sub.f a.1 a.2.1 a.2.2.1 := by kernel_rfl
theorem saturateref12_Sub.con : ∀ (a : Int × (Int × Int) × (Int × Int) × Unit) (r : Int × Int), saturateref12_Sub.f a.1 a.2.1 a.2.2.1 = some r → Contract Try.prog 29 (saturateref12_Sub.a.enc a) (saturateref12_Sub.r.enc r) := Contract.of_body (F := fun (a : Int × (Int × Int) × (Int × Int) × Unit) => saturateref12_Sub.f a.1 a.2.1 a.2.2.1) (fn := Try.f29) (cs := saturateref12_Sub.cs) (live := saturateref12_Sub.live) (fuel := fuel0 + 1) (by kernel_rfl) (by kernel_rfl) mixed (saturateref12_Sub.eq (fuel0 + 1))
noncomputable def saturateref12_Sub.c : Kn Try.prog := Kn.of 29 saturateref12_Sub.a saturateref12_Sub.r (fun a => saturateref12_Sub.f a.1 a.2.1 a.2.2.1) saturateref12_Sub.con

/-! ### saturateref12_unary: function 46 -/
def saturateref12_unary.a : ACods (Int × Int × Int × Int × (Int × Int) × Unit) := (.cons (.val (.int .i64)) (.cons (.val (.int .i64)) (.cons (.val (.int .u64)) (.cons (.val (.int .i64)) (.cons (.val (.agg (.cons (.int .u64) (.one (.int .u64))))) .nil)))))
def saturateref12_unary.r : RCod (Int × Int) := .val (.agg (.cons (.int .u64) (.one (.int .u64))))
noncomputable def saturateref12_unary.cs : List (Kn Try.prog) := [saturateref12_Not.c, saturateref12_Const.c, saturateref12_Sub.c, saturateref12_Top.c, saturateref12_bit.c, saturateref12_with.c]
def saturateref12_unary.live : Nat → Option Keep := liveOf [(17, ⟨[0, 1, 2, 3, 9, 10, 11, 12], [9, 10, 11], []⟩), (34, ⟨[0, 1, 2, 3, 9, 10, 11, 12, 13], [9, 10, 11], []⟩)]
noncomputable def saturateref12_unary.body : Code := bodyOf Try.f46
noncomputable def saturateref12_unary.K (fu : Nat) : Code → St → (Ex → St → Option (Int × Int)) → Option (Int × Int) := codeK Try.prog saturateref12_unary.cs saturateref12_unary.live fu
noncomputable def saturateref12_unary.j8 (fu : Nat) (n8 : Nat) (x0 : Int) (x1 : Int) (x2 : Int) (x3 : Int) (x12 : Int) (c9_0 : Int) (c9_1 : Int) (c10_0 : Int) (c10_1 : Int) (c11_0 : Int) (c11_1 : Int) : Option (Int × Int) :=
  loopK (saturateref12_unary.K fu (sub saturateref12_unary.body [true, true, true, false, true, false, false])) (saturateref12_unary.live 17) n8 (stOf 61 [(0, .val (.int .i64 x0)), (1, .val (.int .i64 x1)), (2, .val (.int .u64 x2)), (3, .val (.int .i64 x3)), (9, .ptr 9 0 0 0), (10, .ptr 10 0 0 0), (11, .ptr 11 0 0 0), (12, .val (.int .i64 x12))] [(9, .own [.val (.int .u64 c9_0), .val (.int .u64 c9_1)]), (10, .own [.val (.int .u64 c10_0), .val (.int .u64 c10_1)]), (11, .own [.val (.int .u64 c11_0), .val (.int .u64 c11_1)])]) (blockC 1 (seqC fu (saturateref12_unary.live 36) (saturateref12_unary.K fu (sub saturateref12_unary.body [true, true, true, true])) (retC Try.prog Try.f46.results saturateref12_unary.r.dec)))
noncomputable def saturateref12_unary.p17 (m fu : Nat) (n8 : Nat) (x0 : Int) (x1 : Int) (x2 : Int) (x3 : Int) (x12 : Int) (x13 : Int) (c9_0 : Int) (c9_1 : Int) (c10_0 : Int) (c10_1 : Int) (c11_0 : Int) (c11_1 : Int) : Option (Int × Int) :=
  joinK m (saturateref12_unary.K fu (sub saturateref12_unary.body [true, true, true, false, true, false, false, true, false, false, true, true])) (stOf 61 [(0, .val (.int .i64 x0)), (1, .val (.int .i64 x1)), (2, .val (.int .u64 x2)), (3, .val (.int .i64 x3)), (9, .ptr 9 0 0 0), (10, .ptr 10 0 0 0), (11, .ptr 11 0 0 0), (12, .val (.int .i64 x12)), (13, .val (.int .i64 x13))] [(9, .own [.val (.int .u64 c9_0), .val (.int .u64 c9_1)]), (10, .own [.val (.int .u64 c10_0), .val (.int .u64 c10_1)]), (11, .own [.val (.int .u64 c11_0), .val (.int .u64 c11_1)])]) (blockC 2 (seqC fu (saturateref12_unary.live 18) (saturateref12_unary.K fu (sub saturateref12_unary.body [true, true, true, false, true, false, false, true, true])) (roundC (saturateref12_unary.live 17) (loopK (saturateref12_unary.K fu (sub saturateref12_unary.body [true, true, true, false, true, false, false])) (saturateref12_unary.live 17) n8) (blockC 1 (seqC fu (saturateref12_unary.live 36) (saturateref12_unary.K fu (sub saturateref12_unary.body [true, true, true, true])) (retC Try.prog Try.f46.results saturateref12_unary.r.dec))))))
theorem saturateref12_unary.p17_eq (m fu : Nat) (n8 : Nat) (x0 : Int) (x1 : Int) (x2 : Int) (x3 : Int) (x12 : Int) (x13 : Int) (c9_0 : Int) (c9_1 : Int) (c10_0 : Int) (c10_1 : Int) (c11_0 : Int) (c11_1 : Int) : saturateref12_unary.p17 (m + 1) fu n8 x0 x1 x2 x3 x12 x13 c9_0 c9_1 c10_0 c10_1 c11_0 c11_1 =
  (saturateref12_with.f (c11_0, c11_1) x12 x13).bind fun r6 =>
  saturateref12_unary.j8 fu n8 x0 x1 x2 x3 (IntKind.i64.wrap (x12 + 1)) c9_0 c9_1 c10_0 c10_1 r6.1 r6.2 := by kernel_rfl
theorem saturateref12_unary.j8_succ (fu : Nat) (n8 : Nat) (x0 : Int) (x1 : Int) (x2 : Int) (x3 : Int) (x12 : Int) (c9_0 : Int) (c9_1 : Int) (c10_0 : Int) (c10_1 : Int) (c11_0 : Int) (c11_1 : Int) : saturateref12_unary.j8 fu (n8 + 1) x0 x1 x2 x3 x12 c9_0 c9_1 c10_0 c10_1 c11_0 c11_1 =
  bif (decide (x12 < x1)) then
    bif (x0 == 21) then
      (saturateref12_bit.f (c9_0, c9_1) (IntKind.i64.wrap (x12 + (IntKind.i64.wrap x2)))).bind fun r5 =>
      saturateref12_unary.p17 fu fu n8 x0 x1 x2 x3 x12 r5 c9_0 c9_1 c10_0 c10_1 c11_0 c11_1
    else
      bif (decide (x12 < x3)) then
        (saturateref12_bit.f (c9_0, c9_1) x12).bind fun r7 =>
        saturateref12_unary.p17 fu fu n8 x0 x1 x2 x3 x12 r7 c9_0 c9_1 c10_0 c10_1 c11_0 c11_1
      else
        bif (x0 == 23) then
          (saturateref12_bit.f (c9_0, c9_1) (IntKind.i64.wrap (x3 - 1))).bind fun r8 =>
          saturateref12_unary.p17 fu fu n8 x0 x1 x2 x3 x12 r8 c9_0 c9_1 c10_0 c10_1 c11_0 c11_1
        else
          saturateref12_unary.p17 fu fu n8 x0 x1 x2 x3 x12 0 c9_0 c9_1 c10_0 c10_1 c11_0 c11_1
  else
    some (c11_0, c11_1) := by kernel_rfl
noncomputable def saturateref12_unary.g (fu : Nat) (a0 : Int) (a1 : Int) (a2 : Int) (a3 : Int) (a4 : Int × Int) : Option (Int × Int) :=
  bif (a0 == 3) then
    (saturateref12_Not.f a3 (a4.1, a4.2)).bind fun r1 =>
    some (r1.1, r1.2)
  else
    bif (a0 == 4) then
      (saturateref12_Const.f a3 0).bind fun r2 =>
      (saturateref12_Sub.f a3 (r2.1, r2.2) (a4.1, a4.2)).bind fun r3 =>
      some (r3.1, r3.2)
    else
      (saturateref12_Top.f).bind fun r4 =>
      saturateref12_unary.j8 fu fu a0 a1 a2 a3 0 a4.1 a4.2 0 0 r4.1 r4.2
noncomputable def saturateref12_unary.f (a0 : Int) (a1 : Int) (a2 : Int) (a3 : Int) (a4 : Int × Int) : Option (Int × Int) := saturateref12_unary.g (fuel0 + 1) a0 a1 a2 a3 a4
theorem saturateref12_unary.eq (fu : Nat) (a : Int × Int × Int × Int × (Int × Int) × Unit) : bodyK Try.prog saturateref12_unary.cs saturateref12_unary.live fu Try.f46 (saturateref12_unary.a.enc a) saturateref12_unary.r.dec = saturateref12_unary.g fu a.1 a.2.1 a.2.2.1 a.2.2.2.1 a.2.2.2.2.1 := by kernel_rfl
theorem saturateref12_unary.con : ∀ (a : Int × Int × Int × Int × (Int × Int) × Unit) (r : Int × Int), saturateref12_unary.f a.1 a.2.1 a.2.2.1 a.2.2.2.1 a.2.2.2.2.1 = some r → Contract Try.prog 46 (saturateref12_unary.a.enc a) (saturateref12_unary.r.enc r) := Contract.of_body (F := fun (a : Int × Int × Int × Int × (Int × Int) × Unit) => saturateref12_unary.f a.1 a.2.1 a.2.2.1 a.2.2.2.1 a.2.2.2.2.1) (fn := Try.f46) (cs := saturateref12_unary.cs) (live := saturateref12_unary.live) (fuel := fuel0 + 1) (by kernel_rfl) (by kernel_rfl) mixed (saturateref12_unary.eq (fuel0 + 1))
noncomputable def saturateref12_unary.c : Kn Try.prog := Kn.of 46 saturateref12_unary.a saturateref12_unary.r (fun a => saturateref12_unary.f a.1 a.2.1 a.2.2.1 a.2.2.2.1 a.2.2.2.2.1) saturateref12_unary.con

/-! ### saturateref12_bitwise: function 73 -/
def saturateref12_bitwise.a : ACods (Int × (Int × Int) × (Int × Int) × Unit) := (.cons (.val (.int .i64)) (.cons (.val (.agg (.cons (.int .u64) (.one (.int .u64))))) (.cons (.val (.agg (.cons (.int .u64) (.one (.int .u64))))) .nil)))
def saturateref12_bitwise.r : RCod (Int × Int) := .val (.agg (.cons (.int .u64) (.one (.int .u64))))
noncomputable def saturateref12_bitwise.cs : List (Kn Try.prog) := []
def saturateref12_bitwise.live : Nat → Option Keep := liveOf []
noncomputable def saturateref12_bitwise.body : Code := bodyOf Try.f73
noncomputable def saturateref12_bitwise.K (fu : Nat) : Code → St → (Ex → St → Option (Int × Int)) → Option (Int × Int) := codeK Try.prog saturateref12_bitwise.cs saturateref12_bitwise.live fu
noncomputable def saturateref12_bitwise.f (a0 : Int) (a1 : Int × Int) (a2 : Int × Int) : Option (Int × Int) :=
  bif (a0 == 5) then
    some ((Go.bits .or .u64 a1.1 a2.1), (Go.bits .and .u64 a1.2 a2.2))
  else
    bif (a0 == 6) then
      some ((Go.bits .and .u64 a1.1 a2.1), (Go.bits .or .u64 a1.2 a2.2))
    else
      some ((Go.bits .or .u64 (Go.bits .and .u64 a1.1 a2.1) (Go.bits .and .u64 a1.2 a2.2)), (Go.bits .or .u64 (Go.bits .and .u64 a1.1 a2.2) (Go.bits .and .u64 a1.2 a2.1)))
theorem saturateref12_bitwise.eq (fu : Nat) (a : Int × (Int × Int) × (Int × Int) × Unit) : bodyK Try.prog saturateref12_bitwise.cs saturateref12_bitwise.live fu Try.f73 (saturateref12_bitwise.a.enc a) saturateref12_bitwise.r.dec = saturateref12_bitwise.f a.1 a.2.1 a.2.2.1 := by kernel_rfl
theorem saturateref12_bitwise.con : ∀ (a : Int × (Int × Int) × (Int × Int) × Unit) (r : Int × Int), saturateref12_bitwise.f a.1 a.2.1 a.2.2.1 = some r → Contract Try.prog 73 (saturateref12_bitwise.a.enc a) (saturateref12_bitwise.r.enc r) := Contract.of_body (F := fun (a : Int × (Int × Int) × (Int × Int) × Unit) => saturateref12_bitwise.f a.1 a.2.1 a.2.2.1) (fn := Try.f73) (cs := saturateref12_bitwise.cs) (live := saturateref12_bitwise.live) (fuel := fuel0 + 1) (by kernel_rfl) (by kernel_rfl) mixed (saturateref12_bitwise.eq (fuel0 + 1))
noncomputable def saturateref12_bitwise.c : Kn Try.prog := Kn.of 73 saturateref12_bitwise.a saturateref12_bitwise.r (fun a => saturateref12_bitwise.f a.1 a.2.1 a.2.2.1) saturateref12_bitwise.con

/-! ### saturateref12_Add: function 27 -/
def saturateref12_Add.a : ACods (Int × (Int × Int) × (Int × Int) × Unit) := (.cons (.val (.int .i64)) (.cons (.val (.agg (.cons (.int .u64) (.one (.int .u64))))) (.cons (.val (.agg (.cons (.int .u64) (.one (.int .u64))))) .nil)))
def saturateref12_Add.r : RCod (Int × Int) := .val (.agg (.cons (.int .u64) (.one (.int .u64))))
noncomputable def saturateref12_Add.cs : List (Kn Try.prog) := [saturateref12_Of.c, saturateref12_sum.c]
def saturateref12_Add.live : Nat → Option Keep := liveOf []
noncomputable def saturateref12_Add.body : Code := bodyOf Try.f27
noncomputable def saturateref12_Add.K (fu : Nat) : Code → St → (Ex → St → Option (Int × Int)) → Option (Int × Int) := codeK Try.prog saturateref12_Add.cs saturateref12_Add.live fu
noncomputable def saturateref12_Add.f (a0 : Int) (a1 : Int × Int) (a2 : Int × Int) : Option (Int × Int) :=
  (saturateref12_Of.f a0 (a1.1, a1.2)).bind fun r1 =>
  (saturateref12_Of.f a0 (a2.1, a2.2)).bind fun r2 =>
  (saturateref12_sum.f a0 (r1.1, r1.2) (r2.1, r2.2) 0).bind fun r3 =>
  some (r3.1, r3.2)
theorem saturateref12_Add.eq (fu : Nat) (a : Int × (Int × Int) × (Int × Int) × Unit) : bodyK Try.prog saturateref12_Add.cs saturateref12_Add.live fu Try.f27 (saturateref12_Add.a.enc a) saturateref12_Add.r.dec = saturateref12_Add.f a.1 a.2.1 a.2.2.1 := by kernel_rfl
theorem saturateref12_Add.con : ∀ (a : Int × (Int × Int) × (Int × Int) × Unit) (r : Int × Int), saturateref12_Add.f a.1 a.2.1 a.2.2.1 = some r → Contract Try.prog 27 (saturateref12_Add.a.enc a) (saturateref12_Add.r.enc r) := Contract.of_body (F := fun (a : Int × (Int × Int) × (Int × Int) × Unit) => saturateref12_Add.f a.1 a.2.1 a.2.2.1) (fn := Try.f27) (cs := saturateref12_Add.cs) (live := saturateref12_Add.live) (fuel := fuel0 + 1) (by kernel_rfl) (by kernel_rfl) mixed (saturateref12_Add.eq (fuel0 + 1))
noncomputable def saturateref12_Add.c : Kn Try.prog := Kn.of 27 saturateref12_Add.a saturateref12_Add.r (fun a => saturateref12_Add.f a.1 a.2.1 a.2.2.1) saturateref12_Add.con

/-! ### saturateref01_Add: function 114 -/
def saturateref01_Add.a : ACods (Int × Int × Int × Unit) := (.cons (.val (.int .i64)) (.cons (.val (.int .u64)) (.cons (.val (.int .u64)) .nil)))
def saturateref01_Add.r : RCod (Int) := .val (.int .u64)
noncomputable def saturateref01_Add.cs : List (Kn Try.prog) := [saturateref01_W.c, saturateref01_Bit.c]
def saturateref01_Add.live : Nat → Option Keep := liveOf [(7, ⟨[1, 2, 7, 8, 12, 13], [], []⟩)]
noncomputable def saturateref01_Add.body : Code := bodyOf Try.f114
noncomputable def saturateref01_Add.K (fu : Nat) : Code → St → (Ex → St → Option (Int)) → Option (Int) := codeK Try.prog saturateref01_Add.cs saturateref01_Add.live fu
noncomputable def saturateref01_Add.j3 (fu : Nat) (n3 : Nat) (x1 : Int) (x2 : Int) (x7 : Int) (x8 : Int) (x12 : Int) (x13 : Int) : Option Int :=
  loopK (saturateref01_Add.K fu (sub saturateref01_Add.body [true, true, false, true, false, false])) (saturateref01_Add.live 7) n3 (stOf 36 [(1, .val (.int .u64 x1)), (2, .val (.int .u64 x2)), (7, .val (.int .u64 x7)), (8, .val (.int .u64 x8)), (12, .val (.int .i64 x12)), (13, .val (.int .i64 x13))] []) (blockC 0 (seqC fu (saturateref01_Add.live 18) (saturateref01_Add.K fu (sub saturateref01_Add.body [true, true, true])) (retC Try.prog Try.f114.results saturateref01_Add.r.dec)))
theorem saturateref01_Add.j3_succ (fu : Nat) (n3 : Nat) (x1 : Int) (x2 : Int) (x7 : Int) (x8 : Int) (x12 : Int) (x13 : Int) : saturateref01_Add.j3 fu (n3 + 1) x1 x2 x7 x8 x12 x13 =
  bif (decide (x13 < x12)) then
    (saturateref01_Bit.f x1 x13).bind fun r2 =>
    (saturateref01_Bit.f x2 x13).bind fun r3 =>
    bif decide ((IntKind.u64.wrap x13) < 0) then
      none
    else
      saturateref01_Add.j3 fu n3 x1 x2 (Go.bits .or .u64 x7 (shl .u64 (Int.tmod (IntKind.u64.wrap ((IntKind.u64.wrap (r2 + r3)) + x8)) 2) (IntKind.u64.wrap x13))) (IntKind.u64.wrap (Int.tdiv (IntKind.u64.wrap ((IntKind.u64.wrap (r2 + r3)) + x8)) 2)) x12 (IntKind.i64.wrap (x13 + 1))
  else
    some x7 := by kernel_rfl
noncomputable def saturateref01_Add.g (fu : Nat) (a0 : Int) (a1 : Int) (a2 : Int) : Option (Int) :=
  (saturateref01_W.f a0).bind fun r1 =>
  saturateref01_Add.j3 fu fu a1 a2 0 0 r1 0
noncomputable def saturateref01_Add.f (a0 : Int) (a1 : Int) (a2 : Int) : Option (Int) := saturateref01_Add.g (fuel0 + 1) a0 a1 a2
theorem saturateref01_Add.eq (fu : Nat) (a : Int × Int × Int × Unit) : bodyK Try.prog saturateref01_Add.cs saturateref01_Add.live fu Try.f114 (saturateref01_Add.a.enc a) saturateref01_Add.r.dec = saturateref01_Add.g fu a.1 a.2.1 a.2.2.1 := by kernel_rfl
theorem saturateref01_Add.con : ∀ (a : Int × Int × Int × Unit) (r : Int), saturateref01_Add.f a.1 a.2.1 a.2.2.1 = some r → Contract Try.prog 114 (saturateref01_Add.a.enc a) (saturateref01_Add.r.enc r) := Contract.of_body (F := fun (a : Int × Int × Int × Unit) => saturateref01_Add.f a.1 a.2.1 a.2.2.1) (fn := Try.f114) (cs := saturateref01_Add.cs) (live := saturateref01_Add.live) (fuel := fuel0 + 1) (by kernel_rfl) (by kernel_rfl) mixed (saturateref01_Add.eq (fuel0 + 1))
noncomputable def saturateref01_Add.c : Kn Try.prog := Kn.of 114 saturateref01_Add.a saturateref01_Add.r (fun a => saturateref01_Add.f a.1 a.2.1 a.2.2.1) saturateref01_Add.con

/-! ### saturateref01_Mul: function 103 -/
def saturateref01_Mul.a : ACods (Int × Int × Int × Unit) := (.cons (.val (.int .i64)) (.cons (.val (.int .u64)) (.cons (.val (.int .u64)) .nil)))
def saturateref01_Mul.r : RCod (Int) := .val (.int .u64)
noncomputable def saturateref01_Mul.cs : List (Kn Try.prog) := [saturateref01_W.c, saturateref01_Add.c, saturateref01_Bit.c]
def saturateref01_Mul.live : Nat → Option Keep := liveOf [(7, ⟨[0, 1, 2, 7, 8], [], []⟩), (8, ⟨[0, 1, 2, 7, 8], [], []⟩)]
noncomputable def saturateref01_Mul.body : Code := bodyOf Try.f103
noncomputable def saturateref01_Mul.K (fu : Nat) : Code → St → (Ex → St → Option (Int)) → Option (Int) := codeK Try.prog saturateref01_Mul.cs saturateref01_Mul.live fu
noncomputable def saturateref01_Mul.j3 (fu : Nat) (n3 : Nat) (x0 : Int) (x1 : Int) (x2 : Int) (x7 : Int) (x8 : Int) : Option Int :=
  loopK (saturateref01_Mul.K fu (sub saturateref01_Mul.body [true, true, false, true, false, false])) (saturateref01_Mul.live 7) n3 (stOf 29 [(0, .val (.int .i64 x0)), (1, .val (.int .u64 x1)), (2, .val (.int .u64 x2)), (7, .val (.int .u64 x7)), (8, .val (.int .i64 x8))] []) (blockC 0 (seqC fu (saturateref01_Mul.live 16) (saturateref01_Mul.K fu (sub saturateref01_Mul.body [true, true, true])) (retC Try.prog Try.f103.results saturateref01_Mul.r.dec)))
noncomputable def saturateref01_Mul.p4 (m fu : Nat) (n3 : Nat) (x0 : Int) (x1 : Int) (x2 : Int) (x7 : Int) (x8 : Int) : Option Int :=
  joinK m (saturateref01_Mul.K fu (sub saturateref01_Mul.body [true, true, false, true, false, false, true, true])) (stOf 29 [(0, .val (.int .i64 x0)), (1, .val (.int .u64 x1)), (2, .val (.int .u64 x2)), (7, .val (.int .u64 x7)), (8, .val (.int .i64 x8))] []) (roundC (saturateref01_Mul.live 7) (loopK (saturateref01_Mul.K fu (sub saturateref01_Mul.body [true, true, false, true, false, false])) (saturateref01_Mul.live 7) n3) (blockC 0 (seqC fu (saturateref01_Mul.live 16) (saturateref01_Mul.K fu (sub saturateref01_Mul.body [true, true, true])) (retC Try.prog Try.f103.results saturateref01_Mul.r.dec))))
theorem saturateref01_Mul.p4_eq (m fu : Nat) (n3 : Nat) (x0 : Int) (x1 : Int) (x2 : Int) (x7 : Int) (x8 : Int) : saturateref01_Mul.p4 (m + 1) fu n3 x0 x1 x2 x7 x8 =
  saturateref01_Mul.j3 fu n3 x0 x1 x2 x7 (IntKind.i64.wrap (x8 - 1)) := by kernel_rfl
theorem saturateref01_Mul.j3_succ (fu : Nat) (n3 : Nat) (x0 : Int) (x1 : Int) (x2 : Int) (x7 : Int) (x8 : Int) : saturateref01_Mul.j3 fu (n3 + 1) x0 x1 x2 x7 x8 =
  bif (decide (x8 ≥ 0)) then
    (saturateref01_Add.f x0 x7 x7).bind fun r2 =>
    (saturateref01_Bit.f x2 x8).bind fun r3 =>
    bif (r3 == 1) then
      (saturateref01_Add.f x0 r2 x1).bind fun r4 =>
      saturateref01_Mul.p4 fu fu n3 x0 x1 x2 r4 x8
    else
      saturateref01_Mul.p4 fu fu n3 x0 x1 x2 r2 x8
  else
    some x7 := by kernel_rfl
noncomputable def saturateref01_Mul.g (fu : Nat) (a0 : Int) (a1 : Int) (a2 : Int) : Option (Int) :=
  (saturateref01_W.f a0).bind fun r1 =>
  saturateref01_Mul.j3 fu fu a0 a1 a2 0 (IntKind.i64.wrap (r1 - 1))
noncomputable def saturateref01_Mul.f (a0 : Int) (a1 : Int) (a2 : Int) : Option (Int) := saturateref01_Mul.g (fuel0 + 1) a0 a1 a2
theorem saturateref01_Mul.eq (fu : Nat) (a : Int × Int × Int × Unit) : bodyK Try.prog saturateref01_Mul.cs saturateref01_Mul.live fu Try.f103 (saturateref01_Mul.a.enc a) saturateref01_Mul.r.dec = saturateref01_Mul.g fu a.1 a.2.1 a.2.2.1 := by kernel_rfl
theorem saturateref01_Mul.con : ∀ (a : Int × Int × Int × Unit) (r : Int), saturateref01_Mul.f a.1 a.2.1 a.2.2.1 = some r → Contract Try.prog 103 (saturateref01_Mul.a.enc a) (saturateref01_Mul.r.enc r) := Contract.of_body (F := fun (a : Int × Int × Int × Unit) => saturateref01_Mul.f a.1 a.2.1 a.2.2.1) (fn := Try.f103) (cs := saturateref01_Mul.cs) (live := saturateref01_Mul.live) (fuel := fuel0 + 1) (by kernel_rfl) (by kernel_rfl) mixed (saturateref01_Mul.eq (fuel0 + 1))
noncomputable def saturateref01_Mul.c : Kn Try.prog := Kn.of 103 saturateref01_Mul.a saturateref01_Mul.r (fun a => saturateref01_Mul.f a.1 a.2.1 a.2.2.1) saturateref01_Mul.con

/-! ### saturateref12_low: function 104 -/
def saturateref12_low.a : ACods (Int × (Int × Int) × Unit) := (.cons (.val (.int .i64)) (.cons (.val (.agg (.cons (.int .u64) (.one (.int .u64))))) .nil))
def saturateref12_low.r : RCod (Int) := .val (.int .i64)
noncomputable def saturateref12_low.cs : List (Kn Try.prog) := [saturateref12_bit.c]
def saturateref12_low.live : Nat → Option Keep := liveOf [(5, ⟨[0, 3, 5], [3], []⟩), (8, ⟨[5], [], []⟩)]
noncomputable def saturateref12_low.body : Code := bodyOf Try.f104
noncomputable def saturateref12_low.K (fu : Nat) : Code → St → (Ex → St → Option (Int)) → Option (Int) := codeK Try.prog saturateref12_low.cs saturateref12_low.live fu
noncomputable def saturateref12_low.j2 (fu : Nat) (n2 : Nat) (x0 : Int) (x5 : Int) (c3_0 : Int) (c3_1 : Int) : Option Int :=
  loopK (saturateref12_low.K fu (sub saturateref12_low.body [true, true, false, false, false])) (saturateref12_low.live 5) n2 (stOf 18 [(0, .val (.int .i64 x0)), (3, .ptr 3 0 0 0), (5, .val (.int .i64 x5))] [(3, .own [.val (.int .u64 c3_0), .val (.int .u64 c3_1)])]) (blockC 0 (seqC fu (saturateref12_low.live 8) (saturateref12_low.K fu (sub saturateref12_low.body [true, true, true])) (retC Try.prog Try.f104.results saturateref12_low.r.dec)))
noncomputable def saturateref12_low.p4 (m fu : Nat) (x5 : Int) : Option Int :=
  joinK m (saturateref12_low.K fu (sub saturateref12_low.body [true, true, true])) (stOf 18 [(5, .val (.int .i64 x5))] []) (retC Try.prog Try.f104.results saturateref12_low.r.dec)
theorem saturateref12_low.p4_eq (m fu : Nat) (x5 : Int) : saturateref12_low.p4 (m + 1) fu x5 =
  some x5 := by kernel_rfl
theorem saturateref12_low.j2_succ (fu : Nat) (n2 : Nat) (x0 : Int) (x5 : Int) (c3_0 : Int) (c3_1 : Int) : saturateref12_low.j2 fu (n2 + 1) x0 x5 c3_0 c3_1 =
  bif (decide (x5 < x0)) then
    (saturateref12_bit.f (c3_0, c3_1) x5).bind fun r1 =>
    bif (r1 == 0) then
      saturateref12_low.j2 fu n2 x0 (IntKind.i64.wrap (x5 + 1)) c3_0 c3_1
    else
      saturateref12_low.p4 fu fu x5
  else
    saturateref12_low.p4 fu fu x5 := by kernel_rfl
noncomputable def saturateref12_low.g (fu : Nat) (a0 : Int) (a1 : Int × Int) : Option (Int) :=
  saturateref12_low.j2 fu fu a0 0 a1.1 a1.2
noncomputable def saturateref12_low.f (a0 : Int) (a1 : Int × Int) : Option (Int) := saturateref12_low.g (fuel0 + 1) a0 a1
theorem saturateref12_low.eq (fu : Nat) (a : Int × (Int × Int) × Unit) : bodyK Try.prog saturateref12_low.cs saturateref12_low.live fu Try.f104 (saturateref12_low.a.enc a) saturateref12_low.r.dec = saturateref12_low.g fu a.1 a.2.1 := by kernel_rfl
theorem saturateref12_low.con : ∀ (a : Int × (Int × Int) × Unit) (r : Int), saturateref12_low.f a.1 a.2.1 = some r → Contract Try.prog 104 (saturateref12_low.a.enc a) (saturateref12_low.r.enc r) := Contract.of_body (F := fun (a : Int × (Int × Int) × Unit) => saturateref12_low.f a.1 a.2.1) (fn := Try.f104) (cs := saturateref12_low.cs) (live := saturateref12_low.live) (fuel := fuel0 + 1) (by kernel_rfl) (by kernel_rfl) mixed (saturateref12_low.eq (fuel0 + 1))
noncomputable def saturateref12_low.c : Kn Try.prog := Kn.of 104 saturateref12_low.a saturateref12_low.r (fun a => saturateref12_low.f a.1 a.2.1) saturateref12_low.con

/-! ### saturateref12_times: function 74 -/
def saturateref12_times.a : ACods (Int × (Int × Int) × (Int × Int) × Unit) := (.cons (.val (.int .i64)) (.cons (.val (.agg (.cons (.int .u64) (.one (.int .u64))))) (.cons (.val (.agg (.cons (.int .u64) (.one (.int .u64))))) .nil)))
def saturateref12_times.r : RCod (Int × Int) := .val (.agg (.cons (.int .u64) (.one (.int .u64))))
noncomputable def saturateref12_times.cs : List (Kn Try.prog) := [saturateref12_Single.c, saturateref01_Mul.c, saturateref12_Const.c, saturateref12_Top.c, saturateref12_low.c, saturateref12_with.c]
def saturateref12_times.live : Nat → Option Keep := liveOf [(10, ⟨[0, 4, 5, 6], [4, 5, 6], []⟩), (15, ⟨[0, 4, 5, 6, 11, 12], [4, 5, 6, 11], []⟩)]
noncomputable def saturateref12_times.body : Code := bodyOf Try.f74
noncomputable def saturateref12_times.K (fu : Nat) : Code → St → (Ex → St → Option (Int × Int)) → Option (Int × Int) := codeK Try.prog saturateref12_times.cs saturateref12_times.live fu
noncomputable def saturateref12_times.p5 (m fu : Nat) (x0 : Int) (c4_0 : Int) (c4_1 : Int) (c5_0 : Int) (c5_1 : Int) : Option (Int × Int) :=
  joinK m (saturateref12_times.K fu (sub saturateref12_times.body [true, true, true, true])) (stOf 53 [(0, .val (.int .i64 x0)), (4, .ptr 4 0 0 0), (5, .ptr 5 0 0 0), (6, .ptr 6 0 0 0)] [(4, .own [.val (.int .u64 c4_0), .val (.int .u64 c4_1)]), (5, .own [.val (.int .u64 c5_0), .val (.int .u64 c5_1)]), (6, .own [.val (.int .u64 0), .val (.int .u64 0)])]) (retC Try.prog Try.f74.results saturateref12_times.r.dec)
noncomputable def saturateref12_times.j7 (fu : Nat) (n7 : Nat) (x0 : Int) (x12 : Int) (c4_0 : Int) (c4_1 : Int) (c5_0 : Int) (c5_1 : Int) (c6_0 : Int) (c6_1 : Int) (c11_0 : Int) (c11_1 : Int) : Option (Int × Int) :=
  loopK (saturateref12_times.K fu (sub saturateref12_times.body [true, true, true, true, true, false, true, false, false])) (saturateref12_times.live 15) n7 (stOf 53 [(0, .val (.int .i64 x0)), (4, .ptr 4 0 0 0), (5, .ptr 5 0 0 0), (6, .ptr 6 0 0 0), (11, .ptr 11 0 0 0), (12, .val (.int .i64 x12))] [(4, .own [.val (.int .u64 c4_0), .val (.int .u64 c4_1)]), (5, .own [.val (.int .u64 c5_0), .val (.int .u64 c5_1)]), (6, .own [.val (.int .u64 c6_0), .val (.int .u64 c6_1)]), (11, .own [.val (.int .u64 c11_0), .val (.int .u64 c11_1)])]) (blockC 0 (seqC fu (saturateref12_times.live 20) (saturateref12_times.K fu (sub saturateref12_times.body [true, true, true, true, true, true])) (retC Try.prog Try.f74.results saturateref12_times.r.dec)))
theorem saturateref12_times.j7_succ (fu : Nat) (n7 : Nat) (x0 : Int) (x12 : Int) (c4_0 : Int) (c4_1 : Int) (c5_0 : Int) (c5_1 : Int) (c6_0 : Int) (c6_1 : Int) (c11_0 : Int) (c11_1 : Int) : saturateref12_times.j7 fu (n7 + 1) x0 x12 c4_0 c4_1 c5_0 c5_1 c6_0 c6_1 c11_0 c11_1 =
  (saturateref12_low.f x0 (c4_0, c4_1)).bind fun r6 =>
  (saturateref12_low.f x0 (c5_0, c5_1)).bind fun r7 =>
  bif (decide (x12 < (mn x0 (IntKind.i64.wrap (r6 + r7))))) then
    (saturateref12_with.f (c11_0, c11_1) x12 0).bind fun r8 =>
    saturateref12_times.j7 fu n7 x0 (IntKind.i64.wrap (x12 + 1)) c4_0 c4_1 c5_0 c5_1 c6_0 c6_1 r8.1 r8.2
  else
    some (c11_0, c11_1) := by kernel_rfl
theorem saturateref12_times.p5_eq (m fu : Nat) (x0 : Int) (c4_0 : Int) (c4_1 : Int) (c5_0 : Int) (c5_1 : Int) : saturateref12_times.p5 (m + 1) fu x0 c4_0 c4_1 c5_0 c5_1 =
  (saturateref12_Top.f).bind fun r5 =>
  saturateref12_times.j7 fu fu x0 0 c4_0 c4_1 c5_0 c5_1 0 0 r5.1 r5.2 := by kernel_rfl
noncomputable def saturateref12_times.g (fu : Nat) (a0 : Int) (a1 : Int × Int) (a2 : Int × Int) : Option (Int × Int) :=
  (saturateref12_Single.f a0 (a1.1, a1.2)).bind fun r1 =>
  (saturateref12_Single.f a0 (a2.1, a2.2)).bind fun r2 =>
  bif r1.2 then
    bif r2.2 then
      (saturateref01_Mul.f a0 r1.1 r2.1).bind fun r3 =>
      (saturateref12_Const.f a0 r3).bind fun r4 =>
      some (r4.1, r4.2)
    else
      saturateref12_times.p5 fu fu a0 a1.1 a1.2 a2.1 a2.2
  else
    saturateref12_times.p5 fu fu a0 a1.1 a1.2 a2.1 a2.2
noncomputable def saturateref12_times.f (a0 : Int) (a1 : Int × Int) (a2 : Int × Int) : Option (Int × Int) := saturateref12_times.g (fuel0 + 1) a0 a1 a2
theorem saturateref12_times.eq (fu : Nat) (a : Int × (Int × Int) × (Int × Int) × Unit) : bodyK Try.prog saturateref12_times.cs saturateref12_times.live fu Try.f74 (saturateref12_times.a.enc a) saturateref12_times.r.dec = saturateref12_times.g fu a.1 a.2.1 a.2.2.1 := by kernel_rfl
theorem saturateref12_times.con : ∀ (a : Int × (Int × Int) × (Int × Int) × Unit) (r : Int × Int), saturateref12_times.f a.1 a.2.1 a.2.2.1 = some r → Contract Try.prog 74 (saturateref12_times.a.enc a) (saturateref12_times.r.enc r) := Contract.of_body (F := fun (a : Int × (Int × Int) × (Int × Int) × Unit) => saturateref12_times.f a.1 a.2.1 a.2.2.1) (fn := Try.f74) (cs := saturateref12_times.cs) (live := saturateref12_times.live) (fuel := fuel0 + 1) (by kernel_rfl) (by kernel_rfl) mixed (saturateref12_times.eq (fuel0 + 1))
noncomputable def saturateref12_times.c : Kn Try.prog := Kn.of 74 saturateref12_times.a saturateref12_times.r (fun a => saturateref12_times.f a.1 a.2.1 a.2.2.1) saturateref12_times.con

/-! ### saturateref12_moved: function 105 -/
def saturateref12_moved.a : ACods (Int × (Int × Int) × Int × Int × Unit) := (.cons (.val (.int .i64)) (.cons (.val (.agg (.cons (.int .u64) (.one (.int .u64))))) (.cons (.val (.int .i64)) (.cons (.val (.int .i64)) .nil))))
def saturateref12_moved.r : RCod (Int × Int) := .val (.agg (.cons (.int .u64) (.one (.int .u64))))
noncomputable def saturateref12_moved.cs : List (Kn Try.prog) := [saturateref12_Top.c, saturateref12_bit.c, saturateref12_with.c]
def saturateref12_moved.live : Nat → Option Keep := liveOf [(7, ⟨[0, 2, 3, 5, 8, 9, 10], [5, 8, 9], []⟩), (18, ⟨[0, 2, 3, 5, 8, 9, 10, 11, 12], [5, 8, 9], []⟩), (22, ⟨[0, 2, 3, 5, 8, 9, 10, 12], [5, 8, 9], []⟩)]
noncomputable def saturateref12_moved.body : Code := bodyOf Try.f105
noncomputable def saturateref12_moved.K (fu : Nat) : Code → St → (Ex → St → Option (Int × Int)) → Option (Int × Int) := codeK Try.prog saturateref12_moved.cs saturateref12_moved.live fu
noncomputable def saturateref12_moved.j3 (fu : Nat) (n3 : Nat) (x0 : Int) (x2 : Int) (x3 : Int) (x10 : Int) (c5_0 : Int) (c5_1 : Int) (c8_0 : Int) (c8_1 : Int) (c9_0 : Int) (c9_1 : Int) : Option (Int × Int) :=
  loopK (saturateref12_moved.K fu (sub saturateref12_moved.body [true, true, false, true, false, false])) (saturateref12_moved.live 7) n3 (stOf 40 [(0, .val (.int .i64 x0)), (2, .val (.int .i64 x2)), (3, .val (.int .i64 x3)), (5, .ptr 5 0 0 0), (8, .ptr 8 0 0 0), (9, .ptr 9 0 0 0), (10, .val (.int .i64 x10))] [(5, .own [.val (.int .u64 c5_0), .val (.int .u64 c5_1)]), (8, .own [.val (.int .u64 c8_0), .val (.int .u64 c8_1)]), (9, .own [.val (.int .u64 c9_0), .val (.int .u64 c9_1)])]) (blockC 0 (seqC fu (saturateref12_moved.live 24) (saturateref12_moved.K fu (sub saturateref12_moved.body [true, true, true])) (retC Try.prog Try.f105.results saturateref12_moved.r.dec)))
noncomputable def saturateref12_moved.p9 (m fu : Nat) (n3 : Nat) (x0 : Int) (x2 : Int) (x3 : Int) (x10 : Int) (x11 : Int) (x12 : Int) (c5_0 : Int) (c5_1 : Int) (c8_0 : Int) (c8_1 : Int) (c9_0 : Int) (c9_1 : Int) : Option (Int × Int) :=
  joinK m (saturateref12_moved.K fu (sub saturateref12_moved.body [true, true, false, true, false, false, true, false, false, true, true, true])) (stOf 40 [(0, .val (.int .i64 x0)), (2, .val (.int .i64 x2)), (3, .val (.int .i64 x3)), (5, .ptr 5 0 0 0), (8, .ptr 8 0 0 0), (9, .ptr 9 0 0 0), (10, .val (.int .i64 x10)), (11, .val (.int .i64 x11)), (12, .val (.int .i64 x12))] [(5, .own [.val (.int .u64 c5_0), .val (.int .u64 c5_1)]), (8, .own [.val (.int .u64 c8_0), .val (.int .u64 c8_1)]), (9, .own [.val (.int .u64 c9_0), .val (.int .u64 c9_1)])]) (blockC 1 (seqC fu (saturateref12_moved.live 8) (saturateref12_moved.K fu (sub saturateref12_moved.body [true, true, false, true, false, false, true, true])) (roundC (saturateref12_moved.live 7) (loopK (saturateref12_moved.K fu (sub saturateref12_moved.body [true, true, false, true, false, false])) (saturateref12_moved.live 7) n3) (blockC 0 (seqC fu (saturateref12_moved.live 24) (saturateref12_moved.K fu (sub saturateref12_moved.body [true, true, true])) (retC Try.prog Try.f105.results saturateref12_moved.r.dec))))))
noncomputable def saturateref12_moved.p11 (m fu : Nat) (n3 : Nat) (x0 : Int) (x2 : Int) (x3 : Int) (x10 : Int) (x12 : Int) (c5_0 : Int) (c5_1 : Int) (c8_0 : Int) (c8_1 : Int) (c9_0 : Int) (c9_1 : Int) : Option (Int × Int) :=
  joinK m (saturateref12_moved.K fu (sub saturateref12_moved.body [true, true, false, true, false, false, true, false, false, true, true, true, true])) (stOf 40 [(0, .val (.int .i64 x0)), (2, .val (.int .i64 x2)), (3, .val (.int .i64 x3)), (5, .ptr 5 0 0 0), (8, .ptr 8 0 0 0), (9, .ptr 9 0 0 0), (10, .val (.int .i64 x10)), (12, .val (.int .i64 x12))] [(5, .own [.val (.int .u64 c5_0), .val (.int .u64 c5_1)]), (8, .own [.val (.int .u64 c8_0), .val (.int .u64 c8_1)]), (9, .own [.val (.int .u64 c9_0), .val (.int .u64 c9_1)])]) (blockC 1 (seqC fu (saturateref12_moved.live 8) (saturateref12_moved.K fu (sub saturateref12_moved.body [true, true, false, true, false, false, true, true])) (roundC (saturateref12_moved.live 7) (loopK (saturateref12_moved.K fu (sub saturateref12_moved.body [true, true, false, true, false, false])) (saturateref12_moved.live 7) n3) (blockC 0 (seqC fu (saturateref12_moved.live 24) (saturateref12_moved.K fu (sub saturateref12_moved.body [true, true, true])) (retC Try.prog Try.f105.results saturateref12_moved.r.dec))))))
theorem saturateref12_moved.p11_eq (m fu : Nat) (n3 : Nat) (x0 : Int) (x2 : Int) (x3 : Int) (x10 : Int) (x12 : Int) (c5_0 : Int) (c5_1 : Int) (c8_0 : Int) (c8_1 : Int) (c9_0 : Int) (c9_1 : Int) : saturateref12_moved.p11 (m + 1) fu n3 x0 x2 x3 x10 x12 c5_0 c5_1 c8_0 c8_1 c9_0 c9_1 =
  (saturateref12_with.f (c9_0, c9_1) x10 x12).bind fun r3 =>
  saturateref12_moved.j3 fu n3 x0 x2 x3 (IntKind.i64.wrap (x10 + 1)) c5_0 c5_1 c8_0 c8_1 r3.1 r3.2 := by kernel_rfl
theorem saturateref12_moved.p9_eq (m fu : Nat) (n3 : Nat) (x0 : Int) (x2 : Int) (x3 : Int) (x10 : Int) (x11 : Int) (x12 : Int) (c5_0 : Int) (c5_1 : Int) (c8_0 : Int) (c8_1 : Int) (c9_0 : Int) (c9_1 : Int) : saturateref12_moved.p9 (m + 1) fu n3 x0 x2 x3 x10 x11 x12 c5_0 c5_1 c8_0 c8_1 c9_0 c9_1 =
  bif (decide (x11 < 0)) then
    saturateref12_moved.p11 fu fu n3 x0 x2 x3 x10 0 c5_0 c5_1 c8_0 c8_1 c9_0 c9_1
  else
    saturateref12_moved.p11 fu fu n3 x0 x2 x3 x10 x12 c5_0 c5_1 c8_0 c8_1 c9_0 c9_1 := by kernel_rfl
theorem saturateref12_moved.j3_succ (fu : Nat) (n3 : Nat) (x0 : Int) (x2 : Int) (x3 : Int) (x10 : Int) (c5_0 : Int) (c5_1 : Int) (c8_0 : Int) (c8_1 : Int) (c9_0 : Int) (c9_1 : Int) : saturateref12_moved.j3 fu (n3 + 1) x0 x2 x3 x10 c5_0 c5_1 c8_0 c8_1 c9_0 c9_1 =
  bif (decide (x10 < x0)) then
    bif (decide ((IntKind.i64.wrap (x10 + x2)) ≥ 0)) then
      bif (decide ((IntKind.i64.wrap (x10 + x2)) < x0)) then
        (saturateref12_bit.f (c5_0, c5_1) (IntKind.i64.wrap (x10 + x2))).bind fun r2 =>
        saturateref12_moved.p9 fu fu n3 x0 x2 x3 x10 (IntKind.i64.wrap (x10 + x2)) r2 c5_0 c5_1 c8_0 c8_1 c9_0 c9_1
      else
        saturateref12_moved.p9 fu fu n3 x0 x2 x3 x10 (IntKind.i64.wrap (x10 + x2)) x3 c5_0 c5_1 c8_0 c8_1 c9_0 c9_1
    else
      saturateref12_moved.p9 fu fu n3 x0 x2 x3 x10 (IntKind.i64.wrap (x10 + x2)) x3 c5_0 c5_1 c8_0 c8_1 c9_0 c9_1
  else
    some (c9_0, c9_1) := by kernel_rfl
noncomputable def saturateref12_moved.g (fu : Nat) (a0 : Int) (a1 : Int × Int) (a2 : Int) (a3 : Int) : Option (Int × Int) :=
  (saturateref12_Top.f).bind fun r1 =>
  saturateref12_moved.j3 fu fu a0 a2 a3 0 a1.1 a1.2 0 0 r1.1 r1.2
noncomputable def saturateref12_moved.f (a0 : Int) (a1 : Int × Int) (a2 : Int) (a3 : Int) : Option (Int × Int) := saturateref12_moved.g (fuel0 + 1) a0 a1 a2 a3
theorem saturateref12_moved.eq (fu : Nat) (a : Int × (Int × Int) × Int × Int × Unit) : bodyK Try.prog saturateref12_moved.cs saturateref12_moved.live fu Try.f105 (saturateref12_moved.a.enc a) saturateref12_moved.r.dec = saturateref12_moved.g fu a.1 a.2.1 a.2.2.1 a.2.2.2.1 := by kernel_rfl
theorem saturateref12_moved.con : ∀ (a : Int × (Int × Int) × Int × Int × Unit) (r : Int × Int), saturateref12_moved.f a.1 a.2.1 a.2.2.1 a.2.2.2.1 = some r → Contract Try.prog 105 (saturateref12_moved.a.enc a) (saturateref12_moved.r.enc r) := Contract.of_body (F := fun (a : Int × (Int × Int) × Int × Int × Unit) => saturateref12_moved.f a.1 a.2.1 a.2.2.1 a.2.2.2.1) (fn := Try.f105) (cs := saturateref12_moved.cs) (live := saturateref12_moved.live) (fuel := fuel0 + 1) (by kernel_rfl) (by kernel_rfl) mixed (saturateref12_moved.eq (fuel0 + 1))
noncomputable def saturateref12_moved.c : Kn Try.prog := Kn.of 105 saturateref12_moved.a saturateref12_moved.r (fun a => saturateref12_moved.f a.1 a.2.1 a.2.2.1 a.2.2.2.1) saturateref12_moved.con

/-! ### saturateref12_shifted: function 75 -/
def saturateref12_shifted.a : ACods (Int × Int × (Int × Int) × (Int × Int) × Unit) := (.cons (.val (.int .i64)) (.cons (.val (.int .i64)) (.cons (.val (.agg (.cons (.int .u64) (.one (.int .u64))))) (.cons (.val (.agg (.cons (.int .u64) (.one (.int .u64))))) .nil))))
def saturateref12_shifted.r : RCod (Int × Int) := .val (.agg (.cons (.int .u64) (.one (.int .u64))))
noncomputable def saturateref12_shifted.cs : List (Kn Try.prog) := [saturateref12_Single.c, saturateref12_Top.c, saturateref12_moved.c, saturateref12_bit.c]
def saturateref12_shifted.live : Nat → Option Keep := liveOf []
noncomputable def saturateref12_shifted.body : Code := bodyOf Try.f75
noncomputable def saturateref12_shifted.K (fu : Nat) : Code → St → (Ex → St → Option (Int × Int)) → Option (Int × Int) := codeK Try.prog saturateref12_shifted.cs saturateref12_shifted.live fu
noncomputable def saturateref12_shifted.f (a0 : Int) (a1 : Int) (a2 : Int × Int) (a3 : Int × Int) : Option (Int × Int) :=
  (saturateref12_Single.f a1 (a3.1, a3.2)).bind fun r1 =>
  bif (!r1.2) then
    (saturateref12_Top.f).bind fun r2 =>
    some (r2.1, r2.2)
  else
    bif (a0 == 13) then
      (saturateref12_moved.f a1 (a2.1, a2.2) (IntKind.i64.wrap (0 - (IntKind.i64.wrap (mn r1.1 64)))) 0).bind fun r3 =>
      some (r3.1, r3.2)
    else
      bif (a0 == 14) then
        (saturateref12_moved.f a1 (a2.1, a2.2) (IntKind.i64.wrap (mn r1.1 64)) 0).bind fun r4 =>
        some (r4.1, r4.2)
      else
        (saturateref12_bit.f (a2.1, a2.2) (IntKind.i64.wrap (a1 - 1))).bind fun r5 =>
        (saturateref12_moved.f a1 (a2.1, a2.2) (IntKind.i64.wrap (mn r1.1 64)) r5).bind fun r6 =>
        some (r6.1, r6.2)
theorem saturateref12_shifted.eq (fu : Nat) (a : Int × Int × (Int × Int) × (Int × Int) × Unit) : bodyK Try.prog saturateref12_shifted.cs saturateref12_shifted.live fu Try.f75 (saturateref12_shifted.a.enc a) saturateref12_shifted.r.dec = saturateref12_shifted.f a.1 a.2.1 a.2.2.1 a.2.2.2.1 := by kernel_rfl
theorem saturateref12_shifted.con : ∀ (a : Int × Int × (Int × Int) × (Int × Int) × Unit) (r : Int × Int), saturateref12_shifted.f a.1 a.2.1 a.2.2.1 a.2.2.2.1 = some r → Contract Try.prog 75 (saturateref12_shifted.a.enc a) (saturateref12_shifted.r.enc r) := Contract.of_body (F := fun (a : Int × Int × (Int × Int) × (Int × Int) × Unit) => saturateref12_shifted.f a.1 a.2.1 a.2.2.1 a.2.2.2.1) (fn := Try.f75) (cs := saturateref12_shifted.cs) (live := saturateref12_shifted.live) (fuel := fuel0 + 1) (by kernel_rfl) (by kernel_rfl) mixed (saturateref12_shifted.eq (fuel0 + 1))
noncomputable def saturateref12_shifted.c : Kn Try.prog := Kn.of 75 saturateref12_shifted.a saturateref12_shifted.r (fun a => saturateref12_shifted.f a.1 a.2.1 a.2.2.1 a.2.2.2.1) saturateref12_shifted.con

/-! ### saturateref12_equal: function 76 -/
def saturateref12_equal.a : ACods (Int × (Int × Int) × (Int × Int) × Unit) := (.cons (.val (.int .i64)) (.cons (.val (.agg (.cons (.int .u64) (.one (.int .u64))))) (.cons (.val (.agg (.cons (.int .u64) (.one (.int .u64))))) .nil)))
def saturateref12_equal.r : RCod (Int × Int) := .val (.agg (.cons (.int .u64) (.one (.int .u64))))
noncomputable def saturateref12_equal.cs : List (Kn Try.prog) := [saturateref12_Single.c, saturateref12_Const.c, saturateref12_Top.c]
def saturateref12_equal.live : Nat → Option Keep := liveOf [(14, ⟨[6], [6], []⟩)]
noncomputable def saturateref12_equal.body : Code := bodyOf Try.f76
noncomputable def saturateref12_equal.K (fu : Nat) : Code → St → (Ex → St → Option (Int × Int)) → Option (Int × Int) := codeK Try.prog saturateref12_equal.cs saturateref12_equal.live fu
noncomputable def saturateref12_equal.p7 (m fu : Nat) : Option (Int × Int) :=
  joinK m (saturateref12_equal.K fu (sub saturateref12_equal.body [true, true, true, true])) (stOf 51 [(6, .ptr 6 0 0 0)] [(6, .own [.val (.int .u64 0), .val (.int .u64 0)])]) (retC Try.prog Try.f76.results saturateref12_equal.r.dec)
theorem saturateref12_equal.p7_eq (m fu : Nat) : saturateref12_equal.p7 (m + 1) fu =
  (saturateref12_Top.f).bind fun r6 =>
  some (r6.1, r6.2) := by kernel_rfl
noncomputable def saturateref12_equal.g (fu : Nat) (a0 : Int) (a1 : Int × Int) (a2 : Int × Int) : Option (Int × Int) :=
  (saturateref12_Single.f a0 (a1.1, a1.2)).bind fun r1 =>
  (saturateref12_Single.f a0 (a2.1, a2.2)).bind fun r2 =>
  bif ((Go.bits .and .u64 a1.1 a2.2) != 0) then
    (saturateref12_Const.f 1 0).bind fun r3 =>
    some (r3.1, r3.2)
  else
    bif ((Go.bits .and .u64 a1.2 a2.1) != 0) then
      (saturateref12_Const.f 1 0).bind fun r4 =>
      some (r4.1, r4.2)
    else
      bif r1.2 then
        bif r2.2 then
          bif (r1.1 == r2.1) then
            (saturateref12_Const.f 1 1).bind fun r5 =>
            some (r5.1, r5.2)
          else
            saturateref12_equal.p7 fu fu
        else
          saturateref12_equal.p7 fu fu
      else
        saturateref12_equal.p7 fu fu
noncomputable def saturateref12_equal.f (a0 : Int) (a1 : Int × Int) (a2 : Int × Int) : Option (Int × Int) := saturateref12_equal.g (fuel0 + 1) a0 a1 a2
theorem saturateref12_equal.eq (fu : Nat) (a : Int × (Int × Int) × (Int × Int) × Unit) : bodyK Try.prog saturateref12_equal.cs saturateref12_equal.live fu Try.f76 (saturateref12_equal.a.enc a) saturateref12_equal.r.dec = saturateref12_equal.g fu a.1 a.2.1 a.2.2.1 := by kernel_rfl
theorem saturateref12_equal.con : ∀ (a : Int × (Int × Int) × (Int × Int) × Unit) (r : Int × Int), saturateref12_equal.f a.1 a.2.1 a.2.2.1 = some r → Contract Try.prog 76 (saturateref12_equal.a.enc a) (saturateref12_equal.r.enc r) := Contract.of_body (F := fun (a : Int × (Int × Int) × (Int × Int) × Unit) => saturateref12_equal.f a.1 a.2.1 a.2.2.1) (fn := Try.f76) (cs := saturateref12_equal.cs) (live := saturateref12_equal.live) (fuel := fuel0 + 1) (by kernel_rfl) (by kernel_rfl) mixed (saturateref12_equal.eq (fuel0 + 1))
noncomputable def saturateref12_equal.c : Kn Try.prog := Kn.of 76 saturateref12_equal.a saturateref12_equal.r (fun a => saturateref12_equal.f a.1 a.2.1 a.2.2.1) saturateref12_equal.con

/-! ### saturateref01_divide: function 131 -/
def saturateref01_divide.a : ACods (Int × Int × Unit) := (.cons (.val (.int .u64)) (.cons (.val (.int .u64)) .nil))
def saturateref01_divide.r : RCod (Int × Int) := .val (.tup (.cons (.int .u64) (.one (.int .u64))))
noncomputable def saturateref01_divide.cs : List (Kn Try.prog) := [saturateref01_Bit.c]
def saturateref01_divide.live : Nat → Option Keep := liveOf [(7, ⟨[0, 1, 6, 7, 8], [], []⟩), (8, ⟨[0, 1, 6, 7, 8], [], []⟩)]
noncomputable def saturateref01_divide.body : Code := bodyOf Try.f131
noncomputable def saturateref01_divide.K (fu : Nat) : Code → St → (Ex → St → Option (Int × Int)) → Option (Int × Int) := codeK Try.prog saturateref01_divide.cs saturateref01_divide.live fu
noncomputable def saturateref01_divide.j3 (fu : Nat) (n3 : Nat) (x0 : Int) (x1 : Int) (x6 : Int) (x7 : Int) (x8 : Int) : Option (Int × Int) :=
  loopK (saturateref01_divide.K fu (sub saturateref01_divide.body [true, true, false, true, false, false])) (saturateref01_divide.live 7) n3 (stOf 39 [(0, .val (.int .u64 x0)), (1, .val (.int .u64 x1)), (6, .val (.int .u64 x6)), (7, .val (.int .u64 x7)), (8, .val (.int .i64 x8))] []) (blockC 0 (seqC fu (saturateref01_divide.live 20) (saturateref01_divide.K fu (sub saturateref01_divide.body [true, true, true])) (retC Try.prog Try.f131.results saturateref01_divide.r.dec)))
noncomputable def saturateref01_divide.p4 (m fu : Nat) (n3 : Nat) (x0 : Int) (x1 : Int) (x6 : Int) (x7 : Int) (x8 : Int) : Option (Int × Int) :=
  joinK m (saturateref01_divide.K fu (sub saturateref01_divide.body [true, true, false, true, false, false, true, true])) (stOf 39 [(0, .val (.int .u64 x0)), (1, .val (.int .u64 x1)), (6, .val (.int .u64 x6)), (7, .val (.int .u64 x7)), (8, .val (.int .i64 x8))] []) (roundC (saturateref01_divide.live 7) (loopK (saturateref01_divide.K fu (sub saturateref01_divide.body [true, true, false, true, false, false])) (saturateref01_divide.live 7) n3) (blockC 0 (seqC fu (saturateref01_divide.live 20) (saturateref01_divide.K fu (sub saturateref01_divide.body [true, true, true])) (retC Try.prog Try.f131.results saturateref01_divide.r.dec))))
theorem saturateref01_divide.p4_eq (m fu : Nat) (n3 : Nat) (x0 : Int) (x1 : Int) (x6 : Int) (x7 : Int) (x8 : Int) : saturateref01_divide.p4 (m + 1) fu n3 x0 x1 x6 x7 x8 =
  saturateref01_divide.j3 fu n3 x0 x1 x6 x7 (IntKind.i64.wrap (x8 - 1)) := by kernel_rfl
theorem saturateref01_divide.j3_succ (fu : Nat) (n3 : Nat) (x0 : Int) (x1 : Int) (x6 : Int) (x7 : Int) (x8 : Int) : saturateref01_divide.j3 fu (n3 + 1) x0 x1 x6 x7 x8 =
  bif (decide (x8 ≥ 0)) then
    (saturateref01_Bit.f x7 63).bind fun r1 =>
    (saturateref01_Bit.f x0 x8).bind fun r2 =>
    bif (r1 == 1) then
      bif decide ((IntKind.u64.wrap x8) < 0) then
        none
      else
        saturateref01_divide.p4 fu fu n3 x0 x1 (Go.bits .or .u64 x6 (shl .u64 1 (IntKind.u64.wrap x8))) (IntKind.u64.wrap ((IntKind.u64.wrap ((IntKind.u64.wrap (x7 * 2)) + r2)) - x1)) x8
    else
      bif (decide ((IntKind.u64.wrap ((IntKind.u64.wrap (x7 * 2)) + r2)) ≥ x1)) then
        bif decide ((IntKind.u64.wrap x8) < 0) then
          none
        else
          saturateref01_divide.p4 fu fu n3 x0 x1 (Go.bits .or .u64 x6 (shl .u64 1 (IntKind.u64.wrap x8))) (IntKind.u64.wrap ((IntKind.u64.wrap ((IntKind.u64.wrap (x7 * 2)) + r2)) - x1)) x8
      else
        saturateref01_divide.p4 fu fu n3 x0 x1 x6 (IntKind.u64.wrap ((IntKind.u64.wrap (x7 * 2)) + r2)) x8
  else
    some (x6, x7) := by kernel_rfl
noncomputable def saturateref01_divide.g (fu : Nat) (a0 : Int) (a1 : Int) : Option (Int × Int) :=
  saturateref01_divide.j3 fu fu a0 a1 0 0 63
noncomputable def saturateref01_divide.f (a0 : Int) (a1 : Int) : Option (Int × Int) := saturateref01_divide.g (fuel0 + 1) a0 a1
theorem saturateref01_divide.eq (fu : Nat) (a : Int × Int × Unit) : bodyK Try.prog saturateref01_divide.cs saturateref01_divide.live fu Try.f131 (saturateref01_divide.a.enc a) saturateref01_divide.r.dec = saturateref01_divide.g fu a.1 a.2.1 := by kernel_rfl
theorem saturateref01_divide.con : ∀ (a : Int × Int × Unit) (r : Int × Int), saturateref01_divide.f a.1 a.2.1 = some r → Contract Try.prog 131 (saturateref01_divide.a.enc a) (saturateref01_divide.r.enc r) := Contract.of_body (F := fun (a : Int × Int × Unit) => saturateref01_divide.f a.1 a.2.1) (fn := Try.f131) (cs := saturateref01_divide.cs) (live := saturateref01_divide.live) (fuel := fuel0 + 1) (by kernel_rfl) (by kernel_rfl) mixed (saturateref01_divide.eq (fuel0 + 1))
noncomputable def saturateref01_divide.c : Kn Try.prog := Kn.of 131 saturateref01_divide.a saturateref01_divide.r (fun a => saturateref01_divide.f a.1 a.2.1) saturateref01_divide.con

/-! ### saturateref01_Udiv: function 115 -/
def saturateref01_Udiv.a : ACods (Int × Int × Int × Unit) := (.cons (.val (.int .i64)) (.cons (.val (.int .u64)) (.cons (.val (.int .u64)) .nil)))
def saturateref01_Udiv.r : RCod (Int) := .val (.int .u64)
noncomputable def saturateref01_Udiv.cs : List (Kn Try.prog) := [saturateref01_Cut.c, saturateref01_Mask.c, saturateref01_divide.c]
def saturateref01_Udiv.live : Nat → Option Keep := liveOf []
noncomputable def saturateref01_Udiv.body : Code := bodyOf Try.f115
noncomputable def saturateref01_Udiv.K (fu : Nat) : Code → St → (Ex → St → Option (Int)) → Option (Int) := codeK Try.prog saturateref01_Udiv.cs saturateref01_Udiv.live fu
noncomputable def saturateref01_Udiv.f (a0 : Int) (a1 : Int) (a2 : Int) : Option (Int) :=
  (saturateref01_Cut.f a0 a2).bind fun r1 =>
  bif (r1 == 0) then
    (saturateref01_Mask.f a0).bind fun r2 =>
    some r2
  else
    (saturateref01_Cut.f a0 a1).bind fun r3 =>
    (saturateref01_Cut.f a0 a2).bind fun r4 =>
    (saturateref01_divide.f r3 r4).bind fun r5 =>
    some r5.1
theorem saturateref01_Udiv.eq (fu : Nat) (a : Int × Int × Int × Unit) : bodyK Try.prog saturateref01_Udiv.cs saturateref01_Udiv.live fu Try.f115 (saturateref01_Udiv.a.enc a) saturateref01_Udiv.r.dec = saturateref01_Udiv.f a.1 a.2.1 a.2.2.1 := by kernel_rfl
theorem saturateref01_Udiv.con : ∀ (a : Int × Int × Int × Unit) (r : Int), saturateref01_Udiv.f a.1 a.2.1 a.2.2.1 = some r → Contract Try.prog 115 (saturateref01_Udiv.a.enc a) (saturateref01_Udiv.r.enc r) := Contract.of_body (F := fun (a : Int × Int × Int × Unit) => saturateref01_Udiv.f a.1 a.2.1 a.2.2.1) (fn := Try.f115) (cs := saturateref01_Udiv.cs) (live := saturateref01_Udiv.live) (fuel := fuel0 + 1) (by kernel_rfl) (by kernel_rfl) mixed (saturateref01_Udiv.eq (fuel0 + 1))
noncomputable def saturateref01_Udiv.c : Kn Try.prog := Kn.of 115 saturateref01_Udiv.a saturateref01_Udiv.r (fun a => saturateref01_Udiv.f a.1 a.2.1 a.2.2.1) saturateref01_Udiv.con

/-! ### saturateref01_Urem: function 116 -/
def saturateref01_Urem.a : ACods (Int × Int × Int × Unit) := (.cons (.val (.int .i64)) (.cons (.val (.int .u64)) (.cons (.val (.int .u64)) .nil)))
def saturateref01_Urem.r : RCod (Int) := .val (.int .u64)
noncomputable def saturateref01_Urem.cs : List (Kn Try.prog) := [saturateref01_Cut.c, saturateref01_divide.c]
def saturateref01_Urem.live : Nat → Option Keep := liveOf []
noncomputable def saturateref01_Urem.body : Code := bodyOf Try.f116
noncomputable def saturateref01_Urem.K (fu : Nat) : Code → St → (Ex → St → Option (Int)) → Option (Int) := codeK Try.prog saturateref01_Urem.cs saturateref01_Urem.live fu
noncomputable def saturateref01_Urem.f (a0 : Int) (a1 : Int) (a2 : Int) : Option (Int) :=
  (saturateref01_Cut.f a0 a2).bind fun r1 =>
  bif (r1 == 0) then
    (saturateref01_Cut.f a0 a1).bind fun r2 =>
    some r2
  else
    (saturateref01_Cut.f a0 a1).bind fun r3 =>
    (saturateref01_Cut.f a0 a2).bind fun r4 =>
    (saturateref01_divide.f r3 r4).bind fun r5 =>
    some r5.2
theorem saturateref01_Urem.eq (fu : Nat) (a : Int × Int × Int × Unit) : bodyK Try.prog saturateref01_Urem.cs saturateref01_Urem.live fu Try.f116 (saturateref01_Urem.a.enc a) saturateref01_Urem.r.dec = saturateref01_Urem.f a.1 a.2.1 a.2.2.1 := by kernel_rfl
theorem saturateref01_Urem.con : ∀ (a : Int × Int × Int × Unit) (r : Int), saturateref01_Urem.f a.1 a.2.1 a.2.2.1 = some r → Contract Try.prog 116 (saturateref01_Urem.a.enc a) (saturateref01_Urem.r.enc r) := Contract.of_body (F := fun (a : Int × Int × Int × Unit) => saturateref01_Urem.f a.1 a.2.1 a.2.2.1) (fn := Try.f116) (cs := saturateref01_Urem.cs) (live := saturateref01_Urem.live) (fuel := fuel0 + 1) (by kernel_rfl) (by kernel_rfl) mixed (saturateref01_Urem.eq (fuel0 + 1))
noncomputable def saturateref01_Urem.c : Kn Try.prog := Kn.of 116 saturateref01_Urem.a saturateref01_Urem.r (fun a => saturateref01_Urem.f a.1 a.2.1 a.2.2.1) saturateref01_Urem.con

/-! ### saturateref01_truth: function 132 -/
def saturateref01_truth.a : ACods (Bool × Unit) := (.cons (.val (.bool)) .nil)
def saturateref01_truth.r : RCod (Int) := .val (.int .u64)
noncomputable def saturateref01_truth.cs : List (Kn Try.prog) := []
def saturateref01_truth.live : Nat → Option Keep := liveOf []
noncomputable def saturateref01_truth.body : Code := bodyOf Try.f132
noncomputable def saturateref01_truth.K (fu : Nat) : Code → St → (Ex → St → Option (Int)) → Option (Int) := codeK Try.prog saturateref01_truth.cs saturateref01_truth.live fu
noncomputable def saturateref01_truth.f (a0 : Bool) : Option (Int) :=
  bif a0 then
    some 1
  else
    some 0
theorem saturateref01_truth.eq (fu : Nat) (a : Bool × Unit) : bodyK Try.prog saturateref01_truth.cs saturateref01_truth.live fu Try.f132 (saturateref01_truth.a.enc a) saturateref01_truth.r.dec = saturateref01_truth.f a.1 := by kernel_rfl
theorem saturateref01_truth.con : ∀ (a : Bool × Unit) (r : Int), saturateref01_truth.f a.1 = some r → Contract Try.prog 132 (saturateref01_truth.a.enc a) (saturateref01_truth.r.enc r) := Contract.of_body (F := fun (a : Bool × Unit) => saturateref01_truth.f a.1) (fn := Try.f132) (cs := saturateref01_truth.cs) (live := saturateref01_truth.live) (fuel := fuel0 + 1) (by kernel_rfl) (by kernel_rfl) mixed (saturateref01_truth.eq (fuel0 + 1))
noncomputable def saturateref01_truth.c : Kn Try.prog := Kn.of 132 saturateref01_truth.a saturateref01_truth.r (fun a => saturateref01_truth.f a.1) saturateref01_truth.con

/-! ### saturateref01_Ult: function 117 -/
def saturateref01_Ult.a : ACods (Int × Int × Int × Unit) := (.cons (.val (.int .i64)) (.cons (.val (.int .u64)) (.cons (.val (.int .u64)) .nil)))
def saturateref01_Ult.r : RCod (Int) := .val (.int .u64)
noncomputable def saturateref01_Ult.cs : List (Kn Try.prog) := [saturateref01_Cut.c, saturateref01_truth.c]
def saturateref01_Ult.live : Nat → Option Keep := liveOf []
noncomputable def saturateref01_Ult.body : Code := bodyOf Try.f117
noncomputable def saturateref01_Ult.K (fu : Nat) : Code → St → (Ex → St → Option (Int)) → Option (Int) := codeK Try.prog saturateref01_Ult.cs saturateref01_Ult.live fu
noncomputable def saturateref01_Ult.f (a0 : Int) (a1 : Int) (a2 : Int) : Option (Int) :=
  (saturateref01_Cut.f a0 a1).bind fun r1 =>
  (saturateref01_Cut.f a0 a2).bind fun r2 =>
  (saturateref01_truth.f (decide (r1 < r2))).bind fun r3 =>
  some r3
theorem saturateref01_Ult.eq (fu : Nat) (a : Int × Int × Int × Unit) : bodyK Try.prog saturateref01_Ult.cs saturateref01_Ult.live fu Try.f117 (saturateref01_Ult.a.enc a) saturateref01_Ult.r.dec = saturateref01_Ult.f a.1 a.2.1 a.2.2.1 := by kernel_rfl
theorem saturateref01_Ult.con : ∀ (a : Int × Int × Int × Unit) (r : Int), saturateref01_Ult.f a.1 a.2.1 a.2.2.1 = some r → Contract Try.prog 117 (saturateref01_Ult.a.enc a) (saturateref01_Ult.r.enc r) := Contract.of_body (F := fun (a : Int × Int × Int × Unit) => saturateref01_Ult.f a.1 a.2.1 a.2.2.1) (fn := Try.f117) (cs := saturateref01_Ult.cs) (live := saturateref01_Ult.live) (fuel := fuel0 + 1) (by kernel_rfl) (by kernel_rfl) mixed (saturateref01_Ult.eq (fuel0 + 1))
noncomputable def saturateref01_Ult.c : Kn Try.prog := Kn.of 117 saturateref01_Ult.a saturateref01_Ult.r (fun a => saturateref01_Ult.f a.1 a.2.1 a.2.2.1) saturateref01_Ult.con

/-! ### saturateref01_Negative: function 136 -/
def saturateref01_Negative.a : ACods (Int × Int × Unit) := (.cons (.val (.int .i64)) (.cons (.val (.int .u64)) .nil))
def saturateref01_Negative.r : RCod (Bool) := .val (.bool)
noncomputable def saturateref01_Negative.cs : List (Kn Try.prog) := [saturateref01_W.c, saturateref01_Bit.c]
def saturateref01_Negative.live : Nat → Option Keep := liveOf []
noncomputable def saturateref01_Negative.body : Code := bodyOf Try.f136
noncomputable def saturateref01_Negative.K (fu : Nat) : Code → St → (Ex → St → Option (Bool)) → Option (Bool) := codeK Try.prog saturateref01_Negative.cs saturateref01_Negative.live fu
noncomputable def saturateref01_Negative.f (a0 : Int) (a1 : Int) : Option (Bool) :=
  (saturateref01_W.f a0).bind fun r1 =>
  (saturateref01_Bit.f a1 (IntKind.i64.wrap (r1 - 1))).bind fun r2 =>
  some (r2 == 1)
theorem saturateref01_Negative.eq (fu : Nat) (a : Int × Int × Unit) : bodyK Try.prog saturateref01_Negative.cs saturateref01_Negative.live fu Try.f136 (saturateref01_Negative.a.enc a) saturateref01_Negative.r.dec = saturateref01_Negative.f a.1 a.2.1 := by kernel_rfl
theorem saturateref01_Negative.con : ∀ (a : Int × Int × Unit) (r : Bool), saturateref01_Negative.f a.1 a.2.1 = some r → Contract Try.prog 136 (saturateref01_Negative.a.enc a) (saturateref01_Negative.r.enc r) := Contract.of_body (F := fun (a : Int × Int × Unit) => saturateref01_Negative.f a.1 a.2.1) (fn := Try.f136) (cs := saturateref01_Negative.cs) (live := saturateref01_Negative.live) (fuel := fuel0 + 1) (by kernel_rfl) (by kernel_rfl) mixed (saturateref01_Negative.eq (fuel0 + 1))
noncomputable def saturateref01_Negative.c : Kn Try.prog := Kn.of 136 saturateref01_Negative.a saturateref01_Negative.r (fun a => saturateref01_Negative.f a.1 a.2.1) saturateref01_Negative.con

/-! ### saturateref01_Signed: function 133 -/
def saturateref01_Signed.a : ACods (Int × Int × Unit) := (.cons (.val (.int .i64)) (.cons (.val (.int .u64)) .nil))
def saturateref01_Signed.r : RCod (Int) := .val (.int .i64)
noncomputable def saturateref01_Signed.cs : List (Kn Try.prog) := [saturateref01_Cut.c, saturateref01_Negative.c, saturateref01_Mask.c]
def saturateref01_Signed.live : Nat → Option Keep := liveOf []
noncomputable def saturateref01_Signed.body : Code := bodyOf Try.f133
noncomputable def saturateref01_Signed.K (fu : Nat) : Code → St → (Ex → St → Option (Int)) → Option (Int) := codeK Try.prog saturateref01_Signed.cs saturateref01_Signed.live fu
noncomputable def saturateref01_Signed.f (a0 : Int) (a1 : Int) : Option (Int) :=
  (saturateref01_Cut.f a0 a1).bind fun r1 =>
  (saturateref01_Negative.f a0 a1).bind fun r2 =>
  bif r2 then
    (saturateref01_Mask.f a0).bind fun r3 =>
    some (IntKind.i64.wrap ((IntKind.i64.wrap (0 - (IntKind.i64.wrap (IntKind.u64.wrap (r3 - r1))))) - 1))
  else
    some (IntKind.i64.wrap r1)
theorem saturateref01_Signed.eq (fu : Nat) (a : Int × Int × Unit) : bodyK Try.prog saturateref01_Signed.cs saturateref01_Signed.live fu Try.f133 (saturateref01_Signed.a.enc a) saturateref01_Signed.r.dec = saturateref01_Signed.f a.1 a.2.1 := by kernel_rfl
theorem saturateref01_Signed.con : ∀ (a : Int × Int × Unit) (r : Int), saturateref01_Signed.f a.1 a.2.1 = some r → Contract Try.prog 133 (saturateref01_Signed.a.enc a) (saturateref01_Signed.r.enc r) := Contract.of_body (F := fun (a : Int × Int × Unit) => saturateref01_Signed.f a.1 a.2.1) (fn := Try.f133) (cs := saturateref01_Signed.cs) (live := saturateref01_Signed.live) (fuel := fuel0 + 1) (by kernel_rfl) (by kernel_rfl) mixed (saturateref01_Signed.eq (fuel0 + 1))
noncomputable def saturateref01_Signed.c : Kn Try.prog := Kn.of 133 saturateref01_Signed.a saturateref01_Signed.r (fun a => saturateref01_Signed.f a.1 a.2.1) saturateref01_Signed.con

/-! ### saturateref01_Slt: function 118 -/
def saturateref01_Slt.a : ACods (Int × Int × Int × Unit) := (.cons (.val (.int .i64)) (.cons (.val (.int .u64)) (.cons (.val (.int .u64)) .nil)))
def saturateref01_Slt.r : RCod (Int) := .val (.int .u64)
noncomputable def saturateref01_Slt.cs : List (Kn Try.prog) := [saturateref01_Signed.c, saturateref01_truth.c]
def saturateref01_Slt.live : Nat → Option Keep := liveOf []
noncomputable def saturateref01_Slt.body : Code := bodyOf Try.f118
noncomputable def saturateref01_Slt.K (fu : Nat) : Code → St → (Ex → St → Option (Int)) → Option (Int) := codeK Try.prog saturateref01_Slt.cs saturateref01_Slt.live fu
noncomputable def saturateref01_Slt.f (a0 : Int) (a1 : Int) (a2 : Int) : Option (Int) :=
  (saturateref01_Signed.f a0 a1).bind fun r1 =>
  (saturateref01_Signed.f a0 a2).bind fun r2 =>
  (saturateref01_truth.f (decide (r1 < r2))).bind fun r3 =>
  some r3
theorem saturateref01_Slt.eq (fu : Nat) (a : Int × Int × Int × Unit) : bodyK Try.prog saturateref01_Slt.cs saturateref01_Slt.live fu Try.f118 (saturateref01_Slt.a.enc a) saturateref01_Slt.r.dec = saturateref01_Slt.f a.1 a.2.1 a.2.2.1 := by kernel_rfl
theorem saturateref01_Slt.con : ∀ (a : Int × Int × Int × Unit) (r : Int), saturateref01_Slt.f a.1 a.2.1 a.2.2.1 = some r → Contract Try.prog 118 (saturateref01_Slt.a.enc a) (saturateref01_Slt.r.enc r) := Contract.of_body (F := fun (a : Int × Int × Int × Unit) => saturateref01_Slt.f a.1 a.2.1 a.2.2.1) (fn := Try.f118) (cs := saturateref01_Slt.cs) (live := saturateref01_Slt.live) (fuel := fuel0 + 1) (by kernel_rfl) (by kernel_rfl) mixed (saturateref01_Slt.eq (fuel0 + 1))
noncomputable def saturateref01_Slt.c : Kn Try.prog := Kn.of 118 saturateref01_Slt.a saturateref01_Slt.r (fun a => saturateref01_Slt.f a.1 a.2.1 a.2.2.1) saturateref01_Slt.con

/-! ### saturateref12_value: function 106 -/
def saturateref12_value.a : ACods (Int × Int × Int × Int × Unit) := (.cons (.val (.int .i64)) (.cons (.val (.int .i64)) (.cons (.val (.int .u64)) (.cons (.val (.int .u64)) .nil))))
def saturateref12_value.r : RCod (Int) := .val (.int .u64)
noncomputable def saturateref12_value.cs : List (Kn Try.prog) := [saturateref01_Udiv.c, saturateref01_Urem.c, saturateref01_Ult.c, saturateref01_Slt.c]
def saturateref12_value.live : Nat → Option Keep := liveOf []
noncomputable def saturateref12_value.body : Code := bodyOf Try.f106
noncomputable def saturateref12_value.K (fu : Nat) : Code → St → (Ex → St → Option (Int)) → Option (Int) := codeK Try.prog saturateref12_value.cs saturateref12_value.live fu
noncomputable def saturateref12_value.f (a0 : Int) (a1 : Int) (a2 : Int) (a3 : Int) : Option (Int) :=
  bif (a0 == 11) then
    (saturateref01_Udiv.f a1 a2 a3).bind fun r1 =>
    some r1
  else
    bif (a0 == 12) then
      (saturateref01_Urem.f a1 a2 a3).bind fun r2 =>
      some r2
    else
      bif (a0 == 17) then
        (saturateref01_Ult.f a1 a2 a3).bind fun r3 =>
        some r3
      else
        (saturateref01_Slt.f a1 a2 a3).bind fun r4 =>
        some r4
theorem saturateref12_value.eq (fu : Nat) (a : Int × Int × Int × Int × Unit) : bodyK Try.prog saturateref12_value.cs saturateref12_value.live fu Try.f106 (saturateref12_value.a.enc a) saturateref12_value.r.dec = saturateref12_value.f a.1 a.2.1 a.2.2.1 a.2.2.2.1 := by kernel_rfl
theorem saturateref12_value.con : ∀ (a : Int × Int × Int × Int × Unit) (r : Int), saturateref12_value.f a.1 a.2.1 a.2.2.1 a.2.2.2.1 = some r → Contract Try.prog 106 (saturateref12_value.a.enc a) (saturateref12_value.r.enc r) := Contract.of_body (F := fun (a : Int × Int × Int × Int × Unit) => saturateref12_value.f a.1 a.2.1 a.2.2.1 a.2.2.2.1) (fn := Try.f106) (cs := saturateref12_value.cs) (live := saturateref12_value.live) (fuel := fuel0 + 1) (by kernel_rfl) (by kernel_rfl) mixed (saturateref12_value.eq (fuel0 + 1))
noncomputable def saturateref12_value.c : Kn Try.prog := Kn.of 106 saturateref12_value.a saturateref12_value.r (fun a => saturateref12_value.f a.1 a.2.1 a.2.2.1 a.2.2.2.1) saturateref12_value.con

/-! ### saturateref01_Count: function 50 -/
def saturateref01_Count.a : ACods (Int × Unit) := (.cons (.val (.int .u64)) .nil)
def saturateref01_Count.r : RCod (Int) := .val (.int .i64)
noncomputable def saturateref01_Count.cs : List (Kn Try.prog) := [saturateref01_Bit.c]
def saturateref01_Count.live : Nat → Option Keep := liveOf [(7, ⟨[0, 3, 5], [], []⟩)]
noncomputable def saturateref01_Count.body : Code := bodyOf Try.f50
noncomputable def saturateref01_Count.K (fu : Nat) : Code → St → (Ex → St → Option (Int)) → Option (Int) := codeK Try.prog saturateref01_Count.cs saturateref01_Count.live fu
noncomputable def saturateref01_Count.j3 (fu : Nat) (n3 : Nat) (x0 : Int) (x3 : Int) (x5 : Int) : Option Int :=
  loopK (saturateref01_Count.K fu (sub saturateref01_Count.body [true, true, false, true, false, false])) (saturateref01_Count.live 7) n3 (stOf 16 [(0, .val (.int .u64 x0)), (3, .val (.int .i64 x3)), (5, .val (.int .i64 x5))] []) (blockC 0 (seqC fu (saturateref01_Count.live 14) (saturateref01_Count.K fu (sub saturateref01_Count.body [true, true, true])) (retC Try.prog Try.f50.results saturateref01_Count.r.dec)))
theorem saturateref01_Count.j3_succ (fu : Nat) (n3 : Nat) (x0 : Int) (x3 : Int) (x5 : Int) : saturateref01_Count.j3 fu (n3 + 1) x0 x3 x5 =
  bif (decide (x5 < 64)) then
    (saturateref01_Bit.f x0 x5).bind fun r1 =>
    saturateref01_Count.j3 fu n3 x0 (IntKind.i64.wrap (x3 + (IntKind.i64.wrap r1))) (IntKind.i64.wrap (x5 + 1))
  else
    some x3 := by kernel_rfl
noncomputable def saturateref01_Count.g (fu : Nat) (a0 : Int) : Option (Int) :=
  saturateref01_Count.j3 fu fu a0 0 0
noncomputable def saturateref01_Count.f (a0 : Int) : Option (Int) := saturateref01_Count.g (fuel0 + 1) a0
theorem saturateref01_Count.eq (fu : Nat) (a : Int × Unit) : bodyK Try.prog saturateref01_Count.cs saturateref01_Count.live fu Try.f50 (saturateref01_Count.a.enc a) saturateref01_Count.r.dec = saturateref01_Count.g fu a.1 := by kernel_rfl
theorem saturateref01_Count.con : ∀ (a : Int × Unit) (r : Int), saturateref01_Count.f a.1 = some r → Contract Try.prog 50 (saturateref01_Count.a.enc a) (saturateref01_Count.r.enc r) := Contract.of_body (F := fun (a : Int × Unit) => saturateref01_Count.f a.1) (fn := Try.f50) (cs := saturateref01_Count.cs) (live := saturateref01_Count.live) (fuel := fuel0 + 1) (by kernel_rfl) (by kernel_rfl) mixed (saturateref01_Count.eq (fuel0 + 1))
noncomputable def saturateref01_Count.c : Kn Try.prog := Kn.of 50 saturateref01_Count.a saturateref01_Count.r (fun a => saturateref01_Count.f a.1) saturateref01_Count.con

/-! ### saturateref01_Lowest: function 107 -/
def saturateref01_Lowest.a : ACods (Int × Unit) := (.cons (.val (.int .u64)) .nil)
def saturateref01_Lowest.r : RCod (Int) := .val (.int .i64)
noncomputable def saturateref01_Lowest.cs : List (Kn Try.prog) := [saturateref01_Bit.c]
def saturateref01_Lowest.live : Nat → Option Keep := liveOf [(5, ⟨[0, 4], [], []⟩)]
noncomputable def saturateref01_Lowest.body : Code := bodyOf Try.f107
noncomputable def saturateref01_Lowest.K (fu : Nat) : Code → St → (Ex → St → Option (Int)) → Option (Int) := codeK Try.prog saturateref01_Lowest.cs saturateref01_Lowest.live fu
noncomputable def saturateref01_Lowest.j2 (fu : Nat) (n2 : Nat) (x0 : Int) (x4 : Int) : Option Int :=
  loopK (saturateref01_Lowest.K fu (sub saturateref01_Lowest.body [true, false, true, false, false])) (saturateref01_Lowest.live 5) n2 (stOf 13 [(0, .val (.int .u64 x0)), (4, .val (.int .i64 x4))] []) (blockC 0 (seqC fu (saturateref01_Lowest.live 14) (saturateref01_Lowest.K fu (sub saturateref01_Lowest.body [true, true])) (retC Try.prog Try.f107.results saturateref01_Lowest.r.dec)))
theorem saturateref01_Lowest.j2_succ (fu : Nat) (n2 : Nat) (x0 : Int) (x4 : Int) : saturateref01_Lowest.j2 fu (n2 + 1) x0 x4 =
  bif (decide (x4 < 64)) then
    (saturateref01_Bit.f x0 x4).bind fun r1 =>
    bif (r1 == 1) then
      some x4
    else
      saturateref01_Lowest.j2 fu n2 x0 (IntKind.i64.wrap (x4 + 1))
  else
    some (-1) := by kernel_rfl
noncomputable def saturateref01_Lowest.g (fu : Nat) (a0 : Int) : Option (Int) :=
  saturateref01_Lowest.j2 fu fu a0 0
noncomputable def saturateref01_Lowest.f (a0 : Int) : Option (Int) := saturateref01_Lowest.g (fuel0 + 1) a0
theorem saturateref01_Lowest.eq (fu : Nat) (a : Int × Unit) : bodyK Try.prog saturateref01_Lowest.cs saturateref01_Lowest.live fu Try.f107 (saturateref01_Lowest.a.enc a) saturateref01_Lowest.r.dec = saturateref01_Lowest.g fu a.1 := by kernel_rfl
theorem saturateref01_Lowest.con : ∀ (a : Int × Unit) (r : Int), saturateref01_Lowest.f a.1 = some r → Contract Try.prog 107 (saturateref01_Lowest.a.enc a) (saturateref01_Lowest.r.enc r) := Contract.of_body (F := fun (a : Int × Unit) => saturateref01_Lowest.f a.1) (fn := Try.f107) (cs := saturateref01_Lowest.cs) (live := saturateref01_Lowest.live) (fuel := fuel0 + 1) (by kernel_rfl) (by kernel_rfl) mixed (saturateref01_Lowest.eq (fuel0 + 1))
noncomputable def saturateref01_Lowest.c : Kn Try.prog := Kn.of 107 saturateref01_Lowest.a saturateref01_Lowest.r (fun a => saturateref01_Lowest.f a.1) saturateref01_Lowest.con
end Go.Proofs.Ytbfniopkadaheaa.Fn
