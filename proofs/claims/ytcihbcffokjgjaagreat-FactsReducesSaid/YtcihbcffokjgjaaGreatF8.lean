/- What the functions return, as the evaluator tells it: written by a program of this workplace (mev.py); Lean checks each equation. -/
import Derived.Test.YtcihbcffokjgjaaGreatProg
import Derived.Test.YtcihbcffokjgjaaGreatEvC
import Derived.Test.YtcihbcffokjgjaaGreatF0
import Derived.Test.YtcihbcffokjgjaaGreatF2
import Derived.Test.YtcihbcffokjgjaaGreatF3
import Derived.Test.YtcihbcffokjgjaaGreatF4
import Derived.Test.YtcihbcffokjgjaaGreatF6
import Derived.Test.YtcihbcffokjgjaaGreatF7
namespace Go.Proofs.YtcihbcffokjgjaaGreat.Fn
open Go Go.RowKit Go.Proofs.YtcihbcffokjgjaaGreat.Ev Go.Proofs
set_option linter.unusedVariables false
set_option maxRecDepth 100000
/-! ### saturateref01_Cut: function 75 -/
def saturateref01_Cut.a : ACods (Int × Int × Unit) := (.cons (.val (.int .i64)) (.cons (.val (.int .u64)) .nil))
def saturateref01_Cut.r : RCod (Int) := .val (.int .u64)
noncomputable def saturateref01_Cut.cs : List (Kn Tryz.prog) := [saturateref01_W.c, saturateref01_Bit.c]
def saturateref01_Cut.live : Nat → Option Keep := liveOf [(7, ⟨[1, 5, 8, 9], [], [], [], []⟩)]
noncomputable def saturateref01_Cut.body : Code := bodyOf Tryz.f75
noncomputable def saturateref01_Cut.K (fu : Nat) : Code → St → (Ex → St → Option (Int)) → Option (Int) := codeK Tryz.prog (saturateref01_Cut.cs) saturateref01_Cut.live fu
noncomputable def saturateref01_Cut.j3 (fu : Nat) (n3 : Nat) (x1 : Int) (x5 : Int) (x8 : Int) (x9 : Int) : Option Int :=
  loopK (saturateref01_Cut.K fu (sub saturateref01_Cut.body [true, true, false, true, false, false])) (saturateref01_Cut.live 7) n3 (stOf 22 [(1, .val (.int .u64 x1)), (5, .val (.int .u64 x5)), (8, .val (.int .i64 x8)), (9, .val (.int .i64 x9))] []) (blockC 0 (seqC fu (saturateref01_Cut.live 14) (saturateref01_Cut.K fu (sub saturateref01_Cut.body [true, true, true])) (retC Tryz.prog Tryz.f75.results saturateref01_Cut.r.dec)))
theorem saturateref01_Cut.j3_succ (fu : Nat) (n3 : Nat) (x1 : Int) (x5 : Int) (x8 : Int) (x9 : Int) : saturateref01_Cut.j3 fu (n3 + 1) x1 x5 x8 x9 =
  bif (decide (x9 < x8)) then
    (saturateref01_Bit.f x1 x9).bind fun r2 =>
    bif decide ((IntKind.u64.wrap x9) < 0) then
      none
    else
      saturateref01_Cut.j3 fu n3 x1 (Go.bits .or .u64 x5 (shl .u64 r2 (IntKind.u64.wrap x9))) x8 (IntKind.i64.wrap (x9 + 1))
  else
    some x5 := by kernel_rfl
noncomputable def saturateref01_Cut.g (fu : Nat) (a0 : Int) (a1 : Int) : Option (Int) :=
  (saturateref01_W.f a0).bind fun r1 =>
  saturateref01_Cut.j3 fu fu a1 0 r1 0
noncomputable def saturateref01_Cut.f (a0 : Int) (a1 : Int) : Option (Int) := saturateref01_Cut.g (fuel0 + 1) a0 a1
theorem saturateref01_Cut.eq (fu : Nat) (a : Int × Int × Unit) : bodyK Tryz.prog saturateref01_Cut.cs saturateref01_Cut.live fu Tryz.f75 (saturateref01_Cut.a.enc a) saturateref01_Cut.r.dec = saturateref01_Cut.g fu a.1 a.2.1 := by kernel_rfl
theorem saturateref01_Cut.con : ∀ (a : Int × Int × Unit) (r : Int), saturateref01_Cut.f a.1 a.2.1 = some r → Contract Tryz.prog 75 (saturateref01_Cut.a.enc a) (saturateref01_Cut.r.enc r) := Contract.of_body (F := fun (a : Int × Int × Unit) => saturateref01_Cut.f a.1 a.2.1) (fn := Tryz.f75) (cs := saturateref01_Cut.cs) (live := saturateref01_Cut.live) (fuel := fuel0 + 1) (by kernel_rfl) (by kernel_rfl) mixed (saturateref01_Cut.eq (fuel0 + 1))
noncomputable def saturateref01_Cut.c : Kn Tryz.prog := Kn.of 75 saturateref01_Cut.a saturateref01_Cut.r (fun a => saturateref01_Cut.f a.1 a.2.1) saturateref01_Cut.con

/-! ### saturateref12_Has: function 28 -/
def saturateref12_Has.a : ACods (Int × (Int × Int) × Int × Unit) := (.cons (.val (.int .i64)) (.cons (.val (.agg (.cons (.int .u64) (.one (.int .u64))))) (.cons (.val (.int .u64)) .nil)))
def saturateref12_Has.r : RCod (Bool) := .val (.bool)
noncomputable def saturateref12_Has.cs : List (Kn Tryz.prog) := [saturateref12_Of.c, saturateref01_Cut.c]
def saturateref12_Has.live : Nat → Option Keep := liveOf []
noncomputable def saturateref12_Has.body : Code := bodyOf Tryz.f28
noncomputable def saturateref12_Has.K (fu : Nat) : Code → St → (Ex → St → Option (Bool)) → Option (Bool) := codeK Tryz.prog (saturateref12_Has.cs) saturateref12_Has.live fu
noncomputable def saturateref12_Has.f (a0 : Int) (a1 : Int × Int) (a2 : Int) : Option (Bool) :=
  (saturateref12_Of.f a0 (a1.1, a1.2)).bind fun r1 =>
  (saturateref01_Cut.f a0 a2).bind fun r2 =>
  bif ((Go.bits .and .u64 r2 r1.1) == 0) then
    some ((Go.bits .and .u64 r2 r1.2) == r1.2)
  else
    some false
theorem saturateref12_Has.eq (fu : Nat) (a : Int × (Int × Int) × Int × Unit) : bodyK Tryz.prog saturateref12_Has.cs saturateref12_Has.live fu Tryz.f28 (saturateref12_Has.a.enc a) saturateref12_Has.r.dec = saturateref12_Has.f a.1 a.2.1 a.2.2.1 := by kernel_rfl
theorem saturateref12_Has.con : ∀ (a : Int × (Int × Int) × Int × Unit) (r : Bool), saturateref12_Has.f a.1 a.2.1 a.2.2.1 = some r → Contract Tryz.prog 28 (saturateref12_Has.a.enc a) (saturateref12_Has.r.enc r) := Contract.of_body (F := fun (a : Int × (Int × Int) × Int × Unit) => saturateref12_Has.f a.1 a.2.1 a.2.2.1) (fn := Tryz.f28) (cs := saturateref12_Has.cs) (live := saturateref12_Has.live) (fuel := fuel0 + 1) (by kernel_rfl) (by kernel_rfl) mixed (saturateref12_Has.eq (fuel0 + 1))
noncomputable def saturateref12_Has.c : Kn Tryz.prog := Kn.of 28 saturateref12_Has.a saturateref12_Has.r (fun a => saturateref12_Has.f a.1 a.2.1 a.2.2.1) saturateref12_Has.con

/-! ### saturateref13_Has: function 29 -/
def saturateref13_Has.a : ACods (Int × (Int × Int) × Int × Unit) := (.cons (.val (.int .i64)) (.cons (.val (.agg (.cons (.int .u64) (.one (.int .u64))))) (.cons (.val (.int .u64)) .nil)))
def saturateref13_Has.r : RCod (Bool) := .val (.bool)
noncomputable def saturateref13_Has.cs : List (Kn Tryz.prog) := [saturateref13_Of.c, saturateref01_Cut.c]
def saturateref13_Has.live : Nat → Option Keep := liveOf []
noncomputable def saturateref13_Has.body : Code := bodyOf Tryz.f29
noncomputable def saturateref13_Has.K (fu : Nat) : Code → St → (Ex → St → Option (Bool)) → Option (Bool) := codeK Tryz.prog (saturateref13_Has.cs) saturateref13_Has.live fu
noncomputable def saturateref13_Has.f (a0 : Int) (a1 : Int × Int) (a2 : Int) : Option (Bool) :=
  (saturateref13_Of.f a0 (a1.1, a1.2)).bind fun r1 =>
  (saturateref01_Cut.f a0 a2).bind fun r2 =>
  bif (decide (r1.1 ≤ r2)) then
    some (decide (r2 ≤ r1.2))
  else
    some false
theorem saturateref13_Has.eq (fu : Nat) (a : Int × (Int × Int) × Int × Unit) : bodyK Tryz.prog saturateref13_Has.cs saturateref13_Has.live fu Tryz.f29 (saturateref13_Has.a.enc a) saturateref13_Has.r.dec = saturateref13_Has.f a.1 a.2.1 a.2.2.1 := by kernel_rfl
theorem saturateref13_Has.con : ∀ (a : Int × (Int × Int) × Int × Unit) (r : Bool), saturateref13_Has.f a.1 a.2.1 a.2.2.1 = some r → Contract Tryz.prog 29 (saturateref13_Has.a.enc a) (saturateref13_Has.r.enc r) := Contract.of_body (F := fun (a : Int × (Int × Int) × Int × Unit) => saturateref13_Has.f a.1 a.2.1 a.2.2.1) (fn := Tryz.f29) (cs := saturateref13_Has.cs) (live := saturateref13_Has.live) (fuel := fuel0 + 1) (by kernel_rfl) (by kernel_rfl) mixed (saturateref13_Has.eq (fuel0 + 1))
noncomputable def saturateref13_Has.c : Kn Tryz.prog := Kn.of 29 saturateref13_Has.a saturateref13_Has.r (fun a => saturateref13_Has.f a.1 a.2.1 a.2.2.1) saturateref13_Has.con

/-! ### saturateref14_Has: function 21 -/
def saturateref14_Has.a : ACods ((Int × Int × Int × Int × Int) × Int × Unit) := (.cons (.val (.agg (.cons (.int .i64) (.cons (.int .u64) (.cons (.int .u64) (.cons (.int .u64) (.one (.int .u64)))))))) (.cons (.val (.int .u64)) .nil))
def saturateref14_Has.r : RCod (Bool) := .val (.bool)
noncomputable def saturateref14_Has.cs : List (Kn Tryz.prog) := [saturateref14_Norm.c, saturateref12_Has.c, saturateref13_Has.c]
def saturateref14_Has.live : Nat → Option Keep := liveOf []
noncomputable def saturateref14_Has.body : Code := bodyOf Tryz.f21
noncomputable def saturateref14_Has.K (fu : Nat) : Code → St → (Ex → St → Option (Bool)) → Option (Bool) := codeK Tryz.prog (saturateref14_Has.cs) saturateref14_Has.live fu
noncomputable def saturateref14_Has.f (a0 : Int × Int × Int × Int × Int) (a1 : Int) : Option (Bool) :=
  (saturateref14_Norm.f (a0.1, a0.2.1, a0.2.2.1, a0.2.2.2.1, a0.2.2.2.2)).bind fun r1 =>
  (saturateref12_Has.f r1.1 (r1.2.1, r1.2.2.1) a1).bind fun r2 =>
  bif r2 then
    (saturateref13_Has.f r1.1 (r1.2.2.2.1, r1.2.2.2.2) a1).bind fun r3 =>
    some r3
  else
    some false
theorem saturateref14_Has.eq (fu : Nat) (a : (Int × Int × Int × Int × Int) × Int × Unit) : bodyK Tryz.prog saturateref14_Has.cs saturateref14_Has.live fu Tryz.f21 (saturateref14_Has.a.enc a) saturateref14_Has.r.dec = saturateref14_Has.f a.1 a.2.1 := by kernel_rfl
theorem saturateref14_Has.con : ∀ (a : (Int × Int × Int × Int × Int) × Int × Unit) (r : Bool), saturateref14_Has.f a.1 a.2.1 = some r → Contract Tryz.prog 21 (saturateref14_Has.a.enc a) (saturateref14_Has.r.enc r) := Contract.of_body (F := fun (a : (Int × Int × Int × Int × Int) × Int × Unit) => saturateref14_Has.f a.1 a.2.1) (fn := Tryz.f21) (cs := saturateref14_Has.cs) (live := saturateref14_Has.live) (fuel := fuel0 + 1) (by kernel_rfl) (by kernel_rfl) mixed (saturateref14_Has.eq (fuel0 + 1))
noncomputable def saturateref14_Has.c : Kn Tryz.prog := Kn.of 21 saturateref14_Has.a saturateref14_Has.r (fun a => saturateref14_Has.f a.1 a.2.1) saturateref14_Has.con

/-! ### saturatelaw14_FactsReduces: function 8 -/
def saturatelaw14_FactsReduces.a : ACods ((Int × Int × Int × Int × Int) × (Int × Int × Int × Int × Int) × Int × Unit) := (.cons (.val (.agg (.cons (.int .i64) (.cons (.int .u64) (.cons (.int .u64) (.cons (.int .u64) (.one (.int .u64)))))))) (.cons (.val (.agg (.cons (.int .i64) (.cons (.int .u64) (.cons (.int .u64) (.cons (.int .u64) (.one (.int .u64)))))))) (.cons (.val (.int .u64)) .nil)))
def saturatelaw14_FactsReduces.r : RCod (Bool) := .val (.bool)
noncomputable def saturatelaw14_FactsReduces.cs (v_saturatelaw14_lives : Unit → Option (Bool)) (h_saturatelaw14_lives : Con Tryz.prog 9 saturatelaw14_lives.a saturatelaw14_lives.r v_saturatelaw14_lives) : List (Kn Tryz.prog) := [saturateref01_W.c, facts_Reduce.c, facts_Valid.c, saturateref12_Has.c, saturateref13_Has.c, facts_Has.c, facts_Meet.c, saturateref14_Has.c, Kn.of 9 saturatelaw14_lives.a saturatelaw14_lives.r v_saturatelaw14_lives h_saturatelaw14_lives.c]
def saturatelaw14_FactsReduces.live : Nat → Option Keep := liveOf [(16, ⟨[2, 3, 4], [3, 4], [], [], []⟩), (22, ⟨[12], [12], [], [], []⟩)]
noncomputable def saturatelaw14_FactsReduces.body : Code := bodyOf Tryz.f8
noncomputable def saturatelaw14_FactsReduces.K (v_saturatelaw14_lives : Unit → Option (Bool)) (h_saturatelaw14_lives : Con Tryz.prog 9 saturatelaw14_lives.a saturatelaw14_lives.r v_saturatelaw14_lives) (fu : Nat) : Code → St → (Ex → St → Option (Bool)) → Option (Bool) := codeK Tryz.prog (saturatelaw14_FactsReduces.cs v_saturatelaw14_lives h_saturatelaw14_lives) saturatelaw14_FactsReduces.live fu
noncomputable def saturatelaw14_FactsReduces.p8 (v_saturatelaw14_lives : Unit → Option (Bool)) (h_saturatelaw14_lives : Con Tryz.prog 9 saturatelaw14_lives.a saturatelaw14_lives.r v_saturatelaw14_lives) (m fu : Nat) (x2 : Int) (c3_0 : Int) (c3_1 : Int) (c3_2 : Int) (c3_3 : Int) (c3_4 : Int) (c4_0 : Int) (c4_1 : Int) (c4_2 : Int) (c4_3 : Int) (c4_4 : Int) : Option Bool :=
  joinK m (saturatelaw14_FactsReduces.K v_saturatelaw14_lives h_saturatelaw14_lives fu (sub saturatelaw14_FactsReduces.body [true, true, true, true, true, true])) (stOf 103 [(2, .val (.int .u64 x2)), (3, .ptr 3 0 0 0), (4, .ptr 4 0 0 0)] [(3, .own [.val (.int .i64 c3_0), .val (.int .u64 c3_1), .val (.int .u64 c3_2), .val (.int .u64 c3_3), .val (.int .u64 c3_4)]), (4, .own [.val (.int .i64 c4_0), .val (.int .u64 c4_1), .val (.int .u64 c4_2), .val (.int .u64 c4_3), .val (.int .u64 c4_4)])]) (retC Tryz.prog Tryz.f8.results saturatelaw14_FactsReduces.r.dec)
noncomputable def saturatelaw14_FactsReduces.p11 (v_saturatelaw14_lives : Unit → Option (Bool)) (h_saturatelaw14_lives : Con Tryz.prog 9 saturatelaw14_lives.a saturatelaw14_lives.r v_saturatelaw14_lives) (m fu : Nat) (c12_0 : Int) (c12_1 : Int) (c12_2 : Int) (c12_3 : Int) (c12_4 : Int) : Option Bool :=
  joinK m (saturatelaw14_FactsReduces.K v_saturatelaw14_lives h_saturatelaw14_lives fu (sub saturatelaw14_FactsReduces.body [true, true, true, true, true, true, true, true])) (stOf 103 [(12, .ptr 12 0 0 0)] [(12, .own [.val (.int .i64 c12_0), .val (.int .u64 c12_1), .val (.int .u64 c12_2), .val (.int .u64 c12_3), .val (.int .u64 c12_4)])]) (retC Tryz.prog Tryz.f8.results saturatelaw14_FactsReduces.r.dec)
theorem saturatelaw14_FactsReduces.p11_eq (v_saturatelaw14_lives : Unit → Option (Bool)) (h_saturatelaw14_lives : Con Tryz.prog 9 saturatelaw14_lives.a saturatelaw14_lives.r v_saturatelaw14_lives) (m fu : Nat) (c12_0 : Int) (c12_1 : Int) (c12_2 : Int) (c12_3 : Int) (c12_4 : Int) : saturatelaw14_FactsReduces.p11 v_saturatelaw14_lives h_saturatelaw14_lives (m + 1) fu c12_0 c12_1 c12_2 c12_3 c12_4 =
  (facts_Valid.f (c12_0, c12_1, c12_2, c12_3, c12_4)).bind fun r12 =>
  bif r12 then
    (v_saturatelaw14_lives ()).bind fun r13 =>
    some r13
  else
    some false := by kernel_rfl
theorem saturatelaw14_FactsReduces.p8_eq (v_saturatelaw14_lives : Unit → Option (Bool)) (h_saturatelaw14_lives : Con Tryz.prog 9 saturatelaw14_lives.a saturatelaw14_lives.r v_saturatelaw14_lives) (m fu : Nat) (x2 : Int) (c3_0 : Int) (c3_1 : Int) (c3_2 : Int) (c3_3 : Int) (c3_4 : Int) (c4_0 : Int) (c4_1 : Int) (c4_2 : Int) (c4_3 : Int) (c4_4 : Int) : saturatelaw14_FactsReduces.p8 v_saturatelaw14_lives h_saturatelaw14_lives (m + 1) fu x2 c3_0 c3_1 c3_2 c3_3 c3_4 c4_0 c4_1 c4_2 c4_3 c4_4 =
  (facts_Meet.f (c3_0, c3_1, c3_2, c3_3, c3_4) (c4_0, c4_1, c4_2, c4_3, c4_4)).bind fun r8 =>
  bif (c3_0 == c4_0) then
    (saturateref14_Has.f (c3_0, c3_1, c3_2, c3_3, c3_4) x2).bind fun r9 =>
    bif r9 then
      (saturateref14_Has.f (c4_0, c4_1, c4_2, c4_3, c4_4) x2).bind fun r10 =>
      bif r10 then
        bif (!r8.2) then
          some false
        else
          (facts_Has.f (r8.1.1, r8.1.2.1, r8.1.2.2.1, r8.1.2.2.2.1, r8.1.2.2.2.2) x2).bind fun r11 =>
          bif (!r11) then
            some false
          else
            saturatelaw14_FactsReduces.p11 v_saturatelaw14_lives h_saturatelaw14_lives fu fu r8.1.1 r8.1.2.1 r8.1.2.2.1 r8.1.2.2.2.1 r8.1.2.2.2.2
      else
        saturatelaw14_FactsReduces.p11 v_saturatelaw14_lives h_saturatelaw14_lives fu fu r8.1.1 r8.1.2.1 r8.1.2.2.1 r8.1.2.2.2.1 r8.1.2.2.2.2
    else
      saturatelaw14_FactsReduces.p11 v_saturatelaw14_lives h_saturatelaw14_lives fu fu r8.1.1 r8.1.2.1 r8.1.2.2.1 r8.1.2.2.2.1 r8.1.2.2.2.2
  else
    saturatelaw14_FactsReduces.p11 v_saturatelaw14_lives h_saturatelaw14_lives fu fu r8.1.1 r8.1.2.1 r8.1.2.2.1 r8.1.2.2.2.1 r8.1.2.2.2.2 := by kernel_rfl
noncomputable def saturatelaw14_FactsReduces.gv (v_saturatelaw14_lives : Unit → Option (Bool)) (h_saturatelaw14_lives : Con Tryz.prog 9 saturatelaw14_lives.a saturatelaw14_lives.r v_saturatelaw14_lives) (fu : Nat) (a0 : Int × Int × Int × Int × Int) (a1 : Int × Int × Int × Int × Int) (a2 : Int) : Option (Bool) :=
  (saturateref01_W.f a0.1).bind fun r1 =>
  (facts_Reduce.f (a0.1, a0.2.1, a0.2.2.1, a0.2.2.2.1, a0.2.2.2.2)).bind fun r2 =>
  (facts_Reduce.f (r2.1.1, r2.1.2.1, r2.1.2.2.1, r2.1.2.2.2.1, r2.1.2.2.2.2)).bind fun r3 =>
  bif (!((r2.1.1 == r3.1.1) && (((r2.1.2.1 == r3.1.2.1) && ((r2.1.2.2.1 == r3.1.2.2.1) && true)) && (((r2.1.2.2.2.1 == r3.1.2.2.2.1) && ((r2.1.2.2.2.2 == r3.1.2.2.2.2) && true)) && true)))) then
    some false
  else
    bif (!r3.2) then
      some false
    else
      (facts_Valid.f (r2.1.1, r2.1.2.1, r2.1.2.2.1, r2.1.2.2.2.1, r2.1.2.2.2.2)).bind fun r4 =>
      bif (!r4) then
        some false
      else
        bif (r2.1.1 != r1) then
          some false
        else
          (saturateref12_Has.f r1 (a0.2.1, a0.2.2.1) a2).bind fun r5 =>
          bif r5 then
            (saturateref13_Has.f r1 (a0.2.2.2.1, a0.2.2.2.2) a2).bind fun r6 =>
            bif r6 then
              bif (!r2.2) then
                some false
              else
                (facts_Has.f (r2.1.1, r2.1.2.1, r2.1.2.2.1, r2.1.2.2.2.1, r2.1.2.2.2.2) a2).bind fun r7 =>
                bif (!r7) then
                  some false
                else
                  saturatelaw14_FactsReduces.p8 v_saturatelaw14_lives h_saturatelaw14_lives fu fu a2 a0.1 a0.2.1 a0.2.2.1 a0.2.2.2.1 a0.2.2.2.2 a1.1 a1.2.1 a1.2.2.1 a1.2.2.2.1 a1.2.2.2.2
            else
              saturatelaw14_FactsReduces.p8 v_saturatelaw14_lives h_saturatelaw14_lives fu fu a2 a0.1 a0.2.1 a0.2.2.1 a0.2.2.2.1 a0.2.2.2.2 a1.1 a1.2.1 a1.2.2.1 a1.2.2.2.1 a1.2.2.2.2
          else
            saturatelaw14_FactsReduces.p8 v_saturatelaw14_lives h_saturatelaw14_lives fu fu a2 a0.1 a0.2.1 a0.2.2.1 a0.2.2.2.1 a0.2.2.2.2 a1.1 a1.2.1 a1.2.2.1 a1.2.2.2.1 a1.2.2.2.2
noncomputable def saturatelaw14_FactsReduces.f (a0 : Int × Int × Int × Int × Int) (a1 : Int × Int × Int × Int × Int) (a2 : Int) : Option (Bool) := saturatelaw14_FactsReduces.gv (fun a => saturatelaw14_lives.f) ⟨saturatelaw14_lives.con⟩ (fuel0 + 1) a0 a1 a2
theorem saturatelaw14_FactsReduces.eq (v_saturatelaw14_lives : Unit → Option (Bool)) (h_saturatelaw14_lives : Con Tryz.prog 9 saturatelaw14_lives.a saturatelaw14_lives.r v_saturatelaw14_lives) (fu : Nat) (a : (Int × Int × Int × Int × Int) × (Int × Int × Int × Int × Int) × Int × Unit) : bodyK Tryz.prog (saturatelaw14_FactsReduces.cs v_saturatelaw14_lives h_saturatelaw14_lives) saturatelaw14_FactsReduces.live fu Tryz.f8 (saturatelaw14_FactsReduces.a.enc a) saturatelaw14_FactsReduces.r.dec = saturatelaw14_FactsReduces.gv v_saturatelaw14_lives h_saturatelaw14_lives fu a.1 a.2.1 a.2.2.1 := by kernel_rfl
theorem saturatelaw14_FactsReduces.con : ∀ (a : (Int × Int × Int × Int × Int) × (Int × Int × Int × Int × Int) × Int × Unit) (r : Bool), saturatelaw14_FactsReduces.f a.1 a.2.1 a.2.2.1 = some r → Contract Tryz.prog 8 (saturatelaw14_FactsReduces.a.enc a) (saturatelaw14_FactsReduces.r.enc r) := Contract.of_body (F := fun (a : (Int × Int × Int × Int × Int) × (Int × Int × Int × Int × Int) × Int × Unit) => saturatelaw14_FactsReduces.f a.1 a.2.1 a.2.2.1) (fn := Tryz.f8) (cs := saturatelaw14_FactsReduces.cs (fun a => saturatelaw14_lives.f) ⟨saturatelaw14_lives.con⟩) (live := saturatelaw14_FactsReduces.live) (fuel := fuel0 + 1) (by kernel_rfl) (by kernel_rfl) mixed (saturatelaw14_FactsReduces.eq (fun a => saturatelaw14_lives.f) ⟨saturatelaw14_lives.con⟩ (fuel0 + 1))
noncomputable def saturatelaw14_FactsReduces.c : Kn Tryz.prog := Kn.of 8 saturatelaw14_FactsReduces.a saturatelaw14_FactsReduces.r (fun a => saturatelaw14_FactsReduces.f a.1 a.2.1 a.2.2.1) saturatelaw14_FactsReduces.con
end Go.Proofs.YtcihbcffokjgjaaGreat.Fn
