/- What the functions return, as the evaluator tells it: written by a program of this workplace (mev.py); Lean checks each equation. -/
import Derived.Test.YtkmehmlcccdnbaaDoorProg
import Derived.Test.YtkmehmlcccdnbaaDoorEvC
import Derived.Test.YtkmehmlcccdnbaaDoorF0
namespace Go.Proofs.YtkmehmlcccdnbaaDoor.Fn
open Go Go.RowKit Go.Proofs.YtkmehmlcccdnbaaDoor.Ev Go.Proofs
set_option linter.unusedVariables false
set_option maxRecDepth 100000
/-! ### saturateref01_W: function 51 -/
def saturateref01_W.a : ACods (Int × Unit) := (.cons (.val (.int .i64)) .nil)
def saturateref01_W.r : RCod (Int) := .val (.int .i64)
noncomputable def saturateref01_W.cs : List (Kn Tryd.prog) := []
def saturateref01_W.live : Nat → Option Keep := liveOf []
noncomputable def saturateref01_W.body : Code := bodyOf Tryd.f51
noncomputable def saturateref01_W.K (fu : Nat) : Code → St → (Ex → St → Option (Int)) → Option (Int) := codeK Tryd.prog (saturateref01_W.cs) saturateref01_W.live fu
noncomputable def saturateref01_W.f (a0 : Int) : Option (Int) :=
  some (mn (mx a0 1) 64)
theorem saturateref01_W.eq (fu : Nat) (a : Int × Unit) : bodyK Tryd.prog saturateref01_W.cs saturateref01_W.live fu Tryd.f51 false (saturateref01_W.a.enc a) saturateref01_W.r.dec = saturateref01_W.f a.1 := by kernel_rfl
theorem saturateref01_W.con : ∀ (a : Int × Unit) (r : Int), saturateref01_W.f a.1 = some r → Contract Tryd.prog 51 (saturateref01_W.a.enc a) (saturateref01_W.r.enc r) := Contract.of_body (F := fun (a : Int × Unit) => saturateref01_W.f a.1) (fn := Tryd.f51) (cs := saturateref01_W.cs) (live := saturateref01_W.live) (fuel := fuel0 + 1) (by kernel_rfl) (by kernel_rfl) mixed (saturateref01_W.eq (fuel0 + 1))
noncomputable def saturateref01_W.c : Kn Tryd.prog := Kn.of 51 saturateref01_W.a saturateref01_W.r (fun a => saturateref01_W.f a.1) saturateref01_W.con

/-! ### saturateref01_Bit: function 52 -/
def saturateref01_Bit.a : ACods (Int × Int × Unit) := (.cons (.val (.int .u64)) (.cons (.val (.int .i64)) .nil))
def saturateref01_Bit.r : RCod (Int) := .val (.int .u64)
noncomputable def saturateref01_Bit.cs : List (Kn Tryd.prog) := []
def saturateref01_Bit.live : Nat → Option Keep := liveOf []
noncomputable def saturateref01_Bit.body : Code := bodyOf Tryd.f52
noncomputable def saturateref01_Bit.K (fu : Nat) : Code → St → (Ex → St → Option (Int)) → Option (Int) := codeK Tryd.prog (saturateref01_Bit.cs) saturateref01_Bit.live fu
noncomputable def saturateref01_Bit.f (a0 : Int) (a1 : Int) : Option (Int) :=
  bif (decide (a1 < 0)) then
    some 0
  else
    bif (decide (a1 > 63)) then
      some 0
    else
      bif decide ((IntKind.u64.wrap a1) < 0) then
        none
      else
        some (Go.bits .and .u64 (shr .u64 a0 (IntKind.u64.wrap a1)) 1)
theorem saturateref01_Bit.eq (fu : Nat) (a : Int × Int × Unit) : bodyK Tryd.prog saturateref01_Bit.cs saturateref01_Bit.live fu Tryd.f52 false (saturateref01_Bit.a.enc a) saturateref01_Bit.r.dec = saturateref01_Bit.f a.1 a.2.1 := by kernel_rfl
theorem saturateref01_Bit.con : ∀ (a : Int × Int × Unit) (r : Int), saturateref01_Bit.f a.1 a.2.1 = some r → Contract Tryd.prog 52 (saturateref01_Bit.a.enc a) (saturateref01_Bit.r.enc r) := Contract.of_body (F := fun (a : Int × Int × Unit) => saturateref01_Bit.f a.1 a.2.1) (fn := Tryd.f52) (cs := saturateref01_Bit.cs) (live := saturateref01_Bit.live) (fuel := fuel0 + 1) (by kernel_rfl) (by kernel_rfl) mixed (saturateref01_Bit.eq (fuel0 + 1))
noncomputable def saturateref01_Bit.c : Kn Tryd.prog := Kn.of 52 saturateref01_Bit.a saturateref01_Bit.r (fun a => saturateref01_Bit.f a.1 a.2.1) saturateref01_Bit.con

/-! ### saturateref01_Cut: function 34 -/
def saturateref01_Cut.a : ACods (Int × Int × Unit) := (.cons (.val (.int .i64)) (.cons (.val (.int .u64)) .nil))
def saturateref01_Cut.r : RCod (Int) := .val (.int .u64)
noncomputable def saturateref01_Cut.cs : List (Kn Tryd.prog) := [saturateref01_W.c, saturateref01_Bit.c]
def saturateref01_Cut.live : Nat → Option Keep := liveOf [(7, ⟨[1, 5, 8, 9], [], [], [], []⟩)]
noncomputable def saturateref01_Cut.body : Code := bodyOf Tryd.f34
noncomputable def saturateref01_Cut.K (fu : Nat) : Code → St → (Ex → St → Option (Int)) → Option (Int) := codeK Tryd.prog (saturateref01_Cut.cs) saturateref01_Cut.live fu
noncomputable def saturateref01_Cut.j3 (fu : Nat) (n3 : Nat) (x1 : Int) (x5 : Int) (x8 : Int) (x9 : Int) : Option Int :=
  loopK (saturateref01_Cut.K fu (sub saturateref01_Cut.body [true, true, false, true, false, false])) (saturateref01_Cut.live 7) n3 (stOf 22 [(1, .val (.int .u64 x1)), (5, .val (.int .u64 x5)), (8, .val (.int .i64 x8)), (9, .val (.int .i64 x9))] []) (blockC 0 (seqC fu (saturateref01_Cut.live 14) (saturateref01_Cut.K fu (sub saturateref01_Cut.body [true, true, true])) (retC Tryd.prog false (Tryd.f34.results) saturateref01_Cut.r.dec)))
theorem saturateref01_Cut.j3_succ (fu : Nat) (n3 : Nat) (x1 : Int) (x5 : Int) (x8 : Int) (x9 : Int) : saturateref01_Cut.j3 fu (n3 + 1) x1 x5 x8 x9 =
  bif (decide (x9 < x8)) then
    (saturateref01_Bit.f x1 x9).bind fun r2 =>
    bif decide ((IntKind.u64.wrap x9) < 0) then
      none
    else
      saturateref01_Cut.j3 fu n3 x1 (Go.bits .or .u64 x5 (shl .u64 r2 (IntKind.u64.wrap x9))) x8 (IntKind.i64.wrap (x9 + 1))
  else
    some x5 := by kernel_rfl
noncomputable def saturateref01_Cut.g (fu : Nat) (a0 : Int) (a1 : Int) : Option (Int) :=
  (saturateref01_W.f a0).bind fun r1 =>
  saturateref01_Cut.j3 fu fu a1 0 r1 0
noncomputable def saturateref01_Cut.f (a0 : Int) (a1 : Int) : Option (Int) := saturateref01_Cut.g (fuel0 + 1) a0 a1
theorem saturateref01_Cut.eq (fu : Nat) (a : Int × Int × Unit) : bodyK Tryd.prog saturateref01_Cut.cs saturateref01_Cut.live fu Tryd.f34 false (saturateref01_Cut.a.enc a) saturateref01_Cut.r.dec = saturateref01_Cut.g fu a.1 a.2.1 := by kernel_rfl
theorem saturateref01_Cut.con : ∀ (a : Int × Int × Unit) (r : Int), saturateref01_Cut.f a.1 a.2.1 = some r → Contract Tryd.prog 34 (saturateref01_Cut.a.enc a) (saturateref01_Cut.r.enc r) := Contract.of_body (F := fun (a : Int × Int × Unit) => saturateref01_Cut.f a.1 a.2.1) (fn := Tryd.f34) (cs := saturateref01_Cut.cs) (live := saturateref01_Cut.live) (fuel := fuel0 + 1) (by kernel_rfl) (by kernel_rfl) mixed (saturateref01_Cut.eq (fuel0 + 1))
noncomputable def saturateref01_Cut.c : Kn Tryd.prog := Kn.of 34 saturateref01_Cut.a saturateref01_Cut.r (fun a => saturateref01_Cut.f a.1 a.2.1) saturateref01_Cut.con

/-! ### saturateref49_State: function 14 -/
def saturateref49_State.a : ACods (Int × Int × List Tm × Unit) := (.cons (.val (.int .i64)) (.cons (.val (.int .i64)) (.cons (.tms 0) .nil)))
def saturateref49_State.r : RCod (List Tm) := .gsl 45 0
noncomputable def saturateref49_State.cs : List (Kn Tryd.prog) := [saturateref01_Cut.c]
def saturateref49_State.live : Nat → Option Keep := liveOf [(7, ⟨[0, 1, 2, 7, 8], [10], [], [], []⟩), (12, ⟨[7], [10], [], [], []⟩)]
noncomputable def saturateref49_State.body : Code := bodyOf Tryd.f14
noncomputable def saturateref49_State.K (fu : Nat) : Code → St → (Ex → St → Option (List Tm)) → Option (List Tm) := codeK Tryd.prog (saturateref49_State.cs) saturateref49_State.live fu
noncomputable def saturateref49_State.j3 (fu : Nat) (n3 : Nat) (x0 : Int) (x1 : Int) (x2l : List Tm) (x7n : Nat) (x8 : Int) (l10 : List Tm) : Option (List Tm) :=
  loopK (saturateref49_State.K fu (sub saturateref49_State.body [true, true, false, true, false, false])) (saturateref49_State.live 7) n3 (stOf 32 [(0, .val (.int .i64 x0)), (1, .val (.int .i64 x1)), (2, .tsl 0 x2l), (7, .sl 10 1 x7n), (8, .val (.int .i64 x8))] [(10, .growK 45 0 l10)]) (blockC 0 (seqC fu (saturateref49_State.live 12) (saturateref49_State.K fu (sub saturateref49_State.body [true, true, true])) (retC Tryd.prog true (Tryd.f14.results) saturateref49_State.r.dec)))
noncomputable def saturateref49_State.p6 (m fu : Nat) (x7n : Nat) (l10 : List Tm) : Option (List Tm) :=
  joinK m (saturateref49_State.K fu (sub saturateref49_State.body [true, true, true])) (stOf 32 [(7, .sl 10 1 x7n)] [(10, .growK 45 0 l10)]) (retC Tryd.prog true (Tryd.f14.results) saturateref49_State.r.dec)
theorem saturateref49_State.p6_eq (m fu : Nat) (x7n : Nat) (l10 : List Tm) : saturateref49_State.p6 (m + 1) fu x7n l10 =
  some l10 := by kernel_rfl
theorem saturateref49_State.j3_succ (fu : Nat) (n3 : Nat) (x0 : Int) (x1 : Int) (x2l : List Tm) (x7n : Nat) (x8 : Int) (l10 : List Tm) : saturateref49_State.j3 fu (n3 + 1) x0 x1 x2l x7n x8 l10 =
  bif (decide (x8 < x1)) then
    bif (decide (x8 < (x2l.length : Int))) then
      bif decide (0 ≤ x8) then
        bif decide (x8 < (x2l.length : Int)) then
          ((x2l[x8.toNat]? : Option Tm)).bind fun u1 =>
          (saturateref01_Cut.f x0 u1.x).bind fun r2 =>
          bif decide (0 ≤ x8) then
            bif decide (x8 < (x7n : Int)) then
              saturateref49_State.j3 fu n3 x0 x1 x2l x7n (IntKind.i64.wrap (x8 + 1)) (l10.set x8.toNat (Tm.mk r2 []))
            else
              none
          else
            none
        else
          none
      else
        none
    else
      saturateref49_State.p6 fu fu x7n l10
  else
    saturateref49_State.p6 fu fu x7n l10 := by kernel_rfl
noncomputable def saturateref49_State.g (fu : Nat) (a0 : Int) (a1 : Int) (a2 : List Tm) : Option (List Tm) :=
  bif decide (0 ≤ a1) then
    bif Nat.ble (a1.toNat * 8) 140737488355328 then
      saturateref49_State.j3 fu fu a0 a1 a2 a1.toNat 0 (List.replicate a1.toNat (Tm.mk 0 []))
    else
      none
  else
    none
noncomputable def saturateref49_State.f (a0 : Int) (a1 : Int) (a2 : List Tm) : Option (List Tm) := saturateref49_State.g (fuel0 + 1) a0 a1 a2
theorem saturateref49_State.eq (fu : Nat) (a : Int × Int × List Tm × Unit) : bodyK Tryd.prog saturateref49_State.cs saturateref49_State.live fu Tryd.f14 true (saturateref49_State.a.enc a) saturateref49_State.r.dec = saturateref49_State.g fu a.1 a.2.1 a.2.2.1 := by kernel_rfl
theorem saturateref49_State.con : ∀ (a : Int × Int × List Tm × Unit) (r : List Tm), saturateref49_State.f a.1 a.2.1 a.2.2.1 = some r → Contract Tryd.prog 14 (saturateref49_State.a.enc a) (saturateref49_State.r.enc r) := Contract.of_body (F := fun (a : Int × Int × List Tm × Unit) => saturateref49_State.f a.1 a.2.1 a.2.2.1) (fn := Tryd.f14) (cs := saturateref49_State.cs) (live := saturateref49_State.live) (fuel := fuel0 + 1) (by kernel_rfl) (by kernel_rfl) mixed (saturateref49_State.eq (fuel0 + 1))
noncomputable def saturateref49_State.c : Kn Tryd.prog := Kn.of 14 saturateref49_State.a saturateref49_State.r (fun a => saturateref49_State.f a.1 a.2.1 a.2.2.1) saturateref49_State.con

/-! ### saturateref48_Known: function 42 -/
def saturateref48_Known.a : ACods (Int × Unit) := (.cons (.val (.int .i64)) .nil)
def saturateref48_Known.r : RCod (Bool) := .val (.bool)
noncomputable def saturateref48_Known.cs : List (Kn Tryd.prog) := []
def saturateref48_Known.live : Nat → Option Keep := liveOf []
noncomputable def saturateref48_Known.body : Code := bodyOf Tryd.f42
noncomputable def saturateref48_Known.K (fu : Nat) : Code → St → (Ex → St → Option (Bool)) → Option (Bool) := codeK Tryd.prog (saturateref48_Known.cs) saturateref48_Known.live fu
noncomputable def saturateref48_Known.f (a0 : Int) : Option (Bool) :=
  bif (decide (a0 ≥ 0)) then
    some (decide (a0 ≤ 19))
  else
    some false
theorem saturateref48_Known.eq (fu : Nat) (a : Int × Unit) : bodyK Tryd.prog saturateref48_Known.cs saturateref48_Known.live fu Tryd.f42 false (saturateref48_Known.a.enc a) saturateref48_Known.r.dec = saturateref48_Known.f a.1 := by kernel_rfl
theorem saturateref48_Known.con : ∀ (a : Int × Unit) (r : Bool), saturateref48_Known.f a.1 = some r → Contract Tryd.prog 42 (saturateref48_Known.a.enc a) (saturateref48_Known.r.enc r) := Contract.of_body (F := fun (a : Int × Unit) => saturateref48_Known.f a.1) (fn := Tryd.f42) (cs := saturateref48_Known.cs) (live := saturateref48_Known.live) (fuel := fuel0 + 1) (by kernel_rfl) (by kernel_rfl) mixed (saturateref48_Known.eq (fuel0 + 1))
noncomputable def saturateref48_Known.c : Kn Tryd.prog := Kn.of 42 saturateref48_Known.a saturateref48_Known.r (fun a => saturateref48_Known.f a.1) saturateref48_Known.con

/-! ### saturateref48_Sources: function 45 -/
def saturateref48_Sources.a : ACods (Int × Unit) := (.cons (.val (.int .i64)) .nil)
def saturateref48_Sources.r : RCod (Int) := .val (.int .i64)
noncomputable def saturateref48_Sources.cs : List (Kn Tryd.prog) := [saturateref48_Known.c]
def saturateref48_Sources.live : Nat → Option Keep := liveOf []
noncomputable def saturateref48_Sources.body : Code := bodyOf Tryd.f45
noncomputable def saturateref48_Sources.K (fu : Nat) : Code → St → (Ex → St → Option (Int)) → Option (Int) := codeK Tryd.prog (saturateref48_Sources.cs) saturateref48_Sources.live fu
noncomputable def saturateref48_Sources.f (a0 : Int) : Option (Int) :=
  (saturateref48_Known.f a0).bind fun r1 =>
  bif (!r1) then
    some (-1)
  else
    bif (a0 == 0) then
      some 0
    else
      bif (a0 == 1) then
        some 0
      else
        bif (a0 == 2) then
          some 1
        else
          bif (a0 == 3) then
            some 1
          else
            bif (a0 == 4) then
              some 1
            else
              bif (a0 == 19) then
                some 3
              else
                some 2
theorem saturateref48_Sources.eq (fu : Nat) (a : Int × Unit) : bodyK Tryd.prog saturateref48_Sources.cs saturateref48_Sources.live fu Tryd.f45 false (saturateref48_Sources.a.enc a) saturateref48_Sources.r.dec = saturateref48_Sources.f a.1 := by kernel_rfl
theorem saturateref48_Sources.con : ∀ (a : Int × Unit) (r : Int), saturateref48_Sources.f a.1 = some r → Contract Tryd.prog 45 (saturateref48_Sources.a.enc a) (saturateref48_Sources.r.enc r) := Contract.of_body (F := fun (a : Int × Unit) => saturateref48_Sources.f a.1) (fn := Tryd.f45) (cs := saturateref48_Sources.cs) (live := saturateref48_Sources.live) (fuel := fuel0 + 1) (by kernel_rfl) (by kernel_rfl) mixed (saturateref48_Sources.eq (fuel0 + 1))
noncomputable def saturateref48_Sources.c : Kn Tryd.prog := Kn.of 45 saturateref48_Sources.a saturateref48_Sources.r (fun a => saturateref48_Sources.f a.1) saturateref48_Sources.con

/-! ### saturateref48_Uses: function 27 -/
def saturateref48_Uses.a : ACods ((Int × Int × Int × Int × Int × Int) × Unit) := (.cons (.val (.agg (.cons (.int .i64) (.cons (.int .i64) (.cons (.int .i64) (.cons (.int .i64) (.cons (.int .i64) (.one (.int .u64))))))))) .nil)
def saturateref48_Uses.r : RCod (Nat × (Nat → Int)) := .rows (.int1 .i64)
noncomputable def saturateref48_Uses.cs : List (Kn Tryd.prog) := [saturateref48_Sources.c]
def saturateref48_Uses.live : Nat → Option Keep := liveOf []
noncomputable def saturateref48_Uses.body : Code := bodyOf Tryd.f27
noncomputable def saturateref48_Uses.K (fu : Nat) : Code → St → (Ex → St → Option (Nat × (Nat → Int))) → Option (Nat × (Nat → Int)) := codeK Tryd.prog (saturateref48_Uses.cs) saturateref48_Uses.live fu
noncomputable def saturateref48_Uses.f (a0 : Int × Int × Int × Int × Int × Int) : Option (Nat × (Nat → Int)) :=
  (saturateref48_Sources.f a0.1).bind fun r1 =>
  bif decide (0 ≤ (mx 0 r1)) then
    bif decide ((mx 0 r1) ≤ (3 : Int)) then
      some ((mx 0 r1).toNat, (fun i => [a0.2.2.1, a0.2.2.2.1, a0.2.2.2.2.1].getD i 0))
    else
      none
  else
    none
theorem saturateref48_Uses.eq (fu : Nat) (a : (Int × Int × Int × Int × Int × Int) × Unit) : bodyK Tryd.prog saturateref48_Uses.cs saturateref48_Uses.live fu Tryd.f27 false (saturateref48_Uses.a.enc a) saturateref48_Uses.r.dec = saturateref48_Uses.f a.1 := by kernel_rfl
theorem saturateref48_Uses.con : ∀ (a : (Int × Int × Int × Int × Int × Int) × Unit) (r : Nat × (Nat → Int)), saturateref48_Uses.f a.1 = some r → Contract Tryd.prog 27 (saturateref48_Uses.a.enc a) (saturateref48_Uses.r.enc r) := Contract.of_body (F := fun (a : (Int × Int × Int × Int × Int × Int) × Unit) => saturateref48_Uses.f a.1) (fn := Tryd.f27) (cs := saturateref48_Uses.cs) (live := saturateref48_Uses.live) (fuel := fuel0 + 1) (by kernel_rfl) (by kernel_rfl) mixed (saturateref48_Uses.eq (fuel0 + 1))
noncomputable def saturateref48_Uses.c : Kn Tryd.prog := Kn.of 27 saturateref48_Uses.a saturateref48_Uses.r (fun a => saturateref48_Uses.f a.1) saturateref48_Uses.con

/-! ### saturateref48_Traps: function 43 -/
def saturateref48_Traps.a : ACods (Int × Unit) := (.cons (.val (.int .i64)) .nil)
def saturateref48_Traps.r : RCod (Bool) := .val (.bool)
noncomputable def saturateref48_Traps.cs : List (Kn Tryd.prog) := []
def saturateref48_Traps.live : Nat → Option Keep := liveOf []
noncomputable def saturateref48_Traps.body : Code := bodyOf Tryd.f43
noncomputable def saturateref48_Traps.K (fu : Nat) : Code → St → (Ex → St → Option (Bool)) → Option (Bool) := codeK Tryd.prog (saturateref48_Traps.cs) saturateref48_Traps.live fu
noncomputable def saturateref48_Traps.f (a0 : Int) : Option (Bool) :=
  bif (a0 == 11) then
    some true
  else
    some (a0 == 12)
theorem saturateref48_Traps.eq (fu : Nat) (a : Int × Unit) : bodyK Tryd.prog saturateref48_Traps.cs saturateref48_Traps.live fu Tryd.f43 false (saturateref48_Traps.a.enc a) saturateref48_Traps.r.dec = saturateref48_Traps.f a.1 := by kernel_rfl
theorem saturateref48_Traps.con : ∀ (a : Int × Unit) (r : Bool), saturateref48_Traps.f a.1 = some r → Contract Tryd.prog 43 (saturateref48_Traps.a.enc a) (saturateref48_Traps.r.enc r) := Contract.of_body (F := fun (a : Int × Unit) => saturateref48_Traps.f a.1) (fn := Tryd.f43) (cs := saturateref48_Traps.cs) (live := saturateref48_Traps.live) (fuel := fuel0 + 1) (by kernel_rfl) (by kernel_rfl) mixed (saturateref48_Traps.eq (fuel0 + 1))
noncomputable def saturateref48_Traps.c : Kn Tryd.prog := Kn.of 43 saturateref48_Traps.a saturateref48_Traps.r (fun a => saturateref48_Traps.f a.1) saturateref48_Traps.con

/-! ### saturateref01_Mask: function 81 -/
def saturateref01_Mask.a : ACods (Int × Unit) := (.cons (.val (.int .i64)) .nil)
def saturateref01_Mask.r : RCod (Int) := .val (.int .u64)
noncomputable def saturateref01_Mask.cs : List (Kn Tryd.prog) := [saturateref01_W.c]
def saturateref01_Mask.live : Nat → Option Keep := liveOf [(7, ⟨[3, 5, 6], [], [], [], []⟩)]
noncomputable def saturateref01_Mask.body : Code := bodyOf Tryd.f81
noncomputable def saturateref01_Mask.K (fu : Nat) : Code → St → (Ex → St → Option (Int)) → Option (Int) := codeK Tryd.prog (saturateref01_Mask.cs) saturateref01_Mask.live fu
noncomputable def saturateref01_Mask.j3 (fu : Nat) (n3 : Nat) (x3 : Int) (x5 : Int) (x6 : Int) : Option Int :=
  loopK (saturateref01_Mask.K fu (sub saturateref01_Mask.body [true, true, false, true, false, false])) (saturateref01_Mask.live 7) n3 (stOf 13 [(3, .val (.int .u64 x3)), (5, .val (.int .i64 x5)), (6, .val (.int .i64 x6))] []) (blockC 0 (seqC fu (saturateref01_Mask.live 12) (saturateref01_Mask.K fu (sub saturateref01_Mask.body [true, true, true])) (retC Tryd.prog false (Tryd.f81.results) saturateref01_Mask.r.dec)))
theorem saturateref01_Mask.j3_succ (fu : Nat) (n3 : Nat) (x3 : Int) (x5 : Int) (x6 : Int) : saturateref01_Mask.j3 fu (n3 + 1) x3 x5 x6 =
  bif (decide (x6 < x5)) then
    saturateref01_Mask.j3 fu n3 (IntKind.u64.wrap ((IntKind.u64.wrap (x3 * 2)) + 1)) x5 (IntKind.i64.wrap (x6 + 1))
  else
    some x3 := by kernel_rfl
noncomputable def saturateref01_Mask.g (fu : Nat) (a0 : Int) : Option (Int) :=
  (saturateref01_W.f a0).bind fun r1 =>
  saturateref01_Mask.j3 fu fu 0 r1 0
noncomputable def saturateref01_Mask.f (a0 : Int) : Option (Int) := saturateref01_Mask.g (fuel0 + 1) a0
theorem saturateref01_Mask.eq (fu : Nat) (a : Int × Unit) : bodyK Tryd.prog saturateref01_Mask.cs saturateref01_Mask.live fu Tryd.f81 false (saturateref01_Mask.a.enc a) saturateref01_Mask.r.dec = saturateref01_Mask.g fu a.1 := by kernel_rfl
theorem saturateref01_Mask.con : ∀ (a : Int × Unit) (r : Int), saturateref01_Mask.f a.1 = some r → Contract Tryd.prog 81 (saturateref01_Mask.a.enc a) (saturateref01_Mask.r.enc r) := Contract.of_body (F := fun (a : Int × Unit) => saturateref01_Mask.f a.1) (fn := Tryd.f81) (cs := saturateref01_Mask.cs) (live := saturateref01_Mask.live) (fuel := fuel0 + 1) (by kernel_rfl) (by kernel_rfl) mixed (saturateref01_Mask.eq (fuel0 + 1))
noncomputable def saturateref01_Mask.c : Kn Tryd.prog := Kn.of 81 saturateref01_Mask.a saturateref01_Mask.r (fun a => saturateref01_Mask.f a.1) saturateref01_Mask.con

/-! ### saturateref01_Not: function 54 -/
def saturateref01_Not.a : ACods (Int × Int × Unit) := (.cons (.val (.int .i64)) (.cons (.val (.int .u64)) .nil))
def saturateref01_Not.r : RCod (Int) := .val (.int .u64)
noncomputable def saturateref01_Not.cs : List (Kn Tryd.prog) := [saturateref01_Mask.c, saturateref01_Cut.c]
def saturateref01_Not.live : Nat → Option Keep := liveOf []
noncomputable def saturateref01_Not.body : Code := bodyOf Tryd.f54
noncomputable def saturateref01_Not.K (fu : Nat) : Code → St → (Ex → St → Option (Int)) → Option (Int) := codeK Tryd.prog (saturateref01_Not.cs) saturateref01_Not.live fu
noncomputable def saturateref01_Not.f (a0 : Int) (a1 : Int) : Option (Int) :=
  (saturateref01_Mask.f a0).bind fun r1 =>
  (saturateref01_Cut.f a0 a1).bind fun r2 =>
  some (IntKind.u64.wrap (r1 - r2))
theorem saturateref01_Not.eq (fu : Nat) (a : Int × Int × Unit) : bodyK Tryd.prog saturateref01_Not.cs saturateref01_Not.live fu Tryd.f54 false (saturateref01_Not.a.enc a) saturateref01_Not.r.dec = saturateref01_Not.f a.1 a.2.1 := by kernel_rfl
theorem saturateref01_Not.con : ∀ (a : Int × Int × Unit) (r : Int), saturateref01_Not.f a.1 a.2.1 = some r → Contract Tryd.prog 54 (saturateref01_Not.a.enc a) (saturateref01_Not.r.enc r) := Contract.of_body (F := fun (a : Int × Int × Unit) => saturateref01_Not.f a.1 a.2.1) (fn := Tryd.f54) (cs := saturateref01_Not.cs) (live := saturateref01_Not.live) (fuel := fuel0 + 1) (by kernel_rfl) (by kernel_rfl) mixed (saturateref01_Not.eq (fuel0 + 1))
noncomputable def saturateref01_Not.c : Kn Tryd.prog := Kn.of 54 saturateref01_Not.a saturateref01_Not.r (fun a => saturateref01_Not.f a.1 a.2.1) saturateref01_Not.con

/-! ### saturateref01_Add: function 59 -/
def saturateref01_Add.a : ACods (Int × Int × Int × Unit) := (.cons (.val (.int .i64)) (.cons (.val (.int .u64)) (.cons (.val (.int .u64)) .nil)))
def saturateref01_Add.r : RCod (Int) := .val (.int .u64)
noncomputable def saturateref01_Add.cs : List (Kn Tryd.prog) := [saturateref01_W.c, saturateref01_Bit.c]
def saturateref01_Add.live : Nat → Option Keep := liveOf [(7, ⟨[1, 2, 7, 8, 12, 13], [], [], [], []⟩)]
noncomputable def saturateref01_Add.body : Code := bodyOf Tryd.f59
noncomputable def saturateref01_Add.K (fu : Nat) : Code → St → (Ex → St → Option (Int)) → Option (Int) := codeK Tryd.prog (saturateref01_Add.cs) saturateref01_Add.live fu
noncomputable def saturateref01_Add.j3 (fu : Nat) (n3 : Nat) (x1 : Int) (x2 : Int) (x7 : Int) (x8 : Int) (x12 : Int) (x13 : Int) : Option Int :=
  loopK (saturateref01_Add.K fu (sub saturateref01_Add.body [true, true, false, true, false, false])) (saturateref01_Add.live 7) n3 (stOf 36 [(1, .val (.int .u64 x1)), (2, .val (.int .u64 x2)), (7, .val (.int .u64 x7)), (8, .val (.int .u64 x8)), (12, .val (.int .i64 x12)), (13, .val (.int .i64 x13))] []) (blockC 0 (seqC fu (saturateref01_Add.live 18) (saturateref01_Add.K fu (sub saturateref01_Add.body [true, true, true])) (retC Tryd.prog false (Tryd.f59.results) saturateref01_Add.r.dec)))
theorem saturateref01_Add.j3_succ (fu : Nat) (n3 : Nat) (x1 : Int) (x2 : Int) (x7 : Int) (x8 : Int) (x12 : Int) (x13 : Int) : saturateref01_Add.j3 fu (n3 + 1) x1 x2 x7 x8 x12 x13 =
  bif (decide (x13 < x12)) then
    (saturateref01_Bit.f x1 x13).bind fun r2 =>
    (saturateref01_Bit.f x2 x13).bind fun r3 =>
    bif decide ((IntKind.u64.wrap x13) < 0) then
      none
    else
      saturateref01_Add.j3 fu n3 x1 x2 (Go.bits .or .u64 x7 (shl .u64 (Int.tmod (IntKind.u64.wrap ((IntKind.u64.wrap (r2 + r3)) + x8)) 2) (IntKind.u64.wrap x13))) (IntKind.u64.wrap (Int.tdiv (IntKind.u64.wrap ((IntKind.u64.wrap (r2 + r3)) + x8)) 2)) x12 (IntKind.i64.wrap (x13 + 1))
  else
    some x7 := by kernel_rfl
noncomputable def saturateref01_Add.g (fu : Nat) (a0 : Int) (a1 : Int) (a2 : Int) : Option (Int) :=
  (saturateref01_W.f a0).bind fun r1 =>
  saturateref01_Add.j3 fu fu a1 a2 0 0 r1 0
noncomputable def saturateref01_Add.f (a0 : Int) (a1 : Int) (a2 : Int) : Option (Int) := saturateref01_Add.g (fuel0 + 1) a0 a1 a2
theorem saturateref01_Add.eq (fu : Nat) (a : Int × Int × Int × Unit) : bodyK Tryd.prog saturateref01_Add.cs saturateref01_Add.live fu Tryd.f59 false (saturateref01_Add.a.enc a) saturateref01_Add.r.dec = saturateref01_Add.g fu a.1 a.2.1 a.2.2.1 := by kernel_rfl
theorem saturateref01_Add.con : ∀ (a : Int × Int × Int × Unit) (r : Int), saturateref01_Add.f a.1 a.2.1 a.2.2.1 = some r → Contract Tryd.prog 59 (saturateref01_Add.a.enc a) (saturateref01_Add.r.enc r) := Contract.of_body (F := fun (a : Int × Int × Int × Unit) => saturateref01_Add.f a.1 a.2.1 a.2.2.1) (fn := Tryd.f59) (cs := saturateref01_Add.cs) (live := saturateref01_Add.live) (fuel := fuel0 + 1) (by kernel_rfl) (by kernel_rfl) mixed (saturateref01_Add.eq (fuel0 + 1))
noncomputable def saturateref01_Add.c : Kn Tryd.prog := Kn.of 59 saturateref01_Add.a saturateref01_Add.r (fun a => saturateref01_Add.f a.1 a.2.1 a.2.2.1) saturateref01_Add.con

/-! ### saturateref01_Neg: function 55 -/
def saturateref01_Neg.a : ACods (Int × Int × Unit) := (.cons (.val (.int .i64)) (.cons (.val (.int .u64)) .nil))
def saturateref01_Neg.r : RCod (Int) := .val (.int .u64)
noncomputable def saturateref01_Neg.cs : List (Kn Tryd.prog) := [saturateref01_Not.c, saturateref01_Add.c]
def saturateref01_Neg.live : Nat → Option Keep := liveOf []
noncomputable def saturateref01_Neg.body : Code := bodyOf Tryd.f55
noncomputable def saturateref01_Neg.K (fu : Nat) : Code → St → (Ex → St → Option (Int)) → Option (Int) := codeK Tryd.prog (saturateref01_Neg.cs) saturateref01_Neg.live fu
noncomputable def saturateref01_Neg.f (a0 : Int) (a1 : Int) : Option (Int) :=
  (saturateref01_Not.f a0 a1).bind fun r1 =>
  (saturateref01_Add.f a0 r1 1).bind fun r2 =>
  some r2
theorem saturateref01_Neg.eq (fu : Nat) (a : Int × Int × Unit) : bodyK Tryd.prog saturateref01_Neg.cs saturateref01_Neg.live fu Tryd.f55 false (saturateref01_Neg.a.enc a) saturateref01_Neg.r.dec = saturateref01_Neg.f a.1 a.2.1 := by kernel_rfl
theorem saturateref01_Neg.con : ∀ (a : Int × Int × Unit) (r : Int), saturateref01_Neg.f a.1 a.2.1 = some r → Contract Tryd.prog 55 (saturateref01_Neg.a.enc a) (saturateref01_Neg.r.enc r) := Contract.of_body (F := fun (a : Int × Int × Unit) => saturateref01_Neg.f a.1 a.2.1) (fn := Tryd.f55) (cs := saturateref01_Neg.cs) (live := saturateref01_Neg.live) (fuel := fuel0 + 1) (by kernel_rfl) (by kernel_rfl) mixed (saturateref01_Neg.eq (fuel0 + 1))
noncomputable def saturateref01_Neg.c : Kn Tryd.prog := Kn.of 55 saturateref01_Neg.a saturateref01_Neg.r (fun a => saturateref01_Neg.f a.1 a.2.1) saturateref01_Neg.con

/-! ### saturateref01_And: function 56 -/
def saturateref01_And.a : ACods (Int × Int × Int × Unit) := (.cons (.val (.int .i64)) (.cons (.val (.int .u64)) (.cons (.val (.int .u64)) .nil)))
def saturateref01_And.r : RCod (Int) := .val (.int .u64)
noncomputable def saturateref01_And.cs : List (Kn Tryd.prog) := [saturateref01_W.c, saturateref01_Bit.c]
def saturateref01_And.live : Nat → Option Keep := liveOf [(7, ⟨[1, 2, 7, 10, 11], [], [], [], []⟩), (14, ⟨[1, 2, 7, 10, 11], [], [], [], []⟩)]
noncomputable def saturateref01_And.body : Code := bodyOf Tryd.f56
noncomputable def saturateref01_And.K (fu : Nat) : Code → St → (Ex → St → Option (Int)) → Option (Int) := codeK Tryd.prog (saturateref01_And.cs) saturateref01_And.live fu
noncomputable def saturateref01_And.j3 (fu : Nat) (n3 : Nat) (x1 : Int) (x2 : Int) (x7 : Int) (x10 : Int) (x11 : Int) : Option Int :=
  loopK (saturateref01_And.K fu (sub saturateref01_And.body [true, true, false, true, false, false])) (saturateref01_And.live 7) n3 (stOf 31 [(1, .val (.int .u64 x1)), (2, .val (.int .u64 x2)), (7, .val (.int .u64 x7)), (10, .val (.int .i64 x10)), (11, .val (.int .i64 x11))] []) (blockC 0 (seqC fu (saturateref01_And.live 16) (saturateref01_And.K fu (sub saturateref01_And.body [true, true, true])) (retC Tryd.prog false (Tryd.f56.results) saturateref01_And.r.dec)))
noncomputable def saturateref01_And.p7 (m fu : Nat) (n3 : Nat) (x1 : Int) (x2 : Int) (x7 : Int) (x10 : Int) (x11 : Int) : Option Int :=
  joinK m (saturateref01_And.K fu (sub saturateref01_And.body [true, true, false, true, false, false, true, true, true])) (stOf 31 [(1, .val (.int .u64 x1)), (2, .val (.int .u64 x2)), (7, .val (.int .u64 x7)), (10, .val (.int .i64 x10)), (11, .val (.int .i64 x11))] []) (roundC (saturateref01_And.live 7) (loopK (saturateref01_And.K fu (sub saturateref01_And.body [true, true, false, true, false, false])) (saturateref01_And.live 7) n3) (blockC 0 (seqC fu (saturateref01_And.live 16) (saturateref01_And.K fu (sub saturateref01_And.body [true, true, true])) (retC Tryd.prog false (Tryd.f56.results) saturateref01_And.r.dec))))
theorem saturateref01_And.p7_eq (m fu : Nat) (n3 : Nat) (x1 : Int) (x2 : Int) (x7 : Int) (x10 : Int) (x11 : Int) : saturateref01_And.p7 (m + 1) fu n3 x1 x2 x7 x10 x11 =
  saturateref01_And.j3 fu n3 x1 x2 x7 x10 (IntKind.i64.wrap (x11 + 1)) := by kernel_rfl
theorem saturateref01_And.j3_succ (fu : Nat) (n3 : Nat) (x1 : Int) (x2 : Int) (x7 : Int) (x10 : Int) (x11 : Int) : saturateref01_And.j3 fu (n3 + 1) x1 x2 x7 x10 x11 =
  bif (decide (x11 < x10)) then
    (saturateref01_Bit.f x1 x11).bind fun r2 =>
    bif (r2 == 1) then
      (saturateref01_Bit.f x2 x11).bind fun r3 =>
      bif (r3 == 1) then
        bif decide ((IntKind.u64.wrap x11) < 0) then
          none
        else
          saturateref01_And.p7 fu fu n3 x1 x2 (Go.bits .or .u64 x7 (shl .u64 1 (IntKind.u64.wrap x11))) x10 x11
      else
        saturateref01_And.p7 fu fu n3 x1 x2 x7 x10 x11
    else
      saturateref01_And.p7 fu fu n3 x1 x2 x7 x10 x11
  else
    some x7 := by kernel_rfl
noncomputable def saturateref01_And.g (fu : Nat) (a0 : Int) (a1 : Int) (a2 : Int) : Option (Int) :=
  (saturateref01_W.f a0).bind fun r1 =>
  saturateref01_And.j3 fu fu a1 a2 0 r1 0
noncomputable def saturateref01_And.f (a0 : Int) (a1 : Int) (a2 : Int) : Option (Int) := saturateref01_And.g (fuel0 + 1) a0 a1 a2
theorem saturateref01_And.eq (fu : Nat) (a : Int × Int × Int × Unit) : bodyK Tryd.prog saturateref01_And.cs saturateref01_And.live fu Tryd.f56 false (saturateref01_And.a.enc a) saturateref01_And.r.dec = saturateref01_And.g fu a.1 a.2.1 a.2.2.1 := by kernel_rfl
theorem saturateref01_And.con : ∀ (a : Int × Int × Int × Unit) (r : Int), saturateref01_And.f a.1 a.2.1 a.2.2.1 = some r → Contract Tryd.prog 56 (saturateref01_And.a.enc a) (saturateref01_And.r.enc r) := Contract.of_body (F := fun (a : Int × Int × Int × Unit) => saturateref01_And.f a.1 a.2.1 a.2.2.1) (fn := Tryd.f56) (cs := saturateref01_And.cs) (live := saturateref01_And.live) (fuel := fuel0 + 1) (by kernel_rfl) (by kernel_rfl) mixed (saturateref01_And.eq (fuel0 + 1))
noncomputable def saturateref01_And.c : Kn Tryd.prog := Kn.of 56 saturateref01_And.a saturateref01_And.r (fun a => saturateref01_And.f a.1 a.2.1 a.2.2.1) saturateref01_And.con

/-! ### saturateref01_Or: function 57 -/
def saturateref01_Or.a : ACods (Int × Int × Int × Unit) := (.cons (.val (.int .i64)) (.cons (.val (.int .u64)) (.cons (.val (.int .u64)) .nil)))
def saturateref01_Or.r : RCod (Int) := .val (.int .u64)
noncomputable def saturateref01_Or.cs : List (Kn Tryd.prog) := [saturateref01_Not.c, saturateref01_And.c]
def saturateref01_Or.live : Nat → Option Keep := liveOf []
noncomputable def saturateref01_Or.body : Code := bodyOf Tryd.f57
noncomputable def saturateref01_Or.K (fu : Nat) : Code → St → (Ex → St → Option (Int)) → Option (Int) := codeK Tryd.prog (saturateref01_Or.cs) saturateref01_Or.live fu
noncomputable def saturateref01_Or.f (a0 : Int) (a1 : Int) (a2 : Int) : Option (Int) :=
  (saturateref01_Not.f a0 a1).bind fun r1 =>
  (saturateref01_Not.f a0 a2).bind fun r2 =>
  (saturateref01_And.f a0 r1 r2).bind fun r3 =>
  (saturateref01_Not.f a0 r3).bind fun r4 =>
  some r4
theorem saturateref01_Or.eq (fu : Nat) (a : Int × Int × Int × Unit) : bodyK Tryd.prog saturateref01_Or.cs saturateref01_Or.live fu Tryd.f57 false (saturateref01_Or.a.enc a) saturateref01_Or.r.dec = saturateref01_Or.f a.1 a.2.1 a.2.2.1 := by kernel_rfl
theorem saturateref01_Or.con : ∀ (a : Int × Int × Int × Unit) (r : Int), saturateref01_Or.f a.1 a.2.1 a.2.2.1 = some r → Contract Tryd.prog 57 (saturateref01_Or.a.enc a) (saturateref01_Or.r.enc r) := Contract.of_body (F := fun (a : Int × Int × Int × Unit) => saturateref01_Or.f a.1 a.2.1 a.2.2.1) (fn := Tryd.f57) (cs := saturateref01_Or.cs) (live := saturateref01_Or.live) (fuel := fuel0 + 1) (by kernel_rfl) (by kernel_rfl) mixed (saturateref01_Or.eq (fuel0 + 1))
noncomputable def saturateref01_Or.c : Kn Tryd.prog := Kn.of 57 saturateref01_Or.a saturateref01_Or.r (fun a => saturateref01_Or.f a.1 a.2.1 a.2.2.1) saturateref01_Or.con

/-! ### saturateref01_Xor: function 58 -/
def saturateref01_Xor.a : ACods (Int × Int × Int × Unit) := (.cons (.val (.int .i64)) (.cons (.val (.int .u64)) (.cons (.val (.int .u64)) .nil)))
def saturateref01_Xor.r : RCod (Int) := .val (.int .u64)
noncomputable def saturateref01_Xor.cs : List (Kn Tryd.prog) := [saturateref01_Or.c, saturateref01_And.c]
def saturateref01_Xor.live : Nat → Option Keep := liveOf []
noncomputable def saturateref01_Xor.body : Code := bodyOf Tryd.f58
noncomputable def saturateref01_Xor.K (fu : Nat) : Code → St → (Ex → St → Option (Int)) → Option (Int) := codeK Tryd.prog (saturateref01_Xor.cs) saturateref01_Xor.live fu
noncomputable def saturateref01_Xor.f (a0 : Int) (a1 : Int) (a2 : Int) : Option (Int) :=
  (saturateref01_Or.f a0 a1 a2).bind fun r1 =>
  (saturateref01_And.f a0 a1 a2).bind fun r2 =>
  some (IntKind.u64.wrap (r1 - r2))
theorem saturateref01_Xor.eq (fu : Nat) (a : Int × Int × Int × Unit) : bodyK Tryd.prog saturateref01_Xor.cs saturateref01_Xor.live fu Tryd.f58 false (saturateref01_Xor.a.enc a) saturateref01_Xor.r.dec = saturateref01_Xor.f a.1 a.2.1 a.2.2.1 := by kernel_rfl
theorem saturateref01_Xor.con : ∀ (a : Int × Int × Int × Unit) (r : Int), saturateref01_Xor.f a.1 a.2.1 a.2.2.1 = some r → Contract Tryd.prog 58 (saturateref01_Xor.a.enc a) (saturateref01_Xor.r.enc r) := Contract.of_body (F := fun (a : Int × Int × Int × Unit) => saturateref01_Xor.f a.1 a.2.1 a.2.2.1) (fn := Tryd.f58) (cs := saturateref01_Xor.cs) (live := saturateref01_Xor.live) (fuel := fuel0 + 1) (by kernel_rfl) (by kernel_rfl) mixed (saturateref01_Xor.eq (fuel0 + 1))
noncomputable def saturateref01_Xor.c : Kn Tryd.prog := Kn.of 58 saturateref01_Xor.a saturateref01_Xor.r (fun a => saturateref01_Xor.f a.1 a.2.1 a.2.2.1) saturateref01_Xor.con

/-! ### saturateref01_Sub: function 60 -/
def saturateref01_Sub.a : ACods (Int × Int × Int × Unit) := (.cons (.val (.int .i64)) (.cons (.val (.int .u64)) (.cons (.val (.int .u64)) .nil)))
def saturateref01_Sub.r : RCod (Int) := .val (.int .u64)
noncomputable def saturateref01_Sub.cs : List (Kn Tryd.prog) := [saturateref01_Neg.c, saturateref01_Add.c]
def saturateref01_Sub.live : Nat → Option Keep := liveOf []
noncomputable def saturateref01_Sub.body : Code := bodyOf Tryd.f60
noncomputable def saturateref01_Sub.K (fu : Nat) : Code → St → (Ex → St → Option (Int)) → Option (Int) := codeK Tryd.prog (saturateref01_Sub.cs) saturateref01_Sub.live fu
noncomputable def saturateref01_Sub.f (a0 : Int) (a1 : Int) (a2 : Int) : Option (Int) :=
  (saturateref01_Neg.f a0 a2).bind fun r1 =>
  (saturateref01_Add.f a0 a1 r1).bind fun r2 =>
  some r2
theorem saturateref01_Sub.eq (fu : Nat) (a : Int × Int × Int × Unit) : bodyK Tryd.prog saturateref01_Sub.cs saturateref01_Sub.live fu Tryd.f60 false (saturateref01_Sub.a.enc a) saturateref01_Sub.r.dec = saturateref01_Sub.f a.1 a.2.1 a.2.2.1 := by kernel_rfl
theorem saturateref01_Sub.con : ∀ (a : Int × Int × Int × Unit) (r : Int), saturateref01_Sub.f a.1 a.2.1 a.2.2.1 = some r → Contract Tryd.prog 60 (saturateref01_Sub.a.enc a) (saturateref01_Sub.r.enc r) := Contract.of_body (F := fun (a : Int × Int × Int × Unit) => saturateref01_Sub.f a.1 a.2.1 a.2.2.1) (fn := Tryd.f60) (cs := saturateref01_Sub.cs) (live := saturateref01_Sub.live) (fuel := fuel0 + 1) (by kernel_rfl) (by kernel_rfl) mixed (saturateref01_Sub.eq (fuel0 + 1))
noncomputable def saturateref01_Sub.c : Kn Tryd.prog := Kn.of 60 saturateref01_Sub.a saturateref01_Sub.r (fun a => saturateref01_Sub.f a.1 a.2.1 a.2.2.1) saturateref01_Sub.con

/-! ### saturateref01_Mul: function 61 -/
def saturateref01_Mul.a : ACods (Int × Int × Int × Unit) := (.cons (.val (.int .i64)) (.cons (.val (.int .u64)) (.cons (.val (.int .u64)) .nil)))
def saturateref01_Mul.r : RCod (Int) := .val (.int .u64)
noncomputable def saturateref01_Mul.cs : List (Kn Tryd.prog) := [saturateref01_W.c, saturateref01_Add.c, saturateref01_Bit.c]
def saturateref01_Mul.live : Nat → Option Keep := liveOf [(7, ⟨[0, 1, 2, 7, 8], [], [], [], []⟩), (8, ⟨[0, 1, 2, 7, 8], [], [], [], []⟩)]
noncomputable def saturateref01_Mul.body : Code := bodyOf Tryd.f61
noncomputable def saturateref01_Mul.K (fu : Nat) : Code → St → (Ex → St → Option (Int)) → Option (Int) := codeK Tryd.prog (saturateref01_Mul.cs) saturateref01_Mul.live fu
noncomputable def saturateref01_Mul.j3 (fu : Nat) (n3 : Nat) (x0 : Int) (x1 : Int) (x2 : Int) (x7 : Int) (x8 : Int) : Option Int :=
  loopK (saturateref01_Mul.K fu (sub saturateref01_Mul.body [true, true, false, true, false, false])) (saturateref01_Mul.live 7) n3 (stOf 29 [(0, .val (.int .i64 x0)), (1, .val (.int .u64 x1)), (2, .val (.int .u64 x2)), (7, .val (.int .u64 x7)), (8, .val (.int .i64 x8))] []) (blockC 0 (seqC fu (saturateref01_Mul.live 16) (saturateref01_Mul.K fu (sub saturateref01_Mul.body [true, true, true])) (retC Tryd.prog false (Tryd.f61.results) saturateref01_Mul.r.dec)))
noncomputable def saturateref01_Mul.p4 (m fu : Nat) (n3 : Nat) (x0 : Int) (x1 : Int) (x2 : Int) (x7 : Int) (x8 : Int) : Option Int :=
  joinK m (saturateref01_Mul.K fu (sub saturateref01_Mul.body [true, true, false, true, false, false, true, true])) (stOf 29 [(0, .val (.int .i64 x0)), (1, .val (.int .u64 x1)), (2, .val (.int .u64 x2)), (7, .val (.int .u64 x7)), (8, .val (.int .i64 x8))] []) (roundC (saturateref01_Mul.live 7) (loopK (saturateref01_Mul.K fu (sub saturateref01_Mul.body [true, true, false, true, false, false])) (saturateref01_Mul.live 7) n3) (blockC 0 (seqC fu (saturateref01_Mul.live 16) (saturateref01_Mul.K fu (sub saturateref01_Mul.body [true, true, true])) (retC Tryd.prog false (Tryd.f61.results) saturateref01_Mul.r.dec))))
theorem saturateref01_Mul.p4_eq (m fu : Nat) (n3 : Nat) (x0 : Int) (x1 : Int) (x2 : Int) (x7 : Int) (x8 : Int) : saturateref01_Mul.p4 (m + 1) fu n3 x0 x1 x2 x7 x8 =
  saturateref01_Mul.j3 fu n3 x0 x1 x2 x7 (IntKind.i64.wrap (x8 - 1)) := by kernel_rfl
theorem saturateref01_Mul.j3_succ (fu : Nat) (n3 : Nat) (x0 : Int) (x1 : Int) (x2 : Int) (x7 : Int) (x8 : Int) : saturateref01_Mul.j3 fu (n3 + 1) x0 x1 x2 x7 x8 =
  bif (decide (x8 ≥ 0)) then
    (saturateref01_Add.f x0 x7 x7).bind fun r2 =>
    (saturateref01_Bit.f x2 x8).bind fun r3 =>
    bif (r3 == 1) then
      (saturateref01_Add.f x0 r2 x1).bind fun r4 =>
      saturateref01_Mul.p4 fu fu n3 x0 x1 x2 r4 x8
    else
      saturateref01_Mul.p4 fu fu n3 x0 x1 x2 r2 x8
  else
    some x7 := by kernel_rfl
noncomputable def saturateref01_Mul.g (fu : Nat) (a0 : Int) (a1 : Int) (a2 : Int) : Option (Int) :=
  (saturateref01_W.f a0).bind fun r1 =>
  saturateref01_Mul.j3 fu fu a0 a1 a2 0 (IntKind.i64.wrap (r1 - 1))
noncomputable def saturateref01_Mul.f (a0 : Int) (a1 : Int) (a2 : Int) : Option (Int) := saturateref01_Mul.g (fuel0 + 1) a0 a1 a2
theorem saturateref01_Mul.eq (fu : Nat) (a : Int × Int × Int × Unit) : bodyK Tryd.prog saturateref01_Mul.cs saturateref01_Mul.live fu Tryd.f61 false (saturateref01_Mul.a.enc a) saturateref01_Mul.r.dec = saturateref01_Mul.g fu a.1 a.2.1 a.2.2.1 := by kernel_rfl
theorem saturateref01_Mul.con : ∀ (a : Int × Int × Int × Unit) (r : Int), saturateref01_Mul.f a.1 a.2.1 a.2.2.1 = some r → Contract Tryd.prog 61 (saturateref01_Mul.a.enc a) (saturateref01_Mul.r.enc r) := Contract.of_body (F := fun (a : Int × Int × Int × Unit) => saturateref01_Mul.f a.1 a.2.1 a.2.2.1) (fn := Tryd.f61) (cs := saturateref01_Mul.cs) (live := saturateref01_Mul.live) (fuel := fuel0 + 1) (by kernel_rfl) (by kernel_rfl) mixed (saturateref01_Mul.eq (fuel0 + 1))
noncomputable def saturateref01_Mul.c : Kn Tryd.prog := Kn.of 61 saturateref01_Mul.a saturateref01_Mul.r (fun a => saturateref01_Mul.f a.1 a.2.1 a.2.2.1) saturateref01_Mul.con

/-! ### saturateref01_divide: function 82 -/
def saturateref01_divide.a : ACods (Int × Int × Unit) := (.cons (.val (.int .u64)) (.cons (.val (.int .u64)) .nil))
def saturateref01_divide.r : RCod (Int × Int) := .val (.tup (.cons (.int .u64) (.one (.int .u64))))
noncomputable def saturateref01_divide.cs : List (Kn Tryd.prog) := [saturateref01_Bit.c]
def saturateref01_divide.live : Nat → Option Keep := liveOf [(7, ⟨[0, 1, 6, 7, 8], [], [], [], []⟩), (8, ⟨[0, 1, 6, 7, 8], [], [], [], []⟩)]
noncomputable def saturateref01_divide.body : Code := bodyOf Tryd.f82
noncomputable def saturateref01_divide.K (fu : Nat) : Code → St → (Ex → St → Option (Int × Int)) → Option (Int × Int) := codeK Tryd.prog (saturateref01_divide.cs) saturateref01_divide.live fu
noncomputable def saturateref01_divide.j3 (fu : Nat) (n3 : Nat) (x0 : Int) (x1 : Int) (x6 : Int) (x7 : Int) (x8 : Int) : Option (Int × Int) :=
  loopK (saturateref01_divide.K fu (sub saturateref01_divide.body [true, true, false, true, false, false])) (saturateref01_divide.live 7) n3 (stOf 39 [(0, .val (.int .u64 x0)), (1, .val (.int .u64 x1)), (6, .val (.int .u64 x6)), (7, .val (.int .u64 x7)), (8, .val (.int .i64 x8))] []) (blockC 0 (seqC fu (saturateref01_divide.live 20) (saturateref01_divide.K fu (sub saturateref01_divide.body [true, true, true])) (retC Tryd.prog false (Tryd.f82.results) saturateref01_divide.r.dec)))
noncomputable def saturateref01_divide.p4 (m fu : Nat) (n3 : Nat) (x0 : Int) (x1 : Int) (x6 : Int) (x7 : Int) (x8 : Int) : Option (Int × Int) :=
  joinK m (saturateref01_divide.K fu (sub saturateref01_divide.body [true, true, false, true, false, false, true, true])) (stOf 39 [(0, .val (.int .u64 x0)), (1, .val (.int .u64 x1)), (6, .val (.int .u64 x6)), (7, .val (.int .u64 x7)), (8, .val (.int .i64 x8))] []) (roundC (saturateref01_divide.live 7) (loopK (saturateref01_divide.K fu (sub saturateref01_divide.body [true, true, false, true, false, false])) (saturateref01_divide.live 7) n3) (blockC 0 (seqC fu (saturateref01_divide.live 20) (saturateref01_divide.K fu (sub saturateref01_divide.body [true, true, true])) (retC Tryd.prog false (Tryd.f82.results) saturateref01_divide.r.dec))))
theorem saturateref01_divide.p4_eq (m fu : Nat) (n3 : Nat) (x0 : Int) (x1 : Int) (x6 : Int) (x7 : Int) (x8 : Int) : saturateref01_divide.p4 (m + 1) fu n3 x0 x1 x6 x7 x8 =
  saturateref01_divide.j3 fu n3 x0 x1 x6 x7 (IntKind.i64.wrap (x8 - 1)) := by kernel_rfl
theorem saturateref01_divide.j3_succ (fu : Nat) (n3 : Nat) (x0 : Int) (x1 : Int) (x6 : Int) (x7 : Int) (x8 : Int) : saturateref01_divide.j3 fu (n3 + 1) x0 x1 x6 x7 x8 =
  bif (decide (x8 ≥ 0)) then
    (saturateref01_Bit.f x7 63).bind fun r1 =>
    (saturateref01_Bit.f x0 x8).bind fun r2 =>
    bif (r1 == 1) then
      bif decide ((IntKind.u64.wrap x8) < 0) then
        none
      else
        saturateref01_divide.p4 fu fu n3 x0 x1 (Go.bits .or .u64 x6 (shl .u64 1 (IntKind.u64.wrap x8))) (IntKind.u64.wrap ((IntKind.u64.wrap ((IntKind.u64.wrap (x7 * 2)) + r2)) - x1)) x8
    else
      bif (decide ((IntKind.u64.wrap ((IntKind.u64.wrap (x7 * 2)) + r2)) ≥ x1)) then
        bif decide ((IntKind.u64.wrap x8) < 0) then
          none
        else
          saturateref01_divide.p4 fu fu n3 x0 x1 (Go.bits .or .u64 x6 (shl .u64 1 (IntKind.u64.wrap x8))) (IntKind.u64.wrap ((IntKind.u64.wrap ((IntKind.u64.wrap (x7 * 2)) + r2)) - x1)) x8
      else
        saturateref01_divide.p4 fu fu n3 x0 x1 x6 (IntKind.u64.wrap ((IntKind.u64.wrap (x7 * 2)) + r2)) x8
  else
    some (x6, x7) := by kernel_rfl
noncomputable def saturateref01_divide.g (fu : Nat) (a0 : Int) (a1 : Int) : Option (Int × Int) :=
  saturateref01_divide.j3 fu fu a0 a1 0 0 63
noncomputable def saturateref01_divide.f (a0 : Int) (a1 : Int) : Option (Int × Int) := saturateref01_divide.g (fuel0 + 1) a0 a1
theorem saturateref01_divide.eq (fu : Nat) (a : Int × Int × Unit) : bodyK Tryd.prog saturateref01_divide.cs saturateref01_divide.live fu Tryd.f82 false (saturateref01_divide.a.enc a) saturateref01_divide.r.dec = saturateref01_divide.g fu a.1 a.2.1 := by kernel_rfl
theorem saturateref01_divide.con : ∀ (a : Int × Int × Unit) (r : Int × Int), saturateref01_divide.f a.1 a.2.1 = some r → Contract Tryd.prog 82 (saturateref01_divide.a.enc a) (saturateref01_divide.r.enc r) := Contract.of_body (F := fun (a : Int × Int × Unit) => saturateref01_divide.f a.1 a.2.1) (fn := Tryd.f82) (cs := saturateref01_divide.cs) (live := saturateref01_divide.live) (fuel := fuel0 + 1) (by kernel_rfl) (by kernel_rfl) mixed (saturateref01_divide.eq (fuel0 + 1))
noncomputable def saturateref01_divide.c : Kn Tryd.prog := Kn.of 82 saturateref01_divide.a saturateref01_divide.r (fun a => saturateref01_divide.f a.1 a.2.1) saturateref01_divide.con

/-! ### saturateref01_Udiv: function 62 -/
def saturateref01_Udiv.a : ACods (Int × Int × Int × Unit) := (.cons (.val (.int .i64)) (.cons (.val (.int .u64)) (.cons (.val (.int .u64)) .nil)))
def saturateref01_Udiv.r : RCod (Int) := .val (.int .u64)
noncomputable def saturateref01_Udiv.cs : List (Kn Tryd.prog) := [saturateref01_Cut.c, saturateref01_Mask.c, saturateref01_divide.c]
def saturateref01_Udiv.live : Nat → Option Keep := liveOf []
noncomputable def saturateref01_Udiv.body : Code := bodyOf Tryd.f62
noncomputable def saturateref01_Udiv.K (fu : Nat) : Code → St → (Ex → St → Option (Int)) → Option (Int) := codeK Tryd.prog (saturateref01_Udiv.cs) saturateref01_Udiv.live fu
noncomputable def saturateref01_Udiv.f (a0 : Int) (a1 : Int) (a2 : Int) : Option (Int) :=
  (saturateref01_Cut.f a0 a2).bind fun r1 =>
  bif (r1 == 0) then
    (saturateref01_Mask.f a0).bind fun r2 =>
    some r2
  else
    (saturateref01_Cut.f a0 a1).bind fun r3 =>
    (saturateref01_Cut.f a0 a2).bind fun r4 =>
    (saturateref01_divide.f r3 r4).bind fun r5 =>
    some r5.1
theorem saturateref01_Udiv.eq (fu : Nat) (a : Int × Int × Int × Unit) : bodyK Tryd.prog saturateref01_Udiv.cs saturateref01_Udiv.live fu Tryd.f62 false (saturateref01_Udiv.a.enc a) saturateref01_Udiv.r.dec = saturateref01_Udiv.f a.1 a.2.1 a.2.2.1 := by kernel_rfl
theorem saturateref01_Udiv.con : ∀ (a : Int × Int × Int × Unit) (r : Int), saturateref01_Udiv.f a.1 a.2.1 a.2.2.1 = some r → Contract Tryd.prog 62 (saturateref01_Udiv.a.enc a) (saturateref01_Udiv.r.enc r) := Contract.of_body (F := fun (a : Int × Int × Int × Unit) => saturateref01_Udiv.f a.1 a.2.1 a.2.2.1) (fn := Tryd.f62) (cs := saturateref01_Udiv.cs) (live := saturateref01_Udiv.live) (fuel := fuel0 + 1) (by kernel_rfl) (by kernel_rfl) mixed (saturateref01_Udiv.eq (fuel0 + 1))
noncomputable def saturateref01_Udiv.c : Kn Tryd.prog := Kn.of 62 saturateref01_Udiv.a saturateref01_Udiv.r (fun a => saturateref01_Udiv.f a.1 a.2.1 a.2.2.1) saturateref01_Udiv.con

/-! ### saturateref01_Urem: function 63 -/
def saturateref01_Urem.a : ACods (Int × Int × Int × Unit) := (.cons (.val (.int .i64)) (.cons (.val (.int .u64)) (.cons (.val (.int .u64)) .nil)))
def saturateref01_Urem.r : RCod (Int) := .val (.int .u64)
noncomputable def saturateref01_Urem.cs : List (Kn Tryd.prog) := [saturateref01_Cut.c, saturateref01_divide.c]
def saturateref01_Urem.live : Nat → Option Keep := liveOf []
noncomputable def saturateref01_Urem.body : Code := bodyOf Tryd.f63
noncomputable def saturateref01_Urem.K (fu : Nat) : Code → St → (Ex → St → Option (Int)) → Option (Int) := codeK Tryd.prog (saturateref01_Urem.cs) saturateref01_Urem.live fu
noncomputable def saturateref01_Urem.f (a0 : Int) (a1 : Int) (a2 : Int) : Option (Int) :=
  (saturateref01_Cut.f a0 a2).bind fun r1 =>
  bif (r1 == 0) then
    (saturateref01_Cut.f a0 a1).bind fun r2 =>
    some r2
  else
    (saturateref01_Cut.f a0 a1).bind fun r3 =>
    (saturateref01_Cut.f a0 a2).bind fun r4 =>
    (saturateref01_divide.f r3 r4).bind fun r5 =>
    some r5.2
theorem saturateref01_Urem.eq (fu : Nat) (a : Int × Int × Int × Unit) : bodyK Tryd.prog saturateref01_Urem.cs saturateref01_Urem.live fu Tryd.f63 false (saturateref01_Urem.a.enc a) saturateref01_Urem.r.dec = saturateref01_Urem.f a.1 a.2.1 a.2.2.1 := by kernel_rfl
theorem saturateref01_Urem.con : ∀ (a : Int × Int × Int × Unit) (r : Int), saturateref01_Urem.f a.1 a.2.1 a.2.2.1 = some r → Contract Tryd.prog 63 (saturateref01_Urem.a.enc a) (saturateref01_Urem.r.enc r) := Contract.of_body (F := fun (a : Int × Int × Int × Unit) => saturateref01_Urem.f a.1 a.2.1 a.2.2.1) (fn := Tryd.f63) (cs := saturateref01_Urem.cs) (live := saturateref01_Urem.live) (fuel := fuel0 + 1) (by kernel_rfl) (by kernel_rfl) mixed (saturateref01_Urem.eq (fuel0 + 1))
noncomputable def saturateref01_Urem.c : Kn Tryd.prog := Kn.of 63 saturateref01_Urem.a saturateref01_Urem.r (fun a => saturateref01_Urem.f a.1 a.2.1 a.2.2.1) saturateref01_Urem.con

/-! ### saturateref01_by: function 95 -/
def saturateref01_by.a : ACods (Int × Int × Unit) := (.cons (.val (.int .i64)) (.cons (.val (.int .u64)) .nil))
def saturateref01_by.r : RCod (Int) := .val (.int .i64)
noncomputable def saturateref01_by.cs : List (Kn Tryd.prog) := [saturateref01_Cut.c]
def saturateref01_by.live : Nat → Option Keep := liveOf []
noncomputable def saturateref01_by.body : Code := bodyOf Tryd.f95
noncomputable def saturateref01_by.K (fu : Nat) : Code → St → (Ex → St → Option (Int)) → Option (Int) := codeK Tryd.prog (saturateref01_by.cs) saturateref01_by.live fu
noncomputable def saturateref01_by.f (a0 : Int) (a1 : Int) : Option (Int) :=
  (saturateref01_Cut.f a0 a1).bind fun r1 =>
  some (IntKind.i64.wrap (mn r1 64))
theorem saturateref01_by.eq (fu : Nat) (a : Int × Int × Unit) : bodyK Tryd.prog saturateref01_by.cs saturateref01_by.live fu Tryd.f95 false (saturateref01_by.a.enc a) saturateref01_by.r.dec = saturateref01_by.f a.1 a.2.1 := by kernel_rfl
theorem saturateref01_by.con : ∀ (a : Int × Int × Unit) (r : Int), saturateref01_by.f a.1 a.2.1 = some r → Contract Tryd.prog 95 (saturateref01_by.a.enc a) (saturateref01_by.r.enc r) := Contract.of_body (F := fun (a : Int × Int × Unit) => saturateref01_by.f a.1 a.2.1) (fn := Tryd.f95) (cs := saturateref01_by.cs) (live := saturateref01_by.live) (fuel := fuel0 + 1) (by kernel_rfl) (by kernel_rfl) mixed (saturateref01_by.eq (fuel0 + 1))
noncomputable def saturateref01_by.c : Kn Tryd.prog := Kn.of 95 saturateref01_by.a saturateref01_by.r (fun a => saturateref01_by.f a.1 a.2.1) saturateref01_by.con

/-! ### saturateref01_shift: function 94 -/
def saturateref01_shift.a : ACods (Int × Int × Int × Int × Unit) := (.cons (.val (.int .i64)) (.cons (.val (.int .u64)) (.cons (.val (.int .i64)) (.cons (.val (.int .u64)) .nil))))
def saturateref01_shift.r : RCod (Int) := .val (.int .u64)
noncomputable def saturateref01_shift.cs : List (Kn Tryd.prog) := [saturateref01_W.c, saturateref01_Bit.c]
def saturateref01_shift.live : Nat → Option Keep := liveOf [(7, ⟨[0, 1, 2, 3, 9, 13, 14], [], [], [], []⟩), (16, ⟨[0, 1, 2, 3, 9, 10, 11, 13, 14], [], [], [], []⟩)]
noncomputable def saturateref01_shift.body : Code := bodyOf Tryd.f94
noncomputable def saturateref01_shift.K (fu : Nat) : Code → St → (Ex → St → Option (Int)) → Option (Int) := codeK Tryd.prog (saturateref01_shift.cs) saturateref01_shift.live fu
noncomputable def saturateref01_shift.j3 (fu : Nat) (n3 : Nat) (x0 : Int) (x1 : Int) (x2 : Int) (x3 : Int) (x9 : Int) (x13 : Int) (x14 : Int) : Option Int :=
  loopK (saturateref01_shift.K fu (sub saturateref01_shift.body [true, true, false, true, false, false])) (saturateref01_shift.live 7) n3 (stOf 37 [(0, .val (.int .i64 x0)), (1, .val (.int .u64 x1)), (2, .val (.int .i64 x2)), (3, .val (.int .u64 x3)), (9, .val (.int .u64 x9)), (13, .val (.int .i64 x13)), (14, .val (.int .i64 x14))] []) (blockC 0 (seqC fu (saturateref01_shift.live 20) (saturateref01_shift.K fu (sub saturateref01_shift.body [true, true, true])) (retC Tryd.prog false (Tryd.f94.results) saturateref01_shift.r.dec)))
noncomputable def saturateref01_shift.p8 (m fu : Nat) (n3 : Nat) (x0 : Int) (x1 : Int) (x2 : Int) (x3 : Int) (x9 : Int) (x10 : Int) (x11 : Int) (x13 : Int) (x14 : Int) : Option Int :=
  joinK m (saturateref01_shift.K fu (sub saturateref01_shift.body [true, true, false, true, false, false, true, true, false, false, true, true, true])) (stOf 37 [(0, .val (.int .i64 x0)), (1, .val (.int .u64 x1)), (2, .val (.int .i64 x2)), (3, .val (.int .u64 x3)), (9, .val (.int .u64 x9)), (10, .val (.int .i64 x10)), (11, .val (.int .u64 x11)), (13, .val (.int .i64 x13)), (14, .val (.int .i64 x14))] []) (blockC 1 (seqC fu (saturateref01_shift.live 18) (saturateref01_shift.K fu (sub saturateref01_shift.body [true, true, false, true, false, false, true, true, true])) (roundC (saturateref01_shift.live 7) (loopK (saturateref01_shift.K fu (sub saturateref01_shift.body [true, true, false, true, false, false])) (saturateref01_shift.live 7) n3) (blockC 0 (seqC fu (saturateref01_shift.live 20) (saturateref01_shift.K fu (sub saturateref01_shift.body [true, true, true])) (retC Tryd.prog false (Tryd.f94.results) saturateref01_shift.r.dec))))))
theorem saturateref01_shift.p8_eq (m fu : Nat) (n3 : Nat) (x0 : Int) (x1 : Int) (x2 : Int) (x3 : Int) (x9 : Int) (x10 : Int) (x11 : Int) (x13 : Int) (x14 : Int) : saturateref01_shift.p8 (m + 1) fu n3 x0 x1 x2 x3 x9 x10 x11 x13 x14 =
  bif decide ((IntKind.u64.wrap x10) < 0) then
    none
  else
    saturateref01_shift.j3 fu n3 x0 x1 x2 x3 (Go.bits .or .u64 x9 (shl .u64 x11 (IntKind.u64.wrap x10))) x13 (IntKind.i64.wrap (x14 + 1)) := by kernel_rfl
theorem saturateref01_shift.j3_succ (fu : Nat) (n3 : Nat) (x0 : Int) (x1 : Int) (x2 : Int) (x3 : Int) (x9 : Int) (x13 : Int) (x14 : Int) : saturateref01_shift.j3 fu (n3 + 1) x0 x1 x2 x3 x9 x13 x14 =
  bif (decide (x14 < x13)) then
    (saturateref01_W.f x0).bind fun r2 =>
    bif (decide ((IntKind.i64.wrap (x14 + x2)) < r2)) then
      (saturateref01_Bit.f x1 (IntKind.i64.wrap (x14 + x2))).bind fun r3 =>
      saturateref01_shift.p8 fu fu n3 x0 x1 x2 x3 x9 x14 r3 x13 x14
    else
      saturateref01_shift.p8 fu fu n3 x0 x1 x2 x3 x9 x14 x3 x13 x14
  else
    some x9 := by kernel_rfl
noncomputable def saturateref01_shift.g (fu : Nat) (a0 : Int) (a1 : Int) (a2 : Int) (a3 : Int) : Option (Int) :=
  (saturateref01_W.f a0).bind fun r1 =>
  saturateref01_shift.j3 fu fu a0 a1 a2 a3 0 r1 0
noncomputable def saturateref01_shift.f (a0 : Int) (a1 : Int) (a2 : Int) (a3 : Int) : Option (Int) := saturateref01_shift.g (fuel0 + 1) a0 a1 a2 a3
theorem saturateref01_shift.eq (fu : Nat) (a : Int × Int × Int × Int × Unit) : bodyK Tryd.prog saturateref01_shift.cs saturateref01_shift.live fu Tryd.f94 false (saturateref01_shift.a.enc a) saturateref01_shift.r.dec = saturateref01_shift.g fu a.1 a.2.1 a.2.2.1 a.2.2.2.1 := by kernel_rfl
theorem saturateref01_shift.con : ∀ (a : Int × Int × Int × Int × Unit) (r : Int), saturateref01_shift.f a.1 a.2.1 a.2.2.1 a.2.2.2.1 = some r → Contract Tryd.prog 94 (saturateref01_shift.a.enc a) (saturateref01_shift.r.enc r) := Contract.of_body (F := fun (a : Int × Int × Int × Int × Unit) => saturateref01_shift.f a.1 a.2.1 a.2.2.1 a.2.2.2.1) (fn := Tryd.f94) (cs := saturateref01_shift.cs) (live := saturateref01_shift.live) (fuel := fuel0 + 1) (by kernel_rfl) (by kernel_rfl) mixed (saturateref01_shift.eq (fuel0 + 1))
noncomputable def saturateref01_shift.c : Kn Tryd.prog := Kn.of 94 saturateref01_shift.a saturateref01_shift.r (fun a => saturateref01_shift.f a.1 a.2.1 a.2.2.1 a.2.2.2.1) saturateref01_shift.con

/-! ### saturateref01_Shl: function 83 -/
def saturateref01_Shl.a : ACods (Int × Int × Int × Unit) := (.cons (.val (.int .i64)) (.cons (.val (.int .u64)) (.cons (.val (.int .u64)) .nil)))
def saturateref01_Shl.r : RCod (Int) := .val (.int .u64)
noncomputable def saturateref01_Shl.cs : List (Kn Tryd.prog) := [saturateref01_by.c, saturateref01_shift.c]
def saturateref01_Shl.live : Nat → Option Keep := liveOf []
noncomputable def saturateref01_Shl.body : Code := bodyOf Tryd.f83
noncomputable def saturateref01_Shl.K (fu : Nat) : Code → St → (Ex → St → Option (Int)) → Option (Int) := codeK Tryd.prog (saturateref01_Shl.cs) saturateref01_Shl.live fu
noncomputable def saturateref01_Shl.f (a0 : Int) (a1 : Int) (a2 : Int) : Option (Int) :=
  (saturateref01_by.f a0 a2).bind fun r1 =>
  (saturateref01_shift.f a0 a1 (IntKind.i64.wrap (0 - r1)) 0).bind fun r2 =>
  some r2
theorem saturateref01_Shl.eq (fu : Nat) (a : Int × Int × Int × Unit) : bodyK Tryd.prog saturateref01_Shl.cs saturateref01_Shl.live fu Tryd.f83 false (saturateref01_Shl.a.enc a) saturateref01_Shl.r.dec = saturateref01_Shl.f a.1 a.2.1 a.2.2.1 := by kernel_rfl
theorem saturateref01_Shl.con : ∀ (a : Int × Int × Int × Unit) (r : Int), saturateref01_Shl.f a.1 a.2.1 a.2.2.1 = some r → Contract Tryd.prog 83 (saturateref01_Shl.a.enc a) (saturateref01_Shl.r.enc r) := Contract.of_body (F := fun (a : Int × Int × Int × Unit) => saturateref01_Shl.f a.1 a.2.1 a.2.2.1) (fn := Tryd.f83) (cs := saturateref01_Shl.cs) (live := saturateref01_Shl.live) (fuel := fuel0 + 1) (by kernel_rfl) (by kernel_rfl) mixed (saturateref01_Shl.eq (fuel0 + 1))
noncomputable def saturateref01_Shl.c : Kn Tryd.prog := Kn.of 83 saturateref01_Shl.a saturateref01_Shl.r (fun a => saturateref01_Shl.f a.1 a.2.1 a.2.2.1) saturateref01_Shl.con

/-! ### saturateref01_Lshr: function 84 -/
def saturateref01_Lshr.a : ACods (Int × Int × Int × Unit) := (.cons (.val (.int .i64)) (.cons (.val (.int .u64)) (.cons (.val (.int .u64)) .nil)))
def saturateref01_Lshr.r : RCod (Int) := .val (.int .u64)
noncomputable def saturateref01_Lshr.cs : List (Kn Tryd.prog) := [saturateref01_by.c, saturateref01_shift.c]
def saturateref01_Lshr.live : Nat → Option Keep := liveOf []
noncomputable def saturateref01_Lshr.body : Code := bodyOf Tryd.f84
noncomputable def saturateref01_Lshr.K (fu : Nat) : Code → St → (Ex → St → Option (Int)) → Option (Int) := codeK Tryd.prog (saturateref01_Lshr.cs) saturateref01_Lshr.live fu
noncomputable def saturateref01_Lshr.f (a0 : Int) (a1 : Int) (a2 : Int) : Option (Int) :=
  (saturateref01_by.f a0 a2).bind fun r1 =>
  (saturateref01_shift.f a0 a1 r1 0).bind fun r2 =>
  some r2
theorem saturateref01_Lshr.eq (fu : Nat) (a : Int × Int × Int × Unit) : bodyK Tryd.prog saturateref01_Lshr.cs saturateref01_Lshr.live fu Tryd.f84 false (saturateref01_Lshr.a.enc a) saturateref01_Lshr.r.dec = saturateref01_Lshr.f a.1 a.2.1 a.2.2.1 := by kernel_rfl
theorem saturateref01_Lshr.con : ∀ (a : Int × Int × Int × Unit) (r : Int), saturateref01_Lshr.f a.1 a.2.1 a.2.2.1 = some r → Contract Tryd.prog 84 (saturateref01_Lshr.a.enc a) (saturateref01_Lshr.r.enc r) := Contract.of_body (F := fun (a : Int × Int × Int × Unit) => saturateref01_Lshr.f a.1 a.2.1 a.2.2.1) (fn := Tryd.f84) (cs := saturateref01_Lshr.cs) (live := saturateref01_Lshr.live) (fuel := fuel0 + 1) (by kernel_rfl) (by kernel_rfl) mixed (saturateref01_Lshr.eq (fuel0 + 1))
noncomputable def saturateref01_Lshr.c : Kn Tryd.prog := Kn.of 84 saturateref01_Lshr.a saturateref01_Lshr.r (fun a => saturateref01_Lshr.f a.1 a.2.1 a.2.2.1) saturateref01_Lshr.con

/-! ### saturateref01_Ashr: function 85 -/
def saturateref01_Ashr.a : ACods (Int × Int × Int × Unit) := (.cons (.val (.int .i64)) (.cons (.val (.int .u64)) (.cons (.val (.int .u64)) .nil)))
def saturateref01_Ashr.r : RCod (Int) := .val (.int .u64)
noncomputable def saturateref01_Ashr.cs : List (Kn Tryd.prog) := [saturateref01_by.c, saturateref01_W.c, saturateref01_Bit.c, saturateref01_shift.c]
def saturateref01_Ashr.live : Nat → Option Keep := liveOf []
noncomputable def saturateref01_Ashr.body : Code := bodyOf Tryd.f85
noncomputable def saturateref01_Ashr.K (fu : Nat) : Code → St → (Ex → St → Option (Int)) → Option (Int) := codeK Tryd.prog (saturateref01_Ashr.cs) saturateref01_Ashr.live fu
noncomputable def saturateref01_Ashr.f (a0 : Int) (a1 : Int) (a2 : Int) : Option (Int) :=
  (saturateref01_by.f a0 a2).bind fun r1 =>
  (saturateref01_W.f a0).bind fun r2 =>
  (saturateref01_Bit.f a1 (IntKind.i64.wrap (r2 - 1))).bind fun r3 =>
  (saturateref01_shift.f a0 a1 r1 r3).bind fun r4 =>
  some r4
theorem saturateref01_Ashr.eq (fu : Nat) (a : Int × Int × Int × Unit) : bodyK Tryd.prog saturateref01_Ashr.cs saturateref01_Ashr.live fu Tryd.f85 false (saturateref01_Ashr.a.enc a) saturateref01_Ashr.r.dec = saturateref01_Ashr.f a.1 a.2.1 a.2.2.1 := by kernel_rfl
theorem saturateref01_Ashr.con : ∀ (a : Int × Int × Int × Unit) (r : Int), saturateref01_Ashr.f a.1 a.2.1 a.2.2.1 = some r → Contract Tryd.prog 85 (saturateref01_Ashr.a.enc a) (saturateref01_Ashr.r.enc r) := Contract.of_body (F := fun (a : Int × Int × Int × Unit) => saturateref01_Ashr.f a.1 a.2.1 a.2.2.1) (fn := Tryd.f85) (cs := saturateref01_Ashr.cs) (live := saturateref01_Ashr.live) (fuel := fuel0 + 1) (by kernel_rfl) (by kernel_rfl) mixed (saturateref01_Ashr.eq (fuel0 + 1))
noncomputable def saturateref01_Ashr.c : Kn Tryd.prog := Kn.of 85 saturateref01_Ashr.a saturateref01_Ashr.r (fun a => saturateref01_Ashr.f a.1 a.2.1 a.2.2.1) saturateref01_Ashr.con

/-! ### saturateref01_truth: function 96 -/
def saturateref01_truth.a : ACods (Bool × Unit) := (.cons (.val (.bool)) .nil)
def saturateref01_truth.r : RCod (Int) := .val (.int .u64)
noncomputable def saturateref01_truth.cs : List (Kn Tryd.prog) := []
def saturateref01_truth.live : Nat → Option Keep := liveOf []
noncomputable def saturateref01_truth.body : Code := bodyOf Tryd.f96
noncomputable def saturateref01_truth.K (fu : Nat) : Code → St → (Ex → St → Option (Int)) → Option (Int) := codeK Tryd.prog (saturateref01_truth.cs) saturateref01_truth.live fu
noncomputable def saturateref01_truth.f (a0 : Bool) : Option (Int) :=
  bif a0 then
    some 1
  else
    some 0
theorem saturateref01_truth.eq (fu : Nat) (a : Bool × Unit) : bodyK Tryd.prog saturateref01_truth.cs saturateref01_truth.live fu Tryd.f96 false (saturateref01_truth.a.enc a) saturateref01_truth.r.dec = saturateref01_truth.f a.1 := by kernel_rfl
theorem saturateref01_truth.con : ∀ (a : Bool × Unit) (r : Int), saturateref01_truth.f a.1 = some r → Contract Tryd.prog 96 (saturateref01_truth.a.enc a) (saturateref01_truth.r.enc r) := Contract.of_body (F := fun (a : Bool × Unit) => saturateref01_truth.f a.1) (fn := Tryd.f96) (cs := saturateref01_truth.cs) (live := saturateref01_truth.live) (fuel := fuel0 + 1) (by kernel_rfl) (by kernel_rfl) mixed (saturateref01_truth.eq (fuel0 + 1))
noncomputable def saturateref01_truth.c : Kn Tryd.prog := Kn.of 96 saturateref01_truth.a saturateref01_truth.r (fun a => saturateref01_truth.f a.1) saturateref01_truth.con

/-! ### saturateref01_Eq: function 86 -/
def saturateref01_Eq.a : ACods (Int × Int × Int × Unit) := (.cons (.val (.int .i64)) (.cons (.val (.int .u64)) (.cons (.val (.int .u64)) .nil)))
def saturateref01_Eq.r : RCod (Int) := .val (.int .u64)
noncomputable def saturateref01_Eq.cs : List (Kn Tryd.prog) := [saturateref01_Cut.c, saturateref01_truth.c]
def saturateref01_Eq.live : Nat → Option Keep := liveOf []
noncomputable def saturateref01_Eq.body : Code := bodyOf Tryd.f86
noncomputable def saturateref01_Eq.K (fu : Nat) : Code → St → (Ex → St → Option (Int)) → Option (Int) := codeK Tryd.prog (saturateref01_Eq.cs) saturateref01_Eq.live fu
noncomputable def saturateref01_Eq.f (a0 : Int) (a1 : Int) (a2 : Int) : Option (Int) :=
  (saturateref01_Cut.f a0 a1).bind fun r1 =>
  (saturateref01_Cut.f a0 a2).bind fun r2 =>
  (saturateref01_truth.f (r1 == r2)).bind fun r3 =>
  some r3
theorem saturateref01_Eq.eq (fu : Nat) (a : Int × Int × Int × Unit) : bodyK Tryd.prog saturateref01_Eq.cs saturateref01_Eq.live fu Tryd.f86 false (saturateref01_Eq.a.enc a) saturateref01_Eq.r.dec = saturateref01_Eq.f a.1 a.2.1 a.2.2.1 := by kernel_rfl
theorem saturateref01_Eq.con : ∀ (a : Int × Int × Int × Unit) (r : Int), saturateref01_Eq.f a.1 a.2.1 a.2.2.1 = some r → Contract Tryd.prog 86 (saturateref01_Eq.a.enc a) (saturateref01_Eq.r.enc r) := Contract.of_body (F := fun (a : Int × Int × Int × Unit) => saturateref01_Eq.f a.1 a.2.1 a.2.2.1) (fn := Tryd.f86) (cs := saturateref01_Eq.cs) (live := saturateref01_Eq.live) (fuel := fuel0 + 1) (by kernel_rfl) (by kernel_rfl) mixed (saturateref01_Eq.eq (fuel0 + 1))
noncomputable def saturateref01_Eq.c : Kn Tryd.prog := Kn.of 86 saturateref01_Eq.a saturateref01_Eq.r (fun a => saturateref01_Eq.f a.1 a.2.1 a.2.2.1) saturateref01_Eq.con

/-! ### saturateref01_Ult: function 87 -/
def saturateref01_Ult.a : ACods (Int × Int × Int × Unit) := (.cons (.val (.int .i64)) (.cons (.val (.int .u64)) (.cons (.val (.int .u64)) .nil)))
def saturateref01_Ult.r : RCod (Int) := .val (.int .u64)
noncomputable def saturateref01_Ult.cs : List (Kn Tryd.prog) := [saturateref01_Cut.c, saturateref01_truth.c]
def saturateref01_Ult.live : Nat → Option Keep := liveOf []
noncomputable def saturateref01_Ult.body : Code := bodyOf Tryd.f87
noncomputable def saturateref01_Ult.K (fu : Nat) : Code → St → (Ex → St → Option (Int)) → Option (Int) := codeK Tryd.prog (saturateref01_Ult.cs) saturateref01_Ult.live fu
noncomputable def saturateref01_Ult.f (a0 : Int) (a1 : Int) (a2 : Int) : Option (Int) :=
  (saturateref01_Cut.f a0 a1).bind fun r1 =>
  (saturateref01_Cut.f a0 a2).bind fun r2 =>
  (saturateref01_truth.f (decide (r1 < r2))).bind fun r3 =>
  some r3
theorem saturateref01_Ult.eq (fu : Nat) (a : Int × Int × Int × Unit) : bodyK Tryd.prog saturateref01_Ult.cs saturateref01_Ult.live fu Tryd.f87 false (saturateref01_Ult.a.enc a) saturateref01_Ult.r.dec = saturateref01_Ult.f a.1 a.2.1 a.2.2.1 := by kernel_rfl
theorem saturateref01_Ult.con : ∀ (a : Int × Int × Int × Unit) (r : Int), saturateref01_Ult.f a.1 a.2.1 a.2.2.1 = some r → Contract Tryd.prog 87 (saturateref01_Ult.a.enc a) (saturateref01_Ult.r.enc r) := Contract.of_body (F := fun (a : Int × Int × Int × Unit) => saturateref01_Ult.f a.1 a.2.1 a.2.2.1) (fn := Tryd.f87) (cs := saturateref01_Ult.cs) (live := saturateref01_Ult.live) (fuel := fuel0 + 1) (by kernel_rfl) (by kernel_rfl) mixed (saturateref01_Ult.eq (fuel0 + 1))
noncomputable def saturateref01_Ult.c : Kn Tryd.prog := Kn.of 87 saturateref01_Ult.a saturateref01_Ult.r (fun a => saturateref01_Ult.f a.1 a.2.1 a.2.2.1) saturateref01_Ult.con

/-! ### saturateref01_Negative: function 98 -/
def saturateref01_Negative.a : ACods (Int × Int × Unit) := (.cons (.val (.int .i64)) (.cons (.val (.int .u64)) .nil))
def saturateref01_Negative.r : RCod (Bool) := .val (.bool)
noncomputable def saturateref01_Negative.cs : List (Kn Tryd.prog) := [saturateref01_W.c, saturateref01_Bit.c]
def saturateref01_Negative.live : Nat → Option Keep := liveOf []
noncomputable def saturateref01_Negative.body : Code := bodyOf Tryd.f98
noncomputable def saturateref01_Negative.K (fu : Nat) : Code → St → (Ex → St → Option (Bool)) → Option (Bool) := codeK Tryd.prog (saturateref01_Negative.cs) saturateref01_Negative.live fu
noncomputable def saturateref01_Negative.f (a0 : Int) (a1 : Int) : Option (Bool) :=
  (saturateref01_W.f a0).bind fun r1 =>
  (saturateref01_Bit.f a1 (IntKind.i64.wrap (r1 - 1))).bind fun r2 =>
  some (r2 == 1)
theorem saturateref01_Negative.eq (fu : Nat) (a : Int × Int × Unit) : bodyK Tryd.prog saturateref01_Negative.cs saturateref01_Negative.live fu Tryd.f98 false (saturateref01_Negative.a.enc a) saturateref01_Negative.r.dec = saturateref01_Negative.f a.1 a.2.1 := by kernel_rfl
theorem saturateref01_Negative.con : ∀ (a : Int × Int × Unit) (r : Bool), saturateref01_Negative.f a.1 a.2.1 = some r → Contract Tryd.prog 98 (saturateref01_Negative.a.enc a) (saturateref01_Negative.r.enc r) := Contract.of_body (F := fun (a : Int × Int × Unit) => saturateref01_Negative.f a.1 a.2.1) (fn := Tryd.f98) (cs := saturateref01_Negative.cs) (live := saturateref01_Negative.live) (fuel := fuel0 + 1) (by kernel_rfl) (by kernel_rfl) mixed (saturateref01_Negative.eq (fuel0 + 1))
noncomputable def saturateref01_Negative.c : Kn Tryd.prog := Kn.of 98 saturateref01_Negative.a saturateref01_Negative.r (fun a => saturateref01_Negative.f a.1 a.2.1) saturateref01_Negative.con

/-! ### saturateref01_Signed: function 97 -/
def saturateref01_Signed.a : ACods (Int × Int × Unit) := (.cons (.val (.int .i64)) (.cons (.val (.int .u64)) .nil))
def saturateref01_Signed.r : RCod (Int) := .val (.int .i64)
noncomputable def saturateref01_Signed.cs : List (Kn Tryd.prog) := [saturateref01_Cut.c, saturateref01_Negative.c, saturateref01_Mask.c]
def saturateref01_Signed.live : Nat → Option Keep := liveOf []
noncomputable def saturateref01_Signed.body : Code := bodyOf Tryd.f97
noncomputable def saturateref01_Signed.K (fu : Nat) : Code → St → (Ex → St → Option (Int)) → Option (Int) := codeK Tryd.prog (saturateref01_Signed.cs) saturateref01_Signed.live fu
noncomputable def saturateref01_Signed.f (a0 : Int) (a1 : Int) : Option (Int) :=
  (saturateref01_Cut.f a0 a1).bind fun r1 =>
  (saturateref01_Negative.f a0 a1).bind fun r2 =>
  bif r2 then
    (saturateref01_Mask.f a0).bind fun r3 =>
    some (IntKind.i64.wrap ((IntKind.i64.wrap (0 - (IntKind.i64.wrap (IntKind.u64.wrap (r3 - r1))))) - 1))
  else
    some (IntKind.i64.wrap r1)
theorem saturateref01_Signed.eq (fu : Nat) (a : Int × Int × Unit) : bodyK Tryd.prog saturateref01_Signed.cs saturateref01_Signed.live fu Tryd.f97 false (saturateref01_Signed.a.enc a) saturateref01_Signed.r.dec = saturateref01_Signed.f a.1 a.2.1 := by kernel_rfl
theorem saturateref01_Signed.con : ∀ (a : Int × Int × Unit) (r : Int), saturateref01_Signed.f a.1 a.2.1 = some r → Contract Tryd.prog 97 (saturateref01_Signed.a.enc a) (saturateref01_Signed.r.enc r) := Contract.of_body (F := fun (a : Int × Int × Unit) => saturateref01_Signed.f a.1 a.2.1) (fn := Tryd.f97) (cs := saturateref01_Signed.cs) (live := saturateref01_Signed.live) (fuel := fuel0 + 1) (by kernel_rfl) (by kernel_rfl) mixed (saturateref01_Signed.eq (fuel0 + 1))
noncomputable def saturateref01_Signed.c : Kn Tryd.prog := Kn.of 97 saturateref01_Signed.a saturateref01_Signed.r (fun a => saturateref01_Signed.f a.1 a.2.1) saturateref01_Signed.con

/-! ### saturateref01_Slt: function 88 -/
def saturateref01_Slt.a : ACods (Int × Int × Int × Unit) := (.cons (.val (.int .i64)) (.cons (.val (.int .u64)) (.cons (.val (.int .u64)) .nil)))
def saturateref01_Slt.r : RCod (Int) := .val (.int .u64)
noncomputable def saturateref01_Slt.cs : List (Kn Tryd.prog) := [saturateref01_Signed.c, saturateref01_truth.c]
def saturateref01_Slt.live : Nat → Option Keep := liveOf []
noncomputable def saturateref01_Slt.body : Code := bodyOf Tryd.f88
noncomputable def saturateref01_Slt.K (fu : Nat) : Code → St → (Ex → St → Option (Int)) → Option (Int) := codeK Tryd.prog (saturateref01_Slt.cs) saturateref01_Slt.live fu
noncomputable def saturateref01_Slt.f (a0 : Int) (a1 : Int) (a2 : Int) : Option (Int) :=
  (saturateref01_Signed.f a0 a1).bind fun r1 =>
  (saturateref01_Signed.f a0 a2).bind fun r2 =>
  (saturateref01_truth.f (decide (r1 < r2))).bind fun r3 =>
  some r3
theorem saturateref01_Slt.eq (fu : Nat) (a : Int × Int × Int × Unit) : bodyK Tryd.prog saturateref01_Slt.cs saturateref01_Slt.live fu Tryd.f88 false (saturateref01_Slt.a.enc a) saturateref01_Slt.r.dec = saturateref01_Slt.f a.1 a.2.1 a.2.2.1 := by kernel_rfl
theorem saturateref01_Slt.con : ∀ (a : Int × Int × Int × Unit) (r : Int), saturateref01_Slt.f a.1 a.2.1 a.2.2.1 = some r → Contract Tryd.prog 88 (saturateref01_Slt.a.enc a) (saturateref01_Slt.r.enc r) := Contract.of_body (F := fun (a : Int × Int × Int × Unit) => saturateref01_Slt.f a.1 a.2.1 a.2.2.1) (fn := Tryd.f88) (cs := saturateref01_Slt.cs) (live := saturateref01_Slt.live) (fuel := fuel0 + 1) (by kernel_rfl) (by kernel_rfl) mixed (saturateref01_Slt.eq (fuel0 + 1))
noncomputable def saturateref01_Slt.c : Kn Tryd.prog := Kn.of 88 saturateref01_Slt.a saturateref01_Slt.r (fun a => saturateref01_Slt.f a.1 a.2.1 a.2.2.1) saturateref01_Slt.con

/-! ### saturateref49_other: function 64 -/
def saturateref49_other.a : ACods (Int × Int × List Tm × Unit) := (.cons (.val (.int .i64)) (.cons (.val (.int .i64)) (.cons (.tms 0) .nil)))
def saturateref49_other.r : RCod (Int) := .val (.int .u64)
noncomputable def saturateref49_other.cs : List (Kn Tryd.prog) := [saturateref01_Shl.c, saturateref01_Lshr.c, saturateref01_Ashr.c, saturateref01_Eq.c, saturateref01_Ult.c, saturateref01_Slt.c]
def saturateref49_other.live : Nat → Option Keep := liveOf []
noncomputable def saturateref49_other.body : Code := bodyOf Tryd.f64
noncomputable def saturateref49_other.K (fu : Nat) : Code → St → (Ex → St → Option (Int)) → Option (Int) := codeK Tryd.prog (saturateref49_other.cs) saturateref49_other.live fu
noncomputable def saturateref49_other.f (a0 : Int) (a1 : Int) (a2 : List Tm) : Option (Int) :=
  bif (a0 == 13) then
    bif decide ((0 : Int) < (a2.length : Int)) then
      ((a2[0]? : Option Tm)).bind fun u1 =>
      bif decide ((1 : Int) < (a2.length : Int)) then
        ((a2[1]? : Option Tm)).bind fun u2 =>
        (saturateref01_Shl.f a1 u1.x u2.x).bind fun r3 =>
        some r3
      else
        none
    else
      none
  else
    bif (a0 == 14) then
      bif decide ((0 : Int) < (a2.length : Int)) then
        ((a2[0]? : Option Tm)).bind fun u4 =>
        bif decide ((1 : Int) < (a2.length : Int)) then
          ((a2[1]? : Option Tm)).bind fun u5 =>
          (saturateref01_Lshr.f a1 u4.x u5.x).bind fun r6 =>
          some r6
        else
          none
      else
        none
    else
      bif (a0 == 15) then
        bif decide ((0 : Int) < (a2.length : Int)) then
          ((a2[0]? : Option Tm)).bind fun u7 =>
          bif decide ((1 : Int) < (a2.length : Int)) then
            ((a2[1]? : Option Tm)).bind fun u8 =>
            (saturateref01_Ashr.f a1 u7.x u8.x).bind fun r9 =>
            some r9
          else
            none
        else
          none
      else
        bif (a0 == 16) then
          bif decide ((0 : Int) < (a2.length : Int)) then
            ((a2[0]? : Option Tm)).bind fun u10 =>
            bif decide ((1 : Int) < (a2.length : Int)) then
              ((a2[1]? : Option Tm)).bind fun u11 =>
              (saturateref01_Eq.f a1 u10.x u11.x).bind fun r12 =>
              some r12
            else
              none
          else
            none
        else
          bif (a0 == 17) then
            bif decide ((0 : Int) < (a2.length : Int)) then
              ((a2[0]? : Option Tm)).bind fun u13 =>
              bif decide ((1 : Int) < (a2.length : Int)) then
                ((a2[1]? : Option Tm)).bind fun u14 =>
                (saturateref01_Ult.f a1 u13.x u14.x).bind fun r15 =>
                some r15
              else
                none
            else
              none
          else
            bif (a0 == 18) then
              bif decide ((0 : Int) < (a2.length : Int)) then
                ((a2[0]? : Option Tm)).bind fun u16 =>
                bif decide ((1 : Int) < (a2.length : Int)) then
                  ((a2[1]? : Option Tm)).bind fun u17 =>
                  (saturateref01_Slt.f a1 u16.x u17.x).bind fun r18 =>
                  some r18
                else
                  none
              else
                none
            else
              bif decide ((0 : Int) < (a2.length : Int)) then
                ((a2[0]? : Option Tm)).bind fun u19 =>
                bif (u19.x != 0) then
                  bif decide ((1 : Int) < (a2.length : Int)) then
                    ((a2[1]? : Option Tm)).bind fun u20 =>
                    some u20.x
                  else
                    none
                else
                  bif decide ((2 : Int) < (a2.length : Int)) then
                    ((a2[2]? : Option Tm)).bind fun u21 =>
                    some u21.x
                  else
                    none
              else
                none
theorem saturateref49_other.eq (fu : Nat) (a : Int × Int × List Tm × Unit) : bodyK Tryd.prog saturateref49_other.cs saturateref49_other.live fu Tryd.f64 false (saturateref49_other.a.enc a) saturateref49_other.r.dec = saturateref49_other.f a.1 a.2.1 a.2.2.1 := by kernel_rfl
theorem saturateref49_other.con : ∀ (a : Int × Int × List Tm × Unit) (r : Int), saturateref49_other.f a.1 a.2.1 a.2.2.1 = some r → Contract Tryd.prog 64 (saturateref49_other.a.enc a) (saturateref49_other.r.enc r) := Contract.of_body (F := fun (a : Int × Int × List Tm × Unit) => saturateref49_other.f a.1 a.2.1 a.2.2.1) (fn := Tryd.f64) (cs := saturateref49_other.cs) (live := saturateref49_other.live) (fuel := fuel0 + 1) (by kernel_rfl) (by kernel_rfl) mixed (saturateref49_other.eq (fuel0 + 1))
noncomputable def saturateref49_other.c : Kn Tryd.prog := Kn.of 64 saturateref49_other.a saturateref49_other.r (fun a => saturateref49_other.f a.1 a.2.1 a.2.2.1) saturateref49_other.con

/-! ### saturateref49_value: function 44 -/
def saturateref49_value.a : ACods (Int × Int × Int × List Tm × Unit) := (.cons (.val (.int .i64)) (.cons (.val (.int .i64)) (.cons (.val (.int .u64)) (.cons (.tms 0) .nil))))
def saturateref49_value.r : RCod (Int) := .val (.int .u64)
noncomputable def saturateref49_value.cs : List (Kn Tryd.prog) := [saturateref01_Cut.c, saturateref01_Not.c, saturateref01_Neg.c, saturateref01_And.c, saturateref01_Or.c, saturateref01_Xor.c, saturateref01_Add.c, saturateref01_Sub.c, saturateref01_Mul.c, saturateref01_Udiv.c, saturateref01_Urem.c, saturateref49_other.c]
def saturateref49_value.live : Nat → Option Keep := liveOf []
noncomputable def saturateref49_value.body : Code := bodyOf Tryd.f44
noncomputable def saturateref49_value.K (fu : Nat) : Code → St → (Ex → St → Option (Int)) → Option (Int) := codeK Tryd.prog (saturateref49_value.cs) saturateref49_value.live fu
noncomputable def saturateref49_value.f (a0 : Int) (a1 : Int) (a2 : Int) (a3 : List Tm) : Option (Int) :=
  bif (a0 == 1) then
    (saturateref01_Cut.f a1 a2).bind fun r1 =>
    some r1
  else
    bif (a0 == 2) then
      bif decide ((0 : Int) < (a3.length : Int)) then
        ((a3[0]? : Option Tm)).bind fun u2 =>
        some u2.x
      else
        none
    else
      bif (a0 == 3) then
        bif decide ((0 : Int) < (a3.length : Int)) then
          ((a3[0]? : Option Tm)).bind fun u3 =>
          (saturateref01_Not.f a1 u3.x).bind fun r4 =>
          some r4
        else
          none
      else
        bif (a0 == 4) then
          bif decide ((0 : Int) < (a3.length : Int)) then
            ((a3[0]? : Option Tm)).bind fun u5 =>
            (saturateref01_Neg.f a1 u5.x).bind fun r6 =>
            some r6
          else
            none
        else
          bif (a0 == 5) then
            bif decide ((0 : Int) < (a3.length : Int)) then
              ((a3[0]? : Option Tm)).bind fun u7 =>
              bif decide ((1 : Int) < (a3.length : Int)) then
                ((a3[1]? : Option Tm)).bind fun u8 =>
                (saturateref01_And.f a1 u7.x u8.x).bind fun r9 =>
                some r9
              else
                none
            else
              none
          else
            bif (a0 == 6) then
              bif decide ((0 : Int) < (a3.length : Int)) then
                ((a3[0]? : Option Tm)).bind fun u10 =>
                bif decide ((1 : Int) < (a3.length : Int)) then
                  ((a3[1]? : Option Tm)).bind fun u11 =>
                  (saturateref01_Or.f a1 u10.x u11.x).bind fun r12 =>
                  some r12
                else
                  none
              else
                none
            else
              bif (a0 == 7) then
                bif decide ((0 : Int) < (a3.length : Int)) then
                  ((a3[0]? : Option Tm)).bind fun u13 =>
                  bif decide ((1 : Int) < (a3.length : Int)) then
                    ((a3[1]? : Option Tm)).bind fun u14 =>
                    (saturateref01_Xor.f a1 u13.x u14.x).bind fun r15 =>
                    some r15
                  else
                    none
                else
                  none
              else
                bif (a0 == 8) then
                  bif decide ((0 : Int) < (a3.length : Int)) then
                    ((a3[0]? : Option Tm)).bind fun u16 =>
                    bif decide ((1 : Int) < (a3.length : Int)) then
                      ((a3[1]? : Option Tm)).bind fun u17 =>
                      (saturateref01_Add.f a1 u16.x u17.x).bind fun r18 =>
                      some r18
                    else
                      none
                  else
                    none
                else
                  bif (a0 == 9) then
                    bif decide ((0 : Int) < (a3.length : Int)) then
                      ((a3[0]? : Option Tm)).bind fun u19 =>
                      bif decide ((1 : Int) < (a3.length : Int)) then
                        ((a3[1]? : Option Tm)).bind fun u20 =>
                        (saturateref01_Sub.f a1 u19.x u20.x).bind fun r21 =>
                        some r21
                      else
                        none
                    else
                      none
                  else
                    bif (a0 == 10) then
                      bif decide ((0 : Int) < (a3.length : Int)) then
                        ((a3[0]? : Option Tm)).bind fun u22 =>
                        bif decide ((1 : Int) < (a3.length : Int)) then
                          ((a3[1]? : Option Tm)).bind fun u23 =>
                          (saturateref01_Mul.f a1 u22.x u23.x).bind fun r24 =>
                          some r24
                        else
                          none
                      else
                        none
                    else
                      bif (a0 == 11) then
                        bif decide ((0 : Int) < (a3.length : Int)) then
                          ((a3[0]? : Option Tm)).bind fun u25 =>
                          bif decide ((1 : Int) < (a3.length : Int)) then
                            ((a3[1]? : Option Tm)).bind fun u26 =>
                            (saturateref01_Udiv.f a1 u25.x u26.x).bind fun r27 =>
                            some r27
                          else
                            none
                        else
                          none
                      else
                        bif (a0 == 12) then
                          bif decide ((0 : Int) < (a3.length : Int)) then
                            ((a3[0]? : Option Tm)).bind fun u28 =>
                            bif decide ((1 : Int) < (a3.length : Int)) then
                              ((a3[1]? : Option Tm)).bind fun u29 =>
                              (saturateref01_Urem.f a1 u28.x u29.x).bind fun r30 =>
                              some r30
                            else
                              none
                          else
                            none
                        else
                          (saturateref49_other.f a0 a1 a3).bind fun r31 =>
                          some r31
theorem saturateref49_value.eq (fu : Nat) (a : Int × Int × Int × List Tm × Unit) : bodyK Tryd.prog saturateref49_value.cs saturateref49_value.live fu Tryd.f44 false (saturateref49_value.a.enc a) saturateref49_value.r.dec = saturateref49_value.f a.1 a.2.1 a.2.2.1 a.2.2.2.1 := by kernel_rfl
theorem saturateref49_value.con : ∀ (a : Int × Int × Int × List Tm × Unit) (r : Int), saturateref49_value.f a.1 a.2.1 a.2.2.1 a.2.2.2.1 = some r → Contract Tryd.prog 44 (saturateref49_value.a.enc a) (saturateref49_value.r.enc r) := Contract.of_body (F := fun (a : Int × Int × Int × List Tm × Unit) => saturateref49_value.f a.1 a.2.1 a.2.2.1 a.2.2.2.1) (fn := Tryd.f44) (cs := saturateref49_value.cs) (live := saturateref49_value.live) (fuel := fuel0 + 1) (by kernel_rfl) (by kernel_rfl) mixed (saturateref49_value.eq (fuel0 + 1))
noncomputable def saturateref49_value.c : Kn Tryd.prog := Kn.of 44 saturateref49_value.a saturateref49_value.r (fun a => saturateref49_value.f a.1 a.2.1 a.2.2.1 a.2.2.2.1) saturateref49_value.con
end Go.Proofs.YtkmehmlcccdnbaaDoor.Fn
