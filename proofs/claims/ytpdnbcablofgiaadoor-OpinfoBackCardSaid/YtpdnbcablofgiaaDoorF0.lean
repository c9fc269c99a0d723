/- What the functions return, as the evaluator tells it: written by a program of this workplace (mev.py); Lean checks each equation. -/
import Derived.Test.YtpdnbcablofgiaaDoorProg
import Derived.Test.YtpdnbcablofgiaaDoorEvC
namespace Go.Proofs.YtpdnbcablofgiaaDoor.Fn
open Go Go.RowKit Go.Proofs.YtpdnbcablofgiaaDoor.Ev Go.Proofs
set_option linter.unusedVariables false
set_option maxRecDepth 100000
theorem mixed : Tryd.prog.follows .mixedOrders = true := by kernel_rfl
def fuel0 : Nat := 18446744073709551615
/-! ### opinfo_Of: function 5 -/
def opinfo_Of.a : ACods (ByteArray × Unit) := (.cons (.val (.str)) .nil)
def opinfo_Of.r : RCod (Int × Bool) := .val (.tup (.cons (.int .i64) (.one (.bool))))
noncomputable def opinfo_Of.cs : List (Kn Tryd.prog) := []
def opinfo_Of.live : Nat → Option Keep := liveOf [(5, ⟨[0, 4], [], []⟩)]
noncomputable def opinfo_Of.body : Code := bodyOf Tryd.f5
noncomputable def opinfo_Of.K (fu : Nat) : Code → St → (Ex → St → Option (Int × Bool)) → Option (Int × Bool) := codeK Tryd.prog opinfo_Of.cs opinfo_Of.live fu
noncomputable def opinfo_Of.j2 (fu : Nat) (n2 : Nat) (x0 : ByteArray) (x4 : Int) : Option (Int × Bool) :=
  loopK (opinfo_Of.K fu (sub opinfo_Of.body [true, false, true, false, false])) (opinfo_Of.live 5) n2 (stOf 15 [(0, .val (.string x0)), (4, .val (.int .i64 x4))] []) (blockC 0 (seqC fu (opinfo_Of.live 12) (opinfo_Of.K fu (sub opinfo_Of.body [true, true])) (retC Tryd.prog Tryd.f5.results opinfo_Of.r.dec)))
theorem opinfo_Of.j2_succ (fu : Nat) (n2 : Nat) (x0 : ByteArray) (x4 : Int) : opinfo_Of.j2 fu (n2 + 1) x0 x4 =
  bif (decide (x4 ≤ 26)) then
    bif decide (0 ≤ x4) then
      bif decide (x4 < (27 : Int)) then
        bif ((gtab0_0 x4.toNat).toList == x0.toList) then
          some (x4, true)
        else
          opinfo_Of.j2 fu n2 x0 (IntKind.i64.wrap (x4 + 1))
      else
        none
    else
      none
  else
    some (0, false) := by kernel_rfl
noncomputable def opinfo_Of.g (fu : Nat) (a0 : ByteArray) : Option (Int × Bool) :=
  opinfo_Of.j2 fu fu a0 1
noncomputable def opinfo_Of.f (a0 : ByteArray) : Option (Int × Bool) := opinfo_Of.g (fuel0 + 1) a0
theorem opinfo_Of.eq (fu : Nat) (a : ByteArray × Unit) : bodyK Tryd.prog opinfo_Of.cs opinfo_Of.live fu Tryd.f5 (opinfo_Of.a.enc a) opinfo_Of.r.dec = opinfo_Of.g fu a.1 := by kernel_rfl
theorem opinfo_Of.con : ∀ (a : ByteArray × Unit) (r : Int × Bool), opinfo_Of.f a.1 = some r → Contract Tryd.prog 5 (opinfo_Of.a.enc a) (opinfo_Of.r.enc r) := Contract.of_body (F := fun (a : ByteArray × Unit) => opinfo_Of.f a.1) (fn := Tryd.f5) (cs := opinfo_Of.cs) (live := opinfo_Of.live) (fuel := fuel0 + 1) (by kernel_rfl) (by kernel_rfl) mixed (opinfo_Of.eq (fuel0 + 1))
noncomputable def opinfo_Of.c : Kn Tryd.prog := Kn.of 5 opinfo_Of.a opinfo_Of.r (fun a => opinfo_Of.f a.1) opinfo_Of.con

/-! ### saturateref04_Name: function 8 -/
def saturateref04_Name.a : ACods (Int × Unit) := (.cons (.val (.int .i64)) .nil)
def saturateref04_Name.r : RCod (ByteArray) := .val (.str)
noncomputable def saturateref04_Name.cs : List (Kn Tryd.prog) := []
def saturateref04_Name.live : Nat → Option Keep := liveOf []
noncomputable def saturateref04_Name.body : Code := bodyOf Tryd.f8
noncomputable def saturateref04_Name.K (fu : Nat) : Code → St → (Ex → St → Option (ByteArray)) → Option (ByteArray) := codeK Tryd.prog saturateref04_Name.cs saturateref04_Name.live fu
noncomputable def saturateref04_Name.f (a0 : Int) : Option (ByteArray) :=
  bif (decide (a0 < 1)) then
    some (ByteArray.mk #[])
  else
    bif (decide (a0 > 26)) then
      some (ByteArray.mk #[])
    else
      bif decide (0 ≤ a0) then
        bif decide (a0 < (27 : Int)) then
          some ((fun i => [(ByteArray.mk #[]), (ByteArray.mk #[118, 97, 114]), (ByteArray.mk #[99, 111, 110, 115, 116]), (ByteArray.mk #[110, 111, 116]), (ByteArray.mk #[110, 101, 103]), (ByteArray.mk #[97, 110, 100]), (ByteArray.mk #[111, 114]), (ByteArray.mk #[120, 111, 114]), (ByteArray.mk #[97, 100, 100]), (ByteArray.mk #[115, 117, 98]), (ByteArray.mk #[109, 117, 108]), (ByteArray.mk #[117, 100, 105, 118]), (ByteArray.mk #[117, 114, 101, 109]), (ByteArray.mk #[115, 104, 108]), (ByteArray.mk #[108, 115, 104, 114]), (ByteArray.mk #[97, 115, 104, 114]), (ByteArray.mk #[101, 113]), (ByteArray.mk #[117, 108, 116]), (ByteArray.mk #[115, 108, 116]), (ByteArray.mk #[105, 116, 101]), (ByteArray.mk #[99, 111, 110, 99, 97, 116]), (ByteArray.mk #[101, 120, 116, 114, 97, 99, 116]), (ByteArray.mk #[122, 101, 120, 116]), (ByteArray.mk #[115, 101, 120, 116]), (ByteArray.mk #[104, 111, 108, 101]), (ByteArray.mk #[110, 117, 109]), (ByteArray.mk #[101, 118, 97, 108])].getD i (ByteArray.mk #[])) a0.toNat)
        else
          none
      else
        none
theorem saturateref04_Name.eq (fu : Nat) (a : Int × Unit) : bodyK Tryd.prog saturateref04_Name.cs saturateref04_Name.live fu Tryd.f8 (saturateref04_Name.a.enc a) saturateref04_Name.r.dec = saturateref04_Name.f a.1 := by kernel_rfl
theorem saturateref04_Name.con : ∀ (a : Int × Unit) (r : ByteArray), saturateref04_Name.f a.1 = some r → Contract Tryd.prog 8 (saturateref04_Name.a.enc a) (saturateref04_Name.r.enc r) := Contract.of_body (F := fun (a : Int × Unit) => saturateref04_Name.f a.1) (fn := Tryd.f8) (cs := saturateref04_Name.cs) (live := saturateref04_Name.live) (fuel := fuel0 + 1) (by kernel_rfl) (by kernel_rfl) mixed (saturateref04_Name.eq (fuel0 + 1))
noncomputable def saturateref04_Name.c : Kn Tryd.prog := Kn.of 8 saturateref04_Name.a saturateref04_Name.r (fun a => saturateref04_Name.f a.1) saturateref04_Name.con

/-! ### saturateref04_Of: function 6 -/
def saturateref04_Of.a : ACods (ByteArray × Unit) := (.cons (.val (.str)) .nil)
def saturateref04_Of.r : RCod (Int × Bool) := .val (.tup (.cons (.int .i64) (.one (.bool))))
noncomputable def saturateref04_Of.cs : List (Kn Tryd.prog) := [saturateref04_Name.c]
def saturateref04_Of.live : Nat → Option Keep := liveOf [(5, ⟨[0, 4], [], []⟩)]
noncomputable def saturateref04_Of.body : Code := bodyOf Tryd.f6
noncomputable def saturateref04_Of.K (fu : Nat) : Code → St → (Ex → St → Option (Int × Bool)) → Option (Int × Bool) := codeK Tryd.prog saturateref04_Of.cs saturateref04_Of.live fu
noncomputable def saturateref04_Of.j2 (fu : Nat) (n2 : Nat) (x0 : ByteArray) (x4 : Int) : Option (Int × Bool) :=
  loopK (saturateref04_Of.K fu (sub saturateref04_Of.body [true, false, true, false, false])) (saturateref04_Of.live 5) n2 (stOf 14 [(0, .val (.string x0)), (4, .val (.int .i64 x4))] []) (blockC 0 (seqC fu (saturateref04_Of.live 12) (saturateref04_Of.K fu (sub saturateref04_Of.body [true, true])) (retC Tryd.prog Tryd.f6.results saturateref04_Of.r.dec)))
theorem saturateref04_Of.j2_succ (fu : Nat) (n2 : Nat) (x0 : ByteArray) (x4 : Int) : saturateref04_Of.j2 fu (n2 + 1) x0 x4 =
  bif (decide (x4 ≤ 26)) then
    (saturateref04_Name.f x4).bind fun r1 =>
    bif (r1.toList == x0.toList) then
      some (x4, true)
    else
      saturateref04_Of.j2 fu n2 x0 (IntKind.i64.wrap (x4 + 1))
  else
    some (0, false) := by kernel_rfl
noncomputable def saturateref04_Of.g (fu : Nat) (a0 : ByteArray) : Option (Int × Bool) :=
  saturateref04_Of.j2 fu fu a0 1
noncomputable def saturateref04_Of.f (a0 : ByteArray) : Option (Int × Bool) := saturateref04_Of.g (fuel0 + 1) a0
theorem saturateref04_Of.eq (fu : Nat) (a : ByteArray × Unit) : bodyK Tryd.prog saturateref04_Of.cs saturateref04_Of.live fu Tryd.f6 (saturateref04_Of.a.enc a) saturateref04_Of.r.dec = saturateref04_Of.g fu a.1 := by kernel_rfl
theorem saturateref04_Of.con : ∀ (a : ByteArray × Unit) (r : Int × Bool), saturateref04_Of.f a.1 = some r → Contract Tryd.prog 6 (saturateref04_Of.a.enc a) (saturateref04_Of.r.enc r) := Contract.of_body (F := fun (a : ByteArray × Unit) => saturateref04_Of.f a.1) (fn := Tryd.f6) (cs := saturateref04_Of.cs) (live := saturateref04_Of.live) (fuel := fuel0 + 1) (by kernel_rfl) (by kernel_rfl) mixed (saturateref04_Of.eq (fuel0 + 1))
noncomputable def saturateref04_Of.c : Kn Tryd.prog := Kn.of 6 saturateref04_Of.a saturateref04_Of.r (fun a => saturateref04_Of.f a.1) saturateref04_Of.con

/-! ### opinfo_known: function 10 -/
def opinfo_known.a : ACods (Int × Unit) := (.cons (.val (.int .i64)) .nil)
def opinfo_known.r : RCod (Bool) := .val (.bool)
noncomputable def opinfo_known.cs : List (Kn Tryd.prog) := []
def opinfo_known.live : Nat → Option Keep := liveOf []
noncomputable def opinfo_known.body : Code := bodyOf Tryd.f10
noncomputable def opinfo_known.K (fu : Nat) : Code → St → (Ex → St → Option (Bool)) → Option (Bool) := codeK Tryd.prog opinfo_known.cs opinfo_known.live fu
noncomputable def opinfo_known.f (a0 : Int) : Option (Bool) :=
  bif (decide (a0 ≥ 1)) then
    some (decide (a0 ≤ 26))
  else
    some false
theorem opinfo_known.eq (fu : Nat) (a : Int × Unit) : bodyK Tryd.prog opinfo_known.cs opinfo_known.live fu Tryd.f10 (opinfo_known.a.enc a) opinfo_known.r.dec = opinfo_known.f a.1 := by kernel_rfl
theorem opinfo_known.con : ∀ (a : Int × Unit) (r : Bool), opinfo_known.f a.1 = some r → Contract Tryd.prog 10 (opinfo_known.a.enc a) (opinfo_known.r.enc r) := Contract.of_body (F := fun (a : Int × Unit) => opinfo_known.f a.1) (fn := Tryd.f10) (cs := opinfo_known.cs) (live := opinfo_known.live) (fuel := fuel0 + 1) (by kernel_rfl) (by kernel_rfl) mixed (opinfo_known.eq (fuel0 + 1))
noncomputable def opinfo_known.c : Kn Tryd.prog := Kn.of 10 opinfo_known.a opinfo_known.r (fun a => opinfo_known.f a.1) opinfo_known.con

/-! ### opinfo_Name: function 7 -/
def opinfo_Name.a : ACods (Int × Unit) := (.cons (.val (.int .i64)) .nil)
def opinfo_Name.r : RCod (ByteArray) := .val (.str)
noncomputable def opinfo_Name.cs : List (Kn Tryd.prog) := [opinfo_known.c]
def opinfo_Name.live : Nat → Option Keep := liveOf []
noncomputable def opinfo_Name.body : Code := bodyOf Tryd.f7
noncomputable def opinfo_Name.K (fu : Nat) : Code → St → (Ex → St → Option (ByteArray)) → Option (ByteArray) := codeK Tryd.prog opinfo_Name.cs opinfo_Name.live fu
noncomputable def opinfo_Name.f (a0 : Int) : Option (ByteArray) :=
  (opinfo_known.f a0).bind fun r1 =>
  bif (!r1) then
    some (ByteArray.mk #[])
  else
    bif decide (0 ≤ a0) then
      bif decide (a0 < (27 : Int)) then
        some (gtab0_0 a0.toNat)
      else
        none
    else
      none
theorem opinfo_Name.eq (fu : Nat) (a : Int × Unit) : bodyK Tryd.prog opinfo_Name.cs opinfo_Name.live fu Tryd.f7 (opinfo_Name.a.enc a) opinfo_Name.r.dec = opinfo_Name.f a.1 := by kernel_rfl
theorem opinfo_Name.con : ∀ (a : Int × Unit) (r : ByteArray), opinfo_Name.f a.1 = some r → Contract Tryd.prog 7 (opinfo_Name.a.enc a) (opinfo_Name.r.enc r) := Contract.of_body (F := fun (a : Int × Unit) => opinfo_Name.f a.1) (fn := Tryd.f7) (cs := opinfo_Name.cs) (live := opinfo_Name.live) (fuel := fuel0 + 1) (by kernel_rfl) (by kernel_rfl) mixed (opinfo_Name.eq (fuel0 + 1))
noncomputable def opinfo_Name.c : Kn Tryd.prog := Kn.of 7 opinfo_Name.a opinfo_Name.r (fun a => opinfo_Name.f a.1) opinfo_Name.con

/-! ### opinfo_Arity: function 12 -/
def opinfo_Arity.a : ACods (Int × Unit) := (.cons (.val (.int .i64)) .nil)
def opinfo_Arity.r : RCod (Int) := .val (.int .i64)
noncomputable def opinfo_Arity.cs : List (Kn Tryd.prog) := []
def opinfo_Arity.live : Nat → Option Keep := liveOf [(60, ⟨[3], [], []⟩), (62, ⟨[3], [], []⟩), (64, ⟨[3], [], []⟩)]
noncomputable def opinfo_Arity.body : Code := bodyOf Tryd.f12
noncomputable def opinfo_Arity.K (fu : Nat) : Code → St → (Ex → St → Option (Int)) → Option (Int) := codeK Tryd.prog opinfo_Arity.cs opinfo_Arity.live fu
noncomputable def opinfo_Arity.p30 (m fu : Nat) (x3 : Int) : Option Int :=
  joinK m (opinfo_Arity.K fu (sub opinfo_Arity.body [true, true, false, true, false, false, false, false, false, true])) (stOf 42 [(3, .val (.int .i64 x3))] []) (blockC 3 (seqC fu (opinfo_Arity.live 62) (opinfo_Arity.K fu (sub opinfo_Arity.body [true, true, false, true, false, false, false, true])) (blockC 4 (seqC fu (opinfo_Arity.live 64) (opinfo_Arity.K fu (sub opinfo_Arity.body [true, true, false, true, false, true])) (blockC 0 (seqC fu (opinfo_Arity.live 66) (opinfo_Arity.K fu (sub opinfo_Arity.body [true, true, true])) (retC Tryd.prog Tryd.f12.results opinfo_Arity.r.dec)))))))
noncomputable def opinfo_Arity.p31 (m fu : Nat) (x3 : Int) : Option Int :=
  joinK m (opinfo_Arity.K fu (sub opinfo_Arity.body [true, true, false, true, false, false, false, true])) (stOf 42 [(3, .val (.int .i64 x3))] []) (blockC 4 (seqC fu (opinfo_Arity.live 64) (opinfo_Arity.K fu (sub opinfo_Arity.body [true, true, false, true, false, true])) (blockC 0 (seqC fu (opinfo_Arity.live 66) (opinfo_Arity.K fu (sub opinfo_Arity.body [true, true, true])) (retC Tryd.prog Tryd.f12.results opinfo_Arity.r.dec)))))
noncomputable def opinfo_Arity.p32 (m fu : Nat) (x3 : Int) : Option Int :=
  joinK m (opinfo_Arity.K fu (sub opinfo_Arity.body [true, true, false, true, false, true])) (stOf 42 [(3, .val (.int .i64 x3))] []) (blockC 0 (seqC fu (opinfo_Arity.live 66) (opinfo_Arity.K fu (sub opinfo_Arity.body [true, true, true])) (retC Tryd.prog Tryd.f12.results opinfo_Arity.r.dec)))
theorem opinfo_Arity.p32_eq (m fu : Nat) (x3 : Int) : opinfo_Arity.p32 (m + 1) fu x3 =
  some x3 := by kernel_rfl
theorem opinfo_Arity.p31_eq (m fu : Nat) (x3 : Int) : opinfo_Arity.p31 (m + 1) fu x3 =
  opinfo_Arity.p32 fu fu (IntKind.i64.wrap (x3 + 1)) := by kernel_rfl
theorem opinfo_Arity.p30_eq (m fu : Nat) (x3 : Int) : opinfo_Arity.p30 (m + 1) fu x3 =
  opinfo_Arity.p31 fu fu (IntKind.i64.wrap (x3 + 1)) := by kernel_rfl
noncomputable def opinfo_Arity.g (fu : Nat) (a0 : Int) : Option (Int) :=
  bif (a0 == 19) then
    opinfo_Arity.p30 fu fu 1
  else
    bif (a0 == 5) then
      opinfo_Arity.p30 fu fu 0
    else
      bif (a0 == 6) then
        opinfo_Arity.p30 fu fu 0
      else
        bif (a0 == 7) then
          opinfo_Arity.p30 fu fu 0
        else
          bif (a0 == 8) then
            opinfo_Arity.p30 fu fu 0
          else
            bif (a0 == 9) then
              opinfo_Arity.p30 fu fu 0
            else
              bif (a0 == 10) then
                opinfo_Arity.p30 fu fu 0
              else
                bif (a0 == 11) then
                  opinfo_Arity.p30 fu fu 0
                else
                  bif (a0 == 12) then
                    opinfo_Arity.p30 fu fu 0
                  else
                    bif (a0 == 13) then
                      opinfo_Arity.p30 fu fu 0
                    else
                      bif (a0 == 14) then
                        opinfo_Arity.p30 fu fu 0
                      else
                        bif (a0 == 15) then
                          opinfo_Arity.p30 fu fu 0
                        else
                          bif (a0 == 16) then
                            opinfo_Arity.p30 fu fu 0
                          else
                            bif (a0 == 17) then
                              opinfo_Arity.p30 fu fu 0
                            else
                              bif (a0 == 18) then
                                opinfo_Arity.p30 fu fu 0
                              else
                                bif (a0 == 20) then
                                  opinfo_Arity.p30 fu fu 0
                                else
                                  bif (a0 == 3) then
                                    opinfo_Arity.p31 fu fu 0
                                  else
                                    bif (a0 == 4) then
                                      opinfo_Arity.p31 fu fu 0
                                    else
                                      bif (a0 == 21) then
                                        opinfo_Arity.p31 fu fu 0
                                      else
                                        bif (a0 == 22) then
                                          opinfo_Arity.p31 fu fu 0
                                        else
                                          bif (a0 == 23) then
                                            opinfo_Arity.p31 fu fu 0
                                          else
                                            bif (a0 == 26) then
                                              opinfo_Arity.p31 fu fu 0
                                            else
                                              bif (a0 == 1) then
                                                opinfo_Arity.p32 fu fu 0
                                              else
                                                bif (a0 == 2) then
                                                  opinfo_Arity.p32 fu fu 0
                                                else
                                                  bif (a0 == 24) then
                                                    opinfo_Arity.p32 fu fu 0
                                                  else
                                                    bif (a0 == 25) then
                                                      opinfo_Arity.p32 fu fu 0
                                                    else
                                                      some (-1)
noncomputable def opinfo_Arity.f (a0 : Int) : Option (Int) := opinfo_Arity.g (fuel0 + 1) a0
theorem opinfo_Arity.eq (fu : Nat) (a : Int × Unit) : bodyK Tryd.prog opinfo_Arity.cs opinfo_Arity.live fu Tryd.f12 (opinfo_Arity.a.enc a) opinfo_Arity.r.dec = opinfo_Arity.g fu a.1 := by kernel_rfl
theorem opinfo_Arity.con : ∀ (a : Int × Unit) (r : Int), opinfo_Arity.f a.1 = some r → Contract Tryd.prog 12 (opinfo_Arity.a.enc a) (opinfo_Arity.r.enc r) := Contract.of_body (F := fun (a : Int × Unit) => opinfo_Arity.f a.1) (fn := Tryd.f12) (cs := opinfo_Arity.cs) (live := opinfo_Arity.live) (fuel := fuel0 + 1) (by kernel_rfl) (by kernel_rfl) mixed (opinfo_Arity.eq (fuel0 + 1))
noncomputable def opinfo_Arity.c : Kn Tryd.prog := Kn.of 12 opinfo_Arity.a opinfo_Arity.r (fun a => opinfo_Arity.f a.1) opinfo_Arity.con

/-! ### opinfo_inside: function 13 -/
def opinfo_inside.a : ACods (Int × Unit) := (.cons (.val (.int .i64)) .nil)
def opinfo_inside.r : RCod (Bool) := .val (.bool)
noncomputable def opinfo_inside.cs : List (Kn Tryd.prog) := []
def opinfo_inside.live : Nat → Option Keep := liveOf []
noncomputable def opinfo_inside.body : Code := bodyOf Tryd.f13
noncomputable def opinfo_inside.K (fu : Nat) : Code → St → (Ex → St → Option (Bool)) → Option (Bool) := codeK Tryd.prog opinfo_inside.cs opinfo_inside.live fu
noncomputable def opinfo_inside.f (a0 : Int) : Option (Bool) :=
  bif (decide (a0 ≥ 0)) then
    some (decide (a0 ≤ 64))
  else
    some false
theorem opinfo_inside.eq (fu : Nat) (a : Int × Unit) : bodyK Tryd.prog opinfo_inside.cs opinfo_inside.live fu Tryd.f13 (opinfo_inside.a.enc a) opinfo_inside.r.dec = opinfo_inside.f a.1 := by kernel_rfl
theorem opinfo_inside.con : ∀ (a : Int × Unit) (r : Bool), opinfo_inside.f a.1 = some r → Contract Tryd.prog 13 (opinfo_inside.a.enc a) (opinfo_inside.r.enc r) := Contract.of_body (F := fun (a : Int × Unit) => opinfo_inside.f a.1) (fn := Tryd.f13) (cs := opinfo_inside.cs) (live := opinfo_inside.live) (fuel := fuel0 + 1) (by kernel_rfl) (by kernel_rfl) mixed (opinfo_inside.eq (fuel0 + 1))
noncomputable def opinfo_inside.c : Kn Tryd.prog := Kn.of 13 opinfo_inside.a opinfo_inside.r (fun a => opinfo_inside.f a.1) opinfo_inside.con

/-! ### opinfo_leaf: function 14 -/
def opinfo_leaf.a : ACods (Int × Int × Int × Unit) := (.cons (.val (.int .i64)) (.cons (.val (.int .i64)) (.cons (.val (.int .u64)) .nil)))
def opinfo_leaf.r : RCod (Int × Int) := .val (.tup (.cons (.int .i64) (.one (.int .i64))))
noncomputable def opinfo_leaf.cs : List (Kn Tryd.prog) := [opinfo_inside.c]
def opinfo_leaf.live : Nat → Option Keep := liveOf [(6, ⟨[1], [], []⟩)]
noncomputable def opinfo_leaf.body : Code := bodyOf Tryd.f14
noncomputable def opinfo_leaf.K (fu : Nat) : Code → St → (Ex → St → Option (Int × Int)) → Option (Int × Int) := codeK Tryd.prog opinfo_leaf.cs opinfo_leaf.live fu
noncomputable def opinfo_leaf.p3 (m fu : Nat) (x1 : Int) : Option (Int × Int) :=
  joinK m (opinfo_leaf.K fu (sub opinfo_leaf.body [true, true])) (stOf 26 [(1, .val (.int .i64 x1))] []) (retC Tryd.prog Tryd.f14.results opinfo_leaf.r.dec)
theorem opinfo_leaf.p3_eq (m fu : Nat) (x1 : Int) : opinfo_leaf.p3 (m + 1) fu x1 =
  some (x1, 0) := by kernel_rfl
noncomputable def opinfo_leaf.g (fu : Nat) (a0 : Int) (a1 : Int) (a2 : Int) : Option (Int × Int) :=
  (opinfo_inside.f a1).bind fun r1 =>
  bif (!r1) then
    some (0, 3)
  else
    bif (a0 == 2) then
      bif (decide (a1 > 0)) then
        bif decide (a1 < 0) then
          none
        else
          bif ((shr .u64 a2 a1) != 0) then
            some (0, 3)
          else
            opinfo_leaf.p3 fu fu a1
      else
        opinfo_leaf.p3 fu fu a1
    else
      opinfo_leaf.p3 fu fu a1
noncomputable def opinfo_leaf.f (a0 : Int) (a1 : Int) (a2 : Int) : Option (Int × Int) := opinfo_leaf.g (fuel0 + 1) a0 a1 a2
theorem opinfo_leaf.eq (fu : Nat) (a : Int × Int × Int × Unit) : bodyK Tryd.prog opinfo_leaf.cs opinfo_leaf.live fu Tryd.f14 (opinfo_leaf.a.enc a) opinfo_leaf.r.dec = opinfo_leaf.g fu a.1 a.2.1 a.2.2.1 := by kernel_rfl
theorem opinfo_leaf.con : ∀ (a : Int × Int × Int × Unit) (r : Int × Int), opinfo_leaf.f a.1 a.2.1 a.2.2.1 = some r → Contract Tryd.prog 14 (opinfo_leaf.a.enc a) (opinfo_leaf.r.enc r) := Contract.of_body (F := fun (a : Int × Int × Int × Unit) => opinfo_leaf.f a.1 a.2.1 a.2.2.1) (fn := Tryd.f14) (cs := opinfo_leaf.cs) (live := opinfo_leaf.live) (fuel := fuel0 + 1) (by kernel_rfl) (by kernel_rfl) mixed (opinfo_leaf.eq (fuel0 + 1))
noncomputable def opinfo_leaf.c : Kn Tryd.prog := Kn.of 14 opinfo_leaf.a opinfo_leaf.r (fun a => opinfo_leaf.f a.1 a.2.1 a.2.2.1) opinfo_leaf.con

/-! ### opinfo_resized: function 15 -/
def opinfo_resized.a : ACods (Int × Int × Int × Int × Unit) := (.cons (.val (.int .i64)) (.cons (.val (.int .i64)) (.cons (.val (.int .u64)) (.cons (.val (.int .i64)) .nil))))
def opinfo_resized.r : RCod (Int × Int) := .val (.tup (.cons (.int .i64) (.one (.int .i64))))
noncomputable def opinfo_resized.cs : List (Kn Tryd.prog) := []
def opinfo_resized.live : Nat → Option Keep := liveOf [(10, ⟨[1], [], []⟩)]
noncomputable def opinfo_resized.body : Code := bodyOf Tryd.f15
noncomputable def opinfo_resized.K (fu : Nat) : Code → St → (Ex → St → Option (Int × Int)) → Option (Int × Int) := codeK Tryd.prog opinfo_resized.cs opinfo_resized.live fu
noncomputable def opinfo_resized.p5 (m fu : Nat) (x1 : Int) : Option (Int × Int) :=
  joinK m (opinfo_resized.K fu (sub opinfo_resized.body [true, true, true])) (stOf 45 [(1, .val (.int .i64 x1))] []) (retC Tryd.prog Tryd.f15.results opinfo_resized.r.dec)
theorem opinfo_resized.p5_eq (m fu : Nat) (x1 : Int) : opinfo_resized.p5 (m + 1) fu x1 =
  some (x1, 0) := by kernel_rfl
noncomputable def opinfo_resized.g (fu : Nat) (a0 : Int) (a1 : Int) (a2 : Int) (a3 : Int) : Option (Int × Int) :=
  bif (decide (a1 < 1)) then
    some (0, 3)
  else
    bif (decide (a1 > 64)) then
      some (0, 3)
    else
      bif (decide (a3 < 1)) then
        some (0, 3)
      else
        bif (a0 != 21) then
          bif (decide (a1 < a3)) then
            some (0, 3)
          else
            bif (a0 == 21) then
              bif (decide (a1 > a3)) then
                some (0, 3)
              else
                bif (decide (a2 > (IntKind.u64.wrap (IntKind.i64.wrap (a3 - a1))))) then
                  some (0, 3)
                else
                  opinfo_resized.p5 fu fu a1
            else
              opinfo_resized.p5 fu fu a1
        else
          bif (a0 == 21) then
            bif (decide (a1 > a3)) then
              some (0, 3)
            else
              bif (decide (a2 > (IntKind.u64.wrap (IntKind.i64.wrap (a3 - a1))))) then
                some (0, 3)
              else
                opinfo_resized.p5 fu fu a1
          else
            opinfo_resized.p5 fu fu a1
noncomputable def opinfo_resized.f (a0 : Int) (a1 : Int) (a2 : Int) (a3 : Int) : Option (Int × Int) := opinfo_resized.g (fuel0 + 1) a0 a1 a2 a3
theorem opinfo_resized.eq (fu : Nat) (a : Int × Int × Int × Int × Unit) : bodyK Tryd.prog opinfo_resized.cs opinfo_resized.live fu Tryd.f15 (opinfo_resized.a.enc a) opinfo_resized.r.dec = opinfo_resized.g fu a.1 a.2.1 a.2.2.1 a.2.2.2.1 := by kernel_rfl
theorem opinfo_resized.con : ∀ (a : Int × Int × Int × Int × Unit) (r : Int × Int), opinfo_resized.f a.1 a.2.1 a.2.2.1 a.2.2.2.1 = some r → Contract Tryd.prog 15 (opinfo_resized.a.enc a) (opinfo_resized.r.enc r) := Contract.of_body (F := fun (a : Int × Int × Int × Int × Unit) => opinfo_resized.f a.1 a.2.1 a.2.2.1 a.2.2.2.1) (fn := Tryd.f15) (cs := opinfo_resized.cs) (live := opinfo_resized.live) (fuel := fuel0 + 1) (by kernel_rfl) (by kernel_rfl) mixed (opinfo_resized.eq (fuel0 + 1))
noncomputable def opinfo_resized.c : Kn Tryd.prog := Kn.of 15 opinfo_resized.a opinfo_resized.r (fun a => opinfo_resized.f a.1 a.2.1 a.2.2.1 a.2.2.2.1) opinfo_resized.con

/-! ### opinfo_agreed: function 16 -/
def opinfo_agreed.a : ACods (Bool × Int × Unit) := (.cons (.val (.bool)) (.cons (.val (.int .i64)) .nil))
def opinfo_agreed.r : RCod (Int × Int) := .val (.tup (.cons (.int .i64) (.one (.int .i64))))
noncomputable def opinfo_agreed.cs : List (Kn Tryd.prog) := []
def opinfo_agreed.live : Nat → Option Keep := liveOf []
noncomputable def opinfo_agreed.body : Code := bodyOf Tryd.f16
noncomputable def opinfo_agreed.K (fu : Nat) : Code → St → (Ex → St → Option (Int × Int)) → Option (Int × Int) := codeK Tryd.prog opinfo_agreed.cs opinfo_agreed.live fu
noncomputable def opinfo_agreed.f (a0 : Bool) (a1 : Int) : Option (Int × Int) :=
  bif (!a0) then
    some (0, 3)
  else
    some (a1, 0)
theorem opinfo_agreed.eq (fu : Nat) (a : Bool × Int × Unit) : bodyK Tryd.prog opinfo_agreed.cs opinfo_agreed.live fu Tryd.f16 (opinfo_agreed.a.enc a) opinfo_agreed.r.dec = opinfo_agreed.f a.1 a.2.1 := by kernel_rfl
theorem opinfo_agreed.con : ∀ (a : Bool × Int × Unit) (r : Int × Int), opinfo_agreed.f a.1 a.2.1 = some r → Contract Tryd.prog 16 (opinfo_agreed.a.enc a) (opinfo_agreed.r.enc r) := Contract.of_body (F := fun (a : Bool × Int × Unit) => opinfo_agreed.f a.1 a.2.1) (fn := Tryd.f16) (cs := opinfo_agreed.cs) (live := opinfo_agreed.live) (fuel := fuel0 + 1) (by kernel_rfl) (by kernel_rfl) mixed (opinfo_agreed.eq (fuel0 + 1))
noncomputable def opinfo_agreed.c : Kn Tryd.prog := Kn.of 16 opinfo_agreed.a opinfo_agreed.r (fun a => opinfo_agreed.f a.1 a.2.1) opinfo_agreed.con

/-! ### opinfo_Width: function 11 -/
def opinfo_Width.a : ACods (Int × Int × Int × (Nat × (Nat → Int)) × Unit) := (.cons (.val (.int .i64)) (.cons (.val (.int .i64)) (.cons (.val (.int .u64)) (.cons (.rows (.int1 .i64)) .nil))))
def opinfo_Width.r : RCod (Int × Int) := .val (.tup (.cons (.int .i64) (.one (.int .i64))))
noncomputable def opinfo_Width.cs : List (Kn Tryd.prog) := [opinfo_known.c, opinfo_Arity.c, opinfo_inside.c, opinfo_leaf.c, opinfo_resized.c, opinfo_agreed.c]
def opinfo_Width.live : Nat → Option Keep := liveOf [(9, ⟨[0, 1, 2, 3, 22, 23, 24], [3], []⟩)]
noncomputable def opinfo_Width.body : Code := bodyOf Tryd.f11
noncomputable def opinfo_Width.K (fu : Nat) : Code → St → (Ex → St → Option (Int × Int)) → Option (Int × Int) := codeK Tryd.prog opinfo_Width.cs opinfo_Width.live fu
noncomputable def opinfo_Width.j4 (fu : Nat) (n4 : Nat) (x0 : Int) (x1 : Int) (x2 : Int) (x3n : Nat) (x22n : Nat) (x23 : Int) (x24 : Int) (m3 : Nat) (g3_0 : Nat → Int) : Option (Int × Int) :=
  loopK (opinfo_Width.K fu (sub opinfo_Width.body [true, true, false, true, false, false])) (opinfo_Width.live 9) n4 (stOf 144 [(0, .val (.int .i64 x0)), (1, .val (.int .i64 x1)), (2, .val (.int .u64 x2)), (3, .sl 3 1 x3n), (22, .sl 3 1 x22n), (23, .val (.int .i64 x23)), (24, .val (.int .i64 x24))] [(3, .ext m3 [.int .i64 g3_0])]) (blockC 0 (seqC fu (opinfo_Width.live 18) (opinfo_Width.K fu (sub opinfo_Width.body [true, true, true])) (retC Tryd.prog Tryd.f11.results opinfo_Width.r.dec)))
theorem opinfo_Width.j4_succ (fu : Nat) (n4 : Nat) (x0 : Int) (x1 : Int) (x2 : Int) (x3n : Nat) (x22n : Nat) (x23 : Int) (x24 : Int) (m3 : Nat) (g3_0 : Nat → Int) : opinfo_Width.j4 fu (n4 + 1) x0 x1 x2 x3n x22n x23 x24 m3 g3_0 =
  bif (decide (x24 < x23)) then
    bif decide (0 ≤ x24) then
      bif decide (x24 < (x22n : Int)) then
        (opinfo_inside.f (g3_0 x24.toNat)).bind fun r3 =>
        bif (!r3) then
          some (0, 3)
        else
          opinfo_Width.j4 fu n4 x0 x1 x2 x3n x22n x23 (IntKind.i64.wrap (x24 + 1)) m3 g3_0
      else
        none
    else
      none
  else
    bif (x0 == 1) then
      (opinfo_leaf.f x0 x1 x2).bind fun r4 =>
      some (r4.1, r4.2)
    else
      bif (x0 == 2) then
        (opinfo_leaf.f x0 x1 x2).bind fun r5 =>
        some (r5.1, r5.2)
      else
        bif (x0 == 24) then
          (opinfo_leaf.f x0 x1 x2).bind fun r6 =>
          some (r6.1, r6.2)
        else
          bif (x0 == 25) then
            (opinfo_leaf.f x0 x1 x2).bind fun r7 =>
            some (r7.1, r7.2)
          else
            bif (x0 == 3) then
              bif decide ((0 : Int) < (x3n : Int)) then
                some ((g3_0 0), 0)
              else
                none
            else
              bif (x0 == 4) then
                bif decide ((0 : Int) < (x3n : Int)) then
                  some ((g3_0 0), 0)
                else
                  none
              else
                bif (x0 == 26) then
                  bif decide ((0 : Int) < (x3n : Int)) then
                    some ((g3_0 0), 0)
                  else
                    none
                else
                  bif (x0 == 21) then
                    bif decide ((0 : Int) < (x3n : Int)) then
                      (opinfo_resized.f x0 x1 x2 (g3_0 0)).bind fun r8 =>
                      some (r8.1, r8.2)
                    else
                      none
                  else
                    bif (x0 == 22) then
                      bif decide ((0 : Int) < (x3n : Int)) then
                        (opinfo_resized.f x0 x1 x2 (g3_0 0)).bind fun r9 =>
                        some (r9.1, r9.2)
                      else
                        none
                    else
                      bif (x0 == 23) then
                        bif decide ((0 : Int) < (x3n : Int)) then
                          (opinfo_resized.f x0 x1 x2 (g3_0 0)).bind fun r10 =>
                          some (r10.1, r10.2)
                        else
                          none
                      else
                        bif (x0 == 19) then
                          bif decide ((0 : Int) < (x3n : Int)) then
                            bif ((g3_0 0) == 1) then
                              bif decide ((1 : Int) < (x3n : Int)) then
                                bif decide ((2 : Int) < (x3n : Int)) then
                                  bif decide ((1 : Int) < (x3n : Int)) then
                                    (opinfo_agreed.f ((g3_0 1) == (g3_0 2)) (g3_0 1)).bind fun r11 =>
                                    some (r11.1, r11.2)
                                  else
                                    none
                                else
                                  none
                              else
                                none
                            else
                              bif decide ((1 : Int) < (x3n : Int)) then
                                (opinfo_agreed.f false (g3_0 1)).bind fun r12 =>
                                some (r12.1, r12.2)
                              else
                                none
                          else
                            none
                        else
                          bif (x0 == 20) then
                            bif decide ((0 : Int) < (x3n : Int)) then
                              bif (decide ((g3_0 0) ≥ 1)) then
                                bif decide ((1 : Int) < (x3n : Int)) then
                                  bif (decide ((g3_0 1) ≥ 1)) then
                                    bif decide ((0 : Int) < (x3n : Int)) then
                                      bif decide ((1 : Int) < (x3n : Int)) then
                                        bif decide ((0 : Int) < (x3n : Int)) then
                                          bif decide ((1 : Int) < (x3n : Int)) then
                                            (opinfo_agreed.f (decide ((IntKind.i64.wrap ((g3_0 0) + (g3_0 1))) ≤ 64)) (IntKind.i64.wrap ((g3_0 0) + (g3_0 1)))).bind fun r13 =>
                                            some (r13.1, r13.2)
                                          else
                                            none
                                        else
                                          none
                                      else
                                        none
                                    else
                                      none
                                  else
                                    bif decide ((0 : Int) < (x3n : Int)) then
                                      bif decide ((1 : Int) < (x3n : Int)) then
                                        (opinfo_agreed.f false (IntKind.i64.wrap ((g3_0 0) + (g3_0 1)))).bind fun r14 =>
                                        some (r14.1, r14.2)
                                      else
                                        none
                                    else
                                      none
                                else
                                  none
                              else
                                bif decide ((0 : Int) < (x3n : Int)) then
                                  bif decide ((1 : Int) < (x3n : Int)) then
                                    (opinfo_agreed.f false (IntKind.i64.wrap ((g3_0 0) + (g3_0 1)))).bind fun r15 =>
                                    some (r15.1, r15.2)
                                  else
                                    none
                                else
                                  none
                            else
                              none
                          else
                            bif (x0 == 16) then
                              bif decide ((0 : Int) < (x3n : Int)) then
                                bif decide ((1 : Int) < (x3n : Int)) then
                                  (opinfo_agreed.f ((g3_0 0) == (g3_0 1)) 1).bind fun r16 =>
                                  some (r16.1, r16.2)
                                else
                                  none
                              else
                                none
                            else
                              bif (x0 == 17) then
                                bif decide ((0 : Int) < (x3n : Int)) then
                                  bif decide ((1 : Int) < (x3n : Int)) then
                                    (opinfo_agreed.f ((g3_0 0) == (g3_0 1)) 1).bind fun r17 =>
                                    some (r17.1, r17.2)
                                  else
                                    none
                                else
                                  none
                              else
                                bif (x0 == 18) then
                                  bif decide ((0 : Int) < (x3n : Int)) then
                                    bif decide ((1 : Int) < (x3n : Int)) then
                                      (opinfo_agreed.f ((g3_0 0) == (g3_0 1)) 1).bind fun r18 =>
                                      some (r18.1, r18.2)
                                    else
                                      none
                                  else
                                    none
                                else
                                  bif decide ((0 : Int) < (x3n : Int)) then
                                    bif decide ((1 : Int) < (x3n : Int)) then
                                      bif decide ((0 : Int) < (x3n : Int)) then
                                        (opinfo_agreed.f ((g3_0 0) == (g3_0 1)) (g3_0 0)).bind fun r19 =>
                                        some (r19.1, r19.2)
                                      else
                                        none
                                    else
                                      none
                                  else
                                    none := by kernel_rfl
noncomputable def opinfo_Width.g (fu : Nat) (a0 : Int) (a1 : Int) (a2 : Int) (a3 : Nat × (Nat → Int)) : Option (Int × Int) :=
  (opinfo_known.f a0).bind fun r1 =>
  bif (!r1) then
    some (0, 4)
  else
    (opinfo_Arity.f a0).bind fun r2 =>
    bif ((a3.1 : Int) != r2) then
      some (0, 4)
    else
      opinfo_Width.j4 fu fu a0 a1 a2 a3.1 a3.1 (a3.1 : Int) 0 a3.1 a3.2
noncomputable def opinfo_Width.f (a0 : Int) (a1 : Int) (a2 : Int) (a3 : Nat × (Nat → Int)) : Option (Int × Int) := opinfo_Width.g (fuel0 + 1) a0 a1 a2 a3
theorem opinfo_Width.eq (fu : Nat) (a : Int × Int × Int × (Nat × (Nat → Int)) × Unit) : bodyK Tryd.prog opinfo_Width.cs opinfo_Width.live fu Tryd.f11 (opinfo_Width.a.enc a) opinfo_Width.r.dec = opinfo_Width.g fu a.1 a.2.1 a.2.2.1 a.2.2.2.1 := by kernel_rfl
theorem opinfo_Width.con : ∀ (a : Int × Int × Int × (Nat × (Nat → Int)) × Unit) (r : Int × Int), opinfo_Width.f a.1 a.2.1 a.2.2.1 a.2.2.2.1 = some r → Contract Tryd.prog 11 (opinfo_Width.a.enc a) (opinfo_Width.r.enc r) := Contract.of_body (F := fun (a : Int × Int × Int × (Nat × (Nat → Int)) × Unit) => opinfo_Width.f a.1 a.2.1 a.2.2.1 a.2.2.2.1) (fn := Tryd.f11) (cs := opinfo_Width.cs) (live := opinfo_Width.live) (fuel := fuel0 + 1) (by kernel_rfl) (by kernel_rfl) mixed (opinfo_Width.eq (fuel0 + 1))
noncomputable def opinfo_Width.c : Kn Tryd.prog := Kn.of 11 opinfo_Width.a opinfo_Width.r (fun a => opinfo_Width.f a.1 a.2.1 a.2.2.1 a.2.2.2.1) opinfo_Width.con

/-! ### saturatelaw04_lives: function 9 -/
def saturatelaw04_lives.a : ACods (Unit) := .nil
def saturatelaw04_lives.r : RCod (Bool) := .val (.bool)
noncomputable def saturatelaw04_lives.cs : List (Kn Tryd.prog) := [opinfo_Width.c]
def saturatelaw04_lives.live : Nat → Option Keep := liveOf []
noncomputable def saturatelaw04_lives.body : Code := bodyOf Tryd.f9
noncomputable def saturatelaw04_lives.K (fu : Nat) : Code → St → (Ex → St → Option (Bool)) → Option (Bool) := codeK Tryd.prog saturatelaw04_lives.cs saturatelaw04_lives.live fu
noncomputable def saturatelaw04_lives.f : Option (Bool) :=
  (opinfo_Width.f 20 0 0 (2, (fun i => [8, 8].getD i 0))).bind fun r1 =>
  (opinfo_Width.f 21 4 5 (1, (fun i => [8].getD i 0))).bind fun r2 =>
  bif (r1.1 == 16) then
    bif (r1.2 == 0) then
      some (r2.2 == 3)
    else
      some false
  else
    some false
theorem saturatelaw04_lives.eq (fu : Nat) (a : Unit) : bodyK Tryd.prog saturatelaw04_lives.cs saturatelaw04_lives.live fu Tryd.f9 (saturatelaw04_lives.a.enc a) saturatelaw04_lives.r.dec = saturatelaw04_lives.f := by kernel_rfl
theorem saturatelaw04_lives.con : ∀ (a : Unit) (r : Bool), saturatelaw04_lives.f = some r → Contract Tryd.prog 9 (saturatelaw04_lives.a.enc a) (saturatelaw04_lives.r.enc r) := Contract.of_body (F := fun (a : Unit) => saturatelaw04_lives.f) (fn := Tryd.f9) (cs := saturatelaw04_lives.cs) (live := saturatelaw04_lives.live) (fuel := fuel0 + 1) (by kernel_rfl) (by kernel_rfl) mixed (saturatelaw04_lives.eq (fuel0 + 1))
noncomputable def saturatelaw04_lives.c : Kn Tryd.prog := Kn.of 9 saturatelaw04_lives.a saturatelaw04_lives.r (fun a => saturatelaw04_lives.f) saturatelaw04_lives.con

/-! ### saturatelaw04_OpinfoNames: function 3 -/
def saturatelaw04_OpinfoNames.a : ACods (Int × ByteArray × Unit) := (.cons (.val (.int .i64)) (.cons (.val (.str)) .nil))
def saturatelaw04_OpinfoNames.r : RCod (Bool) := .val (.bool)
noncomputable def saturatelaw04_OpinfoNames.cs : List (Kn Tryd.prog) := [opinfo_Of.c, saturateref04_Of.c, opinfo_Name.c, saturateref04_Name.c, saturatelaw04_lives.c]
def saturatelaw04_OpinfoNames.live : Nat → Option Keep := liveOf []
noncomputable def saturatelaw04_OpinfoNames.body : Code := bodyOf Tryd.f3
noncomputable def saturatelaw04_OpinfoNames.K (fu : Nat) : Code → St → (Ex → St → Option (Bool)) → Option (Bool) := codeK Tryd.prog saturatelaw04_OpinfoNames.cs saturatelaw04_OpinfoNames.live fu
noncomputable def saturatelaw04_OpinfoNames.f (a0 : Int) (a1 : ByteArray) : Option (Bool) :=
  (opinfo_Of.f a1).bind fun r1 =>
  (saturateref04_Of.f a1).bind fun r2 =>
  (opinfo_Name.f a0).bind fun r3 =>
  (saturateref04_Name.f a0).bind fun r4 =>
  bif (r3.toList == r4.toList) then
    bif (r1.1 == r2.1) then
      bif (r1.2 == r2.2) then
        (saturatelaw04_lives.f).bind fun r5 =>
        some r5
      else
        some false
    else
      some false
  else
    some false
theorem saturatelaw04_OpinfoNames.eq (fu : Nat) (a : Int × ByteArray × Unit) : bodyK Tryd.prog saturatelaw04_OpinfoNames.cs saturatelaw04_OpinfoNames.live fu Tryd.f3 (saturatelaw04_OpinfoNames.a.enc a) saturatelaw04_OpinfoNames.r.dec = saturatelaw04_OpinfoNames.f a.1 a.2.1 := by kernel_rfl
theorem saturatelaw04_OpinfoNames.con : ∀ (a : Int × ByteArray × Unit) (r : Bool), saturatelaw04_OpinfoNames.f a.1 a.2.1 = some r → Contract Tryd.prog 3 (saturatelaw04_OpinfoNames.a.enc a) (saturatelaw04_OpinfoNames.r.enc r) := Contract.of_body (F := fun (a : Int × ByteArray × Unit) => saturatelaw04_OpinfoNames.f a.1 a.2.1) (fn := Tryd.f3) (cs := saturatelaw04_OpinfoNames.cs) (live := saturatelaw04_OpinfoNames.live) (fuel := fuel0 + 1) (by kernel_rfl) (by kernel_rfl) mixed (saturatelaw04_OpinfoNames.eq (fuel0 + 1))
noncomputable def saturatelaw04_OpinfoNames.c : Kn Tryd.prog := Kn.of 3 saturatelaw04_OpinfoNames.a saturatelaw04_OpinfoNames.r (fun a => saturatelaw04_OpinfoNames.f a.1 a.2.1) saturatelaw04_OpinfoNames.con

/-! ### saturatelaw04_OpinfoBack: function 4 -/
def saturatelaw04_OpinfoBack.a : ACods (Int × Int × ByteArray × Unit) := (.cons (.val (.int .i64)) (.cons (.val (.int .i64)) (.cons (.val (.str)) .nil)))
def saturatelaw04_OpinfoBack.r : RCod (Bool) := .val (.bool)
noncomputable def saturatelaw04_OpinfoBack.cs : List (Kn Tryd.prog) := [opinfo_Name.c, opinfo_Of.c, saturatelaw04_lives.c]
def saturatelaw04_OpinfoBack.live : Nat → Option Keep := liveOf [(8, ⟨[2], [], []⟩)]
noncomputable def saturatelaw04_OpinfoBack.body : Code := bodyOf Tryd.f4
noncomputable def saturatelaw04_OpinfoBack.K (fu : Nat) : Code → St → (Ex → St → Option (Bool)) → Option (Bool) := codeK Tryd.prog saturatelaw04_OpinfoBack.cs saturatelaw04_OpinfoBack.live fu
noncomputable def saturatelaw04_OpinfoBack.p4 (m fu : Nat) (x2 : ByteArray) : Option Bool :=
  joinK m (saturatelaw04_OpinfoBack.K fu (sub saturatelaw04_OpinfoBack.body [true, true, true])) (stOf 60 [(2, .val (.string x2))] []) (retC Tryd.prog Tryd.f4.results saturatelaw04_OpinfoBack.r.dec)
theorem saturatelaw04_OpinfoBack.p4_eq (m fu : Nat) (x2 : ByteArray) : saturatelaw04_OpinfoBack.p4 (m + 1) fu x2 =
  (opinfo_Of.f x2).bind fun r5 =>
  bif (!r5.2) then
    (saturatelaw04_lives.f).bind fun r6 =>
    some r6
  else
    (opinfo_Name.f r5.1).bind fun r7 =>
    bif (r7.toList == x2.toList) then
      (saturatelaw04_lives.f).bind fun r8 =>
      some r8
    else
      some false := by kernel_rfl
noncomputable def saturatelaw04_OpinfoBack.g (fu : Nat) (a0 : Int) (a1 : Int) (a2 : ByteArray) : Option (Bool) :=
  (opinfo_Name.f a0).bind fun r1 =>
  (opinfo_Of.f r1).bind fun r2 =>
  bif (decide (a0 ≥ 1)) then
    bif (decide (a0 ≤ 26)) then
      bif (!r2.2) then
        some false
      else
        bif (r2.1 != a0) then
          some false
        else
          bif (a0 != a1) then
            (opinfo_Name.f a0).bind fun r3 =>
            (opinfo_Name.f a1).bind fun r4 =>
            bif (r3.toList == r4.toList) then
              some false
            else
              saturatelaw04_OpinfoBack.p4 fu fu a2
          else
            saturatelaw04_OpinfoBack.p4 fu fu a2
    else
      saturatelaw04_OpinfoBack.p4 fu fu a2
  else
    saturatelaw04_OpinfoBack.p4 fu fu a2
noncomputable def saturatelaw04_OpinfoBack.f (a0 : Int) (a1 : Int) (a2 : ByteArray) : Option (Bool) := saturatelaw04_OpinfoBack.g (fuel0 + 1) a0 a1 a2
theorem saturatelaw04_OpinfoBack.eq (fu : Nat) (a : Int × Int × ByteArray × Unit) : bodyK Tryd.prog saturatelaw04_OpinfoBack.cs saturatelaw04_OpinfoBack.live fu Tryd.f4 (saturatelaw04_OpinfoBack.a.enc a) saturatelaw04_OpinfoBack.r.dec = saturatelaw04_OpinfoBack.g fu a.1 a.2.1 a.2.2.1 := by kernel_rfl
theorem saturatelaw04_OpinfoBack.con : ∀ (a : Int × Int × ByteArray × Unit) (r : Bool), saturatelaw04_OpinfoBack.f a.1 a.2.1 a.2.2.1 = some r → Contract Tryd.prog 4 (saturatelaw04_OpinfoBack.a.enc a) (saturatelaw04_OpinfoBack.r.enc r) := Contract.of_body (F := fun (a : Int × Int × ByteArray × Unit) => saturatelaw04_OpinfoBack.f a.1 a.2.1 a.2.2.1) (fn := Tryd.f4) (cs := saturatelaw04_OpinfoBack.cs) (live := saturatelaw04_OpinfoBack.live) (fuel := fuel0 + 1) (by kernel_rfl) (by kernel_rfl) mixed (saturatelaw04_OpinfoBack.eq (fuel0 + 1))
noncomputable def saturatelaw04_OpinfoBack.c : Kn Tryd.prog := Kn.of 4 saturatelaw04_OpinfoBack.a saturatelaw04_OpinfoBack.r (fun a => saturatelaw04_OpinfoBack.f a.1 a.2.1 a.2.2.1) saturatelaw04_OpinfoBack.con
end Go.Proofs.YtpdnbcablofgiaaDoor.Fn
