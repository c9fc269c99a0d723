/- What the functions return, as the evaluator tells it: written by a program of this workplace (mev.py); Lean checks each equation. -/
import Derived.Test.YtchahcaccneinaaProg
import Derived.Test.YtchahcaccneinaaEvC
namespace Go.Proofs.Ytchahcaccneinaa.Fn
open Go Go.RowKit Go.Proofs.Ytchahcaccneinaa.Ev Go.Proofs
set_option linter.unusedVariables false
set_option maxRecDepth 100000
theorem mixed : Try.prog.follows .mixedOrders = true := by kernel_rfl
def fuel0 : Nat := 18446744073709551615
/-! ### opinfo_known: function 105 -/
def opinfo_known.a : ACods (Int × Unit) := (.cons (.val (.int .i64)) .nil)
def opinfo_known.r : RCod (Bool) := .val (.bool)
noncomputable def opinfo_known.cs : List (Kn Try.prog) := []
def opinfo_known.live : Nat → Option Keep := liveOf []
noncomputable def opinfo_known.body : Code := bodyOf Try.f105
noncomputable def opinfo_known.K (fu : Nat) : Code → St → (Ex → St → Option (Bool)) → Option (Bool) := codeK Try.prog opinfo_known.cs opinfo_known.live fu
noncomputable def opinfo_known.f (a0 : Int) : Option (Bool) :=
  bif (decide (a0 ≥ 1)) then
    some (decide (a0 ≤ 26))
  else
    some false
theorem opinfo_known.eq (fu : Nat) (a : Int × Unit) : bodyK Try.prog opinfo_known.cs opinfo_known.live fu Try.f105 (opinfo_known.a.enc a) opinfo_known.r.dec = opinfo_known.f a.1 := by kernel_rfl
theorem opinfo_known.con : ∀ (a : Int × Unit) (r : Bool), opinfo_known.f a.1 = some r → Contract Try.prog 105 (opinfo_known.a.enc a) (opinfo_known.r.enc r) := Contract.of_body (F := fun (a : Int × Unit) => opinfo_known.f a.1) (fn := Try.f105) (cs := opinfo_known.cs) (live := opinfo_known.live) (fuel := fuel0 + 1) (by kernel_rfl) (by kernel_rfl) mixed (opinfo_known.eq (fuel0 + 1))
noncomputable def opinfo_known.c : Kn Try.prog := Kn.of 105 opinfo_known.a opinfo_known.r (fun a => opinfo_known.f a.1) opinfo_known.con

/-! ### opinfo_Arity: function 106 -/
def opinfo_Arity.a : ACods (Int × Unit) := (.cons (.val (.int .i64)) .nil)
def opinfo_Arity.r : RCod (Int) := .val (.int .i64)
noncomputable def opinfo_Arity.cs : List (Kn Try.prog) := []
def opinfo_Arity.live : Nat → Option Keep := liveOf [(60, ⟨[3], [], []⟩), (62, ⟨[3], [], []⟩), (64, ⟨[3], [], []⟩)]
noncomputable def opinfo_Arity.body : Code := bodyOf Try.f106
noncomputable def opinfo_Arity.K (fu : Nat) : Code → St → (Ex → St → Option (Int)) → Option (Int) := codeK Try.prog opinfo_Arity.cs opinfo_Arity.live fu
noncomputable def opinfo_Arity.p30 (m fu : Nat) (x3 : Int) : Option Int :=
  joinK m (opinfo_Arity.K fu (sub opinfo_Arity.body [true, true, false, true, false, false, false, false, false, true])) (stOf 42 [(3, .val (.int .i64 x3))] []) (blockC 3 (seqC fu (opinfo_Arity.live 62) (opinfo_Arity.K fu (sub opinfo_Arity.body [true, true, false, true, false, false, false, true])) (blockC 4 (seqC fu (opinfo_Arity.live 64) (opinfo_Arity.K fu (sub opinfo_Arity.body [true, true, false, true, false, true])) (blockC 0 (seqC fu (opinfo_Arity.live 66) (opinfo_Arity.K fu (sub opinfo_Arity.body [true, true, true])) (retC Try.prog Try.f106.results opinfo_Arity.r.dec)))))))
noncomputable def opinfo_Arity.p31 (m fu : Nat) (x3 : Int) : Option Int :=
  joinK m (opinfo_Arity.K fu (sub opinfo_Arity.body [true, true, false, true, false, false, false, true])) (stOf 42 [(3, .val (.int .i64 x3))] []) (blockC 4 (seqC fu (opinfo_Arity.live 64) (opinfo_Arity.K fu (sub opinfo_Arity.body [true, true, false, true, false, true])) (blockC 0 (seqC fu (opinfo_Arity.live 66) (opinfo_Arity.K fu (sub opinfo_Arity.body [true, true, true])) (retC Try.prog Try.f106.results opinfo_Arity.r.dec)))))
noncomputable def opinfo_Arity.p32 (m fu : Nat) (x3 : Int) : Option Int :=
  joinK m (opinfo_Arity.K fu (sub opinfo_Arity.body [true, true, false, true, false, true])) (stOf 42 [(3, .val (.int .i64 x3))] []) (blockC 0 (seqC fu (opinfo_Arity.live 66) (opinfo_Arity.K fu (sub opinfo_Arity.body [true, true, true])) (retC Try.prog Try.f106.results opinfo_Arity.r.dec)))
theorem opinfo_Arity.p32_eq (m fu : Nat) (x3 : Int) : opinfo_Arity.p32 (m + 1) fu x3 =
  some x3 := by kernel_rfl
theorem opinfo_Arity.p31_eq (m fu : Nat) (x3 : Int) : opinfo_Arity.p31 (m + 1) fu x3 =
  opinfo_Arity.p32 fu fu (IntKind.i64.wrap (x3 + 1)) := by kernel_rfl
theorem opinfo_Arity.p30_eq (m fu : Nat) (x3 : Int) : opinfo_Arity.p30 (m + 1) fu x3 =
  opinfo_Arity.p31 fu fu (IntKind.i64.wrap (x3 + 1)) := by kernel_rfl
noncomputable def opinfo_Arity.g (fu : Nat) (a0 : Int) : Option (Int) :=
  bif (a0 == 19) then
    opinfo_Arity.p30 fu fu 1
  else
    bif (a0 == 5) then
      opinfo_Arity.p30 fu fu 0
    else
      bif (a0 == 6) then
        opinfo_Arity.p30 fu fu 0
      else
        bif (a0 == 7) then
          opinfo_Arity.p30 fu fu 0
        else
          bif (a0 == 8) then
            opinfo_Arity.p30 fu fu 0
          else
            bif (a0 == 9) then
              opinfo_Arity.p30 fu fu 0
            else
              bif (a0 == 10) then
                opinfo_Arity.p30 fu fu 0
              else
                bif (a0 == 11) then
                  opinfo_Arity.p30 fu fu 0
                else
                  bif (a0 == 12) then
                    opinfo_Arity.p30 fu fu 0
                  else
                    bif (a0 == 13) then
                      opinfo_Arity.p30 fu fu 0
                    else
                      bif (a0 == 14) then
                        opinfo_Arity.p30 fu fu 0
                      else
                        bif (a0 == 15) then
                          opinfo_Arity.p30 fu fu 0
                        else
                          bif (a0 == 16) then
                            opinfo_Arity.p30 fu fu 0
                          else
                            bif (a0 == 17) then
                              opinfo_Arity.p30 fu fu 0
                            else
                              bif (a0 == 18) then
                                opinfo_Arity.p30 fu fu 0
                              else
                                bif (a0 == 20) then
                                  opinfo_Arity.p30 fu fu 0
                                else
                                  bif (a0 == 3) then
                                    opinfo_Arity.p31 fu fu 0
                                  else
                                    bif (a0 == 4) then
                                      opinfo_Arity.p31 fu fu 0
                                    else
                                      bif (a0 == 21) then
                                        opinfo_Arity.p31 fu fu 0
                                      else
                                        bif (a0 == 22) then
                                          opinfo_Arity.p31 fu fu 0
                                        else
                                          bif (a0 == 23) then
                                            opinfo_Arity.p31 fu fu 0
                                          else
                                            bif (a0 == 26) then
                                              opinfo_Arity.p31 fu fu 0
                                            else
                                              bif (a0 == 1) then
                                                opinfo_Arity.p32 fu fu 0
                                              else
                                                bif (a0 == 2) then
                                                  opinfo_Arity.p32 fu fu 0
                                                else
                                                  bif (a0 == 24) then
                                                    opinfo_Arity.p32 fu fu 0
                                                  else
                                                    bif (a0 == 25) then
                                                      opinfo_Arity.p32 fu fu 0
                                                    else
                                                      some (-1)
noncomputable def opinfo_Arity.f (a0 : Int) : Option (Int) := opinfo_Arity.g (fuel0 + 1) a0
theorem opinfo_Arity.eq (fu : Nat) (a : Int × Unit) : bodyK Try.prog opinfo_Arity.cs opinfo_Arity.live fu Try.f106 (opinfo_Arity.a.enc a) opinfo_Arity.r.dec = opinfo_Arity.g fu a.1 := by kernel_rfl
theorem opinfo_Arity.con : ∀ (a : Int × Unit) (r : Int), opinfo_Arity.f a.1 = some r → Contract Try.prog 106 (opinfo_Arity.a.enc a) (opinfo_Arity.r.enc r) := Contract.of_body (F := fun (a : Int × Unit) => opinfo_Arity.f a.1) (fn := Try.f106) (cs := opinfo_Arity.cs) (live := opinfo_Arity.live) (fuel := fuel0 + 1) (by kernel_rfl) (by kernel_rfl) mixed (opinfo_Arity.eq (fuel0 + 1))
noncomputable def opinfo_Arity.c : Kn Try.prog := Kn.of 106 opinfo_Arity.a opinfo_Arity.r (fun a => opinfo_Arity.f a.1) opinfo_Arity.con

/-! ### opinfo_inside: function 107 -/
def opinfo_inside.a : ACods (Int × Unit) := (.cons (.val (.int .i64)) .nil)
def opinfo_inside.r : RCod (Bool) := .val (.bool)
noncomputable def opinfo_inside.cs : List (Kn Try.prog) := []
def opinfo_inside.live : Nat → Option Keep := liveOf []
noncomputable def opinfo_inside.body : Code := bodyOf Try.f107
noncomputable def opinfo_inside.K (fu : Nat) : Code → St → (Ex → St → Option (Bool)) → Option (Bool) := codeK Try.prog opinfo_inside.cs opinfo_inside.live fu
noncomputable def opinfo_inside.f (a0 : Int) : Option (Bool) :=
  bif (decide (a0 ≥ 0)) then
    some (decide (a0 ≤ 64))
  else
    some false
theorem opinfo_inside.eq (fu : Nat) (a : Int × Unit) : bodyK Try.prog opinfo_inside.cs opinfo_inside.live fu Try.f107 (opinfo_inside.a.enc a) opinfo_inside.r.dec = opinfo_inside.f a.1 := by kernel_rfl
theorem opinfo_inside.con : ∀ (a : Int × Unit) (r : Bool), opinfo_inside.f a.1 = some r → Contract Try.prog 107 (opinfo_inside.a.enc a) (opinfo_inside.r.enc r) := Contract.of_body (F := fun (a : Int × Unit) => opinfo_inside.f a.1) (fn := Try.f107) (cs := opinfo_inside.cs) (live := opinfo_inside.live) (fuel := fuel0 + 1) (by kernel_rfl) (by kernel_rfl) mixed (opinfo_inside.eq (fuel0 + 1))
noncomputable def opinfo_inside.c : Kn Try.prog := Kn.of 107 opinfo_inside.a opinfo_inside.r (fun a => opinfo_inside.f a.1) opinfo_inside.con

/-! ### opinfo_leaf: function 108 -/
def opinfo_leaf.a : ACods (Int × Int × Int × Unit) := (.cons (.val (.int .i64)) (.cons (.val (.int .i64)) (.cons (.val (.int .u64)) .nil)))
def opinfo_leaf.r : RCod (Int × Int) := .val (.tup (.cons (.int .i64) (.one (.int .i64))))
noncomputable def opinfo_leaf.cs : List (Kn Try.prog) := [opinfo_inside.c]
def opinfo_leaf.live : Nat → Option Keep := liveOf [(6, ⟨[1], [], []⟩)]
noncomputable def opinfo_leaf.body : Code := bodyOf Try.f108
noncomputable def opinfo_leaf.K (fu : Nat) : Code → St → (Ex → St → Option (Int × Int)) → Option (Int × Int) := codeK Try.prog opinfo_leaf.cs opinfo_leaf.live fu
noncomputable def opinfo_leaf.p3 (m fu : Nat) (x1 : Int) : Option (Int × Int) :=
  joinK m (opinfo_leaf.K fu (sub opinfo_leaf.body [true, true])) (stOf 26 [(1, .val (.int .i64 x1))] []) (retC Try.prog Try.f108.results opinfo_leaf.r.dec)
theorem opinfo_leaf.p3_eq (m fu : Nat) (x1 : Int) : opinfo_leaf.p3 (m + 1) fu x1 =
  some (x1, 0) := by kernel_rfl
noncomputable def opinfo_leaf.g (fu : Nat) (a0 : Int) (a1 : Int) (a2 : Int) : Option (Int × Int) :=
  (opinfo_inside.f a1).bind fun r1 =>
  bif (!r1) then
    some (0, 3)
  else
    bif (a0 == 2) then
      bif (decide (a1 > 0)) then
        bif decide (a1 < 0) then
          none
        else
          bif ((shr .u64 a2 a1) != 0) then
            some (0, 3)
          else
            opinfo_leaf.p3 fu fu a1
      else
        opinfo_leaf.p3 fu fu a1
    else
      opinfo_leaf.p3 fu fu a1
noncomputable def opinfo_leaf.f (a0 : Int) (a1 : Int) (a2 : Int) : Option (Int × Int) := opinfo_leaf.g (fuel0 + 1) a0 a1 a2
theorem opinfo_leaf.eq (fu : Nat) (a : Int × Int × Int × Unit) : bodyK Try.prog opinfo_leaf.cs opinfo_leaf.live fu Try.f108 (opinfo_leaf.a.enc a) opinfo_leaf.r.dec = opinfo_leaf.g fu a.1 a.2.1 a.2.2.1 := by kernel_rfl
theorem opinfo_leaf.con : ∀ (a : Int × Int × Int × Unit) (r : Int × Int), opinfo_leaf.f a.1 a.2.1 a.2.2.1 = some r → Contract Try.prog 108 (opinfo_leaf.a.enc a) (opinfo_leaf.r.enc r) := Contract.of_body (F := fun (a : Int × Int × Int × Unit) => opinfo_leaf.f a.1 a.2.1 a.2.2.1) (fn := Try.f108) (cs := opinfo_leaf.cs) (live := opinfo_leaf.live) (fuel := fuel0 + 1) (by kernel_rfl) (by kernel_rfl) mixed (opinfo_leaf.eq (fuel0 + 1))
noncomputable def opinfo_leaf.c : Kn Try.prog := Kn.of 108 opinfo_leaf.a opinfo_leaf.r (fun a => opinfo_leaf.f a.1 a.2.1 a.2.2.1) opinfo_leaf.con

/-! ### opinfo_resized: function 109 -/
def opinfo_resized.a : ACods (Int × Int × Int × Int × Unit) := (.cons (.val (.int .i64)) (.cons (.val (.int .i64)) (.cons (.val (.int .u64)) (.cons (.val (.int .i64)) .nil))))
def opinfo_resized.r : RCod (Int × Int) := .val (.tup (.cons (.int .i64) (.one (.int .i64))))
noncomputable def opinfo_resized.cs : List (Kn Try.prog) := []
def opinfo_resized.live : Nat → Option Keep := liveOf [(10, ⟨[1], [], []⟩)]
noncomputable def opinfo_resized.body : Code := bodyOf Try.f109
noncomputable def opinfo_resized.K (fu : Nat) : Code → St → (Ex → St → Option (Int × Int)) → Option (Int × Int) := codeK Try.prog opinfo_resized.cs opinfo_resized.live fu
noncomputable def opinfo_resized.p5 (m fu : Nat) (x1 : Int) : Option (Int × Int) :=
  joinK m (opinfo_resized.K fu (sub opinfo_resized.body [true, true, true])) (stOf 45 [(1, .val (.int .i64 x1))] []) (retC Try.prog Try.f109.results opinfo_resized.r.dec)
theorem opinfo_resized.p5_eq (m fu : Nat) (x1 : Int) : opinfo_resized.p5 (m + 1) fu x1 =
  some (x1, 0) := by kernel_rfl
noncomputable def opinfo_resized.g (fu : Nat) (a0 : Int) (a1 : Int) (a2 : Int) (a3 : Int) : Option (Int × Int) :=
  bif (decide (a1 < 1)) then
    some (0, 3)
  else
    bif (decide (a1 > 64)) then
      some (0, 3)
    else
      bif (decide (a3 < 1)) then
        some (0, 3)
      else
        bif (a0 != 21) then
          bif (decide (a1 < a3)) then
            some (0, 3)
          else
            bif (a0 == 21) then
              bif (decide (a1 > a3)) then
                some (0, 3)
              else
                bif (decide (a2 > (IntKind.u64.wrap (IntKind.i64.wrap (a3 - a1))))) then
                  some (0, 3)
                else
                  opinfo_resized.p5 fu fu a1
            else
              opinfo_resized.p5 fu fu a1
        else
          bif (a0 == 21) then
            bif (decide (a1 > a3)) then
              some (0, 3)
            else
              bif (decide (a2 > (IntKind.u64.wrap (IntKind.i64.wrap (a3 - a1))))) then
                some (0, 3)
              else
                opinfo_resized.p5 fu fu a1
          else
            opinfo_resized.p5 fu fu a1
noncomputable def opinfo_resized.f (a0 : Int) (a1 : Int) (a2 : Int) (a3 : Int) : Option (Int × Int) := opinfo_resized.g (fuel0 + 1) a0 a1 a2 a3
theorem opinfo_resized.eq (fu : Nat) (a : Int × Int × Int × Int × Unit) : bodyK Try.prog opinfo_resized.cs opinfo_resized.live fu Try.f109 (opinfo_resized.a.enc a) opinfo_resized.r.dec = opinfo_resized.g fu a.1 a.2.1 a.2.2.1 a.2.2.2.1 := by kernel_rfl
theorem opinfo_resized.con : ∀ (a : Int × Int × Int × Int × Unit) (r : Int × Int), opinfo_resized.f a.1 a.2.1 a.2.2.1 a.2.2.2.1 = some r → Contract Try.prog 109 (opinfo_resized.a.enc a) (opinfo_resized.r.enc r) := Contract.of_body (F := fun (a : Int × Int × Int × Int × Unit) => opinfo_resized.f a.1 a.2.1 a.2.2.1 a.2.2.2.1) (fn := Try.f109) (cs := opinfo_resized.cs) (live := opinfo_resized.live) (fuel := fuel0 + 1) (by kernel_rfl) (by kernel_rfl) mixed (opinfo_resized.eq (fuel0 + 1))
noncomputable def opinfo_resized.c : Kn Try.prog := Kn.of 109 opinfo_resized.a opinfo_resized.r (fun a => opinfo_resized.f a.1 a.2.1 a.2.2.1 a.2.2.2.1) opinfo_resized.con

/-! ### opinfo_agreed: function 110 -/
def opinfo_agreed.a : ACods (Bool × Int × Unit) := (.cons (.val (.bool)) (.cons (.val (.int .i64)) .nil))
def opinfo_agreed.r : RCod (Int × Int) := .val (.tup (.cons (.int .i64) (.one (.int .i64))))
noncomputable def opinfo_agreed.cs : List (Kn Try.prog) := []
def opinfo_agreed.live : Nat → Option Keep := liveOf []
noncomputable def opinfo_agreed.body : Code := bodyOf Try.f110
noncomputable def opinfo_agreed.K (fu : Nat) : Code → St → (Ex → St → Option (Int × Int)) → Option (Int × Int) := codeK Try.prog opinfo_agreed.cs opinfo_agreed.live fu
noncomputable def opinfo_agreed.f (a0 : Bool) (a1 : Int) : Option (Int × Int) :=
  bif (!a0) then
    some (0, 3)
  else
    some (a1, 0)
theorem opinfo_agreed.eq (fu : Nat) (a : Bool × Int × Unit) : bodyK Try.prog opinfo_agreed.cs opinfo_agreed.live fu Try.f110 (opinfo_agreed.a.enc a) opinfo_agreed.r.dec = opinfo_agreed.f a.1 a.2.1 := by kernel_rfl
theorem opinfo_agreed.con : ∀ (a : Bool × Int × Unit) (r : Int × Int), opinfo_agreed.f a.1 a.2.1 = some r → Contract Try.prog 110 (opinfo_agreed.a.enc a) (opinfo_agreed.r.enc r) := Contract.of_body (F := fun (a : Bool × Int × Unit) => opinfo_agreed.f a.1 a.2.1) (fn := Try.f110) (cs := opinfo_agreed.cs) (live := opinfo_agreed.live) (fuel := fuel0 + 1) (by kernel_rfl) (by kernel_rfl) mixed (opinfo_agreed.eq (fuel0 + 1))
noncomputable def opinfo_agreed.c : Kn Try.prog := Kn.of 110 opinfo_agreed.a opinfo_agreed.r (fun a => opinfo_agreed.f a.1 a.2.1) opinfo_agreed.con

/-! ### opinfo_Width: function 67 -/
def opinfo_Width.a : ACods (Int × Int × Int × (Nat × (Nat → Int)) × Unit) := (.cons (.val (.int .i64)) (.cons (.val (.int .i64)) (.cons (.val (.int .u64)) (.cons (.rows (.int1 .i64)) .nil))))
def opinfo_Width.r : RCod (Int × Int) := .val (.tup (.cons (.int .i64) (.one (.int .i64))))
noncomputable def opinfo_Width.cs : List (Kn Try.prog) := [opinfo_known.c, opinfo_Arity.c, opinfo_inside.c, opinfo_leaf.c, opinfo_resized.c, opinfo_agreed.c]
def opinfo_Width.live : Nat → Option Keep := liveOf [(9, ⟨[0, 1, 2, 3, 22, 23, 24], [3], []⟩)]
noncomputable def opinfo_Width.body : Code := bodyOf Try.f67
noncomputable def opinfo_Width.K (fu : Nat) : Code → St → (Ex → St → Option (Int × Int)) → Option (Int × Int) := codeK Try.prog opinfo_Width.cs opinfo_Width.live fu
noncomputable def opinfo_Width.j4 (fu : Nat) (n4 : Nat) (x0 : Int) (x1 : Int) (x2 : Int) (x3n : Nat) (x22n : Nat) (x23 : Int) (x24 : Int) (m3 : Nat) (g3_0 : Nat → Int) : Option (Int × Int) :=
  loopK (opinfo_Width.K fu (sub opinfo_Width.body [true, true, false, true, false, false])) (opinfo_Width.live 9) n4 (stOf 144 [(0, .val (.int .i64 x0)), (1, .val (.int .i64 x1)), (2, .val (.int .u64 x2)), (3, .sl 3 1 x3n), (22, .sl 3 1 x22n), (23, .val (.int .i64 x23)), (24, .val (.int .i64 x24))] [(3, .ext m3 [.int .i64 g3_0])]) (blockC 0 (seqC fu (opinfo_Width.live 18) (opinfo_Width.K fu (sub opinfo_Width.body [true, true, true])) (retC Try.prog Try.f67.results opinfo_Width.r.dec)))
theorem opinfo_Width.j4_succ (fu : Nat) (n4 : Nat) (x0 : Int) (x1 : Int) (x2 : Int) (x3n : Nat) (x22n : Nat) (x23 : Int) (x24 : Int) (m3 : Nat) (g3_0 : Nat → Int) : opinfo_Width.j4 fu (n4 + 1) x0 x1 x2 x3n x22n x23 x24 m3 g3_0 =
  bif (decide (x24 < x23)) then
    bif decide (0 ≤ x24) then
      bif decide (x24 < (x22n : Int)) then
        (opinfo_inside.f (g3_0 x24.toNat)).bind fun r3 =>
        bif (!r3) then
          some (0, 3)
        else
          opinfo_Width.j4 fu n4 x0 x1 x2 x3n x22n x23 (IntKind.i64.wrap (x24 + 1)) m3 g3_0
      else
        none
    else
      none
  else
    bif (x0 == 1) then
      (opinfo_leaf.f x0 x1 x2).bind fun r4 =>
      some (r4.1, r4.2)
    else
      bif (x0 == 2) then
        (opinfo_leaf.f x0 x1 x2).bind fun r5 =>
        some (r5.1, r5.2)
      else
        bif (x0 == 24) then
          (opinfo_leaf.f x0 x1 x2).bind fun r6 =>
          some (r6.1, r6.2)
        else
          bif (x0 == 25) then
            (opinfo_leaf.f x0 x1 x2).bind fun r7 =>
            some (r7.1, r7.2)
          else
            bif (x0 == 3) then
              bif decide ((0 : Int) < (x3n : Int)) then
                some ((g3_0 0), 0)
              else
                none
            else
              bif (x0 == 4) then
                bif decide ((0 : Int) < (x3n : Int)) then
                  some ((g3_0 0), 0)
                else
                  none
              else
                bif (x0 == 26) then
                  bif decide ((0 : Int) < (x3n : Int)) then
                    some ((g3_0 0), 0)
                  else
                    none
                else
                  bif (x0 == 21) then
                    bif decide ((0 : Int) < (x3n : Int)) then
                      (opinfo_resized.f x0 x1 x2 (g3_0 0)).bind fun r8 =>
                      some (r8.1, r8.2)
                    else
                      none
                  else
                    bif (x0 == 22) then
                      bif decide ((0 : Int) < (x3n : Int)) then
                        (opinfo_resized.f x0 x1 x2 (g3_0 0)).bind fun r9 =>
                        some (r9.1, r9.2)
                      else
                        none
                    else
                      bif (x0 == 23) then
                        bif decide ((0 : Int) < (x3n : Int)) then
                          (opinfo_resized.f x0 x1 x2 (g3_0 0)).bind fun r10 =>
                          some (r10.1, r10.2)
                        else
                          none
                      else
                        bif (x0 == 19) then
                          bif decide ((0 : Int) < (x3n : Int)) then
                            bif ((g3_0 0) == 1) then
                              bif decide ((1 : Int) < (x3n : Int)) then
                                bif decide ((2 : Int) < (x3n : Int)) then
                                  bif decide ((1 : Int) < (x3n : Int)) then
                                    (opinfo_agreed.f ((g3_0 1) == (g3_0 2)) (g3_0 1)).bind fun r11 =>
                                    some (r11.1, r11.2)
                                  else
                                    none
                                else
                                  none
                              else
                                none
                            else
                              bif decide ((1 : Int) < (x3n : Int)) then
                                (opinfo_agreed.f false (g3_0 1)).bind fun r12 =>
                                some (r12.1, r12.2)
                              else
                                none
                          else
                            none
                        else
                          bif (x0 == 20) then
                            bif decide ((0 : Int) < (x3n : Int)) then
                              bif (decide ((g3_0 0) ≥ 1)) then
                                bif decide ((1 : Int) < (x3n : Int)) then
                                  bif (decide ((g3_0 1) ≥ 1)) then
                                    bif decide ((0 : Int) < (x3n : Int)) then
                                      bif decide ((1 : Int) < (x3n : Int)) then
                                        bif decide ((0 : Int) < (x3n : Int)) then
                                          bif decide ((1 : Int) < (x3n : Int)) then
                                            (opinfo_agreed.f (decide ((IntKind.i64.wrap ((g3_0 0) + (g3_0 1))) ≤ 64)) (IntKind.i64.wrap ((g3_0 0) + (g3_0 1)))).bind fun r13 =>
                                            some (r13.1, r13.2)
                                          else
                                            none
                                        else
                                          none
                                      else
                                        none
                                    else
                                      none
                                  else
                                    bif decide ((0 : Int) < (x3n : Int)) then
                                      bif decide ((1 : Int) < (x3n : Int)) then
                                        (opinfo_agreed.f false (IntKind.i64.wrap ((g3_0 0) + (g3_0 1)))).bind fun r14 =>
                                        some (r14.1, r14.2)
                                      else
                                        none
                                    else
                                      none
                                else
                                  none
                              else
                                bif decide ((0 : Int) < (x3n : Int)) then
                                  bif decide ((1 : Int) < (x3n : Int)) then
                                    (opinfo_agreed.f false (IntKind.i64.wrap ((g3_0 0) + (g3_0 1)))).bind fun r15 =>
                                    some (r15.1, r15.2)
                                  else
                                    none
                                else
                                  none
                            else
                              none
                          else
                            bif (x0 == 16) then
                              bif decide ((0 : Int) < (x3n : Int)) then
                                bif decide ((1 : Int) < (x3n : Int)) then
                                  (opinfo_agreed.f ((g3_0 0) == (g3_0 1)) 1).bind fun r16 =>
                                  some (r16.1, r16.2)
                                else
                                  none
                              else
                                none
                            else
                              bif (x0 == 17) then
                                bif decide ((0 : Int) < (x3n : Int)) then
                                  bif decide ((1 : Int) < (x3n : Int)) then
                                    (opinfo_agreed.f ((g3_0 0) == (g3_0 1)) 1).bind fun r17 =>
                                    some (r17.1, r17.2)
                                  else
                                    none
                                else
                                  none
                              else
                                bif (x0 == 18) then
                                  bif decide ((0 : Int) < (x3n : Int)) then
                                    bif decide ((1 : Int) < (x3n : Int)) then
                                      (opinfo_agreed.f ((g3_0 0) == (g3_0 1)) 1).bind fun r18 =>
                                      some (r18.1, r18.2)
                                    else
                                      none
                                  else
                                    none
                                else
                                  bif decide ((0 : Int) < (x3n : Int)) then
                                    bif decide ((1 : Int) < (x3n : Int)) then
                                      bif decide ((0 : Int) < (x3n : Int)) then
                                        (opinfo_agreed.f ((g3_0 0) == (g3_0 1)) (g3_0 0)).bind fun r19 =>
                                        some (r19.1, r19.2)
                                      else
                                        none
                                    else
                                      none
                                  else
                                    none := by kernel_rfl
noncomputable def opinfo_Width.g (fu : Nat) (a0 : Int) (a1 : Int) (a2 : Int) (a3 : Nat × (Nat → Int)) : Option (Int × Int) :=
  (opinfo_known.f a0).bind fun r1 =>
  bif (!r1) then
    some (0, 4)
  else
    (opinfo_Arity.f a0).bind fun r2 =>
    bif ((a3.1 : Int) != r2) then
      some (0, 4)
    else
      opinfo_Width.j4 fu fu a0 a1 a2 a3.1 a3.1 (a3.1 : Int) 0 a3.1 a3.2
noncomputable def opinfo_Width.f (a0 : Int) (a1 : Int) (a2 : Int) (a3 : Nat × (Nat → Int)) : Option (Int × Int) := opinfo_Width.g (fuel0 + 1) a0 a1 a2 a3
theorem opinfo_Width.eq (fu : Nat) (a : Int × Int × Int × (Nat × (Nat → Int)) × Unit) : bodyK Try.prog opinfo_Width.cs opinfo_Width.live fu Try.f67 (opinfo_Width.a.enc a) opinfo_Width.r.dec = opinfo_Width.g fu a.1 a.2.1 a.2.2.1 a.2.2.2.1 := by kernel_rfl
theorem opinfo_Width.con : ∀ (a : Int × Int × Int × (Nat × (Nat → Int)) × Unit) (r : Int × Int), opinfo_Width.f a.1 a.2.1 a.2.2.1 a.2.2.2.1 = some r → Contract Try.prog 67 (opinfo_Width.a.enc a) (opinfo_Width.r.enc r) := Contract.of_body (F := fun (a : Int × Int × Int × (Nat × (Nat → Int)) × Unit) => opinfo_Width.f a.1 a.2.1 a.2.2.1 a.2.2.2.1) (fn := Try.f67) (cs := opinfo_Width.cs) (live := opinfo_Width.live) (fuel := fuel0 + 1) (by kernel_rfl) (by kernel_rfl) mixed (opinfo_Width.eq (fuel0 + 1))
noncomputable def opinfo_Width.c : Kn Try.prog := Kn.of 67 opinfo_Width.a opinfo_Width.r (fun a => opinfo_Width.f a.1 a.2.1 a.2.2.1 a.2.2.2.1) opinfo_Width.con

/-! ### opinfo_Pattern: function 68 -/
def opinfo_Pattern.a : ACods (Int × Unit) := (.cons (.val (.int .i64)) .nil)
def opinfo_Pattern.r : RCod (Bool) := .val (.bool)
noncomputable def opinfo_Pattern.cs : List (Kn Try.prog) := []
def opinfo_Pattern.live : Nat → Option Keep := liveOf []
noncomputable def opinfo_Pattern.body : Code := bodyOf Try.f68
noncomputable def opinfo_Pattern.K (fu : Nat) : Code → St → (Ex → St → Option (Bool)) → Option (Bool) := codeK Try.prog opinfo_Pattern.cs opinfo_Pattern.live fu
noncomputable def opinfo_Pattern.f (a0 : Int) : Option (Bool) :=
  bif (decide (a0 ≥ 24)) then
    some (decide (a0 ≤ 26))
  else
    some false
theorem opinfo_Pattern.eq (fu : Nat) (a : Int × Unit) : bodyK Try.prog opinfo_Pattern.cs opinfo_Pattern.live fu Try.f68 (opinfo_Pattern.a.enc a) opinfo_Pattern.r.dec = opinfo_Pattern.f a.1 := by kernel_rfl
theorem opinfo_Pattern.con : ∀ (a : Int × Unit) (r : Bool), opinfo_Pattern.f a.1 = some r → Contract Try.prog 68 (opinfo_Pattern.a.enc a) (opinfo_Pattern.r.enc r) := Contract.of_body (F := fun (a : Int × Unit) => opinfo_Pattern.f a.1) (fn := Try.f68) (cs := opinfo_Pattern.cs) (live := opinfo_Pattern.live) (fuel := fuel0 + 1) (by kernel_rfl) (by kernel_rfl) mixed (opinfo_Pattern.eq (fuel0 + 1))
noncomputable def opinfo_Pattern.c : Kn Try.prog := Kn.of 68 opinfo_Pattern.a opinfo_Pattern.r (fun a => opinfo_Pattern.f a.1) opinfo_Pattern.con

/-! ### ranges_check: function 33 -/
def ranges_check.a : ACods (Int × Int × Int × (Nat × (Nat → Int)) × (Nat × (Nat → Int) × (Nat → Int)) × Unit) := (.cons (.val (.int .i64)) (.cons (.val (.int .i64)) (.cons (.val (.int .u64)) (.cons (.rows (.int1 .i64)) (.cons (.rows (.int .u64 (.int1 .u64))) .nil)))))
def ranges_check.r : RCod (Int × Int) := .val (.tup (.cons (.int .i64) (.one (.int .i64))))
noncomputable def ranges_check.cs : List (Kn Try.prog) := [opinfo_Width.c, opinfo_Pattern.c]
def ranges_check.live : Nat → Option Keep := liveOf [(21, ⟨[12, 14, 37, 38, 39], [3], []⟩), (26, ⟨[12, 14, 37, 38, 39], [3], []⟩)]
noncomputable def ranges_check.body : Code := bodyOf Try.f33
noncomputable def ranges_check.K (fu : Nat) : Code → St → (Ex → St → Option (Int × Int)) → Option (Int × Int) := codeK Try.prog ranges_check.cs ranges_check.live fu
noncomputable def ranges_check.j10 (fu : Nat) (n10 : Nat) (x12 : Int) (x14 : Bool) (x37n : Nat) (x38 : Int) (x39 : Int) (m3 : Nat) (g3_0 : Nat → Int) : Option (Int × Int) :=
  loopK (ranges_check.K fu (sub ranges_check.body [true, true, true, true, true, true, false, true, false, false])) (ranges_check.live 21) n10 (stOf 51 [(12, .val (.int .i64 x12)), (14, .val (.bool x14)), (37, .sl 3 1 x37n), (38, .val (.int .i64 x38)), (39, .val (.int .i64 x39))] [(3, .ext m3 [.int .i64 g3_0])]) (blockC 0 (seqC fu (ranges_check.live 28) (ranges_check.K fu (sub ranges_check.body [true, true, true, true, true, true, true])) (retC Try.prog Try.f33.results ranges_check.r.dec)))
noncomputable def ranges_check.p13 (m fu : Nat) (n10 : Nat) (x12 : Int) (x14 : Bool) (x37n : Nat) (x38 : Int) (x39 : Int) (m3 : Nat) (g3_0 : Nat → Int) : Option (Int × Int) :=
  joinK m (ranges_check.K fu (sub ranges_check.body [true, true, true, true, true, true, false, true, false, false, true, true, true])) (stOf 51 [(12, .val (.int .i64 x12)), (14, .val (.bool x14)), (37, .sl 3 1 x37n), (38, .val (.int .i64 x38)), (39, .val (.int .i64 x39))] [(3, .ext m3 [.int .i64 g3_0])]) (roundC (ranges_check.live 21) (loopK (ranges_check.K fu (sub ranges_check.body [true, true, true, true, true, true, false, true, false, false])) (ranges_check.live 21) n10) (blockC 0 (seqC fu (ranges_check.live 28) (ranges_check.K fu (sub ranges_check.body [true, true, true, true, true, true, true])) (retC Try.prog Try.f33.results ranges_check.r.dec))))
theorem ranges_check.p13_eq (m fu : Nat) (n10 : Nat) (x12 : Int) (x14 : Bool) (x37n : Nat) (x38 : Int) (x39 : Int) (m3 : Nat) (g3_0 : Nat → Int) : ranges_check.p13 (m + 1) fu n10 x12 x14 x37n x38 x39 m3 g3_0 =
  ranges_check.j10 fu n10 x12 x14 x37n x38 (IntKind.i64.wrap (x39 + 1)) m3 g3_0 := by kernel_rfl
theorem ranges_check.j10_succ (fu : Nat) (n10 : Nat) (x12 : Int) (x14 : Bool) (x37n : Nat) (x38 : Int) (x39 : Int) (m3 : Nat) (g3_0 : Nat → Int) : ranges_check.j10 fu (n10 + 1) x12 x14 x37n x38 x39 m3 g3_0 =
  bif (decide (x39 < x38)) then
    bif decide (0 ≤ x39) then
      bif decide (x39 < (x37n : Int)) then
        bif x14 then
          ranges_check.p13 fu fu n10 x12 true x37n x38 x39 m3 g3_0
        else
          ranges_check.p13 fu fu n10 x12 ((g3_0 x39.toNat) == 0) x37n x38 x39 m3 g3_0
      else
        none
    else
      none
  else
    bif x14 then
      some (0, 3)
    else
      some (x12, 0) := by kernel_rfl
noncomputable def ranges_check.g (fu : Nat) (a0 : Int) (a1 : Int) (a2 : Int) (a3 : Nat × (Nat → Int)) (a4 : Nat × (Nat → Int) × (Nat → Int)) : Option (Int × Int) :=
  bif ((a4.1 : Int) != (a3.1 : Int)) then
    some (0, 4)
  else
    (opinfo_Width.f a0 a1 a2 (a3.1, a3.2)).bind fun r1 =>
    bif (r1.2 != 0) then
      some (0, r1.2)
    else
      (opinfo_Pattern.f a0).bind fun r2 =>
      bif r2 then
        some (0, 4)
      else
        ranges_check.j10 fu fu r1.1 (r1.1 == 0) a3.1 (a3.1 : Int) 0 a3.1 a3.2
noncomputable def ranges_check.f (a0 : Int) (a1 : Int) (a2 : Int) (a3 : Nat × (Nat → Int)) (a4 : Nat × (Nat → Int) × (Nat → Int)) : Option (Int × Int) := ranges_check.g (fuel0 + 1) a0 a1 a2 a3 a4
theorem ranges_check.eq (fu : Nat) (a : Int × Int × Int × (Nat × (Nat → Int)) × (Nat × (Nat → Int) × (Nat → Int)) × Unit) : bodyK Try.prog ranges_check.cs ranges_check.live fu Try.f33 (ranges_check.a.enc a) ranges_check.r.dec = ranges_check.g fu a.1 a.2.1 a.2.2.1 a.2.2.2.1 a.2.2.2.2.1 := by kernel_rfl
theorem ranges_check.con : ∀ (a : Int × Int × Int × (Nat × (Nat → Int)) × (Nat × (Nat → Int) × (Nat → Int)) × Unit) (r : Int × Int), ranges_check.f a.1 a.2.1 a.2.2.1 a.2.2.2.1 a.2.2.2.2.1 = some r → Contract Try.prog 33 (ranges_check.a.enc a) (ranges_check.r.enc r) := Contract.of_body (F := fun (a : Int × Int × Int × (Nat × (Nat → Int)) × (Nat × (Nat → Int) × (Nat → Int)) × Unit) => ranges_check.f a.1 a.2.1 a.2.2.1 a.2.2.2.1 a.2.2.2.2.1) (fn := Try.f33) (cs := ranges_check.cs) (live := ranges_check.live) (fuel := fuel0 + 1) (by kernel_rfl) (by kernel_rfl) mixed (ranges_check.eq (fuel0 + 1))
noncomputable def ranges_check.c : Kn Try.prog := Kn.of 33 ranges_check.a ranges_check.r (fun a => ranges_check.f a.1 a.2.1 a.2.2.1 a.2.2.2.1 a.2.2.2.2.1) ranges_check.con

/-! ### bits_clamp: function 104 -/
def bits_clamp.a : ACods (Int × Unit) := (.cons (.val (.int .i64)) .nil)
def bits_clamp.r : RCod (Int) := .val (.int .i64)
noncomputable def bits_clamp.cs : List (Kn Try.prog) := []
def bits_clamp.live : Nat → Option Keep := liveOf []
noncomputable def bits_clamp.body : Code := bodyOf Try.f104
noncomputable def bits_clamp.K (fu : Nat) : Code → St → (Ex → St → Option (Int)) → Option (Int) := codeK Try.prog bits_clamp.cs bits_clamp.live fu
noncomputable def bits_clamp.f (a0 : Int) : Option (Int) :=
  some (mn (mx a0 1) 64)
theorem bits_clamp.eq (fu : Nat) (a : Int × Unit) : bodyK Try.prog bits_clamp.cs bits_clamp.live fu Try.f104 (bits_clamp.a.enc a) bits_clamp.r.dec = bits_clamp.f a.1 := by kernel_rfl
theorem bits_clamp.con : ∀ (a : Int × Unit) (r : Int), bits_clamp.f a.1 = some r → Contract Try.prog 104 (bits_clamp.a.enc a) (bits_clamp.r.enc r) := Contract.of_body (F := fun (a : Int × Unit) => bits_clamp.f a.1) (fn := Try.f104) (cs := bits_clamp.cs) (live := bits_clamp.live) (fuel := fuel0 + 1) (by kernel_rfl) (by kernel_rfl) mixed (bits_clamp.eq (fuel0 + 1))
noncomputable def bits_clamp.c : Kn Try.prog := Kn.of 104 bits_clamp.a bits_clamp.r (fun a => bits_clamp.f a.1) bits_clamp.con

/-! ### bits_Mask: function 65 -/
def bits_Mask.a : ACods (Int × Unit) := (.cons (.val (.int .i64)) .nil)
def bits_Mask.r : RCod (Int) := .val (.int .u64)
noncomputable def bits_Mask.cs : List (Kn Try.prog) := [bits_clamp.c]
def bits_Mask.live : Nat → Option Keep := liveOf []
noncomputable def bits_Mask.body : Code := bodyOf Try.f65
noncomputable def bits_Mask.K (fu : Nat) : Code → St → (Ex → St → Option (Int)) → Option (Int) := codeK Try.prog bits_Mask.cs bits_Mask.live fu
noncomputable def bits_Mask.f (a0 : Int) : Option (Int) :=
  (bits_clamp.f a0).bind fun r1 =>
  bif decide ((IntKind.i64.wrap (64 - r1)) < 0) then
    none
  else
    some (shr .u64 18446744073709551615 (IntKind.i64.wrap (64 - r1)))
theorem bits_Mask.eq (fu : Nat) (a : Int × Unit) : bodyK Try.prog bits_Mask.cs bits_Mask.live fu Try.f65 (bits_Mask.a.enc a) bits_Mask.r.dec = bits_Mask.f a.1 := by kernel_rfl
theorem bits_Mask.con : ∀ (a : Int × Unit) (r : Int), bits_Mask.f a.1 = some r → Contract Try.prog 65 (bits_Mask.a.enc a) (bits_Mask.r.enc r) := Contract.of_body (F := fun (a : Int × Unit) => bits_Mask.f a.1) (fn := Try.f65) (cs := bits_Mask.cs) (live := bits_Mask.live) (fuel := fuel0 + 1) (by kernel_rfl) (by kernel_rfl) mixed (bits_Mask.eq (fuel0 + 1))
noncomputable def bits_Mask.c : Kn Try.prog := Kn.of 65 bits_Mask.a bits_Mask.r (fun a => bits_Mask.f a.1) bits_Mask.con

/-! ### ranges_Valid: function 16 -/
def ranges_Valid.a : ACods (Int × (Int × Int) × Unit) := (.cons (.val (.int .i64)) (.cons (.val (.agg (.cons (.int .u64) (.one (.int .u64))))) .nil))
def ranges_Valid.r : RCod (Bool) := .val (.bool)
noncomputable def ranges_Valid.cs : List (Kn Try.prog) := [bits_Mask.c]
def ranges_Valid.live : Nat → Option Keep := liveOf []
noncomputable def ranges_Valid.body : Code := bodyOf Try.f16
noncomputable def ranges_Valid.K (fu : Nat) : Code → St → (Ex → St → Option (Bool)) → Option (Bool) := codeK Try.prog ranges_Valid.cs ranges_Valid.live fu
noncomputable def ranges_Valid.f (a0 : Int) (a1 : Int × Int) : Option (Bool) :=
  bif (decide (a1.1 ≤ a1.2)) then
    (bits_Mask.f a0).bind fun r1 =>
    some (decide (a1.2 ≤ r1))
  else
    some false
theorem ranges_Valid.eq (fu : Nat) (a : Int × (Int × Int) × Unit) : bodyK Try.prog ranges_Valid.cs ranges_Valid.live fu Try.f16 (ranges_Valid.a.enc a) ranges_Valid.r.dec = ranges_Valid.f a.1 a.2.1 := by kernel_rfl
theorem ranges_Valid.con : ∀ (a : Int × (Int × Int) × Unit) (r : Bool), ranges_Valid.f a.1 a.2.1 = some r → Contract Try.prog 16 (ranges_Valid.a.enc a) (ranges_Valid.r.enc r) := Contract.of_body (F := fun (a : Int × (Int × Int) × Unit) => ranges_Valid.f a.1 a.2.1) (fn := Try.f16) (cs := ranges_Valid.cs) (live := ranges_Valid.live) (fuel := fuel0 + 1) (by kernel_rfl) (by kernel_rfl) mixed (ranges_Valid.eq (fuel0 + 1))
noncomputable def ranges_Valid.c : Kn Try.prog := Kn.of 16 ranges_Valid.a ranges_Valid.r (fun a => ranges_Valid.f a.1 a.2.1) ranges_Valid.con

/-! ### ranges_Top: function 19 -/
def ranges_Top.a : ACods (Int × Unit) := (.cons (.val (.int .i64)) .nil)
def ranges_Top.r : RCod (Int × Int) := .val (.agg (.cons (.int .u64) (.one (.int .u64))))
noncomputable def ranges_Top.cs : List (Kn Try.prog) := [bits_Mask.c]
def ranges_Top.live : Nat → Option Keep := liveOf []
noncomputable def ranges_Top.body : Code := bodyOf Try.f19
noncomputable def ranges_Top.K (fu : Nat) : Code → St → (Ex → St → Option (Int × Int)) → Option (Int × Int) := codeK Try.prog ranges_Top.cs ranges_Top.live fu
noncomputable def ranges_Top.f (a0 : Int) : Option (Int × Int) :=
  (bits_Mask.f a0).bind fun r1 =>
  some (0, r1)
theorem ranges_Top.eq (fu : Nat) (a : Int × Unit) : bodyK Try.prog ranges_Top.cs ranges_Top.live fu Try.f19 (ranges_Top.a.enc a) ranges_Top.r.dec = ranges_Top.f a.1 := by kernel_rfl
theorem ranges_Top.con : ∀ (a : Int × Unit) (r : Int × Int), ranges_Top.f a.1 = some r → Contract Try.prog 19 (ranges_Top.a.enc a) (ranges_Top.r.enc r) := Contract.of_body (F := fun (a : Int × Unit) => ranges_Top.f a.1) (fn := Try.f19) (cs := ranges_Top.cs) (live := ranges_Top.live) (fuel := fuel0 + 1) (by kernel_rfl) (by kernel_rfl) mixed (ranges_Top.eq (fuel0 + 1))
noncomputable def ranges_Top.c : Kn Try.prog := Kn.of 19 ranges_Top.a ranges_Top.r (fun a => ranges_Top.f a.1) ranges_Top.con

/-! ### ranges_norm: function 34 -/
def ranges_norm.a : ACods (Int × (Int × Int) × Unit) := (.cons (.val (.int .i64)) (.cons (.val (.agg (.cons (.int .u64) (.one (.int .u64))))) .nil))
def ranges_norm.r : RCod (Int × Int) := .val (.agg (.cons (.int .u64) (.one (.int .u64))))
noncomputable def ranges_norm.cs : List (Kn Try.prog) := [ranges_Valid.c, ranges_Top.c]
def ranges_norm.live : Nat → Option Keep := liveOf []
noncomputable def ranges_norm.body : Code := bodyOf Try.f34
noncomputable def ranges_norm.K (fu : Nat) : Code → St → (Ex → St → Option (Int × Int)) → Option (Int × Int) := codeK Try.prog ranges_norm.cs ranges_norm.live fu
noncomputable def ranges_norm.f (a0 : Int) (a1 : Int × Int) : Option (Int × Int) :=
  (ranges_Valid.f a0 (a1.1, a1.2)).bind fun r1 =>
  bif (!r1) then
    (ranges_Top.f a0).bind fun r2 =>
    some (r2.1, r2.2)
  else
    some (a1.1, a1.2)
theorem ranges_norm.eq (fu : Nat) (a : Int × (Int × Int) × Unit) : bodyK Try.prog ranges_norm.cs ranges_norm.live fu Try.f34 (ranges_norm.a.enc a) ranges_norm.r.dec = ranges_norm.f a.1 a.2.1 := by kernel_rfl
theorem ranges_norm.con : ∀ (a : Int × (Int × Int) × Unit) (r : Int × Int), ranges_norm.f a.1 a.2.1 = some r → Contract Try.prog 34 (ranges_norm.a.enc a) (ranges_norm.r.enc r) := Contract.of_body (F := fun (a : Int × (Int × Int) × Unit) => ranges_norm.f a.1 a.2.1) (fn := Try.f34) (cs := ranges_norm.cs) (live := ranges_norm.live) (fuel := fuel0 + 1) (by kernel_rfl) (by kernel_rfl) mixed (ranges_norm.eq (fuel0 + 1))
noncomputable def ranges_norm.c : Kn Try.prog := Kn.of 34 ranges_norm.a ranges_norm.r (fun a => ranges_norm.f a.1 a.2.1) ranges_norm.con

/-! ### bits_Cut: function 49 -/
def bits_Cut.a : ACods (Int × Int × Unit) := (.cons (.val (.int .i64)) (.cons (.val (.int .u64)) .nil))
def bits_Cut.r : RCod (Int) := .val (.int .u64)
noncomputable def bits_Cut.cs : List (Kn Try.prog) := [bits_Mask.c]
def bits_Cut.live : Nat → Option Keep := liveOf []
noncomputable def bits_Cut.body : Code := bodyOf Try.f49
noncomputable def bits_Cut.K (fu : Nat) : Code → St → (Ex → St → Option (Int)) → Option (Int) := codeK Try.prog bits_Cut.cs bits_Cut.live fu
noncomputable def bits_Cut.f (a0 : Int) (a1 : Int) : Option (Int) :=
  (bits_Mask.f a0).bind fun r1 =>
  some (Go.bits .and .u64 a1 r1)
theorem bits_Cut.eq (fu : Nat) (a : Int × Int × Unit) : bodyK Try.prog bits_Cut.cs bits_Cut.live fu Try.f49 (bits_Cut.a.enc a) bits_Cut.r.dec = bits_Cut.f a.1 a.2.1 := by kernel_rfl
theorem bits_Cut.con : ∀ (a : Int × Int × Unit) (r : Int), bits_Cut.f a.1 a.2.1 = some r → Contract Try.prog 49 (bits_Cut.a.enc a) (bits_Cut.r.enc r) := Contract.of_body (F := fun (a : Int × Int × Unit) => bits_Cut.f a.1 a.2.1) (fn := Try.f49) (cs := bits_Cut.cs) (live := bits_Cut.live) (fuel := fuel0 + 1) (by kernel_rfl) (by kernel_rfl) mixed (bits_Cut.eq (fuel0 + 1))
noncomputable def bits_Cut.c : Kn Try.prog := Kn.of 49 bits_Cut.a bits_Cut.r (fun a => bits_Cut.f a.1 a.2.1) bits_Cut.con

/-! ### ranges_Const: function 21 -/
def ranges_Const.a : ACods (Int × Int × Unit) := (.cons (.val (.int .i64)) (.cons (.val (.int .u64)) .nil))
def ranges_Const.r : RCod (Int × Int) := .val (.agg (.cons (.int .u64) (.one (.int .u64))))
noncomputable def ranges_Const.cs : List (Kn Try.prog) := [bits_Cut.c]
def ranges_Const.live : Nat → Option Keep := liveOf []
noncomputable def ranges_Const.body : Code := bodyOf Try.f21
noncomputable def ranges_Const.K (fu : Nat) : Code → St → (Ex → St → Option (Int × Int)) → Option (Int × Int) := codeK Try.prog ranges_Const.cs ranges_Const.live fu
noncomputable def ranges_Const.f (a0 : Int) (a1 : Int) : Option (Int × Int) :=
  (bits_Cut.f a0 a1).bind fun r1 =>
  some (r1, r1)
theorem ranges_Const.eq (fu : Nat) (a : Int × Int × Unit) : bodyK Try.prog ranges_Const.cs ranges_Const.live fu Try.f21 (ranges_Const.a.enc a) ranges_Const.r.dec = ranges_Const.f a.1 a.2.1 := by kernel_rfl
theorem ranges_Const.con : ∀ (a : Int × Int × Unit) (r : Int × Int), ranges_Const.f a.1 a.2.1 = some r → Contract Try.prog 21 (ranges_Const.a.enc a) (ranges_Const.r.enc r) := Contract.of_body (F := fun (a : Int × Int × Unit) => ranges_Const.f a.1 a.2.1) (fn := Try.f21) (cs := ranges_Const.cs) (live := ranges_Const.live) (fuel := fuel0 + 1) (by kernel_rfl) (by kernel_rfl) mixed (ranges_Const.eq (fuel0 + 1))
noncomputable def ranges_Const.c : Kn Try.prog := Kn.of 21 ranges_Const.a ranges_Const.r (fun a => ranges_Const.f a.1 a.2.1) ranges_Const.con

/-! ### bits_Neg: function 69 -/
def bits_Neg.a : ACods (Int × Int × Unit) := (.cons (.val (.int .i64)) (.cons (.val (.int .u64)) .nil))
def bits_Neg.r : RCod (Int) := .val (.int .u64)
noncomputable def bits_Neg.cs : List (Kn Try.prog) := [bits_Cut.c]
def bits_Neg.live : Nat → Option Keep := liveOf []
noncomputable def bits_Neg.body : Code := bodyOf Try.f69
noncomputable def bits_Neg.K (fu : Nat) : Code → St → (Ex → St → Option (Int)) → Option (Int) := codeK Try.prog bits_Neg.cs bits_Neg.live fu
noncomputable def bits_Neg.f (a0 : Int) (a1 : Int) : Option (Int) :=
  (bits_Cut.f a0 (IntKind.u64.wrap (0 - a1))).bind fun r1 =>
  some r1
theorem bits_Neg.eq (fu : Nat) (a : Int × Int × Unit) : bodyK Try.prog bits_Neg.cs bits_Neg.live fu Try.f69 (bits_Neg.a.enc a) bits_Neg.r.dec = bits_Neg.f a.1 a.2.1 := by kernel_rfl
theorem bits_Neg.con : ∀ (a : Int × Int × Unit) (r : Int), bits_Neg.f a.1 a.2.1 = some r → Contract Try.prog 69 (bits_Neg.a.enc a) (bits_Neg.r.enc r) := Contract.of_body (F := fun (a : Int × Int × Unit) => bits_Neg.f a.1 a.2.1) (fn := Try.f69) (cs := bits_Neg.cs) (live := bits_Neg.live) (fuel := fuel0 + 1) (by kernel_rfl) (by kernel_rfl) mixed (bits_Neg.eq (fuel0 + 1))
noncomputable def bits_Neg.c : Kn Try.prog := Kn.of 69 bits_Neg.a bits_Neg.r (fun a => bits_Neg.f a.1 a.2.1) bits_Neg.con

/-! ### bits_Signed: function 111 -/
def bits_Signed.a : ACods (Int × Int × Unit) := (.cons (.val (.int .i64)) (.cons (.val (.int .u64)) .nil))
def bits_Signed.r : RCod (Int) := .val (.int .i64)
noncomputable def bits_Signed.cs : List (Kn Try.prog) := [bits_clamp.c]
def bits_Signed.live : Nat → Option Keep := liveOf []
noncomputable def bits_Signed.body : Code := bodyOf Try.f111
noncomputable def bits_Signed.K (fu : Nat) : Code → St → (Ex → St → Option (Int)) → Option (Int) := codeK Try.prog bits_Signed.cs bits_Signed.live fu
noncomputable def bits_Signed.f (a0 : Int) (a1 : Int) : Option (Int) :=
  (bits_clamp.f a0).bind fun r1 =>
  bif decide ((IntKind.i64.wrap (64 - r1)) < 0) then
    none
  else
    bif decide ((IntKind.i64.wrap (64 - r1)) < 0) then
      none
    else
      some (shr .i64 (IntKind.i64.wrap (shl .u64 a1 (IntKind.i64.wrap (64 - r1)))) (IntKind.i64.wrap (64 - r1)))
theorem bits_Signed.eq (fu : Nat) (a : Int × Int × Unit) : bodyK Try.prog bits_Signed.cs bits_Signed.live fu Try.f111 (bits_Signed.a.enc a) bits_Signed.r.dec = bits_Signed.f a.1 a.2.1 := by kernel_rfl
theorem bits_Signed.con : ∀ (a : Int × Int × Unit) (r : Int), bits_Signed.f a.1 a.2.1 = some r → Contract Try.prog 111 (bits_Signed.a.enc a) (bits_Signed.r.enc r) := Contract.of_body (F := fun (a : Int × Int × Unit) => bits_Signed.f a.1 a.2.1) (fn := Try.f111) (cs := bits_Signed.cs) (live := bits_Signed.live) (fuel := fuel0 + 1) (by kernel_rfl) (by kernel_rfl) mixed (bits_Signed.eq (fuel0 + 1))
noncomputable def bits_Signed.c : Kn Try.prog := Kn.of 111 bits_Signed.a bits_Signed.r (fun a => bits_Signed.f a.1 a.2.1) bits_Signed.con

/-! ### bits_Sext: function 70 -/
def bits_Sext.a : ACods (Int × Int × Int × Unit) := (.cons (.val (.int .i64)) (.cons (.val (.int .i64)) (.cons (.val (.int .u64)) .nil)))
def bits_Sext.r : RCod (Int) := .val (.int .u64)
noncomputable def bits_Sext.cs : List (Kn Try.prog) := [bits_Signed.c, bits_Cut.c]
def bits_Sext.live : Nat → Option Keep := liveOf []
noncomputable def bits_Sext.body : Code := bodyOf Try.f70
noncomputable def bits_Sext.K (fu : Nat) : Code → St → (Ex → St → Option (Int)) → Option (Int) := codeK Try.prog bits_Sext.cs bits_Sext.live fu
noncomputable def bits_Sext.f (a0 : Int) (a1 : Int) (a2 : Int) : Option (Int) :=
  (bits_Signed.f a0 a2).bind fun r1 =>
  (bits_Cut.f a1 (IntKind.u64.wrap r1)).bind fun r2 =>
  some r2
theorem bits_Sext.eq (fu : Nat) (a : Int × Int × Int × Unit) : bodyK Try.prog bits_Sext.cs bits_Sext.live fu Try.f70 (bits_Sext.a.enc a) bits_Sext.r.dec = bits_Sext.f a.1 a.2.1 a.2.2.1 := by kernel_rfl
theorem bits_Sext.con : ∀ (a : Int × Int × Int × Unit) (r : Int), bits_Sext.f a.1 a.2.1 a.2.2.1 = some r → Contract Try.prog 70 (bits_Sext.a.enc a) (bits_Sext.r.enc r) := Contract.of_body (F := fun (a : Int × Int × Int × Unit) => bits_Sext.f a.1 a.2.1 a.2.2.1) (fn := Try.f70) (cs := bits_Sext.cs) (live := bits_Sext.live) (fuel := fuel0 + 1) (by kernel_rfl) (by kernel_rfl) mixed (bits_Sext.eq (fuel0 + 1))
noncomputable def bits_Sext.c : Kn Try.prog := Kn.of 70 bits_Sext.a bits_Sext.r (fun a => bits_Sext.f a.1 a.2.1 a.2.2.1) bits_Sext.con

/-! ### ranges_unary: function 35 -/
def ranges_unary.a : ACods (Int × Int × Int × Int × (Int × Int) × Unit) := (.cons (.val (.int .i64)) (.cons (.val (.int .i64)) (.cons (.val (.int .u64)) (.cons (.val (.int .i64)) (.cons (.val (.agg (.cons (.int .u64) (.one (.int .u64))))) .nil)))))
def ranges_unary.r : RCod (Int × Int) := .val (.agg (.cons (.int .u64) (.one (.int .u64))))
noncomputable def ranges_unary.cs : List (Kn Try.prog) := [bits_Mask.c, ranges_Top.c, bits_Neg.c, bits_Sext.c]
def ranges_unary.live : Nat → Option Keep := liveOf [(16, ⟨[1, 9, 10], [9, 10], []⟩), (24, ⟨[1, 2, 3, 9, 10], [9, 10], []⟩), (42, ⟨[9, 10], [9, 10], []⟩)]
noncomputable def ranges_unary.body : Code := bodyOf Try.f35
noncomputable def ranges_unary.K (fu : Nat) : Code → St → (Ex → St → Option (Int × Int)) → Option (Int × Int) := codeK Try.prog ranges_unary.cs ranges_unary.live fu
noncomputable def ranges_unary.p8 (m fu : Nat) (x1 : Int) (c9_0 : Int) (c9_1 : Int) : Option (Int × Int) :=
  joinK m (ranges_unary.K fu (sub ranges_unary.body [true, true, false, true, false, true, true, true, false, true])) (stOf 104 [(1, .val (.int .i64 x1)), (9, .ptr 9 0 0 0), (10, .ptr 10 0 0 0)] [(9, .own [.val (.int .u64 c9_0), .val (.int .u64 c9_1)]), (10, .own [.val (.int .u64 0), .val (.int .u64 0)])]) (blockC 0 (seqC fu (ranges_unary.live 42) (ranges_unary.K fu (sub ranges_unary.body [true, true, true])) (retC Try.prog Try.f35.results ranges_unary.r.dec)))
noncomputable def ranges_unary.p12 (m fu : Nat) (x1 : Int) (x2 : Int) (x3 : Int) (c9_0 : Int) (c9_1 : Int) : Option (Int × Int) :=
  joinK m (ranges_unary.K fu (sub ranges_unary.body [true, true, false, true, false, true, true, true, true, true, false, true])) (stOf 104 [(1, .val (.int .i64 x1)), (2, .val (.int .u64 x2)), (3, .val (.int .i64 x3)), (9, .ptr 9 0 0 0), (10, .ptr 10 0 0 0)] [(9, .own [.val (.int .u64 c9_0), .val (.int .u64 c9_1)]), (10, .own [.val (.int .u64 0), .val (.int .u64 0)])]) (blockC 0 (seqC fu (ranges_unary.live 42) (ranges_unary.K fu (sub ranges_unary.body [true, true, true])) (retC Try.prog Try.f35.results ranges_unary.r.dec)))
noncomputable def ranges_unary.p21 (m fu : Nat) (c9_0 : Int) (c9_1 : Int) (c10_0 : Int) (c10_1 : Int) : Option (Int × Int) :=
  joinK m (ranges_unary.K fu (sub ranges_unary.body [true, true, true])) (stOf 104 [(9, .ptr 9 0 0 0), (10, .ptr 10 0 0 0)] [(9, .own [.val (.int .u64 c9_0), .val (.int .u64 c9_1)]), (10, .own [.val (.int .u64 c10_0), .val (.int .u64 c10_1)])]) (retC Try.prog Try.f35.results ranges_unary.r.dec)
theorem ranges_unary.p8_eq (m fu : Nat) (x1 : Int) (c9_0 : Int) (c9_1 : Int) : ranges_unary.p8 (m + 1) fu x1 c9_0 c9_1 =
  (bits_Neg.f x1 c9_1).bind fun r3 =>
  (bits_Neg.f x1 c9_0).bind fun r4 =>
  some (r3, r4) := by kernel_rfl
theorem ranges_unary.p12_eq (m fu : Nat) (x1 : Int) (x2 : Int) (x3 : Int) (c9_0 : Int) (c9_1 : Int) : ranges_unary.p12 (m + 1) fu x1 x2 x3 c9_0 c9_1 =
  bif ((IntKind.u64.wrap (x2 + (IntKind.u64.wrap x1))) == (IntKind.u64.wrap x3)) then
    bif decide (x2 < 0) then
      none
    else
      bif decide (x2 < 0) then
        none
      else
        some ((shr .u64 c9_0 x2), (shr .u64 c9_1 x2))
  else
    (ranges_Top.f x1).bind fun r5 =>
    some (r5.1, r5.2) := by kernel_rfl
theorem ranges_unary.p21_eq (m fu : Nat) (c9_0 : Int) (c9_1 : Int) (c10_0 : Int) (c10_1 : Int) : ranges_unary.p21 (m + 1) fu c9_0 c9_1 c10_0 c10_1 =
  some (c9_0, c9_1) := by kernel_rfl
noncomputable def ranges_unary.g (fu : Nat) (a0 : Int) (a1 : Int) (a2 : Int) (a3 : Int) (a4 : Int × Int) : Option (Int × Int) :=
  (bits_Mask.f a1).bind fun r1 =>
  bif (a0 == 3) then
    some ((IntKind.u64.wrap (r1 - a4.2)), (IntKind.u64.wrap (r1 - a4.1)))
  else
    bif (a0 == 4) then
      bif (a4.1 == 0) then
        bif (decide (a4.2 > 0)) then
          (ranges_Top.f a1).bind fun r2 =>
          some (r2.1, r2.2)
        else
          ranges_unary.p8 fu fu a1 a4.1 a4.2
      else
        ranges_unary.p8 fu fu a1 a4.1 a4.2
    else
      bif (a0 == 21) then
        bif (a2 == 0) then
          bif (decide (a4.2 ≤ r1)) then
            some (a4.1, a4.2)
          else
            ranges_unary.p12 fu fu a1 a2 a3 a4.1 a4.2
        else
          ranges_unary.p12 fu fu a1 a2 a3 a4.1 a4.2
      else
        bif (a0 == 23) then
          (bits_Mask.f a3).bind fun r6 =>
          bif (decide (a4.1 > (shr .u64 r6 1))) then
            (bits_Sext.f a3 a1 a4.1).bind fun r7 =>
            (bits_Sext.f a3 a1 a4.2).bind fun r8 =>
            some (r7, r8)
          else
            bif (decide (a4.2 > (shr .u64 r6 1))) then
              (ranges_Top.f a1).bind fun r9 =>
              some (r9.1, r9.2)
            else
              ranges_unary.p21 fu fu a4.1 a4.2 0 0
        else
          ranges_unary.p21 fu fu a4.1 a4.2 0 0
noncomputable def ranges_unary.f (a0 : Int) (a1 : Int) (a2 : Int) (a3 : Int) (a4 : Int × Int) : Option (Int × Int) := ranges_unary.g (fuel0 + 1) a0 a1 a2 a3 a4
theorem ranges_unary.eq (fu : Nat) (a : Int × Int × Int × Int × (Int × Int) × Unit) : bodyK Try.prog ranges_unary.cs ranges_unary.live fu Try.f35 (ranges_unary.a.enc a) ranges_unary.r.dec = ranges_unary.g fu a.1 a.2.1 a.2.2.1 a.2.2.2.1 a.2.2.2.2.1 := by kernel_rfl
theorem ranges_unary.con : ∀ (a : Int × Int × Int × Int × (Int × Int) × Unit) (r : Int × Int), ranges_unary.f a.1 a.2.1 a.2.2.1 a.2.2.2.1 a.2.2.2.2.1 = some r → Contract Try.prog 35 (ranges_unary.a.enc a) (ranges_unary.r.enc r) := Contract.of_body (F := fun (a : Int × Int × Int × Int × (Int × Int) × Unit) => ranges_unary.f a.1 a.2.1 a.2.2.1 a.2.2.2.1 a.2.2.2.2.1) (fn := Try.f35) (cs := ranges_unary.cs) (live := ranges_unary.live) (fuel := fuel0 + 1) (by kernel_rfl) (by kernel_rfl) mixed (ranges_unary.eq (fuel0 + 1))
noncomputable def ranges_unary.c : Kn Try.prog := Kn.of 35 ranges_unary.a ranges_unary.r (fun a => ranges_unary.f a.1 a.2.1 a.2.2.1 a.2.2.2.1 a.2.2.2.2.1) ranges_unary.con

/-! ### bits_Len64: function 66 -/
def bits_Len64.a : ACods (Int × Unit) := (.cons (.val (.int .u64)) .nil)
def bits_Len64.r : RCod (Int) := .val (.int .i64)
noncomputable def bits_Len64.cs : List (Kn Try.prog) := []
def bits_Len64.live : Nat → Option Keep := liveOf [(8, ⟨[0, 2], [], []⟩), (14, ⟨[0, 2], [], []⟩), (20, ⟨[0, 2], [], []⟩)]
noncomputable def bits_Len64.body : Code := bodyOf Try.f66
noncomputable def bits_Len64.K (fu : Nat) : Code → St → (Ex → St → Option (Int)) → Option (Int) := codeK Try.prog bits_Len64.cs bits_Len64.live fu
noncomputable def bits_Len64.p4 (m fu : Nat) (x0 : Int) (x2 : Int) : Option Int :=
  joinK m (bits_Len64.K fu (sub bits_Len64.body [true, true])) (stOf 25 [(0, .val (.int .u64 x0)), (2, .val (.int .i64 x2))] []) (retC Try.prog Try.f66.results bits_Len64.r.dec)
noncomputable def bits_Len64.p7 (m fu : Nat) (x0 : Int) (x2 : Int) : Option Int :=
  joinK m (bits_Len64.K fu (sub bits_Len64.body [true, true, true])) (stOf 25 [(0, .val (.int .u64 x0)), (2, .val (.int .i64 x2))] []) (retC Try.prog Try.f66.results bits_Len64.r.dec)
noncomputable def bits_Len64.p10 (m fu : Nat) (x0 : Int) (x2 : Int) : Option Int :=
  joinK m (bits_Len64.K fu (sub bits_Len64.body [true, true, true, true])) (stOf 25 [(0, .val (.int .u64 x0)), (2, .val (.int .i64 x2))] []) (retC Try.prog Try.f66.results bits_Len64.r.dec)
theorem bits_Len64.p10_eq (m fu : Nat) (x0 : Int) (x2 : Int) : bits_Len64.p10 (m + 1) fu x0 x2 =
  bif decide (0 ≤ (IntKind.u8.wrap x0)) then
    (((ByteArray.mk (List.toArray (List.append (List.append [0, 1, 2, 2, 3, 3, 3, 3, 4, 4, 4, 4, 4, 4, 4, 4, 5, 5, 5, 5, 5, 5, 5, 5, 5, 5, 5, 5, 5, 5, 5, 5, 6, 6, 6, 6, 6, 6, 6, 6, 6, 6, 6, 6, 6, 6, 6, 6, 6, 6, 6, 6, 6, 6, 6, 6, 6, 6, 6, 6, 6, 6, 6, 6] [7, 7, 7, 7, 7, 7, 7, 7, 7, 7, 7, 7, 7, 7, 7, 7, 7, 7, 7, 7, 7, 7, 7, 7, 7, 7, 7, 7, 7, 7, 7, 7, 7, 7, 7, 7, 7, 7, 7, 7, 7, 7, 7, 7, 7, 7, 7, 7, 7, 7, 7, 7, 7, 7, 7, 7, 7, 7, 7, 7, 7, 7, 7, 7]) (List.append [8, 8, 8, 8, 8, 8, 8, 8, 8, 8, 8, 8, 8, 8, 8, 8, 8, 8, 8, 8, 8, 8, 8, 8, 8, 8, 8, 8, 8, 8, 8, 8, 8, 8, 8, 8, 8, 8, 8, 8, 8, 8, 8, 8, 8, 8, 8, 8, 8, 8, 8, 8, 8, 8, 8, 8, 8, 8, 8, 8, 8, 8, 8, 8] [8, 8, 8, 8, 8, 8, 8, 8, 8, 8, 8, 8, 8, 8, 8, 8, 8, 8, 8, 8, 8, 8, 8, 8, 8, 8, 8, 8, 8, 8, 8, 8, 8, 8, 8, 8, 8, 8, 8, 8, 8, 8, 8, 8, 8, 8, 8, 8, 8, 8, 8, 8, 8, 8, 8, 8, 8, 8, 8, 8, 8, 8, 8, 8]))))[(IntKind.u8.wrap x0).toNat]? : Option UInt8)).bind fun u1 =>
    some (IntKind.i64.wrap (x2 + (IntKind.i64.wrap (u1.toNat : Int))))
  else
    none := by kernel_rfl
theorem bits_Len64.p7_eq (m fu : Nat) (x0 : Int) (x2 : Int) : bits_Len64.p7 (m + 1) fu x0 x2 =
  bif (decide (x0 ≥ 256)) then
    bits_Len64.p10 fu fu (shr .u64 x0 8) (IntKind.i64.wrap (x2 + 8))
  else
    bits_Len64.p10 fu fu x0 x2 := by kernel_rfl
theorem bits_Len64.p4_eq (m fu : Nat) (x0 : Int) (x2 : Int) : bits_Len64.p4 (m + 1) fu x0 x2 =
  bif (decide (x0 ≥ 65536)) then
    bits_Len64.p7 fu fu (shr .u64 x0 16) (IntKind.i64.wrap (x2 + 16))
  else
    bits_Len64.p7 fu fu x0 x2 := by kernel_rfl
noncomputable def bits_Len64.g (fu : Nat) (a0 : Int) : Option (Int) :=
  bif (decide (a0 ≥ 4294967296)) then
    bits_Len64.p4 fu fu (shr .u64 a0 32) 32
  else
    bits_Len64.p4 fu fu a0 0
noncomputable def bits_Len64.f (a0 : Int) : Option (Int) := bits_Len64.g (fuel0 + 1) a0
theorem bits_Len64.eq (fu : Nat) (a : Int × Unit) : bodyK Try.prog bits_Len64.cs bits_Len64.live fu Try.f66 (bits_Len64.a.enc a) bits_Len64.r.dec = bits_Len64.g fu a.1 := by kernel_rfl
theorem bits_Len64.con : ∀ (a : Int × Unit) (r : Int), bits_Len64.f a.1 = some r → Contract Try.prog 66 (bits_Len64.a.enc a) (bits_Len64.r.enc r) := Contract.of_body (F := fun (a : Int × Unit) => bits_Len64.f a.1) (fn := Try.f66) (cs := bits_Len64.cs) (live := bits_Len64.live) (fuel := fuel0 + 1) (by kernel_rfl) (by kernel_rfl) mixed (bits_Len64.eq (fuel0 + 1))
noncomputable def bits_Len64.c : Kn Try.prog := Kn.of 66 bits_Len64.a bits_Len64.r (fun a => bits_Len64.f a.1) bits_Len64.con

/-! ### ranges_Fill: function 25 -/
def ranges_Fill.a : ACods (Int × Unit) := (.cons (.val (.int .u64)) .nil)
def ranges_Fill.r : RCod (Int) := .val (.int .u64)
noncomputable def ranges_Fill.cs : List (Kn Try.prog) := [bits_Len64.c, bits_Mask.c]
def ranges_Fill.live : Nat → Option Keep := liveOf []
noncomputable def ranges_Fill.body : Code := bodyOf Try.f25
noncomputable def ranges_Fill.K (fu : Nat) : Code → St → (Ex → St → Option (Int)) → Option (Int) := codeK Try.prog ranges_Fill.cs ranges_Fill.live fu
noncomputable def ranges_Fill.f (a0 : Int) : Option (Int) :=
  bif (a0 == 0) then
    some 0
  else
    (bits_Len64.f a0).bind fun r1 =>
    (bits_Mask.f r1).bind fun r2 =>
    some r2
theorem ranges_Fill.eq (fu : Nat) (a : Int × Unit) : bodyK Try.prog ranges_Fill.cs ranges_Fill.live fu Try.f25 (ranges_Fill.a.enc a) ranges_Fill.r.dec = ranges_Fill.f a.1 := by kernel_rfl
theorem ranges_Fill.con : ∀ (a : Int × Unit) (r : Int), ranges_Fill.f a.1 = some r → Contract Try.prog 25 (ranges_Fill.a.enc a) (ranges_Fill.r.enc r) := Contract.of_body (F := fun (a : Int × Unit) => ranges_Fill.f a.1) (fn := Try.f25) (cs := ranges_Fill.cs) (live := ranges_Fill.live) (fuel := fuel0 + 1) (by kernel_rfl) (by kernel_rfl) mixed (ranges_Fill.eq (fuel0 + 1))
noncomputable def ranges_Fill.c : Kn Try.prog := Kn.of 25 ranges_Fill.a ranges_Fill.r (fun a => ranges_Fill.f a.1) ranges_Fill.con

/-! ### bits_Add64: function 112 -/
def bits_Add64.a : ACods (Int × Int × Int × Unit) := (.cons (.val (.int .u64)) (.cons (.val (.int .u64)) (.cons (.val (.int .u64)) .nil)))
def bits_Add64.r : RCod (Int × Int) := .val (.tup (.cons (.int .u64) (.one (.int .u64))))
noncomputable def bits_Add64.cs : List (Kn Try.prog) := []
noncomputable def bits_Add64.f (a0 a1 a2 : Int) : Option (Int × Int) :=
  bif decide (0 ≤ a0) && (decide (0 ≤ a1) && (decide (0 ≤ a2) && decide (a2 ≤ 1))) then some ((a0 + a1 + a2) % 18446744073709551616, (a0 + a1 + a2) / 18446744073709551616) else none
theorem bits_Add64.con (a : Int × Int × Int × Unit) (r : Int × Int) (h : bits_Add64.f a.1 a.2.1 a.2.2.1 = some r) : Contract Try.prog 112 (bits_Add64.a.enc a) (bits_Add64.r.enc r) := by
  obtain ⟨x, y, c, ⟨⟩⟩ := a
  unfold bits_Add64.f at h
  obtain ⟨hc, h⟩ := bif_some h
  simp only [Bool.and_eq_true, decide_eq_true_eq] at hc
  obtain ⟨h1, h2, h3, h4⟩ := hc
  cases h
  intro w args ⟨hl, ha⟩
  have hs : args.size = 3 := hl.symm
  have e0 : args[0]? = some (.int .u64 x) := by obtain ⟨v, hv, hr⟩ := ha 0 _ rfl; have hr : v = _ := hr; rw [hv, hr]; rfl
  have e1 : args[1]? = some (.int .u64 y) := by obtain ⟨v, hv, hr⟩ := ha 1 _ rfl; have hr : v = _ := hr; rw [hv, hr]; rfl
  have e2 : args[2]? = some (.int .u64 c) := by obtain ⟨v, hv, hr⟩ := ha 2 _ rfl; have hr : v = _ := hr; rw [hv, hr]; rfl
  have hargs : args = #[.int .u64 x, .int .u64 y, .int .u64 c] := by
    apply Array.ext_getElem?
    intro i
    match i with
    | 0 => exact e0
    | 1 => exact e1
    | 2 => exact e2
    | i + 3 => rw [Array.getElem?_eq_none (by omega)]; exact (Array.getElem?_eq_none (by simp)).symm
  unfold CallOk
  rw [hargs, run_callFunc_extern (fn := Try.f112) (by kernel_rfl) (by kernel_rfl) (by kernel_rfl) (by kernel_rfl) (e := add64Entry) (by kernel_rfl), run_add64 x y c h1 h2 h3 h4]
  exact ⟨Below.refl _ _, rfl⟩
noncomputable def bits_Add64.c : Kn Try.prog := Kn.of 112 bits_Add64.a bits_Add64.r (fun a => bits_Add64.f a.1 a.2.1 a.2.2.1) bits_Add64.con

/-! ### ranges_sum: function 71 -/
def ranges_sum.a : ACods (Int × (Int × Int) × (Int × Int) × Unit) := (.cons (.val (.int .i64)) (.cons (.val (.agg (.cons (.int .u64) (.one (.int .u64))))) (.cons (.val (.agg (.cons (.int .u64) (.one (.int .u64))))) .nil)))
def ranges_sum.r : RCod (Int × Int) := .val (.agg (.cons (.int .u64) (.one (.int .u64))))
noncomputable def ranges_sum.cs : List (Kn Try.prog) := [bits_Mask.c, bits_Add64.c, ranges_Top.c, bits_Cut.c]
def ranges_sum.live : Nat → Option Keep := liveOf [(14, ⟨[0, 6, 8, 10], [6], []⟩)]
noncomputable def ranges_sum.body : Code := bodyOf Try.f71
noncomputable def ranges_sum.K (fu : Nat) : Code → St → (Ex → St → Option (Int × Int)) → Option (Int × Int) := codeK Try.prog ranges_sum.cs ranges_sum.live fu
noncomputable def ranges_sum.p7 (m fu : Nat) (x0 : Int) (x8 : Int) (x10 : Int) : Option (Int × Int) :=
  joinK m (ranges_sum.K fu (sub ranges_sum.body [true, true, true, true, true, true])) (stOf 58 [(0, .val (.int .i64 x0)), (6, .ptr 6 0 0 0), (8, .val (.int .u64 x8)), (10, .val (.int .u64 x10))] [(6, .own [.val (.int .u64 0), .val (.int .u64 0)])]) (retC Try.prog Try.f71.results ranges_sum.r.dec)
theorem ranges_sum.p7_eq (m fu : Nat) (x0 : Int) (x8 : Int) (x10 : Int) : ranges_sum.p7 (m + 1) fu x0 x8 x10 =
  (bits_Cut.f x0 x8).bind fun r5 =>
  (bits_Cut.f x0 x10).bind fun r6 =>
  some (r5, r6) := by kernel_rfl
noncomputable def ranges_sum.g (fu : Nat) (a0 : Int) (a1 : Int × Int) (a2 : Int × Int) : Option (Int × Int) :=
  (bits_Mask.f a0).bind fun r1 =>
  (bits_Add64.f a1.1 a2.1 0).bind fun r2 =>
  (bits_Add64.f a1.2 a2.2 0).bind fun r3 =>
  bif (r2.2 == 0) then
    bif (r3.2 == 0) then
      bif (!((decide (r2.1 ≤ r1)) == (decide (r3.1 ≤ r1)))) then
        (ranges_Top.f a0).bind fun r4 =>
        some (r4.1, r4.2)
      else
        ranges_sum.p7 fu fu a0 r2.1 r3.1
    else
      bif (!((decide (r2.1 ≤ r1)) == false)) then
        (ranges_Top.f a0).bind fun r7 =>
        some (r7.1, r7.2)
      else
        ranges_sum.p7 fu fu a0 r2.1 r3.1
  else
    bif (r3.2 == 0) then
      bif (!(false == (decide (r3.1 ≤ r1)))) then
        (ranges_Top.f a0).bind fun r8 =>
        some (r8.1, r8.2)
      else
        ranges_sum.p7 fu fu a0 r2.1 r3.1
    else
      ranges_sum.p7 fu fu a0 r2.1 r3.1
noncomputable def ranges_sum.f (a0 : Int) (a1 : Int × Int) (a2 : Int × Int) : Option (Int × Int) := ranges_sum.g (fuel0 + 1) a0 a1 a2
theorem ranges_sum.eq (fu : Nat) (a : Int × (Int × Int) × (Int × Int) × Unit) : bodyK Try.prog ranges_sum.cs ranges_sum.live fu Try.f71 (ranges_sum.a.enc a) ranges_sum.r.dec = ranges_sum.g fu a.1 a.2.1 a.2.2.1 := by kernel_rfl
theorem ranges_sum.con : ∀ (a : Int × (Int × Int) × (Int × Int) × Unit) (r : Int × Int), ranges_sum.f a.1 a.2.1 a.2.2.1 = some r → Contract Try.prog 71 (ranges_sum.a.enc a) (ranges_sum.r.enc r) := Contract.of_body (F := fun (a : Int × (Int × Int) × (Int × Int) × Unit) => ranges_sum.f a.1 a.2.1 a.2.2.1) (fn := Try.f71) (cs := ranges_sum.cs) (live := ranges_sum.live) (fuel := fuel0 + 1) (by kernel_rfl) (by kernel_rfl) mixed (ranges_sum.eq (fuel0 + 1))
noncomputable def ranges_sum.c : Kn Try.prog := Kn.of 71 ranges_sum.a ranges_sum.r (fun a => ranges_sum.f a.1 a.2.1 a.2.2.1) ranges_sum.con

/-! ### ranges_difference: function 72 -/
def ranges_difference.a : ACods (Int × (Int × Int) × (Int × Int) × Unit) := (.cons (.val (.int .i64)) (.cons (.val (.agg (.cons (.int .u64) (.one (.int .u64))))) (.cons (.val (.agg (.cons (.int .u64) (.one (.int .u64))))) .nil)))
def ranges_difference.r : RCod (Int × Int) := .val (.agg (.cons (.int .u64) (.one (.int .u64))))
noncomputable def ranges_difference.cs : List (Kn Try.prog) := [ranges_Top.c, bits_Cut.c]
def ranges_difference.live : Nat → Option Keep := liveOf []
noncomputable def ranges_difference.body : Code := bodyOf Try.f72
noncomputable def ranges_difference.K (fu : Nat) : Code → St → (Ex → St → Option (Int × Int)) → Option (Int × Int) := codeK Try.prog ranges_difference.cs ranges_difference.live fu
noncomputable def ranges_difference.f (a0 : Int) (a1 : Int × Int) (a2 : Int × Int) : Option (Int × Int) :=
  bif (!((decide (a1.1 < a2.2)) == (decide (a1.2 < a2.1)))) then
    (ranges_Top.f a0).bind fun r1 =>
    some (r1.1, r1.2)
  else
    (bits_Cut.f a0 (IntKind.u64.wrap (a1.1 - a2.2))).bind fun r2 =>
    (bits_Cut.f a0 (IntKind.u64.wrap (a1.2 - a2.1))).bind fun r3 =>
    some (r2, r3)
theorem ranges_difference.eq (fu : Nat) (a : Int × (Int × Int) × (Int × Int) × Unit) : bodyK Try.prog ranges_difference.cs ranges_difference.live fu Try.f72 (ranges_difference.a.enc a) ranges_difference.r.dec = ranges_difference.f a.1 a.2.1 a.2.2.1 := by kernel_rfl
theorem ranges_difference.con : ∀ (a : Int × (Int × Int) × (Int × Int) × Unit) (r : Int × Int), ranges_difference.f a.1 a.2.1 a.2.2.1 = some r → Contract Try.prog 72 (ranges_difference.a.enc a) (ranges_difference.r.enc r) := Contract.of_body (F := fun (a : Int × (Int × Int) × (Int × Int) × Unit) => ranges_difference.f a.1 a.2.1 a.2.2.1) (fn := Try.f72) (cs := ranges_difference.cs) (live := ranges_difference.live) (fuel := fuel0 + 1) (by kernel_rfl) (by kernel_rfl) mixed (ranges_difference.eq (fuel0 + 1))
noncomputable def ranges_difference.c : Kn Try.prog := Kn.of 72 ranges_difference.a ranges_difference.r (fun a => ranges_difference.f a.1 a.2.1 a.2.2.1) ranges_difference.con

/-! ### bits_Mul64: function 113 -/
def bits_Mul64.a : ACods (Int × Int × Unit) := (.cons (.val (.int .u64)) (.cons (.val (.int .u64)) .nil))
def bits_Mul64.r : RCod (Int × Int) := .val (.tup (.cons (.int .u64) (.one (.int .u64))))
noncomputable def bits_Mul64.cs : List (Kn Try.prog) := []
def bits_Mul64.live : Nat → Option Keep := liveOf []
noncomputable def bits_Mul64.body : Code := bodyOf Try.f113
noncomputable def bits_Mul64.K (fu : Nat) : Code → St → (Ex → St → Option (Int × Int)) → Option (Int × Int) := codeK Try.prog bits_Mul64.cs bits_Mul64.live fu
noncomputable def bits_Mul64.f (a0 : Int) (a1 : Int) : Option (Int × Int) :=
  some ((IntKind.u64.wrap ((IntKind.u64.wrap ((IntKind.u64.wrap ((shr .u64 a0 32) * (shr .u64 a1 32))) + (shr .u64 (IntKind.u64.wrap ((IntKind.u64.wrap ((shr .u64 a0 32) * (Go.bits .and .u64 a1 4294967295))) + (shr .u64 (IntKind.u64.wrap ((Go.bits .and .u64 a0 4294967295) * (Go.bits .and .u64 a1 4294967295))) 32))) 32))) + (shr .u64 (IntKind.u64.wrap ((Go.bits .and .u64 (IntKind.u64.wrap ((IntKind.u64.wrap ((shr .u64 a0 32) * (Go.bits .and .u64 a1 4294967295))) + (shr .u64 (IntKind.u64.wrap ((Go.bits .and .u64 a0 4294967295) * (Go.bits .and .u64 a1 4294967295))) 32))) 4294967295) + (IntKind.u64.wrap ((Go.bits .and .u64 a0 4294967295) * (shr .u64 a1 32))))) 32))), (IntKind.u64.wrap (a0 * a1)))
theorem bits_Mul64.eq (fu : Nat) (a : Int × Int × Unit) : bodyK Try.prog bits_Mul64.cs bits_Mul64.live fu Try.f113 (bits_Mul64.a.enc a) bits_Mul64.r.dec = bits_Mul64.f a.1 a.2.1 := by kernel_rfl
theorem bits_Mul64.con : ∀ (a : Int × Int × Unit) (r : Int × Int), bits_Mul64.f a.1 a.2.1 = some r → Contract Try.prog 113 (bits_Mul64.a.enc a) (bits_Mul64.r.enc r) := Contract.of_body (F := fun (a : Int × Int × Unit) => bits_Mul64.f a.1 a.2.1) (fn := Try.f113) (cs := bits_Mul64.cs) (live := bits_Mul64.live) (fuel := fuel0 + 1) (by kernel_rfl) (by kernel_rfl) mixed (bits_Mul64.eq (fuel0 + 1))
noncomputable def bits_Mul64.c : Kn Try.prog := Kn.of 113 bits_Mul64.a bits_Mul64.r (fun a => bits_Mul64.f a.1 a.2.1) bits_Mul64.con

/-! ### ranges_product: function 73 -/
def ranges_product.a : ACods (Int × (Int × Int) × (Int × Int) × Unit) := (.cons (.val (.int .i64)) (.cons (.val (.agg (.cons (.int .u64) (.one (.int .u64))))) (.cons (.val (.agg (.cons (.int .u64) (.one (.int .u64))))) .nil)))
def ranges_product.r : RCod (Int × Int) := .val (.agg (.cons (.int .u64) (.one (.int .u64))))
noncomputable def ranges_product.cs : List (Kn Try.prog) := [bits_Mul64.c, ranges_Top.c, bits_Mask.c]
def ranges_product.live : Nat → Option Keep := liveOf []
noncomputable def ranges_product.body : Code := bodyOf Try.f73
noncomputable def ranges_product.K (fu : Nat) : Code → St → (Ex → St → Option (Int × Int)) → Option (Int × Int) := codeK Try.prog ranges_product.cs ranges_product.live fu
noncomputable def ranges_product.f (a0 : Int) (a1 : Int × Int) (a2 : Int × Int) : Option (Int × Int) :=
  (bits_Mul64.f a1.2 a2.2).bind fun r1 =>
  bif (r1.1 != 0) then
    (ranges_Top.f a0).bind fun r2 =>
    some (r2.1, r2.2)
  else
    (bits_Mask.f a0).bind fun r3 =>
    bif (decide (r1.2 > r3)) then
      (ranges_Top.f a0).bind fun r4 =>
      some (r4.1, r4.2)
    else
      some ((IntKind.u64.wrap (a1.1 * a2.1)), r1.2)
theorem ranges_product.eq (fu : Nat) (a : Int × (Int × Int) × (Int × Int) × Unit) : bodyK Try.prog ranges_product.cs ranges_product.live fu Try.f73 (ranges_product.a.enc a) ranges_product.r.dec = ranges_product.f a.1 a.2.1 a.2.2.1 := by kernel_rfl
theorem ranges_product.con : ∀ (a : Int × (Int × Int) × (Int × Int) × Unit) (r : Int × Int), ranges_product.f a.1 a.2.1 a.2.2.1 = some r → Contract Try.prog 73 (ranges_product.a.enc a) (ranges_product.r.enc r) := Contract.of_body (F := fun (a : Int × (Int × Int) × (Int × Int) × Unit) => ranges_product.f a.1 a.2.1 a.2.2.1) (fn := Try.f73) (cs := ranges_product.cs) (live := ranges_product.live) (fuel := fuel0 + 1) (by kernel_rfl) (by kernel_rfl) mixed (ranges_product.eq (fuel0 + 1))
noncomputable def ranges_product.c : Kn Try.prog := Kn.of 73 ranges_product.a ranges_product.r (fun a => ranges_product.f a.1 a.2.1 a.2.2.1) ranges_product.con

/-! ### ranges_quotient: function 74 -/
def ranges_quotient.a : ACods (Int × (Int × Int) × (Int × Int) × Unit) := (.cons (.val (.int .i64)) (.cons (.val (.agg (.cons (.int .u64) (.one (.int .u64))))) (.cons (.val (.agg (.cons (.int .u64) (.one (.int .u64))))) .nil)))
def ranges_quotient.r : RCod (Int × Int) := .val (.agg (.cons (.int .u64) (.one (.int .u64))))
noncomputable def ranges_quotient.cs : List (Kn Try.prog) := [ranges_Top.c]
def ranges_quotient.live : Nat → Option Keep := liveOf []
noncomputable def ranges_quotient.body : Code := bodyOf Try.f74
noncomputable def ranges_quotient.K (fu : Nat) : Code → St → (Ex → St → Option (Int × Int)) → Option (Int × Int) := codeK Try.prog ranges_quotient.cs ranges_quotient.live fu
noncomputable def ranges_quotient.f (a0 : Int) (a1 : Int × Int) (a2 : Int × Int) : Option (Int × Int) :=
  bif (a2.1 == 0) then
    (ranges_Top.f a0).bind fun r1 =>
    some (r1.1, r1.2)
  else
    bif decide (a2.2 = 0) then
      none
    else
      bif decide (a2.1 = 0) then
        none
      else
        some ((IntKind.u64.wrap (Int.tdiv a1.1 a2.2)), (IntKind.u64.wrap (Int.tdiv a1.2 a2.1)))
theorem ranges_quotient.eq (fu : Nat) (a : Int × (Int × Int) × (Int × Int) × Unit) : bodyK Try.prog ranges_quotient.cs ranges_quotient.live fu Try.f74 (ranges_quotient.a.enc a) ranges_quotient.r.dec = ranges_quotient.f a.1 a.2.1 a.2.2.1 := by kernel_rfl
theorem ranges_quotient.con : ∀ (a : Int × (Int × Int) × (Int × Int) × Unit) (r : Int × Int), ranges_quotient.f a.1 a.2.1 a.2.2.1 = some r → Contract Try.prog 74 (ranges_quotient.a.enc a) (ranges_quotient.r.enc r) := Contract.of_body (F := fun (a : Int × (Int × Int) × (Int × Int) × Unit) => ranges_quotient.f a.1 a.2.1 a.2.2.1) (fn := Try.f74) (cs := ranges_quotient.cs) (live := ranges_quotient.live) (fuel := fuel0 + 1) (by kernel_rfl) (by kernel_rfl) mixed (ranges_quotient.eq (fuel0 + 1))
noncomputable def ranges_quotient.c : Kn Try.prog := Kn.of 74 ranges_quotient.a ranges_quotient.r (fun a => ranges_quotient.f a.1 a.2.1 a.2.2.1) ranges_quotient.con

/-! ### ranges_remainder: function 75 -/
def ranges_remainder.a : ACods ((Int × Int) × (Int × Int) × Unit) := (.cons (.val (.agg (.cons (.int .u64) (.one (.int .u64))))) (.cons (.val (.agg (.cons (.int .u64) (.one (.int .u64))))) .nil))
def ranges_remainder.r : RCod (Int × Int) := .val (.agg (.cons (.int .u64) (.one (.int .u64))))
noncomputable def ranges_remainder.cs : List (Kn Try.prog) := []
def ranges_remainder.live : Nat → Option Keep := liveOf []
noncomputable def ranges_remainder.body : Code := bodyOf Try.f75
noncomputable def ranges_remainder.K (fu : Nat) : Code → St → (Ex → St → Option (Int × Int)) → Option (Int × Int) := codeK Try.prog ranges_remainder.cs ranges_remainder.live fu
noncomputable def ranges_remainder.f (a0 : Int × Int) (a1 : Int × Int) : Option (Int × Int) :=
  bif (decide (a0.2 < a1.1)) then
    some (a0.1, a0.2)
  else
    bif (decide (a1.1 > 0)) then
      some (0, (mn a0.2 (IntKind.u64.wrap (a1.2 - 1))))
    else
      some (0, a0.2)
theorem ranges_remainder.eq (fu : Nat) (a : (Int × Int) × (Int × Int) × Unit) : bodyK Try.prog ranges_remainder.cs ranges_remainder.live fu Try.f75 (ranges_remainder.a.enc a) ranges_remainder.r.dec = ranges_remainder.f a.1 a.2.1 := by kernel_rfl
theorem ranges_remainder.con : ∀ (a : (Int × Int) × (Int × Int) × Unit) (r : Int × Int), ranges_remainder.f a.1 a.2.1 = some r → Contract Try.prog 75 (ranges_remainder.a.enc a) (ranges_remainder.r.enc r) := Contract.of_body (F := fun (a : (Int × Int) × (Int × Int) × Unit) => ranges_remainder.f a.1 a.2.1) (fn := Try.f75) (cs := ranges_remainder.cs) (live := ranges_remainder.live) (fuel := fuel0 + 1) (by kernel_rfl) (by kernel_rfl) mixed (ranges_remainder.eq (fuel0 + 1))
noncomputable def ranges_remainder.c : Kn Try.prog := Kn.of 75 ranges_remainder.a ranges_remainder.r (fun a => ranges_remainder.f a.1 a.2.1) ranges_remainder.con

/-! ### ranges_single: function 37 -/
def ranges_single.a : ACods ((Int × Int) × Unit) := (.cons (.val (.agg (.cons (.int .u64) (.one (.int .u64))))) .nil)
def ranges_single.r : RCod (Bool) := .val (.bool)
noncomputable def ranges_single.cs : List (Kn Try.prog) := []
def ranges_single.live : Nat → Option Keep := liveOf []
noncomputable def ranges_single.body : Code := bodyOf Try.f37
noncomputable def ranges_single.K (fu : Nat) : Code → St → (Ex → St → Option (Bool)) → Option (Bool) := codeK Try.prog ranges_single.cs ranges_single.live fu
noncomputable def ranges_single.f (a0 : Int × Int) : Option (Bool) :=
  some (a0.1 == a0.2)
theorem ranges_single.eq (fu : Nat) (a : (Int × Int) × Unit) : bodyK Try.prog ranges_single.cs ranges_single.live fu Try.f37 (ranges_single.a.enc a) ranges_single.r.dec = ranges_single.f a.1 := by kernel_rfl
theorem ranges_single.con : ∀ (a : (Int × Int) × Unit) (r : Bool), ranges_single.f a.1 = some r → Contract Try.prog 37 (ranges_single.a.enc a) (ranges_single.r.enc r) := Contract.of_body (F := fun (a : (Int × Int) × Unit) => ranges_single.f a.1) (fn := Try.f37) (cs := ranges_single.cs) (live := ranges_single.live) (fuel := fuel0 + 1) (by kernel_rfl) (by kernel_rfl) mixed (ranges_single.eq (fuel0 + 1))
noncomputable def ranges_single.c : Kn Try.prog := Kn.of 37 ranges_single.a ranges_single.r (fun a => ranges_single.f a.1) ranges_single.con

/-! ### ranges_shift: function 76 -/
def ranges_shift.a : ACods (Int × Int × (Int × Int) × (Int × Int) × Unit) := (.cons (.val (.int .i64)) (.cons (.val (.int .i64)) (.cons (.val (.agg (.cons (.int .u64) (.one (.int .u64))))) (.cons (.val (.agg (.cons (.int .u64) (.one (.int .u64))))) .nil))))
def ranges_shift.r : RCod (Int × Int) := .val (.agg (.cons (.int .u64) (.one (.int .u64))))
noncomputable def ranges_shift.cs : List (Kn Try.prog) := [bits_Mask.c, ranges_Top.c, ranges_single.c]
def ranges_shift.live : Nat → Option Keep := liveOf [(12, ⟨[6, 7, 8], [6, 7, 8], []⟩)]
noncomputable def ranges_shift.body : Code := bodyOf Try.f76
noncomputable def ranges_shift.K (fu : Nat) : Code → St → (Ex → St → Option (Int × Int)) → Option (Int × Int) := codeK Try.prog ranges_shift.cs ranges_shift.live fu
noncomputable def ranges_shift.p6 (m fu : Nat) (c6_0 : Int) (c6_1 : Int) (c7_0 : Int) (c7_1 : Int) (c8_0 : Int) (c8_1 : Int) : Option (Int × Int) :=
  joinK m (ranges_shift.K fu (sub ranges_shift.body [true, false, true, false, true])) (stOf 71 [(6, .ptr 6 0 0 0), (7, .ptr 7 0 0 0), (8, .ptr 8 0 0 0)] [(6, .own [.val (.int .u64 c6_0), .val (.int .u64 c6_1)]), (7, .own [.val (.int .u64 c7_0), .val (.int .u64 c7_1)]), (8, .own [.val (.int .u64 c8_0), .val (.int .u64 c8_1)])]) (blockC 0 (seqC fu (ranges_shift.live 18) (ranges_shift.K fu (sub ranges_shift.body [true, true])) (retC Try.prog Try.f76.results ranges_shift.r.dec)))
theorem ranges_shift.p6_eq (m fu : Nat) (c6_0 : Int) (c6_1 : Int) (c7_0 : Int) (c7_1 : Int) (c8_0 : Int) (c8_1 : Int) : ranges_shift.p6 (m + 1) fu c6_0 c6_1 c7_0 c7_1 c8_0 c8_1 =
  (ranges_single.f (c7_0, c7_1)).bind fun r3 =>
  bif (!r3) then
    some (0, c6_1)
  else
    bif decide (c7_0 < 0) then
      none
    else
      bif decide (c7_0 < 0) then
        none
      else
        some ((shr .u64 c6_0 c7_0), (shr .u64 c6_1 c7_0)) := by kernel_rfl
noncomputable def ranges_shift.g (fu : Nat) (a0 : Int) (a1 : Int) (a2 : Int × Int) (a3 : Int × Int) : Option (Int × Int) :=
  bif (a0 == 15) then
    (bits_Mask.f a1).bind fun r1 =>
    bif (decide (a2.2 > (shr .u64 r1 1))) then
      (ranges_Top.f a1).bind fun r2 =>
      some (r2.1, r2.2)
    else
      ranges_shift.p6 fu fu a2.1 a2.2 a3.1 a3.2 0 0
  else
    bif (a0 == 14) then
      ranges_shift.p6 fu fu a2.1 a2.2 a3.1 a3.2 0 0
    else
      (ranges_single.f (a3.1, a3.2)).bind fun r4 =>
      bif (!r4) then
        (ranges_Top.f a1).bind fun r5 =>
        some (r5.1, r5.2)
      else
        bif (decide (a3.1 ≥ (IntKind.u64.wrap a1))) then
          some (0, 0)
        else
          (bits_Mask.f a1).bind fun r6 =>
          bif decide (a3.1 < 0) then
            none
          else
            bif (decide (a2.2 > (shr .u64 r6 a3.1))) then
              (ranges_Top.f a1).bind fun r7 =>
              some (r7.1, r7.2)
            else
              bif decide (a3.1 < 0) then
                none
              else
                bif decide (a3.1 < 0) then
                  none
                else
                  some ((shl .u64 a2.1 a3.1), (shl .u64 a2.2 a3.1))
noncomputable def ranges_shift.f (a0 : Int) (a1 : Int) (a2 : Int × Int) (a3 : Int × Int) : Option (Int × Int) := ranges_shift.g (fuel0 + 1) a0 a1 a2 a3
theorem ranges_shift.eq (fu : Nat) (a : Int × Int × (Int × Int) × (Int × Int) × Unit) : bodyK Try.prog ranges_shift.cs ranges_shift.live fu Try.f76 (ranges_shift.a.enc a) ranges_shift.r.dec = ranges_shift.g fu a.1 a.2.1 a.2.2.1 a.2.2.2.1 := by kernel_rfl
theorem ranges_shift.con : ∀ (a : Int × Int × (Int × Int) × (Int × Int) × Unit) (r : Int × Int), ranges_shift.f a.1 a.2.1 a.2.2.1 a.2.2.2.1 = some r → Contract Try.prog 76 (ranges_shift.a.enc a) (ranges_shift.r.enc r) := Contract.of_body (F := fun (a : Int × Int × (Int × Int) × (Int × Int) × Unit) => ranges_shift.f a.1 a.2.1 a.2.2.1 a.2.2.2.1) (fn := Try.f76) (cs := ranges_shift.cs) (live := ranges_shift.live) (fuel := fuel0 + 1) (by kernel_rfl) (by kernel_rfl) mixed (ranges_shift.eq (fuel0 + 1))
noncomputable def ranges_shift.c : Kn Try.prog := Kn.of 76 ranges_shift.a ranges_shift.r (fun a => ranges_shift.f a.1 a.2.1 a.2.2.1 a.2.2.2.1) ranges_shift.con

/-! ### bits_Concat: function 77 -/
def bits_Concat.a : ACods (Int × Int × Int × Int × Unit) := (.cons (.val (.int .i64)) (.cons (.val (.int .i64)) (.cons (.val (.int .u64)) (.cons (.val (.int .u64)) .nil))))
def bits_Concat.r : RCod (Int) := .val (.int .u64)
noncomputable def bits_Concat.cs : List (Kn Try.prog) := [bits_Cut.c, bits_clamp.c]
def bits_Concat.live : Nat → Option Keep := liveOf []
noncomputable def bits_Concat.body : Code := bodyOf Try.f77
noncomputable def bits_Concat.K (fu : Nat) : Code → St → (Ex → St → Option (Int)) → Option (Int) := codeK Try.prog bits_Concat.cs bits_Concat.live fu
noncomputable def bits_Concat.f (a0 : Int) (a1 : Int) (a2 : Int) (a3 : Int) : Option (Int) :=
  (bits_Cut.f a0 a2).bind fun r1 =>
  (bits_clamp.f a1).bind fun r2 =>
  bif decide (r2 < 0) then
    none
  else
    (bits_Cut.f a1 a3).bind fun r3 =>
    some (Go.bits .or .u64 (shl .u64 r1 r2) r3)
theorem bits_Concat.eq (fu : Nat) (a : Int × Int × Int × Int × Unit) : bodyK Try.prog bits_Concat.cs bits_Concat.live fu Try.f77 (bits_Concat.a.enc a) bits_Concat.r.dec = bits_Concat.f a.1 a.2.1 a.2.2.1 a.2.2.2.1 := by kernel_rfl
theorem bits_Concat.con : ∀ (a : Int × Int × Int × Int × Unit) (r : Int), bits_Concat.f a.1 a.2.1 a.2.2.1 a.2.2.2.1 = some r → Contract Try.prog 77 (bits_Concat.a.enc a) (bits_Concat.r.enc r) := Contract.of_body (F := fun (a : Int × Int × Int × Int × Unit) => bits_Concat.f a.1 a.2.1 a.2.2.1 a.2.2.2.1) (fn := Try.f77) (cs := bits_Concat.cs) (live := bits_Concat.live) (fuel := fuel0 + 1) (by kernel_rfl) (by kernel_rfl) mixed (bits_Concat.eq (fuel0 + 1))
noncomputable def bits_Concat.c : Kn Try.prog := Kn.of 77 bits_Concat.a bits_Concat.r (fun a => bits_Concat.f a.1 a.2.1 a.2.2.1 a.2.2.2.1) bits_Concat.con

/-! ### ranges_compare: function 78 -/
def ranges_compare.a : ACods (Int × Int × (Int × Int) × (Int × Int) × Unit) := (.cons (.val (.int .i64)) (.cons (.val (.int .i64)) (.cons (.val (.agg (.cons (.int .u64) (.one (.int .u64))))) (.cons (.val (.agg (.cons (.int .u64) (.one (.int .u64))))) .nil))))
def ranges_compare.r : RCod (Int × Int) := .val (.agg (.cons (.int .u64) (.one (.int .u64))))
noncomputable def ranges_compare.cs : List (Kn Try.prog) := [bits_Mask.c, ranges_single.c, ranges_Top.c]
def ranges_compare.live : Nat → Option Keep := liveOf [(18, ⟨[8], [8], []⟩), (24, ⟨[6, 7, 8], [6, 7, 8], []⟩)]
noncomputable def ranges_compare.body : Code := bodyOf Try.f78
noncomputable def ranges_compare.K (fu : Nat) : Code → St → (Ex → St → Option (Int × Int)) → Option (Int × Int) := codeK Try.prog ranges_compare.cs ranges_compare.live fu
noncomputable def ranges_compare.p9 (m fu : Nat) (c8_0 : Int) (c8_1 : Int) : Option (Int × Int) :=
  joinK m (ranges_compare.K fu (sub ranges_compare.body [true, true, false, true, false, false, false, false, false, true, false, true, true])) (stOf 75 [(8, .ptr 8 0 0 0)] [(8, .own [.val (.int .u64 c8_0), .val (.int .u64 c8_1)])]) (seqC fu (ranges_compare.live 0) (ranges_compare.K fu (sub ranges_compare.body [true, true, false, true, false, false, false, false, false, true, true])) (blockC 2 (seqC fu (ranges_compare.live 20) (ranges_compare.K fu (sub ranges_compare.body [true, true, false, true, false, false, false, true])) (blockC 3 (seqC fu (ranges_compare.live 24) (ranges_compare.K fu (sub ranges_compare.body [true, true, false, true, false, true])) (blockC 0 (seqC fu (ranges_compare.live 32) (ranges_compare.K fu (sub ranges_compare.body [true, true, true])) (retC Try.prog Try.f78.results ranges_compare.r.dec))))))))
noncomputable def ranges_compare.p12 (m fu : Nat) (c6_0 : Int) (c6_1 : Int) (c7_0 : Int) (c7_1 : Int) (c8_0 : Int) (c8_1 : Int) : Option (Int × Int) :=
  joinK m (ranges_compare.K fu (sub ranges_compare.body [true, true, false, true, false, true])) (stOf 75 [(6, .ptr 6 0 0 0), (7, .ptr 7 0 0 0), (8, .ptr 8 0 0 0)] [(6, .own [.val (.int .u64 c6_0), .val (.int .u64 c6_1)]), (7, .own [.val (.int .u64 c7_0), .val (.int .u64 c7_1)]), (8, .own [.val (.int .u64 c8_0), .val (.int .u64 c8_1)])]) (blockC 0 (seqC fu (ranges_compare.live 32) (ranges_compare.K fu (sub ranges_compare.body [true, true, true])) (retC Try.prog Try.f78.results ranges_compare.r.dec)))
theorem ranges_compare.p9_eq (m fu : Nat) (c8_0 : Int) (c8_1 : Int) : ranges_compare.p9 (m + 1) fu c8_0 c8_1 =
  (ranges_Top.f 1).bind fun r4 =>
  some (r4.1, r4.2) := by kernel_rfl
theorem ranges_compare.p12_eq (m fu : Nat) (c6_0 : Int) (c6_1 : Int) (c7_0 : Int) (c7_1 : Int) (c8_0 : Int) (c8_1 : Int) : ranges_compare.p12 (m + 1) fu c6_0 c6_1 c7_0 c7_1 c8_0 c8_1 =
  bif (decide (c6_1 < c7_0)) then
    some (1, 1)
  else
    bif (decide (c6_0 ≥ c7_1)) then
      some (0, 0)
    else
      (ranges_Top.f 1).bind fun r7 =>
      some (r7.1, r7.2) := by kernel_rfl
noncomputable def ranges_compare.g (fu : Nat) (a0 : Int) (a1 : Int) (a2 : Int × Int) (a3 : Int × Int) : Option (Int × Int) :=
  (bits_Mask.f a1).bind fun r1 =>
  bif (a0 == 16) then
    bif (decide (a2.2 < a3.1)) then
      some (0, 0)
    else
      bif (decide (a3.2 < a2.1)) then
        some (0, 0)
      else
        (ranges_single.f (a2.1, a2.2)).bind fun r2 =>
        bif r2 then
          (ranges_single.f (a3.1, a3.2)).bind fun r3 =>
          bif r3 then
            some (1, 1)
          else
            ranges_compare.p9 fu fu 0 0
        else
          ranges_compare.p9 fu fu 0 0
  else
    bif (a0 == 18) then
      bif (decide (a2.2 > (shr .u64 r1 1))) then
        bif (decide (a2.1 ≤ (shr .u64 r1 1))) then
          (ranges_Top.f 1).bind fun r5 =>
          some (r5.1, r5.2)
        else
          bif (decide (a3.1 ≤ (shr .u64 r1 1))) then
            (ranges_Top.f 1).bind fun r6 =>
            some (r6.1, r6.2)
          else
            ranges_compare.p12 fu fu a2.1 a2.2 a3.1 a3.2 0 0
      else
        bif (decide (a3.2 > (shr .u64 r1 1))) then
          bif (decide (a2.1 ≤ (shr .u64 r1 1))) then
            (ranges_Top.f 1).bind fun r8 =>
            some (r8.1, r8.2)
          else
            bif (decide (a3.1 ≤ (shr .u64 r1 1))) then
              (ranges_Top.f 1).bind fun r9 =>
              some (r9.1, r9.2)
            else
              ranges_compare.p12 fu fu a2.1 a2.2 a3.1 a3.2 0 0
        else
          ranges_compare.p12 fu fu a2.1 a2.2 a3.1 a3.2 0 0
    else
      ranges_compare.p12 fu fu a2.1 a2.2 a3.1 a3.2 0 0
noncomputable def ranges_compare.f (a0 : Int) (a1 : Int) (a2 : Int × Int) (a3 : Int × Int) : Option (Int × Int) := ranges_compare.g (fuel0 + 1) a0 a1 a2 a3
theorem ranges_compare.eq (fu : Nat) (a : Int × Int × (Int × Int) × (Int × Int) × Unit) : bodyK Try.prog ranges_compare.cs ranges_compare.live fu Try.f78 (ranges_compare.a.enc a) ranges_compare.r.dec = ranges_compare.g fu a.1 a.2.1 a.2.2.1 a.2.2.2.1 := by kernel_rfl
theorem ranges_compare.con : ∀ (a : Int × Int × (Int × Int) × (Int × Int) × Unit) (r : Int × Int), ranges_compare.f a.1 a.2.1 a.2.2.1 a.2.2.2.1 = some r → Contract Try.prog 78 (ranges_compare.a.enc a) (ranges_compare.r.enc r) := Contract.of_body (F := fun (a : Int × Int × (Int × Int) × (Int × Int) × Unit) => ranges_compare.f a.1 a.2.1 a.2.2.1 a.2.2.2.1) (fn := Try.f78) (cs := ranges_compare.cs) (live := ranges_compare.live) (fuel := fuel0 + 1) (by kernel_rfl) (by kernel_rfl) mixed (ranges_compare.eq (fuel0 + 1))
noncomputable def ranges_compare.c : Kn Try.prog := Kn.of 78 ranges_compare.a ranges_compare.r (fun a => ranges_compare.f a.1 a.2.1 a.2.2.1 a.2.2.2.1) ranges_compare.con
end Go.Proofs.Ytchahcaccneinaa.Fn
