/- What the functions return, as the evaluator tells it: written by a program of this workplace (mev.py); Lean checks each equation. -/
import Derived.Test.YtcihbcffokjgjaaGreatProg
import Derived.Test.YtcihbcffokjgjaaGreatTEvC
namespace Go.Proofs.YtcihbcffokjgjaaGreat.Fn
open Go Go.RowKit Go.Proofs.YtcihbcffokjgjaaGreat.Ev Go.Proofs
set_option linter.unusedVariables false
set_option maxRecDepth 100000
theorem mixed : Tryz.prog.follows .mixedOrders = true := by kernel_rfl
def fuel0 : Nat := 18446744073709551615
def deep0 : Nat := 1000
def term_clamp.a : ACods (Int × Unit) := (.cons (.val (.int .i64)) .nil)
def term_clamp.r : RCod (Int) := .val (.int .i64)
noncomputable def term_clamp.cs : List (Kn Tryz.prog) := []
def term_clamp.live : Nat → Option Keep := liveOf []
noncomputable def term_clamp.f (a0 : Int) : Option (Int) :=
  some (mx 1 (mn a0 64))
theorem term_clamp.eq (fu : Nat) (a : Int × Unit) : bodyK Tryz.prog term_clamp.cs term_clamp.live fu Tryz.f79 (term_clamp.a.enc a) term_clamp.r.dec = term_clamp.f a.1 := by kernel_rfl
theorem term_clamp.con : ∀ (a : Int × Unit) (r : Int), term_clamp.f a.1 = some r → Contract Tryz.prog 79 (term_clamp.a.enc a) (term_clamp.r.enc r) := Contract.of_body (by kernel_rfl) (by kernel_rfl) mixed (term_clamp.eq (fuel0 + 1))
noncomputable def term_clamp.c : Kn Tryz.prog := Kn.of 79 term_clamp.a term_clamp.r (fun a => term_clamp.f a.1) term_clamp.con
def term_Var.a : ACods (ByteArray × Int × Unit) := (.cons (.val (.str)) (.cons (.val (.int .i64)) .nil))
def term_Var.r : RCod (Tm) := .tm
noncomputable def term_Var.cs : List (Kn Tryz.prog) := [term_clamp.c]
def term_Var.live : Nat → Option Keep := liveOf []
noncomputable def term_Var.f (a0 : ByteArray) (a1 : Int) : Option (Tm) :=
  (term_clamp.f a1).bind fun r1 =>
  some (Tm.mk 1 r1 0 a0 [])
theorem term_Var.eq (fu : Nat) (a : ByteArray × Int × Unit) : bodyK Tryz.prog term_Var.cs term_Var.live fu Tryz.f31 (term_Var.a.enc a) term_Var.r.dec = term_Var.f a.1 a.2.1 := by kernel_rfl
theorem term_Var.con : ∀ (a : ByteArray × Int × Unit) (r : Tm), term_Var.f a.1 a.2.1 = some r → Contract Tryz.prog 31 (term_Var.a.enc a) (term_Var.r.enc r) := Contract.of_body (by kernel_rfl) (by kernel_rfl) mixed (term_Var.eq (fuel0 + 1))
def term_Const.a : ACods (Int × Int × Unit) := (.cons (.val (.int .i64)) (.cons (.val (.int .u64)) .nil))
def term_Const.r : RCod (Tm) := .tm
noncomputable def term_Const.cs : List (Kn Tryz.prog) := [term_clamp.c]
def term_Const.live : Nat → Option Keep := liveOf [(8, ⟨[1, 4, 5], [4], [], [], []⟩)]
noncomputable def term_Const.body : Code := bodyOf Tryz.f32
noncomputable def term_Const.K (fu : Nat) : Code → St → (Ex → St → Option (Tm)) → Option (Tm) := codeK Tryz.prog (term_Const.cs) term_Const.live fu
noncomputable def term_Const.p4 (m fu : Nat) (x1 x5 : Int) (c4_3 : ByteArray) : Option Tm :=
  joinK m (term_Const.K fu (sub term_Const.body [true, true, true])) (stOf 18 [(1, .val (.int .u64 x1)), (4, .ptr 4 0 0 0), (5, .val (.int .i64 x5))] [(4, .own [.val (.int .i64 0), .val (.int .i64 0), .val (.int .u64 0), .val (.string c4_3), .val (.slice none 0 0)])]) (retC Tryz.prog Tryz.f32.results term_Const.r.dec)
noncomputable def term_Const.g (fu : Nat) (a0 a1 : Int) : Option (Tm) :=
  (term_clamp.f a0).bind fun r1 =>
  bif (decide (r1 < 64)) then
    bif decide (r1 < 0) then
      none
    else
      term_Const.p4 fu fu (Go.bits .and .u64 a1 (IntKind.u64.wrap ((shl .u64 1 r1) - 1))) r1 (ByteArray.mk #[])
  else
    term_Const.p4 fu fu a1 r1 (ByteArray.mk #[])
noncomputable def term_Const.f (a0 a1 : Int) : Option (Tm) := term_Const.g (fuel0 + 1) a0 a1
theorem term_Const.eq (fu : Nat) (a : Int × Int × Unit) : bodyK Tryz.prog term_Const.cs term_Const.live fu Tryz.f32 (term_Const.a.enc a) term_Const.r.dec = term_Const.g fu a.1 a.2.1 := by kernel_rfl
theorem term_Const.con : ∀ (a : Int × Int × Unit) (r : Tm), term_Const.f a.1 a.2.1 = some r → Contract Tryz.prog 32 (term_Const.a.enc a) (term_Const.r.enc r) := Contract.of_body (by kernel_rfl) (by kernel_rfl) mixed (term_Const.eq (fuel0 + 1))
def term_widths.a : ACods (List Tm × Unit) := (.cons .tms .nil)
def term_widths.r : RCod (Nat × (Nat → Int)) := .rows (.int1 .i64)
noncomputable def term_widths.cs : List (Kn Tryz.prog) := []
def term_widths.live : Nat → Option Keep := liveOf [(7, ⟨[3, 9, 10, 11], [8], [], [], []⟩)]
noncomputable def term_widths.body : Code := bodyOf Tryz.f77
noncomputable def term_widths.K (fu : Nat) : Code → St → (Ex → St → Option (Nat × (Nat → Int))) → Option (Nat × (Nat → Int)) := codeK Tryz.prog (term_widths.cs) term_widths.live fu
noncomputable def term_widths.j3 (fu n3 x3n : Nat) (x9l : List Tm) (x10 x11 : Int) (m8 : Nat) (g8_0 : Nat → Int) : Option (Nat × (Nat → Int)) :=
  loopK (term_widths.K fu (sub term_widths.body [true, true, false, true, false, false])) (term_widths.live 7) n3 (stOf 23 [(3, .sl 8 1 x3n), (9, .tsl x9l), (10, .val (.int .i64 x10)), (11, .val (.int .i64 x11))] [(8, .grow 3 m8 [.int .i64 g8_0])]) (blockC 0 (seqC fu (term_widths.live 14) (term_widths.K fu (sub term_widths.body [true, true, true])) (retC Tryz.prog Tryz.f77.results term_widths.r.dec)))
theorem term_widths.j3_succ (fu n3 x3n : Nat) (x9l : List Tm) (x10 x11 : Int) (m8 : Nat) (g8_0 : Nat → Int) : term_widths.j3 fu (n3 + 1) x3n x9l x10 x11 m8 g8_0 =
  bif (decide (x11 < x10)) then
    bif decide (0 ≤ x11) then
      bif decide (x11 < (x9l.length : Int)) then
        ((x9l[x11.toNat]? : Option Tm)).bind fun u1 =>
        bif decide (0 ≤ x11) then
          bif decide (x11 < (x3n : Int)) then
            term_widths.j3 fu n3 x3n x9l x10 (IntKind.i64.wrap (x11 + 1)) m8 (upd x11.toNat u1.width g8_0)
          else
            none
        else
          none
      else
        none
    else
      none
  else
    some (x3n, g8_0) := by kernel_rfl
noncomputable def term_widths.g (fu : Nat) (a0 : List Tm) : Option (Nat × (Nat → Int)) :=
  bif decide (0 ≤ (a0.length : Int)) then
    bif Nat.ble (a0.length * 8) 140737488355328 then
      term_widths.j3 fu fu a0.length a0 (a0.length : Int) 0 a0.length (fun _ => 0)
    else
      none
  else
    none
noncomputable def term_widths.f (a0 : List Tm) : Option (Nat × (Nat → Int)) := term_widths.g (fuel0 + 1) a0
theorem term_widths.eq (fu : Nat) (a : List Tm × Unit) : bodyK Tryz.prog term_widths.cs term_widths.live fu Tryz.f77 (term_widths.a.enc a) term_widths.r.dec = term_widths.g fu a.1 := by kernel_rfl
theorem term_widths.con : ∀ (a : List Tm × Unit) (r : Nat × (Nat → Int)), term_widths.f a.1 = some r → Contract Tryz.prog 77 (term_widths.a.enc a) (term_widths.r.enc r) := Contract.of_body (by kernel_rfl) (by kernel_rfl) mixed (term_widths.eq (fuel0 + 1))
noncomputable def term_widths.c : Kn Tryz.prog := Kn.of 77 term_widths.a term_widths.r (fun a => term_widths.f a.1) term_widths.con
def opinfo_known.a : ACods (Int × Unit) := (.cons (.val (.int .i64)) .nil)
def opinfo_known.r : RCod (Bool) := .val (.bool)
noncomputable def opinfo_known.cs : List (Kn Tryz.prog) := []
def opinfo_known.live : Nat → Option Keep := liveOf []
noncomputable def opinfo_known.f (a0 : Int) : Option (Bool) :=
  bif (decide (a0 ≥ 1)) then
    some (decide (a0 ≤ 26))
  else
    some false
theorem opinfo_known.eq (fu : Nat) (a : Int × Unit) : bodyK Tryz.prog opinfo_known.cs opinfo_known.live fu Tryz.f92 (opinfo_known.a.enc a) opinfo_known.r.dec = opinfo_known.f a.1 := by kernel_rfl
theorem opinfo_known.con : ∀ (a : Int × Unit) (r : Bool), opinfo_known.f a.1 = some r → Contract Tryz.prog 92 (opinfo_known.a.enc a) (opinfo_known.r.enc r) := Contract.of_body (by kernel_rfl) (by kernel_rfl) mixed (opinfo_known.eq (fuel0 + 1))
noncomputable def opinfo_known.c : Kn Tryz.prog := Kn.of 92 opinfo_known.a opinfo_known.r (fun a => opinfo_known.f a.1) opinfo_known.con
def opinfo_Arity.a : ACods (Int × Unit) := (.cons (.val (.int .i64)) .nil)
def opinfo_Arity.r : RCod (Int) := .val (.int .i64)
noncomputable def opinfo_Arity.cs : List (Kn Tryz.prog) := []
def opinfo_Arity.live : Nat → Option Keep := liveOf [(60, ⟨[3], [], [], [], []⟩), (62, ⟨[3], [], [], [], []⟩), (64, ⟨[3], [], [], [], []⟩)]
noncomputable def opinfo_Arity.body : Code := bodyOf Tryz.f93
noncomputable def opinfo_Arity.K (fu : Nat) : Code → St → (Ex → St → Option (Int)) → Option (Int) := codeK Tryz.prog (opinfo_Arity.cs) opinfo_Arity.live fu
noncomputable def opinfo_Arity.p30 (m fu : Nat) (x3 : Int) : Option Int :=
  joinK m (opinfo_Arity.K fu (sub opinfo_Arity.body [true, true, false, true, false, false, false, false, false, true])) (stOf 42 [(3, .val (.int .i64 x3))] []) (blockC 3 (seqC fu (opinfo_Arity.live 62) (opinfo_Arity.K fu (sub opinfo_Arity.body [true, true, false, true, false, false, false, true])) (blockC 4 (seqC fu (opinfo_Arity.live 64) (opinfo_Arity.K fu (sub opinfo_Arity.body [true, true, false, true, false, true])) (blockC 0 (seqC fu (opinfo_Arity.live 66) (opinfo_Arity.K fu (sub opinfo_Arity.body [true, true, true])) (retC Tryz.prog Tryz.f93.results opinfo_Arity.r.dec)))))))
noncomputable def opinfo_Arity.p31 (m fu : Nat) (x3 : Int) : Option Int :=
  joinK m (opinfo_Arity.K fu (sub opinfo_Arity.body [true, true, false, true, false, false, false, true])) (stOf 42 [(3, .val (.int .i64 x3))] []) (blockC 4 (seqC fu (opinfo_Arity.live 64) (opinfo_Arity.K fu (sub opinfo_Arity.body [true, true, false, true, false, true])) (blockC 0 (seqC fu (opinfo_Arity.live 66) (opinfo_Arity.K fu (sub opinfo_Arity.body [true, true, true])) (retC Tryz.prog Tryz.f93.results opinfo_Arity.r.dec)))))
noncomputable def opinfo_Arity.p32 (m fu : Nat) (x3 : Int) : Option Int :=
  joinK m (opinfo_Arity.K fu (sub opinfo_Arity.body [true, true, false, true, false, true])) (stOf 42 [(3, .val (.int .i64 x3))] []) (blockC 0 (seqC fu (opinfo_Arity.live 66) (opinfo_Arity.K fu (sub opinfo_Arity.body [true, true, true])) (retC Tryz.prog Tryz.f93.results opinfo_Arity.r.dec)))
theorem opinfo_Arity.p32_eq (m fu : Nat) (x3 : Int) : opinfo_Arity.p32 (m + 1) fu x3 =
  some x3 := by kernel_rfl
theorem opinfo_Arity.p31_eq (m fu : Nat) (x3 : Int) : opinfo_Arity.p31 (m + 1) fu x3 =
  opinfo_Arity.p32 fu fu (IntKind.i64.wrap (x3 + 1)) := by kernel_rfl
theorem opinfo_Arity.p30_eq (m fu : Nat) (x3 : Int) : opinfo_Arity.p30 (m + 1) fu x3 =
  opinfo_Arity.p31 fu fu (IntKind.i64.wrap (x3 + 1)) := by kernel_rfl
noncomputable def opinfo_Arity.g (fu : Nat) (a0 : Int) : Option (Int) :=
  bif (a0 == 19) then
    opinfo_Arity.p30 fu fu 1
  else
    bif (a0 == 5) then
      opinfo_Arity.p30 fu fu 0
    else
      bif (a0 == 6) then
        opinfo_Arity.p30 fu fu 0
      else
        bif (a0 == 7) then
          opinfo_Arity.p30 fu fu 0
        else
          bif (a0 == 8) then
            opinfo_Arity.p30 fu fu 0
          else
            bif (a0 == 9) then
              opinfo_Arity.p30 fu fu 0
            else
              bif (a0 == 10) then
                opinfo_Arity.p30 fu fu 0
              else
                bif (a0 == 11) then
                  opinfo_Arity.p30 fu fu 0
                else
                  bif (a0 == 12) then
                    opinfo_Arity.p30 fu fu 0
                  else
                    bif (a0 == 13) then
                      opinfo_Arity.p30 fu fu 0
                    else
                      bif (a0 == 14) then
                        opinfo_Arity.p30 fu fu 0
                      else
                        bif (a0 == 15) then
                          opinfo_Arity.p30 fu fu 0
                        else
                          bif (a0 == 16) then
                            opinfo_Arity.p30 fu fu 0
                          else
                            bif (a0 == 17) then
                              opinfo_Arity.p30 fu fu 0
                            else
                              bif (a0 == 18) then
                                opinfo_Arity.p30 fu fu 0
                              else
                                bif (a0 == 20) then
                                  opinfo_Arity.p30 fu fu 0
                                else
                                  bif (a0 == 3) then
                                    opinfo_Arity.p31 fu fu 0
                                  else
                                    bif (a0 == 4) then
                                      opinfo_Arity.p31 fu fu 0
                                    else
                                      bif (a0 == 21) then
                                        opinfo_Arity.p31 fu fu 0
                                      else
                                        bif (a0 == 22) then
                                          opinfo_Arity.p31 fu fu 0
                                        else
                                          bif (a0 == 23) then
                                            opinfo_Arity.p31 fu fu 0
                                          else
                                            bif (a0 == 26) then
                                              opinfo_Arity.p31 fu fu 0
                                            else
                                              bif (a0 == 1) then
                                                opinfo_Arity.p32 fu fu 0
                                              else
                                                bif (a0 == 2) then
                                                  opinfo_Arity.p32 fu fu 0
                                                else
                                                  bif (a0 == 24) then
                                                    opinfo_Arity.p32 fu fu 0
                                                  else
                                                    bif (a0 == 25) then
                                                      opinfo_Arity.p32 fu fu 0
                                                    else
                                                      some (-1)
noncomputable def opinfo_Arity.f (a0 : Int) : Option (Int) := opinfo_Arity.g (fuel0 + 1) a0
theorem opinfo_Arity.eq (fu : Nat) (a : Int × Unit) : bodyK Tryz.prog opinfo_Arity.cs opinfo_Arity.live fu Tryz.f93 (opinfo_Arity.a.enc a) opinfo_Arity.r.dec = opinfo_Arity.g fu a.1 := by kernel_rfl
theorem opinfo_Arity.con : ∀ (a : Int × Unit) (r : Int), opinfo_Arity.f a.1 = some r → Contract Tryz.prog 93 (opinfo_Arity.a.enc a) (opinfo_Arity.r.enc r) := Contract.of_body (by kernel_rfl) (by kernel_rfl) mixed (opinfo_Arity.eq (fuel0 + 1))
noncomputable def opinfo_Arity.c : Kn Tryz.prog := Kn.of 93 opinfo_Arity.a opinfo_Arity.r (fun a => opinfo_Arity.f a.1) opinfo_Arity.con
def opinfo_inside.a : ACods (Int × Unit) := (.cons (.val (.int .i64)) .nil)
def opinfo_inside.r : RCod (Bool) := .val (.bool)
noncomputable def opinfo_inside.cs : List (Kn Tryz.prog) := []
def opinfo_inside.live : Nat → Option Keep := liveOf []
noncomputable def opinfo_inside.f (a0 : Int) : Option (Bool) :=
  bif (decide (a0 ≥ 0)) then
    some (decide (a0 ≤ 64))
  else
    some false
theorem opinfo_inside.eq (fu : Nat) (a : Int × Unit) : bodyK Tryz.prog opinfo_inside.cs opinfo_inside.live fu Tryz.f94 (opinfo_inside.a.enc a) opinfo_inside.r.dec = opinfo_inside.f a.1 := by kernel_rfl
theorem opinfo_inside.con : ∀ (a : Int × Unit) (r : Bool), opinfo_inside.f a.1 = some r → Contract Tryz.prog 94 (opinfo_inside.a.enc a) (opinfo_inside.r.enc r) := Contract.of_body (by kernel_rfl) (by kernel_rfl) mixed (opinfo_inside.eq (fuel0 + 1))
noncomputable def opinfo_inside.c : Kn Tryz.prog := Kn.of 94 opinfo_inside.a opinfo_inside.r (fun a => opinfo_inside.f a.1) opinfo_inside.con
def opinfo_leaf.a : ACods (Int × Int × Int × Unit) := (.cons (.val (.int .i64)) (.cons (.val (.int .i64)) (.cons (.val (.int .u64)) .nil)))
def opinfo_leaf.r : RCod (Int × Int) := .val (.tup (.cons (.int .i64) (.one (.int .i64))))
noncomputable def opinfo_leaf.cs : List (Kn Tryz.prog) := [opinfo_inside.c]
def opinfo_leaf.live : Nat → Option Keep := liveOf [(6, ⟨[1], [], [], [], []⟩)]
noncomputable def opinfo_leaf.body : Code := bodyOf Tryz.f95
noncomputable def opinfo_leaf.K (fu : Nat) : Code → St → (Ex → St → Option (Int × Int)) → Option (Int × Int) := codeK Tryz.prog (opinfo_leaf.cs) opinfo_leaf.live fu
noncomputable def opinfo_leaf.p3 (m fu : Nat) (x1 : Int) : Option (Int × Int) :=
  joinK m (opinfo_leaf.K fu (sub opinfo_leaf.body [true, true])) (stOf 26 [(1, .val (.int .i64 x1))] []) (retC Tryz.prog Tryz.f95.results opinfo_leaf.r.dec)
theorem opinfo_leaf.p3_eq (m fu : Nat) (x1 : Int) : opinfo_leaf.p3 (m + 1) fu x1 =
  some (x1, 0) := by kernel_rfl
noncomputable def opinfo_leaf.g (fu : Nat) (a0 a1 a2 : Int) : Option (Int × Int) :=
  (opinfo_inside.f a1).bind fun r1 =>
  bif (!r1) then
    some (0, 3)
  else
    bif (a0 == 2) then
      bif (decide (a1 > 0)) then
        bif decide (a1 < 0) then
          none
        else
          bif ((shr .u64 a2 a1) != 0) then
            some (0, 3)
          else
            opinfo_leaf.p3 fu fu a1
      else
        opinfo_leaf.p3 fu fu a1
    else
      opinfo_leaf.p3 fu fu a1
noncomputable def opinfo_leaf.f (a0 a1 a2 : Int) : Option (Int × Int) := opinfo_leaf.g (fuel0 + 1) a0 a1 a2
theorem opinfo_leaf.eq (fu : Nat) (a : Int × Int × Int × Unit) : bodyK Tryz.prog opinfo_leaf.cs opinfo_leaf.live fu Tryz.f95 (opinfo_leaf.a.enc a) opinfo_leaf.r.dec = opinfo_leaf.g fu a.1 a.2.1 a.2.2.1 := by kernel_rfl
theorem opinfo_leaf.con : ∀ (a : Int × Int × Int × Unit) (r : Int × Int), opinfo_leaf.f a.1 a.2.1 a.2.2.1 = some r → Contract Tryz.prog 95 (opinfo_leaf.a.enc a) (opinfo_leaf.r.enc r) := Contract.of_body (by kernel_rfl) (by kernel_rfl) mixed (opinfo_leaf.eq (fuel0 + 1))
noncomputable def opinfo_leaf.c : Kn Tryz.prog := Kn.of 95 opinfo_leaf.a opinfo_leaf.r (fun a => opinfo_leaf.f a.1 a.2.1 a.2.2.1) opinfo_leaf.con
def opinfo_resized.a : ACods (Int × Int × Int × Int × Unit) := (.cons (.val (.int .i64)) (.cons (.val (.int .i64)) (.cons (.val (.int .u64)) (.cons (.val (.int .i64)) .nil))))
def opinfo_resized.r : RCod (Int × Int) := .val (.tup (.cons (.int .i64) (.one (.int .i64))))
noncomputable def opinfo_resized.cs : List (Kn Tryz.prog) := []
def opinfo_resized.live : Nat → Option Keep := liveOf [(10, ⟨[1], [], [], [], []⟩)]
noncomputable def opinfo_resized.body : Code := bodyOf Tryz.f96
noncomputable def opinfo_resized.K (fu : Nat) : Code → St → (Ex → St → Option (Int × Int)) → Option (Int × Int) := codeK Tryz.prog (opinfo_resized.cs) opinfo_resized.live fu
noncomputable def opinfo_resized.p5 (m fu : Nat) (x1 : Int) : Option (Int × Int) :=
  joinK m (opinfo_resized.K fu (sub opinfo_resized.body [true, true, true])) (stOf 45 [(1, .val (.int .i64 x1))] []) (retC Tryz.prog Tryz.f96.results opinfo_resized.r.dec)
theorem opinfo_resized.p5_eq (m fu : Nat) (x1 : Int) : opinfo_resized.p5 (m + 1) fu x1 =
  some (x1, 0) := by kernel_rfl
noncomputable def opinfo_resized.g (fu : Nat) (a0 a1 a2 a3 : Int) : Option (Int × Int) :=
  bif (decide (a1 < 1)) then
    some (0, 3)
  else
    bif (decide (a1 > 64)) then
      some (0, 3)
    else
      bif (decide (a3 < 1)) then
        some (0, 3)
      else
        bif (a0 != 21) then
          bif (decide (a1 < a3)) then
            some (0, 3)
          else
            bif (a0 == 21) then
              bif (decide (a1 > a3)) then
                some (0, 3)
              else
                bif (decide (a2 > (IntKind.u64.wrap (IntKind.i64.wrap (a3 - a1))))) then
                  some (0, 3)
                else
                  opinfo_resized.p5 fu fu a1
            else
              opinfo_resized.p5 fu fu a1
        else
          bif (a0 == 21) then
            bif (decide (a1 > a3)) then
              some (0, 3)
            else
              bif (decide (a2 > (IntKind.u64.wrap (IntKind.i64.wrap (a3 - a1))))) then
                some (0, 3)
              else
                opinfo_resized.p5 fu fu a1
          else
            opinfo_resized.p5 fu fu a1
noncomputable def opinfo_resized.f (a0 a1 a2 a3 : Int) : Option (Int × Int) := opinfo_resized.g (fuel0 + 1) a0 a1 a2 a3
theorem opinfo_resized.eq (fu : Nat) (a : Int × Int × Int × Int × Unit) : bodyK Tryz.prog opinfo_resized.cs opinfo_resized.live fu Tryz.f96 (opinfo_resized.a.enc a) opinfo_resized.r.dec = opinfo_resized.g fu a.1 a.2.1 a.2.2.1 a.2.2.2.1 := by kernel_rfl
theorem opinfo_resized.con : ∀ (a : Int × Int × Int × Int × Unit) (r : Int × Int), opinfo_resized.f a.1 a.2.1 a.2.2.1 a.2.2.2.1 = some r → Contract Tryz.prog 96 (opinfo_resized.a.enc a) (opinfo_resized.r.enc r) := Contract.of_body (by kernel_rfl) (by kernel_rfl) mixed (opinfo_resized.eq (fuel0 + 1))
noncomputable def opinfo_resized.c : Kn Tryz.prog := Kn.of 96 opinfo_resized.a opinfo_resized.r (fun a => opinfo_resized.f a.1 a.2.1 a.2.2.1 a.2.2.2.1) opinfo_resized.con
def opinfo_agreed.a : ACods (Bool × Int × Unit) := (.cons (.val (.bool)) (.cons (.val (.int .i64)) .nil))
def opinfo_agreed.r : RCod (Int × Int) := .val (.tup (.cons (.int .i64) (.one (.int .i64))))
noncomputable def opinfo_agreed.cs : List (Kn Tryz.prog) := []
def opinfo_agreed.live : Nat → Option Keep := liveOf []
noncomputable def opinfo_agreed.f (a0 : Bool) (a1 : Int) : Option (Int × Int) :=
  bif (!a0) then
    some (0, 3)
  else
    some (a1, 0)
theorem opinfo_agreed.eq (fu : Nat) (a : Bool × Int × Unit) : bodyK Tryz.prog opinfo_agreed.cs opinfo_agreed.live fu Tryz.f97 (opinfo_agreed.a.enc a) opinfo_agreed.r.dec = opinfo_agreed.f a.1 a.2.1 := by kernel_rfl
theorem opinfo_agreed.con : ∀ (a : Bool × Int × Unit) (r : Int × Int), opinfo_agreed.f a.1 a.2.1 = some r → Contract Tryz.prog 97 (opinfo_agreed.a.enc a) (opinfo_agreed.r.enc r) := Contract.of_body (by kernel_rfl) (by kernel_rfl) mixed (opinfo_agreed.eq (fuel0 + 1))
noncomputable def opinfo_agreed.c : Kn Tryz.prog := Kn.of 97 opinfo_agreed.a opinfo_agreed.r (fun a => opinfo_agreed.f a.1 a.2.1) opinfo_agreed.con
def opinfo_Width.a : ACods (Int × Int × Int × (Nat × (Nat → Int)) × Unit) := (.cons (.val (.int .i64)) (.cons (.val (.int .i64)) (.cons (.val (.int .u64)) (.cons (.rows (.int1 .i64)) .nil))))
def opinfo_Width.r : RCod (Int × Int) := .val (.tup (.cons (.int .i64) (.one (.int .i64))))
noncomputable def opinfo_Width.cs : List (Kn Tryz.prog) := [opinfo_known.c, opinfo_Arity.c, opinfo_inside.c, opinfo_leaf.c, opinfo_resized.c, opinfo_agreed.c]
def opinfo_Width.live : Nat → Option Keep := liveOf [(9, ⟨[0, 1, 2, 3, 22, 23, 24], [3], [], [], []⟩)]
noncomputable def opinfo_Width.body : Code := bodyOf Tryz.f38
noncomputable def opinfo_Width.K (fu : Nat) : Code → St → (Ex → St → Option (Int × Int)) → Option (Int × Int) := codeK Tryz.prog (opinfo_Width.cs) opinfo_Width.live fu
noncomputable def opinfo_Width.j4 (fu n4 : Nat) (x0 x1 x2 : Int) (x3n x22n : Nat) (x23 x24 : Int) (m3 : Nat) (g3_0 : Nat → Int) : Option (Int × Int) :=
  loopK (opinfo_Width.K fu (sub opinfo_Width.body [true, true, false, true, false, false])) (opinfo_Width.live 9) n4 (stOf 144 [(0, .val (.int .i64 x0)), (1, .val (.int .i64 x1)), (2, .val (.int .u64 x2)), (3, .sl 3 1 x3n), (22, .sl 3 1 x22n), (23, .val (.int .i64 x23)), (24, .val (.int .i64 x24))] [(3, .ext m3 [.int .i64 g3_0])]) (blockC 0 (seqC fu (opinfo_Width.live 18) (opinfo_Width.K fu (sub opinfo_Width.body [true, true, true])) (retC Tryz.prog Tryz.f38.results opinfo_Width.r.dec)))
theorem opinfo_Width.j4_succ (fu n4 : Nat) (x0 x1 x2 : Int) (x3n x22n : Nat) (x23 x24 : Int) (m3 : Nat) (g3_0 : Nat → Int) : opinfo_Width.j4 fu (n4 + 1) x0 x1 x2 x3n x22n x23 x24 m3 g3_0 =
  bif (decide (x24 < x23)) then
    bif decide (0 ≤ x24) then
      bif decide (x24 < (x22n : Int)) then
        (opinfo_inside.f (g3_0 x24.toNat)).bind fun r3 =>
        bif (!r3) then
          some (0, 3)
        else
          opinfo_Width.j4 fu n4 x0 x1 x2 x3n x22n x23 (IntKind.i64.wrap (x24 + 1)) m3 g3_0
      else
        none
    else
      none
  else
    bif (x0 == 1) then
      (opinfo_leaf.f x0 x1 x2).bind fun r4 =>
      some (r4.1, r4.2)
    else
      bif (x0 == 2) then
        (opinfo_leaf.f x0 x1 x2).bind fun r5 =>
        some (r5.1, r5.2)
      else
        bif (x0 == 24) then
          (opinfo_leaf.f x0 x1 x2).bind fun r6 =>
          some (r6.1, r6.2)
        else
          bif (x0 == 25) then
            (opinfo_leaf.f x0 x1 x2).bind fun r7 =>
            some (r7.1, r7.2)
          else
            bif (x0 == 3) then
              bif decide ((0 : Int) < (x3n : Int)) then
                some ((g3_0 0), 0)
              else
                none
            else
              bif (x0 == 4) then
                bif decide ((0 : Int) < (x3n : Int)) then
                  some ((g3_0 0), 0)
                else
                  none
              else
                bif (x0 == 26) then
                  bif decide ((0 : Int) < (x3n : Int)) then
                    some ((g3_0 0), 0)
                  else
                    none
                else
                  bif (x0 == 21) then
                    bif decide ((0 : Int) < (x3n : Int)) then
                      (opinfo_resized.f x0 x1 x2 (g3_0 0)).bind fun r8 =>
                      some (r8.1, r8.2)
                    else
                      none
                  else
                    bif (x0 == 22) then
                      bif decide ((0 : Int) < (x3n : Int)) then
                        (opinfo_resized.f x0 x1 x2 (g3_0 0)).bind fun r9 =>
                        some (r9.1, r9.2)
                      else
                        none
                    else
                      bif (x0 == 23) then
                        bif decide ((0 : Int) < (x3n : Int)) then
                          (opinfo_resized.f x0 x1 x2 (g3_0 0)).bind fun r10 =>
                          some (r10.1, r10.2)
                        else
                          none
                      else
                        bif (x0 == 19) then
                          bif decide ((0 : Int) < (x3n : Int)) then
                            bif ((g3_0 0) == 1) then
                              bif decide ((1 : Int) < (x3n : Int)) then
                                bif decide ((2 : Int) < (x3n : Int)) then
                                  bif decide ((1 : Int) < (x3n : Int)) then
                                    (opinfo_agreed.f ((g3_0 1) == (g3_0 2)) (g3_0 1)).bind fun r11 =>
                                    some (r11.1, r11.2)
                                  else
                                    none
                                else
                                  none
                              else
                                none
                            else
                              bif decide ((1 : Int) < (x3n : Int)) then
                                (opinfo_agreed.f false (g3_0 1)).bind fun r12 =>
                                some (r12.1, r12.2)
                              else
                                none
                          else
                            none
                        else
                          bif (x0 == 20) then
                            bif decide ((0 : Int) < (x3n : Int)) then
                              bif (decide ((g3_0 0) ≥ 1)) then
                                bif decide ((1 : Int) < (x3n : Int)) then
                                  bif (decide ((g3_0 1) ≥ 1)) then
                                    bif decide ((0 : Int) < (x3n : Int)) then
                                      bif decide ((1 : Int) < (x3n : Int)) then
                                        bif decide ((0 : Int) < (x3n : Int)) then
                                          bif decide ((1 : Int) < (x3n : Int)) then
                                            (opinfo_agreed.f (decide ((IntKind.i64.wrap ((g3_0 0) + (g3_0 1))) ≤ 64)) (IntKind.i64.wrap ((g3_0 0) + (g3_0 1)))).bind fun r13 =>
                                            some (r13.1, r13.2)
                                          else
                                            none
                                        else
                                          none
                                      else
                                        none
                                    else
                                      none
                                  else
                                    bif decide ((0 : Int) < (x3n : Int)) then
                                      bif decide ((1 : Int) < (x3n : Int)) then
                                        (opinfo_agreed.f false (IntKind.i64.wrap ((g3_0 0) + (g3_0 1)))).bind fun r14 =>
                                        some (r14.1, r14.2)
                                      else
                                        none
                                    else
                                      none
                                else
                                  none
                              else
                                bif decide ((0 : Int) < (x3n : Int)) then
                                  bif decide ((1 : Int) < (x3n : Int)) then
                                    (opinfo_agreed.f false (IntKind.i64.wrap ((g3_0 0) + (g3_0 1)))).bind fun r15 =>
                                    some (r15.1, r15.2)
                                  else
                                    none
                                else
                                  none
                            else
                              none
                          else
                            bif (x0 == 16) then
                              bif decide ((0 : Int) < (x3n : Int)) then
                                bif decide ((1 : Int) < (x3n : Int)) then
                                  (opinfo_agreed.f ((g3_0 0) == (g3_0 1)) 1).bind fun r16 =>
                                  some (r16.1, r16.2)
                                else
                                  none
                              else
                                none
                            else
                              bif (x0 == 17) then
                                bif decide ((0 : Int) < (x3n : Int)) then
                                  bif decide ((1 : Int) < (x3n : Int)) then
                                    (opinfo_agreed.f ((g3_0 0) == (g3_0 1)) 1).bind fun r17 =>
                                    some (r17.1, r17.2)
                                  else
                                    none
                                else
                                  none
                              else
                                bif (x0 == 18) then
                                  bif decide ((0 : Int) < (x3n : Int)) then
                                    bif decide ((1 : Int) < (x3n : Int)) then
                                      (opinfo_agreed.f ((g3_0 0) == (g3_0 1)) 1).bind fun r18 =>
                                      some (r18.1, r18.2)
                                    else
                                      none
                                  else
                                    none
                                else
                                  bif decide ((0 : Int) < (x3n : Int)) then
                                    bif decide ((1 : Int) < (x3n : Int)) then
                                      bif decide ((0 : Int) < (x3n : Int)) then
                                        (opinfo_agreed.f ((g3_0 0) == (g3_0 1)) (g3_0 0)).bind fun r19 =>
                                        some (r19.1, r19.2)
                                      else
                                        none
                                    else
                                      none
                                  else
                                    none := by kernel_rfl
noncomputable def opinfo_Width.g (fu : Nat) (a0 a1 a2 : Int) (a3 : Nat × (Nat → Int)) : Option (Int × Int) :=
  (opinfo_known.f a0).bind fun r1 =>
  bif (!r1) then
    some (0, 4)
  else
    (opinfo_Arity.f a0).bind fun r2 =>
    bif ((a3.1 : Int) != r2) then
      some (0, 4)
    else
      opinfo_Width.j4 fu fu a0 a1 a2 a3.1 a3.1 (a3.1 : Int) 0 a3.1 a3.2
noncomputable def opinfo_Width.f (a0 a1 a2 : Int) (a3 : Nat × (Nat → Int)) : Option (Int × Int) := opinfo_Width.g (fuel0 + 1) a0 a1 a2 a3
theorem opinfo_Width.eq (fu : Nat) (a : Int × Int × Int × (Nat × (Nat → Int)) × Unit) : bodyK Tryz.prog opinfo_Width.cs opinfo_Width.live fu Tryz.f38 (opinfo_Width.a.enc a) opinfo_Width.r.dec = opinfo_Width.g fu a.1 a.2.1 a.2.2.1 a.2.2.2.1 := by kernel_rfl
theorem opinfo_Width.con : ∀ (a : Int × Int × Int × (Nat × (Nat → Int)) × Unit) (r : Int × Int), opinfo_Width.f a.1 a.2.1 a.2.2.1 a.2.2.2.1 = some r → Contract Tryz.prog 38 (opinfo_Width.a.enc a) (opinfo_Width.r.enc r) := Contract.of_body (by kernel_rfl) (by kernel_rfl) mixed (opinfo_Width.eq (fuel0 + 1))
noncomputable def opinfo_Width.c : Kn Tryz.prog := Kn.of 38 opinfo_Width.a opinfo_Width.r (fun a => opinfo_Width.f a.1 a.2.1 a.2.2.1 a.2.2.2.1) opinfo_Width.con
def term_Copy.a : ACods (Tm × Unit) := (.cons .tm .nil)
def term_Copy.r : RCod (Tm) := .tm
noncomputable def term_Copy.cs (rec : Tm × Unit → Option (Tm)) (hrec : Con Tryz.prog 78 term_Copy.a term_Copy.r rec) : List (Kn Tryz.prog) := [Kn.of 78 term_Copy.a term_Copy.r rec hrec.c]
def term_Copy.live : Nat → Option Keep := liveOf [(9, ⟨[2, 3, 9, 10, 11], [2, 3, 7, 8], [], [], [(2, 4, 8, 38), (3, 4, 7, 38)]⟩)]
noncomputable def term_Copy.body : Code := bodyOf Tryz.f78
noncomputable def term_Copy.K (rec : Tm × Unit → Option (Tm)) (hrec : Con Tryz.prog 78 term_Copy.a term_Copy.r rec) (fu : Nat) : Code → St → (Ex → St → Option (Tm)) → Option (Tm) := codeK Tryz.prog (term_Copy.cs rec hrec) term_Copy.live fu
noncomputable def term_Copy.j4 (rec : Tm × Unit → Option (Tm)) (hrec : Con Tryz.prog 78 term_Copy.a term_Copy.r rec) (fu n4 : Nat) (x9l : List Tm) (x10 x11 c2_0 c2_1 c2_2 : Int) (c2_3 : ByteArray) (c2_4n : Nat) (c3_0 c3_1 c3_2 : Int) (c3_3 : ByteArray) (c3_4n : Nat) (l7 l8 : List Tm) : Option Tm :=
  loopK (term_Copy.K rec hrec fu (sub term_Copy.body [true, true, true, false, true, false, false])) (term_Copy.live 9) n4 (stOfX 24 29 [(2, .ptr 2 0 0 0), (3, .ptr 3 0 0 0), (9, .tsl x9l), (10, .val (.int .i64 x10)), (11, .val (.int .i64 x11))] [(2, .own [.val (.int .i64 c2_0), .val (.int .i64 c2_1), .val (.int .u64 c2_2), .val (.string c2_3), .sl 8 5 c2_4n]), (3, .own [.val (.int .i64 c3_0), .val (.int .i64 c3_1), .val (.int .u64 c3_2), .val (.string c3_3), .sl 7 5 c3_4n]), (7, .growK 38 l7), (8, .growK 38 l8)]) (blockC 0 (seqC fu (term_Copy.live 16) (term_Copy.K rec hrec fu (sub term_Copy.body [true, true, true, true])) (retC Tryz.prog Tryz.f78.results term_Copy.r.dec)))
theorem term_Copy.j4_succ (rec : Tm × Unit → Option (Tm)) (hrec : Con Tryz.prog 78 term_Copy.a term_Copy.r rec) (fu n4 : Nat) (x9l : List Tm) (x10 x11 c2_0 c2_1 c2_2 : Int) (c2_3 : ByteArray) (c2_4n : Nat) (c3_0 c3_1 c3_2 : Int) (c3_3 : ByteArray) (c3_4n : Nat) (l7 l8 : List Tm) : term_Copy.j4 rec hrec fu (n4 + 1) x9l x10 x11 c2_0 c2_1 c2_2 c2_3 c2_4n c3_0 c3_1 c3_2 c3_3 c3_4n l7 l8 =
  bif (decide (x11 < x10)) then
    bif decide (0 ≤ x11) then
      bif decide (x11 < (x9l.length : Int)) then
        ((x9l[x11.toNat]? : Option Tm)).bind fun u1 =>
        (rec ((Tm.mk u1.op u1.width u1.val u1.name u1.kids), ())).bind fun r2 =>
        bif Nat.ble ((c3_4n + 1) * 64) 140737488355328 then
          term_Copy.j4 rec hrec fu n4 x9l x10 (IntKind.i64.wrap (x11 + 1)) c2_0 c2_1 c2_2 c2_3 c2_4n c3_0 c3_1 c3_2 c3_3 (c3_4n + 1) (l7 ++ ([(Tm.mk r2.op r2.width r2.val r2.name r2.kids)])) l8
        else
          none
      else
        none
    else
      none
  else
    some (Tm.mk c3_0 c3_1 c3_2 c3_3 l7) := by kernel_rfl
noncomputable def term_Copy.g (rec : Tm × Unit → Option (Tm)) (hrec : Con Tryz.prog 78 term_Copy.a term_Copy.r rec) (fu : Nat) (a0 : Tm) : Option (Tm) :=
  term_Copy.j4 rec hrec fu fu a0.kids (a0.kids.length : Int) 0 0 0 0 (ByteArray.mk #[]) 0 a0.op a0.width a0.val a0.name 0 ([]) ([])
theorem term_Copy.eq (rec : Tm × Unit → Option (Tm)) (hrec : Con Tryz.prog 78 term_Copy.a term_Copy.r rec) (fu : Nat) (a : Tm × Unit) : bodyK Tryz.prog (term_Copy.cs rec hrec) term_Copy.live fu Tryz.f78 (term_Copy.a.enc a) term_Copy.r.dec = term_Copy.g rec hrec fu a.1 := by kernel_rfl
theorem term_Copy.con1 (rec : Tm × Unit → Option (Tm)) (hrec : Con Tryz.prog 78 term_Copy.a term_Copy.r rec) : ∀ (a : Tm × Unit) (r : Tm), term_Copy.g rec hrec (fuel0 + 1) a.1 = some r → Contract Tryz.prog 78 (term_Copy.a.enc a) (term_Copy.r.enc r) := Contract.of_body (by kernel_rfl) (by kernel_rfl) mixed (term_Copy.eq rec hrec (fuel0 + 1))
noncomputable def term_Copy.FC : Nat → { F : Tm × Unit → Option (Tm) // Con Tryz.prog 78 term_Copy.a term_Copy.r F }
  | 0 => ⟨fun _ => none, ⟨fun _ _ h => (by cases h)⟩⟩
  | n + 1 => ⟨fun a => term_Copy.g (term_Copy.FC n).1 (term_Copy.FC n).2 (fuel0 + 1) a.1, ⟨term_Copy.con1 (term_Copy.FC n).1 (term_Copy.FC n).2⟩⟩
noncomputable def term_Copy.f (a0 : Tm) : Option (Tm) := (term_Copy.FC deep0).1 (a0, ())
theorem term_Copy.con (a : Tm × Unit) (r : Tm) (h : term_Copy.f a.1 = some r) : Contract Tryz.prog 78 (term_Copy.a.enc a) (term_Copy.r.enc r) := (term_Copy.FC deep0).2.c a r h
noncomputable def term_Copy.c : Kn Tryz.prog := Kn.of 78 term_Copy.a term_Copy.r (fun a => term_Copy.f a.1) term_Copy.con
def term_Make.a : ACods (Int × List Tm × Unit) := (.cons (.val (.int .i64)) (.cons .tms .nil))
def term_Make.r : RCod (Tm) := .tm
noncomputable def term_Make.cs : List (Kn Tryz.prog) := [term_widths.c, opinfo_Width.c, term_Copy.c]
def term_Make.live : Nat → Option Keep := liveOf [(8, ⟨[0, 1, 4, 5], [4], [], [], []⟩), (13, ⟨[0, 4, 5, 7, 22, 23, 24], [4, 21], [], [], []⟩)]
noncomputable def term_Make.body : Code := bodyOf Tryz.f30
noncomputable def term_Make.K (fu : Nat) : Code → St → (Ex → St → Option (Tm)) → Option (Tm) := codeK Tryz.prog (term_Make.cs) term_Make.live fu
noncomputable def term_Make.p4 (m fu : Nat) (x0 : Int) (x1l : List Tm) (x5 : Int) (c4_3 : ByteArray) : Option Tm :=
  joinK m (term_Make.K fu (sub term_Make.body [true, true, true])) (stOf 39 [(0, .val (.int .i64 x0)), (1, .tsl x1l), (4, .ptr 4 0 0 0), (5, .val (.int .i64 x5))] [(4, .own [.val (.int .i64 0), .val (.int .i64 0), .val (.int .u64 0), .val (.string c4_3), .val (.slice none 0 0)])]) (retC Tryz.prog Tryz.f30.results term_Make.r.dec)
noncomputable def term_Make.g (fu : Nat) (a0 : Int) (a1 : List Tm) : Option (Tm) :=
  (term_widths.f a1).bind fun r1 =>
  (opinfo_Width.f a0 0 0 (r1.1, r1.2)).bind fun r2 =>
  bif (r2.2 != 0) then
    term_Make.p4 fu fu a0 a1 0 (ByteArray.mk #[])
  else
    term_Make.p4 fu fu a0 a1 r2.1 (ByteArray.mk #[])
noncomputable def term_Make.f (a0 : Int) (a1 : List Tm) : Option (Tm) := term_Make.g (fuel0 + 1) a0 a1
theorem term_Make.eq (fu : Nat) (a : Int × List Tm × Unit) : bodyK Tryz.prog term_Make.cs term_Make.live fu Tryz.f30 (term_Make.a.enc a) term_Make.r.dec = term_Make.g fu a.1 a.2.1 := by kernel_rfl
theorem term_Make.con : ∀ (a : Int × List Tm × Unit) (r : Tm), term_Make.f a.1 a.2.1 = some r → Contract Tryz.prog 30 (term_Make.a.enc a) (term_Make.r.enc r) := Contract.of_body (by kernel_rfl) (by kernel_rfl) mixed (term_Make.eq (fuel0 + 1))
def term_measure.a : ACods (Tm × Int × Int × Unit) := (.cons .tm (.cons (.val (.int .i64)) (.cons (.val (.int .i64)) .nil)))
def term_measure.r : RCod (Int × Bool) := .val (.tup (.cons (.int .i64) (.one (.bool))))
noncomputable def term_measure.cs (rec : Tm × Int × Int × Unit → Option (Int × Bool)) (hrec : Con Tryz.prog 116 term_measure.a term_measure.r rec) : List (Kn Tryz.prog) := [Kn.of 116 term_measure.a term_measure.r rec hrec.c]
def term_measure.live : Nat → Option Keep := liveOf [(11, ⟨[1, 2, 21, 22, 23], [], [], [], []⟩)]
noncomputable def term_measure.body : Code := bodyOf Tryz.f116
noncomputable def term_measure.K (rec : Tm × Int × Int × Unit → Option (Int × Bool)) (hrec : Con Tryz.prog 116 term_measure.a term_measure.r rec) (fu : Nat) : Code → St → (Ex → St → Option (Int × Bool)) → Option (Int × Bool) := codeK Tryz.prog (term_measure.cs rec hrec) term_measure.live fu
noncomputable def term_measure.j5 (rec : Tm × Int × Int × Unit → Option (Int × Bool)) (hrec : Con Tryz.prog 116 term_measure.a term_measure.r rec) (fu n5 : Nat) (x1 x2 : Int) (x21l : List Tm) (x22 x23 : Int) : Option (Int × Bool) :=
  loopK (term_measure.K rec hrec fu (sub term_measure.body [true, true, true, false, true, false, false])) (term_measure.live 11) n5 (stOfX 40 45 [(1, .val (.int .i64 x1)), (2, .val (.int .i64 x2)), (21, .tsl x21l), (22, .val (.int .i64 x22)), (23, .val (.int .i64 x23))] []) (blockC 0 (seqC fu (term_measure.live 24) (term_measure.K rec hrec fu (sub term_measure.body [true, true, true, true])) (retC Tryz.prog Tryz.f116.results term_measure.r.dec)))
theorem term_measure.j5_succ (rec : Tm × Int × Int × Unit → Option (Int × Bool)) (hrec : Con Tryz.prog 116 term_measure.a term_measure.r rec) (fu n5 : Nat) (x1 x2 : Int) (x21l : List Tm) (x22 x23 : Int) : term_measure.j5 rec hrec fu (n5 + 1) x1 x2 x21l x22 x23 =
  bif (decide (x23 < x22)) then
    bif decide (0 ≤ x23) then
      bif decide (x23 < (x21l.length : Int)) then
        ((x21l[x23.toNat]? : Option Tm)).bind fun u1 =>
        (rec ((Tm.mk u1.op u1.width u1.val u1.name u1.kids), x1, (IntKind.i64.wrap (x2 - 1)), ())).bind fun r2 =>
        bif (!r2.2) then
          some (0, false)
        else
          term_measure.j5 rec hrec fu n5 r2.1 x2 x21l x22 (IntKind.i64.wrap (x23 + 1))
      else
        none
    else
      none
  else
    some (x1, true) := by kernel_rfl
noncomputable def term_measure.g (rec : Tm × Int × Int × Unit → Option (Int × Bool)) (hrec : Con Tryz.prog 116 term_measure.a term_measure.r rec) (fu : Nat) (a0 : Tm) (a1 a2 : Int) : Option (Int × Bool) :=
  bif (decide (a1 < 1)) then
    some (0, false)
  else
    bif (decide (a2 < 1)) then
      some (0, false)
    else
      term_measure.j5 rec hrec fu fu (IntKind.i64.wrap (a1 - 1)) a2 a0.kids (a0.kids.length : Int) 0
theorem term_measure.eq (rec : Tm × Int × Int × Unit → Option (Int × Bool)) (hrec : Con Tryz.prog 116 term_measure.a term_measure.r rec) (fu : Nat) (a : Tm × Int × Int × Unit) : bodyK Tryz.prog (term_measure.cs rec hrec) term_measure.live fu Tryz.f116 (term_measure.a.enc a) term_measure.r.dec = term_measure.g rec hrec fu a.1 a.2.1 a.2.2.1 := by kernel_rfl
theorem term_measure.con1 (rec : Tm × Int × Int × Unit → Option (Int × Bool)) (hrec : Con Tryz.prog 116 term_measure.a term_measure.r rec) : ∀ (a : Tm × Int × Int × Unit) (r : Int × Bool), term_measure.g rec hrec (fuel0 + 1) a.1 a.2.1 a.2.2.1 = some r → Contract Tryz.prog 116 (term_measure.a.enc a) (term_measure.r.enc r) := Contract.of_body (by kernel_rfl) (by kernel_rfl) mixed (term_measure.eq rec hrec (fuel0 + 1))
noncomputable def term_measure.FC : Nat → { F : Tm × Int × Int × Unit → Option (Int × Bool) // Con Tryz.prog 116 term_measure.a term_measure.r F }
  | 0 => ⟨fun _ => none, ⟨fun _ _ h => (by cases h)⟩⟩
  | n + 1 => ⟨fun a => term_measure.g (term_measure.FC n).1 (term_measure.FC n).2 (fuel0 + 1) a.1 a.2.1 a.2.2.1, ⟨term_measure.con1 (term_measure.FC n).1 (term_measure.FC n).2⟩⟩
noncomputable def term_measure.f (a0 : Tm) (a1 a2 : Int) : Option (Int × Bool) := (term_measure.FC deep0).1 (a0, a1, a2, ())
theorem term_measure.con (a : Tm × Int × Int × Unit) (r : Int × Bool) (h : term_measure.f a.1 a.2.1 a.2.2.1 = some r) : Contract Tryz.prog 116 (term_measure.a.enc a) (term_measure.r.enc r) := (term_measure.FC deep0).2.c a r h
def opinfo_Pattern.a : ACods (Int × Unit) := (.cons (.val (.int .i64)) .nil)
def opinfo_Pattern.r : RCod (Bool) := .val (.bool)
noncomputable def opinfo_Pattern.cs : List (Kn Tryz.prog) := []
def opinfo_Pattern.live : Nat → Option Keep := liveOf []
noncomputable def opinfo_Pattern.f (a0 : Int) : Option (Bool) :=
  bif (decide (a0 ≥ 24)) then
    some (decide (a0 ≤ 26))
  else
    some false
theorem opinfo_Pattern.eq (fu : Nat) (a : Int × Unit) : bodyK Tryz.prog opinfo_Pattern.cs opinfo_Pattern.live fu Tryz.f137 (opinfo_Pattern.a.enc a) opinfo_Pattern.r.dec = opinfo_Pattern.f a.1 := by kernel_rfl
theorem opinfo_Pattern.con : ∀ (a : Int × Unit) (r : Bool), opinfo_Pattern.f a.1 = some r → Contract Tryz.prog 137 (opinfo_Pattern.a.enc a) (opinfo_Pattern.r.enc r) := Contract.of_body (by kernel_rfl) (by kernel_rfl) mixed (opinfo_Pattern.eq (fuel0 + 1))
noncomputable def opinfo_Pattern.c : Kn Tryz.prog := Kn.of 137 opinfo_Pattern.a opinfo_Pattern.r (fun a => opinfo_Pattern.f a.1) opinfo_Pattern.con
def term_Name.a : ACods (ByteArray × Unit) := (.cons (.val (.str)) .nil)
def term_Name.r : RCod (Bool) := .val (.bool)
noncomputable def term_Name.cs : List (Kn Tryz.prog) := []
def term_Name.live : Nat → Option Keep := liveOf [(9, ⟨[0, 24, 25], [], [], [], []⟩), (18, ⟨[0, 24, 25], [], [], [], []⟩)]
noncomputable def term_Name.body : Code := bodyOf Tryz.f185
noncomputable def term_Name.K (fu : Nat) : Code → St → (Ex → St → Option (Bool)) → Option (Bool) := codeK Tryz.prog (term_Name.cs) term_Name.live fu
noncomputable def term_Name.j4 (fu n4 : Nat) (x0 : ByteArray) (x24 x25 : Int) : Option Bool :=
  loopK (term_Name.K fu (sub term_Name.body [true, true, false, true, false, false])) (term_Name.live 9) n4 (stOf 50 [(0, .val (.string x0)), (24, .val (.int .i64 x24)), (25, .val (.int .i64 x25))] []) (blockC 0 (seqC fu (term_Name.live 20) (term_Name.K fu (sub term_Name.body [true, true, true])) (retC Tryz.prog Tryz.f185.results term_Name.r.dec)))
noncomputable def term_Name.p9 (m fu : Nat) (n4 : Nat) (x0 : ByteArray) (x24 x25 : Int) : Option Bool :=
  joinK m (term_Name.K fu (sub term_Name.body [true, true, false, true, false, false, true, true, true])) (stOf 50 [(0, .val (.string x0)), (24, .val (.int .i64 x24)), (25, .val (.int .i64 x25))] []) (roundC (term_Name.live 9) (loopK (term_Name.K fu (sub term_Name.body [true, true, false, true, false, false])) (term_Name.live 9) n4) (blockC 0 (seqC fu (term_Name.live 20) (term_Name.K fu (sub term_Name.body [true, true, true])) (retC Tryz.prog Tryz.f185.results term_Name.r.dec))))
theorem term_Name.p9_eq (m fu : Nat) (n4 : Nat) (x0 : ByteArray) (x24 x25 : Int) : term_Name.p9 (m + 1) fu n4 x0 x24 x25 =
  term_Name.j4 fu n4 x0 x24 (IntKind.i64.wrap (x25 + 1)) := by kernel_rfl
theorem term_Name.j4_succ (fu n4 : Nat) (x0 : ByteArray) (x24 x25 : Int) : term_Name.j4 fu (n4 + 1) x0 x24 x25 =
  bif (decide (x25 < x24)) then
    bif decide (0 ≤ x25) then
      ((x0[x25.toNat]? : Option UInt8)).bind fun u3 =>
      bif (decide ((u3.toNat : Int) < 97)) then
        bif (decide ((u3.toNat : Int) < 48)) then
          bif ((u3.toNat : Int) != 95) then
            some false
          else
            term_Name.p9 fu fu n4 x0 x24 x25
        else
          bif (decide ((u3.toNat : Int) > 57)) then
            bif ((u3.toNat : Int) != 95) then
              some false
            else
              term_Name.p9 fu fu n4 x0 x24 x25
          else
            term_Name.p9 fu fu n4 x0 x24 x25
      else
        bif (decide ((u3.toNat : Int) > 122)) then
          bif (decide ((u3.toNat : Int) < 48)) then
            bif ((u3.toNat : Int) != 95) then
              some false
            else
              term_Name.p9 fu fu n4 x0 x24 x25
          else
            bif (decide ((u3.toNat : Int) > 57)) then
              bif ((u3.toNat : Int) != 95) then
                some false
              else
                term_Name.p9 fu fu n4 x0 x24 x25
            else
              term_Name.p9 fu fu n4 x0 x24 x25
        else
          term_Name.p9 fu fu n4 x0 x24 x25
    else
      none
  else
    some true := by kernel_rfl
noncomputable def term_Name.g (fu : Nat) (a0 : ByteArray) : Option (Bool) :=
  bif (decide ((a0.size : Int) < 1)) then
    some false
  else
    bif (decide ((a0.size : Int) > 16)) then
      some false
    else
      ((a0[(0 : Int).toNat]? : Option UInt8)).bind fun u1 =>
      bif (decide ((u1.toNat : Int) < 97)) then
        some false
      else
        ((a0[(0 : Int).toNat]? : Option UInt8)).bind fun u2 =>
        bif (decide ((u2.toNat : Int) > 122)) then
          some false
        else
          term_Name.j4 fu fu a0 (a0.size : Int) 0
noncomputable def term_Name.f (a0 : ByteArray) : Option (Bool) := term_Name.g (fuel0 + 1) a0
theorem term_Name.eq (fu : Nat) (a : ByteArray × Unit) : bodyK Tryz.prog term_Name.cs term_Name.live fu Tryz.f185 (term_Name.a.enc a) term_Name.r.dec = term_Name.g fu a.1 := by kernel_rfl
theorem term_Name.con : ∀ (a : ByteArray × Unit) (r : Bool), term_Name.f a.1 = some r → Contract Tryz.prog 185 (term_Name.a.enc a) (term_Name.r.enc r) := Contract.of_body (by kernel_rfl) (by kernel_rfl) mixed (term_Name.eq (fuel0 + 1))
noncomputable def term_Name.c : Kn Tryz.prog := Kn.of 185 term_Name.a term_Name.r (fun a => term_Name.f a.1) term_Name.con
def term_node.a : ACods (Tm × Unit) := (.cons .tm .nil)
def term_node.r : RCod (Int) := .val (.int .i64)
noncomputable def term_node.cs : List (Kn Tryz.prog) := [opinfo_Arity.c, opinfo_Pattern.c, term_Name.c, term_widths.c, opinfo_Width.c]
def term_node.live : Nat → Option Keep := liveOf [(22, ⟨[1], [1], [], [], []⟩)]
noncomputable def term_node.body : Code := bodyOf Tryz.f118
noncomputable def term_node.K (fu : Nat) : Code → St → (Ex → St → Option (Int)) → Option (Int) := codeK Tryz.prog (term_node.cs) term_node.live fu
noncomputable def term_node.p11 (m fu : Nat) (c1_0 c1_1 c1_2 : Int) (c1_3 : ByteArray) (c1_4l : List Tm) : Option Int :=
  joinK m (term_node.K fu (sub term_node.body [true, true])) (stOfX 82 87 [(1, .ptr 1 0 0 0)] [(1, .own [.val (.int .i64 c1_0), .val (.int .i64 c1_1), .val (.int .u64 c1_2), .val (.string c1_3), .tsl c1_4l])]) (retC Tryz.prog Tryz.f118.results term_node.r.dec)
theorem term_node.p11_eq (m fu : Nat) (c1_0 c1_1 c1_2 : Int) (c1_3 : ByteArray) (c1_4l : List Tm) : term_node.p11 (m + 1) fu c1_0 c1_1 c1_2 c1_3 c1_4l =
  (term_widths.f c1_4l).bind fun r5 =>
  (opinfo_Width.f c1_0 c1_1 c1_2 (r5.1, r5.2)).bind fun r6 =>
  bif (r6.2 != 0) then
    some 3
  else
    bif (r6.1 != c1_1) then
      some 3
    else
      some 0 := by kernel_rfl
noncomputable def term_node.g (fu : Nat) (a0 : Tm) : Option (Int) :=
  (opinfo_Arity.f a0.op).bind fun r1 =>
  bif (decide (r1 < 0)) then
    some 4
  else
    (opinfo_Pattern.f a0.op).bind fun r2 =>
    bif r2 then
      some 4
    else
      (opinfo_Arity.f a0.op).bind fun r3 =>
      bif ((a0.kids.length : Int) != r3) then
        some 4
      else
        bif (a0.op != 1) then
          bif (!(a0.name.toList == (ByteArray.mk #[]).toList)) then
            some 4
          else
            bif (a0.op != 2) then
              bif (a0.op != 21) then
                bif (a0.val != 0) then
                  some 4
                else
                  bif (a0.op == 1) then
                    (term_Name.f a0.name).bind fun r4 =>
                    bif (!r4) then
                      some 5
                    else
                      bif (decide (a0.width < 1)) then
                        some 3
                      else
                        term_node.p11 fu fu a0.op a0.width a0.val a0.name a0.kids
                  else
                    bif (decide (a0.width < 1)) then
                      some 3
                    else
                      term_node.p11 fu fu a0.op a0.width a0.val a0.name a0.kids
              else
                bif (a0.op == 1) then
                  (term_Name.f a0.name).bind fun r7 =>
                  bif (!r7) then
                    some 5
                  else
                    bif (decide (a0.width < 1)) then
                      some 3
                    else
                      term_node.p11 fu fu a0.op a0.width a0.val a0.name a0.kids
                else
                  bif (decide (a0.width < 1)) then
                    some 3
                  else
                    term_node.p11 fu fu a0.op a0.width a0.val a0.name a0.kids
            else
              bif (a0.op == 1) then
                (term_Name.f a0.name).bind fun r8 =>
                bif (!r8) then
                  some 5
                else
                  bif (decide (a0.width < 1)) then
                    some 3
                  else
                    term_node.p11 fu fu a0.op a0.width a0.val a0.name a0.kids
              else
                bif (decide (a0.width < 1)) then
                  some 3
                else
                  term_node.p11 fu fu a0.op a0.width a0.val a0.name a0.kids
        else
          bif (a0.op != 2) then
            bif (a0.op != 21) then
              bif (a0.val != 0) then
                some 4
              else
                bif (a0.op == 1) then
                  (term_Name.f a0.name).bind fun r9 =>
                  bif (!r9) then
                    some 5
                  else
                    bif (decide (a0.width < 1)) then
                      some 3
                    else
                      term_node.p11 fu fu a0.op a0.width a0.val a0.name a0.kids
                else
                  bif (decide (a0.width < 1)) then
                    some 3
                  else
                    term_node.p11 fu fu a0.op a0.width a0.val a0.name a0.kids
            else
              bif (a0.op == 1) then
                (term_Name.f a0.name).bind fun r10 =>
                bif (!r10) then
                  some 5
                else
                  bif (decide (a0.width < 1)) then
                    some 3
                  else
                    term_node.p11 fu fu a0.op a0.width a0.val a0.name a0.kids
              else
                bif (decide (a0.width < 1)) then
                  some 3
                else
                  term_node.p11 fu fu a0.op a0.width a0.val a0.name a0.kids
          else
            bif (a0.op == 1) then
              (term_Name.f a0.name).bind fun r11 =>
              bif (!r11) then
                some 5
              else
                bif (decide (a0.width < 1)) then
                  some 3
                else
                  term_node.p11 fu fu a0.op a0.width a0.val a0.name a0.kids
            else
              bif (decide (a0.width < 1)) then
                some 3
              else
                term_node.p11 fu fu a0.op a0.width a0.val a0.name a0.kids
noncomputable def term_node.f (a0 : Tm) : Option (Int) := term_node.g (fuel0 + 1) a0
theorem term_node.eq (fu : Nat) (a : Tm × Unit) : bodyK Tryz.prog term_node.cs term_node.live fu Tryz.f118 (term_node.a.enc a) term_node.r.dec = term_node.g fu a.1 := by kernel_rfl
theorem term_node.con : ∀ (a : Tm × Unit) (r : Int), term_node.f a.1 = some r → Contract Tryz.prog 118 (term_node.a.enc a) (term_node.r.enc r) := Contract.of_body (by kernel_rfl) (by kernel_rfl) mixed (term_node.eq (fuel0 + 1))
end Go.Proofs.YtcihbcffokjgjaaGreat.Fn
