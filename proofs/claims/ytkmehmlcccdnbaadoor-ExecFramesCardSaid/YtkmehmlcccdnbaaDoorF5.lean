/- What the functions return, as the evaluator tells it: written by a program of this workplace (mev.py); Lean checks each equation. -/
import Derived.Test.YtkmehmlcccdnbaaDoorProg
import Derived.Test.YtkmehmlcccdnbaaDoorEvC
import Derived.Test.YtkmehmlcccdnbaaDoorF0
import Derived.Test.YtkmehmlcccdnbaaDoorF4
namespace Go.Proofs.YtkmehmlcccdnbaaDoor.Fn
open Go Go.RowKit Go.Proofs.YtkmehmlcccdnbaaDoor.Ev Go.Proofs
set_option linter.unusedVariables false
set_option maxRecDepth 100000
/-! ### saturateref49_Step: function 25 -/
def saturateref49_Step.a : ACods (Int × (Int × Int × Int × Int × Int × Int) × List Tm × Unit) := (.cons (.val (.int .i64)) (.cons (.val (.agg (.cons (.int .i64) (.cons (.int .i64) (.cons (.int .i64) (.cons (.int .i64) (.cons (.int .i64) (.one (.int .u64))))))))) (.cons (.tms 0) .nil)))
def saturateref49_Step.r : RCod (List Tm × Int) := .tup (.cons (.tms 0) (.one (.val (.int .i64))))
noncomputable def saturateref49_Step.cs : List (Kn Tryd.prog) := [saturateref49_State.c, saturateref48_Known.c, saturateref48_Uses.c, saturateref48_Traps.c, saturateref49_value.c]
def saturateref49_Step.live : Nat → Option Keep := liveOf [(15, ⟨[0, 4, 8, 9, 10, 11], [4, 10, 17, 23], [], [(10, 45, 0)], []⟩), (36, ⟨[0, 4, 8, 10], [4, 10, 17], [], [], []⟩)]
noncomputable def saturateref49_Step.body : Code := bodyOf Tryd.f25
noncomputable def saturateref49_Step.K (fu : Nat) : Code → St → (Ex → St → Option (List Tm × Int)) → Option (List Tm × Int) := codeK Tryd.prog (saturateref49_Step.cs) saturateref49_Step.live fu
noncomputable def saturateref49_Step.j7 (fu : Nat) (n7 : Nat) (x0 : Int) (x8n : Nat) (x9n : Nat) (x10n : Nat) (x11 : Int) (c4_0 : Int) (c4_1 : Int) (c4_2 : Int) (c4_3 : Int) (c4_4 : Int) (c4_5 : Int) (l10 : List Tm) (l17 : List Tm) (m23 : Nat) (g23_0 : Nat → Int) : Option (List Tm × Int) :=
  loopK (saturateref49_Step.K fu (sub saturateref49_Step.body [true, true, true, true, true, false, true, false, false])) (saturateref49_Step.live 15) n7 (stOf 89 [(0, .val (.int .i64 x0)), (4, .ptr 4 0 0 0), (8, .sl 17 1 x8n), (9, .sl 23 1 x9n), (10, .sl 10 1 x10n), (11, .val (.int .i64 x11))] [(4, .own [.val (.int .i64 c4_0), .val (.int .i64 c4_1), .val (.int .i64 c4_2), .val (.int .i64 c4_3), .val (.int .i64 c4_4), .val (.int .u64 c4_5)]), (10, .growK 45 0 l10), (17, .growK 45 0 l17), (23, .ext m23 [.int .i64 g23_0])]) (blockC 0 (seqC fu (saturateref49_Step.live 24) (saturateref49_Step.K fu (sub saturateref49_Step.body [true, true, true, true, true, true])) (retC Tryd.prog false (Tryd.f25.results) saturateref49_Step.r.dec)))
noncomputable def saturateref49_Step.p18 (m fu : Nat) (x0 : Int) (x8n : Nat) (x10n : Nat) (c4_0 : Int) (c4_1 : Int) (c4_2 : Int) (c4_3 : Int) (c4_4 : Int) (c4_5 : Int) (l10 : List Tm) (l17 : List Tm) : Option (List Tm × Int) :=
  joinK m (saturateref49_Step.K fu (sub saturateref49_Step.body [true, true, true, true, true, true, true, true, true])) (stOf 89 [(0, .val (.int .i64 x0)), (4, .ptr 4 0 0 0), (8, .sl 17 1 x8n), (10, .sl 10 1 x10n)] [(4, .own [.val (.int .i64 c4_0), .val (.int .i64 c4_1), .val (.int .i64 c4_2), .val (.int .i64 c4_3), .val (.int .i64 c4_4), .val (.int .u64 c4_5)]), (10, .growK 45 0 l10), (17, .growK 45 0 l17)]) (retC Tryd.prog false (Tryd.f25.results) saturateref49_Step.r.dec)
theorem saturateref49_Step.p18_eq (m fu : Nat) (x0 : Int) (x8n : Nat) (x10n : Nat) (c4_0 : Int) (c4_1 : Int) (c4_2 : Int) (c4_3 : Int) (c4_4 : Int) (c4_5 : Int) (l10 : List Tm) (l17 : List Tm) : saturateref49_Step.p18 (m + 1) fu x0 x8n x10n c4_0 c4_1 c4_2 c4_3 c4_4 c4_5 l10 l17 =
  (saturateref49_value.f c4_0 x0 c4_5 l10).bind fun r7 =>
  bif decide (0 ≤ c4_1) then
    bif decide (c4_1 < (x8n : Int)) then
      some ((l17.set c4_1.toNat (Tm.mk r7 [])), 0)
    else
      none
  else
    none := by kernel_rfl
theorem saturateref49_Step.j7_succ (fu : Nat) (n7 : Nat) (x0 : Int) (x8n : Nat) (x9n : Nat) (x10n : Nat) (x11 : Int) (c4_0 : Int) (c4_1 : Int) (c4_2 : Int) (c4_3 : Int) (c4_4 : Int) (c4_5 : Int) (l10 : List Tm) (l17 : List Tm) (m23 : Nat) (g23_0 : Nat → Int) : saturateref49_Step.j7 fu (n7 + 1) x0 x8n x9n x10n x11 c4_0 c4_1 c4_2 c4_3 c4_4 c4_5 l10 l17 m23 g23_0 =
  bif (decide (x11 < (x9n : Int))) then
    bif decide (0 ≤ x11) then
      bif decide (x11 < (x9n : Int)) then
        bif (decide ((g23_0 x11.toNat) < 0)) then
          some ([], 18)
        else
          bif decide (0 ≤ x11) then
            bif decide (x11 < (x9n : Int)) then
              bif (decide ((g23_0 x11.toNat) ≥ (x8n : Int))) then
                some ([], 18)
              else
                bif decide (0 ≤ x11) then
                  bif decide (x11 < (x9n : Int)) then
                    bif decide (0 ≤ (g23_0 x11.toNat)) then
                      bif decide ((g23_0 x11.toNat) < (x8n : Int)) then
                        ((l17[(g23_0 x11.toNat).toNat]? : Option Tm)).bind fun u4 =>
                        bif Nat.ble ((x10n + 1) * 8) 140737488355328 then
                          saturateref49_Step.j7 fu n7 x0 x8n x9n (x10n + 1) (IntKind.i64.wrap (x11 + 1)) c4_0 c4_1 c4_2 c4_3 c4_4 c4_5 (l10 ++ ([(Tm.mk u4.x [])])) l17 m23 g23_0
                        else
                          none
                      else
                        none
                    else
                      none
                  else
                    none
                else
                  none
            else
              none
          else
            none
      else
        none
    else
      none
  else
    bif (c4_0 == 0) then
      some (l17, 0)
    else
      bif (decide (c4_1 < 0)) then
        some ([], 18)
      else
        bif (decide (c4_1 ≥ (x8n : Int))) then
          some ([], 18)
        else
          (saturateref48_Traps.f c4_0).bind fun r5 =>
          bif r5 then
            bif decide ((1 : Int) < (x10n : Int)) then
              ((l10[1]? : Option Tm)).bind fun u6 =>
              bif (u6.x == 0) then
                some ([], 17)
              else
                saturateref49_Step.p18 fu fu x0 x8n x10n c4_0 c4_1 c4_2 c4_3 c4_4 c4_5 l10 l17
            else
              none
          else
            saturateref49_Step.p18 fu fu x0 x8n x10n c4_0 c4_1 c4_2 c4_3 c4_4 c4_5 l10 l17 := by kernel_rfl
noncomputable def saturateref49_Step.g (fu : Nat) (a0 : Int) (a1 : Int × Int × Int × Int × Int × Int) (a2 : List Tm) : Option (List Tm × Int) :=
  (saturateref49_State.f a0 (mn (a2.length : Int) 8) a2).bind fun r1 =>
  (saturateref48_Known.f a1.1).bind fun r2 =>
  bif (!r2) then
    some ([], 4)
  else
    (saturateref48_Uses.f (a1.1, a1.2.1, a1.2.2.1, a1.2.2.2.1, a1.2.2.2.2.1, a1.2.2.2.2.2)).bind fun r3 =>
    saturateref49_Step.j7 fu fu a0 r1.length r3.1 0 0 a1.1 a1.2.1 a1.2.2.1 a1.2.2.2.1 a1.2.2.2.2.1 a1.2.2.2.2.2 ([]) r1 r3.1 r3.2
noncomputable def saturateref49_Step.f (a0 : Int) (a1 : Int × Int × Int × Int × Int × Int) (a2 : List Tm) : Option (List Tm × Int) := saturateref49_Step.g (fuel0 + 1) a0 a1 a2
theorem saturateref49_Step.eq (fu : Nat) (a : Int × (Int × Int × Int × Int × Int × Int) × List Tm × Unit) : bodyK Tryd.prog saturateref49_Step.cs saturateref49_Step.live fu Tryd.f25 false (saturateref49_Step.a.enc a) saturateref49_Step.r.dec = saturateref49_Step.g fu a.1 a.2.1 a.2.2.1 := by kernel_rfl
theorem saturateref49_Step.con : ∀ (a : Int × (Int × Int × Int × Int × Int × Int) × List Tm × Unit) (r : List Tm × Int), saturateref49_Step.f a.1 a.2.1 a.2.2.1 = some r → Contract Tryd.prog 25 (saturateref49_Step.a.enc a) (saturateref49_Step.r.enc r) := Contract.of_body (F := fun (a : Int × (Int × Int × Int × Int × Int × Int) × List Tm × Unit) => saturateref49_Step.f a.1 a.2.1 a.2.2.1) (fn := Tryd.f25) (cs := saturateref49_Step.cs) (live := saturateref49_Step.live) (fuel := fuel0 + 1) (by kernel_rfl) (by kernel_rfl) mixed (saturateref49_Step.eq (fuel0 + 1))
noncomputable def saturateref49_Step.c : Kn Tryd.prog := Kn.of 25 saturateref49_Step.a saturateref49_Step.r (fun a => saturateref49_Step.f a.1 a.2.1 a.2.2.1) saturateref49_Step.con
end Go.Proofs.YtkmehmlcccdnbaaDoor.Fn
