/- What the functions return, as the evaluator tells it: written by a program of this workplace (mev.py); Lean checks each equation. -/
import Derived.Test.YtcihbcffokjgjaaGreatProg
import Derived.Test.YtcihbcffokjgjaaGreatTEvC
import Derived.Test.YtcihbcffokjgjaaGreatTF0
import Derived.Test.YtcihbcffokjgjaaGreatTF1
namespace Go.Proofs.YtcihbcffokjgjaaGreat.Fn
open Go Go.RowKit Go.Proofs.YtcihbcffokjgjaaGreat.Ev Go.Proofs
set_option linter.unusedVariables false
set_option maxRecDepth 100000
def facts_Valid.a : ACods ((Int × Int × Int × Int × Int) × Unit) := (.cons (.val (.agg (.cons (.int .i64) (.cons (.int .u64) (.cons (.int .u64) (.cons (.int .u64) (.one (.int .u64)))))))) .nil)
def facts_Valid.r : RCod (Bool) := .val (.bool)
noncomputable def facts_Valid.cs : List (Kn Tryz.prog) := [facts_clamp.c, known_Valid.c, ranges_Valid.c, facts_step.c]
def facts_Valid.live : Nat → Option Keep := liveOf []
noncomputable def facts_Valid.f (a0 : Int × Int × Int × Int × Int) : Option (Bool) :=
  (facts_clamp.f a0.1).bind fun r1 =>
  bif (a0.1 != r1) then
    some false
  else
    (known_Valid.f a0.1 (a0.2.1, a0.2.2.1)).bind fun r2 =>
    bif (!r2) then
      some false
    else
      (ranges_Valid.f a0.1 (a0.2.2.2.1, a0.2.2.2.2)).bind fun r3 =>
      bif (!r3) then
        some false
      else
        (facts_step.f (a0.1, a0.2.1, a0.2.2.1, a0.2.2.2.1, a0.2.2.2.2)).bind fun r4 =>
        bif r4.2 then
          some ((r4.1.1 == a0.1) && (((r4.1.2.1 == a0.2.1) && ((r4.1.2.2.1 == a0.2.2.1) && true)) && (((r4.1.2.2.2.1 == a0.2.2.2.1) && ((r4.1.2.2.2.2 == a0.2.2.2.2) && true)) && true)))
        else
          some false
theorem facts_Valid.eq (fu : Nat) (a : (Int × Int × Int × Int × Int) × Unit) : bodyK Tryz.prog facts_Valid.cs facts_Valid.live fu Tryz.f24 (facts_Valid.a.enc a) facts_Valid.r.dec = facts_Valid.f a.1 := by kernel_rfl
theorem facts_Valid.con : ∀ (a : (Int × Int × Int × Int × Int) × Unit) (r : Bool), facts_Valid.f a.1 = some r → Contract Tryz.prog 24 (facts_Valid.a.enc a) (facts_Valid.r.enc r) := Contract.of_body (by kernel_rfl) (by kernel_rfl) mixed (facts_Valid.eq (fuel0 + 1))
noncomputable def facts_Valid.c : Kn Tryz.prog := Kn.of 24 facts_Valid.a facts_Valid.r (fun a => facts_Valid.f a.1) facts_Valid.con
def known_Top.a : ACods (Int × Unit) := (.cons (.val (.int .i64)) .nil)
def known_Top.r : RCod (Int × Int) := .val (.agg (.cons (.int .u64) (.one (.int .u64))))
noncomputable def known_Top.cs : List (Kn Tryz.prog) := []
def known_Top.live : Nat → Option Keep := liveOf []
noncomputable def known_Top.f (a0 : Int) : Option (Int × Int) :=
  some (0, 0)
theorem known_Top.eq (fu : Nat) (a : Int × Unit) : bodyK Tryz.prog known_Top.cs known_Top.live fu Tryz.f72 (known_Top.a.enc a) known_Top.r.dec = known_Top.f a.1 := by kernel_rfl
theorem known_Top.con : ∀ (a : Int × Unit) (r : Int × Int), known_Top.f a.1 = some r → Contract Tryz.prog 72 (known_Top.a.enc a) (known_Top.r.enc r) := Contract.of_body (by kernel_rfl) (by kernel_rfl) mixed (known_Top.eq (fuel0 + 1))
noncomputable def known_Top.c : Kn Tryz.prog := Kn.of 72 known_Top.a known_Top.r (fun a => known_Top.f a.1) known_Top.con
def facts_Top.a : ACods (Int × Unit) := (.cons (.val (.int .i64)) .nil)
def facts_Top.r : RCod (Int × Int × Int × Int × Int) := .val (.agg (.cons (.int .i64) (.cons (.int .u64) (.cons (.int .u64) (.cons (.int .u64) (.one (.int .u64)))))))
noncomputable def facts_Top.cs : List (Kn Tryz.prog) := [facts_clamp.c, known_Top.c, ranges_Top.c]
def facts_Top.live : Nat → Option Keep := liveOf []
noncomputable def facts_Top.f (a0 : Int) : Option (Int × Int × Int × Int × Int) :=
  (facts_clamp.f a0).bind fun r1 =>
  (known_Top.f r1).bind fun r2 =>
  (ranges_Top.f r1).bind fun r3 =>
  some (r1, r2.1, r2.2, r3.1, r3.2)
theorem facts_Top.eq (fu : Nat) (a : Int × Unit) : bodyK Tryz.prog facts_Top.cs facts_Top.live fu Tryz.f34 (facts_Top.a.enc a) facts_Top.r.dec = facts_Top.f a.1 := by kernel_rfl
theorem facts_Top.con : ∀ (a : Int × Unit) (r : Int × Int × Int × Int × Int), facts_Top.f a.1 = some r → Contract Tryz.prog 34 (facts_Top.a.enc a) (facts_Top.r.enc r) := Contract.of_body (by kernel_rfl) (by kernel_rfl) mixed (facts_Top.eq (fuel0 + 1))
noncomputable def facts_Top.c : Kn Tryz.prog := Kn.of 34 facts_Top.a facts_Top.r (fun a => facts_Top.f a.1) facts_Top.con
def facts_of.a : ACods ((Int × Int × Int × Int × Int) × Unit) := (.cons (.val (.agg (.cons (.int .i64) (.cons (.int .u64) (.cons (.int .u64) (.cons (.int .u64) (.one (.int .u64)))))))) .nil)
def facts_of.r : RCod (Int × Int × Int × Int × Int) := .val (.agg (.cons (.int .i64) (.cons (.int .u64) (.cons (.int .u64) (.cons (.int .u64) (.one (.int .u64)))))))
noncomputable def facts_of.cs : List (Kn Tryz.prog) := [facts_Valid.c, facts_Top.c]
def facts_of.live : Nat → Option Keep := liveOf []
noncomputable def facts_of.f (a0 : Int × Int × Int × Int × Int) : Option (Int × Int × Int × Int × Int) :=
  (facts_Valid.f (a0.1, a0.2.1, a0.2.2.1, a0.2.2.2.1, a0.2.2.2.2)).bind fun r1 =>
  bif r1 then
    some (a0.1, a0.2.1, a0.2.2.1, a0.2.2.2.1, a0.2.2.2.2)
  else
    (facts_Top.f a0.1).bind fun r2 =>
    some (r2.1, r2.2.1, r2.2.2.1, r2.2.2.2.1, r2.2.2.2.2)
theorem facts_of.eq (fu : Nat) (a : (Int × Int × Int × Int × Int) × Unit) : bodyK Tryz.prog facts_of.cs facts_of.live fu Tryz.f35 (facts_of.a.enc a) facts_of.r.dec = facts_of.f a.1 := by kernel_rfl
theorem facts_of.con : ∀ (a : (Int × Int × Int × Int × Int) × Unit) (r : Int × Int × Int × Int × Int), facts_of.f a.1 = some r → Contract Tryz.prog 35 (facts_of.a.enc a) (facts_of.r.enc r) := Contract.of_body (by kernel_rfl) (by kernel_rfl) mixed (facts_of.eq (fuel0 + 1))
noncomputable def facts_of.c : Kn Tryz.prog := Kn.of 35 facts_of.a facts_of.r (fun a => facts_of.f a.1) facts_of.con
def known_refused.a : ACods (Int × Int × Int × (Nat × (Nat → Int)) × Int × Unit) := (.cons (.val (.int .i64)) (.cons (.val (.int .i64)) (.cons (.val (.int .u64)) (.cons (.rows (.int1 .i64)) (.cons (.val (.int .i64)) .nil)))))
def known_refused.r : RCod (Int × Int) := .val (.tup (.cons (.int .i64) (.one (.int .i64))))
noncomputable def known_refused.cs : List (Kn Tryz.prog) := [opinfo_Width.c, opinfo_Pattern.c]
def known_refused.live : Nat → Option Keep := liveOf [(19, ⟨[12, 36, 37, 38], [36], [], [], []⟩)]
noncomputable def known_refused.body : Code := bodyOf Tryz.f82
noncomputable def known_refused.K (fu : Nat) : Code → St → (Ex → St → Option (Int × Int)) → Option (Int × Int) := codeK Tryz.prog (known_refused.cs) known_refused.live fu
noncomputable def known_refused.j9 (fu n9 : Nat) (x12 : Int) (x36n : Nat) (x37 x38 : Int) (m36 : Nat) (g36_0 : Nat → Int) : Option (Int × Int) :=
  loopK (known_refused.K fu (sub known_refused.body [true, true, true, true, true, false, true, false, false])) (known_refused.live 19) n9 (stOf 46 [(12, .val (.int .i64 x12)), (36, .sl 36 1 x36n), (37, .val (.int .i64 x37)), (38, .val (.int .i64 x38))] [(36, .grow 3 m36 [.int .i64 g36_0])]) (blockC 0 (seqC fu (known_refused.live 28) (known_refused.K fu (sub known_refused.body [true, true, true, true, true, true])) (retC Tryz.prog Tryz.f82.results known_refused.r.dec)))
theorem known_refused.j9_succ (fu n9 : Nat) (x12 : Int) (x36n : Nat) (x37 x38 : Int) (m36 : Nat) (g36_0 : Nat → Int) : known_refused.j9 fu (n9 + 1) x12 x36n x37 x38 m36 g36_0 =
  bif (decide (x38 < x37)) then
    bif decide (0 ≤ x38) then
      bif decide (x38 < (x36n : Int)) then
        bif ((g36_0 x38.toNat) == 0) then
          some (0, 3)
        else
          known_refused.j9 fu n9 x12 x36n x37 (IntKind.i64.wrap (x38 + 1)) m36 g36_0
      else
        none
    else
      none
  else
    some (x12, 0) := by kernel_rfl
noncomputable def known_refused.g (fu : Nat) (a0 a1 a2 : Int) (a3 : Nat × (Nat → Int)) (a4 : Int) : Option (Int × Int) :=
  bif (a4 != (a3.1 : Int)) then
    some (0, 4)
  else
    (opinfo_Width.f a0 a1 a2 (a3.1, a3.2)).bind fun r1 =>
    bif (r1.2 != 0) then
      some (0, r1.2)
    else
      (opinfo_Pattern.f a0).bind fun r2 =>
      bif r2 then
        some (0, 4)
      else
        bif Nat.ble ((1 + a3.1) * 8) 140737488355328 then
          known_refused.j9 fu fu r1.1 (1 + a3.1) ((1 + a3.1) : Int) 0 (1 + a3.1) (cat 1 (fun i => [r1.1].getD i 0) a3.2)
        else
          none
noncomputable def known_refused.f (a0 a1 a2 : Int) (a3 : Nat × (Nat → Int)) (a4 : Int) : Option (Int × Int) := known_refused.g (fuel0 + 1) a0 a1 a2 a3 a4
theorem known_refused.eq (fu : Nat) (a : Int × Int × Int × (Nat × (Nat → Int)) × Int × Unit) : bodyK Tryz.prog known_refused.cs known_refused.live fu Tryz.f82 (known_refused.a.enc a) known_refused.r.dec = known_refused.g fu a.1 a.2.1 a.2.2.1 a.2.2.2.1 a.2.2.2.2.1 := by kernel_rfl
theorem known_refused.con : ∀ (a : Int × Int × Int × (Nat × (Nat → Int)) × Int × Unit) (r : Int × Int), known_refused.f a.1 a.2.1 a.2.2.1 a.2.2.2.1 a.2.2.2.2.1 = some r → Contract Tryz.prog 82 (known_refused.a.enc a) (known_refused.r.enc r) := Contract.of_body (by kernel_rfl) (by kernel_rfl) mixed (known_refused.eq (fuel0 + 1))
noncomputable def known_refused.c : Kn Tryz.prog := Kn.of 82 known_refused.a known_refused.r (fun a => known_refused.f a.1 a.2.1 a.2.2.1 a.2.2.2.1 a.2.2.2.2.1) known_refused.con
def bits_Cut.a : ACods (Int × Int × Unit) := (.cons (.val (.int .i64)) (.cons (.val (.int .u64)) .nil))
def bits_Cut.r : RCod (Int) := .val (.int .u64)
noncomputable def bits_Cut.cs : List (Kn Tryz.prog) := [bits_Mask.c]
def bits_Cut.live : Nat → Option Keep := liveOf []
noncomputable def bits_Cut.f (a0 a1 : Int) : Option (Int) :=
  (bits_Mask.f a0).bind fun r1 =>
  some (Go.bits .and .u64 a1 r1)
theorem bits_Cut.eq (fu : Nat) (a : Int × Int × Unit) : bodyK Tryz.prog bits_Cut.cs bits_Cut.live fu Tryz.f131 (bits_Cut.a.enc a) bits_Cut.r.dec = bits_Cut.f a.1 a.2.1 := by kernel_rfl
theorem bits_Cut.con : ∀ (a : Int × Int × Unit) (r : Int), bits_Cut.f a.1 a.2.1 = some r → Contract Tryz.prog 131 (bits_Cut.a.enc a) (bits_Cut.r.enc r) := Contract.of_body (by kernel_rfl) (by kernel_rfl) mixed (bits_Cut.eq (fuel0 + 1))
noncomputable def bits_Cut.c : Kn Tryz.prog := Kn.of 131 bits_Cut.a bits_Cut.r (fun a => bits_Cut.f a.1 a.2.1) bits_Cut.con
def bits_Not.a : ACods (Int × Int × Unit) := (.cons (.val (.int .i64)) (.cons (.val (.int .u64)) .nil))
def bits_Not.r : RCod (Int) := .val (.int .u64)
noncomputable def bits_Not.cs : List (Kn Tryz.prog) := [bits_Cut.c]
def bits_Not.live : Nat → Option Keep := liveOf []
noncomputable def bits_Not.f (a0 a1 : Int) : Option (Int) :=
  (bits_Cut.f a0 (Go.bits .xor .u64 18446744073709551615 a1)).bind fun r1 =>
  some r1
theorem bits_Not.eq (fu : Nat) (a : Int × Int × Unit) : bodyK Tryz.prog bits_Not.cs bits_Not.live fu Tryz.f136 (bits_Not.a.enc a) bits_Not.r.dec = bits_Not.f a.1 a.2.1 := by kernel_rfl
theorem bits_Not.con : ∀ (a : Int × Int × Unit) (r : Int), bits_Not.f a.1 a.2.1 = some r → Contract Tryz.prog 136 (bits_Not.a.enc a) (bits_Not.r.enc r) := Contract.of_body (by kernel_rfl) (by kernel_rfl) mixed (bits_Not.eq (fuel0 + 1))
noncomputable def bits_Not.c : Kn Tryz.prog := Kn.of 136 bits_Not.a bits_Not.r (fun a => bits_Not.f a.1 a.2.1) bits_Not.con
def known_Const.a : ACods (Int × Int × Unit) := (.cons (.val (.int .i64)) (.cons (.val (.int .u64)) .nil))
def known_Const.r : RCod (Int × Int) := .val (.agg (.cons (.int .u64) (.one (.int .u64))))
noncomputable def known_Const.cs : List (Kn Tryz.prog) := [bits_Cut.c, bits_Not.c]
def known_Const.live : Nat → Option Keep := liveOf []
noncomputable def known_Const.f (a0 a1 : Int) : Option (Int × Int) :=
  (bits_Cut.f a0 a1).bind fun r1 =>
  (bits_Not.f a0 r1).bind fun r2 =>
  some (r2, r1)
theorem known_Const.eq (fu : Nat) (a : Int × Int × Unit) : bodyK Tryz.prog known_Const.cs known_Const.live fu Tryz.f80 (known_Const.a.enc a) known_Const.r.dec = known_Const.f a.1 a.2.1 := by kernel_rfl
theorem known_Const.con : ∀ (a : Int × Int × Unit) (r : Int × Int), known_Const.f a.1 a.2.1 = some r → Contract Tryz.prog 80 (known_Const.a.enc a) (known_Const.r.enc r) := Contract.of_body (by kernel_rfl) (by kernel_rfl) mixed (known_Const.eq (fuel0 + 1))
noncomputable def known_Const.c : Kn Tryz.prog := Kn.of 80 known_Const.a known_Const.r (fun a => known_Const.f a.1 a.2.1) known_Const.con
def known_unknown.a : ACods (Int × (Int × Int) × Unit) := (.cons (.val (.int .i64)) (.cons (.val (.agg (.cons (.int .u64) (.one (.int .u64))))) .nil))
def known_unknown.r : RCod (Int) := .val (.int .u64)
noncomputable def known_unknown.cs : List (Kn Tryz.prog) := [bits_Mask.c]
def known_unknown.live : Nat → Option Keep := liveOf []
noncomputable def known_unknown.f (a0 : Int) (a1 : Int × Int) : Option (Int) :=
  (bits_Mask.f a0).bind fun r1 =>
  some (Go.bits .andNot .u64 r1 (Go.bits .or .u64 a1.1 a1.2))
theorem known_unknown.eq (fu : Nat) (a : Int × (Int × Int) × Unit) : bodyK Tryz.prog known_unknown.cs known_unknown.live fu Tryz.f147 (known_unknown.a.enc a) known_unknown.r.dec = known_unknown.f a.1 a.2.1 := by kernel_rfl
theorem known_unknown.con : ∀ (a : Int × (Int × Int) × Unit) (r : Int), known_unknown.f a.1 a.2.1 = some r → Contract Tryz.prog 147 (known_unknown.a.enc a) (known_unknown.r.enc r) := Contract.of_body (by kernel_rfl) (by kernel_rfl) mixed (known_unknown.eq (fuel0 + 1))
noncomputable def known_unknown.c : Kn Tryz.prog := Kn.of 147 known_unknown.a known_unknown.r (fun a => known_unknown.f a.1 a.2.1) known_unknown.con
def known_from.a : ACods (Int × Int × Int × Unit) := (.cons (.val (.int .i64)) (.cons (.val (.int .u64)) (.cons (.val (.int .u64)) .nil)))
def known_from.r : RCod (Int × Int) := .val (.agg (.cons (.int .u64) (.one (.int .u64))))
noncomputable def known_from.cs : List (Kn Tryz.prog) := [bits_Cut.c, bits_Mask.c]
def known_from.live : Nat → Option Keep := liveOf []
noncomputable def known_from.f (a0 a1 a2 : Int) : Option (Int × Int) :=
  (bits_Cut.f a0 a2).bind fun r1 =>
  (bits_Cut.f a0 a1).bind fun r2 =>
  (bits_Mask.f a0).bind fun r3 =>
  some ((Go.bits .andNot .u64 r3 (Go.bits .or .u64 (Go.bits .andNot .u64 r2 r1) r1)), (Go.bits .andNot .u64 r2 r1))
theorem known_from.eq (fu : Nat) (a : Int × Int × Int × Unit) : bodyK Tryz.prog known_from.cs known_from.live fu Tryz.f204 (known_from.a.enc a) known_from.r.dec = known_from.f a.1 a.2.1 a.2.2.1 := by kernel_rfl
theorem known_from.con : ∀ (a : Int × Int × Int × Unit) (r : Int × Int), known_from.f a.1 a.2.1 a.2.2.1 = some r → Contract Tryz.prog 204 (known_from.a.enc a) (known_from.r.enc r) := Contract.of_body (by kernel_rfl) (by kernel_rfl) mixed (known_from.eq (fuel0 + 1))
noncomputable def known_from.c : Kn Tryz.prog := Kn.of 204 known_from.a known_from.r (fun a => known_from.f a.1 a.2.1 a.2.2.1) known_from.con
def known_Sub.a : ACods (Int × (Int × Int) × (Int × Int) × Unit) := (.cons (.val (.int .i64)) (.cons (.val (.agg (.cons (.int .u64) (.one (.int .u64))))) (.cons (.val (.agg (.cons (.int .u64) (.one (.int .u64))))) .nil)))
def known_Sub.r : RCod (Int × Int) := .val (.agg (.cons (.int .u64) (.one (.int .u64))))
noncomputable def known_Sub.cs : List (Kn Tryz.prog) := [known_of.c, known_unknown.c, known_from.c]
def known_Sub.live : Nat → Option Keep := liveOf []
noncomputable def known_Sub.f (a0 : Int) (a1 : Int × Int) (a2 : Int × Int) : Option (Int × Int) :=
  (known_of.f a0 (a1.1, a1.2)).bind fun r1 =>
  (known_of.f a0 (a2.1, a2.2)).bind fun r2 =>
  (known_unknown.f a0 (r1.1, r1.2)).bind fun r3 =>
  (known_unknown.f a0 (r2.1, r2.2)).bind fun r4 =>
  (known_from.f a0 (IntKind.u64.wrap (r1.2 - r2.2)) (Go.bits .or .u64 (Go.bits .or .u64 (Go.bits .xor .u64 (IntKind.u64.wrap ((IntKind.u64.wrap (r1.2 - r2.2)) + r3)) (IntKind.u64.wrap ((IntKind.u64.wrap (r1.2 - r2.2)) - r4))) r3) r4)).bind fun r5 =>
  some (r5.1, r5.2)
theorem known_Sub.eq (fu : Nat) (a : Int × (Int × Int) × (Int × Int) × Unit) : bodyK Tryz.prog known_Sub.cs known_Sub.live fu Tryz.f138 (known_Sub.a.enc a) known_Sub.r.dec = known_Sub.f a.1 a.2.1 a.2.2.1 := by kernel_rfl
theorem known_Sub.con : ∀ (a : Int × (Int × Int) × (Int × Int) × Unit) (r : Int × Int), known_Sub.f a.1 a.2.1 a.2.2.1 = some r → Contract Tryz.prog 138 (known_Sub.a.enc a) (known_Sub.r.enc r) := Contract.of_body (by kernel_rfl) (by kernel_rfl) mixed (known_Sub.eq (fuel0 + 1))
noncomputable def known_Sub.c : Kn Tryz.prog := Kn.of 138 known_Sub.a known_Sub.r (fun a => known_Sub.f a.1 a.2.1 a.2.2.1) known_Sub.con
def bits_Extract.a : ACods (Int × Int × Int × Unit) := (.cons (.val (.int .i64)) (.cons (.val (.int .i64)) (.cons (.val (.int .u64)) .nil)))
def bits_Extract.r : RCod (Int) := .val (.int .u64)
noncomputable def bits_Extract.cs : List (Kn Tryz.prog) := [bits_Cut.c]
def bits_Extract.live : Nat → Option Keep := liveOf []
noncomputable def bits_Extract.f (a0 a1 a2 : Int) : Option (Int) :=
  bif (decide (a0 < 0)) then
    some 0
  else
    bif decide (a0 < 0) then
      none
    else
      (bits_Cut.f a1 (shr .u64 a2 a0)).bind fun r1 =>
      some r1
theorem bits_Extract.eq (fu : Nat) (a : Int × Int × Int × Unit) : bodyK Tryz.prog bits_Extract.cs bits_Extract.live fu Tryz.f139 (bits_Extract.a.enc a) bits_Extract.r.dec = bits_Extract.f a.1 a.2.1 a.2.2.1 := by kernel_rfl
theorem bits_Extract.con : ∀ (a : Int × Int × Int × Unit) (r : Int), bits_Extract.f a.1 a.2.1 a.2.2.1 = some r → Contract Tryz.prog 139 (bits_Extract.a.enc a) (bits_Extract.r.enc r) := Contract.of_body (by kernel_rfl) (by kernel_rfl) mixed (bits_Extract.eq (fuel0 + 1))
noncomputable def bits_Extract.c : Kn Tryz.prog := Kn.of 139 bits_Extract.a bits_Extract.r (fun a => bits_Extract.f a.1 a.2.1 a.2.2.1) bits_Extract.con
def known_unary.a : ACods (Int × Int × Int × Int × (Int × Int) × Unit) := (.cons (.val (.int .i64)) (.cons (.val (.int .i64)) (.cons (.val (.int .i64)) (.cons (.val (.int .i64)) (.cons (.val (.agg (.cons (.int .u64) (.one (.int .u64))))) .nil)))))
def known_unary.r : RCod (Int × Int) := .val (.agg (.cons (.int .u64) (.one (.int .u64))))
noncomputable def known_unary.cs : List (Kn Tryz.prog) := [bits_Mask.c, known_Const.c, known_Sub.c, bits_Extract.c]
def known_unary.live : Nat → Option Keep := liveOf [(30, ⟨[9, 10, 11, 12], [9, 10], [], [], []⟩), (34, ⟨[9, 10], [9, 10], [], [], []⟩)]
noncomputable def known_unary.body : Code := bodyOf Tryz.f84
noncomputable def known_unary.K (fu : Nat) : Code → St → (Ex → St → Option (Int × Int)) → Option (Int × Int) := codeK Tryz.prog (known_unary.cs) known_unary.live fu
noncomputable def known_unary.p17 (m fu : Nat) (c9_0 c9_1 c10_0 c10_1 : Int) : Option (Int × Int) :=
  joinK m (known_unary.K fu (sub known_unary.body [true, true, true, true])) (stOf 79 [(9, .ptr 9 0 0 0), (10, .ptr 10 0 0 0)] [(9, .own [.val (.int .u64 c9_0), .val (.int .u64 c9_1)]), (10, .own [.val (.int .u64 c10_0), .val (.int .u64 c10_1)])]) (retC Tryz.prog Tryz.f84.results known_unary.r.dec)
noncomputable def known_unary.p15 (m fu : Nat) (x11 x12 c9_0 c9_1 : Int) : Option (Int × Int) :=
  joinK m (known_unary.K fu (sub known_unary.body [true, true, true, false, true, false, true, true, true, true, true, true, true, true, true, false, true])) (stOf 79 [(9, .ptr 9 0 0 0), (10, .ptr 10 0 0 0), (11, .val (.int .u64 x11)), (12, .val (.int .u64 x12))] [(9, .own [.val (.int .u64 c9_0), .val (.int .u64 c9_1)]), (10, .own [.val (.int .u64 0), .val (.int .u64 0)])]) (blockC 0 (seqC fu (known_unary.live 34) (known_unary.K fu (sub known_unary.body [true, true, true, true])) (retC Tryz.prog Tryz.f84.results known_unary.r.dec)))
theorem known_unary.p17_eq (m fu : Nat) (c9_0 c9_1 c10_0 c10_1 : Int) : known_unary.p17 (m + 1) fu c9_0 c9_1 c10_0 c10_1 =
  some (c9_0, c9_1) := by kernel_rfl
theorem known_unary.p15_eq (m fu : Nat) (x11 x12 c9_0 c9_1 : Int) : known_unary.p15 (m + 1) fu x11 x12 c9_0 c9_1 =
  bif ((Go.bits .and .u64 c9_1 x12) != 0) then
    known_unary.p17 fu fu c9_0 (Go.bits .or .u64 c9_1 x11) 0 0
  else
    known_unary.p17 fu fu c9_0 c9_1 0 0 := by kernel_rfl
noncomputable def known_unary.g (fu : Nat) (a0 a1 a2 a3 : Int) (a4 : Int × Int) : Option (Int × Int) :=
  (bits_Mask.f a1).bind fun r1 =>
  (bits_Mask.f a3).bind fun r2 =>
  bif decide ((IntKind.i64.wrap (a3 - 1)) < 0) then
    none
  else
    bif (a0 == 3) then
      some (a4.2, a4.1)
    else
      bif (a0 == 4) then
        (known_Const.f a3 0).bind fun r3 =>
        (known_Sub.f a3 (r3.1, r3.2) (a4.1, a4.2)).bind fun r4 =>
        some (r4.1, r4.2)
      else
        bif (a0 == 21) then
          (bits_Extract.f a2 a1 a4.1).bind fun r5 =>
          (bits_Extract.f a2 a1 a4.2).bind fun r6 =>
          some (r5, r6)
        else
          bif (a0 == 22) then
            known_unary.p17 fu fu (Go.bits .or .u64 a4.1 (Go.bits .andNot .u64 r1 r2)) a4.2 0 0
          else
            bif (a0 == 23) then
              bif ((Go.bits .and .u64 a4.1 (shl .u64 1 (IntKind.i64.wrap (a3 - 1)))) != 0) then
                known_unary.p15 fu fu (Go.bits .andNot .u64 r1 r2) (shl .u64 1 (IntKind.i64.wrap (a3 - 1))) (Go.bits .or .u64 a4.1 (Go.bits .andNot .u64 r1 r2)) a4.2
              else
                known_unary.p15 fu fu (Go.bits .andNot .u64 r1 r2) (shl .u64 1 (IntKind.i64.wrap (a3 - 1))) a4.1 a4.2
            else
              known_unary.p17 fu fu a4.1 a4.2 0 0
noncomputable def known_unary.f (a0 a1 a2 a3 : Int) (a4 : Int × Int) : Option (Int × Int) := known_unary.g (fuel0 + 1) a0 a1 a2 a3 a4
theorem known_unary.eq (fu : Nat) (a : Int × Int × Int × Int × (Int × Int) × Unit) : bodyK Tryz.prog known_unary.cs known_unary.live fu Tryz.f84 (known_unary.a.enc a) known_unary.r.dec = known_unary.g fu a.1 a.2.1 a.2.2.1 a.2.2.2.1 a.2.2.2.2.1 := by kernel_rfl
theorem known_unary.con : ∀ (a : Int × Int × Int × Int × (Int × Int) × Unit) (r : Int × Int), known_unary.f a.1 a.2.1 a.2.2.1 a.2.2.2.1 a.2.2.2.2.1 = some r → Contract Tryz.prog 84 (known_unary.a.enc a) (known_unary.r.enc r) := Contract.of_body (by kernel_rfl) (by kernel_rfl) mixed (known_unary.eq (fuel0 + 1))
noncomputable def known_unary.c : Kn Tryz.prog := Kn.of 84 known_unary.a known_unary.r (fun a => known_unary.f a.1 a.2.1 a.2.2.1 a.2.2.2.1 a.2.2.2.2.1) known_unary.con
def known_Add.a : ACods (Int × (Int × Int) × (Int × Int) × Unit) := (.cons (.val (.int .i64)) (.cons (.val (.agg (.cons (.int .u64) (.one (.int .u64))))) (.cons (.val (.agg (.cons (.int .u64) (.one (.int .u64))))) .nil)))
def known_Add.r : RCod (Int × Int) := .val (.agg (.cons (.int .u64) (.one (.int .u64))))
noncomputable def known_Add.cs : List (Kn Tryz.prog) := [known_of.c, known_unknown.c, known_from.c]
def known_Add.live : Nat → Option Keep := liveOf []
noncomputable def known_Add.f (a0 : Int) (a1 : Int × Int) (a2 : Int × Int) : Option (Int × Int) :=
  (known_of.f a0 (a1.1, a1.2)).bind fun r1 =>
  (known_of.f a0 (a2.1, a2.2)).bind fun r2 =>
  (known_unknown.f a0 (r1.1, r1.2)).bind fun r3 =>
  (known_unknown.f a0 (r2.1, r2.2)).bind fun r4 =>
  (known_from.f a0 (IntKind.u64.wrap (r1.2 + r2.2)) (Go.bits .or .u64 (Go.bits .or .u64 (Go.bits .xor .u64 (IntKind.u64.wrap ((IntKind.u64.wrap ((IntKind.u64.wrap (r1.2 + r2.2)) + r3)) + r4)) (IntKind.u64.wrap (r1.2 + r2.2))) r3) r4)).bind fun r5 =>
  some (r5.1, r5.2)
theorem known_Add.eq (fu : Nat) (a : Int × (Int × Int) × (Int × Int) × Unit) : bodyK Tryz.prog known_Add.cs known_Add.live fu Tryz.f140 (known_Add.a.enc a) known_Add.r.dec = known_Add.f a.1 a.2.1 a.2.2.1 := by kernel_rfl
theorem known_Add.con : ∀ (a : Int × (Int × Int) × (Int × Int) × Unit) (r : Int × Int), known_Add.f a.1 a.2.1 a.2.2.1 = some r → Contract Tryz.prog 140 (known_Add.a.enc a) (known_Add.r.enc r) := Contract.of_body (by kernel_rfl) (by kernel_rfl) mixed (known_Add.eq (fuel0 + 1))
noncomputable def known_Add.c : Kn Tryz.prog := Kn.of 140 known_Add.a known_Add.r (fun a => known_Add.f a.1 a.2.1 a.2.2.1) known_Add.con
def bits_Concat.a : ACods (Int × Int × Int × Int × Unit) := (.cons (.val (.int .i64)) (.cons (.val (.int .i64)) (.cons (.val (.int .u64)) (.cons (.val (.int .u64)) .nil))))
def bits_Concat.r : RCod (Int) := .val (.int .u64)
noncomputable def bits_Concat.cs : List (Kn Tryz.prog) := [bits_Cut.c, bits_clamp.c]
def bits_Concat.live : Nat → Option Keep := liveOf []
noncomputable def bits_Concat.f (a0 a1 a2 a3 : Int) : Option (Int) :=
  (bits_Cut.f a0 a2).bind fun r1 =>
  (bits_clamp.f a1).bind fun r2 =>
  bif decide (r2 < 0) then
    none
  else
    (bits_Cut.f a1 a3).bind fun r3 =>
    some (Go.bits .or .u64 (shl .u64 r1 r2) r3)
theorem bits_Concat.eq (fu : Nat) (a : Int × Int × Int × Int × Unit) : bodyK Tryz.prog bits_Concat.cs bits_Concat.live fu Tryz.f141 (bits_Concat.a.enc a) bits_Concat.r.dec = bits_Concat.f a.1 a.2.1 a.2.2.1 a.2.2.2.1 := by kernel_rfl
theorem bits_Concat.con : ∀ (a : Int × Int × Int × Int × Unit) (r : Int), bits_Concat.f a.1 a.2.1 a.2.2.1 a.2.2.2.1 = some r → Contract Tryz.prog 141 (bits_Concat.a.enc a) (bits_Concat.r.enc r) := Contract.of_body (by kernel_rfl) (by kernel_rfl) mixed (bits_Concat.eq (fuel0 + 1))
noncomputable def bits_Concat.c : Kn Tryz.prog := Kn.of 141 bits_Concat.a bits_Concat.r (fun a => bits_Concat.f a.1 a.2.1 a.2.2.1 a.2.2.2.1) bits_Concat.con
def known_Single.a : ACods (Int × (Int × Int) × Unit) := (.cons (.val (.int .i64)) (.cons (.val (.agg (.cons (.int .u64) (.one (.int .u64))))) .nil))
def known_Single.r : RCod (Int × Bool) := .val (.tup (.cons (.int .u64) (.one (.bool))))
noncomputable def known_Single.cs : List (Kn Tryz.prog) := [known_of.c, known_unknown.c]
def known_Single.live : Nat → Option Keep := liveOf []
noncomputable def known_Single.f (a0 : Int) (a1 : Int × Int) : Option (Int × Bool) :=
  (known_of.f a0 (a1.1, a1.2)).bind fun r1 =>
  (known_unknown.f a0 (r1.1, r1.2)).bind fun r2 =>
  bif (r2 != 0) then
    some (0, false)
  else
    some (r1.2, true)
theorem known_Single.eq (fu : Nat) (a : Int × (Int × Int) × Unit) : bodyK Tryz.prog known_Single.cs known_Single.live fu Tryz.f86 (known_Single.a.enc a) known_Single.r.dec = known_Single.f a.1 a.2.1 := by kernel_rfl
theorem known_Single.con : ∀ (a : Int × (Int × Int) × Unit) (r : Int × Bool), known_Single.f a.1 a.2.1 = some r → Contract Tryz.prog 86 (known_Single.a.enc a) (known_Single.r.enc r) := Contract.of_body (by kernel_rfl) (by kernel_rfl) mixed (known_Single.eq (fuel0 + 1))
noncomputable def known_Single.c : Kn Tryz.prog := Kn.of 86 known_Single.a known_Single.r (fun a => known_Single.f a.1 a.2.1) known_Single.con
def known_equal.a : ACods (Int × (Int × Int) × (Int × Int) × Unit) := (.cons (.val (.int .i64)) (.cons (.val (.agg (.cons (.int .u64) (.one (.int .u64))))) (.cons (.val (.agg (.cons (.int .u64) (.one (.int .u64))))) .nil)))
def known_equal.r : RCod (Int × Int) := .val (.agg (.cons (.int .u64) (.one (.int .u64))))
noncomputable def known_equal.cs : List (Kn Tryz.prog) := [known_Const.c, known_Single.c]
def known_equal.live : Nat → Option Keep := liveOf [(12, ⟨[6], [6], [], [], []⟩)]
noncomputable def known_equal.body : Code := bodyOf Tryz.f142
noncomputable def known_equal.K (fu : Nat) : Code → St → (Ex → St → Option (Int × Int)) → Option (Int × Int) := codeK Tryz.prog (known_equal.cs) known_equal.live fu
noncomputable def known_equal.p6 (m fu : Nat) (c6_0 c6_1 : Int) : Option (Int × Int) :=
  joinK m (known_equal.K fu (sub known_equal.body [true, true, true, true])) (stOf 36 [(6, .ptr 6 0 0 0)] [(6, .own [.val (.int .u64 c6_0), .val (.int .u64 c6_1)])]) (retC Tryz.prog Tryz.f142.results known_equal.r.dec)
theorem known_equal.p6_eq (m fu : Nat) (c6_0 c6_1 : Int) : known_equal.p6 (m + 1) fu c6_0 c6_1 =
  some (0, 0) := by kernel_rfl
noncomputable def known_equal.g (fu : Nat) (a0 : Int) (a1 : Int × Int) (a2 : Int × Int) : Option (Int × Int) :=
  bif ((Go.bits .or .u64 (Go.bits .and .u64 a1.1 a2.2) (Go.bits .and .u64 a1.2 a2.1)) != 0) then
    (known_Const.f 1 0).bind fun r1 =>
    some (r1.1, r1.2)
  else
    (known_Single.f a0 (a1.1, a1.2)).bind fun r2 =>
    bif r2.2 then
      bif ((a1.1 == a2.1) && ((a1.2 == a2.2) && true)) then
        (known_Const.f 1 1).bind fun r3 =>
        some (r3.1, r3.2)
      else
        known_equal.p6 fu fu 0 0
    else
      known_equal.p6 fu fu 0 0
noncomputable def known_equal.f (a0 : Int) (a1 : Int × Int) (a2 : Int × Int) : Option (Int × Int) := known_equal.g (fuel0 + 1) a0 a1 a2
theorem known_equal.eq (fu : Nat) (a : Int × (Int × Int) × (Int × Int) × Unit) : bodyK Tryz.prog known_equal.cs known_equal.live fu Tryz.f142 (known_equal.a.enc a) known_equal.r.dec = known_equal.g fu a.1 a.2.1 a.2.2.1 := by kernel_rfl
theorem known_equal.con : ∀ (a : Int × (Int × Int) × (Int × Int) × Unit) (r : Int × Int), known_equal.f a.1 a.2.1 a.2.2.1 = some r → Contract Tryz.prog 142 (known_equal.a.enc a) (known_equal.r.enc r) := Contract.of_body (by kernel_rfl) (by kernel_rfl) mixed (known_equal.eq (fuel0 + 1))
noncomputable def known_equal.c : Kn Tryz.prog := Kn.of 142 known_equal.a known_equal.r (fun a => known_equal.f a.1 a.2.1 a.2.2.1) known_equal.con
def bits_Signed.a : ACods (Int × Int × Unit) := (.cons (.val (.int .i64)) (.cons (.val (.int .u64)) .nil))
def bits_Signed.r : RCod (Int) := .val (.int .i64)
noncomputable def bits_Signed.cs : List (Kn Tryz.prog) := [bits_clamp.c]
def bits_Signed.live : Nat → Option Keep := liveOf []
noncomputable def bits_Signed.f (a0 a1 : Int) : Option (Int) :=
  (bits_clamp.f a0).bind fun r1 =>
  bif decide ((IntKind.i64.wrap (64 - r1)) < 0) then
    none
  else
    bif decide ((IntKind.i64.wrap (64 - r1)) < 0) then
      none
    else
      some (shr .i64 (IntKind.i64.wrap (shl .u64 a1 (IntKind.i64.wrap (64 - r1)))) (IntKind.i64.wrap (64 - r1)))
theorem bits_Signed.eq (fu : Nat) (a : Int × Int × Unit) : bodyK Tryz.prog bits_Signed.cs bits_Signed.live fu Tryz.f214 (bits_Signed.a.enc a) bits_Signed.r.dec = bits_Signed.f a.1 a.2.1 := by kernel_rfl
theorem bits_Signed.con : ∀ (a : Int × Int × Unit) (r : Int), bits_Signed.f a.1 a.2.1 = some r → Contract Tryz.prog 214 (bits_Signed.a.enc a) (bits_Signed.r.enc r) := Contract.of_body (by kernel_rfl) (by kernel_rfl) mixed (bits_Signed.eq (fuel0 + 1))
noncomputable def bits_Signed.c : Kn Tryz.prog := Kn.of 214 bits_Signed.a bits_Signed.r (fun a => bits_Signed.f a.1 a.2.1) bits_Signed.con
def bits_shift.a : ACods (Int × Int × Int × Int × Unit) := (.cons (.val (.int .i64)) (.cons (.val (.int .i64)) (.cons (.val (.int .u64)) (.cons (.val (.int .u64)) .nil))))
def bits_shift.r : RCod (Int) := .val (.int .u64)
noncomputable def bits_shift.cs : List (Kn Tryz.prog) := [bits_Cut.c, bits_clamp.c, bits_Signed.c, bits_Mask.c]
def bits_shift.live : Nat → Option Keep := liveOf [(20, ⟨[9, 10, 11], [], [], [], []⟩)]
noncomputable def bits_shift.body : Code := bodyOf Tryz.f232
noncomputable def bits_shift.K (fu : Nat) : Code → St → (Ex → St → Option (Int)) → Option (Int) := codeK Tryz.prog (bits_shift.cs) bits_shift.live fu
noncomputable def bits_shift.p10 (m fu : Nat) (x9 x10 : Int) (x11 : Bool) : Option Int :=
  joinK m (bits_shift.K fu (sub bits_shift.body [true, true, true, false, true, false, true])) (stOf 53 [(9, .val (.int .u64 x9)), (10, .val (.int .u64 x10)), (11, .val (.bool x11))] []) (blockC 0 (seqC fu (bits_shift.live 26) (bits_shift.K fu (sub bits_shift.body [true, true, true, true])) (retC Tryz.prog Tryz.f232.results bits_shift.r.dec)))
theorem bits_shift.p10_eq (m fu : Nat) (x9 x10 : Int) (x11 : Bool) : bits_shift.p10 (m + 1) fu x9 x10 x11 =
  bif x11 then
    some 0
  else
    bif decide (x10 < 0) then
      none
    else
      some (shr .u64 x9 x10) := by kernel_rfl
noncomputable def bits_shift.g (fu : Nat) (a0 a1 a2 a3 : Int) : Option (Int) :=
  (bits_Cut.f a1 a2).bind fun r1 =>
  (bits_Cut.f a1 a3).bind fun r2 =>
  (bits_clamp.f a1).bind fun r3 =>
  bif (a0 == 2) then
    (bits_Signed.f a1 r1).bind fun r4 =>
    bif (decide (r4 < 0)) then
      bif (decide (r2 ≥ (IntKind.u64.wrap r3))) then
        (bits_Mask.f a1).bind fun r5 =>
        some r5
      else
        (bits_Signed.f a1 r1).bind fun r6 =>
        bif decide (r2 < 0) then
          none
        else
          (bits_Cut.f a1 (IntKind.u64.wrap (shr .i64 r6 r2))).bind fun r7 =>
          some r7
    else
      bits_shift.p10 fu fu r1 r2 (decide (r2 ≥ (IntKind.u64.wrap r3)))
  else
    bif (a0 == 1) then
      bits_shift.p10 fu fu r1 r2 (decide (r2 ≥ (IntKind.u64.wrap r3)))
    else
      bif (decide (r2 ≥ (IntKind.u64.wrap r3))) then
        some 0
      else
        bif decide (r2 < 0) then
          none
        else
          (bits_Cut.f a1 (shl .u64 r1 r2)).bind fun r8 =>
          some r8
noncomputable def bits_shift.f (a0 a1 a2 a3 : Int) : Option (Int) := bits_shift.g (fuel0 + 1) a0 a1 a2 a3
theorem bits_shift.eq (fu : Nat) (a : Int × Int × Int × Int × Unit) : bodyK Tryz.prog bits_shift.cs bits_shift.live fu Tryz.f232 (bits_shift.a.enc a) bits_shift.r.dec = bits_shift.g fu a.1 a.2.1 a.2.2.1 a.2.2.2.1 := by kernel_rfl
theorem bits_shift.con : ∀ (a : Int × Int × Int × Int × Unit) (r : Int), bits_shift.f a.1 a.2.1 a.2.2.1 a.2.2.2.1 = some r → Contract Tryz.prog 232 (bits_shift.a.enc a) (bits_shift.r.enc r) := Contract.of_body (by kernel_rfl) (by kernel_rfl) mixed (bits_shift.eq (fuel0 + 1))
noncomputable def bits_shift.c : Kn Tryz.prog := Kn.of 232 bits_shift.a bits_shift.r (fun a => bits_shift.f a.1 a.2.1 a.2.2.1 a.2.2.2.1) bits_shift.con
def bits_Shl.a : ACods (Int × Int × Int × Unit) := (.cons (.val (.int .i64)) (.cons (.val (.int .u64)) (.cons (.val (.int .u64)) .nil)))
def bits_Shl.r : RCod (Int) := .val (.int .u64)
noncomputable def bits_Shl.cs : List (Kn Tryz.prog) := [bits_shift.c]
def bits_Shl.live : Nat → Option Keep := liveOf []
noncomputable def bits_Shl.f (a0 a1 a2 : Int) : Option (Int) :=
  (bits_shift.f 0 a0 a1 a2).bind fun r1 =>
  some r1
theorem bits_Shl.eq (fu : Nat) (a : Int × Int × Int × Unit) : bodyK Tryz.prog bits_Shl.cs bits_Shl.live fu Tryz.f205 (bits_Shl.a.enc a) bits_Shl.r.dec = bits_Shl.f a.1 a.2.1 a.2.2.1 := by kernel_rfl
theorem bits_Shl.con : ∀ (a : Int × Int × Int × Unit) (r : Int), bits_Shl.f a.1 a.2.1 a.2.2.1 = some r → Contract Tryz.prog 205 (bits_Shl.a.enc a) (bits_Shl.r.enc r) := Contract.of_body (by kernel_rfl) (by kernel_rfl) mixed (bits_Shl.eq (fuel0 + 1))
noncomputable def bits_Shl.c : Kn Tryz.prog := Kn.of 205 bits_Shl.a bits_Shl.r (fun a => bits_Shl.f a.1 a.2.1 a.2.2.1) bits_Shl.con
def bits_Lshr.a : ACods (Int × Int × Int × Unit) := (.cons (.val (.int .i64)) (.cons (.val (.int .u64)) (.cons (.val (.int .u64)) .nil)))
def bits_Lshr.r : RCod (Int) := .val (.int .u64)
noncomputable def bits_Lshr.cs : List (Kn Tryz.prog) := [bits_shift.c]
def bits_Lshr.live : Nat → Option Keep := liveOf []
noncomputable def bits_Lshr.f (a0 a1 a2 : Int) : Option (Int) :=
  (bits_shift.f 1 a0 a1 a2).bind fun r1 =>
  some r1
theorem bits_Lshr.eq (fu : Nat) (a : Int × Int × Int × Unit) : bodyK Tryz.prog bits_Lshr.cs bits_Lshr.live fu Tryz.f206 (bits_Lshr.a.enc a) bits_Lshr.r.dec = bits_Lshr.f a.1 a.2.1 a.2.2.1 := by kernel_rfl
theorem bits_Lshr.con : ∀ (a : Int × Int × Int × Unit) (r : Int), bits_Lshr.f a.1 a.2.1 a.2.2.1 = some r → Contract Tryz.prog 206 (bits_Lshr.a.enc a) (bits_Lshr.r.enc r) := Contract.of_body (by kernel_rfl) (by kernel_rfl) mixed (bits_Lshr.eq (fuel0 + 1))
noncomputable def bits_Lshr.c : Kn Tryz.prog := Kn.of 206 bits_Lshr.a bits_Lshr.r (fun a => bits_Lshr.f a.1 a.2.1 a.2.2.1) bits_Lshr.con
def bits_Ashr.a : ACods (Int × Int × Int × Unit) := (.cons (.val (.int .i64)) (.cons (.val (.int .u64)) (.cons (.val (.int .u64)) .nil)))
def bits_Ashr.r : RCod (Int) := .val (.int .u64)
noncomputable def bits_Ashr.cs : List (Kn Tryz.prog) := [bits_shift.c]
def bits_Ashr.live : Nat → Option Keep := liveOf []
noncomputable def bits_Ashr.f (a0 a1 a2 : Int) : Option (Int) :=
  (bits_shift.f 2 a0 a1 a2).bind fun r1 =>
  some r1
theorem bits_Ashr.eq (fu : Nat) (a : Int × Int × Int × Unit) : bodyK Tryz.prog bits_Ashr.cs bits_Ashr.live fu Tryz.f207 (bits_Ashr.a.enc a) bits_Ashr.r.dec = bits_Ashr.f a.1 a.2.1 a.2.2.1 := by kernel_rfl
theorem bits_Ashr.con : ∀ (a : Int × Int × Int × Unit) (r : Int), bits_Ashr.f a.1 a.2.1 a.2.2.1 = some r → Contract Tryz.prog 207 (bits_Ashr.a.enc a) (bits_Ashr.r.enc r) := Contract.of_body (by kernel_rfl) (by kernel_rfl) mixed (bits_Ashr.eq (fuel0 + 1))
noncomputable def bits_Ashr.c : Kn Tryz.prog := Kn.of 207 bits_Ashr.a bits_Ashr.r (fun a => bits_Ashr.f a.1 a.2.1 a.2.2.1) bits_Ashr.con
def known_shift.a : ACods (Int × Int × (Int × Int) × Int × Unit) := (.cons (.val (.int .i64)) (.cons (.val (.int .i64)) (.cons (.val (.agg (.cons (.int .u64) (.one (.int .u64))))) (.cons (.val (.int .u64)) .nil))))
def known_shift.r : RCod (Int × Int) := .val (.agg (.cons (.int .u64) (.one (.int .u64))))
noncomputable def known_shift.cs : List (Kn Tryz.prog) := [bits_Not.c, bits_Shl.c, bits_Lshr.c, bits_Ashr.c]
def known_shift.live : Nat → Option Keep := liveOf []
noncomputable def known_shift.f (a0 a1 : Int) (a2 : Int × Int) (a3 : Int) : Option (Int × Int) :=
  bif (a0 == 13) then
    (bits_Not.f a1 a2.1).bind fun r1 =>
    (bits_Shl.f a1 r1 a3).bind fun r2 =>
    (bits_Not.f a1 r2).bind fun r3 =>
    (bits_Shl.f a1 a2.2 a3).bind fun r4 =>
    some (r3, r4)
  else
    bif (a0 == 14) then
      (bits_Not.f a1 a2.1).bind fun r5 =>
      (bits_Lshr.f a1 r5 a3).bind fun r6 =>
      (bits_Not.f a1 r6).bind fun r7 =>
      (bits_Lshr.f a1 a2.2 a3).bind fun r8 =>
      some (r7, r8)
    else
      (bits_Ashr.f a1 a2.1 a3).bind fun r9 =>
      (bits_Ashr.f a1 a2.2 a3).bind fun r10 =>
      some (r9, r10)
theorem known_shift.eq (fu : Nat) (a : Int × Int × (Int × Int) × Int × Unit) : bodyK Tryz.prog known_shift.cs known_shift.live fu Tryz.f143 (known_shift.a.enc a) known_shift.r.dec = known_shift.f a.1 a.2.1 a.2.2.1 a.2.2.2.1 := by kernel_rfl
theorem known_shift.con : ∀ (a : Int × Int × (Int × Int) × Int × Unit) (r : Int × Int), known_shift.f a.1 a.2.1 a.2.2.1 a.2.2.2.1 = some r → Contract Tryz.prog 143 (known_shift.a.enc a) (known_shift.r.enc r) := Contract.of_body (by kernel_rfl) (by kernel_rfl) mixed (known_shift.eq (fuel0 + 1))
noncomputable def known_shift.c : Kn Tryz.prog := Kn.of 143 known_shift.a known_shift.r (fun a => known_shift.f a.1 a.2.1 a.2.2.1 a.2.2.2.1) known_shift.con
def bits_Mul.a : ACods (Int × Int × Int × Unit) := (.cons (.val (.int .i64)) (.cons (.val (.int .u64)) (.cons (.val (.int .u64)) .nil)))
def bits_Mul.r : RCod (Int) := .val (.int .u64)
noncomputable def bits_Mul.cs : List (Kn Tryz.prog) := [bits_Cut.c]
def bits_Mul.live : Nat → Option Keep := liveOf []
noncomputable def bits_Mul.f (a0 a1 a2 : Int) : Option (Int) :=
  (bits_Cut.f a0 (IntKind.u64.wrap (a1 * a2))).bind fun r1 =>
  some r1
theorem bits_Mul.eq (fu : Nat) (a : Int × Int × Int × Unit) : bodyK Tryz.prog bits_Mul.cs bits_Mul.live fu Tryz.f208 (bits_Mul.a.enc a) bits_Mul.r.dec = bits_Mul.f a.1 a.2.1 a.2.2.1 := by kernel_rfl
theorem bits_Mul.con : ∀ (a : Int × Int × Int × Unit) (r : Int), bits_Mul.f a.1 a.2.1 a.2.2.1 = some r → Contract Tryz.prog 208 (bits_Mul.a.enc a) (bits_Mul.r.enc r) := Contract.of_body (by kernel_rfl) (by kernel_rfl) mixed (bits_Mul.eq (fuel0 + 1))
noncomputable def bits_Mul.c : Kn Tryz.prog := Kn.of 208 bits_Mul.a bits_Mul.r (fun a => bits_Mul.f a.1 a.2.1 a.2.2.1) bits_Mul.con
def bits_Udiv.a : ACods (Int × Int × Int × Unit) := (.cons (.val (.int .i64)) (.cons (.val (.int .u64)) (.cons (.val (.int .u64)) .nil)))
def bits_Udiv.r : RCod (Int) := .val (.int .u64)
noncomputable def bits_Udiv.cs : List (Kn Tryz.prog) := [bits_Cut.c, bits_Mask.c]
def bits_Udiv.live : Nat → Option Keep := liveOf []
noncomputable def bits_Udiv.f (a0 a1 a2 : Int) : Option (Int) :=
  (bits_Cut.f a0 a1).bind fun r1 =>
  (bits_Cut.f a0 a2).bind fun r2 =>
  bif (r2 == 0) then
    (bits_Mask.f a0).bind fun r3 =>
    some r3
  else
    bif decide (r2 = 0) then
      none
    else
      some (IntKind.u64.wrap (Int.tdiv r1 r2))
theorem bits_Udiv.eq (fu : Nat) (a : Int × Int × Int × Unit) : bodyK Tryz.prog bits_Udiv.cs bits_Udiv.live fu Tryz.f209 (bits_Udiv.a.enc a) bits_Udiv.r.dec = bits_Udiv.f a.1 a.2.1 a.2.2.1 := by kernel_rfl
theorem bits_Udiv.con : ∀ (a : Int × Int × Int × Unit) (r : Int), bits_Udiv.f a.1 a.2.1 a.2.2.1 = some r → Contract Tryz.prog 209 (bits_Udiv.a.enc a) (bits_Udiv.r.enc r) := Contract.of_body (by kernel_rfl) (by kernel_rfl) mixed (bits_Udiv.eq (fuel0 + 1))
noncomputable def bits_Udiv.c : Kn Tryz.prog := Kn.of 209 bits_Udiv.a bits_Udiv.r (fun a => bits_Udiv.f a.1 a.2.1 a.2.2.1) bits_Udiv.con
def bits_Urem.a : ACods (Int × Int × Int × Unit) := (.cons (.val (.int .i64)) (.cons (.val (.int .u64)) (.cons (.val (.int .u64)) .nil)))
def bits_Urem.r : RCod (Int) := .val (.int .u64)
noncomputable def bits_Urem.cs : List (Kn Tryz.prog) := [bits_Cut.c]
def bits_Urem.live : Nat → Option Keep := liveOf []
noncomputable def bits_Urem.f (a0 a1 a2 : Int) : Option (Int) :=
  (bits_Cut.f a0 a1).bind fun r1 =>
  (bits_Cut.f a0 a2).bind fun r2 =>
  bif (r2 == 0) then
    some r1
  else
    bif decide (r2 = 0) then
      none
    else
      some (Int.tmod r1 r2)
theorem bits_Urem.eq (fu : Nat) (a : Int × Int × Int × Unit) : bodyK Tryz.prog bits_Urem.cs bits_Urem.live fu Tryz.f210 (bits_Urem.a.enc a) bits_Urem.r.dec = bits_Urem.f a.1 a.2.1 a.2.2.1 := by kernel_rfl
theorem bits_Urem.con : ∀ (a : Int × Int × Int × Unit) (r : Int), bits_Urem.f a.1 a.2.1 a.2.2.1 = some r → Contract Tryz.prog 210 (bits_Urem.a.enc a) (bits_Urem.r.enc r) := Contract.of_body (by kernel_rfl) (by kernel_rfl) mixed (bits_Urem.eq (fuel0 + 1))
noncomputable def bits_Urem.c : Kn Tryz.prog := Kn.of 210 bits_Urem.a bits_Urem.r (fun a => bits_Urem.f a.1 a.2.1 a.2.2.1) bits_Urem.con
def bits_flag.a : ACods (Bool × Unit) := (.cons (.val (.bool)) .nil)
def bits_flag.r : RCod (Int) := .val (.int .u64)
noncomputable def bits_flag.cs : List (Kn Tryz.prog) := []
def bits_flag.live : Nat → Option Keep := liveOf []
noncomputable def bits_flag.f (a0 : Bool) : Option (Int) :=
  bif a0 then
    some 1
  else
    some 0
theorem bits_flag.eq (fu : Nat) (a : Bool × Unit) : bodyK Tryz.prog bits_flag.cs bits_flag.live fu Tryz.f233 (bits_flag.a.enc a) bits_flag.r.dec = bits_flag.f a.1 := by kernel_rfl
theorem bits_flag.con : ∀ (a : Bool × Unit) (r : Int), bits_flag.f a.1 = some r → Contract Tryz.prog 233 (bits_flag.a.enc a) (bits_flag.r.enc r) := Contract.of_body (by kernel_rfl) (by kernel_rfl) mixed (bits_flag.eq (fuel0 + 1))
noncomputable def bits_flag.c : Kn Tryz.prog := Kn.of 233 bits_flag.a bits_flag.r (fun a => bits_flag.f a.1) bits_flag.con
def bits_Ult.a : ACods (Int × Int × Int × Unit) := (.cons (.val (.int .i64)) (.cons (.val (.int .u64)) (.cons (.val (.int .u64)) .nil)))
def bits_Ult.r : RCod (Int) := .val (.int .u64)
noncomputable def bits_Ult.cs : List (Kn Tryz.prog) := [bits_Cut.c, bits_flag.c]
def bits_Ult.live : Nat → Option Keep := liveOf []
noncomputable def bits_Ult.f (a0 a1 a2 : Int) : Option (Int) :=
  (bits_Cut.f a0 a1).bind fun r1 =>
  (bits_Cut.f a0 a2).bind fun r2 =>
  (bits_flag.f (decide (r1 < r2))).bind fun r3 =>
  some r3
theorem bits_Ult.eq (fu : Nat) (a : Int × Int × Int × Unit) : bodyK Tryz.prog bits_Ult.cs bits_Ult.live fu Tryz.f211 (bits_Ult.a.enc a) bits_Ult.r.dec = bits_Ult.f a.1 a.2.1 a.2.2.1 := by kernel_rfl
theorem bits_Ult.con : ∀ (a : Int × Int × Int × Unit) (r : Int), bits_Ult.f a.1 a.2.1 a.2.2.1 = some r → Contract Tryz.prog 211 (bits_Ult.a.enc a) (bits_Ult.r.enc r) := Contract.of_body (by kernel_rfl) (by kernel_rfl) mixed (bits_Ult.eq (fuel0 + 1))
noncomputable def bits_Ult.c : Kn Tryz.prog := Kn.of 211 bits_Ult.a bits_Ult.r (fun a => bits_Ult.f a.1 a.2.1 a.2.2.1) bits_Ult.con
def bits_Slt.a : ACods (Int × Int × Int × Unit) := (.cons (.val (.int .i64)) (.cons (.val (.int .u64)) (.cons (.val (.int .u64)) .nil)))
def bits_Slt.r : RCod (Int) := .val (.int .u64)
noncomputable def bits_Slt.cs : List (Kn Tryz.prog) := [bits_Signed.c, bits_flag.c]
def bits_Slt.live : Nat → Option Keep := liveOf []
noncomputable def bits_Slt.f (a0 a1 a2 : Int) : Option (Int) :=
  (bits_Signed.f a0 a1).bind fun r1 =>
  (bits_Signed.f a0 a2).bind fun r2 =>
  (bits_flag.f (decide (r1 < r2))).bind fun r3 =>
  some r3
theorem bits_Slt.eq (fu : Nat) (a : Int × Int × Int × Unit) : bodyK Tryz.prog bits_Slt.cs bits_Slt.live fu Tryz.f212 (bits_Slt.a.enc a) bits_Slt.r.dec = bits_Slt.f a.1 a.2.1 a.2.2.1 := by kernel_rfl
theorem bits_Slt.con : ∀ (a : Int × Int × Int × Unit) (r : Int), bits_Slt.f a.1 a.2.1 a.2.2.1 = some r → Contract Tryz.prog 212 (bits_Slt.a.enc a) (bits_Slt.r.enc r) := Contract.of_body (by kernel_rfl) (by kernel_rfl) mixed (bits_Slt.eq (fuel0 + 1))
noncomputable def bits_Slt.c : Kn Tryz.prog := Kn.of 212 bits_Slt.a bits_Slt.r (fun a => bits_Slt.f a.1 a.2.1 a.2.2.1) bits_Slt.con
def known_value.a : ACods (Int × Int × Int × Int × Unit) := (.cons (.val (.int .i64)) (.cons (.val (.int .i64)) (.cons (.val (.int .u64)) (.cons (.val (.int .u64)) .nil))))
def known_value.r : RCod (Int) := .val (.int .u64)
noncomputable def known_value.cs : List (Kn Tryz.prog) := [bits_Mul.c, bits_Udiv.c, bits_Urem.c, bits_Ult.c, bits_Slt.c]
def known_value.live : Nat → Option Keep := liveOf []
noncomputable def known_value.f (a0 a1 a2 a3 : Int) : Option (Int) :=
  bif (a0 == 10) then
    (bits_Mul.f a1 a2 a3).bind fun r1 =>
    some r1
  else
    bif (a0 == 11) then
      (bits_Udiv.f a1 a2 a3).bind fun r2 =>
      some r2
    else
      bif (a0 == 12) then
        (bits_Urem.f a1 a2 a3).bind fun r3 =>
        some r3
      else
        bif (a0 == 17) then
          (bits_Ult.f a1 a2 a3).bind fun r4 =>
          some r4
        else
          (bits_Slt.f a1 a2 a3).bind fun r5 =>
          some r5
theorem known_value.eq (fu : Nat) (a : Int × Int × Int × Int × Unit) : bodyK Tryz.prog known_value.cs known_value.live fu Tryz.f144 (known_value.a.enc a) known_value.r.dec = known_value.f a.1 a.2.1 a.2.2.1 a.2.2.2.1 := by kernel_rfl
theorem known_value.con : ∀ (a : Int × Int × Int × Int × Unit) (r : Int), known_value.f a.1 a.2.1 a.2.2.1 a.2.2.2.1 = some r → Contract Tryz.prog 144 (known_value.a.enc a) (known_value.r.enc r) := Contract.of_body (by kernel_rfl) (by kernel_rfl) mixed (known_value.eq (fuel0 + 1))
noncomputable def known_value.c : Kn Tryz.prog := Kn.of 144 known_value.a known_value.r (fun a => known_value.f a.1 a.2.1 a.2.2.1 a.2.2.2.1) known_value.con
def known_low.a : ACods (Int × (Int × Int) × Unit) := (.cons (.val (.int .i64)) (.cons (.val (.agg (.cons (.int .u64) (.one (.int .u64))))) .nil))
def known_low.r : RCod (Int) := .val (.int .i64)
noncomputable def known_low.cs : List (Kn Tryz.prog) := []
def known_low.live : Nat → Option Keep := liveOf [(7, ⟨[3, 5, 7, 8], [3], [], [], []⟩)]
noncomputable def known_low.body : Code := bodyOf Tryz.f145
noncomputable def known_low.K (fu : Nat) : Code → St → (Ex → St → Option (Int)) → Option (Int) := codeK Tryz.prog (known_low.cs) known_low.live fu
noncomputable def known_low.j3 (fu n3 : Nat) (x5 x7 x8 c3_0 c3_1 : Int) : Option Int :=
  loopK (known_low.K fu (sub known_low.body [true, true, false, true, false, false])) (known_low.live 7) n3 (stOf 22 [(3, .ptr 3 0 0 0), (5, .val (.int .i64 x5)), (7, .val (.int .i64 x7)), (8, .val (.int .i64 x8))] [(3, .own [.val (.int .u64 c3_0), .val (.int .u64 c3_1)])]) (blockC 0 (seqC fu (known_low.live 18) (known_low.K fu (sub known_low.body [true, true, true])) (retC Tryz.prog Tryz.f145.results known_low.r.dec)))
theorem known_low.j3_succ (fu n3 : Nat) (x5 x7 x8 c3_0 c3_1 : Int) : known_low.j3 fu (n3 + 1) x5 x7 x8 c3_0 c3_1 =
  bif (decide (x8 < x7)) then
    bif decide (x8 < 0) then
      none
    else
      bif ((Go.bits .and .u64 (shr .u64 c3_0 x8) 1) == 0) then
        some x5
      else
        known_low.j3 fu n3 (IntKind.i64.wrap (x5 + 1)) x7 (IntKind.i64.wrap (x8 + 1)) c3_0 c3_1
  else
    some x5 := by kernel_rfl
noncomputable def known_low.g (fu : Nat) (a0 : Int) (a1 : Int × Int) : Option (Int) :=
  known_low.j3 fu fu 0 a0 0 a1.1 a1.2
noncomputable def known_low.f (a0 : Int) (a1 : Int × Int) : Option (Int) := known_low.g (fuel0 + 1) a0 a1
theorem known_low.eq (fu : Nat) (a : Int × (Int × Int) × Unit) : bodyK Tryz.prog known_low.cs known_low.live fu Tryz.f145 (known_low.a.enc a) known_low.r.dec = known_low.g fu a.1 a.2.1 := by kernel_rfl
theorem known_low.con : ∀ (a : Int × (Int × Int) × Unit) (r : Int), known_low.f a.1 a.2.1 = some r → Contract Tryz.prog 145 (known_low.a.enc a) (known_low.r.enc r) := Contract.of_body (by kernel_rfl) (by kernel_rfl) mixed (known_low.eq (fuel0 + 1))
noncomputable def known_low.c : Kn Tryz.prog := Kn.of 145 known_low.a known_low.r (fun a => known_low.f a.1 a.2.1) known_low.con
def bits_OnesCount64.a : ACods (Int × Unit) := (.cons (.val (.int .u64)) .nil)
def bits_OnesCount64.r : RCod (Int) := .val (.int .i64)
noncomputable def bits_OnesCount64.cs : List (Kn Tryz.prog) := []
def bits_OnesCount64.live : Nat → Option Keep := liveOf []
noncomputable def bits_OnesCount64.f (a0 : Int) : Option (Int) :=
  some (Go.bits .and .i64 (IntKind.i64.wrap (IntKind.u64.wrap ((IntKind.u64.wrap ((IntKind.u64.wrap ((Go.bits .and .u64 (IntKind.u64.wrap ((shr .u64 (IntKind.u64.wrap ((Go.bits .and .u64 (shr .u64 (IntKind.u64.wrap ((Go.bits .and .u64 (shr .u64 a0 1) 6148914691236517205) + (Go.bits .and .u64 a0 6148914691236517205))) 2) 3689348814741910323) + (Go.bits .and .u64 (IntKind.u64.wrap ((Go.bits .and .u64 (shr .u64 a0 1) 6148914691236517205) + (Go.bits .and .u64 a0 6148914691236517205))) 3689348814741910323))) 4) + (IntKind.u64.wrap ((Go.bits .and .u64 (shr .u64 (IntKind.u64.wrap ((Go.bits .and .u64 (shr .u64 a0 1) 6148914691236517205) + (Go.bits .and .u64 a0 6148914691236517205))) 2) 3689348814741910323) + (Go.bits .and .u64 (IntKind.u64.wrap ((Go.bits .and .u64 (shr .u64 a0 1) 6148914691236517205) + (Go.bits .and .u64 a0 6148914691236517205))) 3689348814741910323))))) 1085102592571150095) + (shr .u64 (Go.bits .and .u64 (IntKind.u64.wrap ((shr .u64 (IntKind.u64.wrap ((Go.bits .and .u64 (shr .u64 (IntKind.u64.wrap ((Go.bits .and .u64 (shr .u64 a0 1) 6148914691236517205) + (Go.bits .and .u64 a0 6148914691236517205))) 2) 3689348814741910323) + (Go.bits .and .u64 (IntKind.u64.wrap ((Go.bits .and .u64 (shr .u64 a0 1) 6148914691236517205) + (Go.bits .and .u64 a0 6148914691236517205))) 3689348814741910323))) 4) + (IntKind.u64.wrap ((Go.bits .and .u64 (shr .u64 (IntKind.u64.wrap ((Go.bits .and .u64 (shr .u64 a0 1) 6148914691236517205) + (Go.bits .and .u64 a0 6148914691236517205))) 2) 3689348814741910323) + (Go.bits .and .u64 (IntKind.u64.wrap ((Go.bits .and .u64 (shr .u64 a0 1) 6148914691236517205) + (Go.bits .and .u64 a0 6148914691236517205))) 3689348814741910323))))) 1085102592571150095) 8))) + (shr .u64 (IntKind.u64.wrap ((Go.bits .and .u64 (IntKind.u64.wrap ((shr .u64 (IntKind.u64.wrap ((Go.bits .and .u64 (shr .u64 (IntKind.u64.wrap ((Go.bits .and .u64 (shr .u64 a0 1) 6148914691236517205) + (Go.bits .and .u64 a0 6148914691236517205))) 2) 3689348814741910323) + (Go.bits .and .u64 (IntKind.u64.wrap ((Go.bits .and .u64 (shr .u64 a0 1) 6148914691236517205) + (Go.bits .and .u64 a0 6148914691236517205))) 3689348814741910323))) 4) + (IntKind.u64.wrap ((Go.bits .and .u64 (shr .u64 (IntKind.u64.wrap ((Go.bits .and .u64 (shr .u64 a0 1) 6148914691236517205) + (Go.bits .and .u64 a0 6148914691236517205))) 2) 3689348814741910323) + (Go.bits .and .u64 (IntKind.u64.wrap ((Go.bits .and .u64 (shr .u64 a0 1) 6148914691236517205) + (Go.bits .and .u64 a0 6148914691236517205))) 3689348814741910323))))) 1085102592571150095) + (shr .u64 (Go.bits .and .u64 (IntKind.u64.wrap ((shr .u64 (IntKind.u64.wrap ((Go.bits .and .u64 (shr .u64 (IntKind.u64.wrap ((Go.bits .and .u64 (shr .u64 a0 1) 6148914691236517205) + (Go.bits .and .u64 a0 6148914691236517205))) 2) 3689348814741910323) + (Go.bits .and .u64 (IntKind.u64.wrap ((Go.bits .and .u64 (shr .u64 a0 1) 6148914691236517205) + (Go.bits .and .u64 a0 6148914691236517205))) 3689348814741910323))) 4) + (IntKind.u64.wrap ((Go.bits .and .u64 (shr .u64 (IntKind.u64.wrap ((Go.bits .and .u64 (shr .u64 a0 1) 6148914691236517205) + (Go.bits .and .u64 a0 6148914691236517205))) 2) 3689348814741910323) + (Go.bits .and .u64 (IntKind.u64.wrap ((Go.bits .and .u64 (shr .u64 a0 1) 6148914691236517205) + (Go.bits .and .u64 a0 6148914691236517205))) 3689348814741910323))))) 1085102592571150095) 8))) 16))) + (shr .u64 (IntKind.u64.wrap ((IntKind.u64.wrap ((Go.bits .and .u64 (IntKind.u64.wrap ((shr .u64 (IntKind.u64.wrap ((Go.bits .and .u64 (shr .u64 (IntKind.u64.wrap ((Go.bits .and .u64 (shr .u64 a0 1) 6148914691236517205) + (Go.bits .and .u64 a0 6148914691236517205))) 2) 3689348814741910323) + (Go.bits .and .u64 (IntKind.u64.wrap ((Go.bits .and .u64 (shr .u64 a0 1) 6148914691236517205) + (Go.bits .and .u64 a0 6148914691236517205))) 3689348814741910323))) 4) + (IntKind.u64.wrap ((Go.bits .and .u64 (shr .u64 (IntKind.u64.wrap ((Go.bits .and .u64 (shr .u64 a0 1) 6148914691236517205) + (Go.bits .and .u64 a0 6148914691236517205))) 2) 3689348814741910323) + (Go.bits .and .u64 (IntKind.u64.wrap ((Go.bits .and .u64 (shr .u64 a0 1) 6148914691236517205) + (Go.bits .and .u64 a0 6148914691236517205))) 3689348814741910323))))) 1085102592571150095) + (shr .u64 (Go.bits .and .u64 (IntKind.u64.wrap ((shr .u64 (IntKind.u64.wrap ((Go.bits .and .u64 (shr .u64 (IntKind.u64.wrap ((Go.bits .and .u64 (shr .u64 a0 1) 6148914691236517205) + (Go.bits .and .u64 a0 6148914691236517205))) 2) 3689348814741910323) + (Go.bits .and .u64 (IntKind.u64.wrap ((Go.bits .and .u64 (shr .u64 a0 1) 6148914691236517205) + (Go.bits .and .u64 a0 6148914691236517205))) 3689348814741910323))) 4) + (IntKind.u64.wrap ((Go.bits .and .u64 (shr .u64 (IntKind.u64.wrap ((Go.bits .and .u64 (shr .u64 a0 1) 6148914691236517205) + (Go.bits .and .u64 a0 6148914691236517205))) 2) 3689348814741910323) + (Go.bits .and .u64 (IntKind.u64.wrap ((Go.bits .and .u64 (shr .u64 a0 1) 6148914691236517205) + (Go.bits .and .u64 a0 6148914691236517205))) 3689348814741910323))))) 1085102592571150095) 8))) + (shr .u64 (IntKind.u64.wrap ((Go.bits .and .u64 (IntKind.u64.wrap ((shr .u64 (IntKind.u64.wrap ((Go.bits .and .u64 (shr .u64 (IntKind.u64.wrap ((Go.bits .and .u64 (shr .u64 a0 1) 6148914691236517205) + (Go.bits .and .u64 a0 6148914691236517205))) 2) 3689348814741910323) + (Go.bits .and .u64 (IntKind.u64.wrap ((Go.bits .and .u64 (shr .u64 a0 1) 6148914691236517205) + (Go.bits .and .u64 a0 6148914691236517205))) 3689348814741910323))) 4) + (IntKind.u64.wrap ((Go.bits .and .u64 (shr .u64 (IntKind.u64.wrap ((Go.bits .and .u64 (shr .u64 a0 1) 6148914691236517205) + (Go.bits .and .u64 a0 6148914691236517205))) 2) 3689348814741910323) + (Go.bits .and .u64 (IntKind.u64.wrap ((Go.bits .and .u64 (shr .u64 a0 1) 6148914691236517205) + (Go.bits .and .u64 a0 6148914691236517205))) 3689348814741910323))))) 1085102592571150095) + (shr .u64 (Go.bits .and .u64 (IntKind.u64.wrap ((shr .u64 (IntKind.u64.wrap ((Go.bits .and .u64 (shr .u64 (IntKind.u64.wrap ((Go.bits .and .u64 (shr .u64 a0 1) 6148914691236517205) + (Go.bits .and .u64 a0 6148914691236517205))) 2) 3689348814741910323) + (Go.bits .and .u64 (IntKind.u64.wrap ((Go.bits .and .u64 (shr .u64 a0 1) 6148914691236517205) + (Go.bits .and .u64 a0 6148914691236517205))) 3689348814741910323))) 4) + (IntKind.u64.wrap ((Go.bits .and .u64 (shr .u64 (IntKind.u64.wrap ((Go.bits .and .u64 (shr .u64 a0 1) 6148914691236517205) + (Go.bits .and .u64 a0 6148914691236517205))) 2) 3689348814741910323) + (Go.bits .and .u64 (IntKind.u64.wrap ((Go.bits .and .u64 (shr .u64 a0 1) 6148914691236517205) + (Go.bits .and .u64 a0 6148914691236517205))) 3689348814741910323))))) 1085102592571150095) 8))) 16))) 32)))) 127)
theorem bits_OnesCount64.eq (fu : Nat) (a : Int × Unit) : bodyK Tryz.prog bits_OnesCount64.cs bits_OnesCount64.live fu Tryz.f213 (bits_OnesCount64.a.enc a) bits_OnesCount64.r.dec = bits_OnesCount64.f a.1 := by kernel_rfl
theorem bits_OnesCount64.con : ∀ (a : Int × Unit) (r : Int), bits_OnesCount64.f a.1 = some r → Contract Tryz.prog 213 (bits_OnesCount64.a.enc a) (bits_OnesCount64.r.enc r) := Contract.of_body (by kernel_rfl) (by kernel_rfl) mixed (bits_OnesCount64.eq (fuel0 + 1))
noncomputable def bits_OnesCount64.c : Kn Tryz.prog := Kn.of 213 bits_OnesCount64.a bits_OnesCount64.r (fun a => bits_OnesCount64.f a.1) bits_OnesCount64.con
def bits_Count.a : ACods (Int × Unit) := (.cons (.val (.int .u64)) .nil)
def bits_Count.r : RCod (Int) := .val (.int .i64)
noncomputable def bits_Count.cs : List (Kn Tryz.prog) := [bits_OnesCount64.c]
def bits_Count.live : Nat → Option Keep := liveOf []
noncomputable def bits_Count.f (a0 : Int) : Option (Int) :=
  (bits_OnesCount64.f a0).bind fun r1 =>
  some r1
theorem bits_Count.eq (fu : Nat) (a : Int × Unit) : bodyK Tryz.prog bits_Count.cs bits_Count.live fu Tryz.f146 (bits_Count.a.enc a) bits_Count.r.dec = bits_Count.f a.1 := by kernel_rfl
theorem bits_Count.con : ∀ (a : Int × Unit) (r : Int), bits_Count.f a.1 = some r → Contract Tryz.prog 146 (bits_Count.a.enc a) (bits_Count.r.enc r) := Contract.of_body (by kernel_rfl) (by kernel_rfl) mixed (bits_Count.eq (fuel0 + 1))
noncomputable def bits_Count.c : Kn Tryz.prog := Kn.of 146 bits_Count.a bits_Count.r (fun a => bits_Count.f a.1) bits_Count.con
def known_binary.a : ACods (Int × Int × Int × Int × (Int × Int) × (Int × Int) × Unit) := (.cons (.val (.int .i64)) (.cons (.val (.int .i64)) (.cons (.val (.int .i64)) (.cons (.val (.int .i64)) (.cons (.val (.agg (.cons (.int .u64) (.one (.int .u64))))) (.cons (.val (.agg (.cons (.int .u64) (.one (.int .u64))))) .nil))))))
def known_binary.r : RCod (Int × Int) := .val (.agg (.cons (.int .u64) (.one (.int .u64))))
noncomputable def known_binary.cs : List (Kn Tryz.prog) := [known_Add.c, known_Sub.c, bits_Concat.c, known_equal.c, known_Single.c, known_shift.c, known_value.c, known_Const.c, known_low.c, bits_Cut.c, bits_Count.c, bits_Not.c]
def known_binary.live : Nat → Option Keep := liveOf [(44, ⟨[12], [12], [], [], []⟩), (54, ⟨[0, 1, 2, 10, 11, 12, 17, 18], [10, 11, 12], [], [], []⟩), (64, ⟨[12], [12], [], [], []⟩)]
noncomputable def known_binary.body : Code := bodyOf Tryz.f85
noncomputable def known_binary.K (fu : Nat) : Code → St → (Ex → St → Option (Int × Int)) → Option (Int × Int) := codeK Tryz.prog (known_binary.cs) known_binary.live fu
noncomputable def known_binary.p22 (m fu : Nat) : Option (Int × Int) :=
  joinK m (known_binary.K fu (sub known_binary.body [true, false, true, false, true, true, true, true, true, true, true, true, true, true, true, true, true, true, true, false, true])) (stOf 190 [(12, .ptr 12 0 0 0)] [(12, .own [.val (.int .u64 0), .val (.int .u64 0)])]) (blockC 0 (seqC fu (known_binary.live 46) (known_binary.K fu (sub known_binary.body [true, true])) (retC Tryz.prog Tryz.f85.results known_binary.r.dec)))
noncomputable def known_binary.p27 (m fu : Nat) (x0 x1 x2 x17 : Int) (x18 : Bool) (c10_0 c10_1 c11_0 c11_1 c12_0 c12_1 : Int) : Option (Int × Int) :=
  joinK m (known_binary.K fu (sub known_binary.body [true, true, true, true, true])) (stOf 190 [(0, .val (.int .i64 x0)), (1, .val (.int .i64 x1)), (2, .val (.int .i64 x2)), (10, .ptr 10 0 0 0), (11, .ptr 11 0 0 0), (12, .ptr 12 0 0 0), (17, .val (.int .u64 x17)), (18, .val (.bool x18))] [(10, .own [.val (.int .u64 c10_0), .val (.int .u64 c10_1)]), (11, .own [.val (.int .u64 c11_0), .val (.int .u64 c11_1)]), (12, .own [.val (.int .u64 c12_0), .val (.int .u64 c12_1)])]) (retC Tryz.prog Tryz.f85.results known_binary.r.dec)
noncomputable def known_binary.p32 (m fu : Nat) (c12_0 c12_1 : Int) : Option (Int × Int) :=
  joinK m (known_binary.K fu (sub known_binary.body [true, true, true, true, true, true])) (stOf 190 [(12, .ptr 12 0 0 0)] [(12, .own [.val (.int .u64 c12_0), .val (.int .u64 c12_1)])]) (retC Tryz.prog Tryz.f85.results known_binary.r.dec)
theorem known_binary.p22_eq (m fu : Nat) : known_binary.p22 (m + 1) fu =
  some (0, 0) := by kernel_rfl
theorem known_binary.p32_eq (m fu : Nat) (c12_0 c12_1 : Int) : known_binary.p32 (m + 1) fu c12_0 c12_1 =
  some (0, 0) := by kernel_rfl
theorem known_binary.p27_eq (m fu : Nat) (x0 x1 x2 x17 : Int) (x18 : Bool) (c10_0 c10_1 c11_0 c11_1 c12_0 c12_1 : Int) : known_binary.p27 (m + 1) fu x0 x1 x2 x17 x18 c10_0 c10_1 c11_0 c11_1 c12_0 c12_1 =
  bif (x0 == 10) then
    (known_low.f x2 (c10_0, c10_1)).bind fun r16 =>
    (known_low.f x2 (c11_0, c11_1)).bind fun r17 =>
    bif decide ((mn (IntKind.i64.wrap (r16 + r17)) x1) < 0) then
      none
    else
      (bits_Cut.f x1 (IntKind.u64.wrap ((shl .u64 1 (mn (IntKind.i64.wrap (r16 + r17)) x1)) - 1))).bind fun r18 =>
      some (r18, 0)
  else
    bif (x0 == 12) then
      bif x18 then
        (bits_Count.f x17).bind fun r19 =>
        bif (r19 == 1) then
          (bits_Not.f x2 (IntKind.u64.wrap (x17 - 1))).bind fun r20 =>
          some ((Go.bits .or .u64 c10_0 r20), (Go.bits .and .u64 c10_1 (IntKind.u64.wrap (x17 - 1))))
        else
          known_binary.p32 fu fu c12_0 c12_1
      else
        known_binary.p32 fu fu c12_0 c12_1
    else
      known_binary.p32 fu fu c12_0 c12_1 := by kernel_rfl
noncomputable def known_binary.g (fu : Nat) (a0 a1 a2 a3 : Int) (a4 : Int × Int) (a5 : Int × Int) : Option (Int × Int) :=
  bif (a0 == 5) then
    some ((Go.bits .or .u64 a4.1 a5.1), (Go.bits .and .u64 a4.2 a5.2))
  else
    bif (a0 == 6) then
      some ((Go.bits .and .u64 a4.1 a5.1), (Go.bits .or .u64 a4.2 a5.2))
    else
      bif (a0 == 7) then
        some ((Go.bits .or .u64 (Go.bits .and .u64 a4.1 a5.1) (Go.bits .and .u64 a4.2 a5.2)), (Go.bits .or .u64 (Go.bits .and .u64 a4.1 a5.2) (Go.bits .and .u64 a4.2 a5.1)))
      else
        bif (a0 == 8) then
          (known_Add.f a2 (a4.1, a4.2) (a5.1, a5.2)).bind fun r1 =>
          some (r1.1, r1.2)
        else
          bif (a0 == 9) then
            (known_Sub.f a2 (a4.1, a4.2) (a5.1, a5.2)).bind fun r2 =>
            some (r2.1, r2.2)
          else
            bif (a0 == 20) then
              (bits_Concat.f a2 a3 a4.1 a5.1).bind fun r3 =>
              (bits_Concat.f a2 a3 a4.2 a5.2).bind fun r4 =>
              some (r3, r4)
            else
              bif (a0 == 16) then
                (known_equal.f a2 (a4.1, a4.2) (a5.1, a5.2)).bind fun r5 =>
                some (r5.1, r5.2)
              else
                bif (a0 == 13) then
                  (known_Single.f a2 (a5.1, a5.2)).bind fun r6 =>
                  bif r6.2 then
                    (known_shift.f a0 a2 (a4.1, a4.2) r6.1).bind fun r7 =>
                    some (r7.1, r7.2)
                  else
                    known_binary.p22 fu fu
                else
                  bif (a0 == 14) then
                    (known_Single.f a2 (a5.1, a5.2)).bind fun r8 =>
                    bif r8.2 then
                      (known_shift.f a0 a2 (a4.1, a4.2) r8.1).bind fun r9 =>
                      some (r9.1, r9.2)
                    else
                      known_binary.p22 fu fu
                  else
                    bif (a0 == 15) then
                      (known_Single.f a2 (a5.1, a5.2)).bind fun r10 =>
                      bif r10.2 then
                        (known_shift.f a0 a2 (a4.1, a4.2) r10.1).bind fun r11 =>
                        some (r11.1, r11.2)
                      else
                        known_binary.p22 fu fu
                    else
                      (known_Single.f a2 (a4.1, a4.2)).bind fun r12 =>
                      (known_Single.f a2 (a5.1, a5.2)).bind fun r13 =>
                      bif r12.2 then
                        bif r13.2 then
                          (known_value.f a0 a2 r12.1 r13.1).bind fun r14 =>
                          (known_Const.f a1 r14).bind fun r15 =>
                          some (r15.1, r15.2)
                        else
                          known_binary.p27 fu fu a0 a1 a2 r13.1 r13.2 a4.1 a4.2 a5.1 a5.2 0 0
                      else
                        known_binary.p27 fu fu a0 a1 a2 r13.1 r13.2 a4.1 a4.2 a5.1 a5.2 0 0
noncomputable def known_binary.f (a0 a1 a2 a3 : Int) (a4 : Int × Int) (a5 : Int × Int) : Option (Int × Int) := known_binary.g (fuel0 + 1) a0 a1 a2 a3 a4 a5
theorem known_binary.eq (fu : Nat) (a : Int × Int × Int × Int × (Int × Int) × (Int × Int) × Unit) : bodyK Tryz.prog known_binary.cs known_binary.live fu Tryz.f85 (known_binary.a.enc a) known_binary.r.dec = known_binary.g fu a.1 a.2.1 a.2.2.1 a.2.2.2.1 a.2.2.2.2.1 a.2.2.2.2.2.1 := by kernel_rfl
theorem known_binary.con : ∀ (a : Int × Int × Int × Int × (Int × Int) × (Int × Int) × Unit) (r : Int × Int), known_binary.f a.1 a.2.1 a.2.2.1 a.2.2.2.1 a.2.2.2.2.1 a.2.2.2.2.2.1 = some r → Contract Tryz.prog 85 (known_binary.a.enc a) (known_binary.r.enc r) := Contract.of_body (by kernel_rfl) (by kernel_rfl) mixed (known_binary.eq (fuel0 + 1))
noncomputable def known_binary.c : Kn Tryz.prog := Kn.of 85 known_binary.a known_binary.r (fun a => known_binary.f a.1 a.2.1 a.2.2.1 a.2.2.2.1 a.2.2.2.2.1 a.2.2.2.2.2.1) known_binary.con
def known_Join.a : ACods (Int × (Int × Int) × (Int × Int) × Unit) := (.cons (.val (.int .i64)) (.cons (.val (.agg (.cons (.int .u64) (.one (.int .u64))))) (.cons (.val (.agg (.cons (.int .u64) (.one (.int .u64))))) .nil)))
def known_Join.r : RCod (Int × Int) := .val (.agg (.cons (.int .u64) (.one (.int .u64))))
noncomputable def known_Join.cs : List (Kn Tryz.prog) := [known_of.c]
def known_Join.live : Nat → Option Keep := liveOf []
noncomputable def known_Join.f (a0 : Int) (a1 : Int × Int) (a2 : Int × Int) : Option (Int × Int) :=
  (known_of.f a0 (a1.1, a1.2)).bind fun r1 =>
  (known_of.f a0 (a2.1, a2.2)).bind fun r2 =>
  some ((Go.bits .and .u64 r1.1 r2.1), (Go.bits .and .u64 r1.2 r2.2))
theorem known_Join.eq (fu : Nat) (a : Int × (Int × Int) × (Int × Int) × Unit) : bodyK Tryz.prog known_Join.cs known_Join.live fu Tryz.f54 (known_Join.a.enc a) known_Join.r.dec = known_Join.f a.1 a.2.1 a.2.2.1 := by kernel_rfl
theorem known_Join.con : ∀ (a : Int × (Int × Int) × (Int × Int) × Unit) (r : Int × Int), known_Join.f a.1 a.2.1 a.2.2.1 = some r → Contract Tryz.prog 54 (known_Join.a.enc a) (known_Join.r.enc r) := Contract.of_body (by kernel_rfl) (by kernel_rfl) mixed (known_Join.eq (fuel0 + 1))
noncomputable def known_Join.c : Kn Tryz.prog := Kn.of 54 known_Join.a known_Join.r (fun a => known_Join.f a.1 a.2.1 a.2.2.1) known_Join.con
def known_Apply.a : ACods (Int × Int × Int × (Nat × (Nat → Int)) × (Nat × (Nat → Int) × (Nat → Int)) × Unit) := (.cons (.val (.int .i64)) (.cons (.val (.int .i64)) (.cons (.val (.int .u64)) (.cons (.rows (.int1 .i64)) (.cons (.rows (.int .u64 (.int1 .u64))) .nil)))))
def known_Apply.r : RCod ((Int × Int) × Int) := .val (.tup (.cons (.agg (.cons (.int .u64) (.one (.int .u64)))) (.one (.int .i64))))
noncomputable def known_Apply.cs : List (Kn Tryz.prog) := [known_refused.c, known_of.c, known_Const.c, known_unary.c, known_binary.c, known_Single.c, known_Join.c]
def known_Apply.live : Nat → Option Keep := liveOf [(13, ⟨[0, 2, 3, 4, 10, 12, 14, 36, 37], [3, 4, 10, 34], [], [], []⟩)]
noncomputable def known_Apply.body : Code := bodyOf Tryz.f36
noncomputable def known_Apply.K (fu : Nat) : Code → St → (Ex → St → Option ((Int × Int) × Int)) → Option ((Int × Int) × Int) := codeK Tryz.prog (known_Apply.cs) known_Apply.live fu
noncomputable def known_Apply.j6 (fu n6 : Nat) (x0 x2 : Int) (x3n x4n : Nat) (x12 : Int) (x14n : Nat) (x36 x37 : Int) (m3 : Nat) (g3_0 : Nat → Int) (m4 : Nat) (g4_0 g4_1 : Nat → Int) (c10_0 c10_1 : Int) (m34 : Nat) (g34_0 g34_1 : Nat → Int) : Option ((Int × Int) × Int) :=
  loopK (known_Apply.K fu (sub known_Apply.body [true, true, true, true, false, true, false, false])) (known_Apply.live 13) n6 (stOf 114 [(0, .val (.int .i64 x0)), (2, .val (.int .u64 x2)), (3, .sl 3 1 x3n), (4, .sl 4 2 x4n), (10, .ptr 10 0 0 0), (12, .val (.int .i64 x12)), (14, .sl 34 2 x14n), (36, .val (.int .i64 x36)), (37, .val (.int .i64 x37))] [(3, .ext m3 [.int .i64 g3_0]), (4, .ext m4 [.int .u64 g4_0, .int .u64 g4_1]), (10, .own [.val (.int .u64 c10_0), .val (.int .u64 c10_1)]), (34, .grow 27 m34 [.int .u64 g34_0, .int .u64 g34_1])]) (blockC 0 (seqC fu (known_Apply.live 20) (known_Apply.K fu (sub known_Apply.body [true, true, true, true, true])) (retC Tryz.prog Tryz.f36.results known_Apply.r.dec)))
noncomputable def known_Apply.g (fu : Nat) (a0 a1 a2 : Int) (a3 : Nat × (Nat → Int)) (a4 : Nat × (Nat → Int) × (Nat → Int)) : Option ((Int × Int) × Int) :=
  (known_refused.f a0 a1 a2 (a3.1, a3.2) (a4.1 : Int)).bind fun r1 =>
  bif (r1.2 != 0) then
    some ((0, 0), r1.2)
  else
    bif decide (0 ≤ (a4.1 : Int)) then
      bif Nat.ble (a4.1 * 16) 140737488355328 then
        known_Apply.j6 fu fu a0 a2 a3.1 a4.1 r1.1 a4.1 (a4.1 : Int) 0 a3.1 a3.2 a4.1 a4.2.1 a4.2.2 0 0 a4.1 (fun _ => 0) (fun _ => 0)
      else
        none
    else
      none
noncomputable def known_Apply.f (a0 a1 a2 : Int) (a3 : Nat × (Nat → Int)) (a4 : Nat × (Nat → Int) × (Nat → Int)) : Option ((Int × Int) × Int) := known_Apply.g (fuel0 + 1) a0 a1 a2 a3 a4
theorem known_Apply.eq (fu : Nat) (a : Int × Int × Int × (Nat × (Nat → Int)) × (Nat × (Nat → Int) × (Nat → Int)) × Unit) : bodyK Tryz.prog known_Apply.cs known_Apply.live fu Tryz.f36 (known_Apply.a.enc a) known_Apply.r.dec = known_Apply.g fu a.1 a.2.1 a.2.2.1 a.2.2.2.1 a.2.2.2.2.1 := by kernel_rfl
theorem known_Apply.con : ∀ (a : Int × Int × Int × (Nat × (Nat → Int)) × (Nat × (Nat → Int) × (Nat → Int)) × Unit) (r : (Int × Int) × Int), known_Apply.f a.1 a.2.1 a.2.2.1 a.2.2.2.1 a.2.2.2.2.1 = some r → Contract Tryz.prog 36 (known_Apply.a.enc a) (known_Apply.r.enc r) := Contract.of_body (by kernel_rfl) (by kernel_rfl) mixed (known_Apply.eq (fuel0 + 1))
noncomputable def known_Apply.c : Kn Tryz.prog := Kn.of 36 known_Apply.a known_Apply.r (fun a => known_Apply.f a.1 a.2.1 a.2.2.1 a.2.2.2.1 a.2.2.2.2.1) known_Apply.con
end Go.Proofs.YtcihbcffokjgjaaGreat.Fn
