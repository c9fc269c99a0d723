/- What the functions return, as the evaluator tells it: written by a program of this workplace (mev.py); Lean checks each equation. -/
import Derived.Test.YtcihbcffokjgjaaGreatProg
import Derived.Test.YtcihbcffokjgjaaGreatEvC
import Derived.Test.YtcihbcffokjgjaaGreatF0
import Derived.Test.YtcihbcffokjgjaaGreatF1
import Derived.Test.YtcihbcffokjgjaaGreatF2
namespace Go.Proofs.YtcihbcffokjgjaaGreat.Fn
open Go Go.RowKit Go.Proofs.YtcihbcffokjgjaaGreat.Ev Go.Proofs
set_option linter.unusedVariables false
set_option maxRecDepth 100000
/-! ### known_Leq: function 58 -/
def known_Leq.a : ACods (Int × (Int × Int) × (Int × Int) × Unit) := (.cons (.val (.int .i64)) (.cons (.val (.agg (.cons (.int .u64) (.one (.int .u64))))) (.cons (.val (.agg (.cons (.int .u64) (.one (.int .u64))))) .nil)))
def known_Leq.r : RCod (Bool) := .val (.bool)
noncomputable def known_Leq.cs : List (Kn Tryz.prog) := [known_Meet.c, known_of.c]
def known_Leq.live : Nat → Option Keep := liveOf []
noncomputable def known_Leq.body : Code := bodyOf Tryz.f58
noncomputable def known_Leq.K (fu : Nat) : Code → St → (Ex → St → Option (Bool)) → Option (Bool) := codeK Tryz.prog (known_Leq.cs) known_Leq.live fu
noncomputable def known_Leq.f (a0 : Int) (a1 : Int × Int) (a2 : Int × Int) : Option (Bool) :=
  (known_Meet.f a0 (a1.1, a1.2) (a2.1, a2.2)).bind fun r1 =>
  bif r1.2 then
    (known_of.f a0 (a1.1, a1.2)).bind fun r2 =>
    some ((r1.1.1 == r2.1) && ((r1.1.2 == r2.2) && true))
  else
    some false
theorem known_Leq.eq (fu : Nat) (a : Int × (Int × Int) × (Int × Int) × Unit) : bodyK Tryz.prog known_Leq.cs known_Leq.live fu Tryz.f58 (known_Leq.a.enc a) known_Leq.r.dec = known_Leq.f a.1 a.2.1 a.2.2.1 := by kernel_rfl
theorem known_Leq.con : ∀ (a : Int × (Int × Int) × (Int × Int) × Unit) (r : Bool), known_Leq.f a.1 a.2.1 a.2.2.1 = some r → Contract Tryz.prog 58 (known_Leq.a.enc a) (known_Leq.r.enc r) := Contract.of_body (F := fun (a : Int × (Int × Int) × (Int × Int) × Unit) => known_Leq.f a.1 a.2.1 a.2.2.1) (fn := Tryz.f58) (cs := known_Leq.cs) (live := known_Leq.live) (fuel := fuel0 + 1) (by kernel_rfl) (by kernel_rfl) mixed (known_Leq.eq (fuel0 + 1))
noncomputable def known_Leq.c : Kn Tryz.prog := Kn.of 58 known_Leq.a known_Leq.r (fun a => known_Leq.f a.1 a.2.1 a.2.2.1) known_Leq.con

/-! ### ranges_Leq: function 59 -/
def ranges_Leq.a : ACods (Int × (Int × Int) × (Int × Int) × Unit) := (.cons (.val (.int .i64)) (.cons (.val (.agg (.cons (.int .u64) (.one (.int .u64))))) (.cons (.val (.agg (.cons (.int .u64) (.one (.int .u64))))) .nil)))
def ranges_Leq.r : RCod (Bool) := .val (.bool)
noncomputable def ranges_Leq.cs : List (Kn Tryz.prog) := [ranges_norm.c]
def ranges_Leq.live : Nat → Option Keep := liveOf []
noncomputable def ranges_Leq.body : Code := bodyOf Tryz.f59
noncomputable def ranges_Leq.K (fu : Nat) : Code → St → (Ex → St → Option (Bool)) → Option (Bool) := codeK Tryz.prog (ranges_Leq.cs) ranges_Leq.live fu
noncomputable def ranges_Leq.f (a0 : Int) (a1 : Int × Int) (a2 : Int × Int) : Option (Bool) :=
  (ranges_norm.f a0 (a1.1, a1.2)).bind fun r1 =>
  (ranges_norm.f a0 (a2.1, a2.2)).bind fun r2 =>
  bif (decide (r2.1 ≤ r1.1)) then
    some (decide (r1.2 ≤ r2.2))
  else
    some false
theorem ranges_Leq.eq (fu : Nat) (a : Int × (Int × Int) × (Int × Int) × Unit) : bodyK Tryz.prog ranges_Leq.cs ranges_Leq.live fu Tryz.f59 (ranges_Leq.a.enc a) ranges_Leq.r.dec = ranges_Leq.f a.1 a.2.1 a.2.2.1 := by kernel_rfl
theorem ranges_Leq.con : ∀ (a : Int × (Int × Int) × (Int × Int) × Unit) (r : Bool), ranges_Leq.f a.1 a.2.1 a.2.2.1 = some r → Contract Tryz.prog 59 (ranges_Leq.a.enc a) (ranges_Leq.r.enc r) := Contract.of_body (F := fun (a : Int × (Int × Int) × (Int × Int) × Unit) => ranges_Leq.f a.1 a.2.1 a.2.2.1) (fn := Tryz.f59) (cs := ranges_Leq.cs) (live := ranges_Leq.live) (fuel := fuel0 + 1) (by kernel_rfl) (by kernel_rfl) mixed (ranges_Leq.eq (fuel0 + 1))
noncomputable def ranges_Leq.c : Kn Tryz.prog := Kn.of 59 ranges_Leq.a ranges_Leq.r (fun a => ranges_Leq.f a.1 a.2.1 a.2.2.1) ranges_Leq.con

/-! ### facts_Leq: function 19 -/
def facts_Leq.a : ACods ((Int × Int × Int × Int × Int) × (Int × Int × Int × Int × Int) × Unit) := (.cons (.val (.agg (.cons (.int .i64) (.cons (.int .u64) (.cons (.int .u64) (.cons (.int .u64) (.one (.int .u64)))))))) (.cons (.val (.agg (.cons (.int .i64) (.cons (.int .u64) (.cons (.int .u64) (.cons (.int .u64) (.one (.int .u64)))))))) .nil))
def facts_Leq.r : RCod (Bool) := .val (.bool)
noncomputable def facts_Leq.cs : List (Kn Tryz.prog) := [facts_of.c, known_Leq.c, ranges_Leq.c]
def facts_Leq.live : Nat → Option Keep := liveOf []
noncomputable def facts_Leq.body : Code := bodyOf Tryz.f19
noncomputable def facts_Leq.K (fu : Nat) : Code → St → (Ex → St → Option (Bool)) → Option (Bool) := codeK Tryz.prog (facts_Leq.cs) facts_Leq.live fu
noncomputable def facts_Leq.f (a0 : Int × Int × Int × Int × Int) (a1 : Int × Int × Int × Int × Int) : Option (Bool) :=
  (facts_of.f (a0.1, a0.2.1, a0.2.2.1, a0.2.2.2.1, a0.2.2.2.2)).bind fun r1 =>
  (facts_of.f (a1.1, a1.2.1, a1.2.2.1, a1.2.2.2.1, a1.2.2.2.2)).bind fun r2 =>
  bif (r1.1 == r2.1) then
    (known_Leq.f r1.1 (r1.2.1, r1.2.2.1) (r2.2.1, r2.2.2.1)).bind fun r3 =>
    bif r3 then
      (ranges_Leq.f r1.1 (r1.2.2.2.1, r1.2.2.2.2) (r2.2.2.2.1, r2.2.2.2.2)).bind fun r4 =>
      some r4
    else
      some false
  else
    some false
theorem facts_Leq.eq (fu : Nat) (a : (Int × Int × Int × Int × Int) × (Int × Int × Int × Int × Int) × Unit) : bodyK Tryz.prog facts_Leq.cs facts_Leq.live fu Tryz.f19 (facts_Leq.a.enc a) facts_Leq.r.dec = facts_Leq.f a.1 a.2.1 := by kernel_rfl
theorem facts_Leq.con : ∀ (a : (Int × Int × Int × Int × Int) × (Int × Int × Int × Int × Int) × Unit) (r : Bool), facts_Leq.f a.1 a.2.1 = some r → Contract Tryz.prog 19 (facts_Leq.a.enc a) (facts_Leq.r.enc r) := Contract.of_body (F := fun (a : (Int × Int × Int × Int × Int) × (Int × Int × Int × Int × Int) × Unit) => facts_Leq.f a.1 a.2.1) (fn := Tryz.f19) (cs := facts_Leq.cs) (live := facts_Leq.live) (fuel := fuel0 + 1) (by kernel_rfl) (by kernel_rfl) mixed (facts_Leq.eq (fuel0 + 1))
noncomputable def facts_Leq.c : Kn Tryz.prog := Kn.of 19 facts_Leq.a facts_Leq.r (fun a => facts_Leq.f a.1 a.2.1) facts_Leq.con
end Go.Proofs.YtcihbcffokjgjaaGreat.Fn
