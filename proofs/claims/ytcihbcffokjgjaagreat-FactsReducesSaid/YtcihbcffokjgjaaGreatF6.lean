/- What the functions return, as the evaluator tells it: written by a program of this workplace (mev.py); Lean checks each equation. -/
import Derived.Test.YtcihbcffokjgjaaGreatProg
import Derived.Test.YtcihbcffokjgjaaGreatEvC
import Derived.Test.YtcihbcffokjgjaaGreatF0
import Derived.Test.YtcihbcffokjgjaaGreatF1
import Derived.Test.YtcihbcffokjgjaaGreatF2
namespace Go.Proofs.YtcihbcffokjgjaaGreat.Fn
open Go Go.RowKit Go.Proofs.YtcihbcffokjgjaaGreat.Ev Go.Proofs
set_option linter.unusedVariables false
set_option maxRecDepth 100000
/-! ### known_Has: function 69 -/
def known_Has.a : ACods (Int × (Int × Int) × Int × Unit) := (.cons (.val (.int .i64)) (.cons (.val (.agg (.cons (.int .u64) (.one (.int .u64))))) (.cons (.val (.int .u64)) .nil)))
def known_Has.r : RCod (Bool) := .val (.bool)
noncomputable def known_Has.cs : List (Kn Tryz.prog) := [known_of.c, bits_Cut.c]
def known_Has.live : Nat → Option Keep := liveOf []
noncomputable def known_Has.body : Code := bodyOf Tryz.f69
noncomputable def known_Has.K (fu : Nat) : Code → St → (Ex → St → Option (Bool)) → Option (Bool) := codeK Tryz.prog (known_Has.cs) known_Has.live fu
noncomputable def known_Has.f (a0 : Int) (a1 : Int × Int) (a2 : Int) : Option (Bool) :=
  (known_of.f a0 (a1.1, a1.2)).bind fun r1 =>
  (bits_Cut.f a0 a2).bind fun r2 =>
  bif ((Go.bits .and .u64 r2 r1.1) == 0) then
    some ((Go.bits .and .u64 r2 r1.2) == r1.2)
  else
    some false
theorem known_Has.eq (fu : Nat) (a : Int × (Int × Int) × Int × Unit) : bodyK Tryz.prog known_Has.cs known_Has.live fu Tryz.f69 (known_Has.a.enc a) known_Has.r.dec = known_Has.f a.1 a.2.1 a.2.2.1 := by kernel_rfl
theorem known_Has.con : ∀ (a : Int × (Int × Int) × Int × Unit) (r : Bool), known_Has.f a.1 a.2.1 a.2.2.1 = some r → Contract Tryz.prog 69 (known_Has.a.enc a) (known_Has.r.enc r) := Contract.of_body (F := fun (a : Int × (Int × Int) × Int × Unit) => known_Has.f a.1 a.2.1 a.2.2.1) (fn := Tryz.f69) (cs := known_Has.cs) (live := known_Has.live) (fuel := fuel0 + 1) (by kernel_rfl) (by kernel_rfl) mixed (known_Has.eq (fuel0 + 1))
noncomputable def known_Has.c : Kn Tryz.prog := Kn.of 69 known_Has.a known_Has.r (fun a => known_Has.f a.1 a.2.1 a.2.2.1) known_Has.con

/-! ### ranges_Has: function 70 -/
def ranges_Has.a : ACods (Int × (Int × Int) × Int × Unit) := (.cons (.val (.int .i64)) (.cons (.val (.agg (.cons (.int .u64) (.one (.int .u64))))) (.cons (.val (.int .u64)) .nil)))
def ranges_Has.r : RCod (Bool) := .val (.bool)
noncomputable def ranges_Has.cs : List (Kn Tryz.prog) := [ranges_norm.c, bits_Cut.c]
def ranges_Has.live : Nat → Option Keep := liveOf []
noncomputable def ranges_Has.body : Code := bodyOf Tryz.f70
noncomputable def ranges_Has.K (fu : Nat) : Code → St → (Ex → St → Option (Bool)) → Option (Bool) := codeK Tryz.prog (ranges_Has.cs) ranges_Has.live fu
noncomputable def ranges_Has.f (a0 : Int) (a1 : Int × Int) (a2 : Int) : Option (Bool) :=
  (ranges_norm.f a0 (a1.1, a1.2)).bind fun r1 =>
  (bits_Cut.f a0 a2).bind fun r2 =>
  bif (decide (r1.1 ≤ r2)) then
    some (decide (r2 ≤ r1.2))
  else
    some false
theorem ranges_Has.eq (fu : Nat) (a : Int × (Int × Int) × Int × Unit) : bodyK Tryz.prog ranges_Has.cs ranges_Has.live fu Tryz.f70 (ranges_Has.a.enc a) ranges_Has.r.dec = ranges_Has.f a.1 a.2.1 a.2.2.1 := by kernel_rfl
theorem ranges_Has.con : ∀ (a : Int × (Int × Int) × Int × Unit) (r : Bool), ranges_Has.f a.1 a.2.1 a.2.2.1 = some r → Contract Tryz.prog 70 (ranges_Has.a.enc a) (ranges_Has.r.enc r) := Contract.of_body (F := fun (a : Int × (Int × Int) × Int × Unit) => ranges_Has.f a.1 a.2.1 a.2.2.1) (fn := Tryz.f70) (cs := ranges_Has.cs) (live := ranges_Has.live) (fuel := fuel0 + 1) (by kernel_rfl) (by kernel_rfl) mixed (ranges_Has.eq (fuel0 + 1))
noncomputable def ranges_Has.c : Kn Tryz.prog := Kn.of 70 ranges_Has.a ranges_Has.r (fun a => ranges_Has.f a.1 a.2.1 a.2.2.1) ranges_Has.con

/-! ### facts_Has: function 25 -/
def facts_Has.a : ACods ((Int × Int × Int × Int × Int) × Int × Unit) := (.cons (.val (.agg (.cons (.int .i64) (.cons (.int .u64) (.cons (.int .u64) (.cons (.int .u64) (.one (.int .u64)))))))) (.cons (.val (.int .u64)) .nil))
def facts_Has.r : RCod (Bool) := .val (.bool)
noncomputable def facts_Has.cs : List (Kn Tryz.prog) := [facts_of.c, known_Has.c, ranges_Has.c]
def facts_Has.live : Nat → Option Keep := liveOf []
noncomputable def facts_Has.body : Code := bodyOf Tryz.f25
noncomputable def facts_Has.K (fu : Nat) : Code → St → (Ex → St → Option (Bool)) → Option (Bool) := codeK Tryz.prog (facts_Has.cs) facts_Has.live fu
noncomputable def facts_Has.f (a0 : Int × Int × Int × Int × Int) (a1 : Int) : Option (Bool) :=
  (facts_of.f (a0.1, a0.2.1, a0.2.2.1, a0.2.2.2.1, a0.2.2.2.2)).bind fun r1 =>
  (known_Has.f r1.1 (r1.2.1, r1.2.2.1) a1).bind fun r2 =>
  bif r2 then
    (ranges_Has.f r1.1 (r1.2.2.2.1, r1.2.2.2.2) a1).bind fun r3 =>
    some r3
  else
    some false
theorem facts_Has.eq (fu : Nat) (a : (Int × Int × Int × Int × Int) × Int × Unit) : bodyK Tryz.prog facts_Has.cs facts_Has.live fu Tryz.f25 (facts_Has.a.enc a) facts_Has.r.dec = facts_Has.f a.1 a.2.1 := by kernel_rfl
theorem facts_Has.con : ∀ (a : (Int × Int × Int × Int × Int) × Int × Unit) (r : Bool), facts_Has.f a.1 a.2.1 = some r → Contract Tryz.prog 25 (facts_Has.a.enc a) (facts_Has.r.enc r) := Contract.of_body (F := fun (a : (Int × Int × Int × Int × Int) × Int × Unit) => facts_Has.f a.1 a.2.1) (fn := Tryz.f25) (cs := facts_Has.cs) (live := facts_Has.live) (fuel := fuel0 + 1) (by kernel_rfl) (by kernel_rfl) mixed (facts_Has.eq (fuel0 + 1))
noncomputable def facts_Has.c : Kn Tryz.prog := Kn.of 25 facts_Has.a facts_Has.r (fun a => facts_Has.f a.1 a.2.1) facts_Has.con
end Go.Proofs.YtcihbcffokjgjaaGreat.Fn
