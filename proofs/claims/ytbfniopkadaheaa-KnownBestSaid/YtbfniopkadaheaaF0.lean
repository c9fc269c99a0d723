/- What the functions return, as the evaluator tells it: written by a program of this workplace (mev.py); Lean checks each equation. -/
import Derived.Test.YtbfniopkadaheaaProg
import Derived.Test.YtbfniopkadaheaaEvC
namespace Go.Proofs.Ytbfniopkadaheaa.Fn
open Go Go.RowKit Go.Proofs.Ytbfniopkadaheaa.Ev Go.Proofs
set_option linter.unusedVariables false
set_option maxRecDepth 100000
theorem mixed : Try.prog.follows .mixedOrders = true := by kernel_rfl
def fuel0 : Nat := 18446744073709551615
/-! ### saturatelaw12_few: function 10 -/
def saturatelaw12_few.a : ACods ((Int × Int × Int × (Nat × (Nat → Int)) × (Nat × (Nat → Int) × (Nat → Int))) × Unit) := (.cons (.pk (.cons (.val (.int .i64)) (.cons (.val (.int .i64)) (.cons (.val (.int .u64)) (.cons (.rows (.int1 .i64)) (.one (.rows (.int .u64 (.int1 .u64))))))))) .nil)
def saturatelaw12_few.r : RCod (Bool) := .val (.bool)
noncomputable def saturatelaw12_few.cs : List (Kn Try.prog) := []
def saturatelaw12_few.live : Nat → Option Keep := liveOf []
noncomputable def saturatelaw12_few.body : Code := bodyOf Try.f10
noncomputable def saturatelaw12_few.K (fu : Nat) : Code → St → (Ex → St → Option (Bool)) → Option (Bool) := codeK Try.prog saturatelaw12_few.cs saturatelaw12_few.live fu
noncomputable def saturatelaw12_few.f (a0 : Int × Int × Int × (Nat × (Nat → Int)) × (Nat × (Nat → Int) × (Nat → Int))) : Option (Bool) :=
  bif (decide ((a0.2.2.2.1.1 : Int) ≤ 5)) then
    some (decide ((a0.2.2.2.2.1 : Int) ≤ 5))
  else
    some false
theorem saturatelaw12_few.eq (fu : Nat) (a : (Int × Int × Int × (Nat × (Nat → Int)) × (Nat × (Nat → Int) × (Nat → Int))) × Unit) : bodyK Try.prog saturatelaw12_few.cs saturatelaw12_few.live fu Try.f10 (saturatelaw12_few.a.enc a) saturatelaw12_few.r.dec = saturatelaw12_few.f a.1 := by kernel_rfl
theorem saturatelaw12_few.con : ∀ (a : (Int × Int × Int × (Nat × (Nat → Int)) × (Nat × (Nat → Int) × (Nat → Int))) × Unit) (r : Bool), saturatelaw12_few.f a.1 = some r → Contract Try.prog 10 (saturatelaw12_few.a.enc a) (saturatelaw12_few.r.enc r) := Contract.of_body (F := fun (a : (Int × Int × Int × (Nat × (Nat → Int)) × (Nat × (Nat → Int) × (Nat → Int))) × Unit) => saturatelaw12_few.f a.1) (fn := Try.f10) (cs := saturatelaw12_few.cs) (live := saturatelaw12_few.live) (fuel := fuel0 + 1) (by kernel_rfl) (by kernel_rfl) mixed (saturatelaw12_few.eq (fuel0 + 1))
noncomputable def saturatelaw12_few.c : Kn Try.prog := Kn.of 10 saturatelaw12_few.a saturatelaw12_few.r (fun a => saturatelaw12_few.f a.1) saturatelaw12_few.con

/-! ### bits_clamp: function 87 -/
def bits_clamp.a : ACods (Int × Unit) := (.cons (.val (.int .i64)) .nil)
def bits_clamp.r : RCod (Int) := .val (.int .i64)
noncomputable def bits_clamp.cs : List (Kn Try.prog) := []
def bits_clamp.live : Nat → Option Keep := liveOf []
noncomputable def bits_clamp.body : Code := bodyOf Try.f87
noncomputable def bits_clamp.K (fu : Nat) : Code → St → (Ex → St → Option (Int)) → Option (Int) := codeK Try.prog bits_clamp.cs bits_clamp.live fu
noncomputable def bits_clamp.f (a0 : Int) : Option (Int) :=
  some (mn (mx a0 1) 64)
theorem bits_clamp.eq (fu : Nat) (a : Int × Unit) : bodyK Try.prog bits_clamp.cs bits_clamp.live fu Try.f87 (bits_clamp.a.enc a) bits_clamp.r.dec = bits_clamp.f a.1 := by kernel_rfl
theorem bits_clamp.con : ∀ (a : Int × Unit) (r : Int), bits_clamp.f a.1 = some r → Contract Try.prog 87 (bits_clamp.a.enc a) (bits_clamp.r.enc r) := Contract.of_body (F := fun (a : Int × Unit) => bits_clamp.f a.1) (fn := Try.f87) (cs := bits_clamp.cs) (live := bits_clamp.live) (fuel := fuel0 + 1) (by kernel_rfl) (by kernel_rfl) mixed (bits_clamp.eq (fuel0 + 1))
noncomputable def bits_clamp.c : Kn Try.prog := Kn.of 87 bits_clamp.a bits_clamp.r (fun a => bits_clamp.f a.1) bits_clamp.con

/-! ### bits_Mask: function 60 -/
def bits_Mask.a : ACods (Int × Unit) := (.cons (.val (.int .i64)) .nil)
def bits_Mask.r : RCod (Int) := .val (.int .u64)
noncomputable def bits_Mask.cs : List (Kn Try.prog) := [bits_clamp.c]
def bits_Mask.live : Nat → Option Keep := liveOf []
noncomputable def bits_Mask.body : Code := bodyOf Try.f60
noncomputable def bits_Mask.K (fu : Nat) : Code → St → (Ex → St → Option (Int)) → Option (Int) := codeK Try.prog bits_Mask.cs bits_Mask.live fu
noncomputable def bits_Mask.f (a0 : Int) : Option (Int) :=
  (bits_clamp.f a0).bind fun r1 =>
  bif decide ((IntKind.i64.wrap (64 - r1)) < 0) then
    none
  else
    some (shr .u64 18446744073709551615 (IntKind.i64.wrap (64 - r1)))
theorem bits_Mask.eq (fu : Nat) (a : Int × Unit) : bodyK Try.prog bits_Mask.cs bits_Mask.live fu Try.f60 (bits_Mask.a.enc a) bits_Mask.r.dec = bits_Mask.f a.1 := by kernel_rfl
theorem bits_Mask.con : ∀ (a : Int × Unit) (r : Int), bits_Mask.f a.1 = some r → Contract Try.prog 60 (bits_Mask.a.enc a) (bits_Mask.r.enc r) := Contract.of_body (F := fun (a : Int × Unit) => bits_Mask.f a.1) (fn := Try.f60) (cs := bits_Mask.cs) (live := bits_Mask.live) (fuel := fuel0 + 1) (by kernel_rfl) (by kernel_rfl) mixed (bits_Mask.eq (fuel0 + 1))
noncomputable def bits_Mask.c : Kn Try.prog := Kn.of 60 bits_Mask.a bits_Mask.r (fun a => bits_Mask.f a.1) bits_Mask.con

/-! ### known_Valid: function 32 -/
def known_Valid.a : ACods (Int × (Int × Int) × Unit) := (.cons (.val (.int .i64)) (.cons (.val (.agg (.cons (.int .u64) (.one (.int .u64))))) .nil))
def known_Valid.r : RCod (Bool) := .val (.bool)
noncomputable def known_Valid.cs : List (Kn Try.prog) := [bits_Mask.c]
def known_Valid.live : Nat → Option Keep := liveOf []
noncomputable def known_Valid.body : Code := bodyOf Try.f32
noncomputable def known_Valid.K (fu : Nat) : Code → St → (Ex → St → Option (Bool)) → Option (Bool) := codeK Try.prog known_Valid.cs known_Valid.live fu
noncomputable def known_Valid.f (a0 : Int) (a1 : Int × Int) : Option (Bool) :=
  bif ((Go.bits .and .u64 a1.1 a1.2) == 0) then
    (bits_Mask.f a0).bind fun r1 =>
    some ((Go.bits .andNot .u64 (Go.bits .or .u64 a1.1 a1.2) r1) == 0)
  else
    some false
theorem known_Valid.eq (fu : Nat) (a : Int × (Int × Int) × Unit) : bodyK Try.prog known_Valid.cs known_Valid.live fu Try.f32 (known_Valid.a.enc a) known_Valid.r.dec = known_Valid.f a.1 a.2.1 := by kernel_rfl
theorem known_Valid.con : ∀ (a : Int × (Int × Int) × Unit) (r : Bool), known_Valid.f a.1 a.2.1 = some r → Contract Try.prog 32 (known_Valid.a.enc a) (known_Valid.r.enc r) := Contract.of_body (F := fun (a : Int × (Int × Int) × Unit) => known_Valid.f a.1 a.2.1) (fn := Try.f32) (cs := known_Valid.cs) (live := known_Valid.live) (fuel := fuel0 + 1) (by kernel_rfl) (by kernel_rfl) mixed (known_Valid.eq (fuel0 + 1))
noncomputable def known_Valid.c : Kn Try.prog := Kn.of 32 known_Valid.a known_Valid.r (fun a => known_Valid.f a.1 a.2.1) known_Valid.con

/-! ### known_of: function 41 -/
def known_of.a : ACods (Int × (Int × Int) × Unit) := (.cons (.val (.int .i64)) (.cons (.val (.agg (.cons (.int .u64) (.one (.int .u64))))) .nil))
def known_of.r : RCod (Int × Int) := .val (.agg (.cons (.int .u64) (.one (.int .u64))))
noncomputable def known_of.cs : List (Kn Try.prog) := [known_Valid.c]
def known_of.live : Nat → Option Keep := liveOf []
noncomputable def known_of.body : Code := bodyOf Try.f41
noncomputable def known_of.K (fu : Nat) : Code → St → (Ex → St → Option (Int × Int)) → Option (Int × Int) := codeK Try.prog known_of.cs known_of.live fu
noncomputable def known_of.f (a0 : Int) (a1 : Int × Int) : Option (Int × Int) :=
  (known_Valid.f a0 (a1.1, a1.2)).bind fun r1 =>
  bif r1 then
    some (a1.1, a1.2)
  else
    some (0, 0)
theorem known_of.eq (fu : Nat) (a : Int × (Int × Int) × Unit) : bodyK Try.prog known_of.cs known_of.live fu Try.f41 (known_of.a.enc a) known_of.r.dec = known_of.f a.1 a.2.1 := by kernel_rfl
theorem known_of.con : ∀ (a : Int × (Int × Int) × Unit) (r : Int × Int), known_of.f a.1 a.2.1 = some r → Contract Try.prog 41 (known_of.a.enc a) (known_of.r.enc r) := Contract.of_body (F := fun (a : Int × (Int × Int) × Unit) => known_of.f a.1 a.2.1) (fn := Try.f41) (cs := known_of.cs) (live := known_of.live) (fuel := fuel0 + 1) (by kernel_rfl) (by kernel_rfl) mixed (known_of.eq (fuel0 + 1))
noncomputable def known_of.c : Kn Try.prog := Kn.of 41 known_of.a known_of.r (fun a => known_of.f a.1 a.2.1) known_of.con

/-! ### known_Meet: function 21 -/
def known_Meet.a : ACods (Int × (Int × Int) × (Int × Int) × Unit) := (.cons (.val (.int .i64)) (.cons (.val (.agg (.cons (.int .u64) (.one (.int .u64))))) (.cons (.val (.agg (.cons (.int .u64) (.one (.int .u64))))) .nil)))
def known_Meet.r : RCod ((Int × Int) × Bool) := .val (.tup (.cons (.agg (.cons (.int .u64) (.one (.int .u64)))) (.one (.bool))))
noncomputable def known_Meet.cs : List (Kn Try.prog) := [known_of.c]
def known_Meet.live : Nat → Option Keep := liveOf []
noncomputable def known_Meet.body : Code := bodyOf Try.f21
noncomputable def known_Meet.K (fu : Nat) : Code → St → (Ex → St → Option ((Int × Int) × Bool)) → Option ((Int × Int) × Bool) := codeK Try.prog known_Meet.cs known_Meet.live fu
noncomputable def known_Meet.f (a0 : Int) (a1 : Int × Int) (a2 : Int × Int) : Option ((Int × Int) × Bool) :=
  (known_of.f a0 (a1.1, a1.2)).bind fun r1 =>
  (known_of.f a0 (a2.1, a2.2)).bind fun r2 =>
  bif ((Go.bits .and .u64 (Go.bits .or .u64 r1.1 r2.1) (Go.bits .or .u64 r1.2 r2.2)) != 0) then
    some ((0, 0), false)
  else
    some (((Go.bits .or .u64 r1.1 r2.1), (Go.bits .or .u64 r1.2 r2.2)), true)
theorem known_Meet.eq (fu : Nat) (a : Int × (Int × Int) × (Int × Int) × Unit) : bodyK Try.prog known_Meet.cs known_Meet.live fu Try.f21 (known_Meet.a.enc a) known_Meet.r.dec = known_Meet.f a.1 a.2.1 a.2.2.1 := by kernel_rfl
theorem known_Meet.con : ∀ (a : Int × (Int × Int) × (Int × Int) × Unit) (r : (Int × Int) × Bool), known_Meet.f a.1 a.2.1 a.2.2.1 = some r → Contract Try.prog 21 (known_Meet.a.enc a) (known_Meet.r.enc r) := Contract.of_body (F := fun (a : Int × (Int × Int) × (Int × Int) × Unit) => known_Meet.f a.1 a.2.1 a.2.2.1) (fn := Try.f21) (cs := known_Meet.cs) (live := known_Meet.live) (fuel := fuel0 + 1) (by kernel_rfl) (by kernel_rfl) mixed (known_Meet.eq (fuel0 + 1))
noncomputable def known_Meet.c : Kn Try.prog := Kn.of 21 known_Meet.a known_Meet.r (fun a => known_Meet.f a.1 a.2.1 a.2.2.1) known_Meet.con

/-! ### bits_Cut: function 59 -/
def bits_Cut.a : ACods (Int × Int × Unit) := (.cons (.val (.int .i64)) (.cons (.val (.int .u64)) .nil))
def bits_Cut.r : RCod (Int) := .val (.int .u64)
noncomputable def bits_Cut.cs : List (Kn Try.prog) := [bits_Mask.c]
def bits_Cut.live : Nat → Option Keep := liveOf []
noncomputable def bits_Cut.body : Code := bodyOf Try.f59
noncomputable def bits_Cut.K (fu : Nat) : Code → St → (Ex → St → Option (Int)) → Option (Int) := codeK Try.prog bits_Cut.cs bits_Cut.live fu
noncomputable def bits_Cut.f (a0 : Int) (a1 : Int) : Option (Int) :=
  (bits_Mask.f a0).bind fun r1 =>
  some (Go.bits .and .u64 a1 r1)
theorem bits_Cut.eq (fu : Nat) (a : Int × Int × Unit) : bodyK Try.prog bits_Cut.cs bits_Cut.live fu Try.f59 (bits_Cut.a.enc a) bits_Cut.r.dec = bits_Cut.f a.1 a.2.1 := by kernel_rfl
theorem bits_Cut.con : ∀ (a : Int × Int × Unit) (r : Int), bits_Cut.f a.1 a.2.1 = some r → Contract Try.prog 59 (bits_Cut.a.enc a) (bits_Cut.r.enc r) := Contract.of_body (F := fun (a : Int × Int × Unit) => bits_Cut.f a.1 a.2.1) (fn := Try.f59) (cs := bits_Cut.cs) (live := bits_Cut.live) (fuel := fuel0 + 1) (by kernel_rfl) (by kernel_rfl) mixed (bits_Cut.eq (fuel0 + 1))
noncomputable def bits_Cut.c : Kn Try.prog := Kn.of 59 bits_Cut.a bits_Cut.r (fun a => bits_Cut.f a.1 a.2.1) bits_Cut.con

/-! ### bits_Not: function 61 -/
def bits_Not.a : ACods (Int × Int × Unit) := (.cons (.val (.int .i64)) (.cons (.val (.int .u64)) .nil))
def bits_Not.r : RCod (Int) := .val (.int .u64)
noncomputable def bits_Not.cs : List (Kn Try.prog) := [bits_Cut.c]
def bits_Not.live : Nat → Option Keep := liveOf []
noncomputable def bits_Not.body : Code := bodyOf Try.f61
noncomputable def bits_Not.K (fu : Nat) : Code → St → (Ex → St → Option (Int)) → Option (Int) := codeK Try.prog bits_Not.cs bits_Not.live fu
noncomputable def bits_Not.f (a0 : Int) (a1 : Int) : Option (Int) :=
  (bits_Cut.f a0 (Go.bits .xor .u64 18446744073709551615 a1)).bind fun r1 =>
  some r1
theorem bits_Not.eq (fu : Nat) (a : Int × Int × Unit) : bodyK Try.prog bits_Not.cs bits_Not.live fu Try.f61 (bits_Not.a.enc a) bits_Not.r.dec = bits_Not.f a.1 a.2.1 := by kernel_rfl
theorem bits_Not.con : ∀ (a : Int × Int × Unit) (r : Int), bits_Not.f a.1 a.2.1 = some r → Contract Try.prog 61 (bits_Not.a.enc a) (bits_Not.r.enc r) := Contract.of_body (F := fun (a : Int × Int × Unit) => bits_Not.f a.1 a.2.1) (fn := Try.f61) (cs := bits_Not.cs) (live := bits_Not.live) (fuel := fuel0 + 1) (by kernel_rfl) (by kernel_rfl) mixed (bits_Not.eq (fuel0 + 1))
noncomputable def bits_Not.c : Kn Try.prog := Kn.of 61 bits_Not.a bits_Not.r (fun a => bits_Not.f a.1 a.2.1) bits_Not.con

/-! ### known_Const: function 37 -/
def known_Const.a : ACods (Int × Int × Unit) := (.cons (.val (.int .i64)) (.cons (.val (.int .u64)) .nil))
def known_Const.r : RCod (Int × Int) := .val (.agg (.cons (.int .u64) (.one (.int .u64))))
noncomputable def known_Const.cs : List (Kn Try.prog) := [bits_Cut.c, bits_Not.c]
def known_Const.live : Nat → Option Keep := liveOf []
noncomputable def known_Const.body : Code := bodyOf Try.f37
noncomputable def known_Const.K (fu : Nat) : Code → St → (Ex → St → Option (Int × Int)) → Option (Int × Int) := codeK Try.prog known_Const.cs known_Const.live fu
noncomputable def known_Const.f (a0 : Int) (a1 : Int) : Option (Int × Int) :=
  (bits_Cut.f a0 a1).bind fun r1 =>
  (bits_Not.f a0 r1).bind fun r2 =>
  some (r2, r1)
theorem known_Const.eq (fu : Nat) (a : Int × Int × Unit) : bodyK Try.prog known_Const.cs known_Const.live fu Try.f37 (known_Const.a.enc a) known_Const.r.dec = known_Const.f a.1 a.2.1 := by kernel_rfl
theorem known_Const.con : ∀ (a : Int × Int × Unit) (r : Int × Int), known_Const.f a.1 a.2.1 = some r → Contract Try.prog 37 (known_Const.a.enc a) (known_Const.r.enc r) := Contract.of_body (F := fun (a : Int × Int × Unit) => known_Const.f a.1 a.2.1) (fn := Try.f37) (cs := known_Const.cs) (live := known_Const.live) (fuel := fuel0 + 1) (by kernel_rfl) (by kernel_rfl) mixed (known_Const.eq (fuel0 + 1))
noncomputable def known_Const.c : Kn Try.prog := Kn.of 37 known_Const.a known_Const.r (fun a => known_Const.f a.1 a.2.1) known_Const.con

/-! ### opinfo_known: function 89 -/
def opinfo_known.a : ACods (Int × Unit) := (.cons (.val (.int .i64)) .nil)
def opinfo_known.r : RCod (Bool) := .val (.bool)
noncomputable def opinfo_known.cs : List (Kn Try.prog) := []
def opinfo_known.live : Nat → Option Keep := liveOf []
noncomputable def opinfo_known.body : Code := bodyOf Try.f89
noncomputable def opinfo_known.K (fu : Nat) : Code → St → (Ex → St → Option (Bool)) → Option (Bool) := codeK Try.prog opinfo_known.cs opinfo_known.live fu
noncomputable def opinfo_known.f (a0 : Int) : Option (Bool) :=
  bif (decide (a0 ≥ 1)) then
    some (decide (a0 ≤ 26))
  else
    some false
theorem opinfo_known.eq (fu : Nat) (a : Int × Unit) : bodyK Try.prog opinfo_known.cs opinfo_known.live fu Try.f89 (opinfo_known.a.enc a) opinfo_known.r.dec = opinfo_known.f a.1 := by kernel_rfl
theorem opinfo_known.con : ∀ (a : Int × Unit) (r : Bool), opinfo_known.f a.1 = some r → Contract Try.prog 89 (opinfo_known.a.enc a) (opinfo_known.r.enc r) := Contract.of_body (F := fun (a : Int × Unit) => opinfo_known.f a.1) (fn := Try.f89) (cs := opinfo_known.cs) (live := opinfo_known.live) (fuel := fuel0 + 1) (by kernel_rfl) (by kernel_rfl) mixed (opinfo_known.eq (fuel0 + 1))
noncomputable def opinfo_known.c : Kn Try.prog := Kn.of 89 opinfo_known.a opinfo_known.r (fun a => opinfo_known.f a.1) opinfo_known.con

/-! ### opinfo_Arity: function 90 -/
def opinfo_Arity.a : ACods (Int × Unit) := (.cons (.val (.int .i64)) .nil)
def opinfo_Arity.r : RCod (Int) := .val (.int .i64)
noncomputable def opinfo_Arity.cs : List (Kn Try.prog) := []
def opinfo_Arity.live : Nat → Option Keep := liveOf [(60, ⟨[3], [], []⟩), (62, ⟨[3], [], []⟩), (64, ⟨[3], [], []⟩)]
noncomputable def opinfo_Arity.body : Code := bodyOf Try.f90
noncomputable def opinfo_Arity.K (fu : Nat) : Code → St → (Ex → St → Option (Int)) → Option (Int) := codeK Try.prog opinfo_Arity.cs opinfo_Arity.live fu
noncomputable def opinfo_Arity.p30 (m fu : Nat) (x3 : Int) : Option Int :=
  joinK m (opinfo_Arity.K fu (sub opinfo_Arity.body [true, true, false, true, false, false, false, false, false, true])) (stOf 42 [(3, .val (.int .i64 x3))] []) (blockC 3 (seqC fu (opinfo_Arity.live 62) (opinfo_Arity.K fu (sub opinfo_Arity.body [true, true, false, true, false, false, false, true])) (blockC 4 (seqC fu (opinfo_Arity.live 64) (opinfo_Arity.K fu (sub opinfo_Arity.body [true, true, false, true, false, true])) (blockC 0 (seqC fu (opinfo_Arity.live 66) (opinfo_Arity.K fu (sub opinfo_Arity.body [true, true, true])) (retC Try.prog Try.f90.results opinfo_Arity.r.dec)))))))
noncomputable def opinfo_Arity.p31 (m fu : Nat) (x3 : Int) : Option Int :=
  joinK m (opinfo_Arity.K fu (sub opinfo_Arity.body [true, true, false, true, false, false, false, true])) (stOf 42 [(3, .val (.int .i64 x3))] []) (blockC 4 (seqC fu (opinfo_Arity.live 64) (opinfo_Arity.K fu (sub opinfo_Arity.body [true, true, false, true, false, true])) (blockC 0 (seqC fu (opinfo_Arity.live 66) (opinfo_Arity.K fu (sub opinfo_Arity.body [true, true, true])) (retC Try.prog Try.f90.results opinfo_Arity.r.dec)))))
noncomputable def opinfo_Arity.p32 (m fu : Nat) (x3 : Int) : Option Int :=
  joinK m (opinfo_Arity.K fu (sub opinfo_Arity.body [true, true, false, true, false, true])) (stOf 42 [(3, .val (.int .i64 x3))] []) (blockC 0 (seqC fu (opinfo_Arity.live 66) (opinfo_Arity.K fu (sub opinfo_Arity.body [true, true, true])) (retC Try.prog Try.f90.results opinfo_Arity.r.dec)))
theorem opinfo_Arity.p32_eq (m fu : Nat) (x3 : Int) : opinfo_Arity.p32 (m + 1) fu x3 =
  some x3 := by kernel_rfl
theorem opinfo_Arity.p31_eq (m fu : Nat) (x3 : Int) : opinfo_Arity.p31 (m + 1) fu x3 =
  opinfo_Arity.p32 fu fu (IntKind.i64.wrap (x3 + 1)) := by kernel_rfl
theorem opinfo_Arity.p30_eq (m fu : Nat) (x3 : Int) : opinfo_Arity.p30 (m + 1) fu x3 =
  opinfo_Arity.p31 fu fu (IntKind.i64.wrap (x3 + 1)) := by kernel_rfl
noncomputable def opinfo_Arity.g (fu : Nat) (a0 : Int) : Option (Int) :=
  bif (a0 == 19) then
    opinfo_Arity.p30 fu fu 1
  else
    bif (a0 == 5) then
      opinfo_Arity.p30 fu fu 0
    else
      bif (a0 == 6) then
        opinfo_Arity.p30 fu fu 0
      else
        bif (a0 == 7) then
          opinfo_Arity.p30 fu fu 0
        else
          bif (a0 == 8) then
            opinfo_Arity.p30 fu fu 0
          else
            bif (a0 == 9) then
              opinfo_Arity.p30 fu fu 0
            else
              bif (a0 == 10) then
                opinfo_Arity.p30 fu fu 0
              else
                bif (a0 == 11) then
                  opinfo_Arity.p30 fu fu 0
                else
                  bif (a0 == 12) then
                    opinfo_Arity.p30 fu fu 0
                  else
                    bif (a0 == 13) then
                      opinfo_Arity.p30 fu fu 0
                    else
                      bif (a0 == 14) then
                        opinfo_Arity.p30 fu fu 0
                      else
                        bif (a0 == 15) then
                          opinfo_Arity.p30 fu fu 0
                        else
                          bif (a0 == 16) then
                            opinfo_Arity.p30 fu fu 0
                          else
                            bif (a0 == 17) then
                              opinfo_Arity.p30 fu fu 0
                            else
                              bif (a0 == 18) then
                                opinfo_Arity.p30 fu fu 0
                              else
                                bif (a0 == 20) then
                                  opinfo_Arity.p30 fu fu 0
                                else
                                  bif (a0 == 3) then
                                    opinfo_Arity.p31 fu fu 0
                                  else
                                    bif (a0 == 4) then
                                      opinfo_Arity.p31 fu fu 0
                                    else
                                      bif (a0 == 21) then
                                        opinfo_Arity.p31 fu fu 0
                                      else
                                        bif (a0 == 22) then
                                          opinfo_Arity.p31 fu fu 0
                                        else
                                          bif (a0 == 23) then
                                            opinfo_Arity.p31 fu fu 0
                                          else
                                            bif (a0 == 26) then
                                              opinfo_Arity.p31 fu fu 0
                                            else
                                              bif (a0 == 1) then
                                                opinfo_Arity.p32 fu fu 0
                                              else
                                                bif (a0 == 2) then
                                                  opinfo_Arity.p32 fu fu 0
                                                else
                                                  bif (a0 == 24) then
                                                    opinfo_Arity.p32 fu fu 0
                                                  else
                                                    bif (a0 == 25) then
                                                      opinfo_Arity.p32 fu fu 0
                                                    else
                                                      some (-1)
noncomputable def opinfo_Arity.f (a0 : Int) : Option (Int) := opinfo_Arity.g (fuel0 + 1) a0
theorem opinfo_Arity.eq (fu : Nat) (a : Int × Unit) : bodyK Try.prog opinfo_Arity.cs opinfo_Arity.live fu Try.f90 (opinfo_Arity.a.enc a) opinfo_Arity.r.dec = opinfo_Arity.g fu a.1 := by kernel_rfl
theorem opinfo_Arity.con : ∀ (a : Int × Unit) (r : Int), opinfo_Arity.f a.1 = some r → Contract Try.prog 90 (opinfo_Arity.a.enc a) (opinfo_Arity.r.enc r) := Contract.of_body (F := fun (a : Int × Unit) => opinfo_Arity.f a.1) (fn := Try.f90) (cs := opinfo_Arity.cs) (live := opinfo_Arity.live) (fuel := fuel0 + 1) (by kernel_rfl) (by kernel_rfl) mixed (opinfo_Arity.eq (fuel0 + 1))
noncomputable def opinfo_Arity.c : Kn Try.prog := Kn.of 90 opinfo_Arity.a opinfo_Arity.r (fun a => opinfo_Arity.f a.1) opinfo_Arity.con

/-! ### opinfo_inside: function 91 -/
def opinfo_inside.a : ACods (Int × Unit) := (.cons (.val (.int .i64)) .nil)
def opinfo_inside.r : RCod (Bool) := .val (.bool)
noncomputable def opinfo_inside.cs : List (Kn Try.prog) := []
def opinfo_inside.live : Nat → Option Keep := liveOf []
noncomputable def opinfo_inside.body : Code := bodyOf Try.f91
noncomputable def opinfo_inside.K (fu : Nat) : Code → St → (Ex → St → Option (Bool)) → Option (Bool) := codeK Try.prog opinfo_inside.cs opinfo_inside.live fu
noncomputable def opinfo_inside.f (a0 : Int) : Option (Bool) :=
  bif (decide (a0 ≥ 0)) then
    some (decide (a0 ≤ 64))
  else
    some false
theorem opinfo_inside.eq (fu : Nat) (a : Int × Unit) : bodyK Try.prog opinfo_inside.cs opinfo_inside.live fu Try.f91 (opinfo_inside.a.enc a) opinfo_inside.r.dec = opinfo_inside.f a.1 := by kernel_rfl
theorem opinfo_inside.con : ∀ (a : Int × Unit) (r : Bool), opinfo_inside.f a.1 = some r → Contract Try.prog 91 (opinfo_inside.a.enc a) (opinfo_inside.r.enc r) := Contract.of_body (F := fun (a : Int × Unit) => opinfo_inside.f a.1) (fn := Try.f91) (cs := opinfo_inside.cs) (live := opinfo_inside.live) (fuel := fuel0 + 1) (by kernel_rfl) (by kernel_rfl) mixed (opinfo_inside.eq (fuel0 + 1))
noncomputable def opinfo_inside.c : Kn Try.prog := Kn.of 91 opinfo_inside.a opinfo_inside.r (fun a => opinfo_inside.f a.1) opinfo_inside.con

/-! ### opinfo_leaf: function 92 -/
def opinfo_leaf.a : ACods (Int × Int × Int × Unit) := (.cons (.val (.int .i64)) (.cons (.val (.int .i64)) (.cons (.val (.int .u64)) .nil)))
def opinfo_leaf.r : RCod (Int × Int) := .val (.tup (.cons (.int .i64) (.one (.int .i64))))
noncomputable def opinfo_leaf.cs : List (Kn Try.prog) := [opinfo_inside.c]
def opinfo_leaf.live : Nat → Option Keep := liveOf [(6, ⟨[1], [], []⟩)]
noncomputable def opinfo_leaf.body : Code := bodyOf Try.f92
noncomputable def opinfo_leaf.K (fu : Nat) : Code → St → (Ex → St → Option (Int × Int)) → Option (Int × Int) := codeK Try.prog opinfo_leaf.cs opinfo_leaf.live fu
noncomputable def opinfo_leaf.p3 (m fu : Nat) (x1 : Int) : Option (Int × Int) :=
  joinK m (opinfo_leaf.K fu (sub opinfo_leaf.body [true, true])) (stOf 26 [(1, .val (.int .i64 x1))] []) (retC Try.prog Try.f92.results opinfo_leaf.r.dec)
theorem opinfo_leaf.p3_eq (m fu : Nat) (x1 : Int) : opinfo_leaf.p3 (m + 1) fu x1 =
  some (x1, 0) := by kernel_rfl
noncomputable def opinfo_leaf.g (fu : Nat) (a0 : Int) (a1 : Int) (a2 : Int) : Option (Int × Int) :=
  (opinfo_inside.f a1).bind fun r1 =>
  bif (!r1) then
    some (0, 3)
  else
    bif (a0 == 2) then
      bif (decide (a1 > 0)) then
        bif decide (a1 < 0) then
          none
        else
          bif ((shr .u64 a2 a1) != 0) then
            some (0, 3)
          else
            opinfo_leaf.p3 fu fu a1
      else
        opinfo_leaf.p3 fu fu a1
    else
      opinfo_leaf.p3 fu fu a1
noncomputable def opinfo_leaf.f (a0 : Int) (a1 : Int) (a2 : Int) : Option (Int × Int) := opinfo_leaf.g (fuel0 + 1) a0 a1 a2
theorem opinfo_leaf.eq (fu : Nat) (a : Int × Int × Int × Unit) : bodyK Try.prog opinfo_leaf.cs opinfo_leaf.live fu Try.f92 (opinfo_leaf.a.enc a) opinfo_leaf.r.dec = opinfo_leaf.g fu a.1 a.2.1 a.2.2.1 := by kernel_rfl
theorem opinfo_leaf.con : ∀ (a : Int × Int × Int × Unit) (r : Int × Int), opinfo_leaf.f a.1 a.2.1 a.2.2.1 = some r → Contract Try.prog 92 (opinfo_leaf.a.enc a) (opinfo_leaf.r.enc r) := Contract.of_body (F := fun (a : Int × Int × Int × Unit) => opinfo_leaf.f a.1 a.2.1 a.2.2.1) (fn := Try.f92) (cs := opinfo_leaf.cs) (live := opinfo_leaf.live) (fuel := fuel0 + 1) (by kernel_rfl) (by kernel_rfl) mixed (opinfo_leaf.eq (fuel0 + 1))
noncomputable def opinfo_leaf.c : Kn Try.prog := Kn.of 92 opinfo_leaf.a opinfo_leaf.r (fun a => opinfo_leaf.f a.1 a.2.1 a.2.2.1) opinfo_leaf.con

/-! ### opinfo_resized: function 93 -/
def opinfo_resized.a : ACods (Int × Int × Int × Int × Unit) := (.cons (.val (.int .i64)) (.cons (.val (.int .i64)) (.cons (.val (.int .u64)) (.cons (.val (.int .i64)) .nil))))
def opinfo_resized.r : RCod (Int × Int) := .val (.tup (.cons (.int .i64) (.one (.int .i64))))
noncomputable def opinfo_resized.cs : List (Kn Try.prog) := []
def opinfo_resized.live : Nat → Option Keep := liveOf [(10, ⟨[1], [], []⟩)]
noncomputable def opinfo_resized.body : Code := bodyOf Try.f93
noncomputable def opinfo_resized.K (fu : Nat) : Code → St → (Ex → St → Option (Int × Int)) → Option (Int × Int) := codeK Try.prog opinfo_resized.cs opinfo_resized.live fu
noncomputable def opinfo_resized.p5 (m fu : Nat) (x1 : Int) : Option (Int × Int) :=
  joinK m (opinfo_resized.K fu (sub opinfo_resized.body [true, true, true])) (stOf 45 [(1, .val (.int .i64 x1))] []) (retC Try.prog Try.f93.results opinfo_resized.r.dec)
theorem opinfo_resized.p5_eq (m fu : Nat) (x1 : Int) : opinfo_resized.p5 (m + 1) fu x1 =
  some (x1, 0) := by kernel_rfl
noncomputable def opinfo_resized.g (fu : Nat) (a0 : Int) (a1 : Int) (a2 : Int) (a3 : Int) : Option (Int × Int) :=
  bif (decide (a1 < 1)) then
    some (0, 3)
  else
    bif (decide (a1 > 64)) then
      some (0, 3)
    else
      bif (decide (a3 < 1)) then
        some (0, 3)
      else
        bif (a0 != 21) then
          bif (decide (a1 < a3)) then
            some (0, 3)
          else
            bif (a0 == 21) then
              bif (decide (a1 > a3)) then
                some (0, 3)
              else
                bif (decide (a2 > (IntKind.u64.wrap (IntKind.i64.wrap (a3 - a1))))) then
                  some (0, 3)
                else
                  opinfo_resized.p5 fu fu a1
            else
              opinfo_resized.p5 fu fu a1
        else
          bif (a0 == 21) then
            bif (decide (a1 > a3)) then
              some (0, 3)
            else
              bif (decide (a2 > (IntKind.u64.wrap (IntKind.i64.wrap (a3 - a1))))) then
                some (0, 3)
              else
                opinfo_resized.p5 fu fu a1
          else
            opinfo_resized.p5 fu fu a1
noncomputable def opinfo_resized.f (a0 : Int) (a1 : Int) (a2 : Int) (a3 : Int) : Option (Int × Int) := opinfo_resized.g (fuel0 + 1) a0 a1 a2 a3
theorem opinfo_resized.eq (fu : Nat) (a : Int × Int × Int × Int × Unit) : bodyK Try.prog opinfo_resized.cs opinfo_resized.live fu Try.f93 (opinfo_resized.a.enc a) opinfo_resized.r.dec = opinfo_resized.g fu a.1 a.2.1 a.2.2.1 a.2.2.2.1 := by kernel_rfl
theorem opinfo_resized.con : ∀ (a : Int × Int × Int × Int × Unit) (r : Int × Int), opinfo_resized.f a.1 a.2.1 a.2.2.1 a.2.2.2.1 = some r → Contract Try.prog 93 (opinfo_resized.a.enc a) (opinfo_resized.r.enc r) := Contract.of_body (F := fun (a : Int × Int × Int × Int × Unit) => opinfo_resized.f a.1 a.2.1 a.2.2.1 a.2.2.2.1) (fn := Try.f93) (cs := opinfo_resized.cs) (live := opinfo_resized.live) (fuel := fuel0 + 1) (by kernel_rfl) (by kernel_rfl) mixed (opinfo_resized.eq (fuel0 + 1))
noncomputable def opinfo_resized.c : Kn Try.prog := Kn.of 93 opinfo_resized.a opinfo_resized.r (fun a => opinfo_resized.f a.1 a.2.1 a.2.2.1 a.2.2.2.1) opinfo_resized.con

/-! ### opinfo_agreed: function 94 -/
def opinfo_agreed.a : ACods (Bool × Int × Unit) := (.cons (.val (.bool)) (.cons (.val (.int .i64)) .nil))
def opinfo_agreed.r : RCod (Int × Int) := .val (.tup (.cons (.int .i64) (.one (.int .i64))))
noncomputable def opinfo_agreed.cs : List (Kn Try.prog) := []
def opinfo_agreed.live : Nat → Option Keep := liveOf []
noncomputable def opinfo_agreed.body : Code := bodyOf Try.f94
noncomputable def opinfo_agreed.K (fu : Nat) : Code → St → (Ex → St → Option (Int × Int)) → Option (Int × Int) := codeK Try.prog opinfo_agreed.cs opinfo_agreed.live fu
noncomputable def opinfo_agreed.f (a0 : Bool) (a1 : Int) : Option (Int × Int) :=
  bif (!a0) then
    some (0, 3)
  else
    some (a1, 0)
theorem opinfo_agreed.eq (fu : Nat) (a : Bool × Int × Unit) : bodyK Try.prog opinfo_agreed.cs opinfo_agreed.live fu Try.f94 (opinfo_agreed.a.enc a) opinfo_agreed.r.dec = opinfo_agreed.f a.1 a.2.1 := by kernel_rfl
theorem opinfo_agreed.con : ∀ (a : Bool × Int × Unit) (r : Int × Int), opinfo_agreed.f a.1 a.2.1 = some r → Contract Try.prog 94 (opinfo_agreed.a.enc a) (opinfo_agreed.r.enc r) := Contract.of_body (F := fun (a : Bool × Int × Unit) => opinfo_agreed.f a.1 a.2.1) (fn := Try.f94) (cs := opinfo_agreed.cs) (live := opinfo_agreed.live) (fuel := fuel0 + 1) (by kernel_rfl) (by kernel_rfl) mixed (opinfo_agreed.eq (fuel0 + 1))
noncomputable def opinfo_agreed.c : Kn Try.prog := Kn.of 94 opinfo_agreed.a opinfo_agreed.r (fun a => opinfo_agreed.f a.1 a.2.1) opinfo_agreed.con

/-! ### opinfo_Width: function 63 -/
def opinfo_Width.a : ACods (Int × Int × Int × (Nat × (Nat → Int)) × Unit) := (.cons (.val (.int .i64)) (.cons (.val (.int .i64)) (.cons (.val (.int .u64)) (.cons (.rows (.int1 .i64)) .nil))))
def opinfo_Width.r : RCod (Int × Int) := .val (.tup (.cons (.int .i64) (.one (.int .i64))))
noncomputable def opinfo_Width.cs : List (Kn Try.prog) := [opinfo_known.c, opinfo_Arity.c, opinfo_inside.c, opinfo_leaf.c, opinfo_resized.c, opinfo_agreed.c]
def opinfo_Width.live : Nat → Option Keep := liveOf [(9, ⟨[0, 1, 2, 3, 22, 23, 24], [3], []⟩)]
noncomputable def opinfo_Width.body : Code := bodyOf Try.f63
noncomputable def opinfo_Width.K (fu : Nat) : Code → St → (Ex → St → Option (Int × Int)) → Option (Int × Int) := codeK Try.prog opinfo_Width.cs opinfo_Width.live fu
noncomputable def opinfo_Width.j4 (fu : Nat) (n4 : Nat) (x0 : Int) (x1 : Int) (x2 : Int) (x3n : Nat) (x22n : Nat) (x23 : Int) (x24 : Int) (m3 : Nat) (g3_0 : Nat → Int) : Option (Int × Int) :=
  loopK (opinfo_Width.K fu (sub opinfo_Width.body [true, true, false, true, false, false])) (opinfo_Width.live 9) n4 (stOf 144 [(0, .val (.int .i64 x0)), (1, .val (.int .i64 x1)), (2, .val (.int .u64 x2)), (3, .sl 3 1 x3n), (22, .sl 3 1 x22n), (23, .val (.int .i64 x23)), (24, .val (.int .i64 x24))] [(3, .ext m3 [.int .i64 g3_0])]) (blockC 0 (seqC fu (opinfo_Width.live 18) (opinfo_Width.K fu (sub opinfo_Width.body [true, true, true])) (retC Try.prog Try.f63.results opinfo_Width.r.dec)))
theorem opinfo_Width.j4_succ (fu : Nat) (n4 : Nat) (x0 : Int) (x1 : Int) (x2 : Int) (x3n : Nat) (x22n : Nat) (x23 : Int) (x24 : Int) (m3 : Nat) (g3_0 : Nat → Int) : opinfo_Width.j4 fu (n4 + 1) x0 x1 x2 x3n x22n x23 x24 m3 g3_0 =
  bif (decide (x24 < x23)) then
    bif decide (0 ≤ x24) then
      bif decide (x24 < (x22n : Int)) then
        (opinfo_inside.f (g3_0 x24.toNat)).bind fun r3 =>
        bif (!r3) then
          some (0, 3)
        else
          opinfo_Width.j4 fu n4 x0 x1 x2 x3n x22n x23 (IntKind.i64.wrap (x24 + 1)) m3 g3_0
      else
        none
    else
      none
  else
    bif (x0 == 1) then
      (opinfo_leaf.f x0 x1 x2).bind fun r4 =>
      some (r4.1, r4.2)
    else
      bif (x0 == 2) then
        (opinfo_leaf.f x0 x1 x2).bind fun r5 =>
        some (r5.1, r5.2)
      else
        bif (x0 == 24) then
          (opinfo_leaf.f x0 x1 x2).bind fun r6 =>
          some (r6.1, r6.2)
        else
          bif (x0 == 25) then
            (opinfo_leaf.f x0 x1 x2).bind fun r7 =>
            some (r7.1, r7.2)
          else
            bif (x0 == 3) then
              bif decide ((0 : Int) < (x3n : Int)) then
                some ((g3_0 0), 0)
              else
                none
            else
              bif (x0 == 4) then
                bif decide ((0 : Int) < (x3n : Int)) then
                  some ((g3_0 0), 0)
                else
                  none
              else
                bif (x0 == 26) then
                  bif decide ((0 : Int) < (x3n : Int)) then
                    some ((g3_0 0), 0)
                  else
                    none
                else
                  bif (x0 == 21) then
                    bif decide ((0 : Int) < (x3n : Int)) then
                      (opinfo_resized.f x0 x1 x2 (g3_0 0)).bind fun r8 =>
                      some (r8.1, r8.2)
                    else
                      none
                  else
                    bif (x0 == 22) then
                      bif decide ((0 : Int) < (x3n : Int)) then
                        (opinfo_resized.f x0 x1 x2 (g3_0 0)).bind fun r9 =>
                        some (r9.1, r9.2)
                      else
                        none
                    else
                      bif (x0 == 23) then
                        bif decide ((0 : Int) < (x3n : Int)) then
                          (opinfo_resized.f x0 x1 x2 (g3_0 0)).bind fun r10 =>
                          some (r10.1, r10.2)
                        else
                          none
                      else
                        bif (x0 == 19) then
                          bif decide ((0 : Int) < (x3n : Int)) then
                            bif ((g3_0 0) == 1) then
                              bif decide ((1 : Int) < (x3n : Int)) then
                                bif decide ((2 : Int) < (x3n : Int)) then
                                  bif decide ((1 : Int) < (x3n : Int)) then
                                    (opinfo_agreed.f ((g3_0 1) == (g3_0 2)) (g3_0 1)).bind fun r11 =>
                                    some (r11.1, r11.2)
                                  else
                                    none
                                else
                                  none
                              else
                                none
                            else
                              bif decide ((1 : Int) < (x3n : Int)) then
                                (opinfo_agreed.f false (g3_0 1)).bind fun r12 =>
                                some (r12.1, r12.2)
                              else
                                none
                          else
                            none
                        else
                          bif (x0 == 20) then
                            bif decide ((0 : Int) < (x3n : Int)) then
                              bif (decide ((g3_0 0) ≥ 1)) then
                                bif decide ((1 : Int) < (x3n : Int)) then
                                  bif (decide ((g3_0 1) ≥ 1)) then
                                    bif decide ((0 : Int) < (x3n : Int)) then
                                      bif decide ((1 : Int) < (x3n : Int)) then
                                        bif decide ((0 : Int) < (x3n : Int)) then
                                          bif decide ((1 : Int) < (x3n : Int)) then
                                            (opinfo_agreed.f (decide ((IntKind.i64.wrap ((g3_0 0) + (g3_0 1))) ≤ 64)) (IntKind.i64.wrap ((g3_0 0) + (g3_0 1)))).bind fun r13 =>
                                            some (r13.1, r13.2)
                                          else
                                            none
                                        else
                                          none
                                      else
                                        none
                                    else
                                      none
                                  else
                                    bif decide ((0 : Int) < (x3n : Int)) then
                                      bif decide ((1 : Int) < (x3n : Int)) then
                                        (opinfo_agreed.f false (IntKind.i64.wrap ((g3_0 0) + (g3_0 1)))).bind fun r14 =>
                                        some (r14.1, r14.2)
                                      else
                                        none
                                    else
                                      none
                                else
                                  none
                              else
                                bif decide ((0 : Int) < (x3n : Int)) then
                                  bif decide ((1 : Int) < (x3n : Int)) then
                                    (opinfo_agreed.f false (IntKind.i64.wrap ((g3_0 0) + (g3_0 1)))).bind fun r15 =>
                                    some (r15.1, r15.2)
                                  else
                                    none
                                else
                                  none
                            else
                              none
                          else
                            bif (x0 == 16) then
                              bif decide ((0 : Int) < (x3n : Int)) then
                                bif decide ((1 : Int) < (x3n : Int)) then
                                  (opinfo_agreed.f ((g3_0 0) == (g3_0 1)) 1).bind fun r16 =>
                                  some (r16.1, r16.2)
                                else
                                  none
                              else
                                none
                            else
                              bif (x0 == 17) then
                                bif decide ((0 : Int) < (x3n : Int)) then
                                  bif decide ((1 : Int) < (x3n : Int)) then
                                    (opinfo_agreed.f ((g3_0 0) == (g3_0 1)) 1).bind fun r17 =>
                                    some (r17.1, r17.2)
                                  else
                                    none
                                else
                                  none
                              else
                                bif (x0 == 18) then
                                  bif decide ((0 : Int) < (x3n : Int)) then
                                    bif decide ((1 : Int) < (x3n : Int)) then
                                      (opinfo_agreed.f ((g3_0 0) == (g3_0 1)) 1).bind fun r18 =>
                                      some (r18.1, r18.2)
                                    else
                                      none
                                  else
                                    none
                                else
                                  bif decide ((0 : Int) < (x3n : Int)) then
                                    bif decide ((1 : Int) < (x3n : Int)) then
                                      bif decide ((0 : Int) < (x3n : Int)) then
                                        (opinfo_agreed.f ((g3_0 0) == (g3_0 1)) (g3_0 0)).bind fun r19 =>
                                        some (r19.1, r19.2)
                                      else
                                        none
                                    else
                                      none
                                  else
                                    none := by kernel_rfl
noncomputable def opinfo_Width.g (fu : Nat) (a0 : Int) (a1 : Int) (a2 : Int) (a3 : Nat × (Nat → Int)) : Option (Int × Int) :=
  (opinfo_known.f a0).bind fun r1 =>
  bif (!r1) then
    some (0, 4)
  else
    (opinfo_Arity.f a0).bind fun r2 =>
    bif ((a3.1 : Int) != r2) then
      some (0, 4)
    else
      opinfo_Width.j4 fu fu a0 a1 a2 a3.1 a3.1 (a3.1 : Int) 0 a3.1 a3.2
noncomputable def opinfo_Width.f (a0 : Int) (a1 : Int) (a2 : Int) (a3 : Nat × (Nat → Int)) : Option (Int × Int) := opinfo_Width.g (fuel0 + 1) a0 a1 a2 a3
theorem opinfo_Width.eq (fu : Nat) (a : Int × Int × Int × (Nat × (Nat → Int)) × Unit) : bodyK Try.prog opinfo_Width.cs opinfo_Width.live fu Try.f63 (opinfo_Width.a.enc a) opinfo_Width.r.dec = opinfo_Width.g fu a.1 a.2.1 a.2.2.1 a.2.2.2.1 := by kernel_rfl
theorem opinfo_Width.con : ∀ (a : Int × Int × Int × (Nat × (Nat → Int)) × Unit) (r : Int × Int), opinfo_Width.f a.1 a.2.1 a.2.2.1 a.2.2.2.1 = some r → Contract Try.prog 63 (opinfo_Width.a.enc a) (opinfo_Width.r.enc r) := Contract.of_body (F := fun (a : Int × Int × Int × (Nat × (Nat → Int)) × Unit) => opinfo_Width.f a.1 a.2.1 a.2.2.1 a.2.2.2.1) (fn := Try.f63) (cs := opinfo_Width.cs) (live := opinfo_Width.live) (fuel := fuel0 + 1) (by kernel_rfl) (by kernel_rfl) mixed (opinfo_Width.eq (fuel0 + 1))
noncomputable def opinfo_Width.c : Kn Try.prog := Kn.of 63 opinfo_Width.a opinfo_Width.r (fun a => opinfo_Width.f a.1 a.2.1 a.2.2.1 a.2.2.2.1) opinfo_Width.con

/-! ### opinfo_Pattern: function 64 -/
def opinfo_Pattern.a : ACods (Int × Unit) := (.cons (.val (.int .i64)) .nil)
def opinfo_Pattern.r : RCod (Bool) := .val (.bool)
noncomputable def opinfo_Pattern.cs : List (Kn Try.prog) := []
def opinfo_Pattern.live : Nat → Option Keep := liveOf []
noncomputable def opinfo_Pattern.body : Code := bodyOf Try.f64
noncomputable def opinfo_Pattern.K (fu : Nat) : Code → St → (Ex → St → Option (Bool)) → Option (Bool) := codeK Try.prog opinfo_Pattern.cs opinfo_Pattern.live fu
noncomputable def opinfo_Pattern.f (a0 : Int) : Option (Bool) :=
  bif (decide (a0 ≥ 24)) then
    some (decide (a0 ≤ 26))
  else
    some false
theorem opinfo_Pattern.eq (fu : Nat) (a : Int × Unit) : bodyK Try.prog opinfo_Pattern.cs opinfo_Pattern.live fu Try.f64 (opinfo_Pattern.a.enc a) opinfo_Pattern.r.dec = opinfo_Pattern.f a.1 := by kernel_rfl
theorem opinfo_Pattern.con : ∀ (a : Int × Unit) (r : Bool), opinfo_Pattern.f a.1 = some r → Contract Try.prog 64 (opinfo_Pattern.a.enc a) (opinfo_Pattern.r.enc r) := Contract.of_body (F := fun (a : Int × Unit) => opinfo_Pattern.f a.1) (fn := Try.f64) (cs := opinfo_Pattern.cs) (live := opinfo_Pattern.live) (fuel := fuel0 + 1) (by kernel_rfl) (by kernel_rfl) mixed (opinfo_Pattern.eq (fuel0 + 1))
noncomputable def opinfo_Pattern.c : Kn Try.prog := Kn.of 64 opinfo_Pattern.a opinfo_Pattern.r (fun a => opinfo_Pattern.f a.1) opinfo_Pattern.con

/-! ### known_refused: function 40 -/
def known_refused.a : ACods (Int × Int × Int × (Nat × (Nat → Int)) × Int × Unit) := (.cons (.val (.int .i64)) (.cons (.val (.int .i64)) (.cons (.val (.int .u64)) (.cons (.rows (.int1 .i64)) (.cons (.val (.int .i64)) .nil)))))
def known_refused.r : RCod (Int × Int) := .val (.tup (.cons (.int .i64) (.one (.int .i64))))
noncomputable def known_refused.cs : List (Kn Try.prog) := [opinfo_Width.c, opinfo_Pattern.c]
def known_refused.live : Nat → Option Keep := liveOf [(19, ⟨[12, 36, 37, 38], [36], []⟩)]
noncomputable def known_refused.body : Code := bodyOf Try.f40
noncomputable def known_refused.K (fu : Nat) : Code → St → (Ex → St → Option (Int × Int)) → Option (Int × Int) := codeK Try.prog known_refused.cs known_refused.live fu
noncomputable def known_refused.j9 (fu : Nat) (n9 : Nat) (x12 : Int) (x36n : Nat) (x37 : Int) (x38 : Int) (m36 : Nat) (g36_0 : Nat → Int) : Option (Int × Int) :=
  loopK (known_refused.K fu (sub known_refused.body [true, true, true, true, true, false, true, false, false])) (known_refused.live 19) n9 (stOf 46 [(12, .val (.int .i64 x12)), (36, .sl 36 1 x36n), (37, .val (.int .i64 x37)), (38, .val (.int .i64 x38))] [(36, .grow 3 m36 [.int .i64 g36_0])]) (blockC 0 (seqC fu (known_refused.live 28) (known_refused.K fu (sub known_refused.body [true, true, true, true, true, true])) (retC Try.prog Try.f40.results known_refused.r.dec)))
theorem known_refused.j9_succ (fu : Nat) (n9 : Nat) (x12 : Int) (x36n : Nat) (x37 : Int) (x38 : Int) (m36 : Nat) (g36_0 : Nat → Int) : known_refused.j9 fu (n9 + 1) x12 x36n x37 x38 m36 g36_0 =
  bif (decide (x38 < x37)) then
    bif decide (0 ≤ x38) then
      bif decide (x38 < (x36n : Int)) then
        bif ((g36_0 x38.toNat) == 0) then
          some (0, 3)
        else
          known_refused.j9 fu n9 x12 x36n x37 (IntKind.i64.wrap (x38 + 1)) m36 g36_0
      else
        none
    else
      none
  else
    some (x12, 0) := by kernel_rfl
noncomputable def known_refused.g (fu : Nat) (a0 : Int) (a1 : Int) (a2 : Int) (a3 : Nat × (Nat → Int)) (a4 : Int) : Option (Int × Int) :=
  bif (a4 != (a3.1 : Int)) then
    some (0, 4)
  else
    (opinfo_Width.f a0 a1 a2 (a3.1, a3.2)).bind fun r1 =>
    bif (r1.2 != 0) then
      some (0, r1.2)
    else
      (opinfo_Pattern.f a0).bind fun r2 =>
      bif r2 then
        some (0, 4)
      else
        bif Nat.ble ((1 + a3.1) * 8) 140737488355328 then
          known_refused.j9 fu fu r1.1 (1 + a3.1) ((1 + a3.1) : Int) 0 (1 + a3.1) (cat 1 (fun i => [r1.1].getD i 0) a3.2)
        else
          none
noncomputable def known_refused.f (a0 : Int) (a1 : Int) (a2 : Int) (a3 : Nat × (Nat → Int)) (a4 : Int) : Option (Int × Int) := known_refused.g (fuel0 + 1) a0 a1 a2 a3 a4
theorem known_refused.eq (fu : Nat) (a : Int × Int × Int × (Nat × (Nat → Int)) × Int × Unit) : bodyK Try.prog known_refused.cs known_refused.live fu Try.f40 (known_refused.a.enc a) known_refused.r.dec = known_refused.g fu a.1 a.2.1 a.2.2.1 a.2.2.2.1 a.2.2.2.2.1 := by kernel_rfl
theorem known_refused.con : ∀ (a : Int × Int × Int × (Nat × (Nat → Int)) × Int × Unit) (r : Int × Int), known_refused.f a.1 a.2.1 a.2.2.1 a.2.2.2.1 a.2.2.2.2.1 = some r → Contract Try.prog 40 (known_refused.a.enc a) (known_refused.r.enc r) := Contract.of_body (F := fun (a : Int × Int × Int × (Nat × (Nat → Int)) × Int × Unit) => known_refused.f a.1 a.2.1 a.2.2.1 a.2.2.2.1 a.2.2.2.2.1) (fn := Try.f40) (cs := known_refused.cs) (live := known_refused.live) (fuel := fuel0 + 1) (by kernel_rfl) (by kernel_rfl) mixed (known_refused.eq (fuel0 + 1))
noncomputable def known_refused.c : Kn Try.prog := Kn.of 40 known_refused.a known_refused.r (fun a => known_refused.f a.1 a.2.1 a.2.2.1 a.2.2.2.1 a.2.2.2.2.1) known_refused.con

/-! ### known_unknown: function 55 -/
def known_unknown.a : ACods (Int × (Int × Int) × Unit) := (.cons (.val (.int .i64)) (.cons (.val (.agg (.cons (.int .u64) (.one (.int .u64))))) .nil))
def known_unknown.r : RCod (Int) := .val (.int .u64)
noncomputable def known_unknown.cs : List (Kn Try.prog) := [bits_Mask.c]
def known_unknown.live : Nat → Option Keep := liveOf []
noncomputable def known_unknown.body : Code := bodyOf Try.f55
noncomputable def known_unknown.K (fu : Nat) : Code → St → (Ex → St → Option (Int)) → Option (Int) := codeK Try.prog known_unknown.cs known_unknown.live fu
noncomputable def known_unknown.f (a0 : Int) (a1 : Int × Int) : Option (Int) :=
  (bits_Mask.f a0).bind fun r1 =>
  some (Go.bits .andNot .u64 r1 (Go.bits .or .u64 a1.1 a1.2))
theorem known_unknown.eq (fu : Nat) (a : Int × (Int × Int) × Unit) : bodyK Try.prog known_unknown.cs known_unknown.live fu Try.f55 (known_unknown.a.enc a) known_unknown.r.dec = known_unknown.f a.1 a.2.1 := by kernel_rfl
theorem known_unknown.con : ∀ (a : Int × (Int × Int) × Unit) (r : Int), known_unknown.f a.1 a.2.1 = some r → Contract Try.prog 55 (known_unknown.a.enc a) (known_unknown.r.enc r) := Contract.of_body (F := fun (a : Int × (Int × Int) × Unit) => known_unknown.f a.1 a.2.1) (fn := Try.f55) (cs := known_unknown.cs) (live := known_unknown.live) (fuel := fuel0 + 1) (by kernel_rfl) (by kernel_rfl) mixed (known_unknown.eq (fuel0 + 1))
noncomputable def known_unknown.c : Kn Try.prog := Kn.of 55 known_unknown.a known_unknown.r (fun a => known_unknown.f a.1 a.2.1) known_unknown.con

/-! ### known_from: function 56 -/
def known_from.a : ACods (Int × Int × Int × Unit) := (.cons (.val (.int .i64)) (.cons (.val (.int .u64)) (.cons (.val (.int .u64)) .nil)))
def known_from.r : RCod (Int × Int) := .val (.agg (.cons (.int .u64) (.one (.int .u64))))
noncomputable def known_from.cs : List (Kn Try.prog) := [bits_Cut.c, bits_Mask.c]
def known_from.live : Nat → Option Keep := liveOf []
noncomputable def known_from.body : Code := bodyOf Try.f56
noncomputable def known_from.K (fu : Nat) : Code → St → (Ex → St → Option (Int × Int)) → Option (Int × Int) := codeK Try.prog known_from.cs known_from.live fu
noncomputable def known_from.f (a0 : Int) (a1 : Int) (a2 : Int) : Option (Int × Int) :=
  (bits_Cut.f a0 a2).bind fun r1 =>
  (bits_Cut.f a0 a1).bind fun r2 =>
  (bits_Mask.f a0).bind fun r3 =>
  some ((Go.bits .andNot .u64 r3 (Go.bits .or .u64 (Go.bits .andNot .u64 r2 r1) r1)), (Go.bits .andNot .u64 r2 r1))
theorem known_from.eq (fu : Nat) (a : Int × Int × Int × Unit) : bodyK Try.prog known_from.cs known_from.live fu Try.f56 (known_from.a.enc a) known_from.r.dec = known_from.f a.1 a.2.1 a.2.2.1 := by kernel_rfl
theorem known_from.con : ∀ (a : Int × Int × Int × Unit) (r : Int × Int), known_from.f a.1 a.2.1 a.2.2.1 = some r → Contract Try.prog 56 (known_from.a.enc a) (known_from.r.enc r) := Contract.of_body (F := fun (a : Int × Int × Int × Unit) => known_from.f a.1 a.2.1 a.2.2.1) (fn := Try.f56) (cs := known_from.cs) (live := known_from.live) (fuel := fuel0 + 1) (by kernel_rfl) (by kernel_rfl) mixed (known_from.eq (fuel0 + 1))
noncomputable def known_from.c : Kn Try.prog := Kn.of 56 known_from.a known_from.r (fun a => known_from.f a.1 a.2.1 a.2.2.1) known_from.con

/-! ### known_Sub: function 28 -/
def known_Sub.a : ACods (Int × (Int × Int) × (Int × Int) × Unit) := (.cons (.val (.int .i64)) (.cons (.val (.agg (.cons (.int .u64) (.one (.int .u64))))) (.cons (.val (.agg (.cons (.int .u64) (.one (.int .u64))))) .nil)))
def known_Sub.r : RCod (Int × Int) := .val (.agg (.cons (.int .u64) (.one (.int .u64))))
noncomputable def known_Sub.cs : List (Kn Try.prog) := [known_of.c, known_unknown.c, known_from.c]
def known_Sub.live : Nat → Option Keep := liveOf []
noncomputable def known_Sub.body : Code := bodyOf Try.f28
noncomputable def known_Sub.K (fu : Nat) : Code → St → (Ex → St → Option (Int × Int)) → Option (Int × Int) := codeK Try.prog known_Sub.cs known_Sub.live fu
noncomputable def known_Sub.f (a0 : Int) (a1 : Int × Int) (a2 : Int × Int) : Option (Int × Int) :=
  (known_of.f a0 (a1.1, a1.2)).bind fun r1 =>
  (known_of.f a0 (a2.1, a2.2)).bind fun r2 =>
  (known_unknown.f a0 (r1.1, r1.2)).bind fun r3 =>
  (known_unknown.f a0 (r2.1, r2.2)).bind fun r4 =>
  (known_from.f a0 (IntKind.u64.wrap (r1.2 - r2.2)) (Go.bits .or .u64 (Go.bits .or .u64 (Go.bits .xor .u64 (IntKind.u64.wrap ((IntKind.u64.wrap (r1.2 - r2.2)) + r3)) (IntKind.u64.wrap ((IntKind.u64.wrap (r1.2 - r2.2)) - r4))) r3) r4)).bind fun r5 =>
  some (r5.1, r5.2)
theorem known_Sub.eq (fu : Nat) (a : Int × (Int × Int) × (Int × Int) × Unit) : bodyK Try.prog known_Sub.cs known_Sub.live fu Try.f28 (known_Sub.a.enc a) known_Sub.r.dec = known_Sub.f a.1 a.2.1 a.2.2.1 := by kernel_rfl
theorem known_Sub.con : ∀ (a : Int × (Int × Int) × (Int × Int) × Unit) (r : Int × Int), known_Sub.f a.1 a.2.1 a.2.2.1 = some r → Contract Try.prog 28 (known_Sub.a.enc a) (known_Sub.r.enc r) := Contract.of_body (F := fun (a : Int × (Int × Int) × (Int × Int) × Unit) => known_Sub.f a.1 a.2.1 a.2.2.1) (fn := Try.f28) (cs := known_Sub.cs) (live := known_Sub.live) (fuel := fuel0 + 1) (by kernel_rfl) (by kernel_rfl) mixed (known_Sub.eq (fuel0 + 1))
noncomputable def known_Sub.c : Kn Try.prog := Kn.of 28 known_Sub.a known_Sub.r (fun a => known_Sub.f a.1 a.2.1 a.2.2.1) known_Sub.con

/-! ### bits_Extract: function 65 -/
def bits_Extract.a : ACods (Int × Int × Int × Unit) := (.cons (.val (.int .i64)) (.cons (.val (.int .i64)) (.cons (.val (.int .u64)) .nil)))
def bits_Extract.r : RCod (Int) := .val (.int .u64)
noncomputable def bits_Extract.cs : List (Kn Try.prog) := [bits_Cut.c]
def bits_Extract.live : Nat → Option Keep := liveOf []
noncomputable def bits_Extract.body : Code := bodyOf Try.f65
noncomputable def bits_Extract.K (fu : Nat) : Code → St → (Ex → St → Option (Int)) → Option (Int) := codeK Try.prog bits_Extract.cs bits_Extract.live fu
noncomputable def bits_Extract.f (a0 : Int) (a1 : Int) (a2 : Int) : Option (Int) :=
  bif (decide (a0 < 0)) then
    some 0
  else
    bif decide (a0 < 0) then
      none
    else
      (bits_Cut.f a1 (shr .u64 a2 a0)).bind fun r1 =>
      some r1
theorem bits_Extract.eq (fu : Nat) (a : Int × Int × Int × Unit) : bodyK Try.prog bits_Extract.cs bits_Extract.live fu Try.f65 (bits_Extract.a.enc a) bits_Extract.r.dec = bits_Extract.f a.1 a.2.1 a.2.2.1 := by kernel_rfl
theorem bits_Extract.con : ∀ (a : Int × Int × Int × Unit) (r : Int), bits_Extract.f a.1 a.2.1 a.2.2.1 = some r → Contract Try.prog 65 (bits_Extract.a.enc a) (bits_Extract.r.enc r) := Contract.of_body (F := fun (a : Int × Int × Int × Unit) => bits_Extract.f a.1 a.2.1 a.2.2.1) (fn := Try.f65) (cs := bits_Extract.cs) (live := bits_Extract.live) (fuel := fuel0 + 1) (by kernel_rfl) (by kernel_rfl) mixed (bits_Extract.eq (fuel0 + 1))
noncomputable def bits_Extract.c : Kn Try.prog := Kn.of 65 bits_Extract.a bits_Extract.r (fun a => bits_Extract.f a.1 a.2.1 a.2.2.1) bits_Extract.con

/-! ### known_unary: function 42 -/
def known_unary.a : ACods (Int × Int × Int × Int × (Int × Int) × Unit) := (.cons (.val (.int .i64)) (.cons (.val (.int .i64)) (.cons (.val (.int .i64)) (.cons (.val (.int .i64)) (.cons (.val (.agg (.cons (.int .u64) (.one (.int .u64))))) .nil)))))
def known_unary.r : RCod (Int × Int) := .val (.agg (.cons (.int .u64) (.one (.int .u64))))
noncomputable def known_unary.cs : List (Kn Try.prog) := [bits_Mask.c, known_Const.c, known_Sub.c, bits_Extract.c]
def known_unary.live : Nat → Option Keep := liveOf [(30, ⟨[9, 10, 11, 12], [9, 10], []⟩), (34, ⟨[9, 10], [9, 10], []⟩)]
noncomputable def known_unary.body : Code := bodyOf Try.f42
noncomputable def known_unary.K (fu : Nat) : Code → St → (Ex → St → Option (Int × Int)) → Option (Int × Int) := codeK Try.prog known_unary.cs known_unary.live fu
noncomputable def known_unary.p17 (m fu : Nat) (c9_0 : Int) (c9_1 : Int) (c10_0 : Int) (c10_1 : Int) : Option (Int × Int) :=
  joinK m (known_unary.K fu (sub known_unary.body [true, true, true, true])) (stOf 79 [(9, .ptr 9 0 0 0), (10, .ptr 10 0 0 0)] [(9, .own [.val (.int .u64 c9_0), .val (.int .u64 c9_1)]), (10, .own [.val (.int .u64 c10_0), .val (.int .u64 c10_1)])]) (retC Try.prog Try.f42.results known_unary.r.dec)
noncomputable def known_unary.p15 (m fu : Nat) (x11 : Int) (x12 : Int) (c9_0 : Int) (c9_1 : Int) : Option (Int × Int) :=
  joinK m (known_unary.K fu (sub known_unary.body [true, true, true, false, true, false, true, true, true, true, true, true, true, true, true, false, true])) (stOf 79 [(9, .ptr 9 0 0 0), (10, .ptr 10 0 0 0), (11, .val (.int .u64 x11)), (12, .val (.int .u64 x12))] [(9, .own [.val (.int .u64 c9_0), .val (.int .u64 c9_1)]), (10, .own [.val (.int .u64 0), .val (.int .u64 0)])]) (blockC 0 (seqC fu (known_unary.live 34) (known_unary.K fu (sub known_unary.body [true, true, true, true])) (retC Try.prog Try.f42.results known_unary.r.dec)))
theorem known_unary.p17_eq (m fu : Nat) (c9_0 : Int) (c9_1 : Int) (c10_0 : Int) (c10_1 : Int) : known_unary.p17 (m + 1) fu c9_0 c9_1 c10_0 c10_1 =
  some (c9_0, c9_1) := by kernel_rfl
theorem known_unary.p15_eq (m fu : Nat) (x11 : Int) (x12 : Int) (c9_0 : Int) (c9_1 : Int) : known_unary.p15 (m + 1) fu x11 x12 c9_0 c9_1 =
  bif ((Go.bits .and .u64 c9_1 x12) != 0) then
    known_unary.p17 fu fu c9_0 (Go.bits .or .u64 c9_1 x11) 0 0
  else
    known_unary.p17 fu fu c9_0 c9_1 0 0 := by kernel_rfl
noncomputable def known_unary.g (fu : Nat) (a0 : Int) (a1 : Int) (a2 : Int) (a3 : Int) (a4 : Int × Int) : Option (Int × Int) :=
  (bits_Mask.f a1).bind fun r1 =>
  (bits_Mask.f a3).bind fun r2 =>
  bif decide ((IntKind.i64.wrap (a3 - 1)) < 0) then
    none
  else
    bif (a0 == 3) then
      some (a4.2, a4.1)
    else
      bif (a0 == 4) then
        (known_Const.f a3 0).bind fun r3 =>
        (known_Sub.f a3 (r3.1, r3.2) (a4.1, a4.2)).bind fun r4 =>
        some (r4.1, r4.2)
      else
        bif (a0 == 21) then
          (bits_Extract.f a2 a1 a4.1).bind fun r5 =>
          (bits_Extract.f a2 a1 a4.2).bind fun r6 =>
          some (r5, r6)
        else
          bif (a0 == 22) then
            known_unary.p17 fu fu (Go.bits .or .u64 a4.1 (Go.bits .andNot .u64 r1 r2)) a4.2 0 0
          else
            bif (a0 == 23) then
              bif ((Go.bits .and .u64 a4.1 (shl .u64 1 (IntKind.i64.wrap (a3 - 1)))) != 0) then
                known_unary.p15 fu fu (Go.bits .andNot .u64 r1 r2) (shl .u64 1 (IntKind.i64.wrap (a3 - 1))) (Go.bits .or .u64 a4.1 (Go.bits .andNot .u64 r1 r2)) a4.2
              else
                known_unary.p15 fu fu (Go.bits .andNot .u64 r1 r2) (shl .u64 1 (IntKind.i64.wrap (a3 - 1))) a4.1 a4.2
            else
              known_unary.p17 fu fu a4.1 a4.2 0 0
noncomputable def known_unary.f (a0 : Int) (a1 : Int) (a2 : Int) (a3 : Int) (a4 : Int × Int) : Option (Int × Int) := known_unary.g (fuel0 + 1) a0 a1 a2 a3 a4
theorem known_unary.eq (fu : Nat) (a : Int × Int × Int × Int × (Int × Int) × Unit) : bodyK Try.prog known_unary.cs known_unary.live fu Try.f42 (known_unary.a.enc a) known_unary.r.dec = known_unary.g fu a.1 a.2.1 a.2.2.1 a.2.2.2.1 a.2.2.2.2.1 := by kernel_rfl
theorem known_unary.con : ∀ (a : Int × Int × Int × Int × (Int × Int) × Unit) (r : Int × Int), known_unary.f a.1 a.2.1 a.2.2.1 a.2.2.2.1 a.2.2.2.2.1 = some r → Contract Try.prog 42 (known_unary.a.enc a) (known_unary.r.enc r) := Contract.of_body (F := fun (a : Int × Int × Int × Int × (Int × Int) × Unit) => known_unary.f a.1 a.2.1 a.2.2.1 a.2.2.2.1 a.2.2.2.2.1) (fn := Try.f42) (cs := known_unary.cs) (live := known_unary.live) (fuel := fuel0 + 1) (by kernel_rfl) (by kernel_rfl) mixed (known_unary.eq (fuel0 + 1))
noncomputable def known_unary.c : Kn Try.prog := Kn.of 42 known_unary.a known_unary.r (fun a => known_unary.f a.1 a.2.1 a.2.2.1 a.2.2.2.1 a.2.2.2.2.1) known_unary.con

/-! ### known_Add: function 26 -/
def known_Add.a : ACods (Int × (Int × Int) × (Int × Int) × Unit) := (.cons (.val (.int .i64)) (.cons (.val (.agg (.cons (.int .u64) (.one (.int .u64))))) (.cons (.val (.agg (.cons (.int .u64) (.one (.int .u64))))) .nil)))
def known_Add.r : RCod (Int × Int) := .val (.agg (.cons (.int .u64) (.one (.int .u64))))
noncomputable def known_Add.cs : List (Kn Try.prog) := [known_of.c, known_unknown.c, known_from.c]
def known_Add.live : Nat → Option Keep := liveOf []
noncomputable def known_Add.body : Code := bodyOf Try.f26
noncomputable def known_Add.K (fu : Nat) : Code → St → (Ex → St → Option (Int × Int)) → Option (Int × Int) := codeK Try.prog known_Add.cs known_Add.live fu
noncomputable def known_Add.f (a0 : Int) (a1 : Int × Int) (a2 : Int × Int) : Option (Int × Int) :=
  (known_of.f a0 (a1.1, a1.2)).bind fun r1 =>
  (known_of.f a0 (a2.1, a2.2)).bind fun r2 =>
  (known_unknown.f a0 (r1.1, r1.2)).bind fun r3 =>
  (known_unknown.f a0 (r2.1, r2.2)).bind fun r4 =>
  (known_from.f a0 (IntKind.u64.wrap (r1.2 + r2.2)) (Go.bits .or .u64 (Go.bits .or .u64 (Go.bits .xor .u64 (IntKind.u64.wrap ((IntKind.u64.wrap ((IntKind.u64.wrap (r1.2 + r2.2)) + r3)) + r4)) (IntKind.u64.wrap (r1.2 + r2.2))) r3) r4)).bind fun r5 =>
  some (r5.1, r5.2)
theorem known_Add.eq (fu : Nat) (a : Int × (Int × Int) × (Int × Int) × Unit) : bodyK Try.prog known_Add.cs known_Add.live fu Try.f26 (known_Add.a.enc a) known_Add.r.dec = known_Add.f a.1 a.2.1 a.2.2.1 := by kernel_rfl
theorem known_Add.con : ∀ (a : Int × (Int × Int) × (Int × Int) × Unit) (r : Int × Int), known_Add.f a.1 a.2.1 a.2.2.1 = some r → Contract Try.prog 26 (known_Add.a.enc a) (known_Add.r.enc r) := Contract.of_body (F := fun (a : Int × (Int × Int) × (Int × Int) × Unit) => known_Add.f a.1 a.2.1 a.2.2.1) (fn := Try.f26) (cs := known_Add.cs) (live := known_Add.live) (fuel := fuel0 + 1) (by kernel_rfl) (by kernel_rfl) mixed (known_Add.eq (fuel0 + 1))
noncomputable def known_Add.c : Kn Try.prog := Kn.of 26 known_Add.a known_Add.r (fun a => known_Add.f a.1 a.2.1 a.2.2.1) known_Add.con

/-! ### bits_Concat: function 66 -/
def bits_Concat.a : ACods (Int × Int × Int × Int × Unit) := (.cons (.val (.int .i64)) (.cons (.val (.int .i64)) (.cons (.val (.int .u64)) (.cons (.val (.int .u64)) .nil))))
def bits_Concat.r : RCod (Int) := .val (.int .u64)
noncomputable def bits_Concat.cs : List (Kn Try.prog) := [bits_Cut.c, bits_clamp.c]
def bits_Concat.live : Nat → Option Keep := liveOf []
noncomputable def bits_Concat.body : Code := bodyOf Try.f66
noncomputable def bits_Concat.K (fu : Nat) : Code → St → (Ex → St → Option (Int)) → Option (Int) := codeK Try.prog bits_Concat.cs bits_Concat.live fu
noncomputable def bits_Concat.f (a0 : Int) (a1 : Int) (a2 : Int) (a3 : Int) : Option (Int) :=
  (bits_Cut.f a0 a2).bind fun r1 =>
  (bits_clamp.f a1).bind fun r2 =>
  bif decide (r2 < 0) then
    none
  else
    (bits_Cut.f a1 a3).bind fun r3 =>
    some (Go.bits .or .u64 (shl .u64 r1 r2) r3)
theorem bits_Concat.eq (fu : Nat) (a : Int × Int × Int × Int × Unit) : bodyK Try.prog bits_Concat.cs bits_Concat.live fu Try.f66 (bits_Concat.a.enc a) bits_Concat.r.dec = bits_Concat.f a.1 a.2.1 a.2.2.1 a.2.2.2.1 := by kernel_rfl
theorem bits_Concat.con : ∀ (a : Int × Int × Int × Int × Unit) (r : Int), bits_Concat.f a.1 a.2.1 a.2.2.1 a.2.2.2.1 = some r → Contract Try.prog 66 (bits_Concat.a.enc a) (bits_Concat.r.enc r) := Contract.of_body (F := fun (a : Int × Int × Int × Int × Unit) => bits_Concat.f a.1 a.2.1 a.2.2.1 a.2.2.2.1) (fn := Try.f66) (cs := bits_Concat.cs) (live := bits_Concat.live) (fuel := fuel0 + 1) (by kernel_rfl) (by kernel_rfl) mixed (bits_Concat.eq (fuel0 + 1))
noncomputable def bits_Concat.c : Kn Try.prog := Kn.of 66 bits_Concat.a bits_Concat.r (fun a => bits_Concat.f a.1 a.2.1 a.2.2.1 a.2.2.2.1) bits_Concat.con

/-! ### known_Single: function 33 -/
def known_Single.a : ACods (Int × (Int × Int) × Unit) := (.cons (.val (.int .i64)) (.cons (.val (.agg (.cons (.int .u64) (.one (.int .u64))))) .nil))
def known_Single.r : RCod (Int × Bool) := .val (.tup (.cons (.int .u64) (.one (.bool))))
noncomputable def known_Single.cs : List (Kn Try.prog) := [known_of.c, known_unknown.c]
def known_Single.live : Nat → Option Keep := liveOf []
noncomputable def known_Single.body : Code := bodyOf Try.f33
noncomputable def known_Single.K (fu : Nat) : Code → St → (Ex → St → Option (Int × Bool)) → Option (Int × Bool) := codeK Try.prog known_Single.cs known_Single.live fu
noncomputable def known_Single.f (a0 : Int) (a1 : Int × Int) : Option (Int × Bool) :=
  (known_of.f a0 (a1.1, a1.2)).bind fun r1 =>
  (known_unknown.f a0 (r1.1, r1.2)).bind fun r2 =>
  bif (r2 != 0) then
    some (0, false)
  else
    some (r1.2, true)
theorem known_Single.eq (fu : Nat) (a : Int × (Int × Int) × Unit) : bodyK Try.prog known_Single.cs known_Single.live fu Try.f33 (known_Single.a.enc a) known_Single.r.dec = known_Single.f a.1 a.2.1 := by kernel_rfl
theorem known_Single.con : ∀ (a : Int × (Int × Int) × Unit) (r : Int × Bool), known_Single.f a.1 a.2.1 = some r → Contract Try.prog 33 (known_Single.a.enc a) (known_Single.r.enc r) := Contract.of_body (F := fun (a : Int × (Int × Int) × Unit) => known_Single.f a.1 a.2.1) (fn := Try.f33) (cs := known_Single.cs) (live := known_Single.live) (fuel := fuel0 + 1) (by kernel_rfl) (by kernel_rfl) mixed (known_Single.eq (fuel0 + 1))
noncomputable def known_Single.c : Kn Try.prog := Kn.of 33 known_Single.a known_Single.r (fun a => known_Single.f a.1 a.2.1) known_Single.con

/-! ### known_equal: function 67 -/
def known_equal.a : ACods (Int × (Int × Int) × (Int × Int) × Unit) := (.cons (.val (.int .i64)) (.cons (.val (.agg (.cons (.int .u64) (.one (.int .u64))))) (.cons (.val (.agg (.cons (.int .u64) (.one (.int .u64))))) .nil)))
def known_equal.r : RCod (Int × Int) := .val (.agg (.cons (.int .u64) (.one (.int .u64))))
noncomputable def known_equal.cs : List (Kn Try.prog) := [known_Const.c, known_Single.c]
def known_equal.live : Nat → Option Keep := liveOf [(12, ⟨[6], [6], []⟩)]
noncomputable def known_equal.body : Code := bodyOf Try.f67
noncomputable def known_equal.K (fu : Nat) : Code → St → (Ex → St → Option (Int × Int)) → Option (Int × Int) := codeK Try.prog known_equal.cs known_equal.live fu
noncomputable def known_equal.p6 (m fu : Nat) (c6_0 : Int) (c6_1 : Int) : Option (Int × Int) :=
  joinK m (known_equal.K fu (sub known_equal.body [true, true, true, true])) (stOf 36 [(6, .ptr 6 0 0 0)] [(6, .own [.val (.int .u64 c6_0), .val (.int .u64 c6_1)])]) (retC Try.prog Try.f67.results known_equal.r.dec)
theorem known_equal.p6_eq (m fu : Nat) (c6_0 : Int) (c6_1 : Int) : known_equal.p6 (m + 1) fu c6_0 c6_1 =
  some (0, 0) := by kernel_rfl
noncomputable def known_equal.g (fu : Nat) (a0 : Int) (a1 : Int × Int) (a2 : Int × Int) : Option (Int × Int) :=
  bif ((Go.bits .or .u64 (Go.bits .and .u64 a1.1 a2.2) (Go.bits .and .u64 a1.2 a2.1)) != 0) then
    (known_Const.f 1 0).bind fun r1 =>
    some (r1.1, r1.2)
  else
    (known_Single.f a0 (a1.1, a1.2)).bind fun r2 =>
    bif r2.2 then
      bif ((a1.1 == a2.1) && ((a1.2 == a2.2) && true)) then
        (known_Const.f 1 1).bind fun r3 =>
        some (r3.1, r3.2)
      else
        known_equal.p6 fu fu 0 0
    else
      known_equal.p6 fu fu 0 0
noncomputable def known_equal.f (a0 : Int) (a1 : Int × Int) (a2 : Int × Int) : Option (Int × Int) := known_equal.g (fuel0 + 1) a0 a1 a2
theorem known_equal.eq (fu : Nat) (a : Int × (Int × Int) × (Int × Int) × Unit) : bodyK Try.prog known_equal.cs known_equal.live fu Try.f67 (known_equal.a.enc a) known_equal.r.dec = known_equal.g fu a.1 a.2.1 a.2.2.1 := by kernel_rfl
theorem known_equal.con : ∀ (a : Int × (Int × Int) × (Int × Int) × Unit) (r : Int × Int), known_equal.f a.1 a.2.1 a.2.2.1 = some r → Contract Try.prog 67 (known_equal.a.enc a) (known_equal.r.enc r) := Contract.of_body (F := fun (a : Int × (Int × Int) × (Int × Int) × Unit) => known_equal.f a.1 a.2.1 a.2.2.1) (fn := Try.f67) (cs := known_equal.cs) (live := known_equal.live) (fuel := fuel0 + 1) (by kernel_rfl) (by kernel_rfl) mixed (known_equal.eq (fuel0 + 1))
noncomputable def known_equal.c : Kn Try.prog := Kn.of 67 known_equal.a known_equal.r (fun a => known_equal.f a.1 a.2.1 a.2.2.1) known_equal.con

/-! ### bits_Signed: function 113 -/
def bits_Signed.a : ACods (Int × Int × Unit) := (.cons (.val (.int .i64)) (.cons (.val (.int .u64)) .nil))
def bits_Signed.r : RCod (Int) := .val (.int .i64)
noncomputable def bits_Signed.cs : List (Kn Try.prog) := [bits_clamp.c]
def bits_Signed.live : Nat → Option Keep := liveOf []
noncomputable def bits_Signed.body : Code := bodyOf Try.f113
noncomputable def bits_Signed.K (fu : Nat) : Code → St → (Ex → St → Option (Int)) → Option (Int) := codeK Try.prog bits_Signed.cs bits_Signed.live fu
noncomputable def bits_Signed.f (a0 : Int) (a1 : Int) : Option (Int) :=
  (bits_clamp.f a0).bind fun r1 =>
  bif decide ((IntKind.i64.wrap (64 - r1)) < 0) then
    none
  else
    bif decide ((IntKind.i64.wrap (64 - r1)) < 0) then
      none
    else
      some (shr .i64 (IntKind.i64.wrap (shl .u64 a1 (IntKind.i64.wrap (64 - r1)))) (IntKind.i64.wrap (64 - r1)))
theorem bits_Signed.eq (fu : Nat) (a : Int × Int × Unit) : bodyK Try.prog bits_Signed.cs bits_Signed.live fu Try.f113 (bits_Signed.a.enc a) bits_Signed.r.dec = bits_Signed.f a.1 a.2.1 := by kernel_rfl
theorem bits_Signed.con : ∀ (a : Int × Int × Unit) (r : Int), bits_Signed.f a.1 a.2.1 = some r → Contract Try.prog 113 (bits_Signed.a.enc a) (bits_Signed.r.enc r) := Contract.of_body (F := fun (a : Int × Int × Unit) => bits_Signed.f a.1 a.2.1) (fn := Try.f113) (cs := bits_Signed.cs) (live := bits_Signed.live) (fuel := fuel0 + 1) (by kernel_rfl) (by kernel_rfl) mixed (bits_Signed.eq (fuel0 + 1))
noncomputable def bits_Signed.c : Kn Try.prog := Kn.of 113 bits_Signed.a bits_Signed.r (fun a => bits_Signed.f a.1 a.2.1) bits_Signed.con

/-! ### bits_shift: function 111 -/
def bits_shift.a : ACods (Int × Int × Int × Int × Unit) := (.cons (.val (.int .i64)) (.cons (.val (.int .i64)) (.cons (.val (.int .u64)) (.cons (.val (.int .u64)) .nil))))
def bits_shift.r : RCod (Int) := .val (.int .u64)
noncomputable def bits_shift.cs : List (Kn Try.prog) := [bits_Cut.c, bits_clamp.c, bits_Signed.c, bits_Mask.c]
def bits_shift.live : Nat → Option Keep := liveOf [(20, ⟨[9, 10, 11], [], []⟩)]
noncomputable def bits_shift.body : Code := bodyOf Try.f111
noncomputable def bits_shift.K (fu : Nat) : Code → St → (Ex → St → Option (Int)) → Option (Int) := codeK Try.prog bits_shift.cs bits_shift.live fu
noncomputable def bits_shift.p10 (m fu : Nat) (x9 : Int) (x10 : Int) (x11 : Bool) : Option Int :=
  joinK m (bits_shift.K fu (sub bits_shift.body [true, true, true, false, true, false, true])) (stOf 53 [(9, .val (.int .u64 x9)), (10, .val (.int .u64 x10)), (11, .val (.bool x11))] []) (blockC 0 (seqC fu (bits_shift.live 26) (bits_shift.K fu (sub bits_shift.body [true, true, true, true])) (retC Try.prog Try.f111.results bits_shift.r.dec)))
theorem bits_shift.p10_eq (m fu : Nat) (x9 : Int) (x10 : Int) (x11 : Bool) : bits_shift.p10 (m + 1) fu x9 x10 x11 =
  bif x11 then
    some 0
  else
    bif decide (x10 < 0) then
      none
    else
      some (shr .u64 x9 x10) := by kernel_rfl
noncomputable def bits_shift.g (fu : Nat) (a0 : Int) (a1 : Int) (a2 : Int) (a3 : Int) : Option (Int) :=
  (bits_Cut.f a1 a2).bind fun r1 =>
  (bits_Cut.f a1 a3).bind fun r2 =>
  (bits_clamp.f a1).bind fun r3 =>
  bif (a0 == 2) then
    (bits_Signed.f a1 r1).bind fun r4 =>
    bif (decide (r4 < 0)) then
      bif (decide (r2 ≥ (IntKind.u64.wrap r3))) then
        (bits_Mask.f a1).bind fun r5 =>
        some r5
      else
        (bits_Signed.f a1 r1).bind fun r6 =>
        bif decide (r2 < 0) then
          none
        else
          (bits_Cut.f a1 (IntKind.u64.wrap (shr .i64 r6 r2))).bind fun r7 =>
          some r7
    else
      bits_shift.p10 fu fu r1 r2 (decide (r2 ≥ (IntKind.u64.wrap r3)))
  else
    bif (a0 == 1) then
      bits_shift.p10 fu fu r1 r2 (decide (r2 ≥ (IntKind.u64.wrap r3)))
    else
      bif (decide (r2 ≥ (IntKind.u64.wrap r3))) then
        some 0
      else
        bif decide (r2 < 0) then
          none
        else
          (bits_Cut.f a1 (shl .u64 r1 r2)).bind fun r8 =>
          some r8
noncomputable def bits_shift.f (a0 : Int) (a1 : Int) (a2 : Int) (a3 : Int) : Option (Int) := bits_shift.g (fuel0 + 1) a0 a1 a2 a3
theorem bits_shift.eq (fu : Nat) (a : Int × Int × Int × Int × Unit) : bodyK Try.prog bits_shift.cs bits_shift.live fu Try.f111 (bits_shift.a.enc a) bits_shift.r.dec = bits_shift.g fu a.1 a.2.1 a.2.2.1 a.2.2.2.1 := by kernel_rfl
theorem bits_shift.con : ∀ (a : Int × Int × Int × Int × Unit) (r : Int), bits_shift.f a.1 a.2.1 a.2.2.1 a.2.2.2.1 = some r → Contract Try.prog 111 (bits_shift.a.enc a) (bits_shift.r.enc r) := Contract.of_body (F := fun (a : Int × Int × Int × Int × Unit) => bits_shift.f a.1 a.2.1 a.2.2.1 a.2.2.2.1) (fn := Try.f111) (cs := bits_shift.cs) (live := bits_shift.live) (fuel := fuel0 + 1) (by kernel_rfl) (by kernel_rfl) mixed (bits_shift.eq (fuel0 + 1))
noncomputable def bits_shift.c : Kn Try.prog := Kn.of 111 bits_shift.a bits_shift.r (fun a => bits_shift.f a.1 a.2.1 a.2.2.1 a.2.2.2.1) bits_shift.con

/-! ### bits_Shl: function 95 -/
def bits_Shl.a : ACods (Int × Int × Int × Unit) := (.cons (.val (.int .i64)) (.cons (.val (.int .u64)) (.cons (.val (.int .u64)) .nil)))
def bits_Shl.r : RCod (Int) := .val (.int .u64)
noncomputable def bits_Shl.cs : List (Kn Try.prog) := [bits_shift.c]
def bits_Shl.live : Nat → Option Keep := liveOf []
noncomputable def bits_Shl.body : Code := bodyOf Try.f95
noncomputable def bits_Shl.K (fu : Nat) : Code → St → (Ex → St → Option (Int)) → Option (Int) := codeK Try.prog bits_Shl.cs bits_Shl.live fu
noncomputable def bits_Shl.f (a0 : Int) (a1 : Int) (a2 : Int) : Option (Int) :=
  (bits_shift.f 0 a0 a1 a2).bind fun r1 =>
  some r1
theorem bits_Shl.eq (fu : Nat) (a : Int × Int × Int × Unit) : bodyK Try.prog bits_Shl.cs bits_Shl.live fu Try.f95 (bits_Shl.a.enc a) bits_Shl.r.dec = bits_Shl.f a.1 a.2.1 a.2.2.1 := by kernel_rfl
theorem bits_Shl.con : ∀ (a : Int × Int × Int × Unit) (r : Int), bits_Shl.f a.1 a.2.1 a.2.2.1 = some r → Contract Try.prog 95 (bits_Shl.a.enc a) (bits_Shl.r.enc r) := Contract.of_body (F := fun (a : Int × Int × Int × Unit) => bits_Shl.f a.1 a.2.1 a.2.2.1) (fn := Try.f95) (cs := bits_Shl.cs) (live := bits_Shl.live) (fuel := fuel0 + 1) (by kernel_rfl) (by kernel_rfl) mixed (bits_Shl.eq (fuel0 + 1))
noncomputable def bits_Shl.c : Kn Try.prog := Kn.of 95 bits_Shl.a bits_Shl.r (fun a => bits_Shl.f a.1 a.2.1 a.2.2.1) bits_Shl.con

/-! ### bits_Lshr: function 96 -/
def bits_Lshr.a : ACods (Int × Int × Int × Unit) := (.cons (.val (.int .i64)) (.cons (.val (.int .u64)) (.cons (.val (.int .u64)) .nil)))
def bits_Lshr.r : RCod (Int) := .val (.int .u64)
noncomputable def bits_Lshr.cs : List (Kn Try.prog) := [bits_shift.c]
def bits_Lshr.live : Nat → Option Keep := liveOf []
noncomputable def bits_Lshr.body : Code := bodyOf Try.f96
noncomputable def bits_Lshr.K (fu : Nat) : Code → St → (Ex → St → Option (Int)) → Option (Int) := codeK Try.prog bits_Lshr.cs bits_Lshr.live fu
noncomputable def bits_Lshr.f (a0 : Int) (a1 : Int) (a2 : Int) : Option (Int) :=
  (bits_shift.f 1 a0 a1 a2).bind fun r1 =>
  some r1
theorem bits_Lshr.eq (fu : Nat) (a : Int × Int × Int × Unit) : bodyK Try.prog bits_Lshr.cs bits_Lshr.live fu Try.f96 (bits_Lshr.a.enc a) bits_Lshr.r.dec = bits_Lshr.f a.1 a.2.1 a.2.2.1 := by kernel_rfl
theorem bits_Lshr.con : ∀ (a : Int × Int × Int × Unit) (r : Int), bits_Lshr.f a.1 a.2.1 a.2.2.1 = some r → Contract Try.prog 96 (bits_Lshr.a.enc a) (bits_Lshr.r.enc r) := Contract.of_body (F := fun (a : Int × Int × Int × Unit) => bits_Lshr.f a.1 a.2.1 a.2.2.1) (fn := Try.f96) (cs := bits_Lshr.cs) (live := bits_Lshr.live) (fuel := fuel0 + 1) (by kernel_rfl) (by kernel_rfl) mixed (bits_Lshr.eq (fuel0 + 1))
noncomputable def bits_Lshr.c : Kn Try.prog := Kn.of 96 bits_Lshr.a bits_Lshr.r (fun a => bits_Lshr.f a.1 a.2.1 a.2.2.1) bits_Lshr.con

/-! ### bits_Ashr: function 97 -/
def bits_Ashr.a : ACods (Int × Int × Int × Unit) := (.cons (.val (.int .i64)) (.cons (.val (.int .u64)) (.cons (.val (.int .u64)) .nil)))
def bits_Ashr.r : RCod (Int) := .val (.int .u64)
noncomputable def bits_Ashr.cs : List (Kn Try.prog) := [bits_shift.c]
def bits_Ashr.live : Nat → Option Keep := liveOf []
noncomputable def bits_Ashr.body : Code := bodyOf Try.f97
noncomputable def bits_Ashr.K (fu : Nat) : Code → St → (Ex → St → Option (Int)) → Option (Int) := codeK Try.prog bits_Ashr.cs bits_Ashr.live fu
noncomputable def bits_Ashr.f (a0 : Int) (a1 : Int) (a2 : Int) : Option (Int) :=
  (bits_shift.f 2 a0 a1 a2).bind fun r1 =>
  some r1
theorem bits_Ashr.eq (fu : Nat) (a : Int × Int × Int × Unit) : bodyK Try.prog bits_Ashr.cs bits_Ashr.live fu Try.f97 (bits_Ashr.a.enc a) bits_Ashr.r.dec = bits_Ashr.f a.1 a.2.1 a.2.2.1 := by kernel_rfl
theorem bits_Ashr.con : ∀ (a : Int × Int × Int × Unit) (r : Int), bits_Ashr.f a.1 a.2.1 a.2.2.1 = some r → Contract Try.prog 97 (bits_Ashr.a.enc a) (bits_Ashr.r.enc r) := Contract.of_body (F := fun (a : Int × Int × Int × Unit) => bits_Ashr.f a.1 a.2.1 a.2.2.1) (fn := Try.f97) (cs := bits_Ashr.cs) (live := bits_Ashr.live) (fuel := fuel0 + 1) (by kernel_rfl) (by kernel_rfl) mixed (bits_Ashr.eq (fuel0 + 1))
noncomputable def bits_Ashr.c : Kn Try.prog := Kn.of 97 bits_Ashr.a bits_Ashr.r (fun a => bits_Ashr.f a.1 a.2.1 a.2.2.1) bits_Ashr.con

/-! ### known_shift: function 68 -/
def known_shift.a : ACods (Int × Int × (Int × Int) × Int × Unit) := (.cons (.val (.int .i64)) (.cons (.val (.int .i64)) (.cons (.val (.agg (.cons (.int .u64) (.one (.int .u64))))) (.cons (.val (.int .u64)) .nil))))
def known_shift.r : RCod (Int × Int) := .val (.agg (.cons (.int .u64) (.one (.int .u64))))
noncomputable def known_shift.cs : List (Kn Try.prog) := [bits_Not.c, bits_Shl.c, bits_Lshr.c, bits_Ashr.c]
def known_shift.live : Nat → Option Keep := liveOf []
noncomputable def known_shift.body : Code := bodyOf Try.f68
noncomputable def known_shift.K (fu : Nat) : Code → St → (Ex → St → Option (Int × Int)) → Option (Int × Int) := codeK Try.prog known_shift.cs known_shift.live fu
noncomputable def known_shift.f (a0 : Int) (a1 : Int) (a2 : Int × Int) (a3 : Int) : Option (Int × Int) :=
  bif (a0 == 13) then
    (bits_Not.f a1 a2.1).bind fun r1 =>
    (bits_Shl.f a1 r1 a3).bind fun r2 =>
    (bits_Not.f a1 r2).bind fun r3 =>
    (bits_Shl.f a1 a2.2 a3).bind fun r4 =>
    some (r3, r4)
  else
    bif (a0 == 14) then
      (bits_Not.f a1 a2.1).bind fun r5 =>
      (bits_Lshr.f a1 r5 a3).bind fun r6 =>
      (bits_Not.f a1 r6).bind fun r7 =>
      (bits_Lshr.f a1 a2.2 a3).bind fun r8 =>
      some (r7, r8)
    else
      (bits_Ashr.f a1 a2.1 a3).bind fun r9 =>
      (bits_Ashr.f a1 a2.2 a3).bind fun r10 =>
      some (r9, r10)
theorem known_shift.eq (fu : Nat) (a : Int × Int × (Int × Int) × Int × Unit) : bodyK Try.prog known_shift.cs known_shift.live fu Try.f68 (known_shift.a.enc a) known_shift.r.dec = known_shift.f a.1 a.2.1 a.2.2.1 a.2.2.2.1 := by kernel_rfl
theorem known_shift.con : ∀ (a : Int × Int × (Int × Int) × Int × Unit) (r : Int × Int), known_shift.f a.1 a.2.1 a.2.2.1 a.2.2.2.1 = some r → Contract Try.prog 68 (known_shift.a.enc a) (known_shift.r.enc r) := Contract.of_body (F := fun (a : Int × Int × (Int × Int) × Int × Unit) => known_shift.f a.1 a.2.1 a.2.2.1 a.2.2.2.1) (fn := Try.f68) (cs := known_shift.cs) (live := known_shift.live) (fuel := fuel0 + 1) (by kernel_rfl) (by kernel_rfl) mixed (known_shift.eq (fuel0 + 1))
noncomputable def known_shift.c : Kn Try.prog := Kn.of 68 known_shift.a known_shift.r (fun a => known_shift.f a.1 a.2.1 a.2.2.1 a.2.2.2.1) known_shift.con

/-! ### bits_Mul: function 98 -/
def bits_Mul.a : ACods (Int × Int × Int × Unit) := (.cons (.val (.int .i64)) (.cons (.val (.int .u64)) (.cons (.val (.int .u64)) .nil)))
def bits_Mul.r : RCod (Int) := .val (.int .u64)
noncomputable def bits_Mul.cs : List (Kn Try.prog) := [bits_Cut.c]
def bits_Mul.live : Nat → Option Keep := liveOf []
noncomputable def bits_Mul.body : Code := bodyOf Try.f98
noncomputable def bits_Mul.K (fu : Nat) : Code → St → (Ex → St → Option (Int)) → Option (Int) := codeK Try.prog bits_Mul.cs bits_Mul.live fu
noncomputable def bits_Mul.f (a0 : Int) (a1 : Int) (a2 : Int) : Option (Int) :=
  (bits_Cut.f a0 (IntKind.u64.wrap (a1 * a2))).bind fun r1 =>
  some r1
theorem bits_Mul.eq (fu : Nat) (a : Int × Int × Int × Unit) : bodyK Try.prog bits_Mul.cs bits_Mul.live fu Try.f98 (bits_Mul.a.enc a) bits_Mul.r.dec = bits_Mul.f a.1 a.2.1 a.2.2.1 := by kernel_rfl
theorem bits_Mul.con : ∀ (a : Int × Int × Int × Unit) (r : Int), bits_Mul.f a.1 a.2.1 a.2.2.1 = some r → Contract Try.prog 98 (bits_Mul.a.enc a) (bits_Mul.r.enc r) := Contract.of_body (F := fun (a : Int × Int × Int × Unit) => bits_Mul.f a.1 a.2.1 a.2.2.1) (fn := Try.f98) (cs := bits_Mul.cs) (live := bits_Mul.live) (fuel := fuel0 + 1) (by kernel_rfl) (by kernel_rfl) mixed (bits_Mul.eq (fuel0 + 1))
noncomputable def bits_Mul.c : Kn Try.prog := Kn.of 98 bits_Mul.a bits_Mul.r (fun a => bits_Mul.f a.1 a.2.1 a.2.2.1) bits_Mul.con

/-! ### bits_Udiv: function 99 -/
def bits_Udiv.a : ACods (Int × Int × Int × Unit) := (.cons (.val (.int .i64)) (.cons (.val (.int .u64)) (.cons (.val (.int .u64)) .nil)))
def bits_Udiv.r : RCod (Int) := .val (.int .u64)
noncomputable def bits_Udiv.cs : List (Kn Try.prog) := [bits_Cut.c, bits_Mask.c]
def bits_Udiv.live : Nat → Option Keep := liveOf []
noncomputable def bits_Udiv.body : Code := bodyOf Try.f99
noncomputable def bits_Udiv.K (fu : Nat) : Code → St → (Ex → St → Option (Int)) → Option (Int) := codeK Try.prog bits_Udiv.cs bits_Udiv.live fu
noncomputable def bits_Udiv.f (a0 : Int) (a1 : Int) (a2 : Int) : Option (Int) :=
  (bits_Cut.f a0 a1).bind fun r1 =>
  (bits_Cut.f a0 a2).bind fun r2 =>
  bif (r2 == 0) then
    (bits_Mask.f a0).bind fun r3 =>
    some r3
  else
    bif decide (r2 = 0) then
      none
    else
      some (IntKind.u64.wrap (Int.tdiv r1 r2))
theorem bits_Udiv.eq (fu : Nat) (a : Int × Int × Int × Unit) : bodyK Try.prog bits_Udiv.cs bits_Udiv.live fu Try.f99 (bits_Udiv.a.enc a) bits_Udiv.r.dec = bits_Udiv.f a.1 a.2.1 a.2.2.1 := by kernel_rfl
theorem bits_Udiv.con : ∀ (a : Int × Int × Int × Unit) (r : Int), bits_Udiv.f a.1 a.2.1 a.2.2.1 = some r → Contract Try.prog 99 (bits_Udiv.a.enc a) (bits_Udiv.r.enc r) := Contract.of_body (F := fun (a : Int × Int × Int × Unit) => bits_Udiv.f a.1 a.2.1 a.2.2.1) (fn := Try.f99) (cs := bits_Udiv.cs) (live := bits_Udiv.live) (fuel := fuel0 + 1) (by kernel_rfl) (by kernel_rfl) mixed (bits_Udiv.eq (fuel0 + 1))
noncomputable def bits_Udiv.c : Kn Try.prog := Kn.of 99 bits_Udiv.a bits_Udiv.r (fun a => bits_Udiv.f a.1 a.2.1 a.2.2.1) bits_Udiv.con

/-! ### bits_Urem: function 100 -/
def bits_Urem.a : ACods (Int × Int × Int × Unit) := (.cons (.val (.int .i64)) (.cons (.val (.int .u64)) (.cons (.val (.int .u64)) .nil)))
def bits_Urem.r : RCod (Int) := .val (.int .u64)
noncomputable def bits_Urem.cs : List (Kn Try.prog) := [bits_Cut.c]
def bits_Urem.live : Nat → Option Keep := liveOf []
noncomputable def bits_Urem.body : Code := bodyOf Try.f100
noncomputable def bits_Urem.K (fu : Nat) : Code → St → (Ex → St → Option (Int)) → Option (Int) := codeK Try.prog bits_Urem.cs bits_Urem.live fu
noncomputable def bits_Urem.f (a0 : Int) (a1 : Int) (a2 : Int) : Option (Int) :=
  (bits_Cut.f a0 a1).bind fun r1 =>
  (bits_Cut.f a0 a2).bind fun r2 =>
  bif (r2 == 0) then
    some r1
  else
    bif decide (r2 = 0) then
      none
    else
      some (Int.tmod r1 r2)
theorem bits_Urem.eq (fu : Nat) (a : Int × Int × Int × Unit) : bodyK Try.prog bits_Urem.cs bits_Urem.live fu Try.f100 (bits_Urem.a.enc a) bits_Urem.r.dec = bits_Urem.f a.1 a.2.1 a.2.2.1 := by kernel_rfl
theorem bits_Urem.con : ∀ (a : Int × Int × Int × Unit) (r : Int), bits_Urem.f a.1 a.2.1 a.2.2.1 = some r → Contract Try.prog 100 (bits_Urem.a.enc a) (bits_Urem.r.enc r) := Contract.of_body (F := fun (a : Int × Int × Int × Unit) => bits_Urem.f a.1 a.2.1 a.2.2.1) (fn := Try.f100) (cs := bits_Urem.cs) (live := bits_Urem.live) (fuel := fuel0 + 1) (by kernel_rfl) (by kernel_rfl) mixed (bits_Urem.eq (fuel0 + 1))
noncomputable def bits_Urem.c : Kn Try.prog := Kn.of 100 bits_Urem.a bits_Urem.r (fun a => bits_Urem.f a.1 a.2.1 a.2.2.1) bits_Urem.con

/-! ### bits_flag: function 112 -/
def bits_flag.a : ACods (Bool × Unit) := (.cons (.val (.bool)) .nil)
def bits_flag.r : RCod (Int) := .val (.int .u64)
noncomputable def bits_flag.cs : List (Kn Try.prog) := []
def bits_flag.live : Nat → Option Keep := liveOf []
noncomputable def bits_flag.body : Code := bodyOf Try.f112
noncomputable def bits_flag.K (fu : Nat) : Code → St → (Ex → St → Option (Int)) → Option (Int) := codeK Try.prog bits_flag.cs bits_flag.live fu
noncomputable def bits_flag.f (a0 : Bool) : Option (Int) :=
  bif a0 then
    some 1
  else
    some 0
theorem bits_flag.eq (fu : Nat) (a : Bool × Unit) : bodyK Try.prog bits_flag.cs bits_flag.live fu Try.f112 (bits_flag.a.enc a) bits_flag.r.dec = bits_flag.f a.1 := by kernel_rfl
theorem bits_flag.con : ∀ (a : Bool × Unit) (r : Int), bits_flag.f a.1 = some r → Contract Try.prog 112 (bits_flag.a.enc a) (bits_flag.r.enc r) := Contract.of_body (F := fun (a : Bool × Unit) => bits_flag.f a.1) (fn := Try.f112) (cs := bits_flag.cs) (live := bits_flag.live) (fuel := fuel0 + 1) (by kernel_rfl) (by kernel_rfl) mixed (bits_flag.eq (fuel0 + 1))
noncomputable def bits_flag.c : Kn Try.prog := Kn.of 112 bits_flag.a bits_flag.r (fun a => bits_flag.f a.1) bits_flag.con

/-! ### bits_Ult: function 101 -/
def bits_Ult.a : ACods (Int × Int × Int × Unit) := (.cons (.val (.int .i64)) (.cons (.val (.int .u64)) (.cons (.val (.int .u64)) .nil)))
def bits_Ult.r : RCod (Int) := .val (.int .u64)
noncomputable def bits_Ult.cs : List (Kn Try.prog) := [bits_Cut.c, bits_flag.c]
def bits_Ult.live : Nat → Option Keep := liveOf []
noncomputable def bits_Ult.body : Code := bodyOf Try.f101
noncomputable def bits_Ult.K (fu : Nat) : Code → St → (Ex → St → Option (Int)) → Option (Int) := codeK Try.prog bits_Ult.cs bits_Ult.live fu
noncomputable def bits_Ult.f (a0 : Int) (a1 : Int) (a2 : Int) : Option (Int) :=
  (bits_Cut.f a0 a1).bind fun r1 =>
  (bits_Cut.f a0 a2).bind fun r2 =>
  (bits_flag.f (decide (r1 < r2))).bind fun r3 =>
  some r3
theorem bits_Ult.eq (fu : Nat) (a : Int × Int × Int × Unit) : bodyK Try.prog bits_Ult.cs bits_Ult.live fu Try.f101 (bits_Ult.a.enc a) bits_Ult.r.dec = bits_Ult.f a.1 a.2.1 a.2.2.1 := by kernel_rfl
theorem bits_Ult.con : ∀ (a : Int × Int × Int × Unit) (r : Int), bits_Ult.f a.1 a.2.1 a.2.2.1 = some r → Contract Try.prog 101 (bits_Ult.a.enc a) (bits_Ult.r.enc r) := Contract.of_body (F := fun (a : Int × Int × Int × Unit) => bits_Ult.f a.1 a.2.1 a.2.2.1) (fn := Try.f101) (cs := bits_Ult.cs) (live := bits_Ult.live) (fuel := fuel0 + 1) (by kernel_rfl) (by kernel_rfl) mixed (bits_Ult.eq (fuel0 + 1))
noncomputable def bits_Ult.c : Kn Try.prog := Kn.of 101 bits_Ult.a bits_Ult.r (fun a => bits_Ult.f a.1 a.2.1 a.2.2.1) bits_Ult.con

/-! ### bits_Slt: function 102 -/
def bits_Slt.a : ACods (Int × Int × Int × Unit) := (.cons (.val (.int .i64)) (.cons (.val (.int .u64)) (.cons (.val (.int .u64)) .nil)))
def bits_Slt.r : RCod (Int) := .val (.int .u64)
noncomputable def bits_Slt.cs : List (Kn Try.prog) := [bits_Signed.c, bits_flag.c]
def bits_Slt.live : Nat → Option Keep := liveOf []
noncomputable def bits_Slt.body : Code := bodyOf Try.f102
noncomputable def bits_Slt.K (fu : Nat) : Code → St → (Ex → St → Option (Int)) → Option (Int) := codeK Try.prog bits_Slt.cs bits_Slt.live fu
noncomputable def bits_Slt.f (a0 : Int) (a1 : Int) (a2 : Int) : Option (Int) :=
  (bits_Signed.f a0 a1).bind fun r1 =>
  (bits_Signed.f a0 a2).bind fun r2 =>
  (bits_flag.f (decide (r1 < r2))).bind fun r3 =>
  some r3
theorem bits_Slt.eq (fu : Nat) (a : Int × Int × Int × Unit) : bodyK Try.prog bits_Slt.cs bits_Slt.live fu Try.f102 (bits_Slt.a.enc a) bits_Slt.r.dec = bits_Slt.f a.1 a.2.1 a.2.2.1 := by kernel_rfl
theorem bits_Slt.con : ∀ (a : Int × Int × Int × Unit) (r : Int), bits_Slt.f a.1 a.2.1 a.2.2.1 = some r → Contract Try.prog 102 (bits_Slt.a.enc a) (bits_Slt.r.enc r) := Contract.of_body (F := fun (a : Int × Int × Int × Unit) => bits_Slt.f a.1 a.2.1 a.2.2.1) (fn := Try.f102) (cs := bits_Slt.cs) (live := bits_Slt.live) (fuel := fuel0 + 1) (by kernel_rfl) (by kernel_rfl) mixed (bits_Slt.eq (fuel0 + 1))
noncomputable def bits_Slt.c : Kn Try.prog := Kn.of 102 bits_Slt.a bits_Slt.r (fun a => bits_Slt.f a.1 a.2.1 a.2.2.1) bits_Slt.con
end Go.Proofs.Ytbfniopkadaheaa.Fn
