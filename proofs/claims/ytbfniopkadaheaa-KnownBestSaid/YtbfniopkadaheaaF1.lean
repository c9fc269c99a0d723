/- What the functions return, as the evaluator tells it: written by a program of this workplace (mev.py); Lean checks each equation. -/
import Derived.Test.YtbfniopkadaheaaProg
import Derived.Test.YtbfniopkadaheaaEvC
import Derived.Test.YtbfniopkadaheaaF0
namespace Go.Proofs.Ytbfniopkadaheaa.Fn
open Go Go.RowKit Go.Proofs.Ytbfniopkadaheaa.Ev Go.Proofs
set_option linter.unusedVariables false
set_option maxRecDepth 100000
/-! ### known_value: function 69 -/
def known_value.a : ACods (Int × Int × Int × Int × Unit) := (.cons (.val (.int .i64)) (.cons (.val (.int .i64)) (.cons (.val (.int .u64)) (.cons (.val (.int .u64)) .nil))))
def known_value.r : RCod (Int) := .val (.int .u64)
noncomputable def known_value.cs : List (Kn Try.prog) := [bits_Mul.c, bits_Udiv.c, bits_Urem.c, bits_Ult.c, bits_Slt.c]
def known_value.live : Nat → Option Keep := liveOf []
noncomputable def known_value.body : Code := bodyOf Try.f69
noncomputable def known_value.K (fu : Nat) : Code → St → (Ex → St → Option (Int)) → Option (Int) := codeK Try.prog known_value.cs known_value.live fu
noncomputable def known_value.f (a0 : Int) (a1 : Int) (a2 : Int) (a3 : Int) : Option (Int) :=
  bif (a0 == 10) then
    (bits_Mul.f a1 a2 a3).bind fun r1 =>
    some r1
  else
    bif (a0 == 11) then
      (bits_Udiv.f a1 a2 a3).bind fun r2 =>
      some r2
    else
      bif (a0 == 12) then
        (bits_Urem.f a1 a2 a3).bind fun r3 =>
        some r3
      else
        bif (a0 == 17) then
          (bits_Ult.f a1 a2 a3).bind fun r4 =>
          some r4
        else
          (bits_Slt.f a1 a2 a3).bind fun r5 =>
          some r5
theorem known_value.eq (fu : Nat) (a : Int × Int × Int × Int × Unit) : bodyK Try.prog known_value.cs known_value.live fu Try.f69 (known_value.a.enc a) known_value.r.dec = known_value.f a.1 a.2.1 a.2.2.1 a.2.2.2.1 := by kernel_rfl
theorem known_value.con : ∀ (a : Int × Int × Int × Int × Unit) (r : Int), known_value.f a.1 a.2.1 a.2.2.1 a.2.2.2.1 = some r → Contract Try.prog 69 (known_value.a.enc a) (known_value.r.enc r) := Contract.of_body (F := fun (a : Int × Int × Int × Int × Unit) => known_value.f a.1 a.2.1 a.2.2.1 a.2.2.2.1) (fn := Try.f69) (cs := known_value.cs) (live := known_value.live) (fuel := fuel0 + 1) (by kernel_rfl) (by kernel_rfl) mixed (known_value.eq (fuel0 + 1))
noncomputable def known_value.c : Kn Try.prog := Kn.of 69 known_value.a known_value.r (fun a => known_value.f a.1 a.2.1 a.2.2.1 a.2.2.2.1) known_value.con

/-! ### known_low: function 70 -/
def known_low.a : ACods (Int × (Int × Int) × Unit) := (.cons (.val (.int .i64)) (.cons (.val (.agg (.cons (.int .u64) (.one (.int .u64))))) .nil))
def known_low.r : RCod (Int) := .val (.int .i64)
noncomputable def known_low.cs : List (Kn Try.prog) := []
def known_low.live : Nat → Option Keep := liveOf [(7, ⟨[3, 5, 7, 8], [3], []⟩)]
noncomputable def known_low.body : Code := bodyOf Try.f70
noncomputable def known_low.K (fu : Nat) : Code → St → (Ex → St → Option (Int)) → Option (Int) := codeK Try.prog known_low.cs known_low.live fu
noncomputable def known_low.j3 (fu : Nat) (n3 : Nat) (x5 : Int) (x7 : Int) (x8 : Int) (c3_0 : Int) (c3_1 : Int) : Option Int :=
  loopK (known_low.K fu (sub known_low.body [true, true, false, true, false, false])) (known_low.live 7) n3 (stOf 22 [(3, .ptr 3 0 0 0), (5, .val (.int .i64 x5)), (7, .val (.int .i64 x7)), (8, .val (.int .i64 x8))] [(3, .own [.val (.int .u64 c3_0), .val (.int .u64 c3_1)])]) (blockC 0 (seqC fu (known_low.live 18) (known_low.K fu (sub known_low.body [true, true, true])) (retC Try.prog Try.f70.results known_low.r.dec)))
theorem known_low.j3_succ (fu : Nat) (n3 : Nat) (x5 : Int) (x7 : Int) (x8 : Int) (c3_0 : Int) (c3_1 : Int) : known_low.j3 fu (n3 + 1) x5 x7 x8 c3_0 c3_1 =
  bif (decide (x8 < x7)) then
    bif decide (x8 < 0) then
      none
    else
      bif ((Go.bits .and .u64 (shr .u64 c3_0 x8) 1) == 0) then
        some x5
      else
        known_low.j3 fu n3 (IntKind.i64.wrap (x5 + 1)) x7 (IntKind.i64.wrap (x8 + 1)) c3_0 c3_1
  else
    some x5 := by kernel_rfl
noncomputable def known_low.g (fu : Nat) (a0 : Int) (a1 : Int × Int) : Option (Int) :=
  known_low.j3 fu fu 0 a0 0 a1.1 a1.2
noncomputable def known_low.f (a0 : Int) (a1 : Int × Int) : Option (Int) := known_low.g (fuel0 + 1) a0 a1
theorem known_low.eq (fu : Nat) (a : Int × (Int × Int) × Unit) : bodyK Try.prog known_low.cs known_low.live fu Try.f70 (known_low.a.enc a) known_low.r.dec = known_low.g fu a.1 a.2.1 := by kernel_rfl
theorem known_low.con : ∀ (a : Int × (Int × Int) × Unit) (r : Int), known_low.f a.1 a.2.1 = some r → Contract Try.prog 70 (known_low.a.enc a) (known_low.r.enc r) := Contract.of_body (F := fun (a : Int × (Int × Int) × Unit) => known_low.f a.1 a.2.1) (fn := Try.f70) (cs := known_low.cs) (live := known_low.live) (fuel := fuel0 + 1) (by kernel_rfl) (by kernel_rfl) mixed (known_low.eq (fuel0 + 1))
noncomputable def known_low.c : Kn Try.prog := Kn.of 70 known_low.a known_low.r (fun a => known_low.f a.1 a.2.1) known_low.con

/-! ### bits_OnesCount64: function 88 -/
def bits_OnesCount64.a : ACods (Int × Unit) := (.cons (.val (.int .u64)) .nil)
def bits_OnesCount64.r : RCod (Int) := .val (.int .i64)
noncomputable def bits_OnesCount64.cs : List (Kn Try.prog) := []
def bits_OnesCount64.live : Nat → Option Keep := liveOf []
noncomputable def bits_OnesCount64.body : Code := bodyOf Try.f88
noncomputable def bits_OnesCount64.K (fu : Nat) : Code → St → (Ex → St → Option (Int)) → Option (Int) := codeK Try.prog bits_OnesCount64.cs bits_OnesCount64.live fu
noncomputable def bits_OnesCount64.f (a0 : Int) : Option (Int) :=
  some (Go.bits .and .i64 (IntKind.i64.wrap (IntKind.u64.wrap ((IntKind.u64.wrap ((IntKind.u64.wrap ((Go.bits .and .u64 (IntKind.u64.wrap ((shr .u64 (IntKind.u64.wrap ((Go.bits .and .u64 (shr .u64 (IntKind.u64.wrap ((Go.bits .and .u64 (shr .u64 a0 1) 6148914691236517205) + (Go.bits .and .u64 a0 6148914691236517205))) 2) 3689348814741910323) + (Go.bits .and .u64 (IntKind.u64.wrap ((Go.bits .and .u64 (shr .u64 a0 1) 6148914691236517205) + (Go.bits .and .u64 a0 6148914691236517205))) 3689348814741910323))) 4) + (IntKind.u64.wrap ((Go.bits .and .u64 (shr .u64 (IntKind.u64.wrap ((Go.bits .and .u64 (shr .u64 a0 1) 6148914691236517205) + (Go.bits .and .u64 a0 6148914691236517205))) 2) 3689348814741910323) + (Go.bits .and .u64 (IntKind.u64.wrap ((Go.bits .and .u64 (shr .u64 a0 1) 6148914691236517205) + (Go.bits .and .u64 a0 6148914691236517205))) 3689348814741910323))))) 1085102592571150095) + (shr .u64 (Go.bits .and .u64 (IntKind.u64.wrap ((shr .u64 (IntKind.u64.wrap ((Go.bits .and .u64 (shr .u64 (IntKind.u64.wrap ((Go.bits .and .u64 (shr .u64 a0 1) 6148914691236517205) + (Go.bits .and .u64 a0 6148914691236517205))) 2) 3689348814741910323) + (Go.bits .and .u64 (IntKind.u64.wrap ((Go.bits .and .u64 (shr .u64 a0 1) 6148914691236517205) + (Go.bits .and .u64 a0 6148914691236517205))) 3689348814741910323))) 4) + (IntKind.u64.wrap ((Go.bits .and .u64 (shr .u64 (IntKind.u64.wrap ((Go.bits .and .u64 (shr .u64 a0 1) 6148914691236517205) + (Go.bits .and .u64 a0 6148914691236517205))) 2) 3689348814741910323) + (Go.bits .and .u64 (IntKind.u64.wrap ((Go.bits .and .u64 (shr .u64 a0 1) 6148914691236517205) + (Go.bits .and .u64 a0 6148914691236517205))) 3689348814741910323))))) 1085102592571150095) 8))) + (shr .u64 (IntKind.u64.wrap ((Go.bits .and .u64 (IntKind.u64.wrap ((shr .u64 (IntKind.u64.wrap ((Go.bits .and .u64 (shr .u64 (IntKind.u64.wrap ((Go.bits .and .u64 (shr .u64 a0 1) 6148914691236517205) + (Go.bits .and .u64 a0 6148914691236517205))) 2) 3689348814741910323) + (Go.bits .and .u64 (IntKind.u64.wrap ((Go.bits .and .u64 (shr .u64 a0 1) 6148914691236517205) + (Go.bits .and .u64 a0 6148914691236517205))) 3689348814741910323))) 4) + (IntKind.u64.wrap ((Go.bits .and .u64 (shr .u64 (IntKind.u64.wrap ((Go.bits .and .u64 (shr .u64 a0 1) 6148914691236517205) + (Go.bits .and .u64 a0 6148914691236517205))) 2) 3689348814741910323) + (Go.bits .and .u64 (IntKind.u64.wrap ((Go.bits .and .u64 (shr .u64 a0 1) 6148914691236517205) + (Go.bits .and .u64 a0 6148914691236517205))) 3689348814741910323))))) 1085102592571150095) + (shr .u64 (Go.bits .and .u64 (IntKind.u64.wrap ((shr .u64 (IntKind.u64.wrap ((Go.bits .and .u64 (shr .u64 (IntKind.u64.wrap ((Go.bits .and .u64 (shr .u64 a0 1) 6148914691236517205) + (Go.bits .and .u64 a0 6148914691236517205))) 2) 3689348814741910323) + (Go.bits .and .u64 (IntKind.u64.wrap ((Go.bits .and .u64 (shr .u64 a0 1) 6148914691236517205) + (Go.bits .and .u64 a0 6148914691236517205))) 3689348814741910323))) 4) + (IntKind.u64.wrap ((Go.bits .and .u64 (shr .u64 (IntKind.u64.wrap ((Go.bits .and .u64 (shr .u64 a0 1) 6148914691236517205) + (Go.bits .and .u64 a0 6148914691236517205))) 2) 3689348814741910323) + (Go.bits .and .u64 (IntKind.u64.wrap ((Go.bits .and .u64 (shr .u64 a0 1) 6148914691236517205) + (Go.bits .and .u64 a0 6148914691236517205))) 3689348814741910323))))) 1085102592571150095) 8))) 16))) + (shr .u64 (IntKind.u64.wrap ((IntKind.u64.wrap ((Go.bits .and .u64 (IntKind.u64.wrap ((shr .u64 (IntKind.u64.wrap ((Go.bits .and .u64 (shr .u64 (IntKind.u64.wrap ((Go.bits .and .u64 (shr .u64 a0 1) 6148914691236517205) + (Go.bits .and .u64 a0 6148914691236517205))) 2) 3689348814741910323) + (Go.bits .and .u64 (IntKind.u64.wrap ((Go.bits .and .u64 (shr .u64 a0 1) 6148914691236517205) + (Go.bits .and .u64 a0 6148914691236517205))) 3689348814741910323))) 4) + (IntKind.u64.wrap ((Go.bits .and .u64 (shr .u64 (IntKind.u64.wrap ((Go.bits .and .u64 (shr .u64 a0 1) 6148914691236517205) + (Go.bits .and .u64 a0 6148914691236517205))) 2) 3689348814741910323) + (Go.bits .and .u64 (IntKind.u64.wrap ((Go.bits .and .u64 (shr .u64 a0 1) 6148914691236517205) + (Go.bits .and .u64 a0 6148914691236517205))) 3689348814741910323))))) 1085102592571150095) + (shr .u64 (Go.bits .and .u64 (IntKind.u64.wrap ((shr .u64 (IntKind.u64.wrap ((Go.bits .and .u64 (shr .u64 (IntKind.u64.wrap ((Go.bits .and .u64 (shr .u64 a0 1) 6148914691236517205) + (Go.bits .and .u64 a0 6148914691236517205))) 2) 3689348814741910323) + (Go.bits .and .u64 (IntKind.u64.wrap ((Go.bits .and .u64 (shr .u64 a0 1) 6148914691236517205) + (Go.bits .and .u64 a0 6148914691236517205))) 3689348814741910323))) 4) + (IntKind.u64.wrap ((Go.bits .and .u64 (shr .u64 (IntKind.u64.wrap ((Go.bits .and .u64 (shr .u64 a0 1) 6148914691236517205) + (Go.bits .and .u64 a0 6148914691236517205))) 2) 3689348814741910323) + (Go.bits .and .u64 (IntKind.u64.wrap ((Go.bits .and .u64 (shr .u64 a0 1) 6148914691236517205) + (Go.bits .and .u64 a0 6148914691236517205))) 3689348814741910323))))) 1085102592571150095) 8))) + (shr .u64 (IntKind.u64.wrap ((Go.bits .and .u64 (IntKind.u64.wrap ((shr .u64 (IntKind.u64.wrap ((Go.bits .and .u64 (shr .u64 (IntKind.u64.wrap ((Go.bits .and .u64 (shr .u64 a0 1) 6148914691236517205) + (Go.bits .and .u64 a0 6148914691236517205))) 2) 3689348814741910323) + (Go.bits .and .u64 (IntKind.u64.wrap ((Go.bits .and .u64 (shr .u64 a0 1) 6148914691236517205) + (Go.bits .and .u64 a0 6148914691236517205))) 3689348814741910323))) 4) + (IntKind.u64.wrap ((Go.bits .and .u64 (shr .u64 (IntKind.u64.wrap ((Go.bits .and .u64 (shr .u64 a0 1) 6148914691236517205) + (Go.bits .and .u64 a0 6148914691236517205))) 2) 3689348814741910323) + (Go.bits .and .u64 (IntKind.u64.wrap ((Go.bits .and .u64 (shr .u64 a0 1) 6148914691236517205) + (Go.bits .and .u64 a0 6148914691236517205))) 3689348814741910323))))) 1085102592571150095) + (shr .u64 (Go.bits .and .u64 (IntKind.u64.wrap ((shr .u64 (IntKind.u64.wrap ((Go.bits .and .u64 (shr .u64 (IntKind.u64.wrap ((Go.bits .and .u64 (shr .u64 a0 1) 6148914691236517205) + (Go.bits .and .u64 a0 6148914691236517205))) 2) 3689348814741910323) + (Go.bits .and .u64 (IntKind.u64.wrap ((Go.bits .and .u64 (shr .u64 a0 1) 6148914691236517205) + (Go.bits .and .u64 a0 6148914691236517205))) 3689348814741910323))) 4) + (IntKind.u64.wrap ((Go.bits .and .u64 (shr .u64 (IntKind.u64.wrap ((Go.bits .and .u64 (shr .u64 a0 1) 6148914691236517205) + (Go.bits .and .u64 a0 6148914691236517205))) 2) 3689348814741910323) + (Go.bits .and .u64 (IntKind.u64.wrap ((Go.bits .and .u64 (shr .u64 a0 1) 6148914691236517205) + (Go.bits .and .u64 a0 6148914691236517205))) 3689348814741910323))))) 1085102592571150095) 8))) 16))) 32)))) 127)
theorem bits_OnesCount64.eq (fu : Nat) (a : Int × Unit) : bodyK Try.prog bits_OnesCount64.cs bits_OnesCount64.live fu Try.f88 (bits_OnesCount64.a.enc a) bits_OnesCount64.r.dec = bits_OnesCount64.f a.1 := by kernel_rfl
theorem bits_OnesCount64.con : ∀ (a : Int × Unit) (r : Int), bits_OnesCount64.f a.1 = some r → Contract Try.prog 88 (bits_OnesCount64.a.enc a) (bits_OnesCount64.r.enc r) := Contract.of_body (F := fun (a : Int × Unit) => bits_OnesCount64.f a.1) (fn := Try.f88) (cs := bits_OnesCount64.cs) (live := bits_OnesCount64.live) (fuel := fuel0 + 1) (by kernel_rfl) (by kernel_rfl) mixed (bits_OnesCount64.eq (fuel0 + 1))
noncomputable def bits_OnesCount64.c : Kn Try.prog := Kn.of 88 bits_OnesCount64.a bits_OnesCount64.r (fun a => bits_OnesCount64.f a.1) bits_OnesCount64.con

/-! ### bits_Count: function 62 -/
def bits_Count.a : ACods (Int × Unit) := (.cons (.val (.int .u64)) .nil)
def bits_Count.r : RCod (Int) := .val (.int .i64)
noncomputable def bits_Count.cs : List (Kn Try.prog) := [bits_OnesCount64.c]
def bits_Count.live : Nat → Option Keep := liveOf []
noncomputable def bits_Count.body : Code := bodyOf Try.f62
noncomputable def bits_Count.K (fu : Nat) : Code → St → (Ex → St → Option (Int)) → Option (Int) := codeK Try.prog bits_Count.cs bits_Count.live fu
noncomputable def bits_Count.f (a0 : Int) : Option (Int) :=
  (bits_OnesCount64.f a0).bind fun r1 =>
  some r1
theorem bits_Count.eq (fu : Nat) (a : Int × Unit) : bodyK Try.prog bits_Count.cs bits_Count.live fu Try.f62 (bits_Count.a.enc a) bits_Count.r.dec = bits_Count.f a.1 := by kernel_rfl
theorem bits_Count.con : ∀ (a : Int × Unit) (r : Int), bits_Count.f a.1 = some r → Contract Try.prog 62 (bits_Count.a.enc a) (bits_Count.r.enc r) := Contract.of_body (F := fun (a : Int × Unit) => bits_Count.f a.1) (fn := Try.f62) (cs := bits_Count.cs) (live := bits_Count.live) (fuel := fuel0 + 1) (by kernel_rfl) (by kernel_rfl) mixed (bits_Count.eq (fuel0 + 1))
noncomputable def bits_Count.c : Kn Try.prog := Kn.of 62 bits_Count.a bits_Count.r (fun a => bits_Count.f a.1) bits_Count.con

/-! ### known_binary: function 43 -/
def known_binary.a : ACods (Int × Int × Int × Int × (Int × Int) × (Int × Int) × Unit) := (.cons (.val (.int .i64)) (.cons (.val (.int .i64)) (.cons (.val (.int .i64)) (.cons (.val (.int .i64)) (.cons (.val (.agg (.cons (.int .u64) (.one (.int .u64))))) (.cons (.val (.agg (.cons (.int .u64) (.one (.int .u64))))) .nil))))))
def known_binary.r : RCod (Int × Int) := .val (.agg (.cons (.int .u64) (.one (.int .u64))))
noncomputable def known_binary.cs : List (Kn Try.prog) := [known_Add.c, known_Sub.c, bits_Concat.c, known_equal.c, known_Single.c, known_shift.c, known_value.c, known_Const.c, known_low.c, bits_Cut.c, bits_Count.c, bits_Not.c]
def known_binary.live : Nat → Option Keep := liveOf [(44, ⟨[12], [12], []⟩), (54, ⟨[0, 1, 2, 10, 11, 12, 17, 18], [10, 11, 12], []⟩), (64, ⟨[12], [12], []⟩)]
noncomputable def known_binary.body : Code := bodyOf Try.f43
noncomputable def known_binary.K (fu : Nat) : Code → St → (Ex → St → Option (Int × Int)) → Option (Int × Int) := codeK Try.prog known_binary.cs known_binary.live fu
noncomputable def known_binary.p22 (m fu : Nat) : Option (Int × Int) :=
  joinK m (known_binary.K fu (sub known_binary.body [true, false, true, false, true, true, true, true, true, true, true, true, true, true, true, true, true, true, true, false, true])) (stOf 190 [(12, .ptr 12 0 0 0)] [(12, .own [.val (.int .u64 0), .val (.int .u64 0)])]) (blockC 0 (seqC fu (known_binary.live 46) (known_binary.K fu (sub known_binary.body [true, true])) (retC Try.prog Try.f43.results known_binary.r.dec)))
noncomputable def known_binary.p27 (m fu : Nat) (x0 : Int) (x1 : Int) (x2 : Int) (x17 : Int) (x18 : Bool) (c10_0 : Int) (c10_1 : Int) (c11_0 : Int) (c11_1 : Int) (c12_0 : Int) (c12_1 : Int) : Option (Int × Int) :=
  joinK m (known_binary.K fu (sub known_binary.body [true, true, true, true, true])) (stOf 190 [(0, .val (.int .i64 x0)), (1, .val (.int .i64 x1)), (2, .val (.int .i64 x2)), (10, .ptr 10 0 0 0), (11, .ptr 11 0 0 0), (12, .ptr 12 0 0 0), (17, .val (.int .u64 x17)), (18, .val (.bool x18))] [(10, .own [.val (.int .u64 c10_0), .val (.int .u64 c10_1)]), (11, .own [.val (.int .u64 c11_0), .val (.int .u64 c11_1)]), (12, .own [.val (.int .u64 c12_0), .val (.int .u64 c12_1)])]) (retC Try.prog Try.f43.results known_binary.r.dec)
noncomputable def known_binary.p32 (m fu : Nat) (c12_0 : Int) (c12_1 : Int) : Option (Int × Int) :=
  joinK m (known_binary.K fu (sub known_binary.body [true, true, true, true, true, true])) (stOf 190 [(12, .ptr 12 0 0 0)] [(12, .own [.val (.int .u64 c12_0), .val (.int .u64 c12_1)])]) (retC Try.prog Try.f43.results known_binary.r.dec)
theorem known_binary.p22_eq (m fu : Nat) : known_binary.p22 (m + 1) fu =
  some (0, 0) := by kernel_rfl
theorem known_binary.p32_eq (m fu : Nat) (c12_0 : Int) (c12_1 : Int) : known_binary.p32 (m + 1) fu c12_0 c12_1 =
  some (0, 0) := by kernel_rfl
theorem known_binary.p27_eq (m fu : Nat) (x0 : Int) (x1 : Int) (x2 : Int) (x17 : Int) (x18 : Bool) (c10_0 : Int) (c10_1 : Int) (c11_0 : Int) (c11_1 : Int) (c12_0 : Int) (c12_1 : Int) : known_binary.p27 (m + 1) fu x0 x1 x2 x17 x18 c10_0 c10_1 c11_0 c11_1 c12_0 c12_1 =
  bif (x0 == 10) then
    (known_low.f x2 (c10_0, c10_1)).bind fun r16 =>
    (known_low.f x2 (c11_0, c11_1)).bind fun r17 =>
    bif decide ((mn (IntKind.i64.wrap (r16 + r17)) x1) < 0) then
      none
    else
      (bits_Cut.f x1 (IntKind.u64.wrap ((shl .u64 1 (mn (IntKind.i64.wrap (r16 + r17)) x1)) - 1))).bind fun r18 =>
      some (r18, 0)
  else
    bif (x0 == 12) then
      bif x18 then
        (bits_Count.f x17).bind fun r19 =>
        bif (r19 == 1) then
          (bits_Not.f x2 (IntKind.u64.wrap (x17 - 1))).bind fun r20 =>
          some ((Go.bits .or .u64 c10_0 r20), (Go.bits .and .u64 c10_1 (IntKind.u64.wrap (x17 - 1))))
        else
          known_binary.p32 fu fu c12_0 c12_1
      else
        known_binary.p32 fu fu c12_0 c12_1
    else
      known_binary.p32 fu fu c12_0 c12_1 := by kernel_rfl
noncomputable def known_binary.g (fu : Nat) (a0 : Int) (a1 : Int) (a2 : Int) (a3 : Int) (a4 : Int × Int) (a5 : Int × Int) : Option (Int × Int) :=
  bif (a0 == 5) then
    some ((Go.bits .or .u64 a4.1 a5.1), (Go.bits .and .u64 a4.2 a5.2))
  else
    bif (a0 == 6) then
      some ((Go.bits .and .u64 a4.1 a5.1), (Go.bits .or .u64 a4.2 a5.2))
    else
      bif (a0 == 7) then
        some ((Go.bits .or .u64 (Go.bits .and .u64 a4.1 a5.1) (Go.bits .and .u64 a4.2 a5.2)), (Go.bits .or .u64 (Go.bits .and .u64 a4.1 a5.2) (Go.bits .and .u64 a4.2 a5.1)))
      else
        bif (a0 == 8) then
          (known_Add.f a2 (a4.1, a4.2) (a5.1, a5.2)).bind fun r1 =>
          some (r1.1, r1.2)
        else
          bif (a0 == 9) then
            (known_Sub.f a2 (a4.1, a4.2) (a5.1, a5.2)).bind fun r2 =>
            some (r2.1, r2.2)
          else
            bif (a0 == 20) then
              (bits_Concat.f a2 a3 a4.1 a5.1).bind fun r3 =>
              (bits_Concat.f a2 a3 a4.2 a5.2).bind fun r4 =>
              some (r3, r4)
            else
              bif (a0 == 16) then
                (known_equal.f a2 (a4.1, a4.2) (a5.1, a5.2)).bind fun r5 =>
                some (r5.1, r5.2)
              else
                bif (a0 == 13) then
                  (known_Single.f a2 (a5.1, a5.2)).bind fun r6 =>
                  bif r6.2 then
                    (known_shift.f a0 a2 (a4.1, a4.2) r6.1).bind fun r7 =>
                    some (r7.1, r7.2)
                  else
                    known_binary.p22 fu fu
                else
                  bif (a0 == 14) then
                    (known_Single.f a2 (a5.1, a5.2)).bind fun r8 =>
                    bif r8.2 then
                      (known_shift.f a0 a2 (a4.1, a4.2) r8.1).bind fun r9 =>
                      some (r9.1, r9.2)
                    else
                      known_binary.p22 fu fu
                  else
                    bif (a0 == 15) then
                      (known_Single.f a2 (a5.1, a5.2)).bind fun r10 =>
                      bif r10.2 then
                        (known_shift.f a0 a2 (a4.1, a4.2) r10.1).bind fun r11 =>
                        some (r11.1, r11.2)
                      else
                        known_binary.p22 fu fu
                    else
                      (known_Single.f a2 (a4.1, a4.2)).bind fun r12 =>
                      (known_Single.f a2 (a5.1, a5.2)).bind fun r13 =>
                      bif r12.2 then
                        bif r13.2 then
                          (known_value.f a0 a2 r12.1 r13.1).bind fun r14 =>
                          (known_Const.f a1 r14).bind fun r15 =>
                          some (r15.1, r15.2)
                        else
                          known_binary.p27 fu fu a0 a1 a2 r13.1 r13.2 a4.1 a4.2 a5.1 a5.2 0 0
                      else
                        known_binary.p27 fu fu a0 a1 a2 r13.1 r13.2 a4.1 a4.2 a5.1 a5.2 0 0
noncomputable def known_binary.f (a0 : Int) (a1 : Int) (a2 : Int) (a3 : Int) (a4 : Int × Int) (a5 : Int × Int) : Option (Int × Int) := known_binary.g (fuel0 + 1) a0 a1 a2 a3 a4 a5
theorem known_binary.eq (fu : Nat) (a : Int × Int × Int × Int × (Int × Int) × (Int × Int) × Unit) : bodyK Try.prog known_binary.cs known_binary.live fu Try.f43 (known_binary.a.enc a) known_binary.r.dec = known_binary.g fu a.1 a.2.1 a.2.2.1 a.2.2.2.1 a.2.2.2.2.1 a.2.2.2.2.2.1 := by kernel_rfl
theorem known_binary.con : ∀ (a : Int × Int × Int × Int × (Int × Int) × (Int × Int) × Unit) (r : Int × Int), known_binary.f a.1 a.2.1 a.2.2.1 a.2.2.2.1 a.2.2.2.2.1 a.2.2.2.2.2.1 = some r → Contract Try.prog 43 (known_binary.a.enc a) (known_binary.r.enc r) := Contract.of_body (F := fun (a : Int × Int × Int × Int × (Int × Int) × (Int × Int) × Unit) => known_binary.f a.1 a.2.1 a.2.2.1 a.2.2.2.1 a.2.2.2.2.1 a.2.2.2.2.2.1) (fn := Try.f43) (cs := known_binary.cs) (live := known_binary.live) (fuel := fuel0 + 1) (by kernel_rfl) (by kernel_rfl) mixed (known_binary.eq (fuel0 + 1))
noncomputable def known_binary.c : Kn Try.prog := Kn.of 43 known_binary.a known_binary.r (fun a => known_binary.f a.1 a.2.1 a.2.2.1 a.2.2.2.1 a.2.2.2.2.1 a.2.2.2.2.2.1) known_binary.con

/-! ### known_Join: function 23 -/
def known_Join.a : ACods (Int × (Int × Int) × (Int × Int) × Unit) := (.cons (.val (.int .i64)) (.cons (.val (.agg (.cons (.int .u64) (.one (.int .u64))))) (.cons (.val (.agg (.cons (.int .u64) (.one (.int .u64))))) .nil)))
def known_Join.r : RCod (Int × Int) := .val (.agg (.cons (.int .u64) (.one (.int .u64))))
noncomputable def known_Join.cs : List (Kn Try.prog) := [known_of.c]
def known_Join.live : Nat → Option Keep := liveOf []
noncomputable def known_Join.body : Code := bodyOf Try.f23
noncomputable def known_Join.K (fu : Nat) : Code → St → (Ex → St → Option (Int × Int)) → Option (Int × Int) := codeK Try.prog known_Join.cs known_Join.live fu
noncomputable def known_Join.f (a0 : Int) (a1 : Int × Int) (a2 : Int × Int) : Option (Int × Int) :=
  (known_of.f a0 (a1.1, a1.2)).bind fun r1 =>
  (known_of.f a0 (a2.1, a2.2)).bind fun r2 =>
  some ((Go.bits .and .u64 r1.1 r2.1), (Go.bits .and .u64 r1.2 r2.2))
theorem known_Join.eq (fu : Nat) (a : Int × (Int × Int) × (Int × Int) × Unit) : bodyK Try.prog known_Join.cs known_Join.live fu Try.f23 (known_Join.a.enc a) known_Join.r.dec = known_Join.f a.1 a.2.1 a.2.2.1 := by kernel_rfl
theorem known_Join.con : ∀ (a : Int × (Int × Int) × (Int × Int) × Unit) (r : Int × Int), known_Join.f a.1 a.2.1 a.2.2.1 = some r → Contract Try.prog 23 (known_Join.a.enc a) (known_Join.r.enc r) := Contract.of_body (F := fun (a : Int × (Int × Int) × (Int × Int) × Unit) => known_Join.f a.1 a.2.1 a.2.2.1) (fn := Try.f23) (cs := known_Join.cs) (live := known_Join.live) (fuel := fuel0 + 1) (by kernel_rfl) (by kernel_rfl) mixed (known_Join.eq (fuel0 + 1))
noncomputable def known_Join.c : Kn Try.prog := Kn.of 23 known_Join.a known_Join.r (fun a => known_Join.f a.1 a.2.1 a.2.2.1) known_Join.con

/-! ### known_Apply: function 12 -/
def known_Apply.a : ACods (Int × Int × Int × (Nat × (Nat → Int)) × (Nat × (Nat → Int) × (Nat → Int)) × Unit) := (.cons (.val (.int .i64)) (.cons (.val (.int .i64)) (.cons (.val (.int .u64)) (.cons (.rows (.int1 .i64)) (.cons (.rows (.int .u64 (.int1 .u64))) .nil)))))
def known_Apply.r : RCod ((Int × Int) × Int) := .val (.tup (.cons (.agg (.cons (.int .u64) (.one (.int .u64)))) (.one (.int .i64))))
noncomputable def known_Apply.cs : List (Kn Try.prog) := [known_refused.c, known_of.c, known_Const.c, known_unary.c, known_binary.c, known_Single.c, known_Join.c]
def known_Apply.live : Nat → Option Keep := liveOf [(13, ⟨[0, 2, 3, 4, 10, 12, 14, 36, 37], [3, 4, 10, 34], []⟩)]
noncomputable def known_Apply.body : Code := bodyOf Try.f12
noncomputable def known_Apply.K (fu : Nat) : Code → St → (Ex → St → Option ((Int × Int) × Int)) → Option ((Int × Int) × Int) := codeK Try.prog known_Apply.cs known_Apply.live fu
noncomputable def known_Apply.j6 (fu : Nat) (n6 : Nat) (x0 : Int) (x2 : Int) (x3n : Nat) (x4n : Nat) (x12 : Int) (x14n : Nat) (x36 : Int) (x37 : Int) (m3 : Nat) (g3_0 : Nat → Int) (m4 : Nat) (g4_0 : Nat → Int) (g4_1 : Nat → Int) (c10_0 : Int) (c10_1 : Int) (m34 : Nat) (g34_0 : Nat → Int) (g34_1 : Nat → Int) : Option ((Int × Int) × Int) :=
  loopK (known_Apply.K fu (sub known_Apply.body [true, true, true, true, false, true, false, false])) (known_Apply.live 13) n6 (stOf 114 [(0, .val (.int .i64 x0)), (2, .val (.int .u64 x2)), (3, .sl 3 1 x3n), (4, .sl 4 2 x4n), (10, .ptr 10 0 0 0), (12, .val (.int .i64 x12)), (14, .sl 34 2 x14n), (36, .val (.int .i64 x36)), (37, .val (.int .i64 x37))] [(3, .ext m3 [.int .i64 g3_0]), (4, .ext m4 [.int .u64 g4_0, .int .u64 g4_1]), (10, .own [.val (.int .u64 c10_0), .val (.int .u64 c10_1)]), (34, .grow 31 m34 [.int .u64 g34_0, .int .u64 g34_1])]) (blockC 0 (seqC fu (known_Apply.live 20) (known_Apply.K fu (sub known_Apply.body [true, true, true, true, true])) (retC Try.prog Try.f12.results known_Apply.r.dec)))
theorem known_Apply.j6_succ (fu : Nat) (n6 : Nat) (x0 : Int) (x2 : Int) (x3n : Nat) (x4n : Nat) (x12 : Int) (x14n : Nat) (x36 : Int) (x37 : Int) (m3 : Nat) (g3_0 : Nat → Int) (m4 : Nat) (g4_0 : Nat → Int) (g4_1 : Nat → Int) (c10_0 : Int) (c10_1 : Int) (m34 : Nat) (g34_0 : Nat → Int) (g34_1 : Nat → Int) : known_Apply.j6 fu (n6 + 1) x0 x2 x3n x4n x12 x14n x36 x37 m3 g3_0 m4 g4_0 g4_1 c10_0 c10_1 m34 g34_0 g34_1 =
  bif (decide (x37 < x36)) then
    bif decide (0 ≤ x37) then
      bif decide (x37 < (x3n : Int)) then
        bif decide (0 ≤ x37) then
          bif decide (x37 < (x4n : Int)) then
            (known_of.f (g3_0 x37.toNat) ((g4_0 x37.toNat), (g4_1 x37.toNat))).bind fun r2 =>
            bif decide (0 ≤ x37) then
              bif decide (x37 < (x14n : Int)) then
                known_Apply.j6 fu n6 x0 x2 x3n x4n x12 x14n x36 (IntKind.i64.wrap (x37 + 1)) m3 g3_0 m4 g4_0 g4_1 c10_0 c10_1 m34 (upd x37.toNat r2.1 g34_0) (upd x37.toNat r2.2 g34_1)
              else
                none
            else
              none
          else
            none
        else
          none
      else
        none
    else
      none
  else
    bif ((x14n : Int) == 0) then
      bif (x0 == 2) then
        (known_Const.f x12 x2).bind fun r3 =>
        some ((r3.1, r3.2), 0)
      else
        some ((0, 0), 0)
    else
      bif ((x14n : Int) == 1) then
        bif decide ((0 : Int) < (x3n : Int)) then
          bif decide ((0 : Int) < (x14n : Int)) then
            (known_unary.f x0 x12 (IntKind.i64.wrap x2) (g3_0 0) ((g34_0 0), (g34_1 0))).bind fun r4 =>
            some ((r4.1, r4.2), 0)
          else
            none
        else
          none
      else
        bif ((x14n : Int) == 2) then
          bif decide ((0 : Int) < (x3n : Int)) then
            bif decide ((1 : Int) < (x3n : Int)) then
              bif decide ((0 : Int) < (x14n : Int)) then
                bif decide ((1 : Int) < (x14n : Int)) then
                  (known_binary.f x0 x12 (g3_0 0) (g3_0 1) ((g34_0 0), (g34_1 0)) ((g34_0 1), (g34_1 1))).bind fun r5 =>
                  some ((r5.1, r5.2), 0)
                else
                  none
              else
                none
            else
              none
          else
            none
        else
          bif decide ((0 : Int) < (x14n : Int)) then
            (known_Single.f 1 ((g34_0 0), (g34_1 0))).bind fun r6 =>
            bif r6.2 then
              bif decide (0 ≤ (IntKind.u64.wrap (2 - r6.1))) then
                bif decide ((IntKind.u64.wrap (2 - r6.1)) < (x14n : Int)) then
                  some (((g34_0 (IntKind.u64.wrap (2 - r6.1)).toNat), (g34_1 (IntKind.u64.wrap (2 - r6.1)).toNat)), 0)
                else
                  none
              else
                none
            else
              bif decide ((1 : Int) < (x14n : Int)) then
                bif decide ((2 : Int) < (x14n : Int)) then
                  (known_Join.f x12 ((g34_0 1), (g34_1 1)) ((g34_0 2), (g34_1 2))).bind fun r7 =>
                  some ((r7.1, r7.2), 0)
                else
                  none
              else
                none
          else
            none := by kernel_rfl
noncomputable def known_Apply.g (fu : Nat) (a0 : Int) (a1 : Int) (a2 : Int) (a3 : Nat × (Nat → Int)) (a4 : Nat × (Nat → Int) × (Nat → Int)) : Option ((Int × Int) × Int) :=
  (known_refused.f a0 a1 a2 (a3.1, a3.2) (a4.1 : Int)).bind fun r1 =>
  bif (r1.2 != 0) then
    some ((0, 0), r1.2)
  else
    bif decide (0 ≤ (a4.1 : Int)) then
      bif Nat.ble (a4.1 * 16) 140737488355328 then
        known_Apply.j6 fu fu a0 a2 a3.1 a4.1 r1.1 a4.1 (a4.1 : Int) 0 a3.1 a3.2 a4.1 a4.2.1 a4.2.2 0 0 a4.1 (fun _ => 0) (fun _ => 0)
      else
        none
    else
      none
noncomputable def known_Apply.f (a0 : Int) (a1 : Int) (a2 : Int) (a3 : Nat × (Nat → Int)) (a4 : Nat × (Nat → Int) × (Nat → Int)) : Option ((Int × Int) × Int) := known_Apply.g (fuel0 + 1) a0 a1 a2 a3 a4
theorem known_Apply.eq (fu : Nat) (a : Int × Int × Int × (Nat × (Nat → Int)) × (Nat × (Nat → Int) × (Nat → Int)) × Unit) : bodyK Try.prog known_Apply.cs known_Apply.live fu Try.f12 (known_Apply.a.enc a) known_Apply.r.dec = known_Apply.g fu a.1 a.2.1 a.2.2.1 a.2.2.2.1 a.2.2.2.2.1 := by kernel_rfl
theorem known_Apply.con : ∀ (a : Int × Int × Int × (Nat × (Nat → Int)) × (Nat × (Nat → Int) × (Nat → Int)) × Unit) (r : (Int × Int) × Int), known_Apply.f a.1 a.2.1 a.2.2.1 a.2.2.2.1 a.2.2.2.2.1 = some r → Contract Try.prog 12 (known_Apply.a.enc a) (known_Apply.r.enc r) := Contract.of_body (F := fun (a : Int × Int × Int × (Nat × (Nat → Int)) × (Nat × (Nat → Int) × (Nat → Int)) × Unit) => known_Apply.f a.1 a.2.1 a.2.2.1 a.2.2.2.1 a.2.2.2.2.1) (fn := Try.f12) (cs := known_Apply.cs) (live := known_Apply.live) (fuel := fuel0 + 1) (by kernel_rfl) (by kernel_rfl) mixed (known_Apply.eq (fuel0 + 1))
noncomputable def known_Apply.c : Kn Try.prog := Kn.of 12 known_Apply.a known_Apply.r (fun a => known_Apply.f a.1 a.2.1 a.2.2.1 a.2.2.2.1 a.2.2.2.2.1) known_Apply.con

/-! ### known_Size: function 38 -/
def known_Size.a : ACods (Int × (Int × Int) × Unit) := (.cons (.val (.int .i64)) (.cons (.val (.agg (.cons (.int .u64) (.one (.int .u64))))) .nil))
def known_Size.r : RCod (Int) := .val (.int .i64)
noncomputable def known_Size.cs : List (Kn Try.prog) := [known_of.c, known_unknown.c, bits_Count.c]
def known_Size.live : Nat → Option Keep := liveOf []
noncomputable def known_Size.body : Code := bodyOf Try.f38
noncomputable def known_Size.K (fu : Nat) : Code → St → (Ex → St → Option (Int)) → Option (Int) := codeK Try.prog known_Size.cs known_Size.live fu
noncomputable def known_Size.f (a0 : Int) (a1 : Int × Int) : Option (Int) :=
  (known_of.f a0 (a1.1, a1.2)).bind fun r1 =>
  (known_unknown.f a0 (r1.1, r1.2)).bind fun r2 =>
  (bits_Count.f r2).bind fun r3 =>
  some r3
theorem known_Size.eq (fu : Nat) (a : Int × (Int × Int) × Unit) : bodyK Try.prog known_Size.cs known_Size.live fu Try.f38 (known_Size.a.enc a) known_Size.r.dec = known_Size.f a.1 a.2.1 := by kernel_rfl
theorem known_Size.con : ∀ (a : Int × (Int × Int) × Unit) (r : Int), known_Size.f a.1 a.2.1 = some r → Contract Try.prog 38 (known_Size.a.enc a) (known_Size.r.enc r) := Contract.of_body (F := fun (a : Int × (Int × Int) × Unit) => known_Size.f a.1 a.2.1) (fn := Try.f38) (cs := known_Size.cs) (live := known_Size.live) (fuel := fuel0 + 1) (by kernel_rfl) (by kernel_rfl) mixed (known_Size.eq (fuel0 + 1))
noncomputable def known_Size.c : Kn Try.prog := Kn.of 38 known_Size.a known_Size.r (fun a => known_Size.f a.1 a.2.1) known_Size.con

/-! ### saturatelaw12_lives: function 11 -/
def saturatelaw12_lives.a : ACods (Unit) := .nil
def saturatelaw12_lives.r : RCod (Bool) := .val (.bool)
noncomputable def saturatelaw12_lives.cs : List (Kn Try.prog) := [known_Meet.c, known_Const.c, known_Apply.c, known_Single.c, known_Add.c, known_Size.c]
def saturatelaw12_lives.live : Nat → Option Keep := liveOf []
noncomputable def saturatelaw12_lives.body : Code := bodyOf Try.f11
noncomputable def saturatelaw12_lives.K (fu : Nat) : Code → St → (Ex → St → Option (Bool)) → Option (Bool) := codeK Try.prog saturatelaw12_lives.cs saturatelaw12_lives.live fu
noncomputable def saturatelaw12_lives.f : Option (Bool) :=
  (known_Meet.f 4 (1, 0) (0, 2)).bind fun r1 =>
  (known_Meet.f 4 (1, 0) (0, 1)).bind fun r2 =>
  (known_Const.f 4 3).bind fun r3 =>
  (known_Apply.f 5 0 0 (2, (fun i => [4, 4].getD i 0)) (2, (fun i => [0, r3.1].getD i 0), (fun i => [0, r3.2].getD i 0))).bind fun r4 =>
  (known_Apply.f 5 0 0 (1, (fun i => [4].getD i 0)) (2, (fun i => [0, 0].getD i 0), (fun i => [0, 0].getD i 0))).bind fun r5 =>
  (known_Apply.f 5 0 0 (2, (fun i => [4, 8].getD i 0)) (2, (fun i => [0, 0].getD i 0), (fun i => [0, 0].getD i 0))).bind fun r6 =>
  (known_Const.f 4 18).bind fun r7 =>
  (known_Single.f 4 (r7.1, r7.2)).bind fun r8 =>
  (known_Const.f 4 1).bind fun r9 =>
  (known_Add.f 4 (1, 0) (r9.1, r9.2)).bind fun r10 =>
  bif ((r10.1 == 0) && ((r10.2 == 1) && true)) then
    bif ((r1.1.1 == 1) && ((r1.1.2 == 2) && true)) then
      bif r1.2 then
        bif (!r2.2) then
          bif ((r4.1.1 == 12) && ((r4.1.2 == 0) && true)) then
            bif (r4.2 == 0) then
              bif (r5.2 == 4) then
                bif (r6.2 == 3) then
                  bif (r8.1 == 2) then
                    bif r8.2 then
                      (known_Size.f 4 (1, 0)).bind fun r11 =>
                      some (r11 == 3)
                    else
                      some false
                  else
                    some false
                else
                  some false
              else
                some false
            else
              some false
          else
            some false
        else
          some false
      else
        some false
    else
      some false
  else
    some false
theorem saturatelaw12_lives.eq (fu : Nat) (a : Unit) : bodyK Try.prog saturatelaw12_lives.cs saturatelaw12_lives.live fu Try.f11 (saturatelaw12_lives.a.enc a) saturatelaw12_lives.r.dec = saturatelaw12_lives.f := by kernel_rfl
theorem saturatelaw12_lives.con : ∀ (a : Unit) (r : Bool), saturatelaw12_lives.f = some r → Contract Try.prog 11 (saturatelaw12_lives.a.enc a) (saturatelaw12_lives.r.enc r) := Contract.of_body (F := fun (a : Unit) => saturatelaw12_lives.f) (fn := Try.f11) (cs := saturatelaw12_lives.cs) (live := saturatelaw12_lives.live) (fuel := fuel0 + 1) (by kernel_rfl) (by kernel_rfl) mixed (saturatelaw12_lives.eq (fuel0 + 1))
noncomputable def saturatelaw12_lives.c : Kn Try.prog := Kn.of 11 saturatelaw12_lives.a saturatelaw12_lives.r (fun a => saturatelaw12_lives.f) saturatelaw12_lives.con

/-! ### saturateref04_Is: function 83 -/
def saturateref04_Is.a : ACods (Int × (Nat × (Nat → Int)) × Unit) := (.cons (.val (.int .i64)) (.cons (.rows (.int1 .i64)) .nil))
def saturateref04_Is.r : RCod (Bool) := .val (.bool)
noncomputable def saturateref04_Is.cs : List (Kn Try.prog) := []
def saturateref04_Is.live : Nat → Option Keep := liveOf [(5, ⟨[0, 1, 7, 8], [1], []⟩)]
noncomputable def saturateref04_Is.body : Code := bodyOf Try.f83
noncomputable def saturateref04_Is.K (fu : Nat) : Code → St → (Ex → St → Option (Bool)) → Option (Bool) := codeK Try.prog saturateref04_Is.cs saturateref04_Is.live fu
noncomputable def saturateref04_Is.j2 (fu : Nat) (n2 : Nat) (x0 : Int) (x1n : Nat) (x7 : Int) (x8 : Int) (m1 : Nat) (g1_0 : Nat → Int) : Option Bool :=
  loopK (saturateref04_Is.K fu (sub saturateref04_Is.body [true, false, true, false, false])) (saturateref04_Is.live 5) n2 (stOf 18 [(0, .val (.int .i64 x0)), (1, .sl 1 1 x1n), (7, .val (.int .i64 x7)), (8, .val (.int .i64 x8))] [(1, .ext m1 [.int .i64 g1_0])]) (blockC 0 (seqC fu (saturateref04_Is.live 14) (saturateref04_Is.K fu (sub saturateref04_Is.body [true, true])) (retC Try.prog Try.f83.results saturateref04_Is.r.dec)))
theorem saturateref04_Is.j2_succ (fu : Nat) (n2 : Nat) (x0 : Int) (x1n : Nat) (x7 : Int) (x8 : Int) (m1 : Nat) (g1_0 : Nat → Int) : saturateref04_Is.j2 fu (n2 + 1) x0 x1n x7 x8 m1 g1_0 =
  bif (decide (x8 < x7)) then
    bif decide (0 ≤ x8) then
      bif decide (x8 < (x1n : Int)) then
        bif ((g1_0 x8.toNat) == x0) then
          some true
        else
          saturateref04_Is.j2 fu n2 x0 x1n x7 (IntKind.i64.wrap (x8 + 1)) m1 g1_0
      else
        none
    else
      none
  else
    some false := by kernel_rfl
noncomputable def saturateref04_Is.g (fu : Nat) (a0 : Int) (a1 : Nat × (Nat → Int)) : Option (Bool) :=
  saturateref04_Is.j2 fu fu a0 a1.1 (a1.1 : Int) 0 a1.1 a1.2
noncomputable def saturateref04_Is.f (a0 : Int) (a1 : Nat × (Nat → Int)) : Option (Bool) := saturateref04_Is.g (fuel0 + 1) a0 a1
theorem saturateref04_Is.eq (fu : Nat) (a : Int × (Nat × (Nat → Int)) × Unit) : bodyK Try.prog saturateref04_Is.cs saturateref04_Is.live fu Try.f83 (saturateref04_Is.a.enc a) saturateref04_Is.r.dec = saturateref04_Is.g fu a.1 a.2.1 := by kernel_rfl
theorem saturateref04_Is.con : ∀ (a : Int × (Nat × (Nat → Int)) × Unit) (r : Bool), saturateref04_Is.f a.1 a.2.1 = some r → Contract Try.prog 83 (saturateref04_Is.a.enc a) (saturateref04_Is.r.enc r) := Contract.of_body (F := fun (a : Int × (Nat × (Nat → Int)) × Unit) => saturateref04_Is.f a.1 a.2.1) (fn := Try.f83) (cs := saturateref04_Is.cs) (live := saturateref04_Is.live) (fuel := fuel0 + 1) (by kernel_rfl) (by kernel_rfl) mixed (saturateref04_Is.eq (fuel0 + 1))
noncomputable def saturateref04_Is.c : Kn Try.prog := Kn.of 83 saturateref04_Is.a saturateref04_Is.r (fun a => saturateref04_Is.f a.1 a.2.1) saturateref04_Is.con

/-! ### saturateref04_Leaf: function 80 -/
def saturateref04_Leaf.a : ACods (Int × Unit) := (.cons (.val (.int .i64)) .nil)
def saturateref04_Leaf.r : RCod (Bool) := .val (.bool)
noncomputable def saturateref04_Leaf.cs : List (Kn Try.prog) := [saturateref04_Is.c]
def saturateref04_Leaf.live : Nat → Option Keep := liveOf []
noncomputable def saturateref04_Leaf.body : Code := bodyOf Try.f80
noncomputable def saturateref04_Leaf.K (fu : Nat) : Code → St → (Ex → St → Option (Bool)) → Option (Bool) := codeK Try.prog saturateref04_Leaf.cs saturateref04_Leaf.live fu
noncomputable def saturateref04_Leaf.f (a0 : Int) : Option (Bool) :=
  (saturateref04_Is.f a0 (4, (fun i => [1, 2, 24, 25].getD i 0))).bind fun r1 =>
  some r1
theorem saturateref04_Leaf.eq (fu : Nat) (a : Int × Unit) : bodyK Try.prog saturateref04_Leaf.cs saturateref04_Leaf.live fu Try.f80 (saturateref04_Leaf.a.enc a) saturateref04_Leaf.r.dec = saturateref04_Leaf.f a.1 := by kernel_rfl
theorem saturateref04_Leaf.con : ∀ (a : Int × Unit) (r : Bool), saturateref04_Leaf.f a.1 = some r → Contract Try.prog 80 (saturateref04_Leaf.a.enc a) (saturateref04_Leaf.r.enc r) := Contract.of_body (F := fun (a : Int × Unit) => saturateref04_Leaf.f a.1) (fn := Try.f80) (cs := saturateref04_Leaf.cs) (live := saturateref04_Leaf.live) (fuel := fuel0 + 1) (by kernel_rfl) (by kernel_rfl) mixed (saturateref04_Leaf.eq (fuel0 + 1))
noncomputable def saturateref04_Leaf.c : Kn Try.prog := Kn.of 80 saturateref04_Leaf.a saturateref04_Leaf.r (fun a => saturateref04_Leaf.f a.1) saturateref04_Leaf.con

/-! ### saturateref04_Arity: function 78 -/
def saturateref04_Arity.a : ACods (Int × Unit) := (.cons (.val (.int .i64)) .nil)
def saturateref04_Arity.r : RCod (Int) := .val (.int .i64)
noncomputable def saturateref04_Arity.cs : List (Kn Try.prog) := [saturateref04_Leaf.c, saturateref04_Is.c]
def saturateref04_Arity.live : Nat → Option Keep := liveOf []
noncomputable def saturateref04_Arity.body : Code := bodyOf Try.f78
noncomputable def saturateref04_Arity.K (fu : Nat) : Code → St → (Ex → St → Option (Int)) → Option (Int) := codeK Try.prog saturateref04_Arity.cs saturateref04_Arity.live fu
noncomputable def saturateref04_Arity.f (a0 : Int) : Option (Int) :=
  bif (decide (a0 < 1)) then
    some (-1)
  else
    bif (decide (a0 > 26)) then
      some (-1)
    else
      (saturateref04_Leaf.f a0).bind fun r1 =>
      bif r1 then
        some 0
      else
        (saturateref04_Is.f a0 (6, (fun i => [3, 4, 21, 22, 23, 26].getD i 0))).bind fun r2 =>
        bif r2 then
          some 1
        else
          bif (a0 == 19) then
            some 3
          else
            some 2
theorem saturateref04_Arity.eq (fu : Nat) (a : Int × Unit) : bodyK Try.prog saturateref04_Arity.cs saturateref04_Arity.live fu Try.f78 (saturateref04_Arity.a.enc a) saturateref04_Arity.r.dec = saturateref04_Arity.f a.1 := by kernel_rfl
theorem saturateref04_Arity.con : ∀ (a : Int × Unit) (r : Int), saturateref04_Arity.f a.1 = some r → Contract Try.prog 78 (saturateref04_Arity.a.enc a) (saturateref04_Arity.r.enc r) := Contract.of_body (F := fun (a : Int × Unit) => saturateref04_Arity.f a.1) (fn := Try.f78) (cs := saturateref04_Arity.cs) (live := saturateref04_Arity.live) (fuel := fuel0 + 1) (by kernel_rfl) (by kernel_rfl) mixed (saturateref04_Arity.eq (fuel0 + 1))
noncomputable def saturateref04_Arity.c : Kn Try.prog := Kn.of 78 saturateref04_Arity.a saturateref04_Arity.r (fun a => saturateref04_Arity.f a.1) saturateref04_Arity.con

/-! ### saturateref04_width: function 79 -/
def saturateref04_width.a : ACods (Int × Unit) := (.cons (.val (.int .i64)) .nil)
def saturateref04_width.r : RCod (Bool) := .val (.bool)
noncomputable def saturateref04_width.cs : List (Kn Try.prog) := []
def saturateref04_width.live : Nat → Option Keep := liveOf []
noncomputable def saturateref04_width.body : Code := bodyOf Try.f79
noncomputable def saturateref04_width.K (fu : Nat) : Code → St → (Ex → St → Option (Bool)) → Option (Bool) := codeK Try.prog saturateref04_width.cs saturateref04_width.live fu
noncomputable def saturateref04_width.f (a0 : Int) : Option (Bool) :=
  bif (decide (a0 ≥ 0)) then
    some (decide (a0 ≤ 64))
  else
    some false
theorem saturateref04_width.eq (fu : Nat) (a : Int × Unit) : bodyK Try.prog saturateref04_width.cs saturateref04_width.live fu Try.f79 (saturateref04_width.a.enc a) saturateref04_width.r.dec = saturateref04_width.f a.1 := by kernel_rfl
theorem saturateref04_width.con : ∀ (a : Int × Unit) (r : Bool), saturateref04_width.f a.1 = some r → Contract Try.prog 79 (saturateref04_width.a.enc a) (saturateref04_width.r.enc r) := Contract.of_body (F := fun (a : Int × Unit) => saturateref04_width.f a.1) (fn := Try.f79) (cs := saturateref04_width.cs) (live := saturateref04_width.live) (fuel := fuel0 + 1) (by kernel_rfl) (by kernel_rfl) mixed (saturateref04_width.eq (fuel0 + 1))
noncomputable def saturateref04_width.c : Kn Try.prog := Kn.of 79 saturateref04_width.a saturateref04_width.r (fun a => saturateref04_width.f a.1) saturateref04_width.con

/-! ### saturateref04_leaf: function 81 -/
def saturateref04_leaf.a : ACods (Int × Int × Int × Unit) := (.cons (.val (.int .i64)) (.cons (.val (.int .i64)) (.cons (.val (.int .u64)) .nil)))
def saturateref04_leaf.r : RCod (Int × Int) := .val (.tup (.cons (.int .i64) (.one (.int .i64))))
noncomputable def saturateref04_leaf.cs : List (Kn Try.prog) := [saturateref04_width.c]
def saturateref04_leaf.live : Nat → Option Keep := liveOf [(6, ⟨[1], [], []⟩)]
noncomputable def saturateref04_leaf.body : Code := bodyOf Try.f81
noncomputable def saturateref04_leaf.K (fu : Nat) : Code → St → (Ex → St → Option (Int × Int)) → Option (Int × Int) := codeK Try.prog saturateref04_leaf.cs saturateref04_leaf.live fu
noncomputable def saturateref04_leaf.p3 (m fu : Nat) (x1 : Int) : Option (Int × Int) :=
  joinK m (saturateref04_leaf.K fu (sub saturateref04_leaf.body [true, true])) (stOf 31 [(1, .val (.int .i64 x1))] []) (retC Try.prog Try.f81.results saturateref04_leaf.r.dec)
theorem saturateref04_leaf.p3_eq (m fu : Nat) (x1 : Int) : saturateref04_leaf.p3 (m + 1) fu x1 =
  some (x1, 0) := by kernel_rfl
noncomputable def saturateref04_leaf.g (fu : Nat) (a0 : Int) (a1 : Int) (a2 : Int) : Option (Int × Int) :=
  (saturateref04_width.f a1).bind fun r1 =>
  bif (!r1) then
    some (0, 3)
  else
    bif (a0 == 2) then
      bif (decide (a1 > 0)) then
        bif (decide (a1 < 64)) then
          bif decide ((IntKind.u64.wrap a1) < 0) then
            none
          else
            bif (decide (a2 ≥ (shl .u64 1 (IntKind.u64.wrap a1)))) then
              some (0, 3)
            else
              saturateref04_leaf.p3 fu fu a1
        else
          saturateref04_leaf.p3 fu fu a1
      else
        saturateref04_leaf.p3 fu fu a1
    else
      saturateref04_leaf.p3 fu fu a1
noncomputable def saturateref04_leaf.f (a0 : Int) (a1 : Int) (a2 : Int) : Option (Int × Int) := saturateref04_leaf.g (fuel0 + 1) a0 a1 a2
theorem saturateref04_leaf.eq (fu : Nat) (a : Int × Int × Int × Unit) : bodyK Try.prog saturateref04_leaf.cs saturateref04_leaf.live fu Try.f81 (saturateref04_leaf.a.enc a) saturateref04_leaf.r.dec = saturateref04_leaf.g fu a.1 a.2.1 a.2.2.1 := by kernel_rfl
theorem saturateref04_leaf.con : ∀ (a : Int × Int × Int × Unit) (r : Int × Int), saturateref04_leaf.f a.1 a.2.1 a.2.2.1 = some r → Contract Try.prog 81 (saturateref04_leaf.a.enc a) (saturateref04_leaf.r.enc r) := Contract.of_body (F := fun (a : Int × Int × Int × Unit) => saturateref04_leaf.f a.1 a.2.1 a.2.2.1) (fn := Try.f81) (cs := saturateref04_leaf.cs) (live := saturateref04_leaf.live) (fuel := fuel0 + 1) (by kernel_rfl) (by kernel_rfl) mixed (saturateref04_leaf.eq (fuel0 + 1))
noncomputable def saturateref04_leaf.c : Kn Try.prog := Kn.of 81 saturateref04_leaf.a saturateref04_leaf.r (fun a => saturateref04_leaf.f a.1 a.2.1 a.2.2.1) saturateref04_leaf.con

/-! ### saturateref04_parts: function 82 -/
def saturateref04_parts.a : ACods (Int × Int × Int × Int × Unit) := (.cons (.val (.int .i64)) (.cons (.val (.int .i64)) (.cons (.val (.int .u64)) (.cons (.val (.int .i64)) .nil))))
def saturateref04_parts.r : RCod (Int × Int) := .val (.tup (.cons (.int .i64) (.one (.int .i64))))
noncomputable def saturateref04_parts.cs : List (Kn Try.prog) := [saturateref04_width.c]
def saturateref04_parts.live : Nat → Option Keep := liveOf [(10, ⟨[1], [], []⟩)]
noncomputable def saturateref04_parts.body : Code := bodyOf Try.f82
noncomputable def saturateref04_parts.K (fu : Nat) : Code → St → (Ex → St → Option (Int × Int)) → Option (Int × Int) := codeK Try.prog saturateref04_parts.cs saturateref04_parts.live fu
noncomputable def saturateref04_parts.p5 (m fu : Nat) (x1 : Int) : Option (Int × Int) :=
  joinK m (saturateref04_parts.K fu (sub saturateref04_parts.body [true, true, true])) (stOf 46 [(1, .val (.int .i64 x1))] []) (retC Try.prog Try.f82.results saturateref04_parts.r.dec)
theorem saturateref04_parts.p5_eq (m fu : Nat) (x1 : Int) : saturateref04_parts.p5 (m + 1) fu x1 =
  some (x1, 0) := by kernel_rfl
noncomputable def saturateref04_parts.g (fu : Nat) (a0 : Int) (a1 : Int) (a2 : Int) (a3 : Int) : Option (Int × Int) :=
  (saturateref04_width.f a1).bind fun r1 =>
  bif (!r1) then
    some (0, 3)
  else
    bif (decide (a1 < 1)) then
      some (0, 3)
    else
      bif (decide (a3 < 1)) then
        some (0, 3)
      else
        bif (a0 == 21) then
          bif (decide (a1 > a3)) then
            some (0, 3)
          else
            bif (decide (a2 > (IntKind.u64.wrap (IntKind.i64.wrap (a3 - a1))))) then
              some (0, 3)
            else
              bif (a0 != 21) then
                bif (decide (a1 < a3)) then
                  some (0, 3)
                else
                  saturateref04_parts.p5 fu fu a1
              else
                saturateref04_parts.p5 fu fu a1
        else
          bif (a0 != 21) then
            bif (decide (a1 < a3)) then
              some (0, 3)
            else
              saturateref04_parts.p5 fu fu a1
          else
            saturateref04_parts.p5 fu fu a1
noncomputable def saturateref04_parts.f (a0 : Int) (a1 : Int) (a2 : Int) (a3 : Int) : Option (Int × Int) := saturateref04_parts.g (fuel0 + 1) a0 a1 a2 a3
theorem saturateref04_parts.eq (fu : Nat) (a : Int × Int × Int × Int × Unit) : bodyK Try.prog saturateref04_parts.cs saturateref04_parts.live fu Try.f82 (saturateref04_parts.a.enc a) saturateref04_parts.r.dec = saturateref04_parts.g fu a.1 a.2.1 a.2.2.1 a.2.2.2.1 := by kernel_rfl
theorem saturateref04_parts.con : ∀ (a : Int × Int × Int × Int × Unit) (r : Int × Int), saturateref04_parts.f a.1 a.2.1 a.2.2.1 a.2.2.2.1 = some r → Contract Try.prog 82 (saturateref04_parts.a.enc a) (saturateref04_parts.r.enc r) := Contract.of_body (F := fun (a : Int × Int × Int × Int × Unit) => saturateref04_parts.f a.1 a.2.1 a.2.2.1 a.2.2.2.1) (fn := Try.f82) (cs := saturateref04_parts.cs) (live := saturateref04_parts.live) (fuel := fuel0 + 1) (by kernel_rfl) (by kernel_rfl) mixed (saturateref04_parts.eq (fuel0 + 1))
noncomputable def saturateref04_parts.c : Kn Try.prog := Kn.of 82 saturateref04_parts.a saturateref04_parts.r (fun a => saturateref04_parts.f a.1 a.2.1 a.2.2.1 a.2.2.2.1) saturateref04_parts.con

/-! ### saturateref04_Width: function 48 -/
def saturateref04_Width.a : ACods (Int × Int × Int × (Nat × (Nat → Int)) × Unit) := (.cons (.val (.int .i64)) (.cons (.val (.int .i64)) (.cons (.val (.int .u64)) (.cons (.rows (.int1 .i64)) .nil))))
def saturateref04_Width.r : RCod (Int × Int) := .val (.tup (.cons (.int .i64) (.one (.int .i64))))
noncomputable def saturateref04_Width.cs : List (Kn Try.prog) := [saturateref04_Arity.c, saturateref04_width.c, saturateref04_Leaf.c, saturateref04_leaf.c, saturateref04_parts.c]
def saturateref04_Width.live : Nat → Option Keep := liveOf [(9, ⟨[0, 1, 2, 3, 22, 23], [3], []⟩)]
noncomputable def saturateref04_Width.body : Code := bodyOf Try.f48
noncomputable def saturateref04_Width.K (fu : Nat) : Code → St → (Ex → St → Option (Int × Int)) → Option (Int × Int) := codeK Try.prog saturateref04_Width.cs saturateref04_Width.live fu
noncomputable def saturateref04_Width.j4 (fu : Nat) (n4 : Nat) (x0 : Int) (x1 : Int) (x2 : Int) (x3n : Nat) (x22 : Int) (x23 : Int) (m3 : Nat) (g3_0 : Nat → Int) : Option (Int × Int) :=
  loopK (saturateref04_Width.K fu (sub saturateref04_Width.body [true, true, false, true, false, false])) (saturateref04_Width.live 9) n4 (stOf 133 [(0, .val (.int .i64 x0)), (1, .val (.int .i64 x1)), (2, .val (.int .u64 x2)), (3, .sl 3 1 x3n), (22, .val (.int .i64 x22)), (23, .val (.int .i64 x23))] [(3, .ext m3 [.int .i64 g3_0])]) (blockC 0 (seqC fu (saturateref04_Width.live 18) (saturateref04_Width.K fu (sub saturateref04_Width.body [true, true, true])) (retC Try.prog Try.f48.results saturateref04_Width.r.dec)))
theorem saturateref04_Width.j4_succ (fu : Nat) (n4 : Nat) (x0 : Int) (x1 : Int) (x2 : Int) (x3n : Nat) (x22 : Int) (x23 : Int) (m3 : Nat) (g3_0 : Nat → Int) : saturateref04_Width.j4 fu (n4 + 1) x0 x1 x2 x3n x22 x23 m3 g3_0 =
  bif (decide (x23 < x22)) then
    bif decide (0 ≤ x23) then
      bif decide (x23 < (x3n : Int)) then
        (saturateref04_width.f (g3_0 x23.toNat)).bind fun r3 =>
        bif (!r3) then
          some (0, 3)
        else
          saturateref04_Width.j4 fu n4 x0 x1 x2 x3n x22 (IntKind.i64.wrap (x23 + 1)) m3 g3_0
      else
        none
    else
      none
  else
    (saturateref04_Leaf.f x0).bind fun r4 =>
    bif r4 then
      (saturateref04_leaf.f x0 x1 x2).bind fun r5 =>
      some (r5.1, r5.2)
    else
      bif (x0 == 21) then
        bif decide ((0 : Int) < (x3n : Int)) then
          (saturateref04_parts.f x0 x1 x2 (g3_0 0)).bind fun r6 =>
          some (r6.1, r6.2)
        else
          none
      else
        bif (x0 == 22) then
          bif decide ((0 : Int) < (x3n : Int)) then
            (saturateref04_parts.f x0 x1 x2 (g3_0 0)).bind fun r7 =>
            some (r7.1, r7.2)
          else
            none
        else
          bif (x0 == 23) then
            bif decide ((0 : Int) < (x3n : Int)) then
              (saturateref04_parts.f x0 x1 x2 (g3_0 0)).bind fun r8 =>
              some (r8.1, r8.2)
            else
              none
          else
            bif ((x3n : Int) == 1) then
              bif decide ((0 : Int) < (x3n : Int)) then
                some ((g3_0 0), 0)
              else
                none
            else
              bif (x0 == 20) then
                bif decide ((0 : Int) < (x3n : Int)) then
                  bif (decide ((g3_0 0) < 1)) then
                    some (0, 3)
                  else
                    bif decide ((1 : Int) < (x3n : Int)) then
                      bif (decide ((g3_0 1) < 1)) then
                        some (0, 3)
                      else
                        bif decide ((0 : Int) < (x3n : Int)) then
                          bif decide ((1 : Int) < (x3n : Int)) then
                            bif (decide ((IntKind.i64.wrap ((g3_0 0) + (g3_0 1))) > 64)) then
                              some (0, 3)
                            else
                              bif decide ((0 : Int) < (x3n : Int)) then
                                bif decide ((1 : Int) < (x3n : Int)) then
                                  some ((IntKind.i64.wrap ((g3_0 0) + (g3_0 1))), 0)
                                else
                                  none
                              else
                                none
                          else
                            none
                        else
                          none
                    else
                      none
                else
                  none
              else
                bif (x0 == 19) then
                  bif decide ((0 : Int) < (x3n : Int)) then
                    bif ((g3_0 0) != 1) then
                      some (0, 3)
                    else
                      bif decide ((1 : Int) < (x3n : Int)) then
                        bif decide ((2 : Int) < (x3n : Int)) then
                          bif ((g3_0 1) != (g3_0 2)) then
                            some (0, 3)
                          else
                            bif decide ((1 : Int) < (x3n : Int)) then
                              some ((g3_0 1), 0)
                            else
                              none
                        else
                          none
                      else
                        none
                  else
                    none
                else
                  bif decide ((0 : Int) < (x3n : Int)) then
                    bif decide ((1 : Int) < (x3n : Int)) then
                      bif ((g3_0 0) != (g3_0 1)) then
                        some (0, 3)
                      else
                        bif (x0 == 16) then
                          some (1, 0)
                        else
                          bif (x0 == 17) then
                            some (1, 0)
                          else
                            bif (x0 == 18) then
                              some (1, 0)
                            else
                              bif decide ((0 : Int) < (x3n : Int)) then
                                some ((g3_0 0), 0)
                              else
                                none
                    else
                      none
                  else
                    none := by kernel_rfl
noncomputable def saturateref04_Width.g (fu : Nat) (a0 : Int) (a1 : Int) (a2 : Int) (a3 : Nat × (Nat → Int)) : Option (Int × Int) :=
  (saturateref04_Arity.f a0).bind fun r1 =>
  bif (decide (r1 < 0)) then
    some (0, 4)
  else
    (saturateref04_Arity.f a0).bind fun r2 =>
    bif ((a3.1 : Int) != r2) then
      some (0, 4)
    else
      saturateref04_Width.j4 fu fu a0 a1 a2 a3.1 (a3.1 : Int) 0 a3.1 a3.2
noncomputable def saturateref04_Width.f (a0 : Int) (a1 : Int) (a2 : Int) (a3 : Nat × (Nat → Int)) : Option (Int × Int) := saturateref04_Width.g (fuel0 + 1) a0 a1 a2 a3
theorem saturateref04_Width.eq (fu : Nat) (a : Int × Int × Int × (Nat × (Nat → Int)) × Unit) : bodyK Try.prog saturateref04_Width.cs saturateref04_Width.live fu Try.f48 (saturateref04_Width.a.enc a) saturateref04_Width.r.dec = saturateref04_Width.g fu a.1 a.2.1 a.2.2.1 a.2.2.2.1 := by kernel_rfl
theorem saturateref04_Width.con : ∀ (a : Int × Int × Int × (Nat × (Nat → Int)) × Unit) (r : Int × Int), saturateref04_Width.f a.1 a.2.1 a.2.2.1 a.2.2.2.1 = some r → Contract Try.prog 48 (saturateref04_Width.a.enc a) (saturateref04_Width.r.enc r) := Contract.of_body (F := fun (a : Int × Int × Int × (Nat × (Nat → Int)) × Unit) => saturateref04_Width.f a.1 a.2.1 a.2.2.1 a.2.2.2.1) (fn := Try.f48) (cs := saturateref04_Width.cs) (live := saturateref04_Width.live) (fuel := fuel0 + 1) (by kernel_rfl) (by kernel_rfl) mixed (saturateref04_Width.eq (fuel0 + 1))
noncomputable def saturateref04_Width.c : Kn Try.prog := Kn.of 48 saturateref04_Width.a saturateref04_Width.r (fun a => saturateref04_Width.f a.1 a.2.1 a.2.2.1 a.2.2.2.1) saturateref04_Width.con

/-! ### saturateref04_Pattern: function 49 -/
def saturateref04_Pattern.a : ACods (Int × Unit) := (.cons (.val (.int .i64)) .nil)
def saturateref04_Pattern.r : RCod (Bool) := .val (.bool)
noncomputable def saturateref04_Pattern.cs : List (Kn Try.prog) := [saturateref04_Is.c]
def saturateref04_Pattern.live : Nat → Option Keep := liveOf []
noncomputable def saturateref04_Pattern.body : Code := bodyOf Try.f49
noncomputable def saturateref04_Pattern.K (fu : Nat) : Code → St → (Ex → St → Option (Bool)) → Option (Bool) := codeK Try.prog saturateref04_Pattern.cs saturateref04_Pattern.live fu
noncomputable def saturateref04_Pattern.f (a0 : Int) : Option (Bool) :=
  (saturateref04_Is.f a0 (3, (fun i => [24, 25, 26].getD i 0))).bind fun r1 =>
  some r1
theorem saturateref04_Pattern.eq (fu : Nat) (a : Int × Unit) : bodyK Try.prog saturateref04_Pattern.cs saturateref04_Pattern.live fu Try.f49 (saturateref04_Pattern.a.enc a) saturateref04_Pattern.r.dec = saturateref04_Pattern.f a.1 := by kernel_rfl
theorem saturateref04_Pattern.con : ∀ (a : Int × Unit) (r : Bool), saturateref04_Pattern.f a.1 = some r → Contract Try.prog 49 (saturateref04_Pattern.a.enc a) (saturateref04_Pattern.r.enc r) := Contract.of_body (F := fun (a : Int × Unit) => saturateref04_Pattern.f a.1) (fn := Try.f49) (cs := saturateref04_Pattern.cs) (live := saturateref04_Pattern.live) (fuel := fuel0 + 1) (by kernel_rfl) (by kernel_rfl) mixed (saturateref04_Pattern.eq (fuel0 + 1))
noncomputable def saturateref04_Pattern.c : Kn Try.prog := Kn.of 49 saturateref04_Pattern.a saturateref04_Pattern.r (fun a => saturateref04_Pattern.f a.1) saturateref04_Pattern.con

/-! ### saturateref12_Refused: function 14 -/
def saturateref12_Refused.a : ACods (Int × Int × Int × (Nat × (Nat → Int)) × Int × Unit) := (.cons (.val (.int .i64)) (.cons (.val (.int .i64)) (.cons (.val (.int .u64)) (.cons (.rows (.int1 .i64)) (.cons (.val (.int .i64)) .nil)))))
def saturateref12_Refused.r : RCod (Int × Int) := .val (.tup (.cons (.int .i64) (.one (.int .i64))))
noncomputable def saturateref12_Refused.cs : List (Kn Try.prog) := [saturateref04_Width.c, saturateref04_Pattern.c]
def saturateref12_Refused.live : Nat → Option Keep := liveOf [(19, ⟨[3, 12, 14], [3], []⟩)]
noncomputable def saturateref12_Refused.body : Code := bodyOf Try.f14
noncomputable def saturateref12_Refused.K (fu : Nat) : Code → St → (Ex → St → Option (Int × Int)) → Option (Int × Int) := codeK Try.prog saturateref12_Refused.cs saturateref12_Refused.live fu
noncomputable def saturateref12_Refused.j9 (fu : Nat) (n9 : Nat) (x3n : Nat) (x12 : Int) (x14 : Int) (m3 : Nat) (g3_0 : Nat → Int) : Option (Int × Int) :=
  loopK (saturateref12_Refused.K fu (sub saturateref12_Refused.body [true, true, true, true, true, false, true, false, false])) (saturateref12_Refused.live 19) n9 (stOf 46 [(3, .sl 3 1 x3n), (12, .val (.int .i64 x12)), (14, .val (.int .i64 x14))] [(3, .ext m3 [.int .i64 g3_0])]) (blockC 0 (seqC fu (saturateref12_Refused.live 26) (saturateref12_Refused.K fu (sub saturateref12_Refused.body [true, true, true, true, true, true])) (retC Try.prog Try.f14.results saturateref12_Refused.r.dec)))
theorem saturateref12_Refused.j9_succ (fu : Nat) (n9 : Nat) (x3n : Nat) (x12 : Int) (x14 : Int) (m3 : Nat) (g3_0 : Nat → Int) : saturateref12_Refused.j9 fu (n9 + 1) x3n x12 x14 m3 g3_0 =
  bif (decide (x14 < (x3n : Int))) then
    bif decide (0 ≤ x14) then
      bif decide (x14 < (x3n : Int)) then
        bif ((g3_0 x14.toNat) == 0) then
          some (0, 3)
        else
          saturateref12_Refused.j9 fu n9 x3n x12 (IntKind.i64.wrap (x14 + 1)) m3 g3_0
      else
        none
    else
      none
  else
    bif (x12 == 0) then
      some (0, 3)
    else
      some (x12, 0) := by kernel_rfl
noncomputable def saturateref12_Refused.g (fu : Nat) (a0 : Int) (a1 : Int) (a2 : Int) (a3 : Nat × (Nat → Int)) (a4 : Int) : Option (Int × Int) :=
  bif (a4 != (a3.1 : Int)) then
    some (0, 4)
  else
    (saturateref04_Width.f a0 a1 a2 (a3.1, a3.2)).bind fun r1 =>
    bif (r1.2 != 0) then
      some (0, r1.2)
    else
      (saturateref04_Pattern.f a0).bind fun r2 =>
      bif r2 then
        some (0, 4)
      else
        saturateref12_Refused.j9 fu fu a3.1 r1.1 0 a3.1 a3.2
noncomputable def saturateref12_Refused.f (a0 : Int) (a1 : Int) (a2 : Int) (a3 : Nat × (Nat → Int)) (a4 : Int) : Option (Int × Int) := saturateref12_Refused.g (fuel0 + 1) a0 a1 a2 a3 a4
theorem saturateref12_Refused.eq (fu : Nat) (a : Int × Int × Int × (Nat × (Nat → Int)) × Int × Unit) : bodyK Try.prog saturateref12_Refused.cs saturateref12_Refused.live fu Try.f14 (saturateref12_Refused.a.enc a) saturateref12_Refused.r.dec = saturateref12_Refused.g fu a.1 a.2.1 a.2.2.1 a.2.2.2.1 a.2.2.2.2.1 := by kernel_rfl
theorem saturateref12_Refused.con : ∀ (a : Int × Int × Int × (Nat × (Nat → Int)) × Int × Unit) (r : Int × Int), saturateref12_Refused.f a.1 a.2.1 a.2.2.1 a.2.2.2.1 a.2.2.2.2.1 = some r → Contract Try.prog 14 (saturateref12_Refused.a.enc a) (saturateref12_Refused.r.enc r) := Contract.of_body (F := fun (a : Int × Int × Int × (Nat × (Nat → Int)) × Int × Unit) => saturateref12_Refused.f a.1 a.2.1 a.2.2.1 a.2.2.2.1 a.2.2.2.2.1) (fn := Try.f14) (cs := saturateref12_Refused.cs) (live := saturateref12_Refused.live) (fuel := fuel0 + 1) (by kernel_rfl) (by kernel_rfl) mixed (saturateref12_Refused.eq (fuel0 + 1))
noncomputable def saturateref12_Refused.c : Kn Try.prog := Kn.of 14 saturateref12_Refused.a saturateref12_Refused.r (fun a => saturateref12_Refused.f a.1 a.2.1 a.2.2.1 a.2.2.2.1 a.2.2.2.2.1) saturateref12_Refused.con

/-! ### saturateref01_W: function 51 -/
def saturateref01_W.a : ACods (Int × Unit) := (.cons (.val (.int .i64)) .nil)
def saturateref01_W.r : RCod (Int) := .val (.int .i64)
noncomputable def saturateref01_W.cs : List (Kn Try.prog) := []
def saturateref01_W.live : Nat → Option Keep := liveOf []
noncomputable def saturateref01_W.body : Code := bodyOf Try.f51
noncomputable def saturateref01_W.K (fu : Nat) : Code → St → (Ex → St → Option (Int)) → Option (Int) := codeK Try.prog saturateref01_W.cs saturateref01_W.live fu
noncomputable def saturateref01_W.f (a0 : Int) : Option (Int) :=
  some (mn (mx a0 1) 64)
theorem saturateref01_W.eq (fu : Nat) (a : Int × Unit) : bodyK Try.prog saturateref01_W.cs saturateref01_W.live fu Try.f51 (saturateref01_W.a.enc a) saturateref01_W.r.dec = saturateref01_W.f a.1 := by kernel_rfl
theorem saturateref01_W.con : ∀ (a : Int × Unit) (r : Int), saturateref01_W.f a.1 = some r → Contract Try.prog 51 (saturateref01_W.a.enc a) (saturateref01_W.r.enc r) := Contract.of_body (F := fun (a : Int × Unit) => saturateref01_W.f a.1) (fn := Try.f51) (cs := saturateref01_W.cs) (live := saturateref01_W.live) (fuel := fuel0 + 1) (by kernel_rfl) (by kernel_rfl) mixed (saturateref01_W.eq (fuel0 + 1))
noncomputable def saturateref01_W.c : Kn Try.prog := Kn.of 51 saturateref01_W.a saturateref01_W.r (fun a => saturateref01_W.f a.1) saturateref01_W.con

/-! ### saturateref01_Mask: function 54 -/
def saturateref01_Mask.a : ACods (Int × Unit) := (.cons (.val (.int .i64)) .nil)
def saturateref01_Mask.r : RCod (Int) := .val (.int .u64)
noncomputable def saturateref01_Mask.cs : List (Kn Try.prog) := [saturateref01_W.c]
def saturateref01_Mask.live : Nat → Option Keep := liveOf [(7, ⟨[3, 5, 6], [], []⟩)]
noncomputable def saturateref01_Mask.body : Code := bodyOf Try.f54
noncomputable def saturateref01_Mask.K (fu : Nat) : Code → St → (Ex → St → Option (Int)) → Option (Int) := codeK Try.prog saturateref01_Mask.cs saturateref01_Mask.live fu
noncomputable def saturateref01_Mask.j3 (fu : Nat) (n3 : Nat) (x3 : Int) (x5 : Int) (x6 : Int) : Option Int :=
  loopK (saturateref01_Mask.K fu (sub saturateref01_Mask.body [true, true, false, true, false, false])) (saturateref01_Mask.live 7) n3 (stOf 13 [(3, .val (.int .u64 x3)), (5, .val (.int .i64 x5)), (6, .val (.int .i64 x6))] []) (blockC 0 (seqC fu (saturateref01_Mask.live 12) (saturateref01_Mask.K fu (sub saturateref01_Mask.body [true, true, true])) (retC Try.prog Try.f54.results saturateref01_Mask.r.dec)))
theorem saturateref01_Mask.j3_succ (fu : Nat) (n3 : Nat) (x3 : Int) (x5 : Int) (x6 : Int) : saturateref01_Mask.j3 fu (n3 + 1) x3 x5 x6 =
  bif (decide (x6 < x5)) then
    saturateref01_Mask.j3 fu n3 (IntKind.u64.wrap ((IntKind.u64.wrap (x3 * 2)) + 1)) x5 (IntKind.i64.wrap (x6 + 1))
  else
    some x3 := by kernel_rfl
noncomputable def saturateref01_Mask.g (fu : Nat) (a0 : Int) : Option (Int) :=
  (saturateref01_W.f a0).bind fun r1 =>
  saturateref01_Mask.j3 fu fu 0 r1 0
noncomputable def saturateref01_Mask.f (a0 : Int) : Option (Int) := saturateref01_Mask.g (fuel0 + 1) a0
theorem saturateref01_Mask.eq (fu : Nat) (a : Int × Unit) : bodyK Try.prog saturateref01_Mask.cs saturateref01_Mask.live fu Try.f54 (saturateref01_Mask.a.enc a) saturateref01_Mask.r.dec = saturateref01_Mask.g fu a.1 := by kernel_rfl
theorem saturateref01_Mask.con : ∀ (a : Int × Unit) (r : Int), saturateref01_Mask.f a.1 = some r → Contract Try.prog 54 (saturateref01_Mask.a.enc a) (saturateref01_Mask.r.enc r) := Contract.of_body (F := fun (a : Int × Unit) => saturateref01_Mask.f a.1) (fn := Try.f54) (cs := saturateref01_Mask.cs) (live := saturateref01_Mask.live) (fuel := fuel0 + 1) (by kernel_rfl) (by kernel_rfl) mixed (saturateref01_Mask.eq (fuel0 + 1))
noncomputable def saturateref01_Mask.c : Kn Try.prog := Kn.of 54 saturateref01_Mask.a saturateref01_Mask.r (fun a => saturateref01_Mask.f a.1) saturateref01_Mask.con

/-! ### saturateref12_Valid: function 30 -/
def saturateref12_Valid.a : ACods (Int × (Int × Int) × Unit) := (.cons (.val (.int .i64)) (.cons (.val (.agg (.cons (.int .u64) (.one (.int .u64))))) .nil))
def saturateref12_Valid.r : RCod (Bool) := .val (.bool)
noncomputable def saturateref12_Valid.cs : List (Kn Try.prog) := [saturateref01_Mask.c]
def saturateref12_Valid.live : Nat → Option Keep := liveOf []
noncomputable def saturateref12_Valid.body : Code := bodyOf Try.f30
noncomputable def saturateref12_Valid.K (fu : Nat) : Code → St → (Ex → St → Option (Bool)) → Option (Bool) := codeK Try.prog saturateref12_Valid.cs saturateref12_Valid.live fu
noncomputable def saturateref12_Valid.f (a0 : Int) (a1 : Int × Int) : Option (Bool) :=
  bif ((Go.bits .and .u64 a1.1 a1.2) == 0) then
    (saturateref01_Mask.f a0).bind fun r1 =>
    bif (decide (a1.1 ≤ r1)) then
      (saturateref01_Mask.f a0).bind fun r2 =>
      some (decide (a1.2 ≤ r2))
    else
      some false
  else
    some false
theorem saturateref12_Valid.eq (fu : Nat) (a : Int × (Int × Int) × Unit) : bodyK Try.prog saturateref12_Valid.cs saturateref12_Valid.live fu Try.f30 (saturateref12_Valid.a.enc a) saturateref12_Valid.r.dec = saturateref12_Valid.f a.1 a.2.1 := by kernel_rfl
theorem saturateref12_Valid.con : ∀ (a : Int × (Int × Int) × Unit) (r : Bool), saturateref12_Valid.f a.1 a.2.1 = some r → Contract Try.prog 30 (saturateref12_Valid.a.enc a) (saturateref12_Valid.r.enc r) := Contract.of_body (F := fun (a : Int × (Int × Int) × Unit) => saturateref12_Valid.f a.1 a.2.1) (fn := Try.f30) (cs := saturateref12_Valid.cs) (live := saturateref12_Valid.live) (fuel := fuel0 + 1) (by kernel_rfl) (by kernel_rfl) mixed (saturateref12_Valid.eq (fuel0 + 1))
noncomputable def saturateref12_Valid.c : Kn Try.prog := Kn.of 30 saturateref12_Valid.a saturateref12_Valid.r (fun a => saturateref12_Valid.f a.1 a.2.1) saturateref12_Valid.con

/-! ### saturateref12_Top: function 36 -/
def saturateref12_Top.a : ACods (Unit) := .nil
def saturateref12_Top.r : RCod (Int × Int) := .val (.agg (.cons (.int .u64) (.one (.int .u64))))
noncomputable def saturateref12_Top.cs : List (Kn Try.prog) := []
def saturateref12_Top.live : Nat → Option Keep := liveOf []
noncomputable def saturateref12_Top.body : Code := bodyOf Try.f36
noncomputable def saturateref12_Top.K (fu : Nat) : Code → St → (Ex → St → Option (Int × Int)) → Option (Int × Int) := codeK Try.prog saturateref12_Top.cs saturateref12_Top.live fu
noncomputable def saturateref12_Top.f : Option (Int × Int) :=
  some (0, 0)
theorem saturateref12_Top.eq (fu : Nat) (a : Unit) : bodyK Try.prog saturateref12_Top.cs saturateref12_Top.live fu Try.f36 (saturateref12_Top.a.enc a) saturateref12_Top.r.dec = saturateref12_Top.f := by kernel_rfl
theorem saturateref12_Top.con : ∀ (a : Unit) (r : Int × Int), saturateref12_Top.f = some r → Contract Try.prog 36 (saturateref12_Top.a.enc a) (saturateref12_Top.r.enc r) := Contract.of_body (F := fun (a : Unit) => saturateref12_Top.f) (fn := Try.f36) (cs := saturateref12_Top.cs) (live := saturateref12_Top.live) (fuel := fuel0 + 1) (by kernel_rfl) (by kernel_rfl) mixed (saturateref12_Top.eq (fuel0 + 1))
noncomputable def saturateref12_Top.c : Kn Try.prog := Kn.of 36 saturateref12_Top.a saturateref12_Top.r (fun a => saturateref12_Top.f) saturateref12_Top.con

/-! ### saturateref12_Of: function 44 -/
def saturateref12_Of.a : ACods (Int × (Int × Int) × Unit) := (.cons (.val (.int .i64)) (.cons (.val (.agg (.cons (.int .u64) (.one (.int .u64))))) .nil))
def saturateref12_Of.r : RCod (Int × Int) := .val (.agg (.cons (.int .u64) (.one (.int .u64))))
noncomputable def saturateref12_Of.cs : List (Kn Try.prog) := [saturateref12_Valid.c, saturateref12_Top.c]
def saturateref12_Of.live : Nat → Option Keep := liveOf []
noncomputable def saturateref12_Of.body : Code := bodyOf Try.f44
noncomputable def saturateref12_Of.K (fu : Nat) : Code → St → (Ex → St → Option (Int × Int)) → Option (Int × Int) := codeK Try.prog saturateref12_Of.cs saturateref12_Of.live fu
noncomputable def saturateref12_Of.f (a0 : Int) (a1 : Int × Int) : Option (Int × Int) :=
  (saturateref12_Valid.f a0 (a1.1, a1.2)).bind fun r1 =>
  bif r1 then
    some (a1.1, a1.2)
  else
    (saturateref12_Top.f).bind fun r2 =>
    some (r2.1, r2.2)
theorem saturateref12_Of.eq (fu : Nat) (a : Int × (Int × Int) × Unit) : bodyK Try.prog saturateref12_Of.cs saturateref12_Of.live fu Try.f44 (saturateref12_Of.a.enc a) saturateref12_Of.r.dec = saturateref12_Of.f a.1 a.2.1 := by kernel_rfl
theorem saturateref12_Of.con : ∀ (a : Int × (Int × Int) × Unit) (r : Int × Int), saturateref12_Of.f a.1 a.2.1 = some r → Contract Try.prog 44 (saturateref12_Of.a.enc a) (saturateref12_Of.r.enc r) := Contract.of_body (F := fun (a : Int × (Int × Int) × Unit) => saturateref12_Of.f a.1 a.2.1) (fn := Try.f44) (cs := saturateref12_Of.cs) (live := saturateref12_Of.live) (fuel := fuel0 + 1) (by kernel_rfl) (by kernel_rfl) mixed (saturateref12_Of.eq (fuel0 + 1))
noncomputable def saturateref12_Of.c : Kn Try.prog := Kn.of 44 saturateref12_Of.a saturateref12_Of.r (fun a => saturateref12_Of.f a.1 a.2.1) saturateref12_Of.con

/-! ### saturateref01_Bit: function 52 -/
def saturateref01_Bit.a : ACods (Int × Int × Unit) := (.cons (.val (.int .u64)) (.cons (.val (.int .i64)) .nil))
def saturateref01_Bit.r : RCod (Int) := .val (.int .u64)
noncomputable def saturateref01_Bit.cs : List (Kn Try.prog) := []
def saturateref01_Bit.live : Nat → Option Keep := liveOf []
noncomputable def saturateref01_Bit.body : Code := bodyOf Try.f52
noncomputable def saturateref01_Bit.K (fu : Nat) : Code → St → (Ex → St → Option (Int)) → Option (Int) := codeK Try.prog saturateref01_Bit.cs saturateref01_Bit.live fu
noncomputable def saturateref01_Bit.f (a0 : Int) (a1 : Int) : Option (Int) :=
  bif (decide (a1 < 0)) then
    some 0
  else
    bif (decide (a1 > 63)) then
      some 0
    else
      bif decide ((IntKind.u64.wrap a1) < 0) then
        none
      else
        some (Go.bits .and .u64 (shr .u64 a0 (IntKind.u64.wrap a1)) 1)
theorem saturateref01_Bit.eq (fu : Nat) (a : Int × Int × Unit) : bodyK Try.prog saturateref01_Bit.cs saturateref01_Bit.live fu Try.f52 (saturateref01_Bit.a.enc a) saturateref01_Bit.r.dec = saturateref01_Bit.f a.1 a.2.1 := by kernel_rfl
theorem saturateref01_Bit.con : ∀ (a : Int × Int × Unit) (r : Int), saturateref01_Bit.f a.1 a.2.1 = some r → Contract Try.prog 52 (saturateref01_Bit.a.enc a) (saturateref01_Bit.r.enc r) := Contract.of_body (F := fun (a : Int × Int × Unit) => saturateref01_Bit.f a.1 a.2.1) (fn := Try.f52) (cs := saturateref01_Bit.cs) (live := saturateref01_Bit.live) (fuel := fuel0 + 1) (by kernel_rfl) (by kernel_rfl) mixed (saturateref01_Bit.eq (fuel0 + 1))
noncomputable def saturateref01_Bit.c : Kn Try.prog := Kn.of 52 saturateref01_Bit.a saturateref01_Bit.r (fun a => saturateref01_Bit.f a.1 a.2.1) saturateref01_Bit.con

/-! ### saturateref01_Cut: function 16 -/
def saturateref01_Cut.a : ACods (Int × Int × Unit) := (.cons (.val (.int .i64)) (.cons (.val (.int .u64)) .nil))
def saturateref01_Cut.r : RCod (Int) := .val (.int .u64)
noncomputable def saturateref01_Cut.cs : List (Kn Try.prog) := [saturateref01_W.c, saturateref01_Bit.c]
def saturateref01_Cut.live : Nat → Option Keep := liveOf [(7, ⟨[1, 5, 8, 9], [], []⟩)]
noncomputable def saturateref01_Cut.body : Code := bodyOf Try.f16
noncomputable def saturateref01_Cut.K (fu : Nat) : Code → St → (Ex → St → Option (Int)) → Option (Int) := codeK Try.prog saturateref01_Cut.cs saturateref01_Cut.live fu
noncomputable def saturateref01_Cut.j3 (fu : Nat) (n3 : Nat) (x1 : Int) (x5 : Int) (x8 : Int) (x9 : Int) : Option Int :=
  loopK (saturateref01_Cut.K fu (sub saturateref01_Cut.body [true, true, false, true, false, false])) (saturateref01_Cut.live 7) n3 (stOf 22 [(1, .val (.int .u64 x1)), (5, .val (.int .u64 x5)), (8, .val (.int .i64 x8)), (9, .val (.int .i64 x9))] []) (blockC 0 (seqC fu (saturateref01_Cut.live 14) (saturateref01_Cut.K fu (sub saturateref01_Cut.body [true, true, true])) (retC Try.prog Try.f16.results saturateref01_Cut.r.dec)))
theorem saturateref01_Cut.j3_succ (fu : Nat) (n3 : Nat) (x1 : Int) (x5 : Int) (x8 : Int) (x9 : Int) : saturateref01_Cut.j3 fu (n3 + 1) x1 x5 x8 x9 =
  bif (decide (x9 < x8)) then
    (saturateref01_Bit.f x1 x9).bind fun r2 =>
    bif decide ((IntKind.u64.wrap x9) < 0) then
      none
    else
      saturateref01_Cut.j3 fu n3 x1 (Go.bits .or .u64 x5 (shl .u64 r2 (IntKind.u64.wrap x9))) x8 (IntKind.i64.wrap (x9 + 1))
  else
    some x5 := by kernel_rfl
noncomputable def saturateref01_Cut.g (fu : Nat) (a0 : Int) (a1 : Int) : Option (Int) :=
  (saturateref01_W.f a0).bind fun r1 =>
  saturateref01_Cut.j3 fu fu a1 0 r1 0
noncomputable def saturateref01_Cut.f (a0 : Int) (a1 : Int) : Option (Int) := saturateref01_Cut.g (fuel0 + 1) a0 a1
theorem saturateref01_Cut.eq (fu : Nat) (a : Int × Int × Unit) : bodyK Try.prog saturateref01_Cut.cs saturateref01_Cut.live fu Try.f16 (saturateref01_Cut.a.enc a) saturateref01_Cut.r.dec = saturateref01_Cut.g fu a.1 a.2.1 := by kernel_rfl
theorem saturateref01_Cut.con : ∀ (a : Int × Int × Unit) (r : Int), saturateref01_Cut.f a.1 a.2.1 = some r → Contract Try.prog 16 (saturateref01_Cut.a.enc a) (saturateref01_Cut.r.enc r) := Contract.of_body (F := fun (a : Int × Int × Unit) => saturateref01_Cut.f a.1 a.2.1) (fn := Try.f16) (cs := saturateref01_Cut.cs) (live := saturateref01_Cut.live) (fuel := fuel0 + 1) (by kernel_rfl) (by kernel_rfl) mixed (saturateref01_Cut.eq (fuel0 + 1))
noncomputable def saturateref01_Cut.c : Kn Try.prog := Kn.of 16 saturateref01_Cut.a saturateref01_Cut.r (fun a => saturateref01_Cut.f a.1 a.2.1) saturateref01_Cut.con

/-! ### saturateref12_Const: function 20 -/
def saturateref12_Const.a : ACods (Int × Int × Unit) := (.cons (.val (.int .i64)) (.cons (.val (.int .u64)) .nil))
def saturateref12_Const.r : RCod (Int × Int) := .val (.agg (.cons (.int .u64) (.one (.int .u64))))
noncomputable def saturateref12_Const.cs : List (Kn Try.prog) := [saturateref01_Cut.c, saturateref01_Mask.c]
def saturateref12_Const.live : Nat → Option Keep := liveOf []
noncomputable def saturateref12_Const.body : Code := bodyOf Try.f20
noncomputable def saturateref12_Const.K (fu : Nat) : Code → St → (Ex → St → Option (Int × Int)) → Option (Int × Int) := codeK Try.prog saturateref12_Const.cs saturateref12_Const.live fu
noncomputable def saturateref12_Const.f (a0 : Int) (a1 : Int) : Option (Int × Int) :=
  (saturateref01_Cut.f a0 a1).bind fun r1 =>
  (saturateref01_Mask.f a0).bind fun r2 =>
  some ((IntKind.u64.wrap (r2 - r1)), r1)
theorem saturateref12_Const.eq (fu : Nat) (a : Int × Int × Unit) : bodyK Try.prog saturateref12_Const.cs saturateref12_Const.live fu Try.f20 (saturateref12_Const.a.enc a) saturateref12_Const.r.dec = saturateref12_Const.f a.1 a.2.1 := by kernel_rfl
theorem saturateref12_Const.con : ∀ (a : Int × Int × Unit) (r : Int × Int), saturateref12_Const.f a.1 a.2.1 = some r → Contract Try.prog 20 (saturateref12_Const.a.enc a) (saturateref12_Const.r.enc r) := Contract.of_body (F := fun (a : Int × Int × Unit) => saturateref12_Const.f a.1 a.2.1) (fn := Try.f20) (cs := saturateref12_Const.cs) (live := saturateref12_Const.live) (fuel := fuel0 + 1) (by kernel_rfl) (by kernel_rfl) mixed (saturateref12_Const.eq (fuel0 + 1))
noncomputable def saturateref12_Const.c : Kn Try.prog := Kn.of 20 saturateref12_Const.a saturateref12_Const.r (fun a => saturateref12_Const.f a.1 a.2.1) saturateref12_Const.con

/-! ### saturateref12_Single: function 34 -/
def saturateref12_Single.a : ACods (Int × (Int × Int) × Unit) := (.cons (.val (.int .i64)) (.cons (.val (.agg (.cons (.int .u64) (.one (.int .u64))))) .nil))
def saturateref12_Single.r : RCod (Int × Bool) := .val (.tup (.cons (.int .u64) (.one (.bool))))
noncomputable def saturateref12_Single.cs : List (Kn Try.prog) := [saturateref12_Of.c, saturateref01_Mask.c]
def saturateref12_Single.live : Nat → Option Keep := liveOf []
noncomputable def saturateref12_Single.body : Code := bodyOf Try.f34
noncomputable def saturateref12_Single.K (fu : Nat) : Code → St → (Ex → St → Option (Int × Bool)) → Option (Int × Bool) := codeK Try.prog saturateref12_Single.cs saturateref12_Single.live fu
noncomputable def saturateref12_Single.f (a0 : Int) (a1 : Int × Int) : Option (Int × Bool) :=
  (saturateref12_Of.f a0 (a1.1, a1.2)).bind fun r1 =>
  (saturateref01_Mask.f a0).bind fun r2 =>
  bif ((IntKind.u64.wrap (r1.1 + r1.2)) != r2) then
    some (0, false)
  else
    some (r1.2, true)
theorem saturateref12_Single.eq (fu : Nat) (a : Int × (Int × Int) × Unit) : bodyK Try.prog saturateref12_Single.cs saturateref12_Single.live fu Try.f34 (saturateref12_Single.a.enc a) saturateref12_Single.r.dec = saturateref12_Single.f a.1 a.2.1 := by kernel_rfl
theorem saturateref12_Single.con : ∀ (a : Int × (Int × Int) × Unit) (r : Int × Bool), saturateref12_Single.f a.1 a.2.1 = some r → Contract Try.prog 34 (saturateref12_Single.a.enc a) (saturateref12_Single.r.enc r) := Contract.of_body (F := fun (a : Int × (Int × Int) × Unit) => saturateref12_Single.f a.1 a.2.1) (fn := Try.f34) (cs := saturateref12_Single.cs) (live := saturateref12_Single.live) (fuel := fuel0 + 1) (by kernel_rfl) (by kernel_rfl) mixed (saturateref12_Single.eq (fuel0 + 1))
noncomputable def saturateref12_Single.c : Kn Try.prog := Kn.of 34 saturateref12_Single.a saturateref12_Single.r (fun a => saturateref12_Single.f a.1 a.2.1) saturateref12_Single.con

/-! ### saturateref12_Join: function 19 -/
def saturateref12_Join.a : ACods (Int × (Int × Int) × (Int × Int) × Unit) := (.cons (.val (.int .i64)) (.cons (.val (.agg (.cons (.int .u64) (.one (.int .u64))))) (.cons (.val (.agg (.cons (.int .u64) (.one (.int .u64))))) .nil)))
def saturateref12_Join.r : RCod (Int × Int) := .val (.agg (.cons (.int .u64) (.one (.int .u64))))
noncomputable def saturateref12_Join.cs : List (Kn Try.prog) := [saturateref12_Of.c]
def saturateref12_Join.live : Nat → Option Keep := liveOf []
noncomputable def saturateref12_Join.body : Code := bodyOf Try.f19
noncomputable def saturateref12_Join.K (fu : Nat) : Code → St → (Ex → St → Option (Int × Int)) → Option (Int × Int) := codeK Try.prog saturateref12_Join.cs saturateref12_Join.live fu
noncomputable def saturateref12_Join.f (a0 : Int) (a1 : Int × Int) (a2 : Int × Int) : Option (Int × Int) :=
  (saturateref12_Of.f a0 (a1.1, a1.2)).bind fun r1 =>
  (saturateref12_Of.f a0 (a2.1, a2.2)).bind fun r2 =>
  some ((Go.bits .and .u64 r1.1 r2.1), (Go.bits .and .u64 r1.2 r2.2))
theorem saturateref12_Join.eq (fu : Nat) (a : Int × (Int × Int) × (Int × Int) × Unit) : bodyK Try.prog saturateref12_Join.cs saturateref12_Join.live fu Try.f19 (saturateref12_Join.a.enc a) saturateref12_Join.r.dec = saturateref12_Join.f a.1 a.2.1 a.2.2.1 := by kernel_rfl
theorem saturateref12_Join.con : ∀ (a : Int × (Int × Int) × (Int × Int) × Unit) (r : Int × Int), saturateref12_Join.f a.1 a.2.1 a.2.2.1 = some r → Contract Try.prog 19 (saturateref12_Join.a.enc a) (saturateref12_Join.r.enc r) := Contract.of_body (F := fun (a : Int × (Int × Int) × (Int × Int) × Unit) => saturateref12_Join.f a.1 a.2.1 a.2.2.1) (fn := Try.f19) (cs := saturateref12_Join.cs) (live := saturateref12_Join.live) (fuel := fuel0 + 1) (by kernel_rfl) (by kernel_rfl) mixed (saturateref12_Join.eq (fuel0 + 1))
noncomputable def saturateref12_Join.c : Kn Try.prog := Kn.of 19 saturateref12_Join.a saturateref12_Join.r (fun a => saturateref12_Join.f a.1 a.2.1 a.2.2.1) saturateref12_Join.con

/-! ### saturateref12_bit: function 71 -/
def saturateref12_bit.a : ACods ((Int × Int) × Int × Unit) := (.cons (.val (.agg (.cons (.int .u64) (.one (.int .u64))))) (.cons (.val (.int .i64)) .nil))
def saturateref12_bit.r : RCod (Int) := .val (.int .i64)
noncomputable def saturateref12_bit.cs : List (Kn Try.prog) := [saturateref01_Bit.c]
def saturateref12_bit.live : Nat → Option Keep := liveOf []
noncomputable def saturateref12_bit.body : Code := bodyOf Try.f71
noncomputable def saturateref12_bit.K (fu : Nat) : Code → St → (Ex → St → Option (Int)) → Option (Int) := codeK Try.prog saturateref12_bit.cs saturateref12_bit.live fu
noncomputable def saturateref12_bit.f (a0 : Int × Int) (a1 : Int) : Option (Int) :=
  bif (decide (a1 > 63)) then
    some 0
  else
    (saturateref01_Bit.f a0.1 a1).bind fun r1 =>
    bif (r1 == 1) then
      some 0
    else
      (saturateref01_Bit.f a0.2 a1).bind fun r2 =>
      bif (r2 == 1) then
        some 1
      else
        some 2
theorem saturateref12_bit.eq (fu : Nat) (a : (Int × Int) × Int × Unit) : bodyK Try.prog saturateref12_bit.cs saturateref12_bit.live fu Try.f71 (saturateref12_bit.a.enc a) saturateref12_bit.r.dec = saturateref12_bit.f a.1 a.2.1 := by kernel_rfl
theorem saturateref12_bit.con : ∀ (a : (Int × Int) × Int × Unit) (r : Int), saturateref12_bit.f a.1 a.2.1 = some r → Contract Try.prog 71 (saturateref12_bit.a.enc a) (saturateref12_bit.r.enc r) := Contract.of_body (F := fun (a : (Int × Int) × Int × Unit) => saturateref12_bit.f a.1 a.2.1) (fn := Try.f71) (cs := saturateref12_bit.cs) (live := saturateref12_bit.live) (fuel := fuel0 + 1) (by kernel_rfl) (by kernel_rfl) mixed (saturateref12_bit.eq (fuel0 + 1))
noncomputable def saturateref12_bit.c : Kn Try.prog := Kn.of 71 saturateref12_bit.a saturateref12_bit.r (fun a => saturateref12_bit.f a.1 a.2.1) saturateref12_bit.con

/-! ### saturateref12_with: function 72 -/
def saturateref12_with.a : ACods ((Int × Int) × Int × Int × Unit) := (.cons (.val (.agg (.cons (.int .u64) (.one (.int .u64))))) (.cons (.val (.int .i64)) (.cons (.val (.int .i64)) .nil)))
def saturateref12_with.r : RCod (Int × Int) := .val (.agg (.cons (.int .u64) (.one (.int .u64))))
noncomputable def saturateref12_with.cs : List (Kn Try.prog) := []
def saturateref12_with.live : Nat → Option Keep := liveOf [(12, ⟨[3, 6], [3, 6], []⟩)]
noncomputable def saturateref12_with.body : Code := bodyOf Try.f72
noncomputable def saturateref12_with.K (fu : Nat) : Code → St → (Ex → St → Option (Int × Int)) → Option (Int × Int) := codeK Try.prog saturateref12_with.cs saturateref12_with.live fu
noncomputable def saturateref12_with.p6 (m fu : Nat) (c3_0 : Int) (c3_1 : Int) : Option (Int × Int) :=
  joinK m (saturateref12_with.K fu (sub saturateref12_with.body [true, true])) (stOf 27 [(3, .ptr 3 0 0 0), (6, .ptr 6 0 0 0)] [(3, .own [.val (.int .u64 c3_0), .val (.int .u64 c3_1)]), (6, .own [.val (.int .u64 0), .val (.int .u64 0)])]) (retC Try.prog Try.f72.results saturateref12_with.r.dec)
theorem saturateref12_with.p6_eq (m fu : Nat) (c3_0 : Int) (c3_1 : Int) : saturateref12_with.p6 (m + 1) fu c3_0 c3_1 =
  some (c3_0, c3_1) := by kernel_rfl
noncomputable def saturateref12_with.g (fu : Nat) (a0 : Int × Int) (a1 : Int) (a2 : Int) : Option (Int × Int) :=
  bif (a2 == 0) then
    bif decide ((IntKind.u64.wrap a1) < 0) then
      none
    else
      saturateref12_with.p6 fu fu (Go.bits .or .u64 a0.1 (shl .u64 1 (IntKind.u64.wrap a1))) a0.2
  else
    bif (a2 == 1) then
      bif decide ((IntKind.u64.wrap a1) < 0) then
        none
      else
        saturateref12_with.p6 fu fu a0.1 (Go.bits .or .u64 a0.2 (shl .u64 1 (IntKind.u64.wrap a1)))
    else
      saturateref12_with.p6 fu fu a0.1 a0.2
noncomputable def saturateref12_with.f (a0 : Int × Int) (a1 : Int) (a2 : Int) : Option (Int × Int) := saturateref12_with.g (fuel0 + 1) a0 a1 a2
theorem saturateref12_with.eq (fu : Nat) (a : (Int × Int) × Int × Int × Unit) : bodyK Try.prog saturateref12_with.cs saturateref12_with.live fu Try.f72 (saturateref12_with.a.enc a) saturateref12_with.r.dec = saturateref12_with.g fu a.1 a.2.1 a.2.2.1 := by kernel_rfl
theorem saturateref12_with.con : ∀ (a : (Int × Int) × Int × Int × Unit) (r : Int × Int), saturateref12_with.f a.1 a.2.1 a.2.2.1 = some r → Contract Try.prog 72 (saturateref12_with.a.enc a) (saturateref12_with.r.enc r) := Contract.of_body (F := fun (a : (Int × Int) × Int × Int × Unit) => saturateref12_with.f a.1 a.2.1 a.2.2.1) (fn := Try.f72) (cs := saturateref12_with.cs) (live := saturateref12_with.live) (fuel := fuel0 + 1) (by kernel_rfl) (by kernel_rfl) mixed (saturateref12_with.eq (fuel0 + 1))
noncomputable def saturateref12_with.c : Kn Try.prog := Kn.of 72 saturateref12_with.a saturateref12_with.r (fun a => saturateref12_with.f a.1 a.2.1 a.2.2.1) saturateref12_with.con
end Go.Proofs.Ytbfniopkadaheaa.Fn
