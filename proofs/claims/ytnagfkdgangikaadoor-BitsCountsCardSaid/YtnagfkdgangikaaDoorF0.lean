/- What the functions return, as the evaluator tells it: written by a program of this workplace (mev.py); Lean checks each equation. -/
import Derived.Test.YtnagfkdgangikaaDoorProg
import Derived.Test.YtnagfkdgangikaaDoorEvC
namespace Go.Proofs.YtnagfkdgangikaaDoor.Fn
open Go Go.RowKit Go.Proofs.YtnagfkdgangikaaDoor.Ev Go.Proofs
set_option linter.unusedVariables false
set_option maxRecDepth 100000
theorem mixed : Tryd.prog.follows .mixedOrders = true := by kernel_rfl
def fuel0 : Nat := 18446744073709551615
/-! ### bits_OnesCount64: function 11 -/
def bits_OnesCount64.a : ACods (Int × Unit) := (.cons (.val (.int .u64)) .nil)
def bits_OnesCount64.r : RCod (Int) := .val (.int .i64)
noncomputable def bits_OnesCount64.cs : List (Kn Tryd.prog) := []
def bits_OnesCount64.live : Nat → Option Keep := liveOf []
noncomputable def bits_OnesCount64.body : Code := bodyOf Tryd.f11
noncomputable def bits_OnesCount64.K (fu : Nat) : Code → St → (Ex → St → Option (Int)) → Option (Int) := codeK Tryd.prog bits_OnesCount64.cs bits_OnesCount64.live fu
noncomputable def bits_OnesCount64.f (a0 : Int) : Option (Int) :=
  some (Go.bits .and .i64 (IntKind.i64.wrap (IntKind.u64.wrap ((IntKind.u64.wrap ((IntKind.u64.wrap ((Go.bits .and .u64 (IntKind.u64.wrap ((shr .u64 (IntKind.u64.wrap ((Go.bits .and .u64 (shr .u64 (IntKind.u64.wrap ((Go.bits .and .u64 (shr .u64 a0 1) 6148914691236517205) + (Go.bits .and .u64 a0 6148914691236517205))) 2) 3689348814741910323) + (Go.bits .and .u64 (IntKind.u64.wrap ((Go.bits .and .u64 (shr .u64 a0 1) 6148914691236517205) + (Go.bits .and .u64 a0 6148914691236517205))) 3689348814741910323))) 4) + (IntKind.u64.wrap ((Go.bits .and .u64 (shr .u64 (IntKind.u64.wrap ((Go.bits .and .u64 (shr .u64 a0 1) 6148914691236517205) + (Go.bits .and .u64 a0 6148914691236517205))) 2) 3689348814741910323) + (Go.bits .and .u64 (IntKind.u64.wrap ((Go.bits .and .u64 (shr .u64 a0 1) 6148914691236517205) + (Go.bits .and .u64 a0 6148914691236517205))) 3689348814741910323))))) 1085102592571150095) + (shr .u64 (Go.bits .and .u64 (IntKind.u64.wrap ((shr .u64 (IntKind.u64.wrap ((Go.bits .and .u64 (shr .u64 (IntKind.u64.wrap ((Go.bits .and .u64 (shr .u64 a0 1) 6148914691236517205) + (Go.bits .and .u64 a0 6148914691236517205))) 2) 3689348814741910323) + (Go.bits .and .u64 (IntKind.u64.wrap ((Go.bits .and .u64 (shr .u64 a0 1) 6148914691236517205) + (Go.bits .and .u64 a0 6148914691236517205))) 3689348814741910323))) 4) + (IntKind.u64.wrap ((Go.bits .and .u64 (shr .u64 (IntKind.u64.wrap ((Go.bits .and .u64 (shr .u64 a0 1) 6148914691236517205) + (Go.bits .and .u64 a0 6148914691236517205))) 2) 3689348814741910323) + (Go.bits .and .u64 (IntKind.u64.wrap ((Go.bits .and .u64 (shr .u64 a0 1) 6148914691236517205) + (Go.bits .and .u64 a0 6148914691236517205))) 3689348814741910323))))) 1085102592571150095) 8))) + (shr .u64 (IntKind.u64.wrap ((Go.bits .and .u64 (IntKind.u64.wrap ((shr .u64 (IntKind.u64.wrap ((Go.bits .and .u64 (shr .u64 (IntKind.u64.wrap ((Go.bits .and .u64 (shr .u64 a0 1) 6148914691236517205) + (Go.bits .and .u64 a0 6148914691236517205))) 2) 3689348814741910323) + (Go.bits .and .u64 (IntKind.u64.wrap ((Go.bits .and .u64 (shr .u64 a0 1) 6148914691236517205) + (Go.bits .and .u64 a0 6148914691236517205))) 3689348814741910323))) 4) + (IntKind.u64.wrap ((Go.bits .and .u64 (shr .u64 (IntKind.u64.wrap ((Go.bits .and .u64 (shr .u64 a0 1) 6148914691236517205) + (Go.bits .and .u64 a0 6148914691236517205))) 2) 3689348814741910323) + (Go.bits .and .u64 (IntKind.u64.wrap ((Go.bits .and .u64 (shr .u64 a0 1) 6148914691236517205) + (Go.bits .and .u64 a0 6148914691236517205))) 3689348814741910323))))) 1085102592571150095) + (shr .u64 (Go.bits .and .u64 (IntKind.u64.wrap ((shr .u64 (IntKind.u64.wrap ((Go.bits .and .u64 (shr .u64 (IntKind.u64.wrap ((Go.bits .and .u64 (shr .u64 a0 1) 6148914691236517205) + (Go.bits .and .u64 a0 6148914691236517205))) 2) 3689348814741910323) + (Go.bits .and .u64 (IntKind.u64.wrap ((Go.bits .and .u64 (shr .u64 a0 1) 6148914691236517205) + (Go.bits .and .u64 a0 6148914691236517205))) 3689348814741910323))) 4) + (IntKind.u64.wrap ((Go.bits .and .u64 (shr .u64 (IntKind.u64.wrap ((Go.bits .and .u64 (shr .u64 a0 1) 6148914691236517205) + (Go.bits .and .u64 a0 6148914691236517205))) 2) 3689348814741910323) + (Go.bits .and .u64 (IntKind.u64.wrap ((Go.bits .and .u64 (shr .u64 a0 1) 6148914691236517205) + (Go.bits .and .u64 a0 6148914691236517205))) 3689348814741910323))))) 1085102592571150095) 8))) 16))) + (shr .u64 (IntKind.u64.wrap ((IntKind.u64.wrap ((Go.bits .and .u64 (IntKind.u64.wrap ((shr .u64 (IntKind.u64.wrap ((Go.bits .and .u64 (shr .u64 (IntKind.u64.wrap ((Go.bits .and .u64 (shr .u64 a0 1) 6148914691236517205) + (Go.bits .and .u64 a0 6148914691236517205))) 2) 3689348814741910323) + (Go.bits .and .u64 (IntKind.u64.wrap ((Go.bits .and .u64 (shr .u64 a0 1) 6148914691236517205) + (Go.bits .and .u64 a0 6148914691236517205))) 3689348814741910323))) 4) + (IntKind.u64.wrap ((Go.bits .and .u64 (shr .u64 (IntKind.u64.wrap ((Go.bits .and .u64 (shr .u64 a0 1) 6148914691236517205) + (Go.bits .and .u64 a0 6148914691236517205))) 2) 3689348814741910323) + (Go.bits .and .u64 (IntKind.u64.wrap ((Go.bits .and .u64 (shr .u64 a0 1) 6148914691236517205) + (Go.bits .and .u64 a0 6148914691236517205))) 3689348814741910323))))) 1085102592571150095) + (shr .u64 (Go.bits .and .u64 (IntKind.u64.wrap ((shr .u64 (IntKind.u64.wrap ((Go.bits .and .u64 (shr .u64 (IntKind.u64.wrap ((Go.bits .and .u64 (shr .u64 a0 1) 6148914691236517205) + (Go.bits .and .u64 a0 6148914691236517205))) 2) 3689348814741910323) + (Go.bits .and .u64 (IntKind.u64.wrap ((Go.bits .and .u64 (shr .u64 a0 1) 6148914691236517205) + (Go.bits .and .u64 a0 6148914691236517205))) 3689348814741910323))) 4) + (IntKind.u64.wrap ((Go.bits .and .u64 (shr .u64 (IntKind.u64.wrap ((Go.bits .and .u64 (shr .u64 a0 1) 6148914691236517205) + (Go.bits .and .u64 a0 6148914691236517205))) 2) 3689348814741910323) + (Go.bits .and .u64 (IntKind.u64.wrap ((Go.bits .and .u64 (shr .u64 a0 1) 6148914691236517205) + (Go.bits .and .u64 a0 6148914691236517205))) 3689348814741910323))))) 1085102592571150095) 8))) + (shr .u64 (IntKind.u64.wrap ((Go.bits .and .u64 (IntKind.u64.wrap ((shr .u64 (IntKind.u64.wrap ((Go.bits .and .u64 (shr .u64 (IntKind.u64.wrap ((Go.bits .and .u64 (shr .u64 a0 1) 6148914691236517205) + (Go.bits .and .u64 a0 6148914691236517205))) 2) 3689348814741910323) + (Go.bits .and .u64 (IntKind.u64.wrap ((Go.bits .and .u64 (shr .u64 a0 1) 6148914691236517205) + (Go.bits .and .u64 a0 6148914691236517205))) 3689348814741910323))) 4) + (IntKind.u64.wrap ((Go.bits .and .u64 (shr .u64 (IntKind.u64.wrap ((Go.bits .and .u64 (shr .u64 a0 1) 6148914691236517205) + (Go.bits .and .u64 a0 6148914691236517205))) 2) 3689348814741910323) + (Go.bits .and .u64 (IntKind.u64.wrap ((Go.bits .and .u64 (shr .u64 a0 1) 6148914691236517205) + (Go.bits .and .u64 a0 6148914691236517205))) 3689348814741910323))))) 1085102592571150095) + (shr .u64 (Go.bits .and .u64 (IntKind.u64.wrap ((shr .u64 (IntKind.u64.wrap ((Go.bits .and .u64 (shr .u64 (IntKind.u64.wrap ((Go.bits .and .u64 (shr .u64 a0 1) 6148914691236517205) + (Go.bits .and .u64 a0 6148914691236517205))) 2) 3689348814741910323) + (Go.bits .and .u64 (IntKind.u64.wrap ((Go.bits .and .u64 (shr .u64 a0 1) 6148914691236517205) + (Go.bits .and .u64 a0 6148914691236517205))) 3689348814741910323))) 4) + (IntKind.u64.wrap ((Go.bits .and .u64 (shr .u64 (IntKind.u64.wrap ((Go.bits .and .u64 (shr .u64 a0 1) 6148914691236517205) + (Go.bits .and .u64 a0 6148914691236517205))) 2) 3689348814741910323) + (Go.bits .and .u64 (IntKind.u64.wrap ((Go.bits .and .u64 (shr .u64 a0 1) 6148914691236517205) + (Go.bits .and .u64 a0 6148914691236517205))) 3689348814741910323))))) 1085102592571150095) 8))) 16))) 32)))) 127)
theorem bits_OnesCount64.eq (fu : Nat) (a : Int × Unit) : bodyK Tryd.prog bits_OnesCount64.cs bits_OnesCount64.live fu Tryd.f11 (bits_OnesCount64.a.enc a) bits_OnesCount64.r.dec = bits_OnesCount64.f a.1 := by kernel_rfl
theorem bits_OnesCount64.con : ∀ (a : Int × Unit) (r : Int), bits_OnesCount64.f a.1 = some r → Contract Tryd.prog 11 (bits_OnesCount64.a.enc a) (bits_OnesCount64.r.enc r) := Contract.of_body (F := fun (a : Int × Unit) => bits_OnesCount64.f a.1) (fn := Tryd.f11) (cs := bits_OnesCount64.cs) (live := bits_OnesCount64.live) (fuel := fuel0 + 1) (by kernel_rfl) (by kernel_rfl) mixed (bits_OnesCount64.eq (fuel0 + 1))
noncomputable def bits_OnesCount64.c : Kn Tryd.prog := Kn.of 11 bits_OnesCount64.a bits_OnesCount64.r (fun a => bits_OnesCount64.f a.1) bits_OnesCount64.con

/-! ### bits_Count: function 4 -/
def bits_Count.a : ACods (Int × Unit) := (.cons (.val (.int .u64)) .nil)
def bits_Count.r : RCod (Int) := .val (.int .i64)
noncomputable def bits_Count.cs : List (Kn Tryd.prog) := [bits_OnesCount64.c]
def bits_Count.live : Nat → Option Keep := liveOf []
noncomputable def bits_Count.body : Code := bodyOf Tryd.f4
noncomputable def bits_Count.K (fu : Nat) : Code → St → (Ex → St → Option (Int)) → Option (Int) := codeK Tryd.prog bits_Count.cs bits_Count.live fu
noncomputable def bits_Count.f (a0 : Int) : Option (Int) :=
  (bits_OnesCount64.f a0).bind fun r1 =>
  some r1
theorem bits_Count.eq (fu : Nat) (a : Int × Unit) : bodyK Tryd.prog bits_Count.cs bits_Count.live fu Tryd.f4 (bits_Count.a.enc a) bits_Count.r.dec = bits_Count.f a.1 := by kernel_rfl
theorem bits_Count.con : ∀ (a : Int × Unit) (r : Int), bits_Count.f a.1 = some r → Contract Tryd.prog 4 (bits_Count.a.enc a) (bits_Count.r.enc r) := Contract.of_body (F := fun (a : Int × Unit) => bits_Count.f a.1) (fn := Tryd.f4) (cs := bits_Count.cs) (live := bits_Count.live) (fuel := fuel0 + 1) (by kernel_rfl) (by kernel_rfl) mixed (bits_Count.eq (fuel0 + 1))
noncomputable def bits_Count.c : Kn Tryd.prog := Kn.of 4 bits_Count.a bits_Count.r (fun a => bits_Count.f a.1) bits_Count.con

/-! ### saturateref01_Bit: function 12 -/
def saturateref01_Bit.a : ACods (Int × Int × Unit) := (.cons (.val (.int .u64)) (.cons (.val (.int .i64)) .nil))
def saturateref01_Bit.r : RCod (Int) := .val (.int .u64)
noncomputable def saturateref01_Bit.cs : List (Kn Tryd.prog) := []
def saturateref01_Bit.live : Nat → Option Keep := liveOf []
noncomputable def saturateref01_Bit.body : Code := bodyOf Tryd.f12
noncomputable def saturateref01_Bit.K (fu : Nat) : Code → St → (Ex → St → Option (Int)) → Option (Int) := codeK Tryd.prog saturateref01_Bit.cs saturateref01_Bit.live fu
noncomputable def saturateref01_Bit.f (a0 : Int) (a1 : Int) : Option (Int) :=
  bif (decide (a1 < 0)) then
    some 0
  else
    bif (decide (a1 > 63)) then
      some 0
    else
      bif decide ((IntKind.u64.wrap a1) < 0) then
        none
      else
        some (Go.bits .and .u64 (shr .u64 a0 (IntKind.u64.wrap a1)) 1)
theorem saturateref01_Bit.eq (fu : Nat) (a : Int × Int × Unit) : bodyK Tryd.prog saturateref01_Bit.cs saturateref01_Bit.live fu Tryd.f12 (saturateref01_Bit.a.enc a) saturateref01_Bit.r.dec = saturateref01_Bit.f a.1 a.2.1 := by kernel_rfl
theorem saturateref01_Bit.con : ∀ (a : Int × Int × Unit) (r : Int), saturateref01_Bit.f a.1 a.2.1 = some r → Contract Tryd.prog 12 (saturateref01_Bit.a.enc a) (saturateref01_Bit.r.enc r) := Contract.of_body (F := fun (a : Int × Int × Unit) => saturateref01_Bit.f a.1 a.2.1) (fn := Tryd.f12) (cs := saturateref01_Bit.cs) (live := saturateref01_Bit.live) (fuel := fuel0 + 1) (by kernel_rfl) (by kernel_rfl) mixed (saturateref01_Bit.eq (fuel0 + 1))
noncomputable def saturateref01_Bit.c : Kn Tryd.prog := Kn.of 12 saturateref01_Bit.a saturateref01_Bit.r (fun a => saturateref01_Bit.f a.1 a.2.1) saturateref01_Bit.con

/-! ### saturateref01_Count: function 5 -/
def saturateref01_Count.a : ACods (Int × Unit) := (.cons (.val (.int .u64)) .nil)
def saturateref01_Count.r : RCod (Int) := .val (.int .i64)
noncomputable def saturateref01_Count.cs : List (Kn Tryd.prog) := [saturateref01_Bit.c]
def saturateref01_Count.live : Nat → Option Keep := liveOf [(7, ⟨[0, 3, 5], [], []⟩)]
noncomputable def saturateref01_Count.body : Code := bodyOf Tryd.f5
noncomputable def saturateref01_Count.K (fu : Nat) : Code → St → (Ex → St → Option (Int)) → Option (Int) := codeK Tryd.prog saturateref01_Count.cs saturateref01_Count.live fu
noncomputable def saturateref01_Count.j3 (fu : Nat) (n3 : Nat) (x0 : Int) (x3 : Int) (x5 : Int) : Option Int :=
  loopK (saturateref01_Count.K fu (sub saturateref01_Count.body [true, true, false, true, false, false])) (saturateref01_Count.live 7) n3 (stOf 16 [(0, .val (.int .u64 x0)), (3, .val (.int .i64 x3)), (5, .val (.int .i64 x5))] []) (blockC 0 (seqC fu (saturateref01_Count.live 14) (saturateref01_Count.K fu (sub saturateref01_Count.body [true, true, true])) (retC Tryd.prog Tryd.f5.results saturateref01_Count.r.dec)))
theorem saturateref01_Count.j3_succ (fu : Nat) (n3 : Nat) (x0 : Int) (x3 : Int) (x5 : Int) : saturateref01_Count.j3 fu (n3 + 1) x0 x3 x5 =
  bif (decide (x5 < 64)) then
    (saturateref01_Bit.f x0 x5).bind fun r1 =>
    saturateref01_Count.j3 fu n3 x0 (IntKind.i64.wrap (x3 + (IntKind.i64.wrap r1))) (IntKind.i64.wrap (x5 + 1))
  else
    some x3 := by kernel_rfl
noncomputable def saturateref01_Count.g (fu : Nat) (a0 : Int) : Option (Int) :=
  saturateref01_Count.j3 fu fu a0 0 0
noncomputable def saturateref01_Count.f (a0 : Int) : Option (Int) := saturateref01_Count.g (fuel0 + 1) a0
theorem saturateref01_Count.eq (fu : Nat) (a : Int × Unit) : bodyK Tryd.prog saturateref01_Count.cs saturateref01_Count.live fu Tryd.f5 (saturateref01_Count.a.enc a) saturateref01_Count.r.dec = saturateref01_Count.g fu a.1 := by kernel_rfl
theorem saturateref01_Count.con : ∀ (a : Int × Unit) (r : Int), saturateref01_Count.f a.1 = some r → Contract Tryd.prog 5 (saturateref01_Count.a.enc a) (saturateref01_Count.r.enc r) := Contract.of_body (F := fun (a : Int × Unit) => saturateref01_Count.f a.1) (fn := Tryd.f5) (cs := saturateref01_Count.cs) (live := saturateref01_Count.live) (fuel := fuel0 + 1) (by kernel_rfl) (by kernel_rfl) mixed (saturateref01_Count.eq (fuel0 + 1))
noncomputable def saturateref01_Count.c : Kn Tryd.prog := Kn.of 5 saturateref01_Count.a saturateref01_Count.r (fun a => saturateref01_Count.f a.1) saturateref01_Count.con

/-! A constant of a function's code made a variable. -/
def mapO (big c : Int) (o : Oper) : Oper :=
  match o.op with
  | .binOp bo t x (.const (.int k n)) yt => if n = big then { o with op := .binOp bo t x (.const (.int k c)) yt } else o
  | _ => o
def mapC (big c : Int) : Code → Code
  | .seq a b => .seq (mapC big c a) (mapC big c b)
  | .cond x a b => .cond x (mapC big c a) (mapC big c b)
  | .region l ops f => .region l (ops.toList.map (mapO big c)).toArray f
  | x => x
def mapF (big c : Int) (f : Func) : Func := { f with body := f.body.map (mapC big c) }
/-! ### bits_TrailingZeros64: function 13 -/
def bits_TrailingZeros64.a : ACods (Int × Unit) := (.cons (.val (.int .u64)) .nil)
def bits_TrailingZeros64.r : RCod (Int) := .val (.int .i64)
noncomputable def bits_TrailingZeros64.cs : List (Kn Tryd.prog) := []
def bits_TrailingZeros64.live : Nat → Option Keep := liveOf []
noncomputable def bits_TrailingZeros64.body : Code := bodyOf Tryd.f13
noncomputable def bits_TrailingZeros64.K (fu : Nat) : Code → St → (Ex → St → Option (Int)) → Option (Int) := codeK Tryd.prog bits_TrailingZeros64.cs bits_TrailingZeros64.live fu
noncomputable def bits_TrailingZeros64.f (a0 : Int) : Option (Int) :=
  bif (a0 == 0) then
    some 64
  else
    bif decide (0 ≤ (shr .u64 (IntKind.u64.wrap ((Go.bits .and .u64 a0 (IntKind.u64.wrap (0 - a0))) * 285870213051353865)) 58)) then
      bif decide ((shr .u64 (IntKind.u64.wrap ((Go.bits .and .u64 a0 (IntKind.u64.wrap (0 - a0))) * 285870213051353865)) 58) < (64 : Int)) then
        some (IntKind.i64.wrap (gtab0_0 ((shr .u64 (IntKind.u64.wrap ((Go.bits .and .u64 a0 (IntKind.u64.wrap (0 - a0))) * 285870213051353865)) 58).toNat)))
      else
        none
    else
      none
noncomputable def bits_TrailingZeros64.fc (c a0 : Int) : Option (Int) :=
  bif (a0 == 0) then
    some 64
  else
    bif decide (0 ≤ (shr .u64 (IntKind.u64.wrap ((Go.bits .and .u64 a0 (IntKind.u64.wrap (0 - a0))) * c)) 58)) then
      bif decide ((shr .u64 (IntKind.u64.wrap ((Go.bits .and .u64 a0 (IntKind.u64.wrap (0 - a0))) * c)) 58) < (64 : Int)) then
        some (IntKind.i64.wrap (gtab0_0 ((shr .u64 (IntKind.u64.wrap ((Go.bits .and .u64 a0 (IntKind.u64.wrap (0 - a0))) * c)) 58).toNat)))
      else
        none
    else
      none
theorem bits_TrailingZeros64.eqc (c : Int) (fu : Nat) (a : Int × Unit) : bodyK Tryd.prog bits_TrailingZeros64.cs bits_TrailingZeros64.live fu (mapF 285870213051353865 c Tryd.f13) (bits_TrailingZeros64.a.enc a) bits_TrailingZeros64.r.dec = bits_TrailingZeros64.fc c a.1 := by kernel_rfl
theorem bits_TrailingZeros64.fn_eq : mapF 285870213051353865 285870213051353865 Tryd.f13 = Tryd.f13 := by kernel_rfl
theorem bits_TrailingZeros64.eq (fu : Nat) (a : Int × Unit) : bodyK Tryd.prog bits_TrailingZeros64.cs bits_TrailingZeros64.live fu Tryd.f13 (bits_TrailingZeros64.a.enc a) bits_TrailingZeros64.r.dec = bits_TrailingZeros64.f a.1 := by
  have h := bits_TrailingZeros64.eqc 285870213051353865 fu a
  rw [bits_TrailingZeros64.fn_eq] at h
  exact h
theorem bits_TrailingZeros64.con : ∀ (a : Int × Unit) (r : Int), bits_TrailingZeros64.f a.1 = some r → Contract Tryd.prog 13 (bits_TrailingZeros64.a.enc a) (bits_TrailingZeros64.r.enc r) := Contract.of_body (F := fun (a : Int × Unit) => bits_TrailingZeros64.f a.1) (fn := Tryd.f13) (cs := bits_TrailingZeros64.cs) (live := bits_TrailingZeros64.live) (fuel := fuel0 + 1) (by kernel_rfl) (by kernel_rfl) mixed (bits_TrailingZeros64.eq (fuel0 + 1))
noncomputable def bits_TrailingZeros64.c : Kn Tryd.prog := Kn.of 13 bits_TrailingZeros64.a bits_TrailingZeros64.r (fun a => bits_TrailingZeros64.f a.1) bits_TrailingZeros64.con

/-! ### bits_Lowest: function 6 -/
def bits_Lowest.a : ACods (Int × Unit) := (.cons (.val (.int .u64)) .nil)
def bits_Lowest.r : RCod (Int) := .val (.int .i64)
noncomputable def bits_Lowest.cs : List (Kn Tryd.prog) := [bits_TrailingZeros64.c]
def bits_Lowest.live : Nat → Option Keep := liveOf []
noncomputable def bits_Lowest.body : Code := bodyOf Tryd.f6
noncomputable def bits_Lowest.K (fu : Nat) : Code → St → (Ex → St → Option (Int)) → Option (Int) := codeK Tryd.prog bits_Lowest.cs bits_Lowest.live fu
noncomputable def bits_Lowest.f (a0 : Int) : Option (Int) :=
  bif (a0 == 0) then
    some (-1)
  else
    (bits_TrailingZeros64.f a0).bind fun r1 =>
    some r1
theorem bits_Lowest.eq (fu : Nat) (a : Int × Unit) : bodyK Tryd.prog bits_Lowest.cs bits_Lowest.live fu Tryd.f6 (bits_Lowest.a.enc a) bits_Lowest.r.dec = bits_Lowest.f a.1 := by kernel_rfl
theorem bits_Lowest.con : ∀ (a : Int × Unit) (r : Int), bits_Lowest.f a.1 = some r → Contract Tryd.prog 6 (bits_Lowest.a.enc a) (bits_Lowest.r.enc r) := Contract.of_body (F := fun (a : Int × Unit) => bits_Lowest.f a.1) (fn := Tryd.f6) (cs := bits_Lowest.cs) (live := bits_Lowest.live) (fuel := fuel0 + 1) (by kernel_rfl) (by kernel_rfl) mixed (bits_Lowest.eq (fuel0 + 1))
noncomputable def bits_Lowest.c : Kn Tryd.prog := Kn.of 6 bits_Lowest.a bits_Lowest.r (fun a => bits_Lowest.f a.1) bits_Lowest.con

/-! ### saturateref01_Lowest: function 7 -/
def saturateref01_Lowest.a : ACods (Int × Unit) := (.cons (.val (.int .u64)) .nil)
def saturateref01_Lowest.r : RCod (Int) := .val (.int .i64)
noncomputable def saturateref01_Lowest.cs : List (Kn Tryd.prog) := [saturateref01_Bit.c]
def saturateref01_Lowest.live : Nat → Option Keep := liveOf [(5, ⟨[0, 4], [], []⟩)]
noncomputable def saturateref01_Lowest.body : Code := bodyOf Tryd.f7
noncomputable def saturateref01_Lowest.K (fu : Nat) : Code → St → (Ex → St → Option (Int)) → Option (Int) := codeK Tryd.prog saturateref01_Lowest.cs saturateref01_Lowest.live fu
noncomputable def saturateref01_Lowest.j2 (fu : Nat) (n2 : Nat) (x0 : Int) (x4 : Int) : Option Int :=
  loopK (saturateref01_Lowest.K fu (sub saturateref01_Lowest.body [true, false, true, false, false])) (saturateref01_Lowest.live 5) n2 (stOf 13 [(0, .val (.int .u64 x0)), (4, .val (.int .i64 x4))] []) (blockC 0 (seqC fu (saturateref01_Lowest.live 14) (saturateref01_Lowest.K fu (sub saturateref01_Lowest.body [true, true])) (retC Tryd.prog Tryd.f7.results saturateref01_Lowest.r.dec)))
theorem saturateref01_Lowest.j2_succ (fu : Nat) (n2 : Nat) (x0 : Int) (x4 : Int) : saturateref01_Lowest.j2 fu (n2 + 1) x0 x4 =
  bif (decide (x4 < 64)) then
    (saturateref01_Bit.f x0 x4).bind fun r1 =>
    bif (r1 == 1) then
      some x4
    else
      saturateref01_Lowest.j2 fu n2 x0 (IntKind.i64.wrap (x4 + 1))
  else
    some (-1) := by kernel_rfl
noncomputable def saturateref01_Lowest.g (fu : Nat) (a0 : Int) : Option (Int) :=
  saturateref01_Lowest.j2 fu fu a0 0
noncomputable def saturateref01_Lowest.f (a0 : Int) : Option (Int) := saturateref01_Lowest.g (fuel0 + 1) a0
theorem saturateref01_Lowest.eq (fu : Nat) (a : Int × Unit) : bodyK Tryd.prog saturateref01_Lowest.cs saturateref01_Lowest.live fu Tryd.f7 (saturateref01_Lowest.a.enc a) saturateref01_Lowest.r.dec = saturateref01_Lowest.g fu a.1 := by kernel_rfl
theorem saturateref01_Lowest.con : ∀ (a : Int × Unit) (r : Int), saturateref01_Lowest.f a.1 = some r → Contract Tryd.prog 7 (saturateref01_Lowest.a.enc a) (saturateref01_Lowest.r.enc r) := Contract.of_body (F := fun (a : Int × Unit) => saturateref01_Lowest.f a.1) (fn := Tryd.f7) (cs := saturateref01_Lowest.cs) (live := saturateref01_Lowest.live) (fuel := fuel0 + 1) (by kernel_rfl) (by kernel_rfl) mixed (saturateref01_Lowest.eq (fuel0 + 1))
noncomputable def saturateref01_Lowest.c : Kn Tryd.prog := Kn.of 7 saturateref01_Lowest.a saturateref01_Lowest.r (fun a => saturateref01_Lowest.f a.1) saturateref01_Lowest.con

/-! ### bits_Len64: function 14 -/
def bits_Len64.a : ACods (Int × Unit) := (.cons (.val (.int .u64)) .nil)
def bits_Len64.r : RCod (Int) := .val (.int .i64)
noncomputable def bits_Len64.cs : List (Kn Tryd.prog) := []
def bits_Len64.live : Nat → Option Keep := liveOf [(8, ⟨[0, 2], [], []⟩), (14, ⟨[0, 2], [], []⟩), (20, ⟨[0, 2], [], []⟩)]
noncomputable def bits_Len64.body : Code := bodyOf Tryd.f14
noncomputable def bits_Len64.K (fu : Nat) : Code → St → (Ex → St → Option (Int)) → Option (Int) := codeK Tryd.prog bits_Len64.cs bits_Len64.live fu
noncomputable def bits_Len64.p4 (m fu : Nat) (x0 : Int) (x2 : Int) : Option Int :=
  joinK m (bits_Len64.K fu (sub bits_Len64.body [true, true])) (stOf 25 [(0, .val (.int .u64 x0)), (2, .val (.int .i64 x2))] []) (retC Tryd.prog Tryd.f14.results bits_Len64.r.dec)
noncomputable def bits_Len64.p7 (m fu : Nat) (x0 : Int) (x2 : Int) : Option Int :=
  joinK m (bits_Len64.K fu (sub bits_Len64.body [true, true, true])) (stOf 25 [(0, .val (.int .u64 x0)), (2, .val (.int .i64 x2))] []) (retC Tryd.prog Tryd.f14.results bits_Len64.r.dec)
noncomputable def bits_Len64.p10 (m fu : Nat) (x0 : Int) (x2 : Int) : Option Int :=
  joinK m (bits_Len64.K fu (sub bits_Len64.body [true, true, true, true])) (stOf 25 [(0, .val (.int .u64 x0)), (2, .val (.int .i64 x2))] []) (retC Tryd.prog Tryd.f14.results bits_Len64.r.dec)
theorem bits_Len64.p10_eq (m fu : Nat) (x0 : Int) (x2 : Int) : bits_Len64.p10 (m + 1) fu x0 x2 =
  bif decide (0 ≤ (IntKind.u8.wrap x0)) then
    (((ByteArray.mk (List.toArray (List.append (List.append [0, 1, 2, 2, 3, 3, 3, 3, 4, 4, 4, 4, 4, 4, 4, 4, 5, 5, 5, 5, 5, 5, 5, 5, 5, 5, 5, 5, 5, 5, 5, 5, 6, 6, 6, 6, 6, 6, 6, 6, 6, 6, 6, 6, 6, 6, 6, 6, 6, 6, 6, 6, 6, 6, 6, 6, 6, 6, 6, 6, 6, 6, 6, 6] [7, 7, 7, 7, 7, 7, 7, 7, 7, 7, 7, 7, 7, 7, 7, 7, 7, 7, 7, 7, 7, 7, 7, 7, 7, 7, 7, 7, 7, 7, 7, 7, 7, 7, 7, 7, 7, 7, 7, 7, 7, 7, 7, 7, 7, 7, 7, 7, 7, 7, 7, 7, 7, 7, 7, 7, 7, 7, 7, 7, 7, 7, 7, 7]) (List.append [8, 8, 8, 8, 8, 8, 8, 8, 8, 8, 8, 8, 8, 8, 8, 8, 8, 8, 8, 8, 8, 8, 8, 8, 8, 8, 8, 8, 8, 8, 8, 8, 8, 8, 8, 8, 8, 8, 8, 8, 8, 8, 8, 8, 8, 8, 8, 8, 8, 8, 8, 8, 8, 8, 8, 8, 8, 8, 8, 8, 8, 8, 8, 8] [8, 8, 8, 8, 8, 8, 8, 8, 8, 8, 8, 8, 8, 8, 8, 8, 8, 8, 8, 8, 8, 8, 8, 8, 8, 8, 8, 8, 8, 8, 8, 8, 8, 8, 8, 8, 8, 8, 8, 8, 8, 8, 8, 8, 8, 8, 8, 8, 8, 8, 8, 8, 8, 8, 8, 8, 8, 8, 8, 8, 8, 8, 8, 8]))))[(IntKind.u8.wrap x0).toNat]? : Option UInt8)).bind fun u1 =>
    some (IntKind.i64.wrap (x2 + (IntKind.i64.wrap (u1.toNat : Int))))
  else
    none := by kernel_rfl
theorem bits_Len64.p7_eq (m fu : Nat) (x0 : Int) (x2 : Int) : bits_Len64.p7 (m + 1) fu x0 x2 =
  bif (decide (x0 ≥ 256)) then
    bits_Len64.p10 fu fu (shr .u64 x0 8) (IntKind.i64.wrap (x2 + 8))
  else
    bits_Len64.p10 fu fu x0 x2 := by kernel_rfl
theorem bits_Len64.p4_eq (m fu : Nat) (x0 : Int) (x2 : Int) : bits_Len64.p4 (m + 1) fu x0 x2 =
  bif (decide (x0 ≥ 65536)) then
    bits_Len64.p7 fu fu (shr .u64 x0 16) (IntKind.i64.wrap (x2 + 16))
  else
    bits_Len64.p7 fu fu x0 x2 := by kernel_rfl
noncomputable def bits_Len64.g (fu : Nat) (a0 : Int) : Option (Int) :=
  bif (decide (a0 ≥ 4294967296)) then
    bits_Len64.p4 fu fu (shr .u64 a0 32) 32
  else
    bits_Len64.p4 fu fu a0 0
noncomputable def bits_Len64.f (a0 : Int) : Option (Int) := bits_Len64.g (fuel0 + 1) a0
theorem bits_Len64.eq (fu : Nat) (a : Int × Unit) : bodyK Tryd.prog bits_Len64.cs bits_Len64.live fu Tryd.f14 (bits_Len64.a.enc a) bits_Len64.r.dec = bits_Len64.g fu a.1 := by kernel_rfl
theorem bits_Len64.con : ∀ (a : Int × Unit) (r : Int), bits_Len64.f a.1 = some r → Contract Tryd.prog 14 (bits_Len64.a.enc a) (bits_Len64.r.enc r) := Contract.of_body (F := fun (a : Int × Unit) => bits_Len64.f a.1) (fn := Tryd.f14) (cs := bits_Len64.cs) (live := bits_Len64.live) (fuel := fuel0 + 1) (by kernel_rfl) (by kernel_rfl) mixed (bits_Len64.eq (fuel0 + 1))
noncomputable def bits_Len64.c : Kn Tryd.prog := Kn.of 14 bits_Len64.a bits_Len64.r (fun a => bits_Len64.f a.1) bits_Len64.con

/-! ### bits_Highest: function 8 -/
def bits_Highest.a : ACods (Int × Unit) := (.cons (.val (.int .u64)) .nil)
def bits_Highest.r : RCod (Int) := .val (.int .i64)
noncomputable def bits_Highest.cs : List (Kn Tryd.prog) := [bits_Len64.c]
def bits_Highest.live : Nat → Option Keep := liveOf []
noncomputable def bits_Highest.body : Code := bodyOf Tryd.f8
noncomputable def bits_Highest.K (fu : Nat) : Code → St → (Ex → St → Option (Int)) → Option (Int) := codeK Tryd.prog bits_Highest.cs bits_Highest.live fu
noncomputable def bits_Highest.f (a0 : Int) : Option (Int) :=
  (bits_Len64.f a0).bind fun r1 =>
  some (IntKind.i64.wrap (r1 - 1))
theorem bits_Highest.eq (fu : Nat) (a : Int × Unit) : bodyK Tryd.prog bits_Highest.cs bits_Highest.live fu Tryd.f8 (bits_Highest.a.enc a) bits_Highest.r.dec = bits_Highest.f a.1 := by kernel_rfl
theorem bits_Highest.con : ∀ (a : Int × Unit) (r : Int), bits_Highest.f a.1 = some r → Contract Tryd.prog 8 (bits_Highest.a.enc a) (bits_Highest.r.enc r) := Contract.of_body (F := fun (a : Int × Unit) => bits_Highest.f a.1) (fn := Tryd.f8) (cs := bits_Highest.cs) (live := bits_Highest.live) (fuel := fuel0 + 1) (by kernel_rfl) (by kernel_rfl) mixed (bits_Highest.eq (fuel0 + 1))
noncomputable def bits_Highest.c : Kn Tryd.prog := Kn.of 8 bits_Highest.a bits_Highest.r (fun a => bits_Highest.f a.1) bits_Highest.con

/-! ### saturateref01_Highest: function 9 -/
def saturateref01_Highest.a : ACods (Int × Unit) := (.cons (.val (.int .u64)) .nil)
def saturateref01_Highest.r : RCod (Int) := .val (.int .i64)
noncomputable def saturateref01_Highest.cs : List (Kn Tryd.prog) := [saturateref01_Bit.c]
def saturateref01_Highest.live : Nat → Option Keep := liveOf [(5, ⟨[0, 3], [], []⟩)]
noncomputable def saturateref01_Highest.body : Code := bodyOf Tryd.f9
noncomputable def saturateref01_Highest.K (fu : Nat) : Code → St → (Ex → St → Option (Int)) → Option (Int) := codeK Tryd.prog saturateref01_Highest.cs saturateref01_Highest.live fu
noncomputable def saturateref01_Highest.j2 (fu : Nat) (n2 : Nat) (x0 : Int) (x3 : Int) : Option Int :=
  loopK (saturateref01_Highest.K fu (sub saturateref01_Highest.body [true, false, true, false, false])) (saturateref01_Highest.live 5) n2 (stOf 13 [(0, .val (.int .u64 x0)), (3, .val (.int .i64 x3))] []) (blockC 0 (seqC fu (saturateref01_Highest.live 12) (saturateref01_Highest.K fu (sub saturateref01_Highest.body [true, true])) (retC Tryd.prog Tryd.f9.results saturateref01_Highest.r.dec)))
theorem saturateref01_Highest.j2_succ (fu : Nat) (n2 : Nat) (x0 : Int) (x3 : Int) : saturateref01_Highest.j2 fu (n2 + 1) x0 x3 =
  bif (decide (x3 ≥ 0)) then
    (saturateref01_Bit.f x0 x3).bind fun r1 =>
    bif (r1 == 1) then
      some x3
    else
      saturateref01_Highest.j2 fu n2 x0 (IntKind.i64.wrap (x3 - 1))
  else
    some (-1) := by kernel_rfl
noncomputable def saturateref01_Highest.g (fu : Nat) (a0 : Int) : Option (Int) :=
  saturateref01_Highest.j2 fu fu a0 63
noncomputable def saturateref01_Highest.f (a0 : Int) : Option (Int) := saturateref01_Highest.g (fuel0 + 1) a0
theorem saturateref01_Highest.eq (fu : Nat) (a : Int × Unit) : bodyK Tryd.prog saturateref01_Highest.cs saturateref01_Highest.live fu Tryd.f9 (saturateref01_Highest.a.enc a) saturateref01_Highest.r.dec = saturateref01_Highest.g fu a.1 := by kernel_rfl
theorem saturateref01_Highest.con : ∀ (a : Int × Unit) (r : Int), saturateref01_Highest.f a.1 = some r → Contract Tryd.prog 9 (saturateref01_Highest.a.enc a) (saturateref01_Highest.r.enc r) := Contract.of_body (F := fun (a : Int × Unit) => saturateref01_Highest.f a.1) (fn := Tryd.f9) (cs := saturateref01_Highest.cs) (live := saturateref01_Highest.live) (fuel := fuel0 + 1) (by kernel_rfl) (by kernel_rfl) mixed (saturateref01_Highest.eq (fuel0 + 1))
noncomputable def saturateref01_Highest.c : Kn Tryd.prog := Kn.of 9 saturateref01_Highest.a saturateref01_Highest.r (fun a => saturateref01_Highest.f a.1) saturateref01_Highest.con

/-! ### bits_clamp: function 25 -/
def bits_clamp.a : ACods (Int × Unit) := (.cons (.val (.int .i64)) .nil)
def bits_clamp.r : RCod (Int) := .val (.int .i64)
noncomputable def bits_clamp.cs : List (Kn Tryd.prog) := []
def bits_clamp.live : Nat → Option Keep := liveOf []
noncomputable def bits_clamp.body : Code := bodyOf Tryd.f25
noncomputable def bits_clamp.K (fu : Nat) : Code → St → (Ex → St → Option (Int)) → Option (Int) := codeK Tryd.prog bits_clamp.cs bits_clamp.live fu
noncomputable def bits_clamp.f (a0 : Int) : Option (Int) :=
  some (mn (mx a0 1) 64)
theorem bits_clamp.eq (fu : Nat) (a : Int × Unit) : bodyK Tryd.prog bits_clamp.cs bits_clamp.live fu Tryd.f25 (bits_clamp.a.enc a) bits_clamp.r.dec = bits_clamp.f a.1 := by kernel_rfl
theorem bits_clamp.con : ∀ (a : Int × Unit) (r : Int), bits_clamp.f a.1 = some r → Contract Tryd.prog 25 (bits_clamp.a.enc a) (bits_clamp.r.enc r) := Contract.of_body (F := fun (a : Int × Unit) => bits_clamp.f a.1) (fn := Tryd.f25) (cs := bits_clamp.cs) (live := bits_clamp.live) (fuel := fuel0 + 1) (by kernel_rfl) (by kernel_rfl) mixed (bits_clamp.eq (fuel0 + 1))
noncomputable def bits_clamp.c : Kn Tryd.prog := Kn.of 25 bits_clamp.a bits_clamp.r (fun a => bits_clamp.f a.1) bits_clamp.con

/-! ### bits_Mask: function 21 -/
def bits_Mask.a : ACods (Int × Unit) := (.cons (.val (.int .i64)) .nil)
def bits_Mask.r : RCod (Int) := .val (.int .u64)
noncomputable def bits_Mask.cs : List (Kn Tryd.prog) := [bits_clamp.c]
def bits_Mask.live : Nat → Option Keep := liveOf []
noncomputable def bits_Mask.body : Code := bodyOf Tryd.f21
noncomputable def bits_Mask.K (fu : Nat) : Code → St → (Ex → St → Option (Int)) → Option (Int) := codeK Tryd.prog bits_Mask.cs bits_Mask.live fu
noncomputable def bits_Mask.f (a0 : Int) : Option (Int) :=
  (bits_clamp.f a0).bind fun r1 =>
  bif decide ((IntKind.i64.wrap (64 - r1)) < 0) then
    none
  else
    some (shr .u64 18446744073709551615 (IntKind.i64.wrap (64 - r1)))
theorem bits_Mask.eq (fu : Nat) (a : Int × Unit) : bodyK Tryd.prog bits_Mask.cs bits_Mask.live fu Tryd.f21 (bits_Mask.a.enc a) bits_Mask.r.dec = bits_Mask.f a.1 := by kernel_rfl
theorem bits_Mask.con : ∀ (a : Int × Unit) (r : Int), bits_Mask.f a.1 = some r → Contract Tryd.prog 21 (bits_Mask.a.enc a) (bits_Mask.r.enc r) := Contract.of_body (F := fun (a : Int × Unit) => bits_Mask.f a.1) (fn := Tryd.f21) (cs := bits_Mask.cs) (live := bits_Mask.live) (fuel := fuel0 + 1) (by kernel_rfl) (by kernel_rfl) mixed (bits_Mask.eq (fuel0 + 1))
noncomputable def bits_Mask.c : Kn Tryd.prog := Kn.of 21 bits_Mask.a bits_Mask.r (fun a => bits_Mask.f a.1) bits_Mask.con

/-! ### bits_Cut: function 20 -/
def bits_Cut.a : ACods (Int × Int × Unit) := (.cons (.val (.int .i64)) (.cons (.val (.int .u64)) .nil))
def bits_Cut.r : RCod (Int) := .val (.int .u64)
noncomputable def bits_Cut.cs : List (Kn Tryd.prog) := [bits_Mask.c]
def bits_Cut.live : Nat → Option Keep := liveOf []
noncomputable def bits_Cut.body : Code := bodyOf Tryd.f20
noncomputable def bits_Cut.K (fu : Nat) : Code → St → (Ex → St → Option (Int)) → Option (Int) := codeK Tryd.prog bits_Cut.cs bits_Cut.live fu
noncomputable def bits_Cut.f (a0 : Int) (a1 : Int) : Option (Int) :=
  (bits_Mask.f a0).bind fun r1 =>
  some (Go.bits .and .u64 a1 r1)
theorem bits_Cut.eq (fu : Nat) (a : Int × Int × Unit) : bodyK Tryd.prog bits_Cut.cs bits_Cut.live fu Tryd.f20 (bits_Cut.a.enc a) bits_Cut.r.dec = bits_Cut.f a.1 a.2.1 := by kernel_rfl
theorem bits_Cut.con : ∀ (a : Int × Int × Unit) (r : Int), bits_Cut.f a.1 a.2.1 = some r → Contract Tryd.prog 20 (bits_Cut.a.enc a) (bits_Cut.r.enc r) := Contract.of_body (F := fun (a : Int × Int × Unit) => bits_Cut.f a.1 a.2.1) (fn := Tryd.f20) (cs := bits_Cut.cs) (live := bits_Cut.live) (fuel := fuel0 + 1) (by kernel_rfl) (by kernel_rfl) mixed (bits_Cut.eq (fuel0 + 1))
noncomputable def bits_Cut.c : Kn Tryd.prog := Kn.of 20 bits_Cut.a bits_Cut.r (fun a => bits_Cut.f a.1 a.2.1) bits_Cut.con

/-! ### bits_Add: function 15 -/
def bits_Add.a : ACods (Int × Int × Int × Unit) := (.cons (.val (.int .i64)) (.cons (.val (.int .u64)) (.cons (.val (.int .u64)) .nil)))
def bits_Add.r : RCod (Int) := .val (.int .u64)
noncomputable def bits_Add.cs : List (Kn Tryd.prog) := [bits_Cut.c]
def bits_Add.live : Nat → Option Keep := liveOf []
noncomputable def bits_Add.body : Code := bodyOf Tryd.f15
noncomputable def bits_Add.K (fu : Nat) : Code → St → (Ex → St → Option (Int)) → Option (Int) := codeK Tryd.prog bits_Add.cs bits_Add.live fu
noncomputable def bits_Add.f (a0 : Int) (a1 : Int) (a2 : Int) : Option (Int) :=
  (bits_Cut.f a0 (IntKind.u64.wrap (a1 + a2))).bind fun r1 =>
  some r1
theorem bits_Add.eq (fu : Nat) (a : Int × Int × Int × Unit) : bodyK Tryd.prog bits_Add.cs bits_Add.live fu Tryd.f15 (bits_Add.a.enc a) bits_Add.r.dec = bits_Add.f a.1 a.2.1 a.2.2.1 := by kernel_rfl
theorem bits_Add.con : ∀ (a : Int × Int × Int × Unit) (r : Int), bits_Add.f a.1 a.2.1 a.2.2.1 = some r → Contract Tryd.prog 15 (bits_Add.a.enc a) (bits_Add.r.enc r) := Contract.of_body (F := fun (a : Int × Int × Int × Unit) => bits_Add.f a.1 a.2.1 a.2.2.1) (fn := Tryd.f15) (cs := bits_Add.cs) (live := bits_Add.live) (fuel := fuel0 + 1) (by kernel_rfl) (by kernel_rfl) mixed (bits_Add.eq (fuel0 + 1))
noncomputable def bits_Add.c : Kn Tryd.prog := Kn.of 15 bits_Add.a bits_Add.r (fun a => bits_Add.f a.1 a.2.1 a.2.2.1) bits_Add.con

/-! ### bits_Sub: function 16 -/
def bits_Sub.a : ACods (Int × Int × Int × Unit) := (.cons (.val (.int .i64)) (.cons (.val (.int .u64)) (.cons (.val (.int .u64)) .nil)))
def bits_Sub.r : RCod (Int) := .val (.int .u64)
noncomputable def bits_Sub.cs : List (Kn Tryd.prog) := [bits_Cut.c]
def bits_Sub.live : Nat → Option Keep := liveOf []
noncomputable def bits_Sub.body : Code := bodyOf Tryd.f16
noncomputable def bits_Sub.K (fu : Nat) : Code → St → (Ex → St → Option (Int)) → Option (Int) := codeK Tryd.prog bits_Sub.cs bits_Sub.live fu
noncomputable def bits_Sub.f (a0 : Int) (a1 : Int) (a2 : Int) : Option (Int) :=
  (bits_Cut.f a0 (IntKind.u64.wrap (a1 - a2))).bind fun r1 =>
  some r1
theorem bits_Sub.eq (fu : Nat) (a : Int × Int × Int × Unit) : bodyK Tryd.prog bits_Sub.cs bits_Sub.live fu Tryd.f16 (bits_Sub.a.enc a) bits_Sub.r.dec = bits_Sub.f a.1 a.2.1 a.2.2.1 := by kernel_rfl
theorem bits_Sub.con : ∀ (a : Int × Int × Int × Unit) (r : Int), bits_Sub.f a.1 a.2.1 a.2.2.1 = some r → Contract Tryd.prog 16 (bits_Sub.a.enc a) (bits_Sub.r.enc r) := Contract.of_body (F := fun (a : Int × Int × Int × Unit) => bits_Sub.f a.1 a.2.1 a.2.2.1) (fn := Tryd.f16) (cs := bits_Sub.cs) (live := bits_Sub.live) (fuel := fuel0 + 1) (by kernel_rfl) (by kernel_rfl) mixed (bits_Sub.eq (fuel0 + 1))
noncomputable def bits_Sub.c : Kn Tryd.prog := Kn.of 16 bits_Sub.a bits_Sub.r (fun a => bits_Sub.f a.1 a.2.1 a.2.2.1) bits_Sub.con

/-! ### bits_Udiv: function 17 -/
def bits_Udiv.a : ACods (Int × Int × Int × Unit) := (.cons (.val (.int .i64)) (.cons (.val (.int .u64)) (.cons (.val (.int .u64)) .nil)))
def bits_Udiv.r : RCod (Int) := .val (.int .u64)
noncomputable def bits_Udiv.cs : List (Kn Tryd.prog) := [bits_Cut.c, bits_Mask.c]
def bits_Udiv.live : Nat → Option Keep := liveOf []
noncomputable def bits_Udiv.body : Code := bodyOf Tryd.f17
noncomputable def bits_Udiv.K (fu : Nat) : Code → St → (Ex → St → Option (Int)) → Option (Int) := codeK Tryd.prog bits_Udiv.cs bits_Udiv.live fu
noncomputable def bits_Udiv.f (a0 : Int) (a1 : Int) (a2 : Int) : Option (Int) :=
  (bits_Cut.f a0 a1).bind fun r1 =>
  (bits_Cut.f a0 a2).bind fun r2 =>
  bif (r2 == 0) then
    (bits_Mask.f a0).bind fun r3 =>
    some r3
  else
    bif decide (r2 = 0) then
      none
    else
      some (IntKind.u64.wrap (Int.tdiv r1 r2))
theorem bits_Udiv.eq (fu : Nat) (a : Int × Int × Int × Unit) : bodyK Tryd.prog bits_Udiv.cs bits_Udiv.live fu Tryd.f17 (bits_Udiv.a.enc a) bits_Udiv.r.dec = bits_Udiv.f a.1 a.2.1 a.2.2.1 := by kernel_rfl
theorem bits_Udiv.con : ∀ (a : Int × Int × Int × Unit) (r : Int), bits_Udiv.f a.1 a.2.1 a.2.2.1 = some r → Contract Tryd.prog 17 (bits_Udiv.a.enc a) (bits_Udiv.r.enc r) := Contract.of_body (F := fun (a : Int × Int × Int × Unit) => bits_Udiv.f a.1 a.2.1 a.2.2.1) (fn := Tryd.f17) (cs := bits_Udiv.cs) (live := bits_Udiv.live) (fuel := fuel0 + 1) (by kernel_rfl) (by kernel_rfl) mixed (bits_Udiv.eq (fuel0 + 1))
noncomputable def bits_Udiv.c : Kn Tryd.prog := Kn.of 17 bits_Udiv.a bits_Udiv.r (fun a => bits_Udiv.f a.1 a.2.1 a.2.2.1) bits_Udiv.con

/-! ### bits_Signed: function 24 -/
def bits_Signed.a : ACods (Int × Int × Unit) := (.cons (.val (.int .i64)) (.cons (.val (.int .u64)) .nil))
def bits_Signed.r : RCod (Int) := .val (.int .i64)
noncomputable def bits_Signed.cs : List (Kn Tryd.prog) := [bits_clamp.c]
def bits_Signed.live : Nat → Option Keep := liveOf []
noncomputable def bits_Signed.body : Code := bodyOf Tryd.f24
noncomputable def bits_Signed.K (fu : Nat) : Code → St → (Ex → St → Option (Int)) → Option (Int) := codeK Tryd.prog bits_Signed.cs bits_Signed.live fu
noncomputable def bits_Signed.f (a0 : Int) (a1 : Int) : Option (Int) :=
  (bits_clamp.f a0).bind fun r1 =>
  bif decide ((IntKind.i64.wrap (64 - r1)) < 0) then
    none
  else
    bif decide ((IntKind.i64.wrap (64 - r1)) < 0) then
      none
    else
      some (shr .i64 (IntKind.i64.wrap (shl .u64 a1 (IntKind.i64.wrap (64 - r1)))) (IntKind.i64.wrap (64 - r1)))
theorem bits_Signed.eq (fu : Nat) (a : Int × Int × Unit) : bodyK Tryd.prog bits_Signed.cs bits_Signed.live fu Tryd.f24 (bits_Signed.a.enc a) bits_Signed.r.dec = bits_Signed.f a.1 a.2.1 := by kernel_rfl
theorem bits_Signed.con : ∀ (a : Int × Int × Unit) (r : Int), bits_Signed.f a.1 a.2.1 = some r → Contract Tryd.prog 24 (bits_Signed.a.enc a) (bits_Signed.r.enc r) := Contract.of_body (F := fun (a : Int × Int × Unit) => bits_Signed.f a.1 a.2.1) (fn := Tryd.f24) (cs := bits_Signed.cs) (live := bits_Signed.live) (fuel := fuel0 + 1) (by kernel_rfl) (by kernel_rfl) mixed (bits_Signed.eq (fuel0 + 1))
noncomputable def bits_Signed.c : Kn Tryd.prog := Kn.of 24 bits_Signed.a bits_Signed.r (fun a => bits_Signed.f a.1 a.2.1) bits_Signed.con

/-! ### bits_shift: function 22 -/
def bits_shift.a : ACods (Int × Int × Int × Int × Unit) := (.cons (.val (.int .i64)) (.cons (.val (.int .i64)) (.cons (.val (.int .u64)) (.cons (.val (.int .u64)) .nil))))
def bits_shift.r : RCod (Int) := .val (.int .u64)
noncomputable def bits_shift.cs : List (Kn Tryd.prog) := [bits_Cut.c, bits_clamp.c, bits_Signed.c, bits_Mask.c]
def bits_shift.live : Nat → Option Keep := liveOf [(20, ⟨[9, 10, 11], [], []⟩)]
noncomputable def bits_shift.body : Code := bodyOf Tryd.f22
noncomputable def bits_shift.K (fu : Nat) : Code → St → (Ex → St → Option (Int)) → Option (Int) := codeK Tryd.prog bits_shift.cs bits_shift.live fu
noncomputable def bits_shift.p10 (m fu : Nat) (x9 : Int) (x10 : Int) (x11 : Bool) : Option Int :=
  joinK m (bits_shift.K fu (sub bits_shift.body [true, true, true, false, true, false, true])) (stOf 53 [(9, .val (.int .u64 x9)), (10, .val (.int .u64 x10)), (11, .val (.bool x11))] []) (blockC 0 (seqC fu (bits_shift.live 26) (bits_shift.K fu (sub bits_shift.body [true, true, true, true])) (retC Tryd.prog Tryd.f22.results bits_shift.r.dec)))
theorem bits_shift.p10_eq (m fu : Nat) (x9 : Int) (x10 : Int) (x11 : Bool) : bits_shift.p10 (m + 1) fu x9 x10 x11 =
  bif x11 then
    some 0
  else
    bif decide (x10 < 0) then
      none
    else
      some (shr .u64 x9 x10) := by kernel_rfl
noncomputable def bits_shift.g (fu : Nat) (a0 : Int) (a1 : Int) (a2 : Int) (a3 : Int) : Option (Int) :=
  (bits_Cut.f a1 a2).bind fun r1 =>
  (bits_Cut.f a1 a3).bind fun r2 =>
  (bits_clamp.f a1).bind fun r3 =>
  bif (a0 == 2) then
    (bits_Signed.f a1 r1).bind fun r4 =>
    bif (decide (r4 < 0)) then
      bif (decide (r2 ≥ (IntKind.u64.wrap r3))) then
        (bits_Mask.f a1).bind fun r5 =>
        some r5
      else
        (bits_Signed.f a1 r1).bind fun r6 =>
        bif decide (r2 < 0) then
          none
        else
          (bits_Cut.f a1 (IntKind.u64.wrap (shr .i64 r6 r2))).bind fun r7 =>
          some r7
    else
      bits_shift.p10 fu fu r1 r2 (decide (r2 ≥ (IntKind.u64.wrap r3)))
  else
    bif (a0 == 1) then
      bits_shift.p10 fu fu r1 r2 (decide (r2 ≥ (IntKind.u64.wrap r3)))
    else
      bif (decide (r2 ≥ (IntKind.u64.wrap r3))) then
        some 0
      else
        bif decide (r2 < 0) then
          none
        else
          (bits_Cut.f a1 (shl .u64 r1 r2)).bind fun r8 =>
          some r8
noncomputable def bits_shift.f (a0 : Int) (a1 : Int) (a2 : Int) (a3 : Int) : Option (Int) := bits_shift.g (fuel0 + 1) a0 a1 a2 a3
theorem bits_shift.eq (fu : Nat) (a : Int × Int × Int × Int × Unit) : bodyK Tryd.prog bits_shift.cs bits_shift.live fu Tryd.f22 (bits_shift.a.enc a) bits_shift.r.dec = bits_shift.g fu a.1 a.2.1 a.2.2.1 a.2.2.2.1 := by kernel_rfl
theorem bits_shift.con : ∀ (a : Int × Int × Int × Int × Unit) (r : Int), bits_shift.f a.1 a.2.1 a.2.2.1 a.2.2.2.1 = some r → Contract Tryd.prog 22 (bits_shift.a.enc a) (bits_shift.r.enc r) := Contract.of_body (F := fun (a : Int × Int × Int × Int × Unit) => bits_shift.f a.1 a.2.1 a.2.2.1 a.2.2.2.1) (fn := Tryd.f22) (cs := bits_shift.cs) (live := bits_shift.live) (fuel := fuel0 + 1) (by kernel_rfl) (by kernel_rfl) mixed (bits_shift.eq (fuel0 + 1))
noncomputable def bits_shift.c : Kn Tryd.prog := Kn.of 22 bits_shift.a bits_shift.r (fun a => bits_shift.f a.1 a.2.1 a.2.2.1 a.2.2.2.1) bits_shift.con

/-! ### bits_Ashr: function 18 -/
def bits_Ashr.a : ACods (Int × Int × Int × Unit) := (.cons (.val (.int .i64)) (.cons (.val (.int .u64)) (.cons (.val (.int .u64)) .nil)))
def bits_Ashr.r : RCod (Int) := .val (.int .u64)
noncomputable def bits_Ashr.cs : List (Kn Tryd.prog) := [bits_shift.c]
def bits_Ashr.live : Nat → Option Keep := liveOf []
noncomputable def bits_Ashr.body : Code := bodyOf Tryd.f18
noncomputable def bits_Ashr.K (fu : Nat) : Code → St → (Ex → St → Option (Int)) → Option (Int) := codeK Tryd.prog bits_Ashr.cs bits_Ashr.live fu
noncomputable def bits_Ashr.f (a0 : Int) (a1 : Int) (a2 : Int) : Option (Int) :=
  (bits_shift.f 2 a0 a1 a2).bind fun r1 =>
  some r1
theorem bits_Ashr.eq (fu : Nat) (a : Int × Int × Int × Unit) : bodyK Tryd.prog bits_Ashr.cs bits_Ashr.live fu Tryd.f18 (bits_Ashr.a.enc a) bits_Ashr.r.dec = bits_Ashr.f a.1 a.2.1 a.2.2.1 := by kernel_rfl
theorem bits_Ashr.con : ∀ (a : Int × Int × Int × Unit) (r : Int), bits_Ashr.f a.1 a.2.1 a.2.2.1 = some r → Contract Tryd.prog 18 (bits_Ashr.a.enc a) (bits_Ashr.r.enc r) := Contract.of_body (F := fun (a : Int × Int × Int × Unit) => bits_Ashr.f a.1 a.2.1 a.2.2.1) (fn := Tryd.f18) (cs := bits_Ashr.cs) (live := bits_Ashr.live) (fuel := fuel0 + 1) (by kernel_rfl) (by kernel_rfl) mixed (bits_Ashr.eq (fuel0 + 1))
noncomputable def bits_Ashr.c : Kn Tryd.prog := Kn.of 18 bits_Ashr.a bits_Ashr.r (fun a => bits_Ashr.f a.1 a.2.1 a.2.2.1) bits_Ashr.con

/-! ### bits_flag: function 23 -/
def bits_flag.a : ACods (Bool × Unit) := (.cons (.val (.bool)) .nil)
def bits_flag.r : RCod (Int) := .val (.int .u64)
noncomputable def bits_flag.cs : List (Kn Tryd.prog) := []
def bits_flag.live : Nat → Option Keep := liveOf []
noncomputable def bits_flag.body : Code := bodyOf Tryd.f23
noncomputable def bits_flag.K (fu : Nat) : Code → St → (Ex → St → Option (Int)) → Option (Int) := codeK Tryd.prog bits_flag.cs bits_flag.live fu
noncomputable def bits_flag.f (a0 : Bool) : Option (Int) :=
  bif a0 then
    some 1
  else
    some 0
theorem bits_flag.eq (fu : Nat) (a : Bool × Unit) : bodyK Tryd.prog bits_flag.cs bits_flag.live fu Tryd.f23 (bits_flag.a.enc a) bits_flag.r.dec = bits_flag.f a.1 := by kernel_rfl
theorem bits_flag.con : ∀ (a : Bool × Unit) (r : Int), bits_flag.f a.1 = some r → Contract Tryd.prog 23 (bits_flag.a.enc a) (bits_flag.r.enc r) := Contract.of_body (F := fun (a : Bool × Unit) => bits_flag.f a.1) (fn := Tryd.f23) (cs := bits_flag.cs) (live := bits_flag.live) (fuel := fuel0 + 1) (by kernel_rfl) (by kernel_rfl) mixed (bits_flag.eq (fuel0 + 1))
noncomputable def bits_flag.c : Kn Tryd.prog := Kn.of 23 bits_flag.a bits_flag.r (fun a => bits_flag.f a.1) bits_flag.con

/-! ### bits_Slt: function 19 -/
def bits_Slt.a : ACods (Int × Int × Int × Unit) := (.cons (.val (.int .i64)) (.cons (.val (.int .u64)) (.cons (.val (.int .u64)) .nil)))
def bits_Slt.r : RCod (Int) := .val (.int .u64)
noncomputable def bits_Slt.cs : List (Kn Tryd.prog) := [bits_Signed.c, bits_flag.c]
def bits_Slt.live : Nat → Option Keep := liveOf []
noncomputable def bits_Slt.body : Code := bodyOf Tryd.f19
noncomputable def bits_Slt.K (fu : Nat) : Code → St → (Ex → St → Option (Int)) → Option (Int) := codeK Tryd.prog bits_Slt.cs bits_Slt.live fu
noncomputable def bits_Slt.f (a0 : Int) (a1 : Int) (a2 : Int) : Option (Int) :=
  (bits_Signed.f a0 a1).bind fun r1 =>
  (bits_Signed.f a0 a2).bind fun r2 =>
  (bits_flag.f (decide (r1 < r2))).bind fun r3 =>
  some r3
theorem bits_Slt.eq (fu : Nat) (a : Int × Int × Int × Unit) : bodyK Tryd.prog bits_Slt.cs bits_Slt.live fu Tryd.f19 (bits_Slt.a.enc a) bits_Slt.r.dec = bits_Slt.f a.1 a.2.1 a.2.2.1 := by kernel_rfl
theorem bits_Slt.con : ∀ (a : Int × Int × Int × Unit) (r : Int), bits_Slt.f a.1 a.2.1 a.2.2.1 = some r → Contract Tryd.prog 19 (bits_Slt.a.enc a) (bits_Slt.r.enc r) := Contract.of_body (F := fun (a : Int × Int × Int × Unit) => bits_Slt.f a.1 a.2.1 a.2.2.1) (fn := Tryd.f19) (cs := bits_Slt.cs) (live := bits_Slt.live) (fuel := fuel0 + 1) (by kernel_rfl) (by kernel_rfl) mixed (bits_Slt.eq (fuel0 + 1))
noncomputable def bits_Slt.c : Kn Tryd.prog := Kn.of 19 bits_Slt.a bits_Slt.r (fun a => bits_Slt.f a.1 a.2.1 a.2.2.1) bits_Slt.con

/-! ### saturatelaw01_lives: function 10 -/
def saturatelaw01_lives.a : ACods (Unit) := .nil
def saturatelaw01_lives.r : RCod (Bool) := .val (.bool)
noncomputable def saturatelaw01_lives.cs : List (Kn Tryd.prog) := [bits_Add.c, bits_Sub.c, bits_Udiv.c, bits_Ashr.c, bits_Slt.c]
def saturatelaw01_lives.live : Nat → Option Keep := liveOf []
noncomputable def saturatelaw01_lives.body : Code := bodyOf Tryd.f10
noncomputable def saturatelaw01_lives.K (fu : Nat) : Code → St → (Ex → St → Option (Bool)) → Option (Bool) := codeK Tryd.prog saturatelaw01_lives.cs saturatelaw01_lives.live fu
noncomputable def saturatelaw01_lives.f : Option (Bool) :=
  (bits_Add.f 4 9 9).bind fun r1 =>
  bif (r1 == 2) then
    (bits_Sub.f 4 1 2).bind fun r2 =>
    bif (r2 == 15) then
      (bits_Udiv.f 4 7 0).bind fun r3 =>
      bif (r3 == 15) then
        (bits_Ashr.f 4 8 1).bind fun r4 =>
        bif (r4 == 12) then
          (bits_Slt.f 4 15 0).bind fun r5 =>
          some (r5 == 1)
        else
          some false
      else
        some false
    else
      some false
  else
    some false
theorem saturatelaw01_lives.eq (fu : Nat) (a : Unit) : bodyK Tryd.prog saturatelaw01_lives.cs saturatelaw01_lives.live fu Tryd.f10 (saturatelaw01_lives.a.enc a) saturatelaw01_lives.r.dec = saturatelaw01_lives.f := by kernel_rfl
theorem saturatelaw01_lives.con : ∀ (a : Unit) (r : Bool), saturatelaw01_lives.f = some r → Contract Tryd.prog 10 (saturatelaw01_lives.a.enc a) (saturatelaw01_lives.r.enc r) := Contract.of_body (F := fun (a : Unit) => saturatelaw01_lives.f) (fn := Tryd.f10) (cs := saturatelaw01_lives.cs) (live := saturatelaw01_lives.live) (fuel := fuel0 + 1) (by kernel_rfl) (by kernel_rfl) mixed (saturatelaw01_lives.eq (fuel0 + 1))
noncomputable def saturatelaw01_lives.c : Kn Tryd.prog := Kn.of 10 saturatelaw01_lives.a saturatelaw01_lives.r (fun a => saturatelaw01_lives.f) saturatelaw01_lives.con

/-! ### saturatelaw01_BitsCounts: function 3 -/
def saturatelaw01_BitsCounts.a : ACods (Int × Unit) := (.cons (.val (.int .u64)) .nil)
def saturatelaw01_BitsCounts.r : RCod (Bool) := .val (.bool)
noncomputable def saturatelaw01_BitsCounts.cs : List (Kn Tryd.prog) := [bits_Count.c, saturateref01_Count.c, bits_Lowest.c, saturateref01_Lowest.c, bits_Highest.c, saturateref01_Highest.c, saturatelaw01_lives.c]
def saturatelaw01_BitsCounts.live : Nat → Option Keep := liveOf []
noncomputable def saturatelaw01_BitsCounts.body : Code := bodyOf Tryd.f3
noncomputable def saturatelaw01_BitsCounts.K (fu : Nat) : Code → St → (Ex → St → Option (Bool)) → Option (Bool) := codeK Tryd.prog saturatelaw01_BitsCounts.cs saturatelaw01_BitsCounts.live fu
noncomputable def saturatelaw01_BitsCounts.f (a0 : Int) : Option (Bool) :=
  (bits_Count.f a0).bind fun r1 =>
  (saturateref01_Count.f a0).bind fun r2 =>
  bif (r1 == r2) then
    (bits_Lowest.f a0).bind fun r3 =>
    (saturateref01_Lowest.f a0).bind fun r4 =>
    bif (r3 == r4) then
      (bits_Highest.f a0).bind fun r5 =>
      (saturateref01_Highest.f a0).bind fun r6 =>
      bif (r5 == r6) then
        (saturatelaw01_lives.f).bind fun r7 =>
        some r7
      else
        some false
    else
      some false
  else
    some false
theorem saturatelaw01_BitsCounts.eq (fu : Nat) (a : Int × Unit) : bodyK Tryd.prog saturatelaw01_BitsCounts.cs saturatelaw01_BitsCounts.live fu Tryd.f3 (saturatelaw01_BitsCounts.a.enc a) saturatelaw01_BitsCounts.r.dec = saturatelaw01_BitsCounts.f a.1 := by kernel_rfl
theorem saturatelaw01_BitsCounts.con : ∀ (a : Int × Unit) (r : Bool), saturatelaw01_BitsCounts.f a.1 = some r → Contract Tryd.prog 3 (saturatelaw01_BitsCounts.a.enc a) (saturatelaw01_BitsCounts.r.enc r) := Contract.of_body (F := fun (a : Int × Unit) => saturatelaw01_BitsCounts.f a.1) (fn := Tryd.f3) (cs := saturatelaw01_BitsCounts.cs) (live := saturatelaw01_BitsCounts.live) (fuel := fuel0 + 1) (by kernel_rfl) (by kernel_rfl) mixed (saturatelaw01_BitsCounts.eq (fuel0 + 1))
noncomputable def saturatelaw01_BitsCounts.c : Kn Tryd.prog := Kn.of 3 saturatelaw01_BitsCounts.a saturatelaw01_BitsCounts.r (fun a => saturatelaw01_BitsCounts.f a.1) saturatelaw01_BitsCounts.con
end Go.Proofs.YtnagfkdgangikaaDoor.Fn
