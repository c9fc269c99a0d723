/- What the functions return, as the evaluator tells it: written by a program of this workplace (mev.py); Lean checks each equation. What the functions return, as the evaluator tells it: written by a program of this workplace (mev.py); Lean checks each equation. -/
import Derived.Test.YtcihbcffokjgjaaGreatProg
import Derived.Test.YtcihbcffokjgjaaGreatTEvC
import Derived.Test.YtcihbcffokjgjaaGreatTF0
import Derived.Test.YtcihbcffokjgjaaGreatTF3
import Derived.Test.YtcihbcffokjgjaaGreatTF9
import Derived.Test.YtcihbcffokjgjaaGreatTF12
namespace Go.Proofs.YtcihbcffokjgjaaGreat.Fn
open Go Go.RowKit Go.Proofs.YtcihbcffokjgjaaGreat.Ev Go.Proofs
set_option linter.unusedVariables false
set_option maxRecDepth 100000
def saturateref06_count.a : ACods (Tm × Int × Int × Unit) := (.cons .tm (.cons (.val (.int .i64)) (.cons (.val (.int .i64)) .nil)))
def saturateref06_count.r : RCod (Int) := .val (.int .i64)
noncomputable def saturateref06_count.cs (rec : Tm × Int × Int × Unit → Option (Int)) (hrec : Con Tryz.prog 115 saturateref06_count.a saturateref06_count.r rec) : List (Kn Tryz.prog) := [Kn.of 115 saturateref06_count.a saturateref06_count.r rec hrec.c]
def saturateref06_count.live : Nat → Option Keep := liveOf [(11, ⟨[1, 2, 3, 7], [3], [], [], []⟩), (16, ⟨[2], [], [], [], []⟩)]
noncomputable def saturateref06_count.body : Code := bodyOf Tryz.f115
noncomputable def saturateref06_count.K (rec : Tm × Int × Int × Unit → Option (Int)) (hrec : Con Tryz.prog 115 saturateref06_count.a saturateref06_count.r rec) (fu : Nat) : Code → St → (Ex → St → Option (Int)) → Option (Int) := codeK Tryz.prog (saturateref06_count.cs rec hrec) saturateref06_count.live fu
noncomputable def saturateref06_count.j5 (rec : Tm × Int × Int × Unit → Option (Int)) (hrec : Con Tryz.prog 115 saturateref06_count.a saturateref06_count.r rec) (fu n5 : Nat) (x1 x2 x7 c3_0 c3_1 c3_2 : Int) (c3_3 : ByteArray) (c3_4l : List Tm) : Option Int :=
  loopK (saturateref06_count.K rec hrec fu (sub saturateref06_count.body [true, true, true, false, true, false, false])) (saturateref06_count.live 11) n5 (stOfX 37 42 [(1, .val (.int .i64 x1)), (2, .val (.int .i64 x2)), (3, .ptr 3 0 0 0), (7, .val (.int .i64 x7))] [(3, .own [.val (.int .i64 c3_0), .val (.int .i64 c3_1), .val (.int .u64 c3_2), .val (.string c3_3), .tsl c3_4l])]) (blockC 0 (seqC fu (saturateref06_count.live 16) (saturateref06_count.K rec hrec fu (sub saturateref06_count.body [true, true, true, true])) (retC Tryz.prog Tryz.f115.results saturateref06_count.r.dec)))
noncomputable def saturateref06_count.p8 (rec : Tm × Int × Int × Unit → Option (Int)) (hrec : Con Tryz.prog 115 saturateref06_count.a saturateref06_count.r rec) (m fu : Nat) (x2 : Int) : Option Int :=
  joinK m (saturateref06_count.K rec hrec fu (sub saturateref06_count.body [true, true, true, true])) (stOfX 37 42 [(2, .val (.int .i64 x2))] []) (retC Tryz.prog Tryz.f115.results saturateref06_count.r.dec)
theorem saturateref06_count.p8_eq (rec : Tm × Int × Int × Unit → Option (Int)) (hrec : Con Tryz.prog 115 saturateref06_count.a saturateref06_count.r rec) (m fu : Nat) (x2 : Int) : saturateref06_count.p8 rec hrec (m + 1) fu x2 =
  some x2 := by kernel_rfl
theorem saturateref06_count.j5_succ (rec : Tm × Int × Int × Unit → Option (Int)) (hrec : Con Tryz.prog 115 saturateref06_count.a saturateref06_count.r rec) (fu n5 : Nat) (x1 x2 x7 c3_0 c3_1 c3_2 : Int) (c3_3 : ByteArray) (c3_4l : List Tm) : saturateref06_count.j5 rec hrec fu (n5 + 1) x1 x2 x7 c3_0 c3_1 c3_2 c3_3 c3_4l =
  bif (decide (x7 < (c3_4l.length : Int))) then
    bif (decide (x2 ≥ 0)) then
      bif decide (0 ≤ x7) then
        bif decide (x7 < (c3_4l.length : Int)) then
          ((c3_4l[x7.toNat]? : Option Tm)).bind fun u1 =>
          (rec ((Tm.mk u1.op u1.width u1.val u1.name u1.kids), (IntKind.i64.wrap (x1 - 1)), x2, ())).bind fun r2 =>
          saturateref06_count.j5 rec hrec fu n5 x1 r2 (IntKind.i64.wrap (x7 + 1)) c3_0 c3_1 c3_2 c3_3 c3_4l
        else
          none
      else
        none
    else
      saturateref06_count.p8 rec hrec fu fu x2
  else
    saturateref06_count.p8 rec hrec fu fu x2 := by kernel_rfl
noncomputable def saturateref06_count.g (rec : Tm × Int × Int × Unit → Option (Int)) (hrec : Con Tryz.prog 115 saturateref06_count.a saturateref06_count.r rec) (fu : Nat) (a0 : Tm) (a1 a2 : Int) : Option (Int) :=
  bif (decide (a1 < 1)) then
    some (-1)
  else
    bif (decide (a2 < 1)) then
      some (-1)
    else
      saturateref06_count.j5 rec hrec fu fu a1 (IntKind.i64.wrap (a2 - 1)) 0 a0.op a0.width a0.val a0.name a0.kids
theorem saturateref06_count.eq (rec : Tm × Int × Int × Unit → Option (Int)) (hrec : Con Tryz.prog 115 saturateref06_count.a saturateref06_count.r rec) (fu : Nat) (a : Tm × Int × Int × Unit) : bodyK Tryz.prog (saturateref06_count.cs rec hrec) saturateref06_count.live fu Tryz.f115 (saturateref06_count.a.enc a) saturateref06_count.r.dec = saturateref06_count.g rec hrec fu a.1 a.2.1 a.2.2.1 := by kernel_rfl
theorem saturateref06_count.con1 (rec : Tm × Int × Int × Unit → Option (Int)) (hrec : Con Tryz.prog 115 saturateref06_count.a saturateref06_count.r rec) : ∀ (a : Tm × Int × Int × Unit) (r : Int), saturateref06_count.g rec hrec (fuel0 + 1) a.1 a.2.1 a.2.2.1 = some r → Contract Tryz.prog 115 (saturateref06_count.a.enc a) (saturateref06_count.r.enc r) := Contract.of_body (by kernel_rfl) (by kernel_rfl) mixed (saturateref06_count.eq rec hrec (fuel0 + 1))
noncomputable def saturateref06_count.FC : Nat → { F : Tm × Int × Int × Unit → Option (Int) // Con Tryz.prog 115 saturateref06_count.a saturateref06_count.r F }
  | 0 => ⟨fun _ => none, ⟨fun _ _ h => (by cases h)⟩⟩
  | n + 1 => ⟨fun a => saturateref06_count.g (saturateref06_count.FC n).1 (saturateref06_count.FC n).2 (fuel0 + 1) a.1 a.2.1 a.2.2.1, ⟨saturateref06_count.con1 (saturateref06_count.FC n).1 (saturateref06_count.FC n).2⟩⟩
noncomputable def saturateref06_count.f (a0 : Tm) (a1 a2 : Int) : Option (Int) := (saturateref06_count.FC deep0).1 (a0, a1, a2, ())
theorem saturateref06_count.con (a : Tm × Int × Int × Unit) (r : Int) (h : saturateref06_count.f a.1 a.2.1 a.2.2.1 = some r) : Contract Tryz.prog 115 (saturateref06_count.a.enc a) (saturateref06_count.r.enc r) := (saturateref06_count.FC deep0).2.c a r h
noncomputable def saturateref06_count.c : Kn Tryz.prog := Kn.of 115 saturateref06_count.a saturateref06_count.r (fun a => saturateref06_count.f a.1 a.2.1 a.2.2.1) saturateref06_count.con
def saturateref06_Light.a : ACods (Tm × Int × Int × Unit) := (.cons .tm (.cons (.val (.int .i64)) (.cons (.val (.int .i64)) .nil)))
def saturateref06_Light.r : RCod (Tm × Bool) := .tup (.cons .tm (.one (.val (.bool))))
noncomputable def saturateref06_Light.cs : List (Kn Tryz.prog) := [saturateref06_count.c]
def saturateref06_Light.live : Nat → Option Keep := liveOf []
noncomputable def saturateref06_Light.f (a0 : Tm) (a1 a2 : Int) : Option (Tm × Bool) :=
  (saturateref06_count.f (Tm.mk a0.op a0.width a0.val a0.name a0.kids) a1 a2).bind fun r1 =>
  bif (decide (r1 < 0)) then
    some ((Tm.mk 0 0 0 (ByteArray.mk #[]) []), false)
  else
    some ((Tm.mk a0.op a0.width a0.val a0.name a0.kids), true)
theorem saturateref06_Light.eq (fu : Nat) (a : Tm × Int × Int × Unit) : bodyK Tryz.prog saturateref06_Light.cs saturateref06_Light.live fu Tryz.f44 (saturateref06_Light.a.enc a) saturateref06_Light.r.dec = saturateref06_Light.f a.1 a.2.1 a.2.2.1 := by kernel_rfl
theorem saturateref06_Light.con : ∀ (a : Tm × Int × Int × Unit) (r : Tm × Bool), saturateref06_Light.f a.1 a.2.1 a.2.2.1 = some r → Contract Tryz.prog 44 (saturateref06_Light.a.enc a) (saturateref06_Light.r.enc r) := Contract.of_body (by kernel_rfl) (by kernel_rfl) mixed (saturateref06_Light.eq (fuel0 + 1))
noncomputable def saturateref06_Light.c : Kn Tryz.prog := Kn.of 44 saturateref06_Light.a saturateref06_Light.r (fun a => saturateref06_Light.f a.1 a.2.1 a.2.2.1) saturateref06_Light.con
def saturatelaw14_light.a : ACods (Tm × Unit) := (.cons .tm .nil)
def saturatelaw14_light.r : RCod (Bool) := .val (.bool)
noncomputable def saturatelaw14_light.cs : List (Kn Tryz.prog) := [saturateref06_Light.c]
def saturatelaw14_light.live : Nat → Option Keep := liveOf []
noncomputable def saturatelaw14_light.f (a0 : Tm) : Option (Bool) :=
  (saturateref06_Light.f (Tm.mk a0.op a0.width a0.val a0.name a0.kids) 20 60).bind fun r1 =>
  some r1.2
theorem saturatelaw14_light.eq (fu : Nat) (a : Tm × Unit) : bodyK Tryz.prog saturatelaw14_light.cs saturatelaw14_light.live fu Tryz.f12 (saturatelaw14_light.a.enc a) saturatelaw14_light.r.dec = saturatelaw14_light.f a.1 := by kernel_rfl
theorem saturatelaw14_light.con : ∀ (a : Tm × Unit) (r : Bool), saturatelaw14_light.f a.1 = some r → Contract Tryz.prog 12 (saturatelaw14_light.a.enc a) (saturatelaw14_light.r.enc r) := Contract.of_body (by kernel_rfl) (by kernel_rfl) mixed (saturatelaw14_light.eq (fuel0 + 1))
noncomputable def saturatelaw14_light.c : Kn Tryz.prog := Kn.of 12 saturatelaw14_light.a saturatelaw14_light.r (fun a => saturatelaw14_light.f a.1) saturatelaw14_light.con
def saturateref06_Name.a : ACods (ByteArray × Unit) := (.cons (.val (.str)) .nil)
def saturateref06_Name.r : RCod (Bool) := .val (.bool)
noncomputable def saturateref06_Name.cs : List (Kn Tryz.prog) := []
def saturateref06_Name.live : Nat → Option Keep := liveOf [(9, ⟨[0, 3], [], [], [], []⟩), (10, ⟨[0, 3], [], [], [], []⟩)]
noncomputable def saturateref06_Name.body : Code := bodyOf Tryz.f227
noncomputable def saturateref06_Name.K (fu : Nat) : Code → St → (Ex → St → Option (Bool)) → Option (Bool) := codeK Tryz.prog (saturateref06_Name.cs) saturateref06_Name.live fu
noncomputable def saturateref06_Name.j4 (fu n4 : Nat) (x0 : ByteArray) (x3 : Int) : Option Bool :=
  loopK (saturateref06_Name.K fu (sub saturateref06_Name.body [true, true, false, true, false, false])) (saturateref06_Name.live 9) n4 (stOf 56 [(0, .val (.string x0)), (3, .val (.int .i64 x3))] []) (blockC 0 (seqC fu (saturateref06_Name.live 16) (saturateref06_Name.K fu (sub saturateref06_Name.body [true, true, true])) (retC Tryz.prog Tryz.f227.results saturateref06_Name.r.dec)))
noncomputable def saturateref06_Name.p5 (m fu : Nat) (n4 : Nat) (x0 : ByteArray) (x3 : Int) : Option Bool :=
  joinK m (saturateref06_Name.K fu (sub saturateref06_Name.body [true, true, false, true, false, false, true, true])) (stOf 56 [(0, .val (.string x0)), (3, .val (.int .i64 x3))] []) (roundC (saturateref06_Name.live 9) (loopK (saturateref06_Name.K fu (sub saturateref06_Name.body [true, true, false, true, false, false])) (saturateref06_Name.live 9) n4) (blockC 0 (seqC fu (saturateref06_Name.live 16) (saturateref06_Name.K fu (sub saturateref06_Name.body [true, true, true])) (retC Tryz.prog Tryz.f227.results saturateref06_Name.r.dec))))
theorem saturateref06_Name.p5_eq (m fu : Nat) (n4 : Nat) (x0 : ByteArray) (x3 : Int) : saturateref06_Name.p5 (m + 1) fu n4 x0 x3 =
  saturateref06_Name.j4 fu n4 x0 (IntKind.i64.wrap (x3 + 1)) := by kernel_rfl
theorem saturateref06_Name.j4_succ (fu n4 : Nat) (x0 : ByteArray) (x3 : Int) : saturateref06_Name.j4 fu (n4 + 1) x0 x3 =
  bif (decide (x3 < (x0.size : Int))) then
    bif decide (0 ≤ x3) then
      ((x0[x3.toNat]? : Option UInt8)).bind fun u3 =>
      bif (decide ((u3.toNat : Int) < 97)) then
        bif decide (0 ≤ x3) then
          ((x0[x3.toNat]? : Option UInt8)).bind fun u4 =>
          bif (decide ((u4.toNat : Int) < 48)) then
            bif decide (0 ≤ x3) then
              ((x0[x3.toNat]? : Option UInt8)).bind fun u5 =>
              bif ((u5.toNat : Int) != 95) then
                some false
              else
                saturateref06_Name.p5 fu fu n4 x0 x3
            else
              none
          else
            bif decide (0 ≤ x3) then
              ((x0[x3.toNat]? : Option UInt8)).bind fun u6 =>
              bif (decide ((u6.toNat : Int) > 57)) then
                bif decide (0 ≤ x3) then
                  ((x0[x3.toNat]? : Option UInt8)).bind fun u7 =>
                  bif ((u7.toNat : Int) != 95) then
                    some false
                  else
                    saturateref06_Name.p5 fu fu n4 x0 x3
                else
                  none
              else
                saturateref06_Name.p5 fu fu n4 x0 x3
            else
              none
        else
          none
      else
        bif decide (0 ≤ x3) then
          ((x0[x3.toNat]? : Option UInt8)).bind fun u8 =>
          bif (decide ((u8.toNat : Int) > 122)) then
            bif decide (0 ≤ x3) then
              ((x0[x3.toNat]? : Option UInt8)).bind fun u9 =>
              bif (decide ((u9.toNat : Int) < 48)) then
                bif decide (0 ≤ x3) then
                  ((x0[x3.toNat]? : Option UInt8)).bind fun u10 =>
                  bif ((u10.toNat : Int) != 95) then
                    some false
                  else
                    saturateref06_Name.p5 fu fu n4 x0 x3
                else
                  none
              else
                bif decide (0 ≤ x3) then
                  ((x0[x3.toNat]? : Option UInt8)).bind fun u11 =>
                  bif (decide ((u11.toNat : Int) > 57)) then
                    bif decide (0 ≤ x3) then
                      ((x0[x3.toNat]? : Option UInt8)).bind fun u12 =>
                      bif ((u12.toNat : Int) != 95) then
                        some false
                      else
                        saturateref06_Name.p5 fu fu n4 x0 x3
                    else
                      none
                  else
                    saturateref06_Name.p5 fu fu n4 x0 x3
                else
                  none
            else
              none
          else
            saturateref06_Name.p5 fu fu n4 x0 x3
        else
          none
    else
      none
  else
    some true := by kernel_rfl
noncomputable def saturateref06_Name.g (fu : Nat) (a0 : ByteArray) : Option (Bool) :=
  bif (decide ((a0.size : Int) < 1)) then
    some false
  else
    bif (decide ((a0.size : Int) > 16)) then
      some false
    else
      ((a0[(0 : Int).toNat]? : Option UInt8)).bind fun u1 =>
      bif (decide ((u1.toNat : Int) < 97)) then
        some false
      else
        ((a0[(0 : Int).toNat]? : Option UInt8)).bind fun u2 =>
        bif (decide ((u2.toNat : Int) > 122)) then
          some false
        else
          saturateref06_Name.j4 fu fu a0 0
noncomputable def saturateref06_Name.f (a0 : ByteArray) : Option (Bool) := saturateref06_Name.g (fuel0 + 1) a0
theorem saturateref06_Name.eq (fu : Nat) (a : ByteArray × Unit) : bodyK Tryz.prog saturateref06_Name.cs saturateref06_Name.live fu Tryz.f227 (saturateref06_Name.a.enc a) saturateref06_Name.r.dec = saturateref06_Name.g fu a.1 := by kernel_rfl
theorem saturateref06_Name.con : ∀ (a : ByteArray × Unit) (r : Bool), saturateref06_Name.f a.1 = some r → Contract Tryz.prog 227 (saturateref06_Name.a.enc a) (saturateref06_Name.r.enc r) := Contract.of_body (by kernel_rfl) (by kernel_rfl) mixed (saturateref06_Name.eq (fuel0 + 1))
noncomputable def saturateref06_Name.c : Kn Tryz.prog := Kn.of 227 saturateref06_Name.a saturateref06_Name.r (fun a => saturateref06_Name.f a.1) saturateref06_Name.con
def saturateref06_Widths.a : ACods (List Tm × Unit) := (.cons .tms .nil)
def saturateref06_Widths.r : RCod (Nat × (Nat → Int)) := .rows (.int1 .i64)
noncomputable def saturateref06_Widths.cs : List (Kn Tryz.prog) := []
def saturateref06_Widths.live : Nat → Option Keep := liveOf [(7, ⟨[0, 3, 4], [3], [(3, 3, [.int .i64 (fun _ => 0)])], [], []⟩)]
noncomputable def saturateref06_Widths.body : Code := bodyOf Tryz.f228
noncomputable def saturateref06_Widths.K (fu : Nat) : Code → St → (Ex → St → Option (Nat × (Nat → Int))) → Option (Nat × (Nat → Int)) := codeK Tryz.prog (saturateref06_Widths.cs) saturateref06_Widths.live fu
noncomputable def saturateref06_Widths.j3 (fu n3 : Nat) (x0l : List Tm) (x3n : Nat) (x4 : Int) (m3 : Nat) (g3_0 : Nat → Int) : Option (Nat × (Nat → Int)) :=
  loopK (saturateref06_Widths.K fu (sub saturateref06_Widths.body [true, true, false, true, false, false])) (saturateref06_Widths.live 7) n3 (stOf 20 [(0, .tsl x0l), (3, .sl 3 1 x3n), (4, .val (.int .i64 x4))] [(3, .grow 3 m3 [.int .i64 g3_0])]) (blockC 0 (seqC fu (saturateref06_Widths.live 12) (saturateref06_Widths.K fu (sub saturateref06_Widths.body [true, true, true])) (retC Tryz.prog Tryz.f228.results saturateref06_Widths.r.dec)))
theorem saturateref06_Widths.j3_succ (fu n3 : Nat) (x0l : List Tm) (x3n : Nat) (x4 : Int) (m3 : Nat) (g3_0 : Nat → Int) : saturateref06_Widths.j3 fu (n3 + 1) x0l x3n x4 m3 g3_0 =
  bif (decide (x4 < (x0l.length : Int))) then
    bif decide (0 ≤ x4) then
      bif decide (x4 < (x0l.length : Int)) then
        ((x0l[x4.toNat]? : Option Tm)).bind fun u1 =>
        bif Nat.ble ((x3n + 1) * 8) 140737488355328 then
          saturateref06_Widths.j3 fu n3 x0l (x3n + 1) (IntKind.i64.wrap (x4 + 1)) (x3n + 1) (cat x3n g3_0 (fun i => [u1.width].getD i 0))
        else
          none
      else
        none
    else
      none
  else
    some (x3n, g3_0) := by kernel_rfl
noncomputable def saturateref06_Widths.g (fu : Nat) (a0 : List Tm) : Option (Nat × (Nat → Int)) :=
  saturateref06_Widths.j3 fu fu a0 0 0 0 (fun _ => 0)
noncomputable def saturateref06_Widths.f (a0 : List Tm) : Option (Nat × (Nat → Int)) := saturateref06_Widths.g (fuel0 + 1) a0
theorem saturateref06_Widths.eq (fu : Nat) (a : List Tm × Unit) : bodyK Tryz.prog saturateref06_Widths.cs saturateref06_Widths.live fu Tryz.f228 (saturateref06_Widths.a.enc a) saturateref06_Widths.r.dec = saturateref06_Widths.g fu a.1 := by kernel_rfl
theorem saturateref06_Widths.con : ∀ (a : List Tm × Unit) (r : Nat × (Nat → Int)), saturateref06_Widths.f a.1 = some r → Contract Tryz.prog 228 (saturateref06_Widths.a.enc a) (saturateref06_Widths.r.enc r) := Contract.of_body (by kernel_rfl) (by kernel_rfl) mixed (saturateref06_Widths.eq (fuel0 + 1))
noncomputable def saturateref06_Widths.c : Kn Tryz.prog := Kn.of 228 saturateref06_Widths.a saturateref06_Widths.r (fun a => saturateref06_Widths.f a.1) saturateref06_Widths.con
def saturateref06_Node.a : ACods (Tm × Unit) := (.cons .tm .nil)
def saturateref06_Node.r : RCod (Int) := .val (.int .i64)
noncomputable def saturateref06_Node.cs : List (Kn Tryz.prog) := [saturateref04_Arity.c, saturateref04_Pattern.c, saturateref06_Name.c, saturateref06_Widths.c, saturateref04_Width.c]
def saturateref06_Node.live : Nat → Option Keep := liveOf [(14, ⟨[1], [1], [], [], []⟩)]
noncomputable def saturateref06_Node.body : Code := bodyOf Tryz.f186
noncomputable def saturateref06_Node.K (fu : Nat) : Code → St → (Ex → St → Option (Int)) → Option (Int) := codeK Tryz.prog (saturateref06_Node.cs) saturateref06_Node.live fu
noncomputable def saturateref06_Node.p7 (m fu : Nat) (c1_0 c1_1 c1_2 : Int) (c1_3 : ByteArray) (c1_4l : List Tm) : Option Int :=
  joinK m (saturateref06_Node.K fu (sub saturateref06_Node.body [true, true])) (stOfX 84 89 [(1, .ptr 1 0 0 0)] [(1, .own [.val (.int .i64 c1_0), .val (.int .i64 c1_1), .val (.int .u64 c1_2), .val (.string c1_3), .tsl c1_4l])]) (retC Tryz.prog Tryz.f186.results saturateref06_Node.r.dec)
theorem saturateref06_Node.p7_eq (m fu : Nat) (c1_0 c1_1 c1_2 : Int) (c1_3 : ByteArray) (c1_4l : List Tm) : saturateref06_Node.p7 (m + 1) fu c1_0 c1_1 c1_2 c1_3 c1_4l =
  (saturateref06_Widths.f c1_4l).bind fun r5 =>
  (saturateref04_Width.f c1_0 c1_1 c1_2 (r5.1, r5.2)).bind fun r6 =>
  bif (r6.2 != 0) then
    some 3
  else
    bif (r6.1 != c1_1) then
      some 3
    else
      some 0 := by kernel_rfl
noncomputable def saturateref06_Node.g (fu : Nat) (a0 : Tm) : Option (Int) :=
  (saturateref04_Arity.f a0.op).bind fun r1 =>
  bif (decide (r1 < 0)) then
    some 4
  else
    (saturateref04_Pattern.f a0.op).bind fun r2 =>
    bif r2 then
      some 4
    else
      (saturateref04_Arity.f a0.op).bind fun r3 =>
      bif ((a0.kids.length : Int) != r3) then
        some 4
      else
        bif (!(a0.name.toList == (ByteArray.mk #[]).toList)) then
          bif (a0.op != 1) then
            some 4
          else
            bif (a0.val != 0) then
              bif (a0.op != 2) then
                bif (a0.op != 21) then
                  some 4
                else
                  bif (a0.op == 1) then
                    (saturateref06_Name.f a0.name).bind fun r4 =>
                    bif (!r4) then
                      some 5
                    else
                      bif (decide (a0.width < 1)) then
                        some 3
                      else
                        saturateref06_Node.p7 fu fu a0.op a0.width a0.val a0.name a0.kids
                  else
                    bif (decide (a0.width < 1)) then
                      some 3
                    else
                      saturateref06_Node.p7 fu fu a0.op a0.width a0.val a0.name a0.kids
              else
                bif (a0.op == 1) then
                  (saturateref06_Name.f a0.name).bind fun r7 =>
                  bif (!r7) then
                    some 5
                  else
                    bif (decide (a0.width < 1)) then
                      some 3
                    else
                      saturateref06_Node.p7 fu fu a0.op a0.width a0.val a0.name a0.kids
                else
                  bif (decide (a0.width < 1)) then
                    some 3
                  else
                    saturateref06_Node.p7 fu fu a0.op a0.width a0.val a0.name a0.kids
            else
              bif (a0.op == 1) then
                (saturateref06_Name.f a0.name).bind fun r8 =>
                bif (!r8) then
                  some 5
                else
                  bif (decide (a0.width < 1)) then
                    some 3
                  else
                    saturateref06_Node.p7 fu fu a0.op a0.width a0.val a0.name a0.kids
              else
                bif (decide (a0.width < 1)) then
                  some 3
                else
                  saturateref06_Node.p7 fu fu a0.op a0.width a0.val a0.name a0.kids
        else
          bif (a0.val != 0) then
            bif (a0.op != 2) then
              bif (a0.op != 21) then
                some 4
              else
                bif (a0.op == 1) then
                  (saturateref06_Name.f a0.name).bind fun r9 =>
                  bif (!r9) then
                    some 5
                  else
                    bif (decide (a0.width < 1)) then
                      some 3
                    else
                      saturateref06_Node.p7 fu fu a0.op a0.width a0.val a0.name a0.kids
                else
                  bif (decide (a0.width < 1)) then
                    some 3
                  else
                    saturateref06_Node.p7 fu fu a0.op a0.width a0.val a0.name a0.kids
            else
              bif (a0.op == 1) then
                (saturateref06_Name.f a0.name).bind fun r10 =>
                bif (!r10) then
                  some 5
                else
                  bif (decide (a0.width < 1)) then
                    some 3
                  else
                    saturateref06_Node.p7 fu fu a0.op a0.width a0.val a0.name a0.kids
              else
                bif (decide (a0.width < 1)) then
                  some 3
                else
                  saturateref06_Node.p7 fu fu a0.op a0.width a0.val a0.name a0.kids
          else
            bif (a0.op == 1) then
              (saturateref06_Name.f a0.name).bind fun r11 =>
              bif (!r11) then
                some 5
              else
                bif (decide (a0.width < 1)) then
                  some 3
                else
                  saturateref06_Node.p7 fu fu a0.op a0.width a0.val a0.name a0.kids
            else
              bif (decide (a0.width < 1)) then
                some 3
              else
                saturateref06_Node.p7 fu fu a0.op a0.width a0.val a0.name a0.kids
noncomputable def saturateref06_Node.f (a0 : Tm) : Option (Int) := saturateref06_Node.g (fuel0 + 1) a0
theorem saturateref06_Node.eq (fu : Nat) (a : Tm × Unit) : bodyK Tryz.prog saturateref06_Node.cs saturateref06_Node.live fu Tryz.f186 (saturateref06_Node.a.enc a) saturateref06_Node.r.dec = saturateref06_Node.g fu a.1 := by kernel_rfl
theorem saturateref06_Node.con : ∀ (a : Tm × Unit) (r : Int), saturateref06_Node.f a.1 = some r → Contract Tryz.prog 186 (saturateref06_Node.a.enc a) (saturateref06_Node.r.enc r) := Contract.of_body (by kernel_rfl) (by kernel_rfl) mixed (saturateref06_Node.eq (fuel0 + 1))
noncomputable def saturateref06_Node.c : Kn Tryz.prog := Kn.of 186 saturateref06_Node.a saturateref06_Node.r (fun a => saturateref06_Node.f a.1) saturateref06_Node.con
def saturateref06_nodes.a : ACods (Tm × Unit) := (.cons .tm .nil)
def saturateref06_nodes.r : RCod (Int) := .val (.int .i64)
noncomputable def saturateref06_nodes.cs (rec : Tm × Unit → Option (Int)) (hrec : Con Tryz.prog 119 saturateref06_nodes.a saturateref06_nodes.r rec) : List (Kn Tryz.prog) := [saturateref06_Node.c, Kn.of 119 saturateref06_nodes.a saturateref06_nodes.r rec hrec.c]
def saturateref06_nodes.live : Nat → Option Keep := liveOf [(5, ⟨[1, 3], [1], [], [], []⟩)]
noncomputable def saturateref06_nodes.body : Code := bodyOf Tryz.f119
noncomputable def saturateref06_nodes.K (rec : Tm × Unit → Option (Int)) (hrec : Con Tryz.prog 119 saturateref06_nodes.a saturateref06_nodes.r rec) (fu : Nat) : Code → St → (Ex → St → Option (Int)) → Option (Int) := codeK Tryz.prog (saturateref06_nodes.cs rec hrec) saturateref06_nodes.live fu
noncomputable def saturateref06_nodes.j2 (rec : Tm × Unit → Option (Int)) (hrec : Con Tryz.prog 119 saturateref06_nodes.a saturateref06_nodes.r rec) (fu n2 : Nat) (x3 c1_0 c1_1 c1_2 : Int) (c1_3 : ByteArray) (c1_4l : List Tm) : Option Int :=
  loopK (saturateref06_nodes.K rec hrec fu (sub saturateref06_nodes.body [true, false, true, false, false])) (saturateref06_nodes.live 5) n2 (stOfX 23 28 [(1, .ptr 1 0 0 0), (3, .val (.int .i64 x3))] [(1, .own [.val (.int .i64 c1_0), .val (.int .i64 c1_1), .val (.int .u64 c1_2), .val (.string c1_3), .tsl c1_4l])]) (blockC 0 (seqC fu (saturateref06_nodes.live 14) (saturateref06_nodes.K rec hrec fu (sub saturateref06_nodes.body [true, true])) (retC Tryz.prog Tryz.f119.results saturateref06_nodes.r.dec)))
theorem saturateref06_nodes.j2_succ (rec : Tm × Unit → Option (Int)) (hrec : Con Tryz.prog 119 saturateref06_nodes.a saturateref06_nodes.r rec) (fu n2 : Nat) (x3 c1_0 c1_1 c1_2 : Int) (c1_3 : ByteArray) (c1_4l : List Tm) : saturateref06_nodes.j2 rec hrec fu (n2 + 1) x3 c1_0 c1_1 c1_2 c1_3 c1_4l =
  bif (decide (x3 < (c1_4l.length : Int))) then
    bif decide (0 ≤ x3) then
      bif decide (x3 < (c1_4l.length : Int)) then
        ((c1_4l[x3.toNat]? : Option Tm)).bind fun u1 =>
        (rec ((Tm.mk u1.op u1.width u1.val u1.name u1.kids), ())).bind fun r2 =>
        bif (r2 != 0) then
          some r2
        else
          saturateref06_nodes.j2 rec hrec fu n2 (IntKind.i64.wrap (x3 + 1)) c1_0 c1_1 c1_2 c1_3 c1_4l
      else
        none
    else
      none
  else
    (saturateref06_Node.f (Tm.mk c1_0 c1_1 c1_2 c1_3 c1_4l)).bind fun r3 =>
    some r3 := by kernel_rfl
noncomputable def saturateref06_nodes.g (rec : Tm × Unit → Option (Int)) (hrec : Con Tryz.prog 119 saturateref06_nodes.a saturateref06_nodes.r rec) (fu : Nat) (a0 : Tm) : Option (Int) :=
  saturateref06_nodes.j2 rec hrec fu fu 0 a0.op a0.width a0.val a0.name a0.kids
theorem saturateref06_nodes.eq (rec : Tm × Unit → Option (Int)) (hrec : Con Tryz.prog 119 saturateref06_nodes.a saturateref06_nodes.r rec) (fu : Nat) (a : Tm × Unit) : bodyK Tryz.prog (saturateref06_nodes.cs rec hrec) saturateref06_nodes.live fu Tryz.f119 (saturateref06_nodes.a.enc a) saturateref06_nodes.r.dec = saturateref06_nodes.g rec hrec fu a.1 := by kernel_rfl
theorem saturateref06_nodes.con1 (rec : Tm × Unit → Option (Int)) (hrec : Con Tryz.prog 119 saturateref06_nodes.a saturateref06_nodes.r rec) : ∀ (a : Tm × Unit) (r : Int), saturateref06_nodes.g rec hrec (fuel0 + 1) a.1 = some r → Contract Tryz.prog 119 (saturateref06_nodes.a.enc a) (saturateref06_nodes.r.enc r) := Contract.of_body (by kernel_rfl) (by kernel_rfl) mixed (saturateref06_nodes.eq rec hrec (fuel0 + 1))
noncomputable def saturateref06_nodes.FC : Nat → { F : Tm × Unit → Option (Int) // Con Tryz.prog 119 saturateref06_nodes.a saturateref06_nodes.r F }
  | 0 => ⟨fun _ => none, ⟨fun _ _ h => (by cases h)⟩⟩
  | n + 1 => ⟨fun a => saturateref06_nodes.g (saturateref06_nodes.FC n).1 (saturateref06_nodes.FC n).2 (fuel0 + 1) a.1, ⟨saturateref06_nodes.con1 (saturateref06_nodes.FC n).1 (saturateref06_nodes.FC n).2⟩⟩
noncomputable def saturateref06_nodes.f (a0 : Tm) : Option (Int) := (saturateref06_nodes.FC deep0).1 (a0, ())
theorem saturateref06_nodes.con (a : Tm × Unit) (r : Int) (h : saturateref06_nodes.f a.1 = some r) : Contract Tryz.prog 119 (saturateref06_nodes.a.enc a) (saturateref06_nodes.r.enc r) := (saturateref06_nodes.FC deep0).2.c a r h
noncomputable def saturateref06_nodes.c : Kn Tryz.prog := Kn.of 119 saturateref06_nodes.a saturateref06_nodes.r (fun a => saturateref06_nodes.f a.1) saturateref06_nodes.con
def saturateref06_Post.a : ACods (Tm × Unit) := (.cons .tm .nil)
def saturateref06_Post.r : RCod (List Tm) := .tms
noncomputable def saturateref06_Post.cs (rec : Tm × Unit → Option (List Tm)) (hrec : Con Tryz.prog 120 saturateref06_Post.a saturateref06_Post.r rec) : List (Kn Tryz.prog) := [Kn.of 120 saturateref06_Post.a saturateref06_Post.r rec hrec.c]
def saturateref06_Post.live : Nat → Option Keep := liveOf [(7, ⟨[1, 3, 4], [1, 3], [], [(3, 38)], []⟩)]
noncomputable def saturateref06_Post.body : Code := bodyOf Tryz.f120
noncomputable def saturateref06_Post.K (rec : Tm × Unit → Option (List Tm)) (hrec : Con Tryz.prog 120 saturateref06_Post.a saturateref06_Post.r rec) (fu : Nat) : Code → St → (Ex → St → Option (List Tm)) → Option (List Tm) := codeK Tryz.prog (saturateref06_Post.cs rec hrec) saturateref06_Post.live fu
noncomputable def saturateref06_Post.j3 (rec : Tm × Unit → Option (List Tm)) (hrec : Con Tryz.prog 120 saturateref06_Post.a saturateref06_Post.r rec) (fu n3 x3n : Nat) (x4 c1_0 c1_1 c1_2 : Int) (c1_3 : ByteArray) (c1_4l l3 : List Tm) : Option (List Tm) :=
  loopK (saturateref06_Post.K rec hrec fu (sub saturateref06_Post.body [true, true, false, true, false, false])) (saturateref06_Post.live 7) n3 (stOfX 24 29 [(1, .ptr 1 0 0 0), (3, .sl 3 5 x3n), (4, .val (.int .i64 x4))] [(1, .own [.val (.int .i64 c1_0), .val (.int .i64 c1_1), .val (.int .u64 c1_2), .val (.string c1_3), .tsl c1_4l]), (3, .growK 38 l3)]) (blockC 0 (seqC fu (saturateref06_Post.live 12) (saturateref06_Post.K rec hrec fu (sub saturateref06_Post.body [true, true, true])) (retC Tryz.prog Tryz.f120.results saturateref06_Post.r.dec)))
theorem saturateref06_Post.j3_succ (rec : Tm × Unit → Option (List Tm)) (hrec : Con Tryz.prog 120 saturateref06_Post.a saturateref06_Post.r rec) (fu n3 x3n : Nat) (x4 c1_0 c1_1 c1_2 : Int) (c1_3 : ByteArray) (c1_4l l3 : List Tm) : saturateref06_Post.j3 rec hrec fu (n3 + 1) x3n x4 c1_0 c1_1 c1_2 c1_3 c1_4l l3 =
  bif (decide (x4 < (c1_4l.length : Int))) then
    bif decide (0 ≤ x4) then
      bif decide (x4 < (c1_4l.length : Int)) then
        ((c1_4l[x4.toNat]? : Option Tm)).bind fun u1 =>
        (rec ((Tm.mk u1.op u1.width u1.val u1.name u1.kids), ())).bind fun r2 =>
        bif Nat.ble ((x3n + r2.length) * 64) 140737488355328 then
          saturateref06_Post.j3 rec hrec fu n3 (x3n + r2.length) (IntKind.i64.wrap (x4 + 1)) c1_0 c1_1 c1_2 c1_3 c1_4l (l3 ++ r2)
        else
          none
      else
        none
    else
      none
  else
    bif Nat.ble ((x3n + 1) * 64) 140737488355328 then
      some (l3 ++ ([(Tm.mk c1_0 c1_1 c1_2 c1_3 c1_4l)]))
    else
      none := by kernel_rfl
noncomputable def saturateref06_Post.g (rec : Tm × Unit → Option (List Tm)) (hrec : Con Tryz.prog 120 saturateref06_Post.a saturateref06_Post.r rec) (fu : Nat) (a0 : Tm) : Option (List Tm) :=
  saturateref06_Post.j3 rec hrec fu fu 0 0 a0.op a0.width a0.val a0.name a0.kids ([])
theorem saturateref06_Post.eq (rec : Tm × Unit → Option (List Tm)) (hrec : Con Tryz.prog 120 saturateref06_Post.a saturateref06_Post.r rec) (fu : Nat) (a : Tm × Unit) : bodyK Tryz.prog (saturateref06_Post.cs rec hrec) saturateref06_Post.live fu Tryz.f120 (saturateref06_Post.a.enc a) saturateref06_Post.r.dec = saturateref06_Post.g rec hrec fu a.1 := by kernel_rfl
theorem saturateref06_Post.con1 (rec : Tm × Unit → Option (List Tm)) (hrec : Con Tryz.prog 120 saturateref06_Post.a saturateref06_Post.r rec) : ∀ (a : Tm × Unit) (r : List Tm), saturateref06_Post.g rec hrec (fuel0 + 1) a.1 = some r → Contract Tryz.prog 120 (saturateref06_Post.a.enc a) (saturateref06_Post.r.enc r) := Contract.of_body (by kernel_rfl) (by kernel_rfl) mixed (saturateref06_Post.eq rec hrec (fuel0 + 1))
noncomputable def saturateref06_Post.FC : Nat → { F : Tm × Unit → Option (List Tm) // Con Tryz.prog 120 saturateref06_Post.a saturateref06_Post.r F }
  | 0 => ⟨fun _ => none, ⟨fun _ _ h => (by cases h)⟩⟩
  | n + 1 => ⟨fun a => saturateref06_Post.g (saturateref06_Post.FC n).1 (saturateref06_Post.FC n).2 (fuel0 + 1) a.1, ⟨saturateref06_Post.con1 (saturateref06_Post.FC n).1 (saturateref06_Post.FC n).2⟩⟩
noncomputable def saturateref06_Post.f (a0 : Tm) : Option (List Tm) := (saturateref06_Post.FC deep0).1 (a0, ())
theorem saturateref06_Post.con (a : Tm × Unit) (r : List Tm) (h : saturateref06_Post.f a.1 = some r) : Contract Tryz.prog 120 (saturateref06_Post.a.enc a) (saturateref06_Post.r.enc r) := (saturateref06_Post.FC deep0).2.c a r h
noncomputable def saturateref06_Post.c : Kn Tryz.prog := Kn.of 120 saturateref06_Post.a saturateref06_Post.r (fun a => saturateref06_Post.f a.1) saturateref06_Post.con
def saturateref06_Check.a : ACods (Tm × Unit) := (.cons .tm .nil)
def saturateref06_Check.r : RCod (Int) := .val (.int .i64)
noncomputable def saturateref06_Check.cs : List (Kn Tryz.prog) := [saturateref06_count.c, saturateref06_nodes.c, saturateref06_Post.c]
def saturateref06_Check.live : Nat → Option Keep := liveOf [(17, ⟨[4, 5], [], [], [], []⟩), (23, ⟨[4, 5, 6], [], [], [], []⟩), (24, ⟨[4, 5, 6], [], [], [], []⟩)]
noncomputable def saturateref06_Check.body : Code := bodyOf Tryz.f47
noncomputable def saturateref06_Check.K (fu : Nat) : Code → St → (Ex → St → Option (Int)) → Option (Int) := codeK Tryz.prog (saturateref06_Check.cs) saturateref06_Check.live fu
noncomputable def saturateref06_Check.j8 (fu n8 : Nat) (x4l : List Tm) (x5 : Int) : Option Int :=
  loopK (saturateref06_Check.K fu (sub saturateref06_Check.body [true, true, true, true, true, false, true, false, false])) (saturateref06_Check.live 17) n8 (stOfX 68 73 [(4, .tsl x4l), (5, .val (.int .i64 x5))] []) (blockC 0 (seqC fu (saturateref06_Check.live 30) (saturateref06_Check.K fu (sub saturateref06_Check.body [true, true, true, true, true, true])) (retC Tryz.prog Tryz.f47.results saturateref06_Check.r.dec)))
noncomputable def saturateref06_Check.j11 (fu n8 n11 : Nat) (x4l : List Tm) (x5 x6 : Int) : Option Int :=
  loopK (saturateref06_Check.K fu (sub saturateref06_Check.body [true, true, true, true, true, false, true, false, false, true, false, false, true, false, false])) (saturateref06_Check.live 23) n11 (stOfX 68 73 [(4, .tsl x4l), (5, .val (.int .i64 x5)), (6, .val (.int .i64 x6))] []) (blockC 2 (blockC 1 (seqC fu (saturateref06_Check.live 18) (saturateref06_Check.K fu (sub saturateref06_Check.body [true, true, true, true, true, false, true, false, false, true, true])) (roundC (saturateref06_Check.live 17) (loopK (saturateref06_Check.K fu (sub saturateref06_Check.body [true, true, true, true, true, false, true, false, false])) (saturateref06_Check.live 17) n8) (blockC 0 (seqC fu (saturateref06_Check.live 30) (saturateref06_Check.K fu (sub saturateref06_Check.body [true, true, true, true, true, true])) (retC Tryz.prog Tryz.f47.results saturateref06_Check.r.dec)))))))
noncomputable def saturateref06_Check.p12 (m fu : Nat) (n8 n11 : Nat) (x4l : List Tm) (x5 x6 : Int) : Option Int :=
  joinK m (saturateref06_Check.K fu (sub saturateref06_Check.body [true, true, true, true, true, false, true, false, false, true, false, false, true, false, false, true, true])) (stOfX 68 73 [(4, .tsl x4l), (5, .val (.int .i64 x5)), (6, .val (.int .i64 x6))] []) (roundC (saturateref06_Check.live 23) (loopK (saturateref06_Check.K fu (sub saturateref06_Check.body [true, true, true, true, true, false, true, false, false, true, false, false, true, false, false])) (saturateref06_Check.live 23) n11) (blockC 2 (blockC 1 (seqC fu (saturateref06_Check.live 18) (saturateref06_Check.K fu (sub saturateref06_Check.body [true, true, true, true, true, false, true, false, false, true, true])) (roundC (saturateref06_Check.live 17) (loopK (saturateref06_Check.K fu (sub saturateref06_Check.body [true, true, true, true, true, false, true, false, false])) (saturateref06_Check.live 17) n8) (blockC 0 (seqC fu (saturateref06_Check.live 30) (saturateref06_Check.K fu (sub saturateref06_Check.body [true, true, true, true, true, true])) (retC Tryz.prog Tryz.f47.results saturateref06_Check.r.dec))))))))
theorem saturateref06_Check.p12_eq (m fu : Nat) (n8 n11 : Nat) (x4l : List Tm) (x5 x6 : Int) : saturateref06_Check.p12 (m + 1) fu n8 n11 x4l x5 x6 =
  saturateref06_Check.j11 fu n8 n11 x4l x5 (IntKind.i64.wrap (x6 + 1)) := by kernel_rfl
theorem saturateref06_Check.j11_succ (fu n8 n11 : Nat) (x4l : List Tm) (x5 x6 : Int) : saturateref06_Check.j11 fu n8 (n11 + 1) x4l x5 x6 =
  bif (decide (x6 < x5)) then
    bif decide (0 ≤ x5) then
      bif decide (x5 < (x4l.length : Int)) then
        ((x4l[x5.toNat]? : Option Tm)).bind fun u4 =>
        bif (u4.op == 1) then
          bif decide (0 ≤ x6) then
            bif decide (x6 < (x4l.length : Int)) then
              ((x4l[x6.toNat]? : Option Tm)).bind fun u5 =>
              bif (u5.op == 1) then
                bif decide (0 ≤ x5) then
                  bif decide (x5 < (x4l.length : Int)) then
                    ((x4l[x5.toNat]? : Option Tm)).bind fun u6 =>
                    bif decide (0 ≤ x6) then
                      bif decide (x6 < (x4l.length : Int)) then
                        ((x4l[x6.toNat]? : Option Tm)).bind fun u7 =>
                        bif (u6.name.toList == u7.name.toList) then
                          bif decide (0 ≤ x5) then
                            bif decide (x5 < (x4l.length : Int)) then
                              ((x4l[x5.toNat]? : Option Tm)).bind fun u8 =>
                              bif decide (0 ≤ x6) then
                                bif decide (x6 < (x4l.length : Int)) then
                                  ((x4l[x6.toNat]? : Option Tm)).bind fun u9 =>
                                  bif (u8.width != u9.width) then
                                    some 12
                                  else
                                    saturateref06_Check.p12 fu fu n8 n11 x4l x5 x6
                                else
                                  none
                              else
                                none
                            else
                              none
                          else
                            none
                        else
                          saturateref06_Check.p12 fu fu n8 n11 x4l x5 x6
                      else
                        none
                    else
                      none
                  else
                    none
                else
                  none
              else
                saturateref06_Check.p12 fu fu n8 n11 x4l x5 x6
            else
              none
          else
            none
        else
          saturateref06_Check.p12 fu fu n8 n11 x4l x5 x6
      else
        none
    else
      none
  else
    saturateref06_Check.j8 fu n8 x4l (IntKind.i64.wrap (x5 + 1)) := by kernel_rfl
theorem saturateref06_Check.j8_succ (fu n8 : Nat) (x4l : List Tm) (x5 : Int) : saturateref06_Check.j8 fu (n8 + 1) x4l x5 =
  bif (decide (x5 < (x4l.length : Int))) then
    saturateref06_Check.j11 fu n8 fu x4l x5 0
  else
    some 0 := by kernel_rfl
noncomputable def saturateref06_Check.g (fu : Nat) (a0 : Tm) : Option (Int) :=
  (saturateref06_count.f (Tm.mk a0.op a0.width a0.val a0.name a0.kids) 64 4096).bind fun r1 =>
  bif (decide (r1 < 0)) then
    some 7
  else
    (saturateref06_nodes.f (Tm.mk a0.op a0.width a0.val a0.name a0.kids)).bind fun r2 =>
    bif (r2 != 0) then
      some r2
    else
      (saturateref06_Post.f (Tm.mk a0.op a0.width a0.val a0.name a0.kids)).bind fun r3 =>
      saturateref06_Check.j8 fu fu r3 0
noncomputable def saturateref06_Check.f (a0 : Tm) : Option (Int) := saturateref06_Check.g (fuel0 + 1) a0
theorem saturateref06_Check.eq (fu : Nat) (a : Tm × Unit) : bodyK Tryz.prog saturateref06_Check.cs saturateref06_Check.live fu Tryz.f47 (saturateref06_Check.a.enc a) saturateref06_Check.r.dec = saturateref06_Check.g fu a.1 := by kernel_rfl
theorem saturateref06_Check.con : ∀ (a : Tm × Unit) (r : Int), saturateref06_Check.f a.1 = some r → Contract Tryz.prog 47 (saturateref06_Check.a.enc a) (saturateref06_Check.r.enc r) := Contract.of_body (by kernel_rfl) (by kernel_rfl) mixed (saturateref06_Check.eq (fuel0 + 1))
noncomputable def saturateref06_Check.c : Kn Tryz.prog := Kn.of 47 saturateref06_Check.a saturateref06_Check.r (fun a => saturateref06_Check.f a.1) saturateref06_Check.con
end Go.Proofs.YtcihbcffokjgjaaGreat.Fn
namespace Go.Proofs.YtcihbcffokjgjaaGreat.Fn
open Go Go.RowKit Go.Proofs.YtcihbcffokjgjaaGreat.Ev Go.Proofs
set_option linter.unusedVariables false
set_option maxRecDepth 100000
def saturateref08_Look.a : ACods ((Nat × (Nat → ByteArray) × (Nat → Int)) × ByteArray × Unit) := (.cons (.rows (.str (.int1 .u64))) (.cons (.val (.str)) .nil))
def saturateref08_Look.r : RCod (Int × Bool) := .val (.tup (.cons (.int .u64) (.one (.bool))))
noncomputable def saturateref08_Look.cs : List (Kn Tryz.prog) := []
def saturateref08_Look.live : Nat → Option Keep := liveOf [(5, ⟨[0, 1, 6], [0], [], [], []⟩)]
noncomputable def saturateref08_Look.body : Code := bodyOf Tryz.f132
noncomputable def saturateref08_Look.K (fu : Nat) : Code → St → (Ex → St → Option (Int × Bool)) → Option (Int × Bool) := codeK Tryz.prog (saturateref08_Look.cs) saturateref08_Look.live fu
noncomputable def saturateref08_Look.j2 (fu n2 x0n : Nat) (x1 : ByteArray) (x6 : Int) (m0 : Nat) (g0_0 : Nat → ByteArray) (g0_1 : Nat → Int) : Option (Int × Bool) :=
  loopK (saturateref08_Look.K fu (sub saturateref08_Look.body [true, false, true, false, false])) (saturateref08_Look.live 5) n2 (stOf 25 [(0, .sl 0 2 x0n), (1, .val (.string x1)), (6, .val (.int .i64 x6))] [(0, .ext m0 [.str g0_0, .int .u64 g0_1])]) (blockC 0 (seqC fu (saturateref08_Look.live 12) (saturateref08_Look.K fu (sub saturateref08_Look.body [true, true])) (retC Tryz.prog Tryz.f132.results saturateref08_Look.r.dec)))
theorem saturateref08_Look.j2_succ (fu n2 x0n : Nat) (x1 : ByteArray) (x6 : Int) (m0 : Nat) (g0_0 : Nat → ByteArray) (g0_1 : Nat → Int) : saturateref08_Look.j2 fu (n2 + 1) x0n x1 x6 m0 g0_0 g0_1 =
  bif (decide (x6 < (x0n : Int))) then
    bif decide (0 ≤ x6) then
      bif decide (x6 < (x0n : Int)) then
        bif ((g0_0 x6.toNat).toList == x1.toList) then
          bif decide (0 ≤ x6) then
            bif decide (x6 < (x0n : Int)) then
              some ((g0_1 x6.toNat), true)
            else
              none
          else
            none
        else
          saturateref08_Look.j2 fu n2 x0n x1 (IntKind.i64.wrap (x6 + 1)) m0 g0_0 g0_1
      else
        none
    else
      none
  else
    some (0, false) := by kernel_rfl
noncomputable def saturateref08_Look.g (fu : Nat) (a0 : Nat × (Nat → ByteArray) × (Nat → Int)) (a1 : ByteArray) : Option (Int × Bool) :=
  saturateref08_Look.j2 fu fu a0.1 a1 0 a0.1 a0.2.1 a0.2.2
noncomputable def saturateref08_Look.f (a0 : Nat × (Nat → ByteArray) × (Nat → Int)) (a1 : ByteArray) : Option (Int × Bool) := saturateref08_Look.g (fuel0 + 1) a0 a1
theorem saturateref08_Look.eq (fu : Nat) (a : (Nat × (Nat → ByteArray) × (Nat → Int)) × ByteArray × Unit) : bodyK Tryz.prog saturateref08_Look.cs saturateref08_Look.live fu Tryz.f132 (saturateref08_Look.a.enc a) saturateref08_Look.r.dec = saturateref08_Look.g fu a.1 a.2.1 := by kernel_rfl
theorem saturateref08_Look.con : ∀ (a : (Nat × (Nat → ByteArray) × (Nat → Int)) × ByteArray × Unit) (r : Int × Bool), saturateref08_Look.f a.1 a.2.1 = some r → Contract Tryz.prog 132 (saturateref08_Look.a.enc a) (saturateref08_Look.r.enc r) := Contract.of_body (by kernel_rfl) (by kernel_rfl) mixed (saturateref08_Look.eq (fuel0 + 1))
noncomputable def saturateref08_Look.c : Kn Tryz.prog := Kn.of 132 saturateref08_Look.a saturateref08_Look.r (fun a => saturateref08_Look.f a.1 a.2.1) saturateref08_Look.con
def saturateref08_Value.a : ACods (Tm × (Nat × (Nat → ByteArray) × (Nat → Int)) × Unit) := (.cons .tm (.cons (.rows (.str (.int1 .u64))) .nil))
def saturateref08_Value.r : RCod (Int × Bool) := .val (.tup (.cons (.int .u64) (.one (.bool))))
noncomputable def saturateref08_Value.cs (rec : Tm × (Nat × (Nat → ByteArray) × (Nat → Int)) × Unit → Option (Int × Bool)) (hrec : Con Tryz.prog 71 saturateref08_Value.a saturateref08_Value.r rec) : List (Kn Tryz.prog) := [saturateref08_Look.c, saturateref01_Cut.c, saturateref08_value.c, Kn.of 71 saturateref08_Value.a saturateref08_Value.r rec hrec.c]
def saturateref08_Value.live : Nat → Option Keep := liveOf [(17, ⟨[1, 2, 8, 9], [1, 2, 8], [(8, 50, [.int .i64 (fun _ => 0), .int .u64 (fun _ => 0)])], [], []⟩)]
noncomputable def saturateref08_Value.body : Code := bodyOf Tryz.f71
noncomputable def saturateref08_Value.K (rec : Tm × (Nat × (Nat → ByteArray) × (Nat → Int)) × Unit → Option (Int × Bool)) (hrec : Con Tryz.prog 71 saturateref08_Value.a saturateref08_Value.r rec) (fu : Nat) : Code → St → (Ex → St → Option (Int × Bool)) → Option (Int × Bool) := codeK Tryz.prog (saturateref08_Value.cs rec hrec) saturateref08_Value.live fu
noncomputable def saturateref08_Value.j8 (rec : Tm × (Nat × (Nat → ByteArray) × (Nat → Int)) × Unit → Option (Int × Bool)) (hrec : Con Tryz.prog 71 saturateref08_Value.a saturateref08_Value.r rec) (fu n8 x1n x8n : Nat) (x9 : Int) (m1 : Nat) (g1_0 : Nat → ByteArray) (g1_1 : Nat → Int) (c2_0 c2_1 c2_2 : Int) (c2_3 : ByteArray) (c2_4l : List Tm) (m8 : Nat) (g8_0 g8_1 : Nat → Int) : Option (Int × Bool) :=
  loopK (saturateref08_Value.K rec hrec fu (sub saturateref08_Value.body [true, true, true, false, true, false, false])) (saturateref08_Value.live 17) n8 (stOfX 66 71 [(1, .sl 1 2 x1n), (2, .ptr 2 0 0 0), (8, .sl 8 2 x8n), (9, .val (.int .i64 x9))] [(1, .ext m1 [.str g1_0, .int .u64 g1_1]), (2, .own [.val (.int .i64 c2_0), .val (.int .i64 c2_1), .val (.int .u64 c2_2), .val (.string c2_3), .tsl c2_4l]), (8, .grow 50 m8 [.int .i64 g8_0, .int .u64 g8_1])]) (blockC 0 (seqC fu (saturateref08_Value.live 28) (saturateref08_Value.K rec hrec fu (sub saturateref08_Value.body [true, true, true, true])) (retC Tryz.prog Tryz.f71.results saturateref08_Value.r.dec)))
theorem saturateref08_Value.j8_succ (rec : Tm × (Nat × (Nat → ByteArray) × (Nat → Int)) × Unit → Option (Int × Bool)) (hrec : Con Tryz.prog 71 saturateref08_Value.a saturateref08_Value.r rec) (fu n8 x1n x8n : Nat) (x9 : Int) (m1 : Nat) (g1_0 : Nat → ByteArray) (g1_1 : Nat → Int) (c2_0 c2_1 c2_2 : Int) (c2_3 : ByteArray) (c2_4l : List Tm) (m8 : Nat) (g8_0 g8_1 : Nat → Int) : saturateref08_Value.j8 rec hrec fu (n8 + 1) x1n x8n x9 m1 g1_0 g1_1 c2_0 c2_1 c2_2 c2_3 c2_4l m8 g8_0 g8_1 =
  bif (decide (x9 < (c2_4l.length : Int))) then
    bif decide (0 ≤ x9) then
      bif decide (x9 < (c2_4l.length : Int)) then
        ((c2_4l[x9.toNat]? : Option Tm)).bind fun u3 =>
        (rec ((Tm.mk u3.op u3.width u3.val u3.name u3.kids), (x1n, g1_0, g1_1), ())).bind fun r4 =>
        bif (!r4.2) then
          some (0, false)
        else
          bif decide (0 ≤ x9) then
            bif decide (x9 < (c2_4l.length : Int)) then
              ((c2_4l[x9.toNat]? : Option Tm)).bind fun u5 =>
              bif Nat.ble ((x8n + 1) * 16) 140737488355328 then
                saturateref08_Value.j8 rec hrec fu n8 x1n (x8n + 1) (IntKind.i64.wrap (x9 + 1)) m1 g1_0 g1_1 c2_0 c2_1 c2_2 c2_3 c2_4l (x8n + 1) (cat x8n g8_0 (fun i => [u5.width].getD i 0)) (cat x8n g8_1 (fun i => [r4.1].getD i 0))
              else
                none
            else
              none
          else
            none
      else
        none
    else
      none
  else
    (saturateref08_value.f c2_0 c2_1 c2_2 (x8n, g8_0, g8_1)).bind fun r6 =>
    some (r6, true) := by kernel_rfl
noncomputable def saturateref08_Value.g (rec : Tm × (Nat × (Nat → ByteArray) × (Nat → Int)) × Unit → Option (Int × Bool)) (hrec : Con Tryz.prog 71 saturateref08_Value.a saturateref08_Value.r rec) (fu : Nat) (a0 : Tm) (a1 : Nat × (Nat → ByteArray) × (Nat → Int)) : Option (Int × Bool) :=
  bif (a0.op == 1) then
    (saturateref08_Look.f (a1.1, a1.2.1, a1.2.2) a0.name).bind fun r1 =>
    bif (!r1.2) then
      some (0, false)
    else
      (saturateref01_Cut.f a0.width r1.1).bind fun r2 =>
      some (r2, true)
  else
    saturateref08_Value.j8 rec hrec fu fu a1.1 0 0 a1.1 a1.2.1 a1.2.2 a0.op a0.width a0.val a0.name a0.kids 0 (fun _ => 0) (fun _ => 0)
theorem saturateref08_Value.eq (rec : Tm × (Nat × (Nat → ByteArray) × (Nat → Int)) × Unit → Option (Int × Bool)) (hrec : Con Tryz.prog 71 saturateref08_Value.a saturateref08_Value.r rec) (fu : Nat) (a : Tm × (Nat × (Nat → ByteArray) × (Nat → Int)) × Unit) : bodyK Tryz.prog (saturateref08_Value.cs rec hrec) saturateref08_Value.live fu Tryz.f71 (saturateref08_Value.a.enc a) saturateref08_Value.r.dec = saturateref08_Value.g rec hrec fu a.1 a.2.1 := by kernel_rfl
theorem saturateref08_Value.con1 (rec : Tm × (Nat × (Nat → ByteArray) × (Nat → Int)) × Unit → Option (Int × Bool)) (hrec : Con Tryz.prog 71 saturateref08_Value.a saturateref08_Value.r rec) : ∀ (a : Tm × (Nat × (Nat → ByteArray) × (Nat → Int)) × Unit) (r : Int × Bool), saturateref08_Value.g rec hrec (fuel0 + 1) a.1 a.2.1 = some r → Contract Tryz.prog 71 (saturateref08_Value.a.enc a) (saturateref08_Value.r.enc r) := Contract.of_body (by kernel_rfl) (by kernel_rfl) mixed (saturateref08_Value.eq rec hrec (fuel0 + 1))
noncomputable def saturateref08_Value.FC : Nat → { F : Tm × (Nat × (Nat → ByteArray) × (Nat → Int)) × Unit → Option (Int × Bool) // Con Tryz.prog 71 saturateref08_Value.a saturateref08_Value.r F }
  | 0 => ⟨fun _ => none, ⟨fun _ _ h => (by cases h)⟩⟩
  | n + 1 => ⟨fun a => saturateref08_Value.g (saturateref08_Value.FC n).1 (saturateref08_Value.FC n).2 (fuel0 + 1) a.1 a.2.1, ⟨saturateref08_Value.con1 (saturateref08_Value.FC n).1 (saturateref08_Value.FC n).2⟩⟩
noncomputable def saturateref08_Value.f (a0 : Tm) (a1 : Nat × (Nat → ByteArray) × (Nat → Int)) : Option (Int × Bool) := (saturateref08_Value.FC deep0).1 (a0, a1, ())
theorem saturateref08_Value.con (a : Tm × (Nat × (Nat → ByteArray) × (Nat → Int)) × Unit) (r : Int × Bool) (h : saturateref08_Value.f a.1 a.2.1 = some r) : Contract Tryz.prog 71 (saturateref08_Value.a.enc a) (saturateref08_Value.r.enc r) := (saturateref08_Value.FC deep0).2.c a r h
noncomputable def saturateref08_Value.c : Kn Tryz.prog := Kn.of 71 saturateref08_Value.a saturateref08_Value.r (fun a => saturateref08_Value.f a.1 a.2.1) saturateref08_Value.con
def saturateref08_Eval.a : ACods (Tm × (Nat × (Nat → ByteArray) × (Nat → Int)) × Unit) := (.cons .tm (.cons (.rows (.str (.int1 .u64))) .nil))
def saturateref08_Eval.r : RCod (Int × Int) := .val (.tup (.cons (.int .u64) (.one (.int .i64))))
noncomputable def saturateref08_Eval.cs : List (Kn Tryz.prog) := [saturateref06_Check.c, saturateref08_Value.c]
def saturateref08_Eval.live : Nat → Option Keep := liveOf []
noncomputable def saturateref08_Eval.f (a0 : Tm) (a1 : Nat × (Nat → ByteArray) × (Nat → Int)) : Option (Int × Int) :=
  (saturateref06_Check.f (Tm.mk a0.op a0.width a0.val a0.name a0.kids)).bind fun r1 =>
  bif (r1 != 0) then
    some (0, r1)
  else
    (saturateref08_Value.f (Tm.mk a0.op a0.width a0.val a0.name a0.kids) (a1.1, a1.2.1, a1.2.2)).bind fun r2 =>
    bif (!r2.2) then
      some (0, 12)
    else
      some (r2.1, 0)
theorem saturateref08_Eval.eq (fu : Nat) (a : Tm × (Nat × (Nat → ByteArray) × (Nat → Int)) × Unit) : bodyK Tryz.prog saturateref08_Eval.cs saturateref08_Eval.live fu Tryz.f26 (saturateref08_Eval.a.enc a) saturateref08_Eval.r.dec = saturateref08_Eval.f a.1 a.2.1 := by kernel_rfl
theorem saturateref08_Eval.con : ∀ (a : Tm × (Nat × (Nat → ByteArray) × (Nat → Int)) × Unit) (r : Int × Int), saturateref08_Eval.f a.1 a.2.1 = some r → Contract Tryz.prog 26 (saturateref08_Eval.a.enc a) (saturateref08_Eval.r.enc r) := Contract.of_body (by kernel_rfl) (by kernel_rfl) mixed (saturateref08_Eval.eq (fuel0 + 1))
noncomputable def saturateref08_Eval.c : Kn Tryz.prog := Kn.of 26 saturateref08_Eval.a saturateref08_Eval.r (fun a => saturateref08_Eval.f a.1 a.2.1) saturateref08_Eval.con
def saturatelaw14_FactsSound.a : ACods (Tm × (Nat × (Nat → ByteArray) × (Nat → Int)) × Unit) := (.cons .tm (.cons (.rows (.str (.int1 .u64))) .nil))
def saturatelaw14_FactsSound.r : RCod (Bool) := .val (.bool)
noncomputable def saturatelaw14_FactsSound.cs (v_saturatelaw14_lives : Unit → Option (Bool)) (h_saturatelaw14_lives : Con Tryz.prog 9 saturatelaw14_lives.a saturatelaw14_lives.r v_saturatelaw14_lives) : List (Kn Tryz.prog) := [saturatelaw14_light.c, Kn.of 9 saturatelaw14_lives.a saturatelaw14_lives.r v_saturatelaw14_lives h_saturatelaw14_lives.c, facts_Of.c, saturateref08_Eval.c, facts_Has.c]
def saturatelaw14_FactsSound.live : Nat → Option Keep := liveOf []
noncomputable def saturatelaw14_FactsSound.gv (v_saturatelaw14_lives : Unit → Option (Bool)) (h_saturatelaw14_lives : Con Tryz.prog 9 saturatelaw14_lives.a saturatelaw14_lives.r v_saturatelaw14_lives) (fu : Nat) (a0 : Tm) (a1 : Nat × (Nat → ByteArray) × (Nat → Int)) : Option (Bool) :=
  (saturatelaw14_light.f (Tm.mk a0.op a0.width a0.val a0.name a0.kids)).bind fun r1 =>
  bif (!r1) then
    (v_saturatelaw14_lives ()).bind fun r2 =>
    some r2
  else
    bif (decide ((a1.1 : Int) > 20)) then
      (v_saturatelaw14_lives ()).bind fun r3 =>
      some r3
    else
      (facts_Of.f (Tm.mk a0.op a0.width a0.val a0.name a0.kids)).bind fun r4 =>
      (saturateref08_Eval.f (Tm.mk a0.op a0.width a0.val a0.name a0.kids) (a1.1, a1.2.1, a1.2.2)).bind fun r5 =>
      bif (r5.2 != 0) then
        (v_saturatelaw14_lives ()).bind fun r6 =>
        some r6
      else
        bif (r4.2 == 0) then
          bif (r4.1.1 == a0.width) then
            (facts_Has.f (r4.1.1, r4.1.2.1, r4.1.2.2.1, r4.1.2.2.2.1, r4.1.2.2.2.2) r5.1).bind fun r7 =>
            bif r7 then
              (v_saturatelaw14_lives ()).bind fun r8 =>
              some r8
            else
              some false
          else
            some false
        else
          some false
noncomputable def saturatelaw14_FactsSound.f (a0 : Tm) (a1 : Nat × (Nat → ByteArray) × (Nat → Int)) : Option (Bool) := saturatelaw14_FactsSound.gv (fun a => saturatelaw14_lives.f) ⟨saturatelaw14_lives.con⟩ (fuel0 + 1) a0 a1
theorem saturatelaw14_FactsSound.eq (v_saturatelaw14_lives : Unit → Option (Bool)) (h_saturatelaw14_lives : Con Tryz.prog 9 saturatelaw14_lives.a saturatelaw14_lives.r v_saturatelaw14_lives) (fu : Nat) (a : Tm × (Nat × (Nat → ByteArray) × (Nat → Int)) × Unit) : bodyK Tryz.prog (saturatelaw14_FactsSound.cs v_saturatelaw14_lives h_saturatelaw14_lives) saturatelaw14_FactsSound.live fu Tryz.f7 (saturatelaw14_FactsSound.a.enc a) saturatelaw14_FactsSound.r.dec = saturatelaw14_FactsSound.gv v_saturatelaw14_lives h_saturatelaw14_lives fu a.1 a.2.1 := by kernel_rfl
theorem saturatelaw14_FactsSound.con : ∀ (a : Tm × (Nat × (Nat → ByteArray) × (Nat → Int)) × Unit) (r : Bool), saturatelaw14_FactsSound.f a.1 a.2.1 = some r → Contract Tryz.prog 7 (saturatelaw14_FactsSound.a.enc a) (saturatelaw14_FactsSound.r.enc r) := Contract.of_body (by kernel_rfl) (by kernel_rfl) mixed (saturatelaw14_FactsSound.eq (fun a => saturatelaw14_lives.f) ⟨saturatelaw14_lives.con⟩ (fuel0 + 1))
end Go.Proofs.YtcihbcffokjgjaaGreat.Fn
