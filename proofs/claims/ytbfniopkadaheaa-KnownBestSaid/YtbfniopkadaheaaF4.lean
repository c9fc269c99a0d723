/- What the functions return, as the evaluator tells it: written by a program of this workplace (mev.py); Lean checks each equation. -/
import Derived.Test.YtbfniopkadaheaaProg
import Derived.Test.YtbfniopkadaheaaEvC
import Derived.Test.YtbfniopkadaheaaF3
namespace Go.Proofs.Ytbfniopkadaheaa.Fn
open Go Go.RowKit Go.Proofs.Ytbfniopkadaheaa.Ev Go.Proofs
set_option linter.unusedVariables false
set_option maxRecDepth 100000
/-! ### saturatelaw12_result: function 18 -/
def saturatelaw12_result.a : ACods ((Int × Int × Int × (Nat × (Nat → Int)) × (Nat × (Nat → Int) × (Nat → Int))) × (Nat × (Nat → Int)) × Unit) := (.cons (.pk (.cons (.val (.int .i64)) (.cons (.val (.int .i64)) (.cons (.val (.int .u64)) (.cons (.rows (.int1 .i64)) (.one (.rows (.int .u64 (.int1 .u64))))))))) (.cons (.rows (.int1 .u64)) .nil))
def saturatelaw12_result.r : RCod (Int × Bool) := .val (.tup (.cons (.int .u64) (.one (.bool))))
noncomputable def saturatelaw12_result.cs : List (Kn Try.prog) := [saturateref08_Apply.c]
def saturatelaw12_result.live : Nat → Option Keep := liveOf [(7, ⟨[1, 2, 6, 7], [1, 2, 6, 46, 47], [(6, 69, [.int .i64 (fun _ => 0), .int .u64 (fun _ => 0)])]⟩)]
noncomputable def saturatelaw12_result.body : Code := bodyOf Try.f18
noncomputable def saturatelaw12_result.K (fu : Nat) : Code → St → (Ex → St → Option (Int × Bool)) → Option (Int × Bool) := codeK Try.prog saturatelaw12_result.cs saturatelaw12_result.live fu
noncomputable def saturatelaw12_result.j3 (fu : Nat) (n3 : Nat) (x1n : Nat) (x6n : Nat) (x7 : Int) (m1 : Nat) (g1_0 : Nat → Int) (c2_0 : Int) (c2_1 : Int) (c2_2 : Int) (c2_3n : Nat) (c2_4n : Nat) (m6 : Nat) (g6_0 : Nat → Int) (g6_1 : Nat → Int) (m46 : Nat) (g46_0 : Nat → Int) (m47 : Nat) (g47_0 : Nat → Int) (g47_1 : Nat → Int) : Option (Int × Bool) :=
  loopK (saturatelaw12_result.K fu (sub saturatelaw12_result.body [true, true, false, true, false, false])) (saturatelaw12_result.live 7) n3 (stOfX 43 48 [(1, .sl 1 1 x1n), (2, .ptr 2 0 0 0), (6, .sl 6 2 x6n), (7, .val (.int .i64 x7))] [(1, .ext m1 [.int .u64 g1_0]), (2, .own [.val (.int .i64 c2_0), .val (.int .i64 c2_1), .val (.int .u64 c2_2), .sl 46 1 c2_3n, .sl 47 2 c2_4n]), (6, .grow 69 m6 [.int .i64 g6_0, .int .u64 g6_1]), (46, .ext m46 [.int .i64 g46_0]), (47, .ext m47 [.int .u64 g47_0, .int .u64 g47_1])]) (blockC 0 (seqC fu (saturatelaw12_result.live 12) (saturatelaw12_result.K fu (sub saturatelaw12_result.body [true, true, true])) (retC Try.prog Try.f18.results saturatelaw12_result.r.dec)))
theorem saturatelaw12_result.j3_succ (fu : Nat) (n3 : Nat) (x1n : Nat) (x6n : Nat) (x7 : Int) (m1 : Nat) (g1_0 : Nat → Int) (c2_0 : Int) (c2_1 : Int) (c2_2 : Int) (c2_3n : Nat) (c2_4n : Nat) (m6 : Nat) (g6_0 : Nat → Int) (g6_1 : Nat → Int) (m46 : Nat) (g46_0 : Nat → Int) (m47 : Nat) (g47_0 : Nat → Int) (g47_1 : Nat → Int) : saturatelaw12_result.j3 fu (n3 + 1) x1n x6n x7 m1 g1_0 c2_0 c2_1 c2_2 c2_3n c2_4n m6 g6_0 g6_1 m46 g46_0 m47 g47_0 g47_1 =
  bif (decide (x7 < (x1n : Int))) then
    bif decide (0 ≤ x7) then
      bif decide (x7 < (c2_3n : Int)) then
        bif decide (0 ≤ x7) then
          bif decide (x7 < (x1n : Int)) then
            bif Nat.ble ((x6n + 1) * 16) 140737488355328 then
              saturatelaw12_result.j3 fu n3 x1n (x6n + 1) (IntKind.i64.wrap (x7 + 1)) m1 g1_0 c2_0 c2_1 c2_2 c2_3n c2_4n (x6n + 1) (cat x6n g6_0 (fun i => [(g46_0 x7.toNat)].getD i 0)) (cat x6n g6_1 (fun i => [(g1_0 x7.toNat)].getD i 0)) m46 g46_0 m47 g47_0 g47_1
            else
              none
          else
            none
        else
          none
      else
        none
    else
      none
  else
    (saturateref08_Apply.f c2_0 c2_1 c2_2 (x6n, g6_0, g6_1)).bind fun r1 =>
    some (r1.1, (r1.2 == 0)) := by kernel_rfl
noncomputable def saturatelaw12_result.g (fu : Nat) (a0 : Int × Int × Int × (Nat × (Nat → Int)) × (Nat × (Nat → Int) × (Nat → Int))) (a1 : Nat × (Nat → Int)) : Option (Int × Bool) :=
  saturatelaw12_result.j3 fu fu a1.1 0 0 a1.1 a1.2 a0.1 a0.2.1 a0.2.2.1 a0.2.2.2.1.1 a0.2.2.2.2.1 0 (fun _ => 0) (fun _ => 0) a0.2.2.2.1.1 a0.2.2.2.1.2 a0.2.2.2.2.1 a0.2.2.2.2.2.1 a0.2.2.2.2.2.2
noncomputable def saturatelaw12_result.f (a0 : Int × Int × Int × (Nat × (Nat → Int)) × (Nat × (Nat → Int) × (Nat → Int))) (a1 : Nat × (Nat → Int)) : Option (Int × Bool) := saturatelaw12_result.g (fuel0 + 1) a0 a1
theorem saturatelaw12_result.eq (fu : Nat) (a : (Int × Int × Int × (Nat × (Nat → Int)) × (Nat × (Nat → Int) × (Nat → Int))) × (Nat × (Nat → Int)) × Unit) : bodyK Try.prog saturatelaw12_result.cs saturatelaw12_result.live fu Try.f18 (saturatelaw12_result.a.enc a) saturatelaw12_result.r.dec = saturatelaw12_result.g fu a.1 a.2.1 := by kernel_rfl
theorem saturatelaw12_result.con : ∀ (a : (Int × Int × Int × (Nat × (Nat → Int)) × (Nat × (Nat → Int) × (Nat → Int))) × (Nat × (Nat → Int)) × Unit) (r : Int × Bool), saturatelaw12_result.f a.1 a.2.1 = some r → Contract Try.prog 18 (saturatelaw12_result.a.enc a) (saturatelaw12_result.r.enc r) := Contract.of_body (F := fun (a : (Int × Int × Int × (Nat × (Nat → Int)) × (Nat × (Nat → Int) × (Nat → Int))) × (Nat × (Nat → Int)) × Unit) => saturatelaw12_result.f a.1 a.2.1) (fn := Try.f18) (cs := saturatelaw12_result.cs) (live := saturatelaw12_result.live) (fuel := fuel0 + 1) (by kernel_rfl) (by kernel_rfl) mixed (saturatelaw12_result.eq (fuel0 + 1))
noncomputable def saturatelaw12_result.c : Kn Try.prog := Kn.of 18 saturatelaw12_result.a saturatelaw12_result.r (fun a => saturatelaw12_result.f a.1 a.2.1) saturatelaw12_result.con

/-! ### saturatelaw12_KnownBest: function 4 -/
def saturatelaw12_KnownBest.a : ACods ((Int × Int × Int × (Nat × (Nat → Int)) × (Nat × (Nat → Int) × (Nat → Int))) × Unit) := (.cons (.pk (.cons (.val (.int .i64)) (.cons (.val (.int .i64)) (.cons (.val (.int .u64)) (.cons (.rows (.int1 .i64)) (.one (.rows (.int .u64 (.int1 .u64))))))))) .nil)
def saturatelaw12_KnownBest.r : RCod (Bool) := .val (.bool)
noncomputable def saturatelaw12_KnownBest.cs : List (Kn Try.prog) := [saturateref12_Refused.c, saturatelaw12_lives.c, saturatelaw12_few.c, saturatelaw12_best.c, known_Apply.c, saturateref01_Cut.c, saturateref12_Has.c, saturatelaw12_result.c, saturateref12_Const.c, saturateref12_Join.c]
def saturatelaw12_KnownBest.live : Nat → Option Keep := liveOf [(13, ⟨[1, 3, 5, 6], [1, 177, 178], []⟩), (35, ⟨[1, 3, 5, 7, 8, 9, 10, 11], [1, 7, 9, 177, 178], []⟩), (36, ⟨[1, 3, 5, 7, 8, 9, 10, 11], [1, 7, 9, 177, 178], []⟩), (47, ⟨[1, 3, 5, 7, 8, 9, 10, 11, 12, 13, 14, 15], [1, 7, 9, 12, 177, 178], [(12, 23, [.int .u64 (fun _ => 0)])]⟩), (48, ⟨[1, 3, 5, 7, 8, 9, 10, 11, 12, 13, 14, 15], [1, 7, 9, 12, 177, 178], [(12, 23, [.int .u64 (fun _ => 0)])]⟩), (72, ⟨[1, 3, 5, 7, 8, 9, 11], [1, 7, 9, 177, 178], []⟩)]
noncomputable def saturatelaw12_KnownBest.body : Code := bodyOf Try.f4
noncomputable def saturatelaw12_KnownBest.K (fu : Nat) : Code → St → (Ex → St → Option (Bool)) → Option (Bool) := codeK Try.prog saturatelaw12_KnownBest.cs saturatelaw12_KnownBest.live fu
noncomputable def saturatelaw12_KnownBest.j6 (fu : Nat) (n6 : Nat) (x3 : Int) (x5 : Int) (x6 : Int) (c1_0 : Int) (c1_1 : Int) (c1_2 : Int) (c1_3n : Nat) (c1_4n : Nat) (m177 : Nat) (g177_0 : Nat → Int) (m178 : Nat) (g178_0 : Nat → Int) (g178_1 : Nat → Int) : Option Bool :=
  loopK (saturatelaw12_KnownBest.K fu (sub saturatelaw12_KnownBest.body [true, true, true, true, false, true, false, false])) (saturatelaw12_KnownBest.live 13) n6 (stOfX 174 179 [(1, .ptr 1 0 0 0), (3, .val (.int .i64 x3)), (5, .val (.int .i64 x5)), (6, .val (.int .i64 x6))] [(1, .own [.val (.int .i64 c1_0), .val (.int .i64 c1_1), .val (.int .u64 c1_2), .sl 177 1 c1_3n, .sl 178 2 c1_4n]), (177, .ext m177 [.int .i64 g177_0]), (178, .ext m178 [.int .u64 g178_0, .int .u64 g178_1])]) (blockC 0 (seqC fu (saturatelaw12_KnownBest.live 22) (saturatelaw12_KnownBest.K fu (sub saturatelaw12_KnownBest.body [true, true, true, true, true])) (retC Try.prog Try.f4.results saturatelaw12_KnownBest.r.dec)))
noncomputable def saturatelaw12_KnownBest.j17 (fu : Nat) (n17 : Nat) (x3 : Int) (x5 : Int) (x8 : Int) (x10 : Bool) (x11 : Int) (c1_0 : Int) (c1_1 : Int) (c1_2 : Int) (c1_3n : Nat) (c1_4n : Nat) (c7_0 : Int) (c7_1 : Int) (c9_0 : Int) (c9_1 : Int) (m177 : Nat) (g177_0 : Nat → Int) (m178 : Nat) (g178_0 : Nat → Int) (g178_1 : Nat → Int) : Option Bool :=
  loopK (saturatelaw12_KnownBest.K fu (sub saturatelaw12_KnownBest.body [true, true, true, true, true, true, true, true, true, false, true, false, false])) (saturatelaw12_KnownBest.live 35) n17 (stOfX 174 179 [(1, .ptr 1 0 0 0), (3, .val (.int .i64 x3)), (5, .val (.int .i64 x5)), (7, .ptr 7 0 0 0), (8, .val (.int .i64 x8)), (9, .ptr 9 0 0 0), (10, .val (.bool x10)), (11, .val (.int .i64 x11))] [(1, .own [.val (.int .i64 c1_0), .val (.int .i64 c1_1), .val (.int .u64 c1_2), .sl 177 1 c1_3n, .sl 178 2 c1_4n]), (7, .own [.val (.int .u64 c7_0), .val (.int .u64 c7_1)]), (9, .own [.val (.int .u64 c9_0), .val (.int .u64 c9_1)]), (177, .ext m177 [.int .i64 g177_0]), (178, .ext m178 [.int .u64 g178_0, .int .u64 g178_1])]) (blockC 2 (seqC fu (saturatelaw12_KnownBest.live 74) (saturatelaw12_KnownBest.K fu (sub saturatelaw12_KnownBest.body [true, true, true, true, true, true, true, true, true, true])) (retC Try.prog Try.f4.results saturatelaw12_KnownBest.r.dec)))
noncomputable def saturatelaw12_KnownBest.j23 (fu : Nat) (n17 : Nat) (n23 : Nat) (x3 : Int) (x5 : Int) (x8 : Int) (x10 : Bool) (x11 : Int) (x12n : Nat) (x13 : Int) (x14 : Bool) (x15 : Int) (c1_0 : Int) (c1_1 : Int) (c1_2 : Int) (c1_3n : Nat) (c1_4n : Nat) (c7_0 : Int) (c7_1 : Int) (c9_0 : Int) (c9_1 : Int) (m12 : Nat) (g12_0 : Nat → Int) (m177 : Nat) (g177_0 : Nat → Int) (m178 : Nat) (g178_0 : Nat → Int) (g178_1 : Nat → Int) : Option Bool :=
  loopK (saturatelaw12_KnownBest.K fu (sub saturatelaw12_KnownBest.body [true, true, true, true, true, true, true, true, true, false, true, false, false, true, false, false, true, true, true, false, true, false, false])) (saturatelaw12_KnownBest.live 47) n23 (stOfX 174 179 [(1, .ptr 1 0 0 0), (3, .val (.int .i64 x3)), (5, .val (.int .i64 x5)), (7, .ptr 7 0 0 0), (8, .val (.int .i64 x8)), (9, .ptr 9 0 0 0), (10, .val (.bool x10)), (11, .val (.int .i64 x11)), (12, .sl 12 1 x12n), (13, .val (.int .u64 x13)), (14, .val (.bool x14)), (15, .val (.int .i64 x15))] [(1, .own [.val (.int .i64 c1_0), .val (.int .i64 c1_1), .val (.int .u64 c1_2), .sl 177 1 c1_3n, .sl 178 2 c1_4n]), (7, .own [.val (.int .u64 c7_0), .val (.int .u64 c7_1)]), (9, .own [.val (.int .u64 c9_0), .val (.int .u64 c9_1)]), (12, .grow 23 m12 [.int .u64 g12_0]), (177, .ext m177 [.int .i64 g177_0]), (178, .ext m178 [.int .u64 g178_0, .int .u64 g178_1])]) (blockC 4 (seqC fu (saturatelaw12_KnownBest.live 58) (saturatelaw12_KnownBest.K fu (sub saturatelaw12_KnownBest.body [true, true, true, true, true, true, true, true, true, false, true, false, false, true, false, false, true, true, true, true])) (blockC 3 (seqC fu (saturatelaw12_KnownBest.live 36) (saturatelaw12_KnownBest.K fu (sub saturatelaw12_KnownBest.body [true, true, true, true, true, true, true, true, true, false, true, false, false, true, true])) (roundC (saturatelaw12_KnownBest.live 35) (loopK (saturatelaw12_KnownBest.K fu (sub saturatelaw12_KnownBest.body [true, true, true, true, true, true, true, true, true, false, true, false, false])) (saturatelaw12_KnownBest.live 35) n17) (blockC 2 (seqC fu (saturatelaw12_KnownBest.live 74) (saturatelaw12_KnownBest.K fu (sub saturatelaw12_KnownBest.body [true, true, true, true, true, true, true, true, true, true])) (retC Try.prog Try.f4.results saturatelaw12_KnownBest.r.dec))))))))
noncomputable def saturatelaw12_KnownBest.p24 (m fu : Nat) (n17 : Nat) (n23 : Nat) (x3 : Int) (x5 : Int) (x8 : Int) (x10 : Bool) (x11 : Int) (x12n : Nat) (x13 : Int) (x14 : Bool) (x15 : Int) (c1_0 : Int) (c1_1 : Int) (c1_2 : Int) (c1_3n : Nat) (c1_4n : Nat) (c7_0 : Int) (c7_1 : Int) (c9_0 : Int) (c9_1 : Int) (m12 : Nat) (g12_0 : Nat → Int) (m177 : Nat) (g177_0 : Nat → Int) (m178 : Nat) (g178_0 : Nat → Int) (g178_1 : Nat → Int) : Option Bool :=
  joinK m (saturatelaw12_KnownBest.K fu (sub saturatelaw12_KnownBest.body [true, true, true, true, true, true, true, true, true, false, true, false, false, true, false, false, true, true, true, false, true, false, false, true, true])) (stOfX 174 179 [(1, .ptr 1 0 0 0), (3, .val (.int .i64 x3)), (5, .val (.int .i64 x5)), (7, .ptr 7 0 0 0), (8, .val (.int .i64 x8)), (9, .ptr 9 0 0 0), (10, .val (.bool x10)), (11, .val (.int .i64 x11)), (12, .sl 12 1 x12n), (13, .val (.int .u64 x13)), (14, .val (.bool x14)), (15, .val (.int .i64 x15))] [(1, .own [.val (.int .i64 c1_0), .val (.int .i64 c1_1), .val (.int .u64 c1_2), .sl 177 1 c1_3n, .sl 178 2 c1_4n]), (7, .own [.val (.int .u64 c7_0), .val (.int .u64 c7_1)]), (9, .own [.val (.int .u64 c9_0), .val (.int .u64 c9_1)]), (12, .grow 23 m12 [.int .u64 g12_0]), (177, .ext m177 [.int .i64 g177_0]), (178, .ext m178 [.int .u64 g178_0, .int .u64 g178_1])]) (roundC (saturatelaw12_KnownBest.live 47) (loopK (saturatelaw12_KnownBest.K fu (sub saturatelaw12_KnownBest.body [true, true, true, true, true, true, true, true, true, false, true, false, false, true, false, false, true, true, true, false, true, false, false])) (saturatelaw12_KnownBest.live 47) n23) (blockC 4 (seqC fu (saturatelaw12_KnownBest.live 58) (saturatelaw12_KnownBest.K fu (sub saturatelaw12_KnownBest.body [true, true, true, true, true, true, true, true, true, false, true, false, false, true, false, false, true, true, true, true])) (blockC 3 (seqC fu (saturatelaw12_KnownBest.live 36) (saturatelaw12_KnownBest.K fu (sub saturatelaw12_KnownBest.body [true, true, true, true, true, true, true, true, true, false, true, false, false, true, true])) (roundC (saturatelaw12_KnownBest.live 35) (loopK (saturatelaw12_KnownBest.K fu (sub saturatelaw12_KnownBest.body [true, true, true, true, true, true, true, true, true, false, true, false, false])) (saturatelaw12_KnownBest.live 35) n17) (blockC 2 (seqC fu (saturatelaw12_KnownBest.live 74) (saturatelaw12_KnownBest.K fu (sub saturatelaw12_KnownBest.body [true, true, true, true, true, true, true, true, true, true])) (retC Try.prog Try.f4.results saturatelaw12_KnownBest.r.dec)))))))))
noncomputable def saturatelaw12_KnownBest.p18 (m fu : Nat) (n17 : Nat) (x3 : Int) (x5 : Int) (x8 : Int) (x10 : Bool) (x11 : Int) (c1_0 : Int) (c1_1 : Int) (c1_2 : Int) (c1_3n : Nat) (c1_4n : Nat) (c7_0 : Int) (c7_1 : Int) (c9_0 : Int) (c9_1 : Int) (m177 : Nat) (g177_0 : Nat → Int) (m178 : Nat) (g178_0 : Nat → Int) (g178_1 : Nat → Int) : Option Bool :=
  joinK m (saturatelaw12_KnownBest.K fu (sub saturatelaw12_KnownBest.body [true, true, true, true, true, true, true, true, true, false, true, false, false, true, true])) (stOfX 174 179 [(1, .ptr 1 0 0 0), (3, .val (.int .i64 x3)), (5, .val (.int .i64 x5)), (7, .ptr 7 0 0 0), (8, .val (.int .i64 x8)), (9, .ptr 9 0 0 0), (10, .val (.bool x10)), (11, .val (.int .i64 x11))] [(1, .own [.val (.int .i64 c1_0), .val (.int .i64 c1_1), .val (.int .u64 c1_2), .sl 177 1 c1_3n, .sl 178 2 c1_4n]), (7, .own [.val (.int .u64 c7_0), .val (.int .u64 c7_1)]), (9, .own [.val (.int .u64 c9_0), .val (.int .u64 c9_1)]), (177, .ext m177 [.int .i64 g177_0]), (178, .ext m178 [.int .u64 g178_0, .int .u64 g178_1])]) (roundC (saturatelaw12_KnownBest.live 35) (loopK (saturatelaw12_KnownBest.K fu (sub saturatelaw12_KnownBest.body [true, true, true, true, true, true, true, true, true, false, true, false, false])) (saturatelaw12_KnownBest.live 35) n17) (blockC 2 (seqC fu (saturatelaw12_KnownBest.live 74) (saturatelaw12_KnownBest.K fu (sub saturatelaw12_KnownBest.body [true, true, true, true, true, true, true, true, true, true])) (retC Try.prog Try.f4.results saturatelaw12_KnownBest.r.dec))))
noncomputable def saturatelaw12_KnownBest.p36 (m fu : Nat) (n17 : Nat) (x3 : Int) (x5 : Int) (x8 : Int) (x11 : Int) (c1_0 : Int) (c1_1 : Int) (c1_2 : Int) (c1_3n : Nat) (c1_4n : Nat) (c7_0 : Int) (c7_1 : Int) (c9_0 : Int) (c9_1 : Int) (m177 : Nat) (g177_0 : Nat → Int) (m178 : Nat) (g178_0 : Nat → Int) (g178_1 : Nat → Int) : Option Bool :=
  joinK m (saturatelaw12_KnownBest.K fu (sub saturatelaw12_KnownBest.body [true, true, true, true, true, true, true, true, true, false, true, false, false, true, false, false, true, true, true, true, true, true, true, true])) (stOfX 174 179 [(1, .ptr 1 0 0 0), (3, .val (.int .i64 x3)), (5, .val (.int .i64 x5)), (7, .ptr 7 0 0 0), (8, .val (.int .i64 x8)), (9, .ptr 9 0 0 0), (11, .val (.int .i64 x11))] [(1, .own [.val (.int .i64 c1_0), .val (.int .i64 c1_1), .val (.int .u64 c1_2), .sl 177 1 c1_3n, .sl 178 2 c1_4n]), (7, .own [.val (.int .u64 c7_0), .val (.int .u64 c7_1)]), (9, .own [.val (.int .u64 c9_0), .val (.int .u64 c9_1)]), (177, .ext m177 [.int .i64 g177_0]), (178, .ext m178 [.int .u64 g178_0, .int .u64 g178_1])]) (blockC 3 (seqC fu (saturatelaw12_KnownBest.live 36) (saturatelaw12_KnownBest.K fu (sub saturatelaw12_KnownBest.body [true, true, true, true, true, true, true, true, true, false, true, false, false, true, true])) (roundC (saturatelaw12_KnownBest.live 35) (loopK (saturatelaw12_KnownBest.K fu (sub saturatelaw12_KnownBest.body [true, true, true, true, true, true, true, true, true, false, true, false, false])) (saturatelaw12_KnownBest.live 35) n17) (blockC 2 (seqC fu (saturatelaw12_KnownBest.live 74) (saturatelaw12_KnownBest.K fu (sub saturatelaw12_KnownBest.body [true, true, true, true, true, true, true, true, true, true])) (retC Try.prog Try.f4.results saturatelaw12_KnownBest.r.dec))))))
theorem saturatelaw12_KnownBest.p24_eq (m fu : Nat) (n17 : Nat) (n23 : Nat) (x3 : Int) (x5 : Int) (x8 : Int) (x10 : Bool) (x11 : Int) (x12n : Nat) (x13 : Int) (x14 : Bool) (x15 : Int) (c1_0 : Int) (c1_1 : Int) (c1_2 : Int) (c1_3n : Nat) (c1_4n : Nat) (c7_0 : Int) (c7_1 : Int) (c9_0 : Int) (c9_1 : Int) (m12 : Nat) (g12_0 : Nat → Int) (m177 : Nat) (g177_0 : Nat → Int) (m178 : Nat) (g178_0 : Nat → Int) (g178_1 : Nat → Int) : saturatelaw12_KnownBest.p24 (m + 1) fu n17 n23 x3 x5 x8 x10 x11 x12n x13 x14 x15 c1_0 c1_1 c1_2 c1_3n c1_4n c7_0 c7_1 c9_0 c9_1 m12 g12_0 m177 g177_0 m178 g178_0 g178_1 =
  saturatelaw12_KnownBest.j23 fu n17 n23 x3 x5 x8 x10 x11 x12n x13 x14 (IntKind.i64.wrap (x15 + 1)) c1_0 c1_1 c1_2 c1_3n c1_4n c7_0 c7_1 c9_0 c9_1 m12 g12_0 m177 g177_0 m178 g178_0 g178_1 := by kernel_rfl
theorem saturatelaw12_KnownBest.p18_eq (m fu : Nat) (n17 : Nat) (x3 : Int) (x5 : Int) (x8 : Int) (x10 : Bool) (x11 : Int) (c1_0 : Int) (c1_1 : Int) (c1_2 : Int) (c1_3n : Nat) (c1_4n : Nat) (c7_0 : Int) (c7_1 : Int) (c9_0 : Int) (c9_1 : Int) (m177 : Nat) (g177_0 : Nat → Int) (m178 : Nat) (g178_0 : Nat → Int) (g178_1 : Nat → Int) : saturatelaw12_KnownBest.p18 (m + 1) fu n17 x3 x5 x8 x10 x11 c1_0 c1_1 c1_2 c1_3n c1_4n c7_0 c7_1 c9_0 c9_1 m177 g177_0 m178 g178_0 g178_1 =
  saturatelaw12_KnownBest.j17 fu n17 x3 x5 x8 x10 (IntKind.i64.wrap (x11 + 1)) c1_0 c1_1 c1_2 c1_3n c1_4n c7_0 c7_1 c9_0 c9_1 m177 g177_0 m178 g178_0 g178_1 := by kernel_rfl
theorem saturatelaw12_KnownBest.p36_eq (m fu : Nat) (n17 : Nat) (x3 : Int) (x5 : Int) (x8 : Int) (x11 : Int) (c1_0 : Int) (c1_1 : Int) (c1_2 : Int) (c1_3n : Nat) (c1_4n : Nat) (c7_0 : Int) (c7_1 : Int) (c9_0 : Int) (c9_1 : Int) (m177 : Nat) (g177_0 : Nat → Int) (m178 : Nat) (g178_0 : Nat → Int) (g178_1 : Nat → Int) : saturatelaw12_KnownBest.p36 (m + 1) fu n17 x3 x5 x8 x11 c1_0 c1_1 c1_2 c1_3n c1_4n c7_0 c7_1 c9_0 c9_1 m177 g177_0 m178 g178_0 g178_1 =
  saturatelaw12_KnownBest.p18 fu fu n17 x3 x5 x8 true x11 c1_0 c1_1 c1_2 c1_3n c1_4n c7_0 c7_1 c9_0 c9_1 m177 g177_0 m178 g178_0 g178_1 := by kernel_rfl
theorem saturatelaw12_KnownBest.j23_succ (fu : Nat) (n17 : Nat) (n23 : Nat) (x3 : Int) (x5 : Int) (x8 : Int) (x10 : Bool) (x11 : Int) (x12n : Nat) (x13 : Int) (x14 : Bool) (x15 : Int) (c1_0 : Int) (c1_1 : Int) (c1_2 : Int) (c1_3n : Nat) (c1_4n : Nat) (c7_0 : Int) (c7_1 : Int) (c9_0 : Int) (c9_1 : Int) (m12 : Nat) (g12_0 : Nat → Int) (m177 : Nat) (g177_0 : Nat → Int) (m178 : Nat) (g178_0 : Nat → Int) (g178_1 : Nat → Int) : saturatelaw12_KnownBest.j23 fu n17 (n23 + 1) x3 x5 x8 x10 x11 x12n x13 x14 x15 c1_0 c1_1 c1_2 c1_3n c1_4n c7_0 c7_1 c9_0 c9_1 m12 g12_0 m177 g177_0 m178 g178_0 g178_1 =
  bif (decide (x15 < (c1_3n : Int))) then
    bif decide (0 ≤ x15) then
      bif decide (x15 < (c1_3n : Int)) then
        (saturateref01_Cut.f (g177_0 x15.toNat) x13).bind fun r11 =>
        bif decide (0 ≤ x15) then
          bif decide (x15 < (c1_3n : Int)) then
            bif decide ((IntKind.u64.wrap (g177_0 x15.toNat)) < 0) then
              none
            else
              bif x14 then
                bif decide (0 ≤ x15) then
                  bif decide (x15 < (c1_3n : Int)) then
                    bif decide (0 ≤ x15) then
                      bif decide (x15 < (c1_4n : Int)) then
                        (saturateref12_Has.f (g177_0 x15.toNat) ((g178_0 x15.toNat), (g178_1 x15.toNat)) r11).bind fun r12 =>
                        bif Nat.ble ((x12n + 1) * 8) 140737488355328 then
                          saturatelaw12_KnownBest.p24 fu fu n17 n23 x3 x5 x8 x10 x11 (x12n + 1) (shr .u64 x13 (IntKind.u64.wrap (g177_0 x15.toNat))) r12 x15 c1_0 c1_1 c1_2 c1_3n c1_4n c7_0 c7_1 c9_0 c9_1 (x12n + 1) (cat x12n g12_0 (fun i => [r11].getD i 0)) m177 g177_0 m178 g178_0 g178_1
                        else
                          none
                      else
                        none
                    else
                      none
                  else
                    none
                else
                  none
              else
                bif Nat.ble ((x12n + 1) * 8) 140737488355328 then
                  saturatelaw12_KnownBest.p24 fu fu n17 n23 x3 x5 x8 x10 x11 (x12n + 1) (shr .u64 x13 (IntKind.u64.wrap (g177_0 x15.toNat))) false x15 c1_0 c1_1 c1_2 c1_3n c1_4n c7_0 c7_1 c9_0 c9_1 (x12n + 1) (cat x12n g12_0 (fun i => [r11].getD i 0)) m177 g177_0 m178 g178_0 g178_1
                else
                  none
          else
            none
        else
          none
      else
        none
    else
      none
  else
    bif (!x14) then
      saturatelaw12_KnownBest.p18 fu fu n17 x3 x5 x8 x10 x11 c1_0 c1_1 c1_2 c1_3n c1_4n c7_0 c7_1 c9_0 c9_1 m177 g177_0 m178 g178_0 g178_1
    else
      (saturatelaw12_result.f (c1_0, c1_1, c1_2, (c1_3n, g177_0), (c1_4n, g178_0, g178_1)) (x12n, g12_0)).bind fun r13 =>
      bif (!r13.2) then
        some false
      else
        bif x10 then
          (saturateref12_Const.f x3 r13.1).bind fun r14 =>
          (saturateref12_Join.f x3 (c9_0, c9_1) (r14.1, r14.2)).bind fun r15 =>
          saturatelaw12_KnownBest.p36 fu fu n17 x3 x5 x8 x11 c1_0 c1_1 c1_2 c1_3n c1_4n c7_0 c7_1 r15.1 r15.2 m177 g177_0 m178 g178_0 g178_1
        else
          (saturateref12_Const.f x3 r13.1).bind fun r16 =>
          saturatelaw12_KnownBest.p36 fu fu n17 x3 x5 x8 x11 c1_0 c1_1 c1_2 c1_3n c1_4n c7_0 c7_1 r16.1 r16.2 m177 g177_0 m178 g178_0 g178_1 := by kernel_rfl
theorem saturatelaw12_KnownBest.j17_succ (fu : Nat) (n17 : Nat) (x3 : Int) (x5 : Int) (x8 : Int) (x10 : Bool) (x11 : Int) (c1_0 : Int) (c1_1 : Int) (c1_2 : Int) (c1_3n : Nat) (c1_4n : Nat) (c7_0 : Int) (c7_1 : Int) (c9_0 : Int) (c9_1 : Int) (m177 : Nat) (g177_0 : Nat → Int) (m178 : Nat) (g178_0 : Nat → Int) (g178_1 : Nat → Int) : saturatelaw12_KnownBest.j17 fu (n17 + 1) x3 x5 x8 x10 x11 c1_0 c1_1 c1_2 c1_3n c1_4n c7_0 c7_1 c9_0 c9_1 m177 g177_0 m178 g178_0 g178_1 =
  bif decide ((IntKind.u64.wrap x5) < 0) then
    none
  else
    bif (decide (x11 < (shl .i64 1 (IntKind.u64.wrap x5)))) then
      saturatelaw12_KnownBest.j23 fu n17 fu x3 x5 x8 x10 x11 0 (IntKind.u64.wrap x11) true 0 c1_0 c1_1 c1_2 c1_3n c1_4n c7_0 c7_1 c9_0 c9_1 0 (fun _ => 0) m177 g177_0 m178 g178_0 g178_1
    else
      bif (x8 == 0) then
        bif x10 then
          bif ((c7_0 == c9_0) && ((c7_1 == c9_1) && true)) then
            (saturatelaw12_lives.f).bind fun r17 =>
            some r17
          else
            some false
        else
          some false
      else
        some false := by kernel_rfl
theorem saturatelaw12_KnownBest.j6_succ (fu : Nat) (n6 : Nat) (x3 : Int) (x5 : Int) (x6 : Int) (c1_0 : Int) (c1_1 : Int) (c1_2 : Int) (c1_3n : Nat) (c1_4n : Nat) (m177 : Nat) (g177_0 : Nat → Int) (m178 : Nat) (g178_0 : Nat → Int) (g178_1 : Nat → Int) : saturatelaw12_KnownBest.j6 fu (n6 + 1) x3 x5 x6 c1_0 c1_1 c1_2 c1_3n c1_4n m177 g177_0 m178 g178_0 g178_1 =
  bif (decide (x6 < (c1_3n : Int))) then
    bif decide (0 ≤ x6) then
      bif decide (x6 < (c1_3n : Int)) then
        bif (decide ((g177_0 x6.toNat) > 4)) then
          (saturatelaw12_lives.f).bind fun r8 =>
          some r8
        else
          bif decide (0 ≤ x6) then
            bif decide (x6 < (c1_3n : Int)) then
              saturatelaw12_KnownBest.j6 fu n6 x3 (IntKind.i64.wrap (x5 + (g177_0 x6.toNat))) (IntKind.i64.wrap (x6 + 1)) c1_0 c1_1 c1_2 c1_3n c1_4n m177 g177_0 m178 g178_0 g178_1
            else
              none
          else
            none
      else
        none
    else
      none
  else
    bif (decide (x5 > 9)) then
      (saturatelaw12_lives.f).bind fun r9 =>
      some r9
    else
      (known_Apply.f c1_0 c1_1 c1_2 (c1_3n, g177_0) (c1_4n, g178_0, g178_1)).bind fun r10 =>
      saturatelaw12_KnownBest.j17 fu fu x3 x5 r10.2 false 0 c1_0 c1_1 c1_2 c1_3n c1_4n r10.1.1 r10.1.2 0 0 m177 g177_0 m178 g178_0 g178_1 := by kernel_rfl
noncomputable def saturatelaw12_KnownBest.g (fu : Nat) (a0 : Int × Int × Int × (Nat × (Nat → Int)) × (Nat × (Nat → Int) × (Nat → Int))) : Option (Bool) :=
  (saturateref12_Refused.f a0.1 a0.2.1 a0.2.2.1 (a0.2.2.2.1.1, a0.2.2.2.1.2) (a0.2.2.2.2.1 : Int)).bind fun r1 =>
  bif (r1.2 != 0) then
    (saturatelaw12_lives.f).bind fun r2 =>
    some r2
  else
    bif ((a0.2.2.2.2.1 : Int) == 0) then
      (saturatelaw12_lives.f).bind fun r3 =>
      some r3
    else
      (saturatelaw12_few.f (a0.1, a0.2.1, a0.2.2.1, (a0.2.2.2.1.1, a0.2.2.2.1.2), (a0.2.2.2.2.1, a0.2.2.2.2.2.1, a0.2.2.2.2.2.2))).bind fun r4 =>
      bif (!r4) then
        (saturatelaw12_lives.f).bind fun r5 =>
        some r5
      else
        (saturatelaw12_best.f (a0.1, a0.2.1, a0.2.2.1, (a0.2.2.2.1.1, a0.2.2.2.1.2), (a0.2.2.2.2.1, a0.2.2.2.2.2.1, a0.2.2.2.2.2.2))).bind fun r6 =>
        bif (!r6) then
          (saturatelaw12_lives.f).bind fun r7 =>
          some r7
        else
          saturatelaw12_KnownBest.j6 fu fu r1.1 0 0 a0.1 a0.2.1 a0.2.2.1 a0.2.2.2.1.1 a0.2.2.2.2.1 a0.2.2.2.1.1 a0.2.2.2.1.2 a0.2.2.2.2.1 a0.2.2.2.2.2.1 a0.2.2.2.2.2.2
noncomputable def saturatelaw12_KnownBest.f (a0 : Int × Int × Int × (Nat × (Nat → Int)) × (Nat × (Nat → Int) × (Nat → Int))) : Option (Bool) := saturatelaw12_KnownBest.g (fuel0 + 1) a0
theorem saturatelaw12_KnownBest.eq (fu : Nat) (a : (Int × Int × Int × (Nat × (Nat → Int)) × (Nat × (Nat → Int) × (Nat → Int))) × Unit) : bodyK Try.prog saturatelaw12_KnownBest.cs saturatelaw12_KnownBest.live fu Try.f4 (saturatelaw12_KnownBest.a.enc a) saturatelaw12_KnownBest.r.dec = saturatelaw12_KnownBest.g fu a.1 := by kernel_rfl
theorem saturatelaw12_KnownBest.con : ∀ (a : (Int × Int × Int × (Nat × (Nat → Int)) × (Nat × (Nat → Int) × (Nat → Int))) × Unit) (r : Bool), saturatelaw12_KnownBest.f a.1 = some r → Contract Try.prog 4 (saturatelaw12_KnownBest.a.enc a) (saturatelaw12_KnownBest.r.enc r) := Contract.of_body (F := fun (a : (Int × Int × Int × (Nat × (Nat → Int)) × (Nat × (Nat → Int) × (Nat → Int))) × Unit) => saturatelaw12_KnownBest.f a.1) (fn := Try.f4) (cs := saturatelaw12_KnownBest.cs) (live := saturatelaw12_KnownBest.live) (fuel := fuel0 + 1) (by kernel_rfl) (by kernel_rfl) mixed (saturatelaw12_KnownBest.eq (fuel0 + 1))
noncomputable def saturatelaw12_KnownBest.c : Kn Try.prog := Kn.of 4 saturatelaw12_KnownBest.a saturatelaw12_KnownBest.r (fun a => saturatelaw12_KnownBest.f a.1) saturatelaw12_KnownBest.con

/-! ### saturateref12_Meet: function 22 -/
def saturateref12_Meet.a : ACods (Int × (Int × Int) × (Int × Int) × Unit) := (.cons (.val (.int .i64)) (.cons (.val (.agg (.cons (.int .u64) (.one (.int .u64))))) (.cons (.val (.agg (.cons (.int .u64) (.one (.int .u64))))) .nil)))
def saturateref12_Meet.r : RCod ((Int × Int) × Bool) := .val (.tup (.cons (.agg (.cons (.int .u64) (.one (.int .u64)))) (.one (.bool))))
noncomputable def saturateref12_Meet.cs : List (Kn Try.prog) := [saturateref12_Of.c, saturateref12_Top.c]
def saturateref12_Meet.live : Nat → Option Keep := liveOf []
noncomputable def saturateref12_Meet.body : Code := bodyOf Try.f22
noncomputable def saturateref12_Meet.K (fu : Nat) : Code → St → (Ex → St → Option ((Int × Int) × Bool)) → Option ((Int × Int) × Bool) := codeK Try.prog saturateref12_Meet.cs saturateref12_Meet.live fu
noncomputable def saturateref12_Meet.f (a0 : Int) (a1 : Int × Int) (a2 : Int × Int) : Option ((Int × Int) × Bool) :=
  (saturateref12_Of.f a0 (a1.1, a1.2)).bind fun r1 =>
  (saturateref12_Of.f a0 (a2.1, a2.2)).bind fun r2 =>
  bif ((Go.bits .and .u64 (Go.bits .or .u64 r1.1 r2.1) (Go.bits .or .u64 r1.2 r2.2)) != 0) then
    (saturateref12_Top.f).bind fun r3 =>
    some ((r3.1, r3.2), false)
  else
    some (((Go.bits .or .u64 r1.1 r2.1), (Go.bits .or .u64 r1.2 r2.2)), true)
theorem saturateref12_Meet.eq (fu : Nat) (a : Int × (Int × Int) × (Int × Int) × Unit) : bodyK Try.prog saturateref12_Meet.cs saturateref12_Meet.live fu Try.f22 (saturateref12_Meet.a.enc a) saturateref12_Meet.r.dec = saturateref12_Meet.f a.1 a.2.1 a.2.2.1 := by kernel_rfl
theorem saturateref12_Meet.con : ∀ (a : Int × (Int × Int) × (Int × Int) × Unit) (r : (Int × Int) × Bool), saturateref12_Meet.f a.1 a.2.1 a.2.2.1 = some r → Contract Try.prog 22 (saturateref12_Meet.a.enc a) (saturateref12_Meet.r.enc r) := Contract.of_body (F := fun (a : Int × (Int × Int) × (Int × Int) × Unit) => saturateref12_Meet.f a.1 a.2.1 a.2.2.1) (fn := Try.f22) (cs := saturateref12_Meet.cs) (live := saturateref12_Meet.live) (fuel := fuel0 + 1) (by kernel_rfl) (by kernel_rfl) mixed (saturateref12_Meet.eq (fuel0 + 1))
noncomputable def saturateref12_Meet.c : Kn Try.prog := Kn.of 22 saturateref12_Meet.a saturateref12_Meet.r (fun a => saturateref12_Meet.f a.1 a.2.1 a.2.2.1) saturateref12_Meet.con

/-! ### known_Leq: function 24 -/
def known_Leq.a : ACods (Int × (Int × Int) × (Int × Int) × Unit) := (.cons (.val (.int .i64)) (.cons (.val (.agg (.cons (.int .u64) (.one (.int .u64))))) (.cons (.val (.agg (.cons (.int .u64) (.one (.int .u64))))) .nil)))
def known_Leq.r : RCod (Bool) := .val (.bool)
noncomputable def known_Leq.cs : List (Kn Try.prog) := [known_Meet.c, known_of.c]
def known_Leq.live : Nat → Option Keep := liveOf []
noncomputable def known_Leq.body : Code := bodyOf Try.f24
noncomputable def known_Leq.K (fu : Nat) : Code → St → (Ex → St → Option (Bool)) → Option (Bool) := codeK Try.prog known_Leq.cs known_Leq.live fu
noncomputable def known_Leq.f (a0 : Int) (a1 : Int × Int) (a2 : Int × Int) : Option (Bool) :=
  (known_Meet.f a0 (a1.1, a1.2) (a2.1, a2.2)).bind fun r1 =>
  bif r1.2 then
    (known_of.f a0 (a1.1, a1.2)).bind fun r2 =>
    some ((r1.1.1 == r2.1) && ((r1.1.2 == r2.2) && true))
  else
    some false
theorem known_Leq.eq (fu : Nat) (a : Int × (Int × Int) × (Int × Int) × Unit) : bodyK Try.prog known_Leq.cs known_Leq.live fu Try.f24 (known_Leq.a.enc a) known_Leq.r.dec = known_Leq.f a.1 a.2.1 a.2.2.1 := by kernel_rfl
theorem known_Leq.con : ∀ (a : Int × (Int × Int) × (Int × Int) × Unit) (r : Bool), known_Leq.f a.1 a.2.1 a.2.2.1 = some r → Contract Try.prog 24 (known_Leq.a.enc a) (known_Leq.r.enc r) := Contract.of_body (F := fun (a : Int × (Int × Int) × (Int × Int) × Unit) => known_Leq.f a.1 a.2.1 a.2.2.1) (fn := Try.f24) (cs := known_Leq.cs) (live := known_Leq.live) (fuel := fuel0 + 1) (by kernel_rfl) (by kernel_rfl) mixed (known_Leq.eq (fuel0 + 1))
noncomputable def known_Leq.c : Kn Try.prog := Kn.of 24 known_Leq.a known_Leq.r (fun a => known_Leq.f a.1 a.2.1 a.2.2.1) known_Leq.con

/-! ### saturateref12_Leq: function 25 -/
def saturateref12_Leq.a : ACods (Int × (Int × Int) × (Int × Int) × Unit) := (.cons (.val (.int .i64)) (.cons (.val (.agg (.cons (.int .u64) (.one (.int .u64))))) (.cons (.val (.agg (.cons (.int .u64) (.one (.int .u64))))) .nil)))
def saturateref12_Leq.r : RCod (Bool) := .val (.bool)
noncomputable def saturateref12_Leq.cs : List (Kn Try.prog) := [saturateref12_Of.c]
def saturateref12_Leq.live : Nat → Option Keep := liveOf []
noncomputable def saturateref12_Leq.body : Code := bodyOf Try.f25
noncomputable def saturateref12_Leq.K (fu : Nat) : Code → St → (Ex → St → Option (Bool)) → Option (Bool) := codeK Try.prog saturateref12_Leq.cs saturateref12_Leq.live fu
noncomputable def saturateref12_Leq.f (a0 : Int) (a1 : Int × Int) (a2 : Int × Int) : Option (Bool) :=
  (saturateref12_Of.f a0 (a1.1, a1.2)).bind fun r1 =>
  (saturateref12_Of.f a0 (a2.1, a2.2)).bind fun r2 =>
  bif ((Go.bits .and .u64 r2.1 r1.1) == r2.1) then
    some ((Go.bits .and .u64 r2.2 r1.2) == r2.2)
  else
    some false
theorem saturateref12_Leq.eq (fu : Nat) (a : Int × (Int × Int) × (Int × Int) × Unit) : bodyK Try.prog saturateref12_Leq.cs saturateref12_Leq.live fu Try.f25 (saturateref12_Leq.a.enc a) saturateref12_Leq.r.dec = saturateref12_Leq.f a.1 a.2.1 a.2.2.1 := by kernel_rfl
theorem saturateref12_Leq.con : ∀ (a : Int × (Int × Int) × (Int × Int) × Unit) (r : Bool), saturateref12_Leq.f a.1 a.2.1 a.2.2.1 = some r → Contract Try.prog 25 (saturateref12_Leq.a.enc a) (saturateref12_Leq.r.enc r) := Contract.of_body (F := fun (a : Int × (Int × Int) × (Int × Int) × Unit) => saturateref12_Leq.f a.1 a.2.1 a.2.2.1) (fn := Try.f25) (cs := saturateref12_Leq.cs) (live := saturateref12_Leq.live) (fuel := fuel0 + 1) (by kernel_rfl) (by kernel_rfl) mixed (saturateref12_Leq.eq (fuel0 + 1))
noncomputable def saturateref12_Leq.c : Kn Try.prog := Kn.of 25 saturateref12_Leq.a saturateref12_Leq.r (fun a => saturateref12_Leq.f a.1 a.2.1 a.2.2.1) saturateref12_Leq.con

/-! ### saturatelaw12_KnownPairs: function 5 -/
def saturatelaw12_KnownPairs.a : ACods (Int × (Int × Int) × (Int × Int) × Unit) := (.cons (.val (.int .i64)) (.cons (.val (.agg (.cons (.int .u64) (.one (.int .u64))))) (.cons (.val (.agg (.cons (.int .u64) (.one (.int .u64))))) .nil)))
def saturatelaw12_KnownPairs.r : RCod (Bool) := .val (.bool)
noncomputable def saturatelaw12_KnownPairs.cs : List (Kn Try.prog) := [known_Meet.c, saturateref12_Meet.c, known_Join.c, saturateref12_Join.c, known_Leq.c, saturateref12_Leq.c, known_Add.c, saturateref12_Add.c, known_Sub.c, saturateref12_Sub.c, saturatelaw12_lives.c]
def saturatelaw12_KnownPairs.live : Nat → Option Keep := liveOf []
noncomputable def saturatelaw12_KnownPairs.body : Code := bodyOf Try.f5
noncomputable def saturatelaw12_KnownPairs.K (fu : Nat) : Code → St → (Ex → St → Option (Bool)) → Option (Bool) := codeK Try.prog saturatelaw12_KnownPairs.cs saturatelaw12_KnownPairs.live fu
noncomputable def saturatelaw12_KnownPairs.f (a0 : Int) (a1 : Int × Int) (a2 : Int × Int) : Option (Bool) :=
  (known_Meet.f a0 (a1.1, a1.2) (a2.1, a2.2)).bind fun r1 =>
  (saturateref12_Meet.f a0 (a1.1, a1.2) (a2.1, a2.2)).bind fun r2 =>
  bif ((r1.1.1 == r2.1.1) && ((r1.1.2 == r2.1.2) && true)) then
    bif (r1.2 == r2.2) then
      (known_Join.f a0 (a1.1, a1.2) (a2.1, a2.2)).bind fun r3 =>
      (saturateref12_Join.f a0 (a1.1, a1.2) (a2.1, a2.2)).bind fun r4 =>
      bif ((r3.1 == r4.1) && ((r3.2 == r4.2) && true)) then
        (known_Leq.f a0 (a1.1, a1.2) (a2.1, a2.2)).bind fun r5 =>
        (saturateref12_Leq.f a0 (a1.1, a1.2) (a2.1, a2.2)).bind fun r6 =>
        bif (r5 == r6) then
          (known_Add.f a0 (a1.1, a1.2) (a2.1, a2.2)).bind fun r7 =>
          (saturateref12_Add.f a0 (a1.1, a1.2) (a2.1, a2.2)).bind fun r8 =>
          bif ((r7.1 == r8.1) && ((r7.2 == r8.2) && true)) then
            (known_Sub.f a0 (a1.1, a1.2) (a2.1, a2.2)).bind fun r9 =>
            (saturateref12_Sub.f a0 (a1.1, a1.2) (a2.1, a2.2)).bind fun r10 =>
            bif ((r9.1 == r10.1) && ((r9.2 == r10.2) && true)) then
              (saturatelaw12_lives.f).bind fun r11 =>
              some r11
            else
              some false
          else
            some false
        else
          some false
      else
        some false
    else
      some false
  else
    some false
theorem saturatelaw12_KnownPairs.eq (fu : Nat) (a : Int × (Int × Int) × (Int × Int) × Unit) : bodyK Try.prog saturatelaw12_KnownPairs.cs saturatelaw12_KnownPairs.live fu Try.f5 (saturatelaw12_KnownPairs.a.enc a) saturatelaw12_KnownPairs.r.dec = saturatelaw12_KnownPairs.f a.1 a.2.1 a.2.2.1 := by kernel_rfl
theorem saturatelaw12_KnownPairs.con : ∀ (a : Int × (Int × Int) × (Int × Int) × Unit) (r : Bool), saturatelaw12_KnownPairs.f a.1 a.2.1 a.2.2.1 = some r → Contract Try.prog 5 (saturatelaw12_KnownPairs.a.enc a) (saturatelaw12_KnownPairs.r.enc r) := Contract.of_body (F := fun (a : Int × (Int × Int) × (Int × Int) × Unit) => saturatelaw12_KnownPairs.f a.1 a.2.1 a.2.2.1) (fn := Try.f5) (cs := saturatelaw12_KnownPairs.cs) (live := saturatelaw12_KnownPairs.live) (fuel := fuel0 + 1) (by kernel_rfl) (by kernel_rfl) mixed (saturatelaw12_KnownPairs.eq (fuel0 + 1))
noncomputable def saturatelaw12_KnownPairs.c : Kn Try.prog := Kn.of 5 saturatelaw12_KnownPairs.a saturatelaw12_KnownPairs.r (fun a => saturatelaw12_KnownPairs.f a.1 a.2.1 a.2.2.1) saturatelaw12_KnownPairs.con

/-! ### known_Has: function 31 -/
def known_Has.a : ACods (Int × (Int × Int) × Int × Unit) := (.cons (.val (.int .i64)) (.cons (.val (.agg (.cons (.int .u64) (.one (.int .u64))))) (.cons (.val (.int .u64)) .nil)))
def known_Has.r : RCod (Bool) := .val (.bool)
noncomputable def known_Has.cs : List (Kn Try.prog) := [known_of.c, bits_Cut.c]
def known_Has.live : Nat → Option Keep := liveOf []
noncomputable def known_Has.body : Code := bodyOf Try.f31
noncomputable def known_Has.K (fu : Nat) : Code → St → (Ex → St → Option (Bool)) → Option (Bool) := codeK Try.prog known_Has.cs known_Has.live fu
noncomputable def known_Has.f (a0 : Int) (a1 : Int × Int) (a2 : Int) : Option (Bool) :=
  (known_of.f a0 (a1.1, a1.2)).bind fun r1 =>
  (bits_Cut.f a0 a2).bind fun r2 =>
  bif ((Go.bits .and .u64 r2 r1.1) == 0) then
    some ((Go.bits .and .u64 r2 r1.2) == r1.2)
  else
    some false
theorem known_Has.eq (fu : Nat) (a : Int × (Int × Int) × Int × Unit) : bodyK Try.prog known_Has.cs known_Has.live fu Try.f31 (known_Has.a.enc a) known_Has.r.dec = known_Has.f a.1 a.2.1 a.2.2.1 := by kernel_rfl
theorem known_Has.con : ∀ (a : Int × (Int × Int) × Int × Unit) (r : Bool), known_Has.f a.1 a.2.1 a.2.2.1 = some r → Contract Try.prog 31 (known_Has.a.enc a) (known_Has.r.enc r) := Contract.of_body (F := fun (a : Int × (Int × Int) × Int × Unit) => known_Has.f a.1 a.2.1 a.2.2.1) (fn := Try.f31) (cs := known_Has.cs) (live := known_Has.live) (fuel := fuel0 + 1) (by kernel_rfl) (by kernel_rfl) mixed (known_Has.eq (fuel0 + 1))
noncomputable def known_Has.c : Kn Try.prog := Kn.of 31 known_Has.a known_Has.r (fun a => known_Has.f a.1 a.2.1 a.2.2.1) known_Has.con

/-! ### saturatelaw12_KnownSound: function 6 -/
def saturatelaw12_KnownSound.a : ACods ((Int × Int × Int × (Nat × (Nat → Int)) × (Nat × (Nat → Int) × (Nat → Int))) × (Nat × (Nat → Int)) × Unit) := (.cons (.pk (.cons (.val (.int .i64)) (.cons (.val (.int .i64)) (.cons (.val (.int .u64)) (.cons (.rows (.int1 .i64)) (.one (.rows (.int .u64 (.int1 .u64))))))))) (.cons (.rows (.int1 .u64)) .nil))
def saturatelaw12_KnownSound.r : RCod (Bool) := .val (.bool)
noncomputable def saturatelaw12_KnownSound.cs : List (Kn Try.prog) := [saturatelaw12_few.c, saturatelaw12_lives.c, known_Apply.c, saturateref12_Refused.c, saturateref12_Has.c, saturatelaw12_result.c, saturateref12_Valid.c, known_Has.c]
def saturatelaw12_KnownSound.live : Nat → Option Keep := liveOf [(21, ⟨[1, 2, 5, 7, 9], [1, 2, 5, 111, 112], []⟩)]
noncomputable def saturatelaw12_KnownSound.body : Code := bodyOf Try.f6
noncomputable def saturatelaw12_KnownSound.K (fu : Nat) : Code → St → (Ex → St → Option (Bool)) → Option (Bool) := codeK Try.prog saturatelaw12_KnownSound.cs saturatelaw12_KnownSound.live fu
noncomputable def saturatelaw12_KnownSound.j10 (fu : Nat) (n10 : Nat) (x1n : Nat) (x7 : Int) (x9 : Int) (m1 : Nat) (g1_0 : Nat → Int) (c2_0 : Int) (c2_1 : Int) (c2_2 : Int) (c2_3n : Nat) (c2_4n : Nat) (c5_0 : Int) (c5_1 : Int) (m111 : Nat) (g111_0 : Nat → Int) (m112 : Nat) (g112_0 : Nat → Int) (g112_1 : Nat → Int) : Option Bool :=
  loopK (saturatelaw12_KnownSound.K fu (sub saturatelaw12_KnownSound.body [true, true, true, true, true, true, false, true, false, false])) (saturatelaw12_KnownSound.live 21) n10 (stOfX 108 113 [(1, .sl 1 1 x1n), (2, .ptr 2 0 0 0), (5, .ptr 5 0 0 0), (7, .val (.int .i64 x7)), (9, .val (.int .i64 x9))] [(1, .ext m1 [.int .u64 g1_0]), (2, .own [.val (.int .i64 c2_0), .val (.int .i64 c2_1), .val (.int .u64 c2_2), .sl 111 1 c2_3n, .sl 112 2 c2_4n]), (5, .own [.val (.int .u64 c5_0), .val (.int .u64 c5_1)]), (111, .ext m111 [.int .i64 g111_0]), (112, .ext m112 [.int .u64 g112_0, .int .u64 g112_1])]) (blockC 0 (seqC fu (saturatelaw12_KnownSound.live 28) (saturatelaw12_KnownSound.K fu (sub saturatelaw12_KnownSound.body [true, true, true, true, true, true, true])) (retC Try.prog Try.f6.results saturatelaw12_KnownSound.r.dec)))
theorem saturatelaw12_KnownSound.j10_succ (fu : Nat) (n10 : Nat) (x1n : Nat) (x7 : Int) (x9 : Int) (m1 : Nat) (g1_0 : Nat → Int) (c2_0 : Int) (c2_1 : Int) (c2_2 : Int) (c2_3n : Nat) (c2_4n : Nat) (c5_0 : Int) (c5_1 : Int) (m111 : Nat) (g111_0 : Nat → Int) (m112 : Nat) (g112_0 : Nat → Int) (g112_1 : Nat → Int) : saturatelaw12_KnownSound.j10 fu (n10 + 1) x1n x7 x9 m1 g1_0 c2_0 c2_1 c2_2 c2_3n c2_4n c5_0 c5_1 m111 g111_0 m112 g112_0 g112_1 =
  bif (decide (x9 < (x1n : Int))) then
    bif decide (0 ≤ x9) then
      bif decide (x9 < (c2_3n : Int)) then
        bif decide (0 ≤ x9) then
          bif decide (x9 < (c2_4n : Int)) then
            bif decide (0 ≤ x9) then
              bif decide (x9 < (x1n : Int)) then
                (saturateref12_Has.f (g111_0 x9.toNat) ((g112_0 x9.toNat), (g112_1 x9.toNat)) (g1_0 x9.toNat)).bind fun r8 =>
                bif (!r8) then
                  (saturatelaw12_lives.f).bind fun r9 =>
                  some r9
                else
                  saturatelaw12_KnownSound.j10 fu n10 x1n x7 (IntKind.i64.wrap (x9 + 1)) m1 g1_0 c2_0 c2_1 c2_2 c2_3n c2_4n c5_0 c5_1 m111 g111_0 m112 g112_0 g112_1
              else
                none
            else
              none
          else
            none
        else
          none
      else
        none
    else
      none
  else
    (saturatelaw12_result.f (c2_0, c2_1, c2_2, (c2_3n, g111_0), (c2_4n, g112_0, g112_1)) (x1n, g1_0)).bind fun r10 =>
    bif r10.2 then
      (saturateref12_Valid.f x7 (c5_0, c5_1)).bind fun r11 =>
      bif r11 then
        (known_Has.f x7 (c5_0, c5_1) r10.1).bind fun r12 =>
        bif r12 then
          (saturatelaw12_lives.f).bind fun r13 =>
          some r13
        else
          some false
      else
        some false
    else
      some false := by kernel_rfl
noncomputable def saturatelaw12_KnownSound.g (fu : Nat) (a0 : Int × Int × Int × (Nat × (Nat → Int)) × (Nat × (Nat → Int) × (Nat → Int))) (a1 : Nat × (Nat → Int)) : Option (Bool) :=
  (saturatelaw12_few.f (a0.1, a0.2.1, a0.2.2.1, (a0.2.2.2.1.1, a0.2.2.2.1.2), (a0.2.2.2.2.1, a0.2.2.2.2.2.1, a0.2.2.2.2.2.2))).bind fun r1 =>
  bif (!r1) then
    (saturatelaw12_lives.f).bind fun r2 =>
    some r2
  else
    bif ((a1.1 : Int) != (a0.2.2.2.2.1 : Int)) then
      (saturatelaw12_lives.f).bind fun r3 =>
      some r3
    else
      bif (a0.1 == 1) then
        (saturatelaw12_lives.f).bind fun r4 =>
        some r4
      else
        (known_Apply.f a0.1 a0.2.1 a0.2.2.1 (a0.2.2.2.1.1, a0.2.2.2.1.2) (a0.2.2.2.2.1, a0.2.2.2.2.2.1, a0.2.2.2.2.2.2)).bind fun r5 =>
        (saturateref12_Refused.f a0.1 a0.2.1 a0.2.2.1 (a0.2.2.2.1.1, a0.2.2.2.1.2) (a0.2.2.2.2.1 : Int)).bind fun r6 =>
        bif (r5.2 != r6.2) then
          some false
        else
          bif (r6.2 != 0) then
            (saturatelaw12_lives.f).bind fun r7 =>
            some r7
          else
            saturatelaw12_KnownSound.j10 fu fu a1.1 r6.1 0 a1.1 a1.2 a0.1 a0.2.1 a0.2.2.1 a0.2.2.2.1.1 a0.2.2.2.2.1 r5.1.1 r5.1.2 a0.2.2.2.1.1 a0.2.2.2.1.2 a0.2.2.2.2.1 a0.2.2.2.2.2.1 a0.2.2.2.2.2.2
noncomputable def saturatelaw12_KnownSound.f (a0 : Int × Int × Int × (Nat × (Nat → Int)) × (Nat × (Nat → Int) × (Nat → Int))) (a1 : Nat × (Nat → Int)) : Option (Bool) := saturatelaw12_KnownSound.g (fuel0 + 1) a0 a1
theorem saturatelaw12_KnownSound.eq (fu : Nat) (a : (Int × Int × Int × (Nat × (Nat → Int)) × (Nat × (Nat → Int) × (Nat → Int))) × (Nat × (Nat → Int)) × Unit) : bodyK Try.prog saturatelaw12_KnownSound.cs saturatelaw12_KnownSound.live fu Try.f6 (saturatelaw12_KnownSound.a.enc a) saturatelaw12_KnownSound.r.dec = saturatelaw12_KnownSound.g fu a.1 a.2.1 := by kernel_rfl
theorem saturatelaw12_KnownSound.con : ∀ (a : (Int × Int × Int × (Nat × (Nat → Int)) × (Nat × (Nat → Int) × (Nat → Int))) × (Nat × (Nat → Int)) × Unit) (r : Bool), saturatelaw12_KnownSound.f a.1 a.2.1 = some r → Contract Try.prog 6 (saturatelaw12_KnownSound.a.enc a) (saturatelaw12_KnownSound.r.enc r) := Contract.of_body (F := fun (a : (Int × Int × Int × (Nat × (Nat → Int)) × (Nat × (Nat → Int) × (Nat → Int))) × (Nat × (Nat → Int)) × Unit) => saturatelaw12_KnownSound.f a.1 a.2.1) (fn := Try.f6) (cs := saturatelaw12_KnownSound.cs) (live := saturatelaw12_KnownSound.live) (fuel := fuel0 + 1) (by kernel_rfl) (by kernel_rfl) mixed (saturatelaw12_KnownSound.eq (fuel0 + 1))
noncomputable def saturatelaw12_KnownSound.c : Kn Try.prog := Kn.of 6 saturatelaw12_KnownSound.a saturatelaw12_KnownSound.r (fun a => saturatelaw12_KnownSound.f a.1 a.2.1) saturatelaw12_KnownSound.con

/-! ### saturatelaw12_KnownMonotone: function 7 -/
def saturatelaw12_KnownMonotone.a : ACods ((Int × Int × Int × (Nat × (Nat → Int)) × (Nat × (Nat → Int) × (Nat → Int))) × (Nat × (Nat → Int) × (Nat → Int)) × Unit) := (.cons (.pk (.cons (.val (.int .i64)) (.cons (.val (.int .i64)) (.cons (.val (.int .u64)) (.cons (.rows (.int1 .i64)) (.one (.rows (.int .u64 (.int1 .u64))))))))) (.cons (.rows (.int .u64 (.int1 .u64))) .nil))
def saturatelaw12_KnownMonotone.r : RCod (Bool) := .val (.bool)
noncomputable def saturatelaw12_KnownMonotone.cs : List (Kn Try.prog) := [saturateref12_Refused.c, saturatelaw12_lives.c, saturatelaw12_few.c, saturateref12_Join.c, known_Apply.c, known_Leq.c]
def saturatelaw12_KnownMonotone.live : Nat → Option Keep := liveOf [(13, ⟨[1, 2, 5, 7, 8], [1, 2, 7, 113, 114], [(7, 31, [.int .u64 (fun _ => 0), .int .u64 (fun _ => 0)])]⟩)]
noncomputable def saturatelaw12_KnownMonotone.body : Code := bodyOf Try.f7
noncomputable def saturatelaw12_KnownMonotone.K (fu : Nat) : Code → St → (Ex → St → Option (Bool)) → Option (Bool) := codeK Try.prog saturatelaw12_KnownMonotone.cs saturatelaw12_KnownMonotone.live fu
noncomputable def saturatelaw12_KnownMonotone.j6 (fu : Nat) (n6 : Nat) (x1n : Nat) (x5 : Int) (x7n : Nat) (x8 : Int) (m1 : Nat) (g1_0 : Nat → Int) (g1_1 : Nat → Int) (c2_0 : Int) (c2_1 : Int) (c2_2 : Int) (c2_3n : Nat) (c2_4n : Nat) (m7 : Nat) (g7_0 : Nat → Int) (g7_1 : Nat → Int) (m113 : Nat) (g113_0 : Nat → Int) (m114 : Nat) (g114_0 : Nat → Int) (g114_1 : Nat → Int) : Option Bool :=
  loopK (saturatelaw12_KnownMonotone.K fu (sub saturatelaw12_KnownMonotone.body [true, true, true, true, false, true, false, false])) (saturatelaw12_KnownMonotone.live 13) n6 (stOfX 110 115 [(1, .sl 1 2 x1n), (2, .ptr 2 0 0 0), (5, .val (.int .i64 x5)), (7, .sl 7 2 x7n), (8, .val (.int .i64 x8))] [(1, .ext m1 [.int .u64 g1_0, .int .u64 g1_1]), (2, .own [.val (.int .i64 c2_0), .val (.int .i64 c2_1), .val (.int .u64 c2_2), .sl 113 1 c2_3n, .sl 114 2 c2_4n]), (7, .grow 31 m7 [.int .u64 g7_0, .int .u64 g7_1]), (113, .ext m113 [.int .i64 g113_0]), (114, .ext m114 [.int .u64 g114_0, .int .u64 g114_1])]) (blockC 0 (seqC fu (saturatelaw12_KnownMonotone.live 18) (saturatelaw12_KnownMonotone.K fu (sub saturatelaw12_KnownMonotone.body [true, true, true, true, true])) (retC Try.prog Try.f7.results saturatelaw12_KnownMonotone.r.dec)))
theorem saturatelaw12_KnownMonotone.j6_succ (fu : Nat) (n6 : Nat) (x1n : Nat) (x5 : Int) (x7n : Nat) (x8 : Int) (m1 : Nat) (g1_0 : Nat → Int) (g1_1 : Nat → Int) (c2_0 : Int) (c2_1 : Int) (c2_2 : Int) (c2_3n : Nat) (c2_4n : Nat) (m7 : Nat) (g7_0 : Nat → Int) (g7_1 : Nat → Int) (m113 : Nat) (g113_0 : Nat → Int) (m114 : Nat) (g114_0 : Nat → Int) (g114_1 : Nat → Int) : saturatelaw12_KnownMonotone.j6 fu (n6 + 1) x1n x5 x7n x8 m1 g1_0 g1_1 c2_0 c2_1 c2_2 c2_3n c2_4n m7 g7_0 g7_1 m113 g113_0 m114 g114_0 g114_1 =
  bif (decide (x8 < (x1n : Int))) then
    bif decide (0 ≤ x8) then
      bif decide (x8 < (c2_3n : Int)) then
        bif decide (0 ≤ x8) then
          bif decide (x8 < (c2_4n : Int)) then
            bif decide (0 ≤ x8) then
              bif decide (x8 < (x1n : Int)) then
                (saturateref12_Join.f (g113_0 x8.toNat) ((g114_0 x8.toNat), (g114_1 x8.toNat)) ((g1_0 x8.toNat), (g1_1 x8.toNat))).bind fun r6 =>
                bif Nat.ble ((x7n + 1) * 16) 140737488355328 then
                  saturatelaw12_KnownMonotone.j6 fu n6 x1n x5 (x7n + 1) (IntKind.i64.wrap (x8 + 1)) m1 g1_0 g1_1 c2_0 c2_1 c2_2 c2_3n c2_4n (x7n + 1) (cat x7n g7_0 (fun i => [r6.1].getD i 0)) (cat x7n g7_1 (fun i => [r6.2].getD i 0)) m113 g113_0 m114 g114_0 g114_1
                else
                  none
              else
                none
            else
              none
          else
            none
        else
          none
      else
        none
    else
      none
  else
    (known_Apply.f c2_0 c2_1 c2_2 (c2_3n, g113_0) (c2_4n, g114_0, g114_1)).bind fun r7 =>
    (known_Apply.f c2_0 c2_1 c2_2 (c2_3n, g113_0) (x7n, g7_0, g7_1)).bind fun r8 =>
    bif (r7.2 == 0) then
      bif (r8.2 == 0) then
        (known_Leq.f x5 (r7.1.1, r7.1.2) (r8.1.1, r8.1.2)).bind fun r9 =>
        bif r9 then
          (saturatelaw12_lives.f).bind fun r10 =>
          some r10
        else
          some false
      else
        some false
    else
      some false := by kernel_rfl
noncomputable def saturatelaw12_KnownMonotone.g (fu : Nat) (a0 : Int × Int × Int × (Nat × (Nat → Int)) × (Nat × (Nat → Int) × (Nat → Int))) (a1 : Nat × (Nat → Int) × (Nat → Int)) : Option (Bool) :=
  (saturateref12_Refused.f a0.1 a0.2.1 a0.2.2.1 (a0.2.2.2.1.1, a0.2.2.2.1.2) (a0.2.2.2.2.1 : Int)).bind fun r1 =>
  bif (r1.2 != 0) then
    (saturatelaw12_lives.f).bind fun r2 =>
    some r2
  else
    (saturatelaw12_few.f (a0.1, a0.2.1, a0.2.2.1, (a0.2.2.2.1.1, a0.2.2.2.1.2), (a0.2.2.2.2.1, a0.2.2.2.2.2.1, a0.2.2.2.2.2.2))).bind fun r3 =>
    bif (!r3) then
      (saturatelaw12_lives.f).bind fun r4 =>
      some r4
    else
      bif ((a1.1 : Int) != (a0.2.2.2.2.1 : Int)) then
        (saturatelaw12_lives.f).bind fun r5 =>
        some r5
      else
        saturatelaw12_KnownMonotone.j6 fu fu a1.1 r1.1 0 0 a1.1 a1.2.1 a1.2.2 a0.1 a0.2.1 a0.2.2.1 a0.2.2.2.1.1 a0.2.2.2.2.1 0 (fun _ => 0) (fun _ => 0) a0.2.2.2.1.1 a0.2.2.2.1.2 a0.2.2.2.2.1 a0.2.2.2.2.2.1 a0.2.2.2.2.2.2
noncomputable def saturatelaw12_KnownMonotone.f (a0 : Int × Int × Int × (Nat × (Nat → Int)) × (Nat × (Nat → Int) × (Nat → Int))) (a1 : Nat × (Nat → Int) × (Nat → Int)) : Option (Bool) := saturatelaw12_KnownMonotone.g (fuel0 + 1) a0 a1
theorem saturatelaw12_KnownMonotone.eq (fu : Nat) (a : (Int × Int × Int × (Nat × (Nat → Int)) × (Nat × (Nat → Int) × (Nat → Int))) × (Nat × (Nat → Int) × (Nat → Int)) × Unit) : bodyK Try.prog saturatelaw12_KnownMonotone.cs saturatelaw12_KnownMonotone.live fu Try.f7 (saturatelaw12_KnownMonotone.a.enc a) saturatelaw12_KnownMonotone.r.dec = saturatelaw12_KnownMonotone.g fu a.1 a.2.1 := by kernel_rfl
theorem saturatelaw12_KnownMonotone.con : ∀ (a : (Int × Int × Int × (Nat × (Nat → Int)) × (Nat × (Nat → Int) × (Nat → Int))) × (Nat × (Nat → Int) × (Nat → Int)) × Unit) (r : Bool), saturatelaw12_KnownMonotone.f a.1 a.2.1 = some r → Contract Try.prog 7 (saturatelaw12_KnownMonotone.a.enc a) (saturatelaw12_KnownMonotone.r.enc r) := Contract.of_body (F := fun (a : (Int × Int × Int × (Nat × (Nat → Int)) × (Nat × (Nat → Int) × (Nat → Int))) × (Nat × (Nat → Int) × (Nat → Int)) × Unit) => saturatelaw12_KnownMonotone.f a.1 a.2.1) (fn := Try.f7) (cs := saturatelaw12_KnownMonotone.cs) (live := saturatelaw12_KnownMonotone.live) (fuel := fuel0 + 1) (by kernel_rfl) (by kernel_rfl) mixed (saturatelaw12_KnownMonotone.eq (fuel0 + 1))
noncomputable def saturatelaw12_KnownMonotone.c : Kn Try.prog := Kn.of 7 saturatelaw12_KnownMonotone.a saturatelaw12_KnownMonotone.r (fun a => saturatelaw12_KnownMonotone.f a.1 a.2.1) saturatelaw12_KnownMonotone.con

/-! ### saturatelaw12_KnownBounds: function 8 -/
def saturatelaw12_KnownBounds.a : ACods (Int × (Int × Int) × (Int × Int) × (Int × Int) × Unit) := (.cons (.val (.int .i64)) (.cons (.val (.agg (.cons (.int .u64) (.one (.int .u64))))) (.cons (.val (.agg (.cons (.int .u64) (.one (.int .u64))))) (.cons (.val (.agg (.cons (.int .u64) (.one (.int .u64))))) .nil))))
def saturatelaw12_KnownBounds.r : RCod (Bool) := .val (.bool)
noncomputable def saturatelaw12_KnownBounds.cs : List (Kn Try.prog) := [known_Meet.c, known_Join.c, known_Valid.c, known_Leq.c, saturatelaw12_lives.c]
def saturatelaw12_KnownBounds.live : Nat → Option Keep := liveOf [(10, ⟨[0, 5, 6, 7, 9, 10, 11], [5, 6, 7, 9, 11], []⟩), (14, ⟨[0, 5, 6, 7], [5, 6, 7], []⟩)]
noncomputable def saturatelaw12_KnownBounds.body : Code := bodyOf Try.f8
noncomputable def saturatelaw12_KnownBounds.K (fu : Nat) : Code → St → (Ex → St → Option (Bool)) → Option (Bool) := codeK Try.prog saturatelaw12_KnownBounds.cs saturatelaw12_KnownBounds.live fu
noncomputable def saturatelaw12_KnownBounds.p5 (m fu : Nat) (x0 : Int) (x10 : Bool) (c5_0 : Int) (c5_1 : Int) (c6_0 : Int) (c6_1 : Int) (c7_0 : Int) (c7_1 : Int) (c9_0 : Int) (c9_1 : Int) (c11_0 : Int) (c11_1 : Int) : Option Bool :=
  joinK m (saturatelaw12_KnownBounds.K fu (sub saturatelaw12_KnownBounds.body [true, true, true, true])) (stOf 131 [(0, .val (.int .i64 x0)), (5, .ptr 5 0 0 0), (6, .ptr 6 0 0 0), (7, .ptr 7 0 0 0), (9, .ptr 9 0 0 0), (10, .val (.bool x10)), (11, .ptr 11 0 0 0)] [(5, .own [.val (.int .u64 c5_0), .val (.int .u64 c5_1)]), (6, .own [.val (.int .u64 c6_0), .val (.int .u64 c6_1)]), (7, .own [.val (.int .u64 c7_0), .val (.int .u64 c7_1)]), (9, .own [.val (.int .u64 c9_0), .val (.int .u64 c9_1)]), (11, .own [.val (.int .u64 c11_0), .val (.int .u64 c11_1)])]) (retC Try.prog Try.f8.results saturatelaw12_KnownBounds.r.dec)
noncomputable def saturatelaw12_KnownBounds.p7 (m fu : Nat) (x0 : Int) (c5_0 : Int) (c5_1 : Int) (c6_0 : Int) (c6_1 : Int) (c7_0 : Int) (c7_1 : Int) : Option Bool :=
  joinK m (saturatelaw12_KnownBounds.K fu (sub saturatelaw12_KnownBounds.body [true, true, true, true, true])) (stOf 131 [(0, .val (.int .i64 x0)), (5, .ptr 5 0 0 0), (6, .ptr 6 0 0 0), (7, .ptr 7 0 0 0)] [(5, .own [.val (.int .u64 c5_0), .val (.int .u64 c5_1)]), (6, .own [.val (.int .u64 c6_0), .val (.int .u64 c6_1)]), (7, .own [.val (.int .u64 c7_0), .val (.int .u64 c7_1)])]) (retC Try.prog Try.f8.results saturatelaw12_KnownBounds.r.dec)
theorem saturatelaw12_KnownBounds.p7_eq (m fu : Nat) (x0 : Int) (c5_0 : Int) (c5_1 : Int) (c6_0 : Int) (c6_1 : Int) (c7_0 : Int) (c7_1 : Int) : saturatelaw12_KnownBounds.p7 (m + 1) fu x0 c5_0 c5_1 c6_0 c6_1 c7_0 c7_1 =
  (known_Leq.f x0 (c5_0, c5_1) (c5_0, c5_1)).bind fun r15 =>
  bif r15 then
    (known_Leq.f x0 (c5_0, c5_1) (c6_0, c6_1)).bind fun r16 =>
    bif (!r16) then
      (saturatelaw12_lives.f).bind fun r17 =>
      some r17
    else
      (known_Leq.f x0 (c6_0, c6_1) (c7_0, c7_1)).bind fun r18 =>
      bif (!r18) then
        (saturatelaw12_lives.f).bind fun r19 =>
        some r19
      else
        (known_Leq.f x0 (c5_0, c5_1) (c7_0, c7_1)).bind fun r20 =>
        bif r20 then
          (saturatelaw12_lives.f).bind fun r21 =>
          some r21
        else
          some false
  else
    some false := by kernel_rfl
theorem saturatelaw12_KnownBounds.p5_eq (m fu : Nat) (x0 : Int) (x10 : Bool) (c5_0 : Int) (c5_1 : Int) (c6_0 : Int) (c6_1 : Int) (c7_0 : Int) (c7_1 : Int) (c9_0 : Int) (c9_1 : Int) (c11_0 : Int) (c11_1 : Int) : saturatelaw12_KnownBounds.p5 (m + 1) fu x0 x10 c5_0 c5_1 c6_0 c6_1 c7_0 c7_1 c9_0 c9_1 c11_0 c11_1 =
  (known_Leq.f x0 (c5_0, c5_1) (c7_0, c7_1)).bind fun r9 =>
  bif r9 then
    (known_Leq.f x0 (c6_0, c6_1) (c7_0, c7_1)).bind fun r10 =>
    bif r10 then
      (known_Leq.f x0 (c11_0, c11_1) (c7_0, c7_1)).bind fun r11 =>
      bif (!r11) then
        some false
      else
        (known_Leq.f x0 (c7_0, c7_1) (c5_0, c5_1)).bind fun r12 =>
        bif r12 then
          (known_Leq.f x0 (c7_0, c7_1) (c6_0, c6_1)).bind fun r13 =>
          bif r13 then
            bif (!x10) then
              some false
            else
              (known_Leq.f x0 (c7_0, c7_1) (c9_0, c9_1)).bind fun r14 =>
              bif (!r14) then
                some false
              else
                saturatelaw12_KnownBounds.p7 fu fu x0 c5_0 c5_1 c6_0 c6_1 c7_0 c7_1
          else
            saturatelaw12_KnownBounds.p7 fu fu x0 c5_0 c5_1 c6_0 c6_1 c7_0 c7_1
        else
          saturatelaw12_KnownBounds.p7 fu fu x0 c5_0 c5_1 c6_0 c6_1 c7_0 c7_1
    else
      (known_Leq.f x0 (c7_0, c7_1) (c5_0, c5_1)).bind fun r22 =>
      bif r22 then
        (known_Leq.f x0 (c7_0, c7_1) (c6_0, c6_1)).bind fun r23 =>
        bif r23 then
          bif (!x10) then
            some false
          else
            (known_Leq.f x0 (c7_0, c7_1) (c9_0, c9_1)).bind fun r24 =>
            bif (!r24) then
              some false
            else
              saturatelaw12_KnownBounds.p7 fu fu x0 c5_0 c5_1 c6_0 c6_1 c7_0 c7_1
        else
          saturatelaw12_KnownBounds.p7 fu fu x0 c5_0 c5_1 c6_0 c6_1 c7_0 c7_1
      else
        saturatelaw12_KnownBounds.p7 fu fu x0 c5_0 c5_1 c6_0 c6_1 c7_0 c7_1
  else
    (known_Leq.f x0 (c7_0, c7_1) (c5_0, c5_1)).bind fun r25 =>
    bif r25 then
      (known_Leq.f x0 (c7_0, c7_1) (c6_0, c6_1)).bind fun r26 =>
      bif r26 then
        bif (!x10) then
          some false
        else
          (known_Leq.f x0 (c7_0, c7_1) (c9_0, c9_1)).bind fun r27 =>
          bif (!r27) then
            some false
          else
            saturatelaw12_KnownBounds.p7 fu fu x0 c5_0 c5_1 c6_0 c6_1 c7_0 c7_1
      else
        saturatelaw12_KnownBounds.p7 fu fu x0 c5_0 c5_1 c6_0 c6_1 c7_0 c7_1
    else
      saturatelaw12_KnownBounds.p7 fu fu x0 c5_0 c5_1 c6_0 c6_1 c7_0 c7_1 := by kernel_rfl
noncomputable def saturatelaw12_KnownBounds.g (fu : Nat) (a0 : Int) (a1 : Int × Int) (a2 : Int × Int) (a3 : Int × Int) : Option (Bool) :=
  (known_Meet.f a0 (a1.1, a1.2) (a2.1, a2.2)).bind fun r1 =>
  (known_Join.f a0 (a1.1, a1.2) (a2.1, a2.2)).bind fun r2 =>
  (known_Valid.f a0 (r2.1, r2.2)).bind fun r3 =>
  bif (!r3) then
    some false
  else
    (known_Valid.f a0 (r1.1.1, r1.1.2)).bind fun r4 =>
    bif (!r4) then
      some false
    else
      (known_Leq.f a0 (a1.1, a1.2) (r2.1, r2.2)).bind fun r5 =>
      bif (!r5) then
        some false
      else
        (known_Leq.f a0 (a2.1, a2.2) (r2.1, r2.2)).bind fun r6 =>
        bif (!r6) then
          some false
        else
          bif r1.2 then
            (known_Leq.f a0 (r1.1.1, r1.1.2) (a1.1, a1.2)).bind fun r7 =>
            bif (!r7) then
              some false
            else
              (known_Leq.f a0 (r1.1.1, r1.1.2) (a2.1, a2.2)).bind fun r8 =>
              bif (!r8) then
                some false
              else
                saturatelaw12_KnownBounds.p5 fu fu a0 r1.2 a1.1 a1.2 a2.1 a2.2 a3.1 a3.2 r1.1.1 r1.1.2 r2.1 r2.2
          else
            saturatelaw12_KnownBounds.p5 fu fu a0 r1.2 a1.1 a1.2 a2.1 a2.2 a3.1 a3.2 r1.1.1 r1.1.2 r2.1 r2.2
noncomputable def saturatelaw12_KnownBounds.f (a0 : Int) (a1 : Int × Int) (a2 : Int × Int) (a3 : Int × Int) : Option (Bool) := saturatelaw12_KnownBounds.g (fuel0 + 1) a0 a1 a2 a3
theorem saturatelaw12_KnownBounds.eq (fu : Nat) (a : Int × (Int × Int) × (Int × Int) × (Int × Int) × Unit) : bodyK Try.prog saturatelaw12_KnownBounds.cs saturatelaw12_KnownBounds.live fu Try.f8 (saturatelaw12_KnownBounds.a.enc a) saturatelaw12_KnownBounds.r.dec = saturatelaw12_KnownBounds.g fu a.1 a.2.1 a.2.2.1 a.2.2.2.1 := by kernel_rfl
theorem saturatelaw12_KnownBounds.con : ∀ (a : Int × (Int × Int) × (Int × Int) × (Int × Int) × Unit) (r : Bool), saturatelaw12_KnownBounds.f a.1 a.2.1 a.2.2.1 a.2.2.2.1 = some r → Contract Try.prog 8 (saturatelaw12_KnownBounds.a.enc a) (saturatelaw12_KnownBounds.r.enc r) := Contract.of_body (F := fun (a : Int × (Int × Int) × (Int × Int) × (Int × Int) × Unit) => saturatelaw12_KnownBounds.f a.1 a.2.1 a.2.2.1 a.2.2.2.1) (fn := Try.f8) (cs := saturatelaw12_KnownBounds.cs) (live := saturatelaw12_KnownBounds.live) (fuel := fuel0 + 1) (by kernel_rfl) (by kernel_rfl) mixed (saturatelaw12_KnownBounds.eq (fuel0 + 1))
noncomputable def saturatelaw12_KnownBounds.c : Kn Try.prog := Kn.of 8 saturatelaw12_KnownBounds.a saturatelaw12_KnownBounds.r (fun a => saturatelaw12_KnownBounds.f a.1 a.2.1 a.2.2.1 a.2.2.2.1) saturatelaw12_KnownBounds.con

/-! ### known_Top: function 35 -/
def known_Top.a : ACods (Int × Unit) := (.cons (.val (.int .i64)) .nil)
def known_Top.r : RCod (Int × Int) := .val (.agg (.cons (.int .u64) (.one (.int .u64))))
noncomputable def known_Top.cs : List (Kn Try.prog) := []
def known_Top.live : Nat → Option Keep := liveOf []
noncomputable def known_Top.body : Code := bodyOf Try.f35
noncomputable def known_Top.K (fu : Nat) : Code → St → (Ex → St → Option (Int × Int)) → Option (Int × Int) := codeK Try.prog known_Top.cs known_Top.live fu
noncomputable def known_Top.f (a0 : Int) : Option (Int × Int) :=
  some (0, 0)
theorem known_Top.eq (fu : Nat) (a : Int × Unit) : bodyK Try.prog known_Top.cs known_Top.live fu Try.f35 (known_Top.a.enc a) known_Top.r.dec = known_Top.f a.1 := by kernel_rfl
theorem known_Top.con : ∀ (a : Int × Unit) (r : Int × Int), known_Top.f a.1 = some r → Contract Try.prog 35 (known_Top.a.enc a) (known_Top.r.enc r) := Contract.of_body (F := fun (a : Int × Unit) => known_Top.f a.1) (fn := Try.f35) (cs := known_Top.cs) (live := known_Top.live) (fuel := fuel0 + 1) (by kernel_rfl) (by kernel_rfl) mixed (known_Top.eq (fuel0 + 1))
noncomputable def known_Top.c : Kn Try.prog := Kn.of 35 known_Top.a known_Top.r (fun a => known_Top.f a.1) known_Top.con

/-! ### saturateref12_Size: function 39 -/
def saturateref12_Size.a : ACods (Int × (Int × Int) × Unit) := (.cons (.val (.int .i64)) (.cons (.val (.agg (.cons (.int .u64) (.one (.int .u64))))) .nil))
def saturateref12_Size.r : RCod (Int) := .val (.int .i64)
noncomputable def saturateref12_Size.cs : List (Kn Try.prog) := [saturateref12_Of.c, saturateref01_W.c, saturateref01_Count.c]
def saturateref12_Size.live : Nat → Option Keep := liveOf []
noncomputable def saturateref12_Size.body : Code := bodyOf Try.f39
noncomputable def saturateref12_Size.K (fu : Nat) : Code → St → (Ex → St → Option (Int)) → Option (Int) := codeK Try.prog saturateref12_Size.cs saturateref12_Size.live fu
noncomputable def saturateref12_Size.f (a0 : Int) (a1 : Int × Int) : Option (Int) :=
  (saturateref12_Of.f a0 (a1.1, a1.2)).bind fun r1 =>
  (saturateref01_W.f a0).bind fun r2 =>
  (saturateref01_Count.f r1.1).bind fun r3 =>
  (saturateref01_Count.f r1.2).bind fun r4 =>
  some (IntKind.i64.wrap ((IntKind.i64.wrap (r2 - r3)) - r4))
theorem saturateref12_Size.eq (fu : Nat) (a : Int × (Int × Int) × Unit) : bodyK Try.prog saturateref12_Size.cs saturateref12_Size.live fu Try.f39 (saturateref12_Size.a.enc a) saturateref12_Size.r.dec = saturateref12_Size.f a.1 a.2.1 := by kernel_rfl
theorem saturateref12_Size.con : ∀ (a : Int × (Int × Int) × Unit) (r : Int), saturateref12_Size.f a.1 a.2.1 = some r → Contract Try.prog 39 (saturateref12_Size.a.enc a) (saturateref12_Size.r.enc r) := Contract.of_body (F := fun (a : Int × (Int × Int) × Unit) => saturateref12_Size.f a.1 a.2.1) (fn := Try.f39) (cs := saturateref12_Size.cs) (live := saturateref12_Size.live) (fuel := fuel0 + 1) (by kernel_rfl) (by kernel_rfl) mixed (saturateref12_Size.eq (fuel0 + 1))
noncomputable def saturateref12_Size.c : Kn Try.prog := Kn.of 39 saturateref12_Size.a saturateref12_Size.r (fun a => saturateref12_Size.f a.1 a.2.1) saturateref12_Size.con

/-! ### saturatelaw12_KnownElements: function 9 -/
def saturatelaw12_KnownElements.a : ACods (Int × (Int × Int) × Int × Unit) := (.cons (.val (.int .i64)) (.cons (.val (.agg (.cons (.int .u64) (.one (.int .u64))))) (.cons (.val (.int .u64)) .nil)))
def saturatelaw12_KnownElements.r : RCod (Bool) := .val (.bool)
noncomputable def saturatelaw12_KnownElements.cs : List (Kn Try.prog) := [known_Single.c, saturateref12_Single.c, known_Top.c, saturateref12_Top.c, known_Const.c, saturateref12_Const.c, known_Valid.c, saturateref12_Valid.c, known_Has.c, saturateref12_Has.c, known_Size.c, saturateref12_Size.c, saturatelaw12_lives.c]
def saturatelaw12_KnownElements.live : Nat → Option Keep := liveOf []
noncomputable def saturatelaw12_KnownElements.body : Code := bodyOf Try.f9
noncomputable def saturatelaw12_KnownElements.K (fu : Nat) : Code → St → (Ex → St → Option (Bool)) → Option (Bool) := codeK Try.prog saturatelaw12_KnownElements.cs saturatelaw12_KnownElements.live fu
noncomputable def saturatelaw12_KnownElements.f (a0 : Int) (a1 : Int × Int) (a2 : Int) : Option (Bool) :=
  (known_Single.f a0 (a1.1, a1.2)).bind fun r1 =>
  (saturateref12_Single.f a0 (a1.1, a1.2)).bind fun r2 =>
  bif (r1.1 == r2.1) then
    bif (r1.2 == r2.2) then
      (known_Top.f a0).bind fun r3 =>
      (saturateref12_Top.f).bind fun r4 =>
      bif ((r3.1 == r4.1) && ((r3.2 == r4.2) && true)) then
        (known_Const.f a0 a2).bind fun r5 =>
        (saturateref12_Const.f a0 a2).bind fun r6 =>
        bif ((r5.1 == r6.1) && ((r5.2 == r6.2) && true)) then
          (known_Valid.f a0 (a1.1, a1.2)).bind fun r7 =>
          (saturateref12_Valid.f a0 (a1.1, a1.2)).bind fun r8 =>
          bif (r7 == r8) then
            (known_Has.f a0 (a1.1, a1.2) a2).bind fun r9 =>
            (saturateref12_Has.f a0 (a1.1, a1.2) a2).bind fun r10 =>
            bif (r9 == r10) then
              (known_Size.f a0 (a1.1, a1.2)).bind fun r11 =>
              (saturateref12_Size.f a0 (a1.1, a1.2)).bind fun r12 =>
              bif (r11 == r12) then
                (saturatelaw12_lives.f).bind fun r13 =>
                some r13
              else
                some false
            else
              some false
          else
            some false
        else
          some false
      else
        some false
    else
      some false
  else
    some false
theorem saturatelaw12_KnownElements.eq (fu : Nat) (a : Int × (Int × Int) × Int × Unit) : bodyK Try.prog saturatelaw12_KnownElements.cs saturatelaw12_KnownElements.live fu Try.f9 (saturatelaw12_KnownElements.a.enc a) saturatelaw12_KnownElements.r.dec = saturatelaw12_KnownElements.f a.1 a.2.1 a.2.2.1 := by kernel_rfl
theorem saturatelaw12_KnownElements.con : ∀ (a : Int × (Int × Int) × Int × Unit) (r : Bool), saturatelaw12_KnownElements.f a.1 a.2.1 a.2.2.1 = some r → Contract Try.prog 9 (saturatelaw12_KnownElements.a.enc a) (saturatelaw12_KnownElements.r.enc r) := Contract.of_body (F := fun (a : Int × (Int × Int) × Int × Unit) => saturatelaw12_KnownElements.f a.1 a.2.1 a.2.2.1) (fn := Try.f9) (cs := saturatelaw12_KnownElements.cs) (live := saturatelaw12_KnownElements.live) (fuel := fuel0 + 1) (by kernel_rfl) (by kernel_rfl) mixed (saturatelaw12_KnownElements.eq (fuel0 + 1))
noncomputable def saturatelaw12_KnownElements.c : Kn Try.prog := Kn.of 9 saturatelaw12_KnownElements.a saturatelaw12_KnownElements.r (fun a => saturatelaw12_KnownElements.f a.1 a.2.1 a.2.2.1) saturatelaw12_KnownElements.con
end Go.Proofs.Ytbfniopkadaheaa.Fn
