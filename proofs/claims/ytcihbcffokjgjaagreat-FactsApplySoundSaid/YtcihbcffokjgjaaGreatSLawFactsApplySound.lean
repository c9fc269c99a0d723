/- FactsApplySound: the function returns true whatever its input, and what it was given reads as it did. No condition. -/
import Derived.Test.YtcihbcffokjgjaaGreatRows
import Derived.Test.YtcihbcffokjgjaaGreatChecked
import Derived.Test.YtcihbcffokjgjaaGreatSThFactsApplySound
import Derived.WalkKit
import Derived.ProofKit
import Derived.OpenShut
import Derived.ShutString
import Derived.ChangeOld
import Derived.Below
import Derived.SizedLaws
namespace Go.Proofs.YtcihbcffokjgjaaGreat.factsApplySound
open Go Go.ChangeShapes Go.WideShapes Go.ChangeAt Go.RowKit Go.Proofs.YtcihbcffokjgjaaGreat.Ev Go.Proofs.YtcihbcffokjgjaaGreat.Fn
set_option linter.unusedVariables false
set_option maxRecDepth 100000
theorem own : ownKnob Tryz.prog.godebug = none := by kernel_rfl
theorem laidOut : laidOutB Tryz.prog = true := by kernel_rfl
theorem lifted (os : Os) (started : os.Started) (H : Type) (enc : TypeId × Value → H) :
    ReturnsInHanded {} Tryz.checked os 6 .any (Rows.factsApplySoundSpec.pre6 enc Tryz.prog Tryz.f6 Rows.factsApplySoundRow.domain false) (Rows.factsApplySoundSpec.post enc Tryz.prog Tryz.f6 false true false false) := by
  refine returnsInHanded_of_change_sized (C := Tryz.checked) own started (by kernel_rfl) Tryz.func6
    (ChangeSpec.witness6 (enc := enc) (C := Tryz.checked) false ⟨#[], #[.int .i64 0, .int .i64 0, .int .u64 0, .slice none 0 0, .slice none 0 0], []⟩ 8 (by kernel_rfl) (by kernel_rfl) (by kernel_rfl) (by kernel_rfl)) ?_
  intro W base args ds gs before hval0 hW hcnd hsz0 _
  have hLaid : LaidW W := fun _ _ _ h => by cases h
  have hval : ∀ (j : Nat) t v, Tryz.f6.params[j]? = some t → args[j]? = some v → Value.okWide Tryz.prog W .any base t v := hval0
  have hW' := hW
  obtain ⟨p, q, hA0, hV, rfl, hfz, hnd⟩ := hW
  have hA : DataW.TrodAll enc Tryz.prog W 0 (fun _ => true) true Tryz.f6.params.toList args.toList ds p := hA0
  rw [Tryz.params6] at hA hval
  obtain ⟨v0, vs0, d0, ds0, p0, q0, hargs, rfl, rfl, h0, r0⟩ := trodAll_cons hA
  obtain ⟨v1, vs1, d1, ds1, p1, q1, rfl, rfl, rfl, h1, r1⟩ := trodAll_cons r0
  obtain ⟨v2, vs2, d2, ds2, p2, q2, rfl, rfl, rfl, h2, r2⟩ := trodAll_cons r1
  obtain ⟨v3, vs3, d3, ds3, p3, q3, rfl, rfl, rfl, h3, r3⟩ := trodAll_cons r2
  obtain ⟨v4, vs4, d4, ds4, p4, q4, rfl, rfl, rfl, h4, r4⟩ := trodAll_cons r3
  obtain ⟨rfl, rfl, rfl⟩ := trodAll_nil r4
  obtain rfl : args = #[v0, v1, v2, v3, v4] := by cases args; simp_all
  obtain ⟨rfl, rfl⟩ := trodVars_none hV
  have hw0 : ∀ m ∈ d0.weights Tryz.prog 22, m ≤ reachBytes := fun m hm => by
    have := List.all_eq_true.1 hsz0 m (DataW.weights_mem_each (j := 0) (t := 22) (d := d0) (by kernel_rfl) rfl m hm)
    simpa using this
  have lt0 : ∀ x ∈ p0, x.block < W.heap.size := by obtain ⟨m, hm⟩ := h0; exact DataW.trod_lt m _ _ _ hm
  have o0 := open_arg 8 (ls := [.one (.int .i64)]) (by kernel_rfl) h0 hw0
  obtain ⟨z0, rfl⟩ := okWide_int Tryz.underlying22 (hval 0 22 v0 rfl rfl)
  replace o0 : All2 (LfOk Tryz.prog W) [.one (.int .i64)] [.int .i64 z0] := o0
  obtain ⟨b0_0, m0_0, e0, y0_0, x0_0⟩ := All2.cons o0
  obtain rfl := All2.nil x0_0
  obtain rfl := (List.cons.inj e0).1
  obtain ⟨a0, he0, w0⟩ := y0_0
  cases he0
  have hw1 : ∀ m ∈ d1.weights Tryz.prog 3, m ≤ reachBytes := fun m hm => by
    have := List.all_eq_true.1 hsz0 m (DataW.weights_mem_each (j := 1) (t := 3) (d := d1) (by kernel_rfl) rfl m hm)
    simpa using this
  have lt1 : ∀ x ∈ p1, x.block < W.heap.size := by obtain ⟨m, hm⟩ := h1; exact DataW.trod_lt m _ _ _ hm
  have o1 := open_arg 8 (ls := [.one (.int .i64)]) (by kernel_rfl) h1 hw1
  obtain ⟨z1, rfl⟩ := okWide_int Tryz.underlying3 (hval 1 3 v1 rfl rfl)
  replace o1 : All2 (LfOk Tryz.prog W) [.one (.int .i64)] [.int .i64 z1] := o1
  obtain ⟨b1_0, m1_0, e1, y1_0, x1_0⟩ := All2.cons o1
  obtain rfl := All2.nil x1_0
  obtain rfl := (List.cons.inj e1).1
  obtain ⟨a1, he1, w1⟩ := y1_0
  cases he1
  have hw2 : ∀ m ∈ d2.weights Tryz.prog 23, m ≤ reachBytes := fun m hm => by
    have := List.all_eq_true.1 hsz0 m (DataW.weights_mem_each (j := 2) (t := 23) (d := d2) (by kernel_rfl) rfl m hm)
    simpa using this
  have lt2 : ∀ x ∈ p2, x.block < W.heap.size := by obtain ⟨m, hm⟩ := h2; exact DataW.trod_lt m _ _ _ hm
  have o2 := open_arg 8 (ls := [.one (.int .u64)]) (by kernel_rfl) h2 hw2
  obtain ⟨z2, rfl⟩ := okWide_int Tryz.underlying23 (hval 2 23 v2 rfl rfl)
  replace o2 : All2 (LfOk Tryz.prog W) [.one (.int .u64)] [.int .u64 z2] := o2
  obtain ⟨b2_0, m2_0, e2, y2_0, x2_0⟩ := All2.cons o2
  obtain rfl := All2.nil x2_0
  obtain rfl := (List.cons.inj e2).1
  obtain ⟨a2, he2, w2⟩ := y2_0
  cases he2
  have hw3 : ∀ m ∈ d3.weights Tryz.prog 24, m ≤ reachBytes := fun m hm => by
    have := List.all_eq_true.1 hsz0 m (DataW.weights_mem_each (j := 3) (t := 24) (d := d3) (by kernel_rfl) rfl m hm)
    simpa using this
  have lt3 : ∀ x ∈ p3, x.block < W.heap.size := by obtain ⟨m, hm⟩ := h3; exact DataW.trod_lt m _ _ _ hm
  have o3 := open_arg 8 (ls := [.rows 31 [.int .i64, .int .u64, .int .u64, .int .u64, .int .u64]]) (by kernel_rfl) h3 hw3
  obtain ⟨A3, len3, cap3, rfl⟩ := okWide_slice Tryz.underlying24 (hval 3 24 v3 rfl rfl)
  replace o3 : All2 (LfOk Tryz.prog W) [.rows 31 [.int .i64, .int .u64, .int .u64, .int .u64, .int .u64]] [.slice A3 len3 cap3] := o3
  obtain ⟨b3_0, m3_0, e3, y3_0, x3_0⟩ := All2.cons o3
  obtain rfl := All2.nil x3_0
  obtain rfl := (List.cons.inj e3).1
  obtain ⟨A3, n3, c3, fs3, he3, hb3, hr3, hf3⟩ := y3_0
  cases he3
  obtain ⟨fg3_0, kg3_0, rfl, ⟨g3_0, rfl, wg3_0⟩, hfg3_0⟩ := All2.cons hf3
  obtain ⟨fg3_1, kg3_1, rfl, ⟨g3_1, rfl, wg3_1⟩, hfg3_1⟩ := All2.cons hfg3_0
  obtain ⟨fg3_2, kg3_2, rfl, ⟨g3_2, rfl, wg3_2⟩, hfg3_2⟩ := All2.cons hfg3_1
  obtain ⟨fg3_3, kg3_3, rfl, ⟨g3_3, rfl, wg3_3⟩, hfg3_3⟩ := All2.cons hfg3_2
  obtain ⟨fg3_4, kg3_4, rfl, ⟨g3_4, rfl, wg3_4⟩, hfg3_4⟩ := All2.cons hfg3_3
  obtain rfl := All2.nil hfg3_4
  have hw4 : ∀ m ∈ d4.weights Tryz.prog 45, m ≤ reachBytes := fun m hm => by
    have := List.all_eq_true.1 hsz0 m (DataW.weights_mem_each (j := 4) (t := 45) (d := d4) (by kernel_rfl) rfl m hm)
    simpa using this
  have lt4 : ∀ x ∈ p4, x.block < W.heap.size := by obtain ⟨m, hm⟩ := h4; exact DataW.trod_lt m _ _ _ hm
  have o4 := open_arg 8 (ls := [.rows 23 [.int .u64]]) (by kernel_rfl) h4 hw4
  obtain ⟨A4, len4, cap4, rfl⟩ := okWide_slice Tryz.underlying45 (hval 4 45 v4 rfl rfl)
  replace o4 : All2 (LfOk Tryz.prog W) [.rows 23 [.int .u64]] [.slice A4 len4 cap4] := o4
  obtain ⟨b4_0, m4_0, e4, y4_0, x4_0⟩ := All2.cons o4
  obtain rfl := All2.nil x4_0
  obtain rfl := (List.cons.inj e4).1
  obtain ⟨A4, n4, c4, fs4, he4, hb4, hr4, hf4⟩ := y4_0
  cases he4
  obtain ⟨fg4_0, kg4_0, rfl, ⟨g4_0, rfl, wg4_0⟩, hfg4_0⟩ := All2.cons hf4
  obtain rfl := All2.nil hfg4_0
  have hp := Th.FactsApplySound _ _ _ _ _ _ _ _ _ _ _ w0 w1 w2 (show len3 * 40 ≤ reachBytes from hb3) wg3_0 wg3_1 wg3_2 wg3_3 wg3_4 (show len4 * 8 ≤ reachBytes from hb4) wg4_0
  have hC := saturatelaw14_FactsApplySound.con (_, _, _, _, _, ()) true hp
  refine (CallOk.calls (fn := Tryz.f6) (by kernel_rfl) (by kernel_rfl) (by kernel_rfl) (hC (fun _ => none) W #[_, _, _, .slice A3 len3 cap3, .slice A4 len4 cap4] (fun _ _ h => by cases h) hLaid (argsRel_of (All2.c (rfl) (All2.c (rfl) (All2.c (rfl) (All2.c (⟨_, _, rfl, hr3⟩) (All2.c (⟨_, _, rfl, hr4⟩) All2.n)))))))).mono fun e W' hh => ?_
  obtain ⟨y, he, bel, fz', _, _, hy⟩ := hh
  have hy' : y = .bool true := hy
  subst hy'
  subst he
  exact ⟨_, rfl, _, _, _, [], _, [], hW', trodAll_mk1 (shut_bool Tryz.underlying4 _), (trodAll_cons_mk (Below.trod laidOut (by kernel_rfl) (of_decide_eq_true (by kernel_rfl)) h0 bel lt0) (trodAll_cons_mk (Below.trod laidOut (by kernel_rfl) (of_decide_eq_true (by kernel_rfl)) h1 bel lt1) (trodAll_cons_mk (Below.trod laidOut (by kernel_rfl) (of_decide_eq_true (by kernel_rfl)) h2 bel lt2) (trodAll_cons_mk (Below.trod laidOut (by kernel_rfl) (of_decide_eq_true (by kernel_rfl)) h3 bel lt3) (trodAll_cons_mk (Below.trod laidOut (by kernel_rfl) (of_decide_eq_true (by kernel_rfl)) h4 bel lt4) trodAll_mk0))))), rfl, bel.frame _, fun h => by cases h⟩
theorem over : Rows.factsApplySoundRow.holds Tryz.pinned (OpenSpec.ofChange Rows.factsApplySoundSpec) :=
  OpenClaim.holds_of_wide 6 Tryz.f6 rfl rfl rfl rfl rfl rfl rfl ⟨rfl, rfl, rfl, rfl, rfl⟩ rfl rfl rfl rfl rfl (by kernel_rfl) Tryz.func6 (by kernel_rfl)
    (of_decide_eq_true (by kernel_rfl)) (by unfold Func.isWrapper; first | (rw [if_pos (by decide +kernel)]; kernel_rfl) | (rw [if_neg (by decide +kernel)]; exact ⟨rfl, rfl⟩))
    (fun os started H enc _ => lifted os started H enc)
theorem proved : Rows.FactsApplySoundSaid := over
#print axioms proved
end Go.Proofs.YtcihbcffokjgjaaGreat.factsApplySound
namespace Go.Proofs.YtcihbcffokjgjaaGreat
/-- The row, under a short name, for the claim. -/
theorem factsApplySound_holds : Rows.FactsApplySoundSaid := factsApplySound.proved
end Go.Proofs.YtcihbcffokjgjaaGreat
