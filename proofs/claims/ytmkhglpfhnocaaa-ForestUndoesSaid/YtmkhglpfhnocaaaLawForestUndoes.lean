/- ForestUndoes: the function returns true whatever its input, and what it was given reads as it did. No condition. -/
import Derived.Test.YtmkhglpfhnocaaaRows
import Derived.Test.YtmkhglpfhnocaaaChecked
import Derived.Test.YtmkhglpfhnocaaaLr
import Derived.Test.YtmkhglpfhnocaaaLg
import Derived.WalkKit
import Derived.ProofKit
import Derived.OpenShut
import Derived.ShutString
import Derived.ChangeOld
import Derived.Below
import Derived.SizedLaws
namespace Go.Proofs.Ytmkhglpfhnocaaa.forestUndoes
open Go Go.ChangeShapes Go.WideShapes Go.ChangeAt Go.RowKit Go.Proofs.Ytmkhglpfhnocaaa.Ev Go.Proofs.Ytmkhglpfhnocaaa.Fn
set_option linter.unusedVariables false
set_option maxRecDepth 100000
theorem own : ownKnob Try.prog.godebug = none := by kernel_rfl
theorem laidOut : laidOutB Try.prog = true := by kernel_rfl
theorem lifted (os : Os) (started : os.Started) (H : Type) (enc : TypeId × Value → H) :
    ReturnsInHanded {} Try.checked os 8 .any (Rows.forestUndoesSpec.pre6 enc Try.prog Try.f8 Rows.forestUndoesRow.domain false) (Rows.forestUndoesSpec.post enc Try.prog Try.f8 false true false false) := by
  refine returnsInHanded_of_change_sized (C := Try.checked) own started (by kernel_rfl) Try.func8
    (ChangeSpec.witness6 (enc := enc) (C := Try.checked) false ⟨#[], #[.slice none 0 0, .int .i64 0, .int .i64 0, .int .i64 0], []⟩ 8 (by kernel_rfl) (by kernel_rfl) (by kernel_rfl) (by kernel_rfl)) ?_
  intro W base args ds gs before hval0 hW hcnd hsz0 _
  have hLaid : LaidW W := fun _ _ _ h => by cases h
  have hval : ∀ (j : Nat) t v, Try.f8.params[j]? = some t → args[j]? = some v → Value.okWide Try.prog W .any base t v := hval0
  have hW' := hW
  obtain ⟨p, q, hA0, hV, rfl, hfz, hnd⟩ := hW
  have hA : DataW.TrodAll enc Try.prog W 0 (fun _ => true) true Try.f8.params.toList args.toList ds p := hA0
  rw [Try.params8] at hA hval
  obtain ⟨v0, vs0, d0, ds0, p0, q0, hargs, rfl, rfl, h0, r0⟩ := trodAll_cons hA
  obtain ⟨v1, vs1, d1, ds1, p1, q1, rfl, rfl, rfl, h1, r1⟩ := trodAll_cons r0
  obtain ⟨v2, vs2, d2, ds2, p2, q2, rfl, rfl, rfl, h2, r2⟩ := trodAll_cons r1
  obtain ⟨v3, vs3, d3, ds3, p3, q3, rfl, rfl, rfl, h3, r3⟩ := trodAll_cons r2
  obtain ⟨rfl, rfl, rfl⟩ := trodAll_nil r3
  obtain rfl : args = #[v0, v1, v2, v3] := by cases args; simp_all
  obtain ⟨rfl, rfl⟩ := trodVars_none hV
  have hw0 : ∀ m ∈ d0.weights Try.prog 22, m ≤ reachBytes := fun m hm => by
    have := List.all_eq_true.1 hsz0 m (DataW.weights_mem_each (j := 0) (t := 22) (d := d0) (by kernel_rfl) rfl m hm)
    simpa using this
  have lt0 : ∀ x ∈ p0, x.block < W.heap.size := by obtain ⟨m, hm⟩ := h0; exact DataW.trod_lt m _ _ _ hm
  have o0 := open_arg 8 (ls := [.rows 35 [.bool, .int .i64, .int .i64, .int .i64]]) (by kernel_rfl) h0 hw0
  obtain ⟨A0, len0, cap0, rfl⟩ := okWide_slice Try.underlying22 (hval 0 22 v0 rfl rfl)
  replace o0 : All2 (LfOk Try.prog W) [.rows 35 [.bool, .int .i64, .int .i64, .int .i64]] [.slice A0 len0 cap0] := o0
  obtain ⟨b0_0, m0_0, e0, y0_0, x0_0⟩ := All2.cons o0
  obtain rfl := All2.nil x0_0
  obtain rfl := (List.cons.inj e0).1
  obtain ⟨A0, n0, c0, fs0, he0, hb0, hr0, hf0⟩ := y0_0
  cases he0
  obtain ⟨fg0_0, kg0_0, rfl, ⟨g0_0, rfl⟩, hfg0_0⟩ := All2.cons hf0
  obtain ⟨fg0_1, kg0_1, rfl, ⟨g0_1, rfl, wg0_1⟩, hfg0_1⟩ := All2.cons hfg0_0
  obtain ⟨fg0_2, kg0_2, rfl, ⟨g0_2, rfl, wg0_2⟩, hfg0_2⟩ := All2.cons hfg0_1
  obtain ⟨fg0_3, kg0_3, rfl, ⟨g0_3, rfl, wg0_3⟩, hfg0_3⟩ := All2.cons hfg0_2
  obtain rfl := All2.nil hfg0_3
  have hw1 : ∀ m ∈ d1.weights Try.prog 3, m ≤ reachBytes := fun m hm => by
    have := List.all_eq_true.1 hsz0 m (DataW.weights_mem_each (j := 1) (t := 3) (d := d1) (by kernel_rfl) rfl m hm)
    simpa using this
  have lt1 : ∀ x ∈ p1, x.block < W.heap.size := by obtain ⟨m, hm⟩ := h1; exact DataW.trod_lt m _ _ _ hm
  have o1 := open_arg 8 (ls := [.one (.int .i64)]) (by kernel_rfl) h1 hw1
  obtain ⟨z1, rfl⟩ := okWide_int Try.underlying3 (hval 1 3 v1 rfl rfl)
  replace o1 : All2 (LfOk Try.prog W) [.one (.int .i64)] [.int .i64 z1] := o1
  obtain ⟨b1_0, m1_0, e1, y1_0, x1_0⟩ := All2.cons o1
  obtain rfl := All2.nil x1_0
  obtain rfl := (List.cons.inj e1).1
  obtain ⟨a1, he1, w1⟩ := y1_0
  cases he1
  have hw2 : ∀ m ∈ d2.weights Try.prog 3, m ≤ reachBytes := fun m hm => by
    have := List.all_eq_true.1 hsz0 m (DataW.weights_mem_each (j := 2) (t := 3) (d := d2) (by kernel_rfl) rfl m hm)
    simpa using this
  have lt2 : ∀ x ∈ p2, x.block < W.heap.size := by obtain ⟨m, hm⟩ := h2; exact DataW.trod_lt m _ _ _ hm
  have o2 := open_arg 8 (ls := [.one (.int .i64)]) (by kernel_rfl) h2 hw2
  obtain ⟨z2, rfl⟩ := okWide_int Try.underlying3 (hval 2 3 v2 rfl rfl)
  replace o2 : All2 (LfOk Try.prog W) [.one (.int .i64)] [.int .i64 z2] := o2
  obtain ⟨b2_0, m2_0, e2, y2_0, x2_0⟩ := All2.cons o2
  obtain rfl := All2.nil x2_0
  obtain rfl := (List.cons.inj e2).1
  obtain ⟨a2, he2, w2⟩ := y2_0
  cases he2
  have hw3 : ∀ m ∈ d3.weights Try.prog 3, m ≤ reachBytes := fun m hm => by
    have := List.all_eq_true.1 hsz0 m (DataW.weights_mem_each (j := 3) (t := 3) (d := d3) (by kernel_rfl) rfl m hm)
    simpa using this
  have lt3 : ∀ x ∈ p3, x.block < W.heap.size := by obtain ⟨m, hm⟩ := h3; exact DataW.trod_lt m _ _ _ hm
  have o3 := open_arg 8 (ls := [.one (.int .i64)]) (by kernel_rfl) h3 hw3
  obtain ⟨z3, rfl⟩ := okWide_int Try.underlying3 (hval 3 3 v3 rfl rfl)
  replace o3 : All2 (LfOk Try.prog W) [.one (.int .i64)] [.int .i64 z3] := o3
  obtain ⟨b3_0, m3_0, e3, y3_0, x3_0⟩ := All2.cons o3
  obtain rfl := All2.nil x3_0
  obtain rfl := (List.cons.inj e3).1
  obtain ⟨a3, he3, w3⟩ := y3_0
  cases he3
  have hc := Fn.undoes_calls (c := cap0) (acts_of hr0) z1 z2 z3
  refine hc.mono fun e W' hh => ?_
  obtain ⟨he, hk⟩ := hh
  have bel : Below W.heap.size W W' := ⟨hk.os, hk.tape, hk.output, hk.size, fun k hl => hk.block k hl id⟩
  subst he
  exact ⟨_, rfl, _, _, _, [], _, [], hW', trodAll_mk1 (shut_bool Try.underlying4 _), (trodAll_cons_mk (Below.trod laidOut (by kernel_rfl) (of_decide_eq_true (by kernel_rfl)) h0 bel lt0) (trodAll_cons_mk (Below.trod laidOut (by kernel_rfl) (of_decide_eq_true (by kernel_rfl)) h1 bel lt1) (trodAll_cons_mk (Below.trod laidOut (by kernel_rfl) (of_decide_eq_true (by kernel_rfl)) h2 bel lt2) (trodAll_cons_mk (Below.trod laidOut (by kernel_rfl) (of_decide_eq_true (by kernel_rfl)) h3 bel lt3) trodAll_mk0)))), rfl, bel.frame _, fun h => by cases h⟩
theorem over : Rows.forestUndoesRow.holds Try.pinned (OpenSpec.ofChange Rows.forestUndoesSpec) :=
  OpenClaim.holds_of_wide 8 Try.f8 rfl rfl rfl rfl rfl rfl rfl ⟨rfl, rfl, rfl, rfl, rfl⟩ rfl rfl rfl rfl rfl (by kernel_rfl) Try.func8 (by kernel_rfl)
    (of_decide_eq_true (by kernel_rfl)) (by unfold Func.isWrapper; first | (rw [if_pos (by decide +kernel)]; kernel_rfl) | (rw [if_neg (by decide +kernel)]; exact ⟨rfl, rfl⟩))
    (fun os started H enc _ => lifted os started H enc)
theorem proved : Rows.ForestUndoesSaid := over
#print axioms proved
end Go.Proofs.Ytmkhglpfhnocaaa.forestUndoes
namespace Go.Proofs.Ytmkhglpfhnocaaa
/-- The row, under a short name, for the claim. -/
theorem forestUndoes_holds : Rows.ForestUndoesSaid := forestUndoes.proved
end Go.Proofs.Ytmkhglpfhnocaaa
