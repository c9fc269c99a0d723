/- FactsReduces: the function returns true whatever its input, and what it was given reads as it did. No condition. -/
import Derived.Test.YtcihbcffokjgjaaGreatRows
import Derived.Test.YtcihbcffokjgjaaGreatChecked
import Derived.Test.YtcihbcffokjgjaaGreatThFactsReduces
import Derived.WalkKit
import Derived.ProofKit
import Derived.OpenShut
import Derived.ShutString
import Derived.ChangeOld
import Derived.Below
import Derived.SizedLaws
namespace Go.Proofs.YtcihbcffokjgjaaGreat.factsReduces
open Go Go.ChangeShapes Go.WideShapes Go.ChangeAt Go.RowKit Go.Proofs.YtcihbcffokjgjaaGreat.Ev Go.Proofs.YtcihbcffokjgjaaGreat.Fn
set_option linter.unusedVariables false
set_option maxRecDepth 100000
theorem own : ownKnob Tryz.prog.godebug = none := by kernel_rfl
theorem laidOut : laidOutB Tryz.prog = true := by kernel_rfl
theorem lifted (os : Os) (started : os.Started) (H : Type) (enc : TypeId × Value → H) :
    ReturnsInHanded {} Tryz.checked os 8 .any (Rows.factsReducesSpec.pre6 enc Tryz.prog Tryz.f8 Rows.factsReducesRow.domain false) (Rows.factsReducesSpec.post enc Tryz.prog Tryz.f8 false true false false) := by
  refine returnsInHanded_of_change_sized (C := Tryz.checked) own started (by kernel_rfl) Tryz.func8
    (ChangeSpec.witness6 (enc := enc) (C := Tryz.checked) false ⟨#[], #[.agg #[.int .i64 0, .int .u64 0, .int .u64 0, .int .u64 0, .int .u64 0], .agg #[.int .i64 0, .int .u64 0, .int .u64 0, .int .u64 0, .int .u64 0], .int .u64 0], []⟩ 8 (by kernel_rfl) (by kernel_rfl) (by kernel_rfl) (by kernel_rfl)) ?_
  intro W base args ds gs before hval0 hW hcnd hsz0 _
  have hLaid : LaidW W := fun _ _ _ h => by cases h
  have hval : ∀ (j : Nat) t v, Tryz.f8.params[j]? = some t → args[j]? = some v → Value.okWide Tryz.prog W .any base t v := hval0
  have hW' := hW
  obtain ⟨p, q, hA0, hV, rfl, hfz, hnd⟩ := hW
  have hA : DataW.TrodAll enc Tryz.prog W 0 (fun _ => true) true Tryz.f8.params.toList args.toList ds p := hA0
  rw [Tryz.params8] at hA hval
  obtain ⟨v0, vs0, d0, ds0, p0, q0, hargs, rfl, rfl, h0, r0⟩ := trodAll_cons hA
  obtain ⟨v1, vs1, d1, ds1, p1, q1, rfl, rfl, rfl, h1, r1⟩ := trodAll_cons r0
  obtain ⟨v2, vs2, d2, ds2, p2, q2, rfl, rfl, rfl, h2, r2⟩ := trodAll_cons r1
  obtain ⟨rfl, rfl, rfl⟩ := trodAll_nil r2
  obtain rfl : args = #[v0, v1, v2] := by cases args; simp_all
  obtain ⟨rfl, rfl⟩ := trodVars_none hV
  have hw0 : ∀ m ∈ d0.weights Tryz.prog 31, m ≤ reachBytes := fun m hm => by
    have := List.all_eq_true.1 hsz0 m (DataW.weights_mem_each (j := 0) (t := 31) (d := d0) (by kernel_rfl) rfl m hm)
    simpa using this
  have lt0 : ∀ x ∈ p0, x.block < W.heap.size := by obtain ⟨m, hm⟩ := h0; exact DataW.trod_lt m _ _ _ hm
  have o0 := open_arg 8 (ls := [.one (.int .i64), .one (.int .u64), .one (.int .u64), .one (.int .u64), .one (.int .u64)]) (by kernel_rfl) h0 hw0
  obtain ⟨cs0, rfl, hs0⟩ := okWide_struct Tryz.underlying31 (hval 0 31 v0 rfl rfl)
  replace o0 : All2 (LfOk Tryz.prog W) [.one (.int .i64), .one (.int .u64), .one (.int .u64), .one (.int .u64), .one (.int .u64)] cs0.toList := o0
  obtain ⟨b0_0, m0_0, e0, y0_0, x0_0⟩ := All2.cons o0
  obtain ⟨b0_1, m0_1, rfl, y0_1, x0_1⟩ := All2.cons x0_0
  obtain ⟨b0_2, m0_2, rfl, y0_2, x0_2⟩ := All2.cons x0_1
  obtain ⟨b0_3, m0_3, rfl, y0_3, x0_3⟩ := All2.cons x0_2
  obtain ⟨b0_4, m0_4, rfl, y0_4, x0_4⟩ := All2.cons x0_3
  obtain rfl := All2.nil x0_4
  obtain rfl : cs0 = #[b0_0, b0_1, b0_2, b0_3, b0_4] := Array.toList_inj.1 e0
  obtain ⟨a0_0, rfl, w0_0⟩ := y0_0
  obtain ⟨a0_1, rfl, w0_1⟩ := y0_1
  obtain ⟨a0_2, rfl, w0_2⟩ := y0_2
  obtain ⟨a0_3, rfl, w0_3⟩ := y0_3
  obtain ⟨a0_4, rfl, w0_4⟩ := y0_4
  have hw1 : ∀ m ∈ d1.weights Tryz.prog 31, m ≤ reachBytes := fun m hm => by
    have := List.all_eq_true.1 hsz0 m (DataW.weights_mem_each (j := 1) (t := 31) (d := d1) (by kernel_rfl) rfl m hm)
    simpa using this
  have lt1 : ∀ x ∈ p1, x.block < W.heap.size := by obtain ⟨m, hm⟩ := h1; exact DataW.trod_lt m _ _ _ hm
  have o1 := open_arg 8 (ls := [.one (.int .i64), .one (.int .u64), .one (.int .u64), .one (.int .u64), .one (.int .u64)]) (by kernel_rfl) h1 hw1
  obtain ⟨cs1, rfl, hs1⟩ := okWide_struct Tryz.underlying31 (hval 1 31 v1 rfl rfl)
  replace o1 : All2 (LfOk Tryz.prog W) [.one (.int .i64), .one (.int .u64), .one (.int .u64), .one (.int .u64), .one (.int .u64)] cs1.toList := o1
  obtain ⟨b1_0, m1_0, e1, y1_0, x1_0⟩ := All2.cons o1
  obtain ⟨b1_1, m1_1, rfl, y1_1, x1_1⟩ := All2.cons x1_0
  obtain ⟨b1_2, m1_2, rfl, y1_2, x1_2⟩ := All2.cons x1_1
  obtain ⟨b1_3, m1_3, rfl, y1_3, x1_3⟩ := All2.cons x1_2
  obtain ⟨b1_4, m1_4, rfl, y1_4, x1_4⟩ := All2.cons x1_3
  obtain rfl := All2.nil x1_4
  obtain rfl : cs1 = #[b1_0, b1_1, b1_2, b1_3, b1_4] := Array.toList_inj.1 e1
  obtain ⟨a1_0, rfl, w1_0⟩ := y1_0
  obtain ⟨a1_1, rfl, w1_1⟩ := y1_1
  obtain ⟨a1_2, rfl, w1_2⟩ := y1_2
  obtain ⟨a1_3, rfl, w1_3⟩ := y1_3
  obtain ⟨a1_4, rfl, w1_4⟩ := y1_4
  have hw2 : ∀ m ∈ d2.weights Tryz.prog 23, m ≤ reachBytes := fun m hm => by
    have := List.all_eq_true.1 hsz0 m (DataW.weights_mem_each (j := 2) (t := 23) (d := d2) (by kernel_rfl) rfl m hm)
    simpa using this
  have lt2 : ∀ x ∈ p2, x.block < W.heap.size := by obtain ⟨m, hm⟩ := h2; exact DataW.trod_lt m _ _ _ hm
  have o2 := open_arg 8 (ls := [.one (.int .u64)]) (by kernel_rfl) h2 hw2
  obtain ⟨z2, rfl⟩ := okWide_int Tryz.underlying23 (hval 2 23 v2 rfl rfl)
  replace o2 : All2 (LfOk Tryz.prog W) [.one (.int .u64)] [.int .u64 z2] := o2
  obtain ⟨b2_0, m2_0, e2, y2_0, x2_0⟩ := All2.cons o2
  obtain rfl := All2.nil x2_0
  obtain rfl := (List.cons.inj e2).1
  obtain ⟨a2, he2, w2⟩ := y2_0
  cases he2
  have hp := Th.FactsReduces _ _ _ _ _ _ _ _ _ _ _ w0_0 w0_1 w0_2 w0_3 w0_4 w1_0 w1_1 w1_2 w1_3 w1_4 w2
  have hC := saturatelaw14_FactsReduces.con (_, _, _, ()) true hp
  refine (CallOk.calls (fn := Tryz.f8) (by kernel_rfl) (by kernel_rfl) (by kernel_rfl) (hC (fun _ => none) W #[_, _, _] (fun _ _ h => by cases h) hLaid (argsRel_of (All2.c (rfl) (All2.c (rfl) (All2.c (rfl) All2.n)))))).mono fun e W' hh => ?_
  obtain ⟨y, he, bel, fz', _, _, hy⟩ := hh
  have hy' : y = .bool true := hy
  subst hy'
  subst he
  exact ⟨_, rfl, _, _, _, [], _, [], hW', trodAll_mk1 (shut_bool Tryz.underlying4 _), (trodAll_cons_mk (Below.trod laidOut (by kernel_rfl) (of_decide_eq_true (by kernel_rfl)) h0 bel lt0) (trodAll_cons_mk (Below.trod laidOut (by kernel_rfl) (of_decide_eq_true (by kernel_rfl)) h1 bel lt1) (trodAll_cons_mk (Below.trod laidOut (by kernel_rfl) (of_decide_eq_true (by kernel_rfl)) h2 bel lt2) trodAll_mk0))), rfl, bel.frame _, fun h => by cases h⟩
theorem over : Rows.factsReducesRow.holds Tryz.pinned (OpenSpec.ofChange Rows.factsReducesSpec) :=
  OpenClaim.holds_of_wide 8 Tryz.f8 rfl rfl rfl rfl rfl rfl rfl ⟨rfl, rfl, rfl, rfl, rfl⟩ rfl rfl rfl rfl rfl (by kernel_rfl) Tryz.func8 (by kernel_rfl)
    (of_decide_eq_true (by kernel_rfl)) (by unfold Func.isWrapper; first | (rw [if_pos (by decide +kernel)]; kernel_rfl) | (rw [if_neg (by decide +kernel)]; exact ⟨rfl, rfl⟩))
    (fun os started H enc _ => lifted os started H enc)
theorem proved : Rows.FactsReducesSaid := over
#print axioms proved
end Go.Proofs.YtcihbcffokjgjaaGreat.factsReduces
namespace Go.Proofs.YtcihbcffokjgjaaGreat
/-- The row, under a short name, for the claim. -/
theorem factsReduces_holds : Rows.FactsReducesSaid := factsReduces.proved
end Go.Proofs.YtcihbcffokjgjaaGreat
