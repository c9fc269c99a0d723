/- KnownPairs: the function returns true whatever its input, and what it was given reads as it did. No condition. -/
import Derived.Test.YtbfniopkadaheaaRows
import Derived.Test.YtbfniopkadaheaaChecked
import Derived.Test.YtbfniopkadaheaaThKnownPairs
import Derived.WalkKit
import Derived.ProofKit
import Derived.OpenShut
import Derived.ShutString
import Derived.ChangeOld
import Derived.Below
import Derived.SizedLaws
namespace Go.Proofs.Ytbfniopkadaheaa.knownPairs
open Go Go.ChangeShapes Go.WideShapes Go.ChangeAt Go.RowKit Go.Proofs.Ytbfniopkadaheaa.Ev Go.Proofs.Ytbfniopkadaheaa.Fn
set_option linter.unusedVariables false
set_option maxRecDepth 100000
theorem own : ownKnob Try.prog.godebug = none := by kernel_rfl
theorem laidOut : laidOutB Try.prog = true := by kernel_rfl
theorem lifted (os : Os) (started : os.Started) (H : Type) (enc : TypeId × Value → H) :
    ReturnsInHanded {} Try.checked os 5 .any (Rows.knownPairsSpec.pre6 enc Try.prog Try.f5 Rows.knownPairsRow.domain false) (Rows.knownPairsSpec.post enc Try.prog Try.f5 false true false false) := by
  refine returnsInHanded_of_change_sized (C := Try.checked) own started (by kernel_rfl) Try.func5
    (ChangeSpec.witness6 (enc := enc) (C := Try.checked) false ⟨#[], #[.int .i64 0, .agg #[.int .u64 0, .int .u64 0], .agg #[.int .u64 0, .int .u64 0]], []⟩ 8 (by kernel_rfl) (by kernel_rfl) (by kernel_rfl) (by kernel_rfl)) ?_
  intro W base args ds gs before hval0 hW hcnd hsz0 _
  have hval : ∀ (j : Nat) t v, Try.f5.params[j]? = some t → args[j]? = some v → Value.okWide Try.prog W .any base t v := hval0
  have hW' := hW
  obtain ⟨p, q, hA0, hV, rfl, hfz, hnd⟩ := hW
  have hA : DataW.TrodAll enc Try.prog W 0 (fun _ => true) true Try.f5.params.toList args.toList ds p := hA0
  rw [Try.params5] at hA hval
  obtain ⟨v0, vs0, d0, ds0, p0, q0, hargs, rfl, rfl, h0, r0⟩ := trodAll_cons hA
  obtain ⟨v1, vs1, d1, ds1, p1, q1, rfl, rfl, rfl, h1, r1⟩ := trodAll_cons r0
  obtain ⟨v2, vs2, d2, ds2, p2, q2, rfl, rfl, rfl, h2, r2⟩ := trodAll_cons r1
  obtain ⟨rfl, rfl, rfl⟩ := trodAll_nil r2
  obtain rfl : args = #[v0, v1, v2] := by cases args; simp_all
  obtain ⟨rfl, rfl⟩ := trodVars_none hV
  have hw0 : ∀ m ∈ d0.weights Try.prog 3, m ≤ reachBytes := fun m hm => by
    have := List.all_eq_true.1 hsz0 m (DataW.weights_mem_each (j := 0) (t := 3) (d := d0) (by kernel_rfl) rfl m hm)
    simpa using this
  have lt0 : ∀ x ∈ p0, x.block < W.heap.size := by obtain ⟨m, hm⟩ := h0; exact DataW.trod_lt m _ _ _ hm
  have o0 := open_arg 8 (ls := [.one (.int .i64)]) (by kernel_rfl) h0 hw0
  obtain ⟨z0, rfl⟩ := okWide_int Try.underlying3 (hval 0 3 v0 rfl rfl)
  replace o0 : All2 (LfOk Try.prog W) [.one (.int .i64)] [.int .i64 z0] := o0
  obtain ⟨b0_0, m0_0, e0, y0_0, x0_0⟩ := All2.cons o0
  obtain rfl := All2.nil x0_0
  obtain rfl := (List.cons.inj e0).1
  obtain ⟨a0, he0, w0⟩ := y0_0
  cases he0
  have hw1 : ∀ m ∈ d1.weights Try.prog 31, m ≤ reachBytes := fun m hm => by
    have := List.all_eq_true.1 hsz0 m (DataW.weights_mem_each (j := 1) (t := 31) (d := d1) (by kernel_rfl) rfl m hm)
    simpa using this
  have lt1 : ∀ x ∈ p1, x.block < W.heap.size := by obtain ⟨m, hm⟩ := h1; exact DataW.trod_lt m _ _ _ hm
  have o1 := open_arg 8 (ls := [.one (.int .u64), .one (.int .u64)]) (by kernel_rfl) h1 hw1
  obtain ⟨cs1, rfl, hs1⟩ := okWide_struct Try.underlying31 (hval 1 31 v1 rfl rfl)
  replace o1 : All2 (LfOk Try.prog W) [.one (.int .u64), .one (.int .u64)] cs1.toList := o1
  obtain ⟨b1_0, m1_0, e1, y1_0, x1_0⟩ := All2.cons o1
  obtain ⟨b1_1, m1_1, rfl, y1_1, x1_1⟩ := All2.cons x1_0
  obtain rfl := All2.nil x1_1
  obtain rfl : cs1 = #[b1_0, b1_1] := Array.toList_inj.1 e1
  obtain ⟨a1_0, rfl, w1_0⟩ := y1_0
  obtain ⟨a1_1, rfl, w1_1⟩ := y1_1
  have hw2 : ∀ m ∈ d2.weights Try.prog 31, m ≤ reachBytes := fun m hm => by
    have := List.all_eq_true.1 hsz0 m (DataW.weights_mem_each (j := 2) (t := 31) (d := d2) (by kernel_rfl) rfl m hm)
    simpa using this
  have lt2 : ∀ x ∈ p2, x.block < W.heap.size := by obtain ⟨m, hm⟩ := h2; exact DataW.trod_lt m _ _ _ hm
  have o2 := open_arg 8 (ls := [.one (.int .u64), .one (.int .u64)]) (by kernel_rfl) h2 hw2
  obtain ⟨cs2, rfl, hs2⟩ := okWide_struct Try.underlying31 (hval 2 31 v2 rfl rfl)
  replace o2 : All2 (LfOk Try.prog W) [.one (.int .u64), .one (.int .u64)] cs2.toList := o2
  obtain ⟨b2_0, m2_0, e2, y2_0, x2_0⟩ := All2.cons o2
  obtain ⟨b2_1, m2_1, rfl, y2_1, x2_1⟩ := All2.cons x2_0
  obtain rfl := All2.nil x2_1
  obtain rfl : cs2 = #[b2_0, b2_1] := Array.toList_inj.1 e2
  obtain ⟨a2_0, rfl, w2_0⟩ := y2_0
  obtain ⟨a2_1, rfl, w2_1⟩ := y2_1
  have hp := Th.KnownPairs _ _ _ _ _ w0 w1_0 w1_1 w2_0 w2_1
  have hC := saturatelaw12_KnownPairs.con (_, _, _, ()) true hp
  refine (CallOk.calls (fn := Try.f5) (by kernel_rfl) (by kernel_rfl) (by kernel_rfl) (hC W #[_, _, _] (argsRel_of (All2.c (rfl) (All2.c (rfl) (All2.c (rfl) All2.n)))))).mono fun e W' hh => ?_
  obtain ⟨y, he, bel, hy⟩ := hh
  have hy' : y = .bool true := hy
  subst hy'
  subst he
  exact ⟨_, rfl, _, _, _, [], _, [], hW', trodAll_mk1 (shut_bool Try.underlying4 _), (trodAll_cons_mk (Below.trod laidOut (by kernel_rfl) (of_decide_eq_true (by kernel_rfl)) h0 bel lt0) (trodAll_cons_mk (Below.trod laidOut (by kernel_rfl) (of_decide_eq_true (by kernel_rfl)) h1 bel lt1) (trodAll_cons_mk (Below.trod laidOut (by kernel_rfl) (of_decide_eq_true (by kernel_rfl)) h2 bel lt2) trodAll_mk0))), rfl, bel.frame _, fun h => by cases h⟩
theorem over : Rows.knownPairsRow.holds Try.pinned (OpenSpec.ofChange Rows.knownPairsSpec) :=
  OpenClaim.holds_of_wide 5 Try.f5 rfl rfl rfl rfl rfl rfl rfl ⟨rfl, rfl, rfl, rfl, rfl⟩ rfl rfl rfl rfl rfl (by kernel_rfl) Try.func5 (by kernel_rfl)
    (of_decide_eq_true (by kernel_rfl)) (by unfold Func.isWrapper; first | (rw [if_pos (by decide +kernel)]; kernel_rfl) | (rw [if_neg (by decide +kernel)]; exact ⟨rfl, rfl⟩))
    (fun os started H enc _ => lifted os started H enc)
theorem proved : Rows.KnownPairsSaid := over
#print axioms proved
end Go.Proofs.Ytbfniopkadaheaa.knownPairs
namespace Go.Proofs.Ytbfniopkadaheaa
/-- The row, under a short name, for the claim. -/
theorem knownPairs_holds : Rows.KnownPairsSaid := knownPairs.proved
end Go.Proofs.Ytbfniopkadaheaa
