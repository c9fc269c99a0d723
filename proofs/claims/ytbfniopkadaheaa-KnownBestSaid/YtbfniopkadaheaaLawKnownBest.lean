/- KnownBest: the function returns true whatever its input, and what it was given reads as it did. No condition. -/
import Derived.Test.YtbfniopkadaheaaRows
import Derived.Test.YtbfniopkadaheaaChecked
import Derived.Test.YtbfniopkadaheaaThKnownBest
import Derived.WalkKit
import Derived.ProofKit
import Derived.OpenShut
import Derived.ShutString
import Derived.ChangeOld
import Derived.Below
import Derived.SizedLaws
namespace Go.Proofs.Ytbfniopkadaheaa.knownBest
open Go Go.ChangeShapes Go.WideShapes Go.ChangeAt Go.RowKit Go.Proofs.Ytbfniopkadaheaa.Ev Go.Proofs.Ytbfniopkadaheaa.Fn
set_option linter.unusedVariables false
set_option maxRecDepth 100000
theorem own : ownKnob Try.prog.godebug = none := by kernel_rfl
theorem laidOut : laidOutB Try.prog = true := by kernel_rfl
theorem lifted (os : Os) (started : os.Started) (H : Type) (enc : TypeId × Value → H) :
    ReturnsInHanded {} Try.checked os 4 .any (Rows.knownBestSpec.pre6 enc Try.prog Try.f4 Rows.knownBestRow.domain false) (Rows.knownBestSpec.post enc Try.prog Try.f4 false true false false) := by
  refine returnsInHanded_of_change_sized (C := Try.checked) own started (by kernel_rfl) Try.func4
    (ChangeSpec.witness6 (enc := enc) (C := Try.checked) false ⟨#[], #[.agg #[.int .i64 0, .int .i64 0, .int .u64 0, .slice none 0 0, .slice none 0 0]], []⟩ 8 (by kernel_rfl) (by kernel_rfl) (by kernel_rfl) (by kernel_rfl)) ?_
  intro W base args ds gs before hval0 hW hcnd hsz0 _
  have hval : ∀ (j : Nat) t v, Try.f4.params[j]? = some t → args[j]? = some v → Value.okWide Try.prog W .any base t v := hval0
  have hW' := hW
  obtain ⟨p, q, hA0, hV, rfl, hfz, hnd⟩ := hW
  have hA : DataW.TrodAll enc Try.prog W 0 (fun _ => true) true Try.f4.params.toList args.toList ds p := hA0
  rw [Try.params4] at hA hval
  obtain ⟨v0, vs0, d0, ds0, p0, q0, hargs, rfl, rfl, h0, r0⟩ := trodAll_cons hA
  obtain ⟨rfl, rfl, rfl⟩ := trodAll_nil r0
  obtain rfl : args = #[v0] := by cases args; simp_all
  obtain ⟨rfl, rfl⟩ := trodVars_none hV
  have hw0 : ∀ m ∈ d0.weights Try.prog 27, m ≤ reachBytes := fun m hm => by
    have := List.all_eq_true.1 hsz0 m (DataW.weights_mem_each (j := 0) (t := 27) (d := d0) (by kernel_rfl) rfl m hm)
    simpa using this
  have lt0 : ∀ x ∈ p0, x.block < W.heap.size := by obtain ⟨m, hm⟩ := h0; exact DataW.trod_lt m _ _ _ hm
  have o0 := open_arg 8 (ls := [.one (.int .i64), .one (.int .i64), .one (.int .u64), .rows 3 [.int .i64], .rows 31 [.int .u64, .int .u64]]) (by kernel_rfl) h0 hw0
  obtain ⟨cs0, rfl, hs0⟩ := okWide_struct Try.underlying27 (hval 0 27 v0 rfl rfl)
  replace o0 : All2 (LfOk Try.prog W) [.one (.int .i64), .one (.int .i64), .one (.int .u64), .rows 3 [.int .i64], .rows 31 [.int .u64, .int .u64]] cs0.toList := o0
  obtain ⟨b0_0, m0_0, e0, y0_0, x0_0⟩ := All2.cons o0
  obtain ⟨b0_1, m0_1, rfl, y0_1, x0_1⟩ := All2.cons x0_0
  obtain ⟨b0_2, m0_2, rfl, y0_2, x0_2⟩ := All2.cons x0_1
  obtain ⟨b0_3, m0_3, rfl, y0_3, x0_3⟩ := All2.cons x0_2
  obtain ⟨b0_4, m0_4, rfl, y0_4, x0_4⟩ := All2.cons x0_3
  obtain rfl := All2.nil x0_4
  obtain rfl : cs0 = #[b0_0, b0_1, b0_2, b0_3, b0_4] := Array.toList_inj.1 e0
  obtain ⟨a0_0, rfl, w0_0⟩ := y0_0
  obtain ⟨a0_1, rfl, w0_1⟩ := y0_1
  obtain ⟨a0_2, rfl, w0_2⟩ := y0_2
  obtain ⟨A0_3, n0_3, c0_3, fs0_3, rfl, hb0_3, hr0_3, hf0_3⟩ := y0_3
  obtain ⟨fg0_3_0, kg0_3_0, rfl, ⟨g0_3_0, rfl, wg0_3_0⟩, hfg0_3_0⟩ := All2.cons hf0_3
  obtain rfl := All2.nil hfg0_3_0
  obtain ⟨A0_4, n0_4, c0_4, fs0_4, rfl, hb0_4, hr0_4, hf0_4⟩ := y0_4
  obtain ⟨fg0_4_0, kg0_4_0, rfl, ⟨g0_4_0, rfl, wg0_4_0⟩, hfg0_4_0⟩ := All2.cons hf0_4
  obtain ⟨fg0_4_1, kg0_4_1, rfl, ⟨g0_4_1, rfl, wg0_4_1⟩, hfg0_4_1⟩ := All2.cons hfg0_4_0
  obtain rfl := All2.nil hfg0_4_1
  have hp := Th.KnownBest _ _ _ _ _ _ _ _ w0_0 w0_1 w0_2 (show n0_3 * 8 ≤ reachBytes from hb0_3) wg0_3_0 (show n0_4 * 16 ≤ reachBytes from hb0_4) wg0_4_0 wg0_4_1
  have hC := saturatelaw12_KnownBest.con (_, ()) true hp
  refine (CallOk.calls (fn := Try.f4) (by kernel_rfl) (by kernel_rfl) (by kernel_rfl) (hC W #[_] (argsRel_of (All2.c (pk_args (All2.c (rfl) (All2.c (rfl) (All2.c (rfl) (All2.c (⟨_, _, rfl, hr0_3⟩) (All2.c (⟨_, _, rfl, hr0_4⟩) All2.n)))))) All2.n)))).mono fun e W' hh => ?_
  obtain ⟨y, he, bel, hy⟩ := hh
  have hy' : y = .bool true := hy
  subst hy'
  subst he
  exact ⟨_, rfl, _, _, _, [], _, [], hW', trodAll_mk1 (shut_bool Try.underlying4 _), (trodAll_cons_mk (Below.trod laidOut (by kernel_rfl) (of_decide_eq_true (by kernel_rfl)) h0 bel lt0) trodAll_mk0), rfl, bel.frame _, fun h => by cases h⟩
theorem over : Rows.knownBestRow.holds Try.pinned (OpenSpec.ofChange Rows.knownBestSpec) :=
  OpenClaim.holds_of_wide 4 Try.f4 rfl rfl rfl rfl rfl rfl rfl ⟨rfl, rfl, rfl, rfl, rfl⟩ rfl rfl rfl rfl rfl (by kernel_rfl) Try.func4 (by kernel_rfl)
    (of_decide_eq_true (by kernel_rfl)) (by unfold Func.isWrapper; first | (rw [if_pos (by decide +kernel)]; kernel_rfl) | (rw [if_neg (by decide +kernel)]; exact ⟨rfl, rfl⟩))
    (fun os started H enc _ => lifted os started H enc)
theorem proved : Rows.KnownBestSaid := over
#print axioms proved
end Go.Proofs.Ytbfniopkadaheaa.knownBest
namespace Go.Proofs.Ytbfniopkadaheaa
/-- The row, under a short name, for the claim. -/
theorem knownBest_holds : Rows.KnownBestSaid := knownBest.proved
end Go.Proofs.Ytbfniopkadaheaa
