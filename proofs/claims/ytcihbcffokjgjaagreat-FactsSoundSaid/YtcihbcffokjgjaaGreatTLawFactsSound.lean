/- FactsSound: the function returns true whatever its input, and what it was given reads as it did. No condition. -/
import Derived.Test.YtcihbcffokjgjaaGreatRows
import Derived.Test.YtcihbcffokjgjaaGreatChecked
import Derived.Test.YtcihbcffokjgjaaGreatTThFactsSound
import Derived.WalkKit
import Derived.ProofKit
import Derived.OpenShut
import Derived.ShutString
import Derived.ChangeOld
import Derived.Below
import Derived.SizedLaws
namespace Go.Proofs.YtcihbcffokjgjaaGreat.factsSound
open Go Go.ChangeShapes Go.WideShapes Go.ChangeAt Go.RowKit Go.Proofs.YtcihbcffokjgjaaGreat.Ev Go.Proofs.YtcihbcffokjgjaaGreat.Fn
set_option linter.unusedVariables false
set_option maxRecDepth 100000
theorem own : ownKnob Tryz.prog.godebug = none := by kernel_rfl
theorem laidOut : laidOutB Tryz.prog = true := by kernel_rfl
theorem tmTy38 : TmTy Tryz.prog 38 := ⟨⟨_, _, _, _, _, Tryz.underlying38, ⟨rfl, rfl, rfl, rfl, rfl⟩, ⟨by kernel_rfl, by kernel_rfl, by kernel_rfl, by kernel_rfl, by kernel_rfl⟩, by kernel_rfl, by kernel_rfl, by kernel_rfl, by kernel_rfl, by kernel_rfl⟩, by kernel_rfl⟩
theorem lifted (os : Os) (started : os.Started) (H : Type) (enc : TypeId × Value → H) :
    ReturnsInHanded {} Tryz.checked os 7 .any (Rows.factsSoundSpec.pre6 enc Tryz.prog Tryz.f7 Rows.factsSoundRow.domain false) (Rows.factsSoundSpec.post enc Tryz.prog Tryz.f7 false true false false) := by
  refine returnsInHanded_of_change_sized (C := Tryz.checked) own started (by kernel_rfl) Tryz.func7
    (ChangeSpec.witness6 (enc := enc) (C := Tryz.checked) false ⟨#[], #[.agg #[.int .i64 0, .int .i64 0, .int .u64 0, .string ⟨#[]⟩, .slice none 0 0], .slice none 0 0], []⟩ 8 (by kernel_rfl) (by kernel_rfl) (by kernel_rfl) (by kernel_rfl)) ?_
  intro W base args ds gs before hval0 hW hcnd hsz0 _
  have hLaid : LaidW W := fun _ _ _ h => by cases h
  have hval : ∀ (j : Nat) t v, Tryz.f7.params[j]? = some t → args[j]? = some v → Value.okWide Tryz.prog W .any base t v := hval0
  have hW' := hW
  obtain ⟨p, q, hA0, hV, rfl, hfz, hnd⟩ := hW
  have hA : DataW.TrodAll enc Tryz.prog W 0 (fun _ => true) true Tryz.f7.params.toList args.toList ds p := hA0
  rw [Tryz.params7] at hA hval
  obtain ⟨v0, vs0, d0, ds0, p0, q0, hargs, rfl, rfl, h0, r0⟩ := trodAll_cons hA
  obtain ⟨v1, vs1, d1, ds1, p1, q1, rfl, rfl, rfl, h1, r1⟩ := trodAll_cons r0
  obtain ⟨rfl, rfl, rfl⟩ := trodAll_nil r1
  obtain rfl : args = #[v0, v1] := by cases args; simp_all
  obtain ⟨rfl, rfl⟩ := trodVars_none hV
  have lt0 : ∀ x ∈ p0, x.block < W.heap.size := by obtain ⟨m, hm⟩ := h0; exact DataW.trod_lt m _ _ _ hm
  obtain ⟨t0, A0, c0, e0, k0, wt0⟩ := open_tm tmTy38 h0
  obtain ⟨cs0, rfl, hs0⟩ := okWide_struct Tryz.underlying38 (hval 0 38 v0 rfl rfl)
  replace e0 : cs0.toList = tmCs t0 A0 c0 := e0
  obtain rfl : cs0 = (tmCs t0 A0 c0).toArray := by rw [← e0]
  have hw1 : ∀ m ∈ d1.weights Tryz.prog 55, m ≤ reachBytes := fun m hm => by
    have := List.all_eq_true.1 hsz0 m (DataW.weights_mem_each (j := 1) (t := 55) (d := d1) (by kernel_rfl) rfl m hm)
    simpa using this
  have lt1 : ∀ x ∈ p1, x.block < W.heap.size := by obtain ⟨m, hm⟩ := h1; exact DataW.trod_lt m _ _ _ hm
  have o1 := open_arg 8 (ls := [.rows 159 [.str, .int .u64]]) (by kernel_rfl) h1 hw1
  obtain ⟨A1, len1, cap1, rfl⟩ := okWide_slice Tryz.underlying55 (hval 1 55 v1 rfl rfl)
  replace o1 : All2 (LfOk Tryz.prog W) [.rows 159 [.str, .int .u64]] [.slice A1 len1 cap1] := o1
  obtain ⟨b1_0, m1_0, e1, y1_0, x1_0⟩ := All2.cons o1
  obtain rfl := All2.nil x1_0
  obtain rfl := (List.cons.inj e1).1
  obtain ⟨A1, n1, c1, fs1, he1, hb1, hr1, hf1⟩ := y1_0
  cases he1
  obtain ⟨fg1_0, kg1_0, rfl, ⟨g1_0, rfl⟩, hfg1_0⟩ := All2.cons hf1
  obtain ⟨fg1_1, kg1_1, rfl, ⟨g1_1, rfl, wg1_1⟩, hfg1_1⟩ := All2.cons hfg1_0
  obtain rfl := All2.nil hfg1_1
  have hp := Th.FactsSound _ _ g1_0 _ wt0 (show len1 * 24 ≤ reachBytes from hb1) wg1_1
  have hC := saturatelaw14_FactsSound.con (_, _, ()) true hp
  refine (CallOk.calls (fn := Tryz.f7) (by kernel_rfl) (by kernel_rfl) (by kernel_rfl) (hC (hpF W) W #[_, .slice A1 len1 cap1] (hpF_ok W) hLaid (argsRel_of (All2.c (tm_args k0) (All2.c (⟨_, _, rfl, hr1⟩) All2.n))))).mono fun e W' hh => ?_
  obtain ⟨y, he, bel, fz', _, _, hy⟩ := hh
  have hy' : y = .bool true := hy
  subst hy'
  subst he
  exact ⟨_, rfl, _, _, _, [], _, [], hW', trodAll_mk1 (shut_bool Tryz.underlying4 _), (trodAll_cons_mk (Below.trod laidOut (by kernel_rfl) (of_decide_eq_true (by kernel_rfl)) h0 bel lt0) (trodAll_cons_mk (Below.trod laidOut (by kernel_rfl) (of_decide_eq_true (by kernel_rfl)) h1 bel lt1) trodAll_mk0)), rfl, bel.frame _, fun h => by cases h⟩
theorem over : Rows.factsSoundRow.holds Tryz.pinned (OpenSpec.ofChange Rows.factsSoundSpec) :=
  OpenClaim.holds_of_wide 7 Tryz.f7 rfl rfl rfl rfl rfl rfl rfl ⟨rfl, rfl, rfl, rfl, rfl⟩ rfl rfl rfl rfl rfl (by kernel_rfl) Tryz.func7 (by kernel_rfl)
    (of_decide_eq_true (by kernel_rfl)) (by unfold Func.isWrapper; first | (rw [if_pos (by decide +kernel)]; kernel_rfl) | (rw [if_neg (by decide +kernel)]; exact ⟨rfl, rfl⟩))
    (fun os started H enc _ => lifted os started H enc)
theorem proved : Rows.FactsSoundSaid := over
#print axioms proved
end Go.Proofs.YtcihbcffokjgjaaGreat.factsSound
namespace Go.Proofs.YtcihbcffokjgjaaGreat
theorem factsSound_holds : Rows.FactsSoundSaid := factsSound.proved
end Go.Proofs.YtcihbcffokjgjaaGreat
