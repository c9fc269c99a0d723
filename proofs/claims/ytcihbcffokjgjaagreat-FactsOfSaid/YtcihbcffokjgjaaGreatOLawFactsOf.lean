/- FactsOf: the function returns true whatever its input, and what it was given reads as it did. No condition. -/
import Derived.Test.YtcihbcffokjgjaaGreatRows
import Derived.Test.YtcihbcffokjgjaaGreatChecked
import Derived.Test.YtcihbcffokjgjaaGreatOThFactsOf
import Derived.WalkKit
import Derived.ProofKit
import Derived.OpenShut
import Derived.ShutString
import Derived.ChangeOld
import Derived.Below
import Derived.SizedLaws
namespace Go.Proofs.YtcihbcffokjgjaaGreat.factsOf
open Go Go.ChangeShapes Go.WideShapes Go.ChangeAt Go.RowKit Go.Proofs.YtcihbcffokjgjaaGreat.Ev Go.Proofs.YtcihbcffokjgjaaGreat.Fn
set_option linter.unusedVariables false
set_option maxRecDepth 100000
theorem own : ownKnob Tryz.prog.godebug = none := by kernel_rfl
theorem laidOut : laidOutB Tryz.prog = true := by kernel_rfl
theorem tmTy38 : TmTy Tryz.prog 38 := ⟨⟨_, _, _, _, _, Tryz.underlying38, ⟨rfl, rfl, rfl, rfl, rfl⟩, ⟨by kernel_rfl, by kernel_rfl, by kernel_rfl, by kernel_rfl, by kernel_rfl⟩, by kernel_rfl, by kernel_rfl, by kernel_rfl, by kernel_rfl, by kernel_rfl⟩, by kernel_rfl⟩
theorem lifted (os : Os) (started : os.Started) (H : Type) (enc : TypeId × Value → H) :
    ReturnsInHanded {} Tryz.checked os 4 .any (Rows.factsOfSpec.pre6 enc Tryz.prog Tryz.f4 Rows.factsOfRow.domain false) (Rows.factsOfSpec.post enc Tryz.prog Tryz.f4 false true false false) := by
  refine returnsInHanded_of_change_sized (C := Tryz.checked) own started (by kernel_rfl) Tryz.func4
    (ChangeSpec.witness6 (enc := enc) (C := Tryz.checked) false ⟨#[], #[.agg #[.int .i64 0, .int .i64 0, .int .u64 0, .string ⟨#[]⟩, .slice none 0 0]], []⟩ 8 (by kernel_rfl) (by kernel_rfl) (by kernel_rfl) (by kernel_rfl)) ?_
  intro W base args ds gs before hval0 hW hcnd hsz0 _
  have hLaid : LaidW W := fun _ _ _ h => by cases h
  have hval : ∀ (j : Nat) t v, Tryz.f4.params[j]? = some t → args[j]? = some v → Value.okWide Tryz.prog W .any base t v := hval0
  have hW' := hW
  obtain ⟨p, q, hA0, hV, rfl, hfz, hnd⟩ := hW
  have hA : DataW.TrodAll enc Tryz.prog W 0 (fun _ => true) true Tryz.f4.params.toList args.toList ds p := hA0
  rw [Tryz.params4] at hA hval
  obtain ⟨v0, vs0, d0, ds0, p0, q0, hargs, rfl, rfl, h0, r0⟩ := trodAll_cons hA
  obtain ⟨rfl, rfl, rfl⟩ := trodAll_nil r0
  obtain rfl : args = #[v0] := by cases args; simp_all
  obtain ⟨rfl, rfl⟩ := trodVars_none hV
  have lt0 : ∀ x ∈ p0, x.block < W.heap.size := by obtain ⟨m, hm⟩ := h0; exact DataW.trod_lt m _ _ _ hm
  obtain ⟨t0, A0, c0, e0, k0, wt0⟩ := open_tm tmTy38 h0
  obtain ⟨cs0, rfl, hs0⟩ := okWide_struct Tryz.underlying38 (hval 0 38 v0 rfl rfl)
  replace e0 : cs0.toList = tmCs t0 A0 c0 := e0
  obtain rfl : cs0 = (tmCs t0 A0 c0).toArray := by rw [← e0]
  have hp := Th.FactsOf _ wt0
  have hC := saturatelaw14_FactsOf.con (_, ()) true hp
  refine (CallOk.calls (fn := Tryz.f4) (by kernel_rfl) (by kernel_rfl) (by kernel_rfl) (hC (hpF W) W #[_] (hpF_ok W) hLaid (argsRel_of (All2.c (tm_args k0) All2.n)))).mono fun e W' hh => ?_
  obtain ⟨y, he, bel, fz', _, _, hy⟩ := hh
  have hy' : y = .bool true := hy
  subst hy'
  subst he
  exact ⟨_, rfl, _, _, _, [], _, [], hW', trodAll_mk1 (shut_bool Tryz.underlying4 _), (trodAll_cons_mk (Below.trod laidOut (by kernel_rfl) (of_decide_eq_true (by kernel_rfl)) h0 bel lt0) trodAll_mk0), rfl, bel.frame _, fun h => by cases h⟩
theorem over : Rows.factsOfRow.holds Tryz.pinned (OpenSpec.ofChange Rows.factsOfSpec) :=
  OpenClaim.holds_of_wide 4 Tryz.f4 rfl rfl rfl rfl rfl rfl rfl ⟨rfl, rfl, rfl, rfl, rfl⟩ rfl rfl rfl rfl rfl (by kernel_rfl) Tryz.func4 (by kernel_rfl)
    (of_decide_eq_true (by kernel_rfl)) (by unfold Func.isWrapper; first | (rw [if_pos (by decide +kernel)]; kernel_rfl) | (rw [if_neg (by decide +kernel)]; exact ⟨rfl, rfl⟩))
    (fun os started H enc _ => lifted os started H enc)
theorem proved : Rows.FactsOfSaid := over
#print axioms proved
end Go.Proofs.YtcihbcffokjgjaaGreat.factsOf
namespace Go.Proofs.YtcihbcffokjgjaaGreat
theorem factsOf_holds : Rows.FactsOfSaid := factsOf.proved
end Go.Proofs.YtcihbcffokjgjaaGreat
