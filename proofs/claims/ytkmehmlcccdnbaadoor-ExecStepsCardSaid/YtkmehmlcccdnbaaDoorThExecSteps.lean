/- ExecSteps, in plain words: Step of the program is the reference's. -/
import Derived.Test.YtkmehmlcccdnbaaDoorStExecSteps
import Derived.Test.YtkmehmlcccdnbaaDoorXi
namespace Go.Proofs.YtkmehmlcccdnbaaDoor.Th
open Go Go.RowKit Go.Proofs.YtkmehmlcccdnbaaDoor.Ev Go.Proofs.YtkmehmlcccdnbaaDoor.Fn Go.Proofs.YtkmehmlcccdnbaaDoor.Bv
set_option linter.unusedVariables false
set_option linter.unusedSimpArgs false
set_option maxRecDepth 100000
theorem steps_abs (v : Unit → Option Bool) {h} (hv : v () = some true) (fu : Nat) (w : Int) {i : J6} (hm : 0 ≤ i.2.2.2.2.2 ∧ i.2.2.2.2.2 < (U64 : Nat)) {l : List Nat} (hl : Lt U64 l) : saturatelaw49_ExecSteps.gv v h fu w i (wl l) = some true := by
  unfold saturatelaw49_ExecSteps.gv
  rw [hv]
  simp only [Option.bind_some]
  by_cases h20 : ((wl l).length : Int) > 20
  · rw [bifd_pos h20]
  · rw [bifd_neg h20, show (i.1, i.2.1, i.2.2.1, i.2.2.2.1, i.2.2.2.2.1, i.2.2.2.2.2) = i from rfl, exec_Step_eq w hm hl, ref_Step_eq w hm hl]
    simp only [Option.bind_some]
    have hlen : (StepS w i l).1.length < 4611686018427387904 := by
      unfold StepS
      split
      · split
        · cases hq : stepS w (inOf i) (cutL w (min l.length 8) l) with
          | none => simp
          | some s => simp only; rw [stepS_length hq, cutL_length]; omega
        · simp
      · simp
    rw [Same_eq hlen]
    simp
theorem ExecSteps : St.ExecSteps := by
  intro w o d a b c m t _ _ _ _ _ _ hm _ ht
  obtain ⟨m, rfl, hm⟩ := u64_of hm
  obtain ⟨l, rfl, hl⟩ := wl_of ht
  have q := @steps_abs (fun a => saturatelaw49_live.f) ⟨saturatelaw49_live.con⟩ live_eq (fuel0 + 1) w (o, d, a, b, c, (m : Int)) ⟨by simp only; omega, by simp only; show (m : Int) < ((18446744073709551616 : Nat) : Int); omega⟩ l hl
  delta saturatelaw49_ExecSteps.f
  exact q
end Go.Proofs.YtkmehmlcccdnbaaDoor.Th
