/- ExecRuns, in plain words: Run, Outs and Trace of the program are the reference's. -/
import Derived.Test.YtkmehmlcccdnbaaDoorStExecRuns
import Derived.Test.YtkmehmlcccdnbaaDoorXi
namespace Go.Proofs.YtkmehmlcccdnbaaDoor.Th
open Go Go.RowKit Go.Proofs.YtkmehmlcccdnbaaDoor.Ev Go.Proofs.YtkmehmlcccdnbaaDoor.Fn Go.Proofs.YtkmehmlcccdnbaaDoor.Bv
set_option linter.unusedVariables false
set_option linter.unusedSimpArgs false
set_option maxRecDepth 100000
theorem runs_abs (v : Unit → Option Bool) {h} (hv : v () = some true) (fu : Nat) {c : CodeT} (hg : Fn.Good c) {l : List Nat} (hl : Lt U64 l) : saturatelaw49_ExecRuns.gv v h fu c (wl l) = some true := by
  unfold saturatelaw49_ExecRuns.gv
  rw [hv, show (c.1, c.2.1, (c.2.2.1.1, c.2.2.1.2.1, c.2.2.1.2.2.1, c.2.2.1.2.2.2.1, c.2.2.1.2.2.2.2.1, c.2.2.1.2.2.2.2.2.1, c.2.2.1.2.2.2.2.2.2), (c.2.2.2.1, c.2.2.2.2)) = c from rfl]
  simp only [Option.bind_some]
  have hf : ∃ b, saturateref49_Few.f c = some b ∧ (b = true → c.2.2.2.1 ≤ 40) := by
    unfold saturateref49_Few.f
    by_cases h1 : ((c.2.2.1.1 : Nat) : Int) ≤ 40
    · rw [bifd_pos h1]; exact ⟨_, rfl, fun h => by have := of_decide_eq_true h; omega⟩
    · rw [bifd_neg h1]
      by_cases h2 : ((c.2.2.1.1 : Nat) : Int) > 256
      · rw [bifd_pos h2]; exact ⟨_, rfl, fun h => by have := of_decide_eq_true h; omega⟩
      · rw [bifd_neg h2]; exact ⟨_, rfl, fun h => by cases h⟩
  obtain ⟨b, hb, hbm⟩ := hf
  rw [hb]
  simp only [Option.bind_some]
  cases b with
  | false => rfl
  | true =>
    rw [Bool.not_true, cond_false]
    by_cases h20 : ((wl l).length : Int) > 20
    · rw [bifd_pos h20]
    · obtain ⟨a, at_, e, o, e2, t, e3, ha, ho, ht, hts, r1, r2, r3, r4, r5, r6⟩ := runs_both hg hl (by have := hbm rfl; omega)
      rw [bifd_neg h20, r1, r2, r3, r4, r5, r6]
      simp only [Option.bind_some]
      rw [Same_eq (by omega), Same_eq (by omega), SameStates_refl (by omega) (fun s hs => by have := hts s hs; omega)]
      simp
theorem ExecRuns : St.ExecRuns := by
  intro w r n g0 g1 g2 g3 g4 g5 m g t _ _ _ _ _ _ _ _ h5 hm _ _ ht
  obtain ⟨l, rfl, hl⟩ := wl_of ht
  have q := @runs_abs (fun a => saturatelaw49_live.f) ⟨saturatelaw49_live.con⟩ live_eq (fuel0 + 1) (w, r, (n, g0, g1, g2, g3, g4, g5), (m, g)) ⟨fun p => by
    obtain ⟨k, hk, hlt⟩ := u64_of (h5 p)
    show 0 ≤ g5 p ∧ g5 p < ((18446744073709551616 : Nat) : Int)
    omega, by show m < 4611686018427387904; simp only [reachBytes] at hm; omega⟩ l hl
  delta saturatelaw49_ExecRuns.f
  exact q
end Go.Proofs.YtkmehmlcccdnbaaDoor.Th
