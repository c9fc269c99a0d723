/- ExecEquals, in plain words: Equal of the program is the reference's. -/
import Derived.Test.YtkmehmlcccdnbaaDoorStExecEquals
import Derived.Test.YtkmehmlcccdnbaaDoorXi
namespace Go.Proofs.YtkmehmlcccdnbaaDoor.Th
open Go Go.RowKit Go.Proofs.YtkmehmlcccdnbaaDoor.Ev Go.Proofs.YtkmehmlcccdnbaaDoor.Fn Go.Proofs.YtkmehmlcccdnbaaDoor.Bv
set_option linter.unusedVariables false
set_option linter.unusedSimpArgs false
set_option maxRecDepth 100000
theorem few_ex (c : CodeT) : ∃ b, saturateref49_Few.f c = some b ∧ (b = true → c.2.2.2.1 ≤ 40) := by
  unfold saturateref49_Few.f
  by_cases h1 : ((c.2.2.1.1 : Nat) : Int) ≤ 40
  · rw [bifd_pos h1]; exact ⟨_, rfl, fun h => by have := of_decide_eq_true h; omega⟩
  · rw [bifd_neg h1]
    by_cases h2 : ((c.2.2.1.1 : Nat) : Int) > 256
    · rw [bifd_pos h2]; exact ⟨_, rfl, fun h => by have := of_decide_eq_true h; omega⟩
    · rw [bifd_neg h2]; exact ⟨_, rfl, fun h => by cases h⟩
theorem equal_both {c d : CodeT} (hc : Fn.Good c) (hd : Fn.Good d) {l : List Nat} (hl : Lt U64 l) (mc : c.2.2.2.1 ≤ 40) (md : d.2.2.2.1 ≤ 40) : ∃ b, exec_Equal.f c d (wl l) = some b ∧ saturateref49_Equal.f c d (wl l) = some b := by
  obtain ⟨_, _, _, o, e, _, _, _, ho, _, _, _, _, r3, r4, _, _⟩ := runs_both hc hl (by omega)
  obtain ⟨_, _, _, o', e', _, _, _, ho', _, _, _, _, q3, q4, _, _⟩ := runs_both hd hl (by omega)
  unfold exec_Equal.f saturateref49_Equal.f
  rw [show (c.1, c.2.1, (c.2.2.1.1, c.2.2.1.2.1, c.2.2.1.2.2.1, c.2.2.1.2.2.2.1, c.2.2.1.2.2.2.2.1, c.2.2.1.2.2.2.2.2.1, c.2.2.1.2.2.2.2.2.2), (c.2.2.2.1, c.2.2.2.2)) = c from rfl, show (d.1, d.2.1, (d.2.2.1.1, d.2.2.1.2.1, d.2.2.1.2.2.1, d.2.2.1.2.2.2.1, d.2.2.1.2.2.2.2.1, d.2.2.1.2.2.2.2.2.1, d.2.2.1.2.2.2.2.2.2), (d.2.2.2.1, d.2.2.2.2)) = d from rfl, r3, r4, q3, q4]
  simp only [Option.bind_some]
  rw [Same_eq (by omega), Equal_eq (by omega)]
  simp only [Option.bind_some]
  cases h1 : (e == e') <;> by_cases h2 : o = o' <;> simp [h2]
theorem equals_abs (v : Unit → Option Bool) {h} (hv : v () = some true) (fu : Nat) {c d : CodeT} (hc : Fn.Good c) (hd : Fn.Good d) {l : List Nat} (hl : Lt U64 l) : saturatelaw49_ExecEquals.gv v h fu c d (wl l) = some true := by
  unfold saturatelaw49_ExecEquals.gv
  rw [hv, show (c.1, c.2.1, (c.2.2.1.1, c.2.2.1.2.1, c.2.2.1.2.2.1, c.2.2.1.2.2.2.1, c.2.2.1.2.2.2.2.1, c.2.2.1.2.2.2.2.2.1, c.2.2.1.2.2.2.2.2.2), (c.2.2.2.1, c.2.2.2.2)) = c from rfl, show (d.1, d.2.1, (d.2.2.1.1, d.2.2.1.2.1, d.2.2.1.2.2.1, d.2.2.1.2.2.2.1, d.2.2.1.2.2.2.2.1, d.2.2.1.2.2.2.2.2.1, d.2.2.1.2.2.2.2.2.2), (d.2.2.2.1, d.2.2.2.2)) = d from rfl]
  simp only [Option.bind_some]
  obtain ⟨b, hb, hbm⟩ := few_ex c
  obtain ⟨b', hb', hbm'⟩ := few_ex d
  rw [hb, hb']
  simp only [Option.bind_some]
  cases b with
  | false => rfl
  | true =>
    rw [Bool.not_true, cond_false]
    cases b' with
    | false => rfl
    | true =>
      rw [Bool.not_true, cond_false]
      by_cases h20 : ((wl l).length : Int) > 20
      · rw [bifd_pos h20]
      · obtain ⟨q, e1, e2⟩ := equal_both hc hd hl (hbm rfl) (hbm' rfl)
        rw [bifd_neg h20, e1, e2]
        simp
theorem ExecEquals : St.ExecEquals := by
  intro w r n g0 g1 g2 g3 g4 g5 m g w' r' n' g0' g1' g2' g3' g4' g5' m' g' t _ _ _ _ _ _ _ _ h5 hm _ _ _ _ _ _ _ _ _ h5' hm' _ _ ht
  obtain ⟨l, rfl, hl⟩ := wl_of ht
  have q := @equals_abs (fun a => saturatelaw49_live.f) ⟨saturatelaw49_live.con⟩ live_eq (fuel0 + 1) (w, r, (n, g0, g1, g2, g3, g4, g5), (m, g)) (w', r', (n', g0', g1', g2', g3', g4', g5'), (m', g')) ⟨fun p => by
    obtain ⟨k, hk, hlt⟩ := u64_of (h5 p)
    show 0 ≤ g5 p ∧ g5 p < ((18446744073709551616 : Nat) : Int)
    omega, by show m < 4611686018427387904; simp only [reachBytes] at hm; omega⟩ ⟨fun p => by
    obtain ⟨k, hk, hlt⟩ := u64_of (h5' p)
    show 0 ≤ g5' p ∧ g5' p < ((18446744073709551616 : Nat) : Int)
    omega, by show m' < 4611686018427387904; simp only [reachBytes] at hm'; omega⟩ l hl
  delta saturatelaw49_ExecEquals.f
  exact q
end Go.Proofs.YtkmehmlcccdnbaaDoor.Th
