/- ExecReduces, in plain words. -/
import Derived.Test.YtkmehmlcccdnbaaDoorStExecReduces
import Derived.Test.YtkmehmlcccdnbaaDoorXi
namespace Go.Proofs.YtkmehmlcccdnbaaDoor.Th
open Go Go.RowKit Go.Proofs.YtkmehmlcccdnbaaDoor.Ev Go.Proofs.YtkmehmlcccdnbaaDoor.Fn Go.Proofs.YtkmehmlcccdnbaaDoor.Bv
set_option linter.unusedVariables false
set_option linter.unusedSimpArgs false
set_option maxRecDepth 100000
theorem reduces_abs (v : Unit → Option Bool) {h} (hv : v () = some true) {c : CodeT} (hg : Fn.Good c) {l : List Nat} (hl : Lt U64 l) : saturatelaw49_ExecReduces.gv v h (fuel0 + 1) c (wl l) = some true := by
  unfold saturatelaw49_ExecReduces.gv
  rw [hv, show (c.1, c.2.1, (c.2.2.1.1, c.2.2.1.2.1, c.2.2.1.2.2.1, c.2.2.1.2.2.2.1, c.2.2.1.2.2.2.2.1, c.2.2.1.2.2.2.2.2.1, c.2.2.1.2.2.2.2.2.2), (c.2.2.2.1, c.2.2.2.2)) = c from rfl]
  simp only [Option.bind_some]
  obtain ⟨r, h1, h2, h3, h4⟩ := check_both hg
  rw [h2]
  simp only [Option.bind_some]
  by_cases he : r.2 = 0
  · have hvd := h3.1 he
    rw [h4 he] at h1
    have hR := hvd.r
    rw [show (r.2 != 0) = false by rw [he]; rfl, cond_false]
    by_cases h40 : ((c.2.2.1.1 : Nat) : Int) > 40
    · rw [bifd_pos h40]
    rw [bifd_neg h40]
    by_cases h20 : ((wl l).length : Int) > 20
    · rw [bifd_pos h20]
    rw [bifd_neg h20, exec_Run_valid h1 hvd hg hl, State_start hvd hl]
    simp only [Option.bind_some]
    have hs : Lt U64 (startS c l) := (startS_lt c l).mono (pw_le (W_le _))
    have hss : startS c (startS c l) = startS c l := by
      have := cutL_self (startS_lt c l)
      rw [startS_length] at this
      exact this
    rw [exec_Run_valid h1 hvd hg hs, show RunS c (startS c l) = RunS c l by unfold RunS; rw [hss]]
    simp only [Option.bind_some]
    have fin : ∀ {a : List Nat} (ha : a.length ≤ 8) (hal : Lt (2 ^ W c.1) a) c2n c3n m g0 g1 g2 g3 g4 g5 m' g, saturatelaw49_ExecReduces.p8 v h (fuel0 + 1) (fuel0 + 1) (wl a) c.1 c.2.1 c2n c3n m g0 g1 g2 g3 g4 g5 m' g = some true := fun {a} ha hal c2n c3n m g0 g1 g2 g3 g4 g5 m' g => by
      rw [saturatelaw49_ExecReduces.p8_eq, wl_length, State_eq c.1 (hal.mono (pw_le (W_le _))) (by omega), cutL_self hal]
      simp only [Option.bind_some]
      rw [Same_eq (by omega), hv]
      simp
    by_cases hq : (RunS c l).2.2 = 0
    · obtain ⟨q1, q2, q3, _⟩ := RunS_ok hq
      rw [Same_eq (by omega)]
      simp only [Option.bind_some, decide_true, Bool.not_true, cond_false, bne_self_eq_false]
      rw [hq, show ((0 : Int) == 0) = true from rfl, cond_true, wl_length, q1, show (((c.2.1.toNat : Nat) : Int) != c.2.1) = false by rw [bne_eq_false_iff_eq]; omega, cond_false]
      exact fin (by omega) q2 ..
    · obtain ⟨q1, q2, k, _, q3⟩ := RunS_bad hq
      rw [q1, Same_eq (by simp)]
      simp only [Option.bind_some, decide_true, Bool.not_true, cond_false, bne_self_eq_false]
      rw [q2, show ((17 : Int) == 0) = false from rfl, cond_false]
      exact fin (by simp) (fun n hn => by cases hn) ..
  · rw [show (r.2 != 0) = true by rw [bne_iff_ne]; exact he, cond_true]
theorem ExecReduces : St.ExecReduces := by
  intro w r n g0 g1 g2 g3 g4 g5 m g t _ _ _ _ _ _ _ _ h5 hm _ _ ht
  obtain ⟨l, rfl, hl⟩ := wl_of ht
  have q := @reduces_abs (fun a => saturatelaw49_live.f) ⟨saturatelaw49_live.con⟩ live_eq (w, r, (n, g0, g1, g2, g3, g4, g5), (m, g)) ⟨fun p => by
    obtain ⟨k, hk, hlt⟩ := u64_of (h5 p)
    show 0 ≤ g5 p ∧ g5 p < ((18446744073709551616 : Nat) : Int)
    omega, by show m < 4611686018427387904; simp only [reachBytes] at hm; omega⟩ l hl
  delta saturatelaw49_ExecReduces.f
  exact q
end Go.Proofs.YtkmehmlcccdnbaaDoor.Th
