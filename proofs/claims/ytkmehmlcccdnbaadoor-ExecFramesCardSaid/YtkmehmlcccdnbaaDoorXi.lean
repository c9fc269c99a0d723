/- The law's examples. -/
import Derived.Test.YtkmehmlcccdnbaaDoorF2
import Derived.Test.YtkmehmlcccdnbaaDoorXh
namespace Go.Proofs.YtkmehmlcccdnbaaDoor.Fn
open Go Go.RowKit Go.Proofs.YtkmehmlcccdnbaaDoor.Ev Go.Proofs.YtkmehmlcccdnbaaDoor.Bv
set_option linter.unusedVariables false
set_option linter.unusedSimpArgs false
set_option maxRecDepth 100000

def c49 (o : Int) : CodeT := (8, 2, (1, (fun i => [o].getD i 0), (fun i => [0].getD i 0), (fun i => [0].getD i 0), (fun i => [1].getD i 0), (fun i => [0].getD i 0), (fun i => [0].getD i 0)), (1, (fun i => [0].getD i 0)))
theorem getD_zero (p : Nat) : ([0] : List Int).getD p 0 = 0 := by
  match p with
  | 0 => rfl
  | p + 1 => simp
theorem c49_good (o : Int) : Good (c49 o) := ⟨fun p => by show 0 ≤ ([0] : List Int).getD p 0 ∧ ([0] : List Int).getD p 0 < (U64 : Nat); rw [getD_zero]; decide, by show 1 < 4611686018427387904; decide⟩
theorem c49_valid {o : Int} (h : insS 8 2 (insOf (c49 o) 0) = 0) : Valid (c49 o) := by
  refine ⟨by show (1 : Int) ≤ 8 ∧ (8 : Int) ≤ 64; decide, by show (1 : Int) ≤ 2 ∧ (2 : Int) ≤ 8; decide, by show 1 ≤ 256; decide, fun p hp => ?_, fun p hp => ?_, fun p hp q hq => ?_⟩
  · have hp' : p < 1 := hp
    obtain rfl : p = 0 := by omega
    exact h
  · show inR 2 (([0] : List Int).getD p 0) = true
    rw [getD_zero]; rfl
  · have hp' : p < 1 := hp
    omega
theorem live_eq : saturatelaw49_live.f = some true := by
  have vA := c49_valid (o := 8) (by decide +kernel)
  have vD := c49_valid (o := 11) (by decide +kernel)
  obtain ⟨rA, a1, _, a3, a4⟩ := check_both (c49_good 8)
  obtain ⟨rD, d1, _, d3, d4⟩ := check_both (c49_good 11)
  rw [a4 (a3.2 vA)] at a1
  rw [d4 (d3.2 vD)] at d1
  have l1 : Lt U64 [200, 100] := fun n hn => by simp at hn; show n < 18446744073709551616; omega
  have l2 : Lt U64 [5, 0] := fun n hn => by simp at hn; show n < 18446744073709551616; omega
  have l3 : Lt U64 [5] := fun n hn => by simp at hn; show n < 18446744073709551616; omega
  have h1 := exec_Run_valid a1 vA (c49_good 8) l1
  have h2 := exec_Run_valid d1 vD (c49_good 11) l2
  have h3 := exec_Trace_valid d1 vD (c49_good 11) l3
  rw [show RunS (c49 8) [200, 100] = ([44, 100], 0, 0) by decide +kernel] at h1
  rw [show RunS (c49 11) [5, 0] = ([], 0, 17) by decide +kernel] at h2
  rw [show TraceS (c49 11) [5] = ([[5, 0]], 17) by decide +kernel] at h3
  have h4 : saturateref49_Same.f (wl [44, 100]) (wl [44, 100]) = some true := by rw [Same_eq (by decide)]; rfl
  unfold saturatelaw49_live.f saturatelaw49_live.fv
  show ((exec_Run.f (c49 8) (wl [200, 100])).bind fun r1 => (exec_Run.f (c49 11) (wl [5, 0])).bind fun r2 => (exec_Trace.f (c49 11) (wl [5])).bind fun r3 => (saturateref49_Same.f r1.1 (wl [44, 100])).bind fun r4 => _) = _
  rw [h1, Option.bind_some, h2, Option.bind_some, h3, Option.bind_some, h4]
  rfl
end Go.Proofs.YtkmehmlcccdnbaaDoor.Fn
