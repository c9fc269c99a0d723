/- ExecJoins, in plain words: a program of two programs runs the second on the end of the first. -/
import Derived.Test.YtkmehmlcccdnbaaDoorStExecJoins
import Derived.Test.YtkmehmlcccdnbaaDoorXi
namespace Go.Proofs.YtkmehmlcccdnbaaDoor.Th
open Go Go.RowKit Go.Proofs.YtkmehmlcccdnbaaDoor.Ev Go.Proofs.YtkmehmlcccdnbaaDoor.Fn Go.Proofs.YtkmehmlcccdnbaaDoor.Bv
set_option linter.unusedVariables false
set_option linter.unusedSimpArgs false
set_option maxRecDepth 100000
theorem runS_succ (w : Int) (I : Nat → In) (m k : Nat) (s : List Nat) : runS w I (m + 1) k s = match stepS w (I k) s with | none => (k, none) | some s' => runS w I m (k + 1) s' := rfl
theorem RunS_def (c : CodeT) (l : List Nat) : RunS c l = match runS c.1 (insN c) c.2.2.1.1 0 (startS c l) with | (k, none) => ([], (k : Int), 17) | (_, some s) => (s, 0, 0) := rfl
theorem runS_add (w : Int) (I : Nat → In) (m' : Nat) : ∀ (m k : Nat) (s : List Nat), runS w I (m + m') k s = match runS w I m k s with | (j, none) => (j, none) | (_, some s') => runS w I m' (k + m) s'
  | 0, k, s => by rw [Nat.zero_add]; rfl
  | m + 1, k, s => by
    rw [show m + 1 + m' = (m + m') + 1 by omega, runS_succ, runS_succ]
    cases hq : stepS w (I k) s with
    | none => rfl
    | some s' =>
      simp only
      rw [runS_add w I m' m (k + 1) s', show k + 1 + m = k + (m + 1) by omega]
theorem runS_shift (w : Int) (I J : Nat → In) : ∀ (m k k' : Nat) (s : List Nat), (∀ p, p < m → I (k + p) = J (k' + p)) → ∃ q r, runS w I m k s = (k + q, r) ∧ runS w J m k' s = (k' + q, r)
  | 0, k, k', s, _ => ⟨0, some s, rfl, rfl⟩
  | m + 1, k, k', s, h => by
    unfold runS
    have h0 := h 0 (by omega)
    rw [Nat.add_zero, Nat.add_zero] at h0
    rw [h0]
    cases hq : stepS w (J k') s with
    | none => exact ⟨0, none, rfl, rfl⟩
    | some s' =>
      obtain ⟨q, r, h1, h2⟩ := runS_shift w I J m (k + 1) (k' + 1) s' (fun p hp => by
        have := h (p + 1) (by omega)
        rwa [show k + (p + 1) = k + 1 + p by omega, show k' + (p + 1) = k' + 1 + p by omega] at this)
      simp only
      exact ⟨q + 1, r, by rw [h1]; congr 1; omega, by rw [h2]; congr 1; omega⟩
/-- The two programs as one. -/
def joinC (c d : CodeT) : CodeT := (c.1, c.2.1, ((c.2.2.1.1 + d.2.2.1.1), (cat c.2.2.1.1 c.2.2.1.2.1 d.2.2.1.2.1), (cat c.2.2.1.1 c.2.2.1.2.2.1 d.2.2.1.2.2.1), (cat c.2.2.1.1 c.2.2.1.2.2.2.1 d.2.2.1.2.2.2.1), (cat c.2.2.1.1 c.2.2.1.2.2.2.2.1 d.2.2.1.2.2.2.2.1), (cat c.2.2.1.1 c.2.2.1.2.2.2.2.2.1 d.2.2.1.2.2.2.2.2.1), (cat c.2.2.1.1 c.2.2.1.2.2.2.2.2.2 d.2.2.1.2.2.2.2.2.2)), (d.2.2.2.1, d.2.2.2.2))
theorem cat_lt {α : Type} {n p : Nat} (f g : Nat → α) (h : p < n) : cat n f g p = f p := by
  unfold cat
  rw [show Nat.blt p n = true by rw [Nat.blt_eq]; exact h]; rfl
theorem cat_ge {α : Type} {n p : Nat} (f g : Nat → α) (h : n ≤ p) : cat n f g p = g (p - n) := by
  unfold cat
  have : Nat.blt p n = false := by rw [Bool.eq_false_iff]; intro e; rw [Nat.blt_eq] at e; omega
  rw [this]; rfl
theorem join_lt (c d : CodeT) {p : Nat} (h : p < c.2.2.1.1) : insOf (joinC c d) p = insOf c p := by
  unfold insOf joinC
  simp only [cat_lt _ _ h]
theorem join_ge (c d : CodeT) {p : Nat} (h : c.2.2.1.1 ≤ p) : insOf (joinC c d) p = insOf d (p - c.2.2.1.1) := by
  unfold insOf joinC
  simp only [cat_ge _ _ h]
theorem joins_abs (v : Unit → Option Bool) {h} (hv : v () = some true) (fu : Nat) {c d : CodeT} (hgc : Fn.Good c) (hgd : Fn.Good d) {l : List Nat} (hl : Lt U64 l) : saturatelaw49_ExecJoins.gv v h fu c d (wl l) = some true := by
  unfold saturatelaw49_ExecJoins.gv
  rw [hv, show (c.1, c.2.1, (c.2.2.1.1, c.2.2.1.2.1, c.2.2.1.2.2.1, c.2.2.1.2.2.2.1, c.2.2.1.2.2.2.2.1, c.2.2.1.2.2.2.2.2.1, c.2.2.1.2.2.2.2.2.2), (c.2.2.2.1, c.2.2.2.2)) = c from rfl, show (d.1, d.2.1, (d.2.2.1.1, d.2.2.1.2.1, d.2.2.1.2.2.1, d.2.2.1.2.2.2.1, d.2.2.1.2.2.2.2.1, d.2.2.1.2.2.2.2.2.1, d.2.2.1.2.2.2.2.2.2), (d.2.2.2.1, d.2.2.2.2)) = d from rfl]
  simp only [Option.bind_some]
  obtain ⟨r, h1, h2, h3, h4⟩ := check_both hgc
  obtain ⟨q, g1, g2, g3, g4⟩ := check_both hgd
  rw [h2, g2]
  simp only [Option.bind_some]
  rcases Classical.em (r.2 = 0) with he | he
  case inr => rw [show (r.2 != 0) = true by rw [bne_iff_ne]; exact he, cond_true]
  rcases Classical.em (q.2 = 0) with he' | he'
  case inr => rw [show (r.2 != 0) = false by rw [he]; rfl, cond_false, show (q.2 != 0) = true by rw [bne_iff_ne]; exact he', cond_true]
  rw [show (r.2 != 0) = false by rw [he]; rfl, cond_false, show (q.2 != 0) = false by rw [he']; rfl, cond_false]
  rcases Classical.em (c.1 = d.1) with hw | hw
  case inr => rw [show (c.1 != d.1) = true by rw [bne_iff_ne]; exact hw, cond_true]
  rw [show (c.1 != d.1) = false by rw [bne_eq_false_iff_eq]; exact hw, cond_false]
  rcases Classical.em (c.2.1 = d.2.1) with hr | hr
  case inr => rw [show (c.2.1 != d.2.1) = true by rw [bne_iff_ne]; exact hr, cond_true]
  rw [show (c.2.1 != d.2.1) = false by rw [bne_eq_false_iff_eq]; exact hr, cond_false]
  by_cases n1 : ((c.2.2.1.1 : Nat) : Int) > 40
  · rw [bifd_pos n1]
  rw [bifd_neg n1]
  by_cases n2 : ((d.2.2.1.1 : Nat) : Int) > 40
  · rw [bifd_pos n2]
  rw [bifd_neg n2]
  by_cases h20 : ((wl l).length : Int) > 20
  · rw [bifd_pos h20]
  rw [bifd_neg h20]
  rw [show Nat.ble (c.2.2.1.1 * 48) 140737488355328 = true by rw [Nat.ble_eq]; omega, cond_true, show Nat.ble ((c.2.2.1.1 + d.2.2.1.1) * 48) 140737488355328 = true by rw [Nat.ble_eq]; omega, cond_true]
  have vc := h3.1 he
  have vd := g3.1 he'
  rw [h4 he] at h1
  rw [g4 he'] at g1
  have hR := vc.r
  have hgj : Fn.Good (joinC c d) := ⟨fun p => by
    show 0 ≤ cat c.2.2.1.1 c.2.2.1.2.2.2.2.2.2 d.2.2.1.2.2.2.2.2.2 p ∧ cat c.2.2.1.1 c.2.2.1.2.2.2.2.2.2 d.2.2.1.2.2.2.2.2.2 p < (U64 : Nat)
    rcases Nat.lt_or_ge p c.2.2.1.1 with h | h
    · rw [cat_lt _ _ h]; exact hgc.imm p
    · rw [cat_ge _ _ h]; exact hgd.imm _, hgd.out⟩
  have vj : Fn.Valid (joinC c d) := ⟨vc.w, vc.r, by show c.2.2.1.1 + d.2.2.1.1 ≤ 256; omega, fun p hp => by
    have hp' : p < c.2.2.1.1 + d.2.2.1.1 := hp
    show insS c.1 c.2.1 (insOf (joinC c d) p) = 0
    rcases Nat.lt_or_ge p c.2.2.1.1 with h | h
    · rw [join_lt c d h]; exact vc.ins p h
    · rw [join_ge c d h, hw, hr]; exact vd.ins _ (by omega), fun p hp => by show inR c.2.1 (d.2.2.2.2 p) = true; rw [hr]; exact vd.out p hp, vd.dup⟩
  obtain ⟨qj, j1, _, j3, j4⟩ := check_both hgj
  rw [j4 (j3.2 vj)] at j1
  rw [show (c.1, c.2.1, ((c.2.2.1.1 + d.2.2.1.1), (cat c.2.2.1.1 c.2.2.1.2.1 d.2.2.1.2.1), (cat c.2.2.1.1 c.2.2.1.2.2.1 d.2.2.1.2.2.1), (cat c.2.2.1.1 c.2.2.1.2.2.2.1 d.2.2.1.2.2.2.1), (cat c.2.2.1.1 c.2.2.1.2.2.2.2.1 d.2.2.1.2.2.2.2.1), (cat c.2.2.1.1 c.2.2.1.2.2.2.2.2.1 d.2.2.1.2.2.2.2.2.1), (cat c.2.2.1.1 c.2.2.1.2.2.2.2.2.2 d.2.2.1.2.2.2.2.2.2)), (d.2.2.2.1, d.2.2.2.2)) = joinC c d from rfl]
  rw [exec_Run_valid j1 vj hgj hl, exec_Run_valid h1 vc hgc hl]
  simp only [Option.bind_some]
  have hst : startS (joinC c d) l = startS c l := rfl
  have hj : runS (joinC c d).1 (insN (joinC c d)) (joinC c d).2.2.1.1 0 (startS (joinC c d) l) = match runS c.1 (insN (joinC c d)) c.2.2.1.1 0 (startS c l) with | (j, none) => (j, none) | (_, some s') => runS c.1 (insN (joinC c d)) d.2.2.1.1 (0 + c.2.2.1.1) s' := runS_add c.1 (insN (joinC c d)) d.2.2.1.1 c.2.2.1.1 0 (startS c l)
  obtain ⟨p0, r0, e1, e2⟩ := runS_shift c.1 (insN (joinC c d)) (insN c) c.2.2.1.1 0 0 (startS c l) (fun p hp => by
    rw [Nat.zero_add]; unfold insN; rw [join_lt c d hp])
  rw [e1] at hj
  by_cases hq : (RunS c l).2.2 = 0
  · obtain ⟨q1, q2, q3, jj, q4⟩ := RunS_ok hq
    rw [e2] at q4
    have hr0 : r0 = some (RunS c l).1 := (Prod.mk.inj q4).2
    rw [hr0] at hj
    simp only at hj
    rw [hq, show ((0 : Int) != 0) = false from rfl, cond_false]
    have hs : Lt U64 (RunS c l).1 := q2.mono (pw_le (W_le _))
    rw [exec_Run_valid g1 vd hgd hs]
    simp only [Option.bind_some]
    have hsd : startS d (RunS c l).1 = (RunS c l).1 := by
      unfold startS
      rw [← hw, ← hr, ← q1]
      exact cutL_self q2
    obtain ⟨p1, r1, f1, f2⟩ := runS_shift c.1 (insN (joinC c d)) (insN d) d.2.2.1.1 (0 + c.2.2.1.1) 0 (RunS c l).1 (fun p hp => by
      unfold insN; rw [join_ge c d (by omega), show 0 + c.2.2.1.1 + p - c.2.2.1.1 = 0 + p by omega])
    rw [f1] at hj
    have hd : RunS d (RunS c l).1 = match (0 + p1, r1) with | (k, none) => ([], (k : Int), 17) | (_, some s) => (s, 0, 0) := by
      rw [RunS_def d, hsd, ← hw, f2]
    have hjn : RunS (joinC c d) l = match (0 + c.2.2.1.1 + p1, r1) with | (k, none) => ([], (k : Int), 17) | (_, some s) => (s, 0, 0) := by
      rw [RunS_def (joinC c d), hj]
    cases r1 with
    | none =>
      simp only at hd hjn
      have hp1 : p1 < d.2.2.1.1 := by
        have ht := trace_run d.1 (insN d) d.2.2.1.1 0 (RunS c l).1 [(RunS c l).1] rfl
        rw [← hw, f2] at ht
        simp only at ht
        omega
      rw [hd, hjn]
      simp only
      rw [show ((17 : Int) != 0) = true from rfl, cond_true, wl_length, show (((List.length ([] : List Nat)) : Int) == 0) = true from rfl, cond_true]
      rw [show (((0 + c.2.2.1.1 + p1 : Nat) : Int) == IntKind.i64.wrap (((c.2.2.1.1 : Nat) : Int) + ((0 + p1 : Nat) : Int))) = true by rw [beq_iff_eq, wrapi]; unfold wrap64; omega, cond_true]
      rfl
    | some s =>
      simp only at hd hjn
      have hsl : s.length < 4611686018427387904 := by
        obtain ⟨i1, _⟩ := runS_inv (R := c.2.1.toNat) _ _ _ q1 q2 _ _ f1
        omega
      rw [hd, hjn]
      simp only
      rw [show ((0 : Int) != 0) = false from rfl, cond_false, Same_eq hsl]
      simp
  · obtain ⟨q1, q2, k, q4, q3⟩ := RunS_bad hq
    rw [e2] at q4
    obtain ⟨hk, hr0⟩ := Prod.mk.inj q4
    rw [hr0] at hj
    simp only at hj
    have hjn : RunS (joinC c d) l = ([], ((0 + p0 : Nat) : Int), 17) := by
      rw [RunS_def (joinC c d), hj]
    rw [show ((RunS c l).2.2 != 0) = true by rw [bne_iff_ne]; exact hq, cond_true, hjn, q3, q2]
    simp only
    rw [wl_length, show (((List.length ([] : List Nat)) : Int) == 0) = true from rfl, cond_true, show (((0 + p0 : Nat) : Int) == ((k : Nat) : Int)) = true by rw [beq_iff_eq]; omega, cond_true]
    rfl
theorem ExecJoins : St.ExecJoins := by
  intro w r n g0 g1 g2 g3 g4 g5 m g w' r' n' g0' g1' g2' g3' g4' g5' m' g' t _ _ _ _ _ _ _ _ h5 hm _ _ _ _ _ _ _ _ _ h5' hm' _ _ ht
  obtain ⟨l, rfl, hl⟩ := wl_of ht
  have q := @joins_abs (fun a => saturatelaw49_live.f) ⟨saturatelaw49_live.con⟩ live_eq (fuel0 + 1) (w, r, (n, g0, g1, g2, g3, g4, g5), (m, g)) (w', r', (n', g0', g1', g2', g3', g4', g5'), (m', g')) ⟨fun p => by
    obtain ⟨k, hk, hlt⟩ := u64_of (h5 p)
    show 0 ≤ g5 p ∧ g5 p < ((18446744073709551616 : Nat) : Int)
    omega, by show m < 4611686018427387904; simp only [reachBytes] at hm; omega⟩ ⟨fun p => by
    obtain ⟨k, hk, hlt⟩ := u64_of (h5' p)
    show 0 ≤ g5' p ∧ g5' p < ((18446744073709551616 : Nat) : Int)
    omega, by show m' < 4611686018427387904; simp only [reachBytes] at hm'; omega⟩ l hl
  delta saturatelaw49_ExecJoins.f
  exact q
end Go.Proofs.YtkmehmlcccdnbaaDoor.Th
