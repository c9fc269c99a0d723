/- ExecTraces, in plain words: each state of a trace results from the one before. -/
import Derived.Test.YtkmehmlcccdnbaaDoorStExecTraces
import Derived.Test.YtkmehmlcccdnbaaDoorXi
namespace Go.Proofs.YtkmehmlcccdnbaaDoor.Th
open Go Go.RowKit Go.Proofs.YtkmehmlcccdnbaaDoor.Ev Go.Proofs.YtkmehmlcccdnbaaDoor.Fn Go.Proofs.YtkmehmlcccdnbaaDoor.Bv
set_option linter.unusedVariables false
set_option linter.unusedSimpArgs false
set_option maxRecDepth 100000
/-- What is known of a trace. -/
structure Tr (w : Int) (I : Nat → In) (R N : Nat) (s0 : List Nat) (q : Nat × Option (List Nat)) (L : List (List Nat)) (e : Int) (K : Nat) : Prop where
  len : L.length = K + 1
  chain : ∀ i, i < K → stepS w (I i) (L.getD i []) = some (L.getD (i + 1) [])
  good : ∀ i, i ≤ K → (L.getD i []).length = R ∧ Lt (2 ^ W w) (L.getD i [])
  first : L.getD 0 [] = s0
  last : (e = 0 ∧ K = N ∧ q.2 = some (L.getD K [])) ∨ (e = 17 ∧ K < N ∧ stepS w (I K) (L.getD K []) = none ∧ q = (K, none))
theorem getD_app {l : List (List Nat)} {s : List Nat} {i : Nat} : (l ++ [s]).getD i [] = if i < l.length then l.getD i [] else if i = l.length then s else [] := by
  rw [List.getD_eq_getElem?_getD, List.getElem?_append]
  split
  · rw [List.getD_eq_getElem?_getD]
  · rename_i h
    split
    · rename_i e; subst e; simp
    · rw [List.getElem?_eq_none (by simp; omega)]; rfl
theorem trace_tr {w : Int} {I : Nat → In} {R N : Nat} {s0 : List Nat} : ∀ (m k : Nat) (s : List Nat) (acc : List (List Nat)), k + m = N → acc.length = k + 1 → acc.getD k [] = s → (∀ i, i < k → stepS w (I i) (acc.getD i []) = some (acc.getD (i + 1) [])) →
    (∀ i, i ≤ k → (acc.getD i []).length = R ∧ Lt (2 ^ W w) (acc.getD i [])) → acc.getD 0 [] = s0 → ∃ K, Tr w I R N s0 (runS w I m k s) (traceS w I m k s acc).1 (traceS w I m k s acc).2 K
  | 0, k, s, acc, hk, ha, hs, hc, hg, hf => ⟨k, ha, hc, hg, hf, .inl ⟨rfl, by omega, by rw [← hs]; rfl⟩⟩
  | m + 1, k, s, acc, hk, ha, hs, hc, hg, hf => by
    unfold runS traceS
    cases hq : stepS w (I k) s with
    | none => exact ⟨k, ha, hc, hg, hf, .inr ⟨rfl, by omega, by simp only; rw [hs]; exact hq, rfl⟩⟩
    | some s' =>
      have gk := hg k (Nat.le_refl _)
      rw [hs] at gk
      refine trace_tr m (k + 1) s' (acc ++ [s']) (by omega) (by simp [ha]) (by rw [getD_app, if_neg (by omega), if_pos (by omega)]) (fun i hi => ?_) (fun i hi => ?_) (by rw [getD_app, if_pos (by omega)]; exact hf)
      · rw [getD_app, getD_app, if_pos (by omega)]
        by_cases e : i = k
        · subst e
          rw [if_neg (by omega), if_pos (by omega), hs]; exact hq
        · rw [if_pos (by omega)]; exact hc i (by omega)
      · rw [getD_app]
        by_cases e : i = k + 1
        · rw [if_neg (by omega), if_pos (by omega)]
          exact ⟨(stepS_length hq).trans gk.1, stepS_lt gk.2 hq⟩
        · rw [if_pos (by omega)]; exact hg i (by omega)
theorem traces_j8 (v : Unit → Option Bool) {h} (hv : v () = some true) (fu : Nat) {c : CodeT} (hc : isa_Check.f c = some (0, 0)) (hvd : Valid c) (hg : Fn.Good c) {l : List Nat} (hl : Lt U64 l) {L : List (List Nat)} {e : Int} {K : Nat}
    (hT : Tr c.1 (insN c) c.2.1.toNat c.2.2.1.1 (startS c l) (runS c.1 (insN c) c.2.2.1.1 0 (startS c l)) L e K) : ∀ (d j k : Nat), j + d = K → d < k →
    saturatelaw49_ExecTraces.j8 v h fu k (wl l) (sl L) e ((j + 1 : Nat) : Int) c.1 c.2.1 c.2.2.1.1 c.2.2.2.1 c.2.2.1.1 c.2.2.1.2.1 c.2.2.1.2.2.1 c.2.2.1.2.2.2.1 c.2.2.1.2.2.2.2.1 c.2.2.1.2.2.2.2.2.1 c.2.2.1.2.2.2.2.2.2 c.2.2.2.1 c.2.2.2.2 = some true
  | 0, j, k + 1, hj, _ => by
    obtain rfl : j = K := by omega
    have hn := hvd.n
    have hR := hvd.r
    have hlen := hT.len
    have gK := hT.good j (Nat.le_refl _)
    have hjn : j ≤ c.2.2.1.1 := by rcases hT.last with ⟨_, h2, _⟩ | ⟨_, h2, _⟩ <;> omega
    rw [saturatelaw49_ExecTraces.j8_succ, bifd_neg (by rw [sl_length]; omega)]
    rw [show (c.1, c.2.1, (c.2.2.1.1, c.2.2.1.2.1, c.2.2.1.2.2.1, c.2.2.1.2.2.2.1, c.2.2.1.2.2.2.2.1, c.2.2.1.2.2.2.2.2.1, c.2.2.1.2.2.2.2.2.2), (c.2.2.2.1, c.2.2.2.2)) = c from rfl, exec_Run_valid hc hvd hg hl]
    simp only [Option.bind_some]
    rcases hT.last with ⟨he, hK, hq⟩ | ⟨he, hK, hst, hq⟩
    · have hr : RunS c l = (L.getD j [], 0, 0) := by
        unfold RunS
        rcases hrr : runS c.1 (insN c) c.2.2.1.1 0 (startS c l) with ⟨k0, _ | s⟩
        · rw [hrr] at hq; cases hq
        · rw [hrr] at hq; simp only [Option.some.injEq] at hq; rw [hq]
      rw [he, hr]
      simp only
      rw [show ((0 : Int) != 0) = false from rfl, cond_false, cond_false, sl_length, hlen]
      rw [show (((j + 1 : Nat) : Int) == IntKind.i64.wrap (((c.2.2.1.1 : Nat) : Int) + 1)) = true by rw [beq_iff_eq, wrap_nat (by omega)]; omega, cond_true, wrap_pred (by omega), bifd_pos (by omega), bifd_pos (by omega), Int.toNat_natCast, sl_some (by omega)]
      simp only [Option.bind_some]
      rw [show (Tm.mk 0 (wl (L.getD j []))).kids = wl (L.getD j []) from rfl, Same_eq (by omega)]
      simp only [Option.bind_some, decide_true, cond_true]
      rw [hv]; rfl
    · have hr : RunS c l = ([], (j : Int), 17) := by
        unfold RunS
        rw [hq]
      rw [he, hr]
      simp only
      rw [show ((17 : Int) != 17) = false from rfl, cond_false, show ((17 : Int) != 0) = true from rfl, cond_true, cond_false, sl_length, hlen, wrap_pred (by omega), show (((j : Nat) : Int) != ((j : Nat) : Int)) = false by simp, cond_false, bifd_neg (by omega), bifd_pos (by omega), bifd_pos (by omega), bifd_pos (by omega), bifd_pos (by omega), Int.toNat_natCast, sl_some (by omega)]
      simp only [Option.bind_some]
      rw [show (Tm.mk 0 (wl (L.getD j []))).kids = wl (L.getD j []) from rfl]
      rw [show (c.2.2.1.2.1 j, c.2.2.1.2.2.1 j, c.2.2.1.2.2.2.1 j, c.2.2.1.2.2.2.2.1 j, c.2.2.1.2.2.2.2.2.1 j, c.2.2.1.2.2.2.2.2.2 j) = insOf c j from rfl]
      rw [exec_Step_eq c.1 (hg.imm j) (gK.2.mono (pw_le (W_le _))), StepS_valid (hvd.ins j hK) (hg.imm j).1 hvd.r gK.1 gK.2, show inOf (insOf c j) = insN c j from rfl, hst]
      simp only [Option.bind_some]
      rw [show ((17 : Int) == 17) = true from rfl, cond_true, hv]; rfl
  | d + 1, j, k + 1, hj, hk => by
    have hn := hvd.n
    have hR := hvd.r
    have hlen := hT.len
    have hjn : j < c.2.2.1.1 := by rcases hT.last with ⟨_, h2, _⟩ | ⟨_, h2, _⟩ <;> omega
    have gj := hT.good j (by omega)
    have gj1 := hT.good (j + 1) (by omega)
    rw [saturatelaw49_ExecTraces.j8_succ, bifd_pos (by rw [sl_length]; omega), wrap_pred (by omega), bifd_pos (by omega), bifd_pos (by omega), bifd_pos (by omega), bifd_pos (by rw [sl_length]; omega), Int.toNat_natCast, sl_some (by omega)]
    simp only [Option.bind_some]
    rw [show (Tm.mk 0 (wl (L.getD j []))).kids = wl (L.getD j []) from rfl]
    rw [show (c.2.2.1.2.1 j, c.2.2.1.2.2.1 j, c.2.2.1.2.2.2.1 j, c.2.2.1.2.2.2.2.1 j, c.2.2.1.2.2.2.2.2.1 j, c.2.2.1.2.2.2.2.2.2 j) = insOf c j from rfl]
    rw [exec_Step_eq c.1 (hg.imm j) (gj.2.mono (pw_le (W_le _))), StepS_valid (hvd.ins j hjn) (hg.imm j).1 hvd.r gj.1 gj.2, show inOf (insOf c j) = insN c j from rfl, hT.chain j (by omega)]
    simp only [Option.bind_some]
    rw [show ((0 : Int) != 0) = false from rfl, cond_false, bifd_pos (by omega), bifd_pos (by rw [sl_length]; omega), Int.toNat_natCast, sl_some (by omega)]
    simp only [Option.bind_some]
    rw [show (Tm.mk 0 (wl (L.getD (j + 1) []))).kids = wl (L.getD (j + 1) []) from rfl, Same_eq (by omega)]
    simp only [Option.bind_some, decide_true, Bool.not_true, cond_false]
    rw [wrap_nat (by omega)]
    exact traces_j8 v hv fu hc hvd hg hl hT d (j + 1) k (by omega) (by omega)
theorem traces_abs (v : Unit → Option Bool) {h} (hv : v () = some true) {c : CodeT} (hg : Fn.Good c) {l : List Nat} (hl : Lt U64 l) : saturatelaw49_ExecTraces.gv v h (fuel0 + 1) c (wl l) = some true := by
  unfold saturatelaw49_ExecTraces.gv
  rw [hv, show (c.1, c.2.1, (c.2.2.1.1, c.2.2.1.2.1, c.2.2.1.2.2.1, c.2.2.1.2.2.2.1, c.2.2.1.2.2.2.2.1, c.2.2.1.2.2.2.2.2.1, c.2.2.1.2.2.2.2.2.2), (c.2.2.2.1, c.2.2.2.2)) = c from rfl]
  simp only [Option.bind_some]
  obtain ⟨r, h1, h2, h3, h4⟩ := check_both hg
  rw [h2]
  simp only [Option.bind_some]
  by_cases he : r.2 = 0
  · have hvd := h3.1 he
    rw [h4 he] at h1
    have hR := hvd.r
    rw [show (r.2 != 0) = false by rw [he]; rfl, cond_false]
    by_cases h40 : ((c.2.2.1.1 : Nat) : Int) > 40
    · rw [bifd_pos h40]
    rw [bifd_neg h40]
    by_cases h20 : ((wl l).length : Int) > 20
    · rw [bifd_pos h20]
    rw [bifd_neg h20, exec_Trace_valid h1 hvd hg hl]
    simp only [Option.bind_some]
    obtain ⟨K, hT⟩ := trace_tr (w := c.1) (I := insN c) (R := c.2.1.toNat) (N := c.2.2.1.1) (s0 := startS c l) c.2.2.1.1 0 (startS c l) [startS c l] (by omega) rfl rfl (fun i hi => by omega) (fun i hi => by
      obtain rfl : i = 0 := by omega
      exact ⟨startS_length c l, startS_lt c l⟩) rfl
    have hlen := hT.len
    have hKn : K ≤ c.2.2.1.1 := by rcases hT.last with ⟨_, h2, _⟩ | ⟨_, h2, _⟩ <;> omega
    rw [show traceS c.1 (insN c) c.2.2.1.1 0 (startS c l) [startS c l] = TraceS c l from rfl] at hT hlen
    rw [sl_length, hlen, bifd_neg (by omega), bifd_neg (by rw [wrap_nat (by omega)]; omega), bifd_pos (by omega), sl_some (by omega), State_start hvd hl]
    simp only [Option.bind_some]
    rw [show (Tm.mk 0 (wl ((TraceS c l).1.getD 0 []))).kids = wl ((TraceS c l).1.getD 0 []) from rfl, hT.first, Same_eq (by rw [startS_length]; omega)]
    simp only [Option.bind_some, decide_true, Bool.not_true, cond_false]
    exact traces_j8 v hv (fuel0 + 1) h1 hvd hg hl hT K 0 (fuel0 + 1) (by omega) (by unfold fuel0; omega)
  · rw [show (r.2 != 0) = true by rw [bne_iff_ne]; exact he, cond_true]
theorem ExecTraces : St.ExecTraces := by
  intro w r n g0 g1 g2 g3 g4 g5 m g t _ _ _ _ _ _ _ _ h5 hm _ _ ht
  obtain ⟨l, rfl, hl⟩ := wl_of ht
  have q := @traces_abs (fun a => saturatelaw49_live.f) ⟨saturatelaw49_live.con⟩ live_eq (w, r, (n, g0, g1, g2, g3, g4, g5), (m, g)) ⟨fun p => by
    obtain ⟨k, hk, hlt⟩ := u64_of (h5 p)
    show 0 ≤ g5 p ∧ g5 p < ((18446744073709551616 : Nat) : Int)
    omega, by show m < 4611686018427387904; simp only [reachBytes] at hm; omega⟩ l hl
  delta saturatelaw49_ExecTraces.f
  exact q
end Go.Proofs.YtkmehmlcccdnbaaDoor.Th
