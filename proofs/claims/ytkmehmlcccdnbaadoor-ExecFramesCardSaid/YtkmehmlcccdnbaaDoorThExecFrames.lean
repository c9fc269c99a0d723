/- ExecFrames, in plain words: an instruction changes only what it defines, and depends only on what it uses. -/
import Derived.Test.YtkmehmlcccdnbaaDoorStExecFrames
import Derived.Test.YtkmehmlcccdnbaaDoorXi
namespace Go.Proofs.YtkmehmlcccdnbaaDoor.Th
open Go Go.RowKit Go.Proofs.YtkmehmlcccdnbaaDoor.Ev Go.Proofs.YtkmehmlcccdnbaaDoor.Fn Go.Proofs.YtkmehmlcccdnbaaDoor.Bv
set_option linter.unusedVariables false
set_option linter.unusedSimpArgs false
set_option maxRecDepth 100000
theorem valS_used {w : Int} {imm a b c a' b' c' : Nat} : ∀ (o : Nat), (0 < srcs o → a = a') → (1 < srcs o → b = b') → (2 < srcs o → c = c') → valS w imm a b c o = valS w imm a' b' c' o
  | 0, _, _, _ => rfl
  | 1, _, _, _ => rfl
  | 2, h1, _, _ => by rw [h1 (by decide)]; rfl
  | 3, h1, _, _ => by rw [h1 (by decide)]; rfl
  | 4, h1, _, _ => by rw [h1 (by decide)]; rfl
  | 5, h1, h2, _ => by rw [h1 (by decide), h2 (by decide)]; rfl
  | 6, h1, h2, _ => by rw [h1 (by decide), h2 (by decide)]; rfl
  | 7, h1, h2, _ => by rw [h1 (by decide), h2 (by decide)]; rfl
  | 8, h1, h2, _ => by rw [h1 (by decide), h2 (by decide)]; rfl
  | 9, h1, h2, _ => by rw [h1 (by decide), h2 (by decide)]; rfl
  | 10, h1, h2, _ => by rw [h1 (by decide), h2 (by decide)]; rfl
  | 11, h1, h2, _ => by rw [h1 (by decide), h2 (by decide)]; rfl
  | 12, h1, h2, _ => by rw [h1 (by decide), h2 (by decide)]; rfl
  | 13, h1, h2, _ => by rw [h1 (by decide), h2 (by decide)]; rfl
  | 14, h1, h2, _ => by rw [h1 (by decide), h2 (by decide)]; rfl
  | 15, h1, h2, _ => by rw [h1 (by decide), h2 (by decide)]; rfl
  | 16, h1, h2, _ => by rw [h1 (by decide), h2 (by decide)]; rfl
  | 17, h1, h2, _ => by rw [h1 (by decide), h2 (by decide)]; rfl
  | 18, h1, h2, _ => by rw [h1 (by decide), h2 (by decide)]; rfl
  | 19, h1, h2, h3 => by rw [h1 (by decide), h2 (by decide), h3 (by decide)]
  | n + 20, _, _, _ => rfl
theorem getD_set {l : List Nat} {i j v : Nat} : (l.set i v).getD j 0 = if i = j ∧ j < l.length then v else l.getD j 0 := by
  rw [List.getD_eq_getElem?_getD, List.getElem?_set, List.getD_eq_getElem?_getD]
  by_cases h : i = j
  · subst h
    by_cases h2 : i < l.length
    · simp [h2]
    · simp [h2]
  · simp [h]
theorem cutL_set {w : Int} {l : List Nat} {i x : Nat} : cutL w l.length (l.set i x) = (cutL w l.length l).set i (vcut (W w) x) := by
  apply List.ext_getElem?
  intro j
  rw [List.getElem?_set]
  simp only [cutL, List.getElem?_map, List.length_map, List.length_range]
  by_cases hj : j < l.length
  · rw [List.getElem?_range hj]
    simp only [Option.map_some]
    by_cases h : i = j
    · subst h; rw [if_pos rfl, if_pos hj, getD_set, if_pos ⟨rfl, hj⟩]
    · rw [if_neg h, getD_set, if_neg (fun e => h e.1)]
  · rw [List.getElem?_eq_none (by simp; omega)]
    simp only [Option.map_none]
    by_cases h : i = j
    · subst h; rw [if_pos rfl, if_neg hj]
    · rw [if_neg h]
section
variable (v : Unit → Option Bool) {h : Con Tryd.prog 11 saturatelaw49_live.a saturatelaw49_live.r v} {w at_ x dst c0 c1 c2 c3 c4 c5 : Int} {df : Bool} {l a s b : List Nat}
theorem frames_j11 (fu : Nat) (hs : s.length = a.length) (ha : a.length ≤ 8) (hd : ∀ j, j < a.length → a.getD j 0 ≠ s.getD j 0 → df = true ∧ dst = (j : Int)) : ∀ (d i k : Nat), i + d = a.length → d < k →
    saturatelaw49_ExecFrames.j11 v h (fu + 1) k w (wl l) at_ x (wl a) s.length dst df (i : Int) c0 c1 c2 c3 c4 c5 (wl s) = (saturateref48_Uses.f (c0, c1, c2, c3, c4, c5)).bind fun r10 =>
      saturatelaw49_ExecFrames.j17 v h (fu + 1) (fu + 1) w (wl l) at_ x (wl a) dst df r10.1 0 c0 c1 c2 c3 c4 c5 r10.1 r10.2
  | 0, i, k + 1, hi, _ => by rw [saturatelaw49_ExecFrames.j11_succ, bifd_neg (by rw [wl_length]; omega)]
  | d + 1, i, k + 1, hi, hk => by
    rw [saturatelaw49_ExecFrames.j11_succ, bifd_pos (by rw [wl_length]; omega), bifd_pos (by omega), bifd_pos (by rw [wl_length]; omega), Int.toNat_natCast, wl_some (by omega)]
    simp only [Option.bind_some]
    rw [bifd_pos (by omega), bifd_pos (by omega), wl_some (by omega)]
    simp only [Option.bind_some]
    rw [show (Tm.mk ((a.getD i 0 : Nat) : Int) []).x = ((a.getD i 0 : Nat) : Int) from rfl, show (Tm.mk ((s.getD i 0 : Nat) : Int) []).x = ((s.getD i 0 : Nat) : Int) from rfl, bne_nat, saturatelaw49_ExecFrames.p12_eq, wrap_nat (by omega)]
    have ih := frames_j11 fu hs ha hd d (i + 1) k (by omega) (by omega)
    by_cases he : a.getD i 0 = s.getD i 0
    · rw [bifd_neg (by simpa using he)]; exact ih
    · obtain ⟨h1, h2⟩ := hd i (by omega) he
      rw [bifd_pos he, h1, Bool.not_true, cond_false, show ((i : Int) != dst) = false by rw [h2]; simp, cond_false, ← h1]
      exact ih
theorem frames_j27 (hv : v () = some true) (fu : Nat) (hb : b.length = a.length) (ha : a.length ≤ 8) (hd : ∀ j, j < a.length → a.getD j 0 ≠ b.getD j 0 → (j : Int) = at_ ∧ ¬ (df = true ∧ dst = at_)) : ∀ (d i k : Nat), i + d = a.length → d < k →
    saturatelaw49_ExecFrames.j27 v h (fu + 1) k at_ (wl a) dst df (wl b) (i : Int) = some true
  | 0, i, k + 1, hi, _ => by rw [saturatelaw49_ExecFrames.j27_succ, bifd_neg (by rw [wl_length]; omega), hv]; rfl
  | d + 1, i, k + 1, hi, hk => by
    have ih := frames_j27 hv fu hb ha hd d (i + 1) k (by omega) (by omega)
    rw [saturatelaw49_ExecFrames.j27_succ, bifd_pos (by rw [wl_length]; omega), bifd_pos (by omega), bifd_pos (by rw [wl_length]; omega), Int.toNat_natCast, wl_some (by omega), wl_some (by omega)]
    simp only [Option.bind_some]
    rw [bifd_pos (by omega), bifd_pos (by rw [wl_length]; omega)]
    rw [show (Tm.mk ((a.getD i 0 : Nat) : Int) []).x = ((a.getD i 0 : Nat) : Int) from rfl, show (Tm.mk ((b.getD i 0 : Nat) : Int) []).x = ((b.getD i 0 : Nat) : Int) from rfl, bne_nat, saturatelaw49_ExecFrames.p28_eq, wrap_nat (by omega)]
    by_cases hat : (i : Int) = at_
    · rw [show ((i : Int) != at_) = false by rw [hat]; simp, cond_false, show ((i : Int) == at_) = true by rw [hat]; simp, cond_true]
      cases df with
      | false => rw [cond_false]; exact ih
      | true =>
        rw [cond_true]
        by_cases hds : dst = at_
        · rw [show (dst == at_) = true by rw [hds]; simp, cond_true, bifd_pos (by omega), bifd_pos (by rw [wl_length]; omega), bifd_pos (by omega), bifd_pos (by rw [wl_length]; omega)]
          have he : a.getD i 0 = b.getD i 0 := Classical.byContradiction fun e => (hd i (by omega) e).2 ⟨rfl, hds⟩
          rw [bifd_neg (fun e => e he)]; exact ih
        · rw [show (dst == at_) = false by rw [beq_eq_false_iff_ne]; exact hds, cond_false]; exact ih
    · have he : a.getD i 0 = b.getD i 0 := Classical.byContradiction fun e => hat (hd i (by omega) e).1
      rw [show ((i : Int) != at_) = true by rw [bne_iff_ne]; exact hat, cond_true, bifd_neg (by simpa using he), show ((i : Int) == at_) = false by rw [beq_eq_false_iff_ne]; exact hat, cond_false]
      exact ih
theorem frames_j17 (hv : v () = some true) (fu : Nat) {n M : Nat} {U : Nat → Int} (hn : n ≤ 3) (fin : (∀ j, j < n → U j ≠ at_) → (bif Nat.ble ((wl l).length * 8) 140737488355328 then
        bif decide (0 ≤ at_) then
          bif decide (at_ < ((wl l).length : Int)) then
            (exec_Step.f w (c0, c1, c2, c3, c4, c5) ((wl l).set at_.toNat (Tm.mk x []))).bind fun r12 =>
            bif (r12.2 != 0) then some false else
              bif ((r12.1.length : Int) != ((wl a).length : Int)) then some false else
                saturatelaw49_ExecFrames.j27 v h fu fu at_ (wl a) dst df r12.1 0
          else none
        else none
      else none) = some true) : ∀ (d i k : Nat), i + d = n → d < k → (∀ j, j < i → U j ≠ at_) →
    saturatelaw49_ExecFrames.j17 v h fu k w (wl l) at_ x (wl a) dst df n (i : Int) c0 c1 c2 c3 c4 c5 M U = some true
  | 0, i, k + 1, hi, _, hall => by
    rw [saturatelaw49_ExecFrames.j17_succ, bifd_neg (by omega)]
    exact fin fun j hj => hall j (by omega)
  | d + 1, i, k + 1, hi, hk, hall => by
    rw [saturatelaw49_ExecFrames.j17_succ, bifd_pos (by omega), bifd_pos (by omega), bifd_pos (by omega), Int.toNat_natCast]
    by_cases he : U i = at_
    · rw [show (U i == at_) = true by rw [beq_iff_eq]; exact he, cond_true, hv]; rfl
    · rw [show (U i == at_) = false by rw [beq_eq_false_iff_ne]; exact he, cond_false, wrap_nat (by omega)]
      exact frames_j17 hv fu hn fin d (i + 1) k (by omega) (by omega) fun j hj => by
        by_cases e : j = i
        · rw [e]; exact he
        · exact hall j (by omega)
end
theorem frames_abs (v : Unit → Option Bool) {h} (hv : v () = some true) (w : Int) {i : J6} (hm : 0 ≤ i.2.2.2.2.2 ∧ i.2.2.2.2.2 < (U64 : Nat)) {l : List Nat} (hl : Lt U64 l) (at_ : Int) {x : Nat} (hx : x < U64) : saturatelaw49_ExecFrames.gv v h (fuel0 + 1) w i (wl l) at_ (x : Int) = some true := by
  unfold saturatelaw49_ExecFrames.gv
  rw [hv, wl_length]
  simp only [Option.bind_some]
  by_cases h8 : ((l.length : Nat) : Int) > 8
  · rw [bifd_pos h8]
  rw [bifd_neg h8]
  by_cases hn : at_ < 0
  · rw [bifd_pos hn]
  rw [bifd_neg hn]
  by_cases hge : at_ ≥ ((l.length : Nat) : Int)
  · rw [bifd_pos hge]
  rw [bifd_neg hge]
  obtain ⟨t, rfl⟩ : ∃ t : Nat, at_ = t := ⟨at_.toNat, by omega⟩
  rw [show (i.1, i.2.1, i.2.2.1, i.2.2.2.1, i.2.2.2.2.1, i.2.2.2.2.2) = i from rfl, exec_Step_eq w hm hl]
  simp only [Option.bind_some]
  have hmin : min l.length 8 = l.length := by omega
  have hcase : ((StepS w i l).1 = [] ∧ (StepS w i l).2 ≠ 0) ∨ ((0 ≤ i.1 ∧ i.1 ≤ 19) ∧ (lOf (srcs i.1.toNat) i (defS i)).all (regOk l.length) = true ∧ ∃ a, stepS w (inOf i) (cutL w l.length l) = some a ∧ StepS w i l = (a, 0)) := by
    unfold StepS
    rw [hmin]
    by_cases hk : 0 ≤ i.1 ∧ i.1 ≤ 19
    · rw [if_pos hk]
      by_cases hall : (lOf (srcs i.1.toNat) i (defS i)).all (regOk l.length) = true
      · rw [if_pos hall]
        cases hq : stepS w (inOf i) (cutL w l.length l) with
        | none => exact .inl ⟨rfl, by decide⟩
        | some a => exact .inr ⟨hk, hall, a, rfl, rfl⟩
      · rw [if_neg hall]; exact .inl ⟨rfl, by simp only; decide⟩
    · rw [if_neg hk]; exact .inl ⟨rfl, by simp only; decide⟩
  rcases hcase with ⟨e1, e2⟩ | ⟨hk, hall, a, hst, hS⟩
  · rw [show ((StepS w i l).2 != 0) = true by rw [bne_iff_ne]; exact e2, cond_true, e1, wl_length]; rfl
  · rw [hS]
    simp only
    have hal : a.length = l.length := by rw [stepS_length hst, cutL_length]
    rw [show ((0 : Int) != 0) = false from rfl, cond_false, State_eq w hl (by omega), Def_eq]
    simp only [Option.bind_some]
    rw [wl_length, hal, show (((l.length : Nat) : Int) != ((l.length : Nat) : Int)) = false by simp, cond_false, wl_length]
    have hsl : (cutL w l.length l).length = l.length := cutL_length ..
    have hcl := cutL_lt w l.length l
    generalize hs : cutL w l.length l = s at *
    have hdef : (i.1 = 0 ∧ defS i = (0, false)) ∨ (i.1 ≠ 0 ∧ defS i = (i.2.1, true)) := by
      unfold defS
      rw [if_pos hk]
      by_cases h0 : i.1 = 0
      · exact .inl ⟨h0, by rw [if_pos h0]⟩
      · exact .inr ⟨h0, by rw [if_neg h0]⟩
    have hau := (all_uses (srcs_le i.1.toNat)).1 hall
    have hO : (inOf i).o = i.1.toNat := rfl
    have hD : (inOf i).d = i.2.1.toNat := rfl
    -- the step writes what it defines
    have hset : ∃ y, a = (if i.1 = 0 then s else s.set i.2.1.toNat y) ∧ (i.1 ≠ 0 → valS w (inOf i).imm (s.getD (inOf i).a 0) (s.getD (inOf i).b 0) (s.getD (inOf i).c 0) i.1.toNat = some y) := by
      unfold stepS at hst
      rw [hO] at hst
      by_cases h0 : i.1 = 0
      · rw [if_pos (by omega)] at hst
        cases hst
        exact ⟨0, by rw [if_pos h0], fun h => absurd h0 h⟩
      · rw [if_neg (by omega)] at hst
        obtain ⟨y, hy, rfl⟩ := Option.map_eq_some_iff.1 hst
        exact ⟨y, by rw [if_neg h0, hD], fun _ => hy⟩
    obtain ⟨y, hay, hval⟩ := hset
    have hd0 : i.1 ≠ 0 → 0 ≤ i.2.1 := fun h0 => by
      rcases hdef with ⟨h1, _⟩ | ⟨_, h2⟩
      · exact absurd h1 h0
      · have := hau.2 (by rw [h2])
        rw [h2] at this
        exact (regOk_iff.1 this).1
    have hd : ∀ j, j < a.length → a.getD j 0 ≠ s.getD j 0 → (defS i).2 = true ∧ (defS i).1 = (j : Int) := fun j hj hne => by
      rcases hdef with ⟨h1, h2⟩ | ⟨h1, h2⟩
      · rw [if_pos h1] at hay; rw [hay] at hne; exact absurd rfl hne
      · rw [if_neg h1] at hay
        rw [h2]
        refine ⟨rfl, ?_⟩
        rw [hay, getD_set] at hne
        by_cases e : i.2.1.toNat = j ∧ j < s.length
        · have := hd0 h1; simp only; omega
        · rw [if_neg e] at hne; exact absurd rfl hne
    have j11 := frames_j11 v (h := h) (w := w) (at_ := (t : Int)) (x := (x : Int)) (dst := (defS i).1) (c0 := i.1) (c1 := i.2.1) (c2 := i.2.2.1) (c3 := i.2.2.2.1) (c4 := i.2.2.2.2.1) (c5 := i.2.2.2.2.2) (df := (defS i).2) (l := l) (a := a) (s := s) fuel0 (by omega) (by omega) hd a.length 0 (fuel0 + 1) (by omega) (by unfold fuel0; omega)
    rw [hsl, show ((0 : Nat) : Int) = 0 from rfl] at j11
    rw [show (i.1, i.2.1, i.2.2.1, i.2.2.2.1, i.2.2.2.2.1, i.2.2.2.2.2) = i from rfl] at j11
    rw [hsl, j11]
    have hU : saturateref48_Uses.f i = some (srcs i.1.toNat, useF i) := by
      have := Uses_eq (o := i.1.toNat) (by omega) i.2.1 i.2.2.1 i.2.2.2.1 i.2.2.2.2.1 i.2.2.2.2.2
      rwa [show ((i.1.toNat : Nat) : Int) = i.1 by omega] at this
    rw [hU]
    simp only [Option.bind_some]
    rw [show (0 : Int) = ((0 : Nat) : Int) from rfl]
    refine frames_j17 v hv (fuel0 + 1) (srcs_le i.1.toNat) (fun hfree => ?_) (srcs i.1.toNat) 0 (fuel0 + 1) (by omega) (by have := srcs_le i.1.toNat; unfold fuel0; omega) (fun j hj => by omega)
    -- the other state
    have hl' : Lt U64 (l.set t x) := hl.set hx
    rw [wl_length, show Nat.ble (l.length * 8) 140737488355328 = true by rw [Nat.ble_eq]; omega, cond_true, bifd_pos (by omega), bifd_pos (by omega), Int.toNat_natCast, wl_set, show (i.1, i.2.1, i.2.2.1, i.2.2.2.1, i.2.2.2.2.1, i.2.2.2.2.2) = i from rfl, exec_Step_eq w hm hl']
    simp only [Option.bind_some]
    have hs' : cutL w l.length (l.set t x) = s.set t (vcut (W w) x) := by rw [← hs]; exact cutL_set
    have hsame : ∀ (p : Nat) (hp : (p : Int) ≠ (t : Int)), (s.set t (vcut (W w) x)).getD p 0 = s.getD p 0 := fun p hp => by
      rw [getD_set, if_neg (fun e => hp (by omega))]
    have hu : (0 < srcs i.1.toNat → s.getD (inOf i).a 0 = (s.set t (vcut (W w) x)).getD (inOf i).a 0) ∧ (1 < srcs i.1.toNat → s.getD (inOf i).b 0 = (s.set t (vcut (W w) x)).getD (inOf i).b 0) ∧ (2 < srcs i.1.toNat → s.getD (inOf i).c 0 = (s.set t (vcut (W w) x)).getD (inOf i).c 0) := by
      refine ⟨fun h0 => ?_, fun h0 => ?_, fun h0 => ?_⟩
      · have h1 := hfree 0 h0
        have h2 := (regOk_iff.1 (hau.1 0 h0)).1
        have h3 : useF i 0 = i.2.2.1 := rfl
        rw [h3] at h1 h2
        rw [hsame]
        show (((if 0 < srcs i.1.toNat then i.2.2.1.toNat else 0 : Nat)) : Int) ≠ _
        rw [if_pos h0]; omega
      · have h1 := hfree 1 h0
        have h2 := (regOk_iff.1 (hau.1 1 h0)).1
        have h3 : useF i 1 = i.2.2.2.1 := rfl
        rw [h3] at h1 h2
        rw [hsame]
        show (((if 1 < srcs i.1.toNat then i.2.2.2.1.toNat else 0 : Nat)) : Int) ≠ _
        rw [if_pos h0]; omega
      · have h1 := hfree 2 h0
        have h2 := (regOk_iff.1 (hau.1 2 h0)).1
        have h3 : useF i 2 = i.2.2.2.2.1 := rfl
        rw [h3] at h1 h2
        rw [hsame]
        show (((if 2 < srcs i.1.toNat then i.2.2.2.2.1.toNat else 0 : Nat)) : Int) ≠ _
        rw [if_pos h0]; omega
    have hb : StepS w i (l.set t x) = ((if i.1 = 0 then s.set t (vcut (W w) x) else (s.set t (vcut (W w) x)).set i.2.1.toNat y), 0) := by
      unfold StepS
      rw [List.length_set, hmin, if_pos hk, if_pos hall, hs']
      unfold stepS
      rw [hO]
      by_cases h0 : i.1 = 0
      · rw [if_pos (by omega), if_pos h0]
      · rw [if_neg (by omega), if_neg h0, ← valS_used i.1.toNat hu.1 hu.2.1 hu.2.2, hval h0]; rfl
    rw [hb]
    simp only
    have hbl : (if i.1 = 0 then s.set t (vcut (W w) x) else (s.set t (vcut (W w) x)).set i.2.1.toNat y).length = a.length := by
      split <;> simp <;> omega
    rw [show ((0 : Int) != 0) = false from rfl, cond_false, wl_length, wl_length, hbl, show (((a.length : Nat) : Int) != ((a.length : Nat) : Int)) = false by simp, cond_false]
    rw [show (0 : Int) = ((0 : Nat) : Int) from rfl]
    refine frames_j27 v hv fuel0 hbl (by omega) (fun j hj hne => ?_) a.length 0 (fuel0 + 1) (by omega) (by unfold fuel0; omega)
    rcases hdef with ⟨h1, h2⟩ | ⟨h1, h2⟩
    · rw [if_pos h1] at hay hne
      rw [hay, getD_set] at hne
      by_cases e : t = j ∧ j < s.length
      · exact ⟨by omega, fun e2 => by rw [h2] at e2; cases e2.1⟩
      · rw [if_neg e] at hne; exact absurd rfl hne
    · rw [if_neg h1] at hay hne
      rw [hay, getD_set, getD_set, List.length_set] at hne
      have h0 := hd0 h1
      by_cases e : i.2.1.toNat = j ∧ j < s.length
      · rw [if_pos e, if_pos e] at hne; exact absurd rfl hne
      · rw [if_neg e, if_neg e, getD_set] at hne
        by_cases e2 : t = j ∧ j < s.length
        · refine ⟨by omega, fun e3 => ?_⟩
          rw [h2] at e3
          simp only at e3
          exact e ⟨by omega, e2.2⟩
        · rw [if_neg e2] at hne; exact absurd rfl hne
theorem ExecFrames : St.ExecFrames := by
  intro w o d a b c m t at_ x _ _ _ _ _ _ hm _ ht _ hxx
  obtain ⟨m, rfl, hm⟩ := u64_of hm
  obtain ⟨x, rfl, hx⟩ := u64_of hxx
  obtain ⟨l, rfl, hl⟩ := wl_of ht
  have q := @frames_abs (fun a => saturatelaw49_live.f) ⟨saturatelaw49_live.con⟩ live_eq w (o, d, a, b, c, (m : Int)) ⟨by simp only; omega, by simp only; show (m : Int) < ((18446744073709551616 : Nat) : Int); omega⟩ l hl at_ x hx
  delta saturatelaw49_ExecFrames.f
  exact q
end Go.Proofs.YtkmehmlcccdnbaaDoor.Th
