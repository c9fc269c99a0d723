/- One step: the program's and the reference's, to one specification. -/
import Derived.Test.YtkmehmlcccdnbaaDoorF1
import Derived.Test.YtkmehmlcccdnbaaDoorF3
import Derived.Test.YtkmehmlcccdnbaaDoorF5
import Derived.Test.YtkmehmlcccdnbaaDoorXd
namespace Go.Proofs.YtkmehmlcccdnbaaDoor.Fn
open Go Go.RowKit Go.Proofs.YtkmehmlcccdnbaaDoor.Ev Go.Proofs.YtkmehmlcccdnbaaDoor.Bv
set_option linter.unusedVariables false
set_option linter.unusedSimpArgs false
set_option maxRecDepth 100000

/-- An instruction whose fields are numbers of registers. -/
structure In where
  o : Nat
  d : Nat
  a : Nat
  b : Nat
  c : Nat
  imm : Nat
def inJ (x : In) : J6 := ((x.o : Int), (x.d : Int), (x.a : Int), (x.b : Int), (x.c : Int), (x.imm : Int))
/-- A step on a state: none: a trap. -/
def stepS (w : Int) (x : In) (s : List Nat) : Option (List Nat) := if x.o = 0 then some s else (valS w x.imm (s.getD x.a 0) (s.getD x.b 0) (s.getD x.c 0) x.o).map fun v => s.set x.d v
theorem stepS_length {w : Int} {x : In} {s s' : List Nat} (h : stepS w x s = some s') : s'.length = s.length := by
  unfold stepS at h
  split at h
  · cases h; rfl
  · obtain ⟨v, _, rfl⟩ := Option.map_eq_some_iff.1 h
    simp
theorem stepS_lt {w : Int} {x : In} {s s' : List Nat} (hs : Lt (2 ^ W w) s) (h : stepS w x s = some s') : Lt (2 ^ W w) s' := by
  unfold stepS at h
  split at h
  · cases h; exact hs
  · obtain ⟨v, hv, rfl⟩ := Option.map_eq_some_iff.1 h
    exact hs.set (valS_lt (hs.getD (pw_pos _) _) (hs.getD (pw_pos _) _) (hs.getD (pw_pos _) _) hv)
theorem stepP_nop (w : Int) (i : J6) (h : i.1 = 0) (L : List Tm) : stepP w i L = some (some L) := by
  unfold stepP
  rw [isa_Def_eq]
  simp [defS, h]
theorem stepP_eq {w : Int} {x : In} {s : List Nat} (ho : x.o ≤ 19) (him : x.imm < U64) (hs : Lt (2 ^ W w) s) (hd : x.o ≠ 0 → x.d < s.length) : stepP w (inJ x) (wl s) = some ((stepS w x s).map wl) := by
  by_cases h0 : x.o = 0
  · rw [stepP_nop w _ (by simp [inJ, h0])]; simp [stepS, h0]
  · unfold stepP
    rw [isa_Def_eq, show defS (inJ x) = ((x.d : Int), true) by unfold defS inJ; simp only; rw [if_pos (by omega), if_neg (by omega)]]
    simp only [Option.bind_some, cond_true]
    unfold inJ
    rw [exec_value_eq (by omega) ho (by omega) (by omega) (by omega) him hs]
    simp only [Option.bind_some, Int.toNat_natCast]
    unfold stepS
    rw [if_neg h0]
    cases hv : valS w x.imm (s.getD x.a 0) (s.getD x.b 0) (s.getD x.c 0) x.o with
    | none => rfl
    | some v =>
      simp only [Option.map_some]
      rw [wl_length, decide_eq_true (by omega), decide_eq_true (by have := hd h0; omega), Bool.and_self, cond_true, wl_set]
def inOf (i : J6) : In := ⟨i.1.toNat, i.2.1.toNat, if 0 < srcs i.1.toNat then i.2.2.1.toNat else 0, if 1 < srcs i.1.toNat then i.2.2.2.1.toNat else 0, if 2 < srcs i.1.toNat then i.2.2.2.2.1.toNat else 0, i.2.2.2.2.2.toNat⟩
/-- What Step returns. -/
def StepS (w : Int) (i : J6) (l : List Nat) : List Nat × Int :=
  if 0 ≤ i.1 ∧ i.1 ≤ 19 then
    (if (lOf (srcs i.1.toNat) i (defS i)).all (regOk (min l.length 8)) = true then
      (match stepS w (inOf i) (cutL w (min l.length 8) l) with
      | none => ([], 17)
      | some s => (s, 0))
    else ([], 18))
  else ([], 4)
theorem W_W (w : Int) : W ((W w : Nat) : Int) = W w := W_of (W_pos w) (W_le w)
theorem cutL_W (w : Int) (n : Nat) (l : List Nat) : cutL ((W w : Nat) : Int) n l = cutL w n l := by unfold cutL; rw [W_W]
theorem valS_W (w : Int) (imm a b c o : Nat) : valS ((W w : Nat) : Int) imm a b c o = valS w imm a b c o := by unfold valS; rw [W_W]
theorem stepS_W (w : Int) (x : In) (s : List Nat) : stepS ((W w : Nat) : Int) x s = stepS w x s := by unfold stepS; rw [valS_W]
theorem mn8 (n : Nat) : mn (n : Int) 8 = ((min n 8 : Nat) : Int) := by unfold mn; split <;> omega
theorem all_mem {p : Int → Bool} {l : List Int} (h : l.all p = true) {x : Int} (hx : x ∈ l) : p x = true := List.all_eq_true.1 h x hx
theorem regOk_iff {n : Nat} {r : Int} : regOk n r = true ↔ 0 ≤ r ∧ r < n := by simp [regOk]
theorem use_mem {n : Nat} (hn : n ≤ 3) {i : J6} {d : Int × Bool} :
    (0 < n → i.2.2.1 ∈ lOf n i d) ∧ (1 < n → i.2.2.2.1 ∈ lOf n i d) ∧ (2 < n → i.2.2.2.2.1 ∈ lOf n i d) ∧ (d.2 = true → d.1 ∈ lOf n i d) := by
  unfold lOf usesL
  refine ⟨fun h => ?_, fun h => ?_, fun h => ?_, fun h => ?_⟩
  · obtain rfl | rfl | rfl : n = 1 ∨ n = 2 ∨ n = 3 := by omega
    all_goals simp
  · obtain rfl | rfl : n = 2 ∨ n = 3 := by omega
    all_goals simp
  · obtain rfl : n = 3 := by omega
    simp
  · rw [h]; simp
theorem jOf_eq {i : J6} (h : 0 ≤ i.1 ∧ i.1 ≤ 19) (h0 : i.1 ≠ 0) {n : Nat} (hall : (lOf (srcs i.1.toNat) i (defS i)).all (regOk n) = true) (hm : 0 ≤ i.2.2.2.2.2) : jOf (srcs i.1.toNat) i = inJ (inOf i) ∧ (inOf i).d < n := by
  obtain ⟨m1, m2, m3, m4⟩ := use_mem (srcs_le i.1.toNat) (i := i) (d := defS i)
  have hd : defS i = (i.2.1, true) := by unfold defS; rw [if_pos h, if_neg h0]
  have h4 := regOk_iff.1 (all_mem hall (m4 (by rw [hd])))
  rw [hd] at h4
  simp only at h4
  refine ⟨?_, by show i.2.1.toNat < n; omega⟩
  unfold jOf inJ inOf
  simp only [Prod.mk.injEq]
  refine ⟨by omega, by omega, ?_, ?_, ?_, by omega⟩
  · by_cases hs : 0 < srcs i.1.toNat
    · rw [if_pos hs, if_pos hs]; have := regOk_iff.1 (all_mem hall (m1 hs)); omega
    · rw [if_neg hs, if_neg hs]; rfl
  · by_cases hs : 1 < srcs i.1.toNat
    · rw [if_pos hs, if_pos hs]; have := regOk_iff.1 (all_mem hall (m2 hs)); omega
    · rw [if_neg hs, if_neg hs]; rfl
  · by_cases hs : 2 < srcs i.1.toNat
    · rw [if_pos hs, if_pos hs]; have := regOk_iff.1 (all_mem hall (m3 hs)); omega
    · rw [if_neg hs, if_neg hs]; rfl
theorem exec_Step_eq (w : Int) {i : J6} (hm : 0 ≤ i.2.2.2.2.2 ∧ i.2.2.2.2.2 < (U64 : Nat)) {l : List Nat} (hl : Lt U64 l) : exec_Step.f w i (wl l) = some (wl (StepS w i l).1, (StepS w i l).2) := by
  unfold exec_Step.f
  by_cases h : 0 ≤ i.1 ∧ i.1 ≤ 19
  · have hS : isa_Sources.f i.1 = some (srcs i.1.toNat : Int) := by
      have := isa_Sources_eq (o := i.1.toNat) (by omega)
      rwa [show ((i.1.toNat : Nat) : Int) = i.1 by omega] at this
    have h3 := srcs_le i.1.toNat
    rw [hS]
    simp only [Option.bind_some]
    rw [bifd_neg (by omega), bifd_pos (by omega), Int.toNat_natCast, W_int, wl_length, mn8, exec_words_eq _ hl (by omega), isa_Def_eq]
    simp only [Option.bind_some]
    rw [cutL_W, wl_length, cutL_length]
    unfold StepS
    rw [if_pos h]
    by_cases hall : (lOf (srcs i.1.toNat) i (defS i)).all (regOk (min l.length 8)) = true
    · rw [hall, cond_true, if_pos rfl]
      by_cases h0 : i.1 = 0
      · rw [stepP_nop _ _ (by unfold jOf; exact h0)]
        have : stepS w (inOf i) (cutL w (min l.length 8) l) = some (cutL w (min l.length 8) l) := by unfold stepS; rw [if_pos (by show i.1.toNat = 0; omega)]
        rw [this]; rfl
      · obtain ⟨hj, hd⟩ := jOf_eq h h0 hall hm.1
        rw [hj, stepP_eq (by show i.1.toNat ≤ 19; omega) (by show i.2.2.2.2.2.toNat < U64; omega) (by rw [W_W]; exact cutL_lt w _ l) (fun _ => by rw [cutL_length]; exact hd), stepS_W]
        cases stepS w (inOf i) (cutL w (min l.length 8) l) with
        | none => rfl
        | some s => rfl
    · rw [Bool.eq_false_iff.2 hall, cond_false, if_neg (by simp)]; rfl
  · rw [isa_Sources_un h]
    simp only [Option.bind_some]
    rw [bifd_pos (by omega)]
    unfold StepS
    rw [if_neg h]; rfl
/-! ### the reference -/
theorem ref_j7 (fu : Nat) {w op d a b c m : Int} {s : List Nat} {n M : Nat} {U : Nat → Int} (hn : n ≤ 3) (hok : ∀ j, j < n → regOk s.length (U j) = true) : ∀ (dd i k : Nat) (fr : List Nat), i + dd = n → dd < k → fr.length = i →
    saturateref49_Step.j7 fu k w s.length n i (i : Int) op d a b c m (wl fr) (wl s) M U = saturateref49_Step.j7 fu (k - dd) w s.length n n (n : Int) op d a b c m (wl (fr ++ (List.range' i dd).map fun j => s.getD (U j).toNat 0)) (wl s) M U
  | 0, i, k + 1, fr, hi, _, hf => by
    obtain rfl : i = n := by omega
    simp
  | dd + 1, i, k + 1, fr, hi, hk, hf => by
    have hr := regOk_iff.1 (hok i (by omega))
    have hlt : (U i).toNat < s.length := by omega
    rw [saturateref49_Step.j7_succ, bifd_pos (by omega), bifd_pos (by omega), bifd_pos (by omega), Int.toNat_natCast, bifd_neg (by omega), bifd_pos (by omega), bifd_pos (by omega), bifd_neg (by omega), bifd_pos (by omega), bifd_pos (by omega), bifd_pos (by omega), bifd_pos (by omega), wl_some hlt]
    simp only [Option.bind_some]
    rw [show Nat.ble ((i + 1) * 8) 140737488355328 = true by rw [Nat.ble_eq]; omega, cond_true, wrap_nat (by omega)]
    rw [show (Tm.mk ((s.getD (U i).toNat 0 : Nat) : Int) []).x = ((s.getD (U i).toNat 0 : Nat) : Int) from rfl, wl_one, wl_append]
    rw [ref_j7 fu hn hok dd (i + 1) k _ (by omega) (by omega) (by simp [hf])]
    rw [List.range'_succ, List.map_cons, List.append_assoc, show k + 1 - (dd + 1) = k - dd by omega]; rfl
theorem ref_j7_bad (fu : Nat) {w op d a b c m : Int} {s : List Nat} {n M : Nat} {U : Nat → Int} (hn : n ≤ 3) : ∀ (dd i k : Nat) (fr : List Nat), i + dd = n → dd < k → fr.length = i → (∃ j, i ≤ j ∧ j < n ∧ regOk s.length (U j) = false) →
    saturateref49_Step.j7 fu k w s.length n i (i : Int) op d a b c m (wl fr) (wl s) M U = some ([], 18)
  | 0, i, k + 1, fr, hi, _, hf, ⟨j, h1, h2, _⟩ => by omega
  | dd + 1, i, k + 1, fr, hi, hk, hf, ⟨j, h1, h2, h3⟩ => by
    rw [saturateref49_Step.j7_succ, bifd_pos (by omega), bifd_pos (by omega), bifd_pos (by omega), Int.toNat_natCast]
    by_cases hA : U i < 0
    · rw [bifd_pos hA]
    · rw [bifd_neg hA, bifd_pos (by omega), bifd_pos (by omega)]
      by_cases hB : U i ≥ s.length
      · rw [bifd_pos hB]
      · have hlt : (U i).toNat < s.length := by omega
        rw [bifd_neg hB, bifd_pos (by omega), bifd_pos (by omega), bifd_pos (by omega), bifd_pos (by omega), wl_some hlt]
        simp only [Option.bind_some]
        rw [show Nat.ble ((i + 1) * 8) 140737488355328 = true by rw [Nat.ble_eq]; omega, cond_true, wrap_nat (by omega)]
        rw [show (Tm.mk ((s.getD (U i).toNat 0 : Nat) : Int) []).x = ((s.getD (U i).toNat 0 : Nat) : Int) from rfl, wl_one, wl_append]
        refine ref_j7_bad fu hn dd (i + 1) k _ (by omega) (by omega) (by simp [hf]) ⟨j, ?_, h2, h3⟩
        by_cases e : j = i
        · subst e; rw [Bool.eq_false_iff] at h3; exact absurd (regOk_iff.2 ⟨by omega, by omega⟩) h3
        · omega
theorem all_uses {n : Nat} (hn : n ≤ 3) {i : J6} {d : Int × Bool} {p : Int → Bool} : (lOf n i d).all p = true ↔ (∀ j, j < n → p (useF i j) = true) ∧ (d.2 = true → p d.1 = true) := by
  have hu : (usesL n i).all p = true ↔ ∀ j, j < n → p (useF i j) = true := by
    unfold usesL useF
    obtain rfl | rfl | rfl | rfl : n = 0 ∨ n = 1 ∨ n = 2 ∨ n = 3 := by omega
    · simp
    · constructor
      · intro h j hj; obtain rfl : j = 0 := by omega
        simpa using h
      · intro h; simpa using h 0 (by omega)
    · constructor
      · intro h j hj
        simp at h
        obtain rfl | rfl : j = 0 ∨ j = 1 := by omega
        · exact h.1
        · exact h.2
      · intro h
        have h0 := h 0 (by omega)
        have h1 := h 1 (by omega)
        simp at h0 h1 ⊢
        exact ⟨h0, h1⟩
    · constructor
      · intro h j hj
        simp at h
        obtain rfl | rfl | rfl : j = 0 ∨ j = 1 ∨ j = 2 := by omega
        · exact h.1
        · exact h.2.1
        · exact h.2.2
      · intro h
        have h0 := h 0 (by omega)
        have h1 := h 1 (by omega)
        have h2 := h 2 (by omega)
        simp at h0 h1 h2 ⊢
        exact ⟨h0, h1, h2⟩
  unfold lOf
  rw [List.all_append, Bool.and_eq_true, hu]
  cases hd : d.2 <;> simp
theorem from_eq (i : J6) (h : 0 ≤ i.1 ∧ i.1 ≤ 19) (s : List Nat) : ((List.range' 0 (srcs i.1.toNat)).map fun j => s.getD (useF i j).toNat 0) = [s.getD (inOf i).a 0, s.getD (inOf i).b 0, s.getD (inOf i).c 0].take (srcs i.1.toNat) := by
  have h3 := srcs_le i.1.toNat
  unfold inOf useF
  simp only
  generalize srcs i.1.toNat = n at *
  obtain rfl | rfl | rfl | rfl : n = 0 ∨ n = 1 ∨ n = 2 ∨ n = 3 := by omega
  all_goals simp [List.range'_succ]
theorem ref_Step_eq (w : Int) {i : J6} (hm : 0 ≤ i.2.2.2.2.2 ∧ i.2.2.2.2.2 < (U64 : Nat)) {l : List Nat} (hl : Lt U64 l) : saturateref49_Step.f w i (wl l) = some (wl (StepS w i l).1, (StepS w i l).2) := by
  unfold saturateref49_Step.f saturateref49_Step.g
  rw [wl_length, mn8, State_eq w hl (by omega), Known_eq]
  simp only [Option.bind_some]
  unfold StepS
  by_cases h : 0 ≤ i.1 ∧ i.1 ≤ 19
  · rw [decide_eq_true h, Bool.not_true, cond_false, if_pos h]
    have hU : saturateref48_Uses.f (i.1, i.2.1, i.2.2.1, i.2.2.2.1, i.2.2.2.2.1, i.2.2.2.2.2) = some (srcs i.1.toNat, useF i) := by
      have := Uses_eq (o := i.1.toNat) (by omega) i.2.1 i.2.2.1 i.2.2.2.1 i.2.2.2.2.1 i.2.2.2.2.2
      rwa [show ((i.1.toNat : Nat) : Int) = i.1 by omega] at this
    have h3 := srcs_le i.1.toNat
    rw [hU]
    simp only [Option.bind_some]
    rw [wl_length]
    have hcl : (cutL w (min l.length 8) l).length = min l.length 8 := cutL_length ..
    generalize hs : cutL w (min l.length 8) l = s at *
    have hsl : Lt (2 ^ W w) s := by rw [← hs]; exact cutL_lt w _ l
    rw [← hcl]
    by_cases hu : ∀ j, j < srcs i.1.toNat → regOk s.length (useF i j) = true
    · have := ref_j7 (fuel0 + 1) (w := w) (op := i.1) (d := i.2.1) (a := i.2.2.1) (b := i.2.2.2.1) (c := i.2.2.2.2.1) (m := i.2.2.2.2.2) (s := s) (M := srcs i.1.toNat) h3 hu (srcs i.1.toNat) 0 (fuel0 + 1) [] (by omega) (by unfold fuel0; omega) rfl
      rw [show ((0 : Nat) : Int) = 0 from rfl] at this
      rw [show ([] : List Tm) = wl [] from rfl, this, List.nil_append, from_eq i h]
      obtain ⟨k, hk⟩ : ∃ k, fuel0 + 1 - srcs i.1.toNat = k + 1 := ⟨fuel0 - srcs i.1.toNat, by unfold fuel0; omega⟩
      rw [hk, saturateref49_Step.j7_succ, bifd_neg (by omega)]
      by_cases h0 : i.1 = 0
      · rw [show (i.1 == 0) = true by rw [beq_iff_eq]; exact h0, cond_true]
        have hd : defS i = (0, false) := by unfold defS; rw [if_pos h, if_pos h0]
        rw [if_pos ((all_uses h3).2 ⟨hu, fun e => by rw [hd] at e; cases e⟩)]
        have : stepS w (inOf i) s = some s := by unfold stepS; rw [if_pos (by show i.1.toNat = 0; omega)]
        rw [this]
      · rw [show (i.1 == 0) = false by rw [beq_eq_false_iff_ne]; exact h0, cond_false]
        have hd : defS i = (i.2.1, true) := by unfold defS; rw [if_pos h, if_neg h0]
        by_cases hA : i.2.1 < 0
        · rw [bifd_pos hA, if_neg (fun e => by have := regOk_iff.1 (((all_uses h3).1 e).2 (by rw [hd])); rw [hd] at this; simp only at this; omega)]; rfl
        · rw [bifd_neg hA]
          by_cases hB : i.2.1 ≥ s.length
          · rw [bifd_pos hB, if_neg (fun e => by have := regOk_iff.1 (((all_uses h3).1 e).2 (by rw [hd])); rw [hd] at this; simp only at this; omega)]; rfl
          · rw [bifd_neg hB, if_pos ((all_uses h3).2 ⟨hu, fun _ => by rw [hd]; exact regOk_iff.2 ⟨by simp only; omega, by simp only; omega⟩⟩)]
            have hT : saturateref48_Traps.f i.1 = some (decide (i.1.toNat = 11 ∨ i.1.toNat = 12)) := by
              have := Traps_eq i.1.toNat
              rwa [show ((i.1.toNat : Nat) : Int) = i.1 by omega] at this
            rw [hT]
            simp only [Option.bind_some]
            have hp : ∀ fr, saturateref49_Step.p18 (fuel0 + 1) (fuel0 + 1) w s.length (srcs i.1.toNat) i.1 i.2.1 i.2.2.1 i.2.2.2.1 i.2.2.2.2.1 i.2.2.2.2.2 fr (wl s) = (saturateref49_value.f i.1 w i.2.2.2.2.2 fr).bind fun r7 => some ((wl s).set i.2.1.toNat (Tm.mk r7 []), 0) := fun fr => by
              rw [saturateref49_Step.p18_eq]
              congr 1; funext r7
              rw [bifd_pos (by omega), bifd_pos (by omega)]
            have ha := hsl.getD (pw_pos _) (inOf i).a
            have hb := hsl.getD (pw_pos _) (inOf i).b
            have hval : ∀ v, valS w i.2.2.2.2.2.toNat (s.getD (inOf i).a 0) (s.getD (inOf i).b 0) (s.getD (inOf i).c 0) i.1.toNat = some v → saturateref49_value.f i.1 w i.2.2.2.2.2 (wl ([s.getD (inOf i).a 0, s.getD (inOf i).b 0, s.getD (inOf i).c 0].take (srcs i.1.toNat))) = some (v : Int) := fun v hv => by
              have := ref_value_eq (w := w) (o := i.1.toNat) (by omega) (by omega) (imm := i.2.2.2.2.2.toNat) (by omega) (small ha) (small hb) hv
              rwa [show ((i.2.2.2.2.2.toNat : Nat) : Int) = i.2.2.2.2.2 by omega, show ((i.1.toNat : Nat) : Int) = i.1 by omega] at this
            have hst : stepS w (inOf i) s = (valS w i.2.2.2.2.2.toNat (s.getD (inOf i).a 0) (s.getD (inOf i).b 0) (s.getD (inOf i).c 0) i.1.toNat).map fun v => s.set i.2.1.toNat v := by
              unfold stepS; rw [if_neg (by show ¬ i.1.toNat = 0; omega)]; rfl
            have fin : ∀ v, valS w i.2.2.2.2.2.toNat (s.getD (inOf i).a 0) (s.getD (inOf i).b 0) (s.getD (inOf i).c 0) i.1.toNat = some v → saturateref49_Step.p18 (fuel0 + 1) (fuel0 + 1) w s.length (srcs i.1.toNat) i.1 i.2.1 i.2.2.1 i.2.2.2.1 i.2.2.2.2.1 i.2.2.2.2.2 (wl ([s.getD (inOf i).a 0, s.getD (inOf i).b 0, s.getD (inOf i).c 0].take (srcs i.1.toNat))) (wl s) =
                some (wl (match stepS w (inOf i) s with | none => ([], 17) | some s => (s, 0) : List Nat × Int).1, (match stepS w (inOf i) s with | none => ([], 17) | some s => (s, 0) : List Nat × Int).2) := fun v hv => by
              rw [hp, hval v hv, hst, hv, Option.bind_some, wl_set]; rfl
            by_cases ht : i.1.toNat = 11 ∨ i.1.toNat = 12
            · have hs2 : srcs i.1.toNat = 2 := by rcases ht with e | e <;> rw [e] <;> rfl
              rw [decide_eq_true ht, cond_true, bifd_pos (by omega)]
              rw [hs2] at fin ⊢
              simp only [List.take_succ_cons, List.take_zero] at fin ⊢
              rw [show (wl [s.getD (inOf i).a 0, s.getD (inOf i).b 0])[1]? = some (Tm.mk ((s.getD (inOf i).b 0 : Nat) : Int) []) from rfl]
              simp only [Option.bind_some]
              rw [show (Tm.mk ((s.getD (inOf i).b 0 : Nat) : Int) []).x = ((s.getD (inOf i).b 0 : Nat) : Int) from rfl]
              by_cases hz : s.getD (inOf i).b 0 = 0
              · rw [hz, hst]
                rcases ht with e | e <;> simp only [e, hz, valS, if_true] <;> rfl
              · rw [show (((s.getD (inOf i).b 0 : Nat) : Int) == 0) = false by rw [beq_eq_false_iff_ne]; omega, cond_false]
                rcases ht with e | e
                · exact fin _ (by rw [e]; simp only [valS]; rw [if_neg hz])
                · exact fin _ (by rw [e]; simp only [valS]; rw [if_neg hz])
            · rw [decide_eq_false ht, cond_false]
              obtain ⟨v, hv⟩ : ∃ v, valS w i.2.2.2.2.2.toNat (s.getD (inOf i).a 0) (s.getD (inOf i).b 0) (s.getD (inOf i).c 0) i.1.toNat = some v := by
                have h1 : 1 ≤ i.1.toNat := by omega
                have h19 : i.1.toNat ≤ 19 := by omega
                clear hst hval fin hp hk this
                generalize i.1.toNat = o at *
                match o, h1, h19 with
                | 0, h, _ => omega
                | 1, _, _ => exact ⟨_, rfl⟩
                | 2, _, _ => exact ⟨_, rfl⟩
                | 3, _, _ => exact ⟨_, rfl⟩
                | 4, _, _ => exact ⟨_, rfl⟩
                | 5, _, _ => exact ⟨_, rfl⟩
                | 6, _, _ => exact ⟨_, rfl⟩
                | 7, _, _ => exact ⟨_, rfl⟩
                | 8, _, _ => exact ⟨_, rfl⟩
                | 9, _, _ => exact ⟨_, rfl⟩
                | 10, _, _ => exact ⟨_, rfl⟩
                | 11, _, _ => exact absurd (.inl rfl) ht
                | 12, _, _ => exact absurd (.inr rfl) ht
                | 13, _, _ => exact ⟨_, rfl⟩
                | 14, _, _ => exact ⟨_, rfl⟩
                | 15, _, _ => exact ⟨_, rfl⟩
                | 16, _, _ => exact ⟨_, rfl⟩
                | 17, _, _ => exact ⟨_, rfl⟩
                | 18, _, _ => exact ⟨_, rfl⟩
                | 19, _, _ => exact ⟨_, rfl⟩
                | n + 20, _, h => omega
              exact fin v hv
    · have hb : ∃ j, 0 ≤ j ∧ j < srcs i.1.toNat ∧ regOk s.length (useF i j) = false := by
        apply Classical.byContradiction
        intro hc
        exact hu fun j hj => by
          cases e : regOk s.length (useF i j) with
          | true => rfl
          | false => exact absurd ⟨j, Nat.zero_le _, hj, e⟩ hc
      have := ref_j7_bad (fuel0 + 1) (w := w) (op := i.1) (d := i.2.1) (a := i.2.2.1) (b := i.2.2.2.1) (c := i.2.2.2.2.1) (m := i.2.2.2.2.2) (s := s) (M := srcs i.1.toNat) h3 (srcs i.1.toNat) 0 (fuel0 + 1) [] (by omega) (by unfold fuel0; omega) rfl hb
      rw [show ((0 : Nat) : Int) = 0 from rfl] at this
      rw [show ([] : List Tm) = wl [] from rfl, this, if_neg (fun e => hu ((all_uses h3).1 e).1)]; rfl
  · rw [decide_eq_false h, Bool.not_false, cond_true, if_neg h]; rfl
end Go.Proofs.YtkmehmlcccdnbaaDoor.Fn
