/- Runs and traces of valid programs: the program's and the reference's, to one specification. -/
import Derived.Test.YtkmehmlcccdnbaaDoorF1
import Derived.Test.YtkmehmlcccdnbaaDoorF2
import Derived.Test.YtkmehmlcccdnbaaDoorF7
import Derived.Test.YtkmehmlcccdnbaaDoorXg
namespace Go.Proofs.YtkmehmlcccdnbaaDoor.Fn
open Go Go.RowKit Go.Proofs.YtkmehmlcccdnbaaDoor.Ev Go.Proofs.YtkmehmlcccdnbaaDoor.Bv
set_option linter.unusedVariables false
set_option linter.unusedSimpArgs false
set_option maxRecDepth 100000

theorem valid_ins {w R : Int} {i : J6} (h : insS w R i = 0) (him : 0 ≤ i.2.2.2.2.2) : (0 ≤ i.1 ∧ i.1 ≤ 19) ∧ (lOf (srcs i.1.toNat) i (defS i)).all (inR R) = true ∧ i = inJ (inOf i) := by
  unfold insS at h
  by_cases h1 : 0 ≤ i.1 ∧ i.1 ≤ 19
  · rw [if_pos h1] at h
    by_cases h2 : (lOf (srcs i.1.toNat) i (defS i)).all (inR R) = true
    · rw [if_pos h2] at h
      by_cases h3 : i.1 = 1 ∧ i.2.2.2.2.2 > (vmask (W w) : Int)
      · rw [if_pos h3] at h; omega
      · rw [if_neg h3] at h
        refine ⟨h1, h2, ?_⟩
        have hf : ¬ ((i.1 ≠ 1 ∧ i.2.2.2.2.2 ≠ 0) ∨ (i.1 = 0 ∧ i.2.1 ≠ 0) ∨ (srcs i.1.toNat < 1 ∧ i.2.2.1 ≠ 0) ∨ (srcs i.1.toNat < 2 ∧ i.2.2.2.1 ≠ 0) ∨ (srcs i.1.toNat < 3 ∧ i.2.2.2.2.1 ≠ 0)) := fun e => by unfold formS at h; rw [if_pos e] at h; omega
        obtain ⟨m1, m2, m3, m4⟩ := use_mem (srcs_le i.1.toNat) (i := i) (d := defS i)
        have hd : i.2.1 = ((i.2.1.toNat : Nat) : Int) := by
          by_cases h0 : i.1 = 0
          · have : i.2.1 = 0 := Classical.byContradiction fun e => hf (.inr (.inl ⟨h0, e⟩))
            omega
          · have hd : defS i = (i.2.1, true) := by unfold defS; rw [if_pos h1, if_neg h0]
            have := inR_iff.1 (all_mem h2 (m4 (by rw [hd])))
            rw [hd] at this; simp only at this; omega
        have ha : i.2.2.1 = ((if 0 < srcs i.1.toNat then i.2.2.1.toNat else 0 : Nat) : Int) := by
          by_cases hs : 0 < srcs i.1.toNat
          · rw [if_pos hs]; have := inR_iff.1 (all_mem h2 (m1 hs)); omega
          · rw [if_neg hs]; exact Classical.byContradiction fun e => hf (.inr (.inr (.inl ⟨by omega, e⟩)))
        have hb : i.2.2.2.1 = ((if 1 < srcs i.1.toNat then i.2.2.2.1.toNat else 0 : Nat) : Int) := by
          by_cases hs : 1 < srcs i.1.toNat
          · rw [if_pos hs]; have := inR_iff.1 (all_mem h2 (m2 hs)); omega
          · rw [if_neg hs]; exact Classical.byContradiction fun e => hf (.inr (.inr (.inr (.inl ⟨by omega, e⟩))))
        have hc : i.2.2.2.2.1 = ((if 2 < srcs i.1.toNat then i.2.2.2.2.1.toNat else 0 : Nat) : Int) := by
          by_cases hs : 2 < srcs i.1.toNat
          · rw [if_pos hs]; have := inR_iff.1 (all_mem h2 (m3 hs)); omega
          · rw [if_neg hs]; exact Classical.byContradiction fun e => hf (.inr (.inr (.inr (.inr ⟨by omega, e⟩))))
        have ho : i.1 = ((i.1.toNat : Nat) : Int) := by omega
        have hm : i.2.2.2.2.2 = ((i.2.2.2.2.2.toNat : Nat) : Int) := by omega
        show i = (((i.1.toNat : Nat) : Int), ((i.2.1.toNat : Nat) : Int), ((if 0 < srcs i.1.toNat then i.2.2.1.toNat else 0 : Nat) : Int), ((if 1 < srcs i.1.toNat then i.2.2.2.1.toNat else 0 : Nat) : Int), ((if 2 < srcs i.1.toNat then i.2.2.2.2.1.toNat else 0 : Nat) : Int), ((i.2.2.2.2.2.toNat : Nat) : Int))
        rw [← ha, ← hb, ← hc, ← ho, ← hd, ← hm]
    · rw [if_neg h2] at h; omega
  · rw [if_neg h1] at h; omega
theorem regOk_inR (n : Nat) : regOk n = inR (n : Int) := rfl
theorem valid_d {w R : Int} {i : J6} (h : insS w R i = 0) (him : 0 ≤ i.2.2.2.2.2) (h0 : (inOf i).o ≠ 0) : ((inOf i).d : Int) < R := by
  obtain ⟨h1, h2, h3⟩ := valid_ins h him
  obtain ⟨m1, m2, m3, m4⟩ := use_mem (srcs_le i.1.toNat) (i := i) (d := defS i)
  have h0' : i.1 ≠ 0 := fun e => h0 (by show i.1.toNat = 0; omega)
  have hd : defS i = (i.2.1, true) := by unfold defS; rw [if_pos h1, if_neg h0']
  have := inR_iff.1 (all_mem h2 (m4 (by rw [hd])))
  rw [hd] at this
  show ((i.2.1.toNat : Nat) : Int) < R
  simp only at this; omega
/-- A step that a valid program makes. -/
theorem stepP_valid {w R : Int} {i : J6} {s : List Nat} (h : insS w R i = 0) (him : 0 ≤ i.2.2.2.2.2 ∧ i.2.2.2.2.2 < (U64 : Nat)) (hs : s.length = R.toNat) (hl : Lt (2 ^ W w) s) : stepP w i (wl s) = some ((stepS w (inOf i) s).map wl) := by
  obtain ⟨h1, h2, h3⟩ := valid_ins h him.1
  have := stepP_eq (w := w) (x := inOf i) (s := s) (by show i.1.toNat ≤ 19; omega) (by show i.2.2.2.2.2.toNat < U64; omega) hl (fun h0 => by have := valid_d h him.1 h0; omega)
  rw [← h3] at this
  exact this
theorem StepS_valid {w R : Int} {i : J6} {s : List Nat} (h : insS w R i = 0) (him : 0 ≤ i.2.2.2.2.2) (hR : 1 ≤ R ∧ R ≤ 8) (hs : s.length = R.toNat) (hl : Lt (2 ^ W w) s) : StepS w i s = match stepS w (inOf i) s with | none => ([], 17) | some s' => (s', 0) := by
  obtain ⟨h1, h2, h3⟩ := valid_ins h him
  unfold StepS
  have hm : min s.length 8 = s.length := by omega
  rw [if_pos h1, hm, cutL_self hl, if_pos (by rw [regOk_inR, hs, show ((R.toNat : Nat) : Int) = R by omega]; exact h2)]
  rfl
/-! ### runs -/
def runS (w : Int) (I : Nat → In) : Nat → Nat → List Nat → Nat × Option (List Nat)
  | 0, k, s => (k, some s)
  | m + 1, k, s => match stepS w (I k) s with
    | none => (k, none)
    | some s' => runS w I m (k + 1) s'
def traceS (w : Int) (I : Nat → In) : Nat → Nat → List Nat → List (List Nat) → List (List Nat) × Int
  | 0, _, _, acc => (acc, 0)
  | m + 1, k, s, acc => match stepS w (I k) s with
    | none => (acc, 17)
    | some s' => traceS w I m (k + 1) s' (acc ++ [s'])
def insN (c : CodeT) (p : Nat) : In := inOf (insOf c p)
theorem runGo_eq {w R : Int} {I : Nat → J6} : ∀ (m k : Nat) (s : List Nat), (∀ p, k ≤ p → p < k + m → insS w R (I p) = 0 ∧ 0 ≤ (I p).2.2.2.2.2 ∧ (I p).2.2.2.2.2 < (U64 : Nat)) → s.length = R.toNat → Lt (2 ^ W w) s →
    runGo w I m k (wl s) = some ((runS w (fun p => inOf (I p)) m k s).1, (runS w (fun p => inOf (I p)) m k s).2.map wl)
  | 0, k, s, _, _, _ => rfl
  | m + 1, k, s, hv, hs, hl => by
    obtain ⟨v1, v2⟩ := hv k (Nat.le_refl _) (by omega)
    unfold runGo runS
    rw [stepP_valid v1 v2 hs hl]
    simp only [Option.bind_some]
    cases hq : stepS w (inOf (I k)) s with
    | none => rfl
    | some s' => exact runGo_eq m (k + 1) s' (fun p h1 h2 => hv p (by omega) (by omega)) ((stepS_length hq).trans hs) (stepS_lt hl hq)
theorem sl_append (a b : List (List Nat)) : sl a ++ sl b = sl (a ++ b) := by simp [sl]
theorem sl_one (s : List Nat) : [Tm.mk 0 (wl s)] = sl [s] := rfl
theorem traceGo_eq {w R : Int} {I : Nat → J6} : ∀ (m k : Nat) (s : List Nat) (acc : List (List Nat)), (∀ p, k ≤ p → p < k + m → insS w R (I p) = 0 ∧ 0 ≤ (I p).2.2.2.2.2 ∧ (I p).2.2.2.2.2 < (U64 : Nat)) → s.length = R.toNat → Lt (2 ^ W w) s →
    traceGo w I m k (wl s) (sl acc) = some (sl (traceS w (fun p => inOf (I p)) m k s acc).1, (traceS w (fun p => inOf (I p)) m k s acc).2)
  | 0, k, s, acc, _, _, _ => rfl
  | m + 1, k, s, acc, hv, hs, hl => by
    obtain ⟨v1, v2⟩ := hv k (Nat.le_refl _) (by omega)
    unfold traceGo traceS
    rw [stepP_valid v1 v2 hs hl]
    simp only [Option.bind_some]
    cases hq : stepS w (inOf (I k)) s with
    | none => rfl
    | some s' =>
      simp only [Option.map_some]
      rw [sl_one, sl_append]
      exact traceGo_eq m (k + 1) s' _ (fun p h1 h2 => hv p (by omega) (by omega)) ((stepS_length hq).trans hs) (stepS_lt hl hq)
def startS (c : CodeT) (l : List Nat) : List Nat := cutL c.1 c.2.1.toNat l
def RunS (c : CodeT) (l : List Nat) : List Nat × Int × Int :=
  match runS c.1 (insN c) c.2.2.1.1 0 (startS c l) with
  | (k, none) => ([], (k : Int), 17)
  | (_, some s) => (s, 0, 0)
def TraceS (c : CodeT) (l : List Nat) : List (List Nat) × Int := traceS c.1 (insN c) c.2.2.1.1 0 (startS c l) [startS c l]
theorem startS_length (c : CodeT) (l : List Nat) : (startS c l).length = c.2.1.toNat := cutL_length ..
theorem startS_lt (c : CodeT) (l : List Nat) : Lt (2 ^ W c.1) (startS c l) := cutL_lt c.1 _ l
theorem Valid.all {c : CodeT} (hv : Valid c) (hg : Good c) (m k : Nat) (h : k + m = c.2.2.1.1) : ∀ p, k ≤ p → p < k + m → insS c.1 c.2.1 (insOf c p) = 0 ∧ 0 ≤ (insOf c p).2.2.2.2.2 ∧ (insOf c p).2.2.2.2.2 < (U64 : Nat) := fun p h1 h2 => ⟨hv.ins p (by omega), hg.imm p⟩
theorem words_start {c : CodeT} (hv : Valid c) {l : List Nat} (hl : Lt U64 l) : exec_words.f c.1 c.2.1 (wl l) = some (wl (startS c l)) := by
  have h1 := hv.r
  have := exec_words_eq c.1 hl (N := c.2.1.toNat) (by omega)
  rwa [show ((c.2.1.toNat : Nat) : Int) = c.2.1 by omega] at this
theorem State_start {c : CodeT} (hv : Valid c) {l : List Nat} (hl : Lt U64 l) : saturateref49_State.f c.1 c.2.1 (wl l) = some (wl (startS c l)) := by
  have h1 := hv.r
  have := State_eq c.1 hl (N := c.2.1.toNat) (by omega)
  rwa [show ((c.2.1.toNat : Nat) : Int) = c.2.1 by omega] at this
theorem exec_Run_valid {c : CodeT} (hc : isa_Check.f c = some (0, 0)) (hv : Valid c) (hg : Good c) {l : List Nat} (hl : Lt U64 l) : exec_Run.f c (wl l) = some (wl (RunS c l).1, (RunS c l).2) := by
  unfold exec_Run.f
  rw [hc]
  simp only [Option.bind_some]
  rw [show ((0 : Int) != 0) = false from rfl, cond_false, show Nat.ble c.2.2.1.1 256 = true by rw [Nat.ble_eq]; exact hv.n, cond_true, words_start hv hl]
  simp only [Option.bind_some]
  rw [runGo_eq (R := c.2.1) c.2.2.1.1 0 (startS c l) (hv.all hg _ 0 (by omega)) (startS_length c l) (startS_lt c l)]
  simp only [Option.bind_some]
  unfold RunS
  rw [show (fun p => inOf (insOf c p)) = insN c from rfl]
  rcases runS c.1 (insN c) c.2.2.1.1 0 (startS c l) with ⟨k, _ | s⟩ <;> rfl
theorem exec_Trace_valid {c : CodeT} (hc : isa_Check.f c = some (0, 0)) (hv : Valid c) (hg : Good c) {l : List Nat} (hl : Lt U64 l) : exec_Trace.f c (wl l) = some (sl (TraceS c l).1, (TraceS c l).2) := by
  unfold exec_Trace.f
  rw [hc]
  simp only [Option.bind_some]
  rw [show ((0 : Int) != 0) = false from rfl, cond_false, show Nat.ble c.2.2.1.1 256 = true by rw [Nat.ble_eq]; exact hv.n, cond_true, words_start hv hl]
  simp only [Option.bind_some]
  rw [wl_length, startS_length, show Nat.ble c.2.1.toNat 8 = true by rw [Nat.ble_eq]; have := hv.r; omega, cond_true, sl_one,
    traceGo_eq (R := c.2.1) c.2.2.1.1 0 (startS c l) _ (hv.all hg _ 0 (by omega)) (startS_length c l) (startS_lt c l)]
  rfl
/-! ### the reference -/
theorem ref_tr7 (fu : Nat) {c : CodeT} (hv : Valid c) (hg : Good c) : ∀ (d i k : Nat) (s : List Nat) (acc : List (List Nat)), i + d = c.2.2.1.1 → d < k → s.length = c.2.1.toNat → Lt (2 ^ W c.1) s → acc.length = i + 1 →
    saturateref49_Trace.j7 fu k (wl s) (i + 1) (i : Int) c.1 c.2.1 c.2.2.1.1 c.2.2.2.1 (sl acc) c.2.2.1.1 c.2.2.1.2.1 c.2.2.1.2.2.1 c.2.2.1.2.2.2.1 c.2.2.1.2.2.2.2.1 c.2.2.1.2.2.2.2.2.1 c.2.2.1.2.2.2.2.2.2 c.2.2.2.1 c.2.2.2.2 =
      some (sl (traceS c.1 (insN c) d i s acc).1, (traceS c.1 (insN c) d i s acc).2)
  | 0, i, k + 1, s, acc, hi, _, _, _, _ => by rw [saturateref49_Trace.j7_succ, bifd_neg (by omega)]; rfl
  | d + 1, i, k + 1, s, acc, hi, hk, hs, hl, ha => by
    have hn := hv.n
    rw [saturateref49_Trace.j7_succ, bifd_pos (by omega), bifd_pos (by omega), bifd_pos (by omega), Int.toNat_natCast]
    rw [show (c.2.2.1.2.1 i, c.2.2.1.2.2.1 i, c.2.2.1.2.2.2.1 i, c.2.2.1.2.2.2.2.1 i, c.2.2.1.2.2.2.2.2.1 i, c.2.2.1.2.2.2.2.2.2 i) = insOf c i from rfl]
    rw [ref_Step_eq c.1 (hg.imm i) (hl.mono (pw_le (W_le _))), StepS_valid (hv.ins i (by omega)) (hg.imm i).1 hv.r hs hl]
    simp only [Option.bind_some]
    unfold traceS
    rw [show inOf (insOf c i) = insN c i from rfl]
    cases hq : stepS c.1 (insN c i) s with
    | none => rfl
    | some s' =>
      simp only
      rw [show ((0 : Int) != 0) = false from rfl, cond_false, show Nat.ble ((i + 1 + 1) * 24) 140737488355328 = true by rw [Nat.ble_eq]; omega, cond_true, wrap_nat (by omega), sl_one, sl_append]
      exact ref_tr7 fu hv hg d (i + 1) k s' _ (by omega) (by omega) ((stepS_length hq).trans hs) (stepS_lt hl hq) (by simp [ha])
theorem ref_Trace_valid {c : CodeT} (hc : saturateref48_Check.f c = some (0, 0)) (hv : Valid c) (hg : Good c) {l : List Nat} (hl : Lt U64 l) : saturateref49_Trace.f c (wl l) = some (sl (TraceS c l).1, (TraceS c l).2) := by
  unfold saturateref49_Trace.f saturateref49_Trace.g
  rw [show (c.1, c.2.1, (c.2.2.1.1, c.2.2.1.2.1, c.2.2.1.2.2.1, c.2.2.1.2.2.2.1, c.2.2.1.2.2.2.2.1, c.2.2.1.2.2.2.2.2.1, c.2.2.1.2.2.2.2.2.2), (c.2.2.2.1, c.2.2.2.2)) = c from rfl, hc]
  simp only [Option.bind_some]
  rw [show ((0 : Int) != 0) = false from rfl, cond_false, State_start hv hl]
  simp only [Option.bind_some]
  have hn := hv.n
  rw [sl_one]
  exact ref_tr7 _ hv hg c.2.2.1.1 0 _ (startS c l) [startS c l] (by omega) (by unfold fuel0; omega) (startS_length c l) (startS_lt c l) rfl
/-- A trace and a run. -/
theorem trace_run (w : Int) (I : Nat → In) : ∀ (m k : Nat) (s : List Nat) (acc : List (List Nat)), acc.getLast? = some s →
    match runS w I m k s with
    | (j, none) => k ≤ j ∧ j < k + m ∧ (traceS w I m k s acc).2 = 17 ∧ (traceS w I m k s acc).1.length = acc.length + (j - k)
    | (_, some s') => (traceS w I m k s acc).2 = 0 ∧ (traceS w I m k s acc).1.length = acc.length + m ∧ (traceS w I m k s acc).1.getLast? = some s'
  | 0, k, s, acc, h => ⟨rfl, rfl, h⟩
  | m + 1, k, s, acc, h => by
    unfold runS traceS
    cases hq : stepS w (I k) s with
    | none => exact ⟨Nat.le_refl _, by omega, rfl, by simp⟩
    | some s' =>
      have := trace_run w I m (k + 1) s' (acc ++ [s']) (by simp)
      simp only
      rcases hr : runS w I m (k + 1) s' with ⟨j, _ | s''⟩
      · rw [hr] at this
        simp only at this ⊢
        obtain ⟨a, b, c, d⟩ := this
        exact ⟨by omega, by omega, c, by rw [d]; simp; omega⟩
      · rw [hr] at this
        simp only at this ⊢
        obtain ⟨a, b, c⟩ := this
        exact ⟨a, by rw [b]; simp; omega, c⟩
theorem wrap_pred {n : Nat} (h : n < 4611686018427387904) : IntKind.i64.wrap (((n + 1 : Nat) : Int) - 1) = (n : Int) := by rw [wrapi]; unfold wrap64; omega
theorem ref_Run_valid {c : CodeT} (hc : saturateref48_Check.f c = some (0, 0)) (hv : Valid c) (hg : Good c) {l : List Nat} (hl : Lt U64 l) : saturateref49_Run.f c (wl l) = some (wl (RunS c l).1, (RunS c l).2) := by
  unfold saturateref49_Run.f
  rw [show (c.1, c.2.1, (c.2.2.1.1, c.2.2.1.2.1, c.2.2.1.2.2.1, c.2.2.1.2.2.2.1, c.2.2.1.2.2.2.2.1, c.2.2.1.2.2.2.2.2.1, c.2.2.1.2.2.2.2.2.2), (c.2.2.2.1, c.2.2.2.2)) = c from rfl, hc]
  simp only [Option.bind_some]
  rw [show ((0 : Int) != 0) = false from rfl, cond_false, ref_Trace_valid hc hv hg hl]
  simp only [Option.bind_some]
  have hn := hv.n
  have ht := trace_run c.1 (insN c) c.2.2.1.1 0 (startS c l) [startS c l] rfl
  unfold RunS TraceS
  rw [sl_length]
  rcases hr : runS c.1 (insN c) c.2.2.1.1 0 (startS c l) with ⟨k, _ | s⟩
  · rw [hr] at ht
    simp only at ht
    obtain ⟨_, hk, h2, h3⟩ := ht
    rw [h2, h3, show ((17 : Int) != 0) = true from rfl, cond_true]
    simp only [List.length_cons, List.length_nil, Nat.sub_zero]
    rw [show 0 + 1 + k = k + 1 by omega, wrap_pred (by omega)]
    rfl
  · rw [hr] at ht
    simp only at ht
    obtain ⟨h2, h3, h4⟩ := ht
    have hlen : (traceS c.1 (insN c) c.2.2.1.1 0 (startS c l) [startS c l]).1.length = c.2.2.1.1 + 1 := by rw [h3]; simp; omega
    rw [h2, hlen, show ((0 : Int) != 0) = false from rfl, cond_false, wrap_pred (by omega), bifd_pos (by omega), bifd_pos (by omega), Int.toNat_natCast, sl_some (by omega)]
    simp only [Option.bind_some]
    have : (traceS c.1 (insN c) c.2.2.1.1 0 (startS c l) [startS c l]).1.getD c.2.2.1.1 [] = s := by
      rw [List.getLast?_eq_getElem?, hlen, Nat.add_sub_cancel] at h4
      rw [List.getD_eq_getElem?_getD, h4]; rfl
    rw [this]; rfl
/-! ### what the caller sees -/
theorem outs_j6 (fu : Nat) {s : List Nat} {m M : Nat} {g : Nat → Int} (hm : m ≤ 1000) (hg : ∀ p, p < m → inR (s.length : Int) (g p) = true) : ∀ (d i k : Nat) (acc : List Nat), i + d = m → d < k → acc.length = i →
    exec_Outs.j6 fu k (wl s) i m (m : Int) (i : Int) (wl acc) M g = some (wl (acc ++ (List.range' i d).map fun p => s.getD (g p).toNat 0), 0)
  | 0, i, k + 1, acc, hi, _, _ => by rw [exec_Outs.j6_succ, bifd_neg (by omega)]; simp
  | d + 1, i, k + 1, acc, hi, hk, ha => by
    have := inR_iff.1 (hg i (by omega))
    rw [exec_Outs.j6_succ, bifd_pos (by omega), bifd_pos (by omega), bifd_pos (by omega), Int.toNat_natCast, bifd_pos (by omega), bifd_pos (by rw [wl_length]; omega), wl_some (by omega)]
    simp only [Option.bind_some]
    rw [show Nat.ble ((i + 1) * 8) 140737488355328 = true by rw [Nat.ble_eq]; omega, cond_true, wrap_nat (by omega)]
    rw [show (Tm.mk ((s.getD (g i).toNat 0 : Nat) : Int) []).x = ((s.getD (g i).toNat 0 : Nat) : Int) from rfl, wl_one, wl_append]
    rw [outs_j6 fu hm hg d (i + 1) k _ (by omega) (by omega) (by simp [ha]), List.range'_succ, List.map_cons, List.append_assoc]; rfl
theorem refouts_j6 (fu : Nat) {s : List Nat} {c0 c1 : Int} {n m M M' : Nat} {g0 g1 g2 g3 g4 g5 g : Nat → Int} (hm : m ≤ 1000) (hg : ∀ p, p < m → inR (s.length : Int) (g p) = true) : ∀ (d i k : Nat) (acc : List Nat), i + d = m → d < k → acc.length = i →
    saturateref49_Outs.j6 fu k (wl s) i (i : Int) c0 c1 n m (wl acc) M g0 g1 g2 g3 g4 g5 M' g = some (wl (acc ++ (List.range' i d).map fun p => s.getD (g p).toNat 0), 0)
  | 0, i, k + 1, acc, hi, _, _ => by rw [saturateref49_Outs.j6_succ, bifd_neg (by omega)]; simp
  | d + 1, i, k + 1, acc, hi, hk, ha => by
    have := inR_iff.1 (hg i (by omega))
    rw [saturateref49_Outs.j6_succ, bifd_pos (by omega), bifd_pos (by omega), bifd_pos (by omega), Int.toNat_natCast, bifd_pos (by omega), bifd_pos (by rw [wl_length]; omega), wl_some (by omega)]
    simp only [Option.bind_some]
    rw [show Nat.ble ((i + 1) * 8) 140737488355328 = true by rw [Nat.ble_eq]; omega, cond_true, wrap_nat (by omega)]
    rw [show (Tm.mk ((s.getD (g i).toNat 0 : Nat) : Int) []).x = ((s.getD (g i).toNat 0 : Nat) : Int) from rfl, wl_one, wl_append]
    rw [refouts_j6 fu hm hg d (i + 1) k _ (by omega) (by omega) (by simp [ha]), List.range'_succ, List.map_cons, List.append_assoc]; rfl
theorem runS_inv {w : Int} {I : Nat → In} {R : Nat} : ∀ (m k : Nat) (s : List Nat), s.length = R → Lt (2 ^ W w) s → ∀ j s', runS w I m k s = (j, some s') → s'.length = R ∧ Lt (2 ^ W w) s'
  | 0, k, s, hs, hl, j, s', h => by
    cases h; exact ⟨hs, hl⟩
  | m + 1, k, s, hs, hl, j, s', h => by
    unfold runS at h
    cases hq : stepS w (I k) s with
    | none => rw [hq] at h; cases h
    | some s'' => rw [hq] at h; exact runS_inv m (k + 1) s'' ((stepS_length hq).trans hs) (stepS_lt hl hq) j s' h
/-- What a run ends in. -/
theorem RunS_ok {c : CodeT} {l : List Nat} (h : (RunS c l).2.2 = 0) : (RunS c l).1.length = c.2.1.toNat ∧ Lt (2 ^ W c.1) (RunS c l).1 ∧ (RunS c l).2 = (0, 0) ∧ ∃ j, runS c.1 (insN c) c.2.2.1.1 0 (startS c l) = (j, some (RunS c l).1) := by
  unfold RunS at h ⊢
  rcases hr : runS c.1 (insN c) c.2.2.1.1 0 (startS c l) with ⟨k, _ | s⟩
  · rw [hr] at h; cases h
  · obtain ⟨h1, h2⟩ := runS_inv _ _ _ (startS_length c l) (startS_lt c l) k s hr
    exact ⟨h1, h2, rfl, k, rfl⟩
theorem RunS_bad {c : CodeT} {l : List Nat} (h : (RunS c l).2.2 ≠ 0) : (RunS c l).1 = [] ∧ (RunS c l).2.2 = 17 ∧ ∃ k, runS c.1 (insN c) c.2.2.1.1 0 (startS c l) = (k, none) ∧ (RunS c l).2.1 = (k : Int) := by
  unfold RunS at h ⊢
  rcases hr : runS c.1 (insN c) c.2.2.1.1 0 (startS c l) with ⟨k, _ | s⟩
  · exact ⟨rfl, rfl, k, rfl, rfl⟩
  · rw [hr] at h; exact absurd rfl h
/-- The program and the reference, whatever the code: what they return is one and the same. -/
theorem runs_both {c : CodeT} (hg : Good c) {l : List Nat} (hl : Lt U64 l) (hm : c.2.2.2.1 ≤ 1000) :
    ∃ (a : List Nat) (at_ e : Int) (o : List Nat) (e2 : Int) (t : List (List Nat)) (e3 : Int), a.length ≤ 8 ∧ o.length ≤ 1000 ∧ t.length ≤ 257 ∧ (∀ s ∈ t, s.length ≤ 8) ∧
      exec_Run.f c (wl l) = some (wl a, at_, e) ∧ saturateref49_Run.f c (wl l) = some (wl a, at_, e) ∧ exec_Outs.f c (wl l) = some (wl o, e2) ∧ saturateref49_Outs.f c (wl l) = some (wl o, e2) ∧
      exec_Trace.f c (wl l) = some (sl t, e3) ∧ saturateref49_Trace.f c (wl l) = some (sl t, e3) := by
  obtain ⟨r, h1, h2, h3, h4⟩ := check_both hg
  have ec : (c.1, c.2.1, (c.2.2.1.1, c.2.2.1.2.1, c.2.2.1.2.2.1, c.2.2.1.2.2.2.1, c.2.2.1.2.2.2.2.1, c.2.2.1.2.2.2.2.2.1, c.2.2.1.2.2.2.2.2.2), (c.2.2.2.1, c.2.2.2.2)) = c := rfl
  by_cases he : r.2 = 0
  · have hv := h3.1 he
    rw [h4 he] at h1 h2
    have hR := hv.r
    have hn := hv.n
    have r1 := exec_Run_valid h1 hv hg hl
    have r2 := ref_Run_valid h2 hv hg hl
    have tlen : (TraceS c l).1.length ≤ 257 ∧ ∀ s ∈ (TraceS c l).1, s.length ≤ 8 := by
      have key : ∀ (m k : Nat) (s : List Nat) (acc : List (List Nat)), s.length ≤ 8 → (∀ s ∈ acc, s.length ≤ 8) → (traceS c.1 (insN c) m k s acc).1.length ≤ acc.length + m ∧ ∀ u ∈ (traceS c.1 (insN c) m k s acc).1, u.length ≤ 8 := by
        intro m
        induction m with
        | zero => intro k s acc _ ha; exact ⟨by simp [traceS], ha⟩
        | succ m ih =>
          intro k s acc hs ha
          unfold traceS
          cases hq : stepS c.1 (insN c k) s with
          | none => exact ⟨by simp only; omega, ha⟩
          | some s' =>
            have hs' : s'.length ≤ 8 := by rw [stepS_length hq]; exact hs
            obtain ⟨a, b⟩ := ih (k + 1) s' (acc ++ [s']) hs' (fun u hu => by
              rcases List.mem_append.1 hu with h | h
              · exact ha u h
              · simp only [List.mem_singleton] at h; subst h; exact hs')
            exact ⟨by simp only [List.length_append, List.length_cons, List.length_nil] at a; simp only; omega, b⟩
      have hst : (startS c l).length ≤ 8 := by rw [startS_length]; omega
      obtain ⟨a, b⟩ := key c.2.2.1.1 0 (startS c l) [startS c l] hst (fun u hu => by simp only [List.mem_singleton] at hu; subst hu; exact hst)
      refine ⟨?_, b⟩
      unfold TraceS
      simp only [List.length_cons, List.length_nil] at a
      omega
    by_cases hq : (RunS c l).2.2 = 0
    · obtain ⟨q1, q2, q3, _⟩ := RunS_ok hq
      have hout : ∀ p, p < c.2.2.2.1 → inR ((RunS c l).1.length : Int) (c.2.2.2.2 p) = true := fun p hp => by
        rw [q1, show ((c.2.1.toNat : Nat) : Int) = c.2.1 by omega]; exact hv.out p hp
      refine ⟨(RunS c l).1, 0, 0, (List.range' 0 c.2.2.2.1).map fun p => (RunS c l).1.getD (c.2.2.2.2 p).toNat 0, 0, (TraceS c l).1, (TraceS c l).2, by omega, by simp; omega, tlen.1, tlen.2, ?_, ?_, ?_, ?_, exec_Trace_valid h1 hv hg hl, ref_Trace_valid h2 hv hg hl⟩
      · rw [r1, q3]
      · rw [r2, q3]
      · unfold exec_Outs.f exec_Outs.g
        rw [ec, r1, q3]
        simp only [Option.bind_some]
        rw [show ((0 : Int) != 0) = false from rfl, cond_false]
        exact outs_j6 _ hm hout c.2.2.2.1 0 _ [] (by omega) (by unfold fuel0; omega) rfl
      · unfold saturateref49_Outs.f saturateref49_Outs.g
        rw [ec, r2, q3]
        simp only [Option.bind_some]
        rw [show ((0 : Int) != 0) = false from rfl, cond_false]
        exact refouts_j6 _ hm hout c.2.2.2.1 0 _ [] (by omega) (by unfold fuel0; omega) rfl
    · obtain ⟨q1, q2, k, _, q3⟩ := RunS_bad hq
      refine ⟨[], (RunS c l).2.1, 17, [], 17, (TraceS c l).1, (TraceS c l).2, by simp, by simp, tlen.1, tlen.2, ?_, ?_, ?_, ?_, exec_Trace_valid h1 hv hg hl, ref_Trace_valid h2 hv hg hl⟩
      · rw [r1, q1, ← q2]
      · rw [r2, q1, ← q2]
      · unfold exec_Outs.f exec_Outs.g
        rw [ec, r1, q1]
        simp only [Option.bind_some]
        rw [q2]; rfl
      · unfold saturateref49_Outs.f saturateref49_Outs.g
        rw [ec, r2, q1]
        simp only [Option.bind_some]
        rw [q2]; rfl
  · have hb : (r.2 != 0) = true := by rw [bne_iff_ne]; exact he
    have r1 : exec_Run.f c (wl l) = some (wl [], r.1, r.2) := by
      unfold exec_Run.f; rw [h1]; simp only [Option.bind_some]; rw [hb, cond_true]; rfl
    have r2 : saturateref49_Run.f c (wl l) = some (wl [], r.1, r.2) := by
      unfold saturateref49_Run.f; rw [ec, h2]; simp only [Option.bind_some]; rw [hb, cond_true]; rfl
    refine ⟨[], r.1, r.2, [], r.2, [], r.2, by simp, by simp, by simp, (fun s hs => by cases hs), r1, r2, ?_, ?_, ?_, ?_⟩
    · unfold exec_Outs.f exec_Outs.g
      rw [ec, r1]
      simp only [Option.bind_some]
      rw [hb, cond_true]; rfl
    · unfold saturateref49_Outs.f saturateref49_Outs.g
      rw [ec, r2]
      simp only [Option.bind_some]
      rw [hb, cond_true]; rfl
    · unfold exec_Trace.f; rw [h1]; simp only [Option.bind_some]; rw [hb, cond_true]; rfl
    · unfold saturateref49_Trace.f saturateref49_Trace.g
      rw [ec, h2]; simp only [Option.bind_some]; rw [hb, cond_true]; rfl
end Go.Proofs.YtkmehmlcccdnbaaDoor.Fn
