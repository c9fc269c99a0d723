/- Words: lists of numbers of a machine; the states of exec and of the reference. -/
import Derived.Test.YtkmehmlcccdnbaaDoorF0
import Derived.Test.YtkmehmlcccdnbaaDoorF2
import Derived.Test.YtkmehmlcccdnbaaDoorF4
import Derived.Test.YtkmehmlcccdnbaaDoorF7
import Derived.Test.YtkmehmlcccdnbaaDoorF8
import Derived.Test.YtkmehmlcccdnbaaDoorTe
import Derived.Test.YtkmehmlcccdnbaaDoorOpT
namespace Go.Proofs.YtkmehmlcccdnbaaDoor.Fn
open Go Go.RowKit Go.Proofs.YtkmehmlcccdnbaaDoor.Ev Go.Proofs.YtkmehmlcccdnbaaDoor.Bv
set_option linter.unusedVariables false
set_option linter.unusedSimpArgs false
set_option maxRecDepth 100000

abbrev U64 : Nat := 18446744073709551616
def wl (l : List Nat) : List Tm := l.map fun (n : Nat) => .mk (n : Int) []
theorem wl_length (l : List Nat) : (wl l).length = l.length := by simp [wl]
theorem wl_get (l : List Nat) (i : Nat) : (wl l)[i]? = (l[i]?).map fun (n : Nat) => Tm.mk (n : Int) [] := by simp [wl]
theorem wl_some {l : List Nat} {i : Nat} (h : i < l.length) : (wl l)[i]? = some (.mk ((l.getD i 0 : Nat) : Int) []) := by
  rw [wl_get, List.getElem?_eq_getElem h]; simp [List.getD, h]
theorem wl_set (l : List Nat) (i n : Nat) : (wl l).set i (.mk (n : Int) []) = wl (l.set i n) := by simp [wl, List.map_set]
theorem wl_append (l m : List Nat) : wl l ++ wl m = wl (l ++ m) := by simp [wl]
theorem wl_one (n : Nat) : [Tm.mk (n : Int) []] = wl [n] := rfl
theorem wl_nil : ([] : List Tm) = wl [] := rfl
theorem wl_rep (n : Nat) : List.replicate n (Tm.mk 0 []) = wl (List.replicate n 0) := by simp [wl]
theorem wl_of {t : List Tm} (h : wfW t) : ∃ l : List Nat, t = wl l ∧ ∀ n ∈ l, n < U64 := by
  induction t with
  | nil => exact ⟨[], rfl, fun n hn => by cases hn⟩
  | cons u t ih =>
    obtain ⟨l, rfl, hl⟩ := ih fun v hv => h v (List.mem_cons_of_mem _ hv)
    obtain ⟨hu, hk⟩ := h u (List.mem_cons_self ..)
    obtain ⟨n, hn, hlt⟩ := u64_of hu
    cases u with
    | mk x kids =>
      have hx : x = (n : Int) := hn
      have hk' : kids = [] := hk
      subst hx hk'
      refine ⟨n :: l, rfl, fun m hm => ?_⟩
      cases hm with
      | head => exact hlt
      | tail _ hm => exact hl m hm
/-- Every number is less than a bound. -/
def Lt (B : Nat) (l : List Nat) : Prop := ∀ n ∈ l, n < B
theorem Lt.getD {B : Nat} {l : List Nat} (h : Lt B l) (hB : 0 < B) (i : Nat) : l.getD i 0 < B := by
  rw [List.getD_eq_getElem?_getD]
  cases hi : l[i]? with
  | none => exact hB
  | some n => exact h n (List.mem_of_getElem? hi)
theorem Lt.mono {B B' : Nat} {l : List Nat} (h : Lt B l) (hB : B ≤ B') : Lt B' l := fun n hn => Nat.lt_of_lt_of_le (h n hn) hB
theorem Lt.set {B : Nat} {l : List Nat} (h : Lt B l) {i n : Nat} (hn : n < B) : Lt B (l.set i n) := fun m hm => by
  rcases List.mem_or_eq_of_mem_set hm with hm | rfl
  · exact h m hm
  · exact hn
/-- n registers, reduced. -/
def cutL (w : Int) (n : Nat) (l : List Nat) : List Nat := (List.range n).map fun i => vcut (W w) (l.getD i 0)
theorem cutL_length (w : Int) (n : Nat) (l : List Nat) : (cutL w n l).length = n := by simp [cutL]
theorem cutL_lt (w : Int) (n : Nat) (l : List Nat) : Lt (2 ^ W w) (cutL w n l) := fun m hm => by
  obtain ⟨i, _, rfl⟩ := List.mem_map.1 hm
  exact Nat.mod_lt _ (pw_pos _)
theorem cutL_getD {w : Int} {n i : Nat} (l : List Nat) (h : i < n) : (cutL w n l).getD i 0 = vcut (W w) (l.getD i 0) := by
  simp [cutL, List.getD, h]
theorem cutL_pad (w : Int) (l : List Nat) {m n : Nat} (h : m ≤ n) (hl : l.length ≤ m) : cutL w n l = cutL w m l ++ List.replicate (n - m) 0 := by
  apply List.ext_getElem?
  intro i
  rw [List.getElem?_append, cutL_length]
  simp only [cutL, List.getElem?_map]
  split
  · rename_i hi
    rw [List.getElem?_range (by omega), List.getElem?_range hi]
  · rename_i hi
    by_cases hn : i < n
    · rw [List.getElem?_range hn, List.getElem?_replicate]
      have : l[i]? = none := List.getElem?_eq_none (by omega)
      simp [List.getD, this, vcut, show i - m < n - m by omega]
    · rw [List.getElem?_eq_none (by simp; omega), List.getElem?_replicate]
      simp [show ¬ (i - m < n - m) by omega]
theorem cutL_step (w : Int) (l : List Nat) {i n : Nat} (h : i < n) : (cutL w i l ++ List.replicate (n - i) 0).set i (vcut (W w) (l.getD i 0)) = cutL w (i + 1) l ++ List.replicate (n - (i + 1)) 0 := by
  rw [List.set_append, cutL_length]
  obtain ⟨d, hd⟩ : ∃ d, n - i = d + 1 := ⟨n - i - 1, by omega⟩
  rw [if_neg (Nat.lt_irrefl _), Nat.sub_self, hd, List.replicate_succ, List.set_cons_zero, show n - (i + 1) = d by omega]
  simp [cutL, List.range_succ]
/-- What is reduced already. -/
theorem cutL_self {w : Int} {l : List Nat} (h : Lt (2 ^ W w) l) : cutL w l.length l = l := by
  apply List.ext_getElem?
  intro i
  simp only [cutL, List.getElem?_map]
  by_cases hi : i < l.length
  · rw [List.getElem?_range hi, List.getElem?_eq_getElem hi]
    simp only [Option.map_some, Option.some.injEq]
    rw [show l.getD i 0 = l[i] by simp [List.getD, hi]]
    exact Nat.mod_eq_of_lt (h _ (List.getElem_mem hi))
  · rw [List.getElem?_eq_none (by simp; omega), List.getElem?_eq_none (by omega)]; rfl
theorem wrap_nat {i : Nat} (h : i < 4611686018427387904) : IntKind.i64.wrap ((i : Int) + 1) = ((i + 1 : Nat) : Int) := by rw [wrapi, wrapi_succ (by omega)]
theorem exec_words_j3 (fu : Nat) (w : Int) {l : List Nat} (hl : Lt U64 l) {N m : Nat} (hN : N < 4611686018427387904) (hm : m ≤ N) (hml : m ≤ l.length) : ∀ (d i k : Nat), i + d = m → d < k →
    exec_words.j3 fu k w (wl l) N (m : Int) (i : Int) (wl (cutL w i l ++ List.replicate (N - i) 0)) = some (wl (cutL w m l ++ List.replicate (N - m) 0))
  | 0, i, k + 1, hi, _ => by
    obtain rfl : i = m := by omega
    rw [exec_words.j3_succ, bifd_neg (by omega)]
  | d + 1, i, k + 1, hi, hk => by
    rw [exec_words.j3_succ, bifd_pos (by omega), bifd_pos (by omega), bifd_pos (by rw [wl_length]; omega), Int.toNat_natCast, wl_some (by omega)]
    simp only [Option.bind_some]
    rw [show (Tm.mk ((l.getD i 0 : Nat) : Int) []).x = ((l.getD i 0 : Nat) : Int) from rfl, bits_Cut_eq w (hl.getD (by decide) i)]
    simp only [Option.bind_some]
    rw [bifd_pos (by omega), bifd_pos (by omega), wl_set, cutL_step w l (by omega), wrap_nat (by omega)]
    exact exec_words_j3 fu w hl hN hm hml d (i + 1) k (by omega) (by omega)
theorem exec_words_eq (w : Int) {l : List Nat} (hl : Lt U64 l) {N : Nat} (hN : N ≤ 1000) : exec_words.f w (N : Int) (wl l) = some (wl (cutL w N l)) := by
  unfold exec_words.f exec_words.g
  rw [bifd_pos (by omega), Int.toNat_natCast, show Nat.ble (N * 8) 140737488355328 = true by rw [Nat.ble_eq]; omega, cond_true, wl_rep, wl_length]
  have hmn : mn (N : Int) (l.length : Int) = ((min N l.length : Nat) : Int) := by unfold mn; split <;> omega
  rw [hmn]
  have := exec_words_j3 (fuel0 + 1) w hl (N := N) (m := min N l.length) (by omega) (by omega) (by omega) (min N l.length) 0 (fuel0 + 1) (by omega) (by unfold fuel0; omega)
  simp only [cutL, List.range_zero, List.map_nil, List.nil_append, Nat.sub_zero] at this
  rw [show ((0 : Nat) : Int) = 0 from rfl] at this
  rw [this]
  congr 2
  rcases Nat.le_total N l.length with h | h
  · rw [Nat.min_eq_left h]; simp [cutL]
  · rw [Nat.min_eq_right h]
    exact (cutL_pad w l h (Nat.le_refl _)).symm
theorem State_j3 (fu : Nat) (w : Int) {l : List Nat} (hl : Lt U64 l) {N : Nat} (hN : N < 4611686018427387904) : ∀ (d i k : Nat), i + d = min N l.length → d < k →
    saturateref49_State.j3 (fu + 1) k w (N : Int) (wl l) N (i : Int) (wl (cutL w i l ++ List.replicate (N - i) 0)) = some (wl (cutL w (min N l.length) l ++ List.replicate (N - min N l.length) 0))
  | 0, i, k + 1, hi, _ => by
    obtain rfl : i = min N l.length := by omega
    rw [saturateref49_State.j3_succ]
    by_cases h : N ≤ l.length
    · rw [bifd_neg (by omega), saturateref49_State.p6_eq]
    · rw [bifd_pos (by omega), bifd_neg (by rw [wl_length]; omega), saturateref49_State.p6_eq]
  | d + 1, i, k + 1, hi, hk => by
    rw [saturateref49_State.j3_succ, bifd_pos (by omega), bifd_pos (by rw [wl_length]; omega), bifd_pos (by omega), bifd_pos (by rw [wl_length]; omega), Int.toNat_natCast, wl_some (by omega)]
    simp only [Option.bind_some]
    rw [show (Tm.mk ((l.getD i 0 : Nat) : Int) []).x = ((l.getD i 0 : Nat) : Int) from rfl, saturateref01_Cut_eq w (hl.getD (by decide) i)]
    simp only [Option.bind_some]
    rw [bifd_pos (by omega), bifd_pos (by omega), wl_set, cutL_step w l (by omega), wrap_nat (by omega)]
    exact State_j3 fu w hl hN d (i + 1) k (by omega) (by omega)
theorem State_eq (w : Int) {l : List Nat} (hl : Lt U64 l) {N : Nat} (hN : N ≤ 1000) : saturateref49_State.f w (N : Int) (wl l) = some (wl (cutL w N l)) := by
  unfold saturateref49_State.f saturateref49_State.g
  rw [bifd_pos (by omega), Int.toNat_natCast, show Nat.ble (N * 8) 140737488355328 = true by rw [Nat.ble_eq]; omega, cond_true, wl_rep]
  have := State_j3 fuel0 w hl (N := N) (by omega) (min N l.length) 0 (fuel0 + 1) (by omega) (by unfold fuel0; omega)
  simp only [cutL, List.range_zero, List.map_nil, List.nil_append, Nat.sub_zero] at this
  rw [show ((0 : Nat) : Int) = 0 from rfl] at this
  rw [this]
  congr 2
  rcases Nat.le_total N l.length with h | h
  · rw [Nat.min_eq_left h]; simp [cutL]
  · rw [Nat.min_eq_right h]
    exact (cutL_pad w l h (Nat.le_refl _)).symm
/-! ### equality of lists -/
theorem bne_nat (m n : Nat) : ((m : Int) != (n : Int)) = decide (m ≠ n) := by
  rw [bne, beq_nat]; simp
theorem Same_j4 (fu : Nat) {l m : List Nat} (hlm : l.length = m.length) (hl : l.length < 4611686018427387904) : ∀ (d i k : Nat), i + d = l.length → d < k → (∀ j, j < i → l.getD j 0 = m.getD j 0) →
    saturateref49_Same.j4 fu k (wl l) (wl m) (i : Int) = some (decide (l = m))
  | 0, i, k + 1, hi, _, h => by
    rw [saturateref49_Same.j4_succ, bifd_neg (by rw [wl_length]; omega)]
    have : l = m := by
      apply List.ext_getElem hlm
      intro j h1 h2
      have := h j (by omega)
      simpa [List.getD, h1, h2] using this
    simp [this]
  | d + 1, i, k + 1, hi, hk, h => by
    rw [saturateref49_Same.j4_succ, bifd_pos (by rw [wl_length]; omega), bifd_pos (by omega), bifd_pos (by rw [wl_length]; omega), Int.toNat_natCast, wl_some (by omega)]
    simp only [Option.bind_some]
    rw [bifd_pos (by omega), bifd_pos (by rw [wl_length]; omega), wl_some (by omega)]
    simp only [Option.bind_some]
    rw [show (Tm.mk ((l.getD i 0 : Nat) : Int) []).x = ((l.getD i 0 : Nat) : Int) from rfl, show (Tm.mk ((m.getD i 0 : Nat) : Int) []).x = ((m.getD i 0 : Nat) : Int) from rfl, bne_nat]
    by_cases he : l.getD i 0 = m.getD i 0
    · rw [bifd_neg (by simpa using he), wrap_nat (by omega)]
      exact Same_j4 fu hlm hl d (i + 1) k (by omega) (by omega) fun j hj => by
        by_cases hji : j = i
        · rw [hji]; exact he
        · exact h j (by omega)
    · rw [bifd_pos he]
      have : l ≠ m := fun e => he (by rw [e])
      simp [this]
theorem Same_eq {l m : List Nat} (hl : l.length < 4611686018427387904) : saturateref49_Same.f (wl l) (wl m) = some (decide (l = m)) := by
  unfold saturateref49_Same.f saturateref49_Same.g
  rw [wl_length, wl_length, bne_nat]
  by_cases h : l.length = m.length
  · rw [bifd_neg (by simpa using h)]
    exact Same_j4 _ h hl l.length 0 _ (by omega) (by unfold fuel0; omega) fun j hj => by omega
  · rw [bifd_pos h]
    have : l ≠ m := fun e => h (by rw [e])
    simp [this]
theorem Equal_j4 (fu : Nat) {l m : List Nat} (hlm : l.length = m.length) (hl : l.length < 4611686018427387904) : ∀ (d i k : Nat), i + d = l.length → d < k → (∀ j, j < i → l.getD j 0 = m.getD j 0) →
    slices_Equal_uint64_uint64.j4 fu k (wl l) (wl m) (l.length : Int) (i : Int) = some (decide (l = m))
  | 0, i, k + 1, hi, _, h => by
    rw [slices_Equal_uint64_uint64.j4_succ, bifd_neg (by omega)]
    have : l = m := by
      apply List.ext_getElem hlm
      intro j h1 h2
      have := h j (by omega)
      simpa [List.getD, h1, h2] using this
    simp [this]
  | d + 1, i, k + 1, hi, hk, h => by
    rw [slices_Equal_uint64_uint64.j4_succ, bifd_pos (by omega), bifd_pos (by omega), bifd_pos (by rw [wl_length]; omega), Int.toNat_natCast, wl_some (by omega)]
    simp only [Option.bind_some]
    rw [bifd_pos (by omega), bifd_pos (by rw [wl_length]; omega), wl_some (by omega)]
    simp only [Option.bind_some]
    rw [show (Tm.mk ((l.getD i 0 : Nat) : Int) []).x = ((l.getD i 0 : Nat) : Int) from rfl, show (Tm.mk ((m.getD i 0 : Nat) : Int) []).x = ((m.getD i 0 : Nat) : Int) from rfl, bne_nat]
    by_cases he : l.getD i 0 = m.getD i 0
    · rw [bifd_neg (by simpa using he), wrap_nat (by omega)]
      exact Equal_j4 fu hlm hl d (i + 1) k (by omega) (by omega) fun j hj => by
        by_cases hji : j = i
        · rw [hji]; exact he
        · exact h j (by omega)
    · rw [bifd_pos he]
      have : l ≠ m := fun e => he (by rw [e])
      simp [this]
theorem Equal_eq {l m : List Nat} (hl : l.length < 4611686018427387904) : slices_Equal_uint64_uint64.f (wl l) (wl m) = some (decide (l = m)) := by
  unfold slices_Equal_uint64_uint64.f slices_Equal_uint64_uint64.g
  rw [wl_length, wl_length, bne_nat]
  by_cases h : l.length = m.length
  · rw [bifd_neg (by simpa using h)]
    exact Equal_j4 _ h hl l.length 0 _ (by omega) (by unfold fuel0; omega) fun j hj => by omega
  · rw [bifd_pos h]
    have : l ≠ m := fun e => h (by rw [e])
    simp [this]
/-- States. -/
def sl (l : List (List Nat)) : List Tm := l.map fun s => .mk 0 (wl s)
theorem sl_length (l : List (List Nat)) : (sl l).length = l.length := by simp [sl]
theorem sl_some {l : List (List Nat)} {i : Nat} (h : i < l.length) : (sl l)[i]? = some (.mk 0 (wl (l.getD i []))) := by simp [sl, List.getD, h]
theorem SameStates_j4 (fu : Nat) {l : List (List Nat)} (hl : l.length < 4611686018427387904) (hs : ∀ s ∈ l, s.length < 4611686018427387904) : ∀ (d i k : Nat), i + d = l.length → d < k → saturateref49_SameStates.j4 fu k (sl l) (sl l) (i : Int) = some true
  | 0, i, k + 1, hi, _ => by rw [saturateref49_SameStates.j4_succ, bifd_neg (by rw [sl_length]; omega)]
  | d + 1, i, k + 1, hi, hk => by
    have hm : l.getD i [] ∈ l := by
      rw [show l.getD i [] = l[i]'(by omega) by simp [List.getD, show i < l.length by omega]]; exact List.getElem_mem _
    rw [saturateref49_SameStates.j4_succ, bifd_pos (by rw [sl_length]; omega), bifd_pos (by omega), bifd_pos (by rw [sl_length]; omega), Int.toNat_natCast, sl_some (by omega)]
    simp only [Option.bind_some]
    rw [bifd_pos (by omega), bifd_pos (by rw [sl_length]; omega)]
    rw [show (Tm.mk 0 (wl (l.getD i []))).kids = wl (l.getD i []) from rfl, Same_eq (hs _ hm)]
    simp only [Option.bind_some, decide_true, Bool.not_true, cond_false]
    rw [wrap_nat (by omega)]
    exact SameStates_j4 fu hl hs d (i + 1) k (by omega) (by omega)
theorem SameStates_refl {l : List (List Nat)} (hl : l.length < 4611686018427387904) (hs : ∀ s ∈ l, s.length < 4611686018427387904) : saturateref49_SameStates.f (sl l) (sl l) = some true := by
  unfold saturateref49_SameStates.f saturateref49_SameStates.g
  rw [bne_nat, bifd_neg (by simp)]
  exact SameStates_j4 _ hl hs l.length 0 _ (by omega) (by unfold fuel0; omega)
end Go.Proofs.YtkmehmlcccdnbaaDoor.Fn
