/- How an argument opens that is a term, or a slice of terms. -/
import Derived.Test.YtcihbcffokjgjaaGreatOOpn
namespace Go.Proofs.YtcihbcffokjgjaaGreat.Ev
open Go Go.RowKit
set_option linter.unusedVariables false
set_option linter.unusedSimpArgs false
structure TmTy (P : Program) (t : TypeId) : Prop where
  fs : ∃ f0 f1 f2 f3 f4 : Field, P.underlying t = some (.struct #[f0, f1, f2, f3, f4]) ∧ (f0.offset = 0 ∧ f1.offset = 1 ∧ f2.offset = 2 ∧ f3.offset = 3 ∧ f4.offset = 4) ∧
    (P.cellsOf f0.type = 1 ∧ P.cellsOf f1.type = 1 ∧ P.cellsOf f2.type = 1 ∧ P.cellsOf f3.type = 1 ∧ P.cellsOf f4.type = 1) ∧
    P.underlying f0.type = some (.int .i64) ∧ P.underlying f1.type = some (.int .i64) ∧ P.underlying f2.type = some (.int .u64) ∧ P.underlying f3.type = some .string ∧ P.underlying f4.type = some (.slice t)
  cells : P.cellsOf t = 5
/- The numbers of a term are numbers of their kinds, its strings and slices no longer than a machine's. -/
mutual
def wfT : Tm → Prop
  | .mk op width val name kids => (Lit.int .i64 op).wf = true ∧ (Lit.int .i64 width).wf = true ∧ (Lit.int .u64 val).wf = true ∧ name.size ≤ maxLen ∧ kids.length ≤ maxLen ∧ wfL kids
def wfL : List Tm → Prop
  | [] => True
  | t :: l => wfT t ∧ wfL l
end
theorem wfL_of : ∀ {l : List Tm}, (∀ (i : Nat) (t : Tm), l[i]? = some t → wfT t) → wfL l
  | [], _ => by unfold wfL; trivial
  | t :: l, h => by
    unfold wfL
    exact ⟨h 0 t rfl, wfL_of fun i u hu => h (i + 1) u hu⟩
theorem wfL_get : ∀ {l : List Tm}, wfL l → ∀ (i : Nat) (t : Tm), l[i]? = some t → wfT t
  | [], _, i, t, h => by simp at h
  | u :: l, hl, 0, t, h => by unfold wfL at hl; simp at h; subst h; exact hl.1
  | u :: l, hl, i + 1, t, h => by unfold wfL at hl; exact wfL_get hl.2 i t (by simpa using h)
theorem list_ex {Q : Nat → Tm → Prop} : ∀ (n : Nat), (∀ i, i < n → ∃ t, Q i t) → ∃ l : List Tm, l.length = n ∧ ∀ (i : Nat) (t : Tm), l[i]? = some t → Q i t
  | 0, _ => ⟨[], rfl, fun i t h => by simp at h⟩
  | n + 1, h => by
    obtain ⟨l, hl, hQ⟩ := list_ex n fun i hi => h i (by omega)
    obtain ⟨t, ht⟩ := h n (by omega)
    refine ⟨l ++ [t], by simp [hl], fun i u hu => ?_⟩
    rcases Nat.lt_or_ge i n with c | c
    · rw [List.getElem?_append_left (by omega)] at hu; exact hQ i u hu
    · rw [List.getElem?_append_right (by omega), hl] at hu
      by_cases e : i = n
      · subst e; simp at hu; subst hu; exact ht
      · obtain ⟨d, hd⟩ : ∃ d, i - n = d + 1 := ⟨i - n - 1, by omega⟩
        rw [hd] at hu; simp at hu
abbrev hpF (w : World) : Nat → Option Obj := fun k => w.heap[k]?
theorem hpF_ok (w : World) : FzW (hpF w) w := fun _ _ h => h
theorem fz_of_cell {w : World} {a : Addr} {v : Value} (h : w.cell? a = some v) : fzCell (hpF w) a.block a.off = some v := by
  unfold World.cell? at h
  unfold fzCell hpF
  split at h
  · rename_i c e f hb
    rw [hb]
    split at h
    · cases h
    · exact h
  · cases h
def tmCs (t : Tm) (A : Option Addr) (c : Nat) : List Value := [.int .i64 t.op, .int .i64 t.width, .int .u64 t.val, .string t.name, .slice A t.kids.length c]
theorem KidsAt.of_at {fz : Nat → Option Obj} {A : Option Addr} {ad : Addr} (hA : A = some ad) (hs : ad.spot = none) : ∀ (l : List Tm) (i : Nat), (∀ (j : Nat) (t : Tm), l[j]? = some t → TmAt fz (fun q => fzCell fz ad.block (ad.off + ((i + j) * 5 + q))) t) → KidsAt fz A i l
  | [], i, _ => by unfold KidsAt; trivial
  | t :: l, i, h => by
    unfold KidsAt
    refine ⟨⟨_, hA, hs, ?_⟩, KidsAt.of_at hA hs l (i + 1) fun j u hj => ?_⟩
    · have := h 0 t rfl
      rwa [Nat.add_zero] at this
    · have := h (j + 1) u (by simpa using hj)
      rwa [show i + (j + 1) = i + 1 + j by omega] at this
theorem tmAt_of {fz : Nat → Option Obj} {t : Tm} {A : Option Addr} {c : Nat} {cells : Nat → Option Value} (h : ∀ i v, (tmCs t A c)[i]? = some v → cells i = some v) (hk : KidsAt fz A 0 t.kids) : TmAt fz cells t := by
  cases t with
  | mk op width val name kids =>
    unfold TmAt
    exact ⟨h 0 _ rfl, h 1 _ rfl, h 2 _ rfl, h 3 _ rfl, A, c, h 4 _ rfl, hk⟩
section
variable {H : Type} {enc : TypeId × Value → H} {P : Program} {w : World} {base : Nat} {spare : Nat → Bool} {held : Bool}
theorem five {cs : List Value} (h : cs.length = 5) : ∃ a b c d e, cs = [a, b, c, d, e] := by
  match cs, h with
  | [a, b, c, d, e], _ => exact ⟨a, b, c, d, e, rfl⟩
theorem add_off {a : Addr} (hs : a.spot = none) (n : Nat) : (a.add n).block = a.block ∧ (a.add n).off = a.off + n := by
  rw [addr_add' hs]; exact ⟨rfl, rfl⟩
theorem tms_at {tT tS : TypeId} (hS : P.underlying tS = some (.slice tT)) (hc5 : P.cellsOf tT = 5) {fuel : Nat} {cs : List Value} {y : DataW H × List MemPlace}
    (ih : ∀ m, m < fuel → ∀ {cs : List Value} {y : DataW H × List MemPlace}, DataW.trod enc P w base spare held m tT cs = some y → ∃ t A c, cs = tmCs t A c ∧ KidsAt (hpF w) A 0 t.kids ∧ wfT t)
    (h : DataW.trod enc P w base spare held fuel tS cs = some y) : ∃ (l : List Tm) (A : Option Addr) (c : Nat), cs = [.slice A l.length c] ∧ KidsAt (hpF w) A 0 l ∧ l.length ≤ maxLen ∧ wfL l := by
  rcases DataW.trod_slice hS h with ⟨rfl, _⟩ | ⟨a, len, cap, elems, rest, n, hn, rfl, hy, hb, hl, hc, hel, hget, _⟩
  · exact ⟨[], none, 0, rfl, by unfold KidsAt; trivial, Nat.zero_le _, by unfold wfL; trivial⟩
  · have hex : ∀ i, i < len → ∃ t : Tm, (∃ A c, (∀ j v, (tmCs t A c)[j]? = some v → w.cell? (a.add (i * 5 + j)) = some v) ∧ KidsAt (hpF w) A 0 t.kids) ∧ wfT t := fun i hi => by
      have h1 := hget i hi
      rw [List.getElem?_eq_getElem (by omega)] at h1
      obtain ⟨c5, hcs, hz⟩ := Option.bind_eq_some_iff.1 h1
      obtain ⟨t, A, c, rfl, hk, hwf⟩ := ih n (by omega) hz
      refine ⟨t, ⟨A, c, fun j v hj => ?_, hk⟩, hwf⟩
      have := (cells_get hcs).2 j v hj
      rwa [add_add, hc5] at this
    obtain ⟨l, hll, hQ⟩ := list_ex len hex
    refine ⟨l, some a, cap, by rw [hll], ?_, by omega, wfL_of fun i t ht => (hQ i t ht).2⟩
    cases hl0 : l with
    | nil => unfold KidsAt; trivial
    | cons t0 l0 =>
      have hspot : a.spot = none := by
        obtain ⟨⟨A, c, h1, _⟩, _⟩ := hQ 0 t0 (by rw [hl0]; rfl)
        have h0 := h1 0 _ rfl
        have := (cell_spot h0).1
        rwa [Nat.zero_mul, Nat.zero_add, show a.add 0 = a by unfold Addr.add; simp] at this
      rw [← hl0]
      refine KidsAt.of_at rfl hspot l 0 fun j t ht => ?_
      obtain ⟨⟨A, c, h1, h2⟩, _⟩ := hQ j t ht
      refine tmAt_of (A := A) (c := c) (fun i v hv => ?_) h2
      have := fz_of_cell (h1 i v hv)
      obtain ⟨e1, e2⟩ := add_off hspot (j * 5 + i)
      rw [e1, e2] at this
      rw [Nat.zero_add]; exact this
theorem tm_at {tT : TypeId} (hT : TmTy P tT) : ∀ (fuel : Nat) {cs : List Value} {y : DataW H × List MemPlace}, DataW.trod enc P w base spare held fuel tT cs = some y → ∃ t A c, cs = tmCs t A c ∧ KidsAt (hpF w) A 0 t.kids ∧ wfT t := by
  intro fuel
  induction fuel using Nat.strongRecOn with
  | _ fuel ih =>
    intro cs y h
    obtain ⟨f0, f1, f2, f3, f4, hu, ⟨o0, o1, o2, o3, o4⟩, ⟨c0, c1, c2, c3, c4⟩, u0, u1, u2, u3, u4⟩ := hT.fs
    obtain ⟨xs, n, hn, _, hc, hx, hf⟩ := DataW.trod_struct hu h
    rw [hT.cells] at hc
    have hx5 : xs.length = 5 := hx
    obtain ⟨a, b, c, d, e, rfl⟩ := five hc
    have g0 := hf 0 f0 rfl
    have g1 := hf 1 f1 rfl
    have g2 := hf 2 f2 rfl
    have g3 := hf 3 f3 rfl
    have g4 := hf 4 f4 rfl
    rw [List.getElem?_eq_getElem (by omega), o0, c0] at g0
    rw [List.getElem?_eq_getElem (by omega), o1, c1] at g1
    rw [List.getElem?_eq_getElem (by omega), o2, c2] at g2
    rw [List.getElem?_eq_getElem (by omega), o3, c3] at g3
    rw [List.getElem?_eq_getElem (by omega), o4, c4] at g4
    obtain ⟨n0, e0, _, w0⟩ := DataW.trod_int u0 g0
    obtain ⟨n1, e1, _, w1⟩ := DataW.trod_int u1 g1
    obtain ⟨n2, e2, _, w2⟩ := DataW.trod_int u2 g2
    obtain ⟨s, e3, _, w3⟩ := DataW.trod_string u3 g3
    obtain ⟨l, A, cc, e4, hk, hlen, hwl⟩ := tms_at u4 hT.cells (fun m hm => ih m (by omega)) g4
    simp only [List.drop_zero, List.take_succ_cons, List.take_zero, List.drop_succ_cons, List.cons.injEq, and_true] at e0 e1 e2 e3 e4
    subst e0 e1 e2 e3 e4
    refine ⟨.mk n0 n1 n2 s l, A, cc, rfl, hk, ?_⟩
    unfold wfT
    exact ⟨w0, w1, w2, w3, hlen, hwl⟩
theorem open_tm {tT : TypeId} (hT : TmTy P tT) {v : Value} {dd : DataW H} {ps : List MemPlace} (h : DataW.Trod enc P w base spare held tT v dd ps) : ∃ t A c, v.cells.toList = tmCs t A c ∧ KidsAt (hpF w) A 0 t.kids ∧ wfT t := by
  obtain ⟨fuel, hf⟩ := h
  exact tm_at hT fuel hf
end
theorem tm_args {fz : Nat → Option Obj} {w : World} {t : Tm} {A : Option Addr} {c : Nat} (hk : KidsAt fz A 0 t.kids) : AVRel fz w 0 (.agg (tmCs t A c).toArray) (.pk t.pas) := by
  refine ⟨_, rfl, by simp [tmCs, Tm.pas], fun i p hp => ?_⟩
  match i with
  | 0 => simp [Tm.pas] at hp; subst hp; exact ⟨_, rfl, rfl⟩
  | 1 => simp [Tm.pas] at hp; subst hp; exact ⟨_, rfl, rfl⟩
  | 2 => simp [Tm.pas] at hp; subst hp; exact ⟨_, rfl, rfl⟩
  | 3 => simp [Tm.pas] at hp; subst hp; exact ⟨_, rfl, rfl⟩
  | 4 => simp [Tm.pas] at hp; subst hp; exact ⟨_, rfl, A, c, rfl, hk⟩
  | i + 5 => simp [Tm.pas] at hp
end Go.Proofs.YtcihbcffokjgjaaGreat.Ev
