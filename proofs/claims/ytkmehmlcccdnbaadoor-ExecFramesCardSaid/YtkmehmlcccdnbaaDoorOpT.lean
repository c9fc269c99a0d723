/- How an argument opens that is a slice of words. -/
import Derived.Test.YtkmehmlcccdnbaaDoorOpn
namespace Go.Proofs.YtkmehmlcccdnbaaDoor.Ev
open Go Go.RowKit
set_option linter.unusedVariables false
set_option linter.unusedSimpArgs false
abbrev hpF (w : World) : Nat → Option Obj := fun k => w.heap[k]?
theorem hpF_ok (w : World) : FzW (hpF w) w := fun _ _ h => h
theorem fz_of_cell {w : World} {a : Addr} {v : Value} (h : w.cell? a = some v) : fzCell (hpF w) a.block a.off = some v := by
  unfold World.cell? at h
  unfold fzCell hpF
  split at h
  · rename_i c e f hb
    rw [hb]
    split at h
    · cases h
    · exact h
  · cases h
/-- Words as a list. -/
def wordsOf (n : Nat) (g : Nat → Int) : List Tm := (List.range n).map fun i => .mk (g i) []
/-- Words that a machine's slice may hold. -/
def wfW (l : List Tm) : Prop := ∀ u ∈ l, (Lit.int .u64 u.x).wf = true ∧ u.kids = []
theorem wordsOf_length (n : Nat) (g : Nat → Int) : (wordsOf n g).length = n := by simp [wordsOf]
theorem wfW_words {n : Nat} {g : Nat → Int} (h : ∀ i, (Lit.int .u64 (g i)).wf = true) : wfW (wordsOf n g) := fun u hu => by
  obtain ⟨i, _, rfl⟩ := List.mem_map.1 hu
  exact ⟨h i, rfl⟩
theorem KidsAt.of_at {fz : Nat → Option Obj} {A : Option Addr} {ad : Addr} (hA : A = some ad) (hs : ad.spot = none) : ∀ (l : List Tm) (i : Nat), (∀ (j : Nat) (t : Tm), l[j]? = some t → fzCell fz ad.block (ad.off + (i + j)) = some (.int .u64 t.x)) → KidsAt fz 0 A i l
  | [], i, _ => KidsAt.nil
  | t :: l, i, h => by
    refine KidsAt.mk ⟨_, hA, hs, ?_⟩ (KidsAt.of_at hA hs l (i + 1) fun j u hj => ?_)
    · have := h 0 t rfl
      show fzCell fz ad.block (ad.off + (i * 1 + 0)) = _
      simpa using this
    · have := h (j + 1) u (by simpa using hj)
      rwa [show i + (j + 1) = i + 1 + j by omega] at this
theorem kids_of_rows {w : World} {A : Option Addr} {n : Nat} {g : Nat → Int} (h : RowsAt w 0 A n [.int .u64 g]) : KidsAt (hpF w) 0 A 0 (wordsOf n g) := by
  rcases Nat.eq_zero_or_pos n with rfl | hn
  · exact KidsAt.nil
  · obtain ⟨ad, h1, h2, _, _, h5⟩ := h hn
    refine KidsAt.of_at h1 h2 _ 0 fun j t hj => ?_
    have hj' : j < n ∧ t = .mk (g j) [] := by
      unfold wordsOf at hj
      rw [List.getElem?_map] at hj
      obtain ⟨a, ha, rfl⟩ := Option.map_eq_some_iff.1 hj
      obtain ⟨hlt, rfl⟩ := List.getElem?_eq_some_iff.1 ha
      simp at hlt
      exact ⟨hlt, by simp⟩
    obtain ⟨hlt, rfl⟩ := hj'
    have := fz_of_cell (h5 j hlt 0 _ rfl)
    simpa [Fld.at, Tm.x] using this
theorem words_arg {w : World} {A : Option Addr} {n c : Nat} {g : Nat → Int} (h : n ≤ c ∧ RowsAt w 0 A n [.int .u64 g]) : AVRel (hpF w) w 0 (.slice A n c) (.tsl 0 (wordsOf n g)) := ⟨A, c, by rw [wordsOf_length], kids_of_rows h.2⟩
end Go.Proofs.YtkmehmlcccdnbaaDoor.Ev
