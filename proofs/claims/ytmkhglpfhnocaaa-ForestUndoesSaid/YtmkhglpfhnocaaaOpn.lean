/- How an argument's datum opens: numbers and truth values, structs and arrays of these, slices of these, and structs with such slices. -/
import Derived.Test.YtmkhglpfhnocaaaEvC
import Derived.ProofKit
import Derived.WideShapes
import Derived.ChangeArms
import Derived.ChangeOld
import Derived.OpenShut
import Derived.SizedLaws
import Derived.Deep.Slices
namespace Go.Proofs.Ytmkhglpfhnocaaa.Ev
open Go Go.RowKit
set_option linter.unusedVariables false
set_option linter.unusedSimpArgs false

inductive Lk where
  | int (k : IntKind)
  | bool
  | str
inductive Lf where
  | one (l : Lk)
  | rows (e : TypeId) (ls : List Lk)
def LkOk : Lk → Value → Prop
  | .int k, v => ∃ n, v = .int k n ∧ (Lit.int k n).wf = true
  | .bool, v => ∃ b, v = .bool b
  | .str, v => ∃ s, v = .string s
def FldOk : Lk → Fld → Prop
  | .int k, f => ∃ g, f = .int k g ∧ ∀ i, (Lit.int k (g i)).wf = true
  | .bool, f => ∃ g, f = .bool g
  | .str, f => ∃ g, f = .str g
def All2 {α β : Type} (R : α → β → Prop) : List α → List β → Prop
  | [], [] => True
  | a :: l, b :: m => R a b ∧ All2 R l m
  | _, _ => False
def LfOk (P : Program) (w : World) : Lf → Value → Prop
  | .one l, v => LkOk l v
  | .rows e ls, v => ∃ A n c fs, v = .slice A n c ∧ n * P.bytesOf e ≤ reachBytes ∧ RowsAt w 0 A n fs ∧ All2 FldOk ls fs

/-- The leaves of a struct's fields, side by side. -/
def sideBySide {α : Type} (P : Program) (f : TypeId → Option (List α)) : Nat → List Field → Option (List α)
  | _, [] => some []
  | off, x :: l =>
    match f x.type, sideBySide P f (off + P.cellsOf x.type) l with
    | some a, some b => if x.offset = off then some (a ++ b) else none
    | _, _ => none
def flat (P : Program) : Nat → TypeId → Option (List Lk)
  | 0, _ => none
  | d + 1, t =>
    match P.underlying t with
    | some (.int k) => some [.int k]
    | some .bool => some [.bool]
    | some .string => some [.str]
    | some (.struct fs) =>
      match sideBySide P (flat P d) 0 fs.toList with
      | some l => if l.length = P.cellsOf t then some l else none
      | none => none
    | some (.array n e) =>
      match flat P d e with
      | some l => if n * l.length = P.cellsOf t ∧ l.length = P.cellsOf e then some (List.replicate n l).flatten else none
      | none => none
    | _ => none
def full (P : Program) : Nat → TypeId → Option (List Lf)
  | 0, _ => none
  | d + 1, t =>
    match P.underlying t with
    | some (.int k) => some [.one (.int k)]
    | some .bool => some [.one .bool]
    | some .string => some [.one .str]
    | some (.struct fs) =>
      match sideBySide P (full P d) 0 fs.toList with
      | some l => if l.length = P.cellsOf t then some l else none
      | none => none
    | some (.array n e) => (flat P (d + 1) t).map fun l => l.map .one
    | some (.slice e) =>
      match flat P d e with
      | some l => if l.length = P.cellsOf e ∧ 0 < l.length then some [.rows e l] else none
      | none => none
    | _ => none

theorem All2.append {α β : Type} {R : α → β → Prop} : ∀ {l l' : List α} {m m' : List β}, All2 R l m → All2 R l' m' → All2 R (l ++ l') (m ++ m')
  | [], _, [], _, _, h => h
  | a :: l, _, b :: m, _, ⟨h1, h2⟩, h => ⟨h1, h2.append h⟩
  | [], _, _ :: _, _, h, _ => h.elim
  | _ :: _, _, [], _, h, _ => h.elim
theorem All2.get {α β : Type} {R : α → β → Prop} : ∀ {l : List α} {m : List β}, All2 R l m → ∀ (j : Nat) (a : α), l[j]? = some a → ∃ b, m[j]? = some b ∧ R a b
  | [], [], _, j, a, h => by simp at h
  | x :: l, y :: m, ⟨h1, h2⟩, 0, a, h => by simp at h; subst h; exact ⟨y, rfl, h1⟩
  | x :: l, y :: m, ⟨h1, h2⟩, j + 1, a, h => by simpa using h2.get j a (by simpa using h)
theorem All2.length {α β : Type} {R : α → β → Prop} : ∀ {l : List α} {m : List β}, All2 R l m → l.length = m.length
  | [], [], _ => rfl
  | x :: l, y :: m, ⟨_, h2⟩ => by simp [h2.length]
theorem All2.map {α β γ : Type} {R : α → β → Prop} {Q : γ → β → Prop} {f : α → γ} (hf : ∀ a b, R a b → Q (f a) b) : ∀ {l : List α} {m : List β}, All2 R l m → All2 Q (l.map f) m
  | [], [], _ => trivial
  | x :: l, y :: m, ⟨h1, h2⟩ => ⟨hf _ _ h1, h2.map hf⟩

theorem sideBySide_ok {α : Type} {P : Program} {f : TypeId → Option (List α)} {R : α → Value → Prop} {cs : List Value} : ∀ (l : List Field) (off : Nat) (ls : List α), (∀ x ∈ l, ∀ a, f x.type = some a → All2 R a ((cs.drop x.offset).take (P.cellsOf x.type))) →
    sideBySide P f off l = some ls → (∀ x ∈ l, ∀ a, f x.type = some a → (cs.drop x.offset).take (P.cellsOf x.type) ≠ [] ∨ a = []) → cs.length = off + ls.length → All2 R ls (cs.drop off)
  | [], off, ls, hf, h, hz, hl => by
    simp only [sideBySide, Option.some.injEq] at h; subst h
    have : cs.drop off = [] := List.drop_eq_nil_of_le (by simpa using Nat.le_of_eq hl)
    rw [this]; trivial
  | x :: l, off, ls, hf, h, hz, hl => by
    simp only [sideBySide] at h
    split at h
    · rename_i a b h1 h2
      split at h
      · rename_i ho
        simp only [Option.some.injEq] at h; subst h
        have hA := hf x (by simp) a h1
        rw [ho] at hA
        have hlen := hA.length
        rw [List.length_take, List.length_drop] at hlen
        have hB : All2 R b (cs.drop (off + P.cellsOf x.type)) := by
          rcases Nat.lt_or_ge (cs.length - off) (P.cellsOf x.type) with hc | hc
          · have ha : a.length = cs.length - off := by omega
            have hb : b = [] := by
              have : b.length = 0 := by rw [List.length_append] at hl; omega
              exact List.length_eq_zero_iff.1 this
            subst hb
            have : cs.drop (off + P.cellsOf x.type) = [] := List.drop_eq_nil_of_le (by omega)
            rw [this]; trivial
          · exact sideBySide_ok l _ b (fun y hy => hf y (by simp [hy])) h2 (fun y hy => hz y (by simp [hy])) (by rw [List.length_append] at hl; omega)
        have := hA.append hB
        rwa [show (cs.drop off).take (P.cellsOf x.type) ++ cs.drop (off + P.cellsOf x.type) = cs.drop off by rw [← List.drop_drop]; exact List.take_append_drop _ _] at this
      · cases h
    · cases h

section
variable {H : Type} {enc : TypeId × Value → H} {P : Program} {w : World} {base : Nat} {spare : Nat → Bool} {held : Bool}

theorem replicate_ok {R : Lk → Value → Prop} {l : List Lk} {sz : Nat} : ∀ (n : Nat) (cs : List Value), (∀ i, i < n → All2 R l ((cs.drop (i * sz)).take sz)) → cs.length = n * sz → All2 R (List.replicate n l).flatten cs
  | 0, cs, _, hl => by
    have : cs = [] := List.length_eq_zero_iff.1 (by simpa using hl)
    subst this; simp [All2]
  | n + 1, cs, h, hl => by
    rw [List.replicate_succ, List.flatten_cons]
    have h0 := h 0 (by omega)
    rw [Nat.zero_mul, List.drop_zero] at h0
    have := h0.append (replicate_ok n (cs.drop sz) (fun i hi => by
      have := h (i + 1) (by omega)
      rwa [show (i + 1) * sz = sz + i * sz by rw [Nat.add_mul]; omega, ← List.drop_drop] at this) (by rw [List.length_drop, hl, Nat.add_mul]; omega))
    rwa [List.take_append_drop] at this

theorem flat_ok : ∀ (d : Nat) {t : TypeId} {ls : List Lk} {fuel : Nat} {cs : List Value} {y : DataW H × List MemPlace}, flat P d t = some ls → DataW.trod enc P w base spare held fuel t cs = some y → All2 LkOk ls cs
  | 0, t, ls, fuel, cs, y, h, _ => by simp [flat] at h
  | d + 1, t, ls, fuel, cs, y, h, ht => by
    simp only [flat] at h
    split at h
    · rename_i k hu
      cases h
      obtain ⟨n, rfl, _, hw⟩ := DataW.trod_int hu ht
      exact ⟨⟨n, rfl, hw⟩, trivial⟩
    · rename_i hu
      cases h
      obtain ⟨b, rfl, _⟩ := DataW.trod_bool hu ht
      exact ⟨⟨b, rfl⟩, trivial⟩
    · rename_i hu
      cases h
      obtain ⟨s, rfl, _⟩ := DataW.trod_string hu ht
      exact ⟨⟨s, rfl⟩, trivial⟩
    · rename_i fs hu
      split at h
      · rename_i l hl
        split at h
        · rename_i hlen
          cases h
          obtain ⟨xs, n, _, _, hc, hx, hf⟩ := DataW.trod_struct hu ht
          have key : ∀ x ∈ fs.toList, ∀ a, flat P d x.type = some a → All2 LkOk a ((cs.drop x.offset).take (P.cellsOf x.type)) := fun x hm a ha => by
            obtain ⟨i, hi⟩ := List.getElem?_of_mem hm
            have hi' : fs[i]? = some x := by simpa using hi
            have hlt : i < xs.length := by rw [hx]; exact (Array.getElem?_eq_some_iff.1 hi').1
            have := hf i x hi'
            rw [List.getElem?_eq_getElem hlt] at this
            exact flat_ok d ha this
          have := sideBySide_ok fs.toList 0 ls key hl (fun x hm a ha => by
            by_cases ha0 : a = []
            · exact .inr ha0
            · refine .inl fun hn => ?_
              have := (key x hm a ha).length
              rw [hn] at this
              exact ha0 (List.length_eq_zero_iff.1 this)) (by rw [hc, hlen]; omega)
          simpa using this
        · cases h
      · cases h
    · rename_i n e hu
      split at h
      · rename_i l hl
        split at h
        · rename_i hlen
          cases h
          obtain ⟨xs, m, _, _, hc, hx, hf⟩ := DataW.trod_array hu ht
          refine replicate_ok (sz := P.cellsOf e) n cs (fun i hi => ?_) (by rw [hc, ← hlen.1, hlen.2])
          have := hf i hi
          rw [List.getElem?_eq_getElem (by omega)] at this
          exact flat_ok d hl this
        · cases h
      · cases h
    · cases h

def intAt : Value → Int
  | .int _ n => n
  | _ => 0
def boolAt : Value → Bool
  | .bool b => b
  | _ => false
def strAt : Value → ByteArray
  | .string s => s
  | _ => ⟨#[]⟩
def mkF (C : Nat → List Value) (l : Lk) (j : Nat) : Fld :=
  match l with
  | .int k => .int k fun i => intAt ((C i).getD j undef)
  | .bool => .bool fun i => boolAt ((C i).getD j undef)
  | .str => .str fun i => strAt ((C i).getD j undef)
def mkFs (C : Nat → List Value) : List Lk → Nat → List Fld
  | [], _ => []
  | l :: ls, j => mkF C l j :: mkFs C ls (j + 1)
theorem wf_zero (k : IntKind) : (Lit.int k 0).wf = true := by cases k <;> decide
theorem mkFs_get (C : Nat → List Value) : ∀ (ls : List Lk) (j q : Nat), (mkFs C ls j)[q]? = (ls[q]?).map fun l => mkF C l (j + q)
  | [], j, q => by simp [mkFs]
  | l :: ls, j, 0 => rfl
  | l :: ls, j, q + 1 => by
    simp only [mkFs, List.getElem?_cons_succ, mkFs_get C ls (j + 1) q]
    rw [show j + 1 + q = j + (q + 1) by omega]
theorem mkFs_ok (C : Nat → List Value) (n : Nat) (ls0 : List Lk) (hC : ∀ i, i < n → All2 LkOk ls0 (C i)) (hC' : ∀ i, n ≤ i → C i = []) : ∀ (ls : List Lk) (j : Nat), (∀ q, ls[q]? = ls0[j + q]?) → All2 FldOk ls (mkFs C ls j)
  | [], j, _ => trivial
  | l :: ls, j, h => by
    refine ⟨?_, mkFs_ok C n ls0 hC hC' ls (j + 1) fun q => by have := h (q + 1); simpa [Nat.add_assoc, Nat.add_comm 1 q] using this⟩
    have hj : ls0[j]? = some l := by have := h 0; simpa using this.symm
    cases l with
    | int k =>
      refine ⟨_, rfl, fun i => ?_⟩
      rcases Nat.lt_or_ge i n with hi | hi
      · obtain ⟨b, hb, n', hn, hw⟩ := (hC i hi).get j _ hj
        simp only [List.getD_eq_getElem?_getD, hb, Option.getD_some, hn, intAt]; exact hw
      · rw [hC' i hi]; exact wf_zero k
    | bool => exact ⟨_, rfl⟩
    | str => exact ⟨_, rfl⟩
theorem mkFs_length (C : Nat → List Value) : ∀ (ls : List Lk) (j : Nat), (mkFs C ls j).length = ls.length
  | [], _ => rfl
  | l :: ls, j => by simp [mkFs, mkFs_length C ls (j + 1)]

theorem cells_get {n : Nat} {a : Addr} {cs : List Value} (h : w.cells? base a n = some cs) : cs.length = n ∧ ∀ i u, cs[i]? = some u → w.cell? (a.add i) = some u := by
  unfold World.cells? at h
  split at h
  · have hl : cs.length = n := by simpa using mapM_some_length h
    refine ⟨hl, fun i u hu => ?_⟩
    have hi := (List.getElem?_eq_some_iff.1 hu).1
    have hr : (List.range n)[i]? = some i := by rw [List.getElem?_range (by omega)]
    have := mapM_some_get h i i hr
    rw [this]; exact hu
  · cases h
theorem cell_spot {a : Addr} {v : Value} (h : w.cell? a = some v) : a.spot = none ∧ a.block < w.heap.size := by
  unfold World.cell? at h
  split at h
  · rename_i c e f hb
    split at h
    · cases h
    · rename_i hs
      exact ⟨by simpa using hs, (Array.getElem?_eq_some_iff.1 hb).1⟩
  · cases h

theorem add_add (a : Addr) (m n : Nat) : (a.add m).add n = a.add (m + n) := by
  unfold Addr.add
  by_cases h1 : m = 0 <;> by_cases h2 : n = 0 <;> simp [h1, h2, Nat.add_assoc]

theorem rows_ok {t e : TypeId} {d : Nat} {ls : List Lk} {fuel : Nat} {cs : List Value} {y : DataW H × List MemPlace} (hu : P.underlying t = some (.slice e)) (hfl : flat P d e = some ls) (hlen : ls.length = P.cellsOf e) (hpos : 0 < ls.length)
    (h : DataW.trod enc P w base spare held fuel t cs = some y) (hw : ∀ m ∈ y.1.weights P t, m ≤ reachBytes) : ∃ v, cs = [v] ∧ LfOk P w (.rows e ls) v := by
  rcases DataW.trod_slice hu h with ⟨rfl, _⟩ | ⟨a, len, cap, elems, rest, n, _, rfl, hy, hb, hl, hc, hel, hget, _⟩
  · refine ⟨_, rfl, none, 0, 0, mkFs (fun _ => []) ls 0, rfl, by simp, fun hp => absurd hp (Nat.lt_irrefl _), ?_⟩
    exact mkFs_ok _ 0 ls (fun i hi => absurd hi (Nat.not_lt_zero _)) (fun _ _ => rfl) ls 0 (fun q => by simp)
  · have hex : ∀ i, ∃ c : List Value, (i < len → All2 LkOk ls c ∧ ∀ j u, c[j]? = some u → w.cell? (a.add (i * P.cellsOf e + j)) = some u) ∧ (len ≤ i → c = []) := fun i => by
      rcases Nat.lt_or_ge i len with hi | hi
      · have h1 := hget i hi
        rw [List.getElem?_eq_getElem (by omega)] at h1
        obtain ⟨c, hcs, hz⟩ := Option.bind_eq_some_iff.1 h1
        refine ⟨c, fun _ => ⟨flat_ok d hfl hz, fun j u hj => ?_⟩, fun h' => by omega⟩
        have := (cells_get hcs).2 j u hj
        rwa [add_add] at this
      · exact ⟨[], fun h' => by omega, fun _ => rfl⟩
    let C : Nat → List Value := fun i => Classical.choose (hex i)
    have hC : ∀ i, (i < len → All2 LkOk ls (C i) ∧ ∀ j u, (C i)[j]? = some u → w.cell? (a.add (i * P.cellsOf e + j)) = some u) ∧ (len ≤ i → C i = []) := fun i => Classical.choose_spec (hex i)
    refine ⟨_, rfl, some a, len, cap, mkFs C ls 0, rfl, ?_, fun hp => ?_, mkFs_ok C len ls (fun i hi => ((hC i).1 hi).1) (fun i hi => (hC i).2 hi) ls 0 (fun q => by simp)⟩
    · have := hw ((elems.length + rest.length) * P.bytesOf e) (by rw [hy]; simp [DataW.weights, hu])
      refine Nat.le_trans (Nat.mul_le_mul_right _ ?_) this
      omega
    · have get : ∀ i, i < len → ∀ j (g : Fld), (mkFs C ls 0)[j]? = some g → w.cell? (a.add (i * P.cellsOf e + j)) = some (g.at i) := fun i hi j g hg => by
        rw [mkFs_get, Nat.zero_add] at hg
        cases hlj : ls[j]? with
        | none => rw [hlj] at hg; cases hg
        | some l =>
          rw [hlj] at hg
          simp only [Option.map_some, Option.some.injEq] at hg; subst hg
          obtain ⟨h1, h2⟩ := (hC i).1 hi
          obtain ⟨b, hb, hk⟩ := h1.get j l hlj
          have := h2 j b hb
          rw [this]
          cases l with
          | int k => obtain ⟨n', rfl, _⟩ := hk; simp [mkF, Fld.at, List.getD_eq_getElem?_getD, hb, intAt]
          | bool => obtain ⟨b', rfl⟩ := hk; simp [mkF, Fld.at, List.getD_eq_getElem?_getD, hb, boolAt]
          | str => obtain ⟨s', rfl⟩ := hk; simp [mkF, Fld.at, List.getD_eq_getElem?_getD, hb, strAt]
      have h00 : ∃ v, w.cell? a = some v := by
        have h1 : (mkFs C ls 0)[0]? = some ((mkFs C ls 0)[0]'(by rw [mkFs_length]; exact hpos)) := List.getElem?_eq_getElem _
        have := get 0 hp 0 _ h1
        rw [Nat.zero_mul] at this
        exact ⟨_, this⟩
      obtain ⟨v0, hv0⟩ := h00
      obtain ⟨hs, hlt⟩ := cell_spot hv0
      refine ⟨a, rfl, hs, Nat.zero_le _, hlt, fun i hi j g hg => ?_⟩
      have := get i hi j g hg
      rw [addr_add' hs] at this
      rw [mkFs_length, hlen]; exact this

/-- **A datum of a type opens leaf by leaf.** -/
theorem full_ok : ∀ (d : Nat) {t : TypeId} {ls : List Lf} {fuel : Nat} {cs : List Value} {y : DataW H × List MemPlace}, full P d t = some ls → DataW.trod enc P w base spare held fuel t cs = some y → (∀ m ∈ y.1.weights P t, m ≤ reachBytes) → All2 (LfOk P w) ls cs
  | 0, t, ls, fuel, cs, y, h, _, _ => by simp [full] at h
  | d + 1, t, ls, fuel, cs, y, h, ht, hw => by
    simp only [full] at h
    split at h
    · rename_i k hu
      cases h
      obtain ⟨n, rfl, _, hwf⟩ := DataW.trod_int hu ht
      exact ⟨⟨n, rfl, hwf⟩, trivial⟩
    · rename_i hu
      cases h
      obtain ⟨b, rfl, _⟩ := DataW.trod_bool hu ht
      exact ⟨⟨b, rfl⟩, trivial⟩
    · rename_i hu
      cases h
      obtain ⟨s, rfl, _⟩ := DataW.trod_string hu ht
      exact ⟨⟨s, rfl⟩, trivial⟩
    · rename_i fs hu
      split at h
      · rename_i l hl
        split at h
        · rename_i hlen
          cases h
          obtain ⟨xs, n, _, hy, hc, hx, hf⟩ := DataW.trod_struct hu ht
          have key : ∀ x ∈ fs.toList, ∀ a, full P d x.type = some a → All2 (LfOk P w) a ((cs.drop x.offset).take (P.cellsOf x.type)) := fun x hm a ha => by
            obtain ⟨i, hi⟩ := List.getElem?_of_mem hm
            have hi' : fs[i]? = some x := by simpa using hi
            have hlt : i < xs.length := by rw [hx]; exact (Array.getElem?_eq_some_iff.1 hi').1
            have := hf i x hi'
            rw [List.getElem?_eq_getElem hlt] at this
            refine full_ok d ha this fun m hm => hw m ?_
            rw [hy]
            simp only [DataW.weights, hu]
            exact DataW.weights_mem_each (j := i) (t := x.type) (d := xs[i].1) (by simp [hi']) (by simp [hlt]) m hm
          have := sideBySide_ok fs.toList 0 ls key hl (fun x hm a ha => by
            by_cases ha0 : a = []
            · exact .inr ha0
            · refine .inl fun hn => ?_
              have := (key x hm a ha).length
              rw [hn] at this
              exact ha0 (List.length_eq_zero_iff.1 this)) (by rw [hc, hlen]; omega)
          simpa using this
        · cases h
      · cases h
    · rename_i n e hu
      cases hfl : flat P (d + 1) t with
      | none => rw [hfl] at h; cases h
      | some l =>
        rw [hfl] at h
        simp only [Option.map_some, Option.some.injEq] at h; subst h
        exact (flat_ok (d + 1) hfl ht).map (f := Lf.one) (Q := LfOk P w) fun a b hab => hab
    · rename_i e hu
      split at h
      · rename_i l hl
        split at h
        · rename_i hlen
          cases h
          obtain ⟨v, rfl, hv⟩ := rows_ok hu hl hlen.1 hlen.2 ht hw
          exact ⟨hv, trivial⟩
        · cases h
      · cases h
    · cases h

theorem okWide_array {r : Reach} {b0 : Nat} {t e : TypeId} {n : Nat} {v : Value} (ht : P.underlying t = some (.array n e)) (h : Value.okWide P w r b0 t v) : ∃ cs, v = .agg cs ∧ cs.size = P.cellsOf t := by
  simp only [Value.okWide, ht] at h
  obtain ⟨cs, h1, h2, _⟩ := h
  exact ⟨cs, h1, h2⟩
/-- .. for a whole argument. -/
theorem open_arg {t : TypeId} {ls : List Lf} {v : Value} {dd : DataW H} {ps : List MemPlace} (d : Nat) (hfull : full P d t = some ls) (h : DataW.Trod enc P w base spare held t v dd ps) (hw : ∀ m ∈ dd.weights P t, m ≤ reachBytes) :
    All2 (LfOk P w) ls v.cells.toList := by
  obtain ⟨fuel, hf⟩ := h
  exact full_ok d hfull hf hw
end

theorem All2.cons {α β : Type} {R : α → β → Prop} {a : α} {l : List α} {m : List β} (h : All2 R (a :: l) m) : ∃ b m', m = b :: m' ∧ R a b ∧ All2 R l m' := by
  cases m with
  | nil => exact h.elim
  | cons b m => exact ⟨b, m, rfl, h.1, h.2⟩
theorem All2.c {α β : Type} {R : α → β → Prop} {a : α} {b : β} {l : List α} {m : List β} (h : R a b) (h' : All2 R l m) : All2 R (a :: l) (b :: m) := ⟨h, h'⟩
theorem All2.n {α β : Type} {R : α → β → Prop} : All2 R ([] : List α) ([] : List β) := trivial
theorem All2.nil {α β : Type} {R : α → β → Prop} {m : List β} (h : All2 R [] m) : m = [] := by
  cases m with
  | nil => rfl
  | cons b m => exact h.elim
theorem argsRel_of {w : World} {args : Array Value} {avs : List AV} (h : All2 (fun av x => AVRel w 0 x av) avs args.toList) : ArgsRel w args avs :=
  ⟨by simpa using h.length, fun i av hi => let ⟨x, hx, hr⟩ := h.get i av hi; ⟨x, by simpa using hx, hr⟩⟩
theorem pk_args {w : World} {l : List PA} {c : Array Value} (h : All2 (fun p y => PARel w 0 y p) l c.toList) : AVRel w 0 (.agg c) (.pk l) :=
  ⟨c, rfl, by simpa using h.length, fun i p hp => let ⟨y, hy, hr⟩ := h.get i p hp; ⟨y, by simpa using hy, hr⟩⟩
theorem CallOk.calls {P : Program} {f : FuncId} {fn : Func} {args : Array Value} {w : World} {R : Value → World → Prop} (hf : P.funcs[f]? = some fn) (hname : (fn.name == "runtime.NumGoroutine") = false) (hb : fn.body.isNone = false) (h : CallOk P f args w R) :
    Calls P f args w fun e w'' => ∃ x, e = .returned x ∧ R x w'' := by
  have hcall : (callFunc f args).run P w = .ok (.enter f args) w := by
    unfold callFunc
    simp only [Sem.run_bind, run_program, Result.andThen_ok, hf, hname, hb, Bool.false_eq_true, if_false, Sem.run_pure]
  unfold CallOk at h
  rw [hcall] at h
  exact h.2
end Go.Proofs.Ytmkhglpfhnocaaa.Ev
