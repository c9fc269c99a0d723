/- How an argument's datum opens: numbers and truth values, structs and arrays of these, slices of these, and structs with such slices. How an argument opens that is a term, or a slice of terms. -/
import Derived.Test.YtcihbcffokjgjaaGreatTEvC
import Derived.ProofKit
import Derived.WideShapes
import Derived.ChangeArms
import Derived.ChangeOld
import Derived.OpenShut
import Derived.SizedLaws
import Derived.Deep.Slices
namespace Go.Proofs.YtcihbcffokjgjaaGreat.Ev
open Go Go.RowKit
set_option linter.unusedVariables false
set_option linter.unusedSimpArgs false
inductive Lk where
  | int (k : IntKind)
  | bool
  | str
inductive Lf where
  | one (l : Lk)
  | rows (e : TypeId) (ls : List Lk)
def LkOk : Lk → Value → Prop
  | .int k, v => ∃ n, v = .int k n ∧ (Lit.int k n).wf = true
  | .bool, v => ∃ b, v = .bool b
  | .str, v => ∃ s, v = .string s
def FldOk : Lk → Fld → Prop
  | .int k, f => ∃ g, f = .int k g ∧ ∀ i, (Lit.int k (g i)).wf = true
  | .bool, f => ∃ g, f = .bool g
  | .str, f => ∃ g, f = .str g
def All2 {α β : Type} (R : α → β → Prop) : List α → List β → Prop
  | [], [] => True
  | a :: l, b :: m => R a b ∧ All2 R l m
  | _, _ => False
def LfOk (P : Program) (w : World) : Lf → Value → Prop
  | .one l, v => LkOk l v
  | .rows e ls, v => ∃ A n c fs, v = .slice A n c ∧ n * P.bytesOf e ≤ reachBytes ∧ RowsAt w 0 A n fs ∧ All2 FldOk ls fs
def sideBySide {α : Type} (P : Program) (f : TypeId → Option (List α)) : Nat → List Field → Option (List α)
  | _, [] => some []
  | off, x :: l =>
    match f x.type, sideBySide P f (off + P.cellsOf x.type) l with
    | some a, some b => if x.offset = off then some (a ++ b) else none
    | _, _ => none
def flat (P : Program) : Nat → TypeId → Option (List Lk)
  | 0, _ => none
  | d + 1, t =>
    match P.underlying t with
    | some (.int k) => some [.int k]
    | some .bool => some [.bool]
    | some .string => some [.str]
    | some (.struct fs) =>
      match sideBySide P (flat P d) 0 fs.toList with
      | some l => if l.length = P.cellsOf t then some l else none
      | none => none
    | some (.array n e) =>
      match flat P d e with
      | some l => if n * l.length = P.cellsOf t ∧ l.length = P.cellsOf e then some (List.replicate n l).flatten else none
      | none => none
    | _ => none
def full (P : Program) : Nat → TypeId → Option (List Lf)
  | 0, _ => none
  | d + 1, t =>
    match P.underlying t with
    | some (.int k) => some [.one (.int k)]
    | some .bool => some [.one .bool]
    | some .string => some [.one .str]
    | some (.struct fs) =>
      match sideBySide P (full P d) 0 fs.toList with
      | some l => if l.length = P.cellsOf t then some l else none
      | none => none
    | some (.array n e) => (flat P (d + 1) t).map fun l => l.map .one
    | some (.slice e) =>
      match flat P d e with
      | some l => if l.length = P.cellsOf e ∧ 0 < l.length then some [.rows e l] else none
      | none => none
    | _ => none
theorem All2.append {α β : Type} {R : α → β → Prop} : ∀ {l l' : List α} {m m' : List β}, All2 R l m → All2 R l' m' → All2 R (l ++ l') (m ++ m')
  | [], _, [], _, _, h => h
  | a :: l, _, b :: m, _, ⟨h1, h2⟩, h => ⟨h1, h2.append h⟩
  | [], _, _ :: _, _, h, _ => h.elim
  | _ :: _, _, [], _, h, _ => h.elim
theorem All2.get {α β : Type} {R : α → β → Prop} : ∀ {l : List α} {m : List β}, All2 R l m → ∀ (j : Nat) (a : α), l[j]? = some a → ∃ b, m[j]? = some b ∧ R a b
  | [], [], _, j, a, h => by simp at h
  | x :: l, y :: m, ⟨h1, h2⟩, 0, a, h => by simp at h; subst h; exact ⟨y, rfl, h1⟩
  | x :: l, y :: m, ⟨h1, h2⟩, j + 1, a, h => by simpa using h2.get j a (by simpa using h)
theorem All2.length {α β : Type} {R : α → β → Prop} : ∀ {l : List α} {m : List β}, All2 R l m → l.length = m.length
  | [], [], _ => rfl
  | x :: l, y :: m, ⟨_, h2⟩ => by simp [h2.length]
theorem All2.map {α β γ : Type} {R : α → β → Prop} {Q : γ → β → Prop} {f : α → γ} (hf : ∀ a b, R a b → Q (f a) b) : ∀ {l : List α} {m : List β}, All2 R l m → All2 Q (l.map f) m
  | [], [], _ => trivial
  | x :: l, y :: m, ⟨h1, h2⟩ => ⟨hf _ _ h1, h2.map hf⟩
theorem sideBySide_ok {α : Type} {P : Program} {f : TypeId → Option (List α)} {R : α → Value → Prop} {cs : List Value} : ∀ (l : List Field) (off : Nat) (ls : List α), (∀ x ∈ l, ∀ a, f x.type = some a → All2 R a ((cs.drop x.offset).take (P.cellsOf x.type))) →
    sideBySide P f off l = some ls → (∀ x ∈ l, ∀ a, f x.type = some a → (cs.drop x.offset).take (P.cellsOf x.type) ≠ [] ∨ a = []) → cs.length = off + ls.length → All2 R ls (cs.drop off)
  | [], off, ls, hf, h, hz, hl => by
    simp only [sideBySide, Option.some.injEq] at h; subst h
    have : cs.drop off = [] := List.drop_eq_nil_of_le (by simpa using Nat.le_of_eq hl)
    rw [this]; trivial
  | x :: l, off, ls, hf, h, hz, hl => by
    simp only [sideBySide] at h
    split at h
    · rename_i a b h1 h2
      split at h
      · rename_i ho
        simp only [Option.some.injEq] at h; subst h
        have hA := hf x (by simp) a h1
        rw [ho] at hA
        have hlen := hA.length
        rw [List.length_take, List.length_drop] at hlen
        have hB : All2 R b (cs.drop (off + P.cellsOf x.type)) := by
          rcases Nat.lt_or_ge (cs.length - off) (P.cellsOf x.type) with hc | hc
          · have ha : a.length = cs.length - off := by omega
            have hb : b = [] := by
              have : b.length = 0 := by rw [List.length_append] at hl; omega
              exact List.length_eq_zero_iff.1 this
            subst hb
            have : cs.drop (off + P.cellsOf x.type) = [] := List.drop_eq_nil_of_le (by omega)
            rw [this]; trivial
          · exact sideBySide_ok l _ b (fun y hy => hf y (by simp [hy])) h2 (fun y hy => hz y (by simp [hy])) (by rw [List.length_append] at hl; omega)
        have := hA.append hB
        rwa [show (cs.drop off).take (P.cellsOf x.type) ++ cs.drop (off + P.cellsOf x.type) = cs.drop off by rw [← List.drop_drop]; exact List.take_append_drop _ _] at this
      · cases h
    · cases h
section
variable {H : Type} {enc : TypeId × Value → H} {P : Program} {w : World} {base : Nat} {spare : Nat → Bool} {held : Bool}
theorem replicate_ok {R : Lk → Value → Prop} {l : List Lk} {sz : Nat} : ∀ (n : Nat) (cs : List Value), (∀ i, i < n → All2 R l ((cs.drop (i * sz)).take sz)) → cs.length = n * sz → All2 R (List.replicate n l).flatten cs
  | 0, cs, _, hl => by
    have : cs = [] := List.length_eq_zero_iff.1 (by simpa using hl)
    subst this; simp [All2]
  | n + 1, cs, h, hl => by
    rw [List.replicate_succ, List.flatten_cons]
    have h0 := h 0 (by omega)
    rw [Nat.zero_mul, List.drop_zero] at h0
    have := h0.append (replicate_ok n (cs.drop sz) (fun i hi => by
      have := h (i + 1) (by omega)
      rwa [show (i + 1) * sz = sz + i * sz by rw [Nat.add_mul]; omega, ← List.drop_drop] at this) (by rw [List.length_drop, hl, Nat.add_mul]; omega))
    rwa [List.take_append_drop] at this
theorem flat_ok : ∀ (d : Nat) {t : TypeId} {ls : List Lk} {fuel : Nat} {cs : List Value} {y : DataW H × List MemPlace}, flat P d t = some ls → DataW.trod enc P w base spare held fuel t cs = some y → All2 LkOk ls cs
  | 0, t, ls, fuel, cs, y, h, _ => by simp [flat] at h
  | d + 1, t, ls, fuel, cs, y, h, ht => by
    simp only [flat] at h
    split at h
    · rename_i k hu
      cases h
      obtain ⟨n, rfl, _, hw⟩ := DataW.trod_int hu ht
      exact ⟨⟨n, rfl, hw⟩, trivial⟩
    · rename_i hu
      cases h
      obtain ⟨b, rfl, _⟩ := DataW.trod_bool hu ht
      exact ⟨⟨b, rfl⟩, trivial⟩
    · rename_i hu
      cases h
      obtain ⟨s, rfl, _⟩ := DataW.trod_string hu ht
      exact ⟨⟨s, rfl⟩, trivial⟩
    · rename_i fs hu
      split at h
      · rename_i l hl
        split at h
        · rename_i hlen
          cases h
          obtain ⟨xs, n, _, _, hc, hx, hf⟩ := DataW.trod_struct hu ht
          have key : ∀ x ∈ fs.toList, ∀ a, flat P d x.type = some a → All2 LkOk a ((cs.drop x.offset).take (P.cellsOf x.type)) := fun x hm a ha => by
            obtain ⟨i, hi⟩ := List.getElem?_of_mem hm
            have hi' : fs[i]? = some x := by simpa using hi
            have hlt : i < xs.length := by rw [hx]; exact (Array.getElem?_eq_some_iff.1 hi').1
            have := hf i x hi'
            rw [List.getElem?_eq_getElem hlt] at this
            exact flat_ok d ha this
          have := sideBySide_ok fs.toList 0 ls key hl (fun x hm a ha => by
            by_cases ha0 : a = []
            · exact .inr ha0
            · refine .inl fun hn => ?_
              have := (key x hm a ha).length
              rw [hn] at this
              exact ha0 (List.length_eq_zero_iff.1 this)) (by rw [hc, hlen]; omega)
          simpa using this
        · cases h
      · cases h
    · rename_i n e hu
      split at h
      · rename_i l hl
        split at h
        · rename_i hlen
          cases h
          obtain ⟨xs, m, _, _, hc, hx, hf⟩ := DataW.trod_array hu ht
          refine replicate_ok (sz := P.cellsOf e) n cs (fun i hi => ?_) (by rw [hc, ← hlen.1, hlen.2])
          have := hf i hi
          rw [List.getElem?_eq_getElem (by omega)] at this
          exact flat_ok d hl this
        · cases h
      · cases h
    · cases h
def intAt : Value → Int
  | .int _ n => n
  | _ => 0
def boolAt : Value → Bool
  | .bool b => b
  | _ => false
def strAt : Value → ByteArray
  | .string s => s
  | _ => ⟨#[]⟩
def mkF (C : Nat → List Value) (l : Lk) (j : Nat) : Fld :=
  match l with
  | .int k => .int k fun i => intAt ((C i).getD j undef)
  | .bool => .bool fun i => boolAt ((C i).getD j undef)
  | .str => .str fun i => strAt ((C i).getD j undef)
def mkFs (C : Nat → List Value) : List Lk → Nat → List Fld
  | [], _ => []
  | l :: ls, j => mkF C l j :: mkFs C ls (j + 1)
theorem wf_zero (k : IntKind) : (Lit.int k 0).wf = true := by cases k <;> decide
theorem mkFs_get (C : Nat → List Value) : ∀ (ls : List Lk) (j q : Nat), (mkFs C ls j)[q]? = (ls[q]?).map fun l => mkF C l (j + q)
  | [], j, q => by simp [mkFs]
  | l :: ls, j, 0 => rfl
  | l :: ls, j, q + 1 => by
    simp only [mkFs, List.getElem?_cons_succ, mkFs_get C ls (j + 1) q]
    rw [show j + 1 + q = j + (q + 1) by omega]
theorem mkFs_ok (C : Nat → List Value) (n : Nat) (ls0 : List Lk) (hC : ∀ i, i < n → All2 LkOk ls0 (C i)) (hC' : ∀ i, n ≤ i → C i = []) : ∀ (ls : List Lk) (j : Nat), (∀ q, ls[q]? = ls0[j + q]?) → All2 FldOk ls (mkFs C ls j)
  | [], j, _ => trivial
  | l :: ls, j, h => by
    refine ⟨?_, mkFs_ok C n ls0 hC hC' ls (j + 1) fun q => by have := h (q + 1); simpa [Nat.add_assoc, Nat.add_comm 1 q] using this⟩
    have hj : ls0[j]? = some l := by have := h 0; simpa using this.symm
    cases l with
    | int k =>
      refine ⟨_, rfl, fun i => ?_⟩
      rcases Nat.lt_or_ge i n with hi | hi
      · obtain ⟨b, hb, n', hn, hw⟩ := (hC i hi).get j _ hj
        simp only [List.getD_eq_getElem?_getD, hb, Option.getD_some, hn, intAt]; exact hw
      · rw [hC' i hi]; exact wf_zero k
    | bool => exact ⟨_, rfl⟩
    | str => exact ⟨_, rfl⟩
theorem mkFs_length (C : Nat → List Value) : ∀ (ls : List Lk) (j : Nat), (mkFs C ls j).length = ls.length
  | [], _ => rfl
  | l :: ls, j => by simp [mkFs, mkFs_length C ls (j + 1)]
theorem cells_get {n : Nat} {a : Addr} {cs : List Value} (h : w.cells? base a n = some cs) : cs.length = n ∧ ∀ i u, cs[i]? = some u → w.cell? (a.add i) = some u := by
  unfold World.cells? at h
  split at h
  · have hl : cs.length = n := by simpa using mapM_some_length h
    refine ⟨hl, fun i u hu => ?_⟩
    have hi := (List.getElem?_eq_some_iff.1 hu).1
    have hr : (List.range n)[i]? = some i := by rw [List.getElem?_range (by omega)]
    have := mapM_some_get h i i hr
    rw [this]; exact hu
  · cases h
theorem cell_spot {a : Addr} {v : Value} (h : w.cell? a = some v) : a.spot = none ∧ a.block < w.heap.size := by
  unfold World.cell? at h
  split at h
  · rename_i c e f hb
    split at h
    · cases h
    · rename_i hs
      exact ⟨by simpa using hs, (Array.getElem?_eq_some_iff.1 hb).1⟩
  · cases h
theorem add_add (a : Addr) (m n : Nat) : (a.add m).add n = a.add (m + n) := by
  unfold Addr.add
  by_cases h1 : m = 0 <;> by_cases h2 : n = 0 <;> simp [h1, h2, Nat.add_assoc]
theorem rows_ok {t e : TypeId} {d : Nat} {ls : List Lk} {fuel : Nat} {cs : List Value} {y : DataW H × List MemPlace} (hu : P.underlying t = some (.slice e)) (hfl : flat P d e = some ls) (hlen : ls.length = P.cellsOf e) (hpos : 0 < ls.length)
    (h : DataW.trod enc P w base spare held fuel t cs = some y) (hw : ∀ m ∈ y.1.weights P t, m ≤ reachBytes) : ∃ v, cs = [v] ∧ LfOk P w (.rows e ls) v := by
  rcases DataW.trod_slice hu h with ⟨rfl, _⟩ | ⟨a, len, cap, elems, rest, n, _, rfl, hy, hb, hl, hc, hel, hget, _⟩
  · refine ⟨_, rfl, none, 0, 0, mkFs (fun _ => []) ls 0, rfl, by simp, fun hp => absurd hp (Nat.lt_irrefl _), ?_⟩
    exact mkFs_ok _ 0 ls (fun i hi => absurd hi (Nat.not_lt_zero _)) (fun _ _ => rfl) ls 0 (fun q => by simp)
  · have hex : ∀ i, ∃ c : List Value, (i < len → All2 LkOk ls c ∧ ∀ j u, c[j]? = some u → w.cell? (a.add (i * P.cellsOf e + j)) = some u) ∧ (len ≤ i → c = []) := fun i => by
      rcases Nat.lt_or_ge i len with hi | hi
      · have h1 := hget i hi
        rw [List.getElem?_eq_getElem (by omega)] at h1
        obtain ⟨c, hcs, hz⟩ := Option.bind_eq_some_iff.1 h1
        refine ⟨c, fun _ => ⟨flat_ok d hfl hz, fun j u hj => ?_⟩, fun h' => by omega⟩
        have := (cells_get hcs).2 j u hj
        rwa [add_add] at this
      · exact ⟨[], fun h' => by omega, fun _ => rfl⟩
    let C : Nat → List Value := fun i => Classical.choose (hex i)
    have hC : ∀ i, (i < len → All2 LkOk ls (C i) ∧ ∀ j u, (C i)[j]? = some u → w.cell? (a.add (i * P.cellsOf e + j)) = some u) ∧ (len ≤ i → C i = []) := fun i => Classical.choose_spec (hex i)
    refine ⟨_, rfl, some a, len, cap, mkFs C ls 0, rfl, ?_, fun hp => ?_, mkFs_ok C len ls (fun i hi => ((hC i).1 hi).1) (fun i hi => (hC i).2 hi) ls 0 (fun q => by simp)⟩
    · have := hw ((elems.length + rest.length) * P.bytesOf e) (by rw [hy]; simp [DataW.weights, hu])
      refine Nat.le_trans (Nat.mul_le_mul_right _ ?_) this
      omega
    · have get : ∀ i, i < len → ∀ j (g : Fld), (mkFs C ls 0)[j]? = some g → w.cell? (a.add (i * P.cellsOf e + j)) = some (g.at i) := fun i hi j g hg => by
        rw [mkFs_get, Nat.zero_add] at hg
        cases hlj : ls[j]? with
        | none => rw [hlj] at hg; cases hg
        | some l =>
          rw [hlj] at hg
          simp only [Option.map_some, Option.some.injEq] at hg; subst hg
          obtain ⟨h1, h2⟩ := (hC i).1 hi
          obtain ⟨b, hb, hk⟩ := h1.get j l hlj
          have := h2 j b hb
          rw [this]
          cases l with
          | int k => obtain ⟨n', rfl, _⟩ := hk; simp [mkF, Fld.at, List.getD_eq_getElem?_getD, hb, intAt]
          | bool => obtain ⟨b', rfl⟩ := hk; simp [mkF, Fld.at, List.getD_eq_getElem?_getD, hb, boolAt]
          | str => obtain ⟨s', rfl⟩ := hk; simp [mkF, Fld.at, List.getD_eq_getElem?_getD, hb, strAt]
      have h00 : ∃ v, w.cell? a = some v := by
        have h1 : (mkFs C ls 0)[0]? = some ((mkFs C ls 0)[0]'(by rw [mkFs_length]; exact hpos)) := List.getElem?_eq_getElem _
        have := get 0 hp 0 _ h1
        rw [Nat.zero_mul] at this
        exact ⟨_, this⟩
      obtain ⟨v0, hv0⟩ := h00
      obtain ⟨hs, hlt⟩ := cell_spot hv0
      refine ⟨a, rfl, hs, Nat.zero_le _, hlt, fun i hi j g hg => ?_⟩
      have := get i hi j g hg
      rw [addr_add' hs] at this
      rw [mkFs_length, hlen]; exact this
theorem full_ok : ∀ (d : Nat) {t : TypeId} {ls : List Lf} {fuel : Nat} {cs : List Value} {y : DataW H × List MemPlace}, full P d t = some ls → DataW.trod enc P w base spare held fuel t cs = some y → (∀ m ∈ y.1.weights P t, m ≤ reachBytes) → All2 (LfOk P w) ls cs
  | 0, t, ls, fuel, cs, y, h, _, _ => by simp [full] at h
  | d + 1, t, ls, fuel, cs, y, h, ht, hw => by
    simp only [full] at h
    split at h
    · rename_i k hu
      cases h
      obtain ⟨n, rfl, _, hwf⟩ := DataW.trod_int hu ht
      exact ⟨⟨n, rfl, hwf⟩, trivial⟩
    · rename_i hu
      cases h
      obtain ⟨b, rfl, _⟩ := DataW.trod_bool hu ht
      exact ⟨⟨b, rfl⟩, trivial⟩
    · rename_i hu
      cases h
      obtain ⟨s, rfl, _⟩ := DataW.trod_string hu ht
      exact ⟨⟨s, rfl⟩, trivial⟩
    · rename_i fs hu
      split at h
      · rename_i l hl
        split at h
        · rename_i hlen
          cases h
          obtain ⟨xs, n, _, hy, hc, hx, hf⟩ := DataW.trod_struct hu ht
          have key : ∀ x ∈ fs.toList, ∀ a, full P d x.type = some a → All2 (LfOk P w) a ((cs.drop x.offset).take (P.cellsOf x.type)) := fun x hm a ha => by
            obtain ⟨i, hi⟩ := List.getElem?_of_mem hm
            have hi' : fs[i]? = some x := by simpa using hi
            have hlt : i < xs.length := by rw [hx]; exact (Array.getElem?_eq_some_iff.1 hi').1
            have := hf i x hi'
            rw [List.getElem?_eq_getElem hlt] at this
            refine full_ok d ha this fun m hm => hw m ?_
            rw [hy]
            simp only [DataW.weights, hu]
            exact DataW.weights_mem_each (j := i) (t := x.type) (d := xs[i].1) (by simp [hi']) (by simp [hlt]) m hm
          have := sideBySide_ok fs.toList 0 ls key hl (fun x hm a ha => by
            by_cases ha0 : a = []
            · exact .inr ha0
            · refine .inl fun hn => ?_
              have := (key x hm a ha).length
              rw [hn] at this
              exact ha0 (List.length_eq_zero_iff.1 this)) (by rw [hc, hlen]; omega)
          simpa using this
        · cases h
      · cases h
    · rename_i n e hu
      cases hfl : flat P (d + 1) t with
      | none => rw [hfl] at h; cases h
      | some l =>
        rw [hfl] at h
        simp only [Option.map_some, Option.some.injEq] at h; subst h
        exact (flat_ok (d + 1) hfl ht).map (f := Lf.one) (Q := LfOk P w) fun a b hab => hab
    · rename_i e hu
      split at h
      · rename_i l hl
        split at h
        · rename_i hlen
          cases h
          obtain ⟨v, rfl, hv⟩ := rows_ok hu hl hlen.1 hlen.2 ht hw
          exact ⟨hv, trivial⟩
        · cases h
      · cases h
    · cases h
theorem open_arg {t : TypeId} {ls : List Lf} {v : Value} {dd : DataW H} {ps : List MemPlace} (d : Nat) (hfull : full P d t = some ls) (h : DataW.Trod enc P w base spare held t v dd ps) (hw : ∀ m ∈ dd.weights P t, m ≤ reachBytes) :
    All2 (LfOk P w) ls v.cells.toList := by
  obtain ⟨fuel, hf⟩ := h
  exact full_ok d hfull hf hw
end
theorem All2.cons {α β : Type} {R : α → β → Prop} {a : α} {l : List α} {m : List β} (h : All2 R (a :: l) m) : ∃ b m', m = b :: m' ∧ R a b ∧ All2 R l m' := by
  cases m with
  | nil => exact h.elim
  | cons b m => exact ⟨b, m, rfl, h.1, h.2⟩
theorem All2.c {α β : Type} {R : α → β → Prop} {a : α} {b : β} {l : List α} {m : List β} (h : R a b) (h' : All2 R l m) : All2 R (a :: l) (b :: m) := ⟨h, h'⟩
theorem All2.n {α β : Type} {R : α → β → Prop} : All2 R ([] : List α) ([] : List β) := trivial
theorem All2.nil {α β : Type} {R : α → β → Prop} {m : List β} (h : All2 R [] m) : m = [] := by
  cases m with
  | nil => rfl
  | cons b m => exact h.elim
theorem argsRel_of {fz : Nat → Option Obj} {w : World} {args : Array Value} {avs : List AV} (h : All2 (fun av x => AVRel fz w 0 x av) avs args.toList) : ArgsRel fz w args avs :=
  ⟨by simpa using h.length, fun i av hi => let ⟨x, hx, hr⟩ := h.get i av hi; ⟨x, by simpa using hx, hr⟩⟩
theorem CallOk.calls {P : Program} {f : FuncId} {fn : Func} {args : Array Value} {w : World} {R : Value → World → Prop} (hf : P.funcs[f]? = some fn) (hname : (fn.name == "runtime.NumGoroutine") = false) (hb : fn.body.isNone = false) (h : CallOk P f args w R) :
    Calls P f args w fun e w'' => ∃ x, e = .returned x ∧ R x w'' := by
  have hcall : (callFunc f args).run P w = .ok (.enter f args) w := by
    unfold callFunc
    simp only [Sem.run_bind, run_program, Result.andThen_ok, hf, hname, hb, Bool.false_eq_true, if_false, Sem.run_pure]
  unfold CallOk at h
  rw [hcall] at h
  exact h.2
end Go.Proofs.YtcihbcffokjgjaaGreat.Ev
namespace Go.Proofs.YtcihbcffokjgjaaGreat.Ev
open Go Go.RowKit
set_option linter.unusedVariables false
set_option linter.unusedSimpArgs false
structure TmTy (P : Program) (t : TypeId) : Prop where
  fs : ∃ f0 f1 f2 f3 f4 : Field, P.underlying t = some (.struct #[f0, f1, f2, f3, f4]) ∧ (f0.offset = 0 ∧ f1.offset = 1 ∧ f2.offset = 2 ∧ f3.offset = 3 ∧ f4.offset = 4) ∧
    (P.cellsOf f0.type = 1 ∧ P.cellsOf f1.type = 1 ∧ P.cellsOf f2.type = 1 ∧ P.cellsOf f3.type = 1 ∧ P.cellsOf f4.type = 1) ∧
    P.underlying f0.type = some (.int .i64) ∧ P.underlying f1.type = some (.int .i64) ∧ P.underlying f2.type = some (.int .u64) ∧ P.underlying f3.type = some .string ∧ P.underlying f4.type = some (.slice t)
  cells : P.cellsOf t = 5
/- The numbers of a term are numbers of their kinds, its strings and slices no longer than a machine's. -/
mutual
def wfT : Tm → Prop
  | .mk op width val name kids => (Lit.int .i64 op).wf = true ∧ (Lit.int .i64 width).wf = true ∧ (Lit.int .u64 val).wf = true ∧ name.size ≤ maxLen ∧ kids.length ≤ maxLen ∧ wfL kids
def wfL : List Tm → Prop
  | [] => True
  | t :: l => wfT t ∧ wfL l
end
theorem wfL_of : ∀ {l : List Tm}, (∀ (i : Nat) (t : Tm), l[i]? = some t → wfT t) → wfL l
  | [], _ => by unfold wfL; trivial
  | t :: l, h => by
    unfold wfL
    exact ⟨h 0 t rfl, wfL_of fun i u hu => h (i + 1) u hu⟩
theorem wfL_get : ∀ {l : List Tm}, wfL l → ∀ (i : Nat) (t : Tm), l[i]? = some t → wfT t
  | [], _, i, t, h => by simp at h
  | u :: l, hl, 0, t, h => by unfold wfL at hl; simp at h; subst h; exact hl.1
  | u :: l, hl, i + 1, t, h => by unfold wfL at hl; exact wfL_get hl.2 i t (by simpa using h)
theorem list_ex {Q : Nat → Tm → Prop} : ∀ (n : Nat), (∀ i, i < n → ∃ t, Q i t) → ∃ l : List Tm, l.length = n ∧ ∀ (i : Nat) (t : Tm), l[i]? = some t → Q i t
  | 0, _ => ⟨[], rfl, fun i t h => by simp at h⟩
  | n + 1, h => by
    obtain ⟨l, hl, hQ⟩ := list_ex n fun i hi => h i (by omega)
    obtain ⟨t, ht⟩ := h n (by omega)
    refine ⟨l ++ [t], by simp [hl], fun i u hu => ?_⟩
    rcases Nat.lt_or_ge i n with c | c
    · rw [List.getElem?_append_left (by omega)] at hu; exact hQ i u hu
    · rw [List.getElem?_append_right (by omega), hl] at hu
      by_cases e : i = n
      · subst e; simp at hu; subst hu; exact ht
      · obtain ⟨d, hd⟩ : ∃ d, i - n = d + 1 := ⟨i - n - 1, by omega⟩
        rw [hd] at hu; simp at hu
abbrev hpF (w : World) : Nat → Option Obj := fun k => w.heap[k]?
theorem hpF_ok (w : World) : FzW (hpF w) w := fun _ _ h => h
theorem fz_of_cell {w : World} {a : Addr} {v : Value} (h : w.cell? a = some v) : fzCell (hpF w) a.block a.off = some v := by
  unfold World.cell? at h
  unfold fzCell hpF
  split at h
  · rename_i c e f hb
    rw [hb]
    split at h
    · cases h
    · exact h
  · cases h
def tmCs (t : Tm) (A : Option Addr) (c : Nat) : List Value := [.int .i64 t.op, .int .i64 t.width, .int .u64 t.val, .string t.name, .slice A t.kids.length c]
theorem KidsAt.of_at {fz : Nat → Option Obj} {A : Option Addr} {ad : Addr} (hA : A = some ad) (hs : ad.spot = none) : ∀ (l : List Tm) (i : Nat), (∀ (j : Nat) (t : Tm), l[j]? = some t → TmAt fz (fun q => fzCell fz ad.block (ad.off + ((i + j) * 5 + q))) t) → KidsAt fz A i l
  | [], i, _ => by unfold KidsAt; trivial
  | t :: l, i, h => by
    unfold KidsAt
    refine ⟨⟨_, hA, hs, ?_⟩, KidsAt.of_at hA hs l (i + 1) fun j u hj => ?_⟩
    · have := h 0 t rfl
      rwa [Nat.add_zero] at this
    · have := h (j + 1) u (by simpa using hj)
      rwa [show i + (j + 1) = i + 1 + j by omega] at this
theorem tmAt_of {fz : Nat → Option Obj} {t : Tm} {A : Option Addr} {c : Nat} {cells : Nat → Option Value} (h : ∀ i v, (tmCs t A c)[i]? = some v → cells i = some v) (hk : KidsAt fz A 0 t.kids) : TmAt fz cells t := by
  cases t with
  | mk op width val name kids =>
    unfold TmAt
    exact ⟨h 0 _ rfl, h 1 _ rfl, h 2 _ rfl, h 3 _ rfl, A, c, h 4 _ rfl, hk⟩
section
variable {H : Type} {enc : TypeId × Value → H} {P : Program} {w : World} {base : Nat} {spare : Nat → Bool} {held : Bool}
theorem five {cs : List Value} (h : cs.length = 5) : ∃ a b c d e, cs = [a, b, c, d, e] := by
  match cs, h with
  | [a, b, c, d, e], _ => exact ⟨a, b, c, d, e, rfl⟩
theorem add_off {a : Addr} (hs : a.spot = none) (n : Nat) : (a.add n).block = a.block ∧ (a.add n).off = a.off + n := by
  rw [addr_add' hs]; exact ⟨rfl, rfl⟩
theorem tms_at {tT tS : TypeId} (hS : P.underlying tS = some (.slice tT)) (hc5 : P.cellsOf tT = 5) {fuel : Nat} {cs : List Value} {y : DataW H × List MemPlace}
    (ih : ∀ m, m < fuel → ∀ {cs : List Value} {y : DataW H × List MemPlace}, DataW.trod enc P w base spare held m tT cs = some y → ∃ t A c, cs = tmCs t A c ∧ KidsAt (hpF w) A 0 t.kids ∧ wfT t)
    (h : DataW.trod enc P w base spare held fuel tS cs = some y) : ∃ (l : List Tm) (A : Option Addr) (c : Nat), cs = [.slice A l.length c] ∧ KidsAt (hpF w) A 0 l ∧ l.length ≤ maxLen ∧ wfL l := by
  rcases DataW.trod_slice hS h with ⟨rfl, _⟩ | ⟨a, len, cap, elems, rest, n, hn, rfl, hy, hb, hl, hc, hel, hget, _⟩
  · exact ⟨[], none, 0, rfl, by unfold KidsAt; trivial, Nat.zero_le _, by unfold wfL; trivial⟩
  · have hex : ∀ i, i < len → ∃ t : Tm, (∃ A c, (∀ j v, (tmCs t A c)[j]? = some v → w.cell? (a.add (i * 5 + j)) = some v) ∧ KidsAt (hpF w) A 0 t.kids) ∧ wfT t := fun i hi => by
      have h1 := hget i hi
      rw [List.getElem?_eq_getElem (by omega)] at h1
      obtain ⟨c5, hcs, hz⟩ := Option.bind_eq_some_iff.1 h1
      obtain ⟨t, A, c, rfl, hk, hwf⟩ := ih n (by omega) hz
      refine ⟨t, ⟨A, c, fun j v hj => ?_, hk⟩, hwf⟩
      have := (cells_get hcs).2 j v hj
      rwa [add_add, hc5] at this
    obtain ⟨l, hll, hQ⟩ := list_ex len hex
    refine ⟨l, some a, cap, by rw [hll], ?_, by omega, wfL_of fun i t ht => (hQ i t ht).2⟩
    cases hl0 : l with
    | nil => unfold KidsAt; trivial
    | cons t0 l0 =>
      have hspot : a.spot = none := by
        obtain ⟨⟨A, c, h1, _⟩, _⟩ := hQ 0 t0 (by rw [hl0]; rfl)
        have h0 := h1 0 _ rfl
        have := (cell_spot h0).1
        rwa [Nat.zero_mul, Nat.zero_add, show a.add 0 = a by unfold Addr.add; simp] at this
      rw [← hl0]
      refine KidsAt.of_at rfl hspot l 0 fun j t ht => ?_
      obtain ⟨⟨A, c, h1, h2⟩, _⟩ := hQ j t ht
      refine tmAt_of (A := A) (c := c) (fun i v hv => ?_) h2
      have := fz_of_cell (h1 i v hv)
      obtain ⟨e1, e2⟩ := add_off hspot (j * 5 + i)
      rw [e1, e2] at this
      rw [Nat.zero_add]; exact this
theorem tm_at {tT : TypeId} (hT : TmTy P tT) : ∀ (fuel : Nat) {cs : List Value} {y : DataW H × List MemPlace}, DataW.trod enc P w base spare held fuel tT cs = some y → ∃ t A c, cs = tmCs t A c ∧ KidsAt (hpF w) A 0 t.kids ∧ wfT t := by
  intro fuel
  induction fuel using Nat.strongRecOn with
  | _ fuel ih =>
    intro cs y h
    obtain ⟨f0, f1, f2, f3, f4, hu, ⟨o0, o1, o2, o3, o4⟩, ⟨c0, c1, c2, c3, c4⟩, u0, u1, u2, u3, u4⟩ := hT.fs
    obtain ⟨xs, n, hn, _, hc, hx, hf⟩ := DataW.trod_struct hu h
    rw [hT.cells] at hc
    have hx5 : xs.length = 5 := hx
    obtain ⟨a, b, c, d, e, rfl⟩ := five hc
    have g0 := hf 0 f0 rfl
    have g1 := hf 1 f1 rfl
    have g2 := hf 2 f2 rfl
    have g3 := hf 3 f3 rfl
    have g4 := hf 4 f4 rfl
    rw [List.getElem?_eq_getElem (by omega), o0, c0] at g0
    rw [List.getElem?_eq_getElem (by omega), o1, c1] at g1
    rw [List.getElem?_eq_getElem (by omega), o2, c2] at g2
    rw [List.getElem?_eq_getElem (by omega), o3, c3] at g3
    rw [List.getElem?_eq_getElem (by omega), o4, c4] at g4
    obtain ⟨n0, e0, _, w0⟩ := DataW.trod_int u0 g0
    obtain ⟨n1, e1, _, w1⟩ := DataW.trod_int u1 g1
    obtain ⟨n2, e2, _, w2⟩ := DataW.trod_int u2 g2
    obtain ⟨s, e3, _, w3⟩ := DataW.trod_string u3 g3
    obtain ⟨l, A, cc, e4, hk, hlen, hwl⟩ := tms_at u4 hT.cells (fun m hm => ih m (by omega)) g4
    simp only [List.drop_zero, List.take_succ_cons, List.take_zero, List.drop_succ_cons, List.cons.injEq, and_true] at e0 e1 e2 e3 e4
    subst e0 e1 e2 e3 e4
    refine ⟨.mk n0 n1 n2 s l, A, cc, rfl, hk, ?_⟩
    unfold wfT
    exact ⟨w0, w1, w2, w3, hlen, hwl⟩
theorem open_tm {tT : TypeId} (hT : TmTy P tT) {v : Value} {dd : DataW H} {ps : List MemPlace} (h : DataW.Trod enc P w base spare held tT v dd ps) : ∃ t A c, v.cells.toList = tmCs t A c ∧ KidsAt (hpF w) A 0 t.kids ∧ wfT t := by
  obtain ⟨fuel, hf⟩ := h
  exact tm_at hT fuel hf
end
theorem tm_args {fz : Nat → Option Obj} {w : World} {t : Tm} {A : Option Addr} {c : Nat} (hk : KidsAt fz A 0 t.kids) : AVRel fz w 0 (.agg (tmCs t A c).toArray) (.pk t.pas) := by
  refine ⟨_, rfl, by simp [tmCs, Tm.pas], fun i p hp => ?_⟩
  match i with
  | 0 => simp [Tm.pas] at hp; subst hp; exact ⟨_, rfl, rfl⟩
  | 1 => simp [Tm.pas] at hp; subst hp; exact ⟨_, rfl, rfl⟩
  | 2 => simp [Tm.pas] at hp; subst hp; exact ⟨_, rfl, rfl⟩
  | 3 => simp [Tm.pas] at hp; subst hp; exact ⟨_, rfl, rfl⟩
  | 4 => simp [Tm.pas] at hp; subst hp; exact ⟨_, rfl, A, c, rfl, hk⟩
  | i + 5 => simp [Tm.pas] at hp
end Go.Proofs.YtcihbcffokjgjaaGreat.Ev
