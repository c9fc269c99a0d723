/- Maps from int, told by a function. -/
import Derived.MapKept
import Derived.WalkKit
import Derived.WideKeyEntry
namespace Go.Proofs.Ytmkhglpfhnocaaa.Fn
open Go Go.RowKit Go.MapKept Go.Proofs
set_option linter.unusedVariables false
set_option linter.unusedSimpArgs false
structure MapIs (W : World) (b : Nat) (m : Int → Option Value) : Prop where
  ex : ∃ es clock, W.heap[b]? = some (.map es clock) ∧ Stamped es clock ∧ (∀ x ∈ es.toList, IsKey (.int .i64) x.key) ∧ ∀ i v, m i = some v ↔ ∃ e ∈ es.toList, e.key = .int .i64 i ∧ e.val = v
def upd (m : Int → Option Value) (i : Int) (v : Value) : Int → Option Value := fun j => if j = i then some v else m j
theorem MapIs.kept {W W' : World} {b : Nat} {m : Int → Option Value} (h : MapIs W b m) (hb : W'.heap[b]? = W.heap[b]?) : MapIs W' b m := by
  obtain ⟨es, clock, h1, h2⟩ := h.ex
  exact ⟨es, clock, hb.trans h1, h2⟩
theorem MapIs.lt {W : World} {b : Nat} {m : Int → Option Value} (h : MapIs W b m) : b < W.heap.size := by
  obtain ⟨es, clock, h1, _⟩ := h.ex
  exact (Array.getElem?_eq_some_iff.1 h1).1
theorem mapIs_new (W : World) : MapIs (W.alloc (.map #[] 0)) W.heap.size fun _ => none := ⟨#[], 0, (heap_alloc W _).1, stamped_empty 0, by simp, fun i v => by simp⟩
/-- Only block b has turned. -/
structure One (b : Nat) (W W' : World) : Prop where
  os : W'.os = W.os
  tape : W'.tape = W.tape
  output : W'.output = W.output
  drawn : W'.drawn = W.drawn
  size : W'.heap.size = W.heap.size
  block : ∀ k, k ≠ b → W'.heap[k]? = W.heap[k]?
theorem one_set {W : World} {b : Nat} (o : Obj) : One b W { W with heap := W.heap.setIfInBounds b o } := ⟨rfl, rfl, rfl, rfl, by simp, fun k hk => by simp [Ne.symm hk]⟩
section
variable {P : Program} {W : World} {t k e : TypeId} {b : Nat} {m : Int → Option Value}
theorem MapIs.find (h : MapIs W b m) (i : Int) : ∃ es clock, W.heap[b]? = some (.map es clock) ∧ Stamped es clock ∧ (∀ x ∈ es.toList, IsKey (.int .i64) x.key) ∧ (∀ i v, m i = some v ↔ ∃ e ∈ es.toList, e.key = .int .i64 i ∧ e.val = v) ∧
    ((m i = none ∧ Instr.findNow (.int .i64) (.int .i64 i) es.toList 0 = some none ∧ ∀ x ∈ es.toList, x.key ≠ .int .i64 i) ∨ ∃ j e, m i = some e.val ∧ Instr.findNow (.int .i64) (.int .i64 i) es.toList 0 = some (some (j, e.val)) ∧ es.toList[j]? = some e ∧ e.key = .int .i64 i) := by
  obtain ⟨es, clock, h1, h2, h3, h4⟩ := h.ex
  refine ⟨es, clock, h1, h2, h3, h4, ?_⟩
  rcases findNow_spec (d := .int .i64) (k := .int .i64 i) rfl es.toList 0 h3 with ⟨a1, a2⟩ | ⟨j, e, a1, a2, a3⟩
  · refine .inl ⟨?_, a1, a2⟩
    cases hm : m i with
    | none => rfl
    | some v => obtain ⟨e, he, hk, _⟩ := (h4 i v).1 hm; exact absurd hk (a2 e he)
  · exact .inr ⟨j, e, (h4 i e.val).2 ⟨e, List.mem_of_getElem? a2, a3, rfl⟩, by simpa using a1, a2, a3⟩
theorem MapIs.lookup (h : MapIs W b m) (ht : P.underlying t = some (.map k e)) (hk : P.underlying k = some (.int .i64)) {z : Value} (hz : (zeroValue e).run P W = .ok z W) (i : Int) :
    (Instr.lookup t (.map (some b)) (.int .i64 i) false).run P W = .ok ((m i).getD z) W := by
  obtain ⟨es, clock, h1, _, _, _, h5⟩ := h.find i
  rcases h5 with ⟨a0, a1, _⟩ | ⟨j, e, a0, a1, _⟩
  · simp [Instr.lookup, Go.run_underlying ht, Go.MapKept.run_getObj_map h1, Go.MapKept.run_checkKey hk (k := .int .i64 i) rfl, Go.MapKept.run_findKey hk a1, hz, Result.andThen, a0]
  · simp [Instr.lookup, Go.run_underlying ht, Go.MapKept.run_getObj_map h1, Go.MapKept.run_checkKey hk (k := .int .i64 i) rfl, Go.MapKept.run_findKey hk a1, Result.andThen, a0]
theorem MapIs.lookup_ok (h : MapIs W b m) (ht : P.underlying t = some (.map k e)) (hk : P.underlying k = some (.int .i64)) {z : Value} (hz : (zeroValue e).run P W = .ok z W) (i : Int) :
    (Instr.lookup t (.map (some b)) (.int .i64 i) true).run P W = .ok (.tuple #[(m i).getD z, .bool (m i).isSome]) W := by
  obtain ⟨es, clock, h1, _, _, _, h5⟩ := h.find i
  rcases h5 with ⟨a0, a1, _⟩ | ⟨j, e, a0, a1, _⟩
  · simp [Instr.lookup, Go.run_underlying ht, Go.MapKept.run_getObj_map h1, Go.MapKept.run_checkKey hk (k := .int .i64 i) rfl, Go.MapKept.run_findKey hk a1, hz, Result.andThen, a0]
  · simp [Instr.lookup, Go.run_underlying ht, Go.MapKept.run_getObj_map h1, Go.MapKept.run_checkKey hk (k := .int .i64 i) rfl, Go.MapKept.run_findKey hk a1, Result.andThen, a0]
theorem modify_at {es : Array MapEntry} {j : Nat} {e : MapEntry} (f : MapEntry → MapEntry) (hj : es.toList[j]? = some e) : (es.modify j f).toList = es.toList.set j (f e) := by
  rw [Array.toList_modify, Go.ChangeMaps.modify_eq_set _ _ _ _ hj]
theorem mem_set_iff {l : List MapEntry} {j : Nat} {e e' x : MapEntry} (hn : (l.map (·.key)).Nodup) (hj : l[j]? = some e) (hk : e'.key = e.key) : x ∈ l.set j e' ↔ x = e' ∨ (x ∈ l ∧ x.key ≠ e.key) := by
  have hlt : j < l.length := (List.getElem?_eq_some_iff.1 hj).1
  constructor
  · intro h
    obtain ⟨i, hi⟩ := List.getElem?_of_mem h
    rw [List.getElem?_set] at hi
    split at hi
    · simp only [hlt, if_true, Option.some.injEq] at hi; exact .inl hi.symm
    · rename_i hne
      refine .inr ⟨List.mem_of_getElem? hi, fun hk2 => hne ?_⟩
      have a1 : (l.map (·.key))[i]? = some e.key := by rw [List.getElem?_map, hi]; simp [hk2]
      have a2 : (l.map (·.key))[j]? = some e.key := by rw [List.getElem?_map, hj]; rfl
      exact (List.getElem?_inj (by simpa using hlt) hn).1 (a2.trans a1.symm)
  · rintro (rfl | ⟨h, hne⟩)
    · exact List.mem_of_getElem? (i := j) (by rw [List.getElem?_set, if_pos rfl, if_pos hlt])
    · obtain ⟨i, hi⟩ := List.getElem?_of_mem h
      refine List.mem_of_getElem? (i := i) ?_
      rw [List.getElem?_set, if_neg (fun e2 => hne (by subst e2; rw [hj] at hi; cases hi; rfl))]
      exact hi
theorem MapIs.set (h : MapIs W b m) {es : Array MapEntry} {clock j : Nat} {e : MapEntry} {i : Int} (h1 : W.heap[b]? = some (.map es clock)) (h2 : Stamped es clock) (h3 : ∀ x ∈ es.toList, IsKey (.int .i64) x.key) (h4 : ∀ i v, m i = some v ↔ ∃ e ∈ es.toList, e.key = .int .i64 i ∧ e.val = v)
    (hj : es.toList[j]? = some e) (hk : e.key = .int .i64 i) (v : Value) {W2 : World} (hb2 : b < W2.heap.size) : MapIs { W2 with heap := W2.heap.setIfInBounds b (.map (es.modify j fun e => { e with val := v }) clock) } b (upd m i v) := by
  have hs : (es.modify j fun e => { e with val := v }).toList = es.toList.set j { e with val := v } := modify_at _ hj
  have hmem : ∀ x, x ∈ es.toList.set j { e with val := v } ↔ x = { e with val := v } ∨ (x ∈ es.toList ∧ x.key ≠ e.key) := fun x => mem_set_iff h2.2.2 hj rfl
  have q1 := stamped_modify h2 j (fun e => { e with val := v }) (fun _ _ => rfl) (fun _ _ _ => rfl)
  have q2 := isKey_modify (es := es) h3 j (fun e => { e with val := v }) (fun _ _ => rfl)
  refine ⟨_, clock, by simp [hb2], q1, q2, fun i' v' => ?_⟩
  rw [hs]
  unfold upd
  by_cases hi : i' = i
  · subst hi
    rw [if_pos rfl]
    constructor
    · intro hv
      cases hv
      exact ⟨_, (hmem _).2 (.inl rfl), hk, rfl⟩
    · rintro ⟨x, hx, hxk, rfl⟩
      rcases (hmem x).1 hx with rfl | ⟨_, hne⟩
      · rfl
      · exact absurd (hxk.trans hk.symm) hne
  · rw [if_neg hi, h4]
    constructor
    · rintro ⟨x, hx, hxk, hxv⟩
      exact ⟨x, (hmem x).2 (.inr ⟨hx, fun e2 => hi (by rw [hxk, hk] at e2; cases e2; rfl)⟩), hxk, hxv⟩
    · rintro ⟨x, hx, hxk, hxv⟩
      rcases (hmem x).1 hx with rfl | ⟨hx, _⟩
      · have : e.key = .int .i64 i' := hxk
        rw [hk] at this; cases this; exact absurd rfl hi
      · exact ⟨x, hx, hxk, hxv⟩
theorem MapIs.update (h : MapIs W b m) (ht : P.underlying t = some (.map k e)) (hk : P.underlying k = some (.int .i64)) (i : Int) (v : Value) :
    ∃ W', (Instr.mapUpdate t (.map (some b)) (.int .i64 i) v).run P W = .ok () W' ∧ MapIs W' b (upd m i v) ∧ One b W W' := by
  obtain ⟨es, clock, h1, h2, h3, h4, h5⟩ := h.find i
  have hlt := h.lt
  rcases h5 with ⟨a0, a1, a2⟩ | ⟨j, e, a0, a1, a2, a3⟩
  · refine ⟨_, by simp [Instr.mapUpdate, Go.run_underlying ht, Go.MapKept.run_getObj_map h1, Go.MapKept.run_checkKey hk (k := .int .i64 i) rfl, Go.MapKept.run_findKey hk a1, Go.MapKept.run_setObj_map _ h1, Result.andThen]; rfl, ?_, one_set _⟩
    refine ⟨es.push ⟨.int .i64 i, v, clock⟩, clock + 1, by simp [hlt], stamped_push h2 a2, fun x hx => ?_, fun i' v' => ?_⟩
    · simp only [Array.toList_push, List.mem_append, List.mem_singleton] at hx
      rcases hx with hx | rfl
      · exact h3 x hx
      · rfl
    · unfold upd
      simp only [Array.toList_push, List.mem_append, List.mem_singleton]
      by_cases hi : i' = i
      · subst hi
        rw [if_pos rfl]
        constructor
        · intro hv; cases hv; exact ⟨_, .inr rfl, rfl, rfl⟩
        · rintro ⟨x, hx | rfl, hxk, rfl⟩
          · exact absurd hxk (a2 x hx)
          · rfl
      · rw [if_neg hi, h4]
        constructor
        · rintro ⟨x, hx, hxk, hxv⟩; exact ⟨x, .inl hx, hxk, hxv⟩
        · rintro ⟨x, hx | rfl, hxk, hxv⟩
          · exact ⟨x, hx, hxk, hxv⟩
          · have : (Value.int .i64 i) = .int .i64 i' := hxk
            cases this; exact absurd rfl hi
  · have hj : es[j]? = some e := by simpa using a2
    refine ⟨_, by simp [Instr.mapUpdate, Go.run_underlying ht, Go.MapKept.run_getObj_map h1, Go.MapKept.run_checkKey hk (k := .int .i64 i) rfl, Go.MapKept.run_findKey hk a1, hj, a3, Go.MapKept.run_keyThatStays (d := .int .i64) (k := .int .i64 i) rfl, Go.MapKept.run_setObj_map _ h1, Result.andThen]; rfl, ?_, one_set _⟩
    have : (es.modify j fun e => { e with key := .int .i64 i, val := v }) = es.modify j fun e => { e with val := v } := by
      apply Array.ext'
      rw [modify_at _ a2, modify_at _ a2]
      rw [← a3]
    rw [this]
    exact h.set h1 h2 h3 h4 a2 a3 v hlt
/-- An entry that is there, and the store into it. -/
theorem MapIs.entry (h : MapIs W b m) (ht : P.underlying t = some (.map k e)) (hk : P.underlying k = some (.int .i64)) {i : Int} {v0 : Value} (hi : m i = some v0) :
    ∃ st : Nat, (Instr.mapEntry t (.map (some b)) (.int .i64 i)).run P W = .ok (.tuple #[v0, goInt st]) W ∧ ∀ (W2 : World) (v : Value), W2.heap[b]? = W.heap[b]? → ∃ W3, (Instr.entryStore t (.map (some b)) (goInt st) v).run P W2 = .ok () W3 ∧ MapIs W3 b (upd m i v) ∧ One b W2 W3 := by
  obtain ⟨es, clock, h1, h2, h3, h4, h5⟩ := h.find i
  have hlt := h.lt
  rcases h5 with ⟨a0, _⟩ | ⟨j, e, a0, a1, a2, a3⟩
  · rw [a0] at hi; cases hi
  · rw [hi] at a0; cases a0
    have hj : es[j]? = some e := by simpa using a2
    have hsame : es.modify j (fun e => { e with key := .int .i64 i }) = es := by
      apply Array.ext'
      rw [modify_at _ a2]
      have : ({ e with key := .int .i64 i } : MapEntry) = e := by rw [← a3]
      rw [this]
      exact Go.WideElems.set_self _ _ _ a2
    have hW : ({ W with heap := W.heap.setIfInBounds b (.map es clock) } : World) = W := by
      have : W.heap.setIfInBounds b (.map es clock) = W.heap := by
        apply Array.ext_getElem?
        intro q
        rw [Array.getElem?_setIfInBounds]
        split
        · rename_i e2; subst e2; rw [h1]
        · rfl
      rw [this]
    refine ⟨e.born, ?_, fun W2 v hW2 => ?_⟩
    · simp [Instr.mapEntry, Go.run_underlying ht, Go.MapKept.run_getObj_map h1, Go.MapKept.run_checkKey hk (k := .int .i64 i) rfl, Go.MapKept.run_findKey hk a1, hj, a3, Go.MapKept.run_keyThatStays (d := .int .i64) (k := .int .i64 i) rfl, hsame, Go.MapKept.run_setObj_map _ h1, Result.andThen, hW]
    · have hb2 : W2.heap[b]? = some (.map es clock) := hW2.trans h1
      have hidx : es.findIdx? (fun x => ((x.born : Nat) : Int) == ((e.born : Nat) : Int)) = some j := by
        rw [Go.WideElems.findIdx_arr]
        exact Go.WideElems.findIdx_born h2.2.1 a2
      refine ⟨_, by simp [Instr.entryStore, Go.MapKept.run_getObj_map hb2, asInt, asIntOf, goInt, hidx, Go.MapKept.run_setObj_map _ hb2, Result.andThen], h.set h1 h2 h3 h4 a2 a3 v (Array.getElem?_eq_some_iff.1 hb2).1, one_set _⟩
end
end Go.Proofs.Ytmkhglpfhnocaaa.Fn
