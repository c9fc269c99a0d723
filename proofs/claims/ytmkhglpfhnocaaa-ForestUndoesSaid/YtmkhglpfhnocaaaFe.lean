import Derived.Test.YtmkhglpfhnocaaaAd
namespace Go.Proofs.Ytmkhglpfhnocaaa.Fn
open Go Go.RowKit Go.MapKept Go.Proofs Forest17
set_option linter.unusedVariables false
set_option maxRecDepth 100000
set_option linter.unusedSimpArgs false
open Go.Shelf
attribute [local go_sem] Oper.semAt_some
theorem Nr.kp {S M : Nat → Prop} {W W' : World} {ls : List Lk} {nm : Int → Option Value} (h : Nr W ls nm M) (hk : Kp S W W') (hS : ∀ g cur, W.heap[g]? = some (.cells cur 3 (0, 0)) → M g → ¬ S g) : Nr W' ls nm M := by
  refine ⟨fun x => ?_, h.inj⟩
  rcases h.row x with q | ⟨v, g, q1, q2, q3, q4⟩
  · exact .inl q
  · refine .inr ⟨v, g, q1, q2, q3, ownsRow_kp q4 hk fun g' hg' => ?_⟩
    rw [q2] at hg'; cases hg'
    obtain ⟨cur, hc⟩ := ownsRow_lt q4 q2
    exact hS g cur hc q3
theorem Rp.found {M : Nat → Prop} {ls : List Lk} {fb nb ub : Nat} {v : Value} {nm : Int → Option Value} {u u' : Int → Option Int} {r : Int → Int} {d : Int → Nat} {W W' : World} (H : Rp M ls fb nb ub v nm u r d W) (hm : MapIs W' ub (U2 u')) (hu : UF u' r d) (hk : Kp (fun k => k = ub) W W') : Rp M ls fb nb ub v nm u' r d W' :=
  ⟨H.for_, H.len, hk.heap H.hfb (map_ne H.hfb H.hum), ownsRow_kp H.row hk fun g hg => by obtain ⟨cur, hc⟩ := ownsRow_lt H.row hg; exact map_ne hc H.hum, H.hnm.kept (hk.block _ H.hnm.lt H.ne), hm, H.near.kp hk fun g cur hc _ => map_ne hc H.hum, hu, H.cn, H.ne, H.mfb, H.mnb, H.mub, H.mv⟩
/-- What lies outside of M may turn. -/
theorem Rep.kp {S M : Nat → Prop} {W W' : World} {ls : List Lk} {fb : Nat} (h : Rep M ls fb W) (hk : Kp S W W') (hS : ∀ k, k < W.heap.size → M k → ¬ S k) : Rep M ls fb W' := by
  obtain ⟨nb, ub, v, nm, u, r, d, H⟩ := h
  have lt : ∀ {k o}, W.heap[k]? = some o → k < W.heap.size := fun h => (Array.getElem?_eq_some_iff.1 h).1
  exact ⟨nb, ub, v, nm, u, r, d, H.for_, H.len, hk.heap H.hfb (hS _ (lt H.hfb) H.mfb), ownsRow_kp H.row hk fun g hg => by obtain ⟨cur, hc⟩ := ownsRow_lt H.row hg; exact hS _ (lt hc) (H.mv g hg), H.hnm.kept (hk.block _ H.hnm.lt (hS _ H.hnm.lt H.mnb)), H.hum.kept (hk.block _ H.hum.lt (hS _ H.hum.lt H.mub)), H.near.kp hk fun g cur hc hm => hS _ (lt hc) hm, H.uf, H.cn, H.ne, H.mfb, H.mnb, H.mub, H.mv⟩
theorem Rep.mono {M M' : Nat → Prop} {W : World} {ls : List Lk} {fb : Nat} (h : Rep M ls fb W) (hM : ∀ k, k < W.heap.size → M k → M' k) : Rep M' ls fb W := by
  obtain ⟨nb, ub, v, nm, u, r, d, H⟩ := h
  have lt : ∀ {k o}, W.heap[k]? = some o → k < W.heap.size := fun h => (Array.getElem?_eq_some_iff.1 h).1
  refine ⟨nb, ub, v, nm, u, r, d, H.for_, H.len, H.hfb, H.row, H.hnm, H.hum, ⟨fun x => ?_, H.near.inj⟩, H.uf, H.cn, H.ne, hM _ (lt H.hfb) H.mfb, hM _ H.hnm.lt H.mnb, hM _ H.hum.lt H.mub, fun g hg => by obtain ⟨cur, hc⟩ := ownsRow_lt H.row hg; exact hM _ (lt hc) (H.mv g hg)⟩
  rcases H.near.row x with q | ⟨v, g, q1, q2, q3, q4⟩
  · exact .inl q
  · obtain ⟨cur, hc⟩ := ownsRow_lt q4 q2
    exact .inr ⟨v, g, q1, q2, hM _ (lt hc) q3, q4⟩
theorem Cn.nil {A : Nat → Prop} {x y : Int} (h : Cn [] A x y) : x = y := by
  cases h with
  | refl => rfl
  | step ha hi _ => obtain ⟨l, h1, _⟩ := hi; simp at h1
noncomputable def cnB (ls : List Lk) (a b : Int) : Bool := (pathS ls a b).isSome
theorem Rp.cnB {M : Nat → Prop} {ls : List Lk} {fb nb ub : Nat} {v : Value} {nm : Int → Option Value} {u : Int → Option Int} {r : Int → Int} {d : Int → Nat} {W : World} (H : Rp M ls fb nb ub v nm u r d W) (a b : Int) : decide (r a = r b) = cnB ls a b := by
  have h1 := H.cn a b
  have h2 := pathS_iff H.for_ (a := a) (b := b)
  unfold Fn.cnB
  cases h : (pathS ls a b).isSome with
  | true => exact decide_eq_true (h1.2 (h2.1 h))
  | false => exact decide_eq_false fun e => by rw [h2.2 (h1.1 e)] at h; cases h
noncomputable def sameB (ls : List Lk) (a b : Int) : Bool := decide (0 ≤ a) && decide (0 ≤ b) && cnB ls a b
noncomputable def linkB (ls : List Lk) (a b : Int) : Bool := decide (0 ≤ a) && decide (0 ≤ b) && !cnB ls a b
set_option maxHeartbeats 400000 in
theorem new_calls (W : World) : Calls Try.prog 17 #[] W fun e W' => ∃ fb, e = .returned (.pointer (some ⟨fb, 0, none⟩)) ∧ W.heap.size ≤ fb ∧ Rep (fun k => W.heap.size ≤ k) [] fb W' ∧ Kp (fun _ => False) W W' := by
  refine calls_of_wp Try.func17 rfl ?_
  simp only [Try.ntmps17, List.size_toArray, List.length_cons, List.length_nil, Nat.reduceAdd, Nat.reduceSub, Array.replicate_succ, Array.replicate_zero, List.push_toArray, List.append_toArray, List.nil_append, List.cons_append]
  have hmm := @run_makeMap Try.prog
  go_wp2_with (fail)
  clear hmm
  refine ⟨rfl, .pointer (some ⟨W.heap.size + 1 + 1, 0, none⟩), by simp [results, Try.results17, go_sem], W.heap.size + 1 + 1, rfl, by omega, ?_, ((Kp.alloc _ _).trans (Kp.alloc _ _)).trans (Kp.alloc _ _)⟩
  have k1 : Kp (fun _ => False) (W.alloc (.map #[] 0)) ((W.alloc (.map #[] 0)).alloc (.map #[] 0)) := Kp.alloc _ _
  have k2 : Kp (fun _ => False) ((W.alloc (.map #[] 0)).alloc (.map #[] 0)) (((W.alloc (.map #[] 0)).alloc (.map #[] 0)).alloc (.cells #[.bool true, .slice none 0 0, .map (some W.heap.size), .map (some (W.heap.size + 1))] 52)) := Kp.alloc _ _
  have m1 := mapIs_new W
  have m2 := mapIs_new (W.alloc (.map #[] 0))
  have e1 : (W.alloc (.map #[] 0)).heap.size = W.heap.size + 1 := by simp
  have e2 : ((W.alloc (.map #[] 0)).alloc (.map #[] 0)).heap.size = W.heap.size + 1 + 1 := by simp
  rw [e1] at m2
  have hc := (heap_alloc ((W.alloc (.map #[] 0)).alloc (.map #[] 0)) (.cells #[.bool true, .slice none 0 0, .map (some W.heap.size), .map (some (W.heap.size + 1))] 52)).1
  rw [e2] at hc
  refine ⟨W.heap.size, W.heap.size + 1, .slice none 0 0, fun _ => none, fun _ => none, id, fun _ => 0, For.nil, by simp, hc, World.ownsRow_nil _ _ _ _, (m1.kept (k1.block _ m1.lt id)).kept (k2.block _ (by rw [e2]; omega) id), m2.kept (k2.block _ (by rw [e2]; omega) id), ⟨fun x => .inl ⟨rfl, rfl⟩, fun x y v v' g h => by cases h⟩, ⟨fun x _ => rfl, fun x y h => by cases h⟩, fun x y => ⟨fun h => by rw [show x = y from h]; exact .refl _, fun h => Fn.Cn.nil h⟩, by omega, by omega, by omega, by omega, fun g hg => by cases hg⟩
set_option maxHeartbeats 400000 in
theorem same_calls {M : Nat → Prop} {ls : List Lk} {fb : Nat} {W : World} (hR : Rep M ls fb W) (a b : Int) : Calls Try.prog 24 #[.pointer (some ⟨fb, 0, none⟩), .int .i64 a, .int .i64 b] W fun e W' => e = .returned (.bool (sameB ls a b)) ∧ Rep M ls fb W' ∧ Kp M W W' := by
  obtain ⟨nb, ub, v, nm, u, r, d, H⟩ := hR
  obtain ⟨c0, f0⟩ := box_cells H.hfb (j := 0) rfl
  have hab := H.cnB a b
  have hf1 := find_calls (x := a) H.hfb H.hum H.uf
  refine calls_of_wp Try.func24 rfl ?_
  simp only [Try.ntmps24, List.size_toArray, List.length_cons, List.length_nil, Nat.reduceAdd, Nat.reduceSub, Array.replicate_succ, Array.replicate_zero, List.push_toArray, List.append_toArray, List.nil_append, List.cons_append]
  by_cases ha : 0 ≤ a
  · by_cases hb : 0 ≤ b
    · go_wp2_with (first
        | ((with_reducible refine hf1.mono ?_); rintro e W2 ⟨rfl, u1, hm1, hu1, hk1⟩; have H1 := H.found hm1 hu1 hk1; have hf2 := find_calls (x := b) H1.hfb H1.hum H1.uf)
        | ((with_reducible refine hf2.mono ?_); rintro e W3 ⟨rfl, u2, hm2, hu2, hk2⟩; have H2 := H1.found hm2 hu2 hk2))
      refine ⟨rfl, .bool (r a == r b), by simp [results, Try.results24, go_sem], ?_, ⟨nb, ub, v, nm, u2, r, d, H2⟩, (hk1.trans hk2).imp fun k _ h => h ▸ H.mub⟩
      unfold sameB
      rw [decide_eq_true ha, decide_eq_true hb, ← hab]
      rfl
    · go_wp2_with (fail)
      refine ⟨rfl, .bool false, by simp [results, Try.results24, go_sem], ?_, ⟨nb, ub, v, nm, u, r, d, H⟩, Kp.refl _ _⟩
      unfold sameB
      rw [decide_eq_false (by omega : ¬ 0 ≤ b), Bool.and_false, Bool.false_and]
  · go_wp2_with (fail)
    refine ⟨rfl, .bool false, by simp [results, Try.results24, go_sem], ?_, ⟨nb, ub, v, nm, u, r, d, H⟩, Kp.refl _ _⟩
    unfold sameB
    rw [decide_eq_false (by omega : ¬ 0 ≤ a), Bool.false_and, Bool.false_and]
theorem linkB_cn {M : Nat → Prop} {ls : List Lk} {fb nb ub : Nat} {v : Value} {nm : Int → Option Value} {u : Int → Option Int} {r : Int → Int} {d : Int → Nat} {W : World} (H : Rp M ls fb nb ub v nm u r d W) {a b : Int} (h : r a ≠ r b) : ¬ Cn ls (fun _ => True) a b := fun e => h ((H.cn a b).2 e)
set_option maxHeartbeats 400000 in
theorem link_calls {M : Nat → Prop} {ls : List Lk} {fb : Nat} {W : World} (hR : Rep M ls fb W) (a b w : Int) (hlen : ls.length < 200) : Calls Try.prog 15 #[.pointer (some ⟨fb, 0, none⟩), .int .i64 a, .int .i64 b, .int .i64 w] W fun e W' => e = .returned (.bool (linkB ls a b)) ∧ Rep (fun k => M k ∨ W.heap.size ≤ k) (if linkB ls a b then ls ++ [(a, b, w)] else ls) fb W' ∧ Kp M W W' := by
  obtain ⟨nb, ub, v, nm, u, r, d, H⟩ := hR
  obtain ⟨c0, f0⟩ := box_cells H.hfb (j := 0) rfl
  have hab := H.cnB a b
  have hf1 := find_calls (x := a) H.hfb H.hum H.uf
  have hbad : Rep (fun k => M k ∨ W.heap.size ≤ k) ls fb W := Rep.mono ⟨nb, ub, v, nm, u, r, d, H⟩ fun k _ h => .inl h
  refine calls_of_wp Try.func15 rfl ?_
  simp only [Try.ntmps15, List.size_toArray, List.length_cons, List.length_nil, Nat.reduceAdd, Nat.reduceSub, Array.replicate_succ, Array.replicate_zero, List.push_toArray, List.append_toArray, List.nil_append, List.cons_append]
  by_cases ha : 0 ≤ a
  · have da : decide (a < 0) = false := decide_eq_false (by omega)
    by_cases hb : 0 ≤ b
    · have db : decide (b < 0) = false := decide_eq_false (by omega)
      by_cases hr : r a = r b
      · have hl : linkB ls a b = false := by unfold linkB; rw [← hab, decide_eq_true hr]; simp
        rw [hl]
        go_wp2_with (first
          | ((with_reducible refine hf1.mono ?_); rintro e W2 ⟨rfl, u1, hm1, hu1, hk1⟩; have H1 := H.found hm1 hu1 hk1; have hf2 := find_calls (x := b) H1.hfb H1.hum H1.uf)
          | ((with_reducible refine hf2.mono ?_); rintro e W3 ⟨rfl, u2, hm2, hu2, hk2⟩; have H2 := H1.found hm2 hu2 hk2))
        refine ⟨rfl, .bool false, by simp [results, Try.results15, go_sem], rfl, ?_, (hk1.trans hk2).imp fun k _ h => h ▸ H.mub⟩
        exact Rep.mono (M := M) ⟨nb, ub, v, nm, u2, r, d, H2⟩ fun k _ h => .inl h
      · have hl : linkB ls a b = true := by unfold linkB; rw [← hab, decide_eq_true ha, decide_eq_true hb, decide_eq_false hr]; rfl
        rw [hl]
        go_wp2_with (first
          | ((with_reducible refine hf1.mono ?_); rintro e W2 ⟨rfl, u1, hm1, hu1, hk1⟩; have H1 := H.found hm1 hu1 hk1; have hf2 := find_calls (x := b) H1.hfb H1.hum H1.uf)
          | ((with_reducible refine hf2.mono ?_); rintro e W3 ⟨rfl, u2, hm2, hu2, hk2⟩; have H2 := H1.found hm2 hu2 hk2; have hadd := add_calls (l := (a, b, w)) ⟨nb, ub, v, nm, u2, r, d, H2⟩ (linkB_cn H2 hr) hlen)
          | ((with_reducible refine hadd.mono ?_); rintro e W4 ⟨rfl, hR4, hk4⟩))
        refine ⟨rfl, .bool true, by simp [results, Try.results15, go_sem], rfl, ?_, (((hk1.trans hk2).imp fun k _ h => h ▸ H.mub).trans hk4)⟩
        exact hR4.mono fun k _ h => h.imp id fun h => Nat.le_trans (Nat.le_trans hk1.size hk2.size) h
    · have db : decide (b < 0) = true := decide_eq_true (by omega)
      have hl : linkB ls a b = false := by unfold linkB; rw [decide_eq_false hb]; simp
      rw [hl]
      go_wp2_with (fail)
      exact ⟨rfl, .bool false, by simp [results, Try.results15, go_sem], rfl, hbad, Kp.refl _ _⟩
  · have da : decide (a < 0) = true := decide_eq_true (by omega)
    have hl : linkB ls a b = false := by unfold linkB; rw [decide_eq_false ha]; simp
    rw [hl]
    go_wp2_with (fail)
    exact ⟨rfl, .bool false, by simp [results, Try.results15, go_sem], rfl, hbad, Kp.refl _ _⟩
end Go.Proofs.Ytmkhglpfhnocaaa.Fn

