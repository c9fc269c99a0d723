import Derived.Test.YtmkhglpfhnocaaaFx
namespace Go.Proofs.Ytmkhglpfhnocaaa.Fn
open Go Go.RowKit Go.MapKept Go.Proofs Forest17
set_option linter.unusedVariables false
set_option maxRecDepth 100000
set_option linter.unusedSimpArgs false
open Go.Shelf
attribute [local go_sem] Oper.semAt_some
theorem Cn.take {ls : List Lk} {j : Nat} {x y : Int} (h : Cn (ls.take j) (fun _ => True) x y) : Cn ls (fun k => k ≠ j) x y := by
  induction h with
  | refl => exact .refl _
  | step ha hi _ ih =>
    have hk := inc_lt hi
    rw [List.length_take] at hk
    have hi' := hi.app (more := ls.drop j)
    rw [List.take_append_drop] at hi'
    exact .step (by omega) hi' ih
theorem For.take {ls : List Lk} (hf : For ls) (j : Nat) : For (ls.take j) := fun k x o hi h => by
  have hi' := hi.app (more := ls.drop j)
  rw [List.take_append_drop] at hi'
  refine hf k x o hi' ?_
  have := h.app (more := ls.drop j)
  rwa [List.take_append_drop] at this
theorem For.next {ls : List Lk} (hf : For ls) {j : Nat} {l : Lk} (hj : ls[j]? = some l) : ¬ Cn (ls.take j) (fun _ => True) l.1 l.2.1 := fun h => hf j l.1 l.2.1 ⟨l, hj, .inl ⟨rfl, rfl⟩⟩ (Cn.take h)
def undoB (ls : List Lk) (n : Int) : Bool := decide (0 ≤ n) && decide (n ≤ (ls.length : Int))
theorem row_take {W : World} {A : Option Addr} {c m : Nat} {ls : List Lk} (h : Rw W (.slice A ls.length c) ls) (hm : m ≤ ls.length) : Rw W (.slice A m c) (ls.take m) := by
  have hl : (ls.take m).length = m := by simp; omega
  refine ⟨by rw [lksV_len], ?_⟩
  rcases h.2 with ⟨hv, h0⟩ | ⟨g, cap, cur, hv, h1, h2, h3, h4, h5, h6⟩
  · left
    have : m = 0 := by omega
    subst this
    simp only [Value.slice.injEq] at hv
    rw [hv.1, hv.2.2]
    exact ⟨rfl, rfl⟩
  · simp only [Value.slice.injEq] at hv
    obtain ⟨rfl, _, rfl⟩ := hv
    refine .inr ⟨g, c, cur, by rw [hl], h1, h2, by omega, h4, h5, ?_⟩
    have h7 : (cur.toList.take (ls.length * 3)).take (m * 3) = (lksV ls).take (m * 3) := by rw [h6]
    rw [List.take_take, Nat.min_eq_left (by omega)] at h7
    rw [hl, h7]
    have e : lksV ls = lksV (ls.take m) ++ lksV (ls.drop m) := by rw [← lksV_app, List.take_append_drop]
    rw [e]
    have e2 : m * 3 = (lksV (ls.take m)).length := by rw [lksV_len, hl]
    rw [e2]
    exact List.take_left
theorem rep_fresh {W : World} {fb : Nat} {x0 x1 x2 : Value} (hfb : W.heap[fb]? = some (.cells #[.bool true, x0, x1, x2] 52 (0, 0))) {Wz : World}
    (hWz : Wz = ((((W.alloc (.map #[] 0)).alloc (.map #[] 0)).setCell ⟨fb, 1, none⟩ (.slice none 0 0)).setCell ⟨fb, 2, none⟩ (.map (some W.heap.size))).setCell ⟨fb, 3, none⟩ (.map (some (W.heap.size + 1)))) : Rep (fun k => k = fb ∨ W.heap.size ≤ k) [] fb Wz ∧ Kp (fun k => k = fb) W Wz := by
  have k1 : Kp (fun k => k = fb) W (W.alloc (.map #[] 0)) := Kp.alloc _ _
  have k2 : Kp (fun k => k = fb) (W.alloc (.map #[] 0)) ((W.alloc (.map #[] 0)).alloc (.map #[] 0)) := Kp.alloc _ _
  have k3 : Kp (fun k => k = fb) ((W.alloc (.map #[] 0)).alloc (.map #[] 0)) Wz := by
    rw [hWz]
    exact (((Kp.refl (fun k => k = fb) _).setCell (p := ⟨fb, 1, none⟩) rfl _).setCell (p := ⟨fb, 2, none⟩) rfl _).setCell (p := ⟨fb, 3, none⟩) rfl _
  have hlt := (Array.getElem?_eq_some_iff.1 hfb).1
  have m1 := mapIs_new W
  have m2 := mapIs_new (W.alloc (.map #[] 0))
  have e1 : (W.alloc (.map #[] 0)).heap.size = W.heap.size + 1 := by simp
  have e2 : ((W.alloc (.map #[] 0)).alloc (.map #[] 0)).heap.size = W.heap.size + 1 + 1 := by simp
  rw [e1] at m2
  have h2 : ((W.alloc (.map #[] 0)).alloc (.map #[] 0)).heap[fb]? = some (.cells #[.bool true, x0, x1, x2] 52 (0, 0)) := by
    rw [Below.heap_alloc _ _ _ (by omega), Below.heap_alloc _ _ _ hlt]; exact hfb
  have hc : Wz.heap[fb]? = some (.cells #[.bool true, .slice none 0 0, .map (some W.heap.size), .map (some (W.heap.size + 1))] 52 (0, 0)) := by
    rw [hWz]
    simp [World.setCell, Array.getElem?_modify, h2]
  refine ⟨⟨W.heap.size, W.heap.size + 1, .slice none 0 0, fun _ => none, fun _ => none, id, fun _ => 0, For.nil, by simp, hc, World.ownsRow_nil _ _ _ _, (m1.kept (k2.block _ m1.lt (by omega))).kept (k3.block _ (by rw [e2]; omega) (by omega)), m2.kept (k3.block _ (by rw [e2]; omega) (by omega)), ⟨fun x => .inl ⟨rfl, rfl⟩, fun x y v v' g h => by cases h⟩, ⟨fun x _ => rfl, fun x y h => by cases h⟩, fun x y => ⟨fun h => by rw [show x = y from h]; exact .refl _, fun h => Fn.Cn.nil h⟩, by omega, .inl rfl, .inr (by omega), .inr (by omega), fun g hg => by cases hg⟩, (k1.trans k2).trans k3⟩
set_option maxHeartbeats 1000000 in
theorem undo_calls {M : Nat → Prop} {ls : List Lk} {fb : Nat} {W : World} (hR : Rep M ls fb W) (n : Int) : Calls Try.prog 19 #[.pointer (some ⟨fb, 0, none⟩), .int .i64 n] W fun e W' => e = .returned (.bool (undoB ls n)) ∧ Rep (fun k => M k ∨ W.heap.size ≤ k) (if undoB ls n then ls.take n.toNat else ls) fb W' ∧ Kp M W W' := by
  obtain ⟨nb, ub, A, c, hfb, hrow, mfb, hlen, hfor, hmv⟩ := hR.row
  obtain ⟨c0, f0⟩ := box_cells hfb (j := 0) rfl
  obtain ⟨c1, f1⟩ := box_cells hfb (j := 1) rfl
  obtain ⟨c2, f2⟩ := box_cells hfb (j := 2) rfl
  obtain ⟨c3, f3⟩ := box_cells hfb (j := 3) rfl
  have hbad : Rep (fun k => M k ∨ W.heap.size ≤ k) ls fb W := hR.mono fun k _ h => .inl h
  have hmm := @run_makeMap Try.prog
  have k2 : Kp (fun _ => False) W ((W.alloc (.map #[] 0)).alloc (.map #[] 0)) := (Kp.alloc _ _).trans (Kp.alloc _ _)
  have hfb2 := k2.heap hfb id
  obtain ⟨d1, e1⟩ := box_cells hfb2 (j := 1) rfl
  obtain ⟨d2, e2⟩ := box_cells hfb2 (j := 2) rfl
  obtain ⟨d3, e3⟩ := box_cells hfb2 (j := 3) rfl
  refine calls_of_wp Try.func19 rfl ?_
  simp only [Try.ntmps19, List.size_toArray, List.length_cons, List.length_nil, Nat.reduceAdd, Nat.reduceSub, Array.replicate_succ, Array.replicate_zero, List.push_toArray, List.append_toArray, List.nil_append, List.cons_append]
  by_cases hn0 : 0 ≤ n
  · have dn : decide (n < 0) = false := decide_eq_false (by omega)
    obtain ⟨m, rfl⟩ : ∃ m : Nat, n = (m : Int) := ⟨n.toNat, by omega⟩
    by_cases hnl : m ≤ ls.length
    · have hu : undoB ls (m : Int) = true := by unfold undoB; simp; omega
      have dl : decide (ls.length < m) = false := decide_eq_false (by omega)
      have hcap := row_cap hrow
      have hmc : m ≤ c := by omega
      rw [hu]
      go_wp2_with (fail)
      obtain ⟨Wz, hWz⟩ : ∃ Wz, Wz = ((((W.alloc (.map #[] 0)).alloc (.map #[] 0)).setCell ⟨fb, 1, none⟩ (.slice none 0 0)).setCell ⟨fb, 2, none⟩ (.map (some W.heap.size))).setCell ⟨fb, 3, none⟩ (.map (some (W.heap.size + 1))) := ⟨_, rfl⟩
      rw [← hWz]
      obtain ⟨hRz, hKz⟩ := rep_fresh hfb hWz
      clear hWz hmm d1 d2 d3 e1 e2 e3 c0 c1 c2 c3 f0 f1 f2 f3
      have hrt := row_take hrow hnl
      have hlm : (ls.take m).length = m := by simp; omega
      have hgf : ∀ g, (Value.slice A m c).ownBlock = some g → g ≠ fb := fun g hg => by obtain ⟨cur, hc⟩ := ownsRow_lt hrt hg; exact heap_ne hc hfb (by simp)
      go_loopw [49] (fun v49 wr => ∃ j : Nat, v49 = .int .i64 (j : Int) ∧ j ≤ m ∧ Rep (fun k => k = fb ∨ W.heap.size ≤ k) (ls.take j) fb wr ∧ Kp (fun k => k = fb) W wr) (fun v49 wr => m - (intOf v49).toNat)
      case atStart => exact ⟨0, rfl, Nat.zero_le _, hRz, hKz⟩
      case round =>
        obtain ⟨j, rfl, hj, hRj, hKj⟩ := hrel
        by_cases hjm : j < m
        · obtain ⟨l, hlj⟩ : ∃ l, ls[j]? = some l := ⟨_, List.getElem?_eq_getElem (by omega)⟩
          have hrw := ownsRow_kp hrt hKj hgf
          rw [hlm] at hrw
          obtain ⟨g, rfl, l0, l1, l2⟩ := link_cells (k := j) (l := l) hrw (by rw [List.getElem?_take, if_pos hjm]; exact hlj)
          have hkb : Kp (fun _ => False) wr (wr.alloc (.cells #[.int .i64 l.1, .int .i64 l.2.1, .int .i64 l.2.2] 30)) := Kp.alloc _ _
          have hadd := add_calls (l := l) (hRj.kp hkb fun _ _ _ => id) (Fn.For.next hfor hlj) (by simp; omega)
          have htk : ls.take (j + 1) = ls.take j ++ [l] := by rw [List.take_add_one, hlj]; rfl
          go_wp2_with (first
            | ((with_reducible refine hadd.mono ?_); rintro e W3 ⟨rfl, hR3, hk3⟩)
            | fail)
          have hR4 : Rep (fun k => k = fb ∨ W.heap.size ≤ k) (ls.take (j + 1)) fb W3 := by
            rw [htk]
            refine hR3.mono fun k _ h => ?_
            rcases h with h | h
            · exact h
            · have := hKj.size
              exact .inr (by have h' : (wr.alloc (.cells #[.int .i64 l.1, .int .i64 l.2.1, .int .i64 l.2.2] 30)).heap.size = wr.heap.size + 1 := by simp
                             omega)
          have hK4 : Kp (fun k => k = fb) W W3 := by
            have h' : (wr.alloc (.cells #[.int .i64 l.1, .int .i64 l.2.1, .int .i64 l.2.2] 30)).heap.size = wr.heap.size + 1 := by simp
            have hs := hKj.size
            exact ⟨hk3.os.trans hKj.os, hk3.tape.trans hKj.tape, hk3.output.trans hKj.output, by have := hk3.size; omega, fun k hl hn => by rw [hk3.block k (by omega) (by omega), hkb.block k (by omega) id]; exact hKj.block k hl hn⟩
          go_roundw
          case rel => exact ⟨j + 1, by go_num, hjm, hR4, hK4⟩
          case measure => simp only [intOf]; omega
        · have hje : j = m := by omega
          subst hje
          go_wp2_with (fail)
          refine ⟨rfl, .bool true, by simp [results, Try.results19, go_sem], rfl, ?_, hKj.imp fun k _ (h : k = fb) => h ▸ mfb⟩
          exact hRj.mono fun k _ h => h.imp (fun (h : k = fb) => h ▸ mfb) id
    · have hu : undoB ls (m : Int) = false := by unfold undoB; simp; omega
      have dl : decide ((m : Int) > (ls.length : Int)) = true := decide_eq_true (by omega)
      rw [hu]
      go_wp2_with (fail)
      exact ⟨rfl, .bool false, by simp [results, Try.results19, go_sem], rfl, hbad, Kp.refl _ _⟩
  · have dn : decide (n < 0) = true := decide_eq_true (by omega)
    have hu : undoB ls n = false := by unfold undoB; rw [decide_eq_false hn0]; rfl
    rw [hu]
    go_wp2_with (fail)
    exact ⟨rfl, .bool false, by simp [results, Try.results19, go_sem], rfl, hbad, Kp.refl _ _⟩
end Go.Proofs.Ytmkhglpfhnocaaa.Fn
