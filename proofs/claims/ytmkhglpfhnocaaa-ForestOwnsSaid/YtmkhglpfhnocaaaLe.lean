import Derived.Test.YtmkhglpfhnocaaaLa
namespace Go.Proofs.Ytmkhglpfhnocaaa.Fn
open Go Go.RowKit Go.MapKept Go.Proofs Forest17
set_option linter.unusedVariables false
set_option maxRecDepth 100000
set_option linter.unusedSimpArgs false
open Go.Shelf
attribute [local go_sem] Oper.semAt_some
/-- A row whose contents do not matter. -/
def AnyAt (W : World) (A : Option Addr) (n : Nat) : Prop := 0 < n → ∃ g cur, A = some ⟨g, 0, none⟩ ∧ W.heap[g]? = some (.cells cur 30 (0, 0)) ∧ n * 3 ≤ cur.size
theorem any_of {W : World} {A : Option Addr} {n c : Nat} {xs : List Value} (h : W.ownsRow 0 30 3 (.slice A n c) n xs) : AnyAt W A n := fun hn => by
  rcases h.2 with ⟨_, h0⟩ | ⟨g, cap, cur, hv, _, hg, h3, _, h5, _⟩
  · omega
  · simp only [Value.slice.injEq] at hv
    exact ⟨g, cur, hv.1, hg, by rw [h5]; exact Nat.mul_le_mul_right 3 (by omega)⟩
theorem cell_any {W : World} {g i : Nat} {cur : Array Value} {e : TypeId} (h : W.heap[g]? = some (.cells cur e (0, 0))) (hi : i < cur.size) : ∃ v, W.cell? ⟨g, i, none⟩ = some v ∧ W.frozen? ⟨g, i, none⟩ = false := by
  refine ⟨cur[i], ?_, ?_⟩
  · simp [World.cell?, h, hi]
  · simp [World.frozen?, h]
theorem set_any {W : World} {g i : Nat} {cur : Array Value} {e : TypeId} (h : W.heap[g]? = some (.cells cur e (0, 0))) (v : Value) : ∃ cur', (W.setCell ⟨g, i, none⟩ v).heap[g]? = some (.cells cur' e (0, 0)) ∧ cur'.size = cur.size :=
  ⟨cur.set! i v, by simp [World.setCell, Array.getElem?_modify, h], by simp⟩
theorem any_set3 {W : World} {g n i j k : Nat} {x y z : Value} (h : AnyAt W (some ⟨g, 0, none⟩) n) (hn : 0 < n) : AnyAt (((W.setCell ⟨g, i, none⟩ x).setCell ⟨g, j, none⟩ y).setCell ⟨g, k, none⟩ z) (some ⟨g, 0, none⟩) n := fun _ => by
  obtain ⟨g', cur, e, h1, h2⟩ := h hn
  cases e
  obtain ⟨c1, q1, s1⟩ := set_any (i := i) h1 x
  obtain ⟨c2, q2, s2⟩ := set_any (i := j) q1 y
  obtain ⟨c3, q3, s3⟩ := set_any (i := k) q2 z
  exact ⟨_, c3, rfl, q3, by omega⟩
theorem kp_set3 {S : Nat → Prop} {W : World} {g i j k : Nat} {x y z : Value} (hS : S g) : Kp S W (((W.setCell ⟨g, i, none⟩ x).setCell ⟨g, j, none⟩ y).setCell ⟨g, k, none⟩ z) :=
  (((Kp.refl S W).setCell (p := ⟨g, i, none⟩) hS _).setCell (p := ⟨g, j, none⟩) hS _).setCell (p := ⟨g, k, none⟩) hS _
/-- A new row, told by its first block. -/
theorem append_new {W W' : World} {v' : Value} (hk : Kp (fun q => (Value.slice none 0 0).ownBlock = some q) W W') (hg : v'.ownBlock = (Value.slice none 0 0).ownBlock ∨ v'.ownBlock = some W.heap.size) : Kp (fun _ => False) W W' ∧ ∀ g, v'.ownBlock = some g → W.heap.size ≤ g := by
  refine ⟨hk.imp (fun q _ h => by cases h), fun g h => ?_⟩
  rcases hg with e | e
  · rw [e] at h; cases h
  · rw [e] at h; have := Option.some.inj h; omega
set_option maxHeartbeats 2000000 in
theorem owns_calls {W : World} {A : Option Addr} {n0 c : Nat} {act : Nat → Act4} (hA : ActsAt W A n0 act) (a b : Int) : Calls Try.prog 9 #[.slice A n0 c, .int .i64 a, .int .i64 b] W fun e W' => e = .returned (.bool true) ∧ Kp (fun _ => False) W W' := by
  have hlive := live_calls W
  refine calls_of_wp Try.func9 rfl ?_
  simp only [Try.ntmps9, List.size_toArray, List.length_cons, List.length_nil, Nat.reduceAdd, Nat.reduceSub, Array.replicate_succ, Array.replicate_zero, List.push_toArray, List.append_toArray, List.nil_append, List.cons_append]
  by_cases hn : 60 < n0
  · go_wp2_with (first
      | ((with_reducible refine hlive.mono ?_); rintro e W1 ⟨rfl, hk1⟩)
      | fail)
    exact ⟨rfl, .bool true, by simp [results, Try.results9, go_sem], rfl, hk1⟩
  · clear hlive
    have hn2 : n0 ≤ 60 := by omega
    have hplay := play_calls (c := c) hA hn2
    have hlen := playL_len act n0
    obtain ⟨ls, hls⟩ : ∃ ls, playL act n0 = ls := ⟨_, rfl⟩
    rw [hls] at hplay hlen
    go_wp2_with (first
      | ((with_reducible refine hplay.mono ?_); rintro e W1 ⟨fb, rfl, hR0, hk1⟩; have hR1 := rep_laid hR0; have hf := rep_for hR1; have hlk := links_calls hR1)
      | ((with_reducible refine hlk.mono ?_); rintro e W2 ⟨v1, rfl, h2, hk2'⟩; have hk2 := hk1.trans hk2'; have hR2 := hR1.kp hk2' fun _ _ _ => id; obtain ⟨A1, c1, rfl⟩ := slice_of h2.row)
      | (at_builtin; refine wpList_appendAny rfl (.const (.slice none 0 0)) (.tmp 26) rfl _ _ [] ls rfl rfl (Rw.nil _) h2.row (by simp; omega) ?_; intro v3 W3 hr3 hk3' hg3; obtain ⟨hk3'', hnew3⟩ := append_new hk3' hg3; have hk3 := hk2.trans hk3''; have hR3 := hR2.kp hk3'' fun _ _ _ => id; have hlk3 := links_calls hR3; obtain ⟨A3, c3, rfl⟩ := slice_of hr3)
      | ((with_reducible refine hlk3.mono ?_); rintro e W4 ⟨v4, rfl, h4, hk4'⟩; have hk4 := hk3.trans hk4'; have hR4 := hR3.kp hk4' fun _ _ _ => id; obtain ⟨A4, c4, rfl⟩ := slice_of h4.row)
      | fail)
    simp only [List.nil_append] at hr3 hnew3
    have hr4 := ownsRow_kp hr3 hk4' fun _ _ => id
    have hlt3 : ∀ g, (Value.slice A3 ls.length c3).ownBlock = some g → g < W3.heap.size := fun g hg => by obtain ⟨cur, hc⟩ := ownsRow_lt hr3 hg; exact (Array.getElem?_eq_some_iff.1 hc).1
    have hq2 : W1.heap.size ≤ W2.heap.size := hk2'.size
    have hq3 : W2.heap.size ≤ W3.heap.size := hk3''.size
    obtain ⟨n, hLn⟩ : ∃ n, ls.length = n := ⟨_, rfl⟩
    have hany4 := any_of h4.row
    rw [hLn] at hany4
    rw [hLn] at hr3 hr4 hlt3 hlen ⊢
    have h4n := h4.new
    rw [hLn] at h4n
    clear hr3 h2 h4
    go_loopw [10] (fun v10 wr => ∃ j : Nat, v10 = .int .i64 (j : Int) ∧ j ≤ n ∧ AnyAt wr A4 n ∧ Kp (fun k => (Value.slice A4 n c4).ownBlock = some k) W4 wr) (fun v10 wr => n - (intOf v10).toNat)
    case atStart => exact ⟨0, rfl, Nat.zero_le _, hany4, Kp.refl _ _⟩
    case round =>
      obtain ⟨j, rfl, hj, hany, hkj⟩ := hrel
      by_cases hjn : j < n
      · obtain ⟨g4, cur, rfl, hg4, hsz⟩ := hany (by omega)
        obtain ⟨u0, p0, f0⟩ := cell_any (i := j * 3) hg4 (by omega)
        obtain ⟨u1, p1, f1⟩ := cell_any (i := j * 3 + 1) hg4 (by omega)
        obtain ⟨u2, p2, f2⟩ := cell_any (i := j * 3 + 2) hg4 (by omega)
        have hjn2 : (j : Int) < (n : Int) := by omega
        go_wp2_with (fail)
        exact ⟨⟨j + 1, by simp, hjn, any_set3 hany (by omega), hkj.trans (kp_set3 rfl)⟩, by simp only [intOf]; omega⟩
      · have hje : j = n := by omega
        subst hje
        have hx4 : ∀ g, (Value.slice A4 j c4).ownBlock = some g → W3.heap.size ≤ g := h4n
        have hkw : Kp (fun _ => False) W wr := from_kp hk4 (hkj.imp fun k _ h => by have := hx4 k h; have := hk3.size; exact (by omega : W.heap.size ≤ k))
        have hRw : Rep (Laid W W1) ls fb wr := hR4.kp hkj fun k _ hm e => by have := hx4 k e; have := hm.2; omega
        have hr3w := ownsRow_kp hr4 hkj fun g hg e => by have := hx4 g e; have := hlt3 g hg; omega
        have hql := pathQ_len hf a b
        obtain ⟨P, hP⟩ : ∃ P, (pathQ ls a b).getD [] = P := ⟨_, rfl⟩
        have hp := path_calls hRw a b
        rw [hP] at hp hql
        have hnew3' : ∀ g, (Value.slice A3 j c3).ownBlock = some g → W2.heap.size ≤ g := by rw [← hLn]; exact hnew3
        have hP0 : ([] : List Lk).length + P.length ≤ 1000 := by simp; omega
        go_wp2_with (first
          | ((with_reducible refine hp.mono ?_); rintro e W5 ⟨v5, rfl, h5, hR5, hk5'⟩; have hk5 := laid_kp hkw hk5'; have hr35 := ownsRow_kp hr3w hk5' (fun g hg e => by have := hnew3' g hg; have := e.2; omega); obtain ⟨A5, c5, rfl⟩ := slice_of h5.row)
          | (at_builtin; refine wpList_appendAny rfl (.const (.slice none 0 0)) (.tmp 48) rfl _ _ [] P rfl rfl (Rw.nil _) h5.row hP0 ?_; intro v6 W6 hr6 hk6' hg6; obtain ⟨hk6'', hnew6⟩ := append_new hk6' hg6; obtain ⟨A6, c6, rfl⟩ := slice_of hr6)
          | fail)
        simp only [List.nil_append] at hr6 hnew6
        have hk6 := hk5.trans hk6''
        have hR6 := hR5.kp hk6'' fun _ _ _ => id
        have hr36 := ownsRow_kp hr35 hk6'' fun _ _ => id
        have hany6 := any_of (ownsRow_kp h5.row hk6'' fun _ _ => id)
        have hlt5 : ∀ g, (Value.slice A5 P.length c5).ownBlock = some g → g < W5.heap.size := fun g hg => by obtain ⟨cur, hc⟩ := ownsRow_lt h5.row hg; exact (Array.getElem?_eq_some_iff.1 hc).1
        have h5n := h5.new
        have hltr3 : ∀ g, (Value.slice A3 j c3).ownBlock = some g → g < wr.heap.size := fun g hg => by obtain ⟨cur, hc⟩ := ownsRow_lt hr3w hg; exact (Array.getElem?_eq_some_iff.1 hc).1
        have hsw : W1.heap.size ≤ wr.heap.size := by have := hkj.size; have := hk4'.size; omega
        obtain ⟨m, hPm⟩ : ∃ m, P.length = m := ⟨_, rfl⟩
        rw [hPm] at hr6 hnew6 hany6 hlt5 h5n hql ⊢
        clear h5 hk6'
        go_loopw [14] (fun v14 wr => ∃ i : Nat, v14 = .int .i64 (i : Int) ∧ i ≤ m ∧ AnyAt wr A5 m ∧ Kp (fun k => (Value.slice A5 m c5).ownBlock = some k) W6 wr) (fun v14 wr => m - (intOf v14).toNat)
        case atStart => exact ⟨0, rfl, Nat.zero_le _, hany6, Kp.refl _ _⟩
        case round =>
          obtain ⟨i, rfl, hi, hany, hki⟩ := hrel
          by_cases him : i < m
          · obtain ⟨g5, cur, rfl, hg5, hsz⟩ := hany (by omega)
            obtain ⟨u0, p0, f0⟩ := cell_any (i := i * 3) hg5 (by omega)
            obtain ⟨u1, p1, f1⟩ := cell_any (i := i * 3 + 1) hg5 (by omega)
            obtain ⟨u2, p2, f2⟩ := cell_any (i := i * 3 + 2) hg5 (by omega)
            have him2 : (i : Int) < (m : Int) := by omega
            go_wp2_with (fail)
            exact ⟨⟨i + 1, by simp, him, any_set3 hany (by omega), hki.trans (kp_set3 rfl)⟩, by simp only [intOf]; omega⟩
          · have hie : i = m := by omega
            subst hie
            have hkv : Kp (fun _ => False) W wr := from_kp hk6 (hki.imp fun k _ h => by have := h5n k h; have := hkw.size; exact (by omega : W.heap.size ≤ k))
            have hRv : Rep (Laid W W1) ls fb wr := hR6.kp hki fun k _ hm e => by have := h5n k e; have := hm.2; omega
            have hr3v := ownsRow_kp hr36 hki fun g hg e => by have := h5n g e; have := hltr3 g hg; omega
            have hr6v := ownsRow_kp hr6 hki fun g hg e => by have := hnew6 g hg; have := hlt5 g e; omega
            have hq := path_calls hRv a b
            rw [hP] at hq
            go_wp2_with (first
              | ((with_reducible refine hq.mono ?_); rintro e W7 ⟨v7, rfl, h7, hR7, hk7'⟩; have hk7 := laid_kp hkv hk7'; have hr37 := ownsRow_kp hr3v hk7' (fun g hg e => by have := hnew3' g hg; have := e.2; omega); have hr67 := ownsRow_kp hr6v hk7' (fun g hg e => by have := hnew6 g hg; have := e.2; have := hk5'.size; omega); have hlk7 := links_calls hR7; obtain ⟨A7, c7, rfl⟩ := slice_of h7.row)
              | ((with_reducible refine hlk7.mono ?_); rintro e W8 ⟨v8, rfl, h8, hk8'⟩; have hk8 := hk7.trans hk8'; have e1 := equal_calls (l2 := ls) h8.row (by rw [Rw, hLn]; exact ownsRow_kp hr37 hk8' fun _ _ => id) (by omega); simp only [decide_true] at e1; obtain ⟨A8, c8, rfl⟩ := slice_of h8.row; simp only [hLn] at e1)
              | ((with_reducible refine e1.mono ?_); rintro e W9 ⟨rfl, hk9⟩; have e2 := equal_calls (l2 := P) (ownsRow_kp (ownsRow_kp h7.row hk8' fun _ _ => id) hk9 fun _ _ => id) (ownsRow_kp (ownsRow_kp hr67 hk8' fun _ _ => id) hk9 fun _ _ => id) (by omega); simp only [decide_true, hPm] at e2)
              | ((with_reducible refine e2.mono ?_); rintro e W10 ⟨rfl, hk10⟩; have hlive := live_calls W10)
              | ((with_reducible refine hlive.mono ?_); rintro e W11 ⟨rfl, hk11⟩)
              | fail)
            exact ⟨rfl, .bool true, by simp [results, Try.results9, go_sem], rfl, ((hk8.trans hk9).trans hk10).trans hk11⟩
end Go.Proofs.Ytmkhglpfhnocaaa.Fn
