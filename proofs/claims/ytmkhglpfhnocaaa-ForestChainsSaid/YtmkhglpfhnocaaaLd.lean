import Derived.Test.YtmkhglpfhnocaaaLa
namespace Go.Proofs.Ytmkhglpfhnocaaa.Fn
open Go Go.RowKit Go.MapKept Go.Proofs Forest17
set_option linter.unusedVariables false
set_option maxRecDepth 100000
set_option linter.unusedSimpArgs false
open Go.Shelf
attribute [local go_sem] Oper.semAt_some
/-- Where a path stands. -/
def posn (a : Int) (p : List Lk) : Nat → Int
  | 0 => a
  | i + 1 => match p[i]? with | some x => x.2.1 | none => a
theorem away_other (l : Lk) (a : Int) : (away l a).2.1 = other l a := by unfold away other; split <;> rfl
theorem away_from {l : Lk} {a : Int} (h : At l a) : (away l a).1 = a := by
  unfold away
  split
  · assumption
  · rename_i hn; exact h.resolve_left hn
theorem posn_cons {l : Lk} {a : Int} {p : List Lk} {i : Nat} (hi : i ≤ p.length) : posn a (away l a :: p) (i + 1) = posn (other l a) p i := by
  cases i with
  | zero => simp [posn, away_other]
  | succ i =>
    have : p[i]? = some p[i] := List.getElem?_eq_getElem (by omega)
    simp [posn, this]
theorem Wk.cut {ls : List Lk} {a b : Int} {ks : List Nat} {p : List Lk} (h : Wk ls a b ks p) : ks.length = p.length ∧ ∀ i, i ≤ p.length → Wk ls a (posn a p i) (ks.take i) (p.take i) ∧ Wk ls (posn a p i) b (ks.drop i) (p.drop i) := by
  induction h with
  | nil a => exact ⟨rfl, fun i hi => by obtain rfl : i = 0 := by simpa using hi
                                        exact ⟨.nil a, .nil a⟩⟩
  | @cons k l a b ks p hl ha t ih =>
    refine ⟨by simp [ih.1], fun i hi => ?_⟩
    cases i with
    | zero => exact ⟨.nil a, .cons hl ha t⟩
    | succ i =>
      have hi' : i ≤ p.length := by simpa using hi
      rw [posn_cons hi']
      obtain ⟨h1, h2⟩ := ih.2 i hi'
      exact ⟨.cons hl ha h1, h2⟩
theorem Wk.at_ {ls : List Lk} {a b : Int} {ks : List Nat} {p : List Lk} (h : Wk ls a b ks p) {i : Nat} {x : Lk} (hx : p[i]? = some x) : x.1 = posn a p i ∧ hasL ls x = true := by
  have hi := (List.getElem?_eq_some_iff.1 hx).1
  have hc := (Wk.cut h).2 i (Nat.le_of_lt hi)
  have hd : p.drop i = x :: p.drop (i + 1) := by
    rw [List.drop_eq_getElem_cons hi, show p[i] = x by rw [List.getElem?_eq_getElem hi] at hx; exact Option.some.inj hx]
  have h2 := hc.2
  rw [hd] at h2
  generalize posn a p i = y at h2 ⊢
  generalize ks.drop i = k2 at h2
  cases h2 with
  | cons hl ha t =>
    rename_i k l ks'
    refine ⟨away_from ha, List.any_eq_true.2 ⟨l, List.mem_of_getElem? hl, ?_⟩⟩
    unfold away
    split
    · rw [eqA_iff, decide_eq_true rfl]; rfl
    · rw [Bool.or_eq_true]; right
      rw [eqA_iff]; exact decide_eq_true rfl
theorem Wk.start {ls : List Lk} (hf : For ls) {a b : Int} {ks : List Nat} {p : List Lk} (h : Wk ls a b ks p) (hn : ks.Nodup) {i : Nat} {x : Lk} (hx : p[i]? = some x) : x.2.1 ≠ a := fun e => by
  have hi := (List.getElem?_eq_some_iff.1 hx).1
  have hc := Wk.cut h
  have h1 := (hc.2 (i + 1) hi).1
  have hp : posn a p (i + 1) = a := by simp [posn, hx, e]
  rw [hp] at h1
  have := hf.ring (A := fun _ => True) ⟨h1, hn.sublist (List.take_sublist _ _), fun _ _ => trivial⟩
  have hl : (ks.take (i + 1)).length = 0 := by rw [this]; rfl
  rw [List.length_take] at hl
  omega
theorem Wk.apart {ls : List Lk} (hf : For ls) {a b : Int} {ks : List Nat} {p : List Lk} (h : Wk ls a b ks p) (hn : ks.Nodup) {k i : Nat} {y x : Lk} (hki : k < i) (hy : p[k]? = some y) (hx : p[i]? = some x) : y.2.1 ≠ x.2.1 := fun e => by
  have hi := (List.getElem?_eq_some_iff.1 hx).1
  have h1 := ((Wk.cut h).2 (k + 1) (by omega)).2
  have hp : posn a p (k + 1) = y.2.1 := by simp [posn, hy]
  rw [hp] at h1
  refine Wk.start hf h1 (hn.sublist (List.drop_sublist _ _)) (i := i - (k + 1)) (x := x) ?_ e.symm
  rw [List.getElem?_drop, show k + 1 + (i - (k + 1)) = i by omega]; exact hx
theorem Wk.end_ {ls : List Lk} {a b : Int} {ks : List Nat} {p : List Lk} (h : Wk ls a b ks p) : posn a p p.length = b := by
  have := ((Wk.cut h).2 p.length (Nat.le_refl _)).2
  rw [List.drop_length] at this
  generalize posn a p p.length = y at this ⊢
  generalize ks.drop p.length = k2 at this
  cases this
  rfl
set_option maxHeartbeats 2000000 in
theorem chains_calls {W : World} {A : Option Addr} {n0 c : Nat} {act : Nat → Act4} (hA : ActsAt W A n0 act) (a b : Int) : Calls Try.prog 7 #[.slice A n0 c, .int .i64 a, .int .i64 b] W fun e W' => e = .returned (.bool true) ∧ Kp (fun _ => False) W W' := by
  have hlive := live_calls W
  refine calls_of_wp Try.func7 rfl ?_
  simp only [Try.ntmps7, List.size_toArray, List.length_cons, List.length_nil, Nat.reduceAdd, Nat.reduceSub, Array.replicate_succ, Array.replicate_zero, List.push_toArray, List.append_toArray, List.nil_append, List.cons_append]
  by_cases hn : 60 < n0
  · go_wp2_with (first
      | ((with_reducible refine hlive.mono ?_); rintro e W1 ⟨rfl, hk1⟩)
      | fail)
    exact ⟨rfl, .bool true, by simp [results, Try.results7, go_sem], rfl, hk1⟩
  · clear hlive
    have hn2 : n0 ≤ 60 := by omega
    have hplay := play_calls (c := c) hA hn2
    have hlen := playL_len act n0
    obtain ⟨ls, hls⟩ : ∃ ls, playL act n0 = ls := ⟨_, rfl⟩
    rw [hls] at hplay hlen
    go_wp2_with (first
      | ((with_reducible refine hplay.mono ?_); rintro e W1 ⟨fb, rfl, hR0, hk1⟩; have hR1 := rep_laid hR0; have hf := rep_for hR1; have hp := path_calls hR1 a b)
      | fail)
    have hql := pathQ_len hf a b
    cases hs : sameB ls a b with
    | false =>
      have hP : (pathQ ls a b).getD [] = [] := by unfold pathQ; rw [hs]; rfl
      rw [hP, hs] at hp
      go_wp2_with (first
        | ((with_reducible refine hp.mono ?_); rintro e W2 ⟨vp, rfl, hp2, hR2, hk2'⟩; have hk2 := laid_kp hk1 hk2'; obtain ⟨Ap, cp, rfl⟩ := slice_of hp2.row; have hsm := same_calls hR2 a b; rw [hs] at hsm)
        | ((with_reducible refine hsm.mono ?_); rintro e W3 ⟨rfl, hR3, hk3'⟩; have hk3 := laid_kp hk2 hk3'; have hlive := live_calls W3)
        | ((with_reducible refine hlive.mono ?_); rintro e W4 ⟨rfl, hk4⟩)
        | fail)
      exact ⟨rfl, .bool true, by simp [results, Try.results7, go_sem], rfl, hk3.trans hk4⟩
    | true =>
      obtain ⟨P, hpP⟩ := Option.isSome_iff_exists.1 (sameB_some hs)
      have hP : (pathQ ls a b).getD [] = P := by unfold pathQ; rw [hs, if_pos rfl, hpP]; rfl
      obtain ⟨ks, hwk, hnd, _⟩ := pathS_some hf hpP
      obtain ⟨n, hPn⟩ : ∃ n, P.length = n := ⟨_, rfl⟩
      rw [hP, hs] at hp
      rw [hP, hPn] at hql
      go_wp2_with (first
        | ((with_reducible refine hp.mono ?_); rintro e W2 ⟨vp, rfl, hp2, hR2, hk2'⟩; have hk2 := laid_kp hk1 hk2'; have hp2r := hp2.row; obtain ⟨Ap, cp, rfl⟩ := slice_of hp2r; rw [hPn] at hp2 ⊢; rw [hPn] at hp2r; have hsm := same_calls hR2 a b; rw [hs] at hsm)
        | ((with_reducible refine hsm.mono ?_); rintro e W3 ⟨rfl, hR3, hk3'⟩; have hk3 := laid_kp hk2 hk3'; replace hp2r := ownsRow_kp hp2r hk3' (fun g hg e => by have := hp2.new g hg; have := e.2; omega); have hlk := links_calls hR3)
        | ((with_reducible refine hlk.mono ?_); rintro e W4 ⟨vl, rfl, hl4, hk4'⟩; have hk4 := hk3.trans hk4'; replace hp2r := ownsRow_kp hp2r hk4' (fun _ _ => id); obtain ⟨Al, cl, rfl⟩ := slice_of hl4.row)
        | fail)
      go_loopw [10, 12] (fun v10 v12 wr => ∃ j : Nat, v12 = .int .i64 (j : Int) ∧ v10 = .int .i64 (posn a P j) ∧ j ≤ n ∧ Kp (fun _ => False) W4 wr) (fun v10 v12 wr => n - (intOf v12).toNat)
      case atStart => exact ⟨0, rfl, rfl, Nat.zero_le _, Kp.refl _ _⟩
      case round =>
        obtain ⟨j, rfl, rfl, hj, hkj⟩ := hrel
        by_cases hjn : j < n
        · obtain ⟨x, hx⟩ : ∃ x, P[j]? = some x := ⟨_, List.getElem?_eq_getElem (by omega)⟩
          obtain ⟨hx1, hxh⟩ := Wk.at_ hwk hx
          have hxa := Wk.start hf hwk hnd hx
          have hpj := ownsRow_kp hp2r hkj fun _ _ => id
          obtain ⟨gp, rfl, a0, a1, a2⟩ := link_cells hpj hx
          have hlj := ownsRow_kp hl4.row hkj fun _ _ => id
          have hhas := has_calls hlj (by omega) x
          rw [hxh] at hhas
          unfold lkA at hhas
          rw [← hx1]
          clear hx1
          have hdx : decide (x.2.1 = a) = false := decide_eq_false hxa
          have hdx2 : (x.2.1 == a) = false := by simp [hxa]
          go_wp2_with (first
            | ((with_reducible refine hhas.mono ?_); rintro e W5 ⟨rfl, hk5⟩)
            | fail)
          have hp5 := ownsRow_kp hpj hk5 fun _ _ => id
          have hpx : posn a P (j + 1) = x.2.1 := by simp [posn, hx]
          go_loopw [13] (fun v13 wr2 => ∃ k : Nat, v13 = .int .i64 (k : Int) ∧ k ≤ j ∧ Kp (fun _ => False) W5 wr2) (fun v13 wr2 => j - (intOf v13).toNat)
          case atStart => exact ⟨0, rfl, Nat.zero_le _, Kp.refl _ _⟩
          case round =>
            obtain ⟨k, rfl, hkj2, hk6⟩ := hrel
            by_cases hkl : k < j
            · obtain ⟨y, hy⟩ : ∃ y, P[k]? = some y := ⟨_, List.getElem?_eq_getElem (by omega)⟩
              have hyx : y.2.1 ≠ x.2.1 := Wk.apart hf hwk hnd hkl hy hx
              have hp6 := ownsRow_kp hp5 hk6 fun _ _ => id
              obtain ⟨g6, hg6, _, b1, _⟩ := link_cells hp6 hx
              cases hg6
              obtain ⟨g7, hg7, _, d1, _⟩ := link_cells hp6 hy
              cases hg7
              have b1' : wr.drew.cell? ⟨gp, j * 3 + 1, none⟩ = some (.int .i64 x.2.1) := b1
              have d1' : wr.drew.cell? ⟨gp, k * 3 + 1, none⟩ = some (.int .i64 y.2.1) := d1
              have hjn2 : (j : Int) < (n : Int) := by omega
              have hkn2 : (k : Int) < (n : Int) := by omega
              go_wp2_with (fail)
              refine start1 (· = wr.drew) 11 #[false, false, false, false, false, false, false, false, false, false, false] (by kernel_rfl) (by kernel_rfl) ?_
              refine move1 (i := 0) (d := (some 86)) (v := _) rfl rfl (by kernel_rfl) (by rfl) (fun _ _ _ h => h) rfl (fun w => by (go_simp; try with_reducible rfl)) ?_
              simp only [Act.put, List.setIfInBounds_toArray, List.set_cons_zero, List.set_cons_succ]
              refine move1 (i := 1) (d := (some 87)) (v := _) rfl rfl (by kernel_rfl) (by rfl) (fun _ _ _ h => h) rfl (fun w => by (go_simp; try with_reducible rfl)) ?_
              simp only [Act.put, List.setIfInBounds_toArray, List.set_cons_zero, List.set_cons_succ]
              refine move1 (i := 2) (d := (some 88)) (v := _) rfl rfl (by kernel_rfl) (by rfl) (fun _ _ _ h => h) rfl (fun w => by (go_simp; try with_reducible rfl)) ?_
              simp only [Act.put, List.setIfInBounds_toArray, List.set_cons_zero, List.set_cons_succ]
              refine move1 (i := 3) (d := (some 89)) (v := _) rfl rfl (by kernel_rfl) (by rfl) (fun _ _ _ h => h) rfl (fun w => by (go_simp; try with_reducible rfl)) ?_
              simp only [Act.put, List.setIfInBounds_toArray, List.set_cons_zero, List.set_cons_succ]
              refine take1 (i := 4) (d := (some 90)) (v := _) rfl rfl (by kernel_rfl) (by rfl) (fun _ _ _ h => h) rfl (fun w hw => by subst hw; (go_simp; try with_reducible rfl)) ?_
              simp only [Act.put, List.setIfInBounds_toArray, List.set_cons_zero, List.set_cons_succ]
              refine move1 (i := 5) (d := (some 91)) (v := _) rfl rfl (by kernel_rfl) (by rfl) (fun _ _ _ h => h) rfl (fun w => by (go_simp; try with_reducible rfl)) ?_
              simp only [Act.put, List.setIfInBounds_toArray, List.set_cons_zero, List.set_cons_succ]
              refine move1 (i := 6) (d := (some 92)) (v := _) rfl rfl (by kernel_rfl) (by rfl) (fun _ _ _ h => h) rfl (fun w => by (go_simp; try with_reducible rfl)) ?_
              simp only [Act.put, List.setIfInBounds_toArray, List.set_cons_zero, List.set_cons_succ]
              refine move1 (i := 7) (d := (some 93)) (v := _) rfl rfl (by kernel_rfl) (by rfl) (fun _ _ _ h => h) rfl (fun w => by (go_simp; try with_reducible rfl)) ?_
              simp only [Act.put, List.setIfInBounds_toArray, List.set_cons_zero, List.set_cons_succ]
              refine move1 (i := 8) (d := (some 94)) (v := _) rfl rfl (by kernel_rfl) (by rfl) (fun _ _ _ h => h) rfl (fun w => by (go_simp; try with_reducible rfl)) ?_
              simp only [Act.put, List.setIfInBounds_toArray, List.set_cons_zero, List.set_cons_succ]
              refine take1 (i := 9) (d := (some 95)) (v := _) rfl rfl (by kernel_rfl) (by rfl) (fun _ _ _ h => h) rfl (fun w hw => by subst hw; (go_simp; try with_reducible rfl)) ?_
              simp only [Act.put, List.setIfInBounds_toArray, List.set_cons_zero, List.set_cons_succ]
              refine take1 (i := 10) (d := (some 96)) (v := .bool false) rfl rfl (by kernel_rfl) (by rfl) (fun _ _ _ h => h) rfl (fun w hw => by subst hw; (go_simp; try simp [hyx]; try rfl)) ?_
              simp only [Act.put, List.setIfInBounds_toArray, List.set_cons_zero, List.set_cons_succ]
              refine wpAnyL_done (by kernel_rfl) ?_ _
              have hk7 : Kp (fun _ => False) W5 wr.drew := hk6.trans (Kp.drew _)
              go_wp2_with (fail)
              go_roundw
              case rel => exact ⟨k + 1, by go_num, hkl, hk7⟩
              case measure => simp only [intOf]; omega
            · have hke : k = j := by omega
              subst hke
              obtain ⟨g6, hg6, _, b1, _⟩ := link_cells (ownsRow_kp hp5 hk6 fun _ _ => id) hx
              cases hg6
              have hkE : Kp (fun _ => False) W4 wr := (hkj.trans hk5).trans hk6
              go_wp2_with (fail)
              go_roundw
              case rel => exact ⟨k + 1, by go_num, by rw [hpx], hjn, hkE⟩
              case measure => simp only [intOf]; omega
        · have hje : j = n := by omega
          subst hje
          have hend : posn a P j = b := by rw [← hPn]; exact Wk.end_ hwk
          rw [hend]
          have hlive := live_calls wr
          go_wp2_with (first
            | ((with_reducible refine hlive.mono ?_); rintro e W8 ⟨rfl, hk8⟩)
            | fail)
          exact ⟨rfl, .bool true, by simp [results, Try.results7, go_sem], rfl, (hk4.trans hkj).trans hk8⟩
end Go.Proofs.Ytmkhglpfhnocaaa.Fn
