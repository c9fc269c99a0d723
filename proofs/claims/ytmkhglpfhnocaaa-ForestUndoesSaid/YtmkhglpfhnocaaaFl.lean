import Derived.Test.YtmkhglpfhnocaaaFy
namespace Go.Proofs.Ytmkhglpfhnocaaa.Fn
open Go Go.RowKit Go.MapKept Go.Proofs Forest17
set_option linter.unusedVariables false
set_option maxRecDepth 100000
set_option linter.unusedSimpArgs false
open Go.Shelf
attribute [local go_sem] Oper.semAt_some
theorem lv1 : sameB [] 5 5 = true := by kernel_rfl
theorem lv2 : sameB [] (-1) (-1) = false := by kernel_rfl
theorem lv3 : linkB [] 1 2 = true := by kernel_rfl
theorem lv4 : linkB [(1, 2, 7)] 3 2 = true := by kernel_rfl
theorem lv5 : linkB [(1, 2, 7), (3, 2, 8)] 1 3 = false := by kernel_rfl
theorem lv6 : pathQ [(1, 2, 7), (3, 2, 8)] 1 3 = some [(1, 2, 7), (2, 3, 8)] := by kernel_rfl
theorem lv7 : sameB [(1, 2, 7), (3, 2, 8)] 1 3 = true := by kernel_rfl
set_option maxHeartbeats 2000000 in
theorem live_calls (W : World) : Calls Try.prog 11 #[] W fun e W' => e = .returned (.bool true) ∧ Kp (fun _ => False) W W' := by
  have hnew := new_calls W
  refine calls_of_wp Try.func11 rfl ?_
  simp only [Try.ntmps11, List.size_toArray, List.length_cons, List.length_nil, Nat.reduceAdd, Nat.reduceSub, Array.replicate_succ, Array.replicate_zero, List.push_toArray, List.append_toArray, List.nil_append, List.cons_append]
  go_wp2_with (first
    | ((with_reducible refine hnew.mono ?_); rintro e W1 ⟨fb, rfl, hfb, hR1, hk1⟩; have hs1 := same_calls hR1 5 5; rw [lv1] at hs1)
    | ((with_reducible refine hs1.mono ?_); rintro e W2 ⟨rfl, hR2, hk2⟩; replace hk2 := from_kp hk1 hk2; have hs2 := same_calls hR2 (-1) (-1); rw [lv2] at hs2)
    | ((with_reducible refine hs2.mono ?_); rintro e W3 ⟨rfl, hR3, hk3⟩; replace hk3 := from_kp hk2 hk3; have hl1 := link_calls hR3 1 2 7 (by simp); rw [lv3] at hl1)
    | ((with_reducible refine hl1.mono ?_); rintro e W4 ⟨rfl, hR4, hk4⟩; replace hR4 := rep_from hR4 hk3.size; replace hk4 := from_kp hk3 hk4; have hl2 := link_calls hR4 3 2 8 (by simp); simp only [if_true, List.nil_append] at hl2; rw [lv4] at hl2)
    | ((with_reducible refine hl2.mono ?_); rintro e W5 ⟨rfl, hR5, hk5⟩; replace hR5 := rep_from hR5 hk4.size; replace hk5 := from_kp hk4 hk5; have hl3 := link_calls hR5 1 3 9 (by simp); simp only [if_true, List.cons_append, List.nil_append] at hl3; rw [lv5] at hl3)
    | ((with_reducible refine hl3.mono ?_); rintro e W6 ⟨rfl, hR6, hk6⟩; replace hR6 := rep_from hR6 hk5.size; replace hk6 := from_kp hk5 hk6; have hp := path_calls hR6 1 3; simp only [Bool.false_eq_true, if_false] at hp; rw [lv6, lv7] at hp)
    | fail)
  with_reducible refine hp.mono ?_
  rintro e W7 ⟨v, rfl, hr7, hR7, hk7⟩
  replace hk7 := from_kp hk6 hk7
  simp only [Option.getD_some] at hr7
  obtain ⟨A7, c7, rfl⟩ := slice_of hr7.row
  obtain ⟨_, g7, rfl, x0, x1, x2⟩ := rw_cells (k := 0) hr7.row rfl
  obtain ⟨_, g8, hg8, y0, y1, y2⟩ := rw_cells (k := 1) hr7.row rfl
  cases hg8
  have hlen := len_calls hR7
  simp only [Bool.false_eq_true, if_false, List.length_cons, List.length_nil] at hlen
  go_wp2_with (first
    | ((with_reducible refine hlen.mono ?_); rintro e W8 ⟨rfl, hW8⟩; subst hW8)
    | fail)
  exact ⟨rfl, .bool true, by simp [results, Try.results11, go_sem], rfl, hk7⟩
end Go.Proofs.Ytmkhglpfhnocaaa.Fn
