-- Written by a program of this workplace out of Lean's own print of the translation. Lean checks it.
import Derived.Test.YtpdnbcablofgiaaQAllx0
import Derived.Test.YtpdnbcablofgiaaQAllx1
import Derived.Test.YtpdnbcablofgiaaQAllx4
import Derived.Test.YtpdnbcablofgiaaQAllx6
namespace Go.Proofs.Ytpdnbcablofgiaa.QAll
open Go.RowKit Go.Proofs.YtpdnbcablofgiaaW.PrintWords Go.Proofs.YtpdnbcablofgiaaW.PrintLast Go.Proofs.YtpdnbcablofgiaaW.PrintMore
attribute [local go_sem] max2_int min2_int max_two min_two max_three min_three max_four min_four   -- for this text's walks alone
set_option linter.unusedVariables false
set_option linter.unusedSimpArgs false

/-! ### saturatelaw04_OpinfoKinds: function 6 -/
def saturatelaw04_OpinfoKinds.f (k : Nat) (a0 : Int) : Option (Bool) := (opinfo_Arity.f k a0).bind fun t222 => ((saturateref04_Arity.f k a0).bind fun t223 => (if t222 = t223 then ((opinfo_Commutes.f a0).bind fun t224 => ((saturateref04_Commutes.f k a0).bind fun t225 => (if (t224 == t225) = true then ((opinfo_Leaf.f k a0).bind fun t226 => ((saturateref04_Leaf.f k a0).bind fun t227 => (if (t226 == t227) = true then ((opinfo_Pattern.f a0).bind fun t228 => ((saturateref04_Pattern.f k a0).bind fun t229 => (if (t228 == t229) = true then ((saturatelaw04_lives.f k).bind fun t230 => (some t230)) else (some false)))) else (some false)))) else (some false)))) else (some false)))
theorem saturatelaw04_OpinfoKinds.mono : ∀ a0 k, LeO (saturatelaw04_OpinfoKinds.f k a0) (saturatelaw04_OpinfoKinds.f (k + 1) a0) := by
  intro a0 k
  unfold saturatelaw04_OpinfoKinds.f
  repeat' first
      | (with_reducible exact opinfo_Arity.mono _ _)
      | (with_reducible exact opinfo_Leaf.mono _ _)
      | (with_reducible exact saturatelaw04_lives.mono _)
      | (with_reducible exact saturateref04_Arity.mono _ _)
      | (with_reducible exact saturateref04_Commutes.mono _ _)
      | (with_reducible exact saturateref04_Leaf.mono _ _)
      | (with_reducible exact saturateref04_Pattern.mono _ _)
      | (with_reducible exact LeO.refl _)
      | (with_reducible exact LeO.none _)
      | (with_reducible refine LeO.ite ?_ ?_)
      | (with_reducible refine LeO.bind ?_ (fun _ => ?_))
      | exact opinfo_Arity.mono _ _
      | exact opinfo_Leaf.mono _ _
      | exact saturatelaw04_lives.mono _
      | exact saturateref04_Arity.mono _ _
      | exact saturateref04_Commutes.mono _ _
      | exact saturateref04_Leaf.mono _ _
      | exact saturateref04_Pattern.mono _ _
      | exact LeO.none _
      | refine LeO.ite ?_ ?_
      | refine LeO.bind ?_ (fun _ => ?_)
set_option maxHeartbeats 8000000 in
set_option maxRecDepth 100000 in
theorem saturatelaw04_OpinfoKinds.calls (k : Nat) (a0 : Int) (r : Bool) (w : World) (h : saturatelaw04_OpinfoKinds.f k a0 = some r) :
    Calls Try.prog 6 #[.int .i64 a0] w fun e w' => e = .returned (.bool r) ∧ Below w.heap.size w w' := by
  have HB := Aside0.mk (Below.refl w.heap.size w)
  have H : ((opinfo_Arity.f k a0).bind fun t222 => ((saturateref04_Arity.f k a0).bind fun t223 => (if t222 = t223 then ((opinfo_Commutes.f a0).bind fun t224 => ((saturateref04_Commutes.f k a0).bind fun t225 => (if (t224 == t225) = true then ((opinfo_Leaf.f k a0).bind fun t226 => ((saturateref04_Leaf.f k a0).bind fun t227 => (if (t226 == t227) = true then ((opinfo_Pattern.f a0).bind fun t228 => ((saturateref04_Pattern.f k a0).bind fun t229 => (if (t228 == t229) = true then ((saturatelaw04_lives.f k).bind fun t230 => (some t230)) else (some false)))) else (some false)))) else (some false)))) else (some false)))) = some r := h
  clear h
  replace H := Option.bind_eq_some_iff.mp H
  obtain ⟨t222, A20, H⟩ := H
  replace H : ((saturateref04_Arity.f k a0).bind fun t223 => (if t222 = t223 then ((opinfo_Commutes.f a0).bind fun t224 => ((saturateref04_Commutes.f k a0).bind fun t225 => (if (t224 == t225) = true then ((opinfo_Leaf.f k a0).bind fun t226 => ((saturateref04_Leaf.f k a0).bind fun t227 => (if (t226 == t227) = true then ((opinfo_Pattern.f a0).bind fun t228 => ((saturateref04_Pattern.f k a0).bind fun t229 => (if (t228 == t229) = true then ((saturatelaw04_lives.f k).bind fun t230 => (some t230)) else (some false)))) else (some false)))) else (some false)))) else (some false))) = some r := H
  have A2 := Aside0.mk A20
  clear A20
  replace H := Option.bind_eq_some_iff.mp H
  obtain ⟨t223, A30, H⟩ := H
  replace H : (if t222 = t223 then ((opinfo_Commutes.f a0).bind fun t224 => ((saturateref04_Commutes.f k a0).bind fun t225 => (if (t224 == t225) = true then ((opinfo_Leaf.f k a0).bind fun t226 => ((saturateref04_Leaf.f k a0).bind fun t227 => (if (t226 == t227) = true then ((opinfo_Pattern.f a0).bind fun t228 => ((saturateref04_Pattern.f k a0).bind fun t229 => (if (t228 == t229) = true then ((saturatelaw04_lives.f k).bind fun t230 => (some t230)) else (some false)))) else (some false)))) else (some false)))) else (some false)) = some r := H
  have A3 := Aside0.mk A30
  clear A30
  by_cases c4 : t222 = t223
  · rw [if_pos c4] at H
    have c4b0 : (t222 == t223) = true := beq_iff_eq.mpr c4
    have c4b1 : (t222 != t223) = false := bne_eq_false_iff_eq.mpr c4
    clear c4
    replace H := Option.bind_eq_some_iff.mp H
    obtain ⟨t224, A50, H⟩ := H
    replace H : ((saturateref04_Commutes.f k a0).bind fun t225 => (if (t224 == t225) = true then ((opinfo_Leaf.f k a0).bind fun t226 => ((saturateref04_Leaf.f k a0).bind fun t227 => (if (t226 == t227) = true then ((opinfo_Pattern.f a0).bind fun t228 => ((saturateref04_Pattern.f k a0).bind fun t229 => (if (t228 == t229) = true then ((saturatelaw04_lives.f k).bind fun t230 => (some t230)) else (some false)))) else (some false)))) else (some false))) = some r := H
    have A5 := Aside0.mk A50
    clear A50
    replace H := Option.bind_eq_some_iff.mp H
    obtain ⟨t225, A60, H⟩ := H
    replace H : (if (t224 == t225) = true then ((opinfo_Leaf.f k a0).bind fun t226 => ((saturateref04_Leaf.f k a0).bind fun t227 => (if (t226 == t227) = true then ((opinfo_Pattern.f a0).bind fun t228 => ((saturateref04_Pattern.f k a0).bind fun t229 => (if (t228 == t229) = true then ((saturatelaw04_lives.f k).bind fun t230 => (some t230)) else (some false)))) else (some false)))) else (some false)) = some r := H
    have A6 := Aside0.mk A60
    clear A60
    by_cases c7 : (t224 == t225) = true
    · rw [if_pos c7] at H
      have c7b0 : (t224 == t225) = true := c7
      (try (have c7b1 : decide (t224 = t225) = true := by simpa using c7))
      (try (have c7b2 : (t224 == t225) = true := by simpa using c7))
      clear c7
      replace H := Option.bind_eq_some_iff.mp H
      obtain ⟨t226, A80, H⟩ := H
      replace H : ((saturateref04_Leaf.f k a0).bind fun t227 => (if (t226 == t227) = true then ((opinfo_Pattern.f a0).bind fun t228 => ((saturateref04_Pattern.f k a0).bind fun t229 => (if (t228 == t229) = true then ((saturatelaw04_lives.f k).bind fun t230 => (some t230)) else (some false)))) else (some false))) = some r := H
      have A8 := Aside0.mk A80
      clear A80
      replace H := Option.bind_eq_some_iff.mp H
      obtain ⟨t227, A90, H⟩ := H
      replace H : (if (t226 == t227) = true then ((opinfo_Pattern.f a0).bind fun t228 => ((saturateref04_Pattern.f k a0).bind fun t229 => (if (t228 == t229) = true then ((saturatelaw04_lives.f k).bind fun t230 => (some t230)) else (some false)))) else (some false)) = some r := H
      have A9 := Aside0.mk A90
      clear A90
      by_cases c10 : (t226 == t227) = true
      · rw [if_pos c10] at H
        have c10b0 : (t226 == t227) = true := c10
        (try (have c10b1 : decide (t226 = t227) = true := by simpa using c10))
        (try (have c10b2 : (t226 == t227) = true := by simpa using c10))
        clear c10
        replace H := Option.bind_eq_some_iff.mp H
        obtain ⟨t228, A110, H⟩ := H
        replace H : ((saturateref04_Pattern.f k a0).bind fun t229 => (if (t228 == t229) = true then ((saturatelaw04_lives.f k).bind fun t230 => (some t230)) else (some false))) = some r := H
        have A11 := Aside0.mk A110
        clear A110
        replace H := Option.bind_eq_some_iff.mp H
        obtain ⟨t229, A120, H⟩ := H
        replace H : (if (t228 == t229) = true then ((saturatelaw04_lives.f k).bind fun t230 => (some t230)) else (some false)) = some r := H
        have A12 := Aside0.mk A120
        clear A120
        by_cases c13 : (t228 == t229) = true
        · rw [if_pos c13] at H
          have c13b0 : (t228 == t229) = true := c13
          (try (have c13b1 : decide (t228 = t229) = true := by simpa using c13))
          (try (have c13b2 : (t228 == t229) = true := by simpa using c13))
          clear c13
          replace H := Option.bind_eq_some_iff.mp H
          obtain ⟨t230, A140, H⟩ := H
          replace H : (some t230) = some r := H
          have A14 := Aside0.mk A140
          clear A140
          obtain rfl := Option.some.inj H
          go_enter Try.func6, Try.ntmps6
          go_wp2_with (first | ((with_reducible refine gate_callee (f := 11) rfl ?_); refine goesL_ (some 4) rfl rfl Try.func11 (by kernel_rfl) rfl #[.int .i64 a0] rfl (by (try simp only [List.map_toArray, List.map_cons, List.map_nil]); first | done | rfl | (simp only [List.length_drop, List.length_take]; rfl)) ?_; (with_reducible refine (opinfo_Arity.calls k a0 t222 _ A2.out).mono ?_); rintro e w' ⟨rfl, ⟨nd, rfl⟩⟩; refine ⟨_, rfl, ?_⟩) | ((with_reducible refine gate_callee (f := 12) rfl ?_); refine goesL_ (some 6) rfl rfl Try.func12 (by kernel_rfl) rfl #[.int .i64 a0] rfl (by (try simp only [List.map_toArray, List.map_cons, List.map_nil]); first | done | rfl | (simp only [List.length_drop, List.length_take]; rfl)) ?_; (with_reducible refine (saturateref04_Arity.calls k a0 t223 _ A3.out).mono ?_); rintro e w15 ⟨rfl, hb⟩; refine ⟨_, rfl, ?_⟩; have n0_ := Aside0.mk (below_step (by repeat (first | (with_reducible first | exact HB.out | apply below_alloc | apply pw_below_drewN | apply below_drew1) | exact HB.out)) hb); clear HB; have HB := n0_; clear n0_; (try clear hb); (try clear hb2); (try clear hk); (try clear hi)) | (go_at_call 13; (with_reducible refine (opinfo_Commutes.calls a0 t224 _ A5.out).mono ?_); rintro e w' ⟨rfl, ⟨nd, rfl⟩⟩) | (go_at_call 14; (with_reducible refine (saturateref04_Commutes.calls k a0 t225 _ A6.out).mono ?_); rintro e w16 ⟨rfl, hb⟩; have n0_ := Aside0.mk (below_step (by repeat (first | (with_reducible first | exact HB.out | apply below_alloc | apply pw_below_drewN | apply below_drew1) | exact HB.out)) hb); clear HB; have HB := n0_; clear n0_; (try clear hb); (try clear hb2); (try clear hk); (try clear hi)) | (go_at_call 15; (with_reducible refine (opinfo_Leaf.calls k a0 t226 _ A8.out).mono ?_); rintro e w' ⟨rfl, ⟨nd, rfl⟩⟩) | (go_at_call 16; (with_reducible refine (saturateref04_Leaf.calls k a0 t227 _ A9.out).mono ?_); rintro e w17 ⟨rfl, hb⟩; have n0_ := Aside0.mk (below_step (by repeat (first | (with_reducible first | exact HB.out | apply below_alloc | apply pw_below_drewN | apply below_drew1) | exact HB.out)) hb); clear HB; have HB := n0_; clear n0_; (try clear hb); (try clear hb2); (try clear hk); (try clear hi)) | (go_at_call 17; (with_reducible refine (opinfo_Pattern.calls a0 t228 _ A11.out).mono ?_); rintro e w' ⟨rfl, ⟨nd, rfl⟩⟩) | (go_at_call 18; (with_reducible refine (saturateref04_Pattern.calls k a0 t229 _ A12.out).mono ?_); rintro e w18 ⟨rfl, hb⟩; have n0_ := Aside0.mk (below_step (by repeat (first | (with_reducible first | exact HB.out | apply below_alloc | apply pw_below_drewN | apply below_drew1) | exact HB.out)) hb); clear HB; have HB := n0_; clear n0_; (try clear hb); (try clear hb2); (try clear hk); (try clear hi)) | (go_at_call 9; (with_reducible refine (saturatelaw04_lives.calls k  t230 _ A14.out).mono ?_); rintro e w19 ⟨rfl, hb⟩; have n0_ := Aside0.mk (below_step (by repeat (first | (with_reducible first | exact HB.out | apply below_alloc | apply pw_below_drewN | apply below_drew1) | exact HB.out)) hb); clear HB; have HB := n0_; clear n0_; (try clear hb); (try clear hb2); (try clear hk); (try clear hi)))
          go_ret
          exact ⟨by first | rfl | (simp [errW_none, errW_some] <;> rfl) | (simp [*, errW_none, errW_some] <;> rfl), by repeat (first | (with_reducible first | exact HB.out | apply below_alloc | apply pw_below_drewN | apply below_drew1) | exact HB.out)⟩
        · rw [if_neg c13] at H
          have c13b0 : (t228 == t229) = false := by simpa using c13
          (try (have c13b1 : decide (t228 = t229) = false := by simpa using c13))
          (try (have c13b2 : (t228 == t229) = false := by simpa using c13))
          (try (have c13b3 : ¬ (t228 = t229) := by simpa using c13))
          clear c13
          obtain rfl := Option.some.inj H
          go_enter Try.func6, Try.ntmps6
          go_wp2_with (first | ((with_reducible refine gate_callee (f := 11) rfl ?_); refine goesL_ (some 4) rfl rfl Try.func11 (by kernel_rfl) rfl #[.int .i64 a0] rfl (by (try simp only [List.map_toArray, List.map_cons, List.map_nil]); first | done | rfl | (simp only [List.length_drop, List.length_take]; rfl)) ?_; (with_reducible refine (opinfo_Arity.calls k a0 t222 _ A2.out).mono ?_); rintro e w' ⟨rfl, ⟨nd, rfl⟩⟩; refine ⟨_, rfl, ?_⟩) | ((with_reducible refine gate_callee (f := 12) rfl ?_); refine goesL_ (some 6) rfl rfl Try.func12 (by kernel_rfl) rfl #[.int .i64 a0] rfl (by (try simp only [List.map_toArray, List.map_cons, List.map_nil]); first | done | rfl | (simp only [List.length_drop, List.length_take]; rfl)) ?_; (with_reducible refine (saturateref04_Arity.calls k a0 t223 _ A3.out).mono ?_); rintro e w20 ⟨rfl, hb⟩; refine ⟨_, rfl, ?_⟩; have n0_ := Aside0.mk (below_step (by repeat (first | (with_reducible first | exact HB.out | apply below_alloc | apply pw_below_drewN | apply below_drew1) | exact HB.out)) hb); clear HB; have HB := n0_; clear n0_; (try clear hb); (try clear hb2); (try clear hk); (try clear hi)) | (go_at_call 13; (with_reducible refine (opinfo_Commutes.calls a0 t224 _ A5.out).mono ?_); rintro e w' ⟨rfl, ⟨nd, rfl⟩⟩) | (go_at_call 14; (with_reducible refine (saturateref04_Commutes.calls k a0 t225 _ A6.out).mono ?_); rintro e w21 ⟨rfl, hb⟩; have n0_ := Aside0.mk (below_step (by repeat (first | (with_reducible first | exact HB.out | apply below_alloc | apply pw_below_drewN | apply below_drew1) | exact HB.out)) hb); clear HB; have HB := n0_; clear n0_; (try clear hb); (try clear hb2); (try clear hk); (try clear hi)) | (go_at_call 15; (with_reducible refine (opinfo_Leaf.calls k a0 t226 _ A8.out).mono ?_); rintro e w' ⟨rfl, ⟨nd, rfl⟩⟩) | (go_at_call 16; (with_reducible refine (saturateref04_Leaf.calls k a0 t227 _ A9.out).mono ?_); rintro e w22 ⟨rfl, hb⟩; have n0_ := Aside0.mk (below_step (by repeat (first | (with_reducible first | exact HB.out | apply below_alloc | apply pw_below_drewN | apply below_drew1) | exact HB.out)) hb); clear HB; have HB := n0_; clear n0_; (try clear hb); (try clear hb2); (try clear hk); (try clear hi)) | (go_at_call 17; (with_reducible refine (opinfo_Pattern.calls a0 t228 _ A11.out).mono ?_); rintro e w' ⟨rfl, ⟨nd, rfl⟩⟩) | (go_at_call 18; (with_reducible refine (saturateref04_Pattern.calls k a0 t229 _ A12.out).mono ?_); rintro e w23 ⟨rfl, hb⟩; have n0_ := Aside0.mk (below_step (by repeat (first | (with_reducible first | exact HB.out | apply below_alloc | apply pw_below_drewN | apply below_drew1) | exact HB.out)) hb); clear HB; have HB := n0_; clear n0_; (try clear hb); (try clear hb2); (try clear hk); (try clear hi)))
          go_ret
          exact ⟨by first | rfl | (simp [errW_none, errW_some] <;> rfl) | (simp [*, errW_none, errW_some] <;> rfl), by repeat (first | (with_reducible first | exact HB.out | apply below_alloc | apply pw_below_drewN | apply below_drew1) | exact HB.out)⟩
      · rw [if_neg c10] at H
        have c10b0 : (t226 == t227) = false := by simpa using c10
        (try (have c10b1 : decide (t226 = t227) = false := by simpa using c10))
        (try (have c10b2 : (t226 == t227) = false := by simpa using c10))
        (try (have c10b3 : ¬ (t226 = t227) := by simpa using c10))
        clear c10
        obtain rfl := Option.some.inj H
        go_enter Try.func6, Try.ntmps6
        go_wp2_with (first | ((with_reducible refine gate_callee (f := 11) rfl ?_); refine goesL_ (some 4) rfl rfl Try.func11 (by kernel_rfl) rfl #[.int .i64 a0] rfl (by (try simp only [List.map_toArray, List.map_cons, List.map_nil]); first | done | rfl | (simp only [List.length_drop, List.length_take]; rfl)) ?_; (with_reducible refine (opinfo_Arity.calls k a0 t222 _ A2.out).mono ?_); rintro e w' ⟨rfl, ⟨nd, rfl⟩⟩; refine ⟨_, rfl, ?_⟩) | ((with_reducible refine gate_callee (f := 12) rfl ?_); refine goesL_ (some 6) rfl rfl Try.func12 (by kernel_rfl) rfl #[.int .i64 a0] rfl (by (try simp only [List.map_toArray, List.map_cons, List.map_nil]); first | done | rfl | (simp only [List.length_drop, List.length_take]; rfl)) ?_; (with_reducible refine (saturateref04_Arity.calls k a0 t223 _ A3.out).mono ?_); rintro e w24 ⟨rfl, hb⟩; refine ⟨_, rfl, ?_⟩; have n0_ := Aside0.mk (below_step (by repeat (first | (with_reducible first | exact HB.out | apply below_alloc | apply pw_below_drewN | apply below_drew1) | exact HB.out)) hb); clear HB; have HB := n0_; clear n0_; (try clear hb); (try clear hb2); (try clear hk); (try clear hi)) | (go_at_call 13; (with_reducible refine (opinfo_Commutes.calls a0 t224 _ A5.out).mono ?_); rintro e w' ⟨rfl, ⟨nd, rfl⟩⟩) | (go_at_call 14; (with_reducible refine (saturateref04_Commutes.calls k a0 t225 _ A6.out).mono ?_); rintro e w25 ⟨rfl, hb⟩; have n0_ := Aside0.mk (below_step (by repeat (first | (with_reducible first | exact HB.out | apply below_alloc | apply pw_below_drewN | apply below_drew1) | exact HB.out)) hb); clear HB; have HB := n0_; clear n0_; (try clear hb); (try clear hb2); (try clear hk); (try clear hi)) | (go_at_call 15; (with_reducible refine (opinfo_Leaf.calls k a0 t226 _ A8.out).mono ?_); rintro e w' ⟨rfl, ⟨nd, rfl⟩⟩) | (go_at_call 16; (with_reducible refine (saturateref04_Leaf.calls k a0 t227 _ A9.out).mono ?_); rintro e w26 ⟨rfl, hb⟩; have n0_ := Aside0.mk (below_step (by repeat (first | (with_reducible first | exact HB.out | apply below_alloc | apply pw_below_drewN | apply below_drew1) | exact HB.out)) hb); clear HB; have HB := n0_; clear n0_; (try clear hb); (try clear hb2); (try clear hk); (try clear hi)))
        go_ret
        exact ⟨by first | rfl | (simp [errW_none, errW_some] <;> rfl) | (simp [*, errW_none, errW_some] <;> rfl), by repeat (first | (with_reducible first | exact HB.out | apply below_alloc | apply pw_below_drewN | apply below_drew1) | exact HB.out)⟩
    · rw [if_neg c7] at H
      have c7b0 : (t224 == t225) = false := by simpa using c7
      (try (have c7b1 : decide (t224 = t225) = false := by simpa using c7))
      (try (have c7b2 : (t224 == t225) = false := by simpa using c7))
      (try (have c7b3 : ¬ (t224 = t225) := by simpa using c7))
      clear c7
      obtain rfl := Option.some.inj H
      go_enter Try.func6, Try.ntmps6
      go_wp2_with (first | ((with_reducible refine gate_callee (f := 11) rfl ?_); refine goesL_ (some 4) rfl rfl Try.func11 (by kernel_rfl) rfl #[.int .i64 a0] rfl (by (try simp only [List.map_toArray, List.map_cons, List.map_nil]); first | done | rfl | (simp only [List.length_drop, List.length_take]; rfl)) ?_; (with_reducible refine (opinfo_Arity.calls k a0 t222 _ A2.out).mono ?_); rintro e w' ⟨rfl, ⟨nd, rfl⟩⟩; refine ⟨_, rfl, ?_⟩) | ((with_reducible refine gate_callee (f := 12) rfl ?_); refine goesL_ (some 6) rfl rfl Try.func12 (by kernel_rfl) rfl #[.int .i64 a0] rfl (by (try simp only [List.map_toArray, List.map_cons, List.map_nil]); first | done | rfl | (simp only [List.length_drop, List.length_take]; rfl)) ?_; (with_reducible refine (saturateref04_Arity.calls k a0 t223 _ A3.out).mono ?_); rintro e w27 ⟨rfl, hb⟩; refine ⟨_, rfl, ?_⟩; have n0_ := Aside0.mk (below_step (by repeat (first | (with_reducible first | exact HB.out | apply below_alloc | apply pw_below_drewN | apply below_drew1) | exact HB.out)) hb); clear HB; have HB := n0_; clear n0_; (try clear hb); (try clear hb2); (try clear hk); (try clear hi)) | (go_at_call 13; (with_reducible refine (opinfo_Commutes.calls a0 t224 _ A5.out).mono ?_); rintro e w' ⟨rfl, ⟨nd, rfl⟩⟩) | (go_at_call 14; (with_reducible refine (saturateref04_Commutes.calls k a0 t225 _ A6.out).mono ?_); rintro e w28 ⟨rfl, hb⟩; have n0_ := Aside0.mk (below_step (by repeat (first | (with_reducible first | exact HB.out | apply below_alloc | apply pw_below_drewN | apply below_drew1) | exact HB.out)) hb); clear HB; have HB := n0_; clear n0_; (try clear hb); (try clear hb2); (try clear hk); (try clear hi)))
      go_ret
      exact ⟨by first | rfl | (simp [errW_none, errW_some] <;> rfl) | (simp [*, errW_none, errW_some] <;> rfl), by repeat (first | (with_reducible first | exact HB.out | apply below_alloc | apply pw_below_drewN | apply below_drew1) | exact HB.out)⟩
  · rw [if_neg c4] at H
    have c4b0 : (t222 == t223) = false := beq_eq_false_iff_ne.mpr c4
    have c4b1 : (t222 != t223) = true := bne_iff_ne.mpr c4
    obtain rfl := Option.some.inj H
    go_enter Try.func6, Try.ntmps6
    go_wp2_with (first | ((with_reducible refine gate_callee (f := 11) rfl ?_); refine goesL_ (some 4) rfl rfl Try.func11 (by kernel_rfl) rfl #[.int .i64 a0] rfl (by (try simp only [List.map_toArray, List.map_cons, List.map_nil]); first | done | rfl | (simp only [List.length_drop, List.length_take]; rfl)) ?_; (with_reducible refine (opinfo_Arity.calls k a0 t222 _ A2.out).mono ?_); rintro e w' ⟨rfl, ⟨nd, rfl⟩⟩; refine ⟨_, rfl, ?_⟩) | ((with_reducible refine gate_callee (f := 12) rfl ?_); refine goesL_ (some 6) rfl rfl Try.func12 (by kernel_rfl) rfl #[.int .i64 a0] rfl (by (try simp only [List.map_toArray, List.map_cons, List.map_nil]); first | done | rfl | (simp only [List.length_drop, List.length_take]; rfl)) ?_; (with_reducible refine (saturateref04_Arity.calls k a0 t223 _ A3.out).mono ?_); rintro e w29 ⟨rfl, hb⟩; refine ⟨_, rfl, ?_⟩; have n0_ := Aside0.mk (below_step (by repeat (first | (with_reducible first | exact HB.out | apply below_alloc | apply pw_below_drewN | apply below_drew1) | exact HB.out)) hb); clear HB; have HB := n0_; clear n0_; (try clear hb); (try clear hb2); (try clear hk); (try clear hi)))
    go_ret
    exact ⟨by first | rfl | (simp [errW_none, errW_some] <;> rfl) | (simp [*, errW_none, errW_some] <;> rfl), by repeat (first | (with_reducible first | exact HB.out | apply below_alloc | apply pw_below_drewN | apply below_drew1) | exact HB.out)⟩

/-- THE ONE PURE STATEMENT of saturatelaw04_OpinfoKinds: yours. -/
def saturatelaw04_OpinfoKinds.Pure : Prop := ∀ (a0 : Int), (Lit.int .i64 a0).wf = true → ∃ k, saturatelaw04_OpinfoKinds.f k a0 = some true
theorem saturatelaw04_OpinfoKinds.walk (P : saturatelaw04_OpinfoKinds.Pure) (a0 : Int) (w : World) (w0 : (Lit.int .i64 a0).wf = true) :
    Calls Try.prog 6 #[.int .i64 a0] w fun e w' => e = .returned (.bool true) ∧ Below w.heap.size w w' := by
  obtain ⟨k, h⟩ := P a0 w0
  refine (saturatelaw04_OpinfoKinds.calls k a0 true w h).mono ?_
  rintro e w' ⟨rfl, hd⟩
  exact ⟨rfl, hd⟩

end Go.Proofs.Ytpdnbcablofgiaa.QAll
