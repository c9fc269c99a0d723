-- Written by a program of this workplace out of Lean's own print of the translation. Lean checks it.
import Derived.Test.YtnagfkdgangikaaQAllx0
import Derived.Test.YtnagfkdgangikaaQAllx1
import Derived.Test.YtnagfkdgangikaaQAllx2
import Derived.Test.YtnagfkdgangikaaQAllx3
import Derived.Test.YtnagfkdgangikaaQAllx4
namespace Go.Proofs.Ytnagfkdgangikaa.QAll
open Go.RowKit Go.Proofs.YtnagfkdgangikaaW.PrintWords Go.Proofs.YtnagfkdgangikaaW.PrintLast Go.Proofs.YtnagfkdgangikaaW.PrintMore
attribute [local go_sem] max2_int min2_int max_two min_two max_three min_three max_four min_four   -- for this text's walks alone
set_option linter.unusedVariables false
set_option linter.unusedSimpArgs false

/-! ### saturatelaw01_BitsDivides: function 10 -/
def saturatelaw01_BitsDivides.j0 : Nat → Int → Int → Int → Int → Int → Bool → Option (Bool)
  | 0, _, _, _, _, _, _ => none
  | k + 1, x0, x1, x2, x7, x8, x51 => if x51 = true then (some false) else (if x8 ≤ x7 then ((bits_Mul.f x0 x1 x2).bind fun t286 => (if t286 ≤ x7 then ((bits_Shl.f k x0 x1 x2).bind fun t287 => (if t287 ≤ x7 then ((bits_Ashr.f k x0 x1 x2).bind fun t288 => (if t288 ≤ x7 then ((saturatelaw01_lives.f k).bind fun t289 => (some t289)) else (some false))) else (some false))) else (some false))) else (some false))
def saturatelaw01_BitsDivides.f (k : Nat) (a0 : Int) (a1 : Int) (a2 : Int) : Option (Bool) := (bits_Mask.f a0).bind fun t275 => ((bits_Udiv.f a0 a1 a2).bind fun t276 => ((bits_Mul.f a0 t276 a2).bind fun t277 => ((bits_Urem.f a0 a1 a2).bind fun t278 => ((bits_Add.f a0 t277 t278).bind fun t279 => ((bits_Cut.f a0 a1).bind fun t280 => (if t279 = t280 then ((bits_Sub.f a0 a1 a2).bind fun t281 => ((bits_Neg.f a0 a2).bind fun t282 => ((bits_Add.f a0 a1 t282).bind fun t283 => (if t281 = t283 then ((bits_Not.f a0 a1).bind fun t284 => ((bits_Sub.f a0 t275 a1).bind fun t285 => (saturatelaw01_BitsDivides.j0 k a0 a1 a2 t275 t279 (t284 != t285)))) else (saturatelaw01_BitsDivides.j0 k a0 a1 a2 t275 t279 true))))) else (saturatelaw01_BitsDivides.j0 k a0 a1 a2 t275 t279 true)))))))
theorem saturatelaw01_BitsDivides.mono_l : ∀ k, (∀ y0 y1 y2 y3 y4 y5, LeO (saturatelaw01_BitsDivides.j0 k y0 y1 y2 y3 y4 y5) (saturatelaw01_BitsDivides.j0 (k + 1) y0 y1 y2 y3 y4 y5))
  | 0 => fun _ _ _ _ _ _ r h => by simp [saturatelaw01_BitsDivides.j0] at h
  | k + 1 => by
    have ih0 := saturatelaw01_BitsDivides.mono_l k
    · intro y0 y1 y2 y3 y4 y5
      unfold saturatelaw01_BitsDivides.j0
      repeat' first
      | (with_reducible exact ih0 _ _ _ _ _ _)
      | (with_reducible exact bits_Ashr.mono _ _ _ _)
      | (with_reducible exact bits_Shl.mono _ _ _ _)
      | (with_reducible exact saturatelaw01_lives.mono _)
      | (with_reducible exact LeO.refl _)
      | (with_reducible exact LeO.none _)
      | (with_reducible refine LeO.ite ?_ ?_)
      | (with_reducible refine LeO.bind ?_ (fun _ => ?_))
      | exact ih0 _ _ _ _ _ _
      | exact bits_Ashr.mono _ _ _ _
      | exact bits_Shl.mono _ _ _ _
      | exact saturatelaw01_lives.mono _
      | exact LeO.none _
      | refine LeO.ite ?_ ?_
      | refine LeO.bind ?_ (fun _ => ?_)
theorem saturatelaw01_BitsDivides.mono : ∀ a0 a1 a2 k, LeO (saturatelaw01_BitsDivides.f k a0 a1 a2) (saturatelaw01_BitsDivides.f (k + 1) a0 a1 a2) := by
  intro a0 a1 a2 k
  have ih0 := saturatelaw01_BitsDivides.mono_l k
  unfold saturatelaw01_BitsDivides.f
  repeat' first
      | (with_reducible exact ih0 _ _ _ _ _ _)
      | (with_reducible exact bits_Ashr.mono _ _ _ _)
      | (with_reducible exact bits_Shl.mono _ _ _ _)
      | (with_reducible exact saturatelaw01_lives.mono _)
      | (with_reducible exact LeO.refl _)
      | (with_reducible exact LeO.none _)
      | (with_reducible refine LeO.ite ?_ ?_)
      | (with_reducible refine LeO.bind ?_ (fun _ => ?_))
      | exact ih0 _ _ _ _ _ _
      | exact bits_Ashr.mono _ _ _ _
      | exact bits_Shl.mono _ _ _ _
      | exact saturatelaw01_lives.mono _
      | exact LeO.none _
      | refine LeO.ite ?_ ?_
      | refine LeO.bind ?_ (fun _ => ?_)
set_option maxHeartbeats 8000000 in
set_option maxRecDepth 100000 in
theorem saturatelaw01_BitsDivides.calls (k : Nat) (a0 : Int) (a1 : Int) (a2 : Int) (r : Bool) (w : World) (h : saturatelaw01_BitsDivides.f k a0 a1 a2 = some r) :
    Calls Try.prog 10 #[.int .i64 a0, .int .u64 a1, .int .u64 a2] w fun e w' => e = .returned (.bool r) ∧ Below w.heap.size w w' := by
  have HB := Aside0.mk (Below.refl w.heap.size w)
  have H : ((bits_Mask.f a0).bind fun t275 => ((bits_Udiv.f a0 a1 a2).bind fun t276 => ((bits_Mul.f a0 t276 a2).bind fun t277 => ((bits_Urem.f a0 a1 a2).bind fun t278 => ((bits_Add.f a0 t277 t278).bind fun t279 => ((bits_Cut.f a0 a1).bind fun t280 => (if t279 = t280 then ((bits_Sub.f a0 a1 a2).bind fun t281 => ((bits_Neg.f a0 a2).bind fun t282 => ((bits_Add.f a0 a1 t282).bind fun t283 => (if t281 = t283 then ((bits_Not.f a0 a1).bind fun t284 => ((bits_Sub.f a0 t275 a1).bind fun t285 => (saturatelaw01_BitsDivides.j0 k a0 a1 a2 t275 t279 (t284 != t285)))) else (saturatelaw01_BitsDivides.j0 k a0 a1 a2 t275 t279 true))))) else (saturatelaw01_BitsDivides.j0 k a0 a1 a2 t275 t279 true)))))))) = some r := h
  clear h
  replace H := Option.bind_eq_some_iff.mp H
  obtain ⟨t275, A40, H⟩ := H
  replace H : ((bits_Udiv.f a0 a1 a2).bind fun t276 => ((bits_Mul.f a0 t276 a2).bind fun t277 => ((bits_Urem.f a0 a1 a2).bind fun t278 => ((bits_Add.f a0 t277 t278).bind fun t279 => ((bits_Cut.f a0 a1).bind fun t280 => (if t279 = t280 then ((bits_Sub.f a0 a1 a2).bind fun t281 => ((bits_Neg.f a0 a2).bind fun t282 => ((bits_Add.f a0 a1 t282).bind fun t283 => (if t281 = t283 then ((bits_Not.f a0 a1).bind fun t284 => ((bits_Sub.f a0 t275 a1).bind fun t285 => (saturatelaw01_BitsDivides.j0 k a0 a1 a2 t275 t279 (t284 != t285)))) else (saturatelaw01_BitsDivides.j0 k a0 a1 a2 t275 t279 true))))) else (saturatelaw01_BitsDivides.j0 k a0 a1 a2 t275 t279 true))))))) = some r := H
  have A4 := Aside0.mk A40
  clear A40
  replace H := Option.bind_eq_some_iff.mp H
  obtain ⟨t276, A50, H⟩ := H
  replace H : ((bits_Mul.f a0 t276 a2).bind fun t277 => ((bits_Urem.f a0 a1 a2).bind fun t278 => ((bits_Add.f a0 t277 t278).bind fun t279 => ((bits_Cut.f a0 a1).bind fun t280 => (if t279 = t280 then ((bits_Sub.f a0 a1 a2).bind fun t281 => ((bits_Neg.f a0 a2).bind fun t282 => ((bits_Add.f a0 a1 t282).bind fun t283 => (if t281 = t283 then ((bits_Not.f a0 a1).bind fun t284 => ((bits_Sub.f a0 t275 a1).bind fun t285 => (saturatelaw01_BitsDivides.j0 k a0 a1 a2 t275 t279 (t284 != t285)))) else (saturatelaw01_BitsDivides.j0 k a0 a1 a2 t275 t279 true))))) else (saturatelaw01_BitsDivides.j0 k a0 a1 a2 t275 t279 true)))))) = some r := H
  have A5 := Aside0.mk A50
  clear A50
  replace H := Option.bind_eq_some_iff.mp H
  obtain ⟨t277, A60, H⟩ := H
  replace H : ((bits_Urem.f a0 a1 a2).bind fun t278 => ((bits_Add.f a0 t277 t278).bind fun t279 => ((bits_Cut.f a0 a1).bind fun t280 => (if t279 = t280 then ((bits_Sub.f a0 a1 a2).bind fun t281 => ((bits_Neg.f a0 a2).bind fun t282 => ((bits_Add.f a0 a1 t282).bind fun t283 => (if t281 = t283 then ((bits_Not.f a0 a1).bind fun t284 => ((bits_Sub.f a0 t275 a1).bind fun t285 => (saturatelaw01_BitsDivides.j0 k a0 a1 a2 t275 t279 (t284 != t285)))) else (saturatelaw01_BitsDivides.j0 k a0 a1 a2 t275 t279 true))))) else (saturatelaw01_BitsDivides.j0 k a0 a1 a2 t275 t279 true))))) = some r := H
  have A6 := Aside0.mk A60
  clear A60
  replace H := Option.bind_eq_some_iff.mp H
  obtain ⟨t278, A70, H⟩ := H
  replace H : ((bits_Add.f a0 t277 t278).bind fun t279 => ((bits_Cut.f a0 a1).bind fun t280 => (if t279 = t280 then ((bits_Sub.f a0 a1 a2).bind fun t281 => ((bits_Neg.f a0 a2).bind fun t282 => ((bits_Add.f a0 a1 t282).bind fun t283 => (if t281 = t283 then ((bits_Not.f a0 a1).bind fun t284 => ((bits_Sub.f a0 t275 a1).bind fun t285 => (saturatelaw01_BitsDivides.j0 k a0 a1 a2 t275 t279 (t284 != t285)))) else (saturatelaw01_BitsDivides.j0 k a0 a1 a2 t275 t279 true))))) else (saturatelaw01_BitsDivides.j0 k a0 a1 a2 t275 t279 true)))) = some r := H
  have A7 := Aside0.mk A70
  clear A70
  replace H := Option.bind_eq_some_iff.mp H
  obtain ⟨t279, A80, H⟩ := H
  replace H : ((bits_Cut.f a0 a1).bind fun t280 => (if t279 = t280 then ((bits_Sub.f a0 a1 a2).bind fun t281 => ((bits_Neg.f a0 a2).bind fun t282 => ((bits_Add.f a0 a1 t282).bind fun t283 => (if t281 = t283 then ((bits_Not.f a0 a1).bind fun t284 => ((bits_Sub.f a0 t275 a1).bind fun t285 => (saturatelaw01_BitsDivides.j0 k a0 a1 a2 t275 t279 (t284 != t285)))) else (saturatelaw01_BitsDivides.j0 k a0 a1 a2 t275 t279 true))))) else (saturatelaw01_BitsDivides.j0 k a0 a1 a2 t275 t279 true))) = some r := H
  have A8 := Aside0.mk A80
  clear A80
  have HC9 := Aside0.mk H
  clear H
  go_enter Try.func10, Try.ntmps10
  go_upto_region 3 with (first | ((with_reducible refine gate_callee (f := 11) rfl ?_); refine goesL_ (some 10) rfl rfl Try.func11 (by kernel_rfl) rfl #[.int .i64 a0] rfl (by (try simp only [List.map_toArray, List.map_cons, List.map_nil]); first | done | rfl | (simp only [List.length_drop, List.length_take]; rfl)) ?_; (with_reducible refine (bits_Mask.calls a0 t275 _ A4.out).mono ?_); rintro e w10 ⟨rfl, hb⟩; refine ⟨_, rfl, ?_⟩; have n0_ := Aside0.mk (below_step (by repeat (first | (with_reducible first | exact HB.out | apply below_alloc | apply pw_below_drewN | apply below_drew1) | exact HB.out)) hb); clear HB; have HB := n0_; clear n0_; (try clear hb); (try clear hb2); (try clear hk); (try clear hi)) | ((with_reducible refine gate_callee (f := 46) rfl ?_); refine goesL_ (some 16) rfl rfl Try.func46 (by kernel_rfl) rfl #[.int .i64 a0, .int .u64 a1, .int .u64 a2] rfl (by (try simp only [List.map_toArray, List.map_cons, List.map_nil]); first | done | rfl | (simp only [List.length_drop, List.length_take]; rfl)) ?_; (with_reducible refine (bits_Udiv.calls a0 a1 a2 t276 _ A5.out).mono ?_); rintro e w11 ⟨rfl, hb⟩; refine ⟨_, rfl, ?_⟩; have n0_ := Aside0.mk (below_step (by repeat (first | (with_reducible first | exact HB.out | apply below_alloc | apply pw_below_drewN | apply below_drew1) | exact HB.out)) hb); clear HB; have HB := n0_; clear n0_; (try clear hb); (try clear hb2); (try clear hk); (try clear hi)) | ((with_reducible refine gate_callee (f := 24) rfl ?_); refine goesL_ (some 18) rfl rfl Try.func24 (by kernel_rfl) rfl #[.int .i64 a0, .int .u64 t276, .int .u64 a2] rfl (by (try simp only [List.map_toArray, List.map_cons, List.map_nil]); first | done | rfl | (simp only [List.length_drop, List.length_take]; rfl)) ?_; (with_reducible refine (bits_Mul.calls a0 t276 a2 t277 _ A6.out).mono ?_); rintro e w12 ⟨rfl, hb⟩; refine ⟨_, rfl, ?_⟩; have n0_ := Aside0.mk (below_step (by repeat (first | (with_reducible first | exact HB.out | apply below_alloc | apply pw_below_drewN | apply below_drew1) | exact HB.out)) hb); clear HB; have HB := n0_; clear n0_; (try clear hb); (try clear hb2); (try clear hk); (try clear hi)) | ((with_reducible refine gate_callee (f := 48) rfl ?_); refine goesL_ (some 22) rfl rfl Try.func48 (by kernel_rfl) rfl #[.int .i64 a0, .int .u64 a1, .int .u64 a2] rfl (by (try simp only [List.map_toArray, List.map_cons, List.map_nil]); first | done | rfl | (simp only [List.length_drop, List.length_take]; rfl)) ?_; (with_reducible refine (bits_Urem.calls a0 a1 a2 t278 _ A7.out).mono ?_); rintro e w13 ⟨rfl, hb⟩; refine ⟨_, rfl, ?_⟩; have n0_ := Aside0.mk (below_step (by repeat (first | (with_reducible first | exact HB.out | apply below_alloc | apply pw_below_drewN | apply below_drew1) | exact HB.out)) hb); clear HB; have HB := n0_; clear n0_; (try clear hb); (try clear hb2); (try clear hk); (try clear hi)) | ((with_reducible refine gate_callee (f := 18) rfl ?_); refine goesL_ (some 23) rfl rfl Try.func18 (by kernel_rfl) rfl #[.int .i64 a0, .int .u64 t277, .int .u64 t278] rfl (by (try simp only [List.map_toArray, List.map_cons, List.map_nil]); first | done | rfl | (simp only [List.length_drop, List.length_take]; rfl)) ?_; (with_reducible refine (bits_Add.calls a0 t277 t278 t279 _ A8.out).mono ?_); rintro e w14 ⟨rfl, hb⟩; refine ⟨_, rfl, ?_⟩; have n0_ := Aside0.mk (below_step (by repeat (first | (with_reducible first | exact HB.out | apply below_alloc | apply pw_below_drewN | apply below_drew1) | exact HB.out)) hb); clear HB; have HB := n0_; clear n0_; (try clear hb); (try clear hb2); (try clear hk); (try clear hi)))
  (try simp only [Act.put, List.setIfInBounds_toArray, List.set_cons_zero, List.set_cons_succ])
  go_cut [51] (fun v51 wc => ∃ (kq : Nat) (x51_8 : Bool), v51 = .bool x51_8 ∧ Aside0 (saturatelaw01_BitsDivides.j0 kq a0 a1 a2 t275 t279 x51_8 = some r) ∧ Aside0 (kq ≤ k) ∧ Aside0 (Below w.heap.size w wc))
  case first =>
    have H := HC9.out
    clear HC9
    replace H := Option.bind_eq_some_iff.mp H
    obtain ⟨t280, A150, H⟩ := H
    replace H : (if t279 = t280 then ((bits_Sub.f a0 a1 a2).bind fun t281 => ((bits_Neg.f a0 a2).bind fun t282 => ((bits_Add.f a0 a1 t282).bind fun t283 => (if t281 = t283 then ((bits_Not.f a0 a1).bind fun t284 => ((bits_Sub.f a0 t275 a1).bind fun t285 => (saturatelaw01_BitsDivides.j0 k a0 a1 a2 t275 t279 (t284 != t285)))) else (saturatelaw01_BitsDivides.j0 k a0 a1 a2 t275 t279 true))))) else (saturatelaw01_BitsDivides.j0 k a0 a1 a2 t275 t279 true)) = some r := H
    have A15 := Aside0.mk A150
    clear A150
    by_cases c16 : t279 = t280
    · rw [if_pos c16] at H
      have c16b0 : (t279 == t280) = true := beq_iff_eq.mpr c16
      have c16b1 : (t279 != t280) = false := bne_eq_false_iff_eq.mpr c16
      clear c16
      (first | rw [c16b0] | (simp only [i64_w, i32_w]; rw [c16b0]) | skip)
      replace H := Option.bind_eq_some_iff.mp H
      obtain ⟨t281, A170, H⟩ := H
      replace H : ((bits_Neg.f a0 a2).bind fun t282 => ((bits_Add.f a0 a1 t282).bind fun t283 => (if t281 = t283 then ((bits_Not.f a0 a1).bind fun t284 => ((bits_Sub.f a0 t275 a1).bind fun t285 => (saturatelaw01_BitsDivides.j0 k a0 a1 a2 t275 t279 (t284 != t285)))) else (saturatelaw01_BitsDivides.j0 k a0 a1 a2 t275 t279 true)))) = some r := H
      have A17 := Aside0.mk A170
      clear A170
      replace H := Option.bind_eq_some_iff.mp H
      obtain ⟨t282, A180, H⟩ := H
      replace H : ((bits_Add.f a0 a1 t282).bind fun t283 => (if t281 = t283 then ((bits_Not.f a0 a1).bind fun t284 => ((bits_Sub.f a0 t275 a1).bind fun t285 => (saturatelaw01_BitsDivides.j0 k a0 a1 a2 t275 t279 (t284 != t285)))) else (saturatelaw01_BitsDivides.j0 k a0 a1 a2 t275 t279 true))) = some r := H
      have A18 := Aside0.mk A180
      clear A180
      replace H := Option.bind_eq_some_iff.mp H
      obtain ⟨t283, A190, H⟩ := H
      replace H : (if t281 = t283 then ((bits_Not.f a0 a1).bind fun t284 => ((bits_Sub.f a0 t275 a1).bind fun t285 => (saturatelaw01_BitsDivides.j0 k a0 a1 a2 t275 t279 (t284 != t285)))) else (saturatelaw01_BitsDivides.j0 k a0 a1 a2 t275 t279 true)) = some r := H
      have A19 := Aside0.mk A190
      clear A190
      by_cases c20 : t281 = t283
      · rw [if_pos c20] at H
        have c20b0 : (t281 == t283) = true := beq_iff_eq.mpr c20
        have c20b1 : (t281 != t283) = false := bne_eq_false_iff_eq.mpr c20
        clear c20
        replace H := Option.bind_eq_some_iff.mp H
        obtain ⟨t284, A210, H⟩ := H
        replace H : ((bits_Sub.f a0 t275 a1).bind fun t285 => (saturatelaw01_BitsDivides.j0 k a0 a1 a2 t275 t279 (t284 != t285))) = some r := H
        have A21 := Aside0.mk A210
        clear A210
        replace H := Option.bind_eq_some_iff.mp H
        obtain ⟨t285, A220, H⟩ := H
        replace H : (saturatelaw01_BitsDivides.j0 k a0 a1 a2 t275 t279 (t284 != t285)) = some r := H
        have A22 := Aside0.mk A220
        clear A220
        have H' := Aside0.mk H
        clear H
        go_wp2_with (first | ((with_reducible refine gate_callee (f := 13) rfl ?_); refine goesL_ (some 27) rfl rfl Try.func13 (by kernel_rfl) rfl #[.int .i64 a0, .int .u64 a1] rfl (by (try simp only [List.map_toArray, List.map_cons, List.map_nil]); first | done | rfl | (simp only [List.length_drop, List.length_take]; rfl)) ?_; (with_reducible refine (bits_Cut.calls a0 a1 t280 _ A15.out).mono ?_); rintro e w23 ⟨rfl, hb⟩; refine ⟨_, rfl, ?_⟩; have n0_ := Aside0.mk (below_step (by repeat (first | (with_reducible first | exact HB.out | apply below_alloc | apply pw_below_drewN | apply below_drew1) | exact HB.out)) hb); clear HB; have HB := n0_; clear n0_; (try clear hb); (try clear hb2); (try clear hk); (try clear hi)) | (go_at_call 20; (with_reducible refine (bits_Sub.calls a0 a1 a2 t281 _ A17.out).mono ?_); rintro e w24 ⟨rfl, hb⟩; have n0_ := Aside0.mk (below_step (by repeat (first | (with_reducible first | exact HB.out | apply below_alloc | apply pw_below_drewN | apply below_drew1) | exact HB.out)) hb); clear HB; have HB := n0_; clear n0_; (try clear hb); (try clear hb2); (try clear hk); (try clear hi)) | (go_at_call 22; (with_reducible refine (bits_Neg.calls a0 a2 t282 _ A18.out).mono ?_); rintro e w25 ⟨rfl, hb⟩; have n0_ := Aside0.mk (below_step (by repeat (first | (with_reducible first | exact HB.out | apply below_alloc | apply pw_below_drewN | apply below_drew1) | exact HB.out)) hb); clear HB; have HB := n0_; clear n0_; (try clear hb); (try clear hb2); (try clear hk); (try clear hi)) | (go_at_call 18; (with_reducible refine (bits_Add.calls a0 a1 t282 t283 _ A19.out).mono ?_); rintro e w26 ⟨rfl, hb⟩; have n0_ := Aside0.mk (below_step (by repeat (first | (with_reducible first | exact HB.out | apply below_alloc | apply pw_below_drewN | apply below_drew1) | exact HB.out)) hb); clear HB; have HB := n0_; clear n0_; (try clear hb); (try clear hb2); (try clear hk); (try clear hi)) | (go_at_call 38; (with_reducible refine (bits_Not.calls a0 a1 t284 _ A21.out).mono ?_); rintro e w27 ⟨rfl, hb⟩; have n0_ := Aside0.mk (below_step (by repeat (first | (with_reducible first | exact HB.out | apply below_alloc | apply pw_below_drewN | apply below_drew1) | exact HB.out)) hb); clear HB; have HB := n0_; clear n0_; (try clear hb); (try clear hb2); (try clear hk); (try clear hi)) | (go_at_call 20; (with_reducible refine (bits_Sub.calls a0 t275 a1 t285 _ A22.out).mono ?_); rintro e w28 ⟨rfl, hb⟩; have n0_ := Aside0.mk (below_step (by repeat (first | (with_reducible first | exact HB.out | apply below_alloc | apply pw_below_drewN | apply below_drew1) | exact HB.out)) hb); clear HB; have HB := n0_; clear n0_; (try clear hb); (try clear hb2); (try clear hk); (try clear hi)))
        go_meet
        case rel => exact ⟨_, ((t284 != t285)), (by first | rfl | (simp; done) | (simp [*]; done)), H', ⟨by first | omega | exact Nat.le_refl _⟩, ⟨by repeat (first | (with_reducible first | exact HB.out | apply below_alloc | apply pw_below_drewN | apply below_drew1) | exact HB.out)⟩⟩
      · rw [if_neg c20] at H
        have c20b0 : (t281 == t283) = false := beq_eq_false_iff_ne.mpr c20
        have c20b1 : (t281 != t283) = true := bne_iff_ne.mpr c20
        have H' := Aside0.mk H
        clear H
        go_wp2_with (first | ((with_reducible refine gate_callee (f := 13) rfl ?_); refine goesL_ (some 27) rfl rfl Try.func13 (by kernel_rfl) rfl #[.int .i64 a0, .int .u64 a1] rfl (by (try simp only [List.map_toArray, List.map_cons, List.map_nil]); first | done | rfl | (simp only [List.length_drop, List.length_take]; rfl)) ?_; (with_reducible refine (bits_Cut.calls a0 a1 t280 _ A15.out).mono ?_); rintro e w29 ⟨rfl, hb⟩; refine ⟨_, rfl, ?_⟩; have n0_ := Aside0.mk (below_step (by repeat (first | (with_reducible first | exact HB.out | apply below_alloc | apply pw_below_drewN | apply below_drew1) | exact HB.out)) hb); clear HB; have HB := n0_; clear n0_; (try clear hb); (try clear hb2); (try clear hk); (try clear hi)) | (go_at_call 20; (with_reducible refine (bits_Sub.calls a0 a1 a2 t281 _ A17.out).mono ?_); rintro e w30 ⟨rfl, hb⟩; have n0_ := Aside0.mk (below_step (by repeat (first | (with_reducible first | exact HB.out | apply below_alloc | apply pw_below_drewN | apply below_drew1) | exact HB.out)) hb); clear HB; have HB := n0_; clear n0_; (try clear hb); (try clear hb2); (try clear hk); (try clear hi)) | (go_at_call 22; (with_reducible refine (bits_Neg.calls a0 a2 t282 _ A18.out).mono ?_); rintro e w31 ⟨rfl, hb⟩; have n0_ := Aside0.mk (below_step (by repeat (first | (with_reducible first | exact HB.out | apply below_alloc | apply pw_below_drewN | apply below_drew1) | exact HB.out)) hb); clear HB; have HB := n0_; clear n0_; (try clear hb); (try clear hb2); (try clear hk); (try clear hi)) | (go_at_call 18; (with_reducible refine (bits_Add.calls a0 a1 t282 t283 _ A19.out).mono ?_); rintro e w32 ⟨rfl, hb⟩; have n0_ := Aside0.mk (below_step (by repeat (first | (with_reducible first | exact HB.out | apply below_alloc | apply pw_below_drewN | apply below_drew1) | exact HB.out)) hb); clear HB; have HB := n0_; clear n0_; (try clear hb); (try clear hb2); (try clear hk); (try clear hi)))
        go_meet
        case rel => exact ⟨_, (true), (by first | rfl | (simp; done) | (simp [*]; done)), H', ⟨by first | omega | exact Nat.le_refl _⟩, ⟨by repeat (first | (with_reducible first | exact HB.out | apply below_alloc | apply pw_below_drewN | apply below_drew1) | exact HB.out)⟩⟩
    · rw [if_neg c16] at H
      have c16b0 : (t279 == t280) = false := beq_eq_false_iff_ne.mpr c16
      have c16b1 : (t279 != t280) = true := bne_iff_ne.mpr c16
      (first | rw [c16b0] | (simp only [i64_w, i32_w]; rw [c16b0]) | skip)
      have H' := Aside0.mk H
      clear H
      go_wp2_with (first | ((with_reducible refine gate_callee (f := 13) rfl ?_); refine goesL_ (some 27) rfl rfl Try.func13 (by kernel_rfl) rfl #[.int .i64 a0, .int .u64 a1] rfl (by (try simp only [List.map_toArray, List.map_cons, List.map_nil]); first | done | rfl | (simp only [List.length_drop, List.length_take]; rfl)) ?_; (with_reducible refine (bits_Cut.calls a0 a1 t280 _ A15.out).mono ?_); rintro e w33 ⟨rfl, hb⟩; refine ⟨_, rfl, ?_⟩; have n0_ := Aside0.mk (below_step (by repeat (first | (with_reducible first | exact HB.out | apply below_alloc | apply pw_below_drewN | apply below_drew1) | exact HB.out)) hb); clear HB; have HB := n0_; clear n0_; (try clear hb); (try clear hb2); (try clear hk); (try clear hi)))
      go_meet
      case rel => exact ⟨_, (true), (by first | rfl | (simp; done) | (simp [*]; done)), H', ⟨by first | omega | exact Nat.le_refl _⟩, ⟨by repeat (first | (with_reducible first | exact HB.out | apply below_alloc | apply pw_below_drewN | apply below_drew1) | exact HB.out)⟩⟩
  case rest =>
    clear HC9
    try clear c1
    try clear c2
    try clear p2
    try clear c4
    try clear c10
    try clear c11
    try clear c13
    try clear c16
    try clear c16b0
    try clear c16b1
    try clear c18
    try clear c20
    try clear c20b0
    try clear c20b1
    try clear c24
    obtain ⟨kq, x51_8, rfl, HA, HJ8, HB⟩ := hcut
    cases kq with
    | zero => exact absurd HA.out (by simp [saturatelaw01_BitsDivides.j0])
    | succ kj8 =>
      have H := HA.out
      clear HA
      simp only [saturatelaw01_BitsDivides.j0] at H
      by_cases c34 : x51_8 = true
      · subst c34
        have H1 : (some false) = some r := by rw [if_pos rfl] at H; exact H
        clear H
        have H := H1
        clear H1
        obtain rfl := Option.some.inj H
        go_wp2
        go_ret
        exact ⟨by first | rfl | (simp [errW_none, errW_some] <;> rfl) | (simp [*, errW_none, errW_some] <;> rfl), by repeat (first | (with_reducible first | exact HB.out | apply below_alloc | apply pw_below_drewN | apply below_drew1) | exact HB.out)⟩
      · replace c34 := Bool.eq_false_iff.mpr c34
        subst c34
        have H1 : (if t279 ≤ t275 then ((bits_Mul.f a0 a1 a2).bind fun t286 => (if t286 ≤ t275 then ((bits_Shl.f kj8 a0 a1 a2).bind fun t287 => (if t287 ≤ t275 then ((bits_Ashr.f kj8 a0 a1 a2).bind fun t288 => (if t288 ≤ t275 then ((saturatelaw01_lives.f kj8).bind fun t289 => (some t289)) else (some false))) else (some false))) else (some false))) else (some false)) = some r := by rw [if_neg (show ¬ (false = true) by decide)] at H; exact H
        clear H
        have H := H1
        clear H1
        by_cases c35 : t279 ≤ t275
        · rw [if_pos c35] at H
          have c35b0 : decide (t279 ≤ t275) = true := decide_eq_true c35
          clear c35
          replace H := Option.bind_eq_some_iff.mp H
          obtain ⟨t286, A360, H⟩ := H
          replace H : (if t286 ≤ t275 then ((bits_Shl.f kj8 a0 a1 a2).bind fun t287 => (if t287 ≤ t275 then ((bits_Ashr.f kj8 a0 a1 a2).bind fun t288 => (if t288 ≤ t275 then ((saturatelaw01_lives.f kj8).bind fun t289 => (some t289)) else (some false))) else (some false))) else (some false)) = some r := H
          have A36 := Aside0.mk A360
          clear A360
          by_cases c37 : t286 ≤ t275
          · rw [if_pos c37] at H
            have c37b0 : decide (t286 ≤ t275) = true := decide_eq_true c37
            clear c37
            replace H := Option.bind_eq_some_iff.mp H
            obtain ⟨t287, A380, H⟩ := H
            replace H : (if t287 ≤ t275 then ((bits_Ashr.f kj8 a0 a1 a2).bind fun t288 => (if t288 ≤ t275 then ((saturatelaw01_lives.f kj8).bind fun t289 => (some t289)) else (some false))) else (some false)) = some r := H
            have A38 := Aside0.mk A380
            clear A380
            by_cases c39 : t287 ≤ t275
            · rw [if_pos c39] at H
              have c39b0 : decide (t287 ≤ t275) = true := decide_eq_true c39
              clear c39
              replace H := Option.bind_eq_some_iff.mp H
              obtain ⟨t288, A400, H⟩ := H
              replace H : (if t288 ≤ t275 then ((saturatelaw01_lives.f kj8).bind fun t289 => (some t289)) else (some false)) = some r := H
              have A40 := Aside0.mk A400
              clear A400
              by_cases c41 : t288 ≤ t275
              · rw [if_pos c41] at H
                have c41b0 : decide (t288 ≤ t275) = true := decide_eq_true c41
                clear c41
                replace H := Option.bind_eq_some_iff.mp H
                obtain ⟨t289, A420, H⟩ := H
                replace H : (some t289) = some r := H
                have A42 := Aside0.mk A420
                clear A420
                obtain rfl := Option.some.inj H
                go_wp2_with (first | (go_at_call 24; (with_reducible refine (bits_Mul.calls a0 a1 a2 t286 _ A36.out).mono ?_); rintro e w43 ⟨rfl, hb⟩; have n0_ := Aside0.mk (below_step (by repeat (first | (with_reducible first | exact HB.out | apply below_alloc | apply pw_below_drewN | apply below_drew1) | exact HB.out)) hb); clear HB; have HB := n0_; clear n0_; (try clear hb); (try clear hb2); (try clear hk); (try clear hi)) | (go_at_call 26; (with_reducible refine (bits_Shl.calls kj8 a0 a1 a2 t287 _ A38.out).mono ?_); rintro e w44 ⟨rfl, hb⟩; have n0_ := Aside0.mk (below_step (by repeat (first | (with_reducible first | exact HB.out | apply below_alloc | apply pw_below_drewN | apply below_drew1) | exact HB.out)) hb); clear HB; have HB := n0_; clear n0_; (try clear hb); (try clear hb2); (try clear hk); (try clear hi)) | (go_at_call 30; (with_reducible refine (bits_Ashr.calls kj8 a0 a1 a2 t288 _ A40.out).mono ?_); rintro e w45 ⟨rfl, hb⟩; have n0_ := Aside0.mk (below_step (by repeat (first | (with_reducible first | exact HB.out | apply below_alloc | apply pw_below_drewN | apply below_drew1) | exact HB.out)) hb); clear HB; have HB := n0_; clear n0_; (try clear hb); (try clear hb2); (try clear hk); (try clear hi)) | (go_at_call 17; (with_reducible refine (saturatelaw01_lives.calls kj8  t289 _ A42.out).mono ?_); rintro e w46 ⟨rfl, hb⟩; have n0_ := Aside0.mk (below_step (by repeat (first | (with_reducible first | exact HB.out | apply below_alloc | apply pw_below_drewN | apply below_drew1) | exact HB.out)) hb); clear HB; have HB := n0_; clear n0_; (try clear hb); (try clear hb2); (try clear hk); (try clear hi)))
                go_ret
                exact ⟨by first | rfl | (simp [errW_none, errW_some] <;> rfl) | (simp [*, errW_none, errW_some] <;> rfl), by repeat (first | (with_reducible first | exact HB.out | apply below_alloc | apply pw_below_drewN | apply below_drew1) | exact HB.out)⟩
              · rw [if_neg c41] at H
                have c41b0 : decide (t288 ≤ t275) = false := decide_eq_false c41
                clear c41
                obtain rfl := Option.some.inj H
                go_wp2_with (first | (go_at_call 24; (with_reducible refine (bits_Mul.calls a0 a1 a2 t286 _ A36.out).mono ?_); rintro e w47 ⟨rfl, hb⟩; have n0_ := Aside0.mk (below_step (by repeat (first | (with_reducible first | exact HB.out | apply below_alloc | apply pw_below_drewN | apply below_drew1) | exact HB.out)) hb); clear HB; have HB := n0_; clear n0_; (try clear hb); (try clear hb2); (try clear hk); (try clear hi)) | (go_at_call 26; (with_reducible refine (bits_Shl.calls kj8 a0 a1 a2 t287 _ A38.out).mono ?_); rintro e w48 ⟨rfl, hb⟩; have n0_ := Aside0.mk (below_step (by repeat (first | (with_reducible first | exact HB.out | apply below_alloc | apply pw_below_drewN | apply below_drew1) | exact HB.out)) hb); clear HB; have HB := n0_; clear n0_; (try clear hb); (try clear hb2); (try clear hk); (try clear hi)) | (go_at_call 30; (with_reducible refine (bits_Ashr.calls kj8 a0 a1 a2 t288 _ A40.out).mono ?_); rintro e w49 ⟨rfl, hb⟩; have n0_ := Aside0.mk (below_step (by repeat (first | (with_reducible first | exact HB.out | apply below_alloc | apply pw_below_drewN | apply below_drew1) | exact HB.out)) hb); clear HB; have HB := n0_; clear n0_; (try clear hb); (try clear hb2); (try clear hk); (try clear hi)))
                go_ret
                exact ⟨by first | rfl | (simp [errW_none, errW_some] <;> rfl) | (simp [*, errW_none, errW_some] <;> rfl), by repeat (first | (with_reducible first | exact HB.out | apply below_alloc | apply pw_below_drewN | apply below_drew1) | exact HB.out)⟩
            · rw [if_neg c39] at H
              have c39b0 : decide (t287 ≤ t275) = false := decide_eq_false c39
              clear c39
              obtain rfl := Option.some.inj H
              go_wp2_with (first | (go_at_call 24; (with_reducible refine (bits_Mul.calls a0 a1 a2 t286 _ A36.out).mono ?_); rintro e w50 ⟨rfl, hb⟩; have n0_ := Aside0.mk (below_step (by repeat (first | (with_reducible first | exact HB.out | apply below_alloc | apply pw_below_drewN | apply below_drew1) | exact HB.out)) hb); clear HB; have HB := n0_; clear n0_; (try clear hb); (try clear hb2); (try clear hk); (try clear hi)) | (go_at_call 26; (with_reducible refine (bits_Shl.calls kj8 a0 a1 a2 t287 _ A38.out).mono ?_); rintro e w51 ⟨rfl, hb⟩; have n0_ := Aside0.mk (below_step (by repeat (first | (with_reducible first | exact HB.out | apply below_alloc | apply pw_below_drewN | apply below_drew1) | exact HB.out)) hb); clear HB; have HB := n0_; clear n0_; (try clear hb); (try clear hb2); (try clear hk); (try clear hi)))
              go_ret
              exact ⟨by first | rfl | (simp [errW_none, errW_some] <;> rfl) | (simp [*, errW_none, errW_some] <;> rfl), by repeat (first | (with_reducible first | exact HB.out | apply below_alloc | apply pw_below_drewN | apply below_drew1) | exact HB.out)⟩
          · rw [if_neg c37] at H
            have c37b0 : decide (t286 ≤ t275) = false := decide_eq_false c37
            clear c37
            obtain rfl := Option.some.inj H
            go_wp2_with (first | (go_at_call 24; (with_reducible refine (bits_Mul.calls a0 a1 a2 t286 _ A36.out).mono ?_); rintro e w52 ⟨rfl, hb⟩; have n0_ := Aside0.mk (below_step (by repeat (first | (with_reducible first | exact HB.out | apply below_alloc | apply pw_below_drewN | apply below_drew1) | exact HB.out)) hb); clear HB; have HB := n0_; clear n0_; (try clear hb); (try clear hb2); (try clear hk); (try clear hi)))
            go_ret
            exact ⟨by first | rfl | (simp [errW_none, errW_some] <;> rfl) | (simp [*, errW_none, errW_some] <;> rfl), by repeat (first | (with_reducible first | exact HB.out | apply below_alloc | apply pw_below_drewN | apply below_drew1) | exact HB.out)⟩
        · rw [if_neg c35] at H
          have c35b0 : decide (t279 ≤ t275) = false := decide_eq_false c35
          clear c35
          obtain rfl := Option.some.inj H
          go_wp2
          go_ret
          exact ⟨by first | rfl | (simp [errW_none, errW_some] <;> rfl) | (simp [*, errW_none, errW_some] <;> rfl), by repeat (first | (with_reducible first | exact HB.out | apply below_alloc | apply pw_below_drewN | apply below_drew1) | exact HB.out)⟩

/-- THE ONE PURE STATEMENT of saturatelaw01_BitsDivides: yours. -/
def saturatelaw01_BitsDivides.Pure : Prop := ∀ (a0 : Int) (a1 : Int) (a2 : Int), (Lit.int .i64 a0).wf = true → (Lit.int .u64 a1).wf = true → (Lit.int .u64 a2).wf = true → ∃ k, saturatelaw01_BitsDivides.f k a0 a1 a2 = some true
theorem saturatelaw01_BitsDivides.walk (P : saturatelaw01_BitsDivides.Pure) (a0 : Int) (a1 : Int) (a2 : Int) (w : World) (w0 : (Lit.int .i64 a0).wf = true) (w1 : (Lit.int .u64 a1).wf = true) (w2 : (Lit.int .u64 a2).wf = true) :
    Calls Try.prog 10 #[.int .i64 a0, .int .u64 a1, .int .u64 a2] w fun e w' => e = .returned (.bool true) ∧ Below w.heap.size w w' := by
  obtain ⟨k, h⟩ := P a0 a1 a2 w0 w1 w2
  refine (saturatelaw01_BitsDivides.calls k a0 a1 a2 true w h).mono ?_
  rintro e w' ⟨rfl, hd⟩
  exact ⟨rfl, hd⟩

end Go.Proofs.Ytnagfkdgangikaa.QAll
