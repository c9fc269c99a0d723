/- ExecFrames: the function returns true whatever its input, and what it was given reads as it did. No condition. -/
import Derived.Test.YtkmehmlcccdnbaaDoorRows
import Derived.Test.YtkmehmlcccdnbaaDoorChecked
import Derived.Test.YtkmehmlcccdnbaaDoorThExecFrames
import Derived.Test.YtkmehmlcccdnbaaDoorCards
import Derived.Test.YtkmehmlcccdnbaaDoorTie
import Derived.Deep.DeepHandedRow
import Derived.Lib.LaidTab
import Derived.Test.YtkmehmlcccdnbaaDoorLay
import Derived.WalkKit
import Derived.ProofKit
import Derived.OpenShut
import Derived.ShutString
import Derived.ChangeOld
import Derived.Below
import Derived.SizedLaws
namespace Go.Proofs.YtkmehmlcccdnbaaDoor.execFrames
open Go Go.ChangeShapes Go.WideShapes Go.ChangeAt Go.RowKit Go.Proofs.YtkmehmlcccdnbaaDoor.Ev Go.Proofs.YtkmehmlcccdnbaaDoor.Fn
set_option linter.unusedVariables false
set_option maxRecDepth 100000
theorem own : ownKnob Tryd.prog.godebug = none := by kernel_rfl
theorem laidOut : laidOutB Tryd.prog = true := by kernel_rfl
theorem gn0 : Tryd.prog.globalNamed "saturate/isa.operations" = some 0 := by kernel_rfl
theorem gt0 : (Tryd.prog.globals[0]?).map (·.type) = some 72 := by kernel_rfl
theorem ge0 : Tryd.prog.cellsOf 71 = 2 := by kernel_rfl
def gtab0_0_pairs : List (List UInt8 × Int) := [([110, 111, 112], 0), ([109, 111, 118, 105], 0), ([109, 111, 118], 1), ([110, 111, 116], 1), ([110, 101, 103], 1), ([97, 110, 100], 2), ([111, 114], 2), ([120, 111, 114], 2), ([97, 100, 100], 2), ([115, 117, 98], 2), ([109, 117, 108], 2), ([100, 105, 118], 2), ([114, 101, 109], 2), ([115, 104, 108], 2), ([115, 104, 114], 2), ([115, 97, 114], 2), ([101, 113], 2), ([117, 108, 116], 2), ([115, 108, 116], 2), ([115, 101, 108], 3)]
theorem table0 {W : World} (h : laidMetH Tryd.prog Rows.execFramesRow.laid W) : ∀ i, i < 20 → W.cell? ⟨0, i * 2, none⟩ = some (.string (gtab0_0 i)) ∧ W.cell? ⟨0, i * 2 + 1, none⟩ = some (.int .i64 (gtab0_1 i)) := fun i hi =>
  pairsIs_of_head (rs := gtab0_0_pairs) (rest := []) gn0 gt0 Tryd.underlying72 Tryd.underlying71 rfl rfl (by kernel_rfl) (by kernel_rfl) (by kernel_rfl) (by kernel_rfl) ge0 h i hi
theorem laidW {W : World} (h : laidMetH Tryd.prog Rows.execFramesRow.laid W) : LaidW W := fun g n fs hg => by
  by_cases h0 : g = 0
  · subst h0
    have e : globF 0 globs = some (20, [.str gtab0_0, .int .i64 gtab0_1]) := rfl
    rw [e] at hg
    obtain ⟨rfl, rfl⟩ := Prod.mk.inj (Option.some.inj hg)
    refine ⟨(cell_spot (table0 h 0 (by decide)).1).2, fun i hi j f hf => ?_⟩
    match j with
    | 0 =>
      obtain rfl := Option.some.inj hf
      exact (table0 h i hi).1
    | 1 =>
      obtain rfl := Option.some.inj hf
      exact (table0 h i hi).2
    | j + 2 => simp at hf
  · have hb : Nat.beq g 0 = false := by
      cases hb : Nat.beq g 0 with
      | true => exact absurd (Nat.eq_of_beq_eq_true hb) h0
      | false => rfl
    have : globF g globs = none := by simp [globF, globs, hb]
    rw [this] at hg; cases hg
noncomputable def laidWorld (os : Os) : World :=
  { World.holding Tryd.prog os ⟨#[], #[], []⟩ with heap := (World.holding Tryd.prog os ⟨#[], #[], []⟩).heap.modify 0 fun
      | .cells _ t frozen => .cells #[.string (gtab0_0 0), .int .i64 (gtab0_1 0), .string (gtab0_0 1), .int .i64 (gtab0_1 1), .string (gtab0_0 2), .int .i64 (gtab0_1 2), .string (gtab0_0 3), .int .i64 (gtab0_1 3), .string (gtab0_0 4), .int .i64 (gtab0_1 4), .string (gtab0_0 5), .int .i64 (gtab0_1 5), .string (gtab0_0 6), .int .i64 (gtab0_1 6), .string (gtab0_0 7), .int .i64 (gtab0_1 7), .string (gtab0_0 8), .int .i64 (gtab0_1 8), .string (gtab0_0 9), .int .i64 (gtab0_1 9), .string (gtab0_0 10), .int .i64 (gtab0_1 10), .string (gtab0_0 11), .int .i64 (gtab0_1 11), .string (gtab0_0 12), .int .i64 (gtab0_1 12), .string (gtab0_0 13), .int .i64 (gtab0_1 13), .string (gtab0_0 14), .int .i64 (gtab0_1 14), .string (gtab0_0 15), .int .i64 (gtab0_1 15), .string (gtab0_0 16), .int .i64 (gtab0_1 16), .string (gtab0_0 17), .int .i64 (gtab0_1 17), .string (gtab0_0 18), .int .i64 (gtab0_1 18), .string (gtab0_0 19), .int .i64 (gtab0_1 19)] t frozen
      | o => o }
theorem laid_met (os : Os) : laidMet Tryd.prog Rows.execFramesRow.laid ((laidWorld os).forCall (fun _ _ => 0) ⟨#[], #[.int .i64 0, .agg #[.int .i64 0, .int .i64 0, .int .i64 0, .int .i64 0, .int .i64 0, .int .u64 0], .slice none 0 0, .int .i64 0, .int .u64 0], []⟩).memory :=
  laidMet_of_run' 8 (by kernel_rfl) (by kernel_rfl)
theorem reads (os : Os) {H : Type} (enc : TypeId × Value → H) : ∃ places, DataW.whole enc Tryd.prog ((laidWorld os).forCall (fun _ _ => 0) ⟨#[], #[.int .i64 0, .agg #[.int .i64 0, .int .i64 0, .int .i64 0, .int .i64 0, .int .i64 0, .int .u64 0], .slice none 0 0, .int .i64 0, .int .u64 0], []⟩).memory Tryd.f9.params.toList Rows.execFramesSpec.vars false #[Value.int .i64 0, Value.agg #[.int .i64 0, .int .i64 0, .int .i64 0, .int .i64 0, .int .i64 0, .int .u64 0], Value.slice none 0 0, Value.int .i64 0, Value.int .u64 0].toList 8 = some ([.lit (.int .i64 0), .agg [.lit (.int .i64 0), .lit (.int .i64 0), .lit (.int .i64 0), .lit (.int .i64 0), .lit (.int .i64 0), .lit (.int .u64 0)], .nil, .lit (.int .i64 0), .lit (.int .u64 0)], [], places) :=
  ⟨[], by kernel_rfl⟩
theorem lifted (os : Os) (started : os.Started) (H : Type) (enc : TypeId × Value → H) (F : Stop.Interp) :
    ReturnsInHanded {} Tryd.checked os 9 .any ((OpenSpec.ofChange Rows.execFramesSpec).preRow enc Tryd.prog Tryd.f9 Rows.execFramesRow.domain false Rows.execFramesRow.laid) (((OpenSpec.ofChange Rows.execFramesSpec).at F).post enc Tryd.prog Tryd.f9 false true false false) := by
  obtain ⟨places, hx⟩ := reads os enc
  refine returnsInHanded_of_row (C := Tryd.checked) (s := OpenSpec.ofChange Rows.execFramesSpec) own started (by kernel_rfl) Tryd.func9
    (witness_row_at (enc := enc) (C := Tryd.checked) false (laidWorld os) #[.int .i64 0, .agg #[.int .i64 0, .int .i64 0, .int .i64 0, .int .i64 0, .int .i64 0, .int .u64 0], .slice none 0 0, .int .i64 0, .int .u64 0] rfl (by kernel_rfl) (by kernel_rfl) (by kernel_rfl)
      (OpenSpec.preRow_of_cond 8 hx (by kernel_rfl) (fun k hk => by cases hk) (by kernel_rfl) (laid_met os))) ?_
  intro W base args ds gs before hval0 hW hcnd _ hsz0 hL _ _
  have hLaid : LaidW W := laidW hL
  have hval : ∀ (j : Nat) t v, Tryd.f9.params[j]? = some t → args[j]? = some v → Value.okWide Tryd.prog W .any base t v := hval0
  have hW' := hW
  obtain ⟨p, q, hA0, hV, rfl, hfz, hnd⟩ := hW
  have hA : DataW.TrodAll enc Tryd.prog W 0 (fun _ => true) true Tryd.f9.params.toList args.toList ds p := hA0
  rw [Tryd.params9] at hA hval
  obtain ⟨v0, vs0, d0, ds0, p0, q0, hargs, rfl, rfl, h0, r0⟩ := trodAll_cons hA
  obtain ⟨v1, vs1, d1, ds1, p1, q1, rfl, rfl, rfl, h1, r1⟩ := trodAll_cons r0
  obtain ⟨v2, vs2, d2, ds2, p2, q2, rfl, rfl, rfl, h2, r2⟩ := trodAll_cons r1
  obtain ⟨v3, vs3, d3, ds3, p3, q3, rfl, rfl, rfl, h3, r3⟩ := trodAll_cons r2
  obtain ⟨v4, vs4, d4, ds4, p4, q4, rfl, rfl, rfl, h4, r4⟩ := trodAll_cons r3
  obtain ⟨rfl, rfl, rfl⟩ := trodAll_nil r4
  obtain rfl : args = #[v0, v1, v2, v3, v4] := by cases args; simp_all
  obtain ⟨rfl, rfl⟩ := trodVars_none hV
  have hw0 : ∀ m ∈ d0.weights Tryd.prog 3, m ≤ reachBytes := fun m hm => by
    have := List.all_eq_true.1 hsz0 m (DataW.weights_mem_each (j := 0) (t := 3) (d := d0) (by kernel_rfl) rfl m hm)
    simpa using this
  have lt0 : ∀ x ∈ p0, x.block < W.heap.size := by obtain ⟨m, hm⟩ := h0; exact DataW.trod_lt m _ _ _ hm
  have o0 := open_arg 8 (ls := [.one (.int .i64)]) (by kernel_rfl) h0 hw0
  obtain ⟨z0, rfl⟩ := okWide_int Tryd.underlying3 (hval 0 3 v0 rfl rfl)
  replace o0 : All2 (LfOk Tryd.prog W) [.one (.int .i64)] [.int .i64 z0] := o0
  obtain ⟨b0_0, m0_0, e0, y0_0, x0_0⟩ := All2.cons o0
  obtain rfl := All2.nil x0_0
  obtain rfl := (List.cons.inj e0).1
  obtain ⟨a0, he0, w0⟩ := y0_0
  cases he0
  have hw1 : ∀ m ∈ d1.weights Tryd.prog 47, m ≤ reachBytes := fun m hm => by
    have := List.all_eq_true.1 hsz0 m (DataW.weights_mem_each (j := 1) (t := 47) (d := d1) (by kernel_rfl) rfl m hm)
    simpa using this
  have lt1 : ∀ x ∈ p1, x.block < W.heap.size := by obtain ⟨m, hm⟩ := h1; exact DataW.trod_lt m _ _ _ hm
  have o1 := open_arg 8 (ls := [.one (.int .i64), .one (.int .i64), .one (.int .i64), .one (.int .i64), .one (.int .i64), .one (.int .u64)]) (by kernel_rfl) h1 hw1
  obtain ⟨cs1, rfl, hs1⟩ := okWide_struct Tryd.underlying47 (hval 1 47 v1 rfl rfl)
  replace o1 : All2 (LfOk Tryd.prog W) [.one (.int .i64), .one (.int .i64), .one (.int .i64), .one (.int .i64), .one (.int .i64), .one (.int .u64)] cs1.toList := o1
  obtain ⟨b1_0, m1_0, e1, y1_0, x1_0⟩ := All2.cons o1
  obtain ⟨b1_1, m1_1, rfl, y1_1, x1_1⟩ := All2.cons x1_0
  obtain ⟨b1_2, m1_2, rfl, y1_2, x1_2⟩ := All2.cons x1_1
  obtain ⟨b1_3, m1_3, rfl, y1_3, x1_3⟩ := All2.cons x1_2
  obtain ⟨b1_4, m1_4, rfl, y1_4, x1_4⟩ := All2.cons x1_3
  obtain ⟨b1_5, m1_5, rfl, y1_5, x1_5⟩ := All2.cons x1_4
  obtain rfl := All2.nil x1_5
  obtain rfl : cs1 = #[b1_0, b1_1, b1_2, b1_3, b1_4, b1_5] := Array.toList_inj.1 e1
  obtain ⟨a1_0, rfl, w1_0⟩ := y1_0
  obtain ⟨a1_1, rfl, w1_1⟩ := y1_1
  obtain ⟨a1_2, rfl, w1_2⟩ := y1_2
  obtain ⟨a1_3, rfl, w1_3⟩ := y1_3
  obtain ⟨a1_4, rfl, w1_4⟩ := y1_4
  obtain ⟨a1_5, rfl, w1_5⟩ := y1_5
  have hw2 : ∀ m ∈ d2.weights Tryd.prog 26, m ≤ reachBytes := fun m hm => by
    have := List.all_eq_true.1 hsz0 m (DataW.weights_mem_each (j := 2) (t := 26) (d := d2) (by kernel_rfl) rfl m hm)
    simpa using this
  have lt2 : ∀ x ∈ p2, x.block < W.heap.size := by obtain ⟨m, hm⟩ := h2; exact DataW.trod_lt m _ _ _ hm
  have o2 := open_arg 8 (ls := [.rows 45 [.int .u64]]) (by kernel_rfl) h2 hw2
  obtain ⟨A2, len2, cap2, rfl⟩ := okWide_slice Tryd.underlying26 (hval 2 26 v2 rfl rfl)
  replace o2 : All2 (LfOk Tryd.prog W) [.rows 45 [.int .u64]] [.slice A2 len2 cap2] := o2
  obtain ⟨b2_0, m2_0, e2, y2_0, x2_0⟩ := All2.cons o2
  obtain rfl := All2.nil x2_0
  obtain rfl := (List.cons.inj e2).1
  obtain ⟨A2, n2, c2, fs2, he2, hb2, hr2, hf2⟩ := y2_0
  cases he2
  obtain ⟨fg2_0, kg2_0, rfl, ⟨g2_0, rfl, wg2_0⟩, hfg2_0⟩ := All2.cons hf2
  obtain rfl := All2.nil hfg2_0
  have hw3 : ∀ m ∈ d3.weights Tryd.prog 3, m ≤ reachBytes := fun m hm => by
    have := List.all_eq_true.1 hsz0 m (DataW.weights_mem_each (j := 3) (t := 3) (d := d3) (by kernel_rfl) rfl m hm)
    simpa using this
  have lt3 : ∀ x ∈ p3, x.block < W.heap.size := by obtain ⟨m, hm⟩ := h3; exact DataW.trod_lt m _ _ _ hm
  have o3 := open_arg 8 (ls := [.one (.int .i64)]) (by kernel_rfl) h3 hw3
  obtain ⟨z3, rfl⟩ := okWide_int Tryd.underlying3 (hval 3 3 v3 rfl rfl)
  replace o3 : All2 (LfOk Tryd.prog W) [.one (.int .i64)] [.int .i64 z3] := o3
  obtain ⟨b3_0, m3_0, e3, y3_0, x3_0⟩ := All2.cons o3
  obtain rfl := All2.nil x3_0
  obtain rfl := (List.cons.inj e3).1
  obtain ⟨a3, he3, w3⟩ := y3_0
  cases he3
  have hw4 : ∀ m ∈ d4.weights Tryd.prog 45, m ≤ reachBytes := fun m hm => by
    have := List.all_eq_true.1 hsz0 m (DataW.weights_mem_each (j := 4) (t := 45) (d := d4) (by kernel_rfl) rfl m hm)
    simpa using this
  have lt4 : ∀ x ∈ p4, x.block < W.heap.size := by obtain ⟨m, hm⟩ := h4; exact DataW.trod_lt m _ _ _ hm
  have o4 := open_arg 8 (ls := [.one (.int .u64)]) (by kernel_rfl) h4 hw4
  obtain ⟨z4, rfl⟩ := okWide_int Tryd.underlying45 (hval 4 45 v4 rfl rfl)
  replace o4 : All2 (LfOk Tryd.prog W) [.one (.int .u64)] [.int .u64 z4] := o4
  obtain ⟨b4_0, m4_0, e4, y4_0, x4_0⟩ := All2.cons o4
  obtain rfl := All2.nil x4_0
  obtain rfl := (List.cons.inj e4).1
  obtain ⟨a4, he4, w4⟩ := y4_0
  cases he4
  have hp := Th.ExecFrames _ _ _ _ _ _ _ (wordsOf len2 g2_0) _ _ w0 w1_0 w1_1 w1_2 w1_3 w1_4 w1_5 (show (wordsOf len2 g2_0).length * 8 ≤ reachBytes by rw [wordsOf_length]; exact hb2) (wfW_words wg2_0) w3 w4
  have hC := saturatelaw49_ExecFrames.con (_, _, _, _, _, ()) true hp
  refine (CallOk.calls (fn := Tryd.f9) (by kernel_rfl) (by kernel_rfl) (by kernel_rfl) (CallOk2.old (hC (hpF W) W #[_, _, .slice A2 len2 cap2, _, _] (hpF_ok W) hLaid (argsRel_of (All2.c (rfl) (All2.c (rfl) (All2.c (words_arg hr2) (All2.c (rfl) (All2.c (rfl) All2.n))))))) (fun v hv => by cases hv))).mono fun e W' hh => ?_
  obtain ⟨y, he, bel, fz', _, _, hy⟩ := hh
  have hy' : y = .bool true := hy
  subst hy'
  subst he
  exact ⟨_, rfl, _, _, _, [], _, [], hW', trodAll_mk1 (shut_bool Tryd.underlying4 _), (trodAll_cons_mk (Below.trod laidOut (by kernel_rfl) (of_decide_eq_true (by kernel_rfl)) h0 bel lt0) (trodAll_cons_mk (Below.trod laidOut (by kernel_rfl) (of_decide_eq_true (by kernel_rfl)) h1 bel lt1) (trodAll_cons_mk (Below.trod laidOut (by kernel_rfl) (of_decide_eq_true (by kernel_rfl)) h2 bel lt2) (trodAll_cons_mk (Below.trod laidOut (by kernel_rfl) (of_decide_eq_true (by kernel_rfl)) h3 bel lt3) (trodAll_cons_mk (Below.trod laidOut (by kernel_rfl) (of_decide_eq_true (by kernel_rfl)) h4 bel lt4) trodAll_mk0))))), rfl, bel.frame _, fun h => by cases h⟩
theorem said : Rows.ExecFramesSaid :=
  OpenClaim.holds_of_cond 9 Tryd.f9 rfl rfl rfl rfl rfl rfl rfl ⟨rfl, rfl, rfl, rfl, rfl⟩ rfl rfl rfl rfl rfl (by kernel_rfl) Tryd.func9 (by kernel_rfl)
    (of_decide_eq_true (by kernel_rfl)) (by unfold Func.isWrapper; first | (rw [if_pos (by decide +kernel)]; kernel_rfl) | (rw [if_neg (by decide +kernel)]; exact ⟨rfl, rfl⟩))
    (fun os started H enc _ F => by rw [OpenClaim.pre_eq_preRow]; exact lifted os started H enc F)
theorem plain (f : FuncId) (fn : Func) (hf : Tryd.pinned.checked.prog.funcNamed "saturate/saturatelaw49.ExecFrames" = some f) (hfn : Tryd.pinned.checked.prog.funcs[f]? = some fn) :
    true = Tryd.pinned.checked.prog.looks [] ∧ ∀ (j : Nat) t, fn.params[j]? = some t → Tryd.pinned.checked.prog.wantsStandIn t = false := by
  obtain rfl : f = 9 := Option.some.inj ((show Tryd.prog.funcNamed "saturate/saturatelaw49.ExecFrames" = some 9 by kernel_rfl).symm.trans hf) |>.symm
  obtain rfl : fn = Tryd.f9 := (Option.some.inj (Tryd.func9.symm.trans hfn)).symm
  refine ⟨by kernel_rfl, fun j t ht => ?_⟩
  rw [Tryd.params9] at ht
  have hm := Array.mem_of_getElem? ht
  have hall : ∀ t ∈ [3, 47, 26, 3, 45], Tryd.prog.wantsStandIn t = false := by
    intro t ht
    simp only [List.mem_cons, List.not_mem_nil, or_false] at ht
    rcases ht with rfl | rfl | rfl | rfl | rfl
    · kernel_rfl
    · kernel_rfl
    · kernel_rfl
    · kernel_rfl
    · kernel_rfl
  exact hall t (by simpa using hm)
theorem card : Rows.ExecFramesCardSaid :=
  Claim7.holds_tied_plain_at .later [] _ _ _ _ said (fun _ h => by cases h) (by kernel_rfl) (fun _ h => by cases h) execFrames_row_tie rfl ⟨rfl, rfl⟩ (by kernel_rfl) rfl plain (by kernel_rfl)
#print axioms card
end Go.Proofs.YtkmehmlcccdnbaaDoor.execFrames
namespace Go.Proofs.YtkmehmlcccdnbaaDoor
/-- The card, under a short name, for the claim. -/
theorem execFrames_card : Rows.ExecFramesCardSaid := execFrames.card
end Go.Proofs.YtkmehmlcccdnbaaDoor
