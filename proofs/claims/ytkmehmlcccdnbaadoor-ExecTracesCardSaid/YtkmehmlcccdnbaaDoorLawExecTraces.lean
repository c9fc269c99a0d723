/- ExecTraces: the function returns true whatever its input, and what it was given reads as it did. No condition. -/
import Derived.Test.YtkmehmlcccdnbaaDoorRows
import Derived.Test.YtkmehmlcccdnbaaDoorChecked
import Derived.Test.YtkmehmlcccdnbaaDoorThExecTraces
import Derived.Test.YtkmehmlcccdnbaaDoorCards
import Derived.Test.YtkmehmlcccdnbaaDoorTie
import Derived.Deep.DeepHandedRow
import Derived.Lib.LaidTab
import Derived.Test.YtkmehmlcccdnbaaDoorLay
import Derived.WalkKit
import Derived.ProofKit
import Derived.OpenShut
import Derived.ShutString
import Derived.ChangeOld
import Derived.Below
import Derived.SizedLaws
namespace Go.Proofs.YtkmehmlcccdnbaaDoor.execTraces
open Go Go.ChangeShapes Go.WideShapes Go.ChangeAt Go.RowKit Go.Proofs.YtkmehmlcccdnbaaDoor.Ev Go.Proofs.YtkmehmlcccdnbaaDoor.Fn
set_option linter.unusedVariables false
set_option maxRecDepth 100000
theorem own : ownKnob Tryd.prog.godebug = none := by kernel_rfl
theorem laidOut : laidOutB Tryd.prog = true := by kernel_rfl
theorem gn0 : Tryd.prog.globalNamed "saturate/isa.operations" = some 0 := by kernel_rfl
theorem gt0 : (Tryd.prog.globals[0]?).map (·.type) = some 72 := by kernel_rfl
theorem ge0 : Tryd.prog.cellsOf 71 = 2 := by kernel_rfl
def gtab0_0_pairs : List (List UInt8 × Int) := [([110, 111, 112], 0), ([109, 111, 118, 105], 0), ([109, 111, 118], 1), ([110, 111, 116], 1), ([110, 101, 103], 1), ([97, 110, 100], 2), ([111, 114], 2), ([120, 111, 114], 2), ([97, 100, 100], 2), ([115, 117, 98], 2), ([109, 117, 108], 2), ([100, 105, 118], 2), ([114, 101, 109], 2), ([115, 104, 108], 2), ([115, 104, 114], 2), ([115, 97, 114], 2), ([101, 113], 2), ([117, 108, 116], 2), ([115, 108, 116], 2), ([115, 101, 108], 3)]
theorem table0 {W : World} (h : laidMetH Tryd.prog Rows.execTracesRow.laid W) : ∀ i, i < 20 → W.cell? ⟨0, i * 2, none⟩ = some (.string (gtab0_0 i)) ∧ W.cell? ⟨0, i * 2 + 1, none⟩ = some (.int .i64 (gtab0_1 i)) := fun i hi =>
  pairsIs_of_head (rs := gtab0_0_pairs) (rest := []) gn0 gt0 Tryd.underlying72 Tryd.underlying71 rfl rfl (by kernel_rfl) (by kernel_rfl) (by kernel_rfl) (by kernel_rfl) ge0 h i hi
theorem laidW {W : World} (h : laidMetH Tryd.prog Rows.execTracesRow.laid W) : LaidW W := fun g n fs hg => by
  by_cases h0 : g = 0
  · subst h0
    have e : globF 0 globs = some (20, [.str gtab0_0, .int .i64 gtab0_1]) := rfl
    rw [e] at hg
    obtain ⟨rfl, rfl⟩ := Prod.mk.inj (Option.some.inj hg)
    refine ⟨(cell_spot (table0 h 0 (by decide)).1).2, fun i hi j f hf => ?_⟩
    match j with
    | 0 =>
      obtain rfl := Option.some.inj hf
      exact (table0 h i hi).1
    | 1 =>
      obtain rfl := Option.some.inj hf
      exact (table0 h i hi).2
    | j + 2 => simp at hf
  · have hb : Nat.beq g 0 = false := by
      cases hb : Nat.beq g 0 with
      | true => exact absurd (Nat.eq_of_beq_eq_true hb) h0
      | false => rfl
    have : globF g globs = none := by simp [globF, globs, hb]
    rw [this] at hg; cases hg
noncomputable def laidWorld (os : Os) : World :=
  { World.holding Tryd.prog os ⟨#[], #[], []⟩ with heap := (World.holding Tryd.prog os ⟨#[], #[], []⟩).heap.modify 0 fun
      | .cells _ t frozen => .cells #[.string (gtab0_0 0), .int .i64 (gtab0_1 0), .string (gtab0_0 1), .int .i64 (gtab0_1 1), .string (gtab0_0 2), .int .i64 (gtab0_1 2), .string (gtab0_0 3), .int .i64 (gtab0_1 3), .string (gtab0_0 4), .int .i64 (gtab0_1 4), .string (gtab0_0 5), .int .i64 (gtab0_1 5), .string (gtab0_0 6), .int .i64 (gtab0_1 6), .string (gtab0_0 7), .int .i64 (gtab0_1 7), .string (gtab0_0 8), .int .i64 (gtab0_1 8), .string (gtab0_0 9), .int .i64 (gtab0_1 9), .string (gtab0_0 10), .int .i64 (gtab0_1 10), .string (gtab0_0 11), .int .i64 (gtab0_1 11), .string (gtab0_0 12), .int .i64 (gtab0_1 12), .string (gtab0_0 13), .int .i64 (gtab0_1 13), .string (gtab0_0 14), .int .i64 (gtab0_1 14), .string (gtab0_0 15), .int .i64 (gtab0_1 15), .string (gtab0_0 16), .int .i64 (gtab0_1 16), .string (gtab0_0 17), .int .i64 (gtab0_1 17), .string (gtab0_0 18), .int .i64 (gtab0_1 18), .string (gtab0_0 19), .int .i64 (gtab0_1 19)] t frozen
      | o => o }
theorem laid_met (os : Os) : laidMet Tryd.prog Rows.execTracesRow.laid ((laidWorld os).forCall (fun _ _ => 0) ⟨#[], #[.agg #[.int .i64 0, .int .i64 0, .slice none 0 0, .slice none 0 0], .slice none 0 0], []⟩).memory :=
  laidMet_of_run' 8 (by kernel_rfl) (by kernel_rfl)
theorem reads (os : Os) {H : Type} (enc : TypeId × Value → H) : ∃ places, DataW.whole enc Tryd.prog ((laidWorld os).forCall (fun _ _ => 0) ⟨#[], #[.agg #[.int .i64 0, .int .i64 0, .slice none 0 0, .slice none 0 0], .slice none 0 0], []⟩).memory Tryd.f8.params.toList Rows.execTracesSpec.vars false #[Value.agg #[.int .i64 0, .int .i64 0, .slice none 0 0, .slice none 0 0], Value.slice none 0 0].toList 8 = some ([.agg [.lit (.int .i64 0), .lit (.int .i64 0), .nil, .nil], .nil], [], places) :=
  ⟨[], by kernel_rfl⟩
theorem lifted (os : Os) (started : os.Started) (H : Type) (enc : TypeId × Value → H) (F : Stop.Interp) :
    ReturnsInHanded {} Tryd.checked os 8 .any ((OpenSpec.ofChange Rows.execTracesSpec).preRow enc Tryd.prog Tryd.f8 Rows.execTracesRow.domain false Rows.execTracesRow.laid) (((OpenSpec.ofChange Rows.execTracesSpec).at F).post enc Tryd.prog Tryd.f8 false true false false) := by
  obtain ⟨places, hx⟩ := reads os enc
  refine returnsInHanded_of_row (C := Tryd.checked) (s := OpenSpec.ofChange Rows.execTracesSpec) own started (by kernel_rfl) Tryd.func8
    (witness_row_at (enc := enc) (C := Tryd.checked) false (laidWorld os) #[.agg #[.int .i64 0, .int .i64 0, .slice none 0 0, .slice none 0 0], .slice none 0 0] rfl (by kernel_rfl) (by kernel_rfl) (by kernel_rfl)
      (OpenSpec.preRow_of_cond 8 hx (by kernel_rfl) (fun k hk => by cases hk) (by kernel_rfl) (laid_met os))) ?_
  intro W base args ds gs before hval0 hW hcnd _ hsz0 hL _ _
  have hLaid : LaidW W := laidW hL
  have hval : ∀ (j : Nat) t v, Tryd.f8.params[j]? = some t → args[j]? = some v → Value.okWide Tryd.prog W .any base t v := hval0
  have hW' := hW
  obtain ⟨p, q, hA0, hV, rfl, hfz, hnd⟩ := hW
  have hA : DataW.TrodAll enc Tryd.prog W 0 (fun _ => true) true Tryd.f8.params.toList args.toList ds p := hA0
  rw [Tryd.params8] at hA hval
  obtain ⟨v0, vs0, d0, ds0, p0, q0, hargs, rfl, rfl, h0, r0⟩ := trodAll_cons hA
  obtain ⟨v1, vs1, d1, ds1, p1, q1, rfl, rfl, rfl, h1, r1⟩ := trodAll_cons r0
  obtain ⟨rfl, rfl, rfl⟩ := trodAll_nil r1
  obtain rfl : args = #[v0, v1] := by cases args; simp_all
  obtain ⟨rfl, rfl⟩ := trodVars_none hV
  have hw0 : ∀ m ∈ d0.weights Tryd.prog 25, m ≤ reachBytes := fun m hm => by
    have := List.all_eq_true.1 hsz0 m (DataW.weights_mem_each (j := 0) (t := 25) (d := d0) (by kernel_rfl) rfl m hm)
    simpa using this
  have lt0 : ∀ x ∈ p0, x.block < W.heap.size := by obtain ⟨m, hm⟩ := h0; exact DataW.trod_lt m _ _ _ hm
  have o0 := open_arg 8 (ls := [.one (.int .i64), .one (.int .i64), .rows 47 [.int .i64, .int .i64, .int .i64, .int .i64, .int .i64, .int .u64], .rows 3 [.int .i64]]) (by kernel_rfl) h0 hw0
  obtain ⟨cs0, rfl, hs0⟩ := okWide_struct Tryd.underlying25 (hval 0 25 v0 rfl rfl)
  replace o0 : All2 (LfOk Tryd.prog W) [.one (.int .i64), .one (.int .i64), .rows 47 [.int .i64, .int .i64, .int .i64, .int .i64, .int .i64, .int .u64], .rows 3 [.int .i64]] cs0.toList := o0
  obtain ⟨b0_0, m0_0, e0, y0_0, x0_0⟩ := All2.cons o0
  obtain ⟨b0_1, m0_1, rfl, y0_1, x0_1⟩ := All2.cons x0_0
  obtain ⟨b0_2, m0_2, rfl, y0_2, x0_2⟩ := All2.cons x0_1
  obtain ⟨b0_3, m0_3, rfl, y0_3, x0_3⟩ := All2.cons x0_2
  obtain rfl := All2.nil x0_3
  obtain rfl : cs0 = #[b0_0, b0_1, b0_2, b0_3] := Array.toList_inj.1 e0
  obtain ⟨a0_0, rfl, w0_0⟩ := y0_0
  obtain ⟨a0_1, rfl, w0_1⟩ := y0_1
  obtain ⟨A0_2, n0_2, c0_2, fs0_2, rfl, hb0_2, hr0_2, hf0_2⟩ := y0_2
  obtain ⟨fg0_2_0, kg0_2_0, rfl, ⟨g0_2_0, rfl, wg0_2_0⟩, hfg0_2_0⟩ := All2.cons hf0_2
  obtain ⟨fg0_2_1, kg0_2_1, rfl, ⟨g0_2_1, rfl, wg0_2_1⟩, hfg0_2_1⟩ := All2.cons hfg0_2_0
  obtain ⟨fg0_2_2, kg0_2_2, rfl, ⟨g0_2_2, rfl, wg0_2_2⟩, hfg0_2_2⟩ := All2.cons hfg0_2_1
  obtain ⟨fg0_2_3, kg0_2_3, rfl, ⟨g0_2_3, rfl, wg0_2_3⟩, hfg0_2_3⟩ := All2.cons hfg0_2_2
  obtain ⟨fg0_2_4, kg0_2_4, rfl, ⟨g0_2_4, rfl, wg0_2_4⟩, hfg0_2_4⟩ := All2.cons hfg0_2_3
  obtain ⟨fg0_2_5, kg0_2_5, rfl, ⟨g0_2_5, rfl, wg0_2_5⟩, hfg0_2_5⟩ := All2.cons hfg0_2_4
  obtain rfl := All2.nil hfg0_2_5
  obtain ⟨A0_3, n0_3, c0_3, fs0_3, rfl, hb0_3, hr0_3, hf0_3⟩ := y0_3
  obtain ⟨fg0_3_0, kg0_3_0, rfl, ⟨g0_3_0, rfl, wg0_3_0⟩, hfg0_3_0⟩ := All2.cons hf0_3
  obtain rfl := All2.nil hfg0_3_0
  have hw1 : ∀ m ∈ d1.weights Tryd.prog 26, m ≤ reachBytes := fun m hm => by
    have := List.all_eq_true.1 hsz0 m (DataW.weights_mem_each (j := 1) (t := 26) (d := d1) (by kernel_rfl) rfl m hm)
    simpa using this
  have lt1 : ∀ x ∈ p1, x.block < W.heap.size := by obtain ⟨m, hm⟩ := h1; exact DataW.trod_lt m _ _ _ hm
  have o1 := open_arg 8 (ls := [.rows 45 [.int .u64]]) (by kernel_rfl) h1 hw1
  obtain ⟨A1, len1, cap1, rfl⟩ := okWide_slice Tryd.underlying26 (hval 1 26 v1 rfl rfl)
  replace o1 : All2 (LfOk Tryd.prog W) [.rows 45 [.int .u64]] [.slice A1 len1 cap1] := o1
  obtain ⟨b1_0, m1_0, e1, y1_0, x1_0⟩ := All2.cons o1
  obtain rfl := All2.nil x1_0
  obtain rfl := (List.cons.inj e1).1
  obtain ⟨A1, n1, c1, fs1, he1, hb1, hr1, hf1⟩ := y1_0
  cases he1
  obtain ⟨fg1_0, kg1_0, rfl, ⟨g1_0, rfl, wg1_0⟩, hfg1_0⟩ := All2.cons hf1
  obtain rfl := All2.nil hfg1_0
  have hp := Th.ExecTraces _ _ _ _ _ _ _ _ _ _ _ (wordsOf len1 g1_0) w0_0 w0_1 (show n0_2 * 48 ≤ reachBytes from hb0_2) wg0_2_0 wg0_2_1 wg0_2_2 wg0_2_3 wg0_2_4 wg0_2_5 (show n0_3 * 8 ≤ reachBytes from hb0_3) wg0_3_0 (show (wordsOf len1 g1_0).length * 8 ≤ reachBytes by rw [wordsOf_length]; exact hb1) (wfW_words wg1_0)
  have hC := saturatelaw49_ExecTraces.con (_, _, ()) true hp
  refine (CallOk.calls (fn := Tryd.f8) (by kernel_rfl) (by kernel_rfl) (by kernel_rfl) (CallOk2.old (hC (hpF W) W #[_, .slice A1 len1 cap1] (hpF_ok W) hLaid (argsRel_of (All2.c (pk_args (All2.c (rfl) (All2.c (rfl) (All2.c (⟨_, _, rfl, hr0_2⟩) (All2.c (⟨_, _, rfl, hr0_3⟩) All2.n))))) (All2.c (words_arg hr1) All2.n)))) (fun v hv => by cases hv))).mono fun e W' hh => ?_
  obtain ⟨y, he, bel, fz', _, _, hy⟩ := hh
  have hy' : y = .bool true := hy
  subst hy'
  subst he
  exact ⟨_, rfl, _, _, _, [], _, [], hW', trodAll_mk1 (shut_bool Tryd.underlying4 _), (trodAll_cons_mk (Below.trod laidOut (by kernel_rfl) (of_decide_eq_true (by kernel_rfl)) h0 bel lt0) (trodAll_cons_mk (Below.trod laidOut (by kernel_rfl) (of_decide_eq_true (by kernel_rfl)) h1 bel lt1) trodAll_mk0)), rfl, bel.frame _, fun h => by cases h⟩
theorem said : Rows.ExecTracesSaid :=
  OpenClaim.holds_of_cond 8 Tryd.f8 rfl rfl rfl rfl rfl rfl rfl ⟨rfl, rfl, rfl, rfl, rfl⟩ rfl rfl rfl rfl rfl (by kernel_rfl) Tryd.func8 (by kernel_rfl)
    (of_decide_eq_true (by kernel_rfl)) (by unfold Func.isWrapper; first | (rw [if_pos (by decide +kernel)]; kernel_rfl) | (rw [if_neg (by decide +kernel)]; exact ⟨rfl, rfl⟩))
    (fun os started H enc _ F => by rw [OpenClaim.pre_eq_preRow]; exact lifted os started H enc F)
theorem plain (f : FuncId) (fn : Func) (hf : Tryd.pinned.checked.prog.funcNamed "saturate/saturatelaw49.ExecTraces" = some f) (hfn : Tryd.pinned.checked.prog.funcs[f]? = some fn) :
    true = Tryd.pinned.checked.prog.looks [] ∧ ∀ (j : Nat) t, fn.params[j]? = some t → Tryd.pinned.checked.prog.wantsStandIn t = false := by
  obtain rfl : f = 8 := Option.some.inj ((show Tryd.prog.funcNamed "saturate/saturatelaw49.ExecTraces" = some 8 by kernel_rfl).symm.trans hf) |>.symm
  obtain rfl : fn = Tryd.f8 := (Option.some.inj (Tryd.func8.symm.trans hfn)).symm
  refine ⟨by kernel_rfl, fun j t ht => ?_⟩
  rw [Tryd.params8] at ht
  have hm := Array.mem_of_getElem? ht
  have hall : ∀ t ∈ [25, 26], Tryd.prog.wantsStandIn t = false := by
    intro t ht
    simp only [List.mem_cons, List.not_mem_nil, or_false] at ht
    rcases ht with rfl | rfl
    · kernel_rfl
    · kernel_rfl
  exact hall t (by simpa using hm)
theorem card : Rows.ExecTracesCardSaid :=
  Claim7.holds_tied_plain_at .later [] _ _ _ _ said (fun _ h => by cases h) (by kernel_rfl) (fun _ h => by cases h) execTraces_row_tie rfl ⟨rfl, rfl⟩ (by kernel_rfl) rfl plain (by kernel_rfl)
#print axioms card
end Go.Proofs.YtkmehmlcccdnbaaDoor.execTraces
namespace Go.Proofs.YtkmehmlcccdnbaaDoor
/-- The card, under a short name, for the claim. -/
theorem execTraces_card : Rows.ExecTracesCardSaid := execTraces.card
end Go.Proofs.YtkmehmlcccdnbaaDoor
