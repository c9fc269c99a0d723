/- OpinfoBack: the function returns true whatever its input, and what it was given reads as it did. No condition. -/
import Derived.Test.YtpdnbcablofgiaaDoorRows
import Derived.Test.YtpdnbcablofgiaaDoorChecked
import Derived.Test.YtpdnbcablofgiaaDoorThOpinfoBack
import Derived.Test.YtpdnbcablofgiaaDoorCards
import Derived.Test.YtpdnbcablofgiaaDoorTie
import Derived.Deep.DeepHandedRow
import Derived.Lib.LaidTab
import Derived.Test.YtpdnbcablofgiaaDoorLay
import Derived.WalkKit
import Derived.ProofKit
import Derived.OpenShut
import Derived.ShutString
import Derived.ChangeOld
import Derived.Below
import Derived.SizedLaws
namespace Go.Proofs.YtpdnbcablofgiaaDoor.opinfoBack
open Go Go.ChangeShapes Go.WideShapes Go.ChangeAt Go.RowKit Go.Proofs.YtpdnbcablofgiaaDoor.Ev Go.Proofs.YtpdnbcablofgiaaDoor.Fn
set_option linter.unusedVariables false
set_option maxRecDepth 100000
theorem own : ownKnob Tryd.prog.godebug = none := by kernel_rfl
theorem laidOut : laidOutB Tryd.prog = true := by kernel_rfl
theorem gn0 : Tryd.prog.globalNamed "saturate/opinfo.names" = some 0 := by kernel_rfl
theorem gt0 : (Tryd.prog.globals[0]?).map (·.type) = some 29 := by kernel_rfl
theorem gc0 : Tryd.prog.cellsOf 29 = 27 := by kernel_rfl
theorem ge0 : Tryd.prog.cellsOf 9 = 1 := by kernel_rfl
def gtab0_0_bytes : List (List UInt8) := [[], [118, 97, 114], [99, 111, 110, 115, 116], [110, 111, 116], [110, 101, 103], [97, 110, 100], [111, 114], [120, 111, 114], [97, 100, 100], [115, 117, 98], [109, 117, 108], [117, 100, 105, 118], [117, 114, 101, 109], [115, 104, 108], [108, 115, 104, 114], [97, 115, 104, 114], [101, 113], [117, 108, 116], [115, 108, 116], [105, 116, 101], [99, 111, 110, 99, 97, 116], [101, 120, 116, 114, 97, 99, 116], [122, 101, 120, 116], [115, 101, 120, 116], [104, 111, 108, 101], [110, 117, 109], [101, 118, 97, 108]]
theorem table0 {W : World} (h : laidMetH Tryd.prog Rows.opinfoBackRow.laid W) : ∀ i, i < 27 → W.cell? ⟨0, i, none⟩ = some (.string (gtab0_0 i)) := fun i hi =>
  strsIs_of_head (bs := gtab0_0_bytes) (rest := []) gn0 gt0 Tryd.underlying29 Tryd.underlying9 ge0 gc0 h i hi
theorem laidW {W : World} (h : laidMetH Tryd.prog Rows.opinfoBackRow.laid W) : LaidW W := fun g n fs hg => by
  by_cases h0 : g = 0
  · subst h0
    have e : globF 0 globs = some (27, [.str gtab0_0]) := rfl
    rw [e] at hg
    obtain ⟨rfl, rfl⟩ := Prod.mk.inj (Option.some.inj hg)
    refine ⟨(cell_spot (table0 h 0 (by decide))).2, fun i hi j f hf => ?_⟩
    cases j with
    | zero =>
      obtain rfl := Option.some.inj hf
      rw [show i * [Fld.str gtab0_0].length + 0 = i by simp]
      exact table0 h i hi
    | succ j => simp at hf
  · have hb : Nat.beq g 0 = false := by
      cases hb : Nat.beq g 0 with
      | true => exact absurd (Nat.eq_of_beq_eq_true hb) h0
      | false => rfl
    have : globF g globs = none := by simp [globF, globs, hb]
    rw [this] at hg; cases hg
noncomputable def laidWorld (os : Os) : World :=
  { World.holding Tryd.prog os ⟨#[], #[], []⟩ with heap := (World.holding Tryd.prog os ⟨#[], #[], []⟩).heap.modify 0 fun
      | .cells _ t frozen => .cells #[.string (gtab0_0 0), .string (gtab0_0 1), .string (gtab0_0 2), .string (gtab0_0 3), .string (gtab0_0 4), .string (gtab0_0 5), .string (gtab0_0 6), .string (gtab0_0 7), .string (gtab0_0 8), .string (gtab0_0 9), .string (gtab0_0 10), .string (gtab0_0 11), .string (gtab0_0 12), .string (gtab0_0 13), .string (gtab0_0 14), .string (gtab0_0 15), .string (gtab0_0 16), .string (gtab0_0 17), .string (gtab0_0 18), .string (gtab0_0 19), .string (gtab0_0 20), .string (gtab0_0 21), .string (gtab0_0 22), .string (gtab0_0 23), .string (gtab0_0 24), .string (gtab0_0 25), .string (gtab0_0 26)] t frozen
      | o => o }
theorem laid_met (os : Os) : laidMet Tryd.prog Rows.opinfoBackRow.laid ((laidWorld os).forCall (fun _ _ => 0) ⟨#[], #[.int .i64 0, .int .i64 0, .string ⟨#[]⟩], []⟩).memory :=
  laidMet_of_run' 8 (by kernel_rfl) (by kernel_rfl)
theorem reads (os : Os) {H : Type} (enc : TypeId × Value → H) : ∃ places, DataW.whole enc Tryd.prog ((laidWorld os).forCall (fun _ _ => 0) ⟨#[], #[.int .i64 0, .int .i64 0, .string ⟨#[]⟩], []⟩).memory Tryd.f4.params.toList Rows.opinfoBackSpec.vars false #[Value.int .i64 0, Value.int .i64 0, Value.string ⟨#[]⟩].toList 8 = some ([.lit (.int .i64 0), .lit (.int .i64 0), .lit (.string [])], [], places) :=
  ⟨[], by kernel_rfl⟩
theorem lifted (os : Os) (started : os.Started) (H : Type) (enc : TypeId × Value → H) (F : Stop.Interp) :
    ReturnsInHanded {} Tryd.checked os 4 .any ((OpenSpec.ofChange Rows.opinfoBackSpec).preRow enc Tryd.prog Tryd.f4 Rows.opinfoBackRow.domain false Rows.opinfoBackRow.laid) (((OpenSpec.ofChange Rows.opinfoBackSpec).at F).post enc Tryd.prog Tryd.f4 false true false false) := by
  obtain ⟨places, hx⟩ := reads os enc
  refine returnsInHanded_of_row (C := Tryd.checked) (s := OpenSpec.ofChange Rows.opinfoBackSpec) own started (by kernel_rfl) Tryd.func4
    (witness_row_at (enc := enc) (C := Tryd.checked) false (laidWorld os) #[.int .i64 0, .int .i64 0, .string ⟨#[]⟩] rfl (by kernel_rfl) (by kernel_rfl) (by kernel_rfl)
      (OpenSpec.preRow_of_cond 8 hx (by kernel_rfl) (fun k hk => by cases hk) (by kernel_rfl) (laid_met os))) ?_
  intro W base args ds gs before hval0 hW hcnd _ hsz0 hL _ _
  have hLaid : LaidW W := laidW hL
  have hval : ∀ (j : Nat) t v, Tryd.f4.params[j]? = some t → args[j]? = some v → Value.okWide Tryd.prog W .any base t v := hval0
  have hW' := hW
  obtain ⟨p, q, hA0, hV, rfl, hfz, hnd⟩ := hW
  have hA : DataW.TrodAll enc Tryd.prog W 0 (fun _ => true) true Tryd.f4.params.toList args.toList ds p := hA0
  rw [Tryd.params4] at hA hval
  obtain ⟨v0, vs0, d0, ds0, p0, q0, hargs, rfl, rfl, h0, r0⟩ := trodAll_cons hA
  obtain ⟨v1, vs1, d1, ds1, p1, q1, rfl, rfl, rfl, h1, r1⟩ := trodAll_cons r0
  obtain ⟨v2, vs2, d2, ds2, p2, q2, rfl, rfl, rfl, h2, r2⟩ := trodAll_cons r1
  obtain ⟨rfl, rfl, rfl⟩ := trodAll_nil r2
  obtain rfl : args = #[v0, v1, v2] := by cases args; simp_all
  obtain ⟨rfl, rfl⟩ := trodVars_none hV
  have hw0 : ∀ m ∈ d0.weights Tryd.prog 22, m ≤ reachBytes := fun m hm => by
    have := List.all_eq_true.1 hsz0 m (DataW.weights_mem_each (j := 0) (t := 22) (d := d0) (by kernel_rfl) rfl m hm)
    simpa using this
  have lt0 : ∀ x ∈ p0, x.block < W.heap.size := by obtain ⟨m, hm⟩ := h0; exact DataW.trod_lt m _ _ _ hm
  have o0 := open_arg 8 (ls := [.one (.int .i64)]) (by kernel_rfl) h0 hw0
  obtain ⟨z0, rfl⟩ := okWide_int Tryd.underlying22 (hval 0 22 v0 rfl rfl)
  replace o0 : All2 (LfOk Tryd.prog W) [.one (.int .i64)] [.int .i64 z0] := o0
  obtain ⟨b0_0, m0_0, e0, y0_0, x0_0⟩ := All2.cons o0
  obtain rfl := All2.nil x0_0
  obtain rfl := (List.cons.inj e0).1
  obtain ⟨a0, he0, w0⟩ := y0_0
  cases he0
  have hw1 : ∀ m ∈ d1.weights Tryd.prog 22, m ≤ reachBytes := fun m hm => by
    have := List.all_eq_true.1 hsz0 m (DataW.weights_mem_each (j := 1) (t := 22) (d := d1) (by kernel_rfl) rfl m hm)
    simpa using this
  have lt1 : ∀ x ∈ p1, x.block < W.heap.size := by obtain ⟨m, hm⟩ := h1; exact DataW.trod_lt m _ _ _ hm
  have o1 := open_arg 8 (ls := [.one (.int .i64)]) (by kernel_rfl) h1 hw1
  obtain ⟨z1, rfl⟩ := okWide_int Tryd.underlying22 (hval 1 22 v1 rfl rfl)
  replace o1 : All2 (LfOk Tryd.prog W) [.one (.int .i64)] [.int .i64 z1] := o1
  obtain ⟨b1_0, m1_0, e1, y1_0, x1_0⟩ := All2.cons o1
  obtain rfl := All2.nil x1_0
  obtain rfl := (List.cons.inj e1).1
  obtain ⟨a1, he1, w1⟩ := y1_0
  cases he1
  have hw2 : ∀ m ∈ d2.weights Tryd.prog 9, m ≤ reachBytes := fun m hm => by
    have := List.all_eq_true.1 hsz0 m (DataW.weights_mem_each (j := 2) (t := 9) (d := d2) (by kernel_rfl) rfl m hm)
    simpa using this
  have lt2 : ∀ x ∈ p2, x.block < W.heap.size := by obtain ⟨m, hm⟩ := h2; exact DataW.trod_lt m _ _ _ hm
  have o2 := open_arg 8 (ls := [.one (.str)]) (by kernel_rfl) h2 hw2
  obtain ⟨z2, rfl⟩ := okWide_string Tryd.underlying9 (hval 2 9 v2 rfl rfl)
  replace o2 : All2 (LfOk Tryd.prog W) [.one (.str)] [.string z2] := o2
  obtain ⟨b2_0, m2_0, e2, y2_0, x2_0⟩ := All2.cons o2
  obtain rfl := All2.nil x2_0
  obtain rfl := (List.cons.inj e2).1
  obtain ⟨a2, he2⟩ := y2_0
  cases he2
  have hp := Th.OpinfoBack _ _ z2 w0 w1
  have hC := saturatelaw04_OpinfoBack.con (_, _, _, ()) true hp
  refine (CallOk.calls (fn := Tryd.f4) (by kernel_rfl) (by kernel_rfl) (by kernel_rfl) (hC W #[_, _, _] hLaid (argsRel_of (All2.c (rfl) (All2.c (rfl) (All2.c (rfl) All2.n)))))).mono fun e W' hh => ?_
  obtain ⟨y, he, bel, hy⟩ := hh
  have hy' : y = .bool true := hy
  subst hy'
  subst he
  exact ⟨_, rfl, _, _, _, [], _, [], hW', trodAll_mk1 (shut_bool Tryd.underlying4 _), (trodAll_cons_mk (Below.trod laidOut (by kernel_rfl) (of_decide_eq_true (by kernel_rfl)) h0 bel lt0) (trodAll_cons_mk (Below.trod laidOut (by kernel_rfl) (of_decide_eq_true (by kernel_rfl)) h1 bel lt1) (trodAll_cons_mk (Below.trod laidOut (by kernel_rfl) (of_decide_eq_true (by kernel_rfl)) h2 bel lt2) trodAll_mk0))), rfl, bel.frame _, fun h => by cases h⟩
theorem said : Rows.OpinfoBackSaid :=
  OpenClaim.holds_of_cond 4 Tryd.f4 rfl rfl rfl rfl rfl rfl rfl ⟨rfl, rfl, rfl, rfl, rfl⟩ rfl rfl rfl rfl rfl (by kernel_rfl) Tryd.func4 (by kernel_rfl)
    (of_decide_eq_true (by kernel_rfl)) (by unfold Func.isWrapper; first | (rw [if_pos (by decide +kernel)]; kernel_rfl) | (rw [if_neg (by decide +kernel)]; exact ⟨rfl, rfl⟩))
    (fun os started H enc _ F => by rw [OpenClaim.pre_eq_preRow]; exact lifted os started H enc F)
theorem plain (f : FuncId) (fn : Func) (hf : Tryd.pinned.checked.prog.funcNamed "saturate/saturatelaw04.OpinfoBack" = some f) (hfn : Tryd.pinned.checked.prog.funcs[f]? = some fn) :
    false = Tryd.pinned.checked.prog.looks [] ∧ ∀ (j : Nat) t, fn.params[j]? = some t → Tryd.pinned.checked.prog.wantsStandIn t = false := by
  obtain rfl : f = 4 := Option.some.inj ((show Tryd.prog.funcNamed "saturate/saturatelaw04.OpinfoBack" = some 4 by kernel_rfl).symm.trans hf) |>.symm
  obtain rfl : fn = Tryd.f4 := (Option.some.inj (Tryd.func4.symm.trans hfn)).symm
  refine ⟨by kernel_rfl, fun j t ht => ?_⟩
  rw [Tryd.params4] at ht
  have hm := Array.mem_of_getElem? ht
  have hall : ∀ t ∈ [22, 22, 9], Tryd.prog.wantsStandIn t = false := by
    intro t ht
    simp only [List.mem_cons, List.not_mem_nil, or_false] at ht
    rcases ht with rfl | rfl | rfl
    · kernel_rfl
    · kernel_rfl
    · kernel_rfl
  exact hall t (by simpa using hm)
theorem card : Rows.OpinfoBackCardSaid :=
  Claim7.holds_tied_plain_at .later [] _ _ _ _ said (fun _ h => by cases h) (by kernel_rfl) (fun _ h => by cases h) opinfoBack_row_tie rfl ⟨rfl, rfl⟩ (by kernel_rfl) rfl plain (by kernel_rfl)
#print axioms card
end Go.Proofs.YtpdnbcablofgiaaDoor.opinfoBack
namespace Go.Proofs.YtpdnbcablofgiaaDoor
/-- The card, under a short name, for the claim. -/
theorem opinfoBack_card : Rows.OpinfoBackCardSaid := opinfoBack.card
end Go.Proofs.YtpdnbcablofgiaaDoor
