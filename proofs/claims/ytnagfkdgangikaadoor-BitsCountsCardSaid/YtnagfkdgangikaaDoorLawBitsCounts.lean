/- BitsCounts: the function returns true whatever its input, and what it was given reads as it did. No condition. -/
import Derived.Test.YtnagfkdgangikaaDoorRows
import Derived.Test.YtnagfkdgangikaaDoorChecked
import Derived.Test.YtnagfkdgangikaaDoorThBitsCounts
import Derived.Test.YtnagfkdgangikaaDoorCards
import Derived.Test.YtnagfkdgangikaaDoorTie
import Derived.Deep.DeepHandedRow
import Derived.Lib.LaidTab
import Derived.Test.YtnagfkdgangikaaDoorLay
import Derived.WalkKit
import Derived.ProofKit
import Derived.OpenShut
import Derived.ShutString
import Derived.ChangeOld
import Derived.Below
import Derived.SizedLaws
namespace Go.Proofs.YtnagfkdgangikaaDoor.bitsCounts
open Go Go.ChangeShapes Go.WideShapes Go.ChangeAt Go.RowKit Go.Proofs.YtnagfkdgangikaaDoor.Ev Go.Proofs.YtnagfkdgangikaaDoor.Fn
set_option linter.unusedVariables false
set_option maxRecDepth 100000
theorem own : ownKnob Tryd.prog.godebug = none := by kernel_rfl
theorem laidOut : laidOutB Tryd.prog = true := by kernel_rfl
theorem gn0 : Tryd.prog.globalNamed "math/bits.deBruijn64tab" = some 0 := by kernel_rfl
theorem gt0 : (Tryd.prog.globals[0]?).map (·.type) = some 29 := by kernel_rfl
theorem gc0 : Tryd.prog.cellsOf 29 = 64 := by kernel_rfl
theorem ge0 : Tryd.prog.cellsOf 5 = 1 := by kernel_rfl
def gtab0_0_list : List Int := [0, 1, 56, 2, 57, 49, 28, 3, 61, 58, 42, 50, 38, 29, 17, 4, 62, 47, 59, 36, 45, 43, 51, 22, 53, 39, 33, 30, 24, 18, 12, 5, 63, 55, 48, 27, 60, 41, 37, 16, 46, 35, 44, 21, 52, 32, 23, 11, 54, 26, 40, 15, 34, 20, 31, 10, 25, 14, 19, 9, 13, 8, 7, 6]
theorem table0 {W : World} (h : laidMetH Tryd.prog Rows.bitsCountsRow.laid W) : ∀ i, i < 64 → W.cell? ⟨0, i, none⟩ = some (.int .u8 (gtab0_0 i)) := fun i hi => by
  have hT : Lib.TabIs Tryd.prog W "math/bits.deBruijn64tab" .u8 gtab0_0_list := Lib.tabIs_of_head (rest := []) gn0 gt0 Tryd.underlying29 Tryd.underlying5 ge0 gc0 h
  exact hT.cell gn0 i hi
theorem laidW {W : World} (h : laidMetH Tryd.prog Rows.bitsCountsRow.laid W) : LaidW W := fun g n fs hg => by
  by_cases h0 : g = 0
  · subst h0
    have e : globF 0 globs = some (64, [.int .u8 gtab0_0]) := rfl
    rw [e] at hg
    obtain ⟨rfl, rfl⟩ := Prod.mk.inj (Option.some.inj hg)
    refine ⟨(cell_spot (table0 h 0 (by decide))).2, fun i hi j f hf => ?_⟩
    cases j with
    | zero =>
      obtain rfl := Option.some.inj hf
      rw [show i * [Fld.int .u8 gtab0_0].length + 0 = i by simp]
      exact table0 h i hi
    | succ j => simp at hf
  · have hb : Nat.beq g 0 = false := by
      cases hb : Nat.beq g 0 with
      | true => exact absurd (Nat.eq_of_beq_eq_true hb) h0
      | false => rfl
    have : globF g globs = none := by simp [globF, globs, hb]
    rw [this] at hg; cases hg
noncomputable def laidWorld (os : Os) : World :=
  { World.holding Tryd.prog os ⟨#[], #[], []⟩ with heap := (World.holding Tryd.prog os ⟨#[], #[], []⟩).heap.modify 0 fun
      | .cells _ t frozen => .cells #[.int .u8 (gtab0_0 0), .int .u8 (gtab0_0 1), .int .u8 (gtab0_0 2), .int .u8 (gtab0_0 3), .int .u8 (gtab0_0 4), .int .u8 (gtab0_0 5), .int .u8 (gtab0_0 6), .int .u8 (gtab0_0 7), .int .u8 (gtab0_0 8), .int .u8 (gtab0_0 9), .int .u8 (gtab0_0 10), .int .u8 (gtab0_0 11), .int .u8 (gtab0_0 12), .int .u8 (gtab0_0 13), .int .u8 (gtab0_0 14), .int .u8 (gtab0_0 15), .int .u8 (gtab0_0 16), .int .u8 (gtab0_0 17), .int .u8 (gtab0_0 18), .int .u8 (gtab0_0 19), .int .u8 (gtab0_0 20), .int .u8 (gtab0_0 21), .int .u8 (gtab0_0 22), .int .u8 (gtab0_0 23), .int .u8 (gtab0_0 24), .int .u8 (gtab0_0 25), .int .u8 (gtab0_0 26), .int .u8 (gtab0_0 27), .int .u8 (gtab0_0 28), .int .u8 (gtab0_0 29), .int .u8 (gtab0_0 30), .int .u8 (gtab0_0 31), .int .u8 (gtab0_0 32), .int .u8 (gtab0_0 33), .int .u8 (gtab0_0 34), .int .u8 (gtab0_0 35), .int .u8 (gtab0_0 36), .int .u8 (gtab0_0 37), .int .u8 (gtab0_0 38), .int .u8 (gtab0_0 39), .int .u8 (gtab0_0 40), .int .u8 (gtab0_0 41), .int .u8 (gtab0_0 42), .int .u8 (gtab0_0 43), .int .u8 (gtab0_0 44), .int .u8 (gtab0_0 45), .int .u8 (gtab0_0 46), .int .u8 (gtab0_0 47), .int .u8 (gtab0_0 48), .int .u8 (gtab0_0 49), .int .u8 (gtab0_0 50), .int .u8 (gtab0_0 51), .int .u8 (gtab0_0 52), .int .u8 (gtab0_0 53), .int .u8 (gtab0_0 54), .int .u8 (gtab0_0 55), .int .u8 (gtab0_0 56), .int .u8 (gtab0_0 57), .int .u8 (gtab0_0 58), .int .u8 (gtab0_0 59), .int .u8 (gtab0_0 60), .int .u8 (gtab0_0 61), .int .u8 (gtab0_0 62), .int .u8 (gtab0_0 63)] t frozen
      | o => o }
theorem laid_met (os : Os) : laidMet Tryd.prog Rows.bitsCountsRow.laid ((laidWorld os).forCall (fun _ _ => 0) ⟨#[], #[.int .u64 0], []⟩).memory :=
  laidMet_of_run' 8 (by kernel_rfl) (by kernel_rfl)
theorem reads (os : Os) {H : Type} (enc : TypeId × Value → H) : ∃ places, DataW.whole enc Tryd.prog ((laidWorld os).forCall (fun _ _ => 0) ⟨#[], #[.int .u64 0], []⟩).memory Tryd.f3.params.toList Rows.bitsCountsSpec.vars false #[Value.int .u64 0].toList 8 = some ([.lit (.int .u64 0)], [], places) :=
  ⟨[], by kernel_rfl⟩
theorem lifted (os : Os) (started : os.Started) (H : Type) (enc : TypeId × Value → H) (F : Stop.Interp) :
    ReturnsInHanded {} Tryd.checked os 3 .any ((OpenSpec.ofChange Rows.bitsCountsSpec).preRow enc Tryd.prog Tryd.f3 Rows.bitsCountsRow.domain false Rows.bitsCountsRow.laid) (((OpenSpec.ofChange Rows.bitsCountsSpec).at F).post enc Tryd.prog Tryd.f3 false true false false) := by
  obtain ⟨places, hx⟩ := reads os enc
  refine returnsInHanded_of_row (C := Tryd.checked) (s := OpenSpec.ofChange Rows.bitsCountsSpec) own started (by kernel_rfl) Tryd.func3
    (witness_row_at (enc := enc) (C := Tryd.checked) false (laidWorld os) #[.int .u64 0] rfl (by kernel_rfl) (by kernel_rfl) (by kernel_rfl)
      (OpenSpec.preRow_of_cond 8 hx (by kernel_rfl) (fun k hk => by cases hk) (by kernel_rfl) (laid_met os))) ?_
  intro W base args ds gs before hval0 hW hcnd _ hsz0 hL _ _
  have hLaid : LaidW W := laidW hL
  have hval : ∀ (j : Nat) t v, Tryd.f3.params[j]? = some t → args[j]? = some v → Value.okWide Tryd.prog W .any base t v := hval0
  have hW' := hW
  obtain ⟨p, q, hA0, hV, rfl, hfz, hnd⟩ := hW
  have hA : DataW.TrodAll enc Tryd.prog W 0 (fun _ => true) true Tryd.f3.params.toList args.toList ds p := hA0
  rw [Tryd.params3] at hA hval
  obtain ⟨v0, vs0, d0, ds0, p0, q0, hargs, rfl, rfl, h0, r0⟩ := trodAll_cons hA
  obtain ⟨rfl, rfl, rfl⟩ := trodAll_nil r0
  obtain rfl : args = #[v0] := by cases args; simp_all
  obtain ⟨rfl, rfl⟩ := trodVars_none hV
  have hw0 : ∀ m ∈ d0.weights Tryd.prog 22, m ≤ reachBytes := fun m hm => by
    have := List.all_eq_true.1 hsz0 m (DataW.weights_mem_each (j := 0) (t := 22) (d := d0) (by kernel_rfl) rfl m hm)
    simpa using this
  have lt0 : ∀ x ∈ p0, x.block < W.heap.size := by obtain ⟨m, hm⟩ := h0; exact DataW.trod_lt m _ _ _ hm
  have o0 := open_arg 8 (ls := [.one (.int .u64)]) (by kernel_rfl) h0 hw0
  obtain ⟨z0, rfl⟩ := okWide_int Tryd.underlying22 (hval 0 22 v0 rfl rfl)
  replace o0 : All2 (LfOk Tryd.prog W) [.one (.int .u64)] [.int .u64 z0] := o0
  obtain ⟨b0_0, m0_0, e0, y0_0, x0_0⟩ := All2.cons o0
  obtain rfl := All2.nil x0_0
  obtain rfl := (List.cons.inj e0).1
  obtain ⟨a0, he0, w0⟩ := y0_0
  cases he0
  have hp := Th.BitsCounts _ w0
  have hC := saturatelaw01_BitsCounts.con (_, ()) true hp
  refine (CallOk.calls (fn := Tryd.f3) (by kernel_rfl) (by kernel_rfl) (by kernel_rfl) (hC W #[_] hLaid (argsRel_of (All2.c (rfl) All2.n)))).mono fun e W' hh => ?_
  obtain ⟨y, he, bel, hy⟩ := hh
  have hy' : y = .bool true := hy
  subst hy'
  subst he
  exact ⟨_, rfl, _, _, _, [], _, [], hW', trodAll_mk1 (shut_bool Tryd.underlying4 _), (trodAll_cons_mk (Below.trod laidOut (by kernel_rfl) (of_decide_eq_true (by kernel_rfl)) h0 bel lt0) trodAll_mk0), rfl, bel.frame _, fun h => by cases h⟩
theorem said : Rows.BitsCountsSaid :=
  OpenClaim.holds_of_cond 3 Tryd.f3 rfl rfl rfl rfl rfl rfl rfl ⟨rfl, rfl, rfl, rfl, rfl⟩ rfl rfl rfl rfl rfl (by kernel_rfl) Tryd.func3 (by kernel_rfl)
    (of_decide_eq_true (by kernel_rfl)) (by unfold Func.isWrapper; first | (rw [if_pos (by decide +kernel)]; kernel_rfl) | (rw [if_neg (by decide +kernel)]; exact ⟨rfl, rfl⟩))
    (fun os started H enc _ F => by rw [OpenClaim.pre_eq_preRow]; exact lifted os started H enc F)
theorem plain (f : FuncId) (fn : Func) (hf : Tryd.pinned.checked.prog.funcNamed "saturate/saturatelaw01.BitsCounts" = some f) (hfn : Tryd.pinned.checked.prog.funcs[f]? = some fn) :
    false = Tryd.pinned.checked.prog.looks [] ∧ ∀ (j : Nat) t, fn.params[j]? = some t → Tryd.pinned.checked.prog.wantsStandIn t = false := by
  obtain rfl : f = 3 := Option.some.inj ((show Tryd.prog.funcNamed "saturate/saturatelaw01.BitsCounts" = some 3 by kernel_rfl).symm.trans hf) |>.symm
  obtain rfl : fn = Tryd.f3 := (Option.some.inj (Tryd.func3.symm.trans hfn)).symm
  refine ⟨by kernel_rfl, fun j t ht => ?_⟩
  rw [Tryd.params3] at ht
  have hm := Array.mem_of_getElem? ht
  have hall : ∀ t ∈ [22], Tryd.prog.wantsStandIn t = false := by
    intro t ht
    simp only [List.mem_cons, List.not_mem_nil, or_false] at ht
    rcases ht with rfl
    · kernel_rfl
  exact hall t (by simpa using hm)
theorem card : Rows.BitsCountsCardSaid :=
  Claim7.holds_tied_plain_at .later [] _ _ _ _ said (fun _ h => by cases h) (by kernel_rfl) (fun _ h => by cases h) bitsCounts_row_tie rfl ⟨rfl, rfl⟩ (by kernel_rfl) rfl plain (by kernel_rfl)
#print axioms card
end Go.Proofs.YtnagfkdgangikaaDoor.bitsCounts
namespace Go.Proofs.YtnagfkdgangikaaDoor
/-- The card, under a short name, for the claim. -/
theorem bitsCounts_card : Rows.BitsCountsCardSaid := bitsCounts.card
end Go.Proofs.YtnagfkdgangikaaDoor
