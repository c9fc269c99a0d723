/- What the functions return, as the evaluator tells it: written by a program of this workplace (mev.py); Lean checks each equation. -/
import Derived.WalkKit
import Derived.OwnWalkIn
import Derived.TacticsInMore
import Derived.LoopNIn
import Derived.LoopIn
import Derived.RegionTactic
import Derived.RecoverIn
import Derived.StillTailTactics
import Derived.DefersIn
import Derived.RegionIn
import Derived.Shelf.Abstract
import Derived.Shelf.RegionOpen
import Derived.Maps.AppendAt
import Derived.Test.YtkmehmlcccdnbaaDoorProg
import Derived.Test.YtkmehmlcccdnbaaDoorEvC
import Derived.Test.YtkmehmlcccdnbaaDoorF0
import Derived.Test.YtkmehmlcccdnbaaDoorF1
namespace Go.Proofs.YtkmehmlcccdnbaaDoor.Fn
open Go Go.RowKit Go.Proofs.YtkmehmlcccdnbaaDoor.Ev Go.Proofs
set_option linter.unusedVariables false
set_option maxRecDepth 100000
/-! ### exec_Trace: function 19 -/
open Go.Shelf
set_option linter.unusedSimpArgs false
attribute [local go_sem] Oper.semAt_some
theorem sources_calls {o s : Int} (h : isa_Sources.f o = some s) {W : World} (hL : LaidW W) : Calls Tryd.prog 38 #[.int .i64 o] W fun e W' => e = .returned (.int .i64 s) ∧ Below W.heap.size W W' := by
  have hC := isa_Sources.con (o, ()) s h (fun _ => none) W #[.int .i64 o] (fun k o hk => by cases hk) hL ⟨rfl, fun q av hi => by
    match q with
    | 0 => cases hi; exact ⟨_, rfl, rfl⟩
    | q + 1 => simp [isa_Sources.a, ACods.cons, ACods.nil] at hi⟩
  refine (CallOk2.calls1 (fn := Tryd.f38) (by kernel_rfl) (by kernel_rfl) (by kernel_rfl) hC).mono fun e W' hq => ?_
  rcases hq with ⟨x, he, hb, fz', h1, h2, h3⟩ | ⟨x, he, h3, hb⟩
  · have h3' : x = _ := h3
    subst h3'
    exact ⟨he, hb⟩
  · cases h3
/-- The registers of the sources. -/
def usesL (s : Nat) (i : I6) : List Int := [i.2.2.1, i.2.2.2.1, i.2.2.2.2.1].take s
def iv (x : Int) : Value := .int .i64 x
theorem uses_calls {i : I6} {s : Nat} (h : isa_Sources.f i.1 = some (s : Int)) (hs : s ≤ 3) {W : World} (hL : LaidW W) :
    Calls Tryd.prog 39 #[.agg (insV i)] W fun e W' => ∃ A c, e = .returned (.slice A s c) ∧ Below W.heap.size W W' ∧ W'.ownsRow W.heap.size 3 1 (.slice A s c) s ((usesL s i).map iv) := by
  refine calls_of_wp Tryd.func39 rfl ?_
  simp only [Tryd.ntmps39, List.size_toArray, List.length_cons, List.length_nil, Nat.reduceAdd, Nat.reduceSub, Array.replicate_succ, Array.replicate_zero, List.push_toArray, List.append_toArray, List.nil_append, List.cons_append]
  obtain ⟨W1, hW1⟩ : ∃ W1, W1 = (W.alloc (Obj.cells (insV i) 47)).alloc (Obj.cells #[.int .i64 i.2.2.1, .int .i64 i.2.2.2.1, .int .i64 i.2.2.2.2.1] 3) := ⟨_, rfl⟩
  have hB1 : Below W.heap.size W W1 := by rw [hW1]; exact ((Below.refl _ _).alloc (Nat.le_refl _) _).alloc (by simp) _
  have hsc := sources_calls h (hL.below hB1)
  have hc0 : W1.cell? ⟨W.heap.size, 0, none⟩ = some (.int .i64 i.1) := by
    rw [hW1, cell_of_block (Below.heap_alloc _ _ _ (by simp))]
    simp only [World.cell?, heap_alloc_new]; rfl
  have hr1 : W1.heap[W.heap.size + 1]? = some (.cells #[.int .i64 i.2.2.1, .int .i64 i.2.2.2.1, .int .i64 i.2.2.2.2.1] 3 (0, 0)) := by
    have := heap_alloc_new (W.alloc (Obj.cells (insV i) 47)) (Obj.cells #[.int .i64 i.2.2.1, .int .i64 i.2.2.2.1, .int .i64 i.2.2.2.2.1] 3)
    rw [World.size_alloc] at this
    rw [hW1]; exact this
  rw [hW1] at hsc
  unfold insV at hsc ⊢
  go_wp2_with (refine hsc.mono ?_; rintro e W2 ⟨rfl, hb2⟩)
  replace hb2 : Below W1.heap.size W1 W2 := by rw [hW1]; exact hb2
  refine ⟨rfl, .slice (some ⟨W.heap.size + 1, 0, none⟩) s 3, by simp [results, Tryd.results39, go_sem], _, _, rfl, hB1.trans (hb2.mono hB1.size), ?_⟩
  have hg : W2.heap[W.heap.size + 1]? = some (.cells #[.int .i64 i.2.2.1, .int .i64 i.2.2.2.1, .int .i64 i.2.2.2.2.1] 3 (0, 0)) := by rw [hb2.block _ (Array.getElem?_eq_some_iff.1 hr1).1]; exact hr1
  exact ⟨by simp [usesL]; omega, .inr ⟨W.heap.size + 1, 3, _, rfl, by omega, hg, hs, by simp [maxLen], rfl, by simp [usesL, List.map_take, iv]⟩⟩
/-- Step's function. -/
theorem cl_step {w : Int} {i : I6} {L : List Tm} {r : Option (List Tm)} (h : stepP w i L = some r) {W : World} (hL : LaidW W) {B : Nat} {e : TypeId} {A : Option Addr} {c kw kj ks : Nat} (hr : W.ownsRow B e 1 (.slice A L.length c) L.length (L.map wv))
    (hkw : W.heap[kw]? = some (.cells #[.int .i64 w] 3 (0, 0))) (hkj : W.heap[kj]? = some (.cells (insV i) 47 (0, 0))) (hks : W.heap[ks]? = some (.cells #[.slice A L.length c] 26 (0, 0))) :
    Calls Tryd.prog 41 #[.pointer (some ⟨kw, 0, none⟩), .pointer (some ⟨kj, 0, none⟩), .pointer (some ⟨ks, 0, none⟩)] W (StepQ r W B e (.slice A L.length c) L.length) := by
  refine calls_of_wp Tryd.func41 rfl ?_
  simp only [Tryd.ntmps41, List.size_toArray, List.length_cons, List.length_nil, Nat.reduceAdd, Nat.reduceSub, Array.replicate_succ, Array.replicate_zero, List.push_toArray, List.append_toArray, List.nil_append, List.cons_append]
  have hsc := step_calls h hL hr
  obtain ⟨c1, _⟩ := box_at hkw
  obtain ⟨c2, _⟩ := box_at hks
  have hj : ∀ (j : Nat) v, (insV i)[j]? = some v → W.cell? ⟨kj, j, none⟩ = some v := fun j v hv => by simp only [World.cell?, hkj]; exact hv
  have j0 : W.cell? ⟨kj, 0, none⟩ = some (.int .i64 i.1) := hj 0 _ rfl
  have j1 : W.cell? ⟨kj, 1, none⟩ = some (.int .i64 i.2.1) := hj 1 _ rfl
  have j2 : W.cell? ⟨kj, 2, none⟩ = some (.int .i64 i.2.2.1) := hj 2 _ rfl
  have j3 : W.cell? ⟨kj, 3, none⟩ = some (.int .i64 i.2.2.2.1) := hj 3 _ rfl
  have j4 : W.cell? ⟨kj, 4, none⟩ = some (.int .i64 i.2.2.2.2.1) := hj 4 _ rfl
  have j5 : W.cell? ⟨kj, 5, none⟩ = some (.int .u64 i.2.2.2.2.2) := hj 5 _ rfl
  unfold insV at hsc
  clear h hr hkw hkj hks hj
  cases r with
  | none =>
    replace hsc : Calls Tryd.prog 33 _ W (fun ev W' => ev = .panicked [{ v := .iface 64 (.agg #[]), recovered := false }] ∧ Below W.heap.size W W') := hsc
    go_wp2_with (refine hsc.mono ?_; rintro ev W3 ⟨rfl, hb3⟩)
    exact ⟨rfl, rfl, hb3⟩
  | some L' =>
    replace hsc : Calls Tryd.prog 33 _ W (fun ev W' => ev = .returned (.tuple #[]) ∧ W.grownBy W' (Value.slice A L.length c).ownBlock ∧ L'.length = L.length ∧ W'.ownsRow B e 1 (.slice A L.length c) L.length (L'.map wv)) := hsc
    go_wp2_with (refine hsc.mono ?_; rintro ev W3 ⟨rfl, hgr, hl3, hr3⟩)
    go_end0
    exact ⟨rfl, hgr, hl3, hr3⟩
/-- Trace's function. -/
theorem cl_trace {w : Int} {i : I6} {L : List Tm} {r : Option (List Tm)} (h : stepP w i L = some r) {W : World} (hL : LaidW W) {B : Nat} {e : TypeId} {A : Option Addr} {c kc kj ks : Nat} (hr : W.ownsRow B e 1 (.slice A L.length c) L.length (L.map wv))
    (hkc : W.cell? ⟨kc, 0, none⟩ = some (.int .i64 w)) (hkj : W.heap[kj]? = some (.cells (insV i) 47 (0, 0))) (hks : W.heap[ks]? = some (.cells #[.slice A L.length c] 26 (0, 0))) :
    Calls Tryd.prog 36 #[.pointer (some ⟨kc, 0, none⟩), .pointer (some ⟨kj, 0, none⟩), .pointer (some ⟨ks, 0, none⟩)] W (StepQ r W B e (.slice A L.length c) L.length) := by
  refine calls_of_wp Tryd.func36 rfl ?_
  simp only [Tryd.ntmps36, List.size_toArray, List.length_cons, List.length_nil, Nat.reduceAdd, Nat.reduceSub, Array.replicate_succ, Array.replicate_zero, List.push_toArray, List.append_toArray, List.nil_append, List.cons_append]
  have hsc := step_calls h hL hr
  obtain ⟨c2, _⟩ := box_at hks
  have hj : ∀ (j : Nat) v, (insV i)[j]? = some v → W.cell? ⟨kj, j, none⟩ = some v := fun j v hv => by simp only [World.cell?, hkj]; exact hv
  have j0 : W.cell? ⟨kj, 0, none⟩ = some (.int .i64 i.1) := hj 0 _ rfl
  have j1 : W.cell? ⟨kj, 1, none⟩ = some (.int .i64 i.2.1) := hj 1 _ rfl
  have j2 : W.cell? ⟨kj, 2, none⟩ = some (.int .i64 i.2.2.1) := hj 2 _ rfl
  have j3 : W.cell? ⟨kj, 3, none⟩ = some (.int .i64 i.2.2.2.1) := hj 3 _ rfl
  have j4 : W.cell? ⟨kj, 4, none⟩ = some (.int .i64 i.2.2.2.2.1) := hj 4 _ rfl
  have j5 : W.cell? ⟨kj, 5, none⟩ = some (.int .u64 i.2.2.2.2.2) := hj 5 _ rfl
  unfold insV at hsc
  clear h hr hkj hks hj
  cases r with
  | none =>
    replace hsc : Calls Tryd.prog 33 _ W (fun ev W' => ev = .panicked [{ v := .iface 64 (.agg #[]), recovered := false }] ∧ Below W.heap.size W W') := hsc
    go_wp2_with (refine hsc.mono ?_; rintro ev W3 ⟨rfl, hb3⟩)
    exact ⟨rfl, rfl, hb3⟩
  | some L' =>
    replace hsc : Calls Tryd.prog 33 _ W (fun ev W' => ev = .returned (.tuple #[]) ∧ W.grownBy W' (Value.slice A L.length c).ownBlock ∧ L'.length = L.length ∧ W'.ownsRow B e 1 (.slice A L.length c) L.length (L'.map wv)) := hsc
    go_wp2_with (refine hsc.mono ?_; rintro ev W3 ⟨rfl, hgr, hl3, hr3⟩)
    go_end0
    exact ⟨rfl, hgr, hl3, hr3⟩
theorem info_of {t : TypeId} {z : Value} {n b : Nat} (h1 : (Tryd.prog.info? t).isSome = true) (h2 : (Tryd.prog.info? t).bind (·.zero) = some z) (h3 : (Tryd.prog.info? t).map (·.size) = some n) (h4 : (Tryd.prog.info? t).map (·.bytes) = some b) :
    ∃ i, Tryd.prog.info? t = some i ∧ i.zero = some z ∧ i.size = n ∧ i.bytes = b := by
  obtain ⟨i, hi⟩ := Option.isSome_iff_exists.1 h1
  rw [hi] at h2 h3 h4
  exact ⟨i, hi, by simpa using h2, by simpa using h3, by simpa using h4⟩
theorem info45 : ∃ i, Tryd.prog.info? 45 = some i ∧ i.zero = some (.int .u64 0) ∧ i.size = 1 ∧ i.bytes = 8 := info_of (by kernel_rfl) (by kernel_rfl) (by kernel_rfl) (by kernel_rfl)
theorem clone_calls {W : World} {B : Nat} {A : Option Addr} {c : Nat} {L : List Tm} (hr : W.ownsRow B 45 1 (.slice A L.length c) L.length (L.map wv)) (hn : L.length ≤ 8) :
    Calls Tryd.prog 35 #[.slice A L.length c] W fun e W' => ∃ A' c', e = .returned (.slice A' L.length c') ∧ Below W.heap.size W W' ∧ W'.ownsRow W.heap.size 45 1 (.slice A' L.length c') L.length (L.map wv) := by
  refine calls_of_wp Tryd.func35 rfl ?_
  simp only [Tryd.ntmps35, List.size_toArray, List.length_cons, List.length_nil, Nat.reduceAdd, Nat.reduceSub, Array.replicate_succ, Array.replicate_zero, List.push_toArray, List.append_toArray, List.nil_append, List.cons_append]
  obtain ⟨i0, hi, hz0, hz1, hz2⟩ := info45
  rcases hr.2 with ⟨hv, h0⟩ | ⟨g, cap, cur, hv, hB, hg, hnc, hcm, hcs, htk⟩
  · simp only [Value.slice.injEq] at hv
    obtain ⟨rfl, _, rfl⟩ := hv
    have hL : L = [] := List.length_eq_zero_iff.1 h0
    subst hL
    have hq : ∀ W : World, (binOp .eql 26 (.slice none 0 0) (.slice none 0 0)).run Tryd.prog W = .ok (.bool true) W := semVal_run (by kernel_rfl)
    go_wp2
    exact ⟨rfl, .slice none 0 0, by simp [results, Tryd.results35, go_sem], none, 0, rfl, Below.refl _ _, World.ownsRow_nil _ _ _ _⟩
  · simp only [Value.slice.injEq] at hv
    obtain ⟨rfl, _, rfl⟩ := hv
    have hq : ∀ W : World, (binOp .eql 26 (.slice (some ⟨g, 0, none⟩) L.length c) (.slice none 0 0)).run Tryd.prog W = .ok (.bool false) W := semVal_run (by kernel_rfl)
    have hB1 : Below W.heap.size W (W.alloc (.cells #[] 45)) := (Below.refl _ _).alloc (Nat.le_refl _) _
    have hr1 := ownsRow_below hr hB1
    go_wp2_with (at_builtin; refine wpList_append_own _ rfl (.tmp 5) (.tmp 6) 26 rfl W.heap.size 45 i0 (.int .u64 0) 1 8 (by kernel_rfl) hi hz0 hz1 hz2 rfl (by decide) _ _ _ rfl (World.ownsRow_made W #[] 0 (Nat.le_refl _) (by simp [maxLen]) rfl) ⟨g, 0, none⟩ L.length c (L.map wv) rfl (by simp) (fun j u hu => hr1.cells rfl j u hu) (fun u hu => by obtain ⟨t, _, rfl⟩ := List.mem_map.1 hu; rfl) (by unfold maxLen; omega) (by omega) (by simp) ?_; intro v1 w1 hown1 hgrow1 hnil1)
    simp only [Nat.zero_add, List.nil_append] at hown1
    obtain ⟨A', c', rfl⟩ : ∃ A' c', v1 = .slice A' L.length c' := by
      rcases hown1.2 with ⟨hv, h0⟩ | ⟨g', cap', cur', hv, _⟩
      · exact ⟨none, 0, by rw [hv, h0]⟩
      · exact ⟨_, _, hv⟩
    exact ⟨rfl, _, by simp [results, Tryd.results35, go_sem], A', c', rfl, hB1.trans ⟨hgrow1.os, hgrow1.tape, hgrow1.output, Nat.le_trans (by simp) hgrow1.size, fun k hk => hgrow1.block k (by rw [World.size_alloc]; omega) (fun e => by have e2 : k = W.heap.size := Option.some.inj e; omega)⟩, hown1⟩
noncomputable def traceGo (w : Int) (I : Nat → I6) : Nat → Nat → List Tm → List Tm → Option (List Tm × Int)
  | 0, _, _, acc => some (acc, 0)
  | m + 1, k, L, acc => (stepP w (I k) L).bind fun r => match r with
    | none => some (acc, 17)
    | some L' => traceGo w I m (k + 1) L' (acc ++ [.mk 0 L'])
/-- What Trace returns. -/
noncomputable def exec_Trace.f (c : CodeT) (regs : List Tm) : Option (List Tm × Int) :=
  (isa_Check.f c).bind fun r => bif r.2 != 0 then some ([], r.2) else
  bif Nat.ble c.2.2.1.1 256 then
    (exec_words.f c.1 c.2.1 regs).bind fun L => bif Nat.ble L.length 8 then traceGo c.1 (insOf c) c.2.2.1.1 0 L [.mk 0 L] else none
  else none
/-- Rows of rows. -/
structure Rows2 (fz0 : Nat → Option Obj) (B : Nat) (W : World) (v : Value) (acc : List Tm) (fz : Nat → Option Obj) (xs : List Value) : Prop where
  fzw : FzW fz W
  fzn : FzNew fz0 fz B
  out : W.ownsRow B 26 1 v acc.length xs
  el : ∀ (j : Nat) (t : Tm), acc[j]? = some t → ∃ A c, xs[j]? = some (.slice A t.kids.length c) ∧ KidsAt fz 0 A 0 t.kids
  ofz : ∀ g, v.ownBlock = some g → fz g = none
theorem fz_trans {f g h : Nat → Option Obj} {b b' : Nat} (h1 : FzNew f g b) (h2 : FzNew g h b') (hb : b ≤ b') : FzNew f h b := ⟨fun k o hk => h2.1 k o (h1.1 k o hk), fun k o hk => (h2.2 k o hk).elim (fun hg => h1.2 k o hg) fun hg => .inr (Nat.le_trans hb hg)⟩
structure TI (W : World) (fz0 : Nat → Option Obj) (kc ks : Nat) (c : CodeT) (Ai : Option Addr) (ci : Nat) (Ao : Option Addr) (co : Nat) (A' : Option Addr) (c' nL : Nat) (r : List Tm × Int) (k : Nat) (v9 : Value) (L' acc : List Tm) (fz : Nat → Option Obj) (xs : List Value) (wr : World) : Prop where
  go : traceGo c.1 (insOf c) (c.2.2.1.1 - k) k L' acc = some r
  hk : k ≤ c.2.2.1.1
  len : L'.length = nL
  alen : acc.length = k + 1
  rows : Rows2 fz0 W.heap.size wr v9 acc fz xs
  row : wr.ownsRow W.heap.size 45 1 (.slice A' nL c') nL (L'.map wv)
  sfz : ∀ ad, A' = some ad → fz ad.block = none
  osp : ∀ g, v9.ownBlock = some g → g ≠ ks ∧ g ≠ kc ∧ ∀ ad, A' = some ad → ad.block ≠ g
  bel : Below W.heap.size W wr
  hkc : wr.heap[kc]? = some (.cells (codeV c Ai ci Ao co) 25 (0, 0))
  hks : wr.heap[ks]? = some (.cells #[.slice A' nL c'] 26 (0, 0))
theorem Rows2.kp {fz0 : Nat → Option Obj} {B : Nat} {W W' : World} {S : Nat → Prop} {v : Value} {acc : List Tm} {fz : Nat → Option Obj} {xs : List Value} (h : Rows2 fz0 B W v acc fz xs) (hk : Kp S W W') (h1 : ∀ k o, fz k = some o → ¬ S k) (h2 : ∀ g, v.ownBlock = some g → ¬ S g) : Rows2 fz0 B W' v acc fz xs := by
  refine ⟨fun k o ho => ?_, h.fzn, ⟨h.out.1, ?_⟩, h.el, h.ofz⟩
  · rw [hk.block k (Array.getElem?_eq_some_iff.1 (h.fzw k o ho)).1 (h1 k o ho)]; exact h.fzw k o ho
  · rcases h.out.2 with hn | ⟨g, cap, cur, hv, hb, hg, rest⟩
    · exact .inl hn
    · refine .inr ⟨g, cap, cur, hv, hb, ?_, rest⟩
      rw [hk.block g (Array.getElem?_eq_some_iff.1 hg).1 (h2 g (by rw [hv]; rfl))]; exact hg
theorem Rows2.push {fz0 : Nat → Option Obj} {B B9 : Nat} {W9 W11 : World} {v v' : Value} {acc : List Tm} {fz : Nat → Option Obj} {xs : List Value} {A9 : Option Addr} {c9 : Nat} {L : List Tm} {o : Obj} (h : Rows2 fz0 B W9 v acc fz xs) (hB : B ≤ B9)
    (hb9 : ∀ k o, fz k = some o → k < B9) (hv9 : ∀ g, v.ownBlock = some g → g < B9) (hr : W9.ownsRow B9 45 1 (.slice A9 L.length c9) L.length (L.map wv))
    (ho : W11.ownsRow B 26 1 v' (acc.length + 1) (xs ++ [.slice A9 L.length c9])) (hg : (W9.alloc o).grownBy W11 v.ownBlock) (hat : v'.ownBlock = v.ownBlock ∨ v'.ownBlock = some (W9.heap.size + 1)) :
    ∃ fz', Rows2 fz0 B W11 v' (acc ++ [.mk 0 L]) fz' (xs ++ [.slice A9 L.length c9]) ∧ ∀ k, (∀ ad, A9 = some ad → k ≠ ad.block) → fz' k = fz k := by
  have hA : ∀ ad, A9 = some ad → B9 ≤ ad.block ∧ ad.block < W9.heap.size := fun ad had => hr.lt ad.block (by rw [had]; rfl)
  have hkp : Kp (fun k => v.ownBlock = some k) W9 W11 := ⟨hg.os, hg.tape, hg.output, Nat.le_trans (by simp) hg.size, fun k hk hn => by
    rw [hg.block k (by rw [World.size_alloc]; omega) (fun e => hn e.symm)]; exact Below.heap_alloc _ _ _ hk⟩
  have hr' : W11.ownsRow B9 45 1 (.slice A9 L.length c9) L.length (L.map wv) := by
    refine ⟨hr.1, ?_⟩
    rcases hr.2 with hn | ⟨g, cap, cur, hv, hb, hg', rest⟩
    · exact .inl hn
    · refine .inr ⟨g, cap, cur, hv, hb, ?_, rest⟩
      rw [hkp.block g (Array.getElem?_eq_some_iff.1 hg').1 (fun e => by have := hv9 g e; omega)]; exact hg'
  have hfzw : FzW fz W11 := fun k o ho => by
    rw [hkp.block k (Array.getElem?_eq_some_iff.1 (h.fzw k o ho)).1 (fun e => by rw [h.ofz k e] at ho; cases ho)]; exact h.fzw k o ho
  obtain ⟨fz', f1, f2, f3, f4⟩ := freeze_row (B := B9) hfzw hr' (fun ad had => by
    refine ⟨?_, (hA ad had).1⟩
    cases hq : fz ad.block with
    | none => rfl
    | some o => have := hb9 _ o hq; have := (hA ad had).1; omega)
  refine ⟨fz', ⟨f1, ?_, by simpa using ho, fun j t hj => ?_, fun g hgg => ?_⟩, f4⟩
  · exact fz_trans h.fzn f2 hB
  · rw [List.getElem?_append] at hj
    split at hj
    · rename_i hlt
      obtain ⟨A, c, e1, e2⟩ := h.el j t hj
      refine ⟨A, c, ?_, e2.mono f2.1⟩
      rw [List.getElem?_append_left (Array.getElem?_eq_some_iff.1 (by simpa using e1 : xs.toArray[j]? = _)).1]; exact e1
    · rename_i hge
      have hj0 : j - acc.length = 0 := by
        have := (List.getElem?_eq_some_iff.1 hj).1
        simp at this; exact this
      rw [hj0] at hj
      cases hj
      refine ⟨A9, c9, ?_, f3⟩
      have hxl : xs.length = acc.length := by have := h.out.1; simpa using this
      rw [List.getElem?_append_right (by omega), show j - xs.length = 0 by omega]; rfl
  · rcases hat with e | e
    · rw [e] at hgg
      rw [f4 g (fun ad had e2 => by have := hv9 g hgg; have := (hA ad had).1; omega)]
      exact h.ofz g hgg
    · rw [e] at hgg
      cases hgg
      rw [f4 _ (fun ad had e2 => by have := (hA ad had).2; omega)]
      cases hq : fz (W9.heap.size + 1) with
      | none => rfl
      | some o => have := hb9 _ o hq; have := (Array.getElem?_eq_some_iff.1 (h.fzw _ o hq)).1; omega
def TQ (q : Option (List Tm)) (W6 : World) (B : Nat) (A' : Option Addr) (c' n : Nat) (b : Bool) (W7 : World) : Prop :=
  Kp (fun k => ∃ ad, A' = some ad ∧ k = ad.block) W6 W7 ∧ match q with
  | some L'' => b = true ∧ L''.length = n ∧ W7.ownsRow B 45 1 (.slice A' n c') n (L''.map wv)
  | none => b = false
theorem info26 : ∃ i, Tryd.prog.info? 26 = some i ∧ i.zero = some (.slice none 0 0) ∧ i.size = 1 ∧ i.bytes = 24 := info_of (by kernel_rfl) (by kernel_rfl) (by kernel_rfl) (by kernel_rfl)
theorem trace_calls {c : CodeT} {regs : List Tm} {r : List Tm × Int} (h : exec_Trace.f c regs = some r) {W : World} (hL : LaidW W) {fz0 : Nat → Option Obj} (hfz : FzW fz0 W) {A : Option Addr} {cc : Nat} (hk : KidsAt fz0 0 A 0 regs) {Ai Ao : Option Addr} {ci co : Nat} (hc : CodeAt W c Ai ci Ao co) :
    Calls Tryd.prog 19 #[.agg (codeV c Ai ci Ao co), .slice A regs.length cc] W fun e W' => ∃ v, e = .returned (.tuple #[v, .int .i64 r.2]) ∧ Below W.heap.size W W' ∧ ∃ fz xs, Rows2 fz0 W.heap.size W' v r.1 fz xs := by
  unfold exec_Trace.f at h
  obtain ⟨⟨at0, er⟩, hck, h⟩ := Option.bind_eq_some_iff.1 h
  refine calls_of_wp Tryd.func19 rfl ?_
  simp only [Tryd.ntmps19, List.size_toArray, List.length_cons, List.length_nil, Nat.reduceAdd, Nat.reduceSub, Array.replicate_succ, Array.replicate_zero, List.push_toArray, List.append_toArray, List.nil_append, List.cons_append]
  have hB1 : Below W.heap.size W (W.alloc (Obj.cells (codeV c Ai ci Ao co) 25)) := (Below.refl _ _).alloc (Nat.le_refl _) _
  have hcell : ∀ W', Below (W.alloc (Obj.cells (codeV c Ai ci Ao co) 25)).heap.size (W.alloc (Obj.cells (codeV c Ai ci Ao co) 25)) W' → W'.heap[W.heap.size]? = some (.cells (codeV c Ai ci Ao co) 25 (0, 0)) := fun W' hb' => by
    rw [hb'.block _ (by simp), heap_alloc_new]
  have hcalls := check_calls hck (hL.below hB1) (hc.kp (Kp.of_below (S := fun _ => False) hB1) (fun k hk => hk.elim))
  cases hz : er != 0 with
  | true =>
    rw [hz] at h
    simp only [cond_true, Option.some.injEq] at h
    subst h
    have hz' : er ≠ 0 := by simpa using hz
    clear hck hcell hz
    unfold codeV at hcalls hB1 ⊢
    go_wp2_with (refine hcalls.mono ?_; rintro e W2 ⟨rfl, hb2⟩)
    have hb := hB1.trans (hb2.mono hB1.size)
    exact ⟨rfl, .tuple #[.slice none 0 0, .int .i64 er], by simp [results, Tryd.results19, go_sem], .slice none 0 0, rfl, hb, fz0, [], ⟨fun k o hk => by rw [hb.block k (Array.getElem?_eq_some_iff.1 (hfz k o hk)).1]; exact hfz k o hk, ⟨fun _ _ h => h, fun _ _ h => .inl h⟩, World.ownsRow_nil _ _ _ _, fun j t hj => by simp at hj, fun g hg => by cases hg⟩⟩
  | false =>
    rw [hz] at h
    simp only [cond_false] at h
    have hz' : er = 0 := by simpa using hz
    subst hz'
    obtain ⟨hn, h⟩ := bif_some h
    rw [Nat.ble_eq] at hn
    obtain ⟨L, hw, h⟩ := Option.bind_eq_some_iff.1 h
    obtain ⟨hl8, h⟩ := bif_some h
    rw [Nat.ble_eq] at hl8
    have hwc : ∀ W', Below (W.alloc (Obj.cells (codeV c Ai ci Ao co) 25)).heap.size (W.alloc (Obj.cells (codeV c Ai ci Ao co) 25)) W' → _ := fun W' hb' => words_calls (c := cc) hw (hL.below (hB1.trans (hb'.mono hB1.size))) (fz := fz0) (fun k o hk => by rw [(hB1.trans (hb'.mono hB1.size)).block k (Array.getElem?_eq_some_iff.1 (hfz k o hk)).1]; exact hfz k o hk) hk
    have hcl : ∀ W', Below (W.alloc (Obj.cells (codeV c Ai ci Ao co) 25)).heap.size (W.alloc (Obj.cells (codeV c Ai ci Ao co) 25)) W' → W'.cell? ⟨W.heap.size, 0, none⟩ = some (.int .i64 c.1) ∧ W'.cell? ⟨W.heap.size, 1, none⟩ = some (.int .i64 c.2.1) ∧ W'.cell? ⟨W.heap.size, 2, none⟩ = some (.slice Ai c.2.2.1.1 ci) := fun W' hb' => by
      have := hcell W' hb'
      refine ⟨?_, ?_, ?_⟩ <;> (simp only [World.cell?, this]; rfl)
    clear hck hz hw
    unfold codeV at hcalls hB1 hwc hcl ⊢
    go_wp2_with (first
      | (refine hcalls.mono ?_; rintro e W2 ⟨rfl, hb2⟩; obtain ⟨c0, c1, c2⟩ := hcl W2 hb2)
      | (refine (hwc _ hb2).mono ?_; rintro e W3 ⟨A', c', rfl, hb3, hr3⟩))
    have hB3 : Below W.heap.size W W3 := (hB1.trans (hb2.mono hB1.size)).trans (hb3.mono (Nat.le_trans hB1.size hb2.size))
    have hs1 : (W.alloc (Obj.cells (codeV c Ai ci Ao co) 25)).heap.size = W.heap.size + 1 := by simp
    have hs2 : W.heap.size + 1 ≤ W2.heap.size := by rw [← hs1]; exact hb2.size
    have hs3 : W2.heap.size ≤ W3.heap.size := hb3.size
    have hA' : ∀ ad, A' = some ad → W2.heap.size ≤ ad.block ∧ ad.block < W3.heap.size := fun ad had => hr3.lt ad.block (by rw [had]; rfl)
    obtain ⟨W4, hW4⟩ : ∃ W4, W4 = W3.alloc (Obj.cells #[Value.slice A' L.length c'] 26) := ⟨_, rfl⟩
    have hB34 : Below W3.heap.size W3 W4 := by rw [hW4]; exact (Below.refl _ _).alloc (Nat.le_refl _) _
    have hs4 : W4.heap.size = W3.heap.size + 1 := by rw [hW4]; simp
    have hkc4 : W4.heap[W.heap.size]? = some (.cells (codeV c Ai ci Ao co) 25 (0, 0)) := by rw [hB34.block _ (by omega), hb3.block _ (by omega)]; exact hcell W2 hb2
    have hks4 : W4.heap[W3.heap.size]? = some (.cells #[.slice A' L.length c'] 26 (0, 0)) := by rw [hW4, heap_alloc_new]
    have hr4 := ownsRow_below hr3 hB34
    have hcl4 : ∀ W', Below W4.heap.size W4 W' → W'.cell? ⟨W.heap.size, 2, none⟩ = some (.slice Ai c.2.2.1.1 ci) := fun W' hb' => by
      have : W'.heap[W.heap.size]? = some (.cells (codeV c Ai ci Ao co) 25 (0, 0)) := by rw [hb'.block _ (by omega)]; exact hkc4
      simp only [World.cell?, this]; rfl
    rw [← hW4]
    refine (clone_calls hr4 hl8).mono ?_
    rintro e W5 ⟨A5, c5, rfl, hb5, hr5⟩
    have hb6 : Below W4.heap.size W4 (W5.alloc (Obj.cells #[.slice A5 L.length c5] 26)) := hb5.trans (((Below.refl _ _).alloc (Nat.le_refl _) _).mono hb5.size)
    have q2 := hcl4 _ hb6
    clear hcalls hcell hwc hcl
    go_wp2
    go_loopw [9, 32] (fun v9 i wr => ∃ (k : Nat) (L' acc : List Tm) (fz : Nat → Option Obj) (xs : List Value), i = .int .i64 (k : Int) ∧ TI W fz0 W.heap.size W3.heap.size c Ai ci Ao co A' c' L.length r k v9 L' acc fz xs wr)
      (fun v9 i wr => c.2.2.1.1 - (intOf i).toNat)
    case atStart =>
      have hs5 : W4.heap.size ≤ W5.heap.size := hb5.size
      have hA5 : ∀ ad, A5 = some ad → W4.heap.size ≤ ad.block ∧ ad.block < W5.heap.size := fun ad had => hr5.lt ad.block (by rw [had]; rfl)
      have hB6 : Below W.heap.size W (W5.alloc (Obj.cells #[.slice A5 L.length c5] 26)) := (hB3.trans (hB34.mono hB3.size)).trans (hb6.mono (by omega))
      have h56 : Below W5.heap.size W5 (W5.alloc (Obj.cells #[.slice A5 L.length c5] 26)) := (Below.refl _ _).alloc (Nat.le_refl _) _
      obtain ⟨fz, f1, f2, f3, f4⟩ := freeze_row (B := W.heap.size) (fz_below hfz hB6) (ownsRow_below hr5 h56) (fun ad had => by
        have := hA5 ad had
        refine ⟨?_, by omega⟩
        cases hq : fz0 ad.block with
        | none => rfl
        | some o => have := (Array.getElem?_eq_some_iff.1 (hfz _ o hq)).1; omega)
      have fnone : ∀ k, W.heap.size ≤ k → (∀ ad, A5 = some ad → k ≠ ad.block) → fz k = none := fun k hk hne => by
        rw [f4 k hne]
        cases hq : fz0 k with
        | none => rfl
        | some o => have := (Array.getElem?_eq_some_iff.1 (hfz _ o hq)).1; omega
      refine ⟨0, L, [.mk 0 L], fz, [.slice A5 L.length c5], rfl, h, Nat.zero_le _, rfl, rfl, ⟨f1, f2, ?_, fun j t hj => ?_, fun g hg => ?_⟩, ?_, fun ad had => ?_, fun g hg => ?_, hB6, ?_, ?_⟩
      · exact ownsRow_base (World.ownsRow_lit (base := W5.heap.size) (e := 26) (size := 1) W5 #[.slice A5 L.length c5] 1 (Nat.le_refl _) (by simp [maxLen]) rfl) (by omega)
      · match j with
        | 0 => cases hj; exact ⟨A5, c5, rfl, f3⟩
        | j + 1 => simp at hj
      · cases hg
        exact fnone _ (by show W.heap.size ≤ W5.heap.size; omega) (fun ad had => by have := hA5 ad had; show W5.heap.size ≠ _; omega)
      · exact ownsRow_base (ownsRow_below hr4 hb6) (by omega)
      · have h1 := hA' ad had
        exact fnone _ (by omega) (fun ad' had' => by have := hA5 ad' had'; omega)
      · cases hg
        exact ⟨by show W5.heap.size ≠ _; omega, by show W5.heap.size ≠ _; omega, fun ad had => by have := hA' ad had; show ad.block ≠ W5.heap.size; omega⟩
      · rw [hb6.block _ (by omega)]; exact hkc4
      · rw [hb6.block _ (by omega)]; exact hks4
    case round =>
      obtain ⟨k, L', acc, fz, xs, rfl, hT⟩ := hrel
      have hgo := hT.go
      have hL' := hT.len
      have hrow := hT.row
      obtain ⟨p1, p2⟩ := box_at hT.hks
      have hsw : W3.heap.size + 1 ≤ wr.heap.size := (Array.getElem?_eq_some_iff.1 hT.hks).1
      by_cases hlt : k < c.2.2.1.1
      · obtain ⟨m, hm⟩ : ∃ m, c.2.2.1.1 - k = m + 1 := ⟨c.2.2.1.1 - k - 1, by omega⟩
        rw [hm, traceGo] at hgo
        obtain ⟨q, hq, hgo⟩ := Option.bind_eq_some_iff.1 hgo
        obtain ⟨ad, hAi, hsp, hcells⟩ := (hc.kp (Kp.of_below (S := fun _ => False) hT.bel) (fun k hk => hk.elim)).ins k hlt
        obtain ⟨blk, off, sp⟩ := ad
        obtain rfl : sp = none := hsp
        subst hAi
        have i0 : wr.cell? ⟨blk, off + k * 6, none⟩ = some (.int .i64 (insOf c k).1) := hcells 0 _ rfl
        have i1 : wr.cell? ⟨blk, off + k * 6 + 1, none⟩ = some (.int .i64 (insOf c k).2.1) := hcells 1 _ rfl
        have i2 : wr.cell? ⟨blk, off + k * 6 + 2, none⟩ = some (.int .i64 (insOf c k).2.2.1) := hcells 2 _ rfl
        have i3 : wr.cell? ⟨blk, off + k * 6 + 3, none⟩ = some (.int .i64 (insOf c k).2.2.2.1) := hcells 3 _ rfl
        have i4 : wr.cell? ⟨blk, off + k * 6 + 4, none⟩ = some (.int .i64 (insOf c k).2.2.2.2.1) := hcells 4 _ rfl
        have i5 : wr.cell? ⟨blk, off + k * 6 + 5, none⟩ = some (.int .u64 (insOf c k).2.2.2.2.2) := hcells 5 _ rfl
        obtain ⟨W6, hW6⟩ : ∃ W6, W6 = (wr.alloc (Obj.cells (insV (insOf c k)) 47)).alloc (.cells #[.bool false] 4) := ⟨_, rfl⟩
        have hB6 : Below wr.heap.size wr W6 := by rw [hW6]; exact ((Below.refl _ _).alloc (Nat.le_refl _) _).alloc (by simp) _
        have hkj : W6.heap[wr.heap.size]? = some (.cells (insV (insOf c k)) 47 (0, 0)) := by
          rw [hW6, Below.heap_alloc _ _ _ (by simp), heap_alloc_new]
        have hkb : W6.heap[wr.heap.size + 1]? = some (.cells #[.bool false] 4 (0, 0)) := by
          rw [hW6]
          have := heap_alloc_new (wr.alloc (Obj.cells (insV (insOf c k)) 47)) (.cells #[.bool false] 4)
          simp only [World.size_alloc] at this
          exact this
        have hcl := cl_trace (B := W.heap.size) (e := 45) (A := A') (c := c') (kc := W.heap.size) (kj := wr.heap.size) (ks := W3.heap.size) hq (hL.below (hT.bel.trans (hB6.mono hT.bel.size))) (by rw [hL']; exact ownsRow_below hrow hB6)
          (by
            have : W6.heap[W.heap.size]? = some (.cells (codeV c (some ⟨blk, off, none⟩) ci Ao co) 25 (0, 0)) := by rw [hB6.block _ (by omega)]; exact hT.hkc
            simp only [World.cell?, this]; rfl) hkj (by rw [hL', hB6.block _ (by omega)]; exact hT.hks)
        rw [hL'] at hcl
        obtain ⟨Wq, hWq⟩ : ∃ Wq, Wq = W6 := ⟨_, rfl⟩
        have hcl7 : Calls Tryd.prog 36 _ _ (fun e W7 => W7.heap[(wr.alloc (Obj.cells (insV (insOf c k)) 47)).heap.size]? = some (.cells #[.bool false] 4 (0, 0)) ∧ (e = .returned (.tuple #[]) ∧ TQ q Wq W.heap.size A' c' L.length true W7 ∨ e = trapE ∧ TQ q Wq W.heap.size A' c' L.length false W7)) := hcl.mono (fun e W7 hq7 => by
          rw [hWq]
          have hne : ∀ ad, A' = some ad → wr.heap.size + 1 ≠ ad.block := fun ad had => by have := hA' ad had; omega
          cases q with
          | none =>
            obtain ⟨h1, h2⟩ := hq7
            exact ⟨by rw [World.size_alloc, h2.block _ (Array.getElem?_eq_some_iff.1 hkb).1]; exact hkb, .inr ⟨h1, .of_below h2, rfl⟩⟩
          | some L'' =>
            obtain ⟨h1, h2, h3, h4⟩ := hq7
            refine ⟨?_, .inl ⟨h1, .of_grown h2 fun g hg => ?_, rfl, h3, h4⟩⟩
            · rw [World.size_alloc, h2.block _ (Array.getElem?_eq_some_iff.1 hkb).1 (fun e => ?_)]
              · exact hkb
              · cases A' with
                | none => cases e
                | some ad => simp only [Value.ownBlock, Option.some.injEq] at e; exact hne ad rfl e
            · cases A' with
              | none => cases hg
              | some ad => simp only [Value.ownBlock, Option.some.injEq] at hg; exact ⟨ad, rfl, hg.symm⟩)
        rw [hW6] at hcl7
        unfold insV at hcl7
        clear hcl
        have hTs := hT
        obtain ⟨_, _, _, _, hrows, _, hsfz, hosp, hbel, hkc, hks⟩ := hT
        clear hcells hkj hkb h hc hfz hk hr3 hr4 hcl4 hq hkc4 hks4 hrow
        go_wp2_with (first
          | (refine (guarded_calls (F := 36) (Q := TQ q Wq W.heap.size A' c' L.length) (enters_of Tryd.func36 (by kernel_rfl) rfl) hcl7).mono ?_))
        rintro ev W8 ⟨b, W7, rfl, ⟨hk7, hm7⟩, hg8⟩
        simp only [World.size_alloc] at hg8
        rw [hWq] at hk7
        have hg8k : Kp (fun k => k = wr.heap.size + 1 ∨ ∃ ad, A' = some ad ∧ k = ad.block) W6 W8 := (hk7.imp fun _ _ h => .inr h).trans (.of_grown hg8 fun q hq => by cases hq; exact .inl rfl)
        have hk8 : Kp (fun k => ∃ ad, A' = some ad ∧ k = ad.block) wr W8 := ⟨hg8k.os.trans hB6.os, hg8k.tape.trans hB6.tape, hg8k.output.trans hB6.output, Nat.le_trans hB6.size hg8k.size, fun k hk hn => by
          rw [hg8k.block k (Nat.lt_of_lt_of_le hk hB6.size) (fun e => e.elim (by omega) hn), hB6.block k hk]⟩
        have hr8 := hrows.kp hk8 (fun k o ho ⟨ad, h1, h2⟩ => by rw [h2, hsfz ad h1] at ho; cases ho) (fun g hg ⟨ad, h1, h2⟩ => (hosp g hg).2.2 ad h1 h2.symm)
        have hb8 : Below W.heap.size W W8 := ⟨hk8.os.trans hbel.os, hk8.tape.trans hbel.tape, hk8.output.trans hbel.output, Nat.le_trans hbel.size hk8.size, fun k hk => by
          rw [hk8.block k (Nat.lt_of_lt_of_le hk hbel.size) (fun ⟨ad, h1, h2⟩ => by have := hA' ad h1; omega), hbel.block k hk]⟩
        have hkc8 : W8.heap[W.heap.size]? = _ := (hk8.block _ (by omega) (fun ⟨ad, h1, h2⟩ => by have := hA' ad h1; omega)).trans hkc
        have hks8 : W8.heap[W3.heap.size]? = _ := (hk8.block _ (by omega) (fun ⟨ad, h1, h2⟩ => by have := hA' ad h1; omega)).trans hks
        obtain ⟨p3, p4⟩ := box_at hks8
        cases q with
        | none =>
          subst hm7
          simp only [Option.some.injEq] at hgo
          subst hgo
          clear hTs hcl7 hrows hk7 hg8 hg8k
          go_wp2
          exact ⟨rfl, .tuple #[u9, .int .i64 17], by simp [results, Tryd.results19, go_sem], u9, rfl, hb8, fz, xs, hr8⟩
        | some L'' =>
          obtain ⟨rfl, hl7, hr7⟩ := hm7
          simp only at hgo
          have hrow8 : W8.ownsRow W.heap.size 45 1 (.slice A' L.length c') L.length (L''.map wv) := by
            refine ⟨hr7.1, ?_⟩
            rcases hr7.2 with hn | ⟨g, cap, cur, hv, h1, hg, rest⟩
            · exact .inl hn
            · refine .inr ⟨g, cap, cur, hv, h1, ?_, rest⟩
              simp only [Value.slice.injEq] at hv
              have := hA' _ hv.1
              rw [hg8.block g (Array.getElem?_eq_some_iff.1 hg).1 (by simp; simp only at this; omega)]; exact hg
          have hclone := clone_calls (by rw [hl7]; exact hrow8) (by rw [hl7]; exact hl8)
          rw [hl7] at hclone
          obtain ⟨i26, hi, hz0, hz1, hz2⟩ := info26
          clear hcl7 hk7 hg8 hg8k hr7
          have hnext : ∀ W9, Below W8.heap.size W8 W9 → Rows2 fz0 W.heap.size W9 u9 acc fz xs ∧ ∀ o, (W9.alloc o).ownsRow W.heap.size 26 1 u9 acc.length xs := fun W9 hb => by
            have h1 := hr8.kp (Kp.of_below (S := fun _ => False) hb) (fun _ _ _ h => h) (fun _ _ h => h)
            exact ⟨h1, fun o => ownsRow_below h1.out ((Below.refl _ _).alloc (Nat.le_refl _) _)⟩
          have halen : acc.length + 1 ≤ 258 := by have := hTs.alen; omega
          go_wp2_with (first
            | (refine hclone.mono ?_; rintro e W9 ⟨A9, c9, rfl, hb9, hr9⟩)
            | (at_builtin; refine wpList_append_own_at _ rfl (.tmp 40) (.tmp 43) 40 rfl W.heap.size 26 i26 (.slice none 0 0) 1 24 (by kernel_rfl) hi hz0 hz1 hz2 rfl (by decide) u9 acc.length xs rfl ((hnext _ hb9).2 _) ⟨W9.heap.size, 0, none⟩ 1 1 [.slice A9 L.length c9] rfl rfl (cell_one_new _ _ _) (fun u hu => by simp only [List.mem_singleton] at hu; subst hu; rfl) (by unfold maxLen; omega) (by omega) (by have := hb8.size; have := hb9.size; simp; omega) ?_; intro v1 w1 hown1 hgrow1 hnil1 hat1))
          have hA9 : ∀ ad, A9 = some ad → W8.heap.size ≤ ad.block ∧ ad.block < W9.heap.size := fun ad had => hr9.lt ad.block (by rw [had]; rfl)
          have hs8 : wr.heap.size ≤ W8.heap.size := hk8.size
          have hs9 : W8.heap.size ≤ W9.heap.size := hb9.size
          have hv8 : ∀ g, u9.ownBlock = some g → g < W8.heap.size := fun g hg => (hr8.out.lt g hg).2
          have hat2 : v1.ownBlock = u9.ownBlock ∨ v1.ownBlock = some (W9.heap.size + 1) := by rw [World.size_alloc] at hat1; exact hat1
          obtain ⟨fz', g1, g2⟩ := Rows2.push (o := .cells #[.slice A9 L.length c9] 26) (hnext _ hb9).1 (by omega) (fun k o ho => (Array.getElem?_eq_some_iff.1 (hr8.fzw k o ho)).1) hv8 (by rw [hl7]; exact hr9) (by rw [hl7]; exact hown1) hgrow1 hat2
          have hkp : Kp (fun k => u9.ownBlock = some k) W8 w1 := ⟨hgrow1.os.trans hb9.os, hgrow1.tape.trans hb9.tape, hgrow1.output.trans hb9.output, Nat.le_trans hs9 (Nat.le_trans (by simp) hgrow1.size), fun k hk hn => by
            rw [hgrow1.block k (by rw [World.size_alloc]; omega) (fun e => hn e.symm), Below.heap_alloc _ _ _ (by omega), hb9.block k hk]⟩
          refine ⟨⟨k + 1, L'', acc ++ [.mk 0 L''], fz', xs ++ [.slice A9 L''.length c9], by simp, ?_⟩, by simp only [intOf]; omega⟩
          refine ⟨by rw [show c.2.2.1.1 - (k + 1) = m by omega]; exact hgo, hlt, hl7, by simp [hTs.alen], g1, ?_, ?_, ?_, ?_, ?_, ?_⟩
          · refine ⟨hrow8.1, ?_⟩
            rcases hrow8.2 with hn | ⟨g, cap, cur, hv, h1, hg, rest⟩
            · exact .inl hn
            · refine .inr ⟨g, cap, cur, hv, h1, ?_, rest⟩
              simp only [Value.slice.injEq] at hv
              rw [hkp.block g (Array.getElem?_eq_some_iff.1 hg).1 (fun e => (hosp g e).2.2 _ hv.1 rfl)]; exact hg
          · intro ad had
            have := hA' ad had
            rw [g2 _ (fun ad' had' => by have := hA9 ad' had'; omega)]
            exact hsfz ad had
          · intro g hg
            rcases hat2 with e | e
            · exact hosp g (e ▸ hg)
            · rw [e] at hg
              cases hg
              exact ⟨by omega, by omega, fun ad had => by have := hA' ad had; omega⟩
          · exact ⟨hkp.os.trans hb8.os, hkp.tape.trans hb8.tape, hkp.output.trans hb8.output, Nat.le_trans hb8.size hkp.size, fun k hk => by
              rw [hkp.block k (Nat.lt_of_lt_of_le hk hb8.size) (fun e => by have := (hr8.out.lt k e).1; omega), hb8.block k hk]⟩
          · rw [hkp.block _ (by omega) (fun e => (hosp _ e).2.1 rfl)]; exact hkc8
          · rw [hkp.block _ (by omega) (fun e => (hosp _ e).1 rfl)]; exact hks8
      · have hke : k = c.2.2.1.1 := by have := hT.hk; omega
        rw [hke, Nat.sub_self, traceGo] at hgo
        cases hgo
        have hrows := hT.rows
        have hbel := hT.bel
        subst hke
        clear hT hL' hrow
        go_wp2
        exact ⟨rfl, .tuple #[u9, .int .i64 0], by simp [results, Tryd.results19, go_sem], u9, rfl, hbel, fz, xs, hrows⟩
theorem freeze_rows2 {fz0 fz : Nat → Option Obj} {B : Nat} {W : World} {v : Value} {acc : List Tm} {xs : List Value} (h : Rows2 fz0 B W v acc fz xs) : ∃ A c fz', v = .slice A acc.length c ∧ FzW fz' W ∧ FzNew fz0 fz' B ∧ KidsAt fz' 1 A 0 acc := by
  rcases h.out.2 with ⟨hv, h0⟩ | ⟨g, cap, cur, hv, hB, hg, hnc, hcm, hcs, htk⟩
  · have : acc = [] := List.length_eq_zero_iff.1 h0
    subst this
    exact ⟨none, 0, fz, hv, h.fzw, h.fzn, KidsAt.nil⟩
  · have hgn := h.ofz g (by rw [hv]; rfl)
    have hle : leF fz (fun k => if k = g then W.heap[g]? else fz k) := fun k o hk => by
      show (if k = g then W.heap[g]? else fz k) = some o
      split
      · rename_i e; subst e; rw [hgn] at hk; cases hk
      · exact hk
    refine ⟨_, _, fun k => if k = g then W.heap[g]? else fz k, hv, fun k o hk => ?_, fz_trans h.fzn (h := fun k => if k = g then W.heap[g]? else fz k) (b' := B) ⟨hle, fun k o hk => ?_⟩ (Nat.le_refl _), KidsAt.of_row rfl acc 0 fun j t hj => ?_⟩
    · simp only at hk
      split at hk
      · rename_i e; subst e; exact hk
      · exact h.fzw k o hk
    · simp only at hk
      split at hk
      · rename_i e; subst e; exact .inr hB
      · exact .inl hk
    · obtain ⟨A, c, e1, e2⟩ := h.el j t hj
      refine ⟨A, c, ?_, e2.mono hle⟩
      rw [← htk, List.getElem?_take] at e1
      split at e1
      · rw [Array.getElem?_toList] at e1
        unfold fzCell
        simp only [if_pos, hg]
        simpa using e1
      · cases e1
def exec_Trace.a : ACods ((Int × Int × (Nat × (Nat → Int) × (Nat → Int) × (Nat → Int) × (Nat → Int) × (Nat → Int) × (Nat → Int)) × (Nat × (Nat → Int))) × List Tm × Unit) := (.cons (.pk (.cons (.val (.int .i64)) (.cons (.val (.int .i64)) (.cons (.rows (.int .i64 (.int .i64 (.int .i64 (.int .i64 (.int .i64 (.int1 .u64))))))) (.one (.rows (.int1 .i64))))))) (.cons (.tms 0) .nil))
def exec_Trace.r : RCod (List Tm × Int) := .tup (.cons (.tms 1) (.one (.val (.int .i64))))
noncomputable def exec_Trace.cs : List (Kn Tryd.prog) := [exec_Run.c, isa_Sources.c]
theorem exec_Trace.con (a : (Int × Int × (Nat × (Nat → Int) × (Nat → Int) × (Nat → Int) × (Nat → Int) × (Nat → Int) × (Nat → Int)) × (Nat × (Nat → Int))) × List Tm × Unit) (r : List Tm × Int) (h : exec_Trace.f a.1 a.2.1 = some r) : Contract Tryd.prog 19 (exec_Trace.a.enc a) (exec_Trace.r.enc r) := fun fz w args hfz hL hA => by
  obtain ⟨c, regs, u⟩ := a
  obtain ⟨hsz, hrel⟩ := hA
  obtain ⟨x0, e0, r0⟩ := hrel 0 _ rfl
  obtain ⟨x1, e1, r1⟩ := hrel 1 _ rfl
  obtain ⟨Ai, ci, Ao, co, rfl, hc⟩ := code_arg r0
  obtain ⟨A, cc, rfl, hk⟩ := r1
  obtain rfl := args2 e0 e1 hsz.symm
  refine CallOk2.of_calls (fn := Tryd.f19) (by kernel_rfl) (by kernel_rfl) (by kernel_rfl) ((trace_calls (c := c) (regs := regs) h hL hfz hk hc).mono fun e W' hq => ?_)
  obtain ⟨v, he, hb, fz1, xs, hrows⟩ := hq
  obtain ⟨A', c', fz', rfl, f1, f2, f3⟩ := freeze_rows2 hrows
  refine .inl ⟨_, he, hb, fz', f1, f2, _, rfl, rfl, fun i p hp => ?_⟩
  match i with
  | 0 => cases hp; exact ⟨_, rfl, A', c', rfl, f3⟩
  | 1 => cases hp; exact ⟨_, rfl, rfl⟩
  | i + 2 => simp [exec_Trace.r, RCod.tup, TCods.cons, TCods.one] at hp
noncomputable def exec_Trace.c : Kn Tryd.prog := Kn.of 19 exec_Trace.a exec_Trace.r (fun a => exec_Trace.f a.1 a.2.1) exec_Trace.con

/-! ### saturateref49_Same: function 13 -/
def saturateref49_Same.a : ACods (List Tm × List Tm × Unit) := (.cons (.tms 0) (.cons (.tms 0) .nil))
def saturateref49_Same.r : RCod (Bool) := .val (.bool)
noncomputable def saturateref49_Same.cs : List (Kn Tryd.prog) := []
def saturateref49_Same.live : Nat → Option Keep := liveOf [(9, ⟨[0, 1, 5], [], [], [], []⟩)]
noncomputable def saturateref49_Same.body : Code := bodyOf Tryd.f13
noncomputable def saturateref49_Same.K (fu : Nat) : Code → St → (Ex → St → Option (Bool)) → Option (Bool) := codeK Tryd.prog (saturateref49_Same.cs) saturateref49_Same.live fu
noncomputable def saturateref49_Same.j4 (fu : Nat) (n4 : Nat) (x0l : List Tm) (x1l : List Tm) (x5 : Int) : Option Bool :=
  loopK (saturateref49_Same.K fu (sub saturateref49_Same.body [true, true, false, true, false, false])) (saturateref49_Same.live 9) n4 (stOf 26 [(0, .tsl 0 x0l), (1, .tsl 0 x1l), (5, .val (.int .i64 x5))] []) (blockC 0 (seqC fu (saturateref49_Same.live 16) (saturateref49_Same.K fu (sub saturateref49_Same.body [true, true, true])) (retC Tryd.prog false (Tryd.f13.results) saturateref49_Same.r.dec)))
theorem saturateref49_Same.j4_succ (fu : Nat) (n4 : Nat) (x0l : List Tm) (x1l : List Tm) (x5 : Int) : saturateref49_Same.j4 fu (n4 + 1) x0l x1l x5 =
  bif (decide (x5 < (x0l.length : Int))) then
    bif decide (0 ≤ x5) then
      bif decide (x5 < (x0l.length : Int)) then
        ((x0l[x5.toNat]? : Option Tm)).bind fun u1 =>
        bif decide (0 ≤ x5) then
          bif decide (x5 < (x1l.length : Int)) then
            ((x1l[x5.toNat]? : Option Tm)).bind fun u2 =>
            bif (u1.x != u2.x) then
              some false
            else
              saturateref49_Same.j4 fu n4 x0l x1l (IntKind.i64.wrap (x5 + 1))
          else
            none
        else
          none
      else
        none
    else
      none
  else
    some true := by kernel_rfl
noncomputable def saturateref49_Same.g (fu : Nat) (a0 : List Tm) (a1 : List Tm) : Option (Bool) :=
  bif ((a0.length : Int) != (a1.length : Int)) then
    some false
  else
    saturateref49_Same.j4 fu fu a0 a1 0
noncomputable def saturateref49_Same.f (a0 : List Tm) (a1 : List Tm) : Option (Bool) := saturateref49_Same.g (fuel0 + 1) a0 a1
theorem saturateref49_Same.eq (fu : Nat) (a : List Tm × List Tm × Unit) : bodyK Tryd.prog saturateref49_Same.cs saturateref49_Same.live fu Tryd.f13 false (saturateref49_Same.a.enc a) saturateref49_Same.r.dec = saturateref49_Same.g fu a.1 a.2.1 := by kernel_rfl
theorem saturateref49_Same.con : ∀ (a : List Tm × List Tm × Unit) (r : Bool), saturateref49_Same.f a.1 a.2.1 = some r → Contract Tryd.prog 13 (saturateref49_Same.a.enc a) (saturateref49_Same.r.enc r) := Contract.of_body (F := fun (a : List Tm × List Tm × Unit) => saturateref49_Same.f a.1 a.2.1) (fn := Tryd.f13) (cs := saturateref49_Same.cs) (live := saturateref49_Same.live) (fuel := fuel0 + 1) (by kernel_rfl) (by kernel_rfl) mixed (saturateref49_Same.eq (fuel0 + 1))
noncomputable def saturateref49_Same.c : Kn Tryd.prog := Kn.of 13 saturateref49_Same.a saturateref49_Same.r (fun a => saturateref49_Same.f a.1 a.2.1) saturateref49_Same.con

/-! ### saturatelaw49_live: function 11 -/
def saturatelaw49_live.a : ACods (Unit) := .nil
def saturatelaw49_live.r : RCod (Bool) := .val (.bool)
def saturatelaw49_live.live : Nat → Option Keep := liveOf []
noncomputable def saturatelaw49_live.body : Code := bodyOf Tryd.f11
noncomputable def saturatelaw49_live.csv (v_exec_Run : (Int × Int × (Nat × (Nat → Int) × (Nat → Int) × (Nat → Int) × (Nat → Int) × (Nat → Int) × (Nat → Int)) × (Nat × (Nat → Int))) × List Tm × Unit → Option (List Tm × Int × Int)) (h_exec_Run : Con Tryd.prog 12 exec_Run.a exec_Run.r v_exec_Run) (v_exec_Trace : (Int × Int × (Nat × (Nat → Int) × (Nat → Int) × (Nat → Int) × (Nat → Int) × (Nat → Int) × (Nat → Int)) × (Nat × (Nat → Int))) × List Tm × Unit → Option (List Tm × Int)) (h_exec_Trace : Con Tryd.prog 19 exec_Trace.a exec_Trace.r v_exec_Trace) (v_saturateref49_Same : List Tm × List Tm × Unit → Option (Bool)) (h_saturateref49_Same : Con Tryd.prog 13 saturateref49_Same.a saturateref49_Same.r v_saturateref49_Same) : List (Kn Tryd.prog) := [Kn.of 12 exec_Run.a exec_Run.r v_exec_Run h_exec_Run.c, Kn.of 19 exec_Trace.a exec_Trace.r v_exec_Trace h_exec_Trace.c, Kn.of 13 saturateref49_Same.a saturateref49_Same.r v_saturateref49_Same h_saturateref49_Same.c]
noncomputable def saturatelaw49_live.fv (v_exec_Run : (Int × Int × (Nat × (Nat → Int) × (Nat → Int) × (Nat → Int) × (Nat → Int) × (Nat → Int) × (Nat → Int)) × (Nat × (Nat → Int))) × List Tm × Unit → Option (List Tm × Int × Int)) (h_exec_Run : Con Tryd.prog 12 exec_Run.a exec_Run.r v_exec_Run) (v_exec_Trace : (Int × Int × (Nat × (Nat → Int) × (Nat → Int) × (Nat → Int) × (Nat → Int) × (Nat → Int) × (Nat → Int)) × (Nat × (Nat → Int))) × List Tm × Unit → Option (List Tm × Int)) (h_exec_Trace : Con Tryd.prog 19 exec_Trace.a exec_Trace.r v_exec_Trace) (v_saturateref49_Same : List Tm × List Tm × Unit → Option (Bool)) (h_saturateref49_Same : Con Tryd.prog 13 saturateref49_Same.a saturateref49_Same.r v_saturateref49_Same) : Option (Bool) :=
  (v_exec_Run ((8, 2, (1, (fun i => [8].getD i 0), (fun i => [0].getD i 0), (fun i => [0].getD i 0), (fun i => [1].getD i 0), (fun i => [0].getD i 0), (fun i => [0].getD i 0)), (1, (fun i => [0].getD i 0))), ([(Tm.mk 200 []), (Tm.mk 100 [])]), ())).bind fun r1 =>
  (v_exec_Run ((8, 2, (1, (fun i => [11].getD i 0), (fun i => [0].getD i 0), (fun i => [0].getD i 0), (fun i => [1].getD i 0), (fun i => [0].getD i 0), (fun i => [0].getD i 0)), (1, (fun i => [0].getD i 0))), ([(Tm.mk 5 []), (Tm.mk 0 [])]), ())).bind fun r2 =>
  (v_exec_Trace ((8, 2, (1, (fun i => [11].getD i 0), (fun i => [0].getD i 0), (fun i => [0].getD i 0), (fun i => [1].getD i 0), (fun i => [0].getD i 0), (fun i => [0].getD i 0)), (1, (fun i => [0].getD i 0))), ([(Tm.mk 5 [])]), ())).bind fun r3 =>
  (v_saturateref49_Same (r1.1, ([(Tm.mk 44 []), (Tm.mk 100 [])]), ())).bind fun r4 =>
  bif r4 then
    bif (r1.2.2 == 0) then
      bif ((r2.1.length : Int) == 0) then
        bif (r2.2.1 == 0) then
          bif (r2.2.2 == 17) then
            bif ((r3.1.length : Int) == 1) then
              some (r3.2 == 17)
            else
              some false
          else
            some false
        else
          some false
      else
        some false
    else
      some false
  else
    some false
theorem saturatelaw49_live.eqv (v_exec_Run : (Int × Int × (Nat × (Nat → Int) × (Nat → Int) × (Nat → Int) × (Nat → Int) × (Nat → Int) × (Nat → Int)) × (Nat × (Nat → Int))) × List Tm × Unit → Option (List Tm × Int × Int)) (h_exec_Run : Con Tryd.prog 12 exec_Run.a exec_Run.r v_exec_Run) (v_exec_Trace : (Int × Int × (Nat × (Nat → Int) × (Nat → Int) × (Nat → Int) × (Nat → Int) × (Nat → Int) × (Nat → Int)) × (Nat × (Nat → Int))) × List Tm × Unit → Option (List Tm × Int)) (h_exec_Trace : Con Tryd.prog 19 exec_Trace.a exec_Trace.r v_exec_Trace) (v_saturateref49_Same : List Tm × List Tm × Unit → Option (Bool)) (h_saturateref49_Same : Con Tryd.prog 13 saturateref49_Same.a saturateref49_Same.r v_saturateref49_Same) (fu : Nat) (a : Unit) : bodyK Tryd.prog (saturatelaw49_live.csv v_exec_Run h_exec_Run v_exec_Trace h_exec_Trace v_saturateref49_Same h_saturateref49_Same) saturatelaw49_live.live fu Tryd.f11 false (saturatelaw49_live.a.enc a) saturatelaw49_live.r.dec = saturatelaw49_live.fv v_exec_Run h_exec_Run v_exec_Trace h_exec_Trace v_saturateref49_Same h_saturateref49_Same := by kernel_rfl
noncomputable def saturatelaw49_live.f : Option (Bool) := saturatelaw49_live.fv (fun a => exec_Run.f a.1 a.2.1) ⟨exec_Run.con⟩ (fun a => exec_Trace.f a.1 a.2.1) ⟨exec_Trace.con⟩ (fun a => saturateref49_Same.f a.1 a.2.1) ⟨saturateref49_Same.con⟩
theorem saturatelaw49_live.con : ∀ (a : Unit) (r : Bool), saturatelaw49_live.f = some r → Contract Tryd.prog 11 (saturatelaw49_live.a.enc a) (saturatelaw49_live.r.enc r) := Contract.of_body (F := fun (a : Unit) => saturatelaw49_live.f) (fn := Tryd.f11) (cs := saturatelaw49_live.csv (fun a => exec_Run.f a.1 a.2.1) ⟨exec_Run.con⟩ (fun a => exec_Trace.f a.1 a.2.1) ⟨exec_Trace.con⟩ (fun a => saturateref49_Same.f a.1 a.2.1) ⟨saturateref49_Same.con⟩) (live := saturatelaw49_live.live) (fuel := fuel0 + 1) (by kernel_rfl) (by kernel_rfl) mixed (saturatelaw49_live.eqv (fun a => exec_Run.f a.1 a.2.1) ⟨exec_Run.con⟩ (fun a => exec_Trace.f a.1 a.2.1) ⟨exec_Trace.con⟩ (fun a => saturateref49_Same.f a.1 a.2.1) ⟨saturateref49_Same.con⟩ (fuel0 + 1))
noncomputable def saturatelaw49_live.c : Kn Tryd.prog := Kn.of 11 saturatelaw49_live.a saturatelaw49_live.r (fun a => saturatelaw49_live.f) saturatelaw49_live.con
end Go.Proofs.YtkmehmlcccdnbaaDoor.Fn
