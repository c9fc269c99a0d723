/- What the functions return, as the evaluator tells it: written by a program of this workplace (mev.py); Lean checks each equation. -/
import Derived.RangeFuncNested
import Derived.RangeFuncBound
import Derived.RangeFuncCalls
import Derived.RangeFuncLeaves
import Derived.Shelf.Abstract
import Derived.WalkKit
import Derived.Shelf.RegionOpen
import Derived.OwnWalkIn
import Derived.TacticsInMore
import Derived.LoopNIn
import Derived.LoopIn
import Derived.Maps.OwnIn
import Derived.Maps.Views
import Derived.StringKeys
import Derived.Test.YtcihbcffokjgjaaGreatProg
import Derived.Test.YtcihbcffokjgjaaGreatTEvC
import Derived.Test.YtcihbcffokjgjaaGreatTF0
namespace Go.Proofs.YtcihbcffokjgjaaGreat.Fn
open Go Go.RowKit Go.Proofs.YtcihbcffokjgjaaGreat.Ev Go.Proofs
set_option linter.unusedVariables false
set_option maxRecDepth 100000
open Go.Shelf
attribute [local go_sem] Oper.semAt_some
mutual
def postT : Tm → List Tm
  | .mk op width val name kids => postL kids ++ [.mk op width val name kids]
def postL : List Tm → List Tm
  | [] => []
  | t :: l => postT t ++ postL l
end
theorem CallOk.calls1 {P : Program} {f : FuncId} {fn : Func} {args : Array Value} {w : World} {R : Value → World → Prop} (hf : P.funcs[f]? = some fn) (hname : (fn.name == "runtime.NumGoroutine") = false) (hb : fn.body.isNone = false) (h : CallOk P f args w R) :
    Calls P f args w fun e w'' => ∃ x, e = .returned x ∧ R x w'' := by
  have hcall : (callFunc f args).run P w = .ok (.enter f args) w := by
    unfold callFunc
    simp only [Sem.run_bind, run_program, Result.andThen_ok, hf, hname, hb, Bool.false_eq_true, if_false, Sem.run_pure]
  unfold CallOk at h
  rw [hcall] at h
  exact h.2
theorem round_any {m m' : Nat} {P : Program} {l : Nat} {f : FuncId} {tmps : Array Value} {assign body : Code} {w : World} {R : Ending → World → Prop}
    (h : RoundIn Fence.wide m P l f tmps assign body w R) : RoundIn Fence.wide m' P l f tmps assign body w R := ⟨h.1, fun c cs _ => h.2 c cs (room_wide _)⟩
def tmV (u : Tm) (A : Option Addr) (c : Nat) : Array Value := #[.int .i64 u.op, .int .i64 u.width, .int .u64 u.val, .string u.name, .slice A u.kids.length c]
theorem laid0 (w : World) : LaidW w := fun g n fs h => by cases h
theorem pk_tmV {fz : Nat → Option Obj} {w : World} {B : Nat} {u : Tm} {A : Option Addr} {c : Nat} (hk : KidsAt fz A 0 u.kids) : AVRel fz w B (.agg (tmV u A c)) (.pk u.pas) := by
  refine ⟨_, rfl, rfl, fun i p hp => ?_⟩
  match i with
  | 0 => simp [Tm.pas] at hp; subst hp; exact ⟨_, rfl, rfl⟩
  | 1 => simp [Tm.pas] at hp; subst hp; exact ⟨_, rfl, rfl⟩
  | 2 => simp [Tm.pas] at hp; subst hp; exact ⟨_, rfl, rfl⟩
  | 3 => simp [Tm.pas] at hp; subst hp; exact ⟨_, rfl, rfl⟩
  | 4 => simp [Tm.pas] at hp; subst hp; exact ⟨_, rfl, A, c, rfl, hk⟩
  | i + 5 => simp [Tm.pas] at hp
theorem tmV_of {fz : Nat → Option Obj} {w : World} {B : Nat} {u : Tm} {y : Value} (h : AVRel fz w B y (.pk u.pas)) : ∃ A c, y = .agg (tmV u A c) ∧ KidsAt fz A 0 u.kids := by
  obtain ⟨c, rfl, hl, hc⟩ := h
  obtain ⟨x0, e0, r0⟩ := hc 0 _ rfl
  obtain ⟨x1, e1, r1⟩ := hc 1 _ rfl
  obtain ⟨x2, e2, r2⟩ := hc 2 _ rfl
  obtain ⟨x3, e3, r3⟩ := hc 3 _ rfl
  obtain ⟨x4, e4, A, k, r4, hk⟩ := hc 4 _ rfl
  have r0' : x0 = _ := r0
  have r1' : x1 = _ := r1
  have r2' : x2 = _ := r2
  have r3' : x3 = _ := r3
  subst r0'; subst r1'; subst r2'; subst r3'; subst r4
  refine ⟨A, k, ?_, hk⟩
  congr 1
  apply Array.ext_getElem?
  intro i
  match i with
  | 0 => exact e0
  | 1 => exact e1
  | 2 => exact e2
  | 3 => exact e3
  | 4 => exact e4
  | i + 5 => rw [Array.getElem?_eq_none (by rw [← hl]; simp [Tm.pas])]; exact (Array.getElem?_eq_none (by simp [tmV])).symm
theorem copy_calls {u v : Tm} (h : term_Copy.f u = some v) {fz : Nat → Option Obj} {W : World} (hfz : FzW fz W) {A : Option Addr} {c : Nat} (hk : KidsAt fz A 0 u.kids) :
    Calls Tryz.prog 78 #[.agg (tmV u A c)] W fun e W' => ∃ A' c' fz', e = .returned (.agg (tmV v A' c')) ∧ Below W.heap.size W W' ∧ FzW fz' W' ∧ FzNew fz fz' W.heap.size ∧ KidsAt fz' A' 0 v.kids := by
  have hC := term_Copy.con (u, ()) v h fz W #[.agg (tmV u A c)] hfz (laid0 W) ⟨rfl, fun i av hi => by
    match i with
    | 0 => cases hi; exact ⟨_, rfl, pk_tmV hk⟩
    | i + 1 => simp [term_Copy.a, ACods.cons, ACods.nil] at hi⟩
  refine (CallOk.calls1 (fn := Tryz.f78) (by kernel_rfl) (by kernel_rfl) (by kernel_rfl) hC).mono fun e W' ⟨x, he, hb, fz', h1, h2, h3⟩ => ?_
  obtain ⟨A', c', rfl, hk'⟩ := tmV_of (u := v) h3
  exact ⟨A', c', fz', he, hb, h1, h2, hk'⟩
theorem all_in (x : Array Value) (w : World) : Calls Tryz.prog 117 #[.agg x] w fun e w' => e = .returned (.func (.func 182) #[] #[.pointer (some ⟨w.heap.size, 0, none⟩)]) ∧ w' = w.alloc (.cells x 38) := by
  refine callsIn_wide (n := 3).1 ?_
  refine callsIn_of_wp Tryz.func117 rfl trivial ?_ rfl
  simp only [Tryz.ntmps117, List.size_toArray, List.length_cons, List.length_nil, Nat.reduceAdd, Nat.reduceSub, Array.replicate_succ, Array.replicate_zero, List.push_toArray, List.append_toArray, List.nil_append, List.cons_append]
  gi_wp2
  go_ret
  exact ⟨rfl, rfl⟩
theorem in184 {l By : Nat} {W : World} {fz : Nat → Option Obj} {u v : Tm} {A : Option Addr} {c : Nat} (hk : KidsAt fz A 0 u.kids) (hfz : FzW fz W) (hBy : W.cell? ⟨By, 0, none⟩ = some (.func (.yield l) #[] #[])) (hv : term_Copy.f u = some v)
    {R : Ending → World → Prop} (hR0 : ∀ e W', R e W' → ∃ b, e = .returned (.bool b))
    (hY : ∀ fz' A' c' W', Below W.heap.size W W' → FzW fz' W' → FzNew fz fz' W.heap.size → KidsAt fz' A' 0 v.kids → YieldAt Fence.wide 0 Tryz.prog l #[.agg (tmV v A' c')] W' R) (n : Nat) :
    CallsIn Fence.wide n Tryz.prog 184 #[.agg (tmV u A c), .pointer (some ⟨By, 0, none⟩)] W R := by
  refine callsIn_of_wp Tryz.func184 rfl trivial ?_ rfl
  simp only [Tryz.ntmps184, List.size_toArray, List.length_cons, List.length_nil, Nat.reduceAdd, Nat.reduceSub, Array.replicate_succ, Array.replicate_zero, List.push_toArray, List.append_toArray, List.nil_append, List.cons_append]
  have hcopy : ∀ W1 : World, Below W.heap.size W W1 → Calls Tryz.prog 78 #[.agg (tmV u A c)] W1 fun e W' => ∃ A' c' fz', e = .returned (.agg (tmV v A' c')) ∧ Below W.heap.size W W' ∧ FzW fz' W' ∧ FzNew fz fz' W.heap.size ∧ KidsAt fz' A' 0 v.kids := fun W1 hb => by
    have hfz1 : FzW fz W1 := fun k o hk => by rw [hb.block k (Array.getElem?_eq_some_iff.1 (hfz k o hk)).1]; exact hfz k o hk
    exact (copy_calls hv hfz1 hk).mono fun e W' ⟨A', c', fz', he, h1, h2, h3, h4⟩ => ⟨A', c', fz', he, hb.trans (h1.mono hb.size), h2, ⟨h3.1, fun k o hk => (h3.2 k o hk).imp id (Nat.le_trans hb.size)⟩, h4⟩
  have hcell : ∀ W1 : World, Below W.heap.size W W1 → W1.cell? ⟨By, 0, none⟩ = some (.func (.yield l) #[] #[]) := fun W1 hb => by
    rw [cell_of_block (hb.block By ?_)]; exact hBy
    unfold World.cell? at hBy
    split at hBy
    · rename_i hq; exact (Array.getElem?_eq_some_iff.1 hq).1
    · cases hBy
  have hmx : Tryz.prog.follows .mixedOrders = true := mixed
  have hB1 : Below W.heap.size W (W.alloc (Obj.cells (tmV u A c) 38)) := (Below.refl W.heap.size W).alloc (Nat.le_refl _) _
  unfold tmV at hcopy hY hB1 ⊢
  gi_wp2
  have h1 := hcell _ hB1
  gi_region_with_o (first
    | (refine ⟨trivial, fun h => (by cases h), (callsIn_wide.2 (hcopy _ (by first | exact hB1.drew | exact hB1))).mono ?_⟩; rintro e W2 ⟨A', c', fz', rfl, hb2, hfz2, hle2, hk2⟩; have hc2 := hcell W2 hb2; obtain ⟨fn, tmps, assign, body, hy, hR⟩ := hY fz' A' c' W2 hb2 hfz2 hle2 hk2)
    | (refine ⟨fun h => (by cases h), (round_any hR).mono ?_⟩; rintro e W3 hr; obtain ⟨b, rfl⟩ := hR0 e W3 hr))
  all_goals gi_wp2
  all_goals (go_ret; exact hr)
structure Keeps (a b : Nat) (W W' : World) : Prop where
  os : W'.os = W.os
  tape : W'.tape = W.tape
  output : W'.output = W.output
  size : W.heap.size ≤ W'.heap.size
  block : ∀ k, k < a ∨ b ≤ k → k < W.heap.size → W'.heap[k]? = W.heap[k]?
theorem Keeps.refl (a b : Nat) (W : World) : Keeps a b W W := ⟨rfl, rfl, rfl, Nat.le_refl _, fun _ _ _ => rfl⟩
theorem Keeps.trans {a b : Nat} {A B C : World} (h : Keeps a b A B) (k : Keeps a b B C) : Keeps a b A C :=
  ⟨k.os.trans h.os, k.tape.trans h.tape, k.output.trans h.output, Nat.le_trans h.size k.size, fun i hi hl => (k.block i hi (Nat.lt_of_lt_of_le hl h.size)).trans (h.block i hi hl)⟩
theorem Keeps.of_below {a b : Nat} {A B : World} (h : Below A.heap.size A B) : Keeps a b A B := ⟨h.os, h.tape, h.output, h.size, fun k _ hl => h.block k hl⟩
theorem cell_lt {W : World} {a : Addr} {v : Value} (h : W.cell? a = some v) : a.block < W.heap.size := by
  unfold World.cell? at h
  split at h
  · rename_i hq; exact (Array.getElem?_eq_some_iff.1 hq).1
  · cases h
theorem Keeps.cell {a b : Nat} {A B : World} (h : Keeps a b A B) {k o : Nat} {v : Value} (hk : k < a ∨ b ≤ k) (hc : A.cell? ⟨k, o, none⟩ = some v) : B.cell? ⟨k, o, none⟩ = some v := by
  rw [cell_of_block (h.block k hk (cell_lt hc))]; exact hc
def PostR (a b : Nat) (fz : Nat → Option Obj) (W : World) (Q : Bool → World → Prop) : Ending → World → Prop :=
  fun e W' => ∃ ok fz', e = .returned (.bool ok) ∧ FzW fz' W' ∧ FzNew fz fz' b ∧ Keeps a b W W' ∧ Q ok W'
def FzOut (a b : Nat) (fz : Nat → Option Obj) : Prop := ∀ k, a ≤ k → k < b → fz k = none
theorem fzNew_trans {f g h : Nat → Option Obj} {b : Nat} (h1 : FzNew f g b) (h2 : FzNew g h b) : FzNew f h b := ⟨fun k o hk => h2.1 k o (h1.1 k o hk), fun k o hk => (h2.2 k o hk).elim (fun hg => h1.2 k o hg) .inr⟩
theorem fzNew_refl (f : Nat → Option Obj) (b : Nat) : FzNew f f b := ⟨fun _ _ h => h, fun _ _ h => .inl h⟩
theorem fzNew_mono {f g : Nat → Option Obj} {b b' : Nat} (h : FzNew f g b') (hb : b ≤ b') : FzNew f g b := ⟨h.1, fun k o hk => (h.2 k o hk).imp id (Nat.le_trans hb)⟩
theorem FzOut.new {a b : Nat} {f g : Nat → Option Obj} (h : FzOut a b f) (hn : FzNew f g b) : FzOut a b g := fun k h1 h2 => by
  cases hg : g k with
  | none => rfl
  | some o =>
    rcases hn.2 k o hg with h3 | h3
    · rw [h k h1 h2] at h3; cases h3
    · omega
def okJ (J : List Tm → World → Prop) (Jx : World → Prop) (rem : List Tm) (ok : Bool) (W : World) : Prop := if ok = true then J rem W else Jx W
theorem postT_eq (t : Tm) : postT t = postL t.kids ++ [t] := by cases t; rfl
theorem fz_cells {fz : Nat → Option Obj} {W : World} (hfz : FzW fz W) {k o : Nat} {v : Value} (h : fzCell fz k o = some v) : W.cell? ⟨k, o, none⟩ = some v := by
  unfold fzCell at h
  split at h
  · rename_i c e f hk
    have := hfz k _ hk
    simp [World.cell?, this, h]
  · cases h
mutual
def smallT : Tm → Bool
  | .mk _ _ _ _ kids => Nat.ble kids.length 4611686018427387903 && smallL kids
def smallL : List Tm → Bool
  | [] => true
  | t :: l => smallT t && smallL l
end
theorem smallL_mem : ∀ {l : List Tm}, smallL l = true → ∀ t ∈ l, smallT t = true
  | [], _, t, h => by cases h
  | u :: l, hs, t, h => by
    simp only [smallL, Bool.and_eq_true] at hs
    cases h with
    | head => exact hs.1
    | tail _ h => exact smallL_mem hs.2 t h
theorem smallT_kids {t : Tm} (h : smallT t = true) : t.kids.length ≤ 4611686018427387903 ∧ smallL t.kids = true := by
  cases t
  simp only [smallT, Bool.and_eq_true, Nat.ble_eq] at h
  exact h
theorem in183 {a b By l : Nat} {J : List Tm → World → Prop} {Jx : World → Prop} (hb : b ≤ By) (hJ : ∀ r W W', J r W → Below W.heap.size W W' → J r W') (hJs : ∀ r W, J r W → b ≤ W.heap.size)
    (hC : ∀ fz W u rem A c n, J (u :: rem) W → FzW fz W → FzOut a b fz → KidsAt fz A 0 u.kids → W.cell? ⟨By, 0, none⟩ = some (.func (.yield l) #[] #[]) →
      CallsIn Fence.wide n Tryz.prog 184 #[.agg (tmV u A c), .pointer (some ⟨By, 0, none⟩)] W (PostR a b fz W (okJ J Jx rem))) :
    ∀ (N : Nat) (t : Tm), SizeOf.sizeOf t ≤ N → smallT t = true → ∀ fz W rem A c n, J (postT t ++ rem) W → FzW fz W → FzOut a b fz → KidsAt fz A 0 t.kids → W.cell? ⟨By, 0, none⟩ = some (.func (.yield l) #[] #[]) →
      CallsIn Fence.wide n Tryz.prog 183 #[.agg (tmV t A c), .func (.func 184) #[] #[.pointer (some ⟨By, 0, none⟩)]] W (PostR a b fz W (okJ J Jx rem)) := by
  intro N
  induction N with
  | zero => intro t ht; cases t; simp at ht
  | succ N ih =>
    intro t ht hsm fz W rem A c n hj hfz hout hk hBy
    obtain ⟨hsl, hsk⟩ := smallT_kids hsm
    refine callsIn_of_wp Tryz.func183 rfl trivial ?_ rfl
    simp only [Tryz.ntmps183, List.size_toArray, List.length_cons, List.length_nil, Nat.reduceAdd, Nat.reduceSub, Array.replicate_succ, Array.replicate_zero, List.push_toArray, List.append_toArray, List.nil_append, List.cons_append]
    have hbW := hJs _ _ hj
    have hB1 : Below W.heap.size W (W.alloc (Obj.cells (tmV t A c) 38)) := (Below.refl W.heap.size W).alloc (Nat.le_refl _) _
    obtain ⟨W1, hW1⟩ : ∃ W1, W1 = W.alloc (Obj.cells (tmV t A c) 38) := ⟨_, rfl⟩
    unfold tmV at hB1 hW1 ⊢
    gi_wp2
    rw [← hW1] at hB1 ⊢
    gi_loopw [10] (fun i wr => ∃ (k : Nat) (fz' : Nat → Option Obj), i = .int .i64 (k : Int) ∧ k ≤ t.kids.length ∧ FzW fz' wr ∧ FzNew fz fz' b ∧ Keeps a b W1 wr ∧ J (postL (t.kids.drop k) ++ (t :: rem)) wr)
      (fun i wr => t.kids.length - (intOf i).toNat)
    case atStart =>
      exact ⟨0, fz, rfl, Nat.zero_le _, fun k o hk => by rw [hB1.block k (Array.getElem?_eq_some_iff.1 (hfz k o hk)).1]; exact hfz k o hk, fzNew_refl _ _, Keeps.refl _ _ _, by
        rw [List.drop_zero]
        refine hJ _ _ _ ?_ hB1
        rw [postT_eq] at hj
        simpa using hj⟩
    case round =>
      obtain ⟨k, fz', rfl, hkl, hfz', hle, hkp, hj'⟩ := hrel
      have hs1 : W1.heap.size = W.heap.size + 1 := by rw [hW1]; simp
      by_cases hlt : k < t.kids.length
      · obtain ⟨ad, rfl, hsp, hT⟩ := hk.get (j := k) (t := t.kids[k]) (by simp [hlt])
        obtain ⟨blk, off, sp⟩ := ad
        obtain rfl : sp = none := hsp
        generalize hu : t.kids[k] = u at hT
        cases u with
        | mk op width val name kids =>
          unfold TmAt at hT
          obtain ⟨c0, c1, c2, c3, A', cc, c4, hkk⟩ := hT
          replace c0 := fz_cells hfz' (fzCell_mono hle.1 c0)
          replace c1 := fz_cells hfz' (fzCell_mono hle.1 c1)
          replace c2 := fz_cells hfz' (fzCell_mono hle.1 c2)
          replace c3 := fz_cells hfz' (fzCell_mono hle.1 c3)
          replace c4 := fz_cells hfz' (fzCell_mono hle.1 c4)
          simp only [Nat.zero_add, Nat.add_zero, ← Nat.add_assoc] at c0 c1 c2 c3 c4
          have hBy' : By < W.heap.size := cell_lt hBy
          have hkp2 : Keeps a b W1 (wr.alloc (Obj.cells #[Value.int .i64 op, Value.int .i64 width, Value.int .u64 val, Value.string name, Value.slice A' kids.length cc] 38)) := hkp.trans (.of_below ((Below.refl _ _).alloc (Nat.le_refl _) _))
          have hdrop : t.kids.drop k = Tm.mk op width val name kids :: t.kids.drop (k + 1) := by rw [List.drop_eq_getElem_cons hlt, hu]
          have hsz : SizeOf.sizeOf (Tm.mk op width val name kids) ≤ N := by
            have h1 := List.sizeOf_lt_of_mem (List.getElem_mem hlt)
            rw [hu] at h1
            have h2 : SizeOf.sizeOf t.kids < SizeOf.sizeOf t := by cases t; simp [Tm.kids]; omega
            omega
          have hcall := ih (Tm.mk op width val name kids) hsz (smallL_mem hsk _ (by rw [← hu]; exact List.getElem_mem hlt)) fz' (wr.alloc (Obj.cells #[Value.int .i64 op, Value.int .i64 width, Value.int .u64 val, Value.string name, Value.slice A' kids.length cc] 38)) (postL (t.kids.drop (k + 1)) ++ t :: rem) A' cc (n - 1) (by
              rw [hdrop] at hj'
              simp only [postL, List.append_assoc] at hj'
              exact hJ _ _ _ hj' ((Below.refl _ _).alloc (Nat.le_refl _) _))
            (fun q o hq => by rw [Below.heap_alloc _ _ _ (Array.getElem?_eq_some_iff.1 (hfz' q o hq)).1]; exact hfz' q o hq) (hout.new hle) (hkk.mono hle.1)
            (hkp2.cell (.inr hb) (by rw [cell_of_block (hB1.block By hBy')]; exact hBy))
          simp only [tmV, Tm.op, Tm.width, Tm.val, Tm.name, Tm.kids] at hcall
          clear ih hC
          gi_wp2_with (refine ⟨trivial, fun h => (by cases h), hcall.mono ?_⟩; rintro e W3 ⟨ok, fz3, rfl, hfz3, hle3, hkp3, hQ⟩; cases ok)
          · -- it was stopped
            go_ret
            exact ⟨false, fz3, rfl, hfz3, fzNew_trans hle hle3, (Keeps.of_below hB1).trans (hkp2.trans hkp3), hQ⟩
          · -- on to the next
            go_roundw
            case rel => exact ⟨k + 1, fz3, by simp, hlt, hfz3, fzNew_trans hle hle3, hkp2.trans hkp3, hQ⟩
            case measure => simp only [intOf]; omega
      · have hke : k = t.kids.length := by omega
        subst hke
        have hBy' : By < W.heap.size := cell_lt hBy
        have hnew : ∀ j v, (tmV t A c)[j]? = some v → wr.cell? ⟨W.heap.size, j, none⟩ = some v := fun j v hv => by
          refine hkp.cell (.inr hbW) ?_
          rw [hW1]
          simp only [World.cell?, heap_alloc_new]
          exact hv
        have d0 : wr.cell? ⟨W.heap.size, 0, none⟩ = some (.int .i64 t.op) := hnew 0 _ rfl
        have d1 : wr.cell? ⟨W.heap.size, 1, none⟩ = some (.int .i64 t.width) := hnew 1 _ rfl
        have d2 : wr.cell? ⟨W.heap.size, 2, none⟩ = some (.int .u64 t.val) := hnew 2 _ rfl
        have d3 : wr.cell? ⟨W.heap.size, 3, none⟩ = some (.string t.name) := hnew 3 _ rfl
        have d4 : wr.cell? ⟨W.heap.size, 4, none⟩ = some (.slice A t.kids.length c) := hnew 4 _ rfl
        have hcall := hC fz' wr t rem A c (n - 1) (by simpa [postL] using hj') hfz' (hout.new hle) (hk.mono hle.1) (hkp.cell (.inr hb) (by rw [cell_of_block (hB1.block By hBy')]; exact hBy))
        clear hnew hC ih
        simp only [tmV] at hcall
        gi_wp2_with (refine ⟨trivial, fun h => (by cases h), hcall.mono ?_⟩; rintro e W3 ⟨ok, fz3, rfl, hfz3, hle3, hkp3, hQ⟩)
        go_ret
        exact ⟨ok, fz3, rfl, hfz3, fzNew_trans hle hle3, (Keeps.of_below hB1).trans (hkp.trans hkp3), hQ⟩
theorem in182 {a b Bt l : Nat} {J : List Tm → World → Prop} {Jx : World → Prop} (hJ : ∀ r W W', J r W → Below W.heap.size W W' → J r W') (hJs : ∀ r W, J r W → b ≤ W.heap.size)
    (hC : ∀ By, b ≤ By → ∀ fz W u rem A c n, J (u :: rem) W → FzW fz W → FzOut a b fz → KidsAt fz A 0 u.kids → W.cell? ⟨By, 0, none⟩ = some (.func (.yield l) #[] #[]) →
      CallsIn Fence.wide n Tryz.prog 184 #[.agg (tmV u A c), .pointer (some ⟨By, 0, none⟩)] W (PostR a b fz W (okJ J Jx rem)))
    {t : Tm} (hsm : smallT t = true) {fz : Nat → Option Obj} {W : World} {A : Option Addr} {c : Nat} (hj : J (postT t) W) (hfz : FzW fz W) (hout : FzOut a b fz) (hk : KidsAt fz A 0 t.kids) (hBt : ∀ (i : Nat) v, (tmV t A c)[i]? = some v → W.cell? ⟨Bt, i, none⟩ = some v) (n : Nat) :
    CallsIn Fence.wide n Tryz.prog 182 #[.func (.yield l) #[] #[], .pointer (some ⟨Bt, 0, none⟩)] W fun e W' => (∃ v, e = .returned v) ∧ ∃ ok fz', FzW fz' W' ∧ FzNew fz fz' b ∧ Keeps a b W W' ∧ okJ J Jx [] ok W' := by
  have hbW := hJs _ _ hj
  have hB1 : Below W.heap.size W (W.alloc (Obj.cells #[.func (.yield l) #[] #[]] 39)) := (Below.refl W.heap.size W).alloc (Nat.le_refl _) _
  have d : ∀ (i : Nat) v, (tmV t A c)[i]? = some v → (W.alloc (Obj.cells #[.func (.yield l) #[] #[]] 39)).cell? ⟨Bt, i, none⟩ = some v := fun i v hv => by
    have := hBt i v hv
    rw [cell_of_block (hB1.block Bt (cell_lt this))]; exact this
  have d0 : (W.alloc (Obj.cells #[.func (.yield l) #[] #[]] 39)).cell? ⟨Bt, 0, none⟩ = some (.int .i64 t.op) := d 0 _ rfl
  have d1 : (W.alloc (Obj.cells #[.func (.yield l) #[] #[]] 39)).cell? ⟨Bt, 1, none⟩ = some (.int .i64 t.width) := d 1 _ rfl
  have d2 : (W.alloc (Obj.cells #[.func (.yield l) #[] #[]] 39)).cell? ⟨Bt, 2, none⟩ = some (.int .u64 t.val) := d 2 _ rfl
  have d3 : (W.alloc (Obj.cells #[.func (.yield l) #[] #[]] 39)).cell? ⟨Bt, 3, none⟩ = some (.string t.name) := d 3 _ rfl
  have d4 : (W.alloc (Obj.cells #[.func (.yield l) #[] #[]] 39)).cell? ⟨Bt, 4, none⟩ = some (.slice A t.kids.length c) := d 4 _ rfl
  have hcall := in183 (l := l) (By := W.heap.size) (a := a) (b := b) (J := J) (Jx := Jx) hbW hJ hJs (hC _ hbW) _ t (Nat.le_refl _) hsm fz (W.alloc (Obj.cells #[.func (.yield l) #[] #[]] 39)) [] A c (n - 1) (by rw [List.append_nil]; exact hJ _ _ _ hj hB1)
    (fun q o hq => by rw [hB1.block q (Array.getElem?_eq_some_iff.1 (hfz q o hq)).1]; exact hfz q o hq) hout hk (by simp only [World.cell?, heap_alloc_new]; rfl)
  simp only [tmV] at hcall
  clear d hC hBt
  refine callsIn_of_wp Tryz.func182 rfl trivial ?_ rfl
  simp only [Tryz.ntmps182, List.size_toArray, List.length_cons, List.length_nil, Nat.reduceAdd, Nat.reduceSub, Array.replicate_succ, Array.replicate_zero, List.push_toArray, List.append_toArray, List.nil_append, List.cons_append]
  gi_wp2_with (refine ⟨trivial, fun h => (by cases h), hcall.mono ?_⟩; rintro e W3 ⟨ok, fz3, rfl, hfz3, hle3, hkp3, hQ⟩)
  go_end0
  exact ⟨⟨_, rfl⟩, ok, fz3, hfz3, hle3, (Keeps.of_below hB1).trans hkp3, hQ⟩
theorem measure_calls {t : Tm} {r : Int × Bool} (h : term_measure.f t 4096 64 = some r) {fz : Nat → Option Obj} {W : World} (hfz : FzW fz W) {A : Option Addr} {c : Nat} (hk : KidsAt fz A 0 t.kids) :
    Calls Tryz.prog 116 #[.agg (tmV t A c), .int .i64 4096, .int .i64 64] W fun e W' => e = .returned (.tuple #[.int .i64 r.1, .bool r.2]) ∧ Below W.heap.size W W' := by
  have hC := term_measure.con (t, 4096, 64, ()) r h fz W #[.agg (tmV t A c), .int .i64 4096, .int .i64 64] hfz (laid0 W) ⟨rfl, fun i av hi => by
    match i with
    | 0 => cases hi; exact ⟨_, rfl, pk_tmV hk⟩
    | 1 => cases hi; exact ⟨_, rfl, rfl⟩
    | 2 => cases hi; exact ⟨_, rfl, rfl⟩
    | i + 3 => simp [term_measure.a, ACods.cons, ACods.nil] at hi⟩
  refine (CallOk.calls1 (fn := Tryz.f116) (by kernel_rfl) (by kernel_rfl) (by kernel_rfl) hC).mono fun e W' ⟨x, he, hb, fz', h1, h2, h3⟩ => ?_
  have h3' : x = _ := h3
  subst h3'
  exact ⟨he, hb⟩
theorem node_calls {t : Tm} {r : Int} (h : term_node.f t = some r) {fz : Nat → Option Obj} {W : World} (hfz : FzW fz W) {A : Option Addr} {c : Nat} (hk : KidsAt fz A 0 t.kids) :
    Calls Tryz.prog 118 #[.agg (tmV t A c)] W fun e W' => e = .returned (.int .i64 r) ∧ Below W.heap.size W W' := by
  have hC := term_node.con (t, ()) r h fz W #[.agg (tmV t A c)] hfz (laid0 W) ⟨rfl, fun i av hi => by
    match i with
    | 0 => cases hi; exact ⟨_, rfl, pk_tmV hk⟩
    | i + 1 => simp [term_node.a, ACods.cons, ACods.nil] at hi⟩
  refine (CallOk.calls1 (fn := Tryz.f118) (by kernel_rfl) (by kernel_rfl) (by kernel_rfl) hC).mono fun e W' ⟨x, he, hb, fz', h1, h2, h3⟩ => ?_
  have h3' : x = _ := h3
  subst h3'
  exact ⟨he, hb⟩
def seenAt2 (s : ByteArray) : List (ByteArray × Int) → Option Int
  | [] => none
  | (k, w) :: l => bif s.data.toList == k.data.toList then some w else seenAt2 s l
noncomputable def chkGo2 : List Tm → List (ByteArray × Int) → Bool → Option Int
  | [], _, c => some (bif c then 12 else 0)
  | u :: l, seen, c => (term_Copy.f u).bind fun v => (term_node.f v).bind fun e =>
    bif e != 0 then some e else
    bif v.op == 1 then
      bif decide (-9223372036854775808 ≤ v.width) && (decide (v.width ≤ 9223372036854775807) && Nat.ble v.name.size 4611686018427387903) then
        chkGo2 l ((v.name, v.width) :: seen) (c || (match seenAt2 v.name seen with | some w => w != v.width | none => false))
      else none
    else chkGo2 l seen c
def Sn (seen : List (ByteArray × Int)) (D : DataW Unit) : Prop := ∀ s : ByteArray, Maps.has D (.string s.data.toList) = (seenAt2 s seen).isSome ∧ ∀ w, seenAt2 s seen = some w → D.atKey (.string s.data.toList) (.lit (.int .i64 0)) = .lit (.int .i64 w)
structure JC (r s N0 : Nat) (r0 : Int) (rc : Loop) (rem : List Tm) (W : World) : Prop where
  size : s + 6 ≤ W.heap.size
  res : W.heap[r]? = some (.cells #[.int .i64 0] 32 (0, 0))
  mp : W.heap[s + 1]? = some (.cells #[.map (some s)] 129 (0, 0))
  dfr : W.heap[s + 4]? = some (.deferred (some []))
  rcd : W.heap[s + 5]? = some (.loop rc)
  st : ∃ seen c n D, chkGo2 rem seen c = some r0 ∧ n + rem.length ≤ N0 ∧ Sn seen D ∧ W.ownsMap Tryz.prog 9 (plainElem (H := Unit) Tryz.prog 3) s n D ∧ W.heap[s + 2]? = some (.cells #[.bool c] 4 (0, 0))
structure JX (r s : Nat) (r0 : Int) (rc : Loop) (W : World) : Prop where
  res : W.heap[r]? = some (.cells #[.int .i64 r0] 32 (0, 0))
  dfr : W.heap[s + 4]? = some (.deferred (some []))
  rcd : W.heap[s + 5]? = some (.loop { rc with state := .done, pending := some .ret })
theorem grown_of_below {W W' : World} (h : Below W.heap.size W W') : W.grownBy W' none := ⟨h.os, h.tape, h.output, h.size, fun k hk _ => h.block k hk⟩
theorem JC.below {r s N0 : Nat} {r0 : Int} {rc : Loop} {rem : List Tm} {W W' : World} (hr : r < s) (h : JC r s N0 r0 rc rem W) (hb : Below W.heap.size W W') : JC r s N0 r0 rc rem W' := by
  have hs := h.size
  obtain ⟨seen, c, n, D, h1, h2, h3, h4, h5⟩ := h.st
  exact ⟨Nat.le_trans h.size hb.size, by rw [hb.block _ (by omega)]; exact h.res, by rw [hb.block _ (by omega)]; exact h.mp, by rw [hb.block _ (by omega)]; exact h.dfr, by rw [hb.block _ (by omega)]; exact h.rcd,
    seen, c, n, D, h1, h2, h3, h4.kept (grown_of_below hb) (by simp), by rw [hb.block _ (by omega)]; exact h5⟩
theorem wpIn_rf {P : Program} {g : Operand} {ps : Array Tmp} {assign body : Code} {Q : Exit → Act → World → Prop} {a : Act} {w : World} {n gf : Nat} {lb : Array Value} (hg : a.eval g = .func (.func gf) #[] lb) (eg : ∀ args w, (callFunc gf args).run P w = .ok (.enter gf args) w)
    (h : ∀ (fn : FuncId) (rc : Loop), rc = { state := .ready, pending := none, fn, tmps := a.tmps, params := ps, assign, body, defers := w.heap.size } →
      CallsIn Fence.wide (n - 1) P gf (#[.func (.yield (w.heap.size + 1)) #[] #[]] ++ lb) ((w.alloc (.deferred (some []))).alloc (.loop rc)) (rangePost Fence.wide n P (w.heap.size + 1) Q { a with defers := { target := .collected w.heap.size, args := #[] } :: a.defers })) :
    (Code.rangeFunc g ps assign body).wpIn Fence.wide n P Q a w := by
  refine wpIn_rangeFunc ?_
  intro fn hfn
  obtain ⟨W1, hW1⟩ : ∃ W1, W1 = (w.alloc (.deferred (some []))).alloc (.loop { state := .ready, pending := none, fn, tmps := a.tmps, params := ps, assign, body, defers := w.heap.size }) := ⟨_, rfl⟩
  refine ⟨w.heap.size + 1, [{ target := .collected w.heap.size, args := #[] }], W1, { target := .fn (.func gf) lb, args := #[.func (.yield (w.heap.size + 1)) #[] #[]] }, W1, gf, #[.func (.yield (w.heap.size + 1)) #[] #[]] ++ lb, W1, ?_, ?_, fun _ _ => trivial, ?_, fun h => (by cases h), ?_⟩
  · rw [hW1]; exact run_enterLoop_outer _ _ _ _ _
  · simp only [resolve, hg]
    simp [go_sem]
  · simp [invoke, go_sem, eg]
  · rw [hW1]; exact h fn _ rfl
theorem set_cell_heap {W : World} {k : Nat} {u v : Value} {e : TypeId} {f : Nat × Nat} (h : W.heap[k]? = some (.cells #[u] e f)) : (W.setCell ⟨k, 0, none⟩ v).heap[k]? = some (.cells #[v] e f) := by
  simp [World.setCell, Array.getElem?_modify, h]
theorem below_put {B : Nat} {A W : World} (h : Below B A W) {k : Nat} (hk : B ≤ k) (o : Obj) : Below B A (W.putObj k o) :=
  h.trans ⟨rfl, rfl, rfl, by simp, fun q hq => World.putObj_heap_other (by omega)⟩
theorem Keeps.to_below {a b : Nat} {A B : World} (h : Keeps a b A B) (ha : a ≤ A.heap.size) : Below a A B := ⟨h.os, h.tape, h.output, h.size, fun k hk => h.block k (.inl hk) (by omega)⟩
theorem box_cell {W : World} {k : Nat} {v : Value} {e : TypeId} (h : W.heap[k]? = some (.cells #[v] e (0, 0))) : W.cell? ⟨k, 0, none⟩ = some v ∧ W.frozen? ⟨k, 0, none⟩ = false := by
  constructor
  · simp [World.cell?, h]
  · simp [World.frozen?, h]
theorem Keeps.put {a b : Nat} {A W : World} (h : Keeps a b A W) {k : Nat} (h1 : a ≤ k) (h2 : k < b) (o : Obj) : Keeps a b A (W.putObj k o) :=
  h.trans ⟨rfl, rfl, rfl, by simp, fun q hq _ => World.putObj_heap_other (by omega)⟩
theorem Keeps.setCell {a b : Nat} {A W : World} (h : Keeps a b A W) {p : Addr} (h1 : a ≤ p.block) (h2 : p.block < b) (v : Value) : Keeps a b A (W.setCell p v) :=
  h.trans ⟨rfl, rfl, rfl, by simp [World.setCell], fun q hq _ => Below.heap_setCell _ _ _ _ (by omega)⟩
theorem Keeps.grown {a b : Nat} {A W W' : World} (h : Keeps a b A W) {k : Nat} (h1 : a ≤ k) (h2 : k < b) (hg : W.grownBy W' (some k)) : Keeps a b A W' :=
  h.trans ⟨hg.os, hg.tape, hg.output, hg.size, fun q hq hl => hg.block q hl (fun e => by cases e; omega)⟩
theorem fzW_keeps {a b : Nat} {fz : Nat → Option Obj} {W W' : World} (h : FzW fz W) (ho : FzOut a b fz) (hk : Keeps a b W W') : FzW fz W' := fun k o hq => by
  have hl := (Array.getElem?_eq_some_iff.1 (h k o hq)).1
  have hout : k < a ∨ b ≤ k := by
    rcases Nat.lt_or_ge k a with g | g
    · exact .inl g
    · rcases Nat.lt_or_ge k b with g2 | g2
      · rw [ho k g g2] at hq; cases hq
      · exact .inr g2
  rw [hk.block k hout hl]; exact h k o hq
theorem sn_put {seen : List (ByteArray × Int)} {D : DataW Unit} {s : ByteArray} {x : Int} (h : Sn seen D) (hD : Maps.IsMap D) : Sn ((s, x) :: seen) (D.put (.string s.data.toList) (.lit (.int .i64 x))) := fun q => by
  by_cases hq : q.data.toList = s.data.toList
  · have e : seenAt2 q ((s, x) :: seen) = some x := by simp [seenAt2, hq]
    rw [e, hq]
    refine ⟨?_, fun w hw => ?_⟩
    · rw [Maps.has_put_same hD (k := .string s.data.toList) (show WideAt.IsKeyLit (.string s.data.toList) from trivial)]; rfl
    · cases hw
      exact Maps.atKey_put_same hD (k := .string s.data.toList) (show WideAt.IsKeyLit (.string s.data.toList) from trivial) _ _
  · have e : seenAt2 q ((s, x) :: seen) = seenAt2 q seen := by
      show (bif q.data.toList == s.data.toList then some x else seenAt2 q seen) = _
      rw [beq_eq_false_iff_ne.2 hq]; rfl
    have hne : (Lit.string q.data.toList) ≠ .string s.data.toList := fun h => hq (Lit.string.inj h)
    rw [e]
    refine ⟨?_, fun w hw => ?_⟩
    · rw [Maps.has_put_other hne]; exact (h q).1
    · rw [Maps.atKey_put_other hne]; exact (h q).2 w hw
theorem results_45 {tmps : Array Value} {W : World} {k : Nat} {v : Value} {fr : Nat × Nat} (ht : tmps.getD 2 undef = .pointer (some ⟨k, 0, none⟩)) (hc : W.heap[k]? = some (.cells #[v] 32 fr)) : (results Tryz.f45 tmps).run Tryz.prog W = .ok v W := by
  have e : results Tryz.f45 tmps = Tryz.f45.results.mapM (resSem tmps) >>= fun vs => Pure.pure (if h : vs.size = 1 then vs[0] else .tuple vs) := by
    unfold results
    refine congrArg (fun m : Sem (Array Value) => m >>= fun vs => Pure.pure (if h : vs.size = 1 then vs[0] else .tuple vs)) (congrArg (fun g : ResultVar → Sem Value => Tryz.f45.results.mapM g) (funext fun x => ?_))
    cases x <;> rfl
  have hcell : W.cell? ⟨k, 0, none⟩ = some v := by simp [World.cell?, hc]
  have h1 : (resSem tmps (.cell 2 32)).run Tryz.prog W = .ok v W := by
    simp only [resSem, ht, asAddr, Sem.run_bind, Sem.run_pure, Result.andThen_ok, loadVar, semVal_run (show semVal Tryz.prog (isAgg 32) = some false by kernel_rfl), Bool.false_eq_true, if_false, run_load, hcell]
  have h2 : (Tryz.f45.results.mapM (resSem tmps)).run Tryz.prog W = .ok #[v] W := by
    rw [show Tryz.f45.results = #[.cell 2 32] by kernel_rfl, Array.mapM_eq_mapM_toList]
    simp only [Sem.run_map, List.mapM_cons, List.mapM_nil, Sem.run_bind, h1, Result.andThen_ok, Sem.run_pure]
  rw [e, Sem.run_bind, h2]
  rfl
set_option maxHeartbeats 1000000 in
theorem check_in {t : Tm} {r0 : Int} {rm : Int × Bool} {N0 : Nat} (hm : term_measure.f t 4096 64 = some rm) (hsm : smallT t = true) (hN0 : (postT t).length ≤ N0) (hN1 : N0 < maxLen) (hgo : rm.2 = true → chkGo2 (postT t) [] false = some r0) (hlong : rm.2 = false → r0 = 7) {fz : Nat → Option Obj} {w : World} (hfz : FzW fz w) {A : Option Addr} {c : Nat} (hk : KidsAt fz A 0 t.kids) :
    Calls Tryz.prog 45 #[.agg (tmV t A c)] w fun e w' => e = .returned (.int .i64 r0) ∧ Below w.heap.size w w' := by
  obtain ⟨n, -⟩ : ∃ n : Nat, n = 9 := ⟨_, rfl⟩
  refine callsIn_wide (n := n).1 ?_
  refine callsIn_of_wp_marks Tryz.func45 rfl trivial ?_ rfl
  simp only [Tryz.ntmps45, List.size_toArray, List.length_cons, List.length_nil, Nat.reduceAdd, Nat.reduceSub, Array.replicate_succ, Array.replicate_zero, List.push_toArray, List.append_toArray, List.nil_append, List.cons_append]
  have hmm := @run_makeMap Tryz.prog
  have hB1 : Below w.heap.size w ((w.alloc (Obj.cells (tmV t A c) 38)).alloc (Obj.cells #[.int .i64 0] 32)) := (((Below.refl w.heap.size w).alloc (Nat.le_refl _) _).alloc (by simp) _)
  have hmc := measure_calls (A := A) (c := c) hm (W := (w.alloc (Obj.cells (tmV t A c) 38)).alloc (Obj.cells #[.int .i64 0] 32)) (fun q o hq => by rw [hB1.block q (Array.getElem?_eq_some_iff.1 (hfz q o hq)).1]; exact hfz q o hq) hk
  have hbox : ∀ W', Below (w.heap.size + 2) ((w.alloc (Obj.cells (tmV t A c) 38)).alloc (Obj.cells #[.int .i64 0] 32)) W' → ∀ (i : Nat) v, (tmV t A c)[i]? = some v → W'.cell? ⟨w.heap.size, i, none⟩ = some v := fun W' hb i v hv => by
    rw [cell_of_block (hb.block _ (by omega)), cell_of_block (Below.heap_alloc _ _ _ (by simp))]
    simp only [World.cell?, heap_alloc_new]
    exact hv
  obtain ⟨lf, mo⟩ := rm
  unfold tmV at hmc hB1 hbox ⊢
  have hres : ∀ W2, Below (w.heap.size + 2) ((w.alloc (Obj.cells #[.int .i64 t.op, .int .i64 t.width, .int .u64 t.val, .string t.name, .slice A t.kids.length c] 38)).alloc (Obj.cells #[.int .i64 0] 32)) W2 → W2.heap[w.heap.size + 1]? = some (.cells #[.int .i64 0] 32 (0, 0)) := fun W2 hb => by
    rw [hb.block _ (by omega)]
    have := heap_alloc_new (w.alloc (Obj.cells #[.int .i64 t.op, .int .i64 t.width, .int .u64 t.val, .string t.name, .slice A t.kids.length c] 38)) (Obj.cells #[.int .i64 0] 32)
    rwa [World.size_alloc] at this
  have hres2 : ∀ W2, Below (w.heap.size + 2) ((w.alloc (Obj.cells #[.int .i64 t.op, .int .i64 t.width, .int .u64 t.val, .string t.name, .slice A t.kids.length c] 38)).alloc (Obj.cells #[.int .i64 0] 32)) W2 →
      W2.cell? ⟨w.heap.size + 1, 0, none⟩ = some (.int .i64 0) ∧ W2.frozen? ⟨w.heap.size + 1, 0, none⟩ = false := fun W2 hb => by
    have := hres W2 hb
    constructor
    · simp [World.cell?, this]
    · simp [World.frozen?, this]
  have hsz0 : ((w.alloc (Obj.cells #[.int .i64 t.op, .int .i64 t.width, .int .u64 t.val, .string t.name, .slice A t.kids.length c] 38)).alloc (Obj.cells #[.int .i64 0] 32)).heap.size = w.heap.size + 2 := by simp
  rw [hsz0] at hmc
  cases mo with
  | false =>
    have hl7 := hlong rfl
    clear hgo hlong
    subst hl7
    gi_wp2_with (refine ⟨trivial, fun h => (by cases h), (callsIn_wide.2 hmc).mono ?_⟩; rintro e W2 ⟨rfl, hb2⟩; obtain ⟨hc2, hf2⟩ := hres2 W2 hb2)
    exact ⟨_, results_45 rfl (set_cell_heap (hres W2 hb2)), rfl, (hB1.trans (hb2.mono (by omega))).setCell (p := ⟨w.heap.size + 1, 0, none⟩) (by simp) _⟩
  | true =>
    replace hgo := hgo rfl
    have hd : ∀ W2, Below (w.heap.size + 2) ((w.alloc (Obj.cells #[.int .i64 t.op, .int .i64 t.width, .int .u64 t.val, .string t.name, .slice A t.kids.length c] 38)).alloc (Obj.cells #[.int .i64 0] 32)) W2 →
        Below (w.heap.size + 2) ((w.alloc (Obj.cells #[.int .i64 t.op, .int .i64 t.width, .int .u64 t.val, .string t.name, .slice A t.kids.length c] 38)).alloc (Obj.cells #[.int .i64 0] 32)) (((W2.alloc (.map #[] 0)).alloc (.cells #[.map (some W2.heap.size)] 129)).alloc (.cells #[.bool false] 4)) := fun W2 hb2 => by
      have hs := hb2.size
      rw [hsz0] at hs
      exact ((hb2.alloc hs _).alloc (by simp; omega) _).alloc (by simp; omega) _
    gi_wp2_with (first
      | (refine ⟨trivial, fun h => (by cases h), (callsIn_wide.2 hmc).mono ?_⟩; rintro e W2 ⟨rfl, hb2⟩
         have d0 : (((W2.alloc (.map #[] 0)).alloc (.cells #[.map (some W2.heap.size)] 129)).alloc (.cells #[.bool false] 4)).cell? ⟨w.heap.size, 0, none⟩ = some (.int .i64 t.op) := hbox _ (hd _ hb2) 0 _ rfl
         have d1 : (((W2.alloc (.map #[] 0)).alloc (.cells #[.map (some W2.heap.size)] 129)).alloc (.cells #[.bool false] 4)).cell? ⟨w.heap.size, 1, none⟩ = some (.int .i64 t.width) := hbox _ (hd _ hb2) 1 _ rfl
         have d2 : (((W2.alloc (.map #[] 0)).alloc (.cells #[.map (some W2.heap.size)] 129)).alloc (.cells #[.bool false] 4)).cell? ⟨w.heap.size, 2, none⟩ = some (.int .u64 t.val) := hbox _ (hd _ hb2) 2 _ rfl
         have d3 : (((W2.alloc (.map #[] 0)).alloc (.cells #[.map (some W2.heap.size)] 129)).alloc (.cells #[.bool false] 4)).cell? ⟨w.heap.size, 3, none⟩ = some (.string t.name) := hbox _ (hd _ hb2) 3 _ rfl
         have d4 : (((W2.alloc (.map #[] 0)).alloc (.cells #[.map (some W2.heap.size)] 129)).alloc (.cells #[.bool false] 4)).cell? ⟨w.heap.size, 4, none⟩ = some (.slice A t.kids.length c) := hbox _ (hd _ hb2) 4 _ rfl)
      | (refine ⟨trivial, fun h => (by cases h), (callsIn_wide.2 (all_in _ _)).mono ?_⟩; rintro e W4 ⟨rfl, rfl⟩))
    obtain ⟨W5, hW5⟩ : ∃ W5 : World, W5 = ((((W2.alloc (Obj.map #[] 0)).alloc (Obj.cells #[Value.map (some W2.heap.size)] 129)).alloc (Obj.cells #[Value.bool false] 4)).alloc
      (Obj.cells #[Value.int IntKind.i64 t.op, Value.int IntKind.i64 t.width, Value.int IntKind.u64 t.val, Value.string t.name, Value.slice A t.kids.length c] 38)) := ⟨_, rfl⟩
    rw [← hW5]
    have hs5 : W5.heap.size = W2.heap.size + 4 := by rw [hW5]; simp
    have hsz2 : w.heap.size + 2 ≤ W2.heap.size := by have := hb2.size; rw [hsz0] at this; exact this
    refine wpIn_rf (gf := 182) (lb := #[.pointer (some ⟨W2.heap.size + 1 + 1 + 1, 0, none⟩)]) rfl (enters_of Tryz.func182 (by kernel_rfl) rfl) ?_
    intro fn rc hrc
    have hready : rc.state = .ready := by rw [hrc]
    have hpend : rc.pending = none := by rw [hrc]
    have hround : ∀ u rem v fz A c W, JC (w.heap.size + 1) W2.heap.size N0 r0 rc (u :: rem) W → term_Copy.f u = some v → FzW fz W → FzOut w.heap.size (W2.heap.size + 6) fz → KidsAt fz A 0 v.kids →
        YieldAt Fence.wide 0 Tryz.prog (W2.heap.size + 5) #[.agg (tmV v A c)] W (PostR w.heap.size (W2.heap.size + 6) fz W (okJ (JC (w.heap.size + 1) W2.heap.size N0 r0 rc) (JX (w.heap.size + 1) W2.heap.size r0 rc) rem)) := by
      intro u rem v fz A c W hj hv hfz hout hk
      have hs := hj.size
      have hy := run_yield (P := Tryz.prog) (args := #[.agg (tmV v A c)]) hj.rcd (by rw [hrc]; rfl)
      suffices key : ∀ R : Ending → World → Prop, Hid (∀ e W', PostR w.heap.size (W2.heap.size + 6) fz W (okJ (JC (w.heap.size + 1) W2.heap.size N0 r0 rc) (JX (w.heap.size + 1) W2.heap.size r0 rc) rem) e W' → R e W') → YieldAt Fence.wide 0 Tryz.prog (W2.heap.size + 5) #[.agg (tmV v A c)] W R from key _ fun _ _ h => h
      intro R hRi
      refine ⟨_, _, _, _, hy, roundIn_of_wpIn trivial ?_⟩
      clear hy
      have hWa : (W.alloc (Obj.cells (tmV v A c) 38)).heap[W2.heap.size + 5]? = some (.loop rc) := by rw [Below.heap_alloc _ _ _ (by omega)]; exact hj.rcd
      simp only [hrc]
      clear hrc
      unfold tmV at hWa ⊢
      gi_wp2
      refine ⟨_, run_beginRound hWa hready, ?_⟩
      obtain ⟨Wb, hWb⟩ : ∃ Wb, Wb = (W.alloc (Obj.cells #[Value.int IntKind.i64 v.op, Value.int IntKind.i64 v.width, Value.int IntKind.u64 v.val, Value.string v.name, Value.slice A v.kids.length c] 38)).putObj (W2.heap.size + 5) (Obj.loop { rc with state := .busy }) := ⟨_, rfl⟩
      rw [← hWb]
      have hkb : Keeps w.heap.size (W2.heap.size + 6) W Wb := by rw [hWb]; exact (Keeps.of_below ((Below.refl _ _).alloc (Nat.le_refl _) _)).put (by omega) (by omega) _
      have hlb : Wb.heap[W2.heap.size + 5]? = some (.loop { rc with state := .busy }) := by rw [hWb]; exact World.putObj_heap_same (by simp; omega)
      have hoth : ∀ k, k < W.heap.size → k ≠ W2.heap.size + 5 → Wb.heap[k]? = W.heap[k]? := fun k h1 h2 => by rw [hWb, World.putObj_heap_other h2, Below.heap_alloc _ _ _ h1]
      have hsb : Wb.heap.size = W.heap.size + 1 := by rw [hWb]; simp
      obtain ⟨seen, cf, nn, D, hg, hnn, hsn, hown, hcf⟩ := hj.st
      simp only [chkGo2, hv, Option.bind_some] at hg
      obtain ⟨ev, hev, hg⟩ := Option.bind_eq_some_iff.1 hg
      have hownb : Wb.ownsMap Tryz.prog 9 (plainElem (H := Unit) Tryz.prog 3) W2.heap.size nn D := by
        rw [hWb]
        exact (hown.alloc _).kept (grownBy_putObj' _ (W2.heap.size + 5) _) (fun e => by simp only [Option.some.injEq] at e; omega)
      have hfzb := fzW_keeps hfz hout hkb
      have hnc := node_calls (A := A) (c := c) hev hfzb hk
      have hbu : ∀ (i : Nat) v', (tmV v A c)[i]? = some v' → Wb.cell? ⟨W.heap.size, i, none⟩ = some v' := fun i v' hv' => by
        have : Wb.heap[W.heap.size]? = some (.cells (tmV v A c) 38 (0, 0)) := by
          rw [hWb, World.putObj_heap_other (by omega)]; exact heap_alloc_new _ _
        simp only [World.cell?, this]; exact hv'
      have haft : ∀ W3, Below Wb.heap.size Wb W3 → Keeps w.heap.size (W2.heap.size + 6) W W3 ∧ W3.heap[W2.heap.size + 5]? = some (.loop { rc with state := .busy }) ∧ W3.heap[w.heap.size + 1]? = some (.cells #[.int .i64 0] 32 (0, 0)) ∧
          W3.heap[W2.heap.size + 1]? = some (.cells #[.map (some W2.heap.size)] 129 (0, 0)) ∧ W3.heap[W2.heap.size + 1 + 1]? = some (.cells #[.bool cf] 4 (0, 0)) ∧ W3.heap[W2.heap.size + 4]? = some (.deferred (some [])) ∧
          W3.ownsMap Tryz.prog 9 (plainElem (H := Unit) Tryz.prog 3) W2.heap.size nn D ∧ (∀ (i : Nat) v', (tmV v A c)[i]? = some v' → W3.cell? ⟨W.heap.size, i, none⟩ = some v') := fun W3 hb3 =>
        ⟨hkb.trans (.of_below hb3), by rw [hb3.block _ (by omega)]; exact hlb, by rw [hb3.block _ (by omega), hoth _ (by omega) (by omega)]; exact hj.res, by rw [hb3.block _ (by omega), hoth _ (by omega) (by omega)]; exact hj.mp,
          by rw [hb3.block _ (by omega), hoth _ (by omega) (by omega)]; exact hcf, by rw [hb3.block _ (by omega), hoth _ (by omega) (by omega)]; exact hj.dfr, hownb.kept (grown_of_below hb3) (by simp), fun i v' hv' => by rw [cell_of_block (hb3.block _ (by omega))]; exact hbu i v' hv'⟩
      have b0 : Wb.cell? ⟨W.heap.size, 0, none⟩ = some (.int .i64 v.op) := hbu 0 _ rfl
      have b1 : Wb.cell? ⟨W.heap.size, 1, none⟩ = some (.int .i64 v.width) := hbu 1 _ rfl
      have b2 : Wb.cell? ⟨W.heap.size, 2, none⟩ = some (.int .u64 v.val) := hbu 2 _ rfl
      have b3 : Wb.cell? ⟨W.heap.size, 3, none⟩ = some (.string v.name) := hbu 3 _ rfl
      have b4 : Wb.cell? ⟨W.heap.size, 4, none⟩ = some (.slice A v.kids.length c) := hbu 4 _ rfl
      have hjrc : ∀ W', Keeps w.heap.size (W2.heap.size + 6) W W' → FzW fz W' := fun W' hk' => fzW_keeps hfz hout hk'
      have hr1 : w.heap.size + 1 < W2.heap.size := by omega
      have hisM : Maps.IsMap D := hown.isMap
      clear hWb hWa hbu hoth hfzb hown hcf hj hkb hlb hownb hbox hres hres2 hmc hd hW5
      simp only [tmV] at hnc
      by_cases he0 : ev = 0
      · subst he0
        simp only [bne_self_eq_false, cond_false] at hg
        have hend : ∀ Wf cf' seen' D' nn', Keeps w.heap.size (W2.heap.size + 6) W Wf → Wf.heap[W2.heap.size + 5]? = some (.loop { rc with state := .busy }) → Wf.heap[w.heap.size + 1]? = some (.cells #[.int .i64 0] 32 (0, 0)) →
            Wf.heap[W2.heap.size + 1]? = some (.cells #[.map (some W2.heap.size)] 129 (0, 0)) → Wf.heap[W2.heap.size + 1 + 1]? = some (.cells #[.bool cf'] 4 (0, 0)) → Wf.heap[W2.heap.size + 4]? = some (.deferred (some [])) →
            Wf.ownsMap Tryz.prog 9 (plainElem (H := Unit) Tryz.prog 3) W2.heap.size nn' D' → Sn seen' D' → nn' + rem.length ≤ N0 → chkGo2 rem seen' cf' = some r0 → roundPost Tryz.prog (W2.heap.size + 5) R .normal { tmps := #[], defers := [] } Wf := fun Wf cf' seen' D' nn' hk' hl' hr' hm' hc' hd' ho' hS' hn' hg' => by
          have hkf := hk'.put (k := W2.heap.size + 5) (by omega) (by omega) (.loop { { rc with state := .busy } with state := .ready, pending := none })
          refine ⟨_, _, run_endRound none hl', hRi.out _ _ ⟨true, fz, rfl, hjrc _ hkf, fzNew_refl _ _, hkf, ?_⟩⟩
          have hrc2 : ({ { rc with state := .busy } with state := .ready, pending := none } : Loop) = rc := by cases rc; simp only at hready hpend; subst hready; subst hpend; rfl
          refine ⟨by rw [World.putObj_size]; have := hk'.size; omega, by rw [World.putObj_heap_other (by omega)]; exact hr', by rw [World.putObj_heap_other (by omega)]; exact hm', by rw [World.putObj_heap_other (by omega)]; exact hd', ?_, seen', cf', nn', D', hg', hn', hS', ho'.kept (grownBy_putObj' _ (W2.heap.size + 5) _) (fun e => by simp only [Option.some.injEq] at e; omega), by rw [World.putObj_heap_other (by omega)]; exact hc'⟩
          have hsame := World.putObj_heap_same (w := Wf) (r := W2.heap.size + 5) (o := .loop rc) (Array.getElem?_eq_some_iff.1 hl').1
          exact (congrArg (fun q => (Wf.putObj (W2.heap.size + 5) (.loop q)).heap[W2.heap.size + 5]?) hrc2).trans hsame
        by_cases hop : v.op = 1
        · rw [show (v.op == 1) = true by simpa using hop] at hg
          simp only [cond_true] at hg
          obtain ⟨hc1, hg⟩ := bif_some hg
          simp only [Bool.and_eq_true, decide_eq_true_eq, Nat.ble_eq] at hc1
          obtain ⟨w1, w2, w3⟩ := hc1
          have hkey := Go.WideMaps.keyOf_string_mk (k := 9) Tryz.underlying9 (s := v.name) (by simp only [maxLen]; omega)
          have hwf : (Lit.int .i64 v.width).wf = true := by
            unfold Lit.wf
            rw [Bool.and_eq_true, decide_eq_true_eq, decide_eq_true_eq]
            exact ⟨w1, w2⟩
          have hnn1 : nn < maxLen := by simp only [List.length_cons] at hnn; omega
          have hput := sn_put (s := v.name) (x := v.width) hsn hisM
          have hfin : ∀ W3 w4 b, Keeps w.heap.size (W2.heap.size + 6) W W3 → W3.heap[W2.heap.size + 5]? = some (.loop { rc with state := .busy }) → W3.heap[w.heap.size + 1]? = some (.cells #[.int .i64 0] 32 (0, 0)) →
            W3.heap[W2.heap.size + 1]? = some (.cells #[.map (some W2.heap.size)] 129 (0, 0)) → W3.heap[W2.heap.size + 1 + 1]? = some (.cells #[.bool cf] 4 (0, 0)) → W3.heap[W2.heap.size + 4]? = some (.deferred (some [])) →
            w4.ownsMap Tryz.prog 9 (plainElem (H := Unit) Tryz.prog 3) W2.heap.size (nn + 1) (D.put (.string v.name.data.toList) (.lit (.int .i64 v.width))) → (W3.setCell ⟨W2.heap.size + 1 + 1, 0, none⟩ (.bool b)).grownBy w4 (some W2.heap.size) →
            b = (cf || (match seenAt2 v.name seen with | some w => w != v.width | none => false)) → roundPost Tryz.prog (W2.heap.size + 5) R .normal { tmps := #[], defers := [] } w4 := fun W3 w4 b k3 l3 q3 m3 c3 d3 o4 hgr hb => by
            subst hb
            have hkeep : ∀ k, k < W3.heap.size → k ≠ W2.heap.size → k ≠ W2.heap.size + 1 + 1 → w4.heap[k]? = W3.heap[k]? := fun k h1 h2 h3 => by
              rw [hgr.block k (by simpa [World.setCell] using h1) (by simpa using h2), Below.heap_setCell _ _ _ _ h3]
            have hlt : ∀ {k : Nat} {o : Obj}, W3.heap[k]? = some o → k < W3.heap.size := fun h => (Array.getElem?_eq_some_iff.1 h).1
            refine hend w4 _ ((v.name, v.width) :: seen) _ (nn + 1) ((k3.setCell (p := ⟨W2.heap.size + 1 + 1, 0, none⟩) (by show _ ≤ W2.heap.size + 1 + 1; omega) (by show W2.heap.size + 1 + 1 < _; omega) _).grown (by omega) (by omega) hgr) (by rw [hkeep _ (hlt l3) (by omega) (by omega)]; exact l3) (by rw [hkeep _ (hlt q3) (by omega) (by omega)]; exact q3) (by rw [hkeep _ (hlt m3) (by omega) (by omega)]; exact m3) ?_ (by rw [hkeep _ (hlt d3) (by omega) (by omega)]; exact d3) o4 hput (by simp only [List.length_cons] at hnn; omega) hg
            rw [hgr.block _ (by have := hlt c3; simp only [World.setCell, Array.size_modify]; omega) (by simp only [ne_eq, Option.some.injEq]; omega)]
            exact set_cell_heap c3
          clear hend hput
          rw [hop] at hnc
          have u30' : ∀ W3 : World, (∀ (i : Nat) v', (tmV v A c)[i]? = some v' → W3.cell? ⟨W.heap.size, i, none⟩ = some v') → W3.cell? ⟨W.heap.size, 0, none⟩ = some (.int .i64 1) := fun W3 h => by rw [← hop]; exact h 0 _ rfl
          cases hsa : seenAt2 v.name seen with
          | none =>
            have hhas : Maps.has D (.string v.name.data.toList) = false := by rw [(hsn v.name).1, hsa]; rfl
            rw [hsa] at hfin
            clear hsn hsa hg
            cases cf with
            | true =>
              gi_wp2_with (first
                | (gi_at_lookup; refine wpListIn_lookup_own_ok_int _ rfl _ _ 129 rfl 9 3 .i64 (Maps.string_keyed Tryz.underlying9) Tryz.underlying129 Tryz.underlying3 (Tryz.zeroValue3 _) W2.heap.size nn _ rfl o3 _ _ rfl hkey ?_; intro cc hat hwc)
                | (gi_at_mapUpdate; refine wpListIn_mapUpdate_own _ rfl _ _ _ 129 rfl 9 3 (Maps.string_keyed Tryz.underlying9) Tryz.underlying129 _ W2.heap.size nn _ rfl (o3.setCell (a := ⟨W2.heap.size + 1 + 1, 0, none⟩) (by simp; omega) _) hnn1 _ _ _ rfl rfl hkey _ [] (plainElem_int Tryz.underlying3 hwf) ?_; intro w4 hown4 hgrow4)
                | (have hnc' := hnc; clear hnc; refine ⟨trivial, rfl, (CallsIn.inRound _ (callsIn_wide.2 hnc')).mono ?_⟩; clear hnc'; rintro e3 W3 ⟨rfl, hb3⟩; obtain ⟨k3, l3, q3, m3, c3, d3, o3, u3⟩ := haft W3 hb3; have u30 := u30' W3 u3; have u31 : W3.cell? ⟨W.heap.size, 1, none⟩ = some (.int .i64 v.width) := u3 1 _ rfl; have u33 : W3.cell? ⟨W.heap.size, 3, none⟩ = some (.string v.name) := u3 3 _ rfl; obtain ⟨m3c, m3f⟩ := box_cell m3; obtain ⟨c3c, c3f⟩ := box_cell c3))
              exact hfin W3 w4 _ k3 l3 q3 m3 c3 d3 hown4 hgrow4 rfl
            | false =>
              gi_wp2_with (first
                | (gi_at_lookup; refine wpListIn_lookup_own_ok_int _ rfl _ _ 129 rfl 9 3 .i64 (Maps.string_keyed Tryz.underlying9) Tryz.underlying129 Tryz.underlying3 (Tryz.zeroValue3 _) W2.heap.size nn _ rfl o3 _ _ rfl hkey ?_; intro cc hat hwc)
                | (gi_at_mapUpdate; refine wpListIn_mapUpdate_own _ rfl _ _ _ 129 rfl 9 3 (Maps.string_keyed Tryz.underlying9) Tryz.underlying129 _ W2.heap.size nn _ rfl (o3.setCell (a := ⟨W2.heap.size + 1 + 1, 0, none⟩) (by simp; omega) _) hnn1 _ _ _ rfl rfl hkey _ [] (plainElem_int Tryz.underlying3 hwf) ?_; intro w4 hown4 hgrow4)
                | (have hnc' := hnc; clear hnc; refine ⟨trivial, rfl, (CallsIn.inRound _ (callsIn_wide.2 hnc')).mono ?_⟩; clear hnc'; rintro e3 W3 ⟨rfl, hb3⟩; obtain ⟨k3, l3, q3, m3, c3, d3, o3, u3⟩ := haft W3 hb3; have u30 := u30' W3 u3; have u31 : W3.cell? ⟨W.heap.size, 1, none⟩ = some (.int .i64 v.width) := u3 1 _ rfl; have u33 : W3.cell? ⟨W.heap.size, 3, none⟩ = some (.string v.name) := u3 3 _ rfl; obtain ⟨m3c, m3f⟩ := box_cell m3; obtain ⟨c3c, c3f⟩ := box_cell c3))
              exact hfin W3 w4 _ k3 l3 q3 m3 c3 d3 hown4 hgrow4 rfl
          | some wv =>
            have hhas : Maps.has D (.string v.name.data.toList) = true := by rw [(hsn v.name).1, hsa]; rfl
            have hD2 := (hsn v.name).2 wv hsa
            rw [hsa] at hfin
            clear hsn hsa hg
            cases cf with
            | true =>
              gi_wp2_with (first
                | (gi_at_lookup; refine wpListIn_lookup_own_ok_int _ rfl _ _ 129 rfl 9 3 .i64 (Maps.string_keyed Tryz.underlying9) Tryz.underlying129 Tryz.underlying3 (Tryz.zeroValue3 _) W2.heap.size nn _ rfl o3 _ _ rfl hkey ?_; intro cc hat hwc)
                | (gi_at_mapUpdate; refine wpListIn_mapUpdate_own _ rfl _ _ _ 129 rfl 9 3 (Maps.string_keyed Tryz.underlying9) Tryz.underlying129 _ W2.heap.size nn _ rfl (o3.setCell (a := ⟨W2.heap.size + 1 + 1, 0, none⟩) (by simp; omega) _) hnn1 _ _ _ rfl rfl hkey _ [] (plainElem_int Tryz.underlying3 hwf) ?_; intro w4 hown4 hgrow4)
                | (have hnc' := hnc; clear hnc; refine ⟨trivial, rfl, (CallsIn.inRound _ (callsIn_wide.2 hnc')).mono ?_⟩; clear hnc'; rintro e3 W3 ⟨rfl, hb3⟩; obtain ⟨k3, l3, q3, m3, c3, d3, o3, u3⟩ := haft W3 hb3; have u30 := u30' W3 u3; have u31 : W3.cell? ⟨W.heap.size, 1, none⟩ = some (.int .i64 v.width) := u3 1 _ rfl; have u33 : W3.cell? ⟨W.heap.size, 3, none⟩ = some (.string v.name) := u3 3 _ rfl; obtain ⟨m3c, m3f⟩ := box_cell m3; obtain ⟨c3c, c3f⟩ := box_cell c3))
              exact hfin W3 w4 _ k3 l3 q3 m3 c3 d3 hown4 hgrow4 rfl
            | false =>
              gi_wp2_with (first
                | (gi_at_lookup; refine wpListIn_lookup_own_ok_int _ rfl _ _ 129 rfl 9 3 .i64 (Maps.string_keyed Tryz.underlying9) Tryz.underlying129 Tryz.underlying3 (Tryz.zeroValue3 _) W2.heap.size nn _ rfl o3 _ _ rfl hkey ?_; intro cc hat hwc; obtain rfl : cc = wv := by simpa using hat.symm.trans hD2)
                | (gi_at_mapUpdate; refine wpListIn_mapUpdate_own _ rfl _ _ _ 129 rfl 9 3 (Maps.string_keyed Tryz.underlying9) Tryz.underlying129 _ W2.heap.size nn _ rfl (o3.setCell (a := ⟨W2.heap.size + 1 + 1, 0, none⟩) (by simp; omega) _) hnn1 _ _ _ rfl rfl hkey _ [] (plainElem_int Tryz.underlying3 hwf) ?_; intro w4 hown4 hgrow4)
                | (have hnc' := hnc; clear hnc; refine ⟨trivial, rfl, (CallsIn.inRound _ (callsIn_wide.2 hnc')).mono ?_⟩; clear hnc'; rintro e3 W3 ⟨rfl, hb3⟩; obtain ⟨k3, l3, q3, m3, c3, d3, o3, u3⟩ := haft W3 hb3; have u30 := u30' W3 u3; have u31 : W3.cell? ⟨W.heap.size, 1, none⟩ = some (.int .i64 v.width) := u3 1 _ rfl; have u33 : W3.cell? ⟨W.heap.size, 3, none⟩ = some (.string v.name) := u3 3 _ rfl; obtain ⟨m3c, m3f⟩ := box_cell m3; obtain ⟨c3c, c3f⟩ := box_cell c3))
              exact hfin W3 w4 _ k3 l3 q3 m3 c3 d3 hown4 hgrow4 rfl
        · rw [show (v.op == 1) = false by simpa using hop] at hg
          simp only [cond_false] at hg
          gi_wp2_with (refine ⟨trivial, rfl, (CallsIn.inRound _ (callsIn_wide.2 hnc)).mono ?_⟩; rintro e3 W3 ⟨rfl, hb3⟩; obtain ⟨k3, l3, q3, m3, c3, d3, o3, u3⟩ := haft W3 hb3; have u30 : W3.cell? ⟨W.heap.size, 0, none⟩ = some (.int .i64 v.op) := u3 0 _ rfl)
          exact hend W3 cf seen D nn k3 l3 q3 m3 c3 d3 o3 hsn (by simp only [List.length_cons] at hnn; omega) hg
      · have her : ev = r0 := by
          rw [show (ev != 0) = true by simpa using he0] at hg
          simpa using hg
        subst her
        clear hg
        gi_wp2_with (refine ⟨trivial, rfl, (CallsIn.inRound _ (callsIn_wide.2 hnc)).mono ?_⟩; rintro e3 W3 ⟨rfl, hb3⟩; obtain ⟨k3, l3, q3, m3, c3, d3, o3, u3⟩ := haft W3 hb3; obtain ⟨q3c, q3f⟩ := box_cell q3)
        have hl4 : (W3.setCell ⟨w.heap.size + 1, 0, none⟩ (.int .i64 ev)).heap[W2.heap.size + 5]? = some (.loop { rc with state := .busy }) := by rw [Below.heap_setCell _ _ _ _ (by simp; omega)]; exact l3
        have hkf := (k3.setCell (p := ⟨w.heap.size + 1, 0, none⟩) (by simp) (by simp; omega) (.int .i64 ev)).put (k := W2.heap.size + 5) (by omega) (by omega) (.loop { { rc with state := .busy } with state := .done, pending := some .ret })
        refine ⟨_, _, run_endRound (some .ret) hl4, hRi.out _ _ ⟨false, fz, rfl, hjrc _ hkf, fzNew_refl _ _, hkf, ?_⟩⟩
        exact ⟨by rw [World.putObj_heap_other (by omega)]; exact set_cell_heap q3, by rw [World.putObj_heap_other (by omega), Below.heap_setCell _ _ _ _ (by simp; omega)]; exact d3,
          World.putObj_heap_same (Array.getElem?_eq_some_iff.1 hl4).1⟩
    obtain ⟨W7, hW7⟩ : ∃ W7, W7 = (W5.alloc (.deferred (some []))).alloc (.loop rc) := ⟨_, rfl⟩
    rw [← hW7, hs5]
    have hB7 : Below W5.heap.size W5 W7 := by rw [hW7]; exact ((Below.refl _ _).alloc (Nat.le_refl _) _).alloc (by simp) _
    have hB25 : Below W2.heap.size W2 W5 := by rw [hW5]; exact ((((Below.refl _ _).alloc (Nat.le_refl _) _).alloc (by simp) _).alloc (by simp; omega) _).alloc (by simp; omega) _
    have hB27 : Below W2.heap.size W2 W7 := hB25.trans (hB7.mono hB25.size)
    have hBw2 : Below w.heap.size w W2 := hB1.trans (hb2.mono (by omega))
    have hBw7 : Below w.heap.size w W7 := hBw2.trans (hB27.mono hBw2.size)
    have e0 : W5.heap[W2.heap.size]? = some (.map #[] 0) := by
      rw [hW5, Below.heap_alloc _ _ _ (by simp; omega), Below.heap_alloc _ _ _ (by simp; omega), Below.heap_alloc _ _ _ (by simp), heap_alloc_new]
    have e1 : W5.heap[W2.heap.size + 1]? = some (.cells #[.map (some W2.heap.size)] 129 (0, 0)) := by
      rw [hW5, Below.heap_alloc _ _ _ (by simp), Below.heap_alloc _ _ _ (by simp)]
      have := heap_alloc_new (W2.alloc (Obj.map #[] 0)) (Obj.cells #[Value.map (some W2.heap.size)] 129)
      rwa [World.size_alloc] at this
    have e2 : W5.heap[W2.heap.size + 2]? = some (.cells #[.bool false] 4 (0, 0)) := by
      rw [hW5, Below.heap_alloc _ _ _ (by simp)]
      have := heap_alloc_new ((W2.alloc (Obj.map #[] 0)).alloc (Obj.cells #[Value.map (some W2.heap.size)] 129)) (Obj.cells #[Value.bool false] 4)
      simp only [World.size_alloc] at this
      exact this
    have e3 : ∀ (i : Nat) v, (tmV t A c)[i]? = some v → W7.cell? ⟨W2.heap.size + 1 + 1 + 1, i, none⟩ = some v := fun i v hv => by
      rw [cell_of_block (hB7.block _ (by omega)), hW5]
      have := heap_alloc_new (((W2.alloc (Obj.map #[] 0)).alloc (Obj.cells #[Value.map (some W2.heap.size)] 129)).alloc (Obj.cells #[Value.bool false] 4)) (Obj.cells #[Value.int IntKind.i64 t.op, Value.int IntKind.i64 t.width, Value.int IntKind.u64 t.val, Value.string t.name, Value.slice A t.kids.length c] 38)
      simp only [World.size_alloc] at this
      simp only [World.cell?, this]
      exact hv
    have hj7 : JC (w.heap.size + 1) W2.heap.size N0 r0 rc (postT t) W7 := by
      refine ⟨by rw [hW7]; simp [hs5], ?_, by rw [hB7.block _ (by omega)]; exact e1, ?_, ?_, [], false, 0, .map [], hgo, by omega, fun s => ⟨rfl, fun w hw => by cases hw⟩, ?_, by rw [hB7.block _ (by omega)]; exact e2⟩
      · rw [hB27.block _ (by omega)]; exact hres W2 hb2
      · rw [hW7, Below.heap_alloc _ _ _ (by simp [hs5]), ← hs5, heap_alloc_new]
      · have := heap_alloc_new (W5.alloc (.deferred (some []))) (.loop rc)
        rw [World.size_alloc, hs5] at this
        rw [hW7]; exact this
      · have := World.ownsMap_made W2 Tryz.prog 9 (plainElem (H := Unit) Tryz.prog 3)
        rw [hW7, hW5]
        exact (((((this.alloc _).alloc _).alloc _).alloc _).alloc _)
    have hseq := in182 (a := w.heap.size) (b := W2.heap.size + 6) (Bt := W2.heap.size + 1 + 1 + 1) (l := W2.heap.size + 5) (J := JC (w.heap.size + 1) W2.heap.size N0 r0 rc) (Jx := JX (w.heap.size + 1) W2.heap.size r0 rc)
      (fun r W W' h hb => h.below (by omega) hb) (fun r W h => h.size)
      (fun By hBy fz W u rem A c n hj hfz hout hk hc => by
        obtain ⟨seen, cf, nn, D, hg, _⟩ := hj.st
        simp only [chkGo2] at hg
        obtain ⟨v, hv, _⟩ := Option.bind_eq_some_iff.1 hg
        refine in184 hk hfz hc hv (fun e W' ⟨ok, fz', he, _⟩ => ⟨ok, he⟩) (fun fz' A' c' W' hb' hfz' hle hk' => ?_) n
        obtain ⟨fn', tm', as', bd', hy, hR⟩ := hround u rem v fz' A' c' W' (hj.below (by omega) hb') hv hfz' (hout.new (fzNew_mono hle hj.size)) hk'
        exact ⟨fn', tm', as', bd', hy, hR.mono fun e W3 ⟨ok, fz3, he, h1, h2, h3, h4⟩ => ⟨ok, fz3, he, h1, fzNew_trans (fzNew_mono hle hj.size) h2, (Keeps.of_below hb').trans h3, h4⟩⟩)
      hsm hj7 (fun q o hq => by rw [hBw7.block q (Array.getElem?_eq_some_iff.1 (hfz q o hq)).1]; exact hfz q o hq) (fun k h1 h2 => by
        cases hq : fz k with
        | none => rfl
        | some o => have := (Array.getElem?_eq_some_iff.1 (hfz k o hq)).1; omega) hk e3 (n - 1)
    refine CallsIn.mono (R := _) hseq ?_
    rintro e W8 ⟨⟨v8, rfl⟩, ok, fz8, hfz8, hle8, hkp8, hQ8⟩
    cases ok with
    | true =>
      have hj8 : JC (w.heap.size + 1) W2.heap.size N0 r0 rc [] W8 := hQ8
      obtain ⟨seen, cf, nn, D, hg, _, _, _, hcf⟩ := hj8.st
      have hend := run_endLoop (P := Tryz.prog) hj8.rcd (by rw [hready]; exact fun e => by cases e)
      rw [hpend] at hend
      refine ⟨none, _, hend, ?_⟩
      clear hend
      obtain ⟨W9, hW9⟩ : ∃ W9, W9 = W8.putObj (W2.heap.size + 5) (.loop { rc with state := .exhausted, pending := none }) := ⟨_, rfl⟩
      have hB9 : Below w.heap.size w W9 := by rw [hW9]; exact below_put (hBw7.trans (hkp8.to_below (by have := hBw7.size; omega))) (by omega) _
      have hn9 : ∀ k, k ≠ W2.heap.size + 5 → W9.heap[k]? = W8.heap[k]? := fun k hk => by rw [hW9]; exact World.putObj_heap_other hk
      have r9 : W9.heap[w.heap.size + 1]? = some (.cells #[.int .i64 0] 32 (0, 0)) := by rw [hn9 _ (by omega)]; exact hj8.res
      have k9 : W9.heap[W2.heap.size + 4]? = some (.deferred (some [])) := by rw [hn9 _ (by omega)]; exact hj8.dfr
      have c9 : W9.heap[W2.heap.size + 1 + 1]? = some (.cells #[.bool cf] 4 (0, 0)) := by rw [hn9 _ (by omega)]; exact hcf
      obtain ⟨r9c, r9f⟩ := box_cell r9
      obtain ⟨c9c, c9f⟩ := box_cell c9
      have fin : ∀ r, Below w.heap.size w ((W9.setCell ⟨w.heap.size + 1, 0, none⟩ (.int .i64 r)).putObj (W2.heap.size + 4) (.deferred none)) ∧ (W9.setCell ⟨w.heap.size + 1, 0, none⟩ (.int .i64 r)).heap[W2.heap.size + 4]? = some (.deferred (some [])) ∧
          ((W9.setCell ⟨w.heap.size + 1, 0, none⟩ (.int .i64 r)).putObj (W2.heap.size + 4) (.deferred none)).heap[w.heap.size + 1]? = some (.cells #[.int .i64 r] 32 (0, 0)) := fun r =>
        ⟨below_put (hB9.setCell (p := ⟨w.heap.size + 1, 0, none⟩) (by simp) _) (by omega) _, by rw [Below.heap_setCell _ _ _ _ (by simp; omega)]; exact k9, by rw [World.putObj_heap_other (by omega)]; exact set_cell_heap r9⟩
      rw [← hW9]
      have hQ : ∀ r, cf = true ∧ r = 12 ∨ cf = false ∧ r = 0 → r = r0 := fun r hr => by
        simp only [chkGo2, Option.some.injEq] at hg
        rcases hr with ⟨h1, h2⟩ | ⟨h1, h2⟩ <;> subst h1 <;> subst h2 <;> exact hg
      clear hround hseq hrc hj8 hcf hk hbox hres hres2 hmc hj7 e0 e1 e2 e3 hd hn9 hW9 hW7 hW5
      cases cf with
      | true =>
        have hr0 := hQ 12 (.inl ⟨rfl, rfl⟩)
        subst hr0
        gi_wp2
        obtain ⟨f1, f2, f3⟩ := fin 12
        exact ⟨by simp, .inl ⟨_, _, rfl, run_takeDeferred f2, ⟨_, results_45 rfl f3, rfl, f1⟩⟩⟩
      | false =>
        have hr0 := hQ 0 (.inr ⟨rfl, rfl⟩)
        subst hr0
        gi_wp2
        obtain ⟨f1, f2, f3⟩ := fin 0
        exact ⟨by simp, .inl ⟨_, _, rfl, run_takeDeferred f2, ⟨_, results_45 rfl f3, rfl, f1⟩⟩⟩
    | false =>
      have hj8 : JX (w.heap.size + 1) W2.heap.size r0 rc W8 := hQ8
      have hend := run_endLoop (P := Tryz.prog) hj8.rcd (by exact fun e => by cases e)
      refine ⟨some .ret, _, hend, ?_⟩
      clear hend
      obtain ⟨W9, hW9⟩ : ∃ W9, W9 = W8.putObj (W2.heap.size + 5) (.loop { { rc with state := .done, pending := some .ret } with state := .exhausted }) := ⟨_, rfl⟩
      have hB9 : Below w.heap.size w W9 := by rw [hW9]; exact below_put (hBw7.trans (hkp8.to_below (by have := hBw7.size; omega))) (by omega) _
      have hn9 : ∀ k, k ≠ W2.heap.size + 5 → W9.heap[k]? = W8.heap[k]? := fun k hk => by rw [hW9]; exact World.putObj_heap_other hk
      have r9 : W9.heap[w.heap.size + 1]? = some (.cells #[.int .i64 r0] 32 (0, 0)) := by rw [hn9 _ (by omega)]; exact hj8.res
      have k9 : W9.heap[W2.heap.size + 4]? = some (.deferred (some [])) := by rw [hn9 _ (by omega)]; exact hj8.dfr
      rw [← hW9]
      have f1 : Below w.heap.size w (W9.putObj (W2.heap.size + 4) (.deferred none)) := below_put hB9 (by omega) _
      have f3 : (W9.putObj (W2.heap.size + 4) (.deferred none)).heap[w.heap.size + 1]? = some (.cells #[.int .i64 r0] 32 (0, 0)) := by rw [World.putObj_heap_other (by omega)]; exact r9
      clear hround hseq hrc hj8 hk hbox hres hres2 hmc hj7 e0 e1 e2 e3 hd hn9 hW9 hW7 hW5
      gi_wp2
      exact ⟨by simp, .inl ⟨_, _, rfl, run_takeDeferred k9, ⟨_, results_45 rfl f3, rfl, f1⟩⟩⟩
def term_Check.a : ACods (Tm × Unit) := (.cons .tm .nil)
def term_Check.r : RCod Int := .val (.int .i64)
noncomputable def term_Check.f (a0 : Tm) : Option Int :=
  bif smallT a0 && Nat.ble (postT a0).length 100000 then
    (term_measure.f a0 4096 64).bind fun r => bif !r.2 then some 7 else chkGo2 (postT a0) [] false
  else none
theorem term_Check.con (a : Tm × Unit) (r : Int) (h : term_Check.f a.1 = some r) : Contract Tryz.prog 45 (term_Check.a.enc a) (term_Check.r.enc r) := by
  obtain ⟨t, ⟨⟩⟩ := a
  unfold term_Check.f at h
  obtain ⟨hs, h⟩ := bif_some h
  rw [Bool.and_eq_true, Nat.ble_eq] at hs
  obtain ⟨hs1, hs2⟩ := hs
  obtain ⟨rm, hm, h⟩ := Option.bind_eq_some_iff.1 h
  intro fz w args hfz hL hargs
  obtain ⟨hl, ha⟩ := hargs
  obtain ⟨x, hx, hr⟩ := ha 0 _ rfl
  obtain ⟨A, c, rfl, hk⟩ := tmV_of (u := t) hr
  have hsz : args.size = 1 := hl.symm
  have hargs : args = #[.agg (tmV t A c)] := by
    apply Array.ext_getElem?
    intro i
    match i with
    | 0 => exact hx
    | i + 1 => rw [Array.getElem?_eq_none (by omega)]; exact (Array.getElem?_eq_none (by simp)).symm
  have hcalls := check_in (r0 := r) (N0 := 100000) (c := c) hm hs1 hs2 (by decide) (fun h2 => by rw [h2] at h; exact h) (fun h2 => by rw [h2] at h; simpa using h.symm) hfz hk
  have hcall : (callFunc 45 args).run Tryz.prog w = .ok (.enter 45 args) w := by
    unfold callFunc
    simp only [Sem.run_bind, run_program, Result.andThen_ok, show Tryz.prog.funcs[45]? = some Tryz.f45 by kernel_rfl, show (Tryz.f45.name == "runtime.NumGoroutine") = false by kernel_rfl, show Tryz.f45.body.isNone = false by kernel_rfl, Bool.false_eq_true, if_false, Sem.run_pure]
  unfold CallOk
  rw [hcall]
  refine ⟨rfl, ?_⟩
  rw [hargs]
  exact hcalls.mono fun e w' ⟨he, hb⟩ => ⟨_, he, hb, fz, fun k o hk => by rw [hb.block k (Array.getElem?_eq_some_iff.1 (hfz k o hk)).1]; exact hfz k o hk, ⟨fun _ _ h => h, fun _ _ h => .inl h⟩, rfl⟩
noncomputable def term_Check.c : Kn Tryz.prog := Kn.of 45 term_Check.a term_Check.r (fun a => term_Check.f a.1) term_Check.con
def facts_clamp.a : ACods (Int × Unit) := (.cons (.val (.int .i64)) .nil)
def facts_clamp.r : RCod (Int) := .val (.int .i64)
noncomputable def facts_clamp.cs : List (Kn Tryz.prog) := []
def facts_clamp.live : Nat → Option Keep := liveOf []
noncomputable def facts_clamp.f (a0 : Int) : Option (Int) :=
  some (mx 1 (mn a0 64))
theorem facts_clamp.eq (fu : Nat) (a : Int × Unit) : bodyK Tryz.prog facts_clamp.cs facts_clamp.live fu Tryz.f65 (facts_clamp.a.enc a) facts_clamp.r.dec = facts_clamp.f a.1 := by kernel_rfl
theorem facts_clamp.con : ∀ (a : Int × Unit) (r : Int), facts_clamp.f a.1 = some r → Contract Tryz.prog 65 (facts_clamp.a.enc a) (facts_clamp.r.enc r) := Contract.of_body (by kernel_rfl) (by kernel_rfl) mixed (facts_clamp.eq (fuel0 + 1))
noncomputable def facts_clamp.c : Kn Tryz.prog := Kn.of 65 facts_clamp.a facts_clamp.r (fun a => facts_clamp.f a.1) facts_clamp.con
def bits_clamp.a : ACods (Int × Unit) := (.cons (.val (.int .i64)) .nil)
def bits_clamp.r : RCod (Int) := .val (.int .i64)
noncomputable def bits_clamp.cs : List (Kn Tryz.prog) := []
def bits_clamp.live : Nat → Option Keep := liveOf []
noncomputable def bits_clamp.f (a0 : Int) : Option (Int) :=
  some (mn (mx a0 1) 64)
theorem bits_clamp.eq (fu : Nat) (a : Int × Unit) : bodyK Tryz.prog bits_clamp.cs bits_clamp.live fu Tryz.f203 (bits_clamp.a.enc a) bits_clamp.r.dec = bits_clamp.f a.1 := by kernel_rfl
theorem bits_clamp.con : ∀ (a : Int × Unit) (r : Int), bits_clamp.f a.1 = some r → Contract Tryz.prog 203 (bits_clamp.a.enc a) (bits_clamp.r.enc r) := Contract.of_body (by kernel_rfl) (by kernel_rfl) mixed (bits_clamp.eq (fuel0 + 1))
noncomputable def bits_clamp.c : Kn Tryz.prog := Kn.of 203 bits_clamp.a bits_clamp.r (fun a => bits_clamp.f a.1) bits_clamp.con
def bits_Mask.a : ACods (Int × Unit) := (.cons (.val (.int .i64)) .nil)
def bits_Mask.r : RCod (Int) := .val (.int .u64)
noncomputable def bits_Mask.cs : List (Kn Tryz.prog) := [bits_clamp.c]
def bits_Mask.live : Nat → Option Keep := liveOf []
noncomputable def bits_Mask.f (a0 : Int) : Option (Int) :=
  (bits_clamp.f a0).bind fun r1 =>
  bif decide ((IntKind.i64.wrap (64 - r1)) < 0) then
    none
  else
    some (shr .u64 18446744073709551615 (IntKind.i64.wrap (64 - r1)))
theorem bits_Mask.eq (fu : Nat) (a : Int × Unit) : bodyK Tryz.prog bits_Mask.cs bits_Mask.live fu Tryz.f129 (bits_Mask.a.enc a) bits_Mask.r.dec = bits_Mask.f a.1 := by kernel_rfl
theorem bits_Mask.con : ∀ (a : Int × Unit) (r : Int), bits_Mask.f a.1 = some r → Contract Tryz.prog 129 (bits_Mask.a.enc a) (bits_Mask.r.enc r) := Contract.of_body (by kernel_rfl) (by kernel_rfl) mixed (bits_Mask.eq (fuel0 + 1))
noncomputable def bits_Mask.c : Kn Tryz.prog := Kn.of 129 bits_Mask.a bits_Mask.r (fun a => bits_Mask.f a.1) bits_Mask.con
def known_Valid.a : ACods (Int × (Int × Int) × Unit) := (.cons (.val (.int .i64)) (.cons (.val (.agg (.cons (.int .u64) (.one (.int .u64))))) .nil))
def known_Valid.r : RCod (Bool) := .val (.bool)
noncomputable def known_Valid.cs : List (Kn Tryz.prog) := [bits_Mask.c]
def known_Valid.live : Nat → Option Keep := liveOf []
noncomputable def known_Valid.f (a0 : Int) (a1 : Int × Int) : Option (Bool) :=
  bif ((Go.bits .and .u64 a1.1 a1.2) == 0) then
    (bits_Mask.f a0).bind fun r1 =>
    some ((Go.bits .andNot .u64 (Go.bits .or .u64 a1.1 a1.2) r1) == 0)
  else
    some false
theorem known_Valid.eq (fu : Nat) (a : Int × (Int × Int) × Unit) : bodyK Tryz.prog known_Valid.cs known_Valid.live fu Tryz.f66 (known_Valid.a.enc a) known_Valid.r.dec = known_Valid.f a.1 a.2.1 := by kernel_rfl
theorem known_Valid.con : ∀ (a : Int × (Int × Int) × Unit) (r : Bool), known_Valid.f a.1 a.2.1 = some r → Contract Tryz.prog 66 (known_Valid.a.enc a) (known_Valid.r.enc r) := Contract.of_body (by kernel_rfl) (by kernel_rfl) mixed (known_Valid.eq (fuel0 + 1))
noncomputable def known_Valid.c : Kn Tryz.prog := Kn.of 66 known_Valid.a known_Valid.r (fun a => known_Valid.f a.1 a.2.1) known_Valid.con
def ranges_Valid.a : ACods (Int × (Int × Int) × Unit) := (.cons (.val (.int .i64)) (.cons (.val (.agg (.cons (.int .u64) (.one (.int .u64))))) .nil))
def ranges_Valid.r : RCod (Bool) := .val (.bool)
noncomputable def ranges_Valid.cs : List (Kn Tryz.prog) := [bits_Mask.c]
def ranges_Valid.live : Nat → Option Keep := liveOf []
noncomputable def ranges_Valid.f (a0 : Int) (a1 : Int × Int) : Option (Bool) :=
  bif (decide (a1.1 ≤ a1.2)) then
    (bits_Mask.f a0).bind fun r1 =>
    some (decide (a1.2 ≤ r1))
  else
    some false
theorem ranges_Valid.eq (fu : Nat) (a : Int × (Int × Int) × Unit) : bodyK Tryz.prog ranges_Valid.cs ranges_Valid.live fu Tryz.f67 (ranges_Valid.a.enc a) ranges_Valid.r.dec = ranges_Valid.f a.1 a.2.1 := by kernel_rfl
theorem ranges_Valid.con : ∀ (a : Int × (Int × Int) × Unit) (r : Bool), ranges_Valid.f a.1 a.2.1 = some r → Contract Tryz.prog 67 (ranges_Valid.a.enc a) (ranges_Valid.r.enc r) := Contract.of_body (by kernel_rfl) (by kernel_rfl) mixed (ranges_Valid.eq (fuel0 + 1))
noncomputable def ranges_Valid.c : Kn Tryz.prog := Kn.of 67 ranges_Valid.a ranges_Valid.r (fun a => ranges_Valid.f a.1 a.2.1) ranges_Valid.con
def ranges_Top.a : ACods (Int × Unit) := (.cons (.val (.int .i64)) .nil)
def ranges_Top.r : RCod (Int × Int) := .val (.agg (.cons (.int .u64) (.one (.int .u64))))
noncomputable def ranges_Top.cs : List (Kn Tryz.prog) := [bits_Mask.c]
def ranges_Top.live : Nat → Option Keep := liveOf []
noncomputable def ranges_Top.f (a0 : Int) : Option (Int × Int) :=
  (bits_Mask.f a0).bind fun r1 =>
  some (0, r1)
theorem ranges_Top.eq (fu : Nat) (a : Int × Unit) : bodyK Tryz.prog ranges_Top.cs ranges_Top.live fu Tryz.f73 (ranges_Top.a.enc a) ranges_Top.r.dec = ranges_Top.f a.1 := by kernel_rfl
theorem ranges_Top.con : ∀ (a : Int × Unit) (r : Int × Int), ranges_Top.f a.1 = some r → Contract Tryz.prog 73 (ranges_Top.a.enc a) (ranges_Top.r.enc r) := Contract.of_body (by kernel_rfl) (by kernel_rfl) mixed (ranges_Top.eq (fuel0 + 1))
noncomputable def ranges_Top.c : Kn Tryz.prog := Kn.of 73 ranges_Top.a ranges_Top.r (fun a => ranges_Top.f a.1) ranges_Top.con
def ranges_norm.a : ACods (Int × (Int × Int) × Unit) := (.cons (.val (.int .i64)) (.cons (.val (.agg (.cons (.int .u64) (.one (.int .u64))))) .nil))
def ranges_norm.r : RCod (Int × Int) := .val (.agg (.cons (.int .u64) (.one (.int .u64))))
noncomputable def ranges_norm.cs : List (Kn Tryz.prog) := [ranges_Valid.c, ranges_Top.c]
def ranges_norm.live : Nat → Option Keep := liveOf []
noncomputable def ranges_norm.f (a0 : Int) (a1 : Int × Int) : Option (Int × Int) :=
  (ranges_Valid.f a0 (a1.1, a1.2)).bind fun r1 =>
  bif (!r1) then
    (ranges_Top.f a0).bind fun r2 =>
    some (r2.1, r2.2)
  else
    some (a1.1, a1.2)
theorem ranges_norm.eq (fu : Nat) (a : Int × (Int × Int) × Unit) : bodyK Tryz.prog ranges_norm.cs ranges_norm.live fu Tryz.f88 (ranges_norm.a.enc a) ranges_norm.r.dec = ranges_norm.f a.1 a.2.1 := by kernel_rfl
theorem ranges_norm.con : ∀ (a : Int × (Int × Int) × Unit) (r : Int × Int), ranges_norm.f a.1 a.2.1 = some r → Contract Tryz.prog 88 (ranges_norm.a.enc a) (ranges_norm.r.enc r) := Contract.of_body (by kernel_rfl) (by kernel_rfl) mixed (ranges_norm.eq (fuel0 + 1))
noncomputable def ranges_norm.c : Kn Tryz.prog := Kn.of 88 ranges_norm.a ranges_norm.r (fun a => ranges_norm.f a.1 a.2.1) ranges_norm.con
def ranges_Meet.a : ACods (Int × (Int × Int) × (Int × Int) × Unit) := (.cons (.val (.int .i64)) (.cons (.val (.agg (.cons (.int .u64) (.one (.int .u64))))) (.cons (.val (.agg (.cons (.int .u64) (.one (.int .u64))))) .nil)))
def ranges_Meet.r : RCod ((Int × Int) × Bool) := .val (.tup (.cons (.agg (.cons (.int .u64) (.one (.int .u64)))) (.one (.bool))))
noncomputable def ranges_Meet.cs : List (Kn Tryz.prog) := [ranges_norm.c, ranges_Top.c]
def ranges_Meet.live : Nat → Option Keep := liveOf []
noncomputable def ranges_Meet.f (a0 : Int) (a1 : Int × Int) (a2 : Int × Int) : Option ((Int × Int) × Bool) :=
  (ranges_norm.f a0 (a1.1, a1.2)).bind fun r1 =>
  (ranges_norm.f a0 (a2.1, a2.2)).bind fun r2 =>
  bif (decide ((mx r1.1 r2.1) > (mn r1.2 r2.2))) then
    (ranges_Top.f a0).bind fun r3 =>
    some ((r3.1, r3.2), false)
  else
    some (((mx r1.1 r2.1), (mn r1.2 r2.2)), true)
theorem ranges_Meet.eq (fu : Nat) (a : Int × (Int × Int) × (Int × Int) × Unit) : bodyK Tryz.prog ranges_Meet.cs ranges_Meet.live fu Tryz.f50 (ranges_Meet.a.enc a) ranges_Meet.r.dec = ranges_Meet.f a.1 a.2.1 a.2.2.1 := by kernel_rfl
theorem ranges_Meet.con : ∀ (a : Int × (Int × Int) × (Int × Int) × Unit) (r : (Int × Int) × Bool), ranges_Meet.f a.1 a.2.1 a.2.2.1 = some r → Contract Tryz.prog 50 (ranges_Meet.a.enc a) (ranges_Meet.r.enc r) := Contract.of_body (by kernel_rfl) (by kernel_rfl) mixed (ranges_Meet.eq (fuel0 + 1))
noncomputable def ranges_Meet.c : Kn Tryz.prog := Kn.of 50 ranges_Meet.a ranges_Meet.r (fun a => ranges_Meet.f a.1 a.2.1 a.2.2.1) ranges_Meet.con
def facts_prefix.a : ACods (Int × (Int × Int) × Unit) := (.cons (.val (.int .i64)) (.cons (.val (.agg (.cons (.int .u64) (.one (.int .u64))))) .nil))
def facts_prefix.r : RCod (Int × Int) := .val (.agg (.cons (.int .u64) (.one (.int .u64))))
noncomputable def facts_prefix.cs : List (Kn Tryz.prog) := []
def facts_prefix.live : Nat → Option Keep := liveOf [(7, ⟨[3, 4, 5, 6], [3, 4, 5], [], [], []⟩), (8, ⟨[3, 4, 5, 6], [3, 4, 5], [], [], []⟩), (20, ⟨[4, 5], [4, 5], [], [], []⟩)]
noncomputable def facts_prefix.body : Code := bodyOf Tryz.f130
noncomputable def facts_prefix.K (fu : Nat) : Code → St → (Ex → St → Option (Int × Int)) → Option (Int × Int) := codeK Tryz.prog (facts_prefix.cs) facts_prefix.live fu
noncomputable def facts_prefix.j3 (fu n3 : Nat) (x6 c3_0 c3_1 c4_0 c4_1 c5_0 c5_1 : Int) : Option (Int × Int) :=
  loopK (facts_prefix.K fu (sub facts_prefix.body [true, true, false, true, false, false])) (facts_prefix.live 7) n3 (stOf 40 [(3, .ptr 3 0 0 0), (4, .ptr 4 0 0 0), (5, .ptr 5 0 0 0), (6, .val (.int .i64 x6))] [(3, .own [.val (.int .u64 c3_0), .val (.int .u64 c3_1)]), (4, .own [.val (.int .u64 c4_0), .val (.int .u64 c4_1)]), (5, .own [.val (.int .u64 c5_0), .val (.int .u64 c5_1)])]) (blockC 0 (seqC fu (facts_prefix.live 20) (facts_prefix.K fu (sub facts_prefix.body [true, true, true])) (retC Tryz.prog Tryz.f130.results facts_prefix.r.dec)))
noncomputable def facts_prefix.p10 (m fu : Nat) (c4_0 c4_1 c5_0 c5_1 : Int) : Option (Int × Int) :=
  joinK m (facts_prefix.K fu (sub facts_prefix.body [true, true, true])) (stOf 40 [(4, .ptr 4 0 0 0), (5, .ptr 5 0 0 0)] [(4, .own [.val (.int .u64 c4_0), .val (.int .u64 c4_1)]), (5, .own [.val (.int .u64 c5_0), .val (.int .u64 c5_1)])]) (retC Tryz.prog Tryz.f130.results facts_prefix.r.dec)
noncomputable def facts_prefix.p4 (m fu : Nat) (n3 : Nat) (x6 c3_0 c3_1 c4_0 c4_1 c5_0 c5_1 : Int) : Option (Int × Int) :=
  joinK m (facts_prefix.K fu (sub facts_prefix.body [true, true, false, true, false, false, true, true])) (stOf 40 [(3, .ptr 3 0 0 0), (4, .ptr 4 0 0 0), (5, .ptr 5 0 0 0), (6, .val (.int .i64 x6))] [(3, .own [.val (.int .u64 c3_0), .val (.int .u64 c3_1)]), (4, .own [.val (.int .u64 c4_0), .val (.int .u64 c4_1)]), (5, .own [.val (.int .u64 c5_0), .val (.int .u64 c5_1)])]) (roundC (facts_prefix.live 7) (loopK (facts_prefix.K fu (sub facts_prefix.body [true, true, false, true, false, false])) (facts_prefix.live 7) n3) (blockC 0 (seqC fu (facts_prefix.live 20) (facts_prefix.K fu (sub facts_prefix.body [true, true, true])) (retC Tryz.prog Tryz.f130.results facts_prefix.r.dec))))
theorem facts_prefix.p10_eq (m fu : Nat) (c4_0 c4_1 c5_0 c5_1 : Int) : facts_prefix.p10 (m + 1) fu c4_0 c4_1 c5_0 c5_1 =
  some (c5_0, c5_1) := by kernel_rfl
theorem facts_prefix.p4_eq (m fu : Nat) (n3 : Nat) (x6 c3_0 c3_1 c4_0 c4_1 c5_0 c5_1 : Int) : facts_prefix.p4 (m + 1) fu n3 x6 c3_0 c3_1 c4_0 c4_1 c5_0 c5_1 =
  facts_prefix.j3 fu n3 (IntKind.i64.wrap (x6 - 1)) c3_0 c3_1 c4_0 c4_1 c5_0 c5_1 := by kernel_rfl
theorem facts_prefix.j3_succ (fu n3 : Nat) (x6 c3_0 c3_1 c4_0 c4_1 c5_0 c5_1 : Int) : facts_prefix.j3 fu (n3 + 1) x6 c3_0 c3_1 c4_0 c4_1 c5_0 c5_1 =
  bif (decide (x6 ≥ 0)) then
    bif decide (x6 < 0) then
      none
    else
      bif ((Go.bits .and .u64 (Go.bits .xor .u64 c3_0 c3_1) (shl .u64 1 x6)) != 0) then
        facts_prefix.p10 fu fu c4_0 c4_1 c5_0 c5_1
      else
        bif ((Go.bits .and .u64 c3_0 (shl .u64 1 x6)) != 0) then
          facts_prefix.p4 fu fu n3 x6 c3_0 c3_1 c4_0 c4_1 c5_0 (Go.bits .or .u64 c5_1 (shl .u64 1 x6))
        else
          facts_prefix.p4 fu fu n3 x6 c3_0 c3_1 c4_0 c4_1 (Go.bits .or .u64 c5_0 (shl .u64 1 x6)) c5_1
  else
    facts_prefix.p10 fu fu c4_0 c4_1 c5_0 c5_1 := by kernel_rfl
noncomputable def facts_prefix.g (fu : Nat) (a0 : Int) (a1 : Int × Int) : Option (Int × Int) :=
  facts_prefix.j3 fu fu (IntKind.i64.wrap (a0 - 1)) a1.1 a1.2 0 0 0 0
noncomputable def facts_prefix.f (a0 : Int) (a1 : Int × Int) : Option (Int × Int) := facts_prefix.g (fuel0 + 1) a0 a1
theorem facts_prefix.eq (fu : Nat) (a : Int × (Int × Int) × Unit) : bodyK Tryz.prog facts_prefix.cs facts_prefix.live fu Tryz.f130 (facts_prefix.a.enc a) facts_prefix.r.dec = facts_prefix.g fu a.1 a.2.1 := by kernel_rfl
theorem facts_prefix.con : ∀ (a : Int × (Int × Int) × Unit) (r : Int × Int), facts_prefix.f a.1 a.2.1 = some r → Contract Tryz.prog 130 (facts_prefix.a.enc a) (facts_prefix.r.enc r) := Contract.of_body (by kernel_rfl) (by kernel_rfl) mixed (facts_prefix.eq (fuel0 + 1))
noncomputable def facts_prefix.c : Kn Tryz.prog := Kn.of 130 facts_prefix.a facts_prefix.r (fun a => facts_prefix.f a.1 a.2.1) facts_prefix.con
def known_of.a : ACods (Int × (Int × Int) × Unit) := (.cons (.val (.int .i64)) (.cons (.val (.agg (.cons (.int .u64) (.one (.int .u64))))) .nil))
def known_of.r : RCod (Int × Int) := .val (.agg (.cons (.int .u64) (.one (.int .u64))))
noncomputable def known_of.cs : List (Kn Tryz.prog) := [known_Valid.c]
def known_of.live : Nat → Option Keep := liveOf []
noncomputable def known_of.f (a0 : Int) (a1 : Int × Int) : Option (Int × Int) :=
  (known_Valid.f a0 (a1.1, a1.2)).bind fun r1 =>
  bif r1 then
    some (a1.1, a1.2)
  else
    some (0, 0)
theorem known_of.eq (fu : Nat) (a : Int × (Int × Int) × Unit) : bodyK Tryz.prog known_of.cs known_of.live fu Tryz.f83 (known_of.a.enc a) known_of.r.dec = known_of.f a.1 a.2.1 := by kernel_rfl
theorem known_of.con : ∀ (a : Int × (Int × Int) × Unit) (r : Int × Int), known_of.f a.1 a.2.1 = some r → Contract Tryz.prog 83 (known_of.a.enc a) (known_of.r.enc r) := Contract.of_body (by kernel_rfl) (by kernel_rfl) mixed (known_of.eq (fuel0 + 1))
noncomputable def known_of.c : Kn Tryz.prog := Kn.of 83 known_of.a known_of.r (fun a => known_of.f a.1 a.2.1) known_of.con
def known_Meet.a : ACods (Int × (Int × Int) × (Int × Int) × Unit) := (.cons (.val (.int .i64)) (.cons (.val (.agg (.cons (.int .u64) (.one (.int .u64))))) (.cons (.val (.agg (.cons (.int .u64) (.one (.int .u64))))) .nil)))
def known_Meet.r : RCod ((Int × Int) × Bool) := .val (.tup (.cons (.agg (.cons (.int .u64) (.one (.int .u64)))) (.one (.bool))))
noncomputable def known_Meet.cs : List (Kn Tryz.prog) := [known_of.c]
def known_Meet.live : Nat → Option Keep := liveOf []
noncomputable def known_Meet.f (a0 : Int) (a1 : Int × Int) (a2 : Int × Int) : Option ((Int × Int) × Bool) :=
  (known_of.f a0 (a1.1, a1.2)).bind fun r1 =>
  (known_of.f a0 (a2.1, a2.2)).bind fun r2 =>
  bif ((Go.bits .and .u64 (Go.bits .or .u64 r1.1 r2.1) (Go.bits .or .u64 r1.2 r2.2)) != 0) then
    some ((0, 0), false)
  else
    some (((Go.bits .or .u64 r1.1 r2.1), (Go.bits .or .u64 r1.2 r2.2)), true)
theorem known_Meet.eq (fu : Nat) (a : Int × (Int × Int) × (Int × Int) × Unit) : bodyK Tryz.prog known_Meet.cs known_Meet.live fu Tryz.f49 (known_Meet.a.enc a) known_Meet.r.dec = known_Meet.f a.1 a.2.1 a.2.2.1 := by kernel_rfl
theorem known_Meet.con : ∀ (a : Int × (Int × Int) × (Int × Int) × Unit) (r : (Int × Int) × Bool), known_Meet.f a.1 a.2.1 a.2.2.1 = some r → Contract Tryz.prog 49 (known_Meet.a.enc a) (known_Meet.r.enc r) := Contract.of_body (by kernel_rfl) (by kernel_rfl) mixed (known_Meet.eq (fuel0 + 1))
noncomputable def known_Meet.c : Kn Tryz.prog := Kn.of 49 known_Meet.a known_Meet.r (fun a => known_Meet.f a.1 a.2.1 a.2.2.1) known_Meet.con
def facts_step.a : ACods ((Int × Int × Int × Int × Int) × Unit) := (.cons (.val (.agg (.cons (.int .i64) (.cons (.int .u64) (.cons (.int .u64) (.cons (.int .u64) (.one (.int .u64)))))))) .nil)
def facts_step.r : RCod ((Int × Int × Int × Int × Int) × Bool) := .val (.tup (.cons (.agg (.cons (.int .i64) (.cons (.int .u64) (.cons (.int .u64) (.cons (.int .u64) (.one (.int .u64))))))) (.one (.bool))))
noncomputable def facts_step.cs : List (Kn Tryz.prog) := [ranges_Top.c, ranges_Meet.c, facts_prefix.c, known_Meet.c]
def facts_step.live : Nat → Option Keep := liveOf []
noncomputable def facts_step.f (a0 : Int × Int × Int × Int × Int) : Option ((Int × Int × Int × Int × Int) × Bool) :=
  (ranges_Top.f a0.1).bind fun r1 =>
  (ranges_Meet.f a0.1 (a0.2.2.2.1, a0.2.2.2.2) (a0.2.2.1, (Go.bits .andNot .u64 r1.2 a0.2.1))).bind fun r2 =>
  bif (!r2.2) then
    some ((a0.1, a0.2.1, a0.2.2.1, a0.2.2.2.1, a0.2.2.2.2), false)
  else
    (facts_prefix.f a0.1 (r2.1.1, r2.1.2)).bind fun r3 =>
    (known_Meet.f a0.1 (a0.2.1, a0.2.2.1) (r3.1, r3.2)).bind fun r4 =>
    some ((a0.1, r4.1.1, r4.1.2, r2.1.1, r2.1.2), r4.2)
theorem facts_step.eq (fu : Nat) (a : (Int × Int × Int × Int × Int) × Unit) : bodyK Tryz.prog facts_step.cs facts_step.live fu Tryz.f68 (facts_step.a.enc a) facts_step.r.dec = facts_step.f a.1 := by kernel_rfl
theorem facts_step.con : ∀ (a : (Int × Int × Int × Int × Int) × Unit) (r : (Int × Int × Int × Int × Int) × Bool), facts_step.f a.1 = some r → Contract Tryz.prog 68 (facts_step.a.enc a) (facts_step.r.enc r) := Contract.of_body (by kernel_rfl) (by kernel_rfl) mixed (facts_step.eq (fuel0 + 1))
noncomputable def facts_step.c : Kn Tryz.prog := Kn.of 68 facts_step.a facts_step.r (fun a => facts_step.f a.1) facts_step.con
end Go.Proofs.YtcihbcffokjgjaaGreat.Fn
