/- What the functions return, as the evaluator tells it: written by a program of this workplace (mev.py); Lean checks each equation. -/
import Derived.WalkKit
import Derived.OwnWalkIn
import Derived.TacticsInMore
import Derived.LoopNIn
import Derived.LoopIn
import Derived.RegionTactic
import Derived.RecoverIn
import Derived.StillTailTactics
import Derived.DefersIn
import Derived.RegionIn
import Derived.Shelf.Abstract
import Derived.Shelf.RegionOpen
import Derived.Maps.AppendAt
import Derived.Test.YtkmehmlcccdnbaaDoorProg
import Derived.Test.YtkmehmlcccdnbaaDoorEvC
import Derived.Test.YtkmehmlcccdnbaaDoorF0
namespace Go.Proofs.YtkmehmlcccdnbaaDoor.Fn
open Go Go.RowKit Go.Proofs.YtkmehmlcccdnbaaDoor.Ev Go.Proofs
set_option linter.unusedVariables false
set_option maxRecDepth 100000
/-! ### exec_Run: function 12 -/
open Go.Shelf
set_option linter.unusedSimpArgs false
attribute [local go_sem] Oper.semAt_some
theorem CallOk.calls1 {P : Program} {f : FuncId} {fn : Func} {args : Array Value} {w : World} {R : Value → World → Prop} (hf : P.funcs[f]? = some fn) (hname : (fn.name == "runtime.NumGoroutine") = false) (hb : fn.body.isNone = false) (h : CallOk P f args w R) :
    Calls P f args w fun e w'' => ∃ x, e = .returned x ∧ R x w'' := by
  have hcall : (callFunc f args).run P w = .ok (.enter f args) w := by
    unfold callFunc
    simp only [Sem.run_bind, run_program, Result.andThen_ok, hf, hname, hb, Bool.false_eq_true, if_false, Sem.run_pure]
  unfold CallOk at h
  rw [hcall] at h
  exact h.2
/-- A word as a value. -/
def wv (t : Tm) : Value := .int .u64 t.x
/-- Words in a row of one's own, for a while told as frozen. -/
theorem fz_of_row {W : World} {B : Nat} {e : TypeId} {A : Option Addr} {c : Nat} {L : List Tm} (h : W.ownsRow B e 1 (.slice A L.length c) L.length (L.map wv)) : ∃ fz : Nat → Option Obj, FzW fz W ∧ KidsAt fz 0 A 0 L := by
  rcases h.2 with ⟨hv, h0⟩ | ⟨g, cap, cur, hv, _, hg, _, _, _, htake⟩
  · have : L = [] := List.length_eq_zero_iff.1 h0
    subst this
    exact ⟨fun _ => none, fun k o hk => (by cases hk), KidsAt.nil⟩
  · simp only [Value.slice.injEq] at hv
    refine ⟨fun k => if k = g then W.heap[g]? else none, fun k o hk => ?_, KidsAt.of_row hv.1 L 0 fun j t hj => ?_⟩
    · simp only at hk
      split at hk
      · rename_i e; subst e; exact hk
      · cases hk
    · unfold TmAt
      have h1 : (L.map wv)[j]? = some (wv t) := by rw [List.getElem?_map, hj]; rfl
      rw [← htake, List.getElem?_take] at h1
      split at h1
      · rw [Array.getElem?_toList] at h1
        unfold fzCell
        simp only [if_pos, hg]
        simpa [wv] using h1
      · cases h1
def insV (i : Int × Int × Int × Int × Int × Int) : Array Value := #[.int .i64 i.1, .int .i64 i.2.1, .int .i64 i.2.2.1, .int .i64 i.2.2.2.1, .int .i64 i.2.2.2.2.1, .int .u64 i.2.2.2.2.2]
/-- The panic of an instruction that divides by nought. -/
def trapE : Ending := .panicked [{ v := .iface 64 (.agg #[]), recovered := false }]
theorem CallOk2.calls1 {P : Program} {f : FuncId} {fn : Func} {args : Array Value} {w : World} {R R' : Value → World → Prop} (hf : P.funcs[f]? = some fn) (hname : (fn.name == "runtime.NumGoroutine") = false) (hb : fn.body.isNone = false) (h : CallOk2 P f args w R R') :
    Calls P f args w fun e w'' => (∃ x, e = .returned x ∧ R x w'') ∨ ∃ v, e = .panicked [{ v := v, recovered := false }] ∧ R' v w'' := by
  have hcall : (callFunc f args).run P w = .ok (.enter f args) w := by
    unfold callFunc
    simp only [Sem.run_bind, run_program, Result.andThen_ok, hf, hname, hb, Bool.false_eq_true, if_false, Sem.run_pure]
  unfold CallOk2 at h
  rw [hcall] at h
  exact h.2
theorem value_calls {w : Int} {i : Int × Int × Int × Int × Int × Int} {L : List Tm} {v : Option Int} (h : exec_value.f w i L = some v) {W : World} (hL : LaidW W) {B : Nat} {e : TypeId} {A : Option Addr} {c : Nat} (hr : W.ownsRow B e 1 (.slice A L.length c) L.length (L.map wv)) :
    Calls Tryd.prog 50 #[.int .i64 w, .agg (insV i), .slice A L.length c] W fun e W' => (match v with | some x => e = .returned (.int .u64 x) | none => e = trapE) ∧ Below W.heap.size W W' := by
  obtain ⟨fz, hfz, hk⟩ := fz_of_row hr
  have hC := exec_value.con (w, i, L, ()) v h fz W #[.int .i64 w, .agg (insV i), .slice A L.length c] hfz hL ⟨rfl, fun q av hi => by
    match q with
    | 0 => cases hi; exact ⟨_, rfl, rfl⟩
    | 1 => cases hi; exact ⟨_, rfl, rfl⟩
    | 2 => cases hi; exact ⟨_, rfl, A, c, rfl, hk⟩
    | q + 3 => simp [exec_value.a, ACods.cons, ACods.nil] at hi⟩
  refine (CallOk2.calls1 (fn := Tryd.f50) (by kernel_rfl) (by kernel_rfl) (by kernel_rfl) hC).mono fun e W' hq => ?_
  rcases hq with ⟨x, he, hb, fz', h1, h2, h3⟩ | ⟨x, he, h3, hb⟩
  · cases v with
    | none => exact h3.elim
    | some v =>
      have h3' : x = _ := h3
      subst h3'
      exact ⟨he, hb⟩
  · cases v with
    | none => cases h3; exact ⟨he, hb⟩
    | some v => cases h3
theorem def_calls {i : Int × Int × Int × Int × Int × Int} {r : Int × Bool} (h : isa_Def.f i = some r) {W : World} (hL : LaidW W) :
    Calls Tryd.prog 40 #[.agg (insV i)] W fun e W' => e = .returned (.tuple #[.int .i64 r.1, .bool r.2]) ∧ Below W.heap.size W W' := by
  have hC := isa_Def.con (i, ()) r h (fun _ => none) W #[.agg (insV i)] (fun k o hk => by cases hk) hL ⟨rfl, fun q av hi => by
    match q with
    | 0 => cases hi; exact ⟨_, rfl, rfl⟩
    | q + 1 => simp [isa_Def.a, ACods.cons, ACods.nil] at hi⟩
  refine (CallOk2.calls1 (fn := Tryd.f40) (by kernel_rfl) (by kernel_rfl) (by kernel_rfl) hC).mono fun e W' hq => ?_
  rcases hq with ⟨x, he, hb, fz', h1, h2, h3⟩ | ⟨x, he, h3, hb⟩
  · have h3' : x = _ := h3
    subst h3'
    exact ⟨he, hb⟩
  · cases h3
theorem cell_lt {W : World} {a : Addr} {v : Value} (h : W.cell? a = some v) : a.block < W.heap.size := by
  unfold World.cell? at h
  split at h
  · rename_i hq; exact (Array.getElem?_eq_some_iff.1 hq).1
  · cases h
theorem ownsRow_below {W W' : World} {B n sz : Nat} {e : TypeId} {v : Value} {xs : List Value} (h : W.ownsRow B e sz v n xs) (hb : Below W.heap.size W W') : W'.ownsRow B e sz v n xs := by
  refine ⟨h.1, ?_⟩
  rcases h.2 with hn | ⟨g, cap, cur, hv, h1, hg, rest⟩
  · exact .inl hn
  · exact .inr ⟨g, cap, cur, hv, h1, by rw [hb.block g (Array.getElem?_eq_some_iff.1 hg).1]; exact hg, rest⟩
/-- What an instruction does to a state: none: it panics. -/
noncomputable def stepP (w : Int) (i : Int × Int × Int × Int × Int × Int) (L : List Tm) : Option (Option (List Tm)) :=
  (isa_Def.f i).bind fun r => bif r.2 then (exec_value.f w i L).bind fun v => match v with
    | none => some none
    | some x => bif decide (0 ≤ r.1) && decide (r.1 < L.length) then some (some (L.set r.1.toNat (.mk x []))) else none
  else some (some L)
def StepQ (r : Option (List Tm)) (W : World) (B : Nat) (e : TypeId) (v : Value) (n : Nat) (ev : Ending) (W' : World) : Prop :=
  match r with
  | some L' => ev = .returned (.tuple #[]) ∧ W.grownBy W' v.ownBlock ∧ L'.length = n ∧ W'.ownsRow B e 1 v n (L'.map wv)
  | none => ev = trapE ∧ Below W.heap.size W W'
theorem grown_of_below {W W' : World} {row : Option Nat} (h : Below W.heap.size W W') : W.grownBy W' row := ⟨h.os, h.tape, h.output, h.size, fun k hk _ => h.block k hk⟩
theorem row_set {W : World} {g cap N B : Nat} {e : TypeId} {cur : Array Value} {L : List Tm} {x : Int} (hBg : B ≤ g) (hg : W.heap[g]? = some (.cells cur e (0, 0))) (hnc : L.length ≤ cap) (hcm : cap ≤ maxLen) (hcs : cur.size = cap * 1) (htk : cur.toList.take (L.length * 1) = L.map wv) (hN : N < L.length) :
    (W.setCell ⟨g, N, none⟩ (.int .u64 x)).ownsRow B e 1 (.slice (some ⟨g, 0, none⟩) L.length cap) L.length ((L.set N (.mk x [])).map wv) := by
  refine ⟨by simp, .inr ⟨g, cap, cur.set! N (.int .u64 x), rfl, hBg, ?_, hnc, hcm, by simpa using hcs, ?_⟩⟩
  · simp [World.setCell, Array.getElem?_modify, hg]
  · rw [List.map_set, ← htk]
    simp only [Array.set!_eq_setIfInBounds, Array.toList_setIfInBounds]
    rw [List.take_set]
    rfl
theorem step_calls {w : Int} {i : Int × Int × Int × Int × Int × Int} {L : List Tm} {r : Option (List Tm)} (h : stepP w i L = some r) {W : World} (hL : LaidW W) {B : Nat} {e : TypeId} {A : Option Addr} {c : Nat} (hr : W.ownsRow B e 1 (.slice A L.length c) L.length (L.map wv)) :
    Calls Tryd.prog 33 #[.int .i64 w, .agg (insV i), .slice A L.length c] W (StepQ r W B e (.slice A L.length c) L.length) := by
  unfold stepP at h
  obtain ⟨⟨d, ok⟩, hd, h⟩ := Option.bind_eq_some_iff.1 h
  obtain ⟨n, -⟩ : ∃ n : Nat, n = 9 := ⟨_, rfl⟩
  refine callsIn_wide (n := n).1 ?_
  refine callsIn_of_wp Tryd.func33 rfl trivial ?_ rfl
  simp only [Tryd.ntmps33, List.size_toArray, List.length_cons, List.length_nil, Nat.reduceAdd, Nat.reduceSub, Array.replicate_succ, Array.replicate_zero, List.push_toArray, List.append_toArray, List.nil_append, List.cons_append]
  have hB1 : Below W.heap.size W (W.alloc (Obj.cells (insV i) 47)) := (Below.refl _ _).alloc (Nat.le_refl _) _
  have hcell : ∀ W', Below (W.alloc (Obj.cells (insV i) 47)).heap.size (W.alloc (Obj.cells (insV i) 47)) W' → ∀ (j : Nat) v, (insV i)[j]? = some v → W'.cell? ⟨W.heap.size, j, none⟩ = some v := fun W' hb' j v hv => by
    rw [cell_of_block (hb'.block _ (by simp))]
    simp only [World.cell?, heap_alloc_new]
    exact hv
  have hdc := def_calls hd (hL.below hB1)
  unfold insV at hcell hB1 hdc ⊢
  cases ok with
  | false =>
    simp only [cond_false, Option.some.injEq] at h
    subst h
    gi_wp2_with (refine ⟨trivial, fun h => (by cases h), (callsIn_wide.2 hdc).mono ?_⟩; rintro e W2 ⟨rfl, hb2⟩)
    go_end0
    exact ⟨rfl, grown_of_below (hB1.trans (hb2.mono hB1.size)), rfl, ownsRow_below hr (hB1.trans (hb2.mono hB1.size))⟩
  | true =>
    simp only [cond_true] at h
    obtain ⟨v, hv, h⟩ := Option.bind_eq_some_iff.1 h
    have hvc : ∀ W', Below (W.alloc (Obj.cells (insV i) 47)).heap.size (W.alloc (Obj.cells (insV i) 47)) W' → _ := fun W' hb' => value_calls hv (hL.below (hB1.trans (hb'.mono hB1.size))) (ownsRow_below hr (hB1.trans (hb'.mono hB1.size)))
    unfold insV at hvc
    cases v with
    | none =>
      simp only [Option.some.injEq] at h
      subst h
      simp only [trapE] at hvc
      clear hd hv
      gi_wp2_with (first
        | (refine ⟨trivial, fun h => (by cases h), (callsIn_wide.2 hdc).mono ?_⟩; rintro e W2 ⟨rfl, hb2⟩; have c0 := hcell W2 hb2 0 _ rfl; have c1 := hcell W2 hb2 1 _ rfl; have c2 := hcell W2 hb2 2 _ rfl; have c3 := hcell W2 hb2 3 _ rfl; have c4 := hcell W2 hb2 4 _ rfl; have c5 := hcell W2 hb2 5 _ rfl)
        | (refine ⟨trivial, fun h => (by cases h), (callsIn_wide.2 (hvc _ hb2)).mono ?_⟩; rintro e W3 ⟨rfl, hb3⟩))
      exact ⟨rfl, rfl, hB1.trans ((hb2.trans (hb3.mono hb2.size)).mono hB1.size)⟩
    | some x =>
      simp only at h
      obtain ⟨hdd, h⟩ := bif_some h
      simp only [Bool.and_eq_true, decide_eq_true_eq] at hdd
      obtain ⟨d0, d1⟩ := hdd
      cases h
      obtain ⟨N, rfl⟩ : ∃ N : Nat, d = N := ⟨d.toNat, by omega⟩
      simp only at hvc
      rcases hr.2 with ⟨hv0, h0⟩ | ⟨g, cap, cur, hv0, hBg, hg, hnc, hcm, hcs, htk⟩
      · simp only [Value.slice.injEq] at hv0; omega
      simp only [Value.slice.injEq] at hv0
      obtain ⟨rfl, _, rfl⟩ := hv0
      have hN : N < L.length := by omega
      have hgc : ∀ W', Below W.heap.size W W' → W'.heap[g]? = some (.cells cur e (0, 0)) := fun W' hb' => by rw [hb'.block g (Array.getElem?_eq_some_iff.1 hg).1]; exact hg
      have hNc : N < cur.size := by rw [hcs]; omega
      have hcg : ∀ W', Below W.heap.size W W' → W'.cell? ⟨g, N, none⟩ = some cur[N] ∧ W'.frozen? ⟨g, N, none⟩ = false := fun W' hb' => by
        have := hgc W' hb'
        constructor
        · simp [World.cell?, this, hNc]
        · simp [World.frozen?, this]
      clear hd hv
      gi_wp2_with (first
        | (refine ⟨trivial, fun h => (by cases h), (callsIn_wide.2 hdc).mono ?_⟩; rintro e W2 ⟨rfl, hb2⟩; have c0 := hcell W2 hb2 0 _ rfl; have c1 := hcell W2 hb2 1 _ rfl; have c2 := hcell W2 hb2 2 _ rfl; have c3 := hcell W2 hb2 3 _ rfl; have c4 := hcell W2 hb2 4 _ rfl; have c5 := hcell W2 hb2 5 _ rfl)
        | (refine ⟨trivial, fun h => (by cases h), (callsIn_wide.2 (hvc _ hb2)).mono ?_⟩; rintro e W3 ⟨rfl, hb3⟩; obtain ⟨g1, g2⟩ := hcg W3 (hB1.trans ((hb2.trans (hb3.mono hb2.size)).mono hB1.size))))
      go_end0
      have hb3' := hB1.trans ((hb2.trans (hb3.mono hb2.size)).mono hB1.size)
      refine ⟨rfl, ⟨hb3'.os, hb3'.tape, hb3'.output, by simpa [World.setCell] using hb3'.size, fun k hk hne => ?_⟩, by simp, ?_⟩
      · have hkg : k ≠ g := fun e => hne (by subst e; rfl)
        rw [Below.heap_setCell _ _ _ _ hkg]; exact hb3'.block k hk
      · exact row_set hBg (hgc W3 hb3') hnc hcm hcs htk hN
theorem box_at {w : World} {k : Nat} {v : Value} {e : TypeId} (hc : w.heap[k]? = some (.cells #[v] e (0, 0))) : w.cell? ⟨k, 0, none⟩ = some v ∧ w.frozen? ⟨k, 0, none⟩ = false := ⟨by simp [World.cell?, hc], by simp [World.frozen?, hc]⟩
theorem heap_alloc_old {w : World} {k : Nat} {o o' : Obj} (h : w.heap[k]? = some o) : (w.alloc o').heap[k]? = some o := by rw [Below.heap_alloc _ _ _ (Array.getElem?_eq_some_iff.1 h).1]; exact h
theorem catch_idle (k : Nat) (b : Bool) (w : World) (hc : w.heap[k]? = some (.cells #[.bool b] 4 (0, 0))) :
    CallsDIn Fence.wide 0 Tryd.prog 49 #[.pointer (some ⟨k, 0, none⟩)] .returning w fun e u' w' => e = .returned (.tuple #[]) ∧ u' = .returning ∧ w' = (w.alloc (.cells #[] 64)).setCell ⟨k, 0, none⟩ (.bool true) := by
  refine callsDIn_of_wpSIn Tryd.func49 rfl (by trivial) fun c₀ cs hu => ?_
  apply wpSIn_seq
  apply wpSIn_region
  simp [wpOpsSIn, go_sem, recoverD, hu, Tryd.ntmps49, Exit.thenS]
  refine wpSIn_of_wpIn rfl ?_
  simp only [Array.replicate_succ, Array.replicate_zero, List.push_toArray, List.append_toArray, List.nil_append, List.cons_append, List.setIfInBounds_toArray, List.set_cons_succ, List.set_cons_zero]
  have hta : ∀ w : World, (Instr.typeAssert Value.nilIface 20 64 true).run Tryd.prog w = .ok (.tuple #[.agg #[], .bool false]) w := semVal_run (by kernel_rfl)
  obtain ⟨h1, h2⟩ := box_at (heap_alloc_old (o' := .cells #[] 64) hc)
  gi_wp2
  refine ⟨rfl, .returning, ?_, .tuple #[], by simp [results, Tryd.results49, go_sem], rfl, rfl, rfl⟩
  cases c₀
  simp_all
theorem catch_panicking (k : Nat) (b : Bool) (w : World) (older : List PanicEntry) (hc : w.heap[k]? = some (.cells #[.bool b] 4 (0, 0))) :
    CallsDIn Fence.wide 0 Tryd.prog 49 #[.pointer (some ⟨k, 0, none⟩)] (.panicking ({ v := .iface 64 (.agg #[]), recovered := false } :: older)) w fun e u' w' => e = .returned (.tuple #[]) ∧ u' = .panicking ({ v := .iface 64 (.agg #[]), recovered := true } :: older) ∧ w' = (w.alloc (.cells #[] 64)).setCell ⟨k, 0, none⟩ (.bool false) := by
  refine callsDIn_of_wpSIn Tryd.func49 rfl (by trivial) fun c₀ cs hu => ?_
  apply wpSIn_seq
  apply wpSIn_region
  simp [wpOpsSIn, go_sem, recoverD, hu, Tryd.ntmps49, Exit.thenS]
  refine wpSIn_of_wpIn rfl ?_
  simp only [Array.replicate_succ, Array.replicate_zero, List.push_toArray, List.append_toArray, List.nil_append, List.cons_append, List.setIfInBounds_toArray, List.set_cons_succ, List.set_cons_zero]
  have hta : ∀ w : World, (Instr.typeAssert (Value.iface 64 (.agg #[])) 20 64 true).run Tryd.prog w = .ok (.tuple #[.agg #[], .bool true]) w := semVal_run (by kernel_rfl)
  obtain ⟨h1, h2⟩ := box_at (heap_alloc_old (o' := .cells #[] 64) hc)
  gi_wp2
  exact ⟨rfl, _, rfl, .tuple #[], by simp [results, Tryd.results49, go_sem], rfl, rfl, rfl⟩
/-- guarded, over what its function does. -/
theorem guarded_calls {F : Nat} {caps : Array Value} {W : World} {Q : Bool → World → Prop} (heg : ∀ args w, (callFunc F args).run Tryd.prog w = .ok (.enter F args) w)
    (hF : Calls Tryd.prog F caps (W.alloc (.cells #[.bool false] 4)) fun e W2 => W2.heap[W.heap.size]? = some (.cells #[.bool false] 4 (0, 0)) ∧ (e = .returned (.tuple #[]) ∧ Q true W2 ∨ e = trapE ∧ Q false W2)) :
    Calls Tryd.prog 31 #[.func (.func F) #[] caps] W fun e W' => ∃ b W2, e = .returned (.bool b) ∧ Q b W2 ∧ W2.grownBy W' (some W.heap.size) := by
  refine callsIn_wide (n := 1).1 ?_
  have hmf : ∀ (fn : Fn) (first cap : Array Value) (w : World), (Instr.makeFunc fn first cap).run Tryd.prog w = .ok (.func fn first cap) w := fun _ _ _ _ => rfl
  have fin : ∀ (W2 : World) (b : Bool), W2.heap[W.heap.size]? = some (.cells #[.bool b] 4 (0, 0)) → ∀ b', W2.grownBy ((W2.alloc (.cells #[] 64)).setCell ⟨W.heap.size, 0, none⟩ (.bool b')) (some W.heap.size) ∧ ((W2.alloc (.cells #[] 64)).setCell ⟨W.heap.size, 0, none⟩ (.bool b')).cell? ⟨W.heap.size, 0, none⟩ = some (.bool b') := fun W2 b hb b' => by
    have h1 := heap_alloc_old (o' := .cells #[] 64) hb
    have h2 : ((W2.alloc (.cells #[] 64)).setCell ⟨W.heap.size, 0, none⟩ (.bool b')).heap[W.heap.size]? = some (.cells #[.bool b'] 4 (0, 0)) := by simp [World.setCell, Array.getElem?_modify, h1]
    refine ⟨⟨rfl, rfl, rfl, by simp [World.setCell], fun k hk hne => ?_⟩, (box_at h2).1⟩
    rw [Below.heap_setCell _ _ _ _ (fun e => hne (by rw [e])), Below.heap_alloc _ _ _ hk]
  simp only [trapE] at hF
  refine callsIn_of_wp_defers Tryd.func31 rfl trivial ?_ rfl
  simp only [Tryd.ntmps31, List.size_toArray, List.length_cons, List.length_nil, Nat.reduceAdd, Nat.reduceSub, Array.replicate_succ, Array.replicate_zero, List.push_toArray, List.append_toArray, List.nil_append, List.cons_append]
  gi_wp2_with (refine ⟨trivial, (callsIn_wide.2 hF).mono ?_⟩; rintro e W2 ⟨hb, ⟨rfl, hq⟩ | ⟨rfl, hq⟩⟩ <;> obtain ⟨c1, c2⟩ := box_at hb)
  · have hb' : (W2.setCell ⟨W.heap.size, 0, none⟩ (.bool true)).heap[W.heap.size]? = some (.cells #[.bool true] 4 (0, 0)) := by simp [World.setCell, Array.getElem?_modify, hb]
    refine leavesIn_cons (f := 49) (args := #[.pointer (some ⟨W.heap.size, 0, none⟩)]) (by simp) (by simp) (by simp [go_sem, invoke]) (by simp [Target.leads]; trivial) ?_
    refine (catch_idle _ true _ hb').mono ?_
    rintro e u' w'' ⟨rfl, rfl, rfl⟩
    obtain ⟨f1, f2⟩ := fin _ _ hb' true
    simp only [LeavesIn, settle]
    refine ⟨.bool true, by simp [results, Tryd.results31, go_sem, f2], true, W2, rfl, hq, ?_⟩
    exact ⟨f1.os, f1.tape, f1.output, by simp [World.setCell], fun k hk hne => by
      rw [f1.block k (by simpa [World.setCell] using hk) hne, Below.heap_setCell _ _ _ _ (fun e => hne (by rw [e]))]⟩
  · refine leavesIn_cons (f := 49) (args := #[.pointer (some ⟨W.heap.size, 0, none⟩)]) (by simp) (by simp) (by simp [go_sem, invoke]) (by simp [Target.leads]; trivial) ?_
    refine (catch_panicking _ false _ [] hb).mono ?_
    rintro e u' w'' ⟨rfl, rfl, rfl⟩
    obtain ⟨f1, f2⟩ := fin _ _ hb false
    simp only [settle]
    refine ⟨.bool false, by simp [results, Tryd.results31, go_sem, f2], false, W2, rfl, hq, f1⟩
/-- What lies outside S has not turned. -/
structure Kp (S : Nat → Prop) (W W' : World) : Prop where
  os : W'.os = W.os
  tape : W'.tape = W.tape
  output : W'.output = W.output
  size : W.heap.size ≤ W'.heap.size
  block : ∀ k, k < W.heap.size → ¬ S k → W'.heap[k]? = W.heap[k]?
theorem Kp.refl (S : Nat → Prop) (W : World) : Kp S W W := ⟨rfl, rfl, rfl, Nat.le_refl _, fun _ _ _ => rfl⟩
theorem Kp.trans {S : Nat → Prop} {A B C : World} (h : Kp S A B) (k : Kp S B C) : Kp S A C :=
  ⟨k.os.trans h.os, k.tape.trans h.tape, k.output.trans h.output, Nat.le_trans h.size k.size, fun i hl hi => (k.block i (Nat.lt_of_lt_of_le hl h.size) hi).trans (h.block i hl hi)⟩
theorem Kp.of_below {S : Nat → Prop} {A B : World} (h : Below A.heap.size A B) : Kp S A B := ⟨h.os, h.tape, h.output, h.size, fun k hl _ => h.block k hl⟩
theorem Kp.of_grown {S : Nat → Prop} {A B : World} {row : Option Nat} (h : A.grownBy B row) (hS : ∀ k, row = some k → S k) : Kp S A B := ⟨h.os, h.tape, h.output, h.size, fun k hl hk => h.block k hl fun e => hk (hS k e.symm)⟩
theorem Kp.setCell {S : Nat → Prop} {A W : World} (h : Kp S A W) {p : Addr} (hp : S p.block) (v : Value) : Kp S A (W.setCell p v) :=
  h.trans ⟨rfl, rfl, rfl, by simp [World.setCell], fun q hq hn => Below.heap_setCell _ _ _ _ (fun e => hn (by rw [e]; exact hp))⟩
theorem Kp.imp {S S' : Nat → Prop} {A B : World} (h : Kp S A B) (hS : ∀ k, k < A.heap.size → S k → S' k) : Kp S' A B := ⟨h.os, h.tape, h.output, h.size, fun k hl hk => h.block k hl fun e => hk (hS k hl e)⟩
theorem Kp.laid {S : Nat → Prop} {A B : World} (h : Kp S A B) (hS : ∀ g n fs, globF g globs = some (n, fs) → ¬ S g) (hL : LaidW A) : LaidW B := fun g n fs hg => by
  obtain ⟨h1, h2⟩ := hL g n fs hg
  refine ⟨Nat.lt_of_lt_of_le h1 h.size, fun i hi j f hf => ?_⟩
  rw [cell_of_block (h.block g h1 (hS g n fs hg))]
  exact h2 i hi j f hf
abbrev I6 := Int × Int × Int × Int × Int × Int
/-- The rows of instructions. -/
def InsAt (W : World) (A : Option Addr) (n : Nat) (I : Nat → I6) : Prop := ∀ i, i < n → ∃ ad, A = some ad ∧ ad.spot = none ∧ ∀ j v, (insV (I i))[j]? = some v → W.cell? ⟨ad.block, ad.off + (i * 6 + j), none⟩ = some v
noncomputable def runGo (w : Int) (I : Nat → I6) : Nat → Nat → List Tm → Option (Nat × Option (List Tm))
  | 0, k, L => some (k, some L)
  | m + 1, k, L => (stepP w (I k) L).bind fun r => match r with
    | none => some (k, none)
    | some L' => runGo w I m (k + 1) L'
def RunQ (r : Nat × Option (List Tm)) (B : Nat) (e : TypeId) (v : Value) (n ka : Nat) (ev : Ending) (W' : World) : Prop :=
  W'.heap[ka]? = some (.cells #[.int .i64 (r.1 : Int)] 3 (0, 0)) ∧ match r.2 with
  | some L' => ev = .returned (.tuple #[]) ∧ L'.length = n ∧ W'.ownsRow B e 1 v n (L'.map wv)
  | none => ev = trapE
theorem ownsRow_set {W : World} {B n sz : Nat} {e : TypeId} {A : Option Addr} {c : Nat} {xs : List Value} (h : W.ownsRow B e sz (.slice A n c) n xs) {a : Addr} {v : Value} (hA : ∀ ad, A = some ad → ad.block ≠ a.block) : (W.setCell a v).ownsRow B e sz (.slice A n c) n xs := by
  refine ⟨h.1, ?_⟩
  rcases h.2 with hn | ⟨g, cap, cur, hv, h1, hg, rest⟩
  · exact .inl hn
  · refine .inr ⟨g, cap, cur, hv, h1, ?_, rest⟩
    simp only [Value.slice.injEq] at hv
    rw [Below.heap_setCell _ _ _ _ (hA _ hv.1)]; exact hg
theorem cl_run {w : Int} {I : Nat → I6} {n : Nat} {L : List Tm} {r : Nat × Option (List Tm)} (hn : n ≤ 256) (h : runGo w I n 0 L = some r) {W : World} (hL : LaidW W) {B : Nat} {e : TypeId} {A Ai : Option Addr} {c ci ka kc ks : Nat} {regs : Value} {out : Value}
    (hr : W.ownsRow B e 1 (.slice A L.length c) L.length (L.map wv)) (hI : InsAt W Ai n I)
    (hka : W.heap[ka]? = some (.cells #[.int .i64 0] 3 (0, 0))) (hkc : W.heap[kc]? = some (.cells #[.int .i64 w, regs, .slice Ai n ci, out] 25 (0, 0))) (hks : W.heap[ks]? = some (.cells #[.slice A L.length c] 26 (0, 0)))
    (hS1 : ∀ g n fs, globF g globs = some (n, fs) → g ≠ ka ∧ ∀ ad, A = some ad → g ≠ ad.block) (hS2 : ∀ ad, A = some ad → ad.block ≠ ka ∧ ad.block ≠ kc ∧ ad.block ≠ ks) (hS3 : 0 < n → ∀ ad, Ai = some ad → ad.block ≠ ka ∧ ∀ ad', A = some ad' → ad.block ≠ ad'.block) (hS4 : kc ≠ ka ∧ ks ≠ ka) :
    Calls Tryd.prog 32 #[.pointer (some ⟨ka, 0, none⟩), .pointer (some ⟨kc, 0, none⟩), .pointer (some ⟨ks, 0, none⟩)] W fun ev W' => Kp (fun k => k = ka ∨ ∃ ad, A = some ad ∧ k = ad.block) W W' ∧ RunQ r B e (.slice A L.length c) L.length ka ev W' := by
  refine calls_of_wp Tryd.func32 rfl ?_
  simp only [Tryd.ntmps32, List.size_toArray, List.length_cons, List.length_nil, Nat.reduceAdd, Nat.reduceSub, Array.replicate_succ, Array.replicate_zero, List.push_toArray, List.append_toArray, List.nil_append, List.cons_append]
  go_wp2
  go_loopw [] (fun wr => ∃ (k : Nat) (L' : List Tm), k ≤ n ∧ runGo w I (n - k) k L' = some r ∧ L'.length = L.length ∧ Kp (fun k => k = ka ∨ ∃ ad, A = some ad ∧ k = ad.block) W wr ∧ wr.heap[ka]? = some (.cells #[.int .i64 (k : Int)] 3 (0, 0)) ∧ wr.ownsRow B e 1 (.slice A L.length c) L.length (L'.map wv))
    (fun wr => n - (match wr.cell? ⟨ka, 0, none⟩ with | some v => (intOf v).toNat | none => 0))
  case atStart =>
    exact ⟨0, L, Nat.zero_le _, h, rfl, Kp.refl _ _, hka, hr⟩
  case round =>
    obtain ⟨k, L', hk, hgo, hlen, hkp, hka', hrow⟩ := hrel
    obtain ⟨a1, a2⟩ := box_at hka'
    have hcc : ∀ (j : Nat) v, (#[.int .i64 w, regs, .slice Ai n ci, out] : Array Value)[j]? = some v → wr.cell? ⟨kc, j, none⟩ = some v := fun j v hv => by
      have : wr.heap[kc]? = W.heap[kc]? := hkp.block kc (Array.getElem?_eq_some_iff.1 hkc).1 (fun e => e.elim hS4.1 fun ⟨ad, h1, h2⟩ => (hS2 ad h1).2.1 h2.symm)
      simp only [World.cell?, this, hkc]; exact hv
    have c0 := hcc 0 _ rfl
    have c2 := hcc 2 _ rfl
    have s0 : wr.cell? ⟨ks, 0, none⟩ = some (.slice A L.length c) := by
      have : wr.heap[ks]? = W.heap[ks]? := hkp.block ks (Array.getElem?_eq_some_iff.1 hks).1 (fun e => e.elim hS4.2 fun ⟨ad, h1, h2⟩ => (hS2 ad h1).2.2 h2.symm)
      simp only [World.cell?, this, hks]; rfl
    have hLr : LaidW wr := hkp.laid (fun g m fs hg e => e.elim (hS1 g m fs hg).1 fun ⟨ad, h1, h2⟩ => (hS1 g m fs hg).2 ad h1 h2) hL
    by_cases hlt : k < n
    · obtain ⟨ad, hAi, hsp, hcells⟩ := hI k hlt
      obtain ⟨blk, off, sp⟩ := ad
      obtain rfl : sp = none := hsp
      subst hAi
      have hic : ∀ (j : Nat) v, (insV (I k))[j]? = some v → wr.cell? ⟨blk, off + (k * 6 + j), none⟩ = some v := fun j v hv => by
        have h1 := hcells j v hv
        rw [cell_of_block (hkp.block blk (cell_lt h1) (fun e => e.elim (hS3 (by omega) _ rfl).1 fun ⟨ad, h1, h2⟩ => (hS3 (by omega) _ rfl).2 ad h1 h2))]; exact h1
      have i0 : wr.cell? ⟨blk, off + k * 6, none⟩ = some (.int .i64 (I k).1) := hic 0 _ rfl
      have i1 : wr.cell? ⟨blk, off + k * 6 + 1, none⟩ = some (.int .i64 (I k).2.1) := hic 1 _ rfl
      have i2 : wr.cell? ⟨blk, off + k * 6 + 2, none⟩ = some (.int .i64 (I k).2.2.1) := hic 2 _ rfl
      have i3 : wr.cell? ⟨blk, off + k * 6 + 3, none⟩ = some (.int .i64 (I k).2.2.2.1) := hic 3 _ rfl
      have i4 : wr.cell? ⟨blk, off + k * 6 + 4, none⟩ = some (.int .i64 (I k).2.2.2.2.1) := hic 4 _ rfl
      have i5 : wr.cell? ⟨blk, off + k * 6 + 5, none⟩ = some (.int .u64 (I k).2.2.2.2.2) := hic 5 _ rfl
      obtain ⟨m, hm⟩ : ∃ m, n - k = m + 1 := ⟨n - k - 1, by omega⟩
      rw [hm, runGo] at hgo
      obtain ⟨q, hq, hgo⟩ := Option.bind_eq_some_iff.1 hgo
      have hbd : Below wr.heap.size wr { wr with drawn := wr.drawn + 1 } := (Below.refl _ _).drew
      have hstep := step_calls (B := B) (e := e) (A := A) (c := c) hq (hLr.below hbd) (by rw [hlen]; exact ownsRow_below hrow hbd)
      rw [hlen] at hstep
      unfold insV at hstep
      clear hcc hic hcells h hr hka hkc hks
      go_wp2
      have D : ∀ {a : Addr} {v : Value}, wr.cell? a = some v → ({ wr with drawn := wr.drawn + 1 } : World).cell? a = some v := fun h => h
      have da := D a1
      have dc0 := D c0
      have dc2 := D c2
      have ds := D s0
      have di0 := D i0
      have di1 := D i1
      have di2 := D i2
      have di3 := D i3
      have di4 := D i4
      have di5 := D i5
      go_still_tail 8, (by kernel_rfl)
      clear D da dc0 dc2 ds di0 di1 di2 di3 di4 di5
      generalize hw2 : ({ wr with drawn := wr.drawn + 1 } : World) = w2 at hstep hbd ⊢
      cases q with
      | none =>
        simp only [Option.some.injEq] at hgo
        subst hgo
        replace hstep : Calls Tryd.prog 33 _ w2 (fun ev W' => ev = .panicked [{ v := .iface 64 (.agg #[]), recovered := false }] ∧ Below w2.heap.size w2 W') := hstep
        have hk2 : Kp (fun k => k = ka ∨ ∃ ad, A = some ad ∧ k = ad.block) W w2 := hkp.trans (.of_below hbd)
        go_wp2_with (refine hstep.mono ?_; rintro ev W3 ⟨rfl, hb3⟩)
        have hka2 : w2.heap[ka]? = _ := (by rw [← hw2]; exact hka' : w2.heap[ka]? = some (.cells #[.int .i64 (k : Int)] 3 (0, 0)))
        exact ⟨rfl, hk2.trans (.of_below hb3), by rw [hb3.block _ (Array.getElem?_eq_some_iff.1 hka2).1]; exact hka2, rfl⟩
      | some L'' =>
        simp only at hgo
        replace hstep : Calls Tryd.prog 33 _ w2 (fun ev W' => ev = .returned (.tuple #[]) ∧ w2.grownBy W' (Value.slice A L.length c).ownBlock ∧ L''.length = L.length ∧ W'.ownsRow B e 1 (.slice A L.length c) L.length (L''.map wv)) := hstep
        have hk2 : Kp (fun k => k = ka ∨ ∃ ad, A = some ad ∧ k = ad.block) W w2 := hkp.trans (.of_below hbd)
        have hka2 : w2.heap[ka]? = some (.cells #[.int .i64 (k : Int)] 3 (0, 0)) := by rw [← hw2]; exact hka'
        have hob : ∀ W3, w2.grownBy W3 (Value.slice A L.length c).ownBlock → W3.heap[ka]? = some (.cells #[.int .i64 (k : Int)] 3 (0, 0)) ∧ Kp (fun k => k = ka ∨ ∃ ad, A = some ad ∧ k = ad.block) W W3 := fun W3 hgr => by
          refine ⟨?_, hk2.trans (.of_grown hgr fun q hq => ?_)⟩
          · rw [hgr.block ka (Array.getElem?_eq_some_iff.1 hka2).1 (fun e => ?_)]
            · exact hka2
            · cases A with
              | none => cases e
              | some ad => simp only [Value.ownBlock, Option.some.injEq] at e; exact (hS2 ad rfl).1 e.symm
          · cases A with
            | none => cases hq
            | some ad => simp only [Value.ownBlock, Option.some.injEq] at hq; exact .inr ⟨ad, rfl, hq.symm⟩
        clear hw2 hka2 hk2 hbd
        go_wp2_with (refine hstep.mono ?_; rintro ev W3 ⟨rfl, hgr, hl3, hr3⟩; obtain ⟨k3, kp3⟩ := hob W3 hgr; obtain ⟨q1, q2⟩ := box_at k3)
        have k4 : (W3.setCell ⟨ka, 0, none⟩ (.int .i64 ((k : Int) + 1))).heap[ka]? = some (.cells #[.int .i64 ((k : Int) + 1)] 3 (0, 0)) := by simp [World.setCell, Array.getElem?_modify, k3]
        go_roundw
        case rel =>
          refine ⟨k + 1, L'', hlt, by rw [show n - (k + 1) = m by omega]; exact hgo, hl3, kp3.setCell (.inl rfl) _, by rw [k4]; simp, ?_⟩
          exact ownsRow_set hr3 (fun ad had => (hS2 ad had).1)
        case measure =>
          rw [(box_at k4).1, a1]
          simp only [intOf]; omega
    · have hke : k = n := by omega
      subst hke
      rw [Nat.sub_self, runGo] at hgo
      cases hgo
      go_wp2
      go_end0
      exact ⟨hkp, hka', rfl, hlen, hrow⟩
abbrev CodeT := Int × Int × (Nat × (Nat → Int) × (Nat → Int) × (Nat → Int) × (Nat → Int) × (Nat → Int) × (Nat → Int)) × (Nat × (Nat → Int))
def insOf (c : CodeT) (i : Nat) : I6 := (c.2.2.1.2.1 i, c.2.2.1.2.2.1 i, c.2.2.1.2.2.2.1 i, c.2.2.1.2.2.2.2.1 i, c.2.2.1.2.2.2.2.2.1 i, c.2.2.1.2.2.2.2.2.2 i)
def insFs (c : CodeT) : List Fld := [.int .i64 c.2.2.1.2.1, .int .i64 c.2.2.1.2.2.1, .int .i64 c.2.2.1.2.2.2.1, .int .i64 c.2.2.1.2.2.2.2.1, .int .i64 c.2.2.1.2.2.2.2.2.1, .int .u64 c.2.2.1.2.2.2.2.2.2]
def codePs (c : CodeT) : List PA := [.val (.int .i64 c.1), .val (.int .i64 c.2.1), .rows c.2.2.1.1 (insFs c), .rows c.2.2.2.1 [.int .i64 c.2.2.2.2]]
def codeV (c : CodeT) (Ai : Option Addr) (ci : Nat) (Ao : Option Addr) (co : Nat) : Array Value := #[.int .i64 c.1, .int .i64 c.2.1, .slice Ai c.2.2.1.1 ci, .slice Ao c.2.2.2.1 co]
/-- The rows of a program. -/
structure CodeAt (W : World) (c : CodeT) (Ai : Option Addr) (ci : Nat) (Ao : Option Addr) (co : Nat) : Prop where
  ci : c.2.2.1.1 ≤ ci
  ai : RowsAt W 0 Ai c.2.2.1.1 (insFs c)
  co : c.2.2.2.1 ≤ co
  ao : RowsAt W 0 Ao c.2.2.2.1 [.int .i64 c.2.2.2.2]
theorem rowsAt_kp {S : Nat → Prop} {W W' : World} {A : Option Addr} {n : Nat} {fs : List Fld} (h : RowsAt W 0 A n fs) (hb : Kp S W W') (hS : ∀ ad, A = some ad → ad.block < W.heap.size → ¬ S ad.block) : RowsAt W' 0 A n fs := fun hn => by
  obtain ⟨ad, h1, h2, h3, h4, h5⟩ := h hn
  refine ⟨ad, h1, h2, h3, Nat.lt_of_lt_of_le h4 hb.size, fun i hi j g hg => ?_⟩
  rw [cell_of_block (hb.block _ h4 (hS ad h1 h4))]
  exact h5 i hi j g hg
theorem CodeAt.kp {S : Nat → Prop} {W W' : World} {c : CodeT} {Ai Ao : Option Addr} {ci co : Nat} (h : CodeAt W c Ai ci Ao co) (hb : Kp S W W') (hS : ∀ k, S k → W.heap.size ≤ k) : CodeAt W' c Ai ci Ao co :=
  ⟨h.ci, rowsAt_kp h.ai hb fun ad _ hl hs => absurd (hS _ hs) (by omega), h.co, rowsAt_kp h.ao hb fun ad _ hl hs => absurd (hS _ hs) (by omega)⟩
theorem code_arg {fz : Nat → Option Obj} {W : World} {c : CodeT} {x : Value} (h : AVRel fz W 0 x (.pk (codePs c))) : ∃ Ai ci Ao co, x = .agg (codeV c Ai ci Ao co) ∧ CodeAt W c Ai ci Ao co := by
  obtain ⟨cc, rfl, hl, hc⟩ := h
  obtain ⟨x0, e0, r0⟩ := hc 0 _ rfl
  obtain ⟨x1, e1, r1⟩ := hc 1 _ rfl
  obtain ⟨x2, e2, Ai, ci, r2, h2, h2'⟩ := hc 2 _ rfl
  obtain ⟨x3, e3, Ao, co, r3, h3, h3'⟩ := hc 3 _ rfl
  have r0' : x0 = _ := r0
  have r1' : x1 = _ := r1
  subst r0'; subst r1'; subst r2; subst r3
  refine ⟨Ai, ci, Ao, co, ?_, h2, h2', h3, h3'⟩
  congr 1
  apply Array.ext_getElem?
  intro i
  match i with
  | 0 => exact e0
  | 1 => exact e1
  | 2 => exact e2
  | 3 => exact e3
  | i + 4 => rw [Array.getElem?_eq_none (by rw [← hl]; simp [codePs])]; exact (Array.getElem?_eq_none (by simp [codeV])).symm
theorem CodeAt.rel {fz : Nat → Option Obj} {W : World} {c : CodeT} {Ai Ao : Option Addr} {ci co : Nat} (h : CodeAt W c Ai ci Ao co) : AVRel fz W 0 (.agg (codeV c Ai ci Ao co)) (.pk (codePs c)) := by
  refine ⟨_, rfl, rfl, fun i p hp => ?_⟩
  match i with
  | 0 => cases hp; exact ⟨_, rfl, rfl⟩
  | 1 => cases hp; exact ⟨_, rfl, rfl⟩
  | 2 => cases hp; exact ⟨_, rfl, Ai, ci, rfl, h.ci, h.ai⟩
  | 3 => cases hp; exact ⟨_, rfl, Ao, co, rfl, h.co, h.ao⟩
  | i + 4 => simp [codePs] at hp
theorem CodeAt.ins {W : World} {c : CodeT} {Ai Ao : Option Addr} {ci co : Nat} (h : CodeAt W c Ai ci Ao co) : InsAt W Ai c.2.2.1.1 (insOf c) := fun i hi => by
  obtain ⟨ad, h1, h2, _, h4, h5⟩ := h.ai (by omega)
  refine ⟨ad, h1, h2, fun j v hv => ?_⟩
  match j with
  | 0 => cases hv; exact h5 i hi 0 _ rfl
  | 1 => cases hv; exact h5 i hi 1 _ rfl
  | 2 => cases hv; exact h5 i hi 2 _ rfl
  | 3 => cases hv; exact h5 i hi 3 _ rfl
  | 4 => cases hv; exact h5 i hi 4 _ rfl
  | 5 => cases hv; exact h5 i hi 5 _ rfl
  | j + 6 => simp [insV] at hv
theorem check_calls {c : CodeT} {r : Int × Int} (h : isa_Check.f c = some r) {W : World} (hL : LaidW W) {Ai Ao : Option Addr} {ci co : Nat} (hc : CodeAt W c Ai ci Ao co) :
    Calls Tryd.prog 29 #[.agg (codeV c Ai ci Ao co)] W fun e W' => e = .returned (.tuple #[.int .i64 r.1, .int .i64 r.2]) ∧ Below W.heap.size W W' := by
  have hC := isa_Check.con (c, ()) r h (fun _ => none) W #[.agg (codeV c Ai ci Ao co)] (fun k o hk => by cases hk) hL ⟨rfl, fun q av hi => by
    match q with
    | 0 => cases hi; exact ⟨_, rfl, hc.rel⟩
    | q + 1 => simp [isa_Check.a, ACods.cons, ACods.nil] at hi⟩
  refine (CallOk2.calls1 (fn := Tryd.f29) (by kernel_rfl) (by kernel_rfl) (by kernel_rfl) hC).mono fun e W' hq => ?_
  rcases hq with ⟨x, he, hb, fz', h1, h2, h3⟩ | ⟨x, he, h3, hb⟩
  · have h3' : x = _ := h3
    subst h3'
    exact ⟨he, hb⟩
  · cases h3
theorem gsl_row {fz : Nat → Option Obj} {W : World} {B : Nat} {x : Value} {e : TypeId} {L : List Tm} (h : GslAt fz W B x e 0 L) : ∃ A c, x = .slice A L.length c ∧ W.ownsRow B e 1 (.slice A L.length c) L.length (L.map wv) := by
  obtain ⟨A, c, xs, rfl, hr, ht, _⟩ := h
  have : xs = L.map wv := by
    apply List.ext_getElem?
    intro i
    rw [List.getElem?_map]
    cases hi : L[i]? with
    | none =>
      have := List.getElem?_eq_none_iff.1 hi
      rw [Option.map_none, List.getElem?_eq_none]
      rw [hr.1]; omega
    | some t =>
      have h1 := ht i t hi
      unfold TmAt at h1
      have h2 : xs[i * 1 + 0]? = some (.int .u64 t.x) := h1
      rw [Nat.mul_one, Nat.add_zero] at h2
      exact h2
  subst this
  exact ⟨A, c, rfl, hr⟩
theorem words_calls {w n : Int} {L L' : List Tm} (h : exec_words.f w n L = some L') {W : World} (hL : LaidW W) {fz : Nat → Option Obj} (hfz : FzW fz W) {A : Option Addr} {c : Nat} (hk : KidsAt fz 0 A 0 L) :
    Calls Tryd.prog 30 #[.int .i64 w, .int .i64 n, .slice A L.length c] W fun e W' => ∃ A' c', e = .returned (.slice A' L'.length c') ∧ Below W.heap.size W W' ∧ W'.ownsRow W.heap.size 45 1 (.slice A' L'.length c') L'.length (L'.map wv) := by
  have hC := exec_words.con (w, n, L, ()) L' h fz W #[.int .i64 w, .int .i64 n, .slice A L.length c] hfz hL ⟨rfl, fun q av hi => by
    match q with
    | 0 => cases hi; exact ⟨_, rfl, rfl⟩
    | 1 => cases hi; exact ⟨_, rfl, rfl⟩
    | 2 => cases hi; exact ⟨_, rfl, A, c, rfl, hk⟩
    | q + 3 => simp [exec_words.a, ACods.cons, ACods.nil] at hi⟩
  refine (CallOk2.calls1 (fn := Tryd.f30) (by kernel_rfl) (by kernel_rfl) (by kernel_rfl) hC).mono fun e W' hq => ?_
  rcases hq with ⟨x, he, hb, fz', h1, h2, h3⟩ | ⟨x, he, h3, hb⟩
  · obtain ⟨A', c', rfl, hr⟩ := gsl_row h3
    exact ⟨A', c', he, hb, hr⟩
  · cases h3
/-- What Run returns. -/
noncomputable def exec_Run.f (c : CodeT) (regs : List Tm) : Option (List Tm × Int × Int) :=
  (isa_Check.f c).bind fun r => bif r.2 != 0 then some ([], r.1, r.2) else
  bif Nat.ble c.2.2.1.1 256 then
    (exec_words.f c.1 c.2.1 regs).bind fun L => (runGo c.1 (insOf c) c.2.2.1.1 0 L).bind fun q => match q.2 with
      | none => some ([], (q.1 : Int), 17)
      | some L' => some (L', 0, 0)
  else none
theorem run_calls {c : CodeT} {regs : List Tm} {r : List Tm × Int × Int} (h : exec_Run.f c regs = some r) {W : World} (hL : LaidW W) {fz : Nat → Option Obj} (hfz : FzW fz W) {A : Option Addr} {cc : Nat} (hk : KidsAt fz 0 A 0 regs) {Ai Ao : Option Addr} {ci co : Nat} (hc : CodeAt W c Ai ci Ao co) :
    Calls Tryd.prog 12 #[.agg (codeV c Ai ci Ao co), .slice A regs.length cc] W fun e W' => ∃ A' c', e = .returned (.tuple #[.slice A' r.1.length c', .int .i64 r.2.1, .int .i64 r.2.2]) ∧ Below W.heap.size W W' ∧ W'.ownsRow W.heap.size 45 1 (.slice A' r.1.length c') r.1.length (r.1.map wv) := by
  unfold exec_Run.f at h
  obtain ⟨⟨at0, er⟩, hck, h⟩ := Option.bind_eq_some_iff.1 h
  refine calls_of_wp Tryd.func12 rfl ?_
  simp only [Tryd.ntmps12, List.size_toArray, List.length_cons, List.length_nil, Nat.reduceAdd, Nat.reduceSub, Array.replicate_succ, Array.replicate_zero, List.push_toArray, List.append_toArray, List.nil_append, List.cons_append]
  have hB1 : Below W.heap.size W (W.alloc (Obj.cells (codeV c Ai ci Ao co) 25)) := (Below.refl _ _).alloc (Nat.le_refl _) _
  have hcell : ∀ W', Below (W.alloc (Obj.cells (codeV c Ai ci Ao co) 25)).heap.size (W.alloc (Obj.cells (codeV c Ai ci Ao co) 25)) W' → W'.heap[W.heap.size]? = some (.cells (codeV c Ai ci Ao co) 25 (0, 0)) := fun W' hb' => by
    rw [hb'.block _ (by simp), heap_alloc_new]
  have hcalls := check_calls hck (hL.below hB1) (hc.kp (Kp.of_below (S := fun _ => False) hB1) (fun k hk => hk.elim))
  cases hz : er != 0 with
  | true =>
    rw [hz] at h
    simp only [cond_true, Option.some.injEq] at h
    subst h
    have hz' : er ≠ 0 := by simpa using hz
    clear hck hcell hz
    unfold codeV at hcalls hB1 ⊢
    go_wp2_with (refine hcalls.mono ?_; rintro e W2 ⟨rfl, hb2⟩)
    exact ⟨rfl, .tuple #[.slice none 0 0, .int .i64 at0, .int .i64 er], by simp [results, Tryd.results12, go_sem], none, 0, rfl, hB1.trans (hb2.mono hB1.size), World.ownsRow_nil _ _ _ _⟩
  | false =>
    rw [hz] at h
    simp only [cond_false] at h
    have hz' : er = 0 := by simpa using hz
    subst hz'
    obtain ⟨hn, h⟩ := bif_some h
    rw [Nat.ble_eq] at hn
    obtain ⟨L, hw, h⟩ := Option.bind_eq_some_iff.1 h
    obtain ⟨q, hq, h⟩ := Option.bind_eq_some_iff.1 h
    have hwc : ∀ W', Below (W.alloc (Obj.cells (codeV c Ai ci Ao co) 25)).heap.size (W.alloc (Obj.cells (codeV c Ai ci Ao co) 25)) W' → _ := fun W' hb' => words_calls (c := cc) hw (hL.below (hB1.trans (hb'.mono hB1.size))) (fz := fz) (fun k o hk => by rw [(hB1.trans (hb'.mono hB1.size)).block k (Array.getElem?_eq_some_iff.1 (hfz k o hk)).1]; exact hfz k o hk) hk
    have hcl : ∀ W', Below (W.alloc (Obj.cells (codeV c Ai ci Ao co) 25)).heap.size (W.alloc (Obj.cells (codeV c Ai ci Ao co) 25)) W' → W'.cell? ⟨W.heap.size, 0, none⟩ = some (.int .i64 c.1) ∧ W'.cell? ⟨W.heap.size, 1, none⟩ = some (.int .i64 c.2.1) := fun W' hb' => by
      have := hcell W' hb'
      constructor <;> (simp only [World.cell?, this]; rfl)
    clear hck hz hw
    unfold codeV at hcalls hB1 hwc hcl ⊢
    go_wp2_with (first
      | (refine hcalls.mono ?_; rintro e W2 ⟨rfl, hb2⟩; obtain ⟨c0, c1⟩ := hcl W2 hb2)
      | (refine (hwc _ hb2).mono ?_; rintro e W3 ⟨A', c', rfl, hb3, hr3⟩))
    have hB3 : Below W.heap.size W W3 := (hB1.trans (hb2.mono hB1.size)).trans (hb3.mono (Nat.le_trans hB1.size hb2.size))
    obtain ⟨W6, hW6⟩ : ∃ W6, W6 = ((W3.alloc (Obj.cells #[Value.slice A' L.length c'] 26)).alloc (Obj.cells #[Value.int IntKind.i64 0] 3)).alloc (.cells #[.bool false] 4) := ⟨_, rfl⟩
    have hB36 : Below W3.heap.size W3 W6 := by rw [hW6]; exact (((Below.refl _ _).alloc (Nat.le_refl _) _).alloc (by simp) _).alloc (by simp; omega) _
    have hB6 : Below W.heap.size W W6 := hB3.trans (hB36.mono hB3.size)
    have hs1 : (W.alloc (Obj.cells (codeV c Ai ci Ao co) 25)).heap.size = W.heap.size + 1 := by simp
    have hs2 : W.heap.size + 1 ≤ W2.heap.size := by rw [← hs1]; exact hb2.size
    have hs3 : W2.heap.size ≤ W3.heap.size := hb3.size
    have hkc : W6.heap[W.heap.size]? = some (.cells (codeV c Ai ci Ao co) 25 (0, 0)) := by rw [hB36.block _ (by omega), hb3.block _ (by omega)]; exact hcell W2 hb2
    have hks : W6.heap[W3.heap.size]? = some (.cells #[.slice A' L.length c'] 26 (0, 0)) := by
      rw [hW6, Below.heap_alloc _ _ _ (by simp; omega), Below.heap_alloc _ _ _ (by simp), heap_alloc_new]
    have hka : W6.heap[W3.heap.size + 1]? = some (.cells #[.int .i64 0] 3 (0, 0)) := by
      rw [hW6, Below.heap_alloc _ _ _ (by simp)]
      have := heap_alloc_new (W3.alloc (Obj.cells #[Value.slice A' L.length c'] 26)) (Obj.cells #[Value.int IntKind.i64 0] 3)
      rwa [World.size_alloc] at this
    have hkb : W6.heap[W3.heap.size + 2]? = some (.cells #[.bool false] 4 (0, 0)) := by
      rw [hW6]
      have := heap_alloc_new ((W3.alloc (Obj.cells #[Value.slice A' L.length c'] 26)).alloc (Obj.cells #[Value.int IntKind.i64 0] 3)) (.cells #[.bool false] 4)
      simp only [World.size_alloc] at this
      exact this
    have hA' : ∀ ad, A' = some ad → W2.heap.size ≤ ad.block ∧ ad.block < W3.heap.size := fun ad had => hr3.lt ad.block (by rw [had]; rfl)
    have hcl6 := cl_run (w := c.1) (I := insOf c) (n := c.2.2.1.1) hn hq (hL.below hB6) (ka := W3.heap.size + 1) (kc := W.heap.size) (ks := W3.heap.size) (ownsRow_below hr3 hB36) ((hc.kp (Kp.of_below (S := fun _ => False) hB6) (fun k hk => hk.elim)).ins) hka hkc hks
      (fun g m fs hg => ⟨by have := (hL g m fs hg).1; omega, fun ad had => by have := (hL g m fs hg).1; have := hA' ad had; omega⟩)
      (fun ad had => by have := hA' ad had; exact ⟨by omega, by omega, by omega⟩)
      (fun h0 ad had => by
        obtain ⟨ad', h1, _, _, h4, _⟩ := hc.ai h0
        rw [had] at h1; cases h1
        exact ⟨by omega, fun ad'' h2 => by have := hA' ad'' h2; omega⟩) ⟨by omega, by omega⟩
    rw [hW6] at hcl6
    refine (guarded_calls (F := 32) (Q := fun b W7 => Kp (fun k => k = W3.heap.size + 1 ∨ ∃ ad, A' = some ad ∧ k = ad.block) W6 W7 ∧ W7.heap[W3.heap.size + 1]? = some (.cells #[.int .i64 (q.1 : Int)] 3 (0, 0)) ∧
      match q.2 with
      | some L' => b = true ∧ L'.length = L.length ∧ W7.ownsRow W2.heap.size 45 1 (.slice A' L.length c') L.length (L'.map wv)
      | none => b = false) (enters_of Tryd.func32 (by kernel_rfl) rfl) (hcl6.mono fun e W7 hq7 => ?_)).mono ?_
    · rw [← hW6] at hq7
      obtain ⟨k1, a1, m1⟩ := hq7
      refine ⟨?_, ?_⟩
      · simp only [World.size_alloc]
        rw [k1.block _ (Array.getElem?_eq_some_iff.1 hkb).1 (fun e => e.elim (by omega) fun ⟨ad, h1, h2⟩ => by have := hA' ad h1; omega)]
        exact hkb
      · cases hq2 : q.2 with
        | some L' => rw [hq2] at m1; exact .inl ⟨m1.1, k1, a1, rfl, m1.2⟩
        | none => rw [hq2] at m1; exact .inr ⟨m1, k1, a1, rfl⟩
    · rintro e W8 ⟨b, W7, rfl, ⟨hk7, ha7, hm7⟩, hg8⟩
      simp only [World.size_alloc] at hg8
      have a8 : W8.heap[W3.heap.size + 1]? = some (.cells #[.int .i64 (q.1 : Int)] 3 (0, 0)) := by rw [hg8.block _ (Array.getElem?_eq_some_iff.1 ha7).1 (by simp)]; exact ha7
      have ks7 : W7.heap[W3.heap.size]? = some (.cells #[.slice A' L.length c'] 26 (0, 0)) := by
        rw [hk7.block _ (Array.getElem?_eq_some_iff.1 hks).1 (fun e => e.elim (by omega) fun ⟨ad, h1, h2⟩ => by have := hA' ad h1; omega)]; exact hks
      have ks8 : W8.heap[W3.heap.size]? = some (.cells #[.slice A' L.length c'] 26 (0, 0)) := by rw [hg8.block _ (Array.getElem?_eq_some_iff.1 ks7).1 (by simp; omega)]; exact ks7
      have hB8 : Below W.heap.size W W8 := by
        refine ⟨hg8.os.trans (hk7.os.trans hB6.os), hg8.tape.trans (hk7.tape.trans hB6.tape), hg8.output.trans (hk7.output.trans hB6.output), Nat.le_trans hB6.size (Nat.le_trans hk7.size hg8.size), fun k hk => ?_⟩
        rw [hg8.block k (by have := hB6.size; have := hk7.size; omega) (by simp; omega), hk7.block k (by have := hB6.size; omega) (fun e => e.elim (by omega) fun ⟨ad, h1, h2⟩ => by have := hA' ad h1; omega), hB6.block k hk]
      obtain ⟨p1, p2⟩ := box_at a8
      obtain ⟨p3, p4⟩ := box_at ks8
      clear hcalls hcell hwc hcl hka hkc hks hkb hcl6 hW6 hB36 hB6 ks7 a8 ks8
      cases hq2 : q.2 with
      | some L' =>
        rw [hq2] at hm7 h
        obtain ⟨rfl, hl7, hr7⟩ := hm7
        simp only [Option.some.injEq] at h
        subst h
        have hr8 : W8.ownsRow W.heap.size 45 1 (.slice A' L.length c') L.length (L'.map wv) := by
          refine ⟨hr7.1, ?_⟩
          rcases hr7.2 with hn | ⟨g, cap, cur, hv, h1, hg, rest⟩
          · exact .inl hn
          · refine .inr ⟨g, cap, cur, hv, by omega, ?_, rest⟩
            simp only [Value.slice.injEq] at hv
            have := hA' _ hv.1
            rw [hg8.block g (Array.getElem?_eq_some_iff.1 hg).1 (by simp; simp only at this; omega)]; exact hg
        clear hg8 hk7 ha7 hr7 hn hq
        go_wp2
        exact ⟨rfl, .tuple #[.slice A' L.length c', .int .i64 0, .int .i64 0], by simp [results, Tryd.results12, go_sem], A', c', by simp [hl7], hB8, by simpa [hl7] using hr8⟩
      | none =>
        rw [hq2] at hm7 h
        subst hm7
        simp only [Option.some.injEq] at h
        subst h
        clear hg8 hk7 ha7 hn hq
        go_wp2
        have p1' : ({ W8 with drawn := W8.drawn + 1 } : World).cell? ⟨W3.heap.size + 1, 0, none⟩ = some (.int .i64 (q.1 : Int)) := p1
        go_region
        all_goals go_wp2
        all_goals exact ⟨rfl, .tuple #[.slice none 0 0, .int .i64 (q.1 : Int), .int .i64 17], by simp [results, Tryd.results12, go_sem], none, 0, rfl, hB8.trans ((Below.refl _ _).drew), World.ownsRow_nil _ _ _ _⟩
theorem ownsRow_base {W : World} {B B' n sz : Nat} {e : TypeId} {v : Value} {xs : List Value} (h : W.ownsRow B e sz v n xs) (hb : B' ≤ B) : W.ownsRow B' e sz v n xs := by
  refine ⟨h.1, ?_⟩
  rcases h.2 with hn | ⟨g, cap, cur, hv, h1, rest⟩
  · exact .inl hn
  · exact .inr ⟨g, cap, cur, hv, Nat.le_trans hb h1, rest⟩
theorem fz_below {fz : Nat → Option Obj} {W W' : World} (h : FzW fz W) (hb : Below W.heap.size W W') : FzW fz W' := fun k o hk => by rw [hb.block k (Array.getElem?_eq_some_iff.1 (h k o hk)).1]; exact h k o hk
theorem freeze_row {fz : Nat → Option Obj} {W : World} {B B' : Nat} {A : Option Addr} {c : Nat} {L : List Tm} (hfz : FzW fz W) (hr : W.ownsRow B' 45 1 (.slice A L.length c) L.length (L.map wv)) (hnew : ∀ ad, A = some ad → fz ad.block = none ∧ B ≤ ad.block) :
    ∃ fz', FzW fz' W ∧ FzNew fz fz' B ∧ KidsAt fz' 0 A 0 L ∧ ∀ k, (∀ ad, A = some ad → k ≠ ad.block) → fz' k = fz k := by
  rcases hr.2 with ⟨hv, h0⟩ | ⟨g, cap, cur, hv, hB, hg, hnc, hcm, hcs, htk⟩
  · have : L = [] := List.length_eq_zero_iff.1 h0
    subst this
    exact ⟨fz, hfz, ⟨fun _ _ h => h, fun _ _ h => .inl h⟩, KidsAt.nil, fun _ _ => rfl⟩
  · simp only [Value.slice.injEq] at hv
    obtain ⟨h1, h2⟩ := hnew _ hv.1
    simp only at h1 h2
    have hle : leF fz (fun k => if k = g then W.heap[g]? else fz k) := fun k o hk => by
      show (if k = g then W.heap[g]? else fz k) = some o
      split
      · rename_i e; subst e; rw [h1] at hk; cases hk
      · exact hk
    refine ⟨fun k => if k = g then W.heap[g]? else fz k, fun k o hk => ?_, ⟨hle, fun k o hk => ?_⟩, KidsAt.of_row hv.1 L 0 fun j t hj => ?_, fun k hk => ?_⟩
    · simp only at hk
      split at hk
      · rename_i e; subst e; exact hk
      · exact hfz k o hk
    · simp only at hk
      split at hk
      · rename_i e; subst e; exact .inr h2
      · exact .inl hk
    · unfold TmAt
      have h1 : (L.map wv)[j]? = some (wv t) := by rw [List.getElem?_map, hj]; rfl
      rw [← htk, List.getElem?_take] at h1
      split at h1
      · rw [Array.getElem?_toList] at h1
        unfold fzCell
        simp only [if_pos, hg]
        simpa [wv] using h1
      · cases h1
    · show (if k = g then W.heap[g]? else fz k) = fz k
      rw [if_neg (hk _ hv.1)]
theorem CallOk2.of_calls {P : Program} {f : FuncId} {fn : Func} {args : Array Value} {w : World} {R R' : Value → World → Prop} (hf : P.funcs[f]? = some fn) (hname : (fn.name == "runtime.NumGoroutine") = false) (hb : fn.body.isNone = false)
    (h : Calls P f args w fun e w'' => (∃ x, e = .returned x ∧ R x w'') ∨ ∃ v, e = .panicked [{ v := v, recovered := false }] ∧ R' v w'') : CallOk2 P f args w R R' := by
  have hcall : (callFunc f args).run P w = .ok (.enter f args) w := by
    unfold callFunc
    simp only [Sem.run_bind, run_program, Result.andThen_ok, hf, hname, hb, Bool.false_eq_true, if_false, Sem.run_pure]
  unfold CallOk2
  rw [hcall]
  exact ⟨rfl, h⟩
theorem args2 {args : Array Value} {x y : Value} (h0 : args[0]? = some x) (h1 : args[1]? = some y) (hs : args.size = 2) : args = #[x, y] := by
  apply Array.ext_getElem?
  intro i
  match i with
  | 0 => exact h0
  | 1 => exact h1
  | i + 2 => rw [Array.getElem?_eq_none (by omega)]; exact (Array.getElem?_eq_none (by simp)).symm
theorem args3 {args : Array Value} {x y z : Value} (h0 : args[0]? = some x) (h1 : args[1]? = some y) (h2 : args[2]? = some z) (hs : args.size = 3) : args = #[x, y, z] := by
  apply Array.ext_getElem?
  intro i
  match i with
  | 0 => exact h0
  | 1 => exact h1
  | 2 => exact h2
  | i + 3 => rw [Array.getElem?_eq_none (by omega)]; exact (Array.getElem?_eq_none (by simp)).symm
theorem fz_new {fz : Nat → Option Obj} {W W' : World} {A : Option Addr} {c : Nat} {L : List Tm} (hfz : FzW fz W) (hb : Below W.heap.size W W') (hr : W'.ownsRow W.heap.size 45 1 (.slice A L.length c) L.length (L.map wv)) : ∃ fz', FzW fz' W' ∧ FzNew fz fz' W.heap.size ∧ KidsAt fz' 0 A 0 L := by
  obtain ⟨fz', f1, f2, f3, _⟩ := freeze_row (B := W.heap.size) (fz_below hfz hb) hr (fun ad had => by
    have := (hr.lt ad.block (by rw [had]; rfl)).1
    refine ⟨?_, this⟩
    cases hq : fz ad.block with
    | none => rfl
    | some o => have := (Array.getElem?_eq_some_iff.1 (hfz _ o hq)).1; omega)
  exact ⟨fz', f1, f2, f3⟩
def exec_Run.a : ACods ((Int × Int × (Nat × (Nat → Int) × (Nat → Int) × (Nat → Int) × (Nat → Int) × (Nat → Int) × (Nat → Int)) × (Nat × (Nat → Int))) × List Tm × Unit) := (.cons (.pk (.cons (.val (.int .i64)) (.cons (.val (.int .i64)) (.cons (.rows (.int .i64 (.int .i64 (.int .i64 (.int .i64 (.int .i64 (.int1 .u64))))))) (.one (.rows (.int1 .i64))))))) (.cons (.tms 0) .nil))
def exec_Run.r : RCod (List Tm × Int × Int) := .tup (.cons (.tms 0) (.cons (.val (.int .i64)) (.one (.val (.int .i64)))))
noncomputable def exec_Run.cs : List (Kn Tryd.prog) := [exec_value.c, exec_words.c, isa_Check.c, isa_Def.c]
theorem exec_Run.con (a : (Int × Int × (Nat × (Nat → Int) × (Nat → Int) × (Nat → Int) × (Nat → Int) × (Nat → Int) × (Nat → Int)) × (Nat × (Nat → Int))) × List Tm × Unit) (r : List Tm × Int × Int) (h : exec_Run.f a.1 a.2.1 = some r) : Contract Tryd.prog 12 (exec_Run.a.enc a) (exec_Run.r.enc r) := fun fz w args hfz hL hA => by
  obtain ⟨c, regs, u⟩ := a
  obtain ⟨hsz, hrel⟩ := hA
  obtain ⟨x0, e0, r0⟩ := hrel 0 _ rfl
  obtain ⟨x1, e1, r1⟩ := hrel 1 _ rfl
  obtain ⟨Ai, ci, Ao, co, rfl, hc⟩ := code_arg r0
  obtain ⟨A, cc, rfl, hk⟩ := r1
  obtain rfl := args2 e0 e1 hsz.symm
  refine CallOk2.of_calls (fn := Tryd.f12) (by kernel_rfl) (by kernel_rfl) (by kernel_rfl) ((run_calls (c := c) (regs := regs) h hL hfz hk hc).mono fun e W' hq => ?_)
  obtain ⟨A', c', he, hb, hrow⟩ := hq
  obtain ⟨fz', f1, f2, f3⟩ := fz_new hfz hb hrow
  refine .inl ⟨_, he, hb, fz', f1, f2, _, rfl, rfl, fun i p hp => ?_⟩
  match i with
  | 0 => cases hp; exact ⟨_, rfl, A', c', rfl, f3⟩
  | 1 => cases hp; exact ⟨_, rfl, rfl⟩
  | 2 => cases hp; exact ⟨_, rfl, rfl⟩
  | i + 3 => simp [exec_Run.r, RCod.tup, TCods.cons, TCods.one] at hp
noncomputable def exec_Run.c : Kn Tryd.prog := Kn.of 12 exec_Run.a exec_Run.r (fun a => exec_Run.f a.1 a.2.1) exec_Run.con
end Go.Proofs.YtkmehmlcccdnbaaDoor.Fn
