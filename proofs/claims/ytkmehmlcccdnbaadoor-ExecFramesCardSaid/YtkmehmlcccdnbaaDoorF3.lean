/- What the functions return, as the evaluator tells it: written by a program of this workplace (mev.py); Lean checks each equation. -/
import Derived.WalkKit
import Derived.OwnWalkIn
import Derived.TacticsInMore
import Derived.LoopNIn
import Derived.LoopIn
import Derived.RegionTactic
import Derived.RecoverIn
import Derived.StillTailTactics
import Derived.DefersIn
import Derived.RegionIn
import Derived.Shelf.Abstract
import Derived.Shelf.RegionOpen
import Derived.Maps.AppendAt
import Derived.Test.YtkmehmlcccdnbaaDoorProg
import Derived.Test.YtkmehmlcccdnbaaDoorEvC
import Derived.Test.YtkmehmlcccdnbaaDoorF0
import Derived.Test.YtkmehmlcccdnbaaDoorF2
namespace Go.Proofs.YtkmehmlcccdnbaaDoor.Fn
open Go Go.RowKit Go.Proofs.YtkmehmlcccdnbaaDoor.Ev Go.Proofs
set_option linter.unusedVariables false
set_option maxRecDepth 100000
/-! ### exec_Step: function 24 -/
open Go.Shelf
set_option linter.unusedSimpArgs false
attribute [local go_sem] Oper.semAt_some
theorem run_mx {P : Program} {w : World} (ts : Array TypeId) (t : TypeId) (k k' : IntKind) (x y : Int) : (Builtin.max_ ts t #[.int k x, .int k' y]).run P w = .ok (.int k (mx x y)) w := by rw [run_max_int2]; rfl
theorem run_mn {P : Program} {w : World} (ts : Array TypeId) (t : TypeId) (k k' : IntKind) (x y : Int) : (Builtin.min_ ts t #[.int k x, .int k' y]).run P w = .ok (.int k (mn x y)) w := by rw [run_min_int2]; rfl
attribute [local go_sem high] run_mx run_mn
/-- The instruction with the fields that it uses. -/
def jOf (s : Nat) (i : I6) : I6 := (i.1, i.2.1, if 0 < s then i.2.2.1 else 0, if 1 < s then i.2.2.2.1 else 0, if 2 < s then i.2.2.2.2.1 else 0, i.2.2.2.2.2)
def lOf (s : Nat) (i : I6) (d : Int × Bool) : List Int := usesL s i ++ (bif d.2 then [d.1] else [])
def regOk (n : Nat) (r : Int) : Bool := decide (0 ≤ r) && decide (r < n)
noncomputable def exec_Step.f (w : Int) (i : I6) (regs : List Tm) : Option (List Tm × Int) :=
  (isa_Sources.f i.1).bind fun s => bif decide (s < 0) then some ([], 4) else
  bif decide (s ≤ 3) then
    (exec_words.f (mn (mx w 1) 64) (mn regs.length 8) regs).bind fun L => (isa_Def.f i).bind fun d =>
    bif (lOf s.toNat i d).all (regOk L.length) then
      (stepP (mn (mx w 1) 64) (jOf s.toNat i) L).bind fun q => match q with
      | none => some ([], 17)
      | some L' => some (L', 0)
    else some ([], 18)
  else none
theorem row_slice {W : World} {B n sz : Nat} {e : TypeId} {v : Value} {xs : List Value} (h : W.ownsRow B e sz v n xs) : ∃ A c, v = .slice A n c := by
  rcases h.2 with ⟨hv, h0⟩ | ⟨g, cap, cur, hv, _⟩
  · exact ⟨none, 0, by rw [hv, h0]⟩
  · exact ⟨_, _, hv⟩
theorem info3 : ∃ i, Tryd.prog.info? 3 = some i ∧ i.zero = some (.int .i64 0) ∧ i.size = 1 ∧ i.bytes = 8 := info_of (by kernel_rfl) (by kernel_rfl) (by kernel_rfl) (by kernel_rfl)
def GQ (q : Option (List Tm)) (B : Nat) (A : Option Addr) (c n : Nat) (b : Bool) (W' : World) : Prop :=
  match q with
  | some L'' => b = true ∧ L''.length = n ∧ W'.ownsRow B 45 1 (.slice A n c) n (L''.map wv)
  | none => b = false
theorem guard_step {w : Int} {i : I6} {L : List Tm} {q : Option (List Tm)} (hq : stepP w i L = some q) {wr W10 : World} (hb : Below wr.heap.size wr W10) (hL : LaidW wr) {B : Nat} {A : Option Addr} {c kw kj ks : Nat}
    (hr : wr.ownsRow B 45 1 (.slice A L.length c) L.length (L.map wv)) (hkw : wr.heap[kw]? = some (.cells #[.int .i64 w] 3 (0, 0))) (hks : wr.heap[ks]? = some (.cells #[.slice A L.length c] 26 (0, 0))) (hkj : W10.heap[kj]? = some (.cells (insV i) 47 (0, 0))) :
    Calls Tryd.prog 31 #[.func (.func 41) #[] #[.pointer (some ⟨kw, 0, none⟩), .pointer (some ⟨kj, 0, none⟩), .pointer (some ⟨ks, 0, none⟩)]] W10 fun e W' => ∃ b, e = .returned (.bool b) ∧ Kp (fun k => ∃ ad, A = some ad ∧ k = ad.block) wr W' ∧ GQ q B A c L.length b W' := by
  have hA : ∀ ad, A = some ad → ad.block < wr.heap.size := fun ad had => (hr.lt ad.block (by rw [had]; rfl)).2
  have hs : wr.heap.size ≤ W10.heap.size := hb.size
  have hB6 : Below wr.heap.size wr (W10.alloc (.cells #[.bool false] 4)) := hb.alloc hs _
  have hkb : (W10.alloc (.cells #[.bool false] 4)).heap[W10.heap.size]? = some (.cells #[.bool false] 4 (0, 0)) := heap_alloc_new _ _
  have up : ∀ {k : Nat} {o : Obj}, wr.heap[k]? = some o → (W10.alloc (.cells #[.bool false] 4)).heap[k]? = some o := fun {k o} h => by rw [hB6.block k (Array.getElem?_eq_some_iff.1 h).1]; exact h
  have hcl := cl_step hq (hL.below hB6) (ownsRow_below hr hB6) (up hkw) (by rw [Below.heap_alloc _ _ _ (Array.getElem?_eq_some_iff.1 hkj).1]; exact hkj) (up hks)
  refine (guarded_calls (F := 41) (Q := TQ q (W10.alloc (.cells #[.bool false] 4)) B A c L.length) (enters_of Tryd.func41 (by kernel_rfl) rfl) (hcl.mono fun e W7 hq7 => ?_)).mono ?_
  · cases q with
    | none =>
      obtain ⟨h1, h2⟩ := hq7
      exact ⟨by rw [h2.block _ (Array.getElem?_eq_some_iff.1 hkb).1]; exact hkb, .inr ⟨h1, .of_below h2, rfl⟩⟩
    | some L'' =>
      obtain ⟨h1, h2, h3, h4⟩ := hq7
      refine ⟨?_, .inl ⟨h1, .of_grown h2 fun g hg => ?_, rfl, h3, h4⟩⟩
      · rw [h2.block _ (Array.getElem?_eq_some_iff.1 hkb).1 (fun e => ?_)]
        · exact hkb
        · cases A with
          | none => cases e
          | some ad => simp only [Value.ownBlock, Option.some.injEq] at e; have := hA ad rfl; omega
      · cases A with
        | none => cases hg
        | some ad => simp only [Value.ownBlock, Option.some.injEq] at hg; exact ⟨ad, rfl, hg.symm⟩
  · rintro e W8 ⟨b, W7, rfl, ⟨hk7, hm7⟩, hg8⟩
    refine ⟨b, rfl, ⟨hg8.os.trans (hk7.os.trans hB6.os), hg8.tape.trans (hk7.tape.trans hB6.tape), hg8.output.trans (hk7.output.trans hB6.output), Nat.le_trans hB6.size (Nat.le_trans hk7.size hg8.size), fun k hk hn => ?_⟩, ?_⟩
    · have h6 := hB6.size
      rw [hg8.block k (by have := hk7.size; omega) (fun e => by have e2 : k = W10.heap.size := Option.some.inj e; omega), hk7.block k (by omega) hn, hB6.block k hk]
    · cases q with
      | none => exact hm7
      | some L'' =>
        obtain ⟨h1, h2, h3⟩ := hm7
        refine ⟨h1, h2, h3.1, ?_⟩
        rcases h3.2 with hn | ⟨g, cap, cur, hv, h1, hg, rest⟩
        · exact .inl hn
        · refine .inr ⟨g, cap, cur, hv, h1, ?_, rest⟩
          simp only [Value.slice.injEq] at hv
          have := hA _ hv.1
          rw [hg8.block g (Array.getElem?_eq_some_iff.1 hg).1 (fun e => by have e2 : g = W10.heap.size := Option.some.inj e; simp only at this; omega)]; exact hg
set_option maxHeartbeats 4000000 in
theorem stepx_calls {w : Int} {i : I6} {regs : List Tm} {r : List Tm × Int} (h : exec_Step.f w i regs = some r) {W : World} (hL : LaidW W) {fz : Nat → Option Obj} (hfz : FzW fz W) {A : Option Addr} {cc : Nat} (hk : KidsAt fz 0 A 0 regs) :
    Calls Tryd.prog 24 #[.int .i64 w, .agg (insV i), .slice A regs.length cc] W fun e W' => ∃ A' c', e = .returned (.tuple #[.slice A' r.1.length c', .int .i64 r.2]) ∧ Below W.heap.size W W' ∧ W'.ownsRow W.heap.size 45 1 (.slice A' r.1.length c') r.1.length (r.1.map wv) := by
  unfold exec_Step.f at h
  obtain ⟨s, hs, h⟩ := Option.bind_eq_some_iff.1 h
  refine calls_of_wp Tryd.func24 rfl ?_
  simp only [Tryd.ntmps24, List.size_toArray, List.length_cons, List.length_nil, Nat.reduceAdd, Nat.reduceSub, Array.replicate_succ, Array.replicate_zero, List.push_toArray, List.append_toArray, List.nil_append, List.cons_append]
  obtain ⟨w1, hw1⟩ : ∃ w1, w1 = mn (mx w 1) 64 := ⟨_, rfl⟩
  obtain ⟨W2, hW2⟩ : ∃ W2, W2 = (W.alloc (Obj.cells #[.int .i64 w1] 3)).alloc (Obj.cells (insV i) 47) := ⟨_, rfl⟩
  have hB2 : Below W.heap.size W W2 := by rw [hW2]; exact ((Below.refl _ _).alloc (Nat.le_refl _) _).alloc (by simp) _
  have hs2 : W2.heap.size = W.heap.size + 2 := by rw [hW2]; simp
  have hkw : W2.heap[W.heap.size]? = some (.cells #[.int .i64 w1] 3 (0, 0)) := by
    rw [hW2, Below.heap_alloc _ _ _ (by simp), heap_alloc_new]
  have hki : W2.heap[W.heap.size + 1]? = some (.cells (insV i) 47 (0, 0)) := by
    rw [hW2]
    have := heap_alloc_new (W.alloc (Obj.cells #[.int .i64 w1] 3)) (Obj.cells (insV i) 47)
    rwa [World.size_alloc] at this
  have hj : ∀ W', Below W2.heap.size W2 W' → ∀ (j : Nat) v, (insV i)[j]? = some v → W'.cell? ⟨W.heap.size + 1, j, none⟩ = some v := fun W' hb j v hv => by
    simp only [World.cell?]
    rw [hb.block _ (by omega), hki]; exact hv
  have hkw' : ∀ W', Below W2.heap.size W2 W' → W'.cell? ⟨W.heap.size, 0, none⟩ = some (.int .i64 w1) := fun W' hb => by
    simp only [World.cell?]
    rw [hb.block _ (by omega), hkw]; rfl
  have hsc := sources_calls hs (hL.below hB2)
  cases hneg : decide (s < 0) with
  | true =>
    rw [hneg] at h
    simp only [cond_true, Option.some.injEq] at h
    subst h
    have hn' : s < 0 := by simpa using hneg
    have q0 := hj W2 (Below.refl _ _) 0 _ rfl
    rw [hW2] at hsc q0
    rw [hW2] at hB2 hs2
    clear hs hneg hj hkw hki hkw'
    clear hW2
    subst hw1
    unfold insV at hsc q0 hB2 hs2 ⊢
    go_wp2_with (refine hsc.mono ?_; rintro e W3 ⟨rfl, hb3⟩)
    exact ⟨rfl, .tuple #[.slice none 0 0, .int .i64 4], by simp [results, Tryd.results24, go_sem], none, 0, rfl, hB2.trans (hb3.mono (by omega)), World.ownsRow_nil _ _ _ _⟩
  | false =>
    rw [hneg] at h
    simp only [cond_false] at h
    obtain ⟨hs3, h⟩ := bif_some h
    obtain ⟨L, hwd, h⟩ := Option.bind_eq_some_iff.1 h
    obtain ⟨d, hdf, h⟩ := Option.bind_eq_some_iff.1 h
    have hn' : ¬ s < 0 := by simpa using hneg
    obtain ⟨n, rfl⟩ : ∃ n : Nat, s = n := ⟨s.toNat, by omega⟩
    have hn3 : n ≤ 3 := by have : (n : Int) ≤ 3 := by simpa using hs3
                           omega
    rw [Int.toNat_natCast] at h
    rw [← hw1] at h hwd
    have hbel : ∀ W', Below W2.heap.size W2 W' → Below W.heap.size W W' := fun W' hb => hB2.trans (hb.mono (by omega))
    have hwc : ∀ W', Below W2.heap.size W2 W' → _ := fun W' hb => words_calls (c := cc) hwd (hL.below (hbel W' hb)) (fz_below hfz (hbel W' hb)) hk
    have huc : ∀ W', Below W2.heap.size W2 W' → _ := fun W' hb => uses_calls hs hn3 (hL.below (hbel W' hb))
    have hdc : ∀ W', Below W2.heap.size W2 W' → _ := fun W' hb => def_calls hdf (hL.below (hbel W' hb))
    have hsc' : ∀ W', Below W2.heap.size W2 W' → _ := fun W' hb => sources_calls hs (hL.below (hbel W' hb))
    have q0 := hj W2 (Below.refl _ _) 0 _ rfl
    have q1 := hkw' W2 (Below.refl _ _)
    have hW2' := hW2
    rw [hw1] at hW2'
    unfold insV at hW2'
    have hiw : ∀ W', Below W2.heap.size W2 W' → W'.cell? ⟨W.heap.size + 1, 0, none⟩ = some (.int .i64 i.1) ∧ W'.cell? ⟨W.heap.size + 1, 1, none⟩ = some (.int .i64 i.2.1) ∧ W'.cell? ⟨W.heap.size + 1, 2, none⟩ = some (.int .i64 i.2.2.1) ∧ W'.cell? ⟨W.heap.size + 1, 3, none⟩ = some (.int .i64 i.2.2.2.1) ∧ W'.cell? ⟨W.heap.size + 1, 4, none⟩ = some (.int .i64 i.2.2.2.2.1) ∧ W'.cell? ⟨W.heap.size + 1, 5, none⟩ = some (.int .u64 i.2.2.2.2.2) :=
      fun W' hb => ⟨hj W' hb 0 _ rfl, hj W' hb 1 _ rfl, hj W' hb 2 _ rfl, hj W' hb 3 _ rfl, hj W' hb 4 _ rfl, hj W' hb 5 _ rfl⟩
    clear hs hneg hsc hwd hdf q0 q1 hj
    unfold insV
    subst hw1
    have hsc0 := hsc' W2 (Below.refl _ _)
    obtain ⟨i3t, hi, hz0, hz1, hz2⟩ := info3
    obtain ⟨dd, ok⟩ := d
    have hul : (usesL n i).length = n := by simp [usesL]; omega
    simp only at hdc
    rw [hW2'] at hsc0
    unfold insV at huc hdc
    obtain ⟨l, hl⟩ : ∃ l, l = lOf n i (dd, ok) := ⟨_, rfl⟩
    rw [← hl] at h
    have hm0 : (lOf n i (dd, false)).map iv = (usesL n i).map iv := by simp [lOf]
    have hm1 : (lOf n i (dd, true)).map iv = (usesL n i).map iv ++ [.int .i64 dd] := by simp [lOf, iv]
    cases ok
    all_goals go_wp2_with (first
      | (with_reducible refine hsc0.mono ?_; rintro e W3 ⟨rfl, hb3⟩; rw [← hW2'] at hb3; obtain ⟨i0, i1, i2, i3, i4, i5⟩ := hiw W3 hb3; have k3 := hkw' W3 hb3)
      | (with_reducible refine (hwc W3 hb3).mono ?_; rintro e W4 ⟨A4, c4, rfl, hb4, hr4⟩; have hb5 : Below W2.heap.size W2 (W4.alloc (Obj.cells #[Value.slice A4 L.length c4] 26)) := (hb3.trans (hb4.mono hb3.size)).alloc (Nat.le_trans hb3.size hb4.size) _; obtain ⟨i0, i1, i2, i3, i4, i5⟩ := hiw _ hb5)
      | (with_reducible refine (huc _ hb5).mono ?_; rintro e W6 ⟨A6, c6, rfl, hb6, hr6⟩; have hb6' := hb5.trans (hb6.mono hb5.size); obtain ⟨i0, i1, i2, i3, i4, i5⟩ := hiw _ hb6')
      | (with_reducible refine (hdc _ hb6').mono ?_; rintro e W7 ⟨rfl, hb7⟩; have hb7' := hb6'.trans (hb7.mono hb6'.size); have hr7 := ownsRow_below hr6 hb7; have hx := hb6.trans (hb7.mono hb6.size))
      | (at_builtin; refine wpList_append_own_at _ rfl (.tmp 37) (.tmp 39) 23 rfl _ 3 i3t (.int .i64 0) 1 8 (by kernel_rfl) hi hz0 hz1 hz2 rfl (by decide) (.slice A6 n c6) n ((usesL n i).map iv) rfl (ownsRow_below hr7 ((Below.refl _ _).alloc (Nat.le_refl _) _)) ⟨W7.heap.size, 0, none⟩ 1 1 [.int .i64 dd] rfl rfl (cell_one_new _ _ _) (fun u hu => by simp only [List.mem_singleton] at hu; subst hu; rfl) (by unfold maxLen; omega) (by omega) (by have := hb6.size; have := hb7.size; simp only [World.size_alloc] at *; omega) ?_; intro v1 W7 hown1 hgrow1 hnil1 hat1; replace hx := (hx.alloc hx.size _).grown hgrow1 (by simp only [World.size_alloc] at *; have := hx.size; simp only [World.size_alloc] at *; omega) (fun k hk => (hr7.lt k hk).1); clear hgrow1 hnil1 hat1; clear hr7; obtain ⟨A6, c6, rfl⟩ := row_slice hown1; have hr7 := hown1)
      | fail)
    all_goals
      have hxs := hx.size
      simp only [World.size_alloc] at hxs
      first | rw [← hm0, ← hl] at hr7 | rw [← hm1, ← hl] at hr7
      have hlen := hr7.1
      rw [List.length_map, Nat.mul_one] at hlen
      have h4 : (W4.alloc (Obj.cells #[Value.slice A4 L.length c4] 26)).heap[W4.heap.size]? = _ := heap_alloc_new _ _
      have hks7 := (hx.block W4.heap.size (by simp)).trans h4
      have hr47 := ownsRow_below (ownsRow_below hr4 ((Below.refl _ _).alloc (Nat.le_refl _) (Obj.cells #[Value.slice A4 L.length c4] 26))) hx
      have hb7 : Below W2.heap.size W2 W7 := hb5.trans (hx.mono hb5.size)
      obtain ⟨p1, p2⟩ := box_at hks7
      clear hwc huc hdc
      go_loopw [43] (fun v43 wr => ∃ k : Nat, v43 = .int .i64 k ∧ k ≤ l.length ∧ wr = W7 ∧ (l.take k).all (regOk L.length) = true)
        (fun v43 wr => l.length - (intOf v43).toNat)
      case atStart => exact ⟨0, rfl, Nat.zero_le _, rfl, rfl⟩
      case round =>
        obtain ⟨k, rfl, hkl, rfl, hal⟩ := hrel
        by_cases hlt : k < l.length
        · rcases hr7.2 with ⟨hv, h0⟩ | ⟨g, cap, cur, hv, hrest⟩
          · omega
          · simp only [Value.slice.injEq] at hv
            obtain ⟨rfl, _, rfl⟩ := hv
            clear hrest
            obtain ⟨x, hxl⟩ : ∃ x, l[k]? = some x := ⟨_, List.getElem?_eq_getElem hlt⟩
            have hxk : wr.cell? ⟨g, k, none⟩ = some (.int .i64 x) := by
              have := hr7.cells rfl k (.int .i64 x) (by rw [List.getElem?_map, hxl]; rfl)
              have e : (⟨g, 0, none⟩ : Addr).add k = ⟨g, k, none⟩ := by cases k <;> simp [Addr.add]
              rwa [e] at this
            have hxm : x ∈ l := List.mem_of_getElem? hxl
            have hbad : regOk L.length x = false → r = ([], 18) := fun hb => by
              have : l.all (regOk L.length) = false := by
                rw [Bool.eq_false_iff]; intro ha
                rw [List.all_eq_true.1 ha x hxm] at hb; cases hb
              rw [this] at h
              exact (Option.some.inj h).symm
            have hgood : regOk L.length x = true → (l.take (k + 1)).all (regOk L.length) = true := fun hb => by
              rw [List.take_add_one, hxl, List.all_append, hal]; simpa using hb
            have hfin : r = ([], 18) → ∃ A' c', Ending.returned (.tuple #[.slice none 0 0, .int .i64 18]) = .returned (.tuple #[.slice A' r.1.length c', .int .i64 r.2]) ∧ Below W.heap.size W wr ∧ wr.ownsRow W.heap.size 45 1 (.slice A' r.1.length c') r.1.length (r.1.map wv) := fun e => by
              subst e
              exact ⟨none, 0, rfl, hbel _ hb7, World.ownsRow_nil _ _ _ _⟩
            clear h hm0 hm1 hl hr7
            try clear hown1
            by_cases hx0 : x < 0
            · have hf := hfin (hbad (by simp [regOk]; omega))
              go_wp2
              exact ⟨rfl, .tuple #[.slice none 0 0, .int .i64 18], by simp [results, Tryd.results24, go_sem], hf⟩
            · by_cases hx1 : x < L.length
              · have hg := hgood (by simp [regOk]; omega)
                go_wp2
                exact ⟨⟨k + 1, by simp, hlt, trivial, hg⟩, by simp only [intOf]; omega⟩
              · have hf := hfin (hbad (by simp [regOk]; omega))
                go_wp2
                exact ⟨rfl, .tuple #[.slice none 0 0, .int .i64 18], by simp [results, Tryd.results24, go_sem], hf⟩
        · have hke : k = l.length := by omega
          rw [hke, List.take_length] at hal
          rw [hal] at h
          simp only [cond_true] at h
          obtain ⟨q, hq, h⟩ := Option.bind_eq_some_iff.1 h
          have hsw : W.heap.size + 2 ≤ wr.heap.size := by have := hb7.size; omega
          have hbj : Below W2.heap.size W2 (wr.alloc (Obj.cells #[.int .i64 i.1, .int .i64 i.2.1, .int .i64 0, .int .i64 0, .int .i64 0, .int .u64 i.2.2.2.2.2] 47)) := hb7.alloc hb7.size _
          have hscj := hsc' _ hbj
          obtain ⟨i0, i1, i2, i3, i4, i5⟩ := hiw wr hb7
          obtain ⟨j0, j1, j2, j3, j4, j5⟩ := hiw _ hbj
          clear hm0 hm1 hl hr7 hal hW2' hsc0 hW2 hsc'
          try clear hown1
          have hkj0 := heap_alloc_new wr (Obj.cells #[.int .i64 i.1, .int .i64 i.2.1, .int .i64 0, .int .i64 0, .int .i64 0, .int .u64 i.2.2.2.2.2] 47)
          have hbox : ∀ W9, Below (wr.alloc (Obj.cells #[.int .i64 i.1, .int .i64 i.2.1, .int .i64 0, .int .i64 0, .int .i64 0, .int .u64 i.2.2.2.2.2] 47)).heap.size (wr.alloc (Obj.cells #[.int .i64 i.1, .int .i64 i.2.1, .int .i64 0, .int .i64 0, .int .i64 0, .int .u64 i.2.2.2.2.2] 47)) W9 → W9.heap[wr.heap.size]? = some (.cells #[.int .i64 i.1, .int .i64 i.2.1, .int .i64 0, .int .i64 0, .int .i64 0, .int .u64 i.2.2.2.2.2] 47 (0, 0)) := fun W9 hb9 => (hb9.block _ (by simp)).trans hkj0
          obtain rfl | rfl | rfl | rfl : n = 0 ∨ n = 1 ∨ n = 2 ∨ n = 3 := by omega
          all_goals
            go_wp2_with (first
              | (with_reducible refine hscj.mono ?_; rintro e W9 ⟨rfl, hb9⟩; obtain ⟨i0, i1, i2, i3, i4, i5⟩ := hiw _ (hbj.trans (hb9.mono hbj.size)); have hk9 := hbox W9 hb9
                 have b2 : W9.cell? ⟨wr.heap.size, 2, none⟩ = some (.int .i64 0) := by simp only [World.cell?, hk9]; rfl
                 have b3 : W9.cell? ⟨wr.heap.size, 3, none⟩ = some (.int .i64 0) := by simp only [World.cell?, hk9]; rfl
                 have b4 : W9.cell? ⟨wr.heap.size, 4, none⟩ = some (.int .i64 0) := by simp only [World.cell?, hk9]; rfl
                 have z2 : W9.frozen? ⟨wr.heap.size, 2, none⟩ = false := by simp only [World.frozen?, hk9]; rfl
                 have z3 : W9.frozen? ⟨wr.heap.size, 3, none⟩ = false := by simp only [World.frozen?, hk9]; rfl
                 have z4 : W9.frozen? ⟨wr.heap.size, 4, none⟩ = false := by simp only [World.frozen?, hk9]; rfl))
          all_goals
            have hbb : Below wr.heap.size wr W9 := ((Below.refl _ _).alloc (Nat.le_refl _) _).trans (hb9.mono (by simp))
            have hkw7 : wr.heap[W.heap.size]? = some (.cells #[.int .i64 (mn (mx w 1) 64)] 3 (0, 0)) := (hb7.block _ (by omega)).trans hkw
            have hA4 : ∀ ad, A4 = some ad → W3.heap.size ≤ ad.block ∧ ad.block < W4.heap.size := fun ad had => hr4.lt ad.block (by rw [had]; rfl)
            have hs23 : W2.heap.size ≤ W3.heap.size := hb3.size
            refine (guard_step (wr := wr) hq (by first | exact hbb | exact hbb.setCell (Nat.le_refl _) _ | exact (hbb.setCell (Nat.le_refl _) _).setCell (Nat.le_refl _) _ | exact ((hbb.setCell (Nat.le_refl _) _).setCell (Nat.le_refl _) _).setCell (Nat.le_refl _) _) (hL.below (hbel _ hb7)) hr47 hkw7 hks7 (by simp [World.setCell, Array.getElem?_modify, hk9, insV, jOf])).mono ?_
            rintro e W11 ⟨b, rfl, hk11, hm11⟩
            have hB11 : Below W.heap.size W W11 := ⟨hk11.os.trans (hbel _ hb7).os, hk11.tape.trans (hbel _ hb7).tape, hk11.output.trans (hbel _ hb7).output, Nat.le_trans (hbel _ hb7).size hk11.size, fun k hk => by
              rw [hk11.block k (by omega) (fun ⟨ad, h1, h2⟩ => by have := hA4 ad h1; omega), (hbel _ hb7).block k hk]⟩
            have hks11 : W11.heap[W4.heap.size]? = _ := (hk11.block _ (by omega) (fun ⟨ad, h1, h2⟩ => by have := hA4 ad h1; omega)).trans hks7
            obtain ⟨t1, t2⟩ := box_at hks11
            clear hq hscj hbox
            cases q with
            | none =>
              subst hm11
              cases h
              go_wp2
              exact ⟨rfl, .tuple #[.slice none 0 0, .int .i64 17], by simp [results, Tryd.results24, go_sem], none, 0, rfl, hB11, World.ownsRow_nil _ _ _ _⟩
            | some L'' =>
              obtain ⟨rfl, hl11, hr11⟩ := hm11
              cases h
              go_wp2
              exact ⟨rfl, .tuple #[.slice A4 L.length c4, .int .i64 0], by simp [results, Tryd.results24, go_sem], A4, c4, by simp [hl11], hB11, by simpa [hl11] using ownsRow_base hr11 (by omega)⟩
def exec_Step.a : ACods (Int × (Int × Int × Int × Int × Int × Int) × List Tm × Unit) := (.cons (.val (.int .i64)) (.cons (.val (.agg (.cons (.int .i64) (.cons (.int .i64) (.cons (.int .i64) (.cons (.int .i64) (.cons (.int .i64) (.one (.int .u64))))))))) (.cons (.tms 0) .nil)))
def exec_Step.r : RCod (List Tm × Int) := .tup (.cons (.tms 0) (.one (.val (.int .i64))))
noncomputable def exec_Step.cs : List (Kn Tryd.prog) := [exec_Trace.c, isa_Sources.c]
theorem exec_Step.con (a : Int × (Int × Int × Int × Int × Int × Int) × List Tm × Unit) (r : List Tm × Int) (h : exec_Step.f a.1 a.2.1 a.2.2.1 = some r) : Contract Tryd.prog 24 (exec_Step.a.enc a) (exec_Step.r.enc r) := fun fz w args hfz hL hA => by
  obtain ⟨n, i, regs, u⟩ := a
  obtain ⟨hsz, hrel⟩ := hA
  obtain ⟨x0, e0, r0⟩ := hrel 0 _ rfl
  obtain ⟨x1, e1, r1⟩ := hrel 1 _ rfl
  obtain ⟨x2, e2, r2⟩ := hrel 2 _ rfl
  have r0' : x0 = .int .i64 n := r0
  have r1' : x1 = .agg (insV i) := r1
  subst r0' r1'
  obtain ⟨A, cc, rfl, hk⟩ := r2
  obtain rfl := args3 e0 e1 e2 hsz.symm
  refine CallOk2.of_calls (fn := Tryd.f24) (by kernel_rfl) (by kernel_rfl) (by kernel_rfl) ((stepx_calls (w := n) (i := i) (regs := regs) h hL hfz hk).mono fun e W' hq => ?_)
  obtain ⟨A', c', he, hb, hrow⟩ := hq
  obtain ⟨fz', f1, f2, f3⟩ := fz_new hfz hb hrow
  refine .inl ⟨_, he, hb, fz', f1, f2, _, rfl, rfl, fun i p hp => ?_⟩
  match i with
  | 0 => cases hp; exact ⟨_, rfl, A', c', rfl, f3⟩
  | 1 => cases hp; exact ⟨_, rfl, rfl⟩
  | i + 2 => simp [exec_Step.r, RCod.tup, TCods.cons, TCods.one] at hp
noncomputable def exec_Step.c : Kn Tryd.prog := Kn.of 24 exec_Step.a exec_Step.r (fun a => exec_Step.f a.1 a.2.1 a.2.2.1) exec_Step.con
end Go.Proofs.YtkmehmlcccdnbaaDoor.Fn
