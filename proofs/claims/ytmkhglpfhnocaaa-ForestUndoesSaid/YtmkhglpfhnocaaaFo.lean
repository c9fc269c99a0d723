/- The forest in memory; find. -/
import Derived.Test.YtmkhglpfhnocaaaMi
import Derived.Test.YtmkhglpfhnocaaaRg
import Derived.Test.YtmkhglpfhnocaaaGa
import Derived.Test.YtmkhglpfhnocaaaChecked
import Derived.WalkKit
import Derived.OwnWalkIn
import Derived.TacticsInMore
import Derived.LoopNIn
import Derived.LoopIn
import Derived.RegionTactic
import Derived.RegionIn
import Derived.Shelf.Abstract
import Derived.Maps.AppendAt
import Derived.Maps.OwnOps
namespace Go.Proofs.Ytmkhglpfhnocaaa.Fn
open Go Go.RowKit Go.MapKept Go.Proofs Forest17
set_option linter.unusedVariables false
set_option maxRecDepth 100000
set_option linter.unusedSimpArgs false
open Go.Shelf
attribute [local go_sem] Oper.semAt_some
/-- What is kept: all blocks that do not meet S. -/
structure Kp (S : Nat → Prop) (W W' : World) : Prop where
  os : W'.os = W.os
  tape : W'.tape = W.tape
  output : W'.output = W.output
  size : W.heap.size ≤ W'.heap.size
  block : ∀ k, k < W.heap.size → ¬ S k → W'.heap[k]? = W.heap[k]?
theorem Kp.refl (S : Nat → Prop) (W : World) : Kp S W W := ⟨rfl, rfl, rfl, Nat.le_refl _, fun _ _ _ => rfl⟩
theorem Kp.trans {S : Nat → Prop} {A B C : World} (h : Kp S A B) (k : Kp S B C) : Kp S A C :=
  ⟨k.os.trans h.os, k.tape.trans h.tape, k.output.trans h.output, Nat.le_trans h.size k.size, fun i hl hi => (k.block i (Nat.lt_of_lt_of_le hl h.size) hi).trans (h.block i hl hi)⟩
theorem Kp.drew {S : Nat → Prop} (W : World) : Kp S W W.drew := ⟨rfl, rfl, rfl, Nat.le_refl _, fun _ _ _ => rfl⟩
theorem Kp.alloc {S : Nat → Prop} (W : World) (o : Obj) : Kp S W (W.alloc o) := ⟨rfl, rfl, rfl, by simp, fun k hk _ => Below.heap_alloc _ _ _ hk⟩
theorem Kp.of_below {S : Nat → Prop} {A B : World} (h : Below A.heap.size A B) : Kp S A B := ⟨h.os, h.tape, h.output, h.size, fun k hl _ => h.block k hl⟩
theorem Kp.of_grown {S : Nat → Prop} {A B : World} {row : Option Nat} (h : A.grownBy B row) (hS : ∀ k, row = some k → S k) : Kp S A B := ⟨h.os, h.tape, h.output, h.size, fun k hl hk => h.block k hl fun e => hk (hS k e.symm)⟩
theorem Kp.setCell {S : Nat → Prop} {A W : World} (h : Kp S A W) {p : Addr} (hp : S p.block) (v : Value) : Kp S A (W.setCell p v) :=
  h.trans ⟨rfl, rfl, rfl, by simp [World.setCell], fun q hq hn => Below.heap_setCell _ _ _ _ (fun e => hn (by rw [e]; exact hp))⟩
theorem Kp.imp {S S' : Nat → Prop} {A B : World} (h : Kp S A B) (hS : ∀ k, k < A.heap.size → S k → S' k) : Kp S' A B := ⟨h.os, h.tape, h.output, h.size, fun k hl hk => h.block k hl fun e => hk (hS k hl e)⟩
theorem Kp.one {S : Nat → Prop} {W W' : World} {b : Nat} (h : One b W W') (hb : S b) : Kp S W W' := ⟨h.os, h.tape, h.output, by rw [h.size]; exact Nat.le_refl _, fun k _ hk => h.block k fun e => hk (by rw [e]; exact hb)⟩
theorem Kp.heap {S : Nat → Prop} {W W' : World} (h : Kp S W W') {k : Nat} {o : Obj} (hk : W.heap[k]? = some o) (hn : ¬ S k) : W'.heap[k]? = some o := by rw [h.block k (Array.getElem?_eq_some_iff.1 hk).1 hn]; exact hk
theorem ownsRow_kp {S : Nat → Prop} {W W' : World} {B n sz : Nat} {e : TypeId} {v : Value} {xs : List Value} (h : W.ownsRow B e sz v n xs) (hb : Kp S W W') (hS : ∀ g, v.ownBlock = some g → ¬ S g) : W'.ownsRow B e sz v n xs := by
  refine ⟨h.1, ?_⟩
  rcases h.2 with hn | ⟨g, cap, cur, hv, h1, hg, rest⟩
  · exact .inl hn
  · exact .inr ⟨g, cap, cur, hv, h1, hb.heap hg (hS g (by rw [hv]; rfl)), rest⟩
theorem ownsRow_lt {W : World} {B n sz g : Nat} {e : TypeId} {v : Value} {xs : List Value} (h : W.ownsRow B e sz v n xs) (hg : v.ownBlock = some g) : ∃ cur, W.heap[g]? = some (.cells cur e (0, 0)) := by
  rcases h.2 with hn | ⟨g', cap, cur, hv, h1, hg', rest⟩
  · rw [hn.1] at hg; cases hg
  · rw [hv] at hg; cases hg; exact ⟨cur, hg'⟩
def lkV (l : Lk) : List Value := [.int .i64 l.1, .int .i64 l.2.1, .int .i64 l.2.2]
def lksV (ls : List Lk) : List Value := ls.flatMap lkV
def natV (k : Nat) : Value := .int .i64 (k : Int)
def U2 (u : Int → Option Int) : Int → Option Value := fun i => (u i).map (.int .i64)
/-- The links of 'up', told with the root and the depth of each id. -/
structure UF (u : Int → Option Int) (r : Int → Int) (d : Int → Nat) : Prop where
  top : ∀ x, u x = none → r x = x
  up : ∀ x y, u x = some y → r y = r x ∧ d y < d x
theorem UF.root {u : Int → Option Int} {r : Int → Int} {d : Int → Nat} (h : UF u r d) : ∀ (n : Nat) (x : Int), d x ≤ n → u (r x) = none ∧ d (r x) ≤ d x ∧ (u x ≠ none → d (r x) < d x) := by
  intro n
  induction n with
  | zero =>
    intro x hx
    cases hu : u x with
    | none => rw [h.top x hu]; exact ⟨hu, Nat.le_refl _, fun e => absurd rfl e⟩
    | some y => have := (h.up x y hu).2; omega
  | succ n ih =>
    intro x hx
    cases hu : u x with
    | none => rw [h.top x hu]; exact ⟨hu, Nat.le_refl _, fun e => absurd rfl e⟩
    | some y =>
      obtain ⟨h1, h2⟩ := h.up x y hu
      obtain ⟨a, b, c⟩ := ih y (by omega)
      rw [h1] at a b
      exact ⟨a, by omega, fun _ => by omega⟩
theorem UF.set {u : Int → Option Int} {r : Int → Int} {d : Int → Nat} (h : UF u r d) {x : Int} (hx : u x ≠ none) : UF (fun j => if j = x then some (r x) else u j) r d := by
  obtain ⟨a, b, c⟩ := h.root _ x (Nat.le_refl _)
  refine ⟨fun z hz => ?_, fun z y hz => ?_⟩
  · split at hz
    · cases hz
    · exact h.top z hz
  · split at hz
    · rename_i e; subst e; cases hz; exact ⟨h.top _ a, c hx⟩
    · exact h.up z y hz
theorem upd_U2 (u : Int → Option Int) (x y : Int) : upd (U2 u) x (.int .i64 y) = U2 (fun j => if j = x then some y else u j) := by
  funext j; unfold upd U2; dsimp only; split <;> rfl
section
variable {P : Program} {ops : Array Oper} {rest : List Oper} {Q : Exit → Act → World → Prop}
theorem wpList_lookup_run (w : World) {o : Oper} {a : Act} (hg : o.guard = none) (m x : Operand) (t : TypeId) (ok : Bool) (hop : o.op = Op.lookup t m x ok) (mv xv v : Value) (hm : a.eval m = mv) (hx : a.eval x = xv)
    (hr : (Instr.lookup t mv xv ok).run P w = .ok v w) (hK : wpList P ops Q rest (a.put o.dst v) w) : wpList P ops Q (o :: rest) a w := by
  refine wpList_plain hg fun K' hK' => ?_
  unfold Oper.wp
  simp [execOp, hop, hm, hx, hr, Result.andThen]
  exact hK' _ _ hK
end
theorem und49 : Try.prog.underlying 49 = some (.map 3 53) := by kernel_rfl
theorem und50 : Try.prog.underlying 50 = some (.map 3 3) := by kernel_rfl
theorem und3 : Try.prog.underlying 3 = some (.int .i64) := by kernel_rfl
theorem zero3 (w : World) : (zeroValue 3).run Try.prog w = .ok (.int .i64 0) w := by kernel_rfl
theorem zero53 (w : World) : (zeroValue 53).run Try.prog w = .ok (.slice none 0 0) w := by kernel_rfl
theorem box_cells {w : World} {k j : Nat} {cs : Array Value} {e : TypeId} {v : Value} (hc : w.heap[k]? = some (.cells cs e (0, 0))) (hj : cs[j]? = some v) : w.cell? ⟨k, j, none⟩ = some v ∧ w.frozen? ⟨k, j, none⟩ = false := by
  constructor
  · simp only [World.cell?, hc]; exact hj
  · simp [World.frozen?, hc]
end Go.Proofs.Ytmkhglpfhnocaaa.Fn
