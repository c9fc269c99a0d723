/- A symbolic evaluator of the model's code, its states and what they mean: a state tells what each temporary holds and what each block of the call's own memory holds. Own work over the kit's laws. -/
import Derived.Orders
import Derived.Below
import Derived.Laws.CopyOwn
import Derived.Laws.CopyRow
import Derived.Laws.Rows
import Derived.Laws.Cells
import Derived.Laws.AppendOwn
import Derived.KernelRfl
namespace Go.Proofs.Ytmkhglpfhnocaaa.Ev
open Go Go.RowKit
set_option linter.unusedVariables false

/-- A cell of a struct that is handed over: a value, or a slice. -/
inductive PV where
  | val (v : Value)
  | sl (b sz len : Nat)
/-- What is known of a temporary: a value that holds no address of the call's own blocks; an address in a block (its slot, a row, the row's size, a field); a whole slice of a block; nothing. -/
inductive V where
  | val (v : Value)
  | ptr (b row sz fld : Nat)
  | sl (b sz len : Nat)
  | pk (cs : List PV)
  | unk
  | gp (g row sz fld : Nat)
def PV.v : PV → V
  | .val v => .val v
  | .sl b sz len => .sl b sz len

/-- A field of the rows: what each row holds in it. -/
inductive Fld where
  | int (k : IntKind) (g : Nat → Int)
  | bool (g : Nat → Bool)
  | str (g : Nat → ByteArray)
def Fld.at : Fld → Nat → Value
  | .int k g, i => .int k (g i)
  | .bool g, i => .bool (g i)
  | .str g, i => .string (g i)

/-- The package-level variables whose contents are known: how many rows, and what each field holds. -/
def globs : List (Nat × Nat × List Fld) := []
def globF (g : Nat) : List (Nat × Nat × List Fld) → Option (Nat × List Fld)
  | [] => none
  | (g', n, fs) :: l => bif Nat.beq g g' then some (n, fs) else globF g l
/-- They hold what their initialisers laid. -/
def LaidW (w : World) : Prop := ∀ g n fs, globF g globs = some (n, fs) → g < w.heap.size ∧ ∀ i, i < n → ∀ j f, fs[j]? = some f → w.cell? ⟨g, i * fs.length + j, none⟩ = some (f.at i)
def globV (g : Nat) : V :=
  match globF g globs with
  | some (n + 1, fs) => .gp g 0 fs.length 0
  | _ => .val (.pointer (some ⟨g, 0, none⟩))

/-- What is known of a slot's block: not there; given up; the call's own cells; rows that are only read; a slice of the call's own that may grow (its elements' type, how many, what each field holds). -/
inductive Blk where
  | none
  | gone
  | own (cs : List V)
  | ext (n : Nat) (fs : List Fld)
  | grow (e : TypeId) (n : Nat) (fs : List Fld)

def Blk.isOwn : Blk → Bool
  | .own _ | .grow .. => true
  | _ => false
def Blk.live : Blk → Bool
  | .own _ | .ext _ _ | .grow .. => true
  | _ => false

/-- A block with cells to read. -/
def Blk.real : Blk → Prop
  | .own _ | .grow .. => True
  | .ext n _ => 0 < n
  | _ => False

structure St where
  tm : List V
  hp : List Blk

/-- Where a slot's block lies, the room of a slice of it, and how many rows there are (of a block that is only read). -/
structure RB where
  addr : Option Addr
  cap : Nat
  lim : Option Nat := none
abbrev Rho : Type := Nat → Option RB

def PRel (ρ : Rho) : PV → Value → Prop
  | .val v, x => x = v
  | .sl b sz len, x => ∃ r, ρ b = some r ∧ (∀ n, r.lim = some n → n = len) ∧ x = .slice r.addr len r.cap
def VRel (ρ : Rho) : V → Value → Prop
  | .val v, x => x = v
  | .ptr b row sz fld, x => ∃ r ad, ρ b = some r ∧ r.addr = some ad ∧ (∀ n, r.lim = some n → row < n) ∧ x = .pointer (some ⟨ad.block, ad.off + (row * sz + fld), none⟩)
  | .sl b sz len, x => ∃ r, ρ b = some r ∧ (∀ n, r.lim = some n → n = len) ∧ x = .slice r.addr len r.cap
  | .pk cs, x => ∃ c : Array Value, x = .agg c ∧ cs.length = c.size ∧ ∀ (i : Nat) (p : PV), cs[i]? = some p → ∃ y, c[i]? = some y ∧ PRel ρ p y
  | .unk, _ => True
  | .gp g row sz fld, x => x = .pointer (some ⟨g, row * sz + fld, none⟩) ∧ ∃ n fs, globF g globs = some (n, fs) ∧ row < n

def TRel (ρ : Rho) (tm : List V) (xs : Array Value) : Prop := tm.length = xs.size ∧ ∀ (i : Nat) (v : V), tm[i]? = some v → ∃ x : Value, xs[i]? = some x ∧ VRel ρ v x

def BRel (ρ : Rho) (B : Nat) (w : World) (b : Nat) : Blk → Prop
  | .none => ρ b = none
  | .gone => True
  | .own cs => ∃ r k e c, ρ b = some r ∧ r.addr = some ⟨k, 0, none⟩ ∧ r.lim = none ∧ B ≤ k ∧ w.heap[k]? = some (.cells c e (0, 0)) ∧ TRel ρ cs c
  | .ext n fs => ∃ r, ρ b = some r ∧ r.lim = some n ∧ (0 < n → ∃ ad, r.addr = some ad ∧ ad.spot = none ∧ ad.block < w.heap.size ∧
      ∀ i, i < n → ∀ j g, fs[j]? = some g → w.cell? ⟨ad.block, ad.off + (i * fs.length + j), none⟩ = some (g.at i))
  | .grow e n fs => ∃ r xs, ρ b = some r ∧ r.lim = some n ∧ 0 < fs.length ∧ w.ownsRow B e fs.length (.slice r.addr n r.cap) n xs ∧ ∀ i, i < n → ∀ j g, fs[j]? = some g → xs[i * fs.length + j]? = some (g.at i)

structure Rel (ρ : Rho) (w0 : World) (s : St) (a : Act) (w : World) : Prop where
  defers : a.defers = []
  tm : TRel ρ s.tm a.tmps
  hp : ∀ b, BRel ρ w0.heap.size w b (s.hp.getD b .none)
  sep : ∀ b b' r r' ad ad', b ≠ b' → (s.hp.getD b .none).isOwn = true → (s.hp.getD b' .none).real → ρ b = some r → ρ b' = some r' → r.addr = some ad → r'.addr = some ad' → ad.block ≠ ad'.block
  below : Below w0.heap.size w0 w
  laid : LaidW w0

def evV (tm : List V) : Operand → V
  | .tmp t => tm.getD t (.val undef)
  | .const v => .val v
  | .global g => globV g
  | .func f => .val (.func (.func f) #[] #[])

/-! ### more blocks bound -/
def leR (ρ ρ' : Rho) : Prop := ∀ b r, ρ b = some r → ρ' b = some r
theorem leR_refl (ρ : Rho) : leR ρ ρ := fun _ _ h => h
def updR (ρ : Rho) (d : Nat) (r : RB) : Rho := fun b => if b = d then some r else ρ b
theorem leR_upd {ρ : Rho} {d : Nat} {r : RB} (h : ρ d = none) : leR ρ (updR ρ d r) := fun b r' hb => by
  unfold updR; split
  · rename_i e; subst e; rw [h] at hb; cases hb
  · exact hb
theorem updR_same (ρ : Rho) (d : Nat) (r : RB) : (updR ρ d r) d = some r := by simp [updR]
theorem updR_other (ρ : Rho) {d b : Nat} (r : RB) (h : b ≠ d) : (updR ρ d r) b = ρ b := by simp [updR, h]

theorem PRel.mono {ρ ρ' : Rho} (hl : leR ρ ρ') : ∀ {v : PV} {x : Value}, PRel ρ v x → PRel ρ' v x
  | .val _, _, h => h
  | .sl .., _, ⟨r, h1, h2⟩ => ⟨r, hl _ _ h1, h2⟩
theorem PRel.v {ρ : Rho} {p : PV} {x : Value} (h : PRel ρ p x) : VRel ρ p.v x := by cases p <;> exact h
theorem VRel.mono {ρ ρ' : Rho} (hl : leR ρ ρ') : ∀ {v : V} {x : Value}, VRel ρ v x → VRel ρ' v x
  | .val _, _, h => h
  | .ptr .., _, ⟨r, ad, h1, h2, h3⟩ => ⟨r, ad, hl _ _ h1, h2, h3⟩
  | .sl .., _, ⟨r, h1, h2⟩ => ⟨r, hl _ _ h1, h2⟩
  | .pk _, _, ⟨c, h1, h2, h3⟩ => ⟨c, h1, h2, fun i p hp => let ⟨y, hy, hr⟩ := h3 i p hp; ⟨y, hy, hr.mono hl⟩⟩
  | .unk, _, _ => trivial
  | .gp .., _, h => h
theorem TRel.mono {ρ ρ' : Rho} (hl : leR ρ ρ') {tm : List V} {xs : Array Value} (h : TRel ρ tm xs) : TRel ρ' tm xs :=
  ⟨h.1, fun i v hv => let ⟨x, hx, hr⟩ := h.2 i v hv; ⟨x, hx, hr.mono hl⟩⟩

theorem TRel.eval {ρ : Rho} {tm : List V} {a : Act} (h : TRel ρ tm a.tmps) (x : Operand) : VRel ρ (evV tm x) (a.eval x) := by
  cases x with
  | tmp t =>
    simp only [evV, Act.eval]
    cases hv : tm[t]? with
    | none =>
      have hn : a.tmps[t]? = none := by
        have := List.getElem?_eq_none_iff.1 hv
        exact Array.getElem?_eq_none_iff.2 (by rw [← h.1]; exact this)
      simp only [List.getD_eq_getElem?_getD, hv, Array.getD_eq_getD_getElem?, hn]
      exact rfl
    | some v =>
      obtain ⟨x, hx, hr⟩ := h.2 t v hv
      simp only [List.getD_eq_getElem?_getD, hv, Array.getD_eq_getD_getElem?, hx]
      exact hr
  | const v => exact rfl
  | global g =>
    show VRel ρ (globV g) (.pointer (some ⟨g, 0, none⟩))
    unfold globV
    split
    · rename_i n fs hg; exact ⟨by simp, _, _, hg, by omega⟩
    · exact rfl
  | func f => exact rfl

theorem TRel.set {ρ : Rho} {tm : List V} {xs : Array Value} (h : TRel ρ tm xs) (d : Nat) {v : V} {x : Value} (hv : VRel ρ v x) : TRel ρ (tm.set d v) (xs.setIfInBounds d x) := by
  refine ⟨by simp [h.1], fun i u hu => ?_⟩
  rw [List.getElem?_set] at hu
  rw [Array.getElem?_setIfInBounds]
  split at hu
  · rename_i e; subst e
    split at hu
    · rename_i hd; cases hu
      rw [h.1] at hd
      exact ⟨x, by simp [hd], hv⟩
    · cases hu
  · rename_i e
    obtain ⟨y, hy, hr⟩ := h.2 i u hu
    exact ⟨y, by rw [if_neg e]; exact hy, hr⟩

/-- A temporary written. -/
def putV (tm : List V) (dst : Option Tmp) (v : V) : List V :=
  match dst with
  | some d => tm.set d v
  | none => tm
theorem TRel.put {ρ : Rho} {tm : List V} {a : Act} (h : TRel ρ tm a.tmps) (dst : Option Tmp) {v : V} {x : Value} (hv : VRel ρ v x) : TRel ρ (putV tm dst v) (a.put dst x).tmps := by
  cases dst with
  | none => exact h
  | some d => exact h.set d hv

/-! ### the world moves on -/
theorem cell_of_block {w w' : World} {k : Nat} (h : w'.heap[k]? = w.heap[k]?) (o : Nat) : w'.cell? ⟨k, o, none⟩ = w.cell? ⟨k, o, none⟩ := World.cell?_of_block (w := w) h

theorem BRel.of_blocks {ρ : Rho} {B : Nat} {w w' : World} (hs : w.heap.size ≤ w'.heap.size) {b : Nat} {x : Blk}
    (hk : ∀ k, k < w.heap.size → (∀ r ad, ρ b = some r → r.addr = some ad → x.real → ad.block = k → w'.heap[k]? = w.heap[k]?)) (h : BRel ρ B w b x) : BRel ρ B w' b x := by
  cases x with
  | none => exact h
  | gone => trivial
  | own cs =>
    obtain ⟨r, k, e, c, h1, h2, hm, h3, h4, h5⟩ := h
    have hlt : k < w.heap.size := (Array.getElem?_eq_some_iff.1 h4).1
    exact ⟨r, k, e, c, h1, h2, hm, h3, by rw [hk k hlt r _ h1 h2 trivial rfl]; exact h4, h5⟩
  | ext n fs =>
    obtain ⟨r, h1, hm, h2⟩ := h
    refine ⟨r, h1, hm, fun hn => ?_⟩
    obtain ⟨ad, h3, h4, h5, h6⟩ := h2 hn
    refine ⟨ad, h3, h4, Nat.lt_of_lt_of_le h5 hs, fun i hi j g hg => ?_⟩
    rw [cell_of_block (hk ad.block h5 r ad h1 h3 hn rfl)]
    exact h6 i hi j g hg
  | grow e n fs =>
    obtain ⟨r, xs, h1, hm, hp, ho, hf⟩ := h
    refine ⟨r, xs, h1, hm, hp, ⟨ho.1, ?_⟩, hf⟩
    rcases ho.2 with hn | ⟨g, cap, cur, hv, hb, hg, rest⟩
    · exact .inl hn
    · simp only [Value.slice.injEq] at hv
      refine .inr ⟨g, cap, cur, by rw [hv.1, hv.2.2], hb, ?_, rest⟩
      rw [hk g (Array.getElem?_eq_some_iff.1 hg).1 r _ h1 hv.1 trivial rfl]
      exact hg

theorem BRel.mono {ρ ρ' : Rho} {B : Nat} {w : World} {b : Nat} {x : Blk} (hl : leR ρ ρ') (hn : x.live = false → ρ' b = ρ b) (h : BRel ρ B w b x) : BRel ρ' B w b x := by
  cases x with
  | none => rw [BRel, hn rfl]; exact h
  | gone => trivial
  | own cs => obtain ⟨r, k, e, c, h1, h2, hm, h3, h4, h5⟩ := h; exact ⟨r, k, e, c, hl _ _ h1, h2, hm, h3, h4, h5.mono hl⟩
  | ext n fs => obtain ⟨r, h1, h2⟩ := h; exact ⟨r, hl _ _ h1, h2⟩
  | grow e n fs => obtain ⟨r, xs, h1, h2⟩ := h; exact ⟨r, xs, hl _ _ h1, h2⟩

theorem BRel.bound {ρ : Rho} {B : Nat} {w : World} {b : Nat} {x : Blk} (h : BRel ρ B w b x) (hl : x.live = true) : ∃ r, ρ b = some r := by
  cases x with
  | none => cases hl
  | gone => cases hl
  | own cs => obtain ⟨r, k, e, c, h1, _⟩ := h; exact ⟨r, h1⟩
  | ext n fs => obtain ⟨r, h1, _⟩ := h; exact ⟨r, h1⟩
  | grow e n fs => obtain ⟨r, xs, h1, _⟩ := h; exact ⟨r, h1⟩

theorem BRel.lt {ρ : Rho} {B : Nat} {w : World} {b : Nat} {x : Blk} (h : BRel ρ B w b x) (hx : x.real) {r : RB} {ad : Addr} (hr : ρ b = some r) (had : r.addr = some ad) : ad.block < w.heap.size := by
  cases x with
  | none => exact hx.elim
  | gone => exact hx.elim
  | own cs =>
    obtain ⟨r', k, e, c, h1, h2, hm, h3, h4, h5⟩ := h
    rw [hr] at h1; cases h1
    rw [had] at h2; cases h2
    exact (Array.getElem?_eq_some_iff.1 h4).1
  | ext n fs =>
    obtain ⟨r', h1, hm, h2⟩ := h
    obtain ⟨ad', h3, _, h5, _⟩ := h2 hx
    rw [hr] at h1; cases h1
    rw [had] at h3; cases h3
    exact h5
  | grow e n fs =>
    obtain ⟨r', xs, h1, hm, hp, ho, hf⟩ := h
    rw [hr] at h1; cases h1
    exact (ho.lt ad.block (by rw [had]; rfl)).2

section
variable {ρ : Rho} {w0 : World} {s : St} {a : Act} {w : World}

theorem LaidW.below {w0 w : World} (h : LaidW w0) (hb : Below w0.heap.size w0 w) : LaidW w := fun g n fs hg => by
  obtain ⟨h1, h2⟩ := h g n fs hg
  exact ⟨Nat.lt_of_lt_of_le h1 hb.size, fun i hi j f hf => by rw [cell_of_block (hb.block g h1)]; exact h2 i hi j f hf⟩
/-- A callee has run, or a draw was made. -/
theorem Rel.world (h : Rel ρ w0 s a w) {w' : World} (hb : Below w.heap.size w w') : Rel ρ w0 s a w' :=
  { defers := h.defers, tm := h.tm, sep := h.sep
    hp := fun b => (h.hp b).of_blocks hb.size fun k hk _ _ _ _ _ _ => hb.block k hk
    below := h.below.trans (hb.mono h.below.size), laid := h.laid }

theorem Rel.put (h : Rel ρ w0 s a w) (dst : Option Tmp) {v : V} {x : Value} (hv : VRel ρ v x) : Rel ρ w0 { s with tm := putV s.tm dst v } (a.put dst x) w :=
  { h with
    defers := by cases dst <;> exact h.defers
    tm := h.tm.put dst hv }

/-- The block of a live slot is one of the world's. -/
theorem Rel.block_lt (h : Rel ρ w0 s a w) {b : Nat} {r : RB} {ad : Addr} (hl : (s.hp.getD b .none).isOwn = true) (hr : ρ b = some r) (had : r.addr = some ad) : ad.block < w.heap.size ∧ w0.heap.size ≤ ad.block := by
  have hb := h.hp b
  cases hx : s.hp.getD b .none with
  | own cs =>
    rw [hx] at hb
    obtain ⟨r', k, e, c, h1, h2, hm, h3, h4, h5⟩ := hb
    rw [hr] at h1; cases h1
    rw [had] at h2; cases h2
    exact ⟨(Array.getElem?_eq_some_iff.1 h4).1, h3⟩
  | grow e n fs =>
    rw [hx] at hb
    obtain ⟨r', xs, h1, hm, hp, ho, hf⟩ := hb
    rw [hr] at h1; cases h1
    have := ho.lt ad.block (by rw [had]; rfl)
    exact ⟨this.2, this.1⟩
  | _ => rw [hx] at hl; cases hl
end

theorem getD_set (l : List Blk) (d b : Nat) (x y : Blk) : (l.set d x).getD b y = if b = d ∧ d < l.length then x else l.getD b y := by
  simp only [List.getD_eq_getElem?_getD, List.getElem?_set]
  by_cases h : d = b
  · subst h
    by_cases hd : d < l.length
    · simp [hd]
    · simp [hd]
  · simp [h, Ne.symm h]

theorem heap_alloc_new (w : World) (o : Obj) : (w.alloc o).heap[w.heap.size]? = some o := by
  show (w.heap.push o)[w.heap.size]? = _
  simp

theorem isOwn_real {x : Blk} (h : x.isOwn = true) : x.real := by cases x <;> first | trivial | cases h

/-- A slot is bound: to a new block, or to one that a callee made. -/
theorem Rel.newSlot {ρ : Rho} {w0 : World} {s : St} {a : Act} {w : World} (h : Rel ρ w0 s a w) {d : Nat} (hd : s.hp[d]? = some .none) {w' : World} (hb : Below w.heap.size w w') (r : RB) (x : Blk) (hx : BRel (updR ρ d r) w0.heap.size w' d x)
    (hfresh : ∀ ad, r.addr = some ad → x.real → w.heap.size ≤ ad.block) : leR ρ (updR ρ d r) ∧ Rel (updR ρ d r) w0 { s with hp := s.hp.set d x } a w' := by
  have hlen : d < s.hp.length := (List.getElem?_eq_some_iff.1 hd).1
  have hgd : s.hp.getD d .none = .none := by simp [List.getD_eq_getElem?_getD, hd]
  have hn : ρ d = none := by have := h.hp d; rw [hgd] at this; exact this
  have hl := leR_upd (r := r) hn
  refine ⟨hl, { defers := h.defers, tm := h.tm.mono hl, hp := fun b => ?_, sep := ?_, below := h.below.trans (hb.mono h.below.size), laid := h.laid }⟩
  · show BRel _ _ _ b ((s.hp.set d x).getD b .none)
    rw [getD_set]
    split
    · rename_i hb'; obtain ⟨rfl, _⟩ := hb'; exact hx
    · rename_i hb'
      have hbd : b ≠ d := fun e => hb' ⟨e, hlen⟩
      exact ((h.hp b).mono hl (fun _ => updR_other _ _ hbd)).of_blocks hb.size (fun k hk _ _ _ _ _ _ => hb.block k hk)
  · intro b b' r1 r2 ad ad' hbb ho hv hr hr' had had'
    have ho' : ((s.hp.set d x).getD b .none).isOwn = true := ho
    have hv' : ((s.hp.set d x).getD b' .none).real := hv
    rw [getD_set] at ho' hv'
    have lt : ∀ b r ad, (s.hp.getD b .none).real → ρ b = some r → r.addr = some ad → ad.block < w.heap.size := fun b r ad hx hr had => (h.hp b).lt hx hr had
    by_cases hbd : b = d
    · subst hbd
      rw [updR_same] at hr; cases hr
      rw [if_neg (fun x => hbb x.1.symm)] at hv'
      rw [updR_other _ _ (Ne.symm hbb)] at hr'
      rw [if_pos ⟨rfl, hlen⟩] at ho'
      have h1 := lt b' r2 ad' hv' hr' had'
      have h2 := hfresh ad had (isOwn_real ho')
      exact fun e => by rw [e] at h2; omega
    · rw [if_neg (fun x => hbd x.1)] at ho'
      rw [updR_other _ _ hbd] at hr
      by_cases hb' : b' = d
      · subst hb'
        rw [updR_same] at hr'; cases hr'
        rw [if_pos ⟨rfl, hlen⟩] at hv'
        have h1 := lt b r1 ad (isOwn_real ho') hr had
        have h2 := hfresh ad' had' hv'
        exact fun e => by rw [e] at h1; omega
      · rw [if_neg (fun x => hb' x.1)] at hv'
        rw [updR_other _ _ hb'] at hr'
        exact h.sep b b' r1 r2 ad ad' hbb ho' hv' hr hr' had had'

/-- A new block of the call's own. -/
theorem Rel.alloc {ρ : Rho} {w0 : World} {s : St} {a : Act} {w : World} (h : Rel ρ w0 s a w) {d : Nat} (hd : s.hp[d]? = some .none) {cs : List V} {c : Array Value} (e : TypeId) (cap : Nat) (hc : TRel ρ cs c) :
    leR ρ (updR ρ d ⟨some ⟨w.heap.size, 0, none⟩, cap, none⟩) ∧ Rel (updR ρ d ⟨some ⟨w.heap.size, 0, none⟩, cap, none⟩) w0 { s with hp := s.hp.set d (.own cs) } a (w.alloc (.cells c e)) := by
  have hgd : s.hp.getD d .none = .none := by simp [List.getD_eq_getElem?_getD, hd]
  have hn : ρ d = none := by have := h.hp d; rw [hgd] at this; exact this
  refine h.newSlot hd ((Below.refl w.heap.size w).alloc (Nat.le_refl _) _) _ _ ⟨_, w.heap.size, e, c, updR_same _ _ _, rfl, rfl, h.below.size, heap_alloc_new _ _, hc.mono (leR_upd hn)⟩ fun ad had _ => by
    cases had; exact Nat.le_refl _


/-- A block of the call's own, written. -/
theorem Rel.store {ρ : Rho} {w0 : World} {s : St} {a : Act} {w : World} (h : Rel ρ w0 s a w) {b : Nat} {cs cs' : List V} (hb : s.hp.getD b .none = .own cs) (hlen : b < s.hp.length) {r : RB} {k : Nat} {c c' : Array Value} {e : TypeId}
    (hr : ρ b = some r) (ha : r.addr = some ⟨k, 0, none⟩) (hm : r.lim = none) (hB : w0.heap.size ≤ k) (hk : w.heap[k]? = some (.cells c e (0, 0))) (hc : TRel ρ cs' c') :
    Rel ρ w0 { s with hp := s.hp.set b (.own cs') } a (w.setRow k c') := by
  refine { defers := h.defers, tm := h.tm, hp := fun b' => ?_, sep := ?_, below := below_setRow h.below hB _, laid := h.laid }
  · show BRel _ _ _ b' ((s.hp.set b (.own cs')).getD b' .none)
    rw [getD_set]
    split
    · rename_i hx; obtain ⟨rfl, _⟩ := hx
      exact ⟨r, k, e, c', hr, ha, hm, hB, setRow_heap w k c c' e _ hk, hc⟩
    · rename_i hx
      have hbb : b ≠ b' := fun e => hx ⟨e.symm, hlen⟩
      refine (h.hp b').of_blocks (by simp) fun j hj r' ad hr' had hre hblk => ?_
      refine setRow_other w k j c' ?_
      have := h.sep b b' r r' ⟨k, 0, none⟩ ad hbb (by rw [hb]; rfl) hre hr hr' ha had
      rw [hblk] at this
      exact Ne.symm this
  · intro x y r1 r2 ad ad' hxy ho hv h1 h2 ha1 ha2
    have ho' : ((s.hp.set b (.own cs')).getD x .none).isOwn = true := ho
    have hv' : ((s.hp.set b (.own cs')).getD y .none).real := hv
    rw [getD_set] at ho' hv'
    refine h.sep x y r1 r2 ad ad' hxy ?_ ?_ h1 h2 ha1 ha2
    · split at ho'
      · rename_i hx; rw [hx.1, hb]; rfl
      · exact ho'
    · split at hv'
      · rename_i hx; rw [hx.1, hb]; trivial
      · exact hv'

/-- A block of the call's own, whose row is written anew. -/
theorem Rel.rewrite {ρ : Rho} {w0 : World} {s : St} {a : Act} {w : World} (h : Rel ρ w0 s a w) {b : Nat} {x : Blk} (hb : (s.hp.getD b .none).isOwn = true) (hlen : b < s.hp.length) {r : RB} {k : Nat} {c' : Array Value}
    (hr : ρ b = some r) (ha : r.addr = some ⟨k, 0, none⟩) (hB : w0.heap.size ≤ k) (hx : BRel ρ w0.heap.size (w.setRow k c') b x) :
    Rel ρ w0 { s with hp := s.hp.set b x } a (w.setRow k c') := by
  refine { defers := h.defers, tm := h.tm, hp := fun b' => ?_, sep := ?_, below := below_setRow h.below hB _, laid := h.laid }
  · show BRel _ _ _ b' ((s.hp.set b x).getD b' .none)
    rw [getD_set]
    split
    · rename_i hq; obtain ⟨rfl, _⟩ := hq; exact hx
    · rename_i hq
      have hbb : b ≠ b' := fun e => hq ⟨e.symm, hlen⟩
      refine (h.hp b').of_blocks (by simp) fun j hj r' ad hr' had hre hblk => ?_
      refine setRow_other w k j c' ?_
      have := h.sep b b' r r' ⟨k, 0, none⟩ ad hbb hb hre hr hr' ha had
      rw [hblk] at this
      exact Ne.symm this
  · intro p q r1 r2 ad ad' hpq ho hv h1 h2 ha1 ha2
    have ho' : ((s.hp.set b x).getD p .none).isOwn = true := ho
    have hv' : ((s.hp.set b x).getD q .none).real := hv
    rw [getD_set] at ho' hv'
    refine h.sep p q r1 r2 ad ad' hpq ?_ ?_ h1 h2 ha1 ha2
    · split at ho'
      · rename_i hq; rw [hq.1]; exact hb
      · exact ho'
    · split at hv'
      · rename_i hq; rw [hq.1]; exact isOwn_real hb
      · exact hv'

/-- A slot d takes over the block of slot b (or what has grown out of it); slot b is given up. -/
theorem Rel.rebind {ρ : Rho} {w0 : World} {s : St} {a : Act} {w : World} (h : Rel ρ w0 s a w) {d b : Nat} (hd : s.hp[d]? = some .none) (hbl : b < s.hp.length) (hne : b ≠ d) {r0 r : RB} (hr0 : ρ b = some r0) {x : Blk} {w' : World}
    (hx : BRel (updR ρ d r) w0.heap.size w' d x) (hown : x.isOwn = true → (s.hp.getD b .none).isOwn = true) (hreal : x.real → (s.hp.getD b .none).real) (hB : Below w0.heap.size w w')
    (hw : ∀ k, k < w.heap.size → ((s.hp.getD b .none).isOwn = true → ∀ ad, r0.addr = some ad → ad.block ≠ k) → w'.heap[k]? = w.heap[k]?)
    (haddr : ∀ ad, r.addr = some ad → x.real → (∃ ad0, r0.addr = some ad0 ∧ ad0.block = ad.block) ∨ w.heap.size ≤ ad.block) :
    leR ρ (updR ρ d r) ∧ Rel (updR ρ d r) w0 { s with hp := (s.hp.set d x).set b .gone } a w' := by
  have hlen : d < s.hp.length := (List.getElem?_eq_some_iff.1 hd).1
  have hgd : s.hp.getD d .none = .none := by simp [List.getD_eq_getElem?_getD, hd]
  have hn : ρ d = none := by have := h.hp d; rw [hgd] at this; exact this
  have hl := leR_upd (r := r) hn
  have get : ∀ q, ((s.hp.set d x).set b .gone).getD q .none = if q = b then .gone else if q = d then x else s.hp.getD q .none := fun q => by
    rw [getD_set, getD_set]
    simp only [List.length_set, hbl, hlen, and_true]
  have lt : ∀ b r ad, (s.hp.getD b .none).real → ρ b = some r → r.addr = some ad → ad.block < w.heap.size := fun b r ad hx hr had => (h.hp b).lt hx hr had
  refine ⟨hl, { defers := h.defers, tm := h.tm.mono hl, hp := fun q => ?_, sep := ?_, below := h.below.trans hB, laid := h.laid }⟩
  · show BRel _ _ _ q (((s.hp.set d x).set b .gone).getD q .none)
    rw [get]
    split
    · trivial
    · rename_i hqb
      split
      · rename_i hqd; subst hqd; exact hx
      · rename_i hqd
        refine ((h.hp q).mono hl (fun _ => updR_other _ _ hqd)).of_blocks hB.size (fun k hk r' ad hr' had hre hblk => hw k hk fun ho ad0 h0 => ?_)
        rw [updR_other _ _ hqd] at hr'
        rw [← hblk]
        exact h.sep b q r0 r' ad0 ad (Ne.symm hqb) ho hre hr0 hr' h0 had
  · intro p q r1 r2 ad ad' hpq ho hv hr hr' had had'
    have ho' : (((s.hp.set d x).set b .gone).getD p .none).isOwn = true := ho
    have hv' : (((s.hp.set d x).set b .gone).getD q .none).real := hv
    rw [get] at ho' hv'
    by_cases hpb : p = b
    · rw [if_pos hpb] at ho'; cases ho'
    by_cases hqb : q = b
    · rw [if_pos hqb] at hv'; exact hv'.elim
    rw [if_neg hpb] at ho'
    rw [if_neg hqb] at hv'
    by_cases hpd : p = d
    · subst hpd
      rw [updR_same] at hr; cases hr
      rw [if_pos rfl] at ho'
      rw [if_neg (Ne.symm hpq)] at hv'
      rw [updR_other _ _ (Ne.symm hpq)] at hr'
      rcases haddr ad had (isOwn_real ho') with ⟨ad0, h1, h2⟩ | h2
      · rw [← h2]; exact h.sep b q r0 r2 ad0 ad' (Ne.symm hqb) (hown ho') hv' hr0 hr' h1 had'
      · have := lt q r2 ad' hv' hr' had'
        exact fun e => by rw [e] at h2; omega
    · rw [if_neg hpd] at ho'
      rw [updR_other _ _ hpd] at hr
      by_cases hqd : q = d
      · subst hqd
        rw [updR_same] at hr'; cases hr'
        rw [if_pos rfl] at hv'
        rcases haddr ad' had' hv' with ⟨ad0, h1, h2⟩ | h2
        · rw [← h2]; exact h.sep p b r1 r0 ad ad0 hpb ho' (hreal hv') hr hr0 had h1
        · have := lt p r1 ad (isOwn_real ho') hr had
          exact fun e => by rw [e] at this; omega
      · rw [if_neg hqd] at hv'
        rw [updR_other _ _ hqd] at hr'
        exact h.sep p q r1 r2 ad ad' hpq ho' hv' hr hr' had had'

end Go.Proofs.Ytmkhglpfhnocaaa.Ev
