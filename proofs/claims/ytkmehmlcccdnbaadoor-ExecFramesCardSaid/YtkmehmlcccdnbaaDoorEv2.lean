/- The rules of one operation: what it makes of a state, and that the model does so. -/
import Derived.Test.YtkmehmlcccdnbaaDoorEv
import Derived.Laws.Entries
import Derived.Laws.StructEq
namespace Go.Proofs.YtkmehmlcccdnbaaDoor.Ev
open Go Go.RowKit
set_option linter.unusedVariables false
set_option linter.unusedSimpArgs false

/-! ### what needs no world -/
def semVal {α : Type} (P : Program) : Sem α → Option α
  | .pure a => some a
  | .program k => semVal P (k P)
  | .mark _ k => semVal P k
  | _ => none
theorem semVal_run {α : Type} {P : Program} {x : Sem α} {a : α} (h : semVal P x = some a) (w : World) : x.run P w = .ok a w := by
  induction x with
  | pure b => simp only [semVal, Option.some.injEq] at h; subst h; rfl
  | program k ih => exact ih P (by simpa only [semVal] using h)
  | mark m k ih => exact ih (by simpa only [semVal] using h)
  | _ => simp [semVal] at h

/-! ### arguments and results -/
/-- A value, or a slice told by its rows: how many, and what each field of a row holds. -/
inductive PA where
  | val (v : Value)
  | rows (n : Nat) (fs : List Fld)
  | tsl (dp : Nat) (l : List Tm)
/-- A part of a tuple. -/
inductive TA where
  | one (p : PA)
  | pk (l : List PA)
inductive AV where
  | val (v : Value)
  | rows (n : Nat) (fs : List Fld)
  | tsl (dp : Nat) (l : List Tm)
  | pk (l : List PA)
  | tup (l : List TA)
  | gsl (e : TypeId) (dp : Nat) (l : List Tm)
  | cells (l : List PA)
  | pan (v : Value)

def RowsAt (w : World) (B : Nat) (A : Option Addr) (n : Nat) (fs : List Fld) : Prop :=
  0 < n → ∃ ad, A = some ad ∧ ad.spot = none ∧ B ≤ ad.block ∧ ad.block < w.heap.size ∧ ∀ i, i < n → ∀ j g, fs[j]? = some g → w.cell? ⟨ad.block, ad.off + (i * fs.length + j), none⟩ = some (g.at i)
def GslAt (fz : Nat → Option Obj) (w : World) (B : Nat) (x : Value) (e : TypeId) (dp : Nat) (l : List Tm) : Prop :=
  ∃ A c xs, x = .slice A l.length c ∧ w.ownsRow B e 1 (.slice A l.length c) l.length xs ∧ (∀ (i : Nat) (t : Tm), l[i]? = some t → TmAt fz dp (fun j => xs[i * 1 + j]?) t) ∧ ∀ ad, A = some ad → fz ad.block = none
def PARel (fz : Nat → Option Obj) (w : World) (B : Nat) (x : Value) : PA → Prop
  | .tsl dp l => ∃ A c, x = .slice A l.length c ∧ KidsAt fz dp A 0 l
  | .val v => x = v
  | .rows n fs => ∃ A c, x = .slice A n c ∧ n ≤ c ∧ RowsAt w B A n fs
def TARel (fz : Nat → Option Obj) (w : World) (B : Nat) (x : Value) : TA → Prop
  | .one p => PARel fz w B x p
  | .pk l => ∃ c : Array Value, x = .agg c ∧ l.length = c.size ∧ ∀ (i : Nat) (p : PA), l[i]? = some p → ∃ y, c[i]? = some y ∧ PARel fz w B y p
def AVRel (fz : Nat → Option Obj) (w : World) (B : Nat) (x : Value) : AV → Prop
  | .gsl e dp l => GslAt fz w B x e dp l
  | .pan _ => False
  | .cells l => ∃ ad : Addr, x = .pointer (some ⟨ad.block, ad.off, none⟩) ∧ ad.block < w.heap.size ∧ ∀ (i : Nat) (p : PA), l[i]? = some p → ∃ y, w.cell? ⟨ad.block, ad.off + i, none⟩ = some y ∧ PARel fz w B y p
  | .tup l => ∃ c : Array Value, x = .tuple c ∧ l.length = c.size ∧ ∀ (i : Nat) (p : TA), l[i]? = some p → ∃ y, c[i]? = some y ∧ TARel fz w B y p
  | .tsl dp l => ∃ A c, x = .slice A l.length c ∧ KidsAt fz dp A 0 l
  | .val v => x = v
  | .rows n fs => ∃ A c, x = .slice A n c ∧ n ≤ c ∧ RowsAt w B A n fs
  | .pk l => ∃ c : Array Value, x = .agg c ∧ l.length = c.size ∧ ∀ (i : Nat) (p : PA), l[i]? = some p → ∃ y, c[i]? = some y ∧ PARel fz w B y p
def ArgsRel (fz : Nat → Option Obj) (w : World) (xs : Array Value) (avs : List AV) : Prop := avs.length = xs.size ∧ ∀ (i : Nat) (av : AV), avs[i]? = some av → ∃ x : Value, xs[i]? = some x ∧ AVRel fz w 0 x av
/-- The frozen blocks lie in the world as they were. -/
def FzW (fz : Nat → Option Obj) (w : World) : Prop := ∀ k o, fz k = some o → w.heap[k]? = some o
/-- Behind a call: more blocks are frozen, new ones alone. -/
def FzNew (fz fz' : Nat → Option Obj) (n : Nat) : Prop := leF fz fz' ∧ ∀ k o, fz' k = some o → fz k = some o ∨ n ≤ k

def CallOk (P : Program) (f : FuncId) (args : Array Value) (w : World) (R : Value → World → Prop) : Prop :=
  match (callFunc f args).run P w with
  | .ok (.enter g as) w' => w' = w ∧ Calls P g as w fun e w'' => ∃ x, e = .returned x ∧ R x w''
  | .ok (.value v) w' => R v w'
  | _ => False
/-- .. or panics. -/
def CallOk2 (P : Program) (f : FuncId) (args : Array Value) (w : World) (R R' : Value → World → Prop) : Prop :=
  match (callFunc f args).run P w with
  | .ok (.enter g as) w' => w' = w ∧ Calls P g as w fun e w'' => (∃ x, e = .returned x ∧ R x w'') ∨ ∃ v, e = .panicked [{ v := v, recovered := false }] ∧ R' v w''
  | .ok (.value v) w' => R v w'
  | _ => False
theorem CallOk2.old {P : Program} {f : FuncId} {args : Array Value} {w : World} {R : Value → World → Prop} {r : AV} {X : World → Prop} (h : CallOk2 P f args w R fun v w' => r = .pan v ∧ X w') (hr : ∀ v, r ≠ .pan v) : CallOk P f args w R := by
  unfold CallOk2 at h
  unfold CallOk
  split at h
  · rename_i g as w' hrun
    obtain ⟨rfl, h⟩ := h
    exact ⟨rfl, h.mono fun e w'' he => he.elim id fun ⟨v, _, hv, _⟩ => absurd hv (hr v)⟩
  · exact h
  · exact h.elim
/-- With these arguments the function returns this (or panics with this), and of what was there nothing has turned. -/
def Contract (P : Program) (f : FuncId) (avs : List AV) (r : AV) : Prop :=
  ∀ fz w args, FzW fz w → LaidW w → ArgsRel fz w args avs → CallOk2 P f args w (fun x w' => Below w.heap.size w w' ∧ ∃ fz', FzW fz' w' ∧ FzNew fz fz' w.heap.size ∧ AVRel fz' w' w.heap.size x r) fun v w' => r = .pan v ∧ Below w.heap.size w w'

/-! ### the effect of an operation -/
structure Eff where
  v : V
  wr : List (Nat × Blk)
  rd : List Nat
def wrote (hp : List Blk) : List (Nat × Blk) → List Blk
  | [] => hp
  | (b, x) :: l => wrote (hp.set b x) l
def St.app (s : St) (dst : Option Tmp) (E : Eff) : St := ⟨putV s.tm dst E.v, wrote s.hp E.wr⟩

/-- The cell of an element. -/
def tmCell (dp : Nat) (u : Tm) (j : Nat) : Option V :=
  match j with
  | 0 =>
    match dp with
    | 0 => some (.val (.int .u64 u.x))
    | d + 1 => some (.tsl d u.kids)
  | _ => none
def readV (hp : List Blk) (b row sz fld : Nat) : Option V :=
  match hp.getD b .none with
  | .own cs => cs[row * sz + fld]?
  | .ro cs => cs[row * sz + fld]?
  | .ext n fs => if sz = fs.length then (fs[fld]?).map fun g => .val (g.at row) else none
  | .grow e n fs => if sz = fs.length then (fs[fld]?).map fun g => .val (g.at row) else none
  | .growK e dp l => if sz = 1 then (l[row]?).bind fun t => tmCell dp t fld else none
  | .frz dp l => if sz = 1 then (l[row]?).bind fun t => tmCell dp t fld else none
  | _ => none
def readAgg (hp : List Blk) (b row sz : Nat) : Nat → Nat → Option (List Value)
  | _, 0 => some []
  | fld, n + 1 =>
    match readV hp b row sz fld with
    | some (.val v) => (readAgg hp b row sz (fld + 1) n).map (v :: ·)
    | _ => none
def PV.oneCell : PV → Bool
  | .val v => v.oneCell'
  | _ => true
def cellsV : V → Option (List V)
  | .val v => if v.cells.all (·.oneCell') then some (v.cells.toList.map .val) else none
  | .ptr b row sz fld => some [.ptr b row sz fld]
  | .sl b sz len => some [.sl b sz len]
  | .pk cs => if cs.all PV.oneCell then some (cs.map PV.v) else none
  | .tup _ => none
  | .unk => none
  | .gp .. => none
  | .tsl dp l => some [.tsl dp l]
  | .tp .. => none
  | .clo .. => none
def allVals : List V → Option (List Value)
  | [] => some []
  | .val v :: l => (allVals l).map (v :: ·)
  | _ => none
def col (vs : List Value) (sz len j : Nat) : List Value := (List.range len).map fun i => vs.getD (i * sz + j) undef
def intsOf (k : IntKind) : List Value → Option (List Int)
  | [] => some []
  | .int k' a :: l => if k' = k then (intsOf k l).map (a :: ·) else none
  | _ => none
def boolsOf : List Value → Option (List Bool)
  | [] => some []
  | .bool a :: l => (boolsOf l).map (a :: ·)
  | _ => none
def strsOf : List Value → Option (List ByteArray)
  | [] => some []
  | .string a :: l => (strsOf l).map (a :: ·)
  | _ => none
def fldOf : List Value → Option Fld
  | .int k a :: l => (intsOf k (.int k a :: l)).map fun xs => .int k fun i => xs.getD i 0
  | .bool a :: l => (boolsOf (.bool a :: l)).map fun xs => .bool fun i => xs.getD i false
  | .string a :: l => (strsOf (.string a :: l)).map fun xs => .str fun i => xs.getD i ⟨#[]⟩
  | _ => none
def fldsOf (vs : List Value) (sz len : Nat) : Nat → Nat → Option (List Fld)
  | _, 0 => some []
  | j, m + 1 =>
    match fldOf (col vs sz len j), fldsOf vs sz len (j + 1) m with
    | some f, some fs => some (f :: fs)
    | _, _ => none
def avOf0 (hp : List Blk) : V → Option (AV × List Nat)
  | .val v => some (.val v, [])
  | .sl b sz len =>
    match hp.getD b .none with
    | .ext n fs => some (.rows len fs, [b])
    | .grow e n fs => some (.rows len fs, [b])
    | .frz dp l => some (.tsl dp l, [b])
    | _ => none
  | .tsl dp l => some (.tsl dp l, [])
  | _ => none
def pasOf (hp : List Blk) : List PV → Option (List PA × List Nat)
  | [] => some ([], [])
  | .val v :: l =>
    match pasOf hp l with
    | some (ps, rd) => some (.val v :: ps, rd)
    | none => none
  | .tsl dp x :: l =>
    match pasOf hp l with
    | some (ps, rd) => some (.tsl dp x :: ps, rd)
    | none => none
  | .sl b sz len :: l =>
    match avOf0 hp (.sl b sz len), pasOf hp l with
    | some (.rows n fs, r), some (ps, rd) => some (.rows n fs :: ps, r ++ rd)
    | some (.tsl dp l, r), some (ps, rd) => some (.tsl dp l :: ps, r ++ rd)
    | _, _ => none
def cellPV : V → Option PV
  | .val v => some (.val v)
  | .sl b sz len => some (.sl b sz len)
  | .tsl dp l => some (.tsl dp l)
  | _ => none
def readPk (hp : List Blk) (b row sz : Nat) : Nat → Nat → Option (List PV)
  | _, 0 => some []
  | fld, n + 1 =>
    match readV hp b row sz fld with
    | some v =>
      match cellPV v, readPk hp b row sz (fld + 1) n with
      | some p, some l => some (p :: l)
      | _, _ => none
    | none => none
def avOf (hp : List Blk) (v : V) : Option (AV × List Nat) :=
  match v with
  | .pk cs =>
    match pasOf hp cs with
    | some (ps, rd) => some (.pk ps, rd)
    | none => none
  | .ptr b 0 0 0 =>
    match hp.getD b .none with
    | .own cs =>
      match readPk hp b 0 0 0 cs.length with
      | some ps =>
        match pasOf hp ps with
        | some (qs, rd) => some (.cells qs, b :: rd)
        | none => none
      | none => none
    | _ => none
  | v => avOf0 hp v
/-- A field with another value in one row. -/
def upd {α : Type} (row : Nat) (v : α) (g : Nat → α) (i : Nat) : α := bif Nat.beq i row then v else g i
def setF (row : Nat) : Fld → Value → Option Fld
  | .int k g, .int k' a => if k = k' then some (.int k (upd row a g)) else none
  | .bool g, .bool b => some (.bool (upd row b g))
  | _, _ => none
def setFs (row : Nat) : List Fld → Nat → List Value → Option (List Fld)
  | fs, _, [] => some fs
  | f :: fs, 0, v :: vs =>
    match setF row f v, setFs row fs 0 vs with
    | some g, some gs => some (g :: gs)
    | _, _ => none
  | f :: fs, j + 1, vs => (setFs row fs j vs).map (f :: ·)
  | [], _, _ :: _ => none
/-- The fields of a made slice: all nought. -/
def zeroF : Value → Option Fld
  | .int k a => if a = 0 then some (.int k fun _ => 0) else none
  | .bool b => bif b then none else some (.bool fun _ => false)
  | _ => none
def zeroFs : List Value → Option (List Fld)
  | [] => some []
  | v :: l =>
    match zeroF v, zeroFs l with
    | some f, some fs => some (f :: fs)
    | _, _ => none
def avsOf (hp : List Blk) : List V → Option (List AV × List Nat)
  | [] => some ([], [])
  | v :: l =>
    match avOf hp v, avsOf hp l with
    | some (x, r), some (xs, rs) => some (x :: xs, r ++ rs)
    | _, _ => none
def rowParts (t : TypeId) (len : Nat) (parts : Array (Nat × Value)) : Sem (TypeId × Nat × Array Value) := do
  let .slice elem ← underlying t | stuck "buildSlice: slice type expected"
  let size ← sizeOf elem
  if len * size > 2 ^ 24 then unsupported (.resourceLimit "buildSlice: more than 2^24 cells")
  let zero ← if len * size = 0 then pure #[] else do pure (← zeroValue elem).cells
  let some cells := Instr.fill (fun i => some (i * size, size)) ((Array.range (len * size)).map (zero[· % zero.size]!)) parts.toList
    | stuck "buildSlice: a part of the wrong size"
  pure (elem, size, cells)

def eqStep (P : Program) (eqf : TypeId → Value → Value → Option Bool) (xs ys : Array Value) (f : Field) (r : Option Bool) : Option Bool :=
  if f.name ≠ "_" then
    match semVal P (part f.type xs f.offset), semVal P (part f.type ys f.offset), r with
    | some a, some b, some q => (eqf f.type a b).map fun e => e && q
    | _, _, _ => none
  else r
def eqSign (op : BinOp) (q : Bool) : Bool :=
  match op with
  | .eql => q
  | _ => !q
/-- Whether two values are equal: numbers, truth values, structs of such. -/
def eqV (P : Program) : Nat → TypeId → Value → Value → Option Bool
  | 0, _, _, _ => none
  | d + 1, t, .int k a, .int k' b => match P.underlying t with | some (.int _) => if k = k' then some (a == b) else none | _ => none
  | d + 1, t, .bool a, .bool b => match P.underlying t with | some .bool => some (a == b) | _ => none
  | d + 1, t, .agg xs, .agg ys =>
    match P.underlying t with
    | some (.struct fs) =>
      if P.stoodInHeld t = false then fs.toList.foldr (eqStep P (eqV P d) xs ys) (some true) else none
    | _ => none
  | _, _, _, _ => none
/-- The fields of a slice that is made: of no rows the zero value's. -/
def growFs (P : Program) (e : TypeId) (sz len : Nat) (cells : Array Value) : Option (List Fld) :=
  if 0 < sz ∧ cells.size = len * sz ∧ len ≤ maxLen then
    match len with
    | 0 =>
      match semVal P (zeroValue e) with
      | some z => if z.cells.size = sz then fldsOf z.cells.toList sz 1 0 sz else none
      | none => none
    | len => fldsOf cells.toList sz len 0 sz
  else none
/-- A field of two slices laid end to end. -/
def catF (n : Nat) : Fld → Fld → Option Fld
  | .int k g, .int k' g' => if k = k' then some (.int k fun i => bif Nat.blt i n then g i else g' (i - n)) else none
  | .bool g, .bool g' => some (.bool fun i => bif Nat.blt i n then g i else g' (i - n))
  | .str g, .str g' => some (.str fun i => bif Nat.blt i n then g i else g' (i - n))
  | _, _ => none
def catFs (n : Nat) : List Fld → List Fld → Option (List Fld)
  | [], [] => some []
  | f :: l, f' :: l' =>
    match catF n f f', catFs n l l' with
    | some g, some gs => some (g :: gs)
    | _, _ => none
  | _, _ => none

/-- Cells that hold no rows. -/
def pvOf : List PA → Option (List PV)
  | [] => some []
  | .val v :: l => (pvOf l).map (.val v :: ·)
  | .tsl dp t :: l => (pvOf l).map (.tsl dp t :: ·)
  | .rows .. :: _ => none
theorem pvOf_get : ∀ {l : List PA} {ps : List PV}, pvOf l = some ps → ps.length = l.length ∧ ∀ (i : Nat) (p : PV), ps[i]? = some p → ∃ q, l[i]? = some q ∧ ∀ (ρ : Rho) (w : World) (B : Nat) (x : Value), PARel ρ.fz w B x q → PRel ρ p x
  | [], ps, h => by
    simp only [pvOf, Option.some.injEq] at h; subst h; exact ⟨rfl, fun i p hp => by simp at hp⟩
  | .val v :: l, ps, h => by
    simp only [pvOf] at h
    obtain ⟨ps', h1, rfl⟩ := Option.map_eq_some_iff.1 h
    obtain ⟨i1, i2⟩ := pvOf_get h1
    refine ⟨by simp [i1], fun i p hp => ?_⟩
    cases i with
    | zero => simp at hp; subst hp; exact ⟨_, rfl, fun ρ w B x hx => hx⟩
    | succ i => simpa using i2 i p (by simpa using hp)
  | .tsl dp v :: l, ps, h => by
    simp only [pvOf] at h
    obtain ⟨ps', h1, rfl⟩ := Option.map_eq_some_iff.1 h
    obtain ⟨i1, i2⟩ := pvOf_get h1
    refine ⟨by simp [i1], fun i p hp => ?_⟩
    cases i with
    | zero => simp at hp; subst hp; exact ⟨_, rfl, fun ρ w B x hx => hx⟩
    | succ i => simpa using i2 i p (by simpa using hp)
  | .rows .. :: _, ps, h => by simp [pvOf] at h
/-! ### structs that are put together of parts -/
/-- The cells of a value; a slice of terms that is frozen is told by its terms. -/
def cellsPV (hp : List Blk) : V → Option (List PV × List Nat)
  | .val v => if v.cells.all (·.oneCell') then some (v.cells.toList.map .val, []) else none
  | .tsl dp l => some ([.tsl dp l], [])
  | .sl b sz len =>
    match hp.getD b .none with
    | .frz dp l => some ([.tsl dp l], [b])
    | _ => some ([.sl b sz len], [b])
  | .pk cs => if cs.all PV.oneCell then some (cs, []) else none
  | _ => none
def overPV : List PV → Nat → List PV → List PV
  | ps, _, [] => ps
  | [], _, _ => []
  | _ :: ps, 0, c :: cs => c :: overPV ps 0 cs
  | p :: ps, n + 1, cs => p :: overPV ps n cs
def fillPV (tm : List V) (hp : List Blk) (place : Nat → Option (Nat × Nat)) : List PV → List (Nat × Operand) → Option (List PV × List Nat)
  | ps, [] => some (ps, [])
  | ps, (i, x) :: rest =>
    match place i, cellsPV hp (evV tm x) with
    | some (off, sz), some (cs, r) =>
      if cs.length = sz ∧ off + cs.length ≤ ps.length then
        match fillPV tm hp place (overPV ps off cs) rest with
        | some (q, rs) => some (q, r ++ rs)
        | none => none
      else none
    | _, _ => none
/-- A cell that is that of an element. -/
def tmOf (dp : Nat) (p : PV) : Option Tm :=
  match dp with
  | 0 =>
    match p with
    | .val (.int .u64 x) => some (.mk x [])
    | _ => none
  | d + 1 =>
    match p with
    | .tsl d' l => if d' = d then some (.mk 0 l) else none
    | .val (.slice none 0 0) => some (.mk 0 [])
    | _ => none
/-- Cells that are those of elements. -/
def tmsOf (dp : Nat) : List PV → Option (List Tm)
  | [] => some []
  | p :: l =>
    match tmOf dp p, tmsOf dp l with
    | some t, some ts => some (t :: ts)
    | _, _ => none
def fieldPlaces (fs : Array Field) : Sem (Array (Nat × Nat)) := fs.mapM fun f => do pure (f.offset, ← sizeOf f.type)
/-- A made slice, ahead of its parts. -/
def rowHead (t : TypeId) (len : Nat) : Sem (TypeId × Nat × Array Value) := do
  let .slice elem ← underlying t | stuck "buildSlice: slice type expected"
  let size ← sizeOf elem
  if len * size > 2 ^ 24 then unsupported (.resourceLimit "buildSlice: more than 2^24 cells")
  let zero ← if len * size = 0 then pure #[] else do pure (← zeroValue elem).cells
  pure (elem, size, (Array.range (len * size)).map (zero[· % zero.size]!))
def tvOf : List TA → Option (List TV)
  | [] => some []
  | .one p :: l =>
    match pvOf [p], tvOf l with
    | some [q], some qs => some (.one q :: qs)
    | _, _ => none
  | .pk ps :: l =>
    match pvOf ps, tvOf l with
    | some q, some qs => some (.pk q :: qs)
    | _, _ => none
/-- A field of the rows from one on. -/
def shiftF (n : Nat) : Fld → Fld
  | .int k g => .int k fun i => g (i + n)
  | .bool g => .bool fun i => g (i + n)
  | .str g => .str fun i => g (i + n)
theorem shiftF_at (n : Nat) (f : Fld) (i : Nat) : (shiftF n f).at i = f.at (i + n) := by cases f <;> rfl
inductive OpR (P : Program) (tm : List V) (hp : List Blk) (o : Oper) : Eff → Prop
  | copy (x : Operand) (h : o.op = .move x ∨ o.op = .assign x) : OpR P tm hp o ⟨evV tm x, [], []⟩
  | pick (c x y : Operand) (t : Bool) (h : o.op = .pick c x y) (hc : evV tm c = .val (.bool t)) : OpR P tm hp o ⟨if t then evV tm x else evV tm y, [], []⟩
  | pure (g : Operand → Value) (v : Value) (hs : ∀ cs b, o.op ≠ .select cs b) (h : ∀ x ∈ o.op.operands, evV tm x = .val (g x)) (hv : semVal P (execOp g o) = some (.value v)) : OpR P tm hp o ⟨.val v, [], []⟩
  | alloc (t : TypeId) (d : Nat) (z : Value) (h : o.op = .alloc t) (hd : o.dst = some d) (hh : hp[d]? = some .none) (hz : semVal P (zeroValue t) = some z) :
      OpR P tm hp o ⟨.ptr d 0 0 0, [(d, .own (z.cells.toList.map .val))], [d]⟩
  | box (t : TypeId) (x : Operand) (d : Nat) (v : Value) (h : o.op = .box t x) (hd : o.dst = some d) (hh : hp[d]? = some .none) (hx : evV tm x = .val v) :
      OpR P tm hp o ⟨.ptr d 0 0 0, [(d, .own (v.cells.toList.map .val))], [d]⟩
  | boxT (t : TypeId) (x : Operand) (d dp : Nat) (l : List Tm) (h : o.op = .box t x) (hd : o.dst = some d) (hh : hp[d]? = some .none) (hx : evV tm x = .tsl dp l) :
      OpR P tm hp o ⟨.ptr d 0 0 0, [(d, .own [.tsl dp l])], [d]⟩
  | boxPk (t : TypeId) (x : Operand) (d : Nat) (cs : List PV) (h : o.op = .box t x) (hd : o.dst = some d) (hh : hp[d]? = some .none) (hx : evV tm x = .pk cs) :
      OpR P tm hp o ⟨.ptr d 0 0 0, [(d, .own (cs.map PV.v))], [d]⟩
  | row (t : TypeId) (len : Nat) (parts : Array (Nat × Operand)) (g : Operand → Value) (d : Nat) (e : TypeId) (sz : Nat) (cells : Array Value) (h : o.op = .buildSlice t len parts) (hd : o.dst = some d) (hh : hp[d]? = some .none)
      (hx : ∀ x ∈ o.op.operands, evV tm x = .val (g x)) (hp' : semVal P (rowParts t len (parts.map fun (i, x) => (i, g x))) = some (e, sz, cells)) :
      OpR P tm hp o ⟨.sl d sz len, [(d, .own (cells.toList.map .val))], [d]⟩
  | load (t : TypeId) (x : Operand) (b row sz fld : Nat) (v : V) (h : o.op = .load t x) (hx : evV tm x = .ptr b row sz fld) (ht : semVal P (isAgg t) = some false) (hv : readV hp b row sz fld = some v) : OpR P tm hp o ⟨v, [], [b]⟩
  | loadAgg (t : TypeId) (x : Operand) (b row sz fld n : Nat) (vs : List Value) (h : o.op = .load t x) (hx : evV tm x = .ptr b row sz fld) (ht : semVal P (isAgg t) = some true) (hn : semVal P (sizeOf t) = some n)
      (hv : readAgg hp b row sz fld n = some vs) : OpR P tm hp o ⟨.val (.agg vs.toArray), [], [b]⟩
  | store (t : TypeId) (x y : Operand) (b row sz fld : Nat) (cs ws : List V) (h : o.op = .store t x y) (hx : evV tm x = .ptr b row sz fld) (hc : hp[b]? = some (.own cs)) (hw : cellsV (evV tm y) = some ws)
      (hn : semVal P (sizeOf t) = some ws.length) (hl : row * sz + fld + ws.length ≤ cs.length) : OpR P tm hp o ⟨.val undef, [(b, .own (cs.take (row * sz + fld) ++ ws ++ cs.drop (row * sz + fld + ws.length)))], [b]⟩
  | field (t : TypeId) (x : Operand) (f b row sz fld : Nat) (fs : Array Field) (fl : Field) (n : Nat) (h : o.op = .fieldAddr t x f) (hx : evV tm x = .ptr b row sz fld) (ht : P.underlying t = some (.struct fs)) (hf : fs[f]? = some fl)
      (hn : semVal P (sizeOf fl.type) = some (n + 1)) : OpR P tm hp o ⟨.ptr b row sz (fld + fl.offset), [], []⟩
  | index (t : TypeId) (x ix : Operand) (b sz len : Nat) (k : IntKind) (i : Int) (e : TypeId) (h : o.op = .indexAddr t x ix) (hx : evV tm x = .sl b sz len) (hi : evV tm ix = .val (.int k i)) (ht : P.underlying t = some (.slice e))
      (hn : semVal P (sizeOf e) = some sz) (h0 : 0 ≤ i) (h1 : i < len) (hl : (hp.getD b .none).live = true) : OpR P tm hp o ⟨.ptr b i.toNat sz 0, [], [b]⟩
  | len (c : Call) (x : Operand) (t : TypeId) (b sz len : Nat) (e : TypeId) (h : o.op = .call c) (hc : c.callee = .builtin .len) (ha : c.args = #[x]) (hat : c.argTypes = #[t]) (hx : evV tm x = .sl b sz len) (ht : P.underlying t = some (.slice e)) :
      OpR P tm hp o ⟨.val (.int .i64 len), [], []⟩
  | call (c : Call) (f : FuncId) (avs : List AV) (rd : List Nat) (v : Value) (h : o.op = .call c) (hc : c.callee = .value (.func f)) (ha : avsOf hp (c.args.toList.map (evV tm)) = some (avs, rd)) (hC : Contract P f avs (.val v)) :
      OpR P tm hp o ⟨.val v, [], rd⟩
  | callRows (c : Call) (f : FuncId) (avs : List AV) (rd : List Nat) (d n : Nat) (fs : List Fld) (h : o.op = .call c) (hc : c.callee = .value (.func f)) (ha : avsOf hp (c.args.toList.map (evV tm)) = some (avs, rd))
      (hd : o.dst = some d) (hh : hp[d]? = some .none) (hC : Contract P f avs (.rows n fs)) : OpR P tm hp o ⟨.sl d fs.length n, [(d, .ext n fs)], d :: rd⟩
  | rowG (t : TypeId) (len : Nat) (parts : Array (Nat × Operand)) (g : Operand → Value) (d : Nat) (e : TypeId) (sz : Nat) (cells : Array Value) (fs : List Fld) (h : o.op = .buildSlice t len parts) (hd : o.dst = some d) (hh : hp[d]? = some .none)
      (hx : ∀ x ∈ o.op.operands, evV tm x = .val (g x)) (hp' : semVal P (rowParts t len (parts.map fun (i, x) => (i, g x))) = some (e, sz, cells)) (hg : growFs P e sz len cells = some fs) :
      OpR P tm hp o ⟨.sl d sz len, [(d, .grow e len fs)], [d]⟩
  | loadPk (t : TypeId) (x : Operand) (b row sz fld n : Nat) (ps : List PV) (h : o.op = .load t x) (hx : evV tm x = .ptr b row sz fld) (ht : semVal P (isAgg t) = some true) (hn : semVal P (sizeOf t) = some n)
      (hv : readPk hp b row sz fld n = some ps) : OpR P tm hp o ⟨.pk ps, [], [b]⟩
  | storeG (t : TypeId) (x y : Operand) (b row sz fld n : Nat) (e : TypeId) (fs fs' : List Fld) (v : Value) (h : o.op = .store t x y) (hx : evV tm x = .ptr b row sz fld) (hc : hp[b]? = some (.grow e n fs)) (hsz : sz = fs.length)
      (hy : evV tm y = .val v) (hn : semVal P (sizeOf t) = some v.cells.size) (hl : fld + v.cells.size ≤ fs.length) (hset : setFs row fs fld v.cells.toList = some fs') : OpR P tm hp o ⟨.val undef, [(b, .grow e n fs')], [b]⟩
  | make (t e : TypeId) (x y : Operand) (i : TypeInfo) (z : Value) (kl kc : IntKind) (n : Int) (d : Nat) (fs : List Fld) (h : o.op = .makeSlice t x y) (hd : o.dst = some d) (hh : hp[d]? = some .none) (hx : evV tm x = .val (.int kl n)) (hy : evV tm y = .val (.int kc n))
      (ht : P.underlying t = some (.slice e)) (hi : P.info? e = some i) (hz : i.zero = some z) (hzs : z.cells.size = i.size) (hpos : 0 < i.size) (hf : zeroFs z.cells.toList = some fs) (h0 : 0 ≤ n) (h63 : n.toNat ≤ maxLen)
      (hby : n.toNat * i.bytes ≤ 140737488355328) : OpR P tm hp o ⟨.sl d i.size n.toNat, [(d, .grow e n.toNat fs)], [d]⟩
  | app (c : Call) (x y : Operand) (t e : TypeId) (i : TypeInfo) (z : Value) (b d sz n m n1 : Nat) (fs fs2 fs3 : List Fld) (rd2 : List Nat) (h : o.op = .call c) (hc : c.callee = .builtin .append) (ha : c.args = #[x, y]) (hat : c.argTypes = #[t, t])
      (hd : o.dst = some d) (hh : hp[d]? = some .none) (hx : evV tm x = .sl b sz n) (hy : avOf hp (evV tm y) = some (.rows m fs2, rd2)) (hb : hp[b]? = some (.grow e n1 fs))
      (ht : P.underlying t = some (.slice e)) (hi : P.info? e = some i) (hz : i.zero = some z) (hzs : z.cells.size = i.size) (hl1 : fs.length = i.size) (hl2 : fs2.length = i.size) (h3 : catFs n fs fs2 = some fs3)
      (h63 : n + m ≤ maxLen) (hby : (n + m) * i.bytes ≤ 140737488355328) : OpR P tm hp o ⟨.sl d i.size (n + m), [(d, .grow e (n + m) fs3), (b, .gone)], d :: b :: rd2⟩
  | arr (t : TypeId) (x ix : Operand) (b row sz fld len n : Nat) (k : IntKind) (i : Int) (e : TypeId) (h : o.op = .indexAddr t x ix) (hx : evV tm x = .ptr b row sz fld) (hi : evV tm ix = .val (.int k i)) (ht : P.underlying t = some (.array len e))
      (hn : semVal P (sizeOf e) = some n) (h0 : 0 ≤ i) (h1 : i < len) : OpR P tm hp o ⟨.ptr b row sz (fld + i.toNat * n), [], []⟩
  | eqs (op : BinOp) (t yt : TypeId) (x y : Operand) (a b : Array Value) (q : Bool) (h : o.op = .binOp op t x y yt) (hop : op = .eql ∨ op = .neq) (hx : evV tm x = .val (.agg a)) (hy : evV tm y = .val (.agg b)) (hg : P.eqGuardType P.depth t = false)
      (hq : eqV P 10 t (.agg a) (.agg b) = some q) : OpR P tm hp o ⟨.val (.bool (eqSign op q)), [], []⟩
  | strAt (t : TypeId) (x ix : Operand) (s : ByteArray) (k : IntKind) (i : Int) (u : UInt8) (h : o.op = .index t x ix) (hx : evV tm x = .val (.string s)) (hi : evV tm ix = .val (.int k i)) (ht : P.underlying t = some .string)
      (h0 : 0 ≤ i) (hs : s[i.toNat]? = some u) : OpR P tm hp o ⟨.val (.int .u8 u.toNat), [], []⟩
  | gidx (t : TypeId) (x ix : Operand) (g sz len n : Nat) (fs : List Fld) (k : IntKind) (i : Int) (e : TypeId) (h : o.op = .indexAddr t x ix) (hx : evV tm x = .gp g 0 sz 0) (hi : evV tm ix = .val (.int k i)) (ht : P.underlying t = some (.array len e))
      (hn : semVal P (sizeOf e) = some sz) (h0 : 0 ≤ i) (h1 : i < len) (hg : globF g globs = some (n, fs)) (hl : len ≤ n) : OpR P tm hp o ⟨.gp g i.toNat sz 0, [], []⟩
  | gfield (t : TypeId) (x : Operand) (f g row sz fld : Nat) (fs : Array Field) (fl : Field) (n : Nat) (h : o.op = .fieldAddr t x f) (hx : evV tm x = .gp g row sz fld) (ht : P.underlying t = some (.struct fs)) (hf : fs[f]? = some fl)
      (hn : semVal P (sizeOf fl.type) = some (n + 1)) : OpR P tm hp o ⟨.gp g row sz (fld + fl.offset), [], []⟩
  | gload (t : TypeId) (x : Operand) (g row sz fld n : Nat) (fs : List Fld) (f : Fld) (h : o.op = .load t x) (hx : evV tm x = .gp g row sz fld) (ht : semVal P (isAgg t) = some false) (hg : globF g globs = some (n, fs)) (hs : sz = fs.length)
      (hf : fs[fld]? = some f) : OpR P tm hp o ⟨.val (f.at row), [], []⟩
  | tindex (t : TypeId) (x ix : Operand) (dp : Nat) (l : List Tm) (k : IntKind) (i : Int) (e : TypeId) (h : o.op = .indexAddr t x ix) (hx : evV tm x = .tsl dp l) (hi : evV tm ix = .val (.int k i)) (ht : P.underlying t = some (.slice e))
      (hn : semVal P (sizeOf e) = some 1) (h0 : 0 ≤ i) (h1 : i < l.length) : OpR P tm hp o ⟨.tp dp l i.toNat 0, [], []⟩
  | tfield (t : TypeId) (x : Operand) (f dp : Nat) (l : List Tm) (row fld : Nat) (fs : Array Field) (fl : Field) (n : Nat) (h : o.op = .fieldAddr t x f) (hx : evV tm x = .tp dp l row fld) (ht : P.underlying t = some (.struct fs)) (hf : fs[f]? = some fl)
      (hn : semVal P (sizeOf fl.type) = some (n + 1)) : OpR P tm hp o ⟨.tp dp l row (fld + fl.offset), [], []⟩
  | tload (t : TypeId) (x : Operand) (dp : Nat) (l : List Tm) (row fld : Nat) (u : Tm) (v : V) (h : o.op = .load t x) (hx : evV tm x = .tp dp l row fld) (ht : semVal P (isAgg t) = some false) (hu : l[row]? = some u) (hv : tmCell dp u fld = some v) : OpR P tm hp o ⟨v, [], []⟩
  | callT (c : Call) (f : FuncId) (avs : List AV) (rd : List Nat) (dp : Nat) (l : List Tm) (h : o.op = .call c) (hc : c.callee = .value (.func f)) (ha : avsOf hp (c.args.toList.map (evV tm)) = some (avs, rd)) (hC : Contract P f avs (.tsl dp l)) :
      OpR P tm hp o ⟨.tsl dp l, [], rd⟩
  | callG (c : Call) (f : FuncId) (avs : List AV) (rd : List Nat) (d : Nat) (e : TypeId) (dp : Nat) (l : List Tm) (h : o.op = .call c) (hc : c.callee = .value (.func f)) (ha : avsOf hp (c.args.toList.map (evV tm)) = some (avs, rd))
      (hd : o.dst = some d) (hh : hp[d]? = some .none) (hC : Contract P f avs (.gsl e dp l)) : OpR P tm hp o ⟨.sl d 1 l.length, [(d, .growK e dp l)], d :: rd⟩
  | callPk (c : Call) (f : FuncId) (avs : List AV) (rd : List Nat) (l : List PA) (ps : List PV) (h : o.op = .call c) (hc : c.callee = .value (.func f)) (ha : avsOf hp (c.args.toList.map (evV tm)) = some (avs, rd)) (hps : pvOf l = some ps) (hC : Contract P f avs (.pk l)) :
      OpR P tm hp o ⟨.pk ps, [], rd⟩
  | buildPk (t : TypeId) (parts : Array (Nat × Operand)) (fs : Array Field) (z : Value) (places : Array (Nat × Nat)) (ps : List PV) (rd : List Nat) (h : o.op = .build t parts) (hz : semVal P (zeroValue t) = some z) (ht : P.underlying t = some (.struct fs))
      (hpl : semVal P (fieldPlaces fs) = some places) (hf : fillPV tm hp (places[·]?) (z.cells.toList.map .val) parts.toList = some (ps, rd)) : OpR P tm hp o ⟨.pk ps, [], rd⟩
  | rowK (t : TypeId) (len : Nat) (parts : Array (Nat × Operand)) (d : Nat) (e : TypeId) (cells : Array Value) (ps : List PV) (rd : List Nat) (dp : Nat) (l : List Tm) (h : o.op = .buildSlice t len parts) (hd : o.dst = some d) (hh : hp[d]? = some .none)
      (hp' : semVal P (rowHead t len) = some (e, 1, cells)) (hf : fillPV tm hp (fun i => some (i * 1, 1)) (cells.toList.map .val) parts.toList = some (ps, rd)) (hl : tmsOf dp ps = some l) (h63 : len ≤ maxLen) (hlen : l.length = len) :
      OpR P tm hp o ⟨.sl d 1 len, [(d, .growK e dp l)], d :: rd⟩
  | makeK (t e : TypeId) (x y : Operand) (i : TypeInfo) (z : Value) (kl kc : IntKind) (n : Int) (d dp : Nat) (u : Tm) (h : o.op = .makeSlice t x y) (hd : o.dst = some d) (hh : hp[d]? = some .none) (hx : evV tm x = .val (.int kl n)) (hy : evV tm y = .val (.int kc n))
      (ht : P.underlying t = some (.slice e)) (hi : P.info? e = some i) (hz : i.zero = some z) (hzs : z.cells.size = i.size) (h5 : i.size = 1) (hu : tmsOf dp (z.cells.toList.map .val) = some [u]) (h0 : 0 ≤ n) (h63 : n.toNat ≤ maxLen)
      (hby : n.toNat * i.bytes ≤ 140737488355328) : OpR P tm hp o ⟨.sl d 1 n.toNat, [(d, .growK e dp (List.replicate n.toNat u))], [d]⟩
  | storeK (t : TypeId) (x y : Operand) (b row : Nat) (e : TypeId) (dp : Nat) (l : List Tm) (ps : List PV) (rd : List Nat) (u : Tm) (h : o.op = .store t x y) (hx : evV tm x = .ptr b row 1 0) (hc : hp[b]? = some (.growK e dp l)) (hy : cellsPV hp (evV tm y) = some (ps, rd))
      (hn : semVal P (sizeOf t) = some 1) (hu : tmsOf dp ps = some [u]) : OpR P tm hp o ⟨.val undef, [(b, .growK e dp (l.set row u))], b :: rd⟩
  | appK (c : Call) (x y : Operand) (t e : TypeId) (i : TypeInfo) (z : Value) (b d n dp : Nat) (l l2 : List Tm) (rd2 : List Nat) (h : o.op = .call c) (hc : c.callee = .builtin .append) (ha : c.args = #[x, y]) (hat : c.argTypes = #[t, t])
      (hd : o.dst = some d) (hh : hp[d]? = some .none) (hx : evV tm x = .sl b 1 n) (hy : avOf hp (evV tm y) = some (.tsl dp l2, rd2)) (hb : hp[b]? = some (.growK e dp l))
      (ht : P.underlying t = some (.slice e)) (hi : P.info? e = some i) (hz : i.zero = some z) (hzs : z.cells.size = i.size) (h5 : i.size = 1)
      (h63 : n + l2.length ≤ maxLen) (hby : (n + l2.length) * i.bytes ≤ 140737488355328) : OpR P tm hp o ⟨.sl d 1 (n + l2.length), [(d, .growK e dp (l ++ l2)), (b, .gone)], d :: b :: rd2⟩
  | appN (c : Call) (x y : Operand) (t e : TypeId) (i : TypeInfo) (z : Value) (d dp : Nat) (l2 : List Tm) (rd2 : List Nat) (h : o.op = .call c) (hc : c.callee = .builtin .append) (ha : c.args = #[x, y]) (hat : c.argTypes = #[t, t])
      (hd : o.dst = some d) (hh : hp[d]? = some .none) (hx : evV tm x = .val (.slice none 0 0)) (hy : avOf hp (evV tm y) = some (.tsl dp l2, rd2))
      (ht : P.underlying t = some (.slice e)) (hi : P.info? e = some i) (hz : i.zero = some z) (hzs : z.cells.size = i.size) (h5 : i.size = 1)
      (h63 : l2.length ≤ maxLen) (hby : l2.length * i.bytes ≤ 140737488355328) : OpR P tm hp o ⟨.sl d 1 l2.length, [(d, .growK e dp l2)], d :: rd2⟩
  | appNR (c : Call) (x y : Operand) (t e : TypeId) (i : TypeInfo) (z : Value) (d m : Nat) (fs2 : List Fld) (rd2 : List Nat) (h : o.op = .call c) (hc : c.callee = .builtin .append) (ha : c.args = #[x, y]) (hat : c.argTypes = #[t, t])
      (hd : o.dst = some d) (hh : hp[d]? = some .none) (hx : evV tm x = .val (.slice none 0 0)) (hy : avOf hp (evV tm y) = some (.rows m fs2, rd2))
      (ht : P.underlying t = some (.slice e)) (hi : P.info? e = some i) (hz : i.zero = some z) (hzs : z.cells.size = i.size) (hl2 : fs2.length = i.size) (hpos : 0 < i.size)
      (h63 : m ≤ maxLen) (hby : m * i.bytes ≤ 140737488355328) : OpR P tm hp o ⟨.sl d i.size m, [(d, .grow e m fs2)], d :: rd2⟩
  | cutE (t : TypeId) (x y : Operand) (b d sz len n : Nat) (fs : List Fld) (k : IntKind) (i : Int) (e : TypeId) (h : o.op = .slice t x none (some y) none) (hd : o.dst = some d) (hh : hp[d]? = some .none) (hx : evV tm x = .sl b sz len) (hy : evV tm y = .val (.int k i))
      (hb : hp[b]? = some (.ext n fs)) (ht : P.underlying t = some (.slice e)) (hn : semVal P (sizeOf e) = some sz) (h0 : 0 ≤ i) (h1 : i ≤ len) : OpR P tm hp o ⟨.sl d sz i.toNat, [(d, .ext i.toNat fs)], [d, b]⟩
  | cutG (t : TypeId) (x y : Operand) (b d sz len n : Nat) (e' : TypeId) (fs : List Fld) (k : IntKind) (i : Int) (e : TypeId) (h : o.op = .slice t x none (some y) none) (hd : o.dst = some d) (hh : hp[d]? = some .none) (hx : evV tm x = .sl b sz len) (hy : evV tm y = .val (.int k i))
      (hb : hp[b]? = some (.grow e' n fs)) (hs : sz = fs.length) (ht : P.underlying t = some (.slice e)) (hn : semVal P (sizeOf e) = some sz) (h0 : 0 ≤ i) (h1 : i ≤ len) : OpR P tm hp o ⟨.sl d sz i.toNat, [(d, .grow e' i.toNat fs), (b, .gone)], [d, b]⟩
  | cutZ (t : TypeId) (x y : Operand) (b d sz len n : Nat) (e' : TypeId) (fs : List Fld) (k : IntKind) (e : TypeId) (h : o.op = .slice t x (some y) none none) (hd : o.dst = some d) (hh : hp[d]? = some .none) (hx : evV tm x = .sl b sz len) (hy : evV tm y = .val (.int k 0))
      (hb : hp[b]? = some (.grow e' n fs)) (ht : P.underlying t = some (.slice e)) (hn : semVal P (sizeOf e) = some sz) : OpR P tm hp o ⟨.sl d sz len, [(d, .grow e' n fs), (b, .gone)], [d, b]⟩
  | cutL (t : TypeId) (x y : Operand) (b d sz len n : Nat) (e' : TypeId) (fs : List Fld) (k : IntKind) (i : Int) (e : TypeId) (h : o.op = .slice t x (some y) none none) (hd : o.dst = some d) (hh : hp[d]? = some .none) (hx : evV tm x = .sl b sz len) (hy : evV tm y = .val (.int k i))
      (hb : hp[b]? = some (.grow e' n fs)) (hs : sz = fs.length) (ht : P.underlying t = some (.slice e)) (hn : semVal P (sizeOf e) = some sz) (h0 : 0 ≤ i) (h1 : i ≤ len) :
      OpR P tm hp o ⟨.sl d sz (len - i.toNat), [(d, .ext (len - i.toNat) (fs.map (shiftF i.toNat))), (b, .gone)], [d, b]⟩
  | mkClo (f : Nat) (x : Operand) (b : Nat) (cs : List V) (h : o.op = .makeFunc (.func f) #[] #[x]) (hx : evV tm x = .ptr b 0 0 0) : OpR P tm hp o ⟨.clo f b, [], []⟩
  | callClo (c : Call) (x : Operand) (f b : Nat) (avs : List AV) (rd : List Nat) (v : Value) (h : o.op = .call c) (hc : c.callee = .value x) (hx : evV tm x = .clo f b) (ha : avsOf hp (c.args.toList.map (evV tm) ++ [.ptr b 0 0 0]) = some (avs, rd))
      (hC : Contract P f avs (.val v)) : OpR P tm hp o ⟨.val v, [], rd⟩
  | callFv (c : Call) (x : Operand) (f : Nat) (avs : List AV) (rd : List Nat) (v : Value) (h : o.op = .call c) (hc : c.callee = .value x) (hx : evV tm x = .val (.func (.func f) #[] #[])) (ha : avsOf hp (c.args.toList.map (evV tm)) = some (avs, rd))
      (hC : Contract P f avs (.val v)) : OpR P tm hp o ⟨.val v, [], rd⟩
  | extT (x : Operand) (i : Nat) (l : List TV) (p : TV) (h : o.op = .extract x i) (hx : evV tm x = .tup l) (hi : l[i]? = some p) : OpR P tm hp o ⟨p.v, [], []⟩
  | callTup (c : Call) (f : FuncId) (avs : List AV) (rd : List Nat) (l : List TA) (ps : List TV) (h : o.op = .call c) (hc : c.callee = .value (.func f)) (ha : avsOf hp (c.args.toList.map (evV tm)) = some (avs, rd)) (hps : tvOf l = some ps) (hC : Contract P f avs (.tup l)) :
      OpR P tm hp o ⟨.tup ps, [], rd⟩
  | fieldPk (t : TypeId) (x : Operand) (f : Nat) (cs : List PV) (fs : Array Field) (fl : Field) (p : PV) (h : o.op = .field t x f) (hx : evV tm x = .pk cs) (ht : P.underlying t = some (.struct fs)) (hf : fs[f]? = some fl)
      (hn : semVal P (isAgg fl.type) = some false) (hp' : cs[fl.offset]? = some p) : OpR P tm hp o ⟨p.v, [], []⟩
  | tlen (c : Call) (x : Operand) (t : TypeId) (dp : Nat) (l : List Tm) (e : TypeId) (h : o.op = .call c) (hc : c.callee = .builtin .len) (ha : c.args = #[x]) (hat : c.argTypes = #[t]) (hx : evV tm x = .tsl dp l) (ht : P.underlying t = some (.slice e)) :
      OpR P tm hp o ⟨.val (.int .i64 l.length), [], []⟩

/-- .. behind steps that freeze what is handed on. -/
inductive OpX (P : Program) (tm : List V) (o : Oper) : List Blk → Eff → Prop
  | op {hp : List Blk} {E : Eff} (h : OpR P tm hp o E) : OpX P tm o hp E
  | fz {hp : List Blk} (b : Nat) (e : TypeId) (dp : Nat) (l : List Tm) (E : Eff) (hb : hp[b]? = some (.growK e dp l)) (hR : OpX P tm o (hp.set b (.frz dp l)) E) : OpX P tm o hp ⟨E.v, (b, .frz dp l) :: E.wr, b :: E.rd⟩
  | fzc {hp : List Blk} (b0 off b n dp : Nat) (cs : List V) (l : List Tm) (E : Eff) (h0 : hp[b0]? = some (.own cs)) (hc : cs[off]? = some (.sl b 1 n)) (hb : hp[b]? = some (.frz dp l)) (hR : OpX P tm o (hp.set b0 (.own (cs.set off (.tsl dp l)))) E) :
      OpX P tm o hp ⟨E.v, (b0, .own (cs.set off (.tsl dp l))) :: E.wr, b0 :: b :: E.rd⟩

def RelE (w0 : W0) (s : St) (a : Act) (w : World) : Prop := ∃ ρ, Rel ρ w0 s a w

theorem wp_val {P : Program} {o : Oper} {a : Act} {w w' : World} {K : Act → World → Prop} {Q : Exit → Act → World → Prop} {x : Value} (h : (execOp a.eval o).run P w = .ok (.value x) w') (hk : K (a.put o.dst x) w') : o.wp P a w K Q := by
  unfold Oper.wp; rw [h]; exact hk
theorem wp_skipped {P : Program} {o : Oper} {a : Act} {w w' : World} {K : Act → World → Prop} {Q : Exit → Act → World → Prop} (h : (execOp a.eval o).run P w = .ok .skip w') (hk : K (a.put o.dst undef) w') : o.wp P a w K Q := by
  unfold Oper.wp; rw [h]; exact hk

theorem addr_add (b o n : Nat) : (⟨b, o, none⟩ : Addr).add n = ⟨b, o + n, none⟩ := by
  unfold Addr.add; split
  · rename_i h; subst h; rfl
  · rfl
theorem addr_add' {ad : Addr} (h : ad.spot = none) (n : Nat) : ad.add n = ⟨ad.block, ad.off + n, none⟩ := by
  obtain ⟨b, o, s⟩ := ad; cases h; exact addr_add b o n

section
variable {P : Program} {ρ : Rho} {w0 : W0} {s : St} {a : Act} {w : World}

theorem grow_addr {B : Nat} {e : TypeId} {sz n c : Nat} {A : Option Addr} {xs : List Value} (h : w.ownsRow B e sz (.slice A n c) n xs) {ad : Addr} (had : A = some ad) : ad.off = 0 ∧ ad.spot = none ∧ B ≤ ad.block ∧ ad.block < w.heap.size := by
  subst had
  have hl := h.lt ad.block rfl
  rcases h.2 with ⟨hv, _⟩ | ⟨g, cap, cur, hv, _⟩
  · cases hv
  · simp only [Value.slice.injEq, Option.some.injEq] at hv
    obtain ⟨rfl, _⟩ := hv
    exact ⟨rfl, rfl, hl⟩
theorem grow_some {B : Nat} {e : TypeId} {sz n c : Nat} {A : Option Addr} {xs : List Value} (h : w.ownsRow B e sz (.slice A n c) n xs) (hn : 0 < n) : ∃ g, A = some ⟨g, 0, none⟩ := by
  rcases h.2 with ⟨hv, h0⟩ | ⟨g, cap, cur, hv, _⟩
  · omega
  · simp only [Value.slice.injEq] at hv
    exact ⟨g, hv.1⟩

theorem KidsAt.get {fz : Nat → Option Obj} {dp : Nat} {A : Option Addr} : ∀ {l : List Tm} {i j : Nat} {t : Tm}, KidsAt fz dp A i l → l[j]? = some t → ∃ ad, A = some ad ∧ ad.spot = none ∧ TmAt fz dp (fun q => fzCell fz ad.block (ad.off + ((i + j) * 1 + q))) t
  | [], i, j, t, _, hj => by simp at hj
  | u :: l, i, 0, t, h, hj => by
    simp only [List.getElem?_cons_zero, Option.some.injEq] at hj; subst hj
    exact h.cons.1
  | u :: l, i, j + 1, t, h, hj => by
    have := KidsAt.get h.cons.2 (by simpa using hj)
    rwa [show i + 1 + j = i + (j + 1) by omega] at this
/-- A callee has run, and more blocks are frozen. -/
theorem Rel.fzMore (h : Rel ρ w0 s a w) {w' : World} {fz' : Nat → Option Obj} (hb : Below w.heap.size w w') (hf : FzW fz' w') (hn : FzNew ρ.fz fz' w.heap.size) : leR ρ ⟨ρ.f, fz'⟩ ∧ Rel ⟨ρ.f, fz'⟩ w0 s a w' := by
  have hl : leR ρ ⟨ρ.f, fz'⟩ := ⟨fun _ _ h => h, hn.1⟩
  refine ⟨hl, { defers := h.defers, tm := h.tm.mono hl, sep := h.sep, laid := h.laid
                hp := fun b => ((h.hp b).mono hl (fun _ => rfl)).of_blocks hb.size fun k hk _ _ _ _ _ _ => hb.block k hk
                below := h.below.trans (hb.mono h.below.size), fz := hf
                fzO := fun k o hk => ?_, fz0 := fun k o hk => hn.1 k o (h.fz0 k o hk), sepF := fun b r ad ho hr had => ?_ }⟩
  · rcases hn.2 k o hk with h1 | h1
    · exact h.fzO k o h1
    · exact .inr (Nat.le_trans h.below.size h1)
  · cases hq : fz' ad.block with
    | none => exact hq
    | some o =>
      rcases hn.2 _ o hq with h1 | h1
      · have := h.sepF b r ad ho hr had; rw [h1] at this; cases this
      · have := (h.block_lt ho hr had).1; omega
theorem Rel.fzCell (h : Rel ρ w0 s a w) {k o : Nat} {y : Value} (hy : Ev.fzCell ρ.fz k o = some y) : w.cell? ⟨k, o, none⟩ = some y := by
  unfold Ev.fzCell at hy
  split at hy
  · rename_i c e f hk
    have := h.fz k _ hk
    simp [World.cell?, this, hy]
  · cases hy
theorem tmCell_sound {ρ : Rho} {dp : Nat} {cells : Nat → Option Value} {t : Tm} {j : Nat} {v : V} (h : TmAt ρ.fz dp cells t) (hc : tmCell dp t j = some v) : ∃ y, cells j = some y ∧ VRel ρ v y := by
  match j with
  | 0 =>
    match dp with
    | 0 => simp only [tmCell, Option.some.injEq] at hc; subst hc; unfold TmAt at h; exact ⟨_, h, rfl⟩
    | d + 1 => simp only [tmCell, Option.some.injEq] at hc; subst hc; unfold TmAt at h; obtain ⟨A, c, h4, hk⟩ := h; exact ⟨_, h4, A, c, rfl, hk⟩
  | j + 1 => simp [tmCell] at hc
theorem readV_sound (h : Rel ρ w0 s a w) {b row sz fld : Nat} {v : V} (hv : readV s.hp b row sz fld = some v) {r : RB} {ad : Addr} (hr : ρ b = some r) (had : r.addr = some ad) (hlim : ∀ n, r.lim = some n → row < n) :
    ∃ y, w.cell? ⟨ad.block, ad.off + (row * sz + fld), none⟩ = some y ∧ VRel ρ v y := by
  have hb := h.hp b
  unfold readV at hv
  cases hx : s.hp.getD b .none with
  | none => rw [hx] at hv; cases hv
  | gone => rw [hx] at hv; cases hv
  | own cs =>
    rw [hx] at hv hb
    obtain ⟨r', k, e, c, h1, h2, hm, h3, h4, h5⟩ := hb
    rw [hr] at h1; cases h1
    rw [had] at h2; cases h2
    obtain ⟨y, hy, hvr⟩ := h5.2 _ _ hv
    refine ⟨y, ?_, hvr⟩
    rw [cell_of_row w k _ c e _ h4, Nat.zero_add]; exact hy
  | ro cs =>
    rw [hx] at hv hb
    obtain ⟨r', ad', h1, h2, hs, hm, h3, h4⟩ := hb
    rw [hr] at h1; cases h1
    rw [had] at h2; cases h2
    exact h4 _ _ hv
  | ext n fs =>
    rw [hx] at hv hb
    obtain ⟨r', h1, hm, hle, h2⟩ := hb
    rw [hr] at h1; cases h1
    have hrow := hlim n hm
    obtain ⟨ad', h3, h4, h5, h6⟩ := h2 (by omega)
    rw [had] at h3; cases h3
    simp only at hv
    split at hv
    · rename_i hsz; subst hsz
      cases hg : fs[fld]? with
      | none => rw [hg] at hv; cases hv
      | some g =>
        rw [hg] at hv
        simp only [Option.map_some, Option.some.injEq] at hv
        subst hv
        exact ⟨_, h6 row hrow fld g hg, rfl⟩
    · cases hv
  | grow e n fs =>
    rw [hx] at hv hb
    obtain ⟨r', xs, h1, hm, hp, ho, hf⟩ := hb
    rw [hr] at h1; cases h1
    have hrow := hlim n hm
    simp only at hv
    split at hv
    · rename_i hsz; subst hsz
      cases hg : fs[fld]? with
      | none => rw [hg] at hv; cases hv
      | some g =>
        rw [hg] at hv
        simp only [Option.map_some, Option.some.injEq] at hv
        subst hv
        refine ⟨_, ?_, rfl⟩
        have hc := ho.cells (g := ad.block) (by rw [had]; rfl) _ _ (hf row hrow fld g hg)
        have hof := grow_addr ho had
        rw [addr_add, Nat.zero_add] at hc
        rw [hof.1, Nat.zero_add]; exact hc
    · cases hv
  | growK e dp l =>
    rw [hx] at hv hb
    obtain ⟨r', xs, h1, hm, ho, hf⟩ := hb
    rw [hr] at h1; cases h1
    simp only at hv
    split at hv
    · rename_i hsz; subst hsz
      obtain ⟨t, ht, hc⟩ := Option.bind_eq_some_iff.1 hv
      obtain ⟨y, hy, hvy⟩ := tmCell_sound (hf row t ht) hc
      refine ⟨y, ?_, hvy⟩
      have hc := ho.cells (g := ad.block) (by rw [had]; rfl) _ _ hy
      have hof := grow_addr ho had
      rw [addr_add, Nat.zero_add] at hc
      rw [hof.1, Nat.zero_add]; exact hc
    · cases hv
  | frz dp l =>
    rw [hx] at hv hb
    obtain ⟨r', h1, hm, hk⟩ := hb
    rw [hr] at h1; cases h1
    simp only at hv
    split at hv
    · rename_i hsz; subst hsz
      obtain ⟨t, ht, hc⟩ := Option.bind_eq_some_iff.1 hv
      obtain ⟨ad', e1, e2, hT⟩ := hk.get ht
      rw [had] at e1; cases e1
      obtain ⟨y, hy, hvy⟩ := tmCell_sound hT hc
      refine ⟨y, ?_, hvy⟩
      have := h.fzCell hy
      rw [Nat.zero_add] at this; exact this
    · cases hv

theorem readAgg_sound (h : Rel ρ w0 s a w) {b row sz : Nat} {r : RB} {ad : Addr} (hr : ρ b = some r) (had : r.addr = some ad) (hlim : ∀ n, r.lim = some n → row < n) : ∀ (n fld : Nat) (vs : List Value), readAgg s.hp b row sz fld n = some vs →
    vs.length = n ∧ ∀ (j : Nat) (v : Value), vs[j]? = some v → w.cell? ⟨ad.block, ad.off + (row * sz + fld) + j, none⟩ = some v
  | 0, fld, vs, hv => by
    simp only [readAgg, Option.some.injEq] at hv; subst hv
    exact ⟨rfl, fun j v hj => by simp at hj⟩
  | n + 1, fld, vs, hv => by
    simp only [readAgg] at hv
    cases hq : readV s.hp b row sz fld with
    | none => rw [hq] at hv; cases hv
    | some q =>
      rw [hq] at hv
      cases q with
      | val x =>
        simp only at hv
        cases hl : readAgg s.hp b row sz (fld + 1) n with
        | none => rw [hl] at hv; cases hv
        | some l =>
          rw [hl] at hv
          simp only [Option.map_some, Option.some.injEq] at hv
          subst hv
          obtain ⟨h1, h2⟩ := readAgg_sound h hr had hlim n (fld + 1) l hl
          refine ⟨by simp [h1], fun j v hj => ?_⟩
          cases j with
          | zero =>
            simp only [List.getElem?_cons_zero, Option.some.injEq] at hj; subst hj
            obtain ⟨y, hy, hvr⟩ := readV_sound h hq hr had hlim
            cases hvr
            exact hy
          | succ j =>
            simp only [List.getElem?_cons_succ] at hj
            have := h2 j v hj
            rwa [show ad.off + (row * sz + fld) + (j + 1) = ad.off + (row * sz + (fld + 1)) + j by omega]
      | _ => cases hv

theorem mapVal_rel (ρ : Rho) (c : Array Value) : TRel ρ (c.toList.map .val) c := by
  refine ⟨by simp, fun i v hv => ?_⟩
  simp only [List.getElem?_map, Array.getElem?_toList] at hv
  cases hc : c[i]? with
  | none => rw [hc] at hv; cases hv
  | some x => rw [hc] at hv; simp only [Option.map_some, Option.some.injEq] at hv; subst hv; exact ⟨x, rfl, rfl⟩
end

end Go.Proofs.YtkmehmlcccdnbaaDoor.Ev
