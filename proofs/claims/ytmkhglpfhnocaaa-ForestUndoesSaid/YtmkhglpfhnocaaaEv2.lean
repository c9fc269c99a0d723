/- The rules of one operation: what it makes of a state, and that the model does so. -/
import Derived.Test.YtmkhglpfhnocaaaEv
import Derived.Laws.Entries
import Derived.Laws.StructEq
namespace Go.Proofs.Ytmkhglpfhnocaaa.Ev
open Go Go.RowKit
set_option linter.unusedVariables false
set_option linter.unusedSimpArgs false

/-! ### what needs no world -/
def semVal {α : Type} (P : Program) : Sem α → Option α
  | .pure a => some a
  | .program k => semVal P (k P)
  | .mark _ k => semVal P k
  | _ => none
theorem semVal_run {α : Type} {P : Program} {x : Sem α} {a : α} (h : semVal P x = some a) (w : World) : x.run P w = .ok a w := by
  induction x with
  | pure b => simp only [semVal, Option.some.injEq] at h; subst h; rfl
  | program k ih => exact ih P (by simpa only [semVal] using h)
  | mark m k ih => exact ih (by simpa only [semVal] using h)
  | _ => simp [semVal] at h

/-! ### arguments and results -/
/-- A value, or a slice told by its rows: how many, and what each field of a row holds. -/
inductive PA where
  | val (v : Value)
  | rows (n : Nat) (fs : List Fld)
inductive AV where
  | val (v : Value)
  | rows (n : Nat) (fs : List Fld)
  | pk (l : List PA)

def RowsAt (w : World) (B : Nat) (A : Option Addr) (n : Nat) (fs : List Fld) : Prop :=
  0 < n → ∃ ad, A = some ad ∧ ad.spot = none ∧ B ≤ ad.block ∧ ad.block < w.heap.size ∧ ∀ i, i < n → ∀ j g, fs[j]? = some g → w.cell? ⟨ad.block, ad.off + (i * fs.length + j), none⟩ = some (g.at i)
def PARel (w : World) (B : Nat) (x : Value) : PA → Prop
  | .val v => x = v
  | .rows n fs => ∃ A c, x = .slice A n c ∧ RowsAt w B A n fs
def AVRel (w : World) (B : Nat) (x : Value) : AV → Prop
  | .val v => x = v
  | .rows n fs => ∃ A c, x = .slice A n c ∧ RowsAt w B A n fs
  | .pk l => ∃ c : Array Value, x = .agg c ∧ l.length = c.size ∧ ∀ (i : Nat) (p : PA), l[i]? = some p → ∃ y, c[i]? = some y ∧ PARel w B y p
def ArgsRel (w : World) (xs : Array Value) (avs : List AV) : Prop := avs.length = xs.size ∧ ∀ (i : Nat) (av : AV), avs[i]? = some av → ∃ x : Value, xs[i]? = some x ∧ AVRel w 0 x av

def CallOk (P : Program) (f : FuncId) (args : Array Value) (w : World) (R : Value → World → Prop) : Prop :=
  match (callFunc f args).run P w with
  | .ok (.enter g as) w' => w' = w ∧ Calls P g as w fun e w'' => ∃ x, e = .returned x ∧ R x w''
  | .ok (.value v) w' => R v w'
  | _ => False
/-- With these arguments the function returns this, and of what was there nothing has turned. -/
def Contract (P : Program) (f : FuncId) (avs : List AV) (r : AV) : Prop :=
  ∀ w args, LaidW w → ArgsRel w args avs → CallOk P f args w fun x w' => Below w.heap.size w w' ∧ AVRel w' w.heap.size x r

/-! ### the effect of an operation -/
structure Eff where
  v : V
  wr : List (Nat × Blk)
  rd : List Nat
def wrote (hp : List Blk) : List (Nat × Blk) → List Blk
  | [] => hp
  | (b, x) :: l => wrote (hp.set b x) l
def St.app (s : St) (dst : Option Tmp) (E : Eff) : St := ⟨putV s.tm dst E.v, wrote s.hp E.wr⟩

def readV (hp : List Blk) (b row sz fld : Nat) : Option V :=
  match hp.getD b .none with
  | .own cs => cs[row * sz + fld]?
  | .ext n fs => if sz = fs.length then (fs[fld]?).map fun g => .val (g.at row) else none
  | .grow e n fs => if sz = fs.length then (fs[fld]?).map fun g => .val (g.at row) else none
  | _ => none
def readAgg (hp : List Blk) (b row sz : Nat) : Nat → Nat → Option (List Value)
  | _, 0 => some []
  | fld, n + 1 =>
    match readV hp b row sz fld with
    | some (.val v) => (readAgg hp b row sz (fld + 1) n).map (v :: ·)
    | _ => none
def cellsV : V → Option (List V)
  | .val v => if v.cells.all (·.oneCell') then some (v.cells.toList.map .val) else none
  | .ptr b row sz fld => some [.ptr b row sz fld]
  | .sl b sz len => some [.sl b sz len]
  | .pk _ => none
  | .unk => none
  | .gp .. => none
def allVals : List V → Option (List Value)
  | [] => some []
  | .val v :: l => (allVals l).map (v :: ·)
  | _ => none
def col (vs : List Value) (sz len j : Nat) : List Value := (List.range len).map fun i => vs.getD (i * sz + j) undef
def intsOf (k : IntKind) : List Value → Option (List Int)
  | [] => some []
  | .int k' a :: l => if k' = k then (intsOf k l).map (a :: ·) else none
  | _ => none
def boolsOf : List Value → Option (List Bool)
  | [] => some []
  | .bool a :: l => (boolsOf l).map (a :: ·)
  | _ => none
def strsOf : List Value → Option (List ByteArray)
  | [] => some []
  | .string a :: l => (strsOf l).map (a :: ·)
  | _ => none
def fldOf : List Value → Option Fld
  | .int k a :: l => (intsOf k (.int k a :: l)).map fun xs => .int k fun i => xs.getD i 0
  | .bool a :: l => (boolsOf (.bool a :: l)).map fun xs => .bool fun i => xs.getD i false
  | .string a :: l => (strsOf (.string a :: l)).map fun xs => .str fun i => xs.getD i ⟨#[]⟩
  | _ => none
def fldsOf (vs : List Value) (sz len : Nat) : Nat → Nat → Option (List Fld)
  | _, 0 => some []
  | j, m + 1 =>
    match fldOf (col vs sz len j), fldsOf vs sz len (j + 1) m with
    | some f, some fs => some (f :: fs)
    | _, _ => none
def avOf0 (hp : List Blk) : V → Option (AV × List Nat)
  | .val v => some (.val v, [])
  | .sl b sz len =>
    match hp.getD b .none with
    | .ext n fs => some (.rows len fs, [b])
    | .grow e n fs => some (.rows len fs, [b])
    | .own cs =>
      match allVals cs with
      | some vs =>
        if len * sz ≤ vs.length then
          match fldsOf vs sz len 0 sz with
          | some fs => some (.rows len fs, [b])
          | none => none
        else none
      | none => none
    | _ => none
  | _ => none
def pasOf (hp : List Blk) : List PV → Option (List PA × List Nat)
  | [] => some ([], [])
  | .val v :: l =>
    match pasOf hp l with
    | some (ps, rd) => some (.val v :: ps, rd)
    | none => none
  | .sl b sz len :: l =>
    match avOf0 hp (.sl b sz len), pasOf hp l with
    | some (.rows n fs, r), some (ps, rd) => some (.rows n fs :: ps, r ++ rd)
    | _, _ => none
def avOf (hp : List Blk) (v : V) : Option (AV × List Nat) :=
  match v with
  | .pk cs =>
    match pasOf hp cs with
    | some (ps, rd) => some (.pk ps, rd)
    | none => none
  | v => avOf0 hp v
def cellPV : V → Option PV
  | .val v => some (.val v)
  | .sl b sz len => some (.sl b sz len)
  | _ => none
def readPk (hp : List Blk) (b row sz : Nat) : Nat → Nat → Option (List PV)
  | _, 0 => some []
  | fld, n + 1 =>
    match readV hp b row sz fld with
    | some v =>
      match cellPV v, readPk hp b row sz (fld + 1) n with
      | some p, some l => some (p :: l)
      | _, _ => none
    | none => none
/-- A field with another value in one row. -/
def upd {α : Type} (row : Nat) (v : α) (g : Nat → α) (i : Nat) : α := bif Nat.beq i row then v else g i
def setF (row : Nat) : Fld → Value → Option Fld
  | .int k g, .int k' a => if k = k' then some (.int k (upd row a g)) else none
  | .bool g, .bool b => some (.bool (upd row b g))
  | _, _ => none
def setFs (row : Nat) : List Fld → Nat → List Value → Option (List Fld)
  | fs, _, [] => some fs
  | f :: fs, 0, v :: vs =>
    match setF row f v, setFs row fs 0 vs with
    | some g, some gs => some (g :: gs)
    | _, _ => none
  | f :: fs, j + 1, vs => (setFs row fs j vs).map (f :: ·)
  | [], _, _ :: _ => none
/-- The fields of a made slice: all nought. -/
def zeroF : Value → Option Fld
  | .int k a => if a = 0 then some (.int k fun _ => 0) else none
  | .bool b => bif b then none else some (.bool fun _ => false)
  | _ => none
def zeroFs : List Value → Option (List Fld)
  | [] => some []
  | v :: l =>
    match zeroF v, zeroFs l with
    | some f, some fs => some (f :: fs)
    | _, _ => none
def avsOf (hp : List Blk) : List V → Option (List AV × List Nat)
  | [] => some ([], [])
  | v :: l =>
    match avOf hp v, avsOf hp l with
    | some (x, r), some (xs, rs) => some (x :: xs, r ++ rs)
    | _, _ => none
def rowParts (t : TypeId) (len : Nat) (parts : Array (Nat × Value)) : Sem (TypeId × Nat × Array Value) := do
  let .slice elem ← underlying t | stuck "buildSlice: slice type expected"
  let size ← sizeOf elem
  if len * size > 2 ^ 24 then unsupported (.resourceLimit "buildSlice: more than 2^24 cells")
  let zero ← if len * size = 0 then pure #[] else do pure (← zeroValue elem).cells
  let some cells := Instr.fill (fun i => some (i * size, size)) ((Array.range (len * size)).map (zero[· % zero.size]!)) parts.toList
    | stuck "buildSlice: a part of the wrong size"
  pure (elem, size, cells)

def eqStep (P : Program) (eqf : TypeId → Value → Value → Option Bool) (xs ys : Array Value) (f : Field) (r : Option Bool) : Option Bool :=
  if f.name ≠ "_" then
    match semVal P (part f.type xs f.offset), semVal P (part f.type ys f.offset), r with
    | some a, some b, some q => (eqf f.type a b).map fun e => e && q
    | _, _, _ => none
  else r
def eqSign (op : BinOp) (q : Bool) : Bool :=
  match op with
  | .eql => q
  | _ => !q
/-- Whether two values are equal: numbers, truth values, structs of such. -/
def eqV (P : Program) : Nat → TypeId → Value → Value → Option Bool
  | 0, _, _, _ => none
  | d + 1, t, .int k a, .int k' b => match P.underlying t with | some (.int _) => if k = k' then some (a == b) else none | _ => none
  | d + 1, t, .bool a, .bool b => match P.underlying t with | some .bool => some (a == b) | _ => none
  | d + 1, t, .agg xs, .agg ys =>
    match P.underlying t with
    | some (.struct fs) =>
      if P.stoodInHeld t = false then fs.toList.foldr (eqStep P (eqV P d) xs ys) (some true) else none
    | _ => none
  | _, _, _, _ => none
/-- The fields of a slice that is made: of no rows the zero value's. -/
def growFs (P : Program) (e : TypeId) (sz len : Nat) (cells : Array Value) : Option (List Fld) :=
  if 0 < sz ∧ cells.size = len * sz ∧ len ≤ maxLen then
    match len with
    | 0 =>
      match semVal P (zeroValue e) with
      | some z => if z.cells.size = sz then fldsOf z.cells.toList sz 1 0 sz else none
      | none => none
    | len => fldsOf cells.toList sz len 0 sz
  else none
/-- A field of two slices laid end to end. -/
def catF (n : Nat) : Fld → Fld → Option Fld
  | .int k g, .int k' g' => if k = k' then some (.int k fun i => bif Nat.blt i n then g i else g' (i - n)) else none
  | .bool g, .bool g' => some (.bool fun i => bif Nat.blt i n then g i else g' (i - n))
  | .str g, .str g' => some (.str fun i => bif Nat.blt i n then g i else g' (i - n))
  | _, _ => none
def catFs (n : Nat) : List Fld → List Fld → Option (List Fld)
  | [], [] => some []
  | f :: l, f' :: l' =>
    match catF n f f', catFs n l l' with
    | some g, some gs => some (g :: gs)
    | _, _ => none
  | _, _ => none

inductive OpR (P : Program) (tm : List V) (hp : List Blk) (o : Oper) : Eff → Prop
  | copy (x : Operand) (h : o.op = .move x ∨ o.op = .assign x) : OpR P tm hp o ⟨evV tm x, [], []⟩
  | pick (c x y : Operand) (t : Bool) (h : o.op = .pick c x y) (hc : evV tm c = .val (.bool t)) : OpR P tm hp o ⟨if t then evV tm x else evV tm y, [], []⟩
  | pure (g : Operand → Value) (v : Value) (hs : ∀ cs b, o.op ≠ .select cs b) (h : ∀ x ∈ o.op.operands, evV tm x = .val (g x)) (hv : semVal P (execOp g o) = some (.value v)) : OpR P tm hp o ⟨.val v, [], []⟩
  | alloc (t : TypeId) (d : Nat) (z : Value) (h : o.op = .alloc t) (hd : o.dst = some d) (hh : hp[d]? = some .none) (hz : semVal P (zeroValue t) = some z) :
      OpR P tm hp o ⟨.ptr d 0 0 0, [(d, .own (z.cells.toList.map .val))], [d]⟩
  | box (t : TypeId) (x : Operand) (d : Nat) (v : Value) (h : o.op = .box t x) (hd : o.dst = some d) (hh : hp[d]? = some .none) (hx : evV tm x = .val v) :
      OpR P tm hp o ⟨.ptr d 0 0 0, [(d, .own (v.cells.toList.map .val))], [d]⟩
  | boxPk (t : TypeId) (x : Operand) (d : Nat) (cs : List PV) (h : o.op = .box t x) (hd : o.dst = some d) (hh : hp[d]? = some .none) (hx : evV tm x = .pk cs) :
      OpR P tm hp o ⟨.ptr d 0 0 0, [(d, .own (cs.map PV.v))], [d]⟩
  | row (t : TypeId) (len : Nat) (parts : Array (Nat × Operand)) (g : Operand → Value) (d : Nat) (e : TypeId) (sz : Nat) (cells : Array Value) (h : o.op = .buildSlice t len parts) (hd : o.dst = some d) (hh : hp[d]? = some .none)
      (hx : ∀ x ∈ o.op.operands, evV tm x = .val (g x)) (hp' : semVal P (rowParts t len (parts.map fun (i, x) => (i, g x))) = some (e, sz, cells)) :
      OpR P tm hp o ⟨.sl d sz len, [(d, .own (cells.toList.map .val))], [d]⟩
  | load (t : TypeId) (x : Operand) (b row sz fld : Nat) (v : V) (h : o.op = .load t x) (hx : evV tm x = .ptr b row sz fld) (ht : semVal P (isAgg t) = some false) (hv : readV hp b row sz fld = some v) : OpR P tm hp o ⟨v, [], [b]⟩
  | loadAgg (t : TypeId) (x : Operand) (b row sz fld n : Nat) (vs : List Value) (h : o.op = .load t x) (hx : evV tm x = .ptr b row sz fld) (ht : semVal P (isAgg t) = some true) (hn : semVal P (sizeOf t) = some n)
      (hv : readAgg hp b row sz fld n = some vs) : OpR P tm hp o ⟨.val (.agg vs.toArray), [], [b]⟩
  | store (t : TypeId) (x y : Operand) (b row sz fld : Nat) (cs ws : List V) (h : o.op = .store t x y) (hx : evV tm x = .ptr b row sz fld) (hc : hp[b]? = some (.own cs)) (hw : cellsV (evV tm y) = some ws)
      (hn : semVal P (sizeOf t) = some ws.length) (hl : row * sz + fld + ws.length ≤ cs.length) : OpR P tm hp o ⟨.val undef, [(b, .own (cs.take (row * sz + fld) ++ ws ++ cs.drop (row * sz + fld + ws.length)))], [b]⟩
  | field (t : TypeId) (x : Operand) (f b row sz fld : Nat) (fs : Array Field) (fl : Field) (n : Nat) (h : o.op = .fieldAddr t x f) (hx : evV tm x = .ptr b row sz fld) (ht : P.underlying t = some (.struct fs)) (hf : fs[f]? = some fl)
      (hn : semVal P (sizeOf fl.type) = some (n + 1)) : OpR P tm hp o ⟨.ptr b row sz (fld + fl.offset), [], []⟩
  | index (t : TypeId) (x ix : Operand) (b sz len : Nat) (k : IntKind) (i : Int) (e : TypeId) (h : o.op = .indexAddr t x ix) (hx : evV tm x = .sl b sz len) (hi : evV tm ix = .val (.int k i)) (ht : P.underlying t = some (.slice e))
      (hn : semVal P (sizeOf e) = some sz) (h0 : 0 ≤ i) (h1 : i < len) (hl : (hp.getD b .none).live = true) : OpR P tm hp o ⟨.ptr b i.toNat sz 0, [], [b]⟩
  | len (c : Call) (x : Operand) (t : TypeId) (b sz len : Nat) (e : TypeId) (h : o.op = .call c) (hc : c.callee = .builtin .len) (ha : c.args = #[x]) (hat : c.argTypes = #[t]) (hx : evV tm x = .sl b sz len) (ht : P.underlying t = some (.slice e)) :
      OpR P tm hp o ⟨.val (.int .i64 len), [], []⟩
  | call (c : Call) (f : FuncId) (avs : List AV) (rd : List Nat) (v : Value) (h : o.op = .call c) (hc : c.callee = .value (.func f)) (ha : avsOf hp (c.args.toList.map (evV tm)) = some (avs, rd)) (hC : Contract P f avs (.val v)) :
      OpR P tm hp o ⟨.val v, [], rd⟩
  | callRows (c : Call) (f : FuncId) (avs : List AV) (rd : List Nat) (d n : Nat) (fs : List Fld) (h : o.op = .call c) (hc : c.callee = .value (.func f)) (ha : avsOf hp (c.args.toList.map (evV tm)) = some (avs, rd))
      (hd : o.dst = some d) (hh : hp[d]? = some .none) (hC : Contract P f avs (.rows n fs)) : OpR P tm hp o ⟨.sl d fs.length n, [(d, .ext n fs)], d :: rd⟩
  | rowG (t : TypeId) (len : Nat) (parts : Array (Nat × Operand)) (g : Operand → Value) (d : Nat) (e : TypeId) (sz : Nat) (cells : Array Value) (fs : List Fld) (h : o.op = .buildSlice t len parts) (hd : o.dst = some d) (hh : hp[d]? = some .none)
      (hx : ∀ x ∈ o.op.operands, evV tm x = .val (g x)) (hp' : semVal P (rowParts t len (parts.map fun (i, x) => (i, g x))) = some (e, sz, cells)) (hg : growFs P e sz len cells = some fs) :
      OpR P tm hp o ⟨.sl d sz len, [(d, .grow e len fs)], [d]⟩
  | loadPk (t : TypeId) (x : Operand) (b row sz fld n : Nat) (ps : List PV) (h : o.op = .load t x) (hx : evV tm x = .ptr b row sz fld) (ht : semVal P (isAgg t) = some true) (hn : semVal P (sizeOf t) = some n)
      (hv : readPk hp b row sz fld n = some ps) : OpR P tm hp o ⟨.pk ps, [], [b]⟩
  | storeG (t : TypeId) (x y : Operand) (b row sz fld n : Nat) (e : TypeId) (fs fs' : List Fld) (v : Value) (h : o.op = .store t x y) (hx : evV tm x = .ptr b row sz fld) (hc : hp[b]? = some (.grow e n fs)) (hsz : sz = fs.length)
      (hy : evV tm y = .val v) (hn : semVal P (sizeOf t) = some v.cells.size) (hl : fld + v.cells.size ≤ fs.length) (hset : setFs row fs fld v.cells.toList = some fs') : OpR P tm hp o ⟨.val undef, [(b, .grow e n fs')], [b]⟩
  | make (t e : TypeId) (x y : Operand) (i : TypeInfo) (z : Value) (kl kc : IntKind) (n : Int) (d : Nat) (fs : List Fld) (h : o.op = .makeSlice t x y) (hd : o.dst = some d) (hh : hp[d]? = some .none) (hx : evV tm x = .val (.int kl n)) (hy : evV tm y = .val (.int kc n))
      (ht : P.underlying t = some (.slice e)) (hi : P.info? e = some i) (hz : i.zero = some z) (hzs : z.cells.size = i.size) (hpos : 0 < i.size) (hf : zeroFs z.cells.toList = some fs) (h0 : 0 ≤ n) (h63 : n.toNat ≤ maxLen)
      (hby : n.toNat * i.bytes ≤ 140737488355328) : OpR P tm hp o ⟨.sl d i.size n.toNat, [(d, .grow e n.toNat fs)], [d]⟩
  | app (c : Call) (x y : Operand) (t e : TypeId) (i : TypeInfo) (z : Value) (b d sz n m n1 : Nat) (fs fs2 fs3 : List Fld) (rd2 : List Nat) (h : o.op = .call c) (hc : c.callee = .builtin .append) (ha : c.args = #[x, y]) (hat : c.argTypes = #[t, t])
      (hd : o.dst = some d) (hh : hp[d]? = some .none) (hx : evV tm x = .sl b sz n) (hy : avOf hp (evV tm y) = some (.rows m fs2, rd2)) (hb : hp[b]? = some (.grow e n1 fs))
      (ht : P.underlying t = some (.slice e)) (hi : P.info? e = some i) (hz : i.zero = some z) (hzs : z.cells.size = i.size) (hl1 : fs.length = i.size) (hl2 : fs2.length = i.size) (h3 : catFs n fs fs2 = some fs3)
      (h63 : n + m ≤ maxLen) (hby : (n + m) * i.bytes ≤ 140737488355328) : OpR P tm hp o ⟨.sl d i.size (n + m), [(d, .grow e (n + m) fs3), (b, .gone)], d :: b :: rd2⟩
  | arr (t : TypeId) (x ix : Operand) (b row sz fld len n : Nat) (k : IntKind) (i : Int) (e : TypeId) (h : o.op = .indexAddr t x ix) (hx : evV tm x = .ptr b row sz fld) (hi : evV tm ix = .val (.int k i)) (ht : P.underlying t = some (.array len e))
      (hn : semVal P (sizeOf e) = some n) (h0 : 0 ≤ i) (h1 : i < len) : OpR P tm hp o ⟨.ptr b row sz (fld + i.toNat * n), [], []⟩
  | eqs (op : BinOp) (t yt : TypeId) (x y : Operand) (a b : Array Value) (q : Bool) (h : o.op = .binOp op t x y yt) (hop : op = .eql ∨ op = .neq) (hx : evV tm x = .val (.agg a)) (hy : evV tm y = .val (.agg b)) (hg : P.eqGuardType P.depth t = false)
      (hq : eqV P 10 t (.agg a) (.agg b) = some q) : OpR P tm hp o ⟨.val (.bool (eqSign op q)), [], []⟩
  | strAt (t : TypeId) (x ix : Operand) (s : ByteArray) (k : IntKind) (i : Int) (u : UInt8) (h : o.op = .index t x ix) (hx : evV tm x = .val (.string s)) (hi : evV tm ix = .val (.int k i)) (ht : P.underlying t = some .string)
      (h0 : 0 ≤ i) (hs : s[i.toNat]? = some u) : OpR P tm hp o ⟨.val (.int .u8 u.toNat), [], []⟩
  | gidx (t : TypeId) (x ix : Operand) (g sz len n : Nat) (fs : List Fld) (k : IntKind) (i : Int) (e : TypeId) (h : o.op = .indexAddr t x ix) (hx : evV tm x = .gp g 0 sz 0) (hi : evV tm ix = .val (.int k i)) (ht : P.underlying t = some (.array len e))
      (hn : semVal P (sizeOf e) = some sz) (h0 : 0 ≤ i) (h1 : i < len) (hg : globF g globs = some (n, fs)) (hl : len ≤ n) : OpR P tm hp o ⟨.gp g i.toNat sz 0, [], []⟩
  | gfield (t : TypeId) (x : Operand) (f g row sz fld : Nat) (fs : Array Field) (fl : Field) (n : Nat) (h : o.op = .fieldAddr t x f) (hx : evV tm x = .gp g row sz fld) (ht : P.underlying t = some (.struct fs)) (hf : fs[f]? = some fl)
      (hn : semVal P (sizeOf fl.type) = some (n + 1)) : OpR P tm hp o ⟨.gp g row sz (fld + fl.offset), [], []⟩
  | gload (t : TypeId) (x : Operand) (g row sz fld n : Nat) (fs : List Fld) (f : Fld) (h : o.op = .load t x) (hx : evV tm x = .gp g row sz fld) (ht : semVal P (isAgg t) = some false) (hg : globF g globs = some (n, fs)) (hs : sz = fs.length)
      (hf : fs[fld]? = some f) : OpR P tm hp o ⟨.val (f.at row), [], []⟩

def RelE (w0 : World) (s : St) (a : Act) (w : World) : Prop := ∃ ρ, Rel ρ w0 s a w

theorem wp_val {P : Program} {o : Oper} {a : Act} {w w' : World} {K : Act → World → Prop} {Q : Exit → Act → World → Prop} {x : Value} (h : (execOp a.eval o).run P w = .ok (.value x) w') (hk : K (a.put o.dst x) w') : o.wp P a w K Q := by
  unfold Oper.wp; rw [h]; exact hk
theorem wp_skipped {P : Program} {o : Oper} {a : Act} {w w' : World} {K : Act → World → Prop} {Q : Exit → Act → World → Prop} (h : (execOp a.eval o).run P w = .ok .skip w') (hk : K (a.put o.dst undef) w') : o.wp P a w K Q := by
  unfold Oper.wp; rw [h]; exact hk

theorem addr_add (b o n : Nat) : (⟨b, o, none⟩ : Addr).add n = ⟨b, o + n, none⟩ := by
  unfold Addr.add; split
  · rename_i h; subst h; rfl
  · rfl
theorem addr_add' {ad : Addr} (h : ad.spot = none) (n : Nat) : ad.add n = ⟨ad.block, ad.off + n, none⟩ := by
  obtain ⟨b, o, s⟩ := ad; cases h; exact addr_add b o n

section
variable {P : Program} {ρ : Rho} {w0 : World} {s : St} {a : Act} {w : World}

theorem grow_addr {B : Nat} {e : TypeId} {sz n c : Nat} {A : Option Addr} {xs : List Value} (h : w.ownsRow B e sz (.slice A n c) n xs) {ad : Addr} (had : A = some ad) : ad.off = 0 ∧ ad.spot = none ∧ B ≤ ad.block ∧ ad.block < w.heap.size := by
  subst had
  have hl := h.lt ad.block rfl
  rcases h.2 with ⟨hv, _⟩ | ⟨g, cap, cur, hv, _⟩
  · cases hv
  · simp only [Value.slice.injEq, Option.some.injEq] at hv
    obtain ⟨rfl, _⟩ := hv
    exact ⟨rfl, rfl, hl⟩
theorem grow_some {B : Nat} {e : TypeId} {sz n c : Nat} {A : Option Addr} {xs : List Value} (h : w.ownsRow B e sz (.slice A n c) n xs) (hn : 0 < n) : ∃ g, A = some ⟨g, 0, none⟩ := by
  rcases h.2 with ⟨hv, h0⟩ | ⟨g, cap, cur, hv, _⟩
  · omega
  · simp only [Value.slice.injEq] at hv
    exact ⟨g, hv.1⟩

theorem readV_sound (h : Rel ρ w0 s a w) {b row sz fld : Nat} {v : V} (hv : readV s.hp b row sz fld = some v) {r : RB} {ad : Addr} (hr : ρ b = some r) (had : r.addr = some ad) (hlim : ∀ n, r.lim = some n → row < n) :
    ∃ y, w.cell? ⟨ad.block, ad.off + (row * sz + fld), none⟩ = some y ∧ VRel ρ v y := by
  have hb := h.hp b
  unfold readV at hv
  cases hx : s.hp.getD b .none with
  | none => rw [hx] at hv; cases hv
  | gone => rw [hx] at hv; cases hv
  | own cs =>
    rw [hx] at hv hb
    obtain ⟨r', k, e, c, h1, h2, hm, h3, h4, h5⟩ := hb
    rw [hr] at h1; cases h1
    rw [had] at h2; cases h2
    obtain ⟨y, hy, hvr⟩ := h5.2 _ _ hv
    refine ⟨y, ?_, hvr⟩
    rw [cell_of_row w k _ c e _ h4, Nat.zero_add]; exact hy
  | ext n fs =>
    rw [hx] at hv hb
    obtain ⟨r', h1, hm, h2⟩ := hb
    rw [hr] at h1; cases h1
    have hrow := hlim n hm
    obtain ⟨ad', h3, h4, h5, h6⟩ := h2 (by omega)
    rw [had] at h3; cases h3
    simp only at hv
    split at hv
    · rename_i hsz; subst hsz
      cases hg : fs[fld]? with
      | none => rw [hg] at hv; cases hv
      | some g =>
        rw [hg] at hv
        simp only [Option.map_some, Option.some.injEq] at hv
        subst hv
        exact ⟨_, h6 row hrow fld g hg, rfl⟩
    · cases hv
  | grow e n fs =>
    rw [hx] at hv hb
    obtain ⟨r', xs, h1, hm, hp, ho, hf⟩ := hb
    rw [hr] at h1; cases h1
    have hrow := hlim n hm
    simp only at hv
    split at hv
    · rename_i hsz; subst hsz
      cases hg : fs[fld]? with
      | none => rw [hg] at hv; cases hv
      | some g =>
        rw [hg] at hv
        simp only [Option.map_some, Option.some.injEq] at hv
        subst hv
        refine ⟨_, ?_, rfl⟩
        have hc := ho.cells (g := ad.block) (by rw [had]; rfl) _ _ (hf row hrow fld g hg)
        have hof := grow_addr ho had
        rw [addr_add, Nat.zero_add] at hc
        rw [hof.1, Nat.zero_add]; exact hc
    · cases hv

theorem readAgg_sound (h : Rel ρ w0 s a w) {b row sz : Nat} {r : RB} {ad : Addr} (hr : ρ b = some r) (had : r.addr = some ad) (hlim : ∀ n, r.lim = some n → row < n) : ∀ (n fld : Nat) (vs : List Value), readAgg s.hp b row sz fld n = some vs →
    vs.length = n ∧ ∀ (j : Nat) (v : Value), vs[j]? = some v → w.cell? ⟨ad.block, ad.off + (row * sz + fld) + j, none⟩ = some v
  | 0, fld, vs, hv => by
    simp only [readAgg, Option.some.injEq] at hv; subst hv
    exact ⟨rfl, fun j v hj => by simp at hj⟩
  | n + 1, fld, vs, hv => by
    simp only [readAgg] at hv
    cases hq : readV s.hp b row sz fld with
    | none => rw [hq] at hv; cases hv
    | some q =>
      rw [hq] at hv
      cases q with
      | val x =>
        simp only at hv
        cases hl : readAgg s.hp b row sz (fld + 1) n with
        | none => rw [hl] at hv; cases hv
        | some l =>
          rw [hl] at hv
          simp only [Option.map_some, Option.some.injEq] at hv
          subst hv
          obtain ⟨h1, h2⟩ := readAgg_sound h hr had hlim n (fld + 1) l hl
          refine ⟨by simp [h1], fun j v hj => ?_⟩
          cases j with
          | zero =>
            simp only [List.getElem?_cons_zero, Option.some.injEq] at hj; subst hj
            obtain ⟨y, hy, hvr⟩ := readV_sound h hq hr had hlim
            cases hvr
            exact hy
          | succ j =>
            simp only [List.getElem?_cons_succ] at hj
            have := h2 j v hj
            rwa [show ad.off + (row * sz + fld) + (j + 1) = ad.off + (row * sz + (fld + 1)) + j by omega]
      | _ => cases hv

theorem mapVal_rel (ρ : Rho) (c : Array Value) : TRel ρ (c.toList.map .val) c := by
  refine ⟨by simp, fun i v hv => ?_⟩
  simp only [List.getElem?_map, Array.getElem?_toList] at hv
  cases hc : c[i]? with
  | none => rw [hc] at hv; cases hv
  | some x => rw [hc] at hv; simp only [Option.map_some, Option.some.injEq] at hv; subst hv; exact ⟨x, rfl, rfl⟩
end

end Go.Proofs.Ytmkhglpfhnocaaa.Ev
