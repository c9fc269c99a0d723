/- The evaluator: operations, regions, code, whole functions, with what follows as a continuation; and that what it returns is what the model returns. The evaluator: regions, code, whole functions. -/
import Derived.Test.YtcihbcffokjgjaaGreatTEv5
namespace Go.Proofs.YtcihbcffokjgjaaGreat.Ev
open Go Go.RowKit
set_option linter.unusedVariables false
set_option linter.unusedSimpArgs false
structure Kn (P : Program) where
  f : FuncId
  semK : {R : Type} → List AV → (AV → Option R) → Option R
  ok : ∀ {R : Type} (avs : List AV) (k : AV → Option R) (r : R), semK avs k = some r → ∃ r0, Contract P f avs r0 ∧ k r0 = some r
section
variable {R : Type}
def callK {P : Program} : List (Kn P) → FuncId → List AV → (AV → Option R) → Option R
  | [], _, _, _ => none
  | c :: cs, f, avs, k => bif c.f == f then c.semK avs k else callK cs f avs k
def rho0 (tm : List V) (x : Operand) : Value :=
  match evV tm x with
  | .val v => v
  | _ => undef
def V.isVal : V → Bool
  | .val _ => true
  | _ => false
def pureK (P : Program) (tm : List V) (o : Oper) (k : Eff → Option R) : Option R :=
  bif o.op.operands.toList.all fun x => (evV tm x).isVal then
    match semVal P (execOp (rho0 tm) o) with
    | some (.value v) => k ⟨.val v, [], []⟩
    | _ => none
  else none
def freeAt (hp : List Blk) (o : Oper) : Option Nat :=
  match o.dst with
  | some d =>
    match hp[d]? with
    | some .none => some d
    | _ => none
  | none => none
def pickK (t : Bool) (k : Eff → Option R) : V → V → Option R
  | .val (.bool a), .val (.bool b) => k ⟨.val (.bool (bif t then a else b)), [], []⟩
  | .val (.int ka a), .val (.int kb b) => if ka = kb then k ⟨.val (.int ka (bif t then a else b)), [], []⟩ else none
  | x, y => bif t then k ⟨x, [], []⟩ else k ⟨y, [], []⟩
def binK (P : Program) (tm : List V) (o : Oper) (op : BinOp) (t : TypeId) (k : Eff → Option R) : V → V → Option R
  | .val (.int ka a), .val (.int kb b) =>
    match op with
    | .quo => if ka = kb then (bif decide (b = 0) then none else k ⟨.val (.int ka (ka.wrap (a.tdiv b))), [], []⟩) else none
    | .rem => if ka = kb then (bif decide (b = 0) then none else k ⟨.val (.int ka (a.tmod b)), [], []⟩) else none
    | .shl => bif decide (b < 0) then none else k ⟨.val (.int ka (ka.wrap (a * 2 ^ min b.toNat ka.bits))), [], []⟩
    | .shr => bif decide (b < 0) then none else k ⟨.val (.int ka (a.fdiv (2 ^ min b.toNat ka.bits))), [], []⟩
    | _ => pureK P tm o k
  | .val (.agg a), .val (.agg b) =>
    match op with
    | .eql => if P.eqGuardType P.depth t = false then (match eqV P 10 t (.agg a) (.agg b) with | some q => k ⟨.val (.bool q), [], []⟩ | none => none) else none
    | .neq => if P.eqGuardType P.depth t = false then (match eqV P 10 t (.agg a) (.agg b) with | some q => k ⟨.val (.bool !q), [], []⟩ | none => none) else none
    | _ => none
  | _, _ => pureK P tm o k
def sameOp : Operand → Operand → Bool
  | .tmp a, .tmp b => a == b
  | .const (.int k a), .const (.int k' b) => decide (k = k') && a == b
  | _, _ => false
theorem sameOp_eq {x y : Operand} (h : sameOp x y = true) : x = y := by
  unfold sameOp at h
  split at h
  · rw [eq_of_beq h]
  · simp only [Bool.and_eq_true, decide_eq_true_eq] at h
    obtain ⟨rfl, h⟩ := h
    rw [eq_of_beq h]
  · cases h
def setK {R α : Type} : List α → Nat → α → (List α → R) → R
  | [], _, _, k => k []
  | _ :: l, 0, v, k => k (v :: l)
  | x :: l, n + 1, v, k => setK l n v fun l' => k (x :: l')
theorem setK_eq {R α : Type} : ∀ (l : List α) (n : Nat) (v : α) (k : List α → R), setK l n v k = k (l.set n v)
  | [], _, _, _ => rfl
  | _ :: _, 0, _, _ => rfl
  | x :: l, n + 1, v, k => by simp only [setK, setK_eq l n v, List.set_cons_succ]
def isTm (P : Program) (e : TypeId) : Bool :=
  match P.info? e with
  | some i =>
    match i.zero with
    | some z =>
      match tmsOf (z.cells.toList.map .val) with
      | some [_] => true
      | _ => false
    | none => false
  | none => false
def elemTm (P : Program) (t : TypeId) : Bool :=
  match P.underlying t with
  | some (.slice e) => isTm P e
  | _ => false
def forceL {R α : Type} : List α → (List α → R) → R
  | [], k => k []
  | x :: l, k => forceL l fun l' => k (x :: l')
theorem forceL_eq {R α : Type} : ∀ (l : List α) (k : List α → R), forceL l k = k l
  | [], _ => rfl
  | x :: l, k => by simp only [forceL, forceL_eq l]
def opK (P : Program) (cs : List (Kn P)) (tm : List V) (hp : List Blk) (o : Oper) (k : Eff → Option R) : Option R :=
  match o.op with
  | .move x | .assign x => k ⟨evV tm x, [], []⟩
  | .pick c x y =>
    match evV tm c with
    | .val (.bool t) => pickK t k (evV tm x) (evV tm y)
    | _ => none
  | .binOp op t x y _ => binK P tm o op t k (evV tm x) (evV tm y)
  | .alloc t =>
    match freeAt hp o, semVal P (zeroValue t) with
    | some d, some z => k ⟨.ptr d 0 0 0, [(d, .own (z.cells.toList.map .val))], [d]⟩
    | _, _ => none
  | .box t x =>
    match freeAt hp o, evV tm x with
    | some d, .val v => k ⟨.ptr d 0 0 0, [(d, .own (v.cells.toList.map .val))], [d]⟩
    | some d, .pk cs => k ⟨.ptr d 0 0 0, [(d, .own (cs.map PV.v))], [d]⟩
    | _, _ => none
  | .buildSlice t len parts =>
    bif elemTm P t then
      match freeAt hp o, semVal P (rowHead t len) with
      | some d, some (e, 5, cells) =>
        match fillPV tm hp (fun i => some (i * 5, 5)) (cells.toList.map .val) parts.toList with
        | some (ps, rd) =>
          match tmsOf ps with
          | some l => if len ≤ maxLen ∧ l.length = len then k ⟨.sl d 5 len, [(d, .growK e l)], d :: rd⟩ else none
          | none => none
        | none => none
      | _, _ => none
    else bif o.op.operands.toList.all fun x => (evV tm x).isVal then
      match freeAt hp o, semVal P (rowParts t len (parts.map fun (i, x) => (i, rho0 tm x))) with
      | some d, some (e, sz, cells) =>
        match growFs P e sz len cells with
        | some fs => k ⟨.sl d sz len, [(d, .grow e len fs)], [d]⟩
        | none => k ⟨.sl d sz len, [(d, .own (cells.toList.map .val))], [d]⟩
      | _, _ => none
    else none
  | .load t x =>
    match evV tm x with
    | .ptr b row sz fld =>
      match (match hp.getD b .none with | .growK _ l => some l | .frz l => some l | _ => none) with
      | some l =>
        match sz, semVal P (isAgg t) with
        | 5, some false =>
          (l[row]?).bind fun u =>
            match tmCell u fld with
            | some v => k ⟨v, [], [b]⟩
            | none => none
        | 5, some true =>
          match fld, semVal P (sizeOf t) with
          | 0, some 5 => (l[row]?).bind fun u => k ⟨.pk (tmPvs u), [], [b]⟩
          | _, _ => none
        | _, _ => none
      | none =>
      match semVal P (isAgg t) with
      | some false =>
        match readV hp b row sz fld with
        | some v => k ⟨v, [], [b]⟩
        | none => none
      | some true =>
        match semVal P (sizeOf t) with
        | some n =>
          match readAgg hp b row sz fld n with
          | some vs => k ⟨.val (.agg vs.toArray), [], [b]⟩
          | none =>
            match readPk hp b row sz fld n with
            | some ps => k ⟨.pk ps, [], [b]⟩
            | none => none
        | none => none
      | none => none
    | .gp g row sz fld =>
      match semVal P (isAgg t), globF g globs with
      | some false, some (n, fs) =>
        match fs[fld]? with
        | some f => if sz = fs.length then k ⟨.val (f.at row), [], []⟩ else none
        | none => none
      | _, _ => none
    | .tp l row fld =>
      match semVal P (isAgg t) with
      | some false =>
        (l[row]?).bind fun u =>
          match tmCell u fld with
          | some v => k ⟨v, [], []⟩
          | none => none
      | some true =>
        match fld, semVal P (sizeOf t) with
        | 0, some 5 => (l[row]?).bind fun u => k ⟨.pk (tmPvs u), [], []⟩
        | _, _ => none
      | none => none
    | _ => none
  | .store t x y =>
    match evV tm x with
    | .ptr b row sz fld =>
      match (match hp[b]? with | some (.growK e l) => some (e, l) | _ => none) with
      | some (e, l) =>
        match sz, fld, semVal P (sizeOf t), cellsPV hp (evV tm y) with
        | 5, 0, some 5, some (ps, rd) =>
          match tmsOf ps with
          | some [u] => k ⟨.val undef, [(b, .growK e (l.set row u))], b :: rd⟩
          | _ => none
        | _, _, _, _ => none
      | none =>
      match hp[b]?, cellsV (evV tm y), semVal P (sizeOf t) with
      | some (.grow e n fs), _, some q =>
        match evV tm y with
        | .val v =>
          if sz = fs.length ∧ q = v.cells.size ∧ fld + v.cells.size ≤ fs.length then
            match setFs row fs fld v.cells.toList with
            | some fs' => k ⟨.val undef, [(b, .grow e n fs')], [b]⟩
            | none => none
          else none
        | _ => none
      | some (.own cs), some ws, some n =>
        if n = ws.length ∧ row * sz + fld + ws.length ≤ cs.length then k ⟨.val undef, [(b, .own (cs.take (row * sz + fld) ++ ws ++ cs.drop (row * sz + fld + ws.length)))], [b]⟩ else none
      | _, _, _ => none
    | _ => none
  | .fieldAddr t x f =>
    match evV tm x with
    | .ptr b row sz fld =>
      match P.underlying t with
      | some (.struct fs) =>
        match fs[f]? with
        | some fl =>
          match semVal P (sizeOf fl.type) with
          | some (_ + 1) => k ⟨.ptr b row sz (fld + fl.offset), [], []⟩
          | _ => none
        | none => none
      | _ => none
    | .gp g row sz fld =>
      match P.underlying t with
      | some (.struct fs) =>
        match fs[f]? with
        | some fl =>
          match semVal P (sizeOf fl.type) with
          | some (_ + 1) => k ⟨.gp g row sz (fld + fl.offset), [], []⟩
          | _ => none
        | none => none
      | _ => none
    | .tp l row fld =>
      match P.underlying t with
      | some (.struct fs) =>
        match fs[f]? with
        | some fl =>
          match semVal P (sizeOf fl.type) with
          | some (_ + 1) => k ⟨.tp l row (fld + fl.offset), [], []⟩
          | _ => none
        | none => none
      | _ => none
    | _ => none
  | .indexAddr t x ix =>
    match evV tm x, evV tm ix with
    | .sl b sz len, .val (.int kk i) =>
      match P.underlying t with
      | some (.slice e) =>
        match semVal P (sizeOf e) with
        | some n => if n = sz ∧ (hp.getD b .none).live = true then (bif decide (0 ≤ i) then (bif decide (i < (len : Int)) then k ⟨.ptr b i.toNat sz 0, [], [b]⟩ else none) else none) else none
        | none => none
      | _ => none
    | .ptr b row sz fld, .val (.int kk i) =>
      match P.underlying t with
      | some (.array len e) =>
        match semVal P (sizeOf e) with
        | some n => bif decide (0 ≤ i) then (bif decide (i < (len : Int)) then k ⟨.ptr b row sz (fld + i.toNat * n), [], []⟩ else none) else none
        | none => none
      | _ => none
    | .gp g 0 sz 0, .val (.int kk i) =>
      match P.underlying t with
      | some (.array len e) =>
        match semVal P (sizeOf e), globF g globs with
        | some n, some (m, fs) => if n = sz ∧ len ≤ m then (bif decide (0 ≤ i) then (bif decide (i < (len : Int)) then k ⟨.gp g i.toNat sz 0, [], []⟩ else none) else none) else none
        | _, _ => none
      | _ => none
    | .tsl l, .val (.int kk i) =>
      match P.underlying t with
      | some (.slice e) =>
        match semVal P (sizeOf e) with
        | some 5 => bif decide (0 ≤ i) then (bif decide (i < (l.length : Int)) then k ⟨.tp l i.toNat 0, [], []⟩ else none) else none
        | _ => none
      | _ => none
    | _, _ => none
  | .makeSlice t x y =>
    bif elemTm P t then
      match freeAt hp o, evV tm x, evV tm y, P.underlying t with
      | some d, .val (.int kl n), .val (.int kc n'), some (.slice e) =>
        match P.info? e with
        | some i =>
          match i.zero with
          | some z =>
            match tmsOf (z.cells.toList.map .val) with
            | some [u] =>
              if z.cells.size = i.size ∧ i.size = 5 ∧ 0 < i.bytes ∧ sameOp x y = true then
                bif decide (0 ≤ n) then (bif Nat.ble (n.toNat * i.bytes) 140737488355328 then k ⟨.sl d 5 n.toNat, [(d, .growK e (List.replicate n.toNat u))], [d]⟩ else none) else none
              else none
            | _ => none
          | none => none
        | none => none
      | _, _, _, _ => none
    else
    match freeAt hp o, evV tm x, evV tm y, P.underlying t with
    | some d, .val (.int kl n), .val (.int kc n'), some (.slice e) =>
      match P.info? e with
      | some i =>
        match i.zero with
        | some z =>
          match zeroFs z.cells.toList with
          | some fs =>
            if z.cells.size = i.size ∧ 0 < i.size ∧ 0 < i.bytes ∧ sameOp x y = true then
              bif decide (0 ≤ n) then (bif Nat.ble (n.toNat * i.bytes) 140737488355328 then k ⟨.sl d i.size n.toNat, [(d, .grow e n.toNat fs)], [d]⟩ else none) else none
            else none
          | none => none
        | none => none
      | none => none
    | _, _, _, _ => none
  | .index t x ix =>
    match evV tm x, evV tm ix with
    | .val (.string q), .val (.int kk i) =>
      match P.underlying t with
      | some .string => bif decide (0 ≤ i) then (q[i.toNat]?).bind fun u => k ⟨.val (.int .u8 u.toNat), [], []⟩ else none
      | _ => none
    | _, _ => pureK P tm o k
  | .call c =>
    match c.callee with
    | .builtin .len =>
      match c.args.toList, c.argTypes.toList with
      | [x], [t] =>
        match evV tm x with
        | .sl b sz len =>
          match P.underlying t with
          | some (.slice e) => k ⟨.val (.int .i64 len), [], []⟩
          | _ => none
        | .tsl l =>
          match P.underlying t with
          | some (.slice e) => k ⟨.val (.int .i64 l.length), [], []⟩
          | _ => none
        | _ => pureK P tm o k
      | _, _ => none
    | .value (.func f) =>
      match avsOf hp (c.args.toList.map (evV tm)) with
      | some (avs, rd) => callK cs f avs fun r =>
        match r with
        | .val v => k ⟨.val v, [], rd⟩
        | .tup l =>
          match tvOf l with
          | some ps => k ⟨.tup ps, [], rd⟩
          | none => none
        | .pk l =>
          match pvOf l with
          | some ps => k ⟨.pk ps, [], rd⟩
          | none => none
        | .tsl l => k ⟨.tsl l, [], rd⟩
        | .rows n fs =>
          match freeAt hp o with
          | some d => k ⟨.sl d fs.length n, [(d, .ext n fs)], d :: rd⟩
          | none => none
      | none => none
    | .builtin .append =>
      match c.args.toList, c.argTypes.toList with
      | [x, y], [t, t'] =>
        match evV tm x, evV tm y with
        | .sl b sz n, yv =>
          match freeAt hp o, hp[b]?, avOf hp yv, P.underlying t with
          | some d, some (.grow e n1 fs), some (.rows m fs2, rd2), some (.slice e') =>
            match P.info? e, catFs n fs fs2 with
            | some i, some fs3 =>
              match i.zero with
              | some z =>
                if t = t' ∧ e' = e ∧ z.cells.size = i.size ∧ fs.length = i.size ∧ fs2.length = i.size ∧ 0 < i.bytes then
                  bif Nat.ble ((n + m) * i.bytes) 140737488355328 then k ⟨.sl d i.size (n + m), [(d, .grow e (n + m) fs3), (b, .gone)], d :: b :: rd2⟩ else none
                else none
              | none => none
            | _, _ => none
          | some d, some (.growK e l), some (.tsl l2, rd2), some (.slice e') =>
            match P.info? e with
            | some i =>
              match i.zero with
              | some z =>
                if t = t' ∧ e' = e ∧ z.cells.size = i.size ∧ i.size = 5 ∧ sz = 5 ∧ 0 < i.bytes then
                  bif Nat.ble ((n + l2.length) * i.bytes) 140737488355328 then k ⟨.sl d 5 (n + l2.length), [(d, .growK e (l ++ l2)), (b, .gone)], d :: b :: rd2⟩ else none
                else none
              | none => none
            | none => none
          | _, _, _, _ => none
        | _, _ => none
      | _, _ => none
    | .builtin _ => pureK P tm o k
    | _ => none
  | .build t parts =>
    bif o.op.operands.toList.all fun x => (evV tm x).isVal then pureK P tm o k else
    match semVal P (zeroValue t), P.underlying t with
    | some z, some (.struct fs) =>
      match semVal P (fieldPlaces fs) with
      | some places =>
        match fillPV tm hp (places[·]?) (z.cells.toList.map .val) parts.toList with
        | some (ps, rd) => forceL ps fun ps => k ⟨.pk ps, [], rd⟩
        | none => none
      | none => none
    | _, _ => none
  | .extract x i =>
    match evV tm x with
    | .tup l =>
      match l[i]? with
      | some p => k ⟨p.v, [], []⟩
      | none => none
    | _ => pureK P tm o k
  | .field t x f =>
    match evV tm x with
    | .pk cs =>
      match P.underlying t with
      | some (.struct fs) =>
        match fs[f]? with
        | some fl =>
          match semVal P (isAgg fl.type), cs[fl.offset]? with
          | some false, some p => k ⟨p.v, [], []⟩
          | _, _ => none
        | none => none
      | _ => none
    | _ => pureK P tm o k
  | .select .. | .go _ | .defer _ | .panic _ | .send .. | .recv .. | .makeFunc .. => none
  | _ => pureK P tm o k
inductive Pre where
  | b (b : Nat)
  | c (b0 off b : Nat)
def preSl (hp : List Blk) : List V → List Pre
  | [] => []
  | .sl b _ _ :: l =>
    match hp.getD b .none with
    | .growK .. => .b b :: preSl hp l
    | _ => preSl hp l
  | _ :: l => preSl hp l
def preCs (hp : List Blk) (b0 : Nat) : List V → Nat → List Pre
  | [], _ => []
  | .sl b _ _ :: l, off =>
    match hp.getD b .none with
    | .growK .. => .b b :: .c b0 off b :: preCs hp b0 l (off + 1)
    | .frz _ => .c b0 off b :: preCs hp b0 l (off + 1)
    | _ => preCs hp b0 l (off + 1)
  | _ :: l, off => preCs hp b0 l (off + 1)
def preOf (P : Program) (tm : List V) (hp : List Blk) (o : Oper) : List Pre :=
  match o.op with
  | .call c =>
    match c.callee with
    | .value (.func _) => preSl hp (c.args.toList.map (evV tm))
    | .builtin .append =>
      match c.args.toList with
      | [_, y] => preSl hp [evV tm y]
      | _ => []
    | _ => []
  | .build _ parts => preSl hp (parts.toList.map fun x => evV tm x.2)
  | .buildSlice _ _ parts => preSl hp (parts.toList.map fun x => evV tm x.2)
  | .load t x =>
    match evV tm x with
    | .ptr b0 _ _ _ =>
      match hp.getD b0 .none, semVal P (isAgg t) with
      | .own cs, some true => preCs hp b0 cs 0
      | _, _ => []
    | _ => []
  | _ => []
def preK : List Pre → List Blk → (List Blk → List (Nat × Blk) → List Nat → Option R) → Option R
  | [], hp, k => k hp [] []
  | .b b :: l, hp, k =>
    match hp[b]? with
    | some (.growK e ts) => setK hp b (.frz ts) fun hp' => preK l hp' fun hp'' wr rd => k hp'' ((b, .frz ts) :: wr) (b :: rd)
    | _ => preK l hp k
  | .c b0 off b :: l, hp, k =>
    match hp[b0]?, hp[b]? with
    | some (.own cs), some (.frz ts) =>
      match cs[off]? with
      | some (.sl b' 5 _) =>
        bif b' == b then setK cs off (.tsl ts) fun cs' => setK hp b0 (.own cs') fun hp' => preK l hp' fun hp'' wr rd => k hp'' ((b0, .own cs') :: wr) (b0 :: b :: rd)
        else preK l hp k
      | _ => preK l hp k
    | _, _ => preK l hp k
def opX (P : Program) (cs : List (Kn P)) (tm : List V) (hp : List Blk) (o : Oper) (k : Eff → Option R) : Option R :=
  match preOf P tm hp o with
  | [] => opK P cs tm hp o k
  | p :: ps => preK (p :: ps) hp fun hp' wr rd => opK P cs tm hp' o fun E => k ⟨E.v, wr ++ E.wr, rd ++ E.rd⟩
theorem callK_sound {P : Program} : ∀ {cs : List (Kn P)} {f : FuncId} {avs : List AV} {k : AV → Option R} {r : R}, callK cs f avs k = some r → ∃ r0, Contract P f avs r0 ∧ k r0 = some r
  | [], _, _, _, _, h => by cases h
  | c :: cs, f, avs, k, r, h => by
    simp only [callK] at h
    cases hf : c.f == f with
    | true =>
      rw [hf] at h
      have : c.f = f := by simpa using hf
      subst this
      exact c.ok avs k r h
    | false => rw [hf] at h; exact callK_sound h
variable {P : Program} {cs : List (Kn P)} {tm : List V} {hp : List Blk} {o : Oper} {k : Eff → Option R} {r : R}
theorem rho0_spec {x : Operand} (h : (evV tm x).isVal = true) : evV tm x = .val (rho0 tm x) := by
  unfold rho0
  cases hx : evV tm x <;> rw [hx] at h <;> first | rfl | cases h
theorem all_vals (h : (o.op.operands.toList.all fun x => (evV tm x).isVal) = true) : ∀ x ∈ o.op.operands, evV tm x = .val (rho0 tm x) := fun x hx => rho0_spec (List.all_eq_true.1 h x (by simpa using hx))
theorem pureK_sound (hs : ∀ cs b, o.op ≠ .select cs b) (h : pureK P tm o k = some r) : ∃ E, OpR P tm hp o E ∧ k E = some r := by
  unfold pureK at h
  cases ha : (o.op.operands.toList.all fun x => (evV tm x).isVal) with
  | false => rw [ha] at h; cases h
  | true =>
    rw [ha] at h
    simp only [cond_true] at h
    split at h
    · rename_i v hv
      exact ⟨_, .pure (rho0 tm) v hs (all_vals ha) hv, h⟩
    · cases h
theorem freeAt_spec {d : Nat} (h : freeAt hp o = some d) : o.dst = some d ∧ hp[d]? = some .none := by
  unfold freeAt at h
  cases hd : o.dst with
  | none => rw [hd] at h; cases h
  | some d' =>
    rw [hd] at h
    simp only at h
    split at h
    · rename_i hh; cases h; exact ⟨rfl, hh⟩
    · cases h
theorem semVal_bind {α β : Type} (x : Sem α) (f : α → Sem β) : semVal P (x >>= f) = (semVal P x).bind fun a => semVal P (f a) := by
  show semVal P (x.bind f) = _
  induction x with
  | pure a => rfl
  | program g ih => simp only [Sem.bind, semVal, ih]
  | mark m g ih => simp only [Sem.bind, semVal, ih]
  | _ => rfl
theorem semVal_pure {α : Type} (a : α) : semVal P (Pure.pure a : Sem α) = some a := rfl
theorem pickK_sound {t : Bool} {x y : V} (h : pickK t k x y = some r) : k ⟨if t then x else y, [], []⟩ = some r := by
  unfold pickK at h
  split at h
  · cases t <;> exact h
  · split at h
    · rename_i e; subst e; cases t <;> exact h
    · cases h
  · cases t <;> exact h
theorem bif_none {c : Bool} {x : Option R} {r : R} (h : (bif c then none else x) = some r) : c = false ∧ x = some r := by
  cases c
  · exact ⟨rfl, h⟩
  · cases h
theorem bif_some {c : Bool} {x : Option R} {r : R} (h : (bif c then x else none) = some r) : c = true ∧ x = some r := by
  cases c
  · cases h
  · exact ⟨rfl, h⟩
theorem binK_sound {op : BinOp} {t yt : TypeId} {x y : Operand} (ho : o.op = .binOp op t x y yt) (h : binK P tm o op t k (evV tm x) (evV tm y) = some r) : ∃ E, OpR P tm hp o E ∧ k E = some r := by
  have hs : ∀ cs b, o.op ≠ .select cs b := fun cs b => by rw [ho]; exact fun e => by cases e
  have ops : ∀ {a b : Value}, evV tm x = .val a → evV tm y = .val b → ∀ z ∈ o.op.operands, evV tm z = .val (rho0 tm z) := fun {a b} hx hy z hz => by
    simp only [ho, Op.operands] at hz
    have : z = x ∨ z = y := by simpa using hz
    rcases this with rfl | rfl
    · exact rho0_spec (by rw [hx]; rfl)
    · exact rho0_spec (by rw [hy]; rfl)
  unfold binK at h
  split at h
  · rename_i ka a kb b hx hy
    have gx : rho0 tm x = .int ka a := by unfold rho0; rw [hx]
    have gy : rho0 tm y = .int kb b := by unfold rho0; rw [hy]
    have run : execOp (rho0 tm) o = (do eqGuard op t x y (.int ka a) (.int kb b); binOp op t (.int ka a) (.int kb b)) >>= fun v => Pure.pure (.value v) := by
      unfold execOp; rw [ho]; simp only [gx, gy]
    split at h
    · split at h
      · rename_i e; subst e
        obtain ⟨hb, hk⟩ := bif_none h
        have hb' : b ≠ 0 := by simpa using hb
        refine ⟨_, .pure (rho0 tm) (.int ka (ka.wrap (a.tdiv b))) hs (ops hx hy) ?_, hk⟩
        rw [run]; simp [eqGuard, binOp, Op.intDiv, hb', semVal_bind, semVal_pure]
      · cases h
    · split at h
      · rename_i e; subst e
        obtain ⟨hb, hk⟩ := bif_none h
        have hb' : b ≠ 0 := by simpa using hb
        refine ⟨_, .pure (rho0 tm) (.int ka (a.tmod b)) hs (ops hx hy) ?_, hk⟩
        rw [run]; simp [eqGuard, binOp, Op.intDiv, hb', semVal_bind, semVal_pure]
      · cases h
    · obtain ⟨hb, hk⟩ := bif_none h
      have hb' : ¬ b < 0 := by simpa using hb
      refine ⟨_, .pure (rho0 tm) (.int ka (ka.wrap (a * 2 ^ min b.toNat ka.bits))) hs (ops hx hy) ?_, hk⟩
      rw [run]; simp [eqGuard, binOp, Op.shift, hb', semVal_bind, semVal_pure]
    · obtain ⟨hb, hk⟩ := bif_none h
      have hb' : ¬ b < 0 := by simpa using hb
      refine ⟨_, .pure (rho0 tm) (.int ka (a.fdiv (2 ^ min b.toNat ka.bits))) hs (ops hx hy) ?_, hk⟩
      rw [run]; simp [eqGuard, binOp, Op.shift, hb', semVal_bind, semVal_pure]
    · exact pureK_sound hs h
  · rename_i a b hx hy
    split at h
    · split at h
      · rename_i hg
        split at h
        · rename_i q hq; exact ⟨_, .eqs .eql t yt x y a b q ho (.inl rfl) hx hy hg hq, h⟩
        · cases h
      · cases h
    · split at h
      · rename_i hg
        split at h
        · rename_i q hq; exact ⟨_, .eqs .neq t yt x y a b q ho (.inr rfl) hx hy hg hq, h⟩
        · cases h
      · cases h
    · cases h
  · exact pureK_sound hs h
theorem opK_sound (h : opK P cs tm hp o k = some r) : ∃ E, OpR P tm hp o E ∧ k E = some r := by
  unfold opK at h
  split at h
  · rename_i x ho; exact ⟨_, .copy x (.inl ho), h⟩
  · rename_i x ho; exact ⟨_, .copy x (.inr ho), h⟩
  · rename_i c x y ho
    split at h
    · rename_i t hc
      exact ⟨_, .pick c x y t ho hc, pickK_sound h⟩
    · cases h
  · rename_i op t x y yt ho; exact binK_sound ho h
  · rename_i t ho
    split at h
    · rename_i d z hd hz
      obtain ⟨h1, h2⟩ := freeAt_spec hd
      exact ⟨_, .alloc t d z ho h1 h2 hz, h⟩
    · cases h
  · rename_i t x ho
    split at h
    · rename_i d v hd hv
      obtain ⟨h1, h2⟩ := freeAt_spec hd
      exact ⟨_, .box t x d v ho h1 h2 hv, h⟩
    · rename_i d cs hd hv
      obtain ⟨h1, h2⟩ := freeAt_spec hd
      exact ⟨_, .boxPk t x d cs ho h1 h2 hv, h⟩
    · cases h
  · rename_i t len parts ho
    cases hel : elemTm P t with
    | true =>
      rw [hel] at h
      simp only [cond_true] at h
      split at h
      · rename_i d e cells hd hv
        obtain ⟨h1, h2⟩ := freeAt_spec hd
        split at h
        · rename_i ps rd hf
          split at h
          · rename_i l hl
            split at h
            · rename_i hc
              exact ⟨_, .rowK t len parts d e cells ps rd l ho h1 h2 hv hf hl hc.1 hc.2, h⟩
            · cases h
          · cases h
        · cases h
      · cases h
    | false =>
    rw [hel] at h
    simp only [cond_false] at h
    obtain ⟨ha, h⟩ := bif_some h
    split at h
    · rename_i d e sz cells hd hv
      obtain ⟨h1, h2⟩ := freeAt_spec hd
      split at h
      · rename_i fs hg
        exact ⟨_, .rowG t len parts (rho0 tm) d e sz cells fs ho h1 h2 (all_vals ha) hv hg, h⟩
      · exact ⟨_, .row t len parts (rho0 tm) d e sz cells ho h1 h2 (all_vals ha) hv, h⟩
    · cases h
  · rename_i t x ho
    split at h
    · rename_i b row sz fld hx
      split at h
      · rename_i l hl
        have hrd : ∀ j u, l[row]? = some u → readV hp b row 5 j = tmCell u j := fun j u hu => by
          unfold readV
          split at hl
          · rename_i hq; cases hl; rw [hq]; simp [hu]
          · rename_i hq; cases hl; rw [hq]; simp [hu]
          · cases hl
        split at h
        · rename_i ht
          obtain ⟨u, hu, h⟩ := Option.bind_eq_some_iff.1 h
          split at h
          · rename_i v hv; exact ⟨_, .load t x b row 5 fld v ho hx ht (by rw [hrd _ u hu]; exact hv), h⟩
          · cases h
        · rename_i ht
          split at h
          · rename_i hn
            obtain ⟨u, hu, h⟩ := Option.bind_eq_some_iff.1 h
            refine ⟨_, .loadPk t x b row 5 0 5 (tmPvs u) ho hx ht hn ?_, h⟩
            simp only [readPk, hrd _ u hu, tmCell, cellPV, tmPvs]
          · cases h
        · cases h
      split at h
      · rename_i ht
        split at h
        · rename_i v hv; exact ⟨_, .load t x b row sz fld v ho hx ht hv, h⟩
        · cases h
      · rename_i ht
        split at h
        · rename_i n hn
          split at h
          · rename_i vs hv; exact ⟨_, .loadAgg t x b row sz fld n vs ho hx ht hn hv, h⟩
          · split at h
            · rename_i ps hv; exact ⟨_, .loadPk t x b row sz fld n ps ho hx ht hn hv, h⟩
            · cases h
        · cases h
      · cases h
    · rename_i g row sz fld hx
      split at h
      · rename_i n fs ht hg
        split at h
        · rename_i f hf
          split at h
          · rename_i hs; exact ⟨_, .gload t x g row sz fld n fs f ho hx ht hg hs hf, h⟩
          · cases h
        · cases h
      · cases h
    · rename_i l row fld hx
      split at h
      · rename_i ht
        obtain ⟨u, hu, h⟩ := Option.bind_eq_some_iff.1 h
        split at h
        · rename_i v hv; exact ⟨_, .tload t x l row fld u v ho hx ht hu hv, h⟩
        · cases h
      · rename_i ht
        split at h
        · rename_i hn
          obtain ⟨u, hu, h⟩ := Option.bind_eq_some_iff.1 h
          exact ⟨_, .tloadPk t x l row u ho hx ht hn hu, h⟩
        · cases h
      · cases h
    · cases h
  · rename_i t x y ho
    split at h
    · rename_i b row sz fld hx
      split at h
      · rename_i e l hq
        have hb : hp[b]? = some (.growK e l) := by
          split at hq
          · rename_i hb; cases hq; exact hb
          · cases hq
        split at h
        · rename_i ps rd hn hy
          split at h
          · rename_i u hu; exact ⟨_, .storeK t x y b row e l ps rd u ho hx hb hy hn hu, h⟩
          · cases h
        · cases h
      split at h
      · rename_i e n fs q hc hn
        split at h
        · rename_i v hy
          split at h
          · rename_i hl
            obtain ⟨h1, rfl, h3⟩ := hl
            split at h
            · rename_i fs' hs
              exact ⟨_, .storeG t x y b row sz fld n e fs fs' v ho hx hc h1 hy hn h3 hs, h⟩
            · cases h
          · cases h
        · cases h
      · rename_i cs' ws n hc hw hn
        split at h
        · rename_i hl
          obtain ⟨rfl, hl⟩ := hl
          exact ⟨_, .store t x y b row sz fld cs' ws ho hx hc hw hn hl, h⟩
        · cases h
      · cases h
    · cases h
  · rename_i t x f ho
    split at h
    · rename_i b row sz fld hx
      split at h
      · rename_i fs ht
        split at h
        · rename_i fl hf
          split at h
          · rename_i n hn; exact ⟨_, .field t x f b row sz fld fs fl n ho hx ht hf hn, h⟩
          · cases h
        · cases h
      · cases h
    · rename_i g row sz fld hx
      split at h
      · rename_i fs ht
        split at h
        · rename_i fl hf
          split at h
          · rename_i n hn; exact ⟨_, .gfield t x f g row sz fld fs fl n ho hx ht hf hn, h⟩
          · cases h
        · cases h
      · cases h
    · rename_i l row fld hx
      split at h
      · rename_i fs ht
        split at h
        · rename_i fl hf
          split at h
          · rename_i n hn; exact ⟨_, .tfield t x f l row fld fs fl n ho hx ht hf hn, h⟩
          · cases h
        · cases h
      · cases h
    · cases h
  · rename_i t x ix ho
    split at h
    · rename_i b sz len kk i hx hi
      split at h
      · rename_i e ht
        split at h
        · rename_i n hn
          split at h
          · rename_i hl
            obtain ⟨rfl, hl⟩ := hl
            obtain ⟨h0, h⟩ := bif_some h
            obtain ⟨h1, h⟩ := bif_some h
            exact ⟨_, .index t x ix b n len kk i e ho hx hi ht hn (by simpa using h0) (by simpa using h1) hl, h⟩
          · cases h
        · cases h
      · cases h
    · rename_i b row sz fld kk i hx hi
      split at h
      · rename_i len e ht
        split at h
        · rename_i n hn
          obtain ⟨h0, h⟩ := bif_some h
          obtain ⟨h1, h⟩ := bif_some h
          exact ⟨_, .arr t x ix b row sz fld len n kk i e ho hx hi ht hn (by simpa using h0) (by simpa using h1), h⟩
        · cases h
      · cases h
    · rename_i g sz kk i hx hi
      split at h
      · rename_i len e ht
        split at h
        · rename_i n m fs hn hg
          split at h
          · rename_i hl
            obtain ⟨rfl, hl⟩ := hl
            obtain ⟨h0, h⟩ := bif_some h
            obtain ⟨h1, h⟩ := bif_some h
            exact ⟨_, .gidx t x ix g n len m fs kk i e ho hx hi ht hn (by simpa using h0) (by simpa using h1) hg hl, h⟩
          · cases h
        · cases h
      · cases h
    · rename_i l kk i hx hi
      split at h
      · rename_i e ht
        split at h
        · rename_i hn
          obtain ⟨h0, h⟩ := bif_some h
          obtain ⟨h1, h⟩ := bif_some h
          exact ⟨_, .tindex t x ix l kk i e ho hx hi ht hn (by simpa using h0) (by simpa using h1), h⟩
        · cases h
      · cases h
    · cases h
  · rename_i t x y ho
    cases hel : elemTm P t with
    | true =>
      rw [hel] at h
      simp only [cond_true] at h
      split at h
      · rename_i d kl n kc n' e hd hx hy hu
        obtain ⟨h1, h2⟩ := freeAt_spec hd
        split at h
        · rename_i i hi
          split at h
          · rename_i z hz
            split at h
            · rename_i u hf
              split at h
              · rename_i hc
                obtain ⟨c1, c2, c3, c4⟩ := hc
                obtain ⟨g1, h⟩ := bif_some h
                obtain ⟨g2, h⟩ := bif_some h
                rw [Nat.ble_eq] at g2
                have e1 := sameOp_eq c4
                subst e1
                rw [hx] at hy
                simp only [V.val.injEq, Value.int.injEq] at hy
                obtain ⟨rfl, rfl⟩ := hy
                exact ⟨_, .makeK t e x x i z kl kl n d u ho h1 h2 hx hx hu hi hz c1 c2 hf (by simpa using g1) (by
                  have : n.toNat ≤ n.toNat * i.bytes := Nat.le_mul_of_pos_right _ c3
                  simp only [maxLen]; omega) g2, h⟩
              · cases h
            · cases h
          · cases h
        · cases h
      · cases h
    | false =>
    rw [hel] at h
    simp only [cond_false] at h
    split at h
    · rename_i d kl n kc n' e hd hx hy hu
      obtain ⟨h1, h2⟩ := freeAt_spec hd
      split at h
      · rename_i i hi
        split at h
        · rename_i z hz
          split at h
          · rename_i fs hf
            split at h
            · rename_i hc
              obtain ⟨c1, c2, c3, c4⟩ := hc
              obtain ⟨g1, h⟩ := bif_some h
              obtain ⟨g2, h⟩ := bif_some h
              rw [Nat.ble_eq] at g2
              have e1 := sameOp_eq c4
              subst e1
              rw [hx] at hy
              simp only [V.val.injEq, Value.int.injEq] at hy
              obtain ⟨rfl, rfl⟩ := hy
              exact ⟨_, .make t e x x i z kl kl n d fs ho h1 h2 hx hx hu hi hz c1 c2 hf (by simpa using g1) (by
                have : n.toNat ≤ n.toNat * i.bytes := Nat.le_mul_of_pos_right _ c3
                simp only [maxLen]; omega) g2, h⟩
            · cases h
          · cases h
        · cases h
      · cases h
    · cases h
  · rename_i t x ix ho
    have hs : ∀ cs b, o.op ≠ .select cs b := fun cs b => by rw [ho]; exact fun e => by cases e
    split at h
    · rename_i q kk i hx hi
      split at h
      · rename_i ht
        obtain ⟨h0, h⟩ := bif_some h
        cases hq : q[i.toNat]? with
        | none => rw [hq] at h; cases h
        | some u =>
          rw [hq] at h
          exact ⟨_, .strAt t x ix q kk i u ho hx hi ht (by simpa using h0) hq, h⟩
      · cases h
    · exact pureK_sound hs h
  · rename_i c ho
    have hs : ∀ cs b, o.op ≠ .select cs b := fun cs b => by rw [ho]; exact fun e => by cases e
    split at h
    · rename_i hc
      split at h
      · rename_i x t hx ht
        have hax : c.args = #[x] := by
          have := congrArg List.toArray hx; simpa using this
        have hat : c.argTypes = #[t] := by
          have := congrArg List.toArray ht; simpa using this
        split at h
        · rename_i b sz len hv
          split at h
          · rename_i e hu; exact ⟨_, .len c x t b sz len e ho hc hax hat hv hu, h⟩
          · cases h
        · rename_i l hv
          split at h
          · rename_i e hu; exact ⟨_, .tlen c x t l e ho hc hax hat hv hu, h⟩
          · cases h
        · exact pureK_sound hs h
      · cases h
    · rename_i f hc
      split at h
      · rename_i avs rd ha
        obtain ⟨r0, hC, hk⟩ := callK_sound h
        cases r0 with
        | val v => exact ⟨_, .call c f avs rd v ho hc ha hC, hk⟩
        | tup l =>
          simp only at hk
          split at hk
          · rename_i ps hps; exact ⟨_, .callTup c f avs rd l ps ho hc ha hps hC, hk⟩
          · cases hk
        | pk l =>
          simp only at hk
          split at hk
          · rename_i ps hps; exact ⟨_, .callPk c f avs rd l ps ho hc ha hps hC, hk⟩
          · cases hk
        | tsl l => exact ⟨_, .callT c f avs rd l ho hc ha hC, hk⟩
        | rows n fs =>
          simp only at hk
          split at hk
          · rename_i d hd
            obtain ⟨h1, h2⟩ := freeAt_spec hd
            exact ⟨_, .callRows c f avs rd d n fs ho hc ha h1 h2 hC, hk⟩
          · cases hk
      · cases h
    · rename_i hc
      split at h
      · rename_i x y t t' hx ht
        have hax : c.args = #[x, y] := by
          have := congrArg List.toArray hx; simpa using this
        have hat : c.argTypes = #[t, t'] := by
          have := congrArg List.toArray ht; simpa using this
        split at h
        · rename_i b sz n hvx
          split at h
          · rename_i d e n1 fs m fs2 rd2 e' hd hb hb2 hu
            obtain ⟨h1, h2⟩ := freeAt_spec hd
            split at h
            · rename_i i fs3 hi h3
              split at h
              · rename_i z hz
                split at h
                · rename_i hcond
                  obtain ⟨rfl, rfl, c1, c2, c3, c4⟩ := hcond
                  obtain ⟨g2, h⟩ := bif_some h
                  rw [Nat.ble_eq] at g2
                  exact ⟨_, .app c x y t e' i z b d sz n m n1 fs fs2 fs3 rd2 ho hc hax hat h1 h2 hvx (by rw [← hb2]) hb hu hi hz c1 c2 c3 h3 (by
                    have : n + m ≤ (n + m) * i.bytes := Nat.le_mul_of_pos_right _ c4
                    simp only [maxLen]; omega) g2, h⟩
                · cases h
              · cases h
            · cases h
          · rename_i d e l l2 rd2 e' hd hb hb2 hu
            obtain ⟨h1, h2⟩ := freeAt_spec hd
            split at h
            · rename_i i hi
              split at h
              · rename_i z hz
                split at h
                · rename_i hcond
                  obtain ⟨rfl, rfl, c1, c2, rfl, c4⟩ := hcond
                  obtain ⟨g2, h⟩ := bif_some h
                  rw [Nat.ble_eq] at g2
                  exact ⟨_, .appK c x y t e' i z b d n l l2 rd2 ho hc hax hat h1 h2 hvx (by rw [← hb2]) hb hu hi hz c1 c2 (by
                    have : n + l2.length ≤ (n + l2.length) * i.bytes := Nat.le_mul_of_pos_right _ c4
                    simp only [maxLen]; omega) g2, h⟩
                · cases h
              · cases h
            · cases h
          · cases h
        · cases h
      · cases h
    · exact pureK_sound hs h
    · cases h
  · rename_i t parts ho
    have hs : ∀ cs b, o.op ≠ .select cs b := fun cs b => by rw [ho]; exact fun e => by cases e
    cases ha : (o.op.operands.toList.all fun x => (evV tm x).isVal) with
    | true => rw [ha] at h; exact pureK_sound hs h
    | false =>
      rw [ha] at h
      simp only [cond_false] at h
      split at h
      · rename_i z fs hz ht
        split at h
        · rename_i places hpl
          split at h
          · rename_i ps rd hf
            rw [forceL_eq] at h
            exact ⟨_, .buildPk t parts fs z places ps rd ho hz ht hpl hf, h⟩
          · cases h
        · cases h
      · cases h
  · rename_i x i ho
    have hs : ∀ cs b, o.op ≠ .select cs b := fun cs b => by rw [ho]; exact fun e => by cases e
    split at h
    · rename_i l hx
      split at h
      · rename_i p hp; exact ⟨_, .extT x i l p ho hx hp, h⟩
      · cases h
    · exact pureK_sound hs h
  · rename_i t x f ho
    have hs : ∀ cs b, o.op ≠ .select cs b := fun cs b => by rw [ho]; exact fun e => by cases e
    split at h
    · rename_i cs' hx
      split at h
      · rename_i fs ht
        split at h
        · rename_i fl hf
          split at h
          · rename_i p hn hp; exact ⟨_, .fieldPk t x f cs' fs fl p ho hx ht hf hn hp, h⟩
          · cases h
        · cases h
      · cases h
    · exact pureK_sound hs h
  all_goals first
    | (cases h; done)
    | exact pureK_sound (by assumption) h
theorem preK_sound : ∀ (ps : List Pre) (hp : List Blk) (K : List Blk → List (Nat × Blk) → List Nat → Option R), preK ps hp K = some r → ∃ hp' wr rd, K hp' wr rd = some r ∧ ∀ E, OpX P tm o hp' E → OpX P tm o hp ⟨E.v, wr ++ E.wr, rd ++ E.rd⟩
  | [], hp, K, h => ⟨hp, [], [], h, fun E hE => hE⟩
  | .b b :: l, hp, K, h => by
    simp only [preK, setK_eq] at h
    split at h
    · rename_i e ts hb
      obtain ⟨hp', wr, rd, h1, h2⟩ := preK_sound l _ _ h
      exact ⟨hp', _, _, h1, fun E hE => .fz b e ts _ hb (h2 E hE)⟩
    · exact preK_sound l hp K h
  | .c b0 off b :: l, hp, K, h => by
    simp only [preK, setK_eq] at h
    split at h
    · rename_i cs ts h0 hb
      split at h
      · rename_i b' n hc
        cases hbb : b' == b with
        | false => rw [hbb] at h; exact preK_sound l hp K h
        | true =>
          rw [hbb] at h
          simp only [cond_true] at h
          have : b' = b := by simpa using hbb
          subst this
          obtain ⟨hp', wr, rd, h1, h2⟩ := preK_sound l _ _ h
          exact ⟨hp', _, _, h1, fun E hE => .fzc b0 off b' n cs ts _ h0 hc hb (h2 E hE)⟩
      · exact preK_sound l hp K h
    · exact preK_sound l hp K h
theorem opX_sound (h : opX P cs tm hp o k = some r) : ∃ E, OpX P tm o hp E ∧ k E = some r := by
  unfold opX at h
  split at h
  · obtain ⟨E, h1, h2⟩ := opK_sound h
    exact ⟨E, .op h1, h2⟩
  · obtain ⟨hp', wr, rd, h1, h2⟩ := preK_sound _ _ _ h
    obtain ⟨E, h3, h4⟩ := opK_sound h1
    exact ⟨_, h2 E (.op h3), h4⟩
end
end Go.Proofs.YtcihbcffokjgjaaGreat.Ev
namespace Go.Proofs.YtcihbcffokjgjaaGreat.Ev
open Go Go.RowKit
set_option linter.unusedVariables false
set_option linter.unusedSimpArgs false
def forceVal {R : Type} (x : Value) (k : Value → R) : R :=
  match x with
  | .int i n => k (.int i n)
  | .bool b => k (.bool b)
  | .agg a => k (.agg a)
  | .tuple a => k (.tuple a)
  | .pointer p => k (.pointer p)
  | .slice a n c => k (.slice a n c)
  | .string s => k (.string s)
  | x => k x
theorem forceVal_eq {R : Type} (x : Value) (k : Value → R) : forceVal x k = k x := by cases x <;> rfl
def forceV {R : Type} (v : V) (k : V → R) : R :=
  match v with
  | .val x => forceVal x fun x => k (.val x)
  | .ptr b r s f => k (.ptr b r s f)
  | .sl b s n => k (.sl b s n)
  | .pk cs => k (.pk cs)
  | .unk => k .unk
  | .gp g r s f => k (.gp g r s f)
  | .tsl l => k (.tsl l)
  | .tp l r f => k (.tp l r f)
  | .tup l => k (.tup l)
theorem forceV_eq {R : Type} (v : V) (k : V → R) : forceV v k = k v := by
  cases v with
  | val x => simp only [forceV, forceVal_eq]
  | _ => rfl
def wroteK {R : Type} : List Blk → List (Nat × Blk) → (List Blk → R) → R
  | hp, [], k => k hp
  | hp, (b, x) :: l, k => setK hp b x fun hp' => wroteK hp' l k
theorem wroteK_eq {R : Type} : ∀ (l : List (Nat × Blk)) (hp : List Blk) (k : List Blk → R), wroteK hp l k = k (wrote hp l)
  | [], _, _ => rfl
  | (b, x) :: l, hp, k => by simp only [wroteK, setK_eq, wroteK_eq l, wrote]
def putK {R : Type} (tm : List V) (dst : Option Tmp) (v : V) (k : List V → R) : R :=
  match dst with
  | some d => forceV v fun v => setK tm d v k
  | none => k tm
theorem putK_eq {R : Type} (tm : List V) (dst : Option Tmp) (v : V) (k : List V → R) : putK tm dst v k = k (putV tm dst v) := by
  cases dst with
  | none => rfl
  | some d => simp only [putK, forceV_eq, setK_eq, putV]
def appK {R : Type} (s : St) (dst : Option Tmp) (E : Eff) (k : St → R) : R :=
  match s with
  | ⟨tm, hp⟩ => putK tm dst E.v fun tm' => wroteK hp E.wr fun hp' => k ⟨tm', hp'⟩
theorem appK_eq {R : Type} (s : St) (dst : Option Tmp) (E : Eff) (k : St → R) : appK s dst E k = k (s.app dst E) := by
  obtain ⟨tm, hp⟩ := s
  simp only [appK, putK_eq, wroteK_eq, St.app]
def tmK {R : Type} (s : St) (t : Nat) (b : Bool) (k : St → R) : R :=
  match s with
  | ⟨tm, hp⟩ => setK tm t (.val (.bool b)) fun tm' => k ⟨tm', hp⟩
theorem tmK_eq {R : Type} (s : St) (t : Nat) (b : Bool) (k : St → R) : tmK s t b k = k ⟨s.tm.set t (.val (.bool b)), s.hp⟩ := by
  obtain ⟨tm, hp⟩ := s
  simp only [tmK, setK_eq]
structure FP where
  i : Nat
  rd : List Nat
  wr : List Nat
def Eff.wrb (E : Eff) : List Nat := E.wr.map (·.1)
def FP.apart (p : FP) (rd : List Nat) (wr : List Nat) : Bool :=
  p.wr.all (fun b => !rd.contains b) && wr.all (fun b => !p.rd.contains b)
def fpsOk (ops : Array Oper) (i : Nat) (rd : List Nat) (wr : List Nat) (fps : List FP) : Bool := fps.all fun p => p.apart rd wr || Waits ops i p.i
section
variable {R : Type}
def opsK (P : Program) (cs : List (Kn P)) (draw : Bool) (ops : Array Oper) : List Oper → Nat → List FP → St → (St → Option R) → Option R
  | [], _, _, s, k => k s
  | o :: l, i, fps, s, k =>
    match o.guard with
    | none => opX P cs s.tm s.hp o fun E => bif draw && !fpsOk ops i E.rd E.wrb fps then none else appK s o.dst E fun s' => opsK P cs draw ops l (i + 1) (bif draw then ⟨i, E.rd, E.wrb⟩ :: fps else fps) s' k
    | some (j, want) =>
      match (ops[j]?).bind (·.dst) with
      | none => appK s o.dst skipE fun s' => opsK P cs draw ops l (i + 1) fps s' k
      | some t =>
        match s.tm[t]? with
        | some (.val (.bool b)) =>
          bif b then
            (tmK s t true fun s => bif want then
              opX P cs s.tm s.hp o fun E => bif draw && !fpsOk ops i E.rd E.wrb fps then none else appK s o.dst E fun s' => opsK P cs draw ops l (i + 1) (bif draw then ⟨i, E.rd, E.wrb⟩ :: fps else fps) s' k
            else appK s o.dst skipE fun s' => opsK P cs draw ops l (i + 1) fps s' k)
          else
            (tmK s t false fun s => bif want then appK s o.dst skipE fun s' => opsK P cs draw ops l (i + 1) fps s' k
            else
              opX P cs s.tm s.hp o fun E => bif draw && !fpsOk ops i E.rd E.wrb fps then none else appK s o.dst E fun s' => opsK P cs draw ops l (i + 1) (bif draw then ⟨i, E.rd, E.wrb⟩ :: fps else fps) s' k)
        | some (.val (.tuple _)) => appK s o.dst skipE fun s' => opsK P cs draw ops l (i + 1) fps s' k
        | _ => none
theorem set_self {α : Type} : ∀ {l : List α} {t : Nat} {x : α}, l[t]? = some x → l.set t x = l
  | [], _, _, _ => rfl
  | a :: l, 0, x, h => by simp at h; subst h; rfl
  | a :: l, t + 1, x, h => by simp only [List.set_cons_succ]; rw [set_self (by simpa using h)]
def Touch (ops : Array Oper) (p q : Nat × Eff) : Prop := Waits ops q.1 p.1 = true ∨ ((∀ x ∈ p.2.wr, x.1 ∉ q.2.rd) ∧ (∀ x ∈ q.2.wr, x.1 ∉ p.2.rd))
def TouchF (ops : Array Oper) (p : FP) (q : Nat × Eff) : Prop := Waits ops q.1 p.i = true ∨ ((∀ b ∈ p.wr, b ∉ q.2.rd) ∧ (∀ x ∈ q.2.wr, x.1 ∉ p.rd))
theorem fpsOk_spec {ops : Array Oper} {i : Nat} {E : Eff} {fps : List FP} (h : fpsOk ops i E.rd E.wrb fps = true) : ∀ p ∈ fps, TouchF ops p (i, E) := fun p hp => by
  have := List.all_eq_true.1 h p hp
  rw [Bool.or_eq_true] at this
  rcases this with h1 | h1
  · refine .inr ?_
    simp only [FP.apart, Bool.and_eq_true] at h1
    obtain ⟨h1, h2⟩ := h1
    refine ⟨fun b hb => ?_, fun x hx => ?_⟩
    · simpa using List.all_eq_true.1 h1 b hb
    · simpa using List.all_eq_true.1 h2 x.1 (List.mem_map.2 ⟨x, hx, rfl⟩)
  · exact .inl h1
theorem opsK_sound {P : Program} {cs : List (Kn P)} {draw : Bool} {ops : Array Oper} {k : St → Option R} {r : R} : ∀ (l : List Oper) (i : Nat) (fps : List FP) (s : St), (∀ j, l[j]? = ops[i + j]?) → opsK P cs draw ops l i fps s k = some r →
    ∃ L s', RunR P ops L s s' ∧ L.map (·.1) = List.range' i l.length ∧ k s' = some r ∧ (draw = true → L.Pairwise (Touch ops) ∧ ∀ p ∈ fps, ∀ q ∈ L, TouchF ops p q)
  | [], i, fps, s, hl, h => ⟨[], s, .nil s, rfl, h, fun _ => ⟨.nil, fun _ _ _ hq => by cases hq⟩⟩
  | o :: l, i, fps, s, hl, h => by
    have ho : ops[i]? = some o := by simpa using (hl 0).symm
    have hl' : ∀ j, l[j]? = ops[i + 1 + j]? := fun j => by have := hl (j + 1); simpa [Nat.add_assoc, Nat.add_comm 1 j] using this
    have hd : dstOf ops i = o.dst := by simp [dstOf, ho]
    -- an operation that is carried out
    have exec : guardV ops s.tm o = some true → opX P cs s.tm s.hp o (fun E => bif draw && !fpsOk ops i E.rd E.wrb fps then none else opsK P cs draw ops l (i + 1) (bif draw then ⟨i, E.rd, E.wrb⟩ :: fps else fps) (s.app o.dst E) k) = some r →
        ∃ L s', RunR P ops L s s' ∧ L.map (·.1) = List.range' i (o :: l).length ∧ k s' = some r ∧ (draw = true → L.Pairwise (Touch ops) ∧ ∀ p ∈ fps, ∀ q ∈ L, TouchF ops p q) := fun hg h => by
      obtain ⟨E, hR, hk⟩ := opX_sound h
      obtain ⟨hc, hk⟩ := bif_none hk
      obtain ⟨L, s', h1, h2, h3, h4⟩ := opsK_sound l (i + 1) _ _ hl' hk
      refine ⟨(i, E) :: L, s', .cons ⟨o, ho, .inl ⟨hg, hR⟩⟩ (by rw [hd]; exact h1), by simp [h2, List.range'_succ], h3, fun hdr => ?_⟩
      subst hdr
      obtain ⟨h5, h6⟩ := h4 rfl
      have hfp := fpsOk_spec (ops := ops) (i := i) (E := E) (fps := fps) (by simpa using hc)
      refine ⟨List.pairwise_cons.2 ⟨fun q hq => ?_, h5⟩, fun p hp q hq => ?_⟩
      · have := h6 ⟨i, E.rd, E.wrb⟩ (by simp) q hq
        rcases this with h | ⟨h7, h8⟩
        · exact .inl h
        · exact .inr ⟨fun x hx => h7 x.1 (List.mem_map.2 ⟨x, hx, rfl⟩), h8⟩
      · cases hq with
        | head => exact hfp p hp
        | tail _ hq => exact h6 p (by simp [hp]) q hq
    -- .. that is skipped
    have skip : guardV ops s.tm o = some false → opsK P cs draw ops l (i + 1) fps (s.app o.dst skipE) k = some r →
        ∃ L s', RunR P ops L s s' ∧ L.map (·.1) = List.range' i (o :: l).length ∧ k s' = some r ∧ (draw = true → L.Pairwise (Touch ops) ∧ ∀ p ∈ fps, ∀ q ∈ L, TouchF ops p q) := fun hg h => by
      obtain ⟨L, s', h1, h2, h3, h4⟩ := opsK_sound l (i + 1) _ _ hl' h
      refine ⟨(i, skipE) :: L, s', .cons ⟨o, ho, .inr ⟨hg, rfl⟩⟩ (by rw [hd]; exact h1), by simp [h2, List.range'_succ], h3, fun hdr => ?_⟩
      obtain ⟨h5, h6⟩ := h4 hdr
      refine ⟨List.pairwise_cons.2 ⟨fun q hq => .inr ⟨fun x hx => (by cases hx), fun x hx hb => (by cases hb)⟩, h5⟩, fun p hp q hq => ?_⟩
      cases hq with
      | head => exact .inr ⟨fun b hb hn => (by cases hn), fun x hx => (by cases hx)⟩
      | tail _ hq => exact h6 p hp q hq
    simp only [opsK, appK_eq, tmK_eq] at h
    cases hgd : o.guard with
    | none =>
      rw [hgd] at h
      exact exec (by unfold guardV; rw [hgd]) h
    | some p =>
      obtain ⟨j, want⟩ := p
      rw [hgd] at h
      simp only at h
      cases ht : (ops[j]?).bind (·.dst) with
      | none => rw [ht] at h; exact skip (by unfold guardV; rw [hgd]; simp only [ht]) h
      | some t =>
        rw [ht] at h
        simp only at h
        split at h
        · rename_i b hb
          have hself : ∀ c, c = b → s.tm.set t (.val (.bool c)) = s.tm := fun c e => by subst e; exact set_self hb
          cases b with
          | true =>
            simp only [cond_true, hself true rfl] at h
            cases want with
            | true => exact exec (by unfold guardV; rw [hgd]; simp only [ht, hb]; rfl) h
            | false => exact skip (by unfold guardV; rw [hgd]; simp only [ht, hb]; rfl) h
          | false =>
            simp only [cond_false, hself false rfl] at h
            cases want with
            | true => exact skip (by unfold guardV; rw [hgd]; simp only [ht, hb]; rfl) h
            | false => exact exec (by unfold guardV; rw [hgd]; simp only [ht, hb]; rfl) h
        · rename_i vs hb
          exact skip (by unfold guardV; rw [hgd]; simp only [ht, hb]) h
        · cases h
end
def regionOk (ops : Array Oper) : Bool :=
  ops.toList.zipIdx.all fun (o, j) => o.after.toList.all (fun e => !Region.binds .any e || Nat.blt e.on j) && (List.range j).all fun i => Waits ops j i || (match ops[i]? with | some p => p.apart ops o | none => false)
theorem regionOk_edge {ops : Array Oper} (h : regionOk ops = true) : ∀ (i : Nat) (o : Oper), ops[i]? = some o → ∀ e ∈ o.after, Region.binds .any e = true → e.on < i := fun i o ho e he hb => by
  have hm : (o, i) ∈ ops.toList.zipIdx := List.mem_zipIdx_iff_getElem?.2 (by simpa using ho)
  have := List.all_eq_true.1 h (o, i) hm
  simp only [Bool.and_eq_true] at this
  have := List.all_eq_true.1 this.1 e (by simpa using he)
  rw [hb] at this
  simpa [Nat.blt_eq] using this
theorem regionOk_apart {ops : Array Oper} (h : regionOk ops = true) {i j : Nat} (hij : i < j) {o : Oper} (hj : ops[j]? = some o) : Waits ops j i = true ∨ ∃ p, ops[i]? = some p ∧ p.apart ops o = true := by
  have hm : (o, j) ∈ ops.toList.zipIdx := List.mem_zipIdx_iff_getElem?.2 (by simpa using hj)
  have := List.all_eq_true.1 h (o, j) hm
  simp only [Bool.and_eq_true] at this
  have := List.all_eq_true.1 this.2 i (by simpa using hij)
  rw [Bool.or_eq_true] at this
  rcases this with h1 | h1
  · exact .inl h1
  · cases hp : ops[i]? with
    | none => rw [hp] at h1; cases h1
    | some p => rw [hp] at h1; exact .inr ⟨p, rfl, h1⟩
end Go.Proofs.YtcihbcffokjgjaaGreat.Ev
