/- The evaluator: operations, regions, code, whole functions, with what follows as a continuation; and that what it returns is what the model returns. -/
import Derived.Test.YtmkhglpfhnocaaaEv5
namespace Go.Proofs.Ytmkhglpfhnocaaa.Ev
open Go Go.RowKit
set_option linter.unusedVariables false
set_option linter.unusedSimpArgs false

/-- A function that is known: its number, and what it returns. -/
structure Kn (P : Program) where
  f : FuncId
  semK : {R : Type} → List AV → (AV → Option R) → Option R
  ok : ∀ {R : Type} (avs : List AV) (k : AV → Option R) (r : R), semK avs k = some r → ∃ r0, Contract P f avs r0 ∧ k r0 = some r

section
variable {R : Type}

def callK {P : Program} : List (Kn P) → FuncId → List AV → (AV → Option R) → Option R
  | [], _, _, _ => none
  | c :: cs, f, avs, k => bif c.f == f then c.semK avs k else callK cs f avs k

def rho0 (tm : List V) (x : Operand) : Value :=
  match evV tm x with
  | .val v => v
  | _ => undef
def V.isVal : V → Bool
  | .val _ => true
  | _ => false
def pureK (P : Program) (tm : List V) (o : Oper) (k : Eff → Option R) : Option R :=
  bif o.op.operands.toList.all fun x => (evV tm x).isVal then
    match semVal P (execOp (rho0 tm) o) with
    | some (.value v) => k ⟨.val v, [], []⟩
    | _ => none
  else none
def freeAt (hp : List Blk) (o : Oper) : Option Nat :=
  match o.dst with
  | some d =>
    match hp[d]? with
    | some .none => some d
    | _ => none
  | none => none
def pickK (t : Bool) (k : Eff → Option R) : V → V → Option R
  | .val (.bool a), .val (.bool b) => k ⟨.val (.bool (bif t then a else b)), [], []⟩
  | .val (.int ka a), .val (.int kb b) => if ka = kb then k ⟨.val (.int ka (bif t then a else b)), [], []⟩ else none
  | x, y => bif t then k ⟨x, [], []⟩ else k ⟨y, [], []⟩
def binK (P : Program) (tm : List V) (o : Oper) (op : BinOp) (t : TypeId) (k : Eff → Option R) : V → V → Option R
  | .val (.int ka a), .val (.int kb b) =>
    match op with
    | .quo => if ka = kb then (bif decide (b = 0) then none else k ⟨.val (.int ka (ka.wrap (a.tdiv b))), [], []⟩) else none
    | .rem => if ka = kb then (bif decide (b = 0) then none else k ⟨.val (.int ka (a.tmod b)), [], []⟩) else none
    | .shl => bif decide (b < 0) then none else k ⟨.val (.int ka (ka.wrap (a * 2 ^ min b.toNat ka.bits))), [], []⟩
    | .shr => bif decide (b < 0) then none else k ⟨.val (.int ka (a.fdiv (2 ^ min b.toNat ka.bits))), [], []⟩
    | _ => pureK P tm o k
  | .val (.agg a), .val (.agg b) =>
    match op with
    | .eql => if P.eqGuardType P.depth t = false then (match eqV P 10 t (.agg a) (.agg b) with | some q => k ⟨.val (.bool q), [], []⟩ | none => none) else none
    | .neq => if P.eqGuardType P.depth t = false then (match eqV P 10 t (.agg a) (.agg b) with | some q => k ⟨.val (.bool !q), [], []⟩ | none => none) else none
    | _ => none
  | _, _ => pureK P tm o k

/-- The same operand, by the text. -/
def sameOp : Operand → Operand → Bool
  | .tmp a, .tmp b => a == b
  | .const (.int k a), .const (.int k' b) => decide (k = k') && a == b
  | _, _ => false
theorem sameOp_eq {x y : Operand} (h : sameOp x y = true) : x = y := by
  unfold sameOp at h
  split at h
  · rw [eq_of_beq h]
  · simp only [Bool.and_eq_true, decide_eq_true_eq] at h
    obtain ⟨rfl, h⟩ := h
    rw [eq_of_beq h]
  · cases h
def opK (P : Program) (cs : List (Kn P)) (tm : List V) (hp : List Blk) (o : Oper) (k : Eff → Option R) : Option R :=
  match o.op with
  | .move x | .assign x => k ⟨evV tm x, [], []⟩
  | .pick c x y =>
    match evV tm c with
    | .val (.bool t) => pickK t k (evV tm x) (evV tm y)
    | _ => none
  | .binOp op t x y _ => binK P tm o op t k (evV tm x) (evV tm y)
  | .alloc t =>
    match freeAt hp o, semVal P (zeroValue t) with
    | some d, some z => k ⟨.ptr d 0 0 0, [(d, .own (z.cells.toList.map .val))], [d]⟩
    | _, _ => none
  | .box t x =>
    match freeAt hp o, evV tm x with
    | some d, .val v => k ⟨.ptr d 0 0 0, [(d, .own (v.cells.toList.map .val))], [d]⟩
    | some d, .pk cs => k ⟨.ptr d 0 0 0, [(d, .own (cs.map PV.v))], [d]⟩
    | _, _ => none
  | .buildSlice t len parts =>
    bif o.op.operands.toList.all fun x => (evV tm x).isVal then
      match freeAt hp o, semVal P (rowParts t len (parts.map fun (i, x) => (i, rho0 tm x))) with
      | some d, some (e, sz, cells) =>
        match growFs P e sz len cells with
        | some fs => k ⟨.sl d sz len, [(d, .grow e len fs)], [d]⟩
        | none => k ⟨.sl d sz len, [(d, .own (cells.toList.map .val))], [d]⟩
      | _, _ => none
    else none
  | .load t x =>
    match evV tm x with
    | .ptr b row sz fld =>
      match semVal P (isAgg t) with
      | some false =>
        match readV hp b row sz fld with
        | some v => k ⟨v, [], [b]⟩
        | none => none
      | some true =>
        match semVal P (sizeOf t) with
        | some n =>
          match readAgg hp b row sz fld n with
          | some vs => k ⟨.val (.agg vs.toArray), [], [b]⟩
          | none =>
            match readPk hp b row sz fld n with
            | some ps => k ⟨.pk ps, [], [b]⟩
            | none => none
        | none => none
      | none => none
    | .gp g row sz fld =>
      match semVal P (isAgg t), globF g globs with
      | some false, some (n, fs) =>
        match fs[fld]? with
        | some f => if sz = fs.length then k ⟨.val (f.at row), [], []⟩ else none
        | none => none
      | _, _ => none
    | _ => none
  | .store t x y =>
    match evV tm x with
    | .ptr b row sz fld =>
      match hp[b]?, cellsV (evV tm y), semVal P (sizeOf t) with
      | some (.grow e n fs), _, some q =>
        match evV tm y with
        | .val v =>
          if sz = fs.length ∧ q = v.cells.size ∧ fld + v.cells.size ≤ fs.length then
            match setFs row fs fld v.cells.toList with
            | some fs' => k ⟨.val undef, [(b, .grow e n fs')], [b]⟩
            | none => none
          else none
        | _ => none
      | some (.own cs), some ws, some n =>
        if n = ws.length ∧ row * sz + fld + ws.length ≤ cs.length then k ⟨.val undef, [(b, .own (cs.take (row * sz + fld) ++ ws ++ cs.drop (row * sz + fld + ws.length)))], [b]⟩ else none
      | _, _, _ => none
    | _ => none
  | .fieldAddr t x f =>
    match evV tm x with
    | .ptr b row sz fld =>
      match P.underlying t with
      | some (.struct fs) =>
        match fs[f]? with
        | some fl =>
          match semVal P (sizeOf fl.type) with
          | some (_ + 1) => k ⟨.ptr b row sz (fld + fl.offset), [], []⟩
          | _ => none
        | none => none
      | _ => none
    | .gp g row sz fld =>
      match P.underlying t with
      | some (.struct fs) =>
        match fs[f]? with
        | some fl =>
          match semVal P (sizeOf fl.type) with
          | some (_ + 1) => k ⟨.gp g row sz (fld + fl.offset), [], []⟩
          | _ => none
        | none => none
      | _ => none
    | _ => none
  | .indexAddr t x ix =>
    match evV tm x, evV tm ix with
    | .sl b sz len, .val (.int kk i) =>
      match P.underlying t with
      | some (.slice e) =>
        match semVal P (sizeOf e) with
        | some n => if n = sz ∧ (hp.getD b .none).live = true then (bif decide (0 ≤ i) then (bif decide (i < (len : Int)) then k ⟨.ptr b i.toNat sz 0, [], [b]⟩ else none) else none) else none
        | none => none
      | _ => none
    | .ptr b row sz fld, .val (.int kk i) =>
      match P.underlying t with
      | some (.array len e) =>
        match semVal P (sizeOf e) with
        | some n => bif decide (0 ≤ i) then (bif decide (i < (len : Int)) then k ⟨.ptr b row sz (fld + i.toNat * n), [], []⟩ else none) else none
        | none => none
      | _ => none
    | .gp g 0 sz 0, .val (.int kk i) =>
      match P.underlying t with
      | some (.array len e) =>
        match semVal P (sizeOf e), globF g globs with
        | some n, some (m, fs) => if n = sz ∧ len ≤ m then (bif decide (0 ≤ i) then (bif decide (i < (len : Int)) then k ⟨.gp g i.toNat sz 0, [], []⟩ else none) else none) else none
        | _, _ => none
      | _ => none
    | _, _ => none
  | .makeSlice t x y =>
    match freeAt hp o, evV tm x, evV tm y, P.underlying t with
    | some d, .val (.int kl n), .val (.int kc n'), some (.slice e) =>
      match P.info? e with
      | some i =>
        match i.zero with
        | some z =>
          match zeroFs z.cells.toList with
          | some fs =>
            if z.cells.size = i.size ∧ 0 < i.size ∧ 0 < i.bytes ∧ sameOp x y = true then
              bif decide (0 ≤ n) then (bif Nat.ble (n.toNat * i.bytes) 140737488355328 then k ⟨.sl d i.size n.toNat, [(d, .grow e n.toNat fs)], [d]⟩ else none) else none
            else none
          | none => none
        | none => none
      | none => none
    | _, _, _, _ => none
  | .index t x ix =>
    match evV tm x, evV tm ix with
    | .val (.string q), .val (.int kk i) =>
      match P.underlying t with
      | some .string => bif decide (0 ≤ i) then (q[i.toNat]?).bind fun u => k ⟨.val (.int .u8 u.toNat), [], []⟩ else none
      | _ => none
    | _, _ => pureK P tm o k
  | .call c =>
    match c.callee with
    | .builtin .len =>
      match c.args.toList, c.argTypes.toList with
      | [x], [t] =>
        match evV tm x with
        | .sl b sz len =>
          match P.underlying t with
          | some (.slice e) => k ⟨.val (.int .i64 len), [], []⟩
          | _ => none
        | _ => pureK P tm o k
      | _, _ => none
    | .value (.func f) =>
      match avsOf hp (c.args.toList.map (evV tm)) with
      | some (avs, rd) => callK cs f avs fun r =>
        match r with
        | .val v => k ⟨.val v, [], rd⟩
        | .pk _ => none
        | .rows n fs =>
          match freeAt hp o with
          | some d => k ⟨.sl d fs.length n, [(d, .ext n fs)], d :: rd⟩
          | none => none
      | none => none
    | .builtin .append =>
      match c.args.toList, c.argTypes.toList with
      | [x, y], [t, t'] =>
        match evV tm x, evV tm y with
        | .sl b sz n, yv =>
          match freeAt hp o, hp[b]?, avOf hp yv, P.underlying t with
          | some d, some (.grow e n1 fs), some (.rows m fs2, rd2), some (.slice e') =>
            match P.info? e, catFs n fs fs2 with
            | some i, some fs3 =>
              match i.zero with
              | some z =>
                if t = t' ∧ e' = e ∧ z.cells.size = i.size ∧ fs.length = i.size ∧ fs2.length = i.size ∧ 0 < i.bytes then
                  bif Nat.ble ((n + m) * i.bytes) 140737488355328 then k ⟨.sl d i.size (n + m), [(d, .grow e (n + m) fs3), (b, .gone)], d :: b :: rd2⟩ else none
                else none
              | none => none
            | _, _ => none
          | _, _, _, _ => none
        | _, _ => none
      | _, _ => none
    | .builtin _ => pureK P tm o k
    | _ => none
  | .select .. | .go _ | .defer _ | .panic _ | .send .. | .recv .. | .makeFunc .. => none
  | _ => pureK P tm o k

theorem callK_sound {P : Program} : ∀ {cs : List (Kn P)} {f : FuncId} {avs : List AV} {k : AV → Option R} {r : R}, callK cs f avs k = some r → ∃ r0, Contract P f avs r0 ∧ k r0 = some r
  | [], _, _, _, _, h => by cases h
  | c :: cs, f, avs, k, r, h => by
    simp only [callK] at h
    cases hf : c.f == f with
    | true =>
      rw [hf] at h
      have : c.f = f := by simpa using hf
      subst this
      exact c.ok avs k r h
    | false => rw [hf] at h; exact callK_sound h

variable {P : Program} {cs : List (Kn P)} {tm : List V} {hp : List Blk} {o : Oper} {k : Eff → Option R} {r : R}

theorem rho0_spec {x : Operand} (h : (evV tm x).isVal = true) : evV tm x = .val (rho0 tm x) := by
  unfold rho0
  cases hx : evV tm x <;> rw [hx] at h <;> first | rfl | cases h
theorem all_vals (h : (o.op.operands.toList.all fun x => (evV tm x).isVal) = true) : ∀ x ∈ o.op.operands, evV tm x = .val (rho0 tm x) := fun x hx => rho0_spec (List.all_eq_true.1 h x (by simpa using hx))
theorem pureK_sound (hs : ∀ cs b, o.op ≠ .select cs b) (h : pureK P tm o k = some r) : ∃ E, OpR P tm hp o E ∧ k E = some r := by
  unfold pureK at h
  cases ha : (o.op.operands.toList.all fun x => (evV tm x).isVal) with
  | false => rw [ha] at h; cases h
  | true =>
    rw [ha] at h
    simp only [cond_true] at h
    split at h
    · rename_i v hv
      exact ⟨_, .pure (rho0 tm) v hs (all_vals ha) hv, h⟩
    · cases h
theorem freeAt_spec {d : Nat} (h : freeAt hp o = some d) : o.dst = some d ∧ hp[d]? = some .none := by
  unfold freeAt at h
  cases hd : o.dst with
  | none => rw [hd] at h; cases h
  | some d' =>
    rw [hd] at h
    simp only at h
    split at h
    · rename_i hh; cases h; exact ⟨rfl, hh⟩
    · cases h
theorem semVal_bind {α β : Type} (x : Sem α) (f : α → Sem β) : semVal P (x >>= f) = (semVal P x).bind fun a => semVal P (f a) := by
  show semVal P (x.bind f) = _
  induction x with
  | pure a => rfl
  | program g ih => simp only [Sem.bind, semVal, ih]
  | mark m g ih => simp only [Sem.bind, semVal, ih]
  | _ => rfl
theorem semVal_pure {α : Type} (a : α) : semVal P (Pure.pure a : Sem α) = some a := rfl

theorem pickK_sound {t : Bool} {x y : V} (h : pickK t k x y = some r) : k ⟨if t then x else y, [], []⟩ = some r := by
  unfold pickK at h
  split at h
  · cases t <;> exact h
  · split at h
    · rename_i e; subst e; cases t <;> exact h
    · cases h
  · cases t <;> exact h

theorem bif_none {c : Bool} {x : Option R} {r : R} (h : (bif c then none else x) = some r) : c = false ∧ x = some r := by
  cases c
  · exact ⟨rfl, h⟩
  · cases h
theorem bif_some {c : Bool} {x : Option R} {r : R} (h : (bif c then x else none) = some r) : c = true ∧ x = some r := by
  cases c
  · cases h
  · exact ⟨rfl, h⟩

theorem binK_sound {op : BinOp} {t yt : TypeId} {x y : Operand} (ho : o.op = .binOp op t x y yt) (h : binK P tm o op t k (evV tm x) (evV tm y) = some r) : ∃ E, OpR P tm hp o E ∧ k E = some r := by
  have hs : ∀ cs b, o.op ≠ .select cs b := fun cs b => by rw [ho]; exact fun e => by cases e
  have ops : ∀ {a b : Value}, evV tm x = .val a → evV tm y = .val b → ∀ z ∈ o.op.operands, evV tm z = .val (rho0 tm z) := fun {a b} hx hy z hz => by
    simp only [ho, Op.operands] at hz
    have : z = x ∨ z = y := by simpa using hz
    rcases this with rfl | rfl
    · exact rho0_spec (by rw [hx]; rfl)
    · exact rho0_spec (by rw [hy]; rfl)
  unfold binK at h
  split at h
  · rename_i ka a kb b hx hy
    have gx : rho0 tm x = .int ka a := by unfold rho0; rw [hx]
    have gy : rho0 tm y = .int kb b := by unfold rho0; rw [hy]
    have run : execOp (rho0 tm) o = (do eqGuard op t x y (.int ka a) (.int kb b); binOp op t (.int ka a) (.int kb b)) >>= fun v => Pure.pure (.value v) := by
      unfold execOp; rw [ho]; simp only [gx, gy]
    split at h
    · split at h
      · rename_i e; subst e
        obtain ⟨hb, hk⟩ := bif_none h
        have hb' : b ≠ 0 := by simpa using hb
        refine ⟨_, .pure (rho0 tm) (.int ka (ka.wrap (a.tdiv b))) hs (ops hx hy) ?_, hk⟩
        rw [run]; simp [eqGuard, binOp, Op.intDiv, hb', semVal_bind, semVal_pure]
      · cases h
    · split at h
      · rename_i e; subst e
        obtain ⟨hb, hk⟩ := bif_none h
        have hb' : b ≠ 0 := by simpa using hb
        refine ⟨_, .pure (rho0 tm) (.int ka (a.tmod b)) hs (ops hx hy) ?_, hk⟩
        rw [run]; simp [eqGuard, binOp, Op.intDiv, hb', semVal_bind, semVal_pure]
      · cases h
    · obtain ⟨hb, hk⟩ := bif_none h
      have hb' : ¬ b < 0 := by simpa using hb
      refine ⟨_, .pure (rho0 tm) (.int ka (ka.wrap (a * 2 ^ min b.toNat ka.bits))) hs (ops hx hy) ?_, hk⟩
      rw [run]; simp [eqGuard, binOp, Op.shift, hb', semVal_bind, semVal_pure]
    · obtain ⟨hb, hk⟩ := bif_none h
      have hb' : ¬ b < 0 := by simpa using hb
      refine ⟨_, .pure (rho0 tm) (.int ka (a.fdiv (2 ^ min b.toNat ka.bits))) hs (ops hx hy) ?_, hk⟩
      rw [run]; simp [eqGuard, binOp, Op.shift, hb', semVal_bind, semVal_pure]
    · exact pureK_sound hs h
  · rename_i a b hx hy
    split at h
    · split at h
      · rename_i hg
        split at h
        · rename_i q hq; exact ⟨_, .eqs .eql t yt x y a b q ho (.inl rfl) hx hy hg hq, h⟩
        · cases h
      · cases h
    · split at h
      · rename_i hg
        split at h
        · rename_i q hq; exact ⟨_, .eqs .neq t yt x y a b q ho (.inr rfl) hx hy hg hq, h⟩
        · cases h
      · cases h
    · cases h
  · exact pureK_sound hs h

theorem opK_sound (h : opK P cs tm hp o k = some r) : ∃ E, OpR P tm hp o E ∧ k E = some r := by
  unfold opK at h
  split at h
  · rename_i x ho; exact ⟨_, .copy x (.inl ho), h⟩
  · rename_i x ho; exact ⟨_, .copy x (.inr ho), h⟩
  · rename_i c x y ho
    split at h
    · rename_i t hc
      exact ⟨_, .pick c x y t ho hc, pickK_sound h⟩
    · cases h
  · rename_i op t x y yt ho; exact binK_sound ho h
  · rename_i t ho
    split at h
    · rename_i d z hd hz
      obtain ⟨h1, h2⟩ := freeAt_spec hd
      exact ⟨_, .alloc t d z ho h1 h2 hz, h⟩
    · cases h
  · rename_i t x ho
    split at h
    · rename_i d v hd hv
      obtain ⟨h1, h2⟩ := freeAt_spec hd
      exact ⟨_, .box t x d v ho h1 h2 hv, h⟩
    · rename_i d cs hd hv
      obtain ⟨h1, h2⟩ := freeAt_spec hd
      exact ⟨_, .boxPk t x d cs ho h1 h2 hv, h⟩
    · cases h
  · rename_i t len parts ho
    obtain ⟨ha, h⟩ := bif_some h
    split at h
    · rename_i d e sz cells hd hv
      obtain ⟨h1, h2⟩ := freeAt_spec hd
      split at h
      · rename_i fs hg
        exact ⟨_, .rowG t len parts (rho0 tm) d e sz cells fs ho h1 h2 (all_vals ha) hv hg, h⟩
      · exact ⟨_, .row t len parts (rho0 tm) d e sz cells ho h1 h2 (all_vals ha) hv, h⟩
    · cases h
  · rename_i t x ho
    split at h
    · rename_i b row sz fld hx
      split at h
      · rename_i ht
        split at h
        · rename_i v hv; exact ⟨_, .load t x b row sz fld v ho hx ht hv, h⟩
        · cases h
      · rename_i ht
        split at h
        · rename_i n hn
          split at h
          · rename_i vs hv; exact ⟨_, .loadAgg t x b row sz fld n vs ho hx ht hn hv, h⟩
          · split at h
            · rename_i ps hv; exact ⟨_, .loadPk t x b row sz fld n ps ho hx ht hn hv, h⟩
            · cases h
        · cases h
      · cases h
    · rename_i g row sz fld hx
      split at h
      · rename_i n fs ht hg
        split at h
        · rename_i f hf
          split at h
          · rename_i hs; exact ⟨_, .gload t x g row sz fld n fs f ho hx ht hg hs hf, h⟩
          · cases h
        · cases h
      · cases h
    · cases h
  · rename_i t x y ho
    split at h
    · rename_i b row sz fld hx
      split at h
      · rename_i e n fs q hc hn
        split at h
        · rename_i v hy
          split at h
          · rename_i hl
            obtain ⟨h1, rfl, h3⟩ := hl
            split at h
            · rename_i fs' hs
              exact ⟨_, .storeG t x y b row sz fld n e fs fs' v ho hx hc h1 hy hn h3 hs, h⟩
            · cases h
          · cases h
        · cases h
      · rename_i cs' ws n hc hw hn
        split at h
        · rename_i hl
          obtain ⟨rfl, hl⟩ := hl
          exact ⟨_, .store t x y b row sz fld cs' ws ho hx hc hw hn hl, h⟩
        · cases h
      · cases h
    · cases h
  · rename_i t x f ho
    split at h
    · rename_i b row sz fld hx
      split at h
      · rename_i fs ht
        split at h
        · rename_i fl hf
          split at h
          · rename_i n hn; exact ⟨_, .field t x f b row sz fld fs fl n ho hx ht hf hn, h⟩
          · cases h
        · cases h
      · cases h
    · rename_i g row sz fld hx
      split at h
      · rename_i fs ht
        split at h
        · rename_i fl hf
          split at h
          · rename_i n hn; exact ⟨_, .gfield t x f g row sz fld fs fl n ho hx ht hf hn, h⟩
          · cases h
        · cases h
      · cases h
    · cases h
  · rename_i t x ix ho
    split at h
    · rename_i b sz len kk i hx hi
      split at h
      · rename_i e ht
        split at h
        · rename_i n hn
          split at h
          · rename_i hl
            obtain ⟨rfl, hl⟩ := hl
            obtain ⟨h0, h⟩ := bif_some h
            obtain ⟨h1, h⟩ := bif_some h
            exact ⟨_, .index t x ix b n len kk i e ho hx hi ht hn (by simpa using h0) (by simpa using h1) hl, h⟩
          · cases h
        · cases h
      · cases h
    · rename_i b row sz fld kk i hx hi
      split at h
      · rename_i len e ht
        split at h
        · rename_i n hn
          obtain ⟨h0, h⟩ := bif_some h
          obtain ⟨h1, h⟩ := bif_some h
          exact ⟨_, .arr t x ix b row sz fld len n kk i e ho hx hi ht hn (by simpa using h0) (by simpa using h1), h⟩
        · cases h
      · cases h
    · rename_i g sz kk i hx hi
      split at h
      · rename_i len e ht
        split at h
        · rename_i n m fs hn hg
          split at h
          · rename_i hl
            obtain ⟨rfl, hl⟩ := hl
            obtain ⟨h0, h⟩ := bif_some h
            obtain ⟨h1, h⟩ := bif_some h
            exact ⟨_, .gidx t x ix g n len m fs kk i e ho hx hi ht hn (by simpa using h0) (by simpa using h1) hg hl, h⟩
          · cases h
        · cases h
      · cases h
    · cases h
  · rename_i t x y ho
    split at h
    · rename_i d kl n kc n' e hd hx hy hu
      obtain ⟨h1, h2⟩ := freeAt_spec hd
      split at h
      · rename_i i hi
        split at h
        · rename_i z hz
          split at h
          · rename_i fs hf
            split at h
            · rename_i hc
              obtain ⟨c1, c2, c3, c4⟩ := hc
              obtain ⟨g1, h⟩ := bif_some h
              obtain ⟨g2, h⟩ := bif_some h
              rw [Nat.ble_eq] at g2
              have e1 := sameOp_eq c4
              subst e1
              rw [hx] at hy
              simp only [V.val.injEq, Value.int.injEq] at hy
              obtain ⟨rfl, rfl⟩ := hy
              exact ⟨_, .make t e x x i z kl kl n d fs ho h1 h2 hx hx hu hi hz c1 c2 hf (by simpa using g1) (by
                have : n.toNat ≤ n.toNat * i.bytes := Nat.le_mul_of_pos_right _ c3
                simp only [maxLen]; omega) g2, h⟩
            · cases h
          · cases h
        · cases h
      · cases h
    · cases h
  · rename_i t x ix ho
    have hs : ∀ cs b, o.op ≠ .select cs b := fun cs b => by rw [ho]; exact fun e => by cases e
    split at h
    · rename_i q kk i hx hi
      split at h
      · rename_i ht
        obtain ⟨h0, h⟩ := bif_some h
        cases hq : q[i.toNat]? with
        | none => rw [hq] at h; cases h
        | some u =>
          rw [hq] at h
          exact ⟨_, .strAt t x ix q kk i u ho hx hi ht (by simpa using h0) hq, h⟩
      · cases h
    · exact pureK_sound hs h
  · rename_i c ho
    have hs : ∀ cs b, o.op ≠ .select cs b := fun cs b => by rw [ho]; exact fun e => by cases e
    split at h
    · rename_i hc
      split at h
      · rename_i x t hx ht
        have hax : c.args = #[x] := by
          have := congrArg List.toArray hx; simpa using this
        have hat : c.argTypes = #[t] := by
          have := congrArg List.toArray ht; simpa using this
        split at h
        · rename_i b sz len hv
          split at h
          · rename_i e hu; exact ⟨_, .len c x t b sz len e ho hc hax hat hv hu, h⟩
          · cases h
        · exact pureK_sound hs h
      · cases h
    · rename_i f hc
      split at h
      · rename_i avs rd ha
        obtain ⟨r0, hC, hk⟩ := callK_sound h
        cases r0 with
        | val v => exact ⟨_, .call c f avs rd v ho hc ha hC, hk⟩
        | pk l => cases hk
        | rows n fs =>
          simp only at hk
          split at hk
          · rename_i d hd
            obtain ⟨h1, h2⟩ := freeAt_spec hd
            exact ⟨_, .callRows c f avs rd d n fs ho hc ha h1 h2 hC, hk⟩
          · cases hk
      · cases h
    · rename_i hc
      split at h
      · rename_i x y t t' hx ht
        have hax : c.args = #[x, y] := by
          have := congrArg List.toArray hx; simpa using this
        have hat : c.argTypes = #[t, t'] := by
          have := congrArg List.toArray ht; simpa using this
        split at h
        · rename_i b sz n hvx
          split at h
          · rename_i d e n1 fs m fs2 rd2 e' hd hb hb2 hu
            obtain ⟨h1, h2⟩ := freeAt_spec hd
            split at h
            · rename_i i fs3 hi h3
              split at h
              · rename_i z hz
                split at h
                · rename_i hcond
                  obtain ⟨rfl, rfl, c1, c2, c3, c4⟩ := hcond
                  obtain ⟨g2, h⟩ := bif_some h
                  rw [Nat.ble_eq] at g2
                  exact ⟨_, .app c x y t e' i z b d sz n m n1 fs fs2 fs3 rd2 ho hc hax hat h1 h2 hvx (by rw [← hb2]) hb hu hi hz c1 c2 c3 h3 (by
                    have : n + m ≤ (n + m) * i.bytes := Nat.le_mul_of_pos_right _ c4
                    simp only [maxLen]; omega) g2, h⟩
                · cases h
              · cases h
            · cases h
          · cases h
        · cases h
      · cases h
    · exact pureK_sound hs h
    · cases h
  all_goals first
    | (cases h; done)
    | exact pureK_sound (by assumption) h
end

end Go.Proofs.Ytmkhglpfhnocaaa.Ev
