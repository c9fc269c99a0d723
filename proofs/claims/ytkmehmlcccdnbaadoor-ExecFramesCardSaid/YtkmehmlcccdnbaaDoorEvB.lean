/- Codes: how a plain value of Lean (a number, a pair, an error) stands for a value of the model, and a callee made of a function's equation. -/
import Derived.Test.YtkmehmlcccdnbaaDoorEvA
namespace Go.Proofs.YtkmehmlcccdnbaaDoor.Ev
open Go Go.RowKit
set_option linter.unusedVariables false
set_option linter.unusedSimpArgs false

/-- An error, parted. -/
def errK {S : Type} (e : Option Int) (a : Option S) (b : Int → Option S) : Option S :=
  match e with
  | none => a
  | some c => b c

/-- A code for one value; 'encK' parts where the shape of the value hangs on what is coded. -/
structure Cod (R : Type) where
  enc : R → Value
  dec : Value → Option R
  encK : {S : Type} → R → (Value → Option S) → Option S
  dec_ok : ∀ v r, dec v = some r → v = enc r
  encK_ok : ∀ {S : Type} (r : R) (k : Value → Option S), encK r k = k (enc r)
/-- .. for a list of values. -/
structure Cods (R : Type) where
  enc : R → List Value
  dec : List Value → Option R
  encK : {S : Type} → R → (List Value → Option S) → Option S
  dec_ok : ∀ v r, dec v = some r → v = enc r
  encK_ok : ∀ {S : Type} (r : R) (k : List Value → Option S), encK r k = k (enc r)

def Cod.int (k : IntKind) : Cod Int where
  enc n := .int k n
  dec := fun | .int k' n => if k' = k then some n else none | _ => none
  encK n f := f (.int k n)
  dec_ok v r h := by
    cases v <;> simp only at h <;> first | (cases h; done) | skip
    split at h
    · rename_i e; subst e; cases h; rfl
    · cases h
  encK_ok _ _ := rfl
def Cod.bool : Cod Bool where
  enc b := .bool b
  dec := fun | .bool b => some b | _ => none
  encK b f := f (.bool b)
  dec_ok v r h := by cases v <;> simp only at h <;> first | (cases h; rfl; done) | (cases h; done)
  encK_ok _ _ := rfl
def Cod.str : Cod ByteArray where
  enc b := .string b
  dec := fun | .string b => some b | _ => none
  encK b f := f (.string b)
  dec_ok v r h := by cases v <;> simp only at h <;> first | (cases h; rfl; done) | (cases h; done)
  encK_ok _ _ := rfl
/-- An error of a type of whole numbers. -/
def Cod.err (t : TypeId) (k : IntKind) : Cod (Option Int) where
  enc := fun | none => .nilIface | some c => .iface t (.int k c)
  dec := fun | .nilIface => some none | .iface t' (.int k' c) => if t' = t ∧ k' = k then some (some c) else none | _ => none
  encK e f := errK e (f .nilIface) fun c => f (.iface t (.int k c))
  dec_ok v r h := by
    split at h
    · cases h; rfl
    · split at h
      · rename_i e; obtain ⟨rfl, rfl⟩ := e; cases h; rfl
      · cases h
    · cases h
  encK_ok r k := by cases r <;> rfl
def Cods.one {R : Type} (c : Cod R) : Cods R where
  enc r := [c.enc r]
  dec := fun | [v] => c.dec v | _ => none
  encK r f := c.encK r fun v => f [v]
  dec_ok v r h := by
    split at h
    · rw [c.dec_ok _ _ h]
    · cases h
  encK_ok r f := c.encK_ok r _
def Cods.cons {R Q : Type} (c : Cod R) (d : Cods Q) : Cods (R × Q) where
  enc r := c.enc r.1 :: d.enc r.2
  dec := fun | v :: l => (match c.dec v, d.dec l with | some a, some b => some (a, b) | _, _ => none) | [] => none
  encK r f := c.encK r.1 fun v => d.encK r.2 fun l => f (v :: l)
  dec_ok v r h := by
    split at h
    · split at h
      · rename_i a b h1 h2
        cases h
        rw [c.dec_ok _ _ h1, d.dec_ok _ _ h2]
      · cases h
    · cases h
  encK_ok r f := by rw [c.encK_ok, d.encK_ok]
def Cods.nil : Cods Unit where
  enc _ := []
  dec := fun | [] => some () | _ => none
  encK _ f := f []
  dec_ok v r h := by
    split at h
    · rfl
    · cases h
  encK_ok _ _ := rfl
def Cod.agg {R : Type} (c : Cods R) : Cod R where
  enc r := .agg ⟨c.enc r⟩
  dec := fun | .agg a => c.dec a.toList | _ => none
  encK r f := c.encK r fun l => f (.agg ⟨l⟩)
  dec_ok v r h := by
    split at h
    · rename_i a; have := c.dec_ok _ _ h; rw [← this]
    · cases h
  encK_ok r f := by rw [c.encK_ok]
def Cod.tup {R : Type} (c : Cods R) : Cod R where
  enc r := .tuple ⟨c.enc r⟩
  dec := fun | .tuple a => c.dec a.toList | _ => none
  encK r f := c.encK r fun l => f (.tuple ⟨l⟩)
  dec_ok v r h := by
    split at h
    · rename_i a; have := c.dec_ok _ _ h; rw [← this]
    · cases h
  encK_ok r f := by rw [c.encK_ok]

/-! ### arguments -/
theorem Contract.of_args {P : Program} {f : FuncId} {l l' : List AV} {r : AV} (h : Contract P f l r) (hl : l.length = l'.length) (hi : ∀ (i : Nat) (x y : AV), l[i]? = some x → l'[i]? = some y → ∀ (fz : Nat → Option Obj) (w : World) (v : Value), AVRel fz w 0 v y → AVRel fz w 0 v x) : Contract P f l' r :=
  fun fz w args hfz hL ⟨h1, h2⟩ => h fz w args hfz hL ⟨by rw [hl]; exact h1, fun i av hav => by
    have hlt : i < l'.length := by rw [← hl]; exact (List.getElem?_eq_some_iff.1 hav).1
    obtain ⟨x, hx, hr⟩ := h2 i l'[i] (List.getElem?_eq_getElem hlt)
    exact ⟨x, hx, hi i av _ hav (List.getElem?_eq_getElem hlt) fz w x hr⟩⟩

/-- A code for one argument: whatever it reads as a, may be told as the code of a. -/
structure ACod (A : Type) where
  enc : A → AV
  dec : AV → Option A
  ok : ∀ v a, dec v = some a → ∀ (fz : Nat → Option Obj) (w : World) (x : Value), AVRel fz w 0 x v → AVRel fz w 0 x (enc a)
structure ACods (A : Type) where
  enc : A → List AV
  dec : List AV → Option A
  ok : ∀ l a, dec l = some a → (enc a).length = l.length ∧ ∀ (i : Nat) (x y : AV), (enc a)[i]? = some x → l[i]? = some y → ∀ (fz : Nat → Option Obj) (w : World) (v : Value), AVRel fz w 0 v y → AVRel fz w 0 v x
def ACod.val {R : Type} (c : Cod R) : ACod R where
  enc r := .val (c.enc r)
  dec := fun | .val v => c.dec v | _ => none
  ok v a h fz w x hx := by
    cases v with
    | val y => simp only at h; rw [c.dec_ok _ _ h] at hx; exact hx
    | rows => cases h
    | tsl => cases h
    | pk => cases h
    | tup => cases h
    | gsl => cases h
    | cells => cases h
    | pan => cases h
/-- Rows: the fields, each of a kind. -/
structure FCods (A : Type) where
  enc : A → List Fld
  dec : List Fld → Option A
  ok : ∀ l a, dec l = some a → l = enc a
  any : A
def FCods.int1 (k : IntKind) : FCods (Nat → Int) where
  enc g := [.int k g]
  dec := fun | [.int k' g] => if k' = k then some g else none | _ => none
  ok l a h := by
    split at h
    · split at h
      · rename_i e; subst e; cases h; rfl
      · cases h
    · cases h
  any := fun _ => 0
def FCods.bool1 : FCods (Nat → Bool) where
  enc g := [.bool g]
  dec := fun | [.bool g] => some g | _ => none
  ok l a h := by
    split at h
    · cases h; rfl
    · cases h
  any := fun _ => false
def FCods.str1 : FCods (Nat → ByteArray) where
  enc g := [.str g]
  dec := fun | [.str g] => some g | _ => none
  ok l a h := by
    split at h
    · cases h; rfl
    · cases h
  any := fun _ => ⟨#[]⟩
def FCods.str {B : Type} (d : FCods B) : FCods ((Nat → ByteArray) × B) where
  enc g := .str g.1 :: d.enc g.2
  dec := fun | .str g :: l => (match d.dec l with | some b => some (g, b) | none => none) | _ => none
  ok l a h := by
    split at h
    · split at h
      · rename_i b hb; cases h; rw [d.ok _ _ hb]
      · cases h
    · cases h
  any := (fun _ => ⟨#[]⟩, d.any)
def FCods.int {B : Type} (k : IntKind) (d : FCods B) : FCods ((Nat → Int) × B) where
  enc g := .int k g.1 :: d.enc g.2
  dec := fun | .int k' g :: l => if k' = k then (match d.dec l with | some b => some (g, b) | none => none) else none | _ => none
  ok l a h := by
    split at h
    · split at h
      · rename_i e; subst e
        split at h
        · rename_i b hb; cases h; rw [d.ok _ _ hb]
        · cases h
      · cases h
    · cases h
  any := (fun _ => 0, d.any)
def FCods.bool {B : Type} (d : FCods B) : FCods ((Nat → Bool) × B) where
  enc g := .bool g.1 :: d.enc g.2
  dec := fun | .bool g :: l => (match d.dec l with | some b => some (g, b) | none => none) | _ => none
  ok l a h := by
    split at h
    · split at h
      · rename_i b hb; cases h; rw [d.ok _ _ hb]
      · cases h
    · cases h
  any := (fun _ => false, d.any)
def ACod.rows {A : Type} (c : FCods A) : ACod (Nat × A) where
  enc r := .rows r.1 (c.enc r.2)
  dec := fun
    | .rows n fs => (match c.dec fs with | some a => some (n, a) | none => none)
    | .val (.slice none 0 0) => some (0, c.any)
    | _ => none
  ok v a h fz w x hx := by
    split at h
    · split at h
      · rename_i b hb; cases h; rw [c.ok _ _ hb] at hx; exact hx
      · cases h
    · cases h
      have : x = .slice none 0 0 := hx
      exact ⟨none, 0, this, Nat.le_refl _, fun hp => absurd hp (Nat.lt_irrefl _)⟩
    · cases h
/-- A struct with slices: its cells. -/
structure PCod (A : Type) where
  enc : A → PA
  dec : PA → Option A
  ok : ∀ p a, dec p = some a → ∀ (fz : Nat → Option Obj) (w : World) (x : Value), PARel fz w 0 x p → PARel fz w 0 x (enc a)
structure PCods (A : Type) where
  enc : A → List PA
  dec : List PA → Option A
  ok : ∀ l a, dec l = some a → (enc a).length = l.length ∧ ∀ (i : Nat) (p q : PA), (enc a)[i]? = some p → l[i]? = some q → ∀ (fz : Nat → Option Obj) (w : World) (x : Value), PARel fz w 0 x q → PARel fz w 0 x p
def PCod.val {R : Type} (c : Cod R) : PCod R where
  enc r := .val (c.enc r)
  dec := fun | .val v => c.dec v | _ => none
  ok p a h fz w x hx := by
    split at h
    · rw [c.dec_ok _ _ h] at hx; exact hx
    · cases h
def PCod.rows {A : Type} (c : FCods A) : PCod (Nat × A) where
  enc r := .rows r.1 (c.enc r.2)
  dec := fun
    | .rows n fs => (match c.dec fs with | some a => some (n, a) | none => none)
    | .val (.slice none 0 0) => some (0, c.any)
    | _ => none
  ok p a h fz w x hx := by
    split at h
    · split at h
      · rename_i b hb; cases h; rw [c.ok _ _ hb] at hx; exact hx
      · cases h
    · cases h
      have : x = .slice none 0 0 := hx
      exact ⟨none, 0, this, Nat.le_refl _, fun hp => absurd hp (Nat.lt_irrefl _)⟩
    · cases h
def PCods.one {A : Type} (c : PCod A) : PCods A where
  enc a := [c.enc a]
  dec := fun | [p] => c.dec p | _ => none
  ok l a h := by
    split at h
    · refine ⟨rfl, fun i p q hp hq => ?_⟩
      cases i with
      | zero => simp at hp hq; subst hp; subst hq; exact c.ok _ _ h
      | succ i => simp at hp
    · cases h
def PCods.cons {A B : Type} (c : PCod A) (d : PCods B) : PCods (A × B) where
  enc a := c.enc a.1 :: d.enc a.2
  dec := fun | v :: l => (match c.dec v, d.dec l with | some a, some b => some (a, b) | _, _ => none) | [] => none
  ok l a h := by
    split at h
    · rename_i v l
      split at h
      · rename_i x y h1 h2
        cases h
        obtain ⟨i1, i2⟩ := d.ok _ _ h2
        refine ⟨by simp [i1], fun i p q hp hq => ?_⟩
        cases i with
        | zero => simp at hp hq; subst hp; subst hq; exact c.ok _ _ h1
        | succ i => exact i2 i p q (by simpa using hp) (by simpa using hq)
      · cases h
    · cases h
def ACod.pk {A : Type} (c : PCods A) : ACod A where
  enc a := .pk (c.enc a)
  dec := fun | .pk l => c.dec l | _ => none
  ok v a h fz w x hx := by
    split at h
    · rename_i l
      obtain ⟨cs, hxe, hl, hc⟩ := hx
      obtain ⟨h1, h2⟩ := c.ok _ _ h
      refine ⟨cs, hxe, by rw [h1, hl], fun i p hp => ?_⟩
      have hlt : i < l.length := by rw [← h1]; exact (List.getElem?_eq_some_iff.1 hp).1
      obtain ⟨y, hy, hr⟩ := hc i l[i] (List.getElem?_eq_getElem hlt)
      exact ⟨y, hy, h2 i p _ hp (List.getElem?_eq_getElem hlt) fz w y hr⟩
    · cases h
/-- A pointer to cells that are only read. -/
def ACod.cells {A : Type} (c : PCods A) : ACod A where
  enc a := .cells (c.enc a)
  dec := fun | .cells l => c.dec l | _ => none
  ok v a h fz w x hx := by
    split at h
    · rename_i l
      obtain ⟨ad, hxe, hl, hc⟩ := hx
      obtain ⟨h1, h2⟩ := c.ok _ _ h
      refine ⟨ad, hxe, hl, fun i p hp => ?_⟩
      have hlt : i < l.length := by rw [← h1]; exact (List.getElem?_eq_some_iff.1 hp).1
      obtain ⟨y, hy, hr⟩ := hc i l[i] (List.getElem?_eq_getElem hlt)
      exact ⟨y, hy, h2 i p _ hp (List.getElem?_eq_getElem hlt) fz w y hr⟩
    · cases h
/-- A function that is known. -/
def ACod.fv (f : FuncId) : ACod Unit where
  enc _ := .val (.func (.func f) #[] #[])
  dec := fun | .val (.func (.func g) fi ca) => (if g = f ∧ fi.size = 0 ∧ ca.size = 0 then some () else none) | _ => none
  ok v a h fz w x hx := by
    split at h
    · split at h
      · rename_i e
        obtain ⟨rfl, h1, h2⟩ := e
        rw [Array.size_eq_zero_iff.1 h1, Array.size_eq_zero_iff.1 h2] at hx
        exact hx
      · cases h
    · cases h
/-- A slice of numbers, or of slices of them. -/
def ACod.tms (dp : Nat) : ACod (List Tm) where
  enc l := .tsl dp l
  dec := fun | .tsl dp' l => (if dp' = dp then some l else none) | .val (.slice none 0 0) => some [] | _ => none
  ok v a h fz w x hx := by
    split at h
    · split at h
      · rename_i e; subst e; cases h; exact hx
      · cases h
    · cases h
      have : x = .slice none 0 0 := hx
      exact ⟨none, 0, this, KidsAt.nil⟩
    · cases h
def kidsPA (dp : Nat) : PA → Option (List Tm)
  | .tsl dp' l => if dp' = dp then some l else none
  | .val (.slice none 0 0) => some []
  | _ => none
theorem kidsPA_ok {dp : Nat} {p : PA} {ks : List Tm} (h : kidsPA dp p = some ks) {fz : Nat → Option Obj} {w : World} {B : Nat} {x : Value} (hx : PARel fz w B x p) : PARel fz w B x (.tsl dp ks) := by
  unfold kidsPA at h
  split at h
  · split at h
    · rename_i e; subst e; cases h; exact hx
    · cases h
  · cases h
    have : x = .slice none 0 0 := hx
    exact ⟨none, 0, this, KidsAt.nil⟩
  · cases h
/-- A cell that is a slice of numbers. -/
def PCod.tms (dp : Nat) : PCod (List Tm) where
  enc l := .tsl dp l
  dec := kidsPA dp
  ok p a h fz w x hx := kidsPA_ok h hx
def ACods.nil : ACods Unit where
  enc _ := []
  dec := fun | [] => some () | _ => none
  ok l a h := by
    split at h
    · exact ⟨rfl, fun i x y hx => by simp at hx⟩
    · cases h
def ACods.cons {A B : Type} (c : ACod A) (d : ACods B) : ACods (A × B) where
  enc a := c.enc a.1 :: d.enc a.2
  dec := fun | v :: l => (match c.dec v, d.dec l with | some a, some b => some (a, b) | _, _ => none) | [] => none
  ok l a h := by
    split at h
    · rename_i v l
      split at h
      · rename_i x y h1 h2
        cases h
        obtain ⟨i1, i2⟩ := d.ok _ _ h2
        refine ⟨by simp [i1], fun i p q hp hq => ?_⟩
        cases i with
        | zero => simp at hp hq; subst hp; subst hq; exact c.ok _ _ h1
        | succ i => exact i2 i p q (by simpa using hp) (by simpa using hq)
      · cases h
    · cases h

/-! ### results: one value, or a slice of the call's own -/
structure RCod (R : Type) where
  enc : R → AV
  dec : AV → Option R
  encK : {S : Type} → R → (AV → Option S) → Option S
  dec_ok : ∀ v r, dec v = some r → ∀ (fz : Nat → Option Obj) (w : World) (B : Nat) (x : Value), AVRel fz w B x v → AVRel fz w B x (enc r)
  encK_ok : ∀ {S : Type} (r : R) (k : AV → Option S), encK r k = k (enc r)
  pan_ok : ∀ v r, dec (.pan v) = some r → enc r = .pan v := by intro v r h; cases h
def RCod.val {R : Type} (c : Cod R) : RCod R where
  enc r := .val (c.enc r)
  dec := fun | .val v => c.dec v | _ => none
  encK r f := c.encK r fun v => f (.val v)
  dec_ok v r h fz w B x hx := by
    split at h
    · rw [c.dec_ok _ _ h] at hx; exact hx
    · cases h
  encK_ok r f := c.encK_ok r _
def RCod.rows {A : Type} (c : FCods A) : RCod (Nat × A) where
  enc r := .rows r.1 (c.enc r.2)
  dec := fun
    | .rows n fs => (match c.dec fs with | some a => some (n, a) | none => none)
    | .val (.slice none 0 0) => some (0, c.any)
    | _ => none
  encK r f := f (.rows r.1 (c.enc r.2))
  dec_ok v r h fz w B x hx := by
    split at h
    · split at h
      · rename_i b hb; cases h; rw [c.ok _ _ hb] at hx; exact hx
      · cases h
    · cases h
      have : x = .slice none 0 0 := hx
      exact ⟨none, 0, this, Nat.le_refl _, fun hp => absurd hp (Nat.lt_irrefl _)⟩
    · cases h
  encK_ok _ _ := rfl

def RCod.tms (dp : Nat) : RCod (List Tm) where
  enc l := .tsl dp l
  dec := fun | .tsl dp' l => (if dp' = dp then some l else none) | .val (.slice none 0 0) => some [] | _ => none
  encK l f := f (.tsl dp l)
  dec_ok v r h fz w B x hx := by
    split at h
    · split at h
      · rename_i e; subst e; cases h; exact hx
      · cases h
    · cases h
      have : x = .slice none 0 0 := hx
      exact ⟨none, 0, this, KidsAt.nil⟩
    · cases h
  encK_ok _ _ := rfl
/-- A slice of numbers that becomes the caller's own. -/
def RCod.gsl (e : TypeId) (dp : Nat) : RCod (List Tm) where
  enc l := .gsl e dp l
  dec := fun | .gsl e' dp' l => (if e' = e ∧ dp' = dp then some l else none) | _ => none
  encK l f := f (.gsl e dp l)
  dec_ok v r h fz w B x hx := by
    split at h
    · split at h
      · rename_i q; obtain ⟨rfl, rfl⟩ := q; cases h; exact hx
      · cases h
    · cases h
  encK_ok _ _ := rfl
def panDec {R : Type} (t : TypeId) : Value → Option (Option R)
  | .iface t' (.agg a) => if t' = t ∧ a.size = 0 then some none else none
  | _ => none
/-- A value, or a panic with an empty struct of a type. -/
def RCod.pan {R : Type} (t : TypeId) (c : Cod R) : RCod (Option R) where
  enc
    | some r => .val (c.enc r)
    | none => .pan (.iface t (.agg #[]))
  dec := fun
    | .val v => (c.dec v).map some
    | .pan v => panDec t v
    | _ => none
  encK r f :=
    match r with
    | some r => c.encK r fun v => f (.val v)
    | none => f (.pan (.iface t (.agg #[])))
  dec_ok v r h fz w B x hx := by
    split at h
    · obtain ⟨q, h1, rfl⟩ := Option.map_eq_some_iff.1 h
      rw [c.dec_ok _ _ h1] at hx; exact hx
    · exact hx.elim
    · cases h
  encK_ok r f := by
    cases r with
    | some r => exact c.encK_ok r _
    | none => rfl
  pan_ok v r h := by
    have h : panDec t v = some r := h
    unfold panDec at h
    split at h
    · rename_i t' a
      split at h
      · rename_i e
        obtain ⟨rfl, e2⟩ := e
        cases h
        rw [Array.size_eq_zero_iff.1 e2]
      · cases h
    · cases h
/-- A part of a tuple. -/
structure TCod (R : Type) where
  enc : R → TA
  dec : TA → Option R
  encK : {S : Type} → R → (TA → Option S) → Option S
  dec_ok : ∀ v r, dec v = some r → ∀ (fz : Nat → Option Obj) (w : World) (B : Nat) (x : Value), TARel fz w B x v → TARel fz w B x (enc r)
  encK_ok : ∀ {S : Type} (r : R) (k : TA → Option S), encK r k = k (enc r)
structure TCods (R : Type) where
  enc : R → List TA
  dec : List TA → Option R
  encK : {S : Type} → R → (List TA → Option S) → Option S
  dec_ok : ∀ l r, dec l = some r → (enc r).length = l.length ∧ ∀ (i : Nat) (p q : TA), (enc r)[i]? = some p → l[i]? = some q → ∀ (fz : Nat → Option Obj) (w : World) (B : Nat) (x : Value), TARel fz w B x q → TARel fz w B x p
  encK_ok : ∀ {S : Type} (r : R) (k : List TA → Option S), encK r k = k (enc r)
def TCod.val {R : Type} (c : Cod R) : TCod R where
  enc r := .one (.val (c.enc r))
  dec := fun | .one (.val v) => c.dec v | _ => none
  encK r f := c.encK r fun v => f (.one (.val v))
  dec_ok v r h fz w B x hx := by
    split at h
    · rw [c.dec_ok _ _ h] at hx; exact hx
    · cases h
  encK_ok r f := c.encK_ok r _
def TCod.tms (dp : Nat) : TCod (List Tm) where
  enc l := .one (.tsl dp l)
  dec := fun | .one p => kidsPA dp p | _ => none
  encK l f := f (.one (.tsl dp l))
  dec_ok v r h fz w B x hx := by
    split at h
    · exact kidsPA_ok h hx
    · cases h
  encK_ok _ _ := rfl
def TCods.one {R : Type} (c : TCod R) : TCods R where
  enc r := [c.enc r]
  dec := fun | [v] => c.dec v | _ => none
  encK r f := c.encK r fun v => f [v]
  dec_ok l r h := by
    split at h
    · refine ⟨rfl, fun i p q hp hq => ?_⟩
      cases i with
      | zero => simp at hp hq; subst hp; subst hq; exact c.dec_ok _ _ h
      | succ i => simp at hp
    · cases h
  encK_ok r f := c.encK_ok r _
def TCods.cons {R Q : Type} (c : TCod R) (d : TCods Q) : TCods (R × Q) where
  enc r := c.enc r.1 :: d.enc r.2
  dec := fun | v :: l => (match c.dec v, d.dec l with | some a, some b => some (a, b) | _, _ => none) | [] => none
  encK r f := c.encK r.1 fun v => d.encK r.2 fun l => f (v :: l)
  dec_ok l r h := by
    split at h
    · rename_i v l
      split at h
      · rename_i x y h1 h2
        cases h
        obtain ⟨i1, i2⟩ := d.dec_ok _ _ h2
        refine ⟨by simp [i1], fun i p q hp hq => ?_⟩
        cases i with
        | zero => simp at hp hq; subst hp; subst hq; exact c.dec_ok _ _ h1
        | succ i => exact i2 i p q (by simpa using hp) (by simpa using hq)
      · cases h
    · cases h
  encK_ok r f := by rw [c.encK_ok, d.encK_ok]
def RCod.tup {R : Type} (c : TCods R) : RCod R where
  enc r := .tup (c.enc r)
  dec := fun
    | .tup l => c.dec l
    | .val (.tuple vs) => c.dec (vs.toList.map fun v => .one (.val v))
    | _ => none
  encK r f := c.encK r fun l => f (.tup l)
  dec_ok v r h fz w B x hx := by
    split at h
    · obtain ⟨cs, hxe, hl, hc⟩ := hx
      obtain ⟨i1, i2⟩ := c.dec_ok _ _ h
      refine ⟨cs, hxe, by rw [i1, hl], fun i p hp => ?_⟩
      rename_i l
      have hlt : i < l.length := by rw [← i1]; exact (List.getElem?_eq_some_iff.1 hp).1
      obtain ⟨y, hy, hr⟩ := hc i l[i] (List.getElem?_eq_getElem hlt)
      exact ⟨y, hy, i2 i p _ hp (List.getElem?_eq_getElem hlt) fz w B y hr⟩
    · rename_i vs
      obtain ⟨i1, i2⟩ := c.dec_ok _ _ h
      have hx' : x = .tuple vs := hx
      refine ⟨vs, hx', by rw [i1]; simp, fun i p hp => ?_⟩
      have hlt : i < vs.size := by have := (List.getElem?_eq_some_iff.1 hp).1; rw [i1] at this; simpa using this
      refine ⟨vs[i], by simp [hlt], i2 i p (.one (.val vs[i])) hp (by simp [hlt]) fz w B _ rfl⟩
    · cases h
  encK_ok r f := c.encK_ok r _

/-- A callee out of its function: 'F' is what it returns. -/
def Kn.of {P : Program} {A R : Type} (f : FuncId) (ac : ACods A) (rc : RCod R) (F : A → Option R) (h : ∀ a r, F a = some r → Contract P f (ac.enc a) (rc.enc r)) : Kn P where
  f := f
  semK l k :=
    match ac.dec l with
    | some a => (F a).bind fun r => rc.encK r k
    | none => none
  ok l k r hk := by
    split at hk
    · rename_i a ha
      cases hF : F a with
      | none => rw [hF] at hk; cases hk
      | some x =>
        rw [hF] at hk
        simp only [Option.bind_some, rc.encK_ok] at hk
        obtain ⟨h1, h2⟩ := ac.ok _ _ ha
        exact ⟨rc.enc x, (h a x hF).of_args h1 h2, hk⟩
    · cases hk

/-- .. out of the equation of its body. -/
theorem Contract.of_body {P : Program} {A R : Type} {f : FuncId} {fn : Func} (hf : P.funcs[f]? = some fn) (hname : (fn.name == "runtime.NumGoroutine") = false) (hm : P.follows .mixedOrders = true) {ac : ACods A} {rc : RCod R} {F : A → Option R} {cs : List (Kn P)}
    {live : Nat → Option Keep} {fuel : Nat} {g : Bool} (h : ∀ a, bodyK P cs live fuel fn g (ac.enc a) rc.dec = F a) : ∀ a r, F a = some r → Contract P f (ac.enc a) (rc.enc r) :=
  fun a r hr => body_sound hf hname hm rc.enc rc.dec_ok rc.pan_ok (by rw [h a]; exact hr)

end Go.Proofs.YtkmehmlcccdnbaaDoor.Ev
