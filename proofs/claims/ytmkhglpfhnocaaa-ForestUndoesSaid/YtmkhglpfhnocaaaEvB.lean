/- Codes: how a plain value of Lean (a number, a pair, an error) stands for a value of the model, and a callee made of a function's equation. -/
import Derived.Test.YtmkhglpfhnocaaaEvA
namespace Go.Proofs.Ytmkhglpfhnocaaa.Ev
open Go Go.RowKit
set_option linter.unusedVariables false
set_option linter.unusedSimpArgs false

/-- An error, parted. -/
def errK {S : Type} (e : Option Int) (a : Option S) (b : Int → Option S) : Option S :=
  match e with
  | none => a
  | some c => b c

/-- A code for one value; 'encK' parts where the shape of the value hangs on what is coded. -/
structure Cod (R : Type) where
  enc : R → Value
  dec : Value → Option R
  encK : {S : Type} → R → (Value → Option S) → Option S
  dec_ok : ∀ v r, dec v = some r → v = enc r
  encK_ok : ∀ {S : Type} (r : R) (k : Value → Option S), encK r k = k (enc r)
/-- .. for a list of values. -/
structure Cods (R : Type) where
  enc : R → List Value
  dec : List Value → Option R
  encK : {S : Type} → R → (List Value → Option S) → Option S
  dec_ok : ∀ v r, dec v = some r → v = enc r
  encK_ok : ∀ {S : Type} (r : R) (k : List Value → Option S), encK r k = k (enc r)

def Cod.int (k : IntKind) : Cod Int where
  enc n := .int k n
  dec := fun | .int k' n => if k' = k then some n else none | _ => none
  encK n f := f (.int k n)
  dec_ok v r h := by
    cases v <;> simp only at h <;> first | (cases h; done) | skip
    split at h
    · rename_i e; subst e; cases h; rfl
    · cases h
  encK_ok _ _ := rfl
def Cod.bool : Cod Bool where
  enc b := .bool b
  dec := fun | .bool b => some b | _ => none
  encK b f := f (.bool b)
  dec_ok v r h := by cases v <;> simp only at h <;> first | (cases h; rfl; done) | (cases h; done)
  encK_ok _ _ := rfl
def Cod.str : Cod ByteArray where
  enc b := .string b
  dec := fun | .string b => some b | _ => none
  encK b f := f (.string b)
  dec_ok v r h := by cases v <;> simp only at h <;> first | (cases h; rfl; done) | (cases h; done)
  encK_ok _ _ := rfl
/-- An error of a type of whole numbers. -/
def Cod.err (t : TypeId) (k : IntKind) : Cod (Option Int) where
  enc := fun | none => .nilIface | some c => .iface t (.int k c)
  dec := fun | .nilIface => some none | .iface t' (.int k' c) => if t' = t ∧ k' = k then some (some c) else none | _ => none
  encK e f := errK e (f .nilIface) fun c => f (.iface t (.int k c))
  dec_ok v r h := by
    split at h
    · cases h; rfl
    · split at h
      · rename_i e; obtain ⟨rfl, rfl⟩ := e; cases h; rfl
      · cases h
    · cases h
  encK_ok r k := by cases r <;> rfl
def Cods.one {R : Type} (c : Cod R) : Cods R where
  enc r := [c.enc r]
  dec := fun | [v] => c.dec v | _ => none
  encK r f := c.encK r fun v => f [v]
  dec_ok v r h := by
    split at h
    · rw [c.dec_ok _ _ h]
    · cases h
  encK_ok r f := c.encK_ok r _
def Cods.cons {R Q : Type} (c : Cod R) (d : Cods Q) : Cods (R × Q) where
  enc r := c.enc r.1 :: d.enc r.2
  dec := fun | v :: l => (match c.dec v, d.dec l with | some a, some b => some (a, b) | _, _ => none) | [] => none
  encK r f := c.encK r.1 fun v => d.encK r.2 fun l => f (v :: l)
  dec_ok v r h := by
    split at h
    · split at h
      · rename_i a b h1 h2
        cases h
        rw [c.dec_ok _ _ h1, d.dec_ok _ _ h2]
      · cases h
    · cases h
  encK_ok r f := by rw [c.encK_ok, d.encK_ok]
def Cods.nil : Cods Unit where
  enc _ := []
  dec := fun | [] => some () | _ => none
  encK _ f := f []
  dec_ok v r h := by
    split at h
    · rfl
    · cases h
  encK_ok _ _ := rfl
def Cod.agg {R : Type} (c : Cods R) : Cod R where
  enc r := .agg ⟨c.enc r⟩
  dec := fun | .agg a => c.dec a.toList | _ => none
  encK r f := c.encK r fun l => f (.agg ⟨l⟩)
  dec_ok v r h := by
    split at h
    · rename_i a; have := c.dec_ok _ _ h; rw [← this]
    · cases h
  encK_ok r f := by rw [c.encK_ok]
def Cod.tup {R : Type} (c : Cods R) : Cod R where
  enc r := .tuple ⟨c.enc r⟩
  dec := fun | .tuple a => c.dec a.toList | _ => none
  encK r f := c.encK r fun l => f (.tuple ⟨l⟩)
  dec_ok v r h := by
    split at h
    · rename_i a; have := c.dec_ok _ _ h; rw [← this]
    · cases h
  encK_ok r f := by rw [c.encK_ok]

/-! ### arguments -/
theorem Contract.of_args {P : Program} {f : FuncId} {l l' : List AV} {r : AV} (h : Contract P f l r) (hl : l.length = l'.length) (hi : ∀ (i : Nat) (x y : AV), l[i]? = some x → l'[i]? = some y → ∀ (w : World) (v : Value), AVRel w 0 v y → AVRel w 0 v x) : Contract P f l' r :=
  fun w args hL ⟨h1, h2⟩ => h w args hL ⟨by rw [hl]; exact h1, fun i av hav => by
    have hlt : i < l'.length := by rw [← hl]; exact (List.getElem?_eq_some_iff.1 hav).1
    obtain ⟨x, hx, hr⟩ := h2 i l'[i] (List.getElem?_eq_getElem hlt)
    exact ⟨x, hx, hi i av _ hav (List.getElem?_eq_getElem hlt) w x hr⟩⟩

/-- A code for one argument: whatever it reads as a, may be told as the code of a. -/
structure ACod (A : Type) where
  enc : A → AV
  dec : AV → Option A
  ok : ∀ v a, dec v = some a → ∀ (w : World) (x : Value), AVRel w 0 x v → AVRel w 0 x (enc a)
structure ACods (A : Type) where
  enc : A → List AV
  dec : List AV → Option A
  ok : ∀ l a, dec l = some a → (enc a).length = l.length ∧ ∀ (i : Nat) (x y : AV), (enc a)[i]? = some x → l[i]? = some y → ∀ (w : World) (v : Value), AVRel w 0 v y → AVRel w 0 v x
def ACod.val {R : Type} (c : Cod R) : ACod R where
  enc r := .val (c.enc r)
  dec := fun | .val v => c.dec v | _ => none
  ok v a h w x hx := by
    cases v with
    | val y => simp only at h; rw [c.dec_ok _ _ h] at hx; exact hx
    | rows => cases h
    | pk => cases h
/-- Rows: the fields, each of a kind. -/
structure FCods (A : Type) where
  enc : A → List Fld
  dec : List Fld → Option A
  ok : ∀ l a, dec l = some a → l = enc a
  any : A
def FCods.int1 (k : IntKind) : FCods (Nat → Int) where
  enc g := [.int k g]
  dec := fun | [.int k' g] => if k' = k then some g else none | _ => none
  ok l a h := by
    split at h
    · split at h
      · rename_i e; subst e; cases h; rfl
      · cases h
    · cases h
  any := fun _ => 0
def FCods.bool1 : FCods (Nat → Bool) where
  enc g := [.bool g]
  dec := fun | [.bool g] => some g | _ => none
  ok l a h := by
    split at h
    · cases h; rfl
    · cases h
  any := fun _ => false
def FCods.int {B : Type} (k : IntKind) (d : FCods B) : FCods ((Nat → Int) × B) where
  enc g := .int k g.1 :: d.enc g.2
  dec := fun | .int k' g :: l => if k' = k then (match d.dec l with | some b => some (g, b) | none => none) else none | _ => none
  ok l a h := by
    split at h
    · split at h
      · rename_i e; subst e
        split at h
        · rename_i b hb; cases h; rw [d.ok _ _ hb]
        · cases h
      · cases h
    · cases h
  any := (fun _ => 0, d.any)
def FCods.bool {B : Type} (d : FCods B) : FCods ((Nat → Bool) × B) where
  enc g := .bool g.1 :: d.enc g.2
  dec := fun | .bool g :: l => (match d.dec l with | some b => some (g, b) | none => none) | _ => none
  ok l a h := by
    split at h
    · split at h
      · rename_i b hb; cases h; rw [d.ok _ _ hb]
      · cases h
    · cases h
  any := (fun _ => false, d.any)
def ACod.rows {A : Type} (c : FCods A) : ACod (Nat × A) where
  enc r := .rows r.1 (c.enc r.2)
  dec := fun
    | .rows n fs => (match c.dec fs with | some a => some (n, a) | none => none)
    | .val (.slice none 0 0) => some (0, c.any)
    | _ => none
  ok v a h w x hx := by
    split at h
    · split at h
      · rename_i b hb; cases h; rw [c.ok _ _ hb] at hx; exact hx
      · cases h
    · cases h
      have : x = .slice none 0 0 := hx
      exact ⟨none, 0, this, fun hp => absurd hp (Nat.lt_irrefl _)⟩
    · cases h
/-- A struct with slices: its cells. -/
structure PCod (A : Type) where
  enc : A → PA
  dec : PA → Option A
  ok : ∀ p a, dec p = some a → ∀ (w : World) (x : Value), PARel w 0 x p → PARel w 0 x (enc a)
structure PCods (A : Type) where
  enc : A → List PA
  dec : List PA → Option A
  ok : ∀ l a, dec l = some a → (enc a).length = l.length ∧ ∀ (i : Nat) (p q : PA), (enc a)[i]? = some p → l[i]? = some q → ∀ (w : World) (x : Value), PARel w 0 x q → PARel w 0 x p
def PCod.val {R : Type} (c : Cod R) : PCod R where
  enc r := .val (c.enc r)
  dec := fun | .val v => c.dec v | _ => none
  ok p a h w x hx := by
    split at h
    · rw [c.dec_ok _ _ h] at hx; exact hx
    · cases h
def PCod.rows {A : Type} (c : FCods A) : PCod (Nat × A) where
  enc r := .rows r.1 (c.enc r.2)
  dec := fun
    | .rows n fs => (match c.dec fs with | some a => some (n, a) | none => none)
    | .val (.slice none 0 0) => some (0, c.any)
    | _ => none
  ok p a h w x hx := by
    split at h
    · split at h
      · rename_i b hb; cases h; rw [c.ok _ _ hb] at hx; exact hx
      · cases h
    · cases h
      have : x = .slice none 0 0 := hx
      exact ⟨none, 0, this, fun hp => absurd hp (Nat.lt_irrefl _)⟩
    · cases h
def PCods.one {A : Type} (c : PCod A) : PCods A where
  enc a := [c.enc a]
  dec := fun | [p] => c.dec p | _ => none
  ok l a h := by
    split at h
    · refine ⟨rfl, fun i p q hp hq => ?_⟩
      cases i with
      | zero => simp at hp hq; subst hp; subst hq; exact c.ok _ _ h
      | succ i => simp at hp
    · cases h
def PCods.cons {A B : Type} (c : PCod A) (d : PCods B) : PCods (A × B) where
  enc a := c.enc a.1 :: d.enc a.2
  dec := fun | v :: l => (match c.dec v, d.dec l with | some a, some b => some (a, b) | _, _ => none) | [] => none
  ok l a h := by
    split at h
    · rename_i v l
      split at h
      · rename_i x y h1 h2
        cases h
        obtain ⟨i1, i2⟩ := d.ok _ _ h2
        refine ⟨by simp [i1], fun i p q hp hq => ?_⟩
        cases i with
        | zero => simp at hp hq; subst hp; subst hq; exact c.ok _ _ h1
        | succ i => exact i2 i p q (by simpa using hp) (by simpa using hq)
      · cases h
    · cases h
def ACod.pk {A : Type} (c : PCods A) : ACod A where
  enc a := .pk (c.enc a)
  dec := fun | .pk l => c.dec l | _ => none
  ok v a h w x hx := by
    split at h
    · rename_i l
      obtain ⟨cs, hxe, hl, hc⟩ := hx
      obtain ⟨h1, h2⟩ := c.ok _ _ h
      refine ⟨cs, hxe, by rw [h1, hl], fun i p hp => ?_⟩
      have hlt : i < l.length := by rw [← h1]; exact (List.getElem?_eq_some_iff.1 hp).1
      obtain ⟨y, hy, hr⟩ := hc i l[i] (List.getElem?_eq_getElem hlt)
      exact ⟨y, hy, h2 i p _ hp (List.getElem?_eq_getElem hlt) w y hr⟩
    · cases h
def ACods.nil : ACods Unit where
  enc _ := []
  dec := fun | [] => some () | _ => none
  ok l a h := by
    split at h
    · exact ⟨rfl, fun i x y hx => by simp at hx⟩
    · cases h
def ACods.cons {A B : Type} (c : ACod A) (d : ACods B) : ACods (A × B) where
  enc a := c.enc a.1 :: d.enc a.2
  dec := fun | v :: l => (match c.dec v, d.dec l with | some a, some b => some (a, b) | _, _ => none) | [] => none
  ok l a h := by
    split at h
    · rename_i v l
      split at h
      · rename_i x y h1 h2
        cases h
        obtain ⟨i1, i2⟩ := d.ok _ _ h2
        refine ⟨by simp [i1], fun i p q hp hq => ?_⟩
        cases i with
        | zero => simp at hp hq; subst hp; subst hq; exact c.ok _ _ h1
        | succ i => exact i2 i p q (by simpa using hp) (by simpa using hq)
      · cases h
    · cases h

/-! ### results: one value, or a slice of the call's own -/
structure RCod (R : Type) where
  enc : R → AV
  dec : AV → Option R
  encK : {S : Type} → R → (AV → Option S) → Option S
  dec_ok : ∀ v r, dec v = some r → ∀ (w : World) (B : Nat) (x : Value), AVRel w B x v → AVRel w B x (enc r)
  encK_ok : ∀ {S : Type} (r : R) (k : AV → Option S), encK r k = k (enc r)
def RCod.val {R : Type} (c : Cod R) : RCod R where
  enc r := .val (c.enc r)
  dec := fun | .val v => c.dec v | _ => none
  encK r f := c.encK r fun v => f (.val v)
  dec_ok v r h w B x hx := by
    split at h
    · rw [c.dec_ok _ _ h] at hx; exact hx
    · cases h
  encK_ok r f := c.encK_ok r _
def RCod.rows {A : Type} (c : FCods A) : RCod (Nat × A) where
  enc r := .rows r.1 (c.enc r.2)
  dec := fun
    | .rows n fs => (match c.dec fs with | some a => some (n, a) | none => none)
    | .val (.slice none 0 0) => some (0, c.any)
    | _ => none
  encK r f := f (.rows r.1 (c.enc r.2))
  dec_ok v r h w B x hx := by
    split at h
    · split at h
      · rename_i b hb; cases h; rw [c.ok _ _ hb] at hx; exact hx
      · cases h
    · cases h
      have : x = .slice none 0 0 := hx
      exact ⟨none, 0, this, fun hp => absurd hp (Nat.lt_irrefl _)⟩
    · cases h
  encK_ok _ _ := rfl

/-- A callee out of its function: 'F' is what it returns. -/
def Kn.of {P : Program} {A R : Type} (f : FuncId) (ac : ACods A) (rc : RCod R) (F : A → Option R) (h : ∀ a r, F a = some r → Contract P f (ac.enc a) (rc.enc r)) : Kn P where
  f := f
  semK l k :=
    match ac.dec l with
    | some a => (F a).bind fun r => rc.encK r k
    | none => none
  ok l k r hk := by
    split at hk
    · rename_i a ha
      cases hF : F a with
      | none => rw [hF] at hk; cases hk
      | some x =>
        rw [hF] at hk
        simp only [Option.bind_some, rc.encK_ok] at hk
        obtain ⟨h1, h2⟩ := ac.ok _ _ ha
        exact ⟨rc.enc x, (h a x hF).of_args h1 h2, hk⟩
    · cases hk

/-- .. out of the equation of its body. -/
theorem Contract.of_body {P : Program} {A R : Type} {f : FuncId} {fn : Func} (hf : P.funcs[f]? = some fn) (hname : (fn.name == "runtime.NumGoroutine") = false) (hm : P.follows .mixedOrders = true) {ac : ACods A} {rc : RCod R} {F : A → Option R} {cs : List (Kn P)}
    {live : Nat → Option Keep} {fuel : Nat} (h : ∀ a, bodyK P cs live fuel fn (ac.enc a) rc.dec = F a) : ∀ a r, F a = some r → Contract P f (ac.enc a) (rc.enc r) :=
  fun a r hr => body_sound hf hname hm rc.enc rc.dec_ok (by rw [h a]; exact hr)

end Go.Proofs.Ytmkhglpfhnocaaa.Ev
