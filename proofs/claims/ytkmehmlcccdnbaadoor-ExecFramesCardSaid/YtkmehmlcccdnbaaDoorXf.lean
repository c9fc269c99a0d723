/- Whether an instruction is valid: the program's and the reference's, to one specification. -/
import Derived.Test.YtkmehmlcccdnbaaDoorF0
import Derived.Test.YtkmehmlcccdnbaaDoorF7
import Derived.Test.YtkmehmlcccdnbaaDoorXe
namespace Go.Proofs.YtkmehmlcccdnbaaDoor.Fn
open Go Go.RowKit Go.Proofs.YtkmehmlcccdnbaaDoor.Ev Go.Proofs.YtkmehmlcccdnbaaDoor.Bv
set_option linter.unusedVariables false
set_option linter.unusedSimpArgs false
set_option maxRecDepth 100000

def inR (R r : Int) : Bool := decide (0 ≤ r) && decide (r < R)
theorem inR_iff {R r : Int} : inR R r = true ↔ 0 ≤ r ∧ r < R := by simp [inR]
/-- The form of an instruction: 19: a field that it does not use is not nought. -/
def formS (i : J6) : Int := if (i.1 ≠ 1 ∧ i.2.2.2.2.2 ≠ 0) ∨ (i.1 = 0 ∧ i.2.1 ≠ 0) ∨ (srcs i.1.toNat < 1 ∧ i.2.2.1 ≠ 0) ∨ (srcs i.1.toNat < 2 ∧ i.2.2.2.1 ≠ 0) ∨ (srcs i.1.toNat < 3 ∧ i.2.2.2.2.1 ≠ 0) then 19 else 0
/-- The error of an instruction. -/
def insS (w R : Int) (i : J6) : Int :=
  if 0 ≤ i.1 ∧ i.1 ≤ 19 then
    (if (lOf (srcs i.1.toNat) i (defS i)).all (inR R) = true then (if i.1 = 1 ∧ i.2.2.2.2.2 > (vmask (W w) : Int) then 2 else formS i) else 18)
  else 4
theorem IndexFunc_j2 (fu : Nat) {n m : Nat} (hn : n < 4611686018427387904) {g : Nat → Int} : ∀ (d i k : Nat), i + d = n → d < k → ∃ r, slices_IndexFunc_int_int.j2 fu k n (n : Int) (i : Int) m g = some r ∧ (r ≥ 0 ↔ ∃ q, i ≤ q ∧ q < n ∧ g q ≠ 0)
  | 0, i, k + 1, hi, _ => ⟨-1, by rw [slices_IndexFunc_int_int.j2_succ, bifd_neg (by omega)], ⟨fun h => by omega, fun ⟨q, h1, h2, _⟩ => by omega⟩⟩
  | d + 1, i, k + 1, hi, hk => by
    rw [slices_IndexFunc_int_int.j2_succ, bifd_pos (by omega), bifd_pos (by omega), bifd_pos (by omega), Int.toNat_natCast]
    unfold isa_ins_2.f
    simp only [Option.bind_some]
    by_cases hg : g i = 0
    · rw [show (g i != 0) = false by rw [hg]; rfl, cond_false, wrap_nat (by omega)]
      obtain ⟨r, h1, h2⟩ := IndexFunc_j2 fu hn (g := g) d (i + 1) k (by omega) (by omega)
      refine ⟨r, h1, h2.trans ⟨fun ⟨q, a, b, c⟩ => ⟨q, by omega, b, c⟩, fun ⟨q, a, b, c⟩ => ⟨q, ?_, b, c⟩⟩⟩
      by_cases e : q = i
      · subst e; exact absurd hg c
      · omega
    · rw [show (g i != 0) = true by rw [bne_iff_ne]; exact hg, cond_true]
      exact ⟨_, rfl, ⟨fun _ => ⟨i, Nat.le_refl _, by omega, hg⟩, fun _ => by omega⟩⟩
theorem ContainsFunc_eq {n : Nat} (hn : n < 4611686018427387904) (g : Nat → Int) : ∃ b, slices_ContainsFunc_int_int.f (n, g) () = some b ∧ (b = true ↔ ∃ q, q < n ∧ g q ≠ 0) := by
  unfold slices_ContainsFunc_int_int.f slices_IndexFunc_int_int.f slices_IndexFunc_int_int.g
  obtain ⟨r, h1, h2⟩ := IndexFunc_j2 (fuel0 + 1) (m := n) hn (g := g) n 0 (fuel0 + 1) (by omega) (by unfold fuel0; omega)
  rw [show ((0 : Nat) : Int) = 0 from rfl] at h1
  simp only
  rw [h1, Option.bind_some]
  refine ⟨_, rfl, ?_⟩
  rw [decide_eq_true_eq, h2]
  exact ⟨fun ⟨q, _, b, c⟩ => ⟨q, b, c⟩, fun ⟨q, b, c⟩ => ⟨q, Nat.zero_le _, b, c⟩⟩
theorem isa_p18 {m fu n : Nat} (hn : n < 4611686018427387904) {c0 c1 c2 c3 c4 c5 : Int} {M : Nat} {g : Nat → Int} : ∃ r : Int, isa_ins.p18 (m + 1) (fu + 1) n c0 c1 c2 c3 c4 c5 M g = some r ∧ ((r = 19 ∧ ((c0 ≠ 1 ∧ c5 ≠ 0) ∨ ∃ q, q < n ∧ g q ≠ 0)) ∨ (r = 0 ∧ ¬ ((c0 ≠ 1 ∧ c5 ≠ 0) ∨ ∃ q, q < n ∧ g q ≠ 0))) := by
  obtain ⟨b, hb, hi⟩ := ContainsFunc_eq hn g
  rw [isa_ins.p18_eq, hb]
  simp only [Option.bind_some]
  by_cases h1 : c0 = 1
  · rw [show (c0 != 1) = false by rw [h1]; rfl, cond_false]
    cases b with
    | true => exact ⟨19, rfl, .inl ⟨rfl, .inr (hi.1 rfl)⟩⟩
    | false => exact ⟨0, by rw [cond_false, isa_ins.p20_eq], .inr ⟨rfl, fun h => h.elim (fun h => h.1 h1) fun h => by have := hi.2 h; cases this⟩⟩
  · rw [show (c0 != 1) = true by rw [bne_iff_ne]; exact h1, cond_true]
    by_cases h5 : c5 = 0
    · rw [show (c5 != 0) = false by rw [h5]; rfl, cond_false]
      cases b with
      | true => exact ⟨19, rfl, .inl ⟨rfl, .inr (hi.1 rfl)⟩⟩
      | false => exact ⟨0, by rw [cond_false, isa_ins.p20_eq], .inr ⟨rfl, fun h => h.elim (fun h => h.2 h5) fun h => by have := hi.2 h; cases this⟩⟩
    · rw [show (c5 != 0) = true by rw [bne_iff_ne]; exact h5, cond_true]
      exact ⟨19, rfl, .inl ⟨rfl, .inl ⟨h1, h5⟩⟩⟩
theorem ex4 {g : Nat → Int} {n : Nat} (hn : n ≤ 4) : (∃ q, q < n ∧ g q ≠ 0) ↔ (0 < n ∧ g 0 ≠ 0) ∨ (1 < n ∧ g 1 ≠ 0) ∨ (2 < n ∧ g 2 ≠ 0) ∨ (3 < n ∧ g 3 ≠ 0) := by
  constructor
  · rintro ⟨q, h1, h2⟩
    obtain rfl | rfl | rfl | rfl : q = 0 ∨ q = 1 ∨ q = 2 ∨ q = 3 := by omega
    · exact .inl ⟨h1, h2⟩
    · exact .inr (.inl ⟨h1, h2⟩)
    · exact .inr (.inr (.inl ⟨h1, h2⟩))
    · exact .inr (.inr (.inr ⟨h1, h2⟩))
  · rintro (⟨h1, h2⟩ | ⟨h1, h2⟩ | ⟨h1, h2⟩ | ⟨h1, h2⟩)
    · exact ⟨0, h1, h2⟩
    · exact ⟨1, h1, h2⟩
    · exact ⟨2, h1, h2⟩
    · exact ⟨3, h1, h2⟩
theorem formS_of {i : J6} {r : Int} {X : Prop} (hX : X ↔ (i.1 = 0 ∧ i.2.1 ≠ 0) ∨ (srcs i.1.toNat < 1 ∧ i.2.2.1 ≠ 0) ∨ (srcs i.1.toNat < 2 ∧ i.2.2.2.1 ≠ 0) ∨ (srcs i.1.toNat < 3 ∧ i.2.2.2.2.1 ≠ 0))
    (h : (r = 19 ∧ ((i.1 ≠ 1 ∧ i.2.2.2.2.2 ≠ 0) ∨ X)) ∨ (r = 0 ∧ ¬ ((i.1 ≠ 1 ∧ i.2.2.2.2.2 ≠ 0) ∨ X))) : r = formS i := by
  unfold formS
  rw [hX] at h
  rcases h with ⟨rfl, h⟩ | ⟨rfl, h⟩
  · rw [if_pos h]
  · rw [if_neg h]
theorem isa_p15 {m fu : Nat} {o : Nat} (ho : o ≤ 19) {d a b c k : Int} : isa_ins.p15 (m + 1) (fu + 1) (o : Int) d a b c k = some (formS ((o : Int), d, a, b, c, k)) := by
  have h3 := srcs_le o
  rw [isa_ins.p15_eq, isa_Sources_eq ho]
  simp only [Option.bind_some]
  by_cases hs : srcs o = 0
  · rw [bifd_pos (by omega)]
    by_cases h0 : o = 0
    · subst h0
      rw [show (((0 : Nat) : Int) == 0) = true from rfl, cond_true]
      obtain ⟨r, h1, h2⟩ := isa_p18 (m := fu) (fu := fu) (n := 4) (by omega) (c0 := ((0 : Nat) : Int)) (c1 := d) (c2 := a) (c3 := b) (c4 := c) (c5 := k) (M := 4) (g := cat 3 (fun i => [a, b, c].getD i 0) (fun i => [d].getD i 0))
      rw [h1]
      congr 1
      refine formS_of ?_ h2
      clear h1 h2
      rw [ex4 (by omega)]
      show (0 < 4 ∧ a ≠ 0) ∨ (1 < 4 ∧ b ≠ 0) ∨ (2 < 4 ∧ c ≠ 0) ∨ (3 < 4 ∧ d ≠ 0) ↔ (((0 : Nat) : Int) = 0 ∧ d ≠ 0) ∨ (0 < 1 ∧ a ≠ 0) ∨ (0 < 2 ∧ b ≠ 0) ∨ (0 < 3 ∧ c ≠ 0)
      omega
    · rw [show ((o : Int) == 0) = false by rw [beq_eq_false_iff_ne]; omega, cond_false]
      obtain ⟨r, h1, h2⟩ := isa_p18 (m := fu) (fu := fu) (n := 3) (by omega) (c0 := (o : Int)) (c1 := d) (c2 := a) (c3 := b) (c4 := c) (c5 := k) (M := 3) (g := fun i => [a, b, c].getD i 0)
      rw [h1]
      congr 1
      refine formS_of ?_ h2
      clear h1 h2
      rw [ex4 (by omega)]
      simp only [Int.toNat_natCast, hs]
      show (0 < 3 ∧ a ≠ 0) ∨ (1 < 3 ∧ b ≠ 0) ∨ (2 < 3 ∧ c ≠ 0) ∨ (3 < 3 ∧ (0 : Int) ≠ 0) ↔ _
      omega
  · have h0 : o ≠ 0 := fun e => hs (by rw [e]; rfl)
    rw [bifd_neg (by omega), bifd_pos (by omega), bifd_pos (by omega), show ((o : Int) == 0) = false by rw [beq_eq_false_iff_ne]; omega, cond_false, Int.toNat_natCast]
    obtain ⟨r, h1, h2⟩ := isa_p18 (m := fu) (fu := fu) (n := 3 - srcs o) (by omega) (c0 := (o : Int)) (c1 := d) (c2 := a) (c3 := b) (c4 := c) (c5 := k) (M := 3 - srcs o) (g := fun i => (fun i => [a, b, c].getD i 0) (i + srcs o))
    rw [h1]
    congr 1
    refine formS_of ?_ h2
    clear h1 h2
    rw [ex4 (by omega)]
    simp only [Int.toNat_natCast]
    generalize hq : srcs o = q at *
    obtain rfl | rfl | rfl : q = 1 ∨ q = 2 ∨ q = 3 := by omega
    all_goals simp
    all_goals omega
theorem isa_ins_1_eq (r : Int) (c : CodeT) : isa_ins_1.f r c = some (inR c.2.1 r) := by
  unfold isa_ins_1.f inR
  by_cases h : r ≥ 0
  · rw [bifd_pos h, decide_eq_true (show 0 ≤ r from h), Bool.true_and]
  · rw [bifd_neg h, decide_eq_false (show ¬ 0 ≤ r from h), Bool.false_and]
def AllR (R : Int) (U : Nat → Int) (i n : Nat) : Prop := ∀ j, i ≤ j → j < n → inR R (U j) = true
noncomputable instance (R : Int) (U : Nat → Int) (i n : Nat) : Decidable (AllR R U i n) := Classical.propDecidable _
theorem ite_iff {α : Type} {p q : Prop} [Decidable p] [Decidable q] (h : p ↔ q) (a b : α) : (if p then a else b) = (if q then a else b) := by
  by_cases hp : p
  · rw [if_pos hp, if_pos (h.1 hp)]
  · rw [if_neg hp, if_neg (fun e => hp (h.2 e))]
section
variable {c0 c1 : Int} {c2n c3n : Nat} {d a b c k : Int} {M m84 m85 : Nat} {g84_0 g84_1 g84_2 g84_3 g84_4 g84_5 g85_0 U : Nat → Int} {o n : Nat}
theorem isa_j8 (fu : Nat) (ho : o ≤ 19) (hn : n ≤ 3) : ∀ (dd i q : Nat), i + dd = n → dd < q →
    isa_ins.j8 (fu + 1) q n (n : Int) (i : Int) c0 c1 c2n c3n (o : Int) d a b c k M U m84 g84_0 g84_1 g84_2 g84_3 g84_4 g84_5 m85 g85_0 =
      some (if AllR c1 U i n then (if (o : Int) = 1 ∧ k > (vmask (W c0) : Int) then 2 else formS ((o : Int), d, a, b, c, k)) else 18)
  | 0, i, q + 1, hi, _ => by
    rw [isa_ins.j8_succ, bifd_neg (by omega), if_pos (show AllR c1 U i n from fun j h1 h2 => by omega)]
    by_cases h1 : (o : Int) = 1
    · rw [show ((o : Int) == 1) = true by rw [beq_iff_eq]; exact h1, cond_true, bits_Mask_eq]
      simp only [Option.bind_some]
      by_cases hk : k > (vmask (W c0) : Int)
      · rw [bifd_pos hk, if_pos ⟨h1, hk⟩]
      · rw [bifd_neg hk, if_neg (fun h => hk h.2), isa_p15 ho]
    · rw [show ((o : Int) == 1) = false by rw [beq_eq_false_iff_ne]; exact h1, cond_false, if_neg (fun h => h1 h.1), isa_p15 ho]
  | dd + 1, i, q + 1, hi, hq => by
    rw [isa_ins.j8_succ, bifd_pos (by omega), bifd_pos (by omega), bifd_pos (by omega), Int.toNat_natCast, isa_ins_1_eq]
    simp only [Option.bind_some]
    cases hr : inR c1 (U i) with
    | false =>
      rw [Bool.not_false, cond_true, if_neg (fun h => by have := h i (Nat.le_refl _) (by omega); rw [hr] at this; cases this)]
    | true =>
      rw [Bool.not_true, cond_false, wrap_nat (by omega), isa_j8 fu ho hn dd (i + 1) q (by omega) (by omega)]
      congr 1
      refine ite_iff ⟨fun h j h1 h2 => ?_, fun h j h1 h2 => h j (by omega) h2⟩ _ _
      by_cases e : j = i
      · rw [e]; exact hr
      · exact h j (by omega) h2
def t3 (s : Int) (c : Int) : Option Int := bif decide (s < 3) then bif (c != 0) then some 19 else some 0 else some 0
def t2 (s b c : Int) : Option Int := bif decide (s < 2) then bif (b != 0) then some 19 else t3 s c else t3 s c
def t1 (s a b c : Int) : Option Int := bif decide (s < 1) then bif (a != 0) then some 19 else t2 s b c else t2 s b c
def t0 (x : Bool) (d s a b c : Int) : Option Int := bif (!x) then bif (d != 0) then some 19 else t1 s a b c else t1 s a b c
theorem bz {c : Int} (h : ¬ c = 0) : (c != 0) = true := by rw [bne_iff_ne]; exact h
theorem t3_eq (s c : Int) : t3 s c = some (if s < 3 ∧ c ≠ 0 then 19 else 0) := by
  unfold t3
  by_cases h2 : c = 0
  · by_cases h : s < 3 <;> simp [h, h2]
  · by_cases h : s < 3 <;> simp [h, h2, bz h2]
theorem t2_eq (s b c : Int) : t2 s b c = some (if (s < 2 ∧ b ≠ 0) ∨ (s < 3 ∧ c ≠ 0) then 19 else 0) := by
  unfold t2
  rw [t3_eq]
  by_cases h2 : b = 0
  · by_cases h : s < 2 <;> simp [h, h2]
  · by_cases h : s < 2 <;> simp [h, h2, bz h2]
theorem t1_eq (s a b c : Int) : t1 s a b c = some (if (s < 1 ∧ a ≠ 0) ∨ (s < 2 ∧ b ≠ 0) ∨ (s < 3 ∧ c ≠ 0) then 19 else 0) := by
  unfold t1
  rw [t2_eq]
  by_cases h2 : a = 0
  · by_cases h : s < 1 <;> simp [h, h2]
  · by_cases h : s < 1 <;> simp [h, h2, bz h2]
theorem t0_eq (x : Bool) (d s a b c : Int) : t0 x d s a b c = some (if (x = false ∧ d ≠ 0) ∨ (s < 1 ∧ a ≠ 0) ∨ (s < 2 ∧ b ≠ 0) ∨ (s < 3 ∧ c ≠ 0) then 19 else 0) := by
  unfold t0
  rw [t1_eq]
  by_cases h2 : d = 0
  · cases x <;> simp [h2]
  · cases x <;> simp [h2, bz h2]
theorem ref_p14 {m fu : Nat} (ho : o ≤ 19) {x : Bool} (hx : x = true ↔ o ≠ 0) : saturateref48_ins.p14 (m + 1) (fu + 1) x (o : Int) d a b c k = some (formS ((o : Int), d, a, b, c, k)) := by
  rw [saturateref48_ins.p14_eq, Sources_eq ho, Option.bind_some, saturateref48_ins.p17_eq]
  show (bif ((o : Int) != 1) then bif (k != 0) then some 19 else t0 x d (srcs o) a b c else t0 x d (srcs o) a b c) = _
  rw [t0_eq]
  unfold formS
  simp only [Int.toNat_natCast]
  have hx' : x = false ↔ o = 0 := by
    cases x with
    | true => simp at hx ⊢; exact hx
    | false => simp at hx ⊢; exact hx
  have hs1 : ((srcs o : Int) < 1 ↔ srcs o < 1) ∧ ((srcs o : Int) < 2 ↔ srcs o < 2) ∧ ((srcs o : Int) < 3 ↔ srcs o < 3) ∧ ((o : Int) = 0 ↔ o = 0) := by omega
  by_cases h1 : (o : Int) = 1
  · rw [show ((o : Int) != 1) = false by rw [h1]; rfl, cond_false]
    congr 1
    refine ite_iff ?_ _ _
    rw [hx', hs1.1, hs1.2.1, hs1.2.2.1, hs1.2.2.2]
    exact ⟨fun h => .inr h, fun h => h.elim (fun e => absurd h1 e.1) id⟩
  · rw [show ((o : Int) != 1) = true by rw [bne_iff_ne]; exact h1, cond_true]
    by_cases hk : k = 0
    · rw [show (k != 0) = false by rw [hk]; rfl, cond_false]
      congr 1
      refine ite_iff ?_ _ _
      rw [hx', hs1.1, hs1.2.1, hs1.2.2.1, hs1.2.2.2]
      exact ⟨fun h => .inr h, fun h => h.elim (fun e => absurd hk e.2) id⟩
    · rw [show (k != 0) = true by rw [bne_iff_ne]; exact hk, cond_true, if_pos (.inl ⟨h1, hk⟩)]
theorem cut_ne {w : Int} {k : Nat} (hk : k < U64) : ((vcut (W w) k : Nat) : Int) ≠ (k : Int) ↔ (k : Int) > (vmask (W w) : Int) := by
  unfold vcut vmask
  have := pw_pos (W w)
  constructor
  · intro h
    have : ¬ k < 2 ^ W w := fun e => h (by rw [Nat.mod_eq_of_lt e])
    omega
  · intro h e
    have := Nat.mod_lt k (pw_pos (W w))
    omega
theorem ref_j8 (fu : Nat) (ho : o ≤ 19) (hk : 0 ≤ k ∧ k < (U64 : Nat)) (hn : n ≤ 4) {x : Bool} (hx : x = true ↔ o ≠ 0) : ∀ (dd i q : Nat), i + dd = n → dd < q →
    saturateref48_ins.j8 (fu + 1) q n x (i : Int) c0 c1 c2n c3n (o : Int) d a b c k M U m84 g84_0 g84_1 g84_2 g84_3 g84_4 g84_5 m85 g85_0 =
      some (if AllR c1 U i n then (if (o : Int) = 1 ∧ k > (vmask (W c0) : Int) then 2 else formS ((o : Int), d, a, b, c, k)) else 18)
  | 0, i, q + 1, hi, _ => by
    rw [saturateref48_ins.j8_succ, bifd_neg (by omega), if_pos (show AllR c1 U i n from fun j h1 h2 => by omega)]
    by_cases h1 : (o : Int) = 1
    · obtain ⟨kn, rfl⟩ : ∃ kn : Nat, k = kn := ⟨k.toNat, by omega⟩
      rw [show ((o : Int) == 1) = true by rw [beq_iff_eq]; exact h1, cond_true, saturateref01_Cut_eq _ (show kn < U64 by omega)]
      simp only [Option.bind_some]
      by_cases hq : (kn : Int) > (vmask (W c0) : Int)
      · rw [show (((vcut (W c0) kn : Nat) : Int) != (kn : Int)) = true by rw [bne_iff_ne]; exact (cut_ne (by omega)).2 hq, cond_true, if_pos ⟨h1, hq⟩]
      · rw [show (((vcut (W c0) kn : Nat) : Int) != (kn : Int)) = false by rw [bne_eq_false_iff_eq]; exact Classical.byContradiction fun e => hq ((cut_ne (by omega)).1 e), cond_false, if_neg (fun h => hq h.2), ref_p14 ho hx]
    · rw [show ((o : Int) == 1) = false by rw [beq_eq_false_iff_ne]; exact h1, cond_false, if_neg (fun h => h1 h.1), ref_p14 ho hx]
  | dd + 1, i, q + 1, hi, hq => by
    rw [saturateref48_ins.j8_succ, bifd_pos (by omega), bifd_pos (by omega), bifd_pos (by omega), Int.toNat_natCast]
    by_cases hA : U i < 0
    · rw [bifd_pos hA, if_neg (fun h => by have := inR_iff.1 (h i (Nat.le_refl _) (by omega)); omega)]
    · rw [bifd_neg hA, bifd_pos (by omega), bifd_pos (by omega)]
      by_cases hB : U i ≥ c1
      · rw [bifd_pos hB, if_neg (fun h => by have := inR_iff.1 (h i (Nat.le_refl _) (by omega)); omega)]
      · rw [bifd_neg hB, wrap_nat (by omega), ref_j8 fu ho hk hn hx dd (i + 1) q (by omega) (by omega)]
        congr 1
        refine ite_iff ⟨fun h j h1 h2 => ?_, fun h j h1 h2 => h j (by omega) h2⟩ _ _
        by_cases e : j = i
        · rw [e]; exact inR_iff.2 ⟨by omega, by omega⟩
        · exact h j (by omega) h2
end
theorem isa_ins_eq (cc : CodeT) (i : J6) : isa_ins.f cc i = some (insS cc.1 cc.2.1 i) := by
  unfold isa_ins.f isa_ins.g insS
  rw [isa_known_eq]
  simp only [Option.bind_some]
  by_cases h : 0 ≤ i.1 ∧ i.1 ≤ 19
  · have hi1 : ((i.1.toNat : Nat) : Int) = i.1 := by omega
    have h3 := srcs_le i.1.toNat
    rw [decide_eq_true h, Bool.not_true, cond_false, if_pos h, isa_Def_eq]
    simp only [Option.bind_some]
    have hU : isa_Uses.f (i.1, i.2.1, i.2.2.1, i.2.2.2.1, i.2.2.2.2.1, i.2.2.2.2.2) = some (srcs i.1.toNat, useF i) := by
      have := isa_Uses_eq (o := i.1.toNat) (by omega) i.2.1 i.2.2.1 i.2.2.2.1 i.2.2.2.2.1 i.2.2.2.2.2
      rwa [hi1] at this
    have hp7 : ∀ c2n c3n m84 g0 g1 g2 g3 g4 g5 m85 g, isa_ins.p7 (fuel0 + 1) (fuel0 + 1) cc.1 cc.2.1 c2n c3n i.1 i.2.1 i.2.2.1 i.2.2.2.1 i.2.2.2.2.1 i.2.2.2.2.2 m84 g0 g1 g2 g3 g4 g5 m85 g =
        some (if AllR cc.2.1 (useF i) 0 (srcs i.1.toNat) then (if i.1 = 1 ∧ i.2.2.2.2.2 > (vmask (W cc.1) : Int) then 2 else formS i) else 18) := fun c2n c3n m84 g0 g1 g2 g3 g4 g5 m85 g => by
      rw [isa_ins.p7_eq, hU]
      simp only [Option.bind_some]
      have := isa_j8 (c0 := cc.1) (c1 := cc.2.1) (c2n := c2n) (c3n := c3n) (d := i.2.1) (a := i.2.2.1) (b := i.2.2.2.1) (c := i.2.2.2.2.1) (k := i.2.2.2.2.2) (M := srcs i.1.toNat) (m84 := m84) (m85 := m85) (g84_0 := g0) (g84_1 := g1) (g84_2 := g2) (g84_3 := g3) (g84_4 := g4) (g84_5 := g5) (g85_0 := g) (U := useF i) (o := i.1.toNat) fuel0 (by omega) h3 (srcs i.1.toNat) 0 (fuel0 + 1) (by omega) (by unfold fuel0; omega)
      rw [hi1, show ((0 : Nat) : Int) = 0 from rfl] at this
      rw [this]
    by_cases h0 : i.1 = 0
    · have hd : defS i = (0, false) := by unfold defS; rw [if_pos h, if_pos h0]
      rw [show defS (i.1, i.2.1, i.2.2.1, i.2.2.2.1, i.2.2.2.2.1, i.2.2.2.2.2) = (0, false) from hd, cond_false, hp7]
      congr 1
      refine ite_iff ?_ _ _
      rw [all_uses h3]
      try rw [hd]
      exact ⟨fun h => ⟨fun j hj => h j (Nat.zero_le _) hj, fun e => by cases e⟩, fun h j _ hj => h.1 j hj⟩
    · have hd : defS i = (i.2.1, true) := by unfold defS; rw [if_pos h, if_neg h0]
      rw [show defS (i.1, i.2.1, i.2.2.1, i.2.2.2.1, i.2.2.2.2.1, i.2.2.2.2.2) = (i.2.1, true) from hd, cond_true, isa_ins_1_eq]
      simp only [Option.bind_some]
      cases hr : inR cc.2.1 i.2.1 with
      | false =>
        rw [Bool.not_false, cond_true, if_neg (show ¬ ((lOf (srcs i.1.toNat) i (i.2.1, true)).all (inR cc.2.1) = true) from fun e => by
          have q := ((all_uses h3).1 e).2 rfl
          simp only at q
          rw [hr] at q; cases q)]
      | true =>
        rw [Bool.not_true, cond_false, hp7]
        congr 1
        refine ite_iff ?_ _ _
        rw [all_uses h3]
        try rw [hd]
        exact ⟨fun h => ⟨fun j hj => h j (Nat.zero_le _) hj, fun _ => hr⟩, fun h j _ hj => h.1 j hj⟩
  · rw [decide_eq_false h, Bool.not_false, cond_true, if_neg h]
theorem cat_succ {α : Type} (f g : Nat → α) (j : Nat) : cat 1 f g (j + 1) = g j := rfl
theorem ref_ins_eq (cc : CodeT) {i : J6} (hk : 0 ≤ i.2.2.2.2.2 ∧ i.2.2.2.2.2 < (U64 : Nat)) : saturateref48_ins.f cc i = some (insS cc.1 cc.2.1 i) := by
  unfold saturateref48_ins.f saturateref48_ins.g insS
  rw [Known_eq]
  simp only [Option.bind_some]
  by_cases h : 0 ≤ i.1 ∧ i.1 ≤ 19
  · have hi1 : ((i.1.toNat : Nat) : Int) = i.1 := by omega
    have h3 := srcs_le i.1.toNat
    have hU : saturateref48_Uses.f (i.1, i.2.1, i.2.2.1, i.2.2.2.1, i.2.2.2.2.1, i.2.2.2.2.2) = some (srcs i.1.toNat, useF i) := by
      have := Uses_eq (o := i.1.toNat) (by omega) i.2.1 i.2.2.1 i.2.2.2.1 i.2.2.2.2.1 i.2.2.2.2.2
      rwa [hi1] at this
    rw [decide_eq_true h, Bool.not_true, cond_false, if_pos h, hU, Def_eq]
    simp only [Option.bind_some]
    have hp7 : ∀ n x (hx : x = true ↔ i.1.toNat ≠ 0) (hn : n ≤ 4) c2n c3n M (U : Nat → Int) m84 g0 g1 g2 g3 g4 g5 m85 g, saturateref48_ins.p7 (fuel0 + 1) (fuel0 + 1) n x cc.1 cc.2.1 c2n c3n i.1 i.2.1 i.2.2.1 i.2.2.2.1 i.2.2.2.2.1 i.2.2.2.2.2 M U m84 g0 g1 g2 g3 g4 g5 m85 g =
        some (if AllR cc.2.1 U 0 n then (if i.1 = 1 ∧ i.2.2.2.2.2 > (vmask (W cc.1) : Int) then 2 else formS i) else 18) := fun n x hx hn c2n c3n M U m84 g0 g1 g2 g3 g4 g5 m85 g => by
      rw [saturateref48_ins.p7_eq]
      have := ref_j8 (c0 := cc.1) (c1 := cc.2.1) (c2n := c2n) (c3n := c3n) (d := i.2.1) (a := i.2.2.1) (b := i.2.2.2.1) (c := i.2.2.2.2.1) (k := i.2.2.2.2.2) (M := M) (m84 := m84) (m85 := m85) (g84_0 := g0) (g84_1 := g1) (g84_2 := g2) (g84_3 := g3) (g84_4 := g4) (g84_5 := g5) (g85_0 := g) (U := U) (o := i.1.toNat) fuel0 (by omega) hk hn hx n 0 (fuel0 + 1) (by omega) (by unfold fuel0; omega)
      rw [hi1, show ((0 : Nat) : Int) = 0 from rfl] at this
      rw [this]
    by_cases h0 : i.1 = 0
    · have hd : defS i = (0, false) := by unfold defS; rw [if_pos h, if_pos h0]
      rw [show defS (i.1, i.2.1, i.2.2.1, i.2.2.2.1, i.2.2.2.2.1, i.2.2.2.2.2) = (0, false) from hd, cond_false, hp7 (srcs i.1.toNat) false ⟨fun e => (by cases e), fun e => (by omega)⟩ (by omega)]
      congr 1
      refine ite_iff ?_ _ _
      rw [all_uses h3]
      try rw [hd]
      exact ⟨fun h => ⟨fun j hj => h j (Nat.zero_le _) hj, fun e => by cases e⟩, fun h j _ hj => h.1 j hj⟩
    · have hd : defS i = (i.2.1, true) := by unfold defS; rw [if_pos h, if_neg h0]
      rw [show defS (i.1, i.2.1, i.2.2.1, i.2.2.2.1, i.2.2.2.2.1, i.2.2.2.2.2) = (i.2.1, true) from hd, cond_true]
      simp only
      rw [show Nat.ble ((1 + srcs i.1.toNat) * 8) 140737488355328 = true by rw [Nat.ble_eq]; omega, cond_true, hp7 (1 + srcs i.1.toNat) true ⟨fun _ => (by omega), fun _ => rfl⟩ (by omega)]
      congr 1
      refine ite_iff ?_ _ _
      rw [all_uses h3]
      try rw [hd]
      refine ⟨fun h => ⟨fun j hj => ?_, fun _ => ?_⟩, fun h j _ hj => ?_⟩
      · have := h (j + 1) (Nat.zero_le _) (by omega)
        rwa [cat_succ] at this
      · exact h 0 (Nat.zero_le _) (by omega)
      · match j with
        | 0 => exact h.2 rfl
        | j + 1 => rw [cat_succ]; exact h.1 j (by omega)
  · rw [decide_eq_false h, Bool.not_false, cond_true, if_neg h]
end Go.Proofs.YtkmehmlcccdnbaaDoor.Fn
