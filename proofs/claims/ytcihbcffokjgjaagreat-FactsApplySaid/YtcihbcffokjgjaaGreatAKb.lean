/- Sums and differences of elements: the program's by two sums, the reference's bit by bit with a carry of three states. -/
import Derived.Test.YtcihbcffokjgjaaGreatAF2
import Derived.Test.YtcihbcffokjgjaaGreatAF7
import Derived.Test.YtcihbcffokjgjaaGreatAF9
import Derived.Test.YtcihbcffokjgjaaGreatAKa
namespace Go.Proofs.YtcihbcffokjgjaaGreat.Fn
open Go Go.RowKit Go.Proofs.YtcihbcffokjgjaaGreat.Ev Go.Proofs.YtcihbcffokjgjaaGreat.Bv
set_option linter.unusedVariables false
set_option linter.unusedSimpArgs false

theorem fuel4 : ∃ k, fuel0 + 1 = k + 4 := ⟨fuel0 - 3, by unfold fuel0; omega⟩
theorem fuelg {n : Nat} (h : n ≤ 1000) : n < fuel0 + 1 := by unfold fuel0; omega
/-! ### carries -/
def maj (a b c : Bool) : Bool := (a && b) || (a && c) || (b && c)
/-- The carry into bit i of A + B + c. -/
def car (c A B i : Nat) : Bool := decide (2 ^ i ≤ A % 2 ^ i + B % 2 ^ i + c)
theorem car_zero {c A B : Nat} : car c A B 0 = decide (1 ≤ c) := by unfold car; simp [Nat.mod_one]
theorem car_succ {c : Nat} (hc : c ≤ 1) (A B i : Nat) : car c A B (i + 1) = maj (A.testBit i) (B.testBit i) (car c A B i) := by
  unfold car
  rw [mod_succ A i, mod_succ B i, Nat.pow_succ]
  have hA := Nat.mod_lt A (pw_pos i)
  have hB := Nat.mod_lt B (pw_pos i)
  generalize A % 2 ^ i = x at *
  generalize B % 2 ^ i = y at *
  generalize 2 ^ i = P at *
  cases A.testBit i <;> cases B.testBit i <;> simp only [maj, Bool.toNat_true, Bool.toNat_false, Bool.true_and, Bool.false_and, Bool.or_false, Bool.false_or, Bool.true_or, Bool.and_false, Nat.zero_mul, Nat.one_mul, Nat.add_zero, Bool.or_self, Bool.or_true]
  · rw [decide_eq_false_iff_not]; omega
  · rw [decide_eq_decide]; omega
  · rw [decide_eq_decide]; omega
  · rw [decide_eq_true_iff]; omega
theorem add_bit {c : Nat} (hc : c ≤ 1) (A B i : Nat) : (A + B + c).testBit i = (A.testBit i ^^ (B.testBit i ^^ car c A B i)) := by
  unfold car
  rw [Nat.testBit_eq_decide_div_mod_eq, Nat.testBit_eq_decide_div_mod_eq (x := A), Nat.testBit_eq_decide_div_mod_eq (x := B)]
  have hA := Nat.mod_lt A (pw_pos i)
  have hB := Nat.mod_lt B (pw_pos i)
  have eA := Nat.div_add_mod A (2 ^ i)
  have eB := Nat.div_add_mod B (2 ^ i)
  have hP := pw_pos i
  have hs : (A + B + c) / 2 ^ i = A / 2 ^ i + B / 2 ^ i + (if 2 ^ i ≤ A % 2 ^ i + B % 2 ^ i + c then 1 else 0) := by
    have e : A + B + c = 2 ^ i * (A / 2 ^ i + B / 2 ^ i) + (A % 2 ^ i + B % 2 ^ i + c) := by rw [Nat.mul_add]; omega
    rw [e, Nat.mul_add_div hP]
    congr 1
    split
    · exact Nat.div_eq_of_lt_le (by rw [Nat.one_mul]; assumption) (by omega)
    · exact Nat.div_eq_of_lt (by omega)
  rw [hs]
  generalize A / 2 ^ i = x
  generalize B / 2 ^ i = y
  by_cases h : 2 ^ i ≤ A % 2 ^ i + B % 2 ^ i + c
  · rw [if_pos h, decide_eq_true h]
    rcases Nat.mod_two_eq_zero_or_one x with h1 | h1 <;> rcases Nat.mod_two_eq_zero_or_one y with h2 | h2 <;> simp [h1, h2] <;> omega
  · rw [if_neg h, decide_eq_false h]
    rcases Nat.mod_two_eq_zero_or_one x with h1 | h1 <;> rcases Nat.mod_two_eq_zero_or_one y with h2 | h2 <;> simp [h1, h2] <;> omega
theorem maj_mono {a b c a' b' c' : Bool} (ha : a = true → a' = true) (hb : b = true → b' = true) (hc : c = true → c' = true) : maj a b c = true → maj a' b' c' = true := by
  revert ha hb hc
  cases a <;> cases b <;> cases c <;> cases a' <;> cases b' <;> cases c' <;> decide
theorem car_mono {c A B A' B' : Nat} (hc : c ≤ 1) (i : Nat) (hA : ∀ j, j < i → A.testBit j = true → A'.testBit j = true) (hB : ∀ j, j < i → B.testBit j = true → B'.testBit j = true) : car c A B i = true → car c A' B' i = true := by
  induction i with
  | zero => rw [car_zero, car_zero]; exact id
  | succ i ih =>
    rw [car_succ hc, car_succ hc]
    exact maj_mono (hA i (by omega)) (hB i (by omega)) (ih (fun j hj => hA j (by omega)) (fun j hj => hB j (by omega)))
theorem bit_mod {m n w i : Nat} (h : m % 2 ^ w = n % 2 ^ w) (hi : i < w) : m.testBit i = n.testBit i := by
  have := bit_of h i
  rw [Nat.testBit_mod_two_pow, Nat.testBit_mod_two_pow, decide_eq_true hi] at this
  simpa using this

/-! ### three states -/
/-- The state of a bit: surely one (lo), perhaps one (hi). -/
def st (lo hi : Bool) : Int := if hi then (if lo then 1 else 2) else 0
theorem ref_bit {k : Nat × Nat} (h1 : k.1 < U64) (h2 : k.2 < U64) {i : Nat} (hi : i < 64) : saturateref12_bit.f ((k.1 : Int), (k.2 : Int)) i = some (st (k.2.testBit i) (!k.1.testBit i)) := by
  unfold saturateref12_bit.f
  simp only
  rw [bifd_neg (by omega), saturateref01_Bit_eq h1, Option.bind_some, saturateref01_Bit_eq h2]
  cases k.1.testBit i <;> cases k.2.testBit i <;> rfl
theorem ref_with (f g : Nat → Bool) {i : Nat} (hi : i < 64) (hn : f i = true → g i = false) : saturateref12_with.f ((bld f i : Int), (bld g i : Int)) i (st (g i) (!f i)) = some ((bld f (i + 1) : Int), (bld g (i + 1) : Int)) := by
  unfold saturateref12_with.f saturateref12_with.g
  simp only
  have hf := bld_step f hi
  have hg := bld_step g hi
  rw [wrapu_of (n := i) (by omega), bifd_neg (by omega)]
  simp only [saturateref12_with.p6_eq]
  cases h1 : f i with
  | true =>
    have h2 := hn h1
    rw [h1] at hf
    rw [h2] at hg ⊢
    simp only [bld] at hf hg ⊢
    simp only [h1, h2] at hf ⊢
    have : bld g i ||| (false.toNat <<< i) = bld g i := by simp
    rw [this, ← hf]; rfl
  | false =>
    rw [h1] at hf
    have e1 : bld f (i + 1) = bld f i := by simp only [bld, h1]; simp
    rw [e1]
    cases h2 : g i with
    | true => rw [h2] at hg; rw [← hg]; rfl
    | false =>
      have e2 : bld g (i + 1) = bld g i := by simp only [bld, h2]; simp
      rw [e2]; rfl
theorem ref_xor (l1 h1 l2 h2 : Bool) (e1 : l1 = true → h1 = true) (e2 : l2 = true → h2 = true) : saturateref12_xor.f (st l1 h1) (st l2 h2) = some (st ((l1 == h1) && (l2 == h2) && (l1 ^^ l2)) (!((l1 == h1) && (l2 == h2)) || (l1 ^^ l2))) := by
  revert e1 e2
  cases l1 <;> cases h1 <;> cases l2 <;> cases h2 <;> intro e1 e2 <;> first | (cases e1 rfl; done) | (cases e2 rfl; done) | rfl
theorem ref_most (l1 h1 l2 h2 l3 h3 : Bool) (e1 : l1 = true → h1 = true) (e2 : l2 = true → h2 = true) (e3 : l3 = true → h3 = true) : saturateref12_most.f (st l1 h1) (st l2 h2) (st l3 h3) = some (st (maj l1 l2 l3) (maj h1 h2 h3)) := by
  unfold saturateref12_most.f saturateref12_most.g
  obtain ⟨k, hk⟩ := fuel4
  rw [hk]; clear hk
  revert e1 e2 e3
  have w1 : IntKind.i64.wrap 1 = 1 := rfl
  have w2 : IntKind.i64.wrap 2 = 2 := rfl
  have j : ∀ x0 x1 x2 x7, saturateref12_most.j2 (k + 4) (k + 4) x0 x1 x2 x7 = _ := fun x0 x1 x2 x7 => saturateref12_most.j2_succ (k + 4) (k + 3) x0 x1 x2 x7
  have j' : ∀ x0 x1 x2 x7, saturateref12_most.j2 (k + 4) (k + 3) x0 x1 x2 x7 = _ := fun x0 x1 x2 x7 => saturateref12_most.j2_succ (k + 4) (k + 2) x0 x1 x2 x7
  have j'' : ∀ x0 x1 x2 x7, saturateref12_most.j2 (k + 4) (k + 2) x0 x1 x2 x7 = _ := fun x0 x1 x2 x7 => saturateref12_most.j2_succ (k + 4) (k + 1) x0 x1 x2 x7
  have p : ∀ n x0 x1 x2 x7, saturateref12_most.p3 (k + 4) (k + 4) n x0 x1 x2 x7 = _ := fun n x0 x1 x2 x7 => saturateref12_most.p3_eq (k + 3) (k + 4) n x0 x1 x2 x7
  cases l1 <;> cases h1 <;> cases l2 <;> cases h2 <;> cases l3 <;> cases h3 <;> intro e1 e2 e3 <;> first | (cases e1 rfl; done) | (cases e2 rfl; done) | (cases e3 rfl; done) | (simp [st, maj, j, j', j'', p, w1, w2]; done)
/-- The sum's states: not known, and the value where known. -/
def opn (c A B A' B' i : Nat) : Bool := !((A.testBit i == A'.testBit i) && (B.testBit i == B'.testBit i) && (car c A B i == car c A' B' i))
def sbit (c A B i : Nat) : Bool := A.testBit i ^^ (B.testBit i ^^ car c A B i)
def sumZ (c A B A' B' i : Nat) : Bool := !opn c A B A' B' i && !sbit c A B i
def sumO (c A B A' B' i : Nat) : Bool := !opn c A B A' B' i && sbit c A B i
theorem ref_sum_j3 (fu : Nat) (w : Int) {a b : Nat × Nat} (ha1 : a.1 < U64) (ha2 : a.2 < U64) (hb1 : b.1 < U64) (hb2 : b.2 < U64) (ka : a.1 &&& a.2 = 0) (kb : b.1 &&& b.2 = 0) {c : Nat} (hc : c ≤ 1) (u v : Int) (d : Nat) :
    ∀ (k i : Nat), W w - i = d → i ≤ W w → d < k →
    saturateref12_sum.j3 fu k w (st (car c a.2 b.2 i) (car c (vnot 64 a.1) (vnot 64 b.1) i)) i a.1 a.2 b.1 b.2 u v
      (bld (sumZ c a.2 b.2 (vnot 64 a.1) (vnot 64 b.1)) i : Int) (bld (sumO c a.2 b.2 (vnot 64 a.1) (vnot 64 b.1)) i : Int) =
    some ((bld (sumZ c a.2 b.2 (vnot 64 a.1) (vnot 64 b.1)) (W w) : Int), (bld (sumO c a.2 b.2 (vnot 64 a.1) (vnot 64 b.1)) (W w) : Int)) := by
  have hw := W_le w
  induction d with
  | zero =>
    intro k i hd hi hk
    obtain ⟨k, rfl⟩ : ∃ m, k = m + 1 := ⟨k - 1, by omega⟩
    obtain rfl : i = W w := by omega
    rw [saturateref12_sum.j3_succ, saturateref01_W_eq, Option.bind_some, bifd_neg (by omega)]
  | succ d ih =>
    intro k i hd hi hk
    obtain ⟨k, rfl⟩ : ∃ m, k = m + 1 := ⟨k - 1, by omega⟩
    have hi64 : i < 64 := by omega
    have ea := ref_bit ha1 ha2 hi64
    have eb := ref_bit hb1 hb2 hi64
    have sub : ∀ {x y : Nat}, x &&& y = 0 → ∀ j, j < i + 1 → y.testBit j = true → (vnot 64 x).testBit j = true := by
      intro x y h j hj hy
      have := bit_of h j
      rw [Nat.testBit_and, hy, Nat.zero_testBit] at this
      rw [testBit_vnot, decide_eq_true (show j < 64 by omega)]
      simpa using this
    have la := sub ka i (by omega)
    have lb := sub kb i (by omega)
    have lc := car_mono hc i (fun j hj => sub ka j (by omega)) (fun j hj => sub kb j (by omega))
    have va : (vnot 64 a.1).testBit i = !a.1.testBit i := by rw [testBit_vnot, decide_eq_true hi64]; simp
    have vb : (vnot 64 b.1).testBit i = !b.1.testBit i := by rw [testBit_vnot, decide_eq_true hi64]; simp
    have hz := ref_with (sumZ c a.2 b.2 (vnot 64 a.1) (vnot 64 b.1)) (sumO c a.2 b.2 (vnot 64 a.1) (vnot 64 b.1)) hi64 (by unfold sumZ sumO; cases opn c a.2 b.2 (vnot 64 a.1) (vnot 64 b.1) i <;> cases sbit c a.2 b.2 i <;> decide)
    have hn := ih k (i + 1) (by omega) (by omega) (by omega)
    rw [car_succ hc, car_succ hc] at hn
    rw [saturateref12_sum.j3_succ, saturateref01_W_eq, Option.bind_some, bifd_pos (by omega)]
    rw [ea, eb, Option.bind_some, Option.bind_some, ← va, ← vb]
    rw [ref_xor _ _ _ _ la lb, Option.bind_some, ref_xor _ _ _ _ (by cases a.2.testBit i <;> cases (vnot 64 a.1).testBit i <;> cases b.2.testBit i <;> cases (vnot 64 b.1).testBit i <;> decide) lc, Option.bind_some]
    have e : ∀ (l1 h1 l2 h2 l3 h3 : Bool), (l1 = true → h1 = true) → (l2 = true → h2 = true) → (l3 = true → h3 = true) →
        st (((l1 == h1) && (l2 == h2) && (l1 ^^ l2)) == (!((l1 == h1) && (l2 == h2)) || (l1 ^^ l2)) && (l3 == h3) && (((l1 == h1) && (l2 == h2) && (l1 ^^ l2)) ^^ l3)) (!(((l1 == h1) && (l2 == h2) && (l1 ^^ l2)) == (!((l1 == h1) && (l2 == h2)) || (l1 ^^ l2)) && (l3 == h3)) || (((l1 == h1) && (l2 == h2) && (l1 ^^ l2)) ^^ l3)) =
        st (!!((l1 == h1) && (l2 == h2) && (l3 == h3)) && (l1 ^^ (l2 ^^ l3))) (!(!!((l1 == h1) && (l2 == h2) && (l3 == h3)) && !(l1 ^^ (l2 ^^ l3)))) := by
      intro l1 h1 l2 h2 l3 h3
      cases l1 <;> cases h1 <;> cases l2 <;> cases h2 <;> cases l3 <;> cases h3 <;> decide
    rw [e _ _ _ _ _ _ la lb lc]
    unfold sumZ sumO opn sbit at hz hn ⊢
    rw [hz, Option.bind_some, ref_most _ _ _ _ _ _ la lb lc, Option.bind_some, wrapi, wrapi_succ (by omega)]
    exact hn
/-- The element of a sum with a carry in. -/
def ksum (w c : Nat) (a b : Nat × Nat) : Nat × Nat := (bld (sumZ c a.2 b.2 (vnot 64 a.1) (vnot 64 b.1)) w, bld (sumO c a.2 b.2 (vnot 64 a.1) (vnot 64 b.1)) w)
theorem ref_sum (w : Int) {a b : Nat × Nat} (ha1 : a.1 < U64) (ha2 : a.2 < U64) (hb1 : b.1 < U64) (hb2 : b.2 < U64) (ka : a.1 &&& a.2 = 0) (kb : b.1 &&& b.2 = 0) {c : Nat} (hc : c ≤ 1) :
    saturateref12_sum.f w ((a.1 : Int), (a.2 : Int)) ((b.1 : Int), (b.2 : Int)) (c : Int) = some (((ksum (W w) c a b).1 : Int), ((ksum (W w) c a b).2 : Int)) := by
  unfold saturateref12_sum.f saturateref12_sum.g saturateref12_Top.f
  have hw := W_le w
  have := ref_sum_j3 (fuel0 + 1) w ha1 ha2 hb1 hb2 ka kb hc 0 0 (W w) (fuel0 + 1) 0 rfl (by omega) (fuelg (by omega))
  rw [car_zero, car_zero, show st (decide (1 ≤ c)) (decide (1 ≤ c)) = (c : Int) by rcases Nat.le_one_iff_eq_zero_or_eq_one.1 hc with rfl | rfl <;> rfl] at this
  exact this
theorem and0 {M z o : Nat} (h : kok M z o) : z &&& o = 0 := h.1
theorem saturateref12_Add_eq (w : Int) {z o z' o' : Nat} (hz : z < U64) (ho : o < U64) (hz' : z' < U64) (ho' : o' < U64) :
    saturateref12_Add.f w ((z : Int), (o : Int)) ((z' : Int), (o' : Int)) = some (((ksum (W w) 0 (kof (MK w) z o) (kof (MK w) z' o')).1 : Int), ((ksum (W w) 0 (kof (MK w) z o) (kof (MK w) z' o')).2 : Int)) := by
  unfold saturateref12_Add.f
  simp only
  rw [saturateref12_Of_eq w hz ho, saturateref12_Of_eq w hz' ho', Option.bind_some, Option.bind_some]
  have l1 := kof_lt (M := MK w) hz ho
  have l2 := kof_lt (M := MK w) hz' ho'
  have := ref_sum w l1.1 l1.2 l2.1 l2.2 (and0 (kof_kok _ _ _)) (and0 (kof_kok _ _ _)) (c := 0) (by decide)
  simp only at this ⊢
  rw [show (0 : Int) = ((0 : Nat) : Int) from rfl, this]; rfl
theorem saturateref12_Sub_eq (w : Int) {z o z' o' : Nat} (hz : z < U64) (ho : o < U64) (hz' : z' < U64) (ho' : o' < U64) :
    saturateref12_Sub.f w ((z : Int), (o : Int)) ((z' : Int), (o' : Int)) = some (((ksum (W w) 1 (kof (MK w) z o) ((kof (MK w) z' o').2, (kof (MK w) z' o').1)).1 : Int), ((ksum (W w) 1 (kof (MK w) z o) ((kof (MK w) z' o').2, (kof (MK w) z' o').1)).2 : Int)) := by
  unfold saturateref12_Sub.f saturateref12_Not.f
  simp only
  rw [saturateref12_Of_eq w hz ho, saturateref12_Of_eq w hz' ho', Option.bind_some, Option.bind_some, Option.bind_some]
  have l1 := kof_lt (M := MK w) hz ho
  have l2 := kof_lt (M := MK w) hz' ho'
  have := ref_sum w l1.1 l1.2 (b := ((kof (MK w) z' o').2, (kof (MK w) z' o').1)) l2.2 l2.1 (and0 (kof_kok _ _ _)) (by rw [Nat.and_comm]; exact and0 (kof_kok _ _ _)) (c := 1) (by decide)
  simp only at this ⊢
  rw [show (1 : Int) = ((1 : Nat) : Int) from rfl, this]; rfl
/-! ### the program's -/
theorem known_from_eq (w : Int) {x y : Nat} (hx : x < U64) (hy : y < U64) : known_from.f w x y = some ((bld (fun i => !y.testBit i && !x.testBit i) (W w) : Int), (bld (fun i => !y.testBit i && x.testBit i) (W w) : Int)) := by
  unfold known_from.f
  have hw := W_le w
  have l1 := vcut_lt x hw
  have l2 := vcut_lt y hw
  have l3 : vcut (W w) x &&& (18446744073709551615 - vcut (W w) y) < U64 := and_lt (Nat.lt_of_le_of_lt (Nat.sub_le _ _) (by decide))
  rw [bits_Cut_eq w hy, Option.bind_some, bits_Cut_eq w hx, Option.bind_some, bits_Mask_eq, Option.bind_some, andNot64 l1 l2, or64 l3 l2, andNot64 (vmask_lt hw) (or_lt l3 l2)]
  have cut : ∀ x i, (vcut (W w) x).testBit i = (decide (i < W w) && x.testBit i) := fun x i => by unfold vcut; rw [Nat.testBit_mod_two_pow]
  have e1 : vmask (W w) &&& (18446744073709551615 - ((vcut (W w) x &&& (18446744073709551615 - vcut (W w) y)) ||| vcut (W w) y)) = bld (fun i => !y.testBit i && !x.testBit i) (W w) := bits_ext fun i => by
    rw [Nat.testBit_and, testBit_mask, testBit_comp (or_lt l3 l2), Nat.testBit_or, Nat.testBit_and, testBit_comp l2, cut, cut, testBit_bld]
    by_cases hi : i < W w
    · rw [decide_eq_true hi, decide_eq_true (show i < 64 by omega)]; cases x.testBit i <;> cases y.testBit i <;> rfl
    · rw [decide_eq_false hi]; rfl
  have e2 : vcut (W w) x &&& (18446744073709551615 - vcut (W w) y) = bld (fun i => !y.testBit i && x.testBit i) (W w) := bits_ext fun i => by
    rw [Nat.testBit_and, testBit_comp l2, cut, cut, testBit_bld]
    by_cases hi : i < W w
    · rw [decide_eq_true hi, decide_eq_true (show i < 64 by omega)]; cases x.testBit i <;> cases y.testBit i <;> rfl
    · rw [decide_eq_false hi]; rfl
  rw [e1, e2]
theorem car_congr {c A B A' B' : Nat} (hc : c ≤ 1) (i : Nat) (hA : ∀ j, j < i → A.testBit j = A'.testBit j) (hB : ∀ j, j < i → B.testBit j = B'.testBit j) : car c A B i = car c A' B' i := by
  have h1 := car_mono hc (A := A) (B := B) (A' := A') (B' := B') i (fun j hj h => by rw [← hA j hj]; exact h) (fun j hj h => by rw [← hB j hj]; exact h)
  have h2 := car_mono hc (A := A') (B := B') (A' := A) (B' := B) i (fun j hj h => by rw [hA j hj]; exact h) (fun j hj h => by rw [hB j hj]; exact h)
  revert h1 h2; cases car c A B i <;> cases car c A' B' i <;> simp
/-- Of an element: what may be one is what is one, and what is not known. -/
theorem kmay_bit {w : Nat} {k : Nat × Nat} (hw : w ≤ 64) (h1 : k.1 < U64) (h2 : k.2 < U64) (e : k.1 &&& k.2 = 0) {i : Nat} (hi : i < w) : (k.2 + kunk w k).testBit i = (vnot 64 k.1).testBit i := by
  have hd : k.2 &&& kunk w k = 0 := bits_ext fun i => by
    rw [Nat.testBit_and, kunk_bit h1 h2 hw, Nat.zero_testBit]
    cases k.2.testBit i <;> simp
  rw [add_disjoint _ _ hd, Nat.testBit_or, kunk_bit h1 h2 hw, testBit_vnot, decide_eq_true hi, decide_eq_true (show i < 64 by omega)]
  have := bit_of e i
  rw [Nat.testBit_and, Nat.zero_testBit] at this
  revert this
  cases k.1.testBit i <;> cases k.2.testBit i <;> decide
theorem kunk_ne {w : Nat} {k : Nat × Nat} (hw : w ≤ 64) (h1 : k.1 < U64) (h2 : k.2 < U64) (e : k.1 &&& k.2 = 0) {i : Nat} (hi : i < w) : (kunk w k).testBit i = !(k.2.testBit i == (vnot 64 k.1).testBit i) := by
  rw [kunk_bit h1 h2 hw, testBit_vnot, decide_eq_true hi, decide_eq_true (show i < 64 by omega)]
  have := bit_of e i
  rw [Nat.testBit_and, Nat.zero_testBit] at this
  revert this
  cases k.1.testBit i <;> cases k.2.testBit i <;> decide
theorem kok_le {w : Nat} (hw : w ≤ 64) {k : Nat × Nat} (h1 : k.1 < U64) (h2 : k.2 < U64) (h : kok (vmask w) k.1 k.2) : k.1 ≤ vmask w ∧ k.2 ≤ vmask w := ((kok_iff hw h1 h2).1 h).2
theorem xor_lt {a b : Nat} (ha : a < U64) (hb : b < U64) : a ^^^ b < U64 := by rw [show U64 = 2 ^ 64 from rfl]; exact Nat.xor_lt_two_pow ha hb
theorem mod_u64 (x : Nat) : x % 18446744073709551616 < U64 := Nat.mod_lt _ (by decide)
theorem known_Add_eq (w : Int) {z o z' o' : Nat} (hz : z < U64) (ho : o < U64) (hz' : z' < U64) (ho' : o' < U64) :
    known_Add.f w ((z : Int), (o : Int)) ((z' : Int), (o' : Int)) = some (((ksum (W w) 0 (kof (MK w) z o) (kof (MK w) z' o')).1 : Int), ((ksum (W w) 0 (kof (MK w) z o) (kof (MK w) z' o')).2 : Int)) := by
  unfold known_Add.f
  simp only
  rw [known_of_eq w hz ho, known_of_eq w hz' ho', Option.bind_some, Option.bind_some]
  have hw := W_le w
  obtain ⟨a1, a2⟩ := kof_lt (M := MK w) hz ho
  obtain ⟨b1, b2⟩ := kof_lt (M := MK w) hz' ho'
  have ka := and0 (kof_kok (MK w) z o)
  have kb := and0 (kof_kok (MK w) z' o')
  generalize kof (MK w) z o = a at *
  generalize kof (MK w) z' o' = b at *
  simp only
  have p := kunk_lt a hw
  have q := kunk_lt b hw
  rw [known_unknown_eq w a1 a2, known_unknown_eq w b1 b2, Option.bind_some, Option.bind_some, wrapu_add, wrapu_add, wrapu_add, xor64 (mod_u64 _) (mod_u64 _), or64 (xor_lt (mod_u64 _) (mod_u64 _)) p, or64 (or_lt (xor_lt (mod_u64 _) (mod_u64 _)) p) q,
    known_from_eq w (mod_u64 _) (or_lt (or_lt (xor_lt (mod_u64 _) (mod_u64 _)) p) q), Option.bind_some]
  have key : ∀ i, i < W w → ((((((a.2 + b.2) % 18446744073709551616 + kunk (W w) a) % 18446744073709551616 + kunk (W w) b) % 18446744073709551616) ^^^ ((a.2 + b.2) % 18446744073709551616) ||| kunk (W w) a ||| kunk (W w) b).testBit i = opn 0 a.2 b.2 (vnot 64 a.1) (vnot 64 b.1) i) ∧ ((a.2 + b.2) % 18446744073709551616).testBit i = sbit 0 a.2 b.2 i := by
    intro i hi
    have hs : ((a.2 + b.2) % 18446744073709551616).testBit i = sbit 0 a.2 b.2 i := by
      rw [bit_mod (w := 64) (n := a.2 + b.2 + 0) (by rw [p64]; omega) (by omega), add_bit (by decide)]; rfl
    have hs2 : ((((a.2 + b.2) % 18446744073709551616 + kunk (W w) a) % 18446744073709551616 + kunk (W w) b) % 18446744073709551616).testBit i = sbit 0 (vnot 64 a.1) (vnot 64 b.1) i := by
      rw [bit_mod (w := 64) (n := (a.2 + kunk (W w) a) + (b.2 + kunk (W w) b) + 0) (by rw [p64]; omega) (by omega), add_bit (by decide)]
      unfold sbit
      rw [kmay_bit hw a1 a2 ka hi, kmay_bit hw b1 b2 kb hi, car_congr (by decide) i (fun j hj => kmay_bit hw a1 a2 ka (by omega)) (fun j hj => kmay_bit hw b1 b2 kb (by omega))]
    refine ⟨?_, hs⟩
    rw [Nat.testBit_or, Nat.testBit_or, Nat.testBit_xor, hs, hs2, kunk_ne hw a1 a2 ka hi, kunk_ne hw b1 b2 kb hi]
    unfold opn sbit
    cases a.2.testBit i <;> cases b.2.testBit i <;> cases (vnot 64 a.1).testBit i <;> cases (vnot 64 b.1).testBit i <;> cases car 0 a.2 b.2 i <;> cases car 0 (vnot 64 a.1) (vnot 64 b.1) i <;> rfl
  unfold ksum
  simp only
  rw [Option.some_inj, Prod.mk.injEq]
  exact ⟨congrArg (fun n : Nat => (n : Int)) (bld_congr fun i hi => by rw [(key i hi).1, (key i hi).2]; rfl), congrArg (fun n : Nat => (n : Int)) (bld_congr fun i hi => by rw [(key i hi).1, (key i hi).2]; rfl)⟩
theorem cut_of_le {w x : Nat} (h : x ≤ vmask w) : x % 2 ^ w = x := Nat.mod_eq_of_lt (lt_of_le_mask h)
theorem known_Sub_eq (w : Int) {z o z' o' : Nat} (hz : z < U64) (ho : o < U64) (hz' : z' < U64) (ho' : o' < U64) :
    known_Sub.f w ((z : Int), (o : Int)) ((z' : Int), (o' : Int)) = some (((ksum (W w) 1 (kof (MK w) z o) ((kof (MK w) z' o').2, (kof (MK w) z' o').1)).1 : Int), ((ksum (W w) 1 (kof (MK w) z o) ((kof (MK w) z' o').2, (kof (MK w) z' o').1)).2 : Int)) := by
  unfold known_Sub.f
  simp only
  rw [known_of_eq w hz ho, known_of_eq w hz' ho', Option.bind_some, Option.bind_some]
  have hw := W_le w
  obtain ⟨a1, a2⟩ := kof_lt (M := MK w) hz ho
  obtain ⟨b1, b2⟩ := kof_lt (M := MK w) hz' ho'
  have ka := and0 (kof_kok (MK w) z o)
  have kb := and0 (kof_kok (MK w) z' o')
  obtain ⟨ma1, ma2⟩ := kok_le hw a1 a2 (kof_kok (MK w) z o)
  obtain ⟨mb1, mb2⟩ := kok_le hw b1 b2 (kof_kok (MK w) z' o')
  generalize kof (MK w) z o = a at *
  generalize kof (MK w) z' o' = b at *
  simp only
  have p := kunk_lt a hw
  have q := kunk_lt b hw
  rw [known_unknown_eq w a1 a2, known_unknown_eq w b1 b2, Option.bind_some, Option.bind_some, wrapu_sub b2, wrapu_add, wrapu_sub q, xor64 (mod_u64 _) (mod_u64 _), or64 (xor_lt (mod_u64 _) (mod_u64 _)) p, or64 (or_lt (xor_lt (mod_u64 _) (mod_u64 _)) p) q,
    known_from_eq w (mod_u64 _) (or_lt (or_lt (xor_lt (mod_u64 _) (mod_u64 _)) p) q), Option.bind_some]
  have hp := pw_pos (W w)
  -- the middle, the least and the greatest
  have c1 := sub_cut hw a.2 b2
  have qm : kunk (W w) b ≤ vmask (W w) := Nat.and_le_left
  have c2 := sub_cut hw ((a.2 + (18446744073709551616 - b.2)) % 18446744073709551616) q
  have sum3 : b.1 + b.2 + kunk (W w) b = vmask (W w) := by
    have h1 := add_disjoint b.1 b.2 kb
    have h2 : (b.1 ||| b.2) &&& kunk (W w) b = 0 := bits_ext fun i => by
      rw [Nat.testBit_and, kunk_bit b1 b2 hw, Nat.testBit_or, Nat.zero_testBit]
      cases b.1.testBit i <;> cases b.2.testBit i <;> simp
    rw [h1, add_disjoint _ _ h2]
    refine bits_ext fun i => ?_
    rw [Nat.testBit_or, kunk_bit b1 b2 hw, testBit_mask, Nat.testBit_or]
    by_cases hi : i < W w
    · rw [decide_eq_true hi]; cases b.1.testBit i <;> cases b.2.testBit i <;> rfl
    · rw [decide_eq_false hi, testBit_ge (lt_of_le_mask mb1) (by omega), testBit_ge (lt_of_le_mask mb2) (by omega)]; rfl
  have m1 : (a.2 + (18446744073709551616 - b.2)) % 18446744073709551616 % 2 ^ W w = (a.2 + vnot (W w) b.2 + 1) % 2 ^ W w := by
    show vcut _ _ = _
    rw [c1]; unfold vsub vnot
    rw [cut_of_le mb2]
    unfold vmask at mb2
    congr 1; omega
  have m2 : ((a.2 + (18446744073709551616 - b.2)) % 18446744073709551616 + kunk (W w) a) % 18446744073709551616 % 2 ^ W w = ((a.2 + kunk (W w) a) + vnot (W w) b.2 + 1) % 2 ^ W w := by
    rw [mod64_mod hw, Nat.add_mod, m1, ← Nat.add_mod]; congr 1; omega
  have m3 : ((a.2 + (18446744073709551616 - b.2)) % 18446744073709551616 + (18446744073709551616 - kunk (W w) b)) % 18446744073709551616 % 2 ^ W w = (a.2 + b.1 + 1) % 2 ^ W w := by
    show vcut _ _ = _
    rw [c2]; unfold vsub
    rw [cut_of_le qm, Nat.add_mod, m1, ← Nat.add_mod]
    have e : a.2 + vnot (W w) b.2 + 1 + (2 ^ W w - kunk (W w) b) = (a.2 + b.1 + 1) + 2 ^ W w := by
      unfold vnot; rw [cut_of_le mb2]; unfold vmask at sum3 mb2 qm; omega
    rw [e, Nat.add_mod_right]
  have kb' : b.2 &&& b.1 = 0 := by rw [Nat.and_comm]; exact kb
  have nb : ∀ j, j < W w → (vnot (W w) b.2).testBit j = (vnot 64 b.2).testBit j := fun j hj => by rw [testBit_vnot, testBit_vnot, decide_eq_true hj, decide_eq_true (show j < 64 by omega)]
  have key : ∀ i, i < W w → (((((a.2 + (18446744073709551616 - b.2)) % 18446744073709551616 + kunk (W w) a) % 18446744073709551616) ^^^ (((a.2 + (18446744073709551616 - b.2)) % 18446744073709551616 + (18446744073709551616 - kunk (W w) b)) % 18446744073709551616) ||| kunk (W w) a ||| kunk (W w) b).testBit i = opn 1 a.2 b.1 (vnot 64 a.1) (vnot 64 b.2) i) ∧
      (opn 1 a.2 b.1 (vnot 64 a.1) (vnot 64 b.2) i = false → ((a.2 + (18446744073709551616 - b.2)) % 18446744073709551616).testBit i = sbit 1 a.2 b.1 i) := by
    intro i hi
    have sub : ∀ {x y : Nat}, x &&& y = 0 → ∀ j, j < i → y.testBit j = true → (vnot 64 x).testBit j = true := by
      intro x y h j hj hy
      have := bit_of h j
      rw [Nat.testBit_and, hy, Nat.zero_testBit] at this
      rw [testBit_vnot, decide_eq_true (show j < 64 by omega)]
      simpa using this
    have hs : ((a.2 + (18446744073709551616 - b.2)) % 18446744073709551616).testBit i = (a.2.testBit i ^^ ((vnot 64 b.2).testBit i ^^ car 1 a.2 (vnot 64 b.2) i)) := by
      rw [bit_mod m1 hi, add_bit (by decide), nb i hi, car_congr (by decide) i (fun j hj => rfl) (fun j hj => nb j (by omega))]
    have hs2 : (((a.2 + (18446744073709551616 - b.2)) % 18446744073709551616 + kunk (W w) a) % 18446744073709551616).testBit i = ((vnot 64 a.1).testBit i ^^ ((vnot 64 b.2).testBit i ^^ car 1 (vnot 64 a.1) (vnot 64 b.2) i)) := by
      rw [bit_mod m2 hi, add_bit (by decide), nb i hi, kmay_bit hw a1 a2 ka hi, car_congr (by decide) i (fun j hj => kmay_bit hw a1 a2 ka (by omega)) (fun j hj => nb j (by omega))]
    have hs3 : (((a.2 + (18446744073709551616 - b.2)) % 18446744073709551616 + (18446744073709551616 - kunk (W w) b)) % 18446744073709551616).testBit i = (a.2.testBit i ^^ (b.1.testBit i ^^ car 1 a.2 b.1 i)) := by
      rw [bit_mod m3 hi, add_bit (by decide)]
    have ub : (kunk (W w) b).testBit i = !(b.1.testBit i == (vnot 64 b.2).testBit i) := by
      have := kunk_ne (k := (b.2, b.1)) hw b2 b1 kb' hi
      have e : kunk (W w) (b.2, b.1) = kunk (W w) b := by unfold kunk; rw [Nat.or_comm]
      rw [e] at this; exact this
    have g1 := car_mono (c := 1) (by decide) i (A := a.2) (B := b.1) (A' := a.2) (B' := vnot 64 b.2) (fun j hj h => h) (sub kb')
    have g2 := car_mono (c := 1) (by decide) i (A := a.2) (B := vnot 64 b.2) (A' := vnot 64 a.1) (B' := vnot 64 b.2) (sub ka) (fun j hj h => h)
    constructor
    · rw [Nat.testBit_or, Nat.testBit_or, Nat.testBit_xor, hs2, hs3, kunk_ne hw a1 a2 ka hi, ub]
      unfold opn
      cases a.2.testBit i <;> cases b.1.testBit i <;> cases (vnot 64 a.1).testBit i <;> cases (vnot 64 b.2).testBit i <;> cases car 1 a.2 b.1 i <;> cases car 1 (vnot 64 a.1) (vnot 64 b.2) i <;> rfl
    · rw [hs]
      unfold opn sbit
      revert g1 g2
      cases a.2.testBit i <;> cases b.1.testBit i <;> cases (vnot 64 a.1).testBit i <;> cases (vnot 64 b.2).testBit i <;> cases car 1 a.2 b.1 i <;> cases car 1 (vnot 64 a.1) (vnot 64 b.2) i <;> cases car 1 a.2 (vnot 64 b.2) i <;> decide
  unfold ksum
  simp only
  rw [Option.some_inj, Prod.mk.injEq]
  refine ⟨congrArg (fun n : Nat => (n : Int)) (bld_congr fun i hi => ?_), congrArg (fun n : Nat => (n : Int)) (bld_congr fun i hi => ?_)⟩
  · rw [(key i hi).1]; unfold sumZ
    cases h : opn 1 a.2 b.1 (vnot 64 a.1) (vnot 64 b.2) i with
    | true => rfl
    | false => rw [(key i hi).2 h]
  · rw [(key i hi).1]; unfold sumO
    cases h : opn 1 a.2 b.1 (vnot 64 a.1) (vnot 64 b.2) i with
    | true => rfl
    | false => rw [(key i hi).2 h]
end Go.Proofs.YtcihbcffokjgjaaGreat.Fn
