/- Sums and differences of elements: the program's by two sums, the reference's bit by bit with a carry of three states. More functions of the bit vectors (program and reference), in the words of the theory. The checks ahead of an operator: the specification. The checks ahead of an operator on elements: one specification that the program's and the reference's meet. What the functions return, as the evaluator tells it: written by a program of this workplace (mev.py); Lean checks each equation. -/
import Derived.Test.YtcihbcffokjgjaaGreatOF2
import Derived.Test.YtcihbcffokjgjaaGreatOF8
import Derived.Test.YtcihbcffokjgjaaGreatOF9
import Derived.Test.YtcihbcffokjgjaaGreatOTr
import Derived.Test.YtcihbcffokjgjaaGreatOF10
import Derived.Test.YtcihbcffokjgjaaGreatOF11
import Derived.Test.YtcihbcffokjgjaaGreatOF3
import Derived.Test.YtcihbcffokjgjaaGreatOTv
import Derived.Test.YtcihbcffokjgjaaGreatOMc
import Derived.Test.YtcihbcffokjgjaaGreatProg
import Derived.Test.YtcihbcffokjgjaaGreatOEvC
import Derived.Test.YtcihbcffokjgjaaGreatOF0
namespace Go.Proofs.YtcihbcffokjgjaaGreat.Fn
open Go Go.RowKit Go.Proofs.YtcihbcffokjgjaaGreat.Ev Go.Proofs.YtcihbcffokjgjaaGreat.Bv
set_option linter.unusedVariables false
set_option linter.unusedSimpArgs false
theorem fuel4 : ∃ k, fuel0 + 1 = k + 4 := ⟨fuel0 - 3, by unfold fuel0; omega⟩
theorem fuelg {n : Nat} (h : n ≤ 1000) : n < fuel0 + 1 := by unfold fuel0; omega
def maj (a b c : Bool) : Bool := (a && b) || (a && c) || (b && c)
def car (c A B i : Nat) : Bool := decide (2 ^ i ≤ A % 2 ^ i + B % 2 ^ i + c)
theorem car_zero {c A B : Nat} : car c A B 0 = decide (1 ≤ c) := by unfold car; simp [Nat.mod_one]
theorem car_succ {c : Nat} (hc : c ≤ 1) (A B i : Nat) : car c A B (i + 1) = maj (A.testBit i) (B.testBit i) (car c A B i) := by
  unfold car
  rw [mod_succ A i, mod_succ B i, Nat.pow_succ]
  have hA := Nat.mod_lt A (pw_pos i)
  have hB := Nat.mod_lt B (pw_pos i)
  generalize A % 2 ^ i = x at *
  generalize B % 2 ^ i = y at *
  generalize 2 ^ i = P at *
  cases A.testBit i <;> cases B.testBit i <;> simp only [maj, Bool.toNat_true, Bool.toNat_false, Bool.true_and, Bool.false_and, Bool.or_false, Bool.false_or, Bool.true_or, Bool.and_false, Nat.zero_mul, Nat.one_mul, Nat.add_zero, Bool.or_self, Bool.or_true]
  · rw [decide_eq_false_iff_not]; omega
  · rw [decide_eq_decide]; omega
  · rw [decide_eq_decide]; omega
  · rw [decide_eq_true_iff]; omega
theorem add_bit {c : Nat} (hc : c ≤ 1) (A B i : Nat) : (A + B + c).testBit i = (A.testBit i ^^ (B.testBit i ^^ car c A B i)) := by
  unfold car
  rw [Nat.testBit_eq_decide_div_mod_eq, Nat.testBit_eq_decide_div_mod_eq (x := A), Nat.testBit_eq_decide_div_mod_eq (x := B)]
  have hA := Nat.mod_lt A (pw_pos i)
  have hB := Nat.mod_lt B (pw_pos i)
  have eA := Nat.div_add_mod A (2 ^ i)
  have eB := Nat.div_add_mod B (2 ^ i)
  have hP := pw_pos i
  have hs : (A + B + c) / 2 ^ i = A / 2 ^ i + B / 2 ^ i + (if 2 ^ i ≤ A % 2 ^ i + B % 2 ^ i + c then 1 else 0) := by
    have e : A + B + c = 2 ^ i * (A / 2 ^ i + B / 2 ^ i) + (A % 2 ^ i + B % 2 ^ i + c) := by rw [Nat.mul_add]; omega
    rw [e, Nat.mul_add_div hP]
    congr 1
    split
    · exact Nat.div_eq_of_lt_le (by rw [Nat.one_mul]; assumption) (by omega)
    · exact Nat.div_eq_of_lt (by omega)
  rw [hs]
  generalize A / 2 ^ i = x
  generalize B / 2 ^ i = y
  by_cases h : 2 ^ i ≤ A % 2 ^ i + B % 2 ^ i + c
  · rw [if_pos h, decide_eq_true h]
    rcases Nat.mod_two_eq_zero_or_one x with h1 | h1 <;> rcases Nat.mod_two_eq_zero_or_one y with h2 | h2 <;> simp [h1, h2] <;> omega
  · rw [if_neg h, decide_eq_false h]
    rcases Nat.mod_two_eq_zero_or_one x with h1 | h1 <;> rcases Nat.mod_two_eq_zero_or_one y with h2 | h2 <;> simp [h1, h2] <;> omega
theorem maj_mono {a b c a' b' c' : Bool} (ha : a = true → a' = true) (hb : b = true → b' = true) (hc : c = true → c' = true) : maj a b c = true → maj a' b' c' = true := by
  revert ha hb hc
  cases a <;> cases b <;> cases c <;> cases a' <;> cases b' <;> cases c' <;> decide
theorem car_mono {c A B A' B' : Nat} (hc : c ≤ 1) (i : Nat) (hA : ∀ j, j < i → A.testBit j = true → A'.testBit j = true) (hB : ∀ j, j < i → B.testBit j = true → B'.testBit j = true) : car c A B i = true → car c A' B' i = true := by
  induction i with
  | zero => rw [car_zero, car_zero]; exact id
  | succ i ih =>
    rw [car_succ hc, car_succ hc]
    exact maj_mono (hA i (by omega)) (hB i (by omega)) (ih (fun j hj => hA j (by omega)) (fun j hj => hB j (by omega)))
theorem bit_mod {m n w i : Nat} (h : m % 2 ^ w = n % 2 ^ w) (hi : i < w) : m.testBit i = n.testBit i := by
  have := bit_of h i
  rw [Nat.testBit_mod_two_pow, Nat.testBit_mod_two_pow, decide_eq_true hi] at this
  simpa using this
def st (lo hi : Bool) : Int := if hi then (if lo then 1 else 2) else 0
theorem ref_bit {k : Nat × Nat} (h1 : k.1 < U64) (h2 : k.2 < U64) {i : Nat} (hi : i < 64) : saturateref12_bit.f ((k.1 : Int), (k.2 : Int)) i = some (st (k.2.testBit i) (!k.1.testBit i)) := by
  unfold saturateref12_bit.f
  simp only
  rw [bifd_neg (by omega), saturateref01_Bit_eq h1, Option.bind_some, saturateref01_Bit_eq h2]
  cases k.1.testBit i <;> cases k.2.testBit i <;> rfl
theorem ref_with (f g : Nat → Bool) {i : Nat} (hi : i < 64) (hn : f i = true → g i = false) : saturateref12_with.f ((bld f i : Int), (bld g i : Int)) i (st (g i) (!f i)) = some ((bld f (i + 1) : Int), (bld g (i + 1) : Int)) := by
  unfold saturateref12_with.f saturateref12_with.g
  simp only
  have hf := bld_step f hi
  have hg := bld_step g hi
  rw [wrapu_of (n := i) (by omega), bifd_neg (by omega)]
  simp only [saturateref12_with.p6_eq]
  cases h1 : f i with
  | true =>
    have h2 := hn h1
    rw [h1] at hf
    rw [h2] at hg ⊢
    simp only [bld] at hf hg ⊢
    simp only [h1, h2] at hf ⊢
    have : bld g i ||| (false.toNat <<< i) = bld g i := by simp
    rw [this, ← hf]; rfl
  | false =>
    rw [h1] at hf
    have e1 : bld f (i + 1) = bld f i := by simp only [bld, h1]; simp
    rw [e1]
    cases h2 : g i with
    | true => rw [h2] at hg; rw [← hg]; rfl
    | false =>
      have e2 : bld g (i + 1) = bld g i := by simp only [bld, h2]; simp
      rw [e2]; rfl
theorem ref_xor (l1 h1 l2 h2 : Bool) (e1 : l1 = true → h1 = true) (e2 : l2 = true → h2 = true) : saturateref12_xor.f (st l1 h1) (st l2 h2) = some (st ((l1 == h1) && (l2 == h2) && (l1 ^^ l2)) (!((l1 == h1) && (l2 == h2)) || (l1 ^^ l2))) := by
  revert e1 e2
  cases l1 <;> cases h1 <;> cases l2 <;> cases h2 <;> intro e1 e2 <;> first | (cases e1 rfl; done) | (cases e2 rfl; done) | rfl
theorem ref_most (l1 h1 l2 h2 l3 h3 : Bool) (e1 : l1 = true → h1 = true) (e2 : l2 = true → h2 = true) (e3 : l3 = true → h3 = true) : saturateref12_most.f (st l1 h1) (st l2 h2) (st l3 h3) = some (st (maj l1 l2 l3) (maj h1 h2 h3)) := by
  unfold saturateref12_most.f saturateref12_most.g
  obtain ⟨k, hk⟩ := fuel4
  rw [hk]; clear hk
  revert e1 e2 e3
  have w1 : IntKind.i64.wrap 1 = 1 := rfl
  have w2 : IntKind.i64.wrap 2 = 2 := rfl
  have j : ∀ x0 x1 x2 x7, saturateref12_most.j2 (k + 4) (k + 4) x0 x1 x2 x7 = _ := fun x0 x1 x2 x7 => saturateref12_most.j2_succ (k + 4) (k + 3) x0 x1 x2 x7
  have j' : ∀ x0 x1 x2 x7, saturateref12_most.j2 (k + 4) (k + 3) x0 x1 x2 x7 = _ := fun x0 x1 x2 x7 => saturateref12_most.j2_succ (k + 4) (k + 2) x0 x1 x2 x7
  have j'' : ∀ x0 x1 x2 x7, saturateref12_most.j2 (k + 4) (k + 2) x0 x1 x2 x7 = _ := fun x0 x1 x2 x7 => saturateref12_most.j2_succ (k + 4) (k + 1) x0 x1 x2 x7
  have p : ∀ n x0 x1 x2 x7, saturateref12_most.p3 (k + 4) (k + 4) n x0 x1 x2 x7 = _ := fun n x0 x1 x2 x7 => saturateref12_most.p3_eq (k + 3) (k + 4) n x0 x1 x2 x7
  cases l1 <;> cases h1 <;> cases l2 <;> cases h2 <;> cases l3 <;> cases h3 <;> intro e1 e2 e3 <;> first | (cases e1 rfl; done) | (cases e2 rfl; done) | (cases e3 rfl; done) | (simp [st, maj, j, j', j'', p, w1, w2]; done)
def opn (c A B A' B' i : Nat) : Bool := !((A.testBit i == A'.testBit i) && (B.testBit i == B'.testBit i) && (car c A B i == car c A' B' i))
def sbit (c A B i : Nat) : Bool := A.testBit i ^^ (B.testBit i ^^ car c A B i)
def sumZ (c A B A' B' i : Nat) : Bool := !opn c A B A' B' i && !sbit c A B i
def sumO (c A B A' B' i : Nat) : Bool := !opn c A B A' B' i && sbit c A B i
theorem ref_sum_j3 (fu : Nat) (w : Int) {a b : Nat × Nat} (ha1 : a.1 < U64) (ha2 : a.2 < U64) (hb1 : b.1 < U64) (hb2 : b.2 < U64) (ka : a.1 &&& a.2 = 0) (kb : b.1 &&& b.2 = 0) {c : Nat} (hc : c ≤ 1) (u v : Int) (d : Nat) :
    ∀ (k i : Nat), W w - i = d → i ≤ W w → d < k →
    saturateref12_sum.j3 fu k w (st (car c a.2 b.2 i) (car c (vnot 64 a.1) (vnot 64 b.1) i)) i a.1 a.2 b.1 b.2 u v
      (bld (sumZ c a.2 b.2 (vnot 64 a.1) (vnot 64 b.1)) i : Int) (bld (sumO c a.2 b.2 (vnot 64 a.1) (vnot 64 b.1)) i : Int) =
    some ((bld (sumZ c a.2 b.2 (vnot 64 a.1) (vnot 64 b.1)) (W w) : Int), (bld (sumO c a.2 b.2 (vnot 64 a.1) (vnot 64 b.1)) (W w) : Int)) := by
  have hw := W_le w
  induction d with
  | zero =>
    intro k i hd hi hk
    obtain ⟨k, rfl⟩ : ∃ m, k = m + 1 := ⟨k - 1, by omega⟩
    obtain rfl : i = W w := by omega
    rw [saturateref12_sum.j3_succ, saturateref01_W_eq, Option.bind_some, bifd_neg (by omega)]
  | succ d ih =>
    intro k i hd hi hk
    obtain ⟨k, rfl⟩ : ∃ m, k = m + 1 := ⟨k - 1, by omega⟩
    have hi64 : i < 64 := by omega
    have ea := ref_bit ha1 ha2 hi64
    have eb := ref_bit hb1 hb2 hi64
    have sub : ∀ {x y : Nat}, x &&& y = 0 → ∀ j, j < i + 1 → y.testBit j = true → (vnot 64 x).testBit j = true := by
      intro x y h j hj hy
      have := bit_of h j
      rw [Nat.testBit_and, hy, Nat.zero_testBit] at this
      rw [testBit_vnot, decide_eq_true (show j < 64 by omega)]
      simpa using this
    have la := sub ka i (by omega)
    have lb := sub kb i (by omega)
    have lc := car_mono hc i (fun j hj => sub ka j (by omega)) (fun j hj => sub kb j (by omega))
    have va : (vnot 64 a.1).testBit i = !a.1.testBit i := by rw [testBit_vnot, decide_eq_true hi64]; simp
    have vb : (vnot 64 b.1).testBit i = !b.1.testBit i := by rw [testBit_vnot, decide_eq_true hi64]; simp
    have hz := ref_with (sumZ c a.2 b.2 (vnot 64 a.1) (vnot 64 b.1)) (sumO c a.2 b.2 (vnot 64 a.1) (vnot 64 b.1)) hi64 (by unfold sumZ sumO; cases opn c a.2 b.2 (vnot 64 a.1) (vnot 64 b.1) i <;> cases sbit c a.2 b.2 i <;> decide)
    have hn := ih k (i + 1) (by omega) (by omega) (by omega)
    rw [car_succ hc, car_succ hc] at hn
    rw [saturateref12_sum.j3_succ, saturateref01_W_eq, Option.bind_some, bifd_pos (by omega)]
    rw [ea, eb, Option.bind_some, Option.bind_some, ← va, ← vb]
    rw [ref_xor _ _ _ _ la lb, Option.bind_some, ref_xor _ _ _ _ (by cases a.2.testBit i <;> cases (vnot 64 a.1).testBit i <;> cases b.2.testBit i <;> cases (vnot 64 b.1).testBit i <;> decide) lc, Option.bind_some]
    have e : ∀ (l1 h1 l2 h2 l3 h3 : Bool), (l1 = true → h1 = true) → (l2 = true → h2 = true) → (l3 = true → h3 = true) →
        st (((l1 == h1) && (l2 == h2) && (l1 ^^ l2)) == (!((l1 == h1) && (l2 == h2)) || (l1 ^^ l2)) && (l3 == h3) && (((l1 == h1) && (l2 == h2) && (l1 ^^ l2)) ^^ l3)) (!(((l1 == h1) && (l2 == h2) && (l1 ^^ l2)) == (!((l1 == h1) && (l2 == h2)) || (l1 ^^ l2)) && (l3 == h3)) || (((l1 == h1) && (l2 == h2) && (l1 ^^ l2)) ^^ l3)) =
        st (!!((l1 == h1) && (l2 == h2) && (l3 == h3)) && (l1 ^^ (l2 ^^ l3))) (!(!!((l1 == h1) && (l2 == h2) && (l3 == h3)) && !(l1 ^^ (l2 ^^ l3)))) := by
      intro l1 h1 l2 h2 l3 h3
      cases l1 <;> cases h1 <;> cases l2 <;> cases h2 <;> cases l3 <;> cases h3 <;> decide
    rw [e _ _ _ _ _ _ la lb lc]
    unfold sumZ sumO opn sbit at hz hn ⊢
    rw [hz, Option.bind_some, ref_most _ _ _ _ _ _ la lb lc, Option.bind_some, wrapi, wrapi_succ (by omega)]
    exact hn
def ksum (w c : Nat) (a b : Nat × Nat) : Nat × Nat := (bld (sumZ c a.2 b.2 (vnot 64 a.1) (vnot 64 b.1)) w, bld (sumO c a.2 b.2 (vnot 64 a.1) (vnot 64 b.1)) w)
theorem ref_sum (w : Int) {a b : Nat × Nat} (ha1 : a.1 < U64) (ha2 : a.2 < U64) (hb1 : b.1 < U64) (hb2 : b.2 < U64) (ka : a.1 &&& a.2 = 0) (kb : b.1 &&& b.2 = 0) {c : Nat} (hc : c ≤ 1) :
    saturateref12_sum.f w ((a.1 : Int), (a.2 : Int)) ((b.1 : Int), (b.2 : Int)) (c : Int) = some (((ksum (W w) c a b).1 : Int), ((ksum (W w) c a b).2 : Int)) := by
  unfold saturateref12_sum.f saturateref12_sum.g saturateref12_Top.f
  have hw := W_le w
  have := ref_sum_j3 (fuel0 + 1) w ha1 ha2 hb1 hb2 ka kb hc 0 0 (W w) (fuel0 + 1) 0 rfl (by omega) (fuelg (by omega))
  rw [car_zero, car_zero, show st (decide (1 ≤ c)) (decide (1 ≤ c)) = (c : Int) by rcases Nat.le_one_iff_eq_zero_or_eq_one.1 hc with rfl | rfl <;> rfl] at this
  exact this
theorem and0 {M z o : Nat} (h : kok M z o) : z &&& o = 0 := h.1
theorem saturateref12_Add_eq (w : Int) {z o z' o' : Nat} (hz : z < U64) (ho : o < U64) (hz' : z' < U64) (ho' : o' < U64) :
    saturateref12_Add.f w ((z : Int), (o : Int)) ((z' : Int), (o' : Int)) = some (((ksum (W w) 0 (kof (MK w) z o) (kof (MK w) z' o')).1 : Int), ((ksum (W w) 0 (kof (MK w) z o) (kof (MK w) z' o')).2 : Int)) := by
  unfold saturateref12_Add.f
  simp only
  rw [saturateref12_Of_eq w hz ho, saturateref12_Of_eq w hz' ho', Option.bind_some, Option.bind_some]
  have l1 := kof_lt (M := MK w) hz ho
  have l2 := kof_lt (M := MK w) hz' ho'
  have := ref_sum w l1.1 l1.2 l2.1 l2.2 (and0 (kof_kok _ _ _)) (and0 (kof_kok _ _ _)) (c := 0) (by decide)
  simp only at this ⊢
  rw [show (0 : Int) = ((0 : Nat) : Int) from rfl, this]; rfl
theorem saturateref12_Sub_eq (w : Int) {z o z' o' : Nat} (hz : z < U64) (ho : o < U64) (hz' : z' < U64) (ho' : o' < U64) :
    saturateref12_Sub.f w ((z : Int), (o : Int)) ((z' : Int), (o' : Int)) = some (((ksum (W w) 1 (kof (MK w) z o) ((kof (MK w) z' o').2, (kof (MK w) z' o').1)).1 : Int), ((ksum (W w) 1 (kof (MK w) z o) ((kof (MK w) z' o').2, (kof (MK w) z' o').1)).2 : Int)) := by
  unfold saturateref12_Sub.f saturateref12_Not.f
  simp only
  rw [saturateref12_Of_eq w hz ho, saturateref12_Of_eq w hz' ho', Option.bind_some, Option.bind_some, Option.bind_some]
  have l1 := kof_lt (M := MK w) hz ho
  have l2 := kof_lt (M := MK w) hz' ho'
  have := ref_sum w l1.1 l1.2 (b := ((kof (MK w) z' o').2, (kof (MK w) z' o').1)) l2.2 l2.1 (and0 (kof_kok _ _ _)) (by rw [Nat.and_comm]; exact and0 (kof_kok _ _ _)) (c := 1) (by decide)
  simp only at this ⊢
  rw [show (1 : Int) = ((1 : Nat) : Int) from rfl, this]; rfl
theorem known_from_eq (w : Int) {x y : Nat} (hx : x < U64) (hy : y < U64) : known_from.f w x y = some ((bld (fun i => !y.testBit i && !x.testBit i) (W w) : Int), (bld (fun i => !y.testBit i && x.testBit i) (W w) : Int)) := by
  unfold known_from.f
  have hw := W_le w
  have l1 := vcut_lt x hw
  have l2 := vcut_lt y hw
  have l3 : vcut (W w) x &&& (18446744073709551615 - vcut (W w) y) < U64 := and_lt (Nat.lt_of_le_of_lt (Nat.sub_le _ _) (by decide))
  rw [bits_Cut_eq w hy, Option.bind_some, bits_Cut_eq w hx, Option.bind_some, bits_Mask_eq, Option.bind_some, andNot64 l1 l2, or64 l3 l2, andNot64 (vmask_lt hw) (or_lt l3 l2)]
  have cut : ∀ x i, (vcut (W w) x).testBit i = (decide (i < W w) && x.testBit i) := fun x i => by unfold vcut; rw [Nat.testBit_mod_two_pow]
  have e1 : vmask (W w) &&& (18446744073709551615 - ((vcut (W w) x &&& (18446744073709551615 - vcut (W w) y)) ||| vcut (W w) y)) = bld (fun i => !y.testBit i && !x.testBit i) (W w) := bits_ext fun i => by
    rw [Nat.testBit_and, testBit_mask, testBit_comp (or_lt l3 l2), Nat.testBit_or, Nat.testBit_and, testBit_comp l2, cut, cut, testBit_bld]
    by_cases hi : i < W w
    · rw [decide_eq_true hi, decide_eq_true (show i < 64 by omega)]; cases x.testBit i <;> cases y.testBit i <;> rfl
    · rw [decide_eq_false hi]; rfl
  have e2 : vcut (W w) x &&& (18446744073709551615 - vcut (W w) y) = bld (fun i => !y.testBit i && x.testBit i) (W w) := bits_ext fun i => by
    rw [Nat.testBit_and, testBit_comp l2, cut, cut, testBit_bld]
    by_cases hi : i < W w
    · rw [decide_eq_true hi, decide_eq_true (show i < 64 by omega)]; cases x.testBit i <;> cases y.testBit i <;> rfl
    · rw [decide_eq_false hi]; rfl
  rw [e1, e2]
theorem car_congr {c A B A' B' : Nat} (hc : c ≤ 1) (i : Nat) (hA : ∀ j, j < i → A.testBit j = A'.testBit j) (hB : ∀ j, j < i → B.testBit j = B'.testBit j) : car c A B i = car c A' B' i := by
  have h1 := car_mono hc (A := A) (B := B) (A' := A') (B' := B') i (fun j hj h => by rw [← hA j hj]; exact h) (fun j hj h => by rw [← hB j hj]; exact h)
  have h2 := car_mono hc (A := A') (B := B') (A' := A) (B' := B) i (fun j hj h => by rw [hA j hj]; exact h) (fun j hj h => by rw [hB j hj]; exact h)
  revert h1 h2; cases car c A B i <;> cases car c A' B' i <;> simp
theorem kmay_bit {w : Nat} {k : Nat × Nat} (hw : w ≤ 64) (h1 : k.1 < U64) (h2 : k.2 < U64) (e : k.1 &&& k.2 = 0) {i : Nat} (hi : i < w) : (k.2 + kunk w k).testBit i = (vnot 64 k.1).testBit i := by
  have hd : k.2 &&& kunk w k = 0 := bits_ext fun i => by
    rw [Nat.testBit_and, kunk_bit h1 h2 hw, Nat.zero_testBit]
    cases k.2.testBit i <;> simp
  rw [add_disjoint _ _ hd, Nat.testBit_or, kunk_bit h1 h2 hw, testBit_vnot, decide_eq_true hi, decide_eq_true (show i < 64 by omega)]
  have := bit_of e i
  rw [Nat.testBit_and, Nat.zero_testBit] at this
  revert this
  cases k.1.testBit i <;> cases k.2.testBit i <;> decide
theorem kunk_ne {w : Nat} {k : Nat × Nat} (hw : w ≤ 64) (h1 : k.1 < U64) (h2 : k.2 < U64) (e : k.1 &&& k.2 = 0) {i : Nat} (hi : i < w) : (kunk w k).testBit i = !(k.2.testBit i == (vnot 64 k.1).testBit i) := by
  rw [kunk_bit h1 h2 hw, testBit_vnot, decide_eq_true hi, decide_eq_true (show i < 64 by omega)]
  have := bit_of e i
  rw [Nat.testBit_and, Nat.zero_testBit] at this
  revert this
  cases k.1.testBit i <;> cases k.2.testBit i <;> decide
theorem kok_le {w : Nat} (hw : w ≤ 64) {k : Nat × Nat} (h1 : k.1 < U64) (h2 : k.2 < U64) (h : kok (vmask w) k.1 k.2) : k.1 ≤ vmask w ∧ k.2 ≤ vmask w := ((kok_iff hw h1 h2).1 h).2
theorem xor_lt {a b : Nat} (ha : a < U64) (hb : b < U64) : a ^^^ b < U64 := by rw [show U64 = 2 ^ 64 from rfl]; exact Nat.xor_lt_two_pow ha hb
theorem mod_u64 (x : Nat) : x % 18446744073709551616 < U64 := Nat.mod_lt _ (by decide)
theorem known_Add_eq (w : Int) {z o z' o' : Nat} (hz : z < U64) (ho : o < U64) (hz' : z' < U64) (ho' : o' < U64) :
    known_Add.f w ((z : Int), (o : Int)) ((z' : Int), (o' : Int)) = some (((ksum (W w) 0 (kof (MK w) z o) (kof (MK w) z' o')).1 : Int), ((ksum (W w) 0 (kof (MK w) z o) (kof (MK w) z' o')).2 : Int)) := by
  unfold known_Add.f
  simp only
  rw [known_of_eq w hz ho, known_of_eq w hz' ho', Option.bind_some, Option.bind_some]
  have hw := W_le w
  obtain ⟨a1, a2⟩ := kof_lt (M := MK w) hz ho
  obtain ⟨b1, b2⟩ := kof_lt (M := MK w) hz' ho'
  have ka := and0 (kof_kok (MK w) z o)
  have kb := and0 (kof_kok (MK w) z' o')
  generalize kof (MK w) z o = a at *
  generalize kof (MK w) z' o' = b at *
  simp only
  have p := kunk_lt a hw
  have q := kunk_lt b hw
  rw [known_unknown_eq w a1 a2, known_unknown_eq w b1 b2, Option.bind_some, Option.bind_some, wrapu_add, wrapu_add, wrapu_add, xor64 (mod_u64 _) (mod_u64 _), or64 (xor_lt (mod_u64 _) (mod_u64 _)) p, or64 (or_lt (xor_lt (mod_u64 _) (mod_u64 _)) p) q,
    known_from_eq w (mod_u64 _) (or_lt (or_lt (xor_lt (mod_u64 _) (mod_u64 _)) p) q), Option.bind_some]
  have key : ∀ i, i < W w → ((((((a.2 + b.2) % 18446744073709551616 + kunk (W w) a) % 18446744073709551616 + kunk (W w) b) % 18446744073709551616) ^^^ ((a.2 + b.2) % 18446744073709551616) ||| kunk (W w) a ||| kunk (W w) b).testBit i = opn 0 a.2 b.2 (vnot 64 a.1) (vnot 64 b.1) i) ∧ ((a.2 + b.2) % 18446744073709551616).testBit i = sbit 0 a.2 b.2 i := by
    intro i hi
    have hs : ((a.2 + b.2) % 18446744073709551616).testBit i = sbit 0 a.2 b.2 i := by
      rw [bit_mod (w := 64) (n := a.2 + b.2 + 0) (by rw [p64]; omega) (by omega), add_bit (by decide)]; rfl
    have hs2 : ((((a.2 + b.2) % 18446744073709551616 + kunk (W w) a) % 18446744073709551616 + kunk (W w) b) % 18446744073709551616).testBit i = sbit 0 (vnot 64 a.1) (vnot 64 b.1) i := by
      rw [bit_mod (w := 64) (n := (a.2 + kunk (W w) a) + (b.2 + kunk (W w) b) + 0) (by rw [p64]; omega) (by omega), add_bit (by decide)]
      unfold sbit
      rw [kmay_bit hw a1 a2 ka hi, kmay_bit hw b1 b2 kb hi, car_congr (by decide) i (fun j hj => kmay_bit hw a1 a2 ka (by omega)) (fun j hj => kmay_bit hw b1 b2 kb (by omega))]
    refine ⟨?_, hs⟩
    rw [Nat.testBit_or, Nat.testBit_or, Nat.testBit_xor, hs, hs2, kunk_ne hw a1 a2 ka hi, kunk_ne hw b1 b2 kb hi]
    unfold opn sbit
    cases a.2.testBit i <;> cases b.2.testBit i <;> cases (vnot 64 a.1).testBit i <;> cases (vnot 64 b.1).testBit i <;> cases car 0 a.2 b.2 i <;> cases car 0 (vnot 64 a.1) (vnot 64 b.1) i <;> rfl
  unfold ksum
  simp only
  rw [Option.some_inj, Prod.mk.injEq]
  exact ⟨congrArg (fun n : Nat => (n : Int)) (bld_congr fun i hi => by rw [(key i hi).1, (key i hi).2]; rfl), congrArg (fun n : Nat => (n : Int)) (bld_congr fun i hi => by rw [(key i hi).1, (key i hi).2]; rfl)⟩
theorem cut_of_le {w x : Nat} (h : x ≤ vmask w) : x % 2 ^ w = x := Nat.mod_eq_of_lt (lt_of_le_mask h)
theorem known_Sub_eq (w : Int) {z o z' o' : Nat} (hz : z < U64) (ho : o < U64) (hz' : z' < U64) (ho' : o' < U64) :
    known_Sub.f w ((z : Int), (o : Int)) ((z' : Int), (o' : Int)) = some (((ksum (W w) 1 (kof (MK w) z o) ((kof (MK w) z' o').2, (kof (MK w) z' o').1)).1 : Int), ((ksum (W w) 1 (kof (MK w) z o) ((kof (MK w) z' o').2, (kof (MK w) z' o').1)).2 : Int)) := by
  unfold known_Sub.f
  simp only
  rw [known_of_eq w hz ho, known_of_eq w hz' ho', Option.bind_some, Option.bind_some]
  have hw := W_le w
  obtain ⟨a1, a2⟩ := kof_lt (M := MK w) hz ho
  obtain ⟨b1, b2⟩ := kof_lt (M := MK w) hz' ho'
  have ka := and0 (kof_kok (MK w) z o)
  have kb := and0 (kof_kok (MK w) z' o')
  obtain ⟨ma1, ma2⟩ := kok_le hw a1 a2 (kof_kok (MK w) z o)
  obtain ⟨mb1, mb2⟩ := kok_le hw b1 b2 (kof_kok (MK w) z' o')
  generalize kof (MK w) z o = a at *
  generalize kof (MK w) z' o' = b at *
  simp only
  have p := kunk_lt a hw
  have q := kunk_lt b hw
  rw [known_unknown_eq w a1 a2, known_unknown_eq w b1 b2, Option.bind_some, Option.bind_some, wrapu_sub b2, wrapu_add, wrapu_sub q, xor64 (mod_u64 _) (mod_u64 _), or64 (xor_lt (mod_u64 _) (mod_u64 _)) p, or64 (or_lt (xor_lt (mod_u64 _) (mod_u64 _)) p) q,
    known_from_eq w (mod_u64 _) (or_lt (or_lt (xor_lt (mod_u64 _) (mod_u64 _)) p) q), Option.bind_some]
  have hp := pw_pos (W w)
  -- the middle, the least and the greatest
  have c1 := sub_cut hw a.2 b2
  have qm : kunk (W w) b ≤ vmask (W w) := Nat.and_le_left
  have c2 := sub_cut hw ((a.2 + (18446744073709551616 - b.2)) % 18446744073709551616) q
  have sum3 : b.1 + b.2 + kunk (W w) b = vmask (W w) := by
    have h1 := add_disjoint b.1 b.2 kb
    have h2 : (b.1 ||| b.2) &&& kunk (W w) b = 0 := bits_ext fun i => by
      rw [Nat.testBit_and, kunk_bit b1 b2 hw, Nat.testBit_or, Nat.zero_testBit]
      cases b.1.testBit i <;> cases b.2.testBit i <;> simp
    rw [h1, add_disjoint _ _ h2]
    refine bits_ext fun i => ?_
    rw [Nat.testBit_or, kunk_bit b1 b2 hw, testBit_mask, Nat.testBit_or]
    by_cases hi : i < W w
    · rw [decide_eq_true hi]; cases b.1.testBit i <;> cases b.2.testBit i <;> rfl
    · rw [decide_eq_false hi, testBit_ge (lt_of_le_mask mb1) (by omega), testBit_ge (lt_of_le_mask mb2) (by omega)]; rfl
  have m1 : (a.2 + (18446744073709551616 - b.2)) % 18446744073709551616 % 2 ^ W w = (a.2 + vnot (W w) b.2 + 1) % 2 ^ W w := by
    show vcut _ _ = _
    rw [c1]; unfold vsub vnot
    rw [cut_of_le mb2]
    unfold vmask at mb2
    congr 1; omega
  have m2 : ((a.2 + (18446744073709551616 - b.2)) % 18446744073709551616 + kunk (W w) a) % 18446744073709551616 % 2 ^ W w = ((a.2 + kunk (W w) a) + vnot (W w) b.2 + 1) % 2 ^ W w := by
    rw [mod64_mod hw, Nat.add_mod, m1, ← Nat.add_mod]; congr 1; omega
  have m3 : ((a.2 + (18446744073709551616 - b.2)) % 18446744073709551616 + (18446744073709551616 - kunk (W w) b)) % 18446744073709551616 % 2 ^ W w = (a.2 + b.1 + 1) % 2 ^ W w := by
    show vcut _ _ = _
    rw [c2]; unfold vsub
    rw [cut_of_le qm, Nat.add_mod, m1, ← Nat.add_mod]
    have e : a.2 + vnot (W w) b.2 + 1 + (2 ^ W w - kunk (W w) b) = (a.2 + b.1 + 1) + 2 ^ W w := by
      unfold vnot; rw [cut_of_le mb2]; unfold vmask at sum3 mb2 qm; omega
    rw [e, Nat.add_mod_right]
  have kb' : b.2 &&& b.1 = 0 := by rw [Nat.and_comm]; exact kb
  have nb : ∀ j, j < W w → (vnot (W w) b.2).testBit j = (vnot 64 b.2).testBit j := fun j hj => by rw [testBit_vnot, testBit_vnot, decide_eq_true hj, decide_eq_true (show j < 64 by omega)]
  have key : ∀ i, i < W w → (((((a.2 + (18446744073709551616 - b.2)) % 18446744073709551616 + kunk (W w) a) % 18446744073709551616) ^^^ (((a.2 + (18446744073709551616 - b.2)) % 18446744073709551616 + (18446744073709551616 - kunk (W w) b)) % 18446744073709551616) ||| kunk (W w) a ||| kunk (W w) b).testBit i = opn 1 a.2 b.1 (vnot 64 a.1) (vnot 64 b.2) i) ∧
      (opn 1 a.2 b.1 (vnot 64 a.1) (vnot 64 b.2) i = false → ((a.2 + (18446744073709551616 - b.2)) % 18446744073709551616).testBit i = sbit 1 a.2 b.1 i) := by
    intro i hi
    have sub : ∀ {x y : Nat}, x &&& y = 0 → ∀ j, j < i → y.testBit j = true → (vnot 64 x).testBit j = true := by
      intro x y h j hj hy
      have := bit_of h j
      rw [Nat.testBit_and, hy, Nat.zero_testBit] at this
      rw [testBit_vnot, decide_eq_true (show j < 64 by omega)]
      simpa using this
    have hs : ((a.2 + (18446744073709551616 - b.2)) % 18446744073709551616).testBit i = (a.2.testBit i ^^ ((vnot 64 b.2).testBit i ^^ car 1 a.2 (vnot 64 b.2) i)) := by
      rw [bit_mod m1 hi, add_bit (by decide), nb i hi, car_congr (by decide) i (fun j hj => rfl) (fun j hj => nb j (by omega))]
    have hs2 : (((a.2 + (18446744073709551616 - b.2)) % 18446744073709551616 + kunk (W w) a) % 18446744073709551616).testBit i = ((vnot 64 a.1).testBit i ^^ ((vnot 64 b.2).testBit i ^^ car 1 (vnot 64 a.1) (vnot 64 b.2) i)) := by
      rw [bit_mod m2 hi, add_bit (by decide), nb i hi, kmay_bit hw a1 a2 ka hi, car_congr (by decide) i (fun j hj => kmay_bit hw a1 a2 ka (by omega)) (fun j hj => nb j (by omega))]
    have hs3 : (((a.2 + (18446744073709551616 - b.2)) % 18446744073709551616 + (18446744073709551616 - kunk (W w) b)) % 18446744073709551616).testBit i = (a.2.testBit i ^^ (b.1.testBit i ^^ car 1 a.2 b.1 i)) := by
      rw [bit_mod m3 hi, add_bit (by decide)]
    have ub : (kunk (W w) b).testBit i = !(b.1.testBit i == (vnot 64 b.2).testBit i) := by
      have := kunk_ne (k := (b.2, b.1)) hw b2 b1 kb' hi
      have e : kunk (W w) (b.2, b.1) = kunk (W w) b := by unfold kunk; rw [Nat.or_comm]
      rw [e] at this; exact this
    have g1 := car_mono (c := 1) (by decide) i (A := a.2) (B := b.1) (A' := a.2) (B' := vnot 64 b.2) (fun j hj h => h) (sub kb')
    have g2 := car_mono (c := 1) (by decide) i (A := a.2) (B := vnot 64 b.2) (A' := vnot 64 a.1) (B' := vnot 64 b.2) (sub ka) (fun j hj h => h)
    constructor
    · rw [Nat.testBit_or, Nat.testBit_or, Nat.testBit_xor, hs2, hs3, kunk_ne hw a1 a2 ka hi, ub]
      unfold opn
      cases a.2.testBit i <;> cases b.1.testBit i <;> cases (vnot 64 a.1).testBit i <;> cases (vnot 64 b.2).testBit i <;> cases car 1 a.2 b.1 i <;> cases car 1 (vnot 64 a.1) (vnot 64 b.2) i <;> rfl
    · rw [hs]
      unfold opn sbit
      revert g1 g2
      cases a.2.testBit i <;> cases b.1.testBit i <;> cases (vnot 64 a.1).testBit i <;> cases (vnot 64 b.2).testBit i <;> cases car 1 a.2 b.1 i <;> cases car 1 (vnot 64 a.1) (vnot 64 b.2) i <;> cases car 1 a.2 (vnot 64 b.2) i <;> decide
  unfold ksum
  simp only
  rw [Option.some_inj, Prod.mk.injEq]
  refine ⟨congrArg (fun n : Nat => (n : Int)) (bld_congr fun i hi => ?_), congrArg (fun n : Nat => (n : Int)) (bld_congr fun i hi => ?_)⟩
  · rw [(key i hi).1]; unfold sumZ
    cases h : opn 1 a.2 b.1 (vnot 64 a.1) (vnot 64 b.2) i with
    | true => rfl
    | false => rw [(key i hi).2 h]
  · rw [(key i hi).1]; unfold sumO
    cases h : opn 1 a.2 b.1 (vnot 64 a.1) (vnot 64 b.2) i with
    | true => rfl
    | false => rw [(key i hi).2 h]
end Go.Proofs.YtcihbcffokjgjaaGreat.Fn
namespace Go.Proofs.YtcihbcffokjgjaaGreat.Fn
open Go Go.RowKit Go.Proofs.YtcihbcffokjgjaaGreat.Ev Go.Proofs.YtcihbcffokjgjaaGreat.Bv
set_option linter.unusedVariables false
set_option linter.unusedSimpArgs false
theorem bits_Signed_eq (a : Int) {x : Nat} (hx : x < 18446744073709551616) : bits_Signed.f a x = some (sgn (W a) x) := by
  unfold bits_Signed.f; rw [bits_clamp_eq]; simp only [Option.bind_some, wrapi]
  rw [wrapi_64, bifd_neg (by omega), bifd_neg (by omega), shl64, signed_shifts (W_pos a) (W_le a)]
theorem bits_Neg_eq (a : Int) {x : Nat} (hx : x < 18446744073709551616) : bits_Neg.f a x = some (vneg (W a) x : Int) := by
  unfold bits_Neg.f; rw [Int.zero_sub, wrapu_neg hx, bits_Cut_eq a (Nat.mod_lt _ (by decide))]; simp only [Option.bind_some]
  have := sub_cut (W_le a) 0 hx
  rw [Nat.zero_add] at this
  rw [this]; unfold vsub vneg; rw [Nat.zero_add]
theorem bits_Sext_eq (v w : Int) {x : Nat} (hx : x < 18446744073709551616) : bits_Sext.f v w x = some (vsext (W v) (W w) x : Int) := by
  unfold bits_Sext.f; rw [bits_Signed_eq v hx]; simp only [Option.bind_some]
  rw [sgn_wrap (W_pos v) (W_le v), bits_Cut_eq w (s64_lt (W_le v) x)]; simp only [Option.bind_some]
  rw [s64_cut (W_pos v) (W_le v) (W_le w)]
theorem bits_Concat_eq (v w : Int) {x y : Nat} (hx : x < 18446744073709551616) (hy : y < 18446744073709551616) : bits_Concat.f v w x y = some (vconcat (W v) (W w) x y : Int) := by
  unfold bits_Concat.f; rw [bits_Cut_eq v hx, bits_clamp_eq, bits_Cut_eq w hy]; simp only [Option.bind_some]
  rw [bifd_neg (by omega), shl64, or64 (Nat.mod_lt _ (by decide)) (vcut_lt y (W_le w))]
  unfold vconcat vcut; rw [p64]
theorem saturateref01_Not_eq (a : Int) {x : Nat} (hx : x < 18446744073709551616) : saturateref01_Not.f a x = some (vnot (W a) x : Int) := by
  unfold saturateref01_Not.f; rw [saturateref01_Mask_eq a, saturateref01_Cut_eq a hx]; simp only [Option.bind_some]
  rw [wrapu_sub_le (vmask_lt (W_le a)) (by unfold vmask vcut; have := Nat.mod_lt x (pw_pos (W a)); omega)]; rfl
theorem saturateref01_Add_j3 (fu : Nat) {x y : Nat} (hx : x < 18446744073709551616) (hy : y < 18446744073709551616) (d : Nat) : ∀ (k i w z c : Nat), w ≤ 64 → w - i = d → i ≤ w → d < k → z < 2 ^ i → c ≤ 1 → z + c * 2 ^ i = x % 2 ^ i + y % 2 ^ i →
    saturateref01_Add.j3 fu k x y z c w i = some (vadd w x y : Int) := by
  induction d with
  | zero =>
    intro k i w z c hw hd hi hk hz hc he
    obtain ⟨k, rfl⟩ : ∃ m, k = m + 1 := ⟨k - 1, by omega⟩
    obtain rfl : i = w := by omega
    rw [saturateref01_Add.j3_succ, bifd_neg (by omega)]
    unfold vadd
    rw [Nat.add_mod, ← he, Nat.add_mul_mod_self_right, Nat.mod_eq_of_lt hz]
  | succ d ih =>
    intro k i w z c hw hd hi hk hz hc he
    obtain ⟨k, rfl⟩ : ∃ m, k = m + 1 := ⟨k - 1, by omega⟩
    rw [saturateref01_Add.j3_succ, bifd_pos (by omega), saturateref01_Bit_eq hx, saturateref01_Bit_eq hy, wrapu_of (n := i) (by omega)]; simp only [Option.bind_some]
    have hb1 := toNat_le (x.testBit i)
    have hb2 := toNat_le (y.testBit i)
    have hx1 := mod_succ x i
    have hy1 := mod_succ y i
    rw [bifd_neg (by omega), wrapi, wrapi_succ (by omega), ← Int.natCast_add, wrapu_of (by omega), ← Int.natCast_add, wrapu_of (by omega)]
    generalize (x.testBit i).toNat = b1 at *
    generalize (y.testBit i).toNat = b2 at *
    rw [show (2 : Int) = ((2 : Nat) : Int) from rfl, tmod_nat, tdiv_nat, wrapu_of (by omega), put_bit hz (by omega) (by omega)]
    have hp : 2 ^ (i + 1) = 2 * 2 ^ i := by rw [Nat.pow_succ, Nat.mul_comm]
    refine ih k (i + 1) w _ _ hw (by omega) (by omega) (by omega) ?_ (by omega) ?_
    · rw [hp]
      have : (b1 + b2 + c) % 2 * 2 ^ i ≤ 1 * 2 ^ i := Nat.mul_le_mul_right _ (by omega)
      omega
    · rw [hx1, hy1, hp]
      have e1 : (b1 + b2 + c) / 2 * (2 * 2 ^ i) = ((b1 + b2 + c) / 2 * 2) * 2 ^ i := by rw [Nat.mul_assoc]
      have e2 : (b1 + b2 + c) % 2 * 2 ^ i + ((b1 + b2 + c) / 2 * 2) * 2 ^ i = (b1 + b2 + c) * 2 ^ i := by rw [← Nat.add_mul]; congr 1; omega
      have e3 : (b1 + b2 + c) * 2 ^ i = b1 * 2 ^ i + b2 * 2 ^ i + c * 2 ^ i := by rw [Nat.add_mul, Nat.add_mul]
      rw [e1]; omega
theorem fuel_gt {n : Nat} (h : n ≤ 1000) : n < fuel0 + 1 := by unfold fuel0; omega
theorem saturateref01_Add_eq (a : Int) {x y : Nat} (hx : x < 18446744073709551616) (hy : y < 18446744073709551616) : saturateref01_Add.f a x y = some (vadd (W a) x y : Int) := by
  unfold saturateref01_Add.f saturateref01_Add.g; rw [saturateref01_W_eq]; simp only [Option.bind_some]
  have hw := W_le a
  exact saturateref01_Add_j3 (fuel0 + 1) hx hy (W a) (fuel0 + 1) 0 (W a) 0 0 (W_le a) (by omega) (by omega) (fuel_gt (by omega)) (by simp) (by omega) (by simp [Nat.mod_one])
theorem saturateref01_Neg_eq (a : Int) {x : Nat} (hx : x < 18446744073709551616) : saturateref01_Neg.f a x = some (vneg (W a) x : Int) := by
  unfold saturateref01_Neg.f; rw [saturateref01_Not_eq a hx]; simp only [Option.bind_some]
  rw [show (1 : Int) = ((1 : Nat) : Int) from rfl, saturateref01_Add_eq a (vnot_lt x (W_le a)) (by decide)]; simp only [Option.bind_some]
  have := Nat.mod_lt x (pw_pos (W a))
  unfold vadd vneg vnot
  rw [show 2 ^ W a - 1 - x % 2 ^ W a + 1 = 2 ^ W a - x % 2 ^ W a by omega]
theorem saturateref01_Sub_eq (a : Int) {x y : Nat} (hx : x < 18446744073709551616) (hy : y < 18446744073709551616) : saturateref01_Sub.f a x y = some (vsub (W a) x y : Int) := by
  unfold saturateref01_Sub.f; rw [saturateref01_Neg_eq a hy]; simp only [Option.bind_some]
  rw [saturateref01_Add_eq a hx (vneg_lt y (W_le a))]; simp only [Option.bind_some]
  unfold vadd vneg vsub; rw [Nat.add_mod_mod]
theorem saturateref01_shift_j3 (fu : Nat) (a : Int) {x : Nat} (hx : x < 18446744073709551616) (by_ : Int) (h1 : -64 ≤ by_) (h2 : by_ ≤ 64) (fill : Bool) (d : Nat) : ∀ (k i : Nat), W a - i = d → i ≤ W a → d < k →
    saturateref01_shift.j3 (fu + 1) k a x by_ (fill.toNat : Int) (bld (shf (W a) x by_ fill) i : Int) (W a) i = some (bld (shf (W a) x by_ fill) (W a) : Int) := by
  have hw := W_le a
  induction d with
  | zero =>
    intro k i hd hi hk
    obtain ⟨k, rfl⟩ : ∃ m, k = m + 1 := ⟨k - 1, by omega⟩
    obtain rfl : i = W a := by omega
    rw [saturateref01_shift.j3_succ, bifd_neg (by omega)]
  | succ d ih =>
    intro k i hd hi hk
    obtain ⟨k, rfl⟩ : ∃ m, k = m + 1 := ⟨k - 1, by omega⟩
    have hn := ih k (i + 1) (by omega) (by omega) (by omega)
    have hst := bld_step (shf (W a) x by_ fill) (i := i) (by omega)
    rw [saturateref01_shift.j3_succ, bifd_pos (by omega), saturateref01_W_eq, Option.bind_some]
    simp only [saturateref01_shift.p8_eq, wrapi]
    rw [wrapu_of (n := i) (by omega), wrapi_succ (by omega), wrapi_of (a := (i : Int) + by_) (by omega) (by omega)]
    by_cases hlt : (i : Int) + by_ < (W a : Int)
    · rw [bifd_pos hlt]
      by_cases h0 : 0 ≤ (i : Int) + by_
      · have e : (i : Int) + by_ = (((i : Int) + by_).toNat : Int) := by omega
        rw [e, saturateref01_Bit_eq hx, Option.bind_some, bifd_neg (by omega)]
        have hf : shf (W a) x by_ fill i = x.testBit ((i : Int) + by_).toNat := by unfold shf; rw [if_pos hlt, if_pos h0]
        rw [hf] at hst; rw [hst]; exact hn
      · rw [saturateref01_Bit_neg (by omega), Option.bind_some, bifd_neg (by omega)]
        have hf : shf (W a) x by_ fill i = false := by unfold shf; rw [if_pos hlt, if_neg h0]
        rw [hf] at hst; rw [show (0 : Int) = (false.toNat : Int) from rfl, hst]; exact hn
    · rw [bifd_neg hlt, bifd_neg (by omega)]
      have hf : shf (W a) x by_ fill i = fill := by unfold shf; rw [if_neg hlt]
      rw [hf] at hst; rw [hst]; exact hn
theorem saturateref01_shift_eq (a : Int) {x : Nat} (hx : x < 18446744073709551616) (by_ : Int) (h1 : -64 ≤ by_) (h2 : by_ ≤ 64) (fill : Bool) :
    saturateref01_shift.f a x by_ (fill.toNat : Int) = some (bld (shf (W a) x by_ fill) (W a) : Int) := by
  unfold saturateref01_shift.f saturateref01_shift.g; rw [saturateref01_W_eq]; simp only [Option.bind_some]
  have hw := W_le a
  exact saturateref01_shift_j3 fuel0 a hx by_ h1 h2 fill (W a) (fuel0 + 1) 0 (by omega) (by omega) (fuel_gt (by omega))
theorem saturateref01_by_eq (a : Int) {y : Nat} (hy : y < 18446744073709551616) : saturateref01_by.f a y = some ((min (y % 2 ^ W a) 64 : Nat) : Int) := by
  unfold saturateref01_by.f; rw [saturateref01_Cut_eq a hy]; simp only [Option.bind_some, wrapi]
  unfold vcut
  generalize y % 2 ^ W a = n
  congr 1
  unfold mn; split
  · rw [wrapi_of (by omega) (by omega)]; omega
  · rw [wrapi_of (by omega) (by omega)]; omega
theorem saturateref01_Shl_eq (a : Int) {x y : Nat} (hx : x < 18446744073709551616) (hy : y < 18446744073709551616) : saturateref01_Shl.f a x y = some (vshl (W a) x y : Int) := by
  unfold saturateref01_Shl.f; rw [saturateref01_by_eq a hy]; simp only [Option.bind_some, wrapi, Int.zero_sub]
  rw [wrapi_of (a := -_) (by omega) (by omega), show (0 : Int) = (false.toNat : Int) from rfl, saturateref01_shift_eq a hx _ (by omega) (by omega)]; simp only [Option.bind_some]
  rw [shf_shl (W_le a)]
theorem saturateref01_Lshr_eq (a : Int) {x y : Nat} (hx : x < 18446744073709551616) (hy : y < 18446744073709551616) : saturateref01_Lshr.f a x y = some (vlshr (W a) x y : Int) := by
  unfold saturateref01_Lshr.f; rw [saturateref01_by_eq a hy]; simp only [Option.bind_some]
  rw [show (0 : Int) = (false.toNat : Int) from rfl, saturateref01_shift_eq a hx _ (by omega) (by omega)]; simp only [Option.bind_some]
  rw [shf_lshr (W_le a)]
theorem saturateref01_Concat_j3 (fu : Nat) (w : Int) {x y : Nat} (hx : x < 18446744073709551616) (d : Nat) : ∀ (k i v : Nat), v ≤ 64 → v - i = d → i ≤ v → d < k →
    saturateref01_Concat.j3 (fu + 1) k w x (vconcat i (W w) x y : Int) v i = some (vconcat v (W w) x y : Int) := by
  have h1 := W_pos w
  have h2 := W_le w
  induction d with
  | zero =>
    intro k i v hw hd hi hk
    obtain ⟨k, rfl⟩ : ∃ m, k = m + 1 := ⟨k - 1, by omega⟩
    obtain rfl : i = v := by omega
    rw [saturateref01_Concat.j3_succ, bifd_neg (by omega)]
  | succ d ih =>
    intro k i v hw hd hi hk
    obtain ⟨k, rfl⟩ : ∃ m, k = m + 1 := ⟨k - 1, by omega⟩
    have hn := ih k (i + 1) v hw (by omega) (by omega) (by omega)
    rw [saturateref01_Concat.j3_succ, bifd_pos (by omega), saturateref01_W_eq, Option.bind_some]
    simp only [saturateref01_Concat.p7_eq, wrapi]
    rw [wrapi_of (a := (i : Int) + (W w : Int)) (by omega) (by omega), wrapi_succ (by omega)]
    by_cases hlt : i + W w < 64
    · rw [bifd_pos (by omega), saturateref01_Bit_eq hx, Option.bind_some, Option.bind_some, wrapi_of (a := (i : Int) + (W w : Int)) (by omega) (by omega), ← Int.natCast_add, wrapu_of (by omega), bifd_neg (by omega), concat_step h2 hlt]; exact hn
    · rw [bifd_neg (by omega)]
      rw [concat_over (i := i) (w := W w) (a := x) (b := y) (by omega)] at hn; exact hn
theorem saturateref01_Concat_eq (v w : Int) {x y : Nat} (hx : x < 18446744073709551616) (hy : y < 18446744073709551616) : saturateref01_Concat.f v w x y = some (vconcat (W v) (W w) x y : Int) := by
  unfold saturateref01_Concat.f saturateref01_Concat.g; rw [saturateref01_Cut_eq w hy, saturateref01_W_eq]; simp only [Option.bind_some]
  have hw := W_le v
  have := saturateref01_Concat_j3 fuel0 w (y := y) hx (W v) (fuel0 + 1) 0 (W v) (W_le v) (by omega) (by omega) (fuel_gt (by omega))
  rw [concat_zero, show ((0 : Nat) : Int) = 0 from rfl] at this; exact this
theorem saturateref01_Sext_j3 (fu : Nat) (v : Int) {x : Nat} (hx : x < 18446744073709551616) (d : Nat) : ∀ (k i w : Nat), w ≤ 64 → w - i = d → i ≤ w → d < k →
    saturateref01_Sext.j3 fu k v x (bld (fun j => x.testBit (min j (W v - 1))) i : Int) w i = some (bld (fun j => x.testBit (min j (W v - 1))) w : Int) := by
  have h1 := W_pos v
  have h2 := W_le v
  induction d with
  | zero =>
    intro k i w hw hd hi hk
    obtain ⟨k, rfl⟩ : ∃ m, k = m + 1 := ⟨k - 1, by omega⟩
    obtain rfl : i = w := by omega
    rw [saturateref01_Sext.j3_succ, bifd_neg (by omega)]
  | succ d ih =>
    intro k i w hw hd hi hk
    obtain ⟨k, rfl⟩ : ∃ m, k = m + 1 := ⟨k - 1, by omega⟩
    have e : mn (i : Int) ((W v - 1 : Nat) : Int) = ((min i (W v - 1) : Nat) : Int) := by unfold mn; split <;> omega
    rw [saturateref01_Sext.j3_succ, bifd_pos (by omega), saturateref01_W_eq]; simp only [Option.bind_some, wrapi]
    rw [wrapi_pred h1 h2, e, saturateref01_Bit_eq hx, wrapu_of (by omega)]; simp only [Option.bind_some]
    rw [bifd_neg (by omega), wrapi_succ (by omega), bld_step (fun j => x.testBit (min j (W v - 1))) (by omega)]
    exact ih k (i + 1) w hw (by omega) (by omega) (by omega)
theorem saturateref01_Sext_eq (v w : Int) {x : Nat} (hx : x < 18446744073709551616) : saturateref01_Sext.f v w x = some (vsext (W v) (W w) x : Int) := by
  unfold saturateref01_Sext.f saturateref01_Sext.g; rw [saturateref01_W_eq]; simp only [Option.bind_some]
  have hw := W_le w
  exact saturateref01_Sext_j3 (fuel0 + 1) v hx (W w) (fuel0 + 1) 0 (W w) (W_le w) (by omega) (by omega) (fuel_gt (by omega))
end Go.Proofs.YtcihbcffokjgjaaGreat.Fn
namespace Go.Proofs.YtcihbcffokjgjaaGreat.Fn
open Go Go.RowKit Go.Proofs.YtcihbcffokjgjaaGreat.Ev Go.Proofs.YtcihbcffokjgjaaGreat.Bv
set_option linter.unusedVariables false
set_option linter.unusedSimpArgs false
set_option maxRecDepth 100000
open Classical in
noncomputable def chkS (op w : Int) (x n m : Nat) (g : Nat → Int) : Int × Int :=
  if m ≠ n then (0, 4) else if (widthS op w x n g).2 ≠ 0 then (0, (widthS op w x n g).2) else if op = 24 ∨ op = 25 ∨ op = 26 then (0, 4)
  else if (widthS op w x n g).1 = 0 ∨ ∃ j, j < n ∧ g j = 0 then (0, 3) else ((widthS op w x n g).1, 0)
theorem widthS_small {op w : Int} {x n : Nat} {g : Nat → Int} (h : (widthS op w x n g).2 = 0) : 1 ≤ op ∧ op ≤ 26 ∧ (n : Int) = arity op ∧ n ≤ 3 ∧ allIn n g ∧ widthS op w x n g = widthT op w x g := by
  unfold widthS at h ⊢
  by_cases h1 : op < 1 ∨ 26 < op ∨ (n : Int) ≠ arity op
  · rw [if_pos h1] at h; exact absurd h (by decide)
  · rw [if_neg h1] at h ⊢
    by_cases h2 : allIn n g
    · have := arity_in (op := op) (by omega) (by omega)
      exact ⟨by omega, by omega, by omega, by omega, h2, if_pos h2⟩
    · rw [if_neg h2] at h; exact absurd h (by decide)
theorem chkS_ok {op w : Int} {x n m : Nat} {g : Nat → Int} (h : (chkS op w x n m g).2 = 0) :
    1 ≤ op ∧ op ≤ 23 ∧ m = n ∧ (n : Int) = arity op ∧ (∀ i, i < n → 1 ≤ g i ∧ g i ≤ 64) ∧ chkS op w x n m g = widthT op w x g ∧ (widthT op w x g).2 = 0 ∧ (widthT op w x g).1 ≠ 0 := by
  unfold chkS at h ⊢
  by_cases h1 : m ≠ n
  · rw [if_pos h1] at h; exact absurd h (by decide)
  · rw [if_neg h1] at h ⊢
    by_cases h2 : (widthS op w x n g).2 ≠ 0
    · rw [if_pos h2] at h; exact absurd h h2
    · rw [if_neg h2] at h ⊢
      by_cases h3 : op = 24 ∨ op = 25 ∨ op = 26
      · rw [if_pos h3] at h; exact absurd h (by decide)
      · rw [if_neg h3] at h ⊢
        obtain ⟨a1, a2, a3, a4, a5, a6⟩ := widthS_small (Decidable.not_not.1 h2)
        by_cases h4 : (widthS op w x n g).1 = 0 ∨ ∃ j, j < n ∧ g j = 0
        · rw [if_pos h4] at h; exact absurd h (by decide)
        · rw [if_neg h4] at h ⊢
          rw [a6] at h2 h4 ⊢
          refine ⟨a1, by omega, by omega, a3, fun i hi => ?_, ?_, Decidable.not_not.1 h2, fun e => h4 (.inl e)⟩
          · have := ins_iff.1 (a5 i hi)
            have : g i ≠ 0 := fun e => h4 (.inr ⟨i, hi, e⟩)
            omega
          · exact Prod.ext rfl (Decidable.not_not.1 h2).symm
theorem widthT_ok {op w : Int} {x n : Nat} {g : Nat → Int} (h1 : 1 ≤ op) (h2 : op ≤ 23) (ha : (n : Int) = arity op) (hg : ∀ i, i < n → 1 ≤ g i ∧ g i ≤ 64) (he : (widthT op w x g).2 = 0) (hr : (widthT op w x g).1 ≠ 0) :
    1 ≤ (widthT op w x g).1 ∧ (widthT op w x g).1 ≤ 64 ∧
    (((op = 1 ∨ op = 2) ∧ n = 0) ∨ ((op = 3 ∨ op = 4) ∧ n = 1 ∧ (widthT op w x g).1 = g 0) ∨
      ((op = 21 ∨ op = 22 ∨ op = 23) ∧ n = 1 ∧ (op = 21 → (x : Int) + (widthT op w x g).1 ≤ g 0) ∧ (op = 22 ∨ op = 23 → g 0 ≤ (widthT op w x g).1)) ∨
      (op = 19 ∧ n = 3 ∧ g 0 = 1 ∧ g 1 = (widthT op w x g).1 ∧ g 2 = (widthT op w x g).1) ∨ (op = 20 ∧ n = 2 ∧ (widthT op w x g).1 = g 0 + g 1) ∨
      ((op = 16 ∨ op = 17 ∨ op = 18) ∧ n = 2 ∧ g 1 = g 0 ∧ (widthT op w x g).1 = 1) ∨ ((5 ≤ op ∧ op ≤ 15) ∧ n = 2 ∧ g 1 = g 0 ∧ (widthT op w x g).1 = g 0)) := by
  rcases widthT_cases h1 (by omega) n ha with ⟨ho, hn⟩ | ⟨ho, hn⟩ | ⟨ho, hn⟩ | ⟨ho, hn⟩ | ⟨ho, hn⟩ | ⟨ho, hn⟩ | ⟨ho, hn⟩
  · have e : widthT op w x g = leafS op w x := if_pos ho
    rw [e] at he hr ⊢
    unfold leafS at he hr ⊢
    by_cases c : ¬ (0 ≤ w ∧ w ≤ 64) ∨ (op = 2 ∧ 0 < w ∧ 2 ^ w.toNat ≤ x)
    · rw [if_pos c] at he; exact absurd he (by decide)
    · rw [if_neg c] at he hr ⊢
      simp only at hr ⊢
      have c' : 0 ≤ w ∧ w ≤ 64 := Decidable.not_not.1 fun c2 => c (.inl c2)
      exact ⟨by omega, by omega, .inl ⟨by omega, by omega⟩⟩
  · have := hg 0 (by omega)
    have e : widthT op w x g = (g 0, 0) := by
      rcases ho with rfl | rfl | rfl <;> rfl
    rw [e] at he hr ⊢
    exact ⟨by simp only; omega, by simp only; omega, .inr (.inl ⟨by omega, by omega, rfl⟩)⟩
  · have := hg 0 (by omega)
    have e : widthT op w x g = partS op w x (g 0) := by
      rcases ho with rfl | rfl | rfl <;> rfl
    rw [e] at he hr ⊢
    unfold partS at he hr ⊢
    by_cases c : w < 1 ∨ w > 64 ∨ g 0 < 1
    · rw [if_pos c] at he; exact absurd he (by decide)
    · rw [if_neg c] at he hr ⊢
      rcases ho with rfl | rfl | rfl
      · rw [if_pos rfl] at he hr ⊢
        by_cases d : w > g 0 ∨ (x : Int) > g 0 - w
        · rw [if_pos d] at he; exact absurd he (by decide)
        · rw [if_neg d] at he hr ⊢
          exact ⟨by simp only; omega, by simp only; omega, .inr (.inr (.inl ⟨by decide, by omega, fun _ => by simp only; omega, fun h => by omega⟩))⟩
      · rw [if_neg (by decide)] at he hr ⊢
        by_cases d : w < g 0
        · rw [if_pos d] at he; exact absurd he (by decide)
        · rw [if_neg d] at he hr ⊢
          exact ⟨by simp only; omega, by simp only; omega, .inr (.inr (.inl ⟨by decide, by omega, fun h => by omega, fun h => by simp only; omega⟩))⟩
      · rw [if_neg (by decide)] at he hr ⊢
        by_cases d : w < g 0
        · rw [if_pos d] at he; exact absurd he (by decide)
        · rw [if_neg d] at he hr ⊢
          exact ⟨by simp only; omega, by simp only; omega, .inr (.inr (.inl ⟨by decide, by omega, fun h => by omega, fun h => by simp only; omega⟩))⟩
  · subst ho
    have := hg 1 (by omega)
    have e : widthT 19 w x g = if g 0 = 1 ∧ g 1 = g 2 then (g 1, 0) else (0, 3) := rfl
    rw [e] at he hr ⊢
    by_cases c : g 0 = 1 ∧ g 1 = g 2
    · rw [if_pos c] at he hr ⊢
      exact ⟨by simp only; omega, by simp only; omega, .inr (.inr (.inr (.inl ⟨rfl, by omega, c.1, rfl, c.2.symm⟩)))⟩
    · rw [if_neg c] at he; exact absurd he (by decide)
  · subst ho
    have := hg 0 (by omega)
    have := hg 1 (by omega)
    have e : widthT 20 w x g = if 1 ≤ g 0 ∧ 1 ≤ g 1 ∧ g 0 + g 1 ≤ 64 then (g 0 + g 1, 0) else (0, 3) := rfl
    rw [e] at he hr ⊢
    by_cases c : 1 ≤ g 0 ∧ 1 ≤ g 1 ∧ g 0 + g 1 ≤ 64
    · rw [if_pos c] at he hr ⊢
      exact ⟨by simp only; omega, by simp only; omega, .inr (.inr (.inr (.inr (.inl ⟨rfl, by omega, rfl⟩))))⟩
    · rw [if_neg c] at he; exact absurd he (by decide)
  · have e : widthT op w x g = if g 0 = g 1 then (1, 0) else (0, 3) := by
      rcases ho with rfl | rfl | rfl <;> rfl
    rw [e] at he hr ⊢
    by_cases c : g 0 = g 1
    · rw [if_pos c] at he hr ⊢
      exact ⟨by decide, by decide, .inr (.inr (.inr (.inr (.inr (.inl ⟨ho, by omega, c.symm, rfl⟩)))))⟩
    · rw [if_neg c] at he; exact absurd he (by decide)
  · have := hg 0 (by omega)
    have e : widthT op w x g = if g 0 = g 1 then (g 0, 0) else (0, 3) := by
      rcases ho with rfl | rfl | rfl | rfl | rfl | rfl | rfl | rfl | rfl | rfl | rfl <;> rfl
    rw [e] at he hr ⊢
    by_cases c : g 0 = g 1
    · rw [if_pos c] at he hr ⊢
      exact ⟨by simp only; omega, by simp only; omega, .inr (.inr (.inr (.inr (.inr (.inr ⟨by omega, by omega, c.symm, rfl⟩)))))⟩
    · rw [if_neg c] at he; exact absurd he (by decide)
theorem nat_of {a : Int} (h1 : 1 ≤ a) (h2 : a ≤ 64) : ∃ v : Nat, a = (v : Int) ∧ 1 ≤ v ∧ v ≤ 64 := ⟨a.toNat, by omega, by omega, by omega⟩
end Go.Proofs.YtcihbcffokjgjaaGreat.Fn
namespace Go.Proofs.YtcihbcffokjgjaaGreat.Fn
open Go Go.RowKit Go.Proofs.YtcihbcffokjgjaaGreat.Ev Go.Proofs.YtcihbcffokjgjaaGreat.Bv
set_option linter.unusedVariables false
set_option linter.unusedSimpArgs false
set_option maxRecDepth 100000
open Classical in
theorem saturateref12_Refused_j9 (fu : Nat) {r : Int} {n : Nat} {g : Nat → Int} (hl : n ≤ 1000) (d : Nat) : ∀ k i, i + d = n → d < k →
    saturateref12_Refused.j9 fu k n r (i : Int) n g = some (if r = 0 ∨ ∃ j, i ≤ j ∧ j < n ∧ g j = 0 then (0, 3) else (r, 0)) := by
  induction d with
  | zero =>
    intro k i hi hk
    obtain ⟨k, rfl⟩ : ∃ m, k = m + 1 := ⟨k - 1, by omega⟩
    obtain rfl : i = n := by omega
    have : ¬ ∃ j, i ≤ j ∧ j < i ∧ g j = 0 := by rintro ⟨j, h1, h2, _⟩; omega
    rw [saturateref12_Refused.j9_succ, bifd_neg (by omega)]
    by_cases h : r = 0
    · simp [this, h]
    · rw [show (r == 0) = false by simpa using h]; simp [this, h]
  | succ d ih =>
    intro k i hi hk
    obtain ⟨k, rfl⟩ : ∃ m, k = m + 1 := ⟨k - 1, by omega⟩
    rw [saturateref12_Refused.j9_succ, bifd_pos (by omega), bifd_pos (by omega), bifd_pos (by omega)]
    rw [wrapi, wrapi_succ (by omega), Int.toNat_natCast]
    have hex : (∃ j, i ≤ j ∧ j < n ∧ g j = 0) ↔ g i = 0 ∨ ∃ j, i + 1 ≤ j ∧ j < n ∧ g j = 0 := by
      constructor
      · rintro ⟨j, h1, h2, h3⟩
        rcases Nat.lt_or_ge i j with h | h
        · exact .inr ⟨j, h, h2, h3⟩
        · obtain rfl : j = i := by omega
          exact .inl h3
      · rintro (h | ⟨j, h1, h2, h3⟩)
        · exact ⟨i, Nat.le_refl _, by omega, h⟩
        · exact ⟨j, by omega, h2, h3⟩
    rw [hex]
    by_cases h : g i = 0
    · simp [h]
    · rw [show (g i == 0) = false by simpa using h, cond_false, ih k (i + 1) (by omega) (by omega)]; simp [h]
theorem saturateref12_Refused_eq {op w : Int} {x : Nat} (hx : x < 18446744073709551616) (n m : Nat) (g : Nat → Int) : saturateref12_Refused.f op w x (n, g) (m : Int) = some (chkS op w x n m g) := by
  unfold saturateref12_Refused.f saturateref12_Refused.g chkS
  simp only [saturateref04_Width_eq hx, saturateref04_Pattern_eq, Option.bind_some]
  by_cases h1 : m ≠ n
  · rw [if_pos h1, show ((m : Int) != (n : Int)) = true by rw [bne_iff_ne]; omega]; rfl
  · rw [if_neg h1, show ((m : Int) != (n : Int)) = false by rw [bne_eq_false_iff_eq]; omega, cond_false]
    by_cases h2 : (widthS op w x n g).2 ≠ 0
    · rw [if_pos h2, show ((widthS op w x n g).2 != 0) = true by rw [bne_iff_ne]; exact h2]; rfl
    · rw [if_neg h2, show ((widthS op w x n g).2 != 0) = false by rw [bne_eq_false_iff_eq]; exact Decidable.not_not.1 h2, cond_false]
      by_cases h3 : op = 24 ∨ op = 25 ∨ op = 26
      · rw [if_pos h3, bifd_pos h3]
      · rw [if_neg h3, bifd_neg h3]
        have hs := widthS_small (Decidable.not_not.1 h2)
        have hn : n ≤ 1000 := by omega
        have := saturateref12_Refused_j9 (fuel0 + 1) (r := (widthS op w x n g).1) (g := g) hn n (fuel0 + 1) 0 (by omega) (fuel_gt hn)
        rw [show ((0 : Nat) : Int) = 0 from rfl] at this
        rw [this]; simp
open Classical in
theorem known_refused_j9 (fu : Nat) {r : Int} {n : Nat} {g : Nat → Int} (hl : n ≤ 1000) (d : Nat) : ∀ k i, i + d = n → d < k →
    known_refused.j9 fu k r n (n : Int) (i : Int) n g = some (if ∃ j, i ≤ j ∧ j < n ∧ g j = 0 then (0, 3) else (r, 0)) := by
  induction d with
  | zero =>
    intro k i hi hk
    obtain ⟨k, rfl⟩ : ∃ m, k = m + 1 := ⟨k - 1, by omega⟩
    obtain rfl : i = n := by omega
    have : ¬ ∃ j, i ≤ j ∧ j < i ∧ g j = 0 := by rintro ⟨j, h1, h2, _⟩; omega
    rw [known_refused.j9_succ, bifd_neg (by omega), if_neg this]
  | succ d ih =>
    intro k i hi hk
    obtain ⟨k, rfl⟩ : ∃ m, k = m + 1 := ⟨k - 1, by omega⟩
    rw [known_refused.j9_succ, bifd_pos (by omega), bifd_pos (by omega), bifd_pos (by omega)]
    rw [wrapi, wrapi_succ (by omega), Int.toNat_natCast]
    have hex : (∃ j, i ≤ j ∧ j < n ∧ g j = 0) ↔ g i = 0 ∨ ∃ j, i + 1 ≤ j ∧ j < n ∧ g j = 0 := by
      constructor
      · rintro ⟨j, h1, h2, h3⟩
        rcases Nat.lt_or_ge i j with h | h
        · exact .inr ⟨j, h, h2, h3⟩
        · obtain rfl : j = i := by omega
          exact .inl h3
      · rintro (h | ⟨j, h1, h2, h3⟩)
        · exact ⟨i, Nat.le_refl _, by omega, h⟩
        · exact ⟨j, by omega, h2, h3⟩
    rw [hex]
    by_cases h : g i = 0
    · simp [h]
    · rw [show (g i == 0) = false by simpa using h, cond_false, ih k (i + 1) (by omega) (by omega)]; simp [h]
open Classical in
theorem known_refused_eq {op w : Int} {x : Nat} (hx : x < 18446744073709551616) (n m : Nat) (g : Nat → Int) : known_refused.f op w x (n, g) (m : Int) = some (chkS op w x n m g) := by
  unfold known_refused.f known_refused.g chkS
  simp only [opinfo_Width_eq hx, opinfo_Pattern_eq, Option.bind_some]
  by_cases h1 : m ≠ n
  · rw [if_pos h1, show ((m : Int) != (n : Int)) = true by rw [bne_iff_ne]; omega]; rfl
  · rw [if_neg h1, show ((m : Int) != (n : Int)) = false by rw [bne_eq_false_iff_eq]; omega, cond_false]
    by_cases h2 : (widthS op w x n g).2 ≠ 0
    · rw [if_pos h2, show ((widthS op w x n g).2 != 0) = true by rw [bne_iff_ne]; exact h2]; rfl
    · rw [if_neg h2, show ((widthS op w x n g).2 != 0) = false by rw [bne_eq_false_iff_eq]; exact Decidable.not_not.1 h2, cond_false]
      by_cases h3 : op = 24 ∨ op = 25 ∨ op = 26
      · rw [if_pos h3, bifd_pos h3]
      · rw [if_neg h3, bifd_neg h3]
        have hs := widthS_small (Decidable.not_not.1 h2)
        have hn : n ≤ 3 := by omega
        have hb : Nat.ble ((1 + n) * 8) 140737488355328 = true := by rw [Nat.ble_eq]; omega
        rw [hb, cond_true]
        have := known_refused_j9 (fuel0 + 1) (r := (widthS op w x n g).1) (n := 1 + n) (g := cat 1 (fun i => [(widthS op w x n g).1].getD i 0) g) (by omega) (1 + n) (fuel0 + 1) 0 (by omega) (fuel_gt (by omega))
        rw [show ((0 : Nat) : Int) = 0 from rfl] at this
        rw [show ((1 : Int) + (n : Int)) = ((1 + n : Nat) : Int) by omega, this]
        congr 1
        have hex : (∃ j, 0 ≤ j ∧ j < 1 + n ∧ cat 1 (fun i => [(widthS op w x n g).1].getD i 0) g j = 0) ↔ ((widthS op w x n g).1 = 0 ∨ ∃ j, j < n ∧ g j = 0) := by
          constructor
          · rintro ⟨j, _, h1, h2⟩
            cases j with
            | zero => exact .inl h2
            | succ j =>
              refine .inr ⟨j, by omega, ?_⟩
              have e : cat 1 (fun i => [(widthS op w x n g).1].getD i 0) g (j + 1) = g j := by
                unfold cat; rw [show (j + 1).blt 1 = false from rfl, cond_false]; congr 1
              rw [e] at h2; exact h2
          · rintro (h | ⟨j, h1, h2⟩)
            · exact ⟨0, by omega, by omega, h⟩
            · refine ⟨j + 1, by omega, by omega, ?_⟩
              have e : cat 1 (fun i => [(widthS op w x n g).1].getD i 0) g (j + 1) = g j := by
                unfold cat; rw [show (j + 1).blt 1 = false from rfl, cond_false]; congr 1
              rw [e]; exact h2
        simp only [hex]
end Go.Proofs.YtcihbcffokjgjaaGreat.Fn
namespace Go.Proofs.YtcihbcffokjgjaaGreat.Fn
open Go Go.RowKit Go.Proofs.YtcihbcffokjgjaaGreat.Ev Go.Proofs
set_option linter.unusedVariables false
set_option maxRecDepth 100000
end Go.Proofs.YtcihbcffokjgjaaGreat.Fn
