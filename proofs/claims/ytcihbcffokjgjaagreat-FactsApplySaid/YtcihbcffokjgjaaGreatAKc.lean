/- Operators with one operand, shifts, products and the rest on elements: the program's and the reference's pieces, each to one specification. -/
import Derived.Test.YtcihbcffokjgjaaGreatAF10
import Derived.Test.YtcihbcffokjgjaaGreatAF2
import Derived.Test.YtcihbcffokjgjaaGreatAF9
import Derived.Test.YtcihbcffokjgjaaGreatAKb
import Derived.Test.YtcihbcffokjgjaaGreatACh
import Derived.Test.YtcihbcffokjgjaaGreatATd
import Derived.Test.YtcihbcffokjgjaaGreatATe
namespace Go.Proofs.YtcihbcffokjgjaaGreat.Fn
open Go Go.RowKit Go.Proofs.YtcihbcffokjgjaaGreat.Ev Go.Proofs.YtcihbcffokjgjaaGreat.Bv
set_option linter.unusedVariables false
set_option linter.unusedSimpArgs false

/-- An element of width w. -/
structure El (w : Nat) (k : Nat × Nat) : Prop where
  l1 : k.1 < U64
  l2 : k.2 < U64
  ok : kok (vmask w) k.1 k.2
theorem el_kof {w z o : Nat} (hz : z < U64) (ho : o < U64) : El w (kof (vmask w) z o) := ⟨(kof_lt hz ho).1, (kof_lt hz ho).2, kof_kok _ _ _⟩
theorem El.kof {w : Nat} {k : Nat × Nat} (h : El w k) : kof (vmask w) k.1 k.2 = k := kof_of h.ok
theorem El.and {w : Nat} {k : Nat × Nat} (h : El w k) : k.1 &&& k.2 = 0 := h.ok.1
theorem El.m1 {w : Nat} {k : Nat × Nat} (h : El w k) (hw : w ≤ 64) : k.1 ≤ vmask w := (kok_le hw h.l1 h.l2 h.ok).1
theorem El.m2 {w : Nat} {k : Nat × Nat} (h : El w k) (hw : w ≤ 64) : k.2 ≤ vmask w := (kok_le hw h.l1 h.l2 h.ok).2
theorem El.b1 {w : Nat} {k : Nat × Nat} (h : El w k) (hw : w ≤ 64) {i : Nat} (hi : w ≤ i) : k.1.testBit i = false := testBit_ge (lt_of_le_mask (h.m1 hw)) hi
theorem El.b2 {w : Nat} {k : Nat × Nat} (h : El w k) (hw : w ≤ 64) {i : Nat} (hi : w ≤ i) : k.2.testBit i = false := testBit_ge (lt_of_le_mask (h.m2 hw)) hi
theorem El.dis {w : Nat} {k : Nat × Nat} (h : El w k) (i : Nat) : k.1.testBit i = true → k.2.testBit i = false := by
  have := bit_of h.and i
  rw [Nat.testBit_and, Nat.zero_testBit] at this
  revert this; cases k.1.testBit i <;> cases k.2.testBit i <;> decide
theorem El.of_bits {w : Nat} (hw : w ≤ 64) {f g : Nat → Bool} (h : ∀ i, i < w → f i = true → g i = false) : El w (bld f w, bld g w) := by
  refine ⟨bld_lt64 _ hw, bld_lt64 _ hw, ?_⟩
  rw [kok_iff hw (bld_lt64 _ hw) (bld_lt64 _ hw)]
  refine ⟨bits_ext fun i => ?_, le_mask_of (bld_lt _ _), le_mask_of (bld_lt _ _)⟩
  rw [Nat.testBit_and, testBit_bld, testBit_bld, Nat.zero_testBit]
  by_cases hi : i < w
  · have := h i hi
    rw [decide_eq_true hi]; revert this; cases f i <;> cases g i <;> decide
  · rw [decide_eq_false hi]; rfl
theorem el_cst {w : Nat} (h1 : 1 ≤ w) (hw : w ≤ 64) (x : Nat) : El w (kcst w x) := by
  have := kcst_ok (w : Int) x
  rw [MK, W_of h1 hw] at this
  exact ⟨(kcst_lt w x hw).1, (kcst_lt w x hw).2, this⟩
theorem el_sum {w : Nat} (hw : w ≤ 64) (c : Nat) (a b : Nat × Nat) : El w (ksum w c a b) := by
  refine El.of_bits hw fun i _ => ?_
  unfold sumZ sumO
  cases opn c a.2 b.2 (vnot 64 a.1) (vnot 64 b.1) i <;> cases sbit c a.2 b.2 i <;> decide
theorem bit_pair {k : Nat × Nat} (i : Nat) (f g : Bool) (hf : k.1.testBit i = f) (hg : k.2.testBit i = g) : st (k.2.testBit i) (!k.1.testBit i) = st g (!f) := by rw [hf, hg]

/-! ### one operand -/
def uF (op : Int) (x v : Nat) (k : Nat × Nat) (i : Nat) : Bool := if op = 21 then k.1.testBit (i + x) else if i < v then k.1.testBit i else if op = 23 then k.1.testBit (v - 1) else true
def uG (op : Int) (x v : Nat) (k : Nat × Nat) (i : Nat) : Bool := if op = 21 then k.2.testBit (i + x) else if i < v then k.2.testBit i else if op = 23 then k.2.testBit (v - 1) else false
def kunaS (op : Int) (r x v : Nat) (k : Nat × Nat) : Nat × Nat :=
  if op = 3 then (k.2, k.1) else if op = 4 then ksum v 1 (kcst v 0) (k.2, k.1) else (bld (uF op x v k) r, bld (uG op x v k) r)
theorem ref_unary_j8 (fu : Nat) (op : Int) {r x v : Nat} {k : Nat × Nat} (hk : El v k) (v1 : 1 ≤ v) (v2 : v ≤ 64) (r2 : r ≤ 64) (ho : op = 21 ∨ op = 22 ∨ op = 23) (hx : op = 21 → x + r ≤ v) (hx2 : x < U64) (p q : Int) (d : Nat) :
    ∀ (n i : Nat), r - i = d → i ≤ r → d < n →
    saturateref12_unary.j8 (fu + 1) n op r x v i k.1 k.2 p q (bld (uF op x v k) i : Int) (bld (uG op x v k) i : Int) = some ((bld (uF op x v k) r : Int), (bld (uG op x v k) r : Int)) := by
  induction d with
  | zero =>
    intro n i hd hi hn
    obtain ⟨n, rfl⟩ : ∃ m, n = m + 1 := ⟨n - 1, by omega⟩
    obtain rfl : i = r := by omega
    rw [saturateref12_unary.j8_succ, bifd_neg (by omega)]
  | succ d ih =>
    intro n i hd hi hn
    obtain ⟨n, rfl⟩ : ∃ m, n = m + 1 := ⟨n - 1, by omega⟩
    have hw := ref_with (uF op x v k) (uG op x v k) (i := i) (by omega) (by
      have h1 := hk.dis (i + x)
      have h2 := hk.dis i
      have h3 := hk.dis (v - 1)
      unfold uF uG
      split
      · exact h1
      · split
        · exact h2
        · split
          · exact h3
          · intro _; rfl)
    have hn' := ih n (i + 1) (by omega) (by omega) (by omega)
    have step : ∀ s, s = st (uG op x v k i) (!uF op x v k i) → (saturateref12_with.f ((bld (uF op x v k) i : Int), (bld (uG op x v k) i : Int)) i s).bind (fun r6 => saturateref12_unary.j8 (fu + 1) n op r x v (IntKind.i64.wrap ((i : Int) + 1)) k.1 k.2 p q r6.1 r6.2) = some ((bld (uF op x v k) r : Int), (bld (uG op x v k) r : Int)) := by
      intro s hs
      rw [hs, hw, Option.bind_some, wrapi, wrapi_succ (by omega)]; exact hn'
    rw [saturateref12_unary.j8_succ, bifd_pos (by omega)]
    simp only [saturateref12_unary.p17_eq]
    rcases ho with rfl | rfl | rfl
    · have := hx rfl
      rw [show ((21 : Int) == 21) = true from rfl, cond_true, wrapi, wrapi, wrapi_of (a := (x : Int)) (by omega) (by omega), wrapi_of (by omega) (by omega), show (i : Int) + (x : Int) = ((i + x : Nat) : Int) by omega, ref_bit hk.l1 hk.l2 (by omega), Option.bind_some]
      exact step _ (bit_pair _ _ _ rfl rfl)
    · rw [show ((22 : Int) == 21) = false from rfl, cond_false]
      by_cases h : i < v
      · rw [bifd_pos (by omega), ref_bit hk.l1 hk.l2 (by omega), Option.bind_some]
        refine step _ (bit_pair _ _ _ ?_ ?_)
        · unfold uF; rw [if_neg (by decide), if_pos h]
        · unfold uG; rw [if_neg (by decide), if_pos h]
      · rw [bifd_neg (by omega), show ((22 : Int) == 23) = false from rfl, cond_false]
        refine step _ ?_
        unfold uF uG; rw [if_neg (by decide), if_neg h, if_neg (by decide), if_neg (by decide), if_neg h, if_neg (by decide)]; rfl
    · rw [show ((23 : Int) == 21) = false from rfl, cond_false]
      by_cases h : i < v
      · rw [bifd_pos (by omega), ref_bit hk.l1 hk.l2 (by omega), Option.bind_some]
        refine step _ (bit_pair _ _ _ ?_ ?_)
        · unfold uF; rw [if_neg (by decide), if_pos h]
        · unfold uG; rw [if_neg (by decide), if_pos h]
      · rw [bifd_neg (by omega), show ((23 : Int) == 23) = true from rfl, cond_true, wrapi, wrapi_pred v1 v2, ref_bit hk.l1 hk.l2 (by omega), Option.bind_some]
        refine step _ (bit_pair _ _ _ ?_ ?_)
        · unfold uF; rw [if_neg (by decide), if_neg h, if_pos rfl]
        · unfold uG; rw [if_neg (by decide), if_neg h, if_pos rfl]
theorem ref_unary {op : Int} {r x v : Nat} {k : Nat × Nat} (hk : El v k) (v1 : 1 ≤ v) (v2 : v ≤ 64) (r2 : r ≤ 64) (ho : op = 3 ∨ op = 4 ∨ op = 21 ∨ op = 22 ∨ op = 23) (hx : op = 21 → x + r ≤ v) (hx2 : x < U64) :
    saturateref12_unary.f op r x v ((k.1 : Int), (k.2 : Int)) = some (((kunaS op r x v k).1 : Int), ((kunaS op r x v k).2 : Int)) := by
  unfold saturateref12_unary.f saturateref12_unary.g saturateref12_Top.f saturateref12_Not.f
  by_cases h3 : op = 3
  · subst h3; rfl
  · rw [show (op == 3) = false by rw [beq_eq_false_iff_ne]; exact h3, cond_false]
    by_cases h4 : op = 4
    · subst h4
      rw [show ((4 : Int) == 4) = true from rfl, cond_true]
      have e := saturateref12_Const_eq (v : Int) (x := 0) (by decide)
      have hc := el_cst v1 v2 0
      rw [W_of v1 v2] at e
      rw [show (0 : Int) = ((0 : Nat) : Int) from rfl, e, Option.bind_some]
      have := saturateref12_Sub_eq (v : Int) hc.l1 hc.l2 hk.l1 hk.l2
      rw [MK, W_of v1 v2, hc.kof, hk.kof] at this
      simp only at this ⊢
      rw [this]; rfl
    · rw [show (op == 4) = false by rw [beq_eq_false_iff_ne]; exact h4, cond_false, Option.bind_some]
      have := ref_unary_j8 fuel0 op (r := r) (x := x) hk v1 v2 r2 (by omega) hx hx2 0 0 r (fuel0 + 1) 0 rfl (by omega) (fuelg (by omega))
      unfold kunaS
      rw [if_neg h3, if_neg h4]
      exact this
theorem hi_bits {r v : Nat} (v2 : v ≤ 64) (r2 : r ≤ 64) (i : Nat) : (vmask r &&& (18446744073709551615 - vmask v)).testBit i = (decide (i < r) && !decide (i < v)) := by
  rw [Nat.testBit_and, testBit_mask, testBit_comp (vmask_lt v2), testBit_mask]
  by_cases h : i < r
  · rw [decide_eq_true h, decide_eq_true (show i < 64 by omega)]; simp
  · rw [decide_eq_false h]; rfl
theorem and_sign {v a : Nat} (v1 : 1 ≤ v) (v2 : v ≤ 64) (ha : a < U64) : (Go.bits .and .u64 (a : Int) (shl .u64 1 (IntKind.i64.wrap ((v : Int) - 1))) != 0) = a.testBit (v - 1) := by
  have h2 : 2 ^ (v - 1) < 18446744073709551616 := by rw [← p64]; exact Nat.pow_lt_pow_right (by decide) (by omega)
  rw [wrapi, wrapi_pred v1 v2, show (1 : Int) = ((1 : Nat) : Int) from rfl, shl64, Nat.one_shiftLeft, Nat.mod_eq_of_lt h2, and64 ha h2, cast0n]
  have e : a &&& 2 ^ (v - 1) = (a.testBit (v - 1)).toNat * 2 ^ (v - 1) := by
    refine bits_ext fun i => ?_
    rw [Nat.testBit_and, Nat.testBit_two_pow, ← Nat.shiftLeft_eq, testBit_toNat_shl]
    by_cases h : v - 1 = i
    · subst h; simp
    · simp [h]
  rw [e]
  cases a.testBit (v - 1)
  · simp
  · have := pw_pos (v - 1); simp
theorem prog_unary {op t : Int} {r x v : Nat} {k : Nat × Nat} (hk : El v k) (v1 : 1 ≤ v) (v2 : v ≤ 64) (r1 : 1 ≤ r) (r2 : r ≤ 64) (ho : op = 3 ∨ op = 4 ∨ op = 21 ∨ op = 22 ∨ op = 23) (hx : op = 21 → x + r ≤ v ∧ t = (x : Int)) (hr : op = 22 ∨ op = 23 → v ≤ r) :
    known_unary.f op r t v ((k.1 : Int), (k.2 : Int)) = some (((kunaS op r x v k).1 : Int), ((kunaS op r x v k).2 : Int)) := by
  unfold known_unary.f known_unary.g
  rw [bits_Mask_eq, Option.bind_some, bits_Mask_eq, Option.bind_some, W_of v1 v2, W_of r1 r2, andNot64 (vmask_lt r2) (vmask_lt v2)]
  simp only [and_sign v1 v2 hk.l1]
  have hH : vmask r &&& (18446744073709551615 - vmask v) < U64 := Nat.lt_of_le_of_lt Nat.and_le_left (vmask_lt r2)
  have hp := wrapi_pred v1 v2
  rw [bifd_neg (by rw [wrapi, hp]; omega)]
  simp only [known_unary.p17_eq, known_unary.p15_eq, and_sign v1 v2 hk.l2]
  rw [or64 hk.l1 hH, or64 hk.l2 hH]
  unfold kunaS
  rcases ho with rfl | rfl | rfl | rfl | rfl
  · rfl
  · rw [show ((4 : Int) == 3) = false from rfl, cond_false, show ((4 : Int) == 4) = true from rfl, cond_true]
    have e := known_Const_eq (v : Int) (x := 0) (by decide)
    have hc := el_cst v1 v2 0
    rw [W_of v1 v2] at e
    rw [show (0 : Int) = ((0 : Nat) : Int) from rfl, e, Option.bind_some]
    have := known_Sub_eq (v : Int) hc.l1 hc.l2 hk.l1 hk.l2
    rw [MK, W_of v1 v2, hc.kof, hk.kof] at this
    simp only at this ⊢
    rw [this]; rfl
  · obtain ⟨h1, rfl⟩ := hx rfl
    simp only [Int.reduceBEq, cond_false, cond_true, Int.reduceEq, if_false]
    rw [bits_Extract_eq _ _ hk.l1, bits_Extract_eq _ _ hk.l2, Option.bind_some, Option.bind_some, W_of r1 r2]
    have e : ∀ a : Nat, vextract x r a = bld (fun i => a.testBit (i + x)) r := fun a => bits_ext fun i => by
      unfold vextract; rw [Nat.testBit_mod_two_pow, Nat.testBit_shiftRight, testBit_bld, Nat.add_comm]
    rw [e, e]
    rfl
  · have hv := hr (.inl rfl)
    simp only [Int.reduceBEq, cond_false, cond_true, Int.reduceEq, if_false]
    rw [Option.some_inj, Prod.mk.injEq]
    refine ⟨congrArg (fun n : Nat => (n : Int)) (bits_ext fun i => ?_), congrArg (fun n : Nat => (n : Int)) (bits_ext fun i => ?_)⟩
    · rw [Nat.testBit_or, hi_bits v2 r2, testBit_bld]; unfold uF; rw [if_neg (by decide), if_neg (show ¬ ((22 : Int) = 23) by decide)]
      by_cases h : i < v
      · rw [if_pos h, decide_eq_true (show i < r by omega), decide_eq_true h]; simp
      · rw [if_neg h, hk.b1 v2 (by omega), decide_eq_false h]; simp
    · rw [testBit_bld]; unfold uG; rw [if_neg (by decide), if_neg (show ¬ ((22 : Int) = 23) by decide)]
      by_cases h : i < v
      · rw [if_pos h, decide_eq_true (show i < r by omega)]; simp
      · rw [if_neg h, hk.b2 v2 (by omega)]; simp
  · have hv := hr (.inr rfl)
    simp only [Int.reduceBEq, cond_false, cond_true, Int.reduceEq, if_false]
    have e : ∀ (a : Nat) (f : Nat → Bool), (∀ i, v ≤ i → a.testBit i = false) → (∀ i, i < v → f i = a.testBit i) → (∀ i, v ≤ i → f i = a.testBit (v - 1)) →
        (if a.testBit (v - 1) = true then a ||| (vmask r &&& (18446744073709551615 - vmask v)) else a) = bld f r := by
      intro a f h0 h1 h2
      refine bits_ext fun i => ?_
      rw [testBit_bld]
      by_cases hs : a.testBit (v - 1) = true
      · rw [if_pos hs, Nat.testBit_or, hi_bits v2 r2]
        by_cases h : i < v
        · rw [h1 i h, decide_eq_true (show i < r by omega), decide_eq_true h]; simp
        · rw [h2 i (by omega), hs, h0 i (by omega), decide_eq_false h]; simp
      · rw [if_neg hs]
        by_cases h : i < v
        · rw [h1 i h, decide_eq_true (show i < r by omega)]; simp
        · rw [h2 i (by omega), h0 i (by omega)]; simp [hs]
    have e1 := e k.1 (uF 23 x v k) (fun i h => hk.b1 v2 h) (fun i h => by unfold uF; rw [if_neg (by decide), if_pos h]) (fun i h => by unfold uF; rw [if_neg (by decide), if_neg (by omega), if_pos rfl])
    have e2 := e k.2 (uG 23 x v k) (fun i h => hk.b2 v2 h) (fun i h => by unfold uG; rw [if_neg (by decide), if_pos h]) (fun i h => by unfold uG; rw [if_neg (by decide), if_neg (by omega), if_pos rfl])
    rw [← e1, ← e2]
    cases k.1.testBit (v - 1) <;> cases k.2.testBit (v - 1) <;> rfl
end Go.Proofs.YtcihbcffokjgjaaGreat.Fn
