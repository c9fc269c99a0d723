/- The rest of the operators with two operands on elements; all of them together. -/
import Derived.Test.YtcihbcffokjgjaaGreatAF10
import Derived.Test.YtcihbcffokjgjaaGreatAF2
import Derived.Test.YtcihbcffokjgjaaGreatAF9
import Derived.Test.YtcihbcffokjgjaaGreatAKd
namespace Go.Proofs.YtcihbcffokjgjaaGreat.Fn
open Go Go.RowKit Go.Proofs.YtcihbcffokjgjaaGreat.Ev Go.Proofs.YtcihbcffokjgjaaGreat.Bv
set_option linter.unusedVariables false
set_option linter.unusedSimpArgs false

/-! ### the value of two single operands -/
def kval (op : Int) (w x y : Nat) : Nat := if op = 10 then vmul w x y else if op = 11 then vudiv w x y else if op = 12 then vurem w x y else if op = 17 then vult w x y else vslt w x y
theorem kval_lt {op : Int} {w : Nat} (hw : w ≤ 64) (x y : Nat) : kval op w x y < U64 := by
  unfold kval
  split
  · exact vmul_lt _ _ hw
  · split
    · exact vudiv_lt _ _ hw
    · split
      · exact vurem_lt _ _ hw
      · split
        · unfold vult; split <;> decide
        · unfold vslt; split <;> decide
theorem prog_value {op : Int} (ho : op = 10 ∨ op = 11 ∨ op = 12 ∨ op = 17 ∨ op = 18) {w : Nat} (w1 : 1 ≤ w) (w2 : w ≤ 64) {x y : Nat} (hx : x < U64) (hy : y < U64) : known_value.f op w x y = some (kval op w x y : Int) := by
  unfold known_value.f kval
  rcases ho with rfl | rfl | rfl | rfl | rfl <;> simp only [Int.reduceBEq, cond_true, cond_false, Int.reduceEq, if_true, if_false]
  · rw [bits_Mul_eq, W_of w1 w2]; rfl
  · rw [bits_Udiv_eq _ hx hy, W_of w1 w2]; rfl
  · rw [bits_Urem_eq _ hx hy, W_of w1 w2]; rfl
  · rw [bits_Ult_eq _ hx hy, W_of w1 w2]; rfl
  · rw [bits_Slt_eq _ hx hy, W_of w1 w2]; rfl
theorem ref_value {op : Int} (ho : op = 11 ∨ op = 12 ∨ op = 17 ∨ op = 18) {w : Nat} (w1 : 1 ≤ w) (w2 : w ≤ 64) {x y : Nat} (hx : x < U64) (hy : y < U64) : saturateref12_value.f op w x y = some (kval op w x y : Int) := by
  unfold saturateref12_value.f kval
  rcases ho with rfl | rfl | rfl | rfl <;> simp only [Int.reduceBEq, cond_true, cond_false, Int.reduceEq, if_true, if_false]
  · rw [saturateref01_Udiv_eq _ hx hy, W_of w1 w2]; rfl
  · rw [saturateref01_Urem_eq _ hx hy, W_of w1 w2]; rfl
  · rw [saturateref01_Ult_eq _ hx hy, W_of w1 w2]; rfl
  · rw [saturateref01_Slt_eq _ hx hy, W_of w1 w2]; rfl
/-! ### powers of two -/
theorem cnt_one {f : Nat → Bool} {n : Nat} (h : cnt f n = 1) : ∃ m, m < n ∧ ∀ i, i < n → f i = decide (i = m) := by
  induction n with
  | zero => simp [cnt] at h
  | succ n ih =>
    simp only [cnt] at h
    cases hf : f n with
    | false =>
      rw [hf] at h
      obtain ⟨m, hm, ha⟩ := ih (by simpa using h)
      refine ⟨m, by omega, fun i hi => ?_⟩
      rcases Nat.lt_or_ge i n with h1 | h1
      · exact ha i h1
      · obtain rfl : i = n := by omega
        rw [hf, decide_eq_false (by omega)]
    | true =>
      rw [hf] at h
      have h0 : cnt f n = 0 := by simpa using h
      refine ⟨n, by omega, fun i hi => ?_⟩
      rcases Nat.lt_or_ge i n with h1 | h1
      · have : ∀ j, j ≤ n → cnt f j = 0 → ∀ i, i < j → f i = false := by
          intro j
          induction j with
          | zero => intro _ _ i hi; omega
          | succ j ihj =>
            intro hj hc i hi
            simp only [cnt] at hc
            rcases Nat.lt_or_ge i j with h2 | h2
            · exact ihj (by omega) (by omega) i h2
            · obtain rfl : i = j := by omega
              cases hfi : f i with
              | false => rfl
              | true => rw [hfi] at hc; simp at hc
        rw [this n (Nat.le_refl _) h0 i h1, decide_eq_false (by omega)]
      · obtain rfl : i = n := by omega
        rw [hf, decide_eq_true rfl]
theorem ones_one {y : Nat} (hy : y < U64) (h : ones y = 1) : ∃ m, m < 64 ∧ y = 2 ^ m := by
  obtain ⟨m, hm, hb⟩ := cnt_one h
  refine ⟨m, hm, bits_ext fun i => ?_⟩
  rw [Nat.testBit_two_pow]
  rcases Nat.lt_or_ge i 64 with h1 | h1
  · rw [hb i h1, decide_eq_decide]; omega
  · rw [testBit_ge (lt_pw hy) h1]; symm; rw [decide_eq_false_iff_not]; omega
theorem ref_lowest_j2 (fu : Nat) {m : Nat} (hm : m < 64) (d : Nat) : ∀ (n i : Nat), m - i = d → i ≤ m → d < n → saturateref01_Lowest.j2 fu n ((2 ^ m : Nat) : Int) i = some (m : Int) := by
  have hy : 2 ^ m < 18446744073709551616 := by rw [← p64]; exact Nat.pow_lt_pow_right (by decide) hm
  induction d with
  | zero =>
    intro n i hd hi hn
    obtain ⟨n, rfl⟩ : ∃ m, n = m + 1 := ⟨n - 1, by omega⟩
    obtain rfl : i = m := by omega
    rw [saturateref01_Lowest.j2_succ, bifd_pos (by omega), saturateref01_Bit_eq hy, Option.bind_some, Nat.testBit_two_pow, decide_eq_true rfl]; rfl
  | succ d ih =>
    intro n i hd hi hn
    obtain ⟨n, rfl⟩ : ∃ m, n = m + 1 := ⟨n - 1, by omega⟩
    have := ih n (i + 1) (by omega) (by omega) (by omega)
    rw [saturateref01_Lowest.j2_succ, bifd_pos (by omega), saturateref01_Bit_eq hy, Option.bind_some, Nat.testBit_two_pow, decide_eq_false (by omega), wrapi, wrapi_succ (by omega)]
    exact this
theorem ref_lowest {m : Nat} (hm : m < 64) : saturateref01_Lowest.f ((2 ^ m : Nat) : Int) = some (m : Int) := by
  unfold saturateref01_Lowest.f saturateref01_Lowest.g
  exact ref_lowest_j2 _ hm m (fuel0 + 1) 0 rfl (by omega) (fuelg (by omega))
/-- The element of a remainder by 2^m. -/
def kremS (w m : Nat) (a : Nat × Nat) : Nat × Nat := (bld (fun i => if i < m then a.1.testBit i else true) w, bld (fun i => if i < m then a.2.testBit i else false) w)
theorem kremFG {w m : Nat} {a : Nat × Nat} (ha : El w a) (i : Nat) : (if i < m then a.1.testBit i else true) = true → (if i < m then a.2.testBit i else false) = false := by
  split
  · exact ha.dis i
  · intro _; rfl
theorem el_rem {w m : Nat} {a : Nat × Nat} (ha : El w a) (hw : w ≤ 64) : El w (kremS w m a) := El.of_bits hw fun i _ => kremFG ha i
theorem ref_exact_j8 (fu : Nat) {w m : Nat} {a : Nat × Nat} (ha : El w a) (w2 : w ≤ 64) (hm : m < 64) (p q : Int) (d : Nat) : ∀ (n i : Nat), w - i = d → i ≤ w → d < n →
    saturateref12_exact.j8 (fu + 1) n w ((2 ^ m : Nat) : Int) i a.1 a.2 p q (bld (fun i => if i < m then a.1.testBit i else true) i : Int) (bld (fun i => if i < m then a.2.testBit i else false) i : Int) = some (((kremS w m a).1 : Int), ((kremS w m a).2 : Int)) := by
  induction d with
  | zero =>
    intro n i hd hi hn
    obtain ⟨n, rfl⟩ : ∃ m, n = m + 1 := ⟨n - 1, by omega⟩
    obtain rfl : i = w := by omega
    rw [saturateref12_exact.j8_succ, bifd_neg (by omega)]; rfl
  | succ d ih =>
    intro n i hd hi hn
    obtain ⟨n, rfl⟩ : ∃ m, n = m + 1 := ⟨n - 1, by omega⟩
    have hwi := ref_with (fun i => if i < m then a.1.testBit i else true) (fun i => if i < m then a.2.testBit i else false) (i := i) (by omega) (kremFG ha i)
    have hn' := ih n (i + 1) (by omega) (by omega) (by omega)
    rw [saturateref12_exact.j8_succ, bifd_pos (by omega), ref_lowest hm, Option.bind_some]
    simp only [saturateref12_exact.p13_eq]
    by_cases h : i < m
    · simp only [if_pos h] at hwi
      rw [bifd_pos (by omega), ref_bit ha.l1 ha.l2 (by omega), Option.bind_some, hwi, Option.bind_some, wrapi, wrapi_succ (by omega)]
      exact hn'
    · simp only [if_neg h] at hwi
      rw [bifd_neg (by omega), show (0 : Int) = st false (!true) from rfl, hwi, Option.bind_some, wrapi, wrapi_succ (by omega)]
      exact hn'
/-- The exponent of a power of two. -/
def klog (y : Nat) : Nat := y.log2
theorem klog_pow (m : Nat) : klog (2 ^ m) = m := Nat.log2_two_pow
/-- Operators whose result is known for single operands only, and remainders by powers of two. -/
def kexS (op : Int) (w r : Nat) (a b : Nat × Nat) : Nat × Nat :=
  if kone w a ∧ kone w b then kcst r (kval op w a.2 b.2) else if op = 12 ∧ kone w b ∧ ones b.2 = 1 then kremS w (klog b.2) a else (0, 0)
theorem ref_exact {op : Int} (ho : op = 11 ∨ op = 12 ∨ op = 17 ∨ op = 18) {w r : Nat} {a b : Nat × Nat} (ha : El w a) (hb : El w b) (w1 : 1 ≤ w) (w2 : w ≤ 64) (r1 : 1 ≤ r) (r2 : r ≤ 64) :
    saturateref12_exact.f op w r ((a.1 : Int), (a.2 : Int)) ((b.1 : Int), (b.2 : Int)) = some (((kexS op w r a b).1 : Int), ((kexS op w r a b).2 : Int)) := by
  unfold saturateref12_exact.f saturateref12_exact.g
  have hp : saturateref12_exact.p15 (fuel0 + 1) (fuel0 + 1) = some (0, 0) := by rw [saturateref12_exact.p15_eq]; rfl
  have hj := fun m hm => ref_exact_j8 fuel0 (m := m) ha w2 hm 0 0 w (fuel0 + 1) 0 rfl (by omega) (fuelg (by omega))
  generalize fuel0 + 1 = fu at *
  simp only
  rw [ref_single ha w1 w2, Option.bind_some, ref_single hb w1 w2, Option.bind_some]
  have tail : ∀ K : Option (Int × Int), K = some (((if op = 12 ∧ kone w b ∧ ones b.2 = 1 then kremS w (klog b.2) a else (0, 0)).1 : Int), ((if op = 12 ∧ kone w b ∧ ones b.2 = 1 then kremS w (klog b.2) a else (0, 0)).2 : Int)) → ¬ (kone w a ∧ kone w b) → K = some (((kexS op w r a b).1 : Int), ((kexS op w r a b).2 : Int)) := by
    intro K hK hn
    rw [hK]; unfold kexS; rw [if_neg hn]
  have body : ∀ c : Bool, c = decide (kone w b) → (bif (op == 12) then bif c then (saturateref01_Count.f (b.2 : Int)).bind fun r5 => bif (r5 == 1) then (saturateref12_Top.f).bind fun r6 => saturateref12_exact.j8 fu fu w (b.2 : Int) 0 a.1 a.2 0 0 r6.1 r6.2 else saturateref12_exact.p15 fu fu else saturateref12_exact.p15 fu fu else saturateref12_exact.p15 fu fu) =
      some (((if op = 12 ∧ kone w b ∧ ones b.2 = 1 then kremS w (klog b.2) a else (0, 0)).1 : Int), ((if op = 12 ∧ kone w b ∧ ones b.2 = 1 then kremS w (klog b.2) a else (0, 0)).2 : Int)) := by
    intro c hc
    rw [hp, saturateref01_Count_eq hb.l2, Option.bind_some, saturateref12_Top.f, Option.bind_some]
    by_cases h12 : op = 12
    · rw [show (op == 12) = true by rw [beq_iff_eq]; exact h12, cond_true]
      by_cases hk : kone w b
      · rw [hc, decide_eq_true hk, cond_true]
        by_cases h1 : ones b.2 = 1
        · obtain ⟨m, hm, e⟩ := ones_one hb.l2 h1
          have hb1 : ((ones b.2 : Int) == 1) = true := by rw [beq_iff_eq]; omega
          rw [if_pos ⟨h12, hk, h1⟩, hb1, cond_true, e, klog_pow]
          exact hj m hm
        · have hb1 : ((ones b.2 : Int) == 1) = false := by rw [beq_eq_false_iff_ne]; omega
          rw [if_neg (show ¬ (op = 12 ∧ kone w b ∧ ones b.2 = 1) from fun h => h1 h.2.2), hb1, cond_false]; rfl
      · rw [hc, decide_eq_false hk, cond_false, if_neg (show ¬ (op = 12 ∧ kone w b ∧ ones b.2 = 1) from fun h => hk h.2.1)]; rfl
    · rw [show (op == 12) = false by rw [beq_eq_false_iff_ne]; exact h12, cond_false, if_neg (show ¬ (op = 12 ∧ kone w b ∧ ones b.2 = 1) from fun h => h12 h.1)]; rfl
  by_cases h1 : kone w a
  · rw [if_pos h1, cond_true]
    by_cases h2 : kone w b
    · rw [if_pos h2, cond_true, ref_value ho w1 w2 ha.l2 hb.l2, Option.bind_some, ref_const r1 r2 (kval_lt w2 _ _), Option.bind_some]
      unfold kexS; rw [if_pos ⟨h1, h2⟩]
    · have hb := body false (decide_eq_false h2).symm
      rw [cond_false] at hb
      rw [if_neg h2, cond_false]
      refine tail _ ?_ (fun h => h2 h.2)
      rw [← hb, cond_false]
  · rw [if_neg h1, cond_false]
    refine tail _ ?_ (fun h => h1 h.1)
    by_cases h2 : kone w b
    · rw [if_pos h2]; exact body true (decide_eq_true h2).symm
    · have hb := body false (decide_eq_false h2).symm
      rw [if_neg h2, ← hb, cond_false, cond_false]
/-! ### equality -/
def keqS (w : Nat) (a b : Nat × Nat) : Nat × Nat := if a.1 &&& b.2 ≠ 0 ∨ a.2 &&& b.1 ≠ 0 then kcst 1 0 else if kone w a ∧ kone w b ∧ a.2 = b.2 then kcst 1 1 else (0, 0)
theorem kone_bit {w : Nat} (hw : w ≤ 64) {k : Nat × Nat} (hk : El w k) (h : kone w k) (i : Nat) : k.1.testBit i = (decide (i < w) && !k.2.testBit i) := by
  have := bit_of (show kunk w k = 0 from h) i
  rw [kunk_bit hk.l1 hk.l2 hw, Nat.zero_testBit] at this
  by_cases hi : i < w
  · have h2 := hk.dis i
    revert this h2; rw [decide_eq_true hi]
    cases k.1.testBit i <;> cases k.2.testBit i <;> decide
  · rw [hk.b1 hw (by omega), decide_eq_false hi]; rfl
theorem kone_ext {w : Nat} (hw : w ≤ 64) {a b : Nat × Nat} (ha : El w a) (hb : El w b) (h1 : kone w a) (h2 : kone w b) (e : a.2 = b.2) : a = b :=
  Prod.ext (bits_ext fun i => by rw [kone_bit hw ha h1, kone_bit hw hb h2, e]) e
theorem ref_equal {w : Nat} {a b : Nat × Nat} (ha : El w a) (hb : El w b) (w1 : 1 ≤ w) (w2 : w ≤ 64) : saturateref12_equal.f w ((a.1 : Int), (a.2 : Int)) ((b.1 : Int), (b.2 : Int)) = some (((keqS w a b).1 : Int), ((keqS w a b).2 : Int)) := by
  unfold saturateref12_equal.f saturateref12_equal.g
  have hp : saturateref12_equal.p7 (fuel0 + 1) (fuel0 + 1) = some (0, 0) := by rw [saturateref12_equal.p7_eq]; rfl
  generalize fuel0 + 1 = fu at *
  have c0 := ref_const (w := 1) (by decide) (by decide) (x := 0) (by decide)
  have c1 := ref_const (w := 1) (by decide) (by decide) (x := 1) (by decide)
  rw [show ((1 : Nat) : Int) = 1 from rfl, show ((0 : Nat) : Int) = 0 from rfl] at c0
  rw [show ((1 : Nat) : Int) = 1 from rfl] at c1
  simp only
  rw [ref_single ha w1 w2, Option.bind_some, ref_single hb w1 w2, Option.bind_some, hp, and64 ha.l1 hb.l2, and64 ha.l2 hb.l1, cast0n, cast0n, c0, c1]
  unfold keqS
  by_cases g1 : a.1 &&& b.2 = 0
  · rw [decide_eq_true g1, Bool.not_true, cond_false]
    by_cases g2 : a.2 &&& b.1 = 0
    · rw [decide_eq_true g2, Bool.not_true, cond_false, if_neg (show ¬ (a.1 &&& b.2 ≠ 0 ∨ a.2 &&& b.1 ≠ 0) from fun h => h.elim (fun h => h g1) (fun h => h g2))]
      by_cases h1 : kone w a
      · rw [if_pos h1, cond_true]
        by_cases h2 : kone w b
        · rw [if_pos h2, cond_true]
          simp only [castb]
          by_cases e : a.2 = b.2
          · rw [decide_eq_true e, if_pos ⟨h1, h2, e⟩]; rfl
          · rw [decide_eq_false e, if_neg (show ¬ (kone w a ∧ kone w b ∧ a.2 = b.2) from fun h => e h.2.2)]; rfl
        · rw [if_neg h2, cond_false, if_neg (show ¬ (kone w a ∧ kone w b ∧ a.2 = b.2) from fun h => h2 h.2.1)]; rfl
      · rw [if_neg h1, cond_false, if_neg (show ¬ (kone w a ∧ kone w b ∧ a.2 = b.2) from fun h => h1 h.1)]; rfl
    · rw [decide_eq_false g2, if_pos (Or.inr g2)]; rfl
  · rw [decide_eq_false g1, if_pos (Or.inl g1)]; rfl
theorem prog_equal {w : Nat} {a b : Nat × Nat} (ha : El w a) (hb : El w b) (w1 : 1 ≤ w) (w2 : w ≤ 64) : known_equal.f w ((a.1 : Int), (a.2 : Int)) ((b.1 : Int), (b.2 : Int)) = some (((keqS w a b).1 : Int), ((keqS w a b).2 : Int)) := by
  unfold known_equal.f known_equal.g
  have hp : known_equal.p6 (fuel0 + 1) (fuel0 + 1) 0 0 = some (0, 0) := by rw [known_equal.p6_eq]
  generalize fuel0 + 1 = fu at *
  have c0 := prog_const (w := 1) (by decide) (by decide) (x := 0) (by decide)
  have c1 := prog_const (w := 1) (by decide) (by decide) (x := 1) (by decide)
  rw [show ((1 : Nat) : Int) = 1 from rfl, show ((0 : Nat) : Int) = 0 from rfl] at c0
  rw [show ((1 : Nat) : Int) = 1 from rfl] at c1
  simp only
  rw [prog_single ha w1 w2, Option.bind_some, hp, and64 ha.l1 hb.l2, and64 ha.l2 hb.l1, or64 (and_lt hb.l2) (and_lt hb.l1), cast0n, c0, c1]
  have hor : (a.1 &&& b.2 ||| a.2 &&& b.1) = 0 ↔ a.1 &&& b.2 = 0 ∧ a.2 &&& b.1 = 0 := by
    constructor
    · intro h
      refine ⟨bits_ext fun i => ?_, bits_ext fun i => ?_⟩ <;>
      · have := bit_of h i
        rw [Nat.testBit_or, Nat.zero_testBit] at this
        rw [Nat.zero_testBit]
        revert this
        cases (a.1 &&& b.2).testBit i <;> cases (a.2 &&& b.1).testBit i <;> decide
    · intro h; rw [h.1, h.2]; rfl
  unfold keqS
  by_cases g : (a.1 &&& b.2 ||| a.2 &&& b.1) = 0
  · have gg := hor.1 g
    rw [decide_eq_true g, Bool.not_true, cond_false, if_neg (show ¬ (a.1 &&& b.2 ≠ 0 ∨ a.2 &&& b.1 ≠ 0) from fun h => h.elim (fun h => h gg.1) (fun h => h gg.2))]
    by_cases h1 : kone w a
    · rw [if_pos h1, cond_true]
      simp only [castb, Bool.and_true]
      by_cases e : a = b
      · subst e
        rw [decide_eq_true rfl, decide_eq_true rfl, if_pos ⟨h1, h1, rfl⟩]; rfl
      · rw [if_neg (show ¬ (kone w a ∧ kone w b ∧ a.2 = b.2) from fun h => e (kone_ext w2 ha hb h.1 h.2.1 h.2.2))]
        have : (decide (a.1 = b.1) && decide (a.2 = b.2)) = false := by
          rw [← Bool.decide_and, decide_eq_false_iff_not]; exact fun h => e (Prod.ext h.1 h.2)
        rw [this]; rfl
    · rw [if_neg h1, cond_false, if_neg (show ¬ (kone w a ∧ kone w b ∧ a.2 = b.2) from fun h => h1 h.1)]; rfl
  · have gg : a.1 &&& b.2 ≠ 0 ∨ a.2 &&& b.1 ≠ 0 := by
      rcases Decidable.em (a.1 &&& b.2 = 0) with h | h
      · exact .inr fun h2 => g (hor.2 ⟨h, h2⟩)
      · exact .inl h
    rw [decide_eq_false g, if_pos gg]; rfl
/-! ### concatenation -/
def cF (u : Nat) (a b : Nat) (i : Nat) : Bool := if u ≤ i then a.testBit (i - u) else b.testBit i
theorem cFG {v u : Nat} {a b : Nat × Nat} (ha : El v a) (hb : El u b) (i : Nat) : cF u a.1 b.1 i = true → cF u a.2 b.2 i = false := by
  unfold cF
  split
  · exact ha.dis _
  · exact hb.dis _
theorem concat_bld {v u : Nat} (huv : v + u ≤ 64) (a b : Nat) (ha : a < 2 ^ v) (hb : b < 2 ^ u) : vconcat v u a b = bld (cF u a b) (v + u) := bits_ext fun i => by
  rw [testBit_vconcat, testBit_bld]; unfold cF
  by_cases h : u ≤ i
  · rw [if_pos h, decide_eq_true h, decide_eq_false (show ¬ i < u by omega)]
    by_cases h2 : i < v + u
    · rw [decide_eq_true h2, decide_eq_true (show i < 64 by omega), decide_eq_true (show i - u < v by omega)]; simp
    · rw [decide_eq_false h2, decide_eq_false (show ¬ i - u < v by omega)]; simp
  · rw [if_neg h, decide_eq_false h, decide_eq_true (show i < u by omega), decide_eq_true (show i < v + u by omega)]; simp
theorem ref_concat_j3 (fu : Nat) {v u : Nat} {a b : Nat × Nat} (ha : El v a) (hb : El u b) (huv : v + u ≤ 64) (p q : Int) (d : Nat) : ∀ (n i : Nat), v + u - i = d → i ≤ v + u → d < n →
    saturateref12_concat.j3 (fu + 1) n v u i a.1 a.2 b.1 b.2 p q (bld (cF u a.1 b.1) i : Int) (bld (cF u a.2 b.2) i : Int) = some ((bld (cF u a.1 b.1) (v + u) : Int), (bld (cF u a.2 b.2) (v + u) : Int)) := by
  induction d with
  | zero =>
    intro n i hd hi hn
    obtain ⟨n, rfl⟩ : ∃ m, n = m + 1 := ⟨n - 1, by omega⟩
    obtain rfl : i = v + u := by omega
    rw [saturateref12_concat.j3_succ, wrapi, wrapi_of (a := (v : Int) + u) (by omega) (by omega), bifd_neg (by omega)]
  | succ d ih =>
    intro n i hd hi hn
    obtain ⟨n, rfl⟩ : ∃ m, n = m + 1 := ⟨n - 1, by omega⟩
    have hwi := ref_with (cF u a.1 b.1) (cF u a.2 b.2) (i := i) (by omega) (cFG ha hb i)
    have hn' := ih n (i + 1) (by omega) (by omega) (by omega)
    have e1 : IntKind.i64.wrap ((v : Int) + u) = (v : Int) + u := by rw [wrapi, wrapi_of (by omega) (by omega)]
    have e2 : IntKind.i64.wrap ((i : Int) + 1) = ((i + 1 : Nat) : Int) := by rw [wrapi, wrapi_succ (by omega)]
    rw [saturateref12_concat.j3_succ, e1, bifd_pos (by omega), ref_bit hb.l1 hb.l2 (by omega), Option.bind_some]
    simp only [saturateref12_concat.p8_eq, e2]
    by_cases h : u ≤ i
    · have e3 : IntKind.i64.wrap ((i : Int) - u) = ((i - u : Nat) : Int) := by rw [wrapi, wrapi_of (by omega) (by omega)]; omega
      have e4 : st (cF u a.2 b.2 i) (!cF u a.1 b.1 i) = st (a.2.testBit (i - u)) (!a.1.testBit (i - u)) := by unfold cF; rw [if_pos h, if_pos h]
      rw [bifd_pos (by omega), e3, ref_bit ha.l1 ha.l2 (by omega), Option.bind_some, ← e4, hwi, Option.bind_some]; exact hn'
    · have e4 : st (cF u a.2 b.2 i) (!cF u a.1 b.1 i) = st (b.2.testBit i) (!b.1.testBit i) := by unfold cF; rw [if_neg h, if_neg h]
      rw [bifd_neg (by omega), ← e4, hwi, Option.bind_some]; exact hn'
def kconS (v u : Nat) (a b : Nat × Nat) : Nat × Nat := (vconcat v u a.1 b.1, vconcat v u a.2 b.2)
theorem ref_concat {v u : Nat} {a b : Nat × Nat} (ha : El v a) (hb : El u b) (huv : v + u ≤ 64) : saturateref12_concat.f v u ((a.1 : Int), (a.2 : Int)) ((b.1 : Int), (b.2 : Int)) = some (((kconS v u a b).1 : Int), ((kconS v u a b).2 : Int)) := by
  unfold saturateref12_concat.f saturateref12_concat.g saturateref12_Top.f kconS
  rw [concat_bld huv _ _ (lt_of_le_mask (ha.m1 (by omega))) (lt_of_le_mask (hb.m1 (by omega))), concat_bld huv _ _ (lt_of_le_mask (ha.m2 (by omega))) (lt_of_le_mask (hb.m2 (by omega)))]
  exact ref_concat_j3 fuel0 ha hb huv 0 0 (v + u) (fuel0 + 1) 0 rfl (by omega) (fuelg (by omega))
end Go.Proofs.YtcihbcffokjgjaaGreat.Fn
