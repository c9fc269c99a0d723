/- The rest of the operators with two operands on elements; all of them together. Apply on elements of known bits: the program's and the reference's, to one specification. Apply on elements: both programs return the specification's. -/
import Derived.Test.YtcihbcffokjgjaaGreatOF10
import Derived.Test.YtcihbcffokjgjaaGreatOF2
import Derived.Test.YtcihbcffokjgjaaGreatOF9
import Derived.Test.YtcihbcffokjgjaaGreatOKd
namespace Go.Proofs.YtcihbcffokjgjaaGreat.Fn
open Go Go.RowKit Go.Proofs.YtcihbcffokjgjaaGreat.Ev Go.Proofs.YtcihbcffokjgjaaGreat.Bv
set_option linter.unusedVariables false
set_option linter.unusedSimpArgs false
def kval (op : Int) (w x y : Nat) : Nat := if op = 10 then vmul w x y else if op = 11 then vudiv w x y else if op = 12 then vurem w x y else if op = 17 then vult w x y else vslt w x y
theorem kval_lt {op : Int} {w : Nat} (hw : w ≤ 64) (x y : Nat) : kval op w x y < U64 := by
  unfold kval
  split
  · exact vmul_lt _ _ hw
  · split
    · exact vudiv_lt _ _ hw
    · split
      · exact vurem_lt _ _ hw
      · split
        · unfold vult; split <;> decide
        · unfold vslt; split <;> decide
theorem prog_value {op : Int} (ho : op = 10 ∨ op = 11 ∨ op = 12 ∨ op = 17 ∨ op = 18) {w : Nat} (w1 : 1 ≤ w) (w2 : w ≤ 64) {x y : Nat} (hx : x < U64) (hy : y < U64) : known_value.f op w x y = some (kval op w x y : Int) := by
  unfold known_value.f kval
  rcases ho with rfl | rfl | rfl | rfl | rfl <;> simp only [Int.reduceBEq, cond_true, cond_false, Int.reduceEq, if_true, if_false]
  · rw [bits_Mul_eq, W_of w1 w2]; rfl
  · rw [bits_Udiv_eq _ hx hy, W_of w1 w2]; rfl
  · rw [bits_Urem_eq _ hx hy, W_of w1 w2]; rfl
  · rw [bits_Ult_eq _ hx hy, W_of w1 w2]; rfl
  · rw [bits_Slt_eq _ hx hy, W_of w1 w2]; rfl
theorem ref_value {op : Int} (ho : op = 11 ∨ op = 12 ∨ op = 17 ∨ op = 18) {w : Nat} (w1 : 1 ≤ w) (w2 : w ≤ 64) {x y : Nat} (hx : x < U64) (hy : y < U64) : saturateref12_value.f op w x y = some (kval op w x y : Int) := by
  unfold saturateref12_value.f kval
  rcases ho with rfl | rfl | rfl | rfl <;> simp only [Int.reduceBEq, cond_true, cond_false, Int.reduceEq, if_true, if_false]
  · rw [saturateref01_Udiv_eq _ hx hy, W_of w1 w2]; rfl
  · rw [saturateref01_Urem_eq _ hx hy, W_of w1 w2]; rfl
  · rw [saturateref01_Ult_eq _ hx hy, W_of w1 w2]; rfl
  · rw [saturateref01_Slt_eq _ hx hy, W_of w1 w2]; rfl
theorem cnt_one {f : Nat → Bool} {n : Nat} (h : cnt f n = 1) : ∃ m, m < n ∧ ∀ i, i < n → f i = decide (i = m) := by
  induction n with
  | zero => simp [cnt] at h
  | succ n ih =>
    simp only [cnt] at h
    cases hf : f n with
    | false =>
      rw [hf] at h
      obtain ⟨m, hm, ha⟩ := ih (by simpa using h)
      refine ⟨m, by omega, fun i hi => ?_⟩
      rcases Nat.lt_or_ge i n with h1 | h1
      · exact ha i h1
      · obtain rfl : i = n := by omega
        rw [hf, decide_eq_false (by omega)]
    | true =>
      rw [hf] at h
      have h0 : cnt f n = 0 := by simpa using h
      refine ⟨n, by omega, fun i hi => ?_⟩
      rcases Nat.lt_or_ge i n with h1 | h1
      · have : ∀ j, j ≤ n → cnt f j = 0 → ∀ i, i < j → f i = false := by
          intro j
          induction j with
          | zero => intro _ _ i hi; omega
          | succ j ihj =>
            intro hj hc i hi
            simp only [cnt] at hc
            rcases Nat.lt_or_ge i j with h2 | h2
            · exact ihj (by omega) (by omega) i h2
            · obtain rfl : i = j := by omega
              cases hfi : f i with
              | false => rfl
              | true => rw [hfi] at hc; simp at hc
        rw [this n (Nat.le_refl _) h0 i h1, decide_eq_false (by omega)]
      · obtain rfl : i = n := by omega
        rw [hf, decide_eq_true rfl]
theorem ones_one {y : Nat} (hy : y < U64) (h : ones y = 1) : ∃ m, m < 64 ∧ y = 2 ^ m := by
  obtain ⟨m, hm, hb⟩ := cnt_one h
  refine ⟨m, hm, bits_ext fun i => ?_⟩
  rw [Nat.testBit_two_pow]
  rcases Nat.lt_or_ge i 64 with h1 | h1
  · rw [hb i h1, decide_eq_decide]; omega
  · rw [testBit_ge (lt_pw hy) h1]; symm; rw [decide_eq_false_iff_not]; omega
theorem ref_lowest_j2 (fu : Nat) {m : Nat} (hm : m < 64) (d : Nat) : ∀ (n i : Nat), m - i = d → i ≤ m → d < n → saturateref01_Lowest.j2 fu n ((2 ^ m : Nat) : Int) i = some (m : Int) := by
  have hy : 2 ^ m < 18446744073709551616 := by rw [← p64]; exact Nat.pow_lt_pow_right (by decide) hm
  induction d with
  | zero =>
    intro n i hd hi hn
    obtain ⟨n, rfl⟩ : ∃ m, n = m + 1 := ⟨n - 1, by omega⟩
    obtain rfl : i = m := by omega
    rw [saturateref01_Lowest.j2_succ, bifd_pos (by omega), saturateref01_Bit_eq hy, Option.bind_some, Nat.testBit_two_pow, decide_eq_true rfl]; rfl
  | succ d ih =>
    intro n i hd hi hn
    obtain ⟨n, rfl⟩ : ∃ m, n = m + 1 := ⟨n - 1, by omega⟩
    have := ih n (i + 1) (by omega) (by omega) (by omega)
    rw [saturateref01_Lowest.j2_succ, bifd_pos (by omega), saturateref01_Bit_eq hy, Option.bind_some, Nat.testBit_two_pow, decide_eq_false (by omega), wrapi, wrapi_succ (by omega)]
    exact this
theorem ref_lowest {m : Nat} (hm : m < 64) : saturateref01_Lowest.f ((2 ^ m : Nat) : Int) = some (m : Int) := by
  unfold saturateref01_Lowest.f saturateref01_Lowest.g
  exact ref_lowest_j2 _ hm m (fuel0 + 1) 0 rfl (by omega) (fuelg (by omega))
def kremS (w m : Nat) (a : Nat × Nat) : Nat × Nat := (bld (fun i => if i < m then a.1.testBit i else true) w, bld (fun i => if i < m then a.2.testBit i else false) w)
theorem kremFG {w m : Nat} {a : Nat × Nat} (ha : El w a) (i : Nat) : (if i < m then a.1.testBit i else true) = true → (if i < m then a.2.testBit i else false) = false := by
  split
  · exact ha.dis i
  · intro _; rfl
theorem el_rem {w m : Nat} {a : Nat × Nat} (ha : El w a) (hw : w ≤ 64) : El w (kremS w m a) := El.of_bits hw fun i _ => kremFG ha i
theorem ref_exact_j8 (fu : Nat) {w m : Nat} {a : Nat × Nat} (ha : El w a) (w2 : w ≤ 64) (hm : m < 64) (p q : Int) (d : Nat) : ∀ (n i : Nat), w - i = d → i ≤ w → d < n →
    saturateref12_exact.j8 (fu + 1) n w ((2 ^ m : Nat) : Int) i a.1 a.2 p q (bld (fun i => if i < m then a.1.testBit i else true) i : Int) (bld (fun i => if i < m then a.2.testBit i else false) i : Int) = some (((kremS w m a).1 : Int), ((kremS w m a).2 : Int)) := by
  induction d with
  | zero =>
    intro n i hd hi hn
    obtain ⟨n, rfl⟩ : ∃ m, n = m + 1 := ⟨n - 1, by omega⟩
    obtain rfl : i = w := by omega
    rw [saturateref12_exact.j8_succ, bifd_neg (by omega)]; rfl
  | succ d ih =>
    intro n i hd hi hn
    obtain ⟨n, rfl⟩ : ∃ m, n = m + 1 := ⟨n - 1, by omega⟩
    have hwi := ref_with (fun i => if i < m then a.1.testBit i else true) (fun i => if i < m then a.2.testBit i else false) (i := i) (by omega) (kremFG ha i)
    have hn' := ih n (i + 1) (by omega) (by omega) (by omega)
    rw [saturateref12_exact.j8_succ, bifd_pos (by omega), ref_lowest hm, Option.bind_some]
    simp only [saturateref12_exact.p13_eq]
    by_cases h : i < m
    · simp only [if_pos h] at hwi
      rw [bifd_pos (by omega), ref_bit ha.l1 ha.l2 (by omega), Option.bind_some, hwi, Option.bind_some, wrapi, wrapi_succ (by omega)]
      exact hn'
    · simp only [if_neg h] at hwi
      rw [bifd_neg (by omega), show (0 : Int) = st false (!true) from rfl, hwi, Option.bind_some, wrapi, wrapi_succ (by omega)]
      exact hn'
def klog (y : Nat) : Nat := y.log2
theorem klog_pow (m : Nat) : klog (2 ^ m) = m := Nat.log2_two_pow
def kexS (op : Int) (w r : Nat) (a b : Nat × Nat) : Nat × Nat :=
  if kone w a ∧ kone w b then kcst r (kval op w a.2 b.2) else if op = 12 ∧ kone w b ∧ ones b.2 = 1 then kremS w (klog b.2) a else (0, 0)
theorem ref_exact {op : Int} (ho : op = 11 ∨ op = 12 ∨ op = 17 ∨ op = 18) {w r : Nat} {a b : Nat × Nat} (ha : El w a) (hb : El w b) (w1 : 1 ≤ w) (w2 : w ≤ 64) (r1 : 1 ≤ r) (r2 : r ≤ 64) :
    saturateref12_exact.f op w r ((a.1 : Int), (a.2 : Int)) ((b.1 : Int), (b.2 : Int)) = some (((kexS op w r a b).1 : Int), ((kexS op w r a b).2 : Int)) := by
  unfold saturateref12_exact.f saturateref12_exact.g
  have hp : saturateref12_exact.p15 (fuel0 + 1) (fuel0 + 1) = some (0, 0) := by rw [saturateref12_exact.p15_eq]; rfl
  have hj := fun m hm => ref_exact_j8 fuel0 (m := m) ha w2 hm 0 0 w (fuel0 + 1) 0 rfl (by omega) (fuelg (by omega))
  generalize fuel0 + 1 = fu at *
  simp only
  rw [ref_single ha w1 w2, Option.bind_some, ref_single hb w1 w2, Option.bind_some]
  have tail : ∀ K : Option (Int × Int), K = some (((if op = 12 ∧ kone w b ∧ ones b.2 = 1 then kremS w (klog b.2) a else (0, 0)).1 : Int), ((if op = 12 ∧ kone w b ∧ ones b.2 = 1 then kremS w (klog b.2) a else (0, 0)).2 : Int)) → ¬ (kone w a ∧ kone w b) → K = some (((kexS op w r a b).1 : Int), ((kexS op w r a b).2 : Int)) := by
    intro K hK hn
    rw [hK]; unfold kexS; rw [if_neg hn]
  have body : ∀ c : Bool, c = decide (kone w b) → (bif (op == 12) then bif c then (saturateref01_Count.f (b.2 : Int)).bind fun r5 => bif (r5 == 1) then (saturateref12_Top.f).bind fun r6 => saturateref12_exact.j8 fu fu w (b.2 : Int) 0 a.1 a.2 0 0 r6.1 r6.2 else saturateref12_exact.p15 fu fu else saturateref12_exact.p15 fu fu else saturateref12_exact.p15 fu fu) =
      some (((if op = 12 ∧ kone w b ∧ ones b.2 = 1 then kremS w (klog b.2) a else (0, 0)).1 : Int), ((if op = 12 ∧ kone w b ∧ ones b.2 = 1 then kremS w (klog b.2) a else (0, 0)).2 : Int)) := by
    intro c hc
    rw [hp, saturateref01_Count_eq hb.l2, Option.bind_some, saturateref12_Top.f, Option.bind_some]
    by_cases h12 : op = 12
    · rw [show (op == 12) = true by rw [beq_iff_eq]; exact h12, cond_true]
      by_cases hk : kone w b
      · rw [hc, decide_eq_true hk, cond_true]
        by_cases h1 : ones b.2 = 1
        · obtain ⟨m, hm, e⟩ := ones_one hb.l2 h1
          have hb1 : ((ones b.2 : Int) == 1) = true := by rw [beq_iff_eq]; omega
          rw [if_pos ⟨h12, hk, h1⟩, hb1, cond_true, e, klog_pow]
          exact hj m hm
        · have hb1 : ((ones b.2 : Int) == 1) = false := by rw [beq_eq_false_iff_ne]; omega
          rw [if_neg (show ¬ (op = 12 ∧ kone w b ∧ ones b.2 = 1) from fun h => h1 h.2.2), hb1, cond_false]; rfl
      · rw [hc, decide_eq_false hk, cond_false, if_neg (show ¬ (op = 12 ∧ kone w b ∧ ones b.2 = 1) from fun h => hk h.2.1)]; rfl
    · rw [show (op == 12) = false by rw [beq_eq_false_iff_ne]; exact h12, cond_false, if_neg (show ¬ (op = 12 ∧ kone w b ∧ ones b.2 = 1) from fun h => h12 h.1)]; rfl
  by_cases h1 : kone w a
  · rw [if_pos h1, cond_true]
    by_cases h2 : kone w b
    · rw [if_pos h2, cond_true, ref_value ho w1 w2 ha.l2 hb.l2, Option.bind_some, ref_const r1 r2 (kval_lt w2 _ _), Option.bind_some]
      unfold kexS; rw [if_pos ⟨h1, h2⟩]
    · have hb := body false (decide_eq_false h2).symm
      rw [cond_false] at hb
      rw [if_neg h2, cond_false]
      refine tail _ ?_ (fun h => h2 h.2)
      rw [← hb, cond_false]
  · rw [if_neg h1, cond_false]
    refine tail _ ?_ (fun h => h1 h.1)
    by_cases h2 : kone w b
    · rw [if_pos h2]; exact body true (decide_eq_true h2).symm
    · have hb := body false (decide_eq_false h2).symm
      rw [if_neg h2, ← hb, cond_false, cond_false]
def keqS (w : Nat) (a b : Nat × Nat) : Nat × Nat := if a.1 &&& b.2 ≠ 0 ∨ a.2 &&& b.1 ≠ 0 then kcst 1 0 else if kone w a ∧ kone w b ∧ a.2 = b.2 then kcst 1 1 else (0, 0)
theorem kone_bit {w : Nat} (hw : w ≤ 64) {k : Nat × Nat} (hk : El w k) (h : kone w k) (i : Nat) : k.1.testBit i = (decide (i < w) && !k.2.testBit i) := by
  have := bit_of (show kunk w k = 0 from h) i
  rw [kunk_bit hk.l1 hk.l2 hw, Nat.zero_testBit] at this
  by_cases hi : i < w
  · have h2 := hk.dis i
    revert this h2; rw [decide_eq_true hi]
    cases k.1.testBit i <;> cases k.2.testBit i <;> decide
  · rw [hk.b1 hw (by omega), decide_eq_false hi]; rfl
theorem kone_ext {w : Nat} (hw : w ≤ 64) {a b : Nat × Nat} (ha : El w a) (hb : El w b) (h1 : kone w a) (h2 : kone w b) (e : a.2 = b.2) : a = b :=
  Prod.ext (bits_ext fun i => by rw [kone_bit hw ha h1, kone_bit hw hb h2, e]) e
theorem ref_equal {w : Nat} {a b : Nat × Nat} (ha : El w a) (hb : El w b) (w1 : 1 ≤ w) (w2 : w ≤ 64) : saturateref12_equal.f w ((a.1 : Int), (a.2 : Int)) ((b.1 : Int), (b.2 : Int)) = some (((keqS w a b).1 : Int), ((keqS w a b).2 : Int)) := by
  unfold saturateref12_equal.f saturateref12_equal.g
  have hp : saturateref12_equal.p7 (fuel0 + 1) (fuel0 + 1) = some (0, 0) := by rw [saturateref12_equal.p7_eq]; rfl
  generalize fuel0 + 1 = fu at *
  have c0 := ref_const (w := 1) (by decide) (by decide) (x := 0) (by decide)
  have c1 := ref_const (w := 1) (by decide) (by decide) (x := 1) (by decide)
  rw [show ((1 : Nat) : Int) = 1 from rfl, show ((0 : Nat) : Int) = 0 from rfl] at c0
  rw [show ((1 : Nat) : Int) = 1 from rfl] at c1
  simp only
  rw [ref_single ha w1 w2, Option.bind_some, ref_single hb w1 w2, Option.bind_some, hp, and64 ha.l1 hb.l2, and64 ha.l2 hb.l1, cast0n, cast0n, c0, c1]
  unfold keqS
  by_cases g1 : a.1 &&& b.2 = 0
  · rw [decide_eq_true g1, Bool.not_true, cond_false]
    by_cases g2 : a.2 &&& b.1 = 0
    · rw [decide_eq_true g2, Bool.not_true, cond_false, if_neg (show ¬ (a.1 &&& b.2 ≠ 0 ∨ a.2 &&& b.1 ≠ 0) from fun h => h.elim (fun h => h g1) (fun h => h g2))]
      by_cases h1 : kone w a
      · rw [if_pos h1, cond_true]
        by_cases h2 : kone w b
        · rw [if_pos h2, cond_true]
          simp only [castb]
          by_cases e : a.2 = b.2
          · rw [decide_eq_true e, if_pos ⟨h1, h2, e⟩]; rfl
          · rw [decide_eq_false e, if_neg (show ¬ (kone w a ∧ kone w b ∧ a.2 = b.2) from fun h => e h.2.2)]; rfl
        · rw [if_neg h2, cond_false, if_neg (show ¬ (kone w a ∧ kone w b ∧ a.2 = b.2) from fun h => h2 h.2.1)]; rfl
      · rw [if_neg h1, cond_false, if_neg (show ¬ (kone w a ∧ kone w b ∧ a.2 = b.2) from fun h => h1 h.1)]; rfl
    · rw [decide_eq_false g2, if_pos (Or.inr g2)]; rfl
  · rw [decide_eq_false g1, if_pos (Or.inl g1)]; rfl
theorem prog_equal {w : Nat} {a b : Nat × Nat} (ha : El w a) (hb : El w b) (w1 : 1 ≤ w) (w2 : w ≤ 64) : known_equal.f w ((a.1 : Int), (a.2 : Int)) ((b.1 : Int), (b.2 : Int)) = some (((keqS w a b).1 : Int), ((keqS w a b).2 : Int)) := by
  unfold known_equal.f known_equal.g
  have hp : known_equal.p6 (fuel0 + 1) (fuel0 + 1) 0 0 = some (0, 0) := by rw [known_equal.p6_eq]
  generalize fuel0 + 1 = fu at *
  have c0 := prog_const (w := 1) (by decide) (by decide) (x := 0) (by decide)
  have c1 := prog_const (w := 1) (by decide) (by decide) (x := 1) (by decide)
  rw [show ((1 : Nat) : Int) = 1 from rfl, show ((0 : Nat) : Int) = 0 from rfl] at c0
  rw [show ((1 : Nat) : Int) = 1 from rfl] at c1
  simp only
  rw [prog_single ha w1 w2, Option.bind_some, hp, and64 ha.l1 hb.l2, and64 ha.l2 hb.l1, or64 (and_lt hb.l2) (and_lt hb.l1), cast0n, c0, c1]
  have hor : (a.1 &&& b.2 ||| a.2 &&& b.1) = 0 ↔ a.1 &&& b.2 = 0 ∧ a.2 &&& b.1 = 0 := by
    constructor
    · intro h
      refine ⟨bits_ext fun i => ?_, bits_ext fun i => ?_⟩ <;>
      · have := bit_of h i
        rw [Nat.testBit_or, Nat.zero_testBit] at this
        rw [Nat.zero_testBit]
        revert this
        cases (a.1 &&& b.2).testBit i <;> cases (a.2 &&& b.1).testBit i <;> decide
    · intro h; rw [h.1, h.2]; rfl
  unfold keqS
  by_cases g : (a.1 &&& b.2 ||| a.2 &&& b.1) = 0
  · have gg := hor.1 g
    rw [decide_eq_true g, Bool.not_true, cond_false, if_neg (show ¬ (a.1 &&& b.2 ≠ 0 ∨ a.2 &&& b.1 ≠ 0) from fun h => h.elim (fun h => h gg.1) (fun h => h gg.2))]
    by_cases h1 : kone w a
    · rw [if_pos h1, cond_true]
      simp only [castb, Bool.and_true]
      by_cases e : a = b
      · subst e
        rw [decide_eq_true rfl, decide_eq_true rfl, if_pos ⟨h1, h1, rfl⟩]; rfl
      · rw [if_neg (show ¬ (kone w a ∧ kone w b ∧ a.2 = b.2) from fun h => e (kone_ext w2 ha hb h.1 h.2.1 h.2.2))]
        have : (decide (a.1 = b.1) && decide (a.2 = b.2)) = false := by
          rw [← Bool.decide_and, decide_eq_false_iff_not]; exact fun h => e (Prod.ext h.1 h.2)
        rw [this]; rfl
    · rw [if_neg h1, cond_false, if_neg (show ¬ (kone w a ∧ kone w b ∧ a.2 = b.2) from fun h => h1 h.1)]; rfl
  · have gg : a.1 &&& b.2 ≠ 0 ∨ a.2 &&& b.1 ≠ 0 := by
      rcases Decidable.em (a.1 &&& b.2 = 0) with h | h
      · exact .inr fun h2 => g (hor.2 ⟨h, h2⟩)
      · exact .inl h
    rw [decide_eq_false g, if_pos gg]; rfl
def cF (u : Nat) (a b : Nat) (i : Nat) : Bool := if u ≤ i then a.testBit (i - u) else b.testBit i
theorem cFG {v u : Nat} {a b : Nat × Nat} (ha : El v a) (hb : El u b) (i : Nat) : cF u a.1 b.1 i = true → cF u a.2 b.2 i = false := by
  unfold cF
  split
  · exact ha.dis _
  · exact hb.dis _
theorem concat_bld {v u : Nat} (huv : v + u ≤ 64) (a b : Nat) (ha : a < 2 ^ v) (hb : b < 2 ^ u) : vconcat v u a b = bld (cF u a b) (v + u) := bits_ext fun i => by
  rw [testBit_vconcat, testBit_bld]; unfold cF
  by_cases h : u ≤ i
  · rw [if_pos h, decide_eq_true h, decide_eq_false (show ¬ i < u by omega)]
    by_cases h2 : i < v + u
    · rw [decide_eq_true h2, decide_eq_true (show i < 64 by omega), decide_eq_true (show i - u < v by omega)]; simp
    · rw [decide_eq_false h2, decide_eq_false (show ¬ i - u < v by omega)]; simp
  · rw [if_neg h, decide_eq_false h, decide_eq_true (show i < u by omega), decide_eq_true (show i < v + u by omega)]; simp
theorem ref_concat_j3 (fu : Nat) {v u : Nat} {a b : Nat × Nat} (ha : El v a) (hb : El u b) (huv : v + u ≤ 64) (p q : Int) (d : Nat) : ∀ (n i : Nat), v + u - i = d → i ≤ v + u → d < n →
    saturateref12_concat.j3 (fu + 1) n v u i a.1 a.2 b.1 b.2 p q (bld (cF u a.1 b.1) i : Int) (bld (cF u a.2 b.2) i : Int) = some ((bld (cF u a.1 b.1) (v + u) : Int), (bld (cF u a.2 b.2) (v + u) : Int)) := by
  induction d with
  | zero =>
    intro n i hd hi hn
    obtain ⟨n, rfl⟩ : ∃ m, n = m + 1 := ⟨n - 1, by omega⟩
    obtain rfl : i = v + u := by omega
    rw [saturateref12_concat.j3_succ, wrapi, wrapi_of (a := (v : Int) + u) (by omega) (by omega), bifd_neg (by omega)]
  | succ d ih =>
    intro n i hd hi hn
    obtain ⟨n, rfl⟩ : ∃ m, n = m + 1 := ⟨n - 1, by omega⟩
    have hwi := ref_with (cF u a.1 b.1) (cF u a.2 b.2) (i := i) (by omega) (cFG ha hb i)
    have hn' := ih n (i + 1) (by omega) (by omega) (by omega)
    have e1 : IntKind.i64.wrap ((v : Int) + u) = (v : Int) + u := by rw [wrapi, wrapi_of (by omega) (by omega)]
    have e2 : IntKind.i64.wrap ((i : Int) + 1) = ((i + 1 : Nat) : Int) := by rw [wrapi, wrapi_succ (by omega)]
    rw [saturateref12_concat.j3_succ, e1, bifd_pos (by omega), ref_bit hb.l1 hb.l2 (by omega), Option.bind_some]
    simp only [saturateref12_concat.p8_eq, e2]
    by_cases h : u ≤ i
    · have e3 : IntKind.i64.wrap ((i : Int) - u) = ((i - u : Nat) : Int) := by rw [wrapi, wrapi_of (by omega) (by omega)]; omega
      have e4 : st (cF u a.2 b.2 i) (!cF u a.1 b.1 i) = st (a.2.testBit (i - u)) (!a.1.testBit (i - u)) := by unfold cF; rw [if_pos h, if_pos h]
      rw [bifd_pos (by omega), e3, ref_bit ha.l1 ha.l2 (by omega), Option.bind_some, ← e4, hwi, Option.bind_some]; exact hn'
    · have e4 : st (cF u a.2 b.2 i) (!cF u a.1 b.1 i) = st (b.2.testBit i) (!b.1.testBit i) := by unfold cF; rw [if_neg h, if_neg h]
      rw [bifd_neg (by omega), ← e4, hwi, Option.bind_some]; exact hn'
def kconS (v u : Nat) (a b : Nat × Nat) : Nat × Nat := (vconcat v u a.1 b.1, vconcat v u a.2 b.2)
theorem ref_concat {v u : Nat} {a b : Nat × Nat} (ha : El v a) (hb : El u b) (huv : v + u ≤ 64) : saturateref12_concat.f v u ((a.1 : Int), (a.2 : Int)) ((b.1 : Int), (b.2 : Int)) = some (((kconS v u a b).1 : Int), ((kconS v u a b).2 : Int)) := by
  unfold saturateref12_concat.f saturateref12_concat.g saturateref12_Top.f kconS
  rw [concat_bld huv _ _ (lt_of_le_mask (ha.m1 (by omega))) (lt_of_le_mask (hb.m1 (by omega))), concat_bld huv _ _ (lt_of_le_mask (ha.m2 (by omega))) (lt_of_le_mask (hb.m2 (by omega)))]
  exact ref_concat_j3 fuel0 ha hb huv 0 0 (v + u) (fuel0 + 1) 0 rfl (by omega) (fuelg (by omega))
end Go.Proofs.YtcihbcffokjgjaaGreat.Fn
namespace Go.Proofs.YtcihbcffokjgjaaGreat.Fn
open Go Go.RowKit Go.Proofs.YtcihbcffokjgjaaGreat.Ev Go.Proofs.YtcihbcffokjgjaaGreat.Bv
set_option linter.unusedVariables false
set_option linter.unusedSimpArgs false
set_option maxRecDepth 100000
def kbinS (op : Int) (r v u : Nat) (a b : Nat × Nat) : Nat × Nat :=
  if op = 5 then (a.1 ||| b.1, a.2 &&& b.2) else if op = 6 then (a.1 &&& b.1, a.2 ||| b.2) else if op = 7 then ((a.1 &&& b.1) ||| (a.2 &&& b.2), (a.1 &&& b.2) ||| (a.2 &&& b.1))
  else if op = 8 then ksum v 0 a b else if op = 9 then ksum v 1 a (b.2, b.1) else if op = 20 then kconS v u a b else if op = 16 then keqS v a b
  else if op = 13 ∨ op = 14 ∨ op = 15 then (if kone v b then kshS op v a b.2 else (0, 0)) else if op = 10 then ktimS v a b else kexS op v r a b
theorem ref_binary {op : Int} (h5 : 5 ≤ op) (h18 : op ≤ 18) {r v : Nat} {a b : Nat × Nat} (ha : El v a) (hb : El v b) (v1 : 1 ≤ v) (v2 : v ≤ 64) (r1 : 1 ≤ r) (r2 : r ≤ 64) :
    saturateref12_binary.f op v r ((a.1 : Int), (a.2 : Int)) ((b.1 : Int), (b.2 : Int)) = some (((kbinS op r v v a b).1 : Int), ((kbinS op r v v a b).2 : Int)) := by
  have hs : op = 5 ∨ op = 6 ∨ op = 7 ∨ op = 8 ∨ op = 9 ∨ op = 10 ∨ op = 11 ∨ op = 12 ∨ op = 13 ∨ op = 14 ∨ op = 15 ∨ op = 16 ∨ op = 17 ∨ op = 18 := by omega
  unfold saturateref12_binary.f saturateref12_bitwise.f
  have add := saturateref12_Add_eq (v : Int) ha.l1 ha.l2 hb.l1 hb.l2
  have sub := saturateref12_Sub_eq (v : Int) ha.l1 ha.l2 hb.l1 hb.l2
  rw [MK, W_of v1 v2, ha.kof, hb.kof] at add sub
  unfold kbinS
  simp only
  rcases hs with rfl | rfl | rfl | rfl | rfl | rfl | rfl | rfl | rfl | rfl | rfl | rfl | rfl | rfl
  all_goals simp only [Int.reduceBEq, cond_true, cond_false, Int.reduceEq, if_true, if_false, or_self, or_true, true_or, or_false, false_or]
  · rw [or64 ha.l1 hb.l1, and64 ha.l2 hb.l2]; rfl
  · rw [and64 ha.l1 hb.l1, or64 ha.l2 hb.l2]; rfl
  · rw [and64 ha.l1 hb.l1, and64 ha.l2 hb.l2, and64 ha.l1 hb.l2, and64 ha.l2 hb.l1, or64 (and_lt hb.l1) (and_lt hb.l2), or64 (and_lt hb.l2) (and_lt hb.l1)]; rfl
  · rw [add]; rfl
  · rw [sub]; rfl
  · rw [ref_times ha hb v1 v2]; rfl
  · rw [ref_exact (by decide) ha hb v1 v2 r1 r2]; rfl
  · rw [ref_exact (by decide) ha hb v1 v2 r1 r2]; rfl
  · rw [ref_shifted (by decide) ha hb v1 v2]; split <;> rfl
  · rw [ref_shifted (by decide) ha hb v1 v2]; split <;> rfl
  · rw [ref_shifted (by decide) ha hb v1 v2]; split <;> rfl
  · rw [ref_equal ha hb v1 v2]; rfl
  · rw [ref_exact (by decide) ha hb v1 v2 r1 r2]; rfl
  · rw [ref_exact (by decide) ha hb v1 v2 r1 r2]; rfl
theorem one_shl_pred {n r : Nat} (hn : n ≤ r) (r1 : 1 ≤ r) (r2 : r ≤ 64) : bits_Cut.f (r : Int) (IntKind.u64.wrap ((shl .u64 1 (n : Int)) - 1)) = some (vmask n : Int) := by
  have e : IntKind.u64.wrap ((shl .u64 1 (n : Int)) - 1) = (vmask n : Int) := by
    rw [show (1 : Int) = ((1 : Nat) : Int) from rfl, shl64, Nat.one_shiftLeft]
    unfold vmask
    rcases Nat.lt_or_ge n 64 with h | h
    · have h2 : 2 ^ n < 18446744073709551616 := by rw [← p64]; exact Nat.pow_lt_pow_right (by decide) h
      have := pw_pos n
      rw [Nat.mod_eq_of_lt h2, wrapu]; omega
    · obtain rfl : n = 64 := by omega
      decide
  have hl : vmask n ≤ vmask r := by have := Nat.pow_le_pow_right (n := 2) (by decide) hn; unfold vmask; omega
  rw [e, bits_Cut_eq _ (vmask_lt (by omega)), W_of r1 r2]
  unfold vcut; rw [cut_of_le hl]
theorem prog_rem {w m : Nat} {a : Nat × Nat} (ha : El w a) (w2 : w ≤ 64) (hm : m < w) : (a.1 ||| vnot w (2 ^ m - 1), a.2 &&& (2 ^ m - 1)) = kremS w m a := by
  have hb : ∀ i, (2 ^ m - 1).testBit i = decide (i < m) := fun i => testBit_mask m i
  refine Prod.ext (bits_ext fun i => ?_) (bits_ext fun i => ?_)
  · show (a.1 ||| vnot w (2 ^ m - 1)).testBit i = (bld _ w).testBit i
    rw [Nat.testBit_or, testBit_vnot, hb, testBit_bld]
    by_cases h : i < w
    · rw [decide_eq_true h]
      by_cases h2 : i < m
      · rw [decide_eq_true h2, if_pos h2]; simp
      · rw [decide_eq_false h2, if_neg h2]; simp
    · rw [decide_eq_false h, ha.b1 w2 (by omega)]; rfl
  · show (a.2 &&& (2 ^ m - 1)).testBit i = (bld _ w).testBit i
    rw [Nat.testBit_and, hb, testBit_bld]
    by_cases h2 : i < m
    · rw [decide_eq_true h2, if_pos h2, decide_eq_true (show i < w by omega)]; simp
    · rw [decide_eq_false h2, if_neg h2]; simp
theorem prog_p27 (fu : Nat) {op : Int} (ho : op = 10 ∨ op = 11 ∨ op = 12 ∨ op = 17 ∨ op = 18) {r v : Nat} {a b : Nat × Nat} (ha : El v a) (hb : El v b) (v1 : 1 ≤ v) (v2 : v ≤ 64) (r1 : 1 ≤ r) (r2 : r ≤ 64) (hr : op = 10 → r = v) (hn : ¬ (kone v a ∧ kone v b)) (y : Int) (c : Bool) (hyc : (y, c) = (if kone v b then ((b.2 : Int), true) else (0, false))) :
    known_binary.p27 (fuel0 + 1) (fuel0 + 1) op r v y c a.1 a.2 b.1 b.2 0 0 = some (((if op = 10 then ktimS v a b else kexS op v r a b).1 : Int), ((if op = 10 then ktimS v a b else kexS op v r a b).2 : Int)) := by
  have hp : known_binary.p32 (fuel0 + 1) (fuel0 + 1) 0 0 = some (0, 0) := by rw [known_binary.p32_eq]
  have hq := known_binary.p27_eq fuel0 (fuel0 + 1) op r v y c a.1 a.2 b.1 b.2 0 0
  generalize fuel0 + 1 = fu at *
  rw [hq, hp]
  by_cases h10 : op = 10
  · subst h10
    obtain rfl := hr rfl
    have la := klow_le r a
    have lb := klow_le r b
    have hmn : mn (IntKind.i64.wrap ((klow r a : Int) + (klow r b : Int))) (r : Int) = (ktim r a b : Int) := by
      rw [wrapi, wrapi_of (by omega) (by omega), ← Int.natCast_add, mn_nat]; unfold ktim; rw [Nat.min_comm]
    rw [show ((10 : Int) == 10) = true from rfl, cond_true, prog_low ha v2, Option.bind_some, prog_low hb v2, Option.bind_some, hmn, bifd_neg (by omega), one_shl_pred (by unfold ktim; omega) r1 r2, Option.bind_some, if_pos rfl]
    unfold ktimS; rw [if_neg hn]; rfl
  · rw [show (op == 10) = false by rw [beq_eq_false_iff_ne]; exact h10, cond_false, if_neg h10]
    unfold kexS; rw [if_neg hn]
    by_cases h12 : op = 12
    · rw [show (op == 12) = true by rw [beq_iff_eq]; exact h12, cond_true]
      by_cases hk : kone v b
      · rw [if_pos hk] at hyc
        obtain ⟨rfl, rfl⟩ := Prod.mk.inj hyc
        rw [cond_true, bits_Count_eq hb.l2, Option.bind_some]
        by_cases h1 : ones b.2 = 1
        · obtain ⟨m, hm, e⟩ := ones_one hb.l2 h1
          have hb1 : ((ones b.2 : Int) == 1) = true := by rw [beq_iff_eq]; omega
          have hmv : m < v := by
            have h2 := lt_of_le_mask (hb.m2 v2)
            rw [e] at h2
            exact (Nat.pow_lt_pow_iff_right (by decide)).1 h2
          have hpm : 2 ^ m < 18446744073709551616 := by have := hb.l2; rw [e] at this; exact this
          have h0 := pw_pos m
          rw [if_pos ⟨h12, hk, h1⟩, hb1, cond_true, e, klog_pow, ← prog_rem ha v2 hmv]
          have ew : IntKind.u64.wrap (((2 ^ m : Nat) : Int) - 1) = ((2 ^ m - 1 : Nat) : Int) := by rw [wrapu]; omega
          rw [ew, bits_Not_eq _ (Nat.lt_of_le_of_lt (Nat.sub_le _ _) hpm), Option.bind_some, W_of v1 v2, or64 ha.l1 (vnot_lt _ v2), and64 ha.l2 (Nat.lt_of_le_of_lt (Nat.sub_le _ _) hpm)]
        · have hb1 : ((ones b.2 : Int) == 1) = false := by rw [beq_eq_false_iff_ne]; omega
          rw [if_neg (show ¬ (op = 12 ∧ kone v b ∧ ones b.2 = 1) from fun h => h1 h.2.2), hb1, cond_false]; rfl
      · rw [if_neg hk] at hyc
        obtain ⟨rfl, rfl⟩ := Prod.mk.inj hyc
        rw [cond_false, if_neg (show ¬ (op = 12 ∧ kone v b ∧ ones b.2 = 1) from fun h => hk h.2.1)]; rfl
    · rw [show (op == 12) = false by rw [beq_eq_false_iff_ne]; exact h12, cond_false, if_neg (show ¬ (op = 12 ∧ kone v b ∧ ones b.2 = 1) from fun h => h12 h.1)]; rfl
theorem prog_binary {op : Int} (h5 : 5 ≤ op) (h20 : op ≤ 20) (h19 : op ≠ 19) {r v u : Nat} {a b : Nat × Nat} (ha : El v a) (hb : El u b) (v1 : 1 ≤ v) (v2 : v ≤ 64) (u1 : 1 ≤ u) (u2 : u ≤ 64) (r1 : 1 ≤ r) (r2 : r ≤ 64) (hu : op ≠ 20 → u = v) (hr : op = 10 → r = v) :
    known_binary.f op r v u ((a.1 : Int), (a.2 : Int)) ((b.1 : Int), (b.2 : Int)) = some (((kbinS op r v u a b).1 : Int), ((kbinS op r v u a b).2 : Int)) := by
  unfold known_binary.f known_binary.g
  simp only
  by_cases h : op = 20
  · subst h
    simp only [Int.reduceBEq, cond_true, cond_false]
    rw [bits_Concat_eq _ _ ha.l1 hb.l1, Option.bind_some, bits_Concat_eq _ _ ha.l2 hb.l2, Option.bind_some, W_of v1 v2, W_of u1 u2]; rfl
  · obtain rfl := hu h
    have hs : op = 5 ∨ op = 6 ∨ op = 7 ∨ op = 8 ∨ op = 9 ∨ op = 13 ∨ op = 14 ∨ op = 15 ∨ op = 16 ∨ (op = 10 ∨ op = 11 ∨ op = 12 ∨ op = 17 ∨ op = 18) := by omega
    have add := known_Add_eq (u : Int) ha.l1 ha.l2 hb.l1 hb.l2
    have sub := known_Sub_eq (u : Int) ha.l1 ha.l2 hb.l1 hb.l2
    rw [MK, W_of v1 v2, ha.kof, hb.kof] at add sub
    have p22 : known_binary.p22 (fuel0 + 1) (fuel0 + 1) = some (0, 0) := by rw [known_binary.p22_eq]
    have p27 := fun ho hn y c hyc => prog_p27 0 (op := op) ho ha hb v1 v2 r1 r2 hr hn y c hyc
    generalize fuel0 + 1 = fu at *
    rw [prog_single ha v1 v2, prog_single hb v1 v2]
    simp only [Option.bind_some]
    have sh : ∀ K : Option (Int × Int), op = 13 ∨ op = 14 ∨ op = 15 → K = some (((if kone u b then kshS op u a b.2 else (0, 0)).1 : Int), ((if kone u b then kshS op u a b.2 else (0, 0)).2 : Int)) → K = some (((kbinS op r u u a b).1 : Int), ((kbinS op r u u a b).2 : Int)) := by
      intro K ho hK
      rw [hK]; unfold kbinS
      rw [if_neg (show ¬ op = 5 by omega), if_neg (show ¬ op = 6 by omega), if_neg (show ¬ op = 7 by omega), if_neg (show ¬ op = 8 by omega), if_neg (show ¬ op = 9 by omega), if_neg (show ¬ op = 20 by omega), if_neg (show ¬ op = 16 by omega), if_pos ho]
    have shb : op = 13 ∨ op = 14 ∨ op = 15 → (bif ((if kone u b then ((b.2 : Int), true) else (0, false)) : Int × Bool).2 then (known_shift.f op u ((a.1 : Int), (a.2 : Int)) ((if kone u b then ((b.2 : Int), true) else (0, false)) : Int × Bool).1).bind fun r7 => some (r7.1, r7.2) else known_binary.p22 fu fu) = some (((if kone u b then kshS op u a b.2 else (0, 0)).1 : Int), ((if kone u b then kshS op u a b.2 else (0, 0)).2 : Int)) := by
      intro ho
      by_cases hk : kone u b
      · rw [if_pos hk, if_pos hk, cond_true, prog_shift ho ha v1 v2 (hb.m2 v2), Option.bind_some]
      · rw [if_neg hk, if_neg hk, cond_false, p22]; rfl
    rcases hs with rfl | rfl | rfl | rfl | rfl | rfl | rfl | rfl | rfl | ho
    · rw [show ((5 : Int) == 5) = true from rfl, cond_true, or64 ha.l1 hb.l1, and64 ha.l2 hb.l2]; rfl
    · rw [show ((6 : Int) == 5) = false from rfl, cond_false, show ((6 : Int) == 6) = true from rfl, cond_true, and64 ha.l1 hb.l1, or64 ha.l2 hb.l2]; rfl
    · rw [show ((7 : Int) == 5) = false from rfl, cond_false, show ((7 : Int) == 6) = false from rfl, cond_false, show ((7 : Int) == 7) = true from rfl, cond_true, and64 ha.l1 hb.l1, and64 ha.l2 hb.l2, and64 ha.l1 hb.l2, and64 ha.l2 hb.l1, or64 (and_lt hb.l1) (and_lt hb.l2), or64 (and_lt hb.l2) (and_lt hb.l1)]; rfl
    · rw [show ((8 : Int) == 5) = false from rfl, cond_false, show ((8 : Int) == 6) = false from rfl, cond_false, show ((8 : Int) == 7) = false from rfl, cond_false, show ((8 : Int) == 8) = true from rfl, cond_true, add]; rfl
    · rw [show ((9 : Int) == 5) = false from rfl, cond_false, show ((9 : Int) == 6) = false from rfl, cond_false, show ((9 : Int) == 7) = false from rfl, cond_false, show ((9 : Int) == 8) = false from rfl, cond_false, show ((9 : Int) == 9) = true from rfl, cond_true, sub]; rfl
    · refine sh _ (by decide) ?_
      rw [show ((13 : Int) == 5) = false from rfl, cond_false, show ((13 : Int) == 6) = false from rfl, cond_false, show ((13 : Int) == 7) = false from rfl, cond_false, show ((13 : Int) == 8) = false from rfl, cond_false, show ((13 : Int) == 9) = false from rfl, cond_false, show ((13 : Int) == 20) = false from rfl, cond_false, show ((13 : Int) == 16) = false from rfl, cond_false, show ((13 : Int) == 13) = true from rfl, cond_true]
      exact shb (by decide)
    · refine sh _ (by decide) ?_
      rw [show ((14 : Int) == 5) = false from rfl, cond_false, show ((14 : Int) == 6) = false from rfl, cond_false, show ((14 : Int) == 7) = false from rfl, cond_false, show ((14 : Int) == 8) = false from rfl, cond_false, show ((14 : Int) == 9) = false from rfl, cond_false, show ((14 : Int) == 20) = false from rfl, cond_false, show ((14 : Int) == 16) = false from rfl, cond_false, show ((14 : Int) == 13) = false from rfl, cond_false, show ((14 : Int) == 14) = true from rfl, cond_true]
      exact shb (by decide)
    · refine sh _ (by decide) ?_
      rw [show ((15 : Int) == 5) = false from rfl, cond_false, show ((15 : Int) == 6) = false from rfl, cond_false, show ((15 : Int) == 7) = false from rfl, cond_false, show ((15 : Int) == 8) = false from rfl, cond_false, show ((15 : Int) == 9) = false from rfl, cond_false, show ((15 : Int) == 20) = false from rfl, cond_false, show ((15 : Int) == 16) = false from rfl, cond_false, show ((15 : Int) == 13) = false from rfl, cond_false, show ((15 : Int) == 14) = false from rfl, cond_false, show ((15 : Int) == 15) = true from rfl, cond_true]
      exact shb (by decide)
    · rw [show ((16 : Int) == 5) = false from rfl, cond_false, show ((16 : Int) == 6) = false from rfl, cond_false, show ((16 : Int) == 7) = false from rfl, cond_false, show ((16 : Int) == 8) = false from rfl, cond_false, show ((16 : Int) == 9) = false from rfl, cond_false, show ((16 : Int) == 20) = false from rfl, cond_false, show ((16 : Int) == 16) = true from rfl, cond_true, prog_equal ha hb v1 v2]; rfl
    · rw [show (op == 5) = false by rw [beq_eq_false_iff_ne]; omega, cond_false, show (op == 6) = false by rw [beq_eq_false_iff_ne]; omega, cond_false, show (op == 7) = false by rw [beq_eq_false_iff_ne]; omega, cond_false, show (op == 8) = false by rw [beq_eq_false_iff_ne]; omega, cond_false, show (op == 9) = false by rw [beq_eq_false_iff_ne]; omega, cond_false, show (op == 20) = false by rw [beq_eq_false_iff_ne]; omega, cond_false, show (op == 16) = false by rw [beq_eq_false_iff_ne]; omega, cond_false, show (op == 13) = false by rw [beq_eq_false_iff_ne]; omega, cond_false, show (op == 14) = false by rw [beq_eq_false_iff_ne]; omega, cond_false, show (op == 15) = false by rw [beq_eq_false_iff_ne]; omega, cond_false]
      have fin : ∀ K : Option (Int × Int), K = some (((if op = 10 then ktimS u a b else kexS op u r a b).1 : Int), ((if op = 10 then ktimS u a b else kexS op u r a b).2 : Int)) → K = some (((kbinS op r u u a b).1 : Int), ((kbinS op r u u a b).2 : Int)) := by
        intro K hK
        rw [hK]; unfold kbinS
        rw [if_neg (show ¬ op = 5 by omega), if_neg (show ¬ op = 6 by omega), if_neg (show ¬ op = 7 by omega), if_neg (show ¬ op = 8 by omega), if_neg (show ¬ op = 9 by omega), if_neg (show ¬ op = 20 by omega), if_neg (show ¬ op = 16 by omega), if_neg (show ¬ (op = 13 ∨ op = 14 ∨ op = 15) by omega)]
      refine fin _ ?_
      by_cases h1 : kone u a
      · by_cases h2 : kone u b
        · rw [if_pos h1, if_pos h2, cond_true, cond_true, prog_value ho v1 v2 ha.l2 hb.l2, Option.bind_some, prog_const r1 r2 (kval_lt v2 _ _), Option.bind_some]
          by_cases h10 : op = 10
          · obtain rfl := hr h10
            rw [if_pos h10]; unfold ktimS; rw [if_pos ⟨h1, h2⟩, h10]; rfl
          · rw [if_neg h10]; unfold kexS; rw [if_pos ⟨h1, h2⟩]
        · rw [if_pos h1, if_neg h2, cond_true, cond_false]
          exact p27 ho (fun h => h2 h.2) 0 false (by rw [if_neg h2])
      · rw [if_neg h1, cond_false]
        by_cases h2 : kone u b
        · rw [if_pos h2]; exact p27 ho (fun h => h1 h.1) _ _ (by rw [if_pos h2])
        · rw [if_neg h2]; exact p27 ho (fun h => h1 h.1) _ _ (by rw [if_neg h2])
def elm (g z o : Nat → Int) (i : Nat) : Nat × Nat := kof (vmask (W (g i))) (z i).toNat (o i).toNat
def kiteS (c a b : Nat × Nat) : Nat × Nat := if kone 1 c then (if c.2 = 1 then a else b) else (a.1 &&& b.1, a.2 &&& b.2)
def kvalS (op : Int) (r x : Nat) (g : Nat → Int) (e : Nat → Nat × Nat) : Nat × Nat :=
  if op = 1 then (0, 0) else if op = 2 then kcst r x else if op = 19 then kiteS (e 0) (e 1) (e 2)
  else if op = 3 ∨ op = 4 ∨ op = 21 ∨ op = 22 ∨ op = 23 then kunaS op r x (g 0).toNat (e 0) else kbinS op r (g 0).toNat (g 1).toNat (e 0) (e 1)
open Classical in
noncomputable def kresS (op w : Int) (x n m : Nat) (g z o : Nat → Int) : (Int × Int) × Int :=
  if (chkS op w x n m g).2 ≠ 0 then ((0, 0), (chkS op w x n m g).2)
  else ((((kvalS op (chkS op w x n m g).1.toNat x g (elm g z o)).1 : Int), ((kvalS op (chkS op w x n m g).1.toNat x g (elm g z o)).2 : Int)), 0)
theorem kap0 (fu k : Nat) (op r x : Int) (g z o : Nat → Int) : known_Apply.j6 fu (k + 1) op x 0 0 r 0 ((0 : Nat) : Int) 0 0 g 0 z o 0 0 0 (fun _ => 0) (fun _ => 0) =
    bif op == 2 then (known_Const.f r x).bind fun t => some ((t.1, t.2), 0) else some ((0, 0), 0) := by kernel_rfl
theorem kap1 (fu k : Nat) (op r x : Int) (g z o : Nat → Int) : known_Apply.j6 fu (k + 2) op x 1 1 r 1 ((1 : Nat) : Int) 0 1 g 1 z o 0 0 1 (fun _ => 0) (fun _ => 0) =
    (known_of.f (g 0) (z 0, o 0)).bind fun p => (known_unary.f op r (IntKind.i64.wrap x) (g 0) (p.1, p.2)).bind fun t => some ((t.1, t.2), 0) := by kernel_rfl
theorem kap2 (fu k : Nat) (op r x : Int) (g z o : Nat → Int) : known_Apply.j6 fu (k + 3) op x 2 2 r 2 ((2 : Nat) : Int) 0 2 g 2 z o 0 0 2 (fun _ => 0) (fun _ => 0) =
    (known_of.f (g 0) (z 0, o 0)).bind fun p => (known_of.f (g 1) (z 1, o 1)).bind fun q => (known_binary.f op r (g 0) (g 1) (p.1, p.2) (q.1, q.2)).bind fun t => some ((t.1, t.2), 0) := by kernel_rfl
theorem kap3 (fu k : Nat) (op r x : Int) (g z o : Nat → Int) : known_Apply.j6 fu (k + 4) op x 3 3 r 3 ((3 : Nat) : Int) 0 3 g 3 z o 0 0 3 (fun _ => 0) (fun _ => 0) =
    (known_of.f (g 0) (z 0, o 0)).bind fun p => (known_of.f (g 1) (z 1, o 1)).bind fun q => (known_of.f (g 2) (z 2, o 2)).bind fun s =>
      (known_Single.f 1 (p.1, p.2)).bind fun c => bif c.2 then (bif decide (0 ≤ IntKind.u64.wrap (2 - c.1)) then bif decide (IntKind.u64.wrap (2 - c.1) < ((3 : Nat) : Int)) then some ((upd 2 s.1 (upd 1 q.1 (upd 0 p.1 (fun _ => 0))) (IntKind.u64.wrap (2 - c.1)).toNat, upd 2 s.2 (upd 1 q.2 (upd 0 p.2 (fun _ => 0))) (IntKind.u64.wrap (2 - c.1)).toNat), 0) else none else none)
        else (known_Join.f r (q.1, q.2) (s.1, s.2)).bind fun t => some ((t.1, t.2), 0) := by kernel_rfl
theorem rap0 (fu k : Nat) (op r x : Int) (ho : op = 1 ∨ op = 2) (g z o : Nat → Int) : saturateref12_Apply.j6 fu (k + 1) op x 0 0 r 0 0 0 g 0 z o 0 0 0 (fun _ => 0) (fun _ => 0) =
    bif op == 1 then (saturateref12_Top.f).bind fun t => some ((t.1, t.2), 0) else (saturateref12_Const.f r x).bind fun t => some ((t.1, t.2), 0) := by
  rcases ho with rfl | rfl
  · kernel_rfl
  · kernel_rfl
theorem rap1 (fu k : Nat) (op r x : Int) (ho : op = 3 ∨ op = 4 ∨ op = 21 ∨ op = 22 ∨ op = 23) (g z o : Nat → Int) : saturateref12_Apply.j6 fu (k + 2) op x 1 1 r 0 0 1 g 1 z o 0 0 0 (fun _ => 0) (fun _ => 0) =
    (saturateref12_Of.f (g 0) (z 0, o 0)).bind fun p => (saturateref12_unary.f op r x (g 0) (p.1, p.2)).bind fun t => some ((t.1, t.2), 0) := by
  rcases ho with rfl | rfl | rfl | rfl | rfl <;> kernel_rfl
theorem rap2 (fu k : Nat) (op r x : Int) (ho : op = 5 ∨ op = 6 ∨ op = 7 ∨ op = 8 ∨ op = 9 ∨ op = 10 ∨ op = 11 ∨ op = 12 ∨ op = 13 ∨ op = 14 ∨ op = 15 ∨ op = 16 ∨ op = 17 ∨ op = 18) (g z o : Nat → Int) : saturateref12_Apply.j6 fu (k + 3) op x 2 2 r 0 0 2 g 2 z o 0 0 0 (fun _ => 0) (fun _ => 0) =
    (saturateref12_Of.f (g 0) (z 0, o 0)).bind fun p => (saturateref12_Of.f (g 1) (z 1, o 1)).bind fun q => (saturateref12_binary.f op (g 0) r (p.1, p.2) (q.1, q.2)).bind fun t => some ((t.1, t.2), 0) := by
  rcases ho with rfl | rfl | rfl | rfl | rfl | rfl | rfl | rfl | rfl | rfl | rfl | rfl | rfl | rfl <;> kernel_rfl
theorem rap20 (fu k : Nat) (r x : Int) (g z o : Nat → Int) : saturateref12_Apply.j6 fu (k + 3) 20 x 2 2 r 0 0 2 g 2 z o 0 0 0 (fun _ => 0) (fun _ => 0) =
    (saturateref12_Of.f (g 0) (z 0, o 0)).bind fun p => (saturateref12_Of.f (g 1) (z 1, o 1)).bind fun q => (saturateref12_concat.f (g 0) (g 1) (p.1, p.2) (q.1, q.2)).bind fun t => some ((t.1, t.2), 0) := by kernel_rfl
theorem rap3 (fu k : Nat) (r x : Int) (g z o : Nat → Int) : saturateref12_Apply.j6 (fu + 1) (k + 4) 19 x 3 3 r 0 0 3 g 3 z o 0 0 0 (fun _ => 0) (fun _ => 0) =
    (saturateref12_Of.f (g 0) (z 0, o 0)).bind fun p => (saturateref12_Of.f (g 1) (z 1, o 1)).bind fun q => (saturateref12_Of.f (g 2) (z 2, o 2)).bind fun s =>
      (saturateref12_Single.f 1 (p.1, p.2)).bind fun c => bif c.2 then (bif c.1 == 1 then some ((q.1, q.2), 0) else bif c.2 then some ((s.1, s.2), 0) else (saturateref12_Join.f r (q.1, q.2) (s.1, s.2)).bind fun t => some ((t.1, t.2), 0))
        else (bif c.2 then some ((s.1, s.2), 0) else (saturateref12_Join.f r (q.1, q.2) (s.1, s.2)).bind fun t => some ((t.1, t.2), 0)) := by kernel_rfl
end Go.Proofs.YtcihbcffokjgjaaGreat.Fn
namespace Go.Proofs.YtcihbcffokjgjaaGreat.Fn
open Go Go.RowKit Go.Proofs.YtcihbcffokjgjaaGreat.Ev Go.Proofs.YtcihbcffokjgjaaGreat.Bv
set_option linter.unusedVariables false
set_option linter.unusedSimpArgs false
set_option maxRecDepth 100000
def Nums (z : Nat → Int) : Prop := ∀ i, ∃ n : Nat, z i = (n : Int) ∧ n < U64
theorem opd {g z o : Nat → Int} (hz : Nums z) (ho : Nums o) (i : Nat) (h1 : 1 ≤ g i) (h2 : g i ≤ 64) :
    ∃ v : Nat, g i = (v : Int) ∧ (g i).toNat = v ∧ 1 ≤ v ∧ v ≤ 64 ∧ El v (elm g z o i) ∧ known_of.f (g i) (z i, o i) = some (((elm g z o i).1 : Int), ((elm g z o i).2 : Int)) ∧ saturateref12_Of.f (g i) (z i, o i) = some (((elm g z o i).1 : Int), ((elm g z o i).2 : Int)) := by
  obtain ⟨v, hv, v1, v2⟩ := nat_of h1 h2
  obtain ⟨a, ha, la⟩ := hz i
  obtain ⟨b, hb, lb⟩ := ho i
  refine ⟨v, hv, by omega, v1, v2, ?_, ?_, ?_⟩
  · unfold elm; rw [hv, W_of v1 v2, ha, hb]; exact el_kof la lb
  · unfold elm; rw [ha, hb]; exact known_of_eq (g i) la lb
  · unfold elm; rw [ha, hb]; exact saturateref12_Of_eq (g i) la lb
theorem prog_join {w : Nat} (w1 : 1 ≤ w) (w2 : w ≤ 64) {a b : Nat × Nat} (ha : El w a) (hb : El w b) : known_Join.f w ((a.1 : Int), (a.2 : Int)) ((b.1 : Int), (b.2 : Int)) = some (((a.1 &&& b.1 : Nat) : Int), ((a.2 &&& b.2 : Nat) : Int)) := by
  have := known_Join_eq (w : Int) ha.l1 ha.l2 hb.l1 hb.l2
  rw [MK, W_of w1 w2, ha.kof, hb.kof] at this; exact this
theorem ref_join {w : Nat} (w1 : 1 ≤ w) (w2 : w ≤ 64) {a b : Nat × Nat} (ha : El w a) (hb : El w b) : saturateref12_Join.f w ((a.1 : Int), (a.2 : Int)) ((b.1 : Int), (b.2 : Int)) = some (((a.1 &&& b.1 : Nat) : Int), ((a.2 &&& b.2 : Nat) : Int)) := by
  have := saturateref12_Join_eq (w : Int) ha.l1 ha.l2 hb.l1 hb.l2
  rw [MK, W_of w1 w2, ha.kof, hb.kof] at this; exact this
theorem one_val {c : Nat × Nat} (hc : El 1 c) : c.2 = 0 ∨ c.2 = 1 := by
  have := hc.m2 (by decide)
  have e : vmask 1 = 1 := rfl
  omega
theorem apply_prog12 {op w : Int} {x : Nat} (hx : x < 18446744073709551616) (n m : Nat) {g z o : Nat → Int} (hz : Nums z) (ho : Nums o) : known_Apply.f op w x (n, g) (m, z, o) = some (kresS op w x n m g z o) := by
  unfold known_Apply.f known_Apply.g kresS
  rw [known_refused_eq hx, Option.bind_some]
  by_cases hc : (chkS op w x n m g).2 ≠ 0
  · rw [if_pos hc, show ((chkS op w x n m g).2 != 0) = true by rw [bne_iff_ne]; exact hc, cond_true]
  · have hc0 := Decidable.not_not.1 hc
    rw [if_neg hc]
    obtain ⟨h1, h2, rfl, ha, hg, he, e0, e1⟩ := chkS_ok hc0
    have ar := arity_in (op := op) (by omega) (by omega)
    rw [show ((chkS op w x m m g).2 != 0) = false by rw [bne_eq_false_iff_eq]; exact hc0, cond_false, bifd_pos (Int.natCast_nonneg _), show Nat.ble (m * 16) 140737488355328 = true by rw [Nat.ble_eq]; omega, cond_true, he]
    obtain ⟨r1, r2, hcases⟩ := widthT_ok h1 h2 ha hg e0 e1
    generalize (widthT op w x g).1 = r at *
    clear he e0 e1 hc hc0
    obtain ⟨r, rfl, r1, r2⟩ := nat_of r1 r2
    rw [Int.toNat_natCast]
    obtain ⟨k, hk⟩ := fuel4
    rw [hk]; clear hk
    have un : op = 3 ∨ op = 4 ∨ op = 21 ∨ op = 22 ∨ op = 23 → m = 1 → (op = 21 → x + r ≤ (g 0).toNat) → (op = 22 ∨ op = 23 → (g 0).toNat ≤ r) →
        known_Apply.j6 (k + 4) (k + 4) op x m m r m (m : Int) 0 m g m z o 0 0 m (fun _ => 0) (fun _ => 0) = some ((((kvalS op r x g (elm g z o)).1 : Int), ((kvalS op r x g (elm g z o)).2 : Int)), 0) := by
      rintro hop rfl q1 q2
      obtain ⟨v, hv, hv2, v1, v2, hel, hp, _⟩ := opd hz ho 0 (hg 0 (by omega)).1 (hg 0 (by omega)).2
      have hvs : kvalS op r x g (elm g z o) = kunaS op r x v (elm g z o 0) := by
        unfold kvalS; rw [hv2, if_neg (by omega), if_neg (by omega), if_neg (by omega), if_pos hop]
      rw [hvs, show k + 4 = (k + 2) + 2 from rfl, kap1, hp, Option.bind_some, hv, prog_unary (x := x) hel v1 v2 r1 r2 hop (fun h => ⟨by have := q1 h; omega, by have := q1 h; rw [wrapi, wrapi_of (by omega) (by omega)]⟩) (fun h => by have := q2 h; omega), Option.bind_some]
    have bi : 5 ≤ op → op ≤ 20 → op ≠ 19 → m = 2 → (op ≠ 20 → g 1 = g 0) → (op = 10 → (r : Int) = g 0) →
        known_Apply.j6 (k + 4) (k + 4) op x m m r m (m : Int) 0 m g m z o 0 0 m (fun _ => 0) (fun _ => 0) = some ((((kvalS op r x g (elm g z o)).1 : Int), ((kvalS op r x g (elm g z o)).2 : Int)), 0) := by
      rintro p5 p20 p19 rfl q1 q2
      obtain ⟨v, hv, hv2, v1, v2, hel, hp, _⟩ := opd hz ho 0 (hg 0 (by omega)).1 (hg 0 (by omega)).2
      obtain ⟨u, hu, hu2, u1, u2, hel2, hp2, _⟩ := opd hz ho 1 (hg 1 (by omega)).1 (hg 1 (by omega)).2
      have hvs : kvalS op r x g (elm g z o) = kbinS op r v u (elm g z o 0) (elm g z o 1) := by
        unfold kvalS; rw [hv2, hu2, if_neg (by omega), if_neg (by omega), if_neg (by omega), if_neg (by omega)]
      rw [hvs, show k + 4 = (k + 1) + 3 from rfl, kap2, hp, Option.bind_some, hp2, Option.bind_some, hv, hu, prog_binary p5 p20 p19 hel hel2 v1 v2 u1 u2 r1 r2 (fun h => by have := q1 h; omega) (fun h => by have := q2 h; omega), Option.bind_some]
    rcases hcases with ⟨hop, rfl⟩ | ⟨hop, rfl, hr⟩ | ⟨hop, rfl, hr, hr2⟩ | ⟨rfl, rfl, g0, g1, g2⟩ | ⟨rfl, rfl, hr⟩ | ⟨hop, rfl, g1, hr⟩ | ⟨hop, rfl, g1, hr⟩
    · have hk0 := kap0 (k + 4) (k + 3) op r x g z o
      rw [show (k + 3) + 1 = k + 4 from rfl] at hk0
      rw [hk0]
      unfold kvalS
      rcases hop with rfl | rfl
      · simp only [Int.reduceBEq, cond_false, if_true]; rfl
      · have := prog_const r1 r2 hx
        simp only [Int.reduceBEq, cond_true, Int.reduceEq, if_true, if_false]
        rw [this, Option.bind_some]
    · exact un (by omega) rfl (by omega) (by omega)
    · exact un (by omega) rfl (fun h => by have := hr h; omega) (fun h => by have := hr2 h; omega)
    · obtain ⟨v, hv, hv2, v1, v2, hel, hp, _⟩ := opd hz ho 0 (hg 0 (by omega)).1 (hg 0 (by omega)).2
      obtain ⟨u, hu, hu2, u1, u2, hel2, hp2, _⟩ := opd hz ho 1 (hg 1 (by omega)).1 (hg 1 (by omega)).2
      obtain ⟨t, ht, ht2, t1, t2, hel3, hp3, _⟩ := opd hz ho 2 (hg 2 (by omega)).1 (hg 2 (by omega)).2
      obtain rfl : v = 1 := by omega
      obtain rfl : u = r := by omega
      obtain rfl : t = u := by omega
      have hs := prog_single hel (by decide) (by decide)
      have hvs : kvalS 19 t x g (elm g z o) = kiteS (elm g z o 0) (elm g z o 1) (elm g z o 2) := by
        unfold kvalS; rw [if_neg (by decide), if_neg (by decide), if_pos rfl]
      rw [hvs, kap3, hp, Option.bind_some, hp2, Option.bind_some, hp3, Option.bind_some]
      simp only at hs ⊢
      rw [show (1 : Int) = ((1 : Nat) : Int) from rfl, hs, Option.bind_some]
      unfold kiteS
      by_cases h1 : kone 1 (elm g z o 0)
      · rw [if_pos h1, if_pos h1, cond_true]
        rcases one_val hel with q | q
        · rw [q, if_neg (by decide)]; rfl
        · rw [q, if_pos rfl]; rfl
      · rw [if_neg h1, if_neg h1, cond_false, prog_join t1 t2 hel2 hel3, Option.bind_some]
    · exact bi (by decide) (by decide) (by decide) rfl (fun h => absurd rfl h) (fun h => absurd h (by decide))
    · exact bi (by omega) (by omega) (by omega) rfl (fun _ => g1) (fun h => by omega)
    · exact bi (by omega) (by omega) (by omega) rfl (fun _ => g1) (fun h => by omega)
theorem apply_ref12 {op w : Int} {x : Nat} (hx : x < 18446744073709551616) (n m : Nat) {g z o : Nat → Int} (hz : Nums z) (ho : Nums o) : saturateref12_Apply.f op w x (n, g) (m, z, o) = some (kresS op w x n m g z o) := by
  unfold saturateref12_Apply.f saturateref12_Apply.g kresS
  rw [saturateref12_Refused_eq hx, Option.bind_some]
  by_cases hc : (chkS op w x n m g).2 ≠ 0
  · rw [if_pos hc, show ((chkS op w x n m g).2 != 0) = true by rw [bne_iff_ne]; exact hc, cond_true]
  · have hc0 := Decidable.not_not.1 hc
    rw [if_neg hc]
    obtain ⟨h1, h2, rfl, ha, hg, he, e0, e1⟩ := chkS_ok hc0
    have ar := arity_in (op := op) (by omega) (by omega)
    rw [show ((chkS op w x m m g).2 != 0) = false by rw [bne_eq_false_iff_eq]; exact hc0, cond_false, he]
    obtain ⟨r1, r2, hcases⟩ := widthT_ok h1 h2 ha hg e0 e1
    generalize (widthT op w x g).1 = r at *
    clear he e0 e1 hc hc0
    obtain ⟨r, rfl, r1, r2⟩ := nat_of r1 r2
    rw [Int.toNat_natCast]
    obtain ⟨k, hk⟩ := fuel4
    rw [hk]; clear hk
    have un : op = 3 ∨ op = 4 ∨ op = 21 ∨ op = 22 ∨ op = 23 → m = 1 → (op = 21 → x + r ≤ (g 0).toNat) →
        saturateref12_Apply.j6 (k + 4) (k + 4) op x m m r 0 0 m g m z o 0 0 0 (fun _ => 0) (fun _ => 0) = some ((((kvalS op r x g (elm g z o)).1 : Int), ((kvalS op r x g (elm g z o)).2 : Int)), 0) := by
      rintro hop rfl q1
      obtain ⟨v, hv, hv2, v1, v2, hel, _, hp⟩ := opd hz ho 0 (hg 0 (by omega)).1 (hg 0 (by omega)).2
      have hvs : kvalS op r x g (elm g z o) = kunaS op r x v (elm g z o 0) := by
        unfold kvalS; rw [hv2, if_neg (by omega), if_neg (by omega), if_neg (by omega), if_pos hop]
      rw [hvs, show k + 4 = (k + 2) + 2 from rfl, rap1 _ _ _ _ _ hop, hp, Option.bind_some, hv, ref_unary hel v1 v2 r2 hop (fun h => by have := q1 h; omega) hx, Option.bind_some]
    have bi : op = 5 ∨ op = 6 ∨ op = 7 ∨ op = 8 ∨ op = 9 ∨ op = 10 ∨ op = 11 ∨ op = 12 ∨ op = 13 ∨ op = 14 ∨ op = 15 ∨ op = 16 ∨ op = 17 ∨ op = 18 → m = 2 → g 1 = g 0 →
        saturateref12_Apply.j6 (k + 4) (k + 4) op x m m r 0 0 m g m z o 0 0 0 (fun _ => 0) (fun _ => 0) = some ((((kvalS op r x g (elm g z o)).1 : Int), ((kvalS op r x g (elm g z o)).2 : Int)), 0) := by
      rintro hop rfl q1
      obtain ⟨v, hv, hv2, v1, v2, hel, _, hp⟩ := opd hz ho 0 (hg 0 (by omega)).1 (hg 0 (by omega)).2
      obtain ⟨u, hu, hu2, u1, u2, hel2, _, hp2⟩ := opd hz ho 1 (hg 1 (by omega)).1 (hg 1 (by omega)).2
      obtain rfl : u = v := by omega
      have hvs : kvalS op r x g (elm g z o) = kbinS op r u u (elm g z o 0) (elm g z o 1) := by
        unfold kvalS; rw [hv2, hu2, if_neg (by omega), if_neg (by omega), if_neg (by omega), if_neg (by omega)]
      rw [hvs, show k + 4 = (k + 1) + 3 from rfl, rap2 _ _ _ _ _ hop, hp, Option.bind_some, hp2, Option.bind_some, hv, ref_binary (by omega) (by omega) hel hel2 v1 v2 r1 r2, Option.bind_some]
    rcases hcases with ⟨hop, rfl⟩ | ⟨hop, rfl, hr⟩ | ⟨hop, rfl, hr, hr2⟩ | ⟨rfl, rfl, g0, g1, g2⟩ | ⟨rfl, rfl, hr⟩ | ⟨hop, rfl, g1, hr⟩ | ⟨hop, rfl, g1, hr⟩
    · have hk0 := rap0 (k + 4) (k + 3) op r x hop g z o
      rw [show (k + 3) + 1 = k + 4 from rfl] at hk0
      have e : saturateref12_Apply.j6 (k + 4) (k + 4) op x ((0 : Nat)) ((0 : Nat)) r 0 0 0 g 0 z o 0 0 0 (fun _ => 0) (fun _ => 0) = _ := hk0
      rw [e]
      unfold kvalS saturateref12_Top.f
      rcases hop with rfl | rfl
      · simp only [Int.reduceBEq, cond_true, if_true]; rfl
      · have := ref_const r1 r2 hx
        simp only [Int.reduceBEq, cond_false, Int.reduceEq, if_true, if_false]
        rw [this, Option.bind_some]
    · exact un (by omega) rfl (by omega)
    · exact un (by omega) rfl (fun h => by have := hr h; omega)
    · obtain ⟨v, hv, hv2, v1, v2, hel, _, hp⟩ := opd hz ho 0 (hg 0 (by omega)).1 (hg 0 (by omega)).2
      obtain ⟨u, hu, hu2, u1, u2, hel2, _, hp2⟩ := opd hz ho 1 (hg 1 (by omega)).1 (hg 1 (by omega)).2
      obtain ⟨t, ht, ht2, t1, t2, hel3, _, hp3⟩ := opd hz ho 2 (hg 2 (by omega)).1 (hg 2 (by omega)).2
      obtain rfl : v = 1 := by omega
      obtain rfl : u = r := by omega
      obtain rfl : t = u := by omega
      have hs := ref_single hel (by decide) (by decide)
      have hvs : kvalS 19 t x g (elm g z o) = kiteS (elm g z o 0) (elm g z o 1) (elm g z o 2) := by
        unfold kvalS; rw [if_neg (by decide), if_neg (by decide), if_pos rfl]
      rw [hvs, show k + 4 = (k + 3) + 1 from rfl, rap3 (k + 3) k, hp, Option.bind_some, hp2, Option.bind_some, hp3, Option.bind_some]
      simp only at hs ⊢
      rw [show (1 : Int) = ((1 : Nat) : Int) from rfl, hs, Option.bind_some]
      unfold kiteS
      by_cases h1 : kone 1 (elm g z o 0)
      · rw [if_pos h1, if_pos h1, cond_true]
        rcases one_val hel with q | q
        · rw [q, if_neg (by decide)]; rfl
        · rw [q, if_pos rfl]; rfl
      · rw [if_neg h1, if_neg h1, cond_false, cond_false, ref_join t1 t2 hel2 hel3, Option.bind_some]
    · obtain ⟨v, hv, hv2, v1, v2, hel, _, hp⟩ := opd hz ho 0 (hg 0 (by omega)).1 (hg 0 (by omega)).2
      obtain ⟨u, hu, hu2, u1, u2, hel2, _, hp2⟩ := opd hz ho 1 (hg 1 (by omega)).1 (hg 1 (by omega)).2
      have hvs : kvalS 20 r x g (elm g z o) = kconS v u (elm g z o 0) (elm g z o 1) := by
        unfold kvalS kbinS; rw [hv2, hu2]; simp only [Int.reduceEq, if_true, if_false, or_self]
      have hr20 := rap20 (k + 4) (k + 1) r x g z o
      rw [show (k + 1) + 3 = k + 4 from rfl, hp, Option.bind_some, hp2, Option.bind_some, hv, hu] at hr20
      simp only at hr20 ⊢
      rw [ref_concat hel hel2 (by omega), Option.bind_some] at hr20
      rw [hvs]; exact hr20
    · exact bi (by omega) rfl g1
    · exact bi (by omega) rfl g1
end Go.Proofs.YtcihbcffokjgjaaGreat.Fn
