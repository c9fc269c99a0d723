/- The rest of the operators with two operands on elements; all of them together. Apply on elements of known bits: the program's and the reference's, to one specification. Apply on elements: both programs return the specification's. Every result is an element of the result's width, and every operator is monotone. Results of Apply: elements, and monotone; the law's loop over joins. -/
import Derived.Test.YtcihbcffokjgjaaGreatTF12
import Derived.Test.YtcihbcffokjgjaaGreatTF2
import Derived.Test.YtcihbcffokjgjaaGreatTF9
import Derived.Test.YtcihbcffokjgjaaGreatTKd
namespace Go.Proofs.YtcihbcffokjgjaaGreat.Fn
open Go Go.RowKit Go.Proofs.YtcihbcffokjgjaaGreat.Ev Go.Proofs.YtcihbcffokjgjaaGreat.Bv
set_option linter.unusedVariables false
set_option linter.unusedSimpArgs false
def kval (op : Int) (w x y : Nat) : Nat := if op = 10 then vmul w x y else if op = 11 then vudiv w x y else if op = 12 then vurem w x y else if op = 17 then vult w x y else vslt w x y
theorem kval_lt {op : Int} {w : Nat} (hw : w ≤ 64) (x y : Nat) : kval op w x y < U64 := by
  unfold kval
  split
  · exact vmul_lt _ _ hw
  · split
    · exact vudiv_lt _ _ hw
    · split
      · exact vurem_lt _ _ hw
      · split
        · unfold vult; split <;> decide
        · unfold vslt; split <;> decide
theorem prog_value {op : Int} (ho : op = 10 ∨ op = 11 ∨ op = 12 ∨ op = 17 ∨ op = 18) {w : Nat} (w1 : 1 ≤ w) (w2 : w ≤ 64) {x y : Nat} (hx : x < U64) (hy : y < U64) : known_value.f op w x y = some (kval op w x y : Int) := by
  unfold known_value.f kval
  rcases ho with rfl | rfl | rfl | rfl | rfl <;> simp only [Int.reduceBEq, cond_true, cond_false, Int.reduceEq, if_true, if_false]
  · rw [bits_Mul_eq, W_of w1 w2]; rfl
  · rw [bits_Udiv_eq _ hx hy, W_of w1 w2]; rfl
  · rw [bits_Urem_eq _ hx hy, W_of w1 w2]; rfl
  · rw [bits_Ult_eq _ hx hy, W_of w1 w2]; rfl
  · rw [bits_Slt_eq _ hx hy, W_of w1 w2]; rfl
theorem cnt_one {f : Nat → Bool} {n : Nat} (h : cnt f n = 1) : ∃ m, m < n ∧ ∀ i, i < n → f i = decide (i = m) := by
  induction n with
  | zero => simp [cnt] at h
  | succ n ih =>
    simp only [cnt] at h
    cases hf : f n with
    | false =>
      rw [hf] at h
      obtain ⟨m, hm, ha⟩ := ih (by simpa using h)
      refine ⟨m, by omega, fun i hi => ?_⟩
      rcases Nat.lt_or_ge i n with h1 | h1
      · exact ha i h1
      · obtain rfl : i = n := by omega
        rw [hf, decide_eq_false (by omega)]
    | true =>
      rw [hf] at h
      have h0 : cnt f n = 0 := by simpa using h
      refine ⟨n, by omega, fun i hi => ?_⟩
      rcases Nat.lt_or_ge i n with h1 | h1
      · have : ∀ j, j ≤ n → cnt f j = 0 → ∀ i, i < j → f i = false := by
          intro j
          induction j with
          | zero => intro _ _ i hi; omega
          | succ j ihj =>
            intro hj hc i hi
            simp only [cnt] at hc
            rcases Nat.lt_or_ge i j with h2 | h2
            · exact ihj (by omega) (by omega) i h2
            · obtain rfl : i = j := by omega
              cases hfi : f i with
              | false => rfl
              | true => rw [hfi] at hc; simp at hc
        rw [this n (Nat.le_refl _) h0 i h1, decide_eq_false (by omega)]
      · obtain rfl : i = n := by omega
        rw [hf, decide_eq_true rfl]
theorem ones_one {y : Nat} (hy : y < U64) (h : ones y = 1) : ∃ m, m < 64 ∧ y = 2 ^ m := by
  obtain ⟨m, hm, hb⟩ := cnt_one h
  refine ⟨m, hm, bits_ext fun i => ?_⟩
  rw [Nat.testBit_two_pow]
  rcases Nat.lt_or_ge i 64 with h1 | h1
  · rw [hb i h1, decide_eq_decide]; omega
  · rw [testBit_ge (lt_pw hy) h1]; symm; rw [decide_eq_false_iff_not]; omega
def kremS (w m : Nat) (a : Nat × Nat) : Nat × Nat := (bld (fun i => if i < m then a.1.testBit i else true) w, bld (fun i => if i < m then a.2.testBit i else false) w)
theorem kremFG {w m : Nat} {a : Nat × Nat} (ha : El w a) (i : Nat) : (if i < m then a.1.testBit i else true) = true → (if i < m then a.2.testBit i else false) = false := by
  split
  · exact ha.dis i
  · intro _; rfl
theorem el_rem {w m : Nat} {a : Nat × Nat} (ha : El w a) (hw : w ≤ 64) : El w (kremS w m a) := El.of_bits hw fun i _ => kremFG ha i
def klog (y : Nat) : Nat := y.log2
theorem klog_pow (m : Nat) : klog (2 ^ m) = m := Nat.log2_two_pow
def kexS (op : Int) (w r : Nat) (a b : Nat × Nat) : Nat × Nat :=
  if kone w a ∧ kone w b then kcst r (kval op w a.2 b.2) else if op = 12 ∧ kone w b ∧ ones b.2 = 1 then kremS w (klog b.2) a else (0, 0)
def keqS (w : Nat) (a b : Nat × Nat) : Nat × Nat := if a.1 &&& b.2 ≠ 0 ∨ a.2 &&& b.1 ≠ 0 then kcst 1 0 else if kone w a ∧ kone w b ∧ a.2 = b.2 then kcst 1 1 else (0, 0)
theorem kone_bit {w : Nat} (hw : w ≤ 64) {k : Nat × Nat} (hk : El w k) (h : kone w k) (i : Nat) : k.1.testBit i = (decide (i < w) && !k.2.testBit i) := by
  have := bit_of (show kunk w k = 0 from h) i
  rw [kunk_bit hk.l1 hk.l2 hw, Nat.zero_testBit] at this
  by_cases hi : i < w
  · have h2 := hk.dis i
    revert this h2; rw [decide_eq_true hi]
    cases k.1.testBit i <;> cases k.2.testBit i <;> decide
  · rw [hk.b1 hw (by omega), decide_eq_false hi]; rfl
theorem kone_ext {w : Nat} (hw : w ≤ 64) {a b : Nat × Nat} (ha : El w a) (hb : El w b) (h1 : kone w a) (h2 : kone w b) (e : a.2 = b.2) : a = b :=
  Prod.ext (bits_ext fun i => by rw [kone_bit hw ha h1, kone_bit hw hb h2, e]) e
theorem prog_equal {w : Nat} {a b : Nat × Nat} (ha : El w a) (hb : El w b) (w1 : 1 ≤ w) (w2 : w ≤ 64) : known_equal.f w ((a.1 : Int), (a.2 : Int)) ((b.1 : Int), (b.2 : Int)) = some (((keqS w a b).1 : Int), ((keqS w a b).2 : Int)) := by
  unfold known_equal.f known_equal.g
  have hp : known_equal.p6 (fuel0 + 1) (fuel0 + 1) 0 0 = some (0, 0) := by rw [known_equal.p6_eq]
  generalize fuel0 + 1 = fu at *
  have c0 := prog_const (w := 1) (by decide) (by decide) (x := 0) (by decide)
  have c1 := prog_const (w := 1) (by decide) (by decide) (x := 1) (by decide)
  rw [show ((1 : Nat) : Int) = 1 from rfl, show ((0 : Nat) : Int) = 0 from rfl] at c0
  rw [show ((1 : Nat) : Int) = 1 from rfl] at c1
  simp only
  rw [prog_single ha w1 w2, Option.bind_some, hp, and64 ha.l1 hb.l2, and64 ha.l2 hb.l1, or64 (and_lt hb.l2) (and_lt hb.l1), cast0n, c0, c1]
  have hor : (a.1 &&& b.2 ||| a.2 &&& b.1) = 0 ↔ a.1 &&& b.2 = 0 ∧ a.2 &&& b.1 = 0 := by
    constructor
    · intro h
      refine ⟨bits_ext fun i => ?_, bits_ext fun i => ?_⟩ <;>
      · have := bit_of h i
        rw [Nat.testBit_or, Nat.zero_testBit] at this
        rw [Nat.zero_testBit]
        revert this
        cases (a.1 &&& b.2).testBit i <;> cases (a.2 &&& b.1).testBit i <;> decide
    · intro h; rw [h.1, h.2]; rfl
  unfold keqS
  by_cases g : (a.1 &&& b.2 ||| a.2 &&& b.1) = 0
  · have gg := hor.1 g
    rw [decide_eq_true g, Bool.not_true, cond_false, if_neg (show ¬ (a.1 &&& b.2 ≠ 0 ∨ a.2 &&& b.1 ≠ 0) from fun h => h.elim (fun h => h gg.1) (fun h => h gg.2))]
    by_cases h1 : kone w a
    · rw [if_pos h1, cond_true]
      simp only [castb, Bool.and_true]
      by_cases e : a = b
      · subst e
        rw [decide_eq_true rfl, decide_eq_true rfl, if_pos ⟨h1, h1, rfl⟩]; rfl
      · rw [if_neg (show ¬ (kone w a ∧ kone w b ∧ a.2 = b.2) from fun h => e (kone_ext w2 ha hb h.1 h.2.1 h.2.2))]
        have : (decide (a.1 = b.1) && decide (a.2 = b.2)) = false := by
          rw [← Bool.decide_and, decide_eq_false_iff_not]; exact fun h => e (Prod.ext h.1 h.2)
        rw [this]; rfl
    · rw [if_neg h1, cond_false, if_neg (show ¬ (kone w a ∧ kone w b ∧ a.2 = b.2) from fun h => h1 h.1)]; rfl
  · have gg : a.1 &&& b.2 ≠ 0 ∨ a.2 &&& b.1 ≠ 0 := by
      rcases Decidable.em (a.1 &&& b.2 = 0) with h | h
      · exact .inr fun h2 => g (hor.2 ⟨h, h2⟩)
      · exact .inl h
    rw [decide_eq_false g, if_pos gg]; rfl
def cF (u : Nat) (a b : Nat) (i : Nat) : Bool := if u ≤ i then a.testBit (i - u) else b.testBit i
theorem cFG {v u : Nat} {a b : Nat × Nat} (ha : El v a) (hb : El u b) (i : Nat) : cF u a.1 b.1 i = true → cF u a.2 b.2 i = false := by
  unfold cF
  split
  · exact ha.dis _
  · exact hb.dis _
theorem concat_bld {v u : Nat} (huv : v + u ≤ 64) (a b : Nat) (ha : a < 2 ^ v) (hb : b < 2 ^ u) : vconcat v u a b = bld (cF u a b) (v + u) := bits_ext fun i => by
  rw [testBit_vconcat, testBit_bld]; unfold cF
  by_cases h : u ≤ i
  · rw [if_pos h, decide_eq_true h, decide_eq_false (show ¬ i < u by omega)]
    by_cases h2 : i < v + u
    · rw [decide_eq_true h2, decide_eq_true (show i < 64 by omega), decide_eq_true (show i - u < v by omega)]; simp
    · rw [decide_eq_false h2, decide_eq_false (show ¬ i - u < v by omega)]; simp
  · rw [if_neg h, decide_eq_false h, decide_eq_true (show i < u by omega), decide_eq_true (show i < v + u by omega)]; simp
def kconS (v u : Nat) (a b : Nat × Nat) : Nat × Nat := (vconcat v u a.1 b.1, vconcat v u a.2 b.2)
end Go.Proofs.YtcihbcffokjgjaaGreat.Fn
namespace Go.Proofs.YtcihbcffokjgjaaGreat.Fn
open Go Go.RowKit Go.Proofs.YtcihbcffokjgjaaGreat.Ev Go.Proofs.YtcihbcffokjgjaaGreat.Bv
set_option linter.unusedVariables false
set_option linter.unusedSimpArgs false
set_option maxRecDepth 100000
def kbinS (op : Int) (r v u : Nat) (a b : Nat × Nat) : Nat × Nat :=
  if op = 5 then (a.1 ||| b.1, a.2 &&& b.2) else if op = 6 then (a.1 &&& b.1, a.2 ||| b.2) else if op = 7 then ((a.1 &&& b.1) ||| (a.2 &&& b.2), (a.1 &&& b.2) ||| (a.2 &&& b.1))
  else if op = 8 then ksum v 0 a b else if op = 9 then ksum v 1 a (b.2, b.1) else if op = 20 then kconS v u a b else if op = 16 then keqS v a b
  else if op = 13 ∨ op = 14 ∨ op = 15 then (if kone v b then kshS op v a b.2 else (0, 0)) else if op = 10 then ktimS v a b else kexS op v r a b
theorem one_shl_pred {n r : Nat} (hn : n ≤ r) (r1 : 1 ≤ r) (r2 : r ≤ 64) : bits_Cut.f (r : Int) (IntKind.u64.wrap ((shl .u64 1 (n : Int)) - 1)) = some (vmask n : Int) := by
  have e : IntKind.u64.wrap ((shl .u64 1 (n : Int)) - 1) = (vmask n : Int) := by
    rw [show (1 : Int) = ((1 : Nat) : Int) from rfl, shl64, Nat.one_shiftLeft]
    unfold vmask
    rcases Nat.lt_or_ge n 64 with h | h
    · have h2 : 2 ^ n < 18446744073709551616 := by rw [← p64]; exact Nat.pow_lt_pow_right (by decide) h
      have := pw_pos n
      rw [Nat.mod_eq_of_lt h2, wrapu]; omega
    · obtain rfl : n = 64 := by omega
      decide
  have hl : vmask n ≤ vmask r := by have := Nat.pow_le_pow_right (n := 2) (by decide) hn; unfold vmask; omega
  rw [e, bits_Cut_eq _ (vmask_lt (by omega)), W_of r1 r2]
  unfold vcut; rw [cut_of_le hl]
theorem prog_rem {w m : Nat} {a : Nat × Nat} (ha : El w a) (w2 : w ≤ 64) (hm : m < w) : (a.1 ||| vnot w (2 ^ m - 1), a.2 &&& (2 ^ m - 1)) = kremS w m a := by
  have hb : ∀ i, (2 ^ m - 1).testBit i = decide (i < m) := fun i => testBit_mask m i
  refine Prod.ext (bits_ext fun i => ?_) (bits_ext fun i => ?_)
  · show (a.1 ||| vnot w (2 ^ m - 1)).testBit i = (bld _ w).testBit i
    rw [Nat.testBit_or, testBit_vnot, hb, testBit_bld]
    by_cases h : i < w
    · rw [decide_eq_true h]
      by_cases h2 : i < m
      · rw [decide_eq_true h2, if_pos h2]; simp
      · rw [decide_eq_false h2, if_neg h2]; simp
    · rw [decide_eq_false h, ha.b1 w2 (by omega)]; rfl
  · show (a.2 &&& (2 ^ m - 1)).testBit i = (bld _ w).testBit i
    rw [Nat.testBit_and, hb, testBit_bld]
    by_cases h2 : i < m
    · rw [decide_eq_true h2, if_pos h2, decide_eq_true (show i < w by omega)]; simp
    · rw [decide_eq_false h2, if_neg h2]; simp
theorem prog_p27 (fu : Nat) {op : Int} (ho : op = 10 ∨ op = 11 ∨ op = 12 ∨ op = 17 ∨ op = 18) {r v : Nat} {a b : Nat × Nat} (ha : El v a) (hb : El v b) (v1 : 1 ≤ v) (v2 : v ≤ 64) (r1 : 1 ≤ r) (r2 : r ≤ 64) (hr : op = 10 → r = v) (hn : ¬ (kone v a ∧ kone v b)) (y : Int) (c : Bool) (hyc : (y, c) = (if kone v b then ((b.2 : Int), true) else (0, false))) :
    known_binary.p27 (fuel0 + 1) (fuel0 + 1) op r v y c a.1 a.2 b.1 b.2 0 0 = some (((if op = 10 then ktimS v a b else kexS op v r a b).1 : Int), ((if op = 10 then ktimS v a b else kexS op v r a b).2 : Int)) := by
  have hp : known_binary.p32 (fuel0 + 1) (fuel0 + 1) 0 0 = some (0, 0) := by rw [known_binary.p32_eq]
  have hq := known_binary.p27_eq fuel0 (fuel0 + 1) op r v y c a.1 a.2 b.1 b.2 0 0
  generalize fuel0 + 1 = fu at *
  rw [hq, hp]
  by_cases h10 : op = 10
  · subst h10
    obtain rfl := hr rfl
    have la := klow_le r a
    have lb := klow_le r b
    have hmn : mn (IntKind.i64.wrap ((klow r a : Int) + (klow r b : Int))) (r : Int) = (ktim r a b : Int) := by
      rw [wrapi, wrapi_of (by omega) (by omega), ← Int.natCast_add, mn_nat]; unfold ktim; rw [Nat.min_comm]
    rw [show ((10 : Int) == 10) = true from rfl, cond_true, prog_low ha v2, Option.bind_some, prog_low hb v2, Option.bind_some, hmn, bifd_neg (by omega), one_shl_pred (by unfold ktim; omega) r1 r2, Option.bind_some, if_pos rfl]
    unfold ktimS; rw [if_neg hn]; rfl
  · rw [show (op == 10) = false by rw [beq_eq_false_iff_ne]; exact h10, cond_false, if_neg h10]
    unfold kexS; rw [if_neg hn]
    by_cases h12 : op = 12
    · rw [show (op == 12) = true by rw [beq_iff_eq]; exact h12, cond_true]
      by_cases hk : kone v b
      · rw [if_pos hk] at hyc
        obtain ⟨rfl, rfl⟩ := Prod.mk.inj hyc
        rw [cond_true, bits_Count_eq hb.l2, Option.bind_some]
        by_cases h1 : ones b.2 = 1
        · obtain ⟨m, hm, e⟩ := ones_one hb.l2 h1
          have hb1 : ((ones b.2 : Int) == 1) = true := by rw [beq_iff_eq]; omega
          have hmv : m < v := by
            have h2 := lt_of_le_mask (hb.m2 v2)
            rw [e] at h2
            exact (Nat.pow_lt_pow_iff_right (by decide)).1 h2
          have hpm : 2 ^ m < 18446744073709551616 := by have := hb.l2; rw [e] at this; exact this
          have h0 := pw_pos m
          rw [if_pos ⟨h12, hk, h1⟩, hb1, cond_true, e, klog_pow, ← prog_rem ha v2 hmv]
          have ew : IntKind.u64.wrap (((2 ^ m : Nat) : Int) - 1) = ((2 ^ m - 1 : Nat) : Int) := by rw [wrapu]; omega
          rw [ew, bits_Not_eq _ (Nat.lt_of_le_of_lt (Nat.sub_le _ _) hpm), Option.bind_some, W_of v1 v2, or64 ha.l1 (vnot_lt _ v2), and64 ha.l2 (Nat.lt_of_le_of_lt (Nat.sub_le _ _) hpm)]
        · have hb1 : ((ones b.2 : Int) == 1) = false := by rw [beq_eq_false_iff_ne]; omega
          rw [if_neg (show ¬ (op = 12 ∧ kone v b ∧ ones b.2 = 1) from fun h => h1 h.2.2), hb1, cond_false]; rfl
      · rw [if_neg hk] at hyc
        obtain ⟨rfl, rfl⟩ := Prod.mk.inj hyc
        rw [cond_false, if_neg (show ¬ (op = 12 ∧ kone v b ∧ ones b.2 = 1) from fun h => hk h.2.1)]; rfl
    · rw [show (op == 12) = false by rw [beq_eq_false_iff_ne]; exact h12, cond_false, if_neg (show ¬ (op = 12 ∧ kone v b ∧ ones b.2 = 1) from fun h => h12 h.1)]; rfl
theorem prog_binary {op : Int} (h5 : 5 ≤ op) (h20 : op ≤ 20) (h19 : op ≠ 19) {r v u : Nat} {a b : Nat × Nat} (ha : El v a) (hb : El u b) (v1 : 1 ≤ v) (v2 : v ≤ 64) (u1 : 1 ≤ u) (u2 : u ≤ 64) (r1 : 1 ≤ r) (r2 : r ≤ 64) (hu : op ≠ 20 → u = v) (hr : op = 10 → r = v) :
    known_binary.f op r v u ((a.1 : Int), (a.2 : Int)) ((b.1 : Int), (b.2 : Int)) = some (((kbinS op r v u a b).1 : Int), ((kbinS op r v u a b).2 : Int)) := by
  unfold known_binary.f known_binary.g
  simp only
  by_cases h : op = 20
  · subst h
    simp only [Int.reduceBEq, cond_true, cond_false]
    rw [bits_Concat_eq _ _ ha.l1 hb.l1, Option.bind_some, bits_Concat_eq _ _ ha.l2 hb.l2, Option.bind_some, W_of v1 v2, W_of u1 u2]; rfl
  · obtain rfl := hu h
    have hs : op = 5 ∨ op = 6 ∨ op = 7 ∨ op = 8 ∨ op = 9 ∨ op = 13 ∨ op = 14 ∨ op = 15 ∨ op = 16 ∨ (op = 10 ∨ op = 11 ∨ op = 12 ∨ op = 17 ∨ op = 18) := by omega
    have add := known_Add_eq (u : Int) ha.l1 ha.l2 hb.l1 hb.l2
    have sub := known_Sub_eq (u : Int) ha.l1 ha.l2 hb.l1 hb.l2
    rw [MK, W_of v1 v2, ha.kof, hb.kof] at add sub
    have p22 : known_binary.p22 (fuel0 + 1) (fuel0 + 1) = some (0, 0) := by rw [known_binary.p22_eq]
    have p27 := fun ho hn y c hyc => prog_p27 0 (op := op) ho ha hb v1 v2 r1 r2 hr hn y c hyc
    generalize fuel0 + 1 = fu at *
    rw [prog_single ha v1 v2, prog_single hb v1 v2]
    simp only [Option.bind_some]
    have sh : ∀ K : Option (Int × Int), op = 13 ∨ op = 14 ∨ op = 15 → K = some (((if kone u b then kshS op u a b.2 else (0, 0)).1 : Int), ((if kone u b then kshS op u a b.2 else (0, 0)).2 : Int)) → K = some (((kbinS op r u u a b).1 : Int), ((kbinS op r u u a b).2 : Int)) := by
      intro K ho hK
      rw [hK]; unfold kbinS
      rw [if_neg (show ¬ op = 5 by omega), if_neg (show ¬ op = 6 by omega), if_neg (show ¬ op = 7 by omega), if_neg (show ¬ op = 8 by omega), if_neg (show ¬ op = 9 by omega), if_neg (show ¬ op = 20 by omega), if_neg (show ¬ op = 16 by omega), if_pos ho]
    have shb : op = 13 ∨ op = 14 ∨ op = 15 → (bif ((if kone u b then ((b.2 : Int), true) else (0, false)) : Int × Bool).2 then (known_shift.f op u ((a.1 : Int), (a.2 : Int)) ((if kone u b then ((b.2 : Int), true) else (0, false)) : Int × Bool).1).bind fun r7 => some (r7.1, r7.2) else known_binary.p22 fu fu) = some (((if kone u b then kshS op u a b.2 else (0, 0)).1 : Int), ((if kone u b then kshS op u a b.2 else (0, 0)).2 : Int)) := by
      intro ho
      by_cases hk : kone u b
      · rw [if_pos hk, if_pos hk, cond_true, prog_shift ho ha v1 v2 (hb.m2 v2), Option.bind_some]
      · rw [if_neg hk, if_neg hk, cond_false, p22]; rfl
    rcases hs with rfl | rfl | rfl | rfl | rfl | rfl | rfl | rfl | rfl | ho
    · rw [show ((5 : Int) == 5) = true from rfl, cond_true, or64 ha.l1 hb.l1, and64 ha.l2 hb.l2]; rfl
    · rw [show ((6 : Int) == 5) = false from rfl, cond_false, show ((6 : Int) == 6) = true from rfl, cond_true, and64 ha.l1 hb.l1, or64 ha.l2 hb.l2]; rfl
    · rw [show ((7 : Int) == 5) = false from rfl, cond_false, show ((7 : Int) == 6) = false from rfl, cond_false, show ((7 : Int) == 7) = true from rfl, cond_true, and64 ha.l1 hb.l1, and64 ha.l2 hb.l2, and64 ha.l1 hb.l2, and64 ha.l2 hb.l1, or64 (and_lt hb.l1) (and_lt hb.l2), or64 (and_lt hb.l2) (and_lt hb.l1)]; rfl
    · rw [show ((8 : Int) == 5) = false from rfl, cond_false, show ((8 : Int) == 6) = false from rfl, cond_false, show ((8 : Int) == 7) = false from rfl, cond_false, show ((8 : Int) == 8) = true from rfl, cond_true, add]; rfl
    · rw [show ((9 : Int) == 5) = false from rfl, cond_false, show ((9 : Int) == 6) = false from rfl, cond_false, show ((9 : Int) == 7) = false from rfl, cond_false, show ((9 : Int) == 8) = false from rfl, cond_false, show ((9 : Int) == 9) = true from rfl, cond_true, sub]; rfl
    · refine sh _ (by decide) ?_
      rw [show ((13 : Int) == 5) = false from rfl, cond_false, show ((13 : Int) == 6) = false from rfl, cond_false, show ((13 : Int) == 7) = false from rfl, cond_false, show ((13 : Int) == 8) = false from rfl, cond_false, show ((13 : Int) == 9) = false from rfl, cond_false, show ((13 : Int) == 20) = false from rfl, cond_false, show ((13 : Int) == 16) = false from rfl, cond_false, show ((13 : Int) == 13) = true from rfl, cond_true]
      exact shb (by decide)
    · refine sh _ (by decide) ?_
      rw [show ((14 : Int) == 5) = false from rfl, cond_false, show ((14 : Int) == 6) = false from rfl, cond_false, show ((14 : Int) == 7) = false from rfl, cond_false, show ((14 : Int) == 8) = false from rfl, cond_false, show ((14 : Int) == 9) = false from rfl, cond_false, show ((14 : Int) == 20) = false from rfl, cond_false, show ((14 : Int) == 16) = false from rfl, cond_false, show ((14 : Int) == 13) = false from rfl, cond_false, show ((14 : Int) == 14) = true from rfl, cond_true]
      exact shb (by decide)
    · refine sh _ (by decide) ?_
      rw [show ((15 : Int) == 5) = false from rfl, cond_false, show ((15 : Int) == 6) = false from rfl, cond_false, show ((15 : Int) == 7) = false from rfl, cond_false, show ((15 : Int) == 8) = false from rfl, cond_false, show ((15 : Int) == 9) = false from rfl, cond_false, show ((15 : Int) == 20) = false from rfl, cond_false, show ((15 : Int) == 16) = false from rfl, cond_false, show ((15 : Int) == 13) = false from rfl, cond_false, show ((15 : Int) == 14) = false from rfl, cond_false, show ((15 : Int) == 15) = true from rfl, cond_true]
      exact shb (by decide)
    · rw [show ((16 : Int) == 5) = false from rfl, cond_false, show ((16 : Int) == 6) = false from rfl, cond_false, show ((16 : Int) == 7) = false from rfl, cond_false, show ((16 : Int) == 8) = false from rfl, cond_false, show ((16 : Int) == 9) = false from rfl, cond_false, show ((16 : Int) == 20) = false from rfl, cond_false, show ((16 : Int) == 16) = true from rfl, cond_true, prog_equal ha hb v1 v2]; rfl
    · rw [show (op == 5) = false by rw [beq_eq_false_iff_ne]; omega, cond_false, show (op == 6) = false by rw [beq_eq_false_iff_ne]; omega, cond_false, show (op == 7) = false by rw [beq_eq_false_iff_ne]; omega, cond_false, show (op == 8) = false by rw [beq_eq_false_iff_ne]; omega, cond_false, show (op == 9) = false by rw [beq_eq_false_iff_ne]; omega, cond_false, show (op == 20) = false by rw [beq_eq_false_iff_ne]; omega, cond_false, show (op == 16) = false by rw [beq_eq_false_iff_ne]; omega, cond_false, show (op == 13) = false by rw [beq_eq_false_iff_ne]; omega, cond_false, show (op == 14) = false by rw [beq_eq_false_iff_ne]; omega, cond_false, show (op == 15) = false by rw [beq_eq_false_iff_ne]; omega, cond_false]
      have fin : ∀ K : Option (Int × Int), K = some (((if op = 10 then ktimS u a b else kexS op u r a b).1 : Int), ((if op = 10 then ktimS u a b else kexS op u r a b).2 : Int)) → K = some (((kbinS op r u u a b).1 : Int), ((kbinS op r u u a b).2 : Int)) := by
        intro K hK
        rw [hK]; unfold kbinS
        rw [if_neg (show ¬ op = 5 by omega), if_neg (show ¬ op = 6 by omega), if_neg (show ¬ op = 7 by omega), if_neg (show ¬ op = 8 by omega), if_neg (show ¬ op = 9 by omega), if_neg (show ¬ op = 20 by omega), if_neg (show ¬ op = 16 by omega), if_neg (show ¬ (op = 13 ∨ op = 14 ∨ op = 15) by omega)]
      refine fin _ ?_
      by_cases h1 : kone u a
      · by_cases h2 : kone u b
        · rw [if_pos h1, if_pos h2, cond_true, cond_true, prog_value ho v1 v2 ha.l2 hb.l2, Option.bind_some, prog_const r1 r2 (kval_lt v2 _ _), Option.bind_some]
          by_cases h10 : op = 10
          · obtain rfl := hr h10
            rw [if_pos h10]; unfold ktimS; rw [if_pos ⟨h1, h2⟩, h10]; rfl
          · rw [if_neg h10]; unfold kexS; rw [if_pos ⟨h1, h2⟩]
        · rw [if_pos h1, if_neg h2, cond_true, cond_false]
          exact p27 ho (fun h => h2 h.2) 0 false (by rw [if_neg h2])
      · rw [if_neg h1, cond_false]
        by_cases h2 : kone u b
        · rw [if_pos h2]; exact p27 ho (fun h => h1 h.1) _ _ (by rw [if_pos h2])
        · rw [if_neg h2]; exact p27 ho (fun h => h1 h.1) _ _ (by rw [if_neg h2])
def elm (g z o : Nat → Int) (i : Nat) : Nat × Nat := kof (vmask (W (g i))) (z i).toNat (o i).toNat
def kiteS (c a b : Nat × Nat) : Nat × Nat := if kone 1 c then (if c.2 = 1 then a else b) else (a.1 &&& b.1, a.2 &&& b.2)
def kvalS (op : Int) (r x : Nat) (g : Nat → Int) (e : Nat → Nat × Nat) : Nat × Nat :=
  if op = 1 then (0, 0) else if op = 2 then kcst r x else if op = 19 then kiteS (e 0) (e 1) (e 2)
  else if op = 3 ∨ op = 4 ∨ op = 21 ∨ op = 22 ∨ op = 23 then kunaS op r x (g 0).toNat (e 0) else kbinS op r (g 0).toNat (g 1).toNat (e 0) (e 1)
open Classical in
noncomputable def kresS (op w : Int) (x n m : Nat) (g z o : Nat → Int) : (Int × Int) × Int :=
  if (chkS op w x n m g).2 ≠ 0 then ((0, 0), (chkS op w x n m g).2)
  else ((((kvalS op (chkS op w x n m g).1.toNat x g (elm g z o)).1 : Int), ((kvalS op (chkS op w x n m g).1.toNat x g (elm g z o)).2 : Int)), 0)
theorem kap0 (fu k : Nat) (op r x : Int) (g z o : Nat → Int) : known_Apply.j6 fu (k + 1) op x 0 0 r 0 ((0 : Nat) : Int) 0 0 g 0 z o 0 0 0 (fun _ => 0) (fun _ => 0) =
    bif op == 2 then (known_Const.f r x).bind fun t => some ((t.1, t.2), 0) else some ((0, 0), 0) := by kernel_rfl
theorem kap1 (fu k : Nat) (op r x : Int) (g z o : Nat → Int) : known_Apply.j6 fu (k + 2) op x 1 1 r 1 ((1 : Nat) : Int) 0 1 g 1 z o 0 0 1 (fun _ => 0) (fun _ => 0) =
    (known_of.f (g 0) (z 0, o 0)).bind fun p => (known_unary.f op r (IntKind.i64.wrap x) (g 0) (p.1, p.2)).bind fun t => some ((t.1, t.2), 0) := by kernel_rfl
theorem kap2 (fu k : Nat) (op r x : Int) (g z o : Nat → Int) : known_Apply.j6 fu (k + 3) op x 2 2 r 2 ((2 : Nat) : Int) 0 2 g 2 z o 0 0 2 (fun _ => 0) (fun _ => 0) =
    (known_of.f (g 0) (z 0, o 0)).bind fun p => (known_of.f (g 1) (z 1, o 1)).bind fun q => (known_binary.f op r (g 0) (g 1) (p.1, p.2) (q.1, q.2)).bind fun t => some ((t.1, t.2), 0) := by kernel_rfl
theorem kap3 (fu k : Nat) (op r x : Int) (g z o : Nat → Int) : known_Apply.j6 fu (k + 4) op x 3 3 r 3 ((3 : Nat) : Int) 0 3 g 3 z o 0 0 3 (fun _ => 0) (fun _ => 0) =
    (known_of.f (g 0) (z 0, o 0)).bind fun p => (known_of.f (g 1) (z 1, o 1)).bind fun q => (known_of.f (g 2) (z 2, o 2)).bind fun s =>
      (known_Single.f 1 (p.1, p.2)).bind fun c => bif c.2 then (bif decide (0 ≤ IntKind.u64.wrap (2 - c.1)) then bif decide (IntKind.u64.wrap (2 - c.1) < ((3 : Nat) : Int)) then some ((upd 2 s.1 (upd 1 q.1 (upd 0 p.1 (fun _ => 0))) (IntKind.u64.wrap (2 - c.1)).toNat, upd 2 s.2 (upd 1 q.2 (upd 0 p.2 (fun _ => 0))) (IntKind.u64.wrap (2 - c.1)).toNat), 0) else none else none)
        else (known_Join.f r (q.1, q.2) (s.1, s.2)).bind fun t => some ((t.1, t.2), 0) := by kernel_rfl
end Go.Proofs.YtcihbcffokjgjaaGreat.Fn
namespace Go.Proofs.YtcihbcffokjgjaaGreat.Fn
open Go Go.RowKit Go.Proofs.YtcihbcffokjgjaaGreat.Ev Go.Proofs.YtcihbcffokjgjaaGreat.Bv
set_option linter.unusedVariables false
set_option linter.unusedSimpArgs false
set_option maxRecDepth 100000
def Nums (z : Nat → Int) : Prop := ∀ i, ∃ n : Nat, z i = (n : Int) ∧ n < U64
theorem nums_of {z : Nat → Int} (h : ∀ i, (Lit.int .u64 (z i)).wf = true) : Nums z := fun i => u64_of (h i)
theorem opd {g z o : Nat → Int} (hz : Nums z) (ho : Nums o) (i : Nat) (h1 : 1 ≤ g i) (h2 : g i ≤ 64) :
    ∃ v : Nat, g i = (v : Int) ∧ (g i).toNat = v ∧ 1 ≤ v ∧ v ≤ 64 ∧ El v (elm g z o i) ∧ known_of.f (g i) (z i, o i) = some (((elm g z o i).1 : Int), ((elm g z o i).2 : Int)) ∧ saturateref12_Of.f (g i) (z i, o i) = some (((elm g z o i).1 : Int), ((elm g z o i).2 : Int)) := by
  obtain ⟨v, hv, v1, v2⟩ := nat_of h1 h2
  obtain ⟨a, ha, la⟩ := hz i
  obtain ⟨b, hb, lb⟩ := ho i
  refine ⟨v, hv, by omega, v1, v2, ?_, ?_, ?_⟩
  · unfold elm; rw [hv, W_of v1 v2, ha, hb]; exact el_kof la lb
  · unfold elm; rw [ha, hb]; exact known_of_eq (g i) la lb
  · unfold elm; rw [ha, hb]; exact saturateref12_Of_eq (g i) la lb
theorem prog_join {w : Nat} (w1 : 1 ≤ w) (w2 : w ≤ 64) {a b : Nat × Nat} (ha : El w a) (hb : El w b) : known_Join.f w ((a.1 : Int), (a.2 : Int)) ((b.1 : Int), (b.2 : Int)) = some (((a.1 &&& b.1 : Nat) : Int), ((a.2 &&& b.2 : Nat) : Int)) := by
  have := known_Join_eq (w : Int) ha.l1 ha.l2 hb.l1 hb.l2
  rw [MK, W_of w1 w2, ha.kof, hb.kof] at this; exact this
theorem one_val {c : Nat × Nat} (hc : El 1 c) : c.2 = 0 ∨ c.2 = 1 := by
  have := hc.m2 (by decide)
  have e : vmask 1 = 1 := rfl
  omega
theorem apply_prog12 {op w : Int} {x : Nat} (hx : x < 18446744073709551616) (n m : Nat) {g z o : Nat → Int} (hz : Nums z) (ho : Nums o) : known_Apply.f op w x (n, g) (m, z, o) = some (kresS op w x n m g z o) := by
  unfold known_Apply.f known_Apply.g kresS
  rw [known_refused_eq hx, Option.bind_some]
  by_cases hc : (chkS op w x n m g).2 ≠ 0
  · rw [if_pos hc, show ((chkS op w x n m g).2 != 0) = true by rw [bne_iff_ne]; exact hc, cond_true]
  · have hc0 := Decidable.not_not.1 hc
    rw [if_neg hc]
    obtain ⟨h1, h2, rfl, ha, hg, he, e0, e1⟩ := chkS_ok hc0
    have ar := arity_in (op := op) (by omega) (by omega)
    rw [show ((chkS op w x m m g).2 != 0) = false by rw [bne_eq_false_iff_eq]; exact hc0, cond_false, bifd_pos (Int.natCast_nonneg _), show Nat.ble (m * 16) 140737488355328 = true by rw [Nat.ble_eq]; omega, cond_true, he]
    obtain ⟨r1, r2, hcases⟩ := widthT_ok h1 h2 ha hg e0 e1
    generalize (widthT op w x g).1 = r at *
    clear he e0 e1 hc hc0
    obtain ⟨r, rfl, r1, r2⟩ := nat_of r1 r2
    rw [Int.toNat_natCast]
    obtain ⟨k, hk⟩ := fuel4
    rw [hk]; clear hk
    have un : op = 3 ∨ op = 4 ∨ op = 21 ∨ op = 22 ∨ op = 23 → m = 1 → (op = 21 → x + r ≤ (g 0).toNat) → (op = 22 ∨ op = 23 → (g 0).toNat ≤ r) →
        known_Apply.j6 (k + 4) (k + 4) op x m m r m (m : Int) 0 m g m z o 0 0 m (fun _ => 0) (fun _ => 0) = some ((((kvalS op r x g (elm g z o)).1 : Int), ((kvalS op r x g (elm g z o)).2 : Int)), 0) := by
      rintro hop rfl q1 q2
      obtain ⟨v, hv, hv2, v1, v2, hel, hp, _⟩ := opd hz ho 0 (hg 0 (by omega)).1 (hg 0 (by omega)).2
      have hvs : kvalS op r x g (elm g z o) = kunaS op r x v (elm g z o 0) := by
        unfold kvalS; rw [hv2, if_neg (by omega), if_neg (by omega), if_neg (by omega), if_pos hop]
      rw [hvs, show k + 4 = (k + 2) + 2 from rfl, kap1, hp, Option.bind_some, hv, prog_unary (x := x) hel v1 v2 r1 r2 hop (fun h => ⟨by have := q1 h; omega, by have := q1 h; rw [wrapi, wrapi_of (by omega) (by omega)]⟩) (fun h => by have := q2 h; omega), Option.bind_some]
    have bi : 5 ≤ op → op ≤ 20 → op ≠ 19 → m = 2 → (op ≠ 20 → g 1 = g 0) → (op = 10 → (r : Int) = g 0) →
        known_Apply.j6 (k + 4) (k + 4) op x m m r m (m : Int) 0 m g m z o 0 0 m (fun _ => 0) (fun _ => 0) = some ((((kvalS op r x g (elm g z o)).1 : Int), ((kvalS op r x g (elm g z o)).2 : Int)), 0) := by
      rintro p5 p20 p19 rfl q1 q2
      obtain ⟨v, hv, hv2, v1, v2, hel, hp, _⟩ := opd hz ho 0 (hg 0 (by omega)).1 (hg 0 (by omega)).2
      obtain ⟨u, hu, hu2, u1, u2, hel2, hp2, _⟩ := opd hz ho 1 (hg 1 (by omega)).1 (hg 1 (by omega)).2
      have hvs : kvalS op r x g (elm g z o) = kbinS op r v u (elm g z o 0) (elm g z o 1) := by
        unfold kvalS; rw [hv2, hu2, if_neg (by omega), if_neg (by omega), if_neg (by omega), if_neg (by omega)]
      rw [hvs, show k + 4 = (k + 1) + 3 from rfl, kap2, hp, Option.bind_some, hp2, Option.bind_some, hv, hu, prog_binary p5 p20 p19 hel hel2 v1 v2 u1 u2 r1 r2 (fun h => by have := q1 h; omega) (fun h => by have := q2 h; omega), Option.bind_some]
    rcases hcases with ⟨hop, rfl⟩ | ⟨hop, rfl, hr⟩ | ⟨hop, rfl, hr, hr2⟩ | ⟨rfl, rfl, g0, g1, g2⟩ | ⟨rfl, rfl, hr⟩ | ⟨hop, rfl, g1, hr⟩ | ⟨hop, rfl, g1, hr⟩
    · have hk0 := kap0 (k + 4) (k + 3) op r x g z o
      rw [show (k + 3) + 1 = k + 4 from rfl] at hk0
      rw [hk0]
      unfold kvalS
      rcases hop with rfl | rfl
      · simp only [Int.reduceBEq, cond_false, if_true]; rfl
      · have := prog_const r1 r2 hx
        simp only [Int.reduceBEq, cond_true, Int.reduceEq, if_true, if_false]
        rw [this, Option.bind_some]
    · exact un (by omega) rfl (by omega) (by omega)
    · exact un (by omega) rfl (fun h => by have := hr h; omega) (fun h => by have := hr2 h; omega)
    · obtain ⟨v, hv, hv2, v1, v2, hel, hp, _⟩ := opd hz ho 0 (hg 0 (by omega)).1 (hg 0 (by omega)).2
      obtain ⟨u, hu, hu2, u1, u2, hel2, hp2, _⟩ := opd hz ho 1 (hg 1 (by omega)).1 (hg 1 (by omega)).2
      obtain ⟨t, ht, ht2, t1, t2, hel3, hp3, _⟩ := opd hz ho 2 (hg 2 (by omega)).1 (hg 2 (by omega)).2
      obtain rfl : v = 1 := by omega
      obtain rfl : u = r := by omega
      obtain rfl : t = u := by omega
      have hs := prog_single hel (by decide) (by decide)
      have hvs : kvalS 19 t x g (elm g z o) = kiteS (elm g z o 0) (elm g z o 1) (elm g z o 2) := by
        unfold kvalS; rw [if_neg (by decide), if_neg (by decide), if_pos rfl]
      rw [hvs, kap3, hp, Option.bind_some, hp2, Option.bind_some, hp3, Option.bind_some]
      simp only at hs ⊢
      rw [show (1 : Int) = ((1 : Nat) : Int) from rfl, hs, Option.bind_some]
      unfold kiteS
      by_cases h1 : kone 1 (elm g z o 0)
      · rw [if_pos h1, if_pos h1, cond_true]
        rcases one_val hel with q | q
        · rw [q, if_neg (by decide)]; rfl
        · rw [q, if_pos rfl]; rfl
      · rw [if_neg h1, if_neg h1, cond_false, prog_join t1 t2 hel2 hel3, Option.bind_some]
    · exact bi (by decide) (by decide) (by decide) rfl (fun h => absurd rfl h) (fun h => absurd h (by decide))
    · exact bi (by omega) (by omega) (by omega) rfl (fun _ => g1) (fun h => by omega)
    · exact bi (by omega) (by omega) (by omega) rfl (fun _ => g1) (fun h => by omega)
end Go.Proofs.YtcihbcffokjgjaaGreat.Fn
namespace Go.Proofs.YtcihbcffokjgjaaGreat.Fn
open Go Go.RowKit Go.Proofs.YtcihbcffokjgjaaGreat.Ev Go.Proofs.YtcihbcffokjgjaaGreat.Bv
set_option linter.unusedVariables false
set_option linter.unusedSimpArgs false
def Le (a b : Nat × Nat) : Prop := ∀ i, (b.1.testBit i = true → a.1.testBit i = true) ∧ (b.2.testBit i = true → a.2.testBit i = true)
theorem le_refl' (a : Nat × Nat) : Le a a := fun i => ⟨id, id⟩
theorem le_top (a : Nat × Nat) : Le a (0, 0) := fun i => ⟨fun h => by simp at h, fun h => by simp at h⟩
theorem le_bld {n : Nat} {f g f' g' : Nat → Bool} (h : ∀ i, i < n → (f' i = true → f i = true) ∧ (g' i = true → g i = true)) : Le (bld f n, bld g n) (bld f' n, bld g' n) := by
  intro i
  show ((bld f' n).testBit i = true → (bld f n).testBit i = true) ∧ ((bld g' n).testBit i = true → (bld g n).testBit i = true)
  rw [testBit_bld, testBit_bld, testBit_bld, testBit_bld]
  by_cases hi : i < n
  · have := h i hi
    rw [decide_eq_true hi]; simpa using this
  · rw [decide_eq_false hi]; exact ⟨fun h => by simp at h, fun h => by simp at h⟩
theorem El.mk' {w : Nat} (hw : w ≤ 64) {k : Nat × Nat} (h1 : k.1 ≤ vmask w) (h2 : k.2 ≤ vmask w) (hd : ∀ i, k.1.testBit i = true → k.2.testBit i = false) : El w k := by
  have hm := vmask_lt hw
  have l1 : k.1 < U64 := Nat.lt_of_le_of_lt h1 hm
  have l2 : k.2 < U64 := Nat.lt_of_le_of_lt h2 hm
  refine ⟨l1, l2, (kok_iff hw l1 l2).2 ⟨bits_ext fun i => ?_, h1, h2⟩⟩
  have := hd i
  rw [Nat.testBit_and, Nat.zero_testBit]
  revert this; cases k.1.testBit i <;> cases k.2.testBit i <;> decide
theorem el_top {w : Nat} (hw : w ≤ 64) : El w (0, 0) := El.mk' hw (Nat.zero_le _) (Nat.zero_le _) (fun i h => by simp at h)
theorem and_le_mask {w x y : Nat} (h : x ≤ vmask w) : x &&& y ≤ vmask w := Nat.le_trans Nat.and_le_left h
theorem vmask_mono {m n : Nat} (h : m ≤ n) : vmask m ≤ vmask n := by have := Nat.pow_le_pow_right (n := 2) (by decide) h; unfold vmask; omega
theorem uFG {v x : Nat} {k : Nat × Nat} (hk : El v k) (op : Int) (i : Nat) : uF op x v k i = true → uG op x v k i = false := by
  have h1 := hk.dis (i + x)
  have h2 := hk.dis i
  have h3 := hk.dis (v - 1)
  unfold uF uG
  split
  · exact h1
  · split
    · exact h2
    · split
      · exact h3
      · intro _; rfl
theorem el_una {op : Int} {r x v : Nat} {k : Nat × Nat} (hk : El v k) (v2 : v ≤ 64) (r2 : r ≤ 64) (hr : op = 3 ∨ op = 4 → r = v) : El r (kunaS op r x v k) := by
  unfold kunaS
  split
  · obtain rfl := hr (by omega)
    exact El.mk' v2 (hk.m2 v2) (hk.m1 v2) (fun i h => by
      have := hk.dis i
      revert this h; cases k.1.testBit i <;> cases k.2.testBit i <;> simp)
  · split
    · obtain rfl := hr (by omega)
      exact el_sum v2 _ _ _
    · exact El.of_bits r2 fun i _ => uFG hk op i
theorem el_bin {op : Int} {r v u : Nat} {a b : Nat × Nat} (h5 : 5 ≤ op) (h20 : op ≤ 20) (h19 : op ≠ 19) (ha : El v a) (hb : El u b) (v1 : 1 ≤ v) (v2 : v ≤ 64) (u2 : u ≤ 64) (r1 : 1 ≤ r) (r2 : r ≤ 64) (hu : op ≠ 20 → u = v) (hr : 5 ≤ op ∧ op ≤ 15 → r = v) (hr1 : op = 16 → r = 1) (hr20 : op = 20 → r = v + u) : El r (kbinS op r v u a b) := by
  unfold kbinS
  split
  · obtain rfl := hu (by omega)
    obtain rfl := hr (by omega)
    refine El.mk' v2 (or_le_mask.2 ⟨ha.m1 v2, hb.m1 v2⟩) (and_le_mask (ha.m2 v2)) fun i => ?_
    have h1 := ha.dis i
    have h2 := hb.dis i
    simp only [Nat.testBit_or, Nat.testBit_and]
    revert h1 h2; cases a.1.testBit i <;> cases a.2.testBit i <;> cases b.1.testBit i <;> cases b.2.testBit i <;> decide
  · split
    · obtain rfl := hu (by omega)
      obtain rfl := hr (by omega)
      refine El.mk' v2 (and_le_mask (ha.m1 v2)) (or_le_mask.2 ⟨ha.m2 v2, hb.m2 v2⟩) fun i => ?_
      have h1 := ha.dis i
      have h2 := hb.dis i
      simp only [Nat.testBit_or, Nat.testBit_and]
      revert h1 h2; cases a.1.testBit i <;> cases a.2.testBit i <;> cases b.1.testBit i <;> cases b.2.testBit i <;> decide
    · split
      · obtain rfl := hu (by omega)
        obtain rfl := hr (by omega)
        refine El.mk' v2 (or_le_mask.2 ⟨and_le_mask (ha.m1 v2), and_le_mask (ha.m2 v2)⟩) (or_le_mask.2 ⟨and_le_mask (ha.m1 v2), and_le_mask (ha.m2 v2)⟩) fun i => ?_
        have h1 := ha.dis i
        have h2 := hb.dis i
        simp only [Nat.testBit_or, Nat.testBit_and]
        revert h1 h2; cases a.1.testBit i <;> cases a.2.testBit i <;> cases b.1.testBit i <;> cases b.2.testBit i <;> decide
      · split
        · obtain rfl := hr (by omega); exact el_sum v2 _ _ _
        · split
          · obtain rfl := hr (by omega); exact el_sum v2 _ _ _
          · split
            · obtain rfl := hr20 (by omega)
              unfold kconS
              rw [concat_bld r2 _ _ (lt_of_le_mask (ha.m1 v2)) (lt_of_le_mask (hb.m1 u2)), concat_bld r2 _ _ (lt_of_le_mask (ha.m2 v2)) (lt_of_le_mask (hb.m2 u2))]
              exact El.of_bits r2 fun i _ => cFG ha hb i
            · split
              · obtain rfl := hr1 (by omega)
                unfold keqS
                split
                · exact el_cst (by decide) (by decide) _
                · split
                  · exact el_cst (by decide) (by decide) _
                  · exact el_top (by decide)
              · split
                · obtain rfl := hr (by omega)
                  split
                  · exact el_sh ha v2 _
                  · exact el_top v2
                · split
                  · obtain rfl := hr (by omega)
                    unfold ktimS
                    split
                    · exact el_cst v1 v2 _
                    · exact El.mk' v2 (vmask_mono (Nat.min_le_left _ _)) (Nat.zero_le _) (fun i _ => Nat.zero_testBit i)
                  · unfold kexS
                    split
                    · exact el_cst r1 r2 _
                    · split
                      · obtain rfl := hr (by omega)
                        exact el_rem ha v2
                      · exact el_top r2
theorem el_ite {r : Nat} {c a b : Nat × Nat} (r2 : r ≤ 64) (ha : El r a) (hb : El r b) : El r (kiteS c a b) := by
  unfold kiteS
  split
  · split
    · exact ha
    · exact hb
  · refine El.mk' r2 (and_le_mask (ha.m1 r2)) (and_le_mask (ha.m2 r2)) fun i => ?_
    have h1 := ha.dis i
    simp only [Nat.testBit_and]
    revert h1; cases a.1.testBit i <;> cases a.2.testBit i <;> cases b.1.testBit i <;> cases b.2.testBit i <;> decide
theorem le_one {w : Nat} (hw : w ≤ 64) {a b : Nat × Nat} (ha : El w a) (hb : El w b) (h : Le a b) (h1 : kone w b) : a = b := by
  refine Prod.ext (bits_ext fun i => ?_) (bits_ext fun i => ?_) <;>
  · have q := kone_bit hw hb h1 i
    have g := h i
    have d1 := ha.dis i
    have d2 := hb.dis i
    by_cases hi : i < w
    · rw [decide_eq_true hi] at q
      revert q g d1 d2
      cases a.1.testBit i <;> cases a.2.testBit i <;> cases b.1.testBit i <;> cases b.2.testBit i <;> decide
    · first | rw [ha.b1 hw (by omega), hb.b1 hw (by omega)] | rw [ha.b2 hw (by omega), hb.b2 hw (by omega)]
theorem chain4 {p' p q q' : Bool} (h1 : p' = true → p = true) (h2 : p = true → q = true) (h3 : q = true → q' = true) (h : (p' == q') = true) : p = p' ∧ q = p' ∧ q' = p' := by
  revert h1 h2 h3 h; cases p' <;> cases p <;> cases q <;> cases q' <;> decide
theorem dis_of {a : Nat × Nat} (ka : a.1 &&& a.2 = 0) (j : Nat) (hj : j < 64) : a.2.testBit j = true → (vnot 64 a.1).testBit j = true := by
  have := bit_of ka j
  rw [Nat.testBit_and, Nat.zero_testBit] at this
  rw [vnot64_bit hj]
  revert this; cases a.1.testBit j <;> cases a.2.testBit j <;> decide
theorem le_sum {w c : Nat} (hc : c ≤ 1) (hw : w ≤ 64) {a b a' b' : Nat × Nat} (ka : a.1 &&& a.2 = 0) (kb : b.1 &&& b.2 = 0) (h1 : Le a a') (h2 : Le b b') : Le (ksum w c a b) (ksum w c a' b') := by
  refine le_bld fun i hi => ?_
  have key : opn c a'.2 b'.2 (vnot 64 a'.1) (vnot 64 b'.1) i = false → opn c a.2 b.2 (vnot 64 a.1) (vnot 64 b.1) i = false ∧ sbit c a.2 b.2 i = sbit c a'.2 b'.2 i := by
    unfold opn
    intro h
    rw [Bool.not_eq_false', Bool.and_eq_true, Bool.and_eq_true] at h
    have mv : ∀ {x x' : Nat × Nat}, Le x x' → ∀ j, j < 64 → (vnot 64 x.1).testBit j = true → (vnot 64 x'.1).testBit j = true := by
      intro x x' hx j hj
      rw [vnot64_bit hj, vnot64_bit hj]
      have := (hx j).1
      revert this; cases x.1.testBit j <;> cases x'.1.testBit j <;> decide
    obtain ⟨e1, e2, e3⟩ := chain4 (h1 i).2 (dis_of ka i (by omega)) (mv h1 i (by omega)) h.1.1
    obtain ⟨f1, f2, f3⟩ := chain4 (h2 i).2 (dis_of kb i (by omega)) (mv h2 i (by omega)) h.1.2
    obtain ⟨g1, g2, g3⟩ := chain4 (car_mono hc i (fun j _ => (h1 j).2) (fun j _ => (h2 j).2)) (car_mono hc i (fun j hj => dis_of ka j (by omega)) (fun j hj => dis_of kb j (by omega))) (car_mono hc i (fun j hj => mv h1 j (by omega)) (fun j hj => mv h2 j (by omega))) h.2
    unfold sbit
    rw [e1, e2, f1, f2, g1, g2]
    simp
  unfold sumZ sumO
  cases ho : opn c a'.2 b'.2 (vnot 64 a'.1) (vnot 64 b'.1) i with
  | true => exact ⟨fun h => by simp at h, fun h => by simp at h⟩
  | false =>
    obtain ⟨k1, k2⟩ := key ho
    rw [k1, k2]; exact ⟨id, id⟩
theorem le_swap {a b : Nat × Nat} (h : Le a b) : Le (a.2, a.1) (b.2, b.1) := fun i => ⟨(h i).2, (h i).1⟩
theorem le_una {op : Int} {r x v : Nat} {a b : Nat × Nat} (ha : El v a) (v1 : 1 ≤ v) (v2 : v ≤ 64) (h : Le a b) : Le (kunaS op r x v a) (kunaS op r x v b) := by
  unfold kunaS
  split
  · exact le_swap h
  · split
    · refine le_sum (by decide) v2 (el_cst v1 v2 0).and ?_ (le_refl' _) (le_swap h)
      rw [Nat.and_comm]; exact ha.and
    · refine le_bld fun i _ => ?_
      unfold uF uG
      split
      · exact h _
      · split
        · exact h _
        · split
          · exact h _
          · exact ⟨id, id⟩
theorem le_mov {w : Nat} (hw : w ≤ 64) {a b : Nat × Nat} (h : Le a b) {by_ : Int} {fz fo fz' fo' : Bool} (h1 : fz' = true → fz = true) (h2 : fo' = true → fo = true) : Le (kmovS w a by_ fz fo) (kmovS w b by_ fz' fo') := by
  refine le_bld fun i hi => ?_
  unfold mF mG shf
  by_cases q : (i : Int) + by_ < (w : Int)
  · rw [if_pos q, if_pos q, if_pos q, if_pos q]
    by_cases q2 : 0 ≤ (i : Int) + by_
    · rw [if_pos q2, if_pos q2, if_pos q2, if_pos q2, vnot64_bit (by omega), vnot64_bit (by omega), Bool.not_not, Bool.not_not]; exact h _
    · rw [if_neg q2, if_neg q2, if_neg q2, if_neg q2]; exact ⟨id, id⟩
  · rw [if_neg q, if_neg q, if_neg q, if_neg q, Bool.not_not, Bool.not_not]; exact ⟨h1, h2⟩
theorem le_sh {op : Int} {w : Nat} (hw : w ≤ 64) {a b : Nat × Nat} (h : Le a b) (n : Nat) : Le (kshS op w a n) (kshS op w b n) := by
  unfold kshS
  split
  · exact le_mov hw h id id
  · split
    · exact le_mov hw h id id
    · exact le_mov hw h (h _).1 (h _).2
theorem lowF_mono {f g : Nat → Bool} (h : ∀ i, f i = true → g i = true) (d : Nat) : ∀ i, lowF f d i ≤ lowF g d i := by
  induction d with
  | zero => intro i; exact Nat.le_refl _
  | succ d ih =>
    intro i
    rw [lowF_succ, lowF_succ]
    cases hf : f i with
    | false =>
      have h1 := lowF_ge g d (i + 1)
      rw [if_neg (by decide)]; split <;> omega
    | true => rw [h i hf]; simpa using ih (i + 1)
theorem klow_mono {w : Nat} {a b : Nat × Nat} (h : Le a b) : klow w b ≤ klow w a := lowF_mono (fun i => (h i).1) w 0
theorem klow_bits {w : Nat} {k : Nat × Nat} {j : Nat} (h : j < klow w k) : k.1.testBit j = true := lowF_all _ w 0 j (Nat.zero_le _) h
theorem low_dvd {x n : Nat} (h : ∀ j, j < n → x.testBit j = false) : 2 ^ n ∣ x := by
  apply Nat.dvd_of_mod_eq_zero
  refine bits_ext fun i => ?_
  rw [Nat.testBit_mod_two_pow, Nat.zero_testBit]
  by_cases hi : i < n
  · rw [h i hi]; simp
  · rw [decide_eq_false hi]; rfl
theorem dvd_low {x n : Nat} (h : 2 ^ n ∣ x) {j : Nat} (hj : j < n) : x.testBit j = false := by
  obtain ⟨q, rfl⟩ := h
  rw [Nat.mul_comm, Nat.testBit_mul_two_pow, decide_eq_false (by omega)]; rfl
theorem mul_low {w : Nat} {a b : Nat × Nat} (ha : El w a) (hb : El w b) {j : Nat} (hj : j < ktim w a b) : (a.2 * b.2).testBit j = false := by
  have h1 : 2 ^ klow w a ∣ a.2 := low_dvd fun j hj => ha.dis j (klow_bits hj)
  have h2 : 2 ^ klow w b ∣ b.2 := low_dvd fun j hj => hb.dis j (klow_bits hj)
  have h3 := Nat.mul_dvd_mul h1 h2
  rw [← Nat.pow_add] at h3
  exact dvd_low h3 (by unfold ktim at hj; omega)
theorem le_low {n : Nat} {a : Nat × Nat} (h : ∀ j, j < n → a.1.testBit j = true) : Le a (vmask n, 0) := fun i => ⟨fun hi => by
  simp only [testBit_mask, decide_eq_true_iff] at hi
  exact h i hi, fun hi => by simp at hi⟩
theorem le_tim {w : Nat} (w1 : 1 ≤ w) (w2 : w ≤ 64) {a b a' b' : Nat × Nat} (ha : El w a) (hb : El w b) (ha' : El w a') (hb' : El w b') (h1 : Le a a') (h2 : Le b b') : Le (ktimS w a b) (ktimS w a' b') := by
  unfold ktimS
  by_cases q : kone w a' ∧ kone w b'
  · rw [le_one w2 ha ha' h1 q.1, le_one w2 hb hb' h2 q.2]; exact le_refl' _
  · rw [if_neg q]
    have m1 := klow_mono (w := w) h1
    have m2 := klow_mono (w := w) h2
    refine le_low fun j hj => ?_
    have hj2 : j < ktim w a b := by unfold ktim at hj ⊢; omega
    have hjw : j < w := by unfold ktim at hj; omega
    split
    · rw [kcst_bit1, decide_eq_true hjw]
      unfold vmul
      rw [Nat.testBit_mod_two_pow, mul_low ha hb hj2]; simp
    · simp only [testBit_mask]; exact decide_eq_true hj2
theorem le_ex {op : Int} {w r : Nat} (w1 : 1 ≤ w) (w2 : w ≤ 64) (hr : op = 12 → r = w) {a b a' b' : Nat × Nat} (ha : El w a) (hb : El w b) (ha' : El w a') (hb' : El w b') (h1 : Le a a') (h2 : Le b b') : Le (kexS op w r a b) (kexS op w r a' b') := by
  unfold kexS
  by_cases q : kone w a' ∧ kone w b'
  · rw [le_one w2 ha ha' h1 q.1, le_one w2 hb hb' h2 q.2]; exact le_refl' _
  · rw [if_neg q]
    by_cases q2 : op = 12 ∧ kone w b' ∧ ones b'.2 = 1
    · obtain ⟨rfl, k1, k2⟩ := q2
      obtain rfl := hr rfl
      obtain rfl := le_one w2 hb hb' h2 k1
      obtain ⟨m, hm, e⟩ := ones_one hb.l2 k2
      have hmw : m < r := by
        have h2 := lt_of_le_mask (hb.m2 w2)
        rw [e] at h2
        exact (Nat.pow_lt_pow_iff_right (by decide)).1 h2
      rw [if_pos (show (12 : Int) = 12 ∧ kone r b ∧ ones b.2 = 1 from ⟨rfl, k1, k2⟩), if_pos (show (12 : Int) = 12 ∧ kone r b ∧ ones b.2 = 1 from ⟨rfl, k1, k2⟩), e, klog_pow]
      by_cases q3 : kone r a
      · rw [if_pos (show kone r a ∧ kone r b from ⟨q3, k1⟩)]
        intro i
        rw [kcst_bit1, kcst_bit2]
        have hv : kval 12 r a.2 (2 ^ m) = a.2 % 2 ^ m := by
          show vurem r a.2 (2 ^ m) = _
          unfold vurem
          have hp := pw_pos m
          have hlt := Nat.pow_lt_pow_right (a := 2) (by decide) hmw
          rw [Nat.mod_eq_of_lt hlt, if_neg (by omega), cut_of_le (ha.m2 w2)]
        rw [hv, Nat.testBit_mod_two_pow]
        show ((bld _ r).testBit i = true → _) ∧ ((bld _ r).testBit i = true → _)
        rw [testBit_bld, testBit_bld]
        have h3 := h1 i
        have h4 := ha.dis i
        by_cases hi : i < r
        · rw [decide_eq_true hi]
          by_cases hj : i < m
          · rw [decide_eq_true hj, if_pos hj, if_pos hj]
            revert h3 h4; cases a.1.testBit i <;> cases a.2.testBit i <;> cases a'.1.testBit i <;> cases a'.2.testBit i <;> decide
          · rw [decide_eq_false hj, if_neg hj, if_neg hj]; simp
        · rw [decide_eq_false hi]; simp
      · rw [if_neg (show ¬ (kone r a ∧ kone r b) from fun h => q3 h.1)]
        refine le_bld fun i _ => ?_
        split
        · exact h1 i
        · exact ⟨id, id⟩
    · rw [if_neg q2]; exact le_top _
theorem le_eq {w : Nat} (w2 : w ≤ 64) {a b a' b' : Nat × Nat} (ha : El w a) (hb : El w b) (ha' : El w a') (hb' : El w b') (h1 : Le a a') (h2 : Le b b') : Le (keqS w a b) (keqS w a' b') := by
  unfold keqS
  have sub : ∀ {x y x' y' : Nat}, (∀ i, x'.testBit i = true → x.testBit i = true) → (∀ i, y'.testBit i = true → y.testBit i = true) → x' &&& y' ≠ 0 → x &&& y ≠ 0 := by
    intro x y x' y' hx hy hn e
    refine hn (bits_ext fun i => ?_)
    have q := bit_of e i
    have hx := hx i
    have hy := hy i
    rw [Nat.testBit_and, Nat.zero_testBit] at q ⊢
    revert q hx hy; cases x.testBit i <;> cases y.testBit i <;> cases x'.testBit i <;> cases y'.testBit i <;> decide
  by_cases q : a'.1 &&& b'.2 ≠ 0 ∨ a'.2 &&& b'.1 ≠ 0
  · have : a.1 &&& b.2 ≠ 0 ∨ a.2 &&& b.1 ≠ 0 := by
      rcases q with q | q
      · exact .inl (sub (fun i => (h1 i).1) (fun i => (h2 i).2) q)
      · exact .inr (sub (fun i => (h1 i).2) (fun i => (h2 i).1) q)
    rw [if_pos q, if_pos this]; exact le_refl' _
  · rw [if_neg q]
    by_cases q2 : kone w a' ∧ kone w b' ∧ a'.2 = b'.2
    · obtain rfl := le_one w2 ha ha' h1 q2.1
      obtain rfl := le_one w2 hb hb' h2 q2.2.1
      rw [if_neg q]; exact le_refl' _
    · rw [if_neg q2]; exact le_top _
theorem le_con {v u : Nat} (huv : v + u ≤ 64) {a b a' b' : Nat × Nat} (ha : El v a) (hb : El u b) (ha' : El v a') (hb' : El u b') (h1 : Le a a') (h2 : Le b b') : Le (kconS v u a b) (kconS v u a' b') := by
  unfold kconS
  rw [concat_bld huv _ _ (lt_of_le_mask (ha.m1 (by omega))) (lt_of_le_mask (hb.m1 (by omega))), concat_bld huv _ _ (lt_of_le_mask (ha.m2 (by omega))) (lt_of_le_mask (hb.m2 (by omega))),
    concat_bld huv _ _ (lt_of_le_mask (ha'.m1 (by omega))) (lt_of_le_mask (hb'.m1 (by omega))), concat_bld huv _ _ (lt_of_le_mask (ha'.m2 (by omega))) (lt_of_le_mask (hb'.m2 (by omega)))]
  refine le_bld fun i _ => ?_
  unfold cF
  split
  · exact h1 _
  · exact h2 _
theorem mono_or {x y x' y' : Bool} (h1 : x' = true → x = true) (h2 : y' = true → y = true) : (x' || y') = true → (x || y) = true := by
  revert h1 h2; cases x <;> cases y <;> cases x' <;> cases y' <;> decide
theorem mono_and {x y x' y' : Bool} (h1 : x' = true → x = true) (h2 : y' = true → y = true) : (x' && y') = true → (x && y) = true := by
  revert h1 h2; cases x <;> cases y <;> cases x' <;> cases y' <;> decide
theorem le_bin {op : Int} {r v u : Nat} (v1 : 1 ≤ v) (v2 : v ≤ 64) (huv : op = 20 → v + u ≤ 64) (hu : op ≠ 20 → u = v) (hr : op = 12 → r = v) {a b a' b' : Nat × Nat} (ha : El v a) (hb : El u b) (ha' : El v a') (hb' : El u b') (h1 : Le a a') (h2 : Le b b') : Le (kbinS op r v u a b) (kbinS op r v u a' b') := by
  unfold kbinS
  have bits : ∀ i, (a'.1.testBit i = true → a.1.testBit i = true) ∧ (a'.2.testBit i = true → a.2.testBit i = true) ∧ (b'.1.testBit i = true → b.1.testBit i = true) ∧ (b'.2.testBit i = true → b.2.testBit i = true) := fun i => ⟨(h1 i).1, (h1 i).2, (h2 i).1, (h2 i).2⟩
  split
  · intro i
    obtain ⟨q1, q2, q3, q4⟩ := bits i
    simp only [Nat.testBit_or, Nat.testBit_and]
    exact ⟨mono_or q1 q3, mono_and q2 q4⟩
  · split
    · intro i
      obtain ⟨q1, q2, q3, q4⟩ := bits i
      simp only [Nat.testBit_or, Nat.testBit_and]
      exact ⟨mono_and q1 q3, mono_or q2 q4⟩
    · split
      · intro i
        obtain ⟨q1, q2, q3, q4⟩ := bits i
        simp only [Nat.testBit_or, Nat.testBit_and]
        exact ⟨mono_or (mono_and q1 q3) (mono_and q2 q4), mono_or (mono_and q1 q4) (mono_and q2 q3)⟩
      · split
        · exact le_sum (by decide) v2 ha.and hb.and h1 h2
        · split
          · exact le_sum (by decide) v2 ha.and (by rw [Nat.and_comm]; exact hb.and) h1 (le_swap h2)
          · split
            · exact le_con (huv (by omega)) ha hb ha' hb' h1 h2
            · obtain rfl := hu (by omega)
              split
              · exact le_eq v2 ha hb ha' hb' h1 h2
              · split
                · by_cases q : kone u b'
                  · obtain rfl := le_one v2 hb hb' h2 q
                    rw [if_pos q, if_pos q]; exact le_sh v2 h1 _
                  · rw [if_neg q]; exact le_top _
                · split
                  · exact le_tim v1 v2 ha hb ha' hb' h1 h2
                  · exact le_ex v1 v2 hr ha hb ha' hb' h1 h2
theorem le_ite {c a b c' a' b' : Nat × Nat} (hc : El 1 c) (hc' : El 1 c') (h0 : Le c c') (h1 : Le a a') (h2 : Le b b') : Le (kiteS c a b) (kiteS c' a' b') := by
  unfold kiteS
  by_cases q : kone 1 c'
  · obtain rfl := le_one (by decide) hc hc' h0 q
    rw [if_pos q, if_pos q]
    split
    · exact h1
    · exact h2
  · rw [if_neg q]
    have e : ∀ i, (a'.1 &&& b'.1).testBit i = true → a.1.testBit i = true ∧ b.1.testBit i = true := fun i h => by
      rw [Nat.testBit_and, Bool.and_eq_true] at h; exact ⟨(h1 i).1 h.1, (h2 i).1 h.2⟩
    have f : ∀ i, (a'.2 &&& b'.2).testBit i = true → a.2.testBit i = true ∧ b.2.testBit i = true := fun i h => by
      rw [Nat.testBit_and, Bool.and_eq_true] at h; exact ⟨(h1 i).2 h.1, (h2 i).2 h.2⟩
    split
    · split
      · exact fun i => ⟨fun h => (e i h).1, fun h => (f i h).1⟩
      · exact fun i => ⟨fun h => (e i h).2, fun h => (f i h).2⟩
    · exact fun i => ⟨fun h => by have := e i h; rw [Nat.testBit_and, this.1, this.2]; rfl, fun h => by have := f i h; rw [Nat.testBit_and, this.1, this.2]; rfl⟩
end Go.Proofs.YtcihbcffokjgjaaGreat.Fn
namespace Go.Proofs.YtcihbcffokjgjaaGreat.Fn
open Go Go.RowKit Go.Proofs.YtcihbcffokjgjaaGreat.Ev Go.Proofs.YtcihbcffokjgjaaGreat.Bv
set_option linter.unusedVariables false
set_option linter.unusedSimpArgs false
set_option maxRecDepth 100000
def Cas (op : Int) (r x n : Nat) (g : Nat → Int) : Prop :=
  ((op = 1 ∨ op = 2) ∧ n = 0) ∨ ((op = 3 ∨ op = 4) ∧ n = 1 ∧ (r : Int) = g 0) ∨
    ((op = 21 ∨ op = 22 ∨ op = 23) ∧ n = 1 ∧ (op = 21 → (x : Int) + r ≤ g 0) ∧ (op = 22 ∨ op = 23 → g 0 ≤ r)) ∨
    (op = 19 ∧ n = 3 ∧ g 0 = 1 ∧ g 1 = r ∧ g 2 = r) ∨ (op = 20 ∧ n = 2 ∧ (r : Int) = g 0 + g 1) ∨
    ((op = 16 ∨ op = 17 ∨ op = 18) ∧ n = 2 ∧ g 1 = g 0 ∧ (r : Int) = 1) ∨ ((5 ≤ op ∧ op ≤ 15) ∧ n = 2 ∧ g 1 = g 0 ∧ (r : Int) = g 0)
theorem chk_cas {op w : Int} {x n m : Nat} {g : Nat → Int} (h : (chkS op w x n m g).2 = 0) :
    m = n ∧ n ≤ 3 ∧ 1 ≤ op ∧ op ≤ 23 ∧ (∀ i, i < n → 1 ≤ g i ∧ g i ≤ 64) ∧ ∃ r : Nat, (chkS op w x n m g).1 = (r : Int) ∧ 1 ≤ r ∧ r ≤ 64 ∧ Cas op r x n g := by
  obtain ⟨h1, h2, rfl, ha, hg, he, e0, e1⟩ := chkS_ok h
  have ar := arity_in (op := op) (by omega) (by omega)
  obtain ⟨r1, r2, hcases⟩ := widthT_ok h1 h2 ha hg e0 e1
  obtain ⟨r, hr, r1, r2⟩ := nat_of r1 r2
  refine ⟨rfl, by omega, h1, h2, hg, r, by rw [he]; exact hr, r1, r2, ?_⟩
  rw [hr] at hcases
  exact hcases
theorem el_val {op : Int} {r x n : Nat} {g : Nat → Int} {e : Nat → Nat × Nat} (hc : Cas op r x n g) (hg : ∀ i, i < n → 1 ≤ g i ∧ g i ≤ 64) (he : ∀ i, i < n → El (g i).toNat (e i)) (r1 : 1 ≤ r) (r2 : r ≤ 64) : El r (kvalS op r x g e) := by
  unfold kvalS
  rcases hc with ⟨hop, rfl⟩ | ⟨hop, rfl, hr⟩ | ⟨hop, rfl, hr, hr2⟩ | ⟨rfl, rfl, g0, g1, g2⟩ | ⟨rfl, rfl, hr⟩ | ⟨hop, rfl, g1, hr⟩ | ⟨hop, rfl, g1, hr⟩
  · rcases hop with rfl | rfl
    · rw [if_pos rfl]; exact el_top r2
    · rw [if_neg (by decide), if_pos rfl]; exact el_cst r1 r2 _
  · rw [if_neg (by omega), if_neg (by omega), if_neg (by omega), if_pos (by omega)]
    have := hg 0 (by omega)
    exact el_una (he 0 (by omega)) (by omega) r2 (fun _ => by omega)
  · rw [if_neg (by omega), if_neg (by omega), if_neg (by omega), if_pos (by omega)]
    have := hg 0 (by omega)
    exact el_una (he 0 (by omega)) (by omega) r2 (fun h => by omega)
  · rw [if_neg (by decide), if_neg (by decide), if_pos rfl]
    have h1 := he 1 (by omega)
    have h2 := he 2 (by omega)
    rw [show (g 1).toNat = r by omega] at h1
    rw [show (g 2).toNat = r by omega] at h2
    exact el_ite r2 h1 h2
  · rw [if_neg (by decide), if_neg (by decide), if_neg (by decide), if_neg (by decide)]
    have := hg 0 (by omega)
    have := hg 1 (by omega)
    exact el_bin (by decide) (by decide) (by decide) (he 0 (by omega)) (he 1 (by omega)) (by omega) (by omega) (by omega) r1 r2 (fun h => absurd rfl h) (fun h => by omega) (fun h => absurd h (by decide)) (fun _ => by omega)
  · rw [if_neg (by omega), if_neg (by omega), if_neg (by omega), if_neg (by omega)]
    have := hg 0 (by omega)
    have := hg 1 (by omega)
    exact el_bin (by omega) (by omega) (by omega) (he 0 (by omega)) (he 1 (by omega)) (by omega) (by omega) (by omega) r1 r2 (fun h => by omega) (fun h => by omega) (fun h => by omega) (fun h => by omega)
  · rw [if_neg (by omega), if_neg (by omega), if_neg (by omega), if_neg (by omega)]
    have := hg 0 (by omega)
    have := hg 1 (by omega)
    exact el_bin (by omega) (by omega) (by omega) (he 0 (by omega)) (he 1 (by omega)) (by omega) (by omega) (by omega) r1 r2 (fun h => by omega) (fun h => by omega) (fun h => by omega) (fun h => by omega)
theorem le_val {op : Int} {r x n : Nat} {g : Nat → Int} {e e' : Nat → Nat × Nat} (hc : Cas op r x n g) (hg : ∀ i, i < n → 1 ≤ g i ∧ g i ≤ 64) (he : ∀ i, i < n → El (g i).toNat (e i)) (he' : ∀ i, i < n → El (g i).toNat (e' i)) (hl : ∀ i, i < n → Le (e i) (e' i)) (r2 : r ≤ 64) : Le (kvalS op r x g e) (kvalS op r x g e') := by
  unfold kvalS
  rcases hc with ⟨hop, rfl⟩ | ⟨hop, rfl, hr⟩ | ⟨hop, rfl, hr, hr2⟩ | ⟨rfl, rfl, g0, g1, g2⟩ | ⟨rfl, rfl, hr⟩ | ⟨hop, rfl, g1, hr⟩ | ⟨hop, rfl, g1, hr⟩
  · rcases hop with rfl | rfl <;> exact le_refl' _
  · rw [if_neg (by omega), if_neg (by omega), if_neg (by omega), if_pos (by omega), if_neg (by omega), if_neg (by omega), if_neg (by omega), if_pos (by omega)]
    have := hg 0 (by omega)
    exact le_una (he 0 (by omega)) (by omega) (by omega) (hl 0 (by omega))
  · rw [if_neg (by omega), if_neg (by omega), if_neg (by omega), if_pos (by omega), if_neg (by omega), if_neg (by omega), if_neg (by omega), if_pos (by omega)]
    have := hg 0 (by omega)
    exact le_una (he 0 (by omega)) (by omega) (by omega) (hl 0 (by omega))
  · rw [if_neg (by decide), if_neg (by decide), if_pos rfl, if_neg (by decide), if_neg (by decide), if_pos rfl]
    have h0 := he 0 (by omega)
    have h0' := he' 0 (by omega)
    rw [show (g 0).toNat = 1 by omega] at h0 h0'
    exact le_ite h0 h0' (hl 0 (by omega)) (hl 1 (by omega)) (hl 2 (by omega))
  all_goals
    rw [if_neg (by omega), if_neg (by omega), if_neg (by omega), if_neg (by omega), if_neg (by omega), if_neg (by omega), if_neg (by omega), if_neg (by omega)]
    have := hg 0 (by omega)
    have := hg 1 (by omega)
    exact le_bin (by omega) (by omega) (fun h => by omega) (fun h => by omega) (fun h => by omega) (he 0 (by omega)) (he 1 (by omega)) (he' 0 (by omega)) (he' 1 (by omega)) (hl 0 (by omega)) (hl 1 (by omega))
theorem cat_lt {n : Nat} {f h : Nat → Int} {i : Nat} (hi : i < n) : cat n f h i = f i := by
  unfold cat; rw [show Nat.blt i n = true by rw [Nat.blt_eq]; exact hi]; rfl
theorem cat_at {n : Nat} {f h : Nat → Int} : cat n f h n = h 0 := by
  unfold cat; rw [show Nat.blt n n = false by cases q : Nat.blt n n with | false => rfl | true => rw [Nat.blt_eq] at q; omega]; simp
end Go.Proofs.YtcihbcffokjgjaaGreat.Fn
