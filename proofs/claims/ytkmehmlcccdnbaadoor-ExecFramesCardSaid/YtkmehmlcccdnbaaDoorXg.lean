/- Whether a program is valid: the program's check and the reference's return the same. -/
import Derived.Test.YtkmehmlcccdnbaaDoorF0
import Derived.Test.YtkmehmlcccdnbaaDoorF7
import Derived.Test.YtkmehmlcccdnbaaDoorXf
namespace Go.Proofs.YtkmehmlcccdnbaaDoor.Fn
open Go Go.RowKit Go.Proofs.YtkmehmlcccdnbaaDoor.Ev Go.Proofs.YtkmehmlcccdnbaaDoor.Bv
set_option linter.unusedVariables false
set_option linter.unusedSimpArgs false
set_option maxRecDepth 100000

theorem first_bad {P : Nat → Prop} : ∀ p, P p → ∃ q, q ≤ p ∧ P q ∧ ∀ r, r < q → ¬ P r := by
  intro p
  induction p using Nat.strongRecOn with
  | _ p ih =>
    intro hp
    by_cases h : ∃ r, r < p ∧ P r
    · obtain ⟨r, h1, h2⟩ := h
      obtain ⟨q, a, b, c⟩ := ih r h1 h2
      exact ⟨q, by omega, b, c⟩
    · exact ⟨p, Nat.le_refl _, hp, fun r hr hP => h ⟨r, hr, hP⟩⟩
structure Valid (c : CodeT) : Prop where
  w : 1 ≤ c.1 ∧ c.1 ≤ 64
  r : 1 ≤ c.2.1 ∧ c.2.1 ≤ 8
  n : c.2.2.1.1 ≤ 256
  ins : ∀ p, p < c.2.2.1.1 → insS c.1 c.2.1 (insOf c p) = 0
  out : ∀ p, p < c.2.2.2.1 → inR c.2.1 (c.2.2.2.2 p) = true
  dup : ∀ p, p < c.2.2.2.1 → ∀ q, q < p → c.2.2.2.2 p ≠ c.2.2.2.2 q
theorem Index_j2 (fu : Nat) {n m : Nat} (hn : n < 4611686018427387904) {x : Int} {g : Nat → Int} : ∀ (d i k : Nat), i + d = n → d < k → ∃ r, slices_Index_int_int.j2 fu k n x (n : Int) (i : Int) m g = some r ∧ (r ≥ 0 ↔ ∃ q, i ≤ q ∧ q < n ∧ x = g q)
  | 0, i, k + 1, hi, _ => ⟨-1, by rw [slices_Index_int_int.j2_succ, bifd_neg (by omega)], ⟨fun h => by omega, fun ⟨q, h1, h2, _⟩ => by omega⟩⟩
  | d + 1, i, k + 1, hi, hk => by
    rw [slices_Index_int_int.j2_succ, bifd_pos (by omega), bifd_pos (by omega), bifd_pos (by omega), Int.toNat_natCast]
    by_cases hg : x = g i
    · rw [show (x == g i) = true by rw [beq_iff_eq]; exact hg, cond_true]
      exact ⟨_, rfl, ⟨fun _ => ⟨i, Nat.le_refl _, by omega, hg⟩, fun _ => by omega⟩⟩
    · rw [show (x == g i) = false by rw [beq_eq_false_iff_ne]; exact hg, cond_false, wrap_nat (by omega)]
      obtain ⟨r, h1, h2⟩ := Index_j2 fu hn (x := x) (g := g) d (i + 1) k (by omega) (by omega)
      refine ⟨r, h1, h2.trans ⟨fun ⟨q, a, b, c⟩ => ⟨q, by omega, b, c⟩, fun ⟨q, a, b, c⟩ => ⟨q, ?_, b, c⟩⟩⟩
      by_cases e : q = i
      · subst e; exact absurd c hg
      · omega
theorem Contains_eq {n : Nat} (hn : n < 4611686018427387904) (g : Nat → Int) (x : Int) : ∃ b, slices_Contains_int_int.f (n, g) x = some b ∧ (b = true ↔ ∃ q, q < n ∧ x = g q) := by
  unfold slices_Contains_int_int.f slices_Index_int_int.f slices_Index_int_int.g
  obtain ⟨r, h1, h2⟩ := Index_j2 (fuel0 + 1) (m := n) hn (x := x) (g := g) n 0 (fuel0 + 1) (by omega) (by unfold fuel0; omega)
  rw [show ((0 : Nat) : Int) = 0 from rfl] at h1
  simp only
  rw [h1, Option.bind_some]
  refine ⟨_, rfl, ?_⟩
  rw [decide_eq_true_eq, h2]
  exact ⟨fun ⟨q, _, b, c⟩ => ⟨q, b, c⟩, fun ⟨q, b, c⟩ => ⟨q, Nat.zero_le _, b, c⟩⟩
section
variable {c0 c1 : Int} {n m M M' : Nat} {g0 g1 g2 g3 g4 g5 g : Nat → Int}
theorem isa_j21_bad (fu : Nat) (hm : m < 4611686018427387904) {p : Nat} (hp : p < m) (hd : ∃ q, q < p ∧ g p = g q) : ∀ (d i k : Nat), i + d = p → d < k → (∀ r, i ≤ r → r < p → ∀ q, q < r → g r ≠ g q) →
    isa_Check.j21 fu k m (m : Int) (i : Int) c0 c1 n m M g0 g1 g2 g3 g4 g5 M' g = some (-1, 9)
  | d, i, k + 1, hi, hk, hall => by
    rw [isa_Check.j21_succ, bifd_pos (by omega), bifd_pos (by omega), bifd_pos (by omega), bifd_pos (by omega), bifd_pos (by omega), Int.toNat_natCast]
    obtain ⟨b, hb, hi'⟩ := Contains_eq (n := i) (by omega) g (g i)
    rw [hb]
    simp only [Option.bind_some]
    match d, hi, hk with
    | 0, hi, hk =>
      obtain rfl : i = p := by omega
      rw [hi'.2 hd, cond_true]
    | d + 1, hi, hk =>
      have : b = false := by
        cases b with
        | false => rfl
        | true => obtain ⟨q, h1, h2⟩ := hi'.1 rfl; exact absurd h2 (hall i (Nat.le_refl _) (by omega) q h1)
      rw [this, cond_false, wrap_nat (by omega)]
      exact isa_j21_bad fu hm hp hd d (i + 1) k (by omega) (by omega) fun r h1 h2 => hall r (by omega) h2
theorem isa_j21_good (fu : Nat) (hm : m < 4611686018427387904) : ∀ (d i k : Nat), i + d = m → d < k → (∀ r, i ≤ r → r < m → ∀ q, q < r → g r ≠ g q) →
    isa_Check.j21 fu k m (m : Int) (i : Int) c0 c1 n m M g0 g1 g2 g3 g4 g5 M' g = some (0, 0)
  | 0, i, k + 1, hi, _, _ => by rw [isa_Check.j21_succ, bifd_neg (by omega)]
  | d + 1, i, k + 1, hi, hk, hall => by
    rw [isa_Check.j21_succ, bifd_pos (by omega), bifd_pos (by omega), bifd_pos (by omega), bifd_pos (by omega), bifd_pos (by omega), Int.toNat_natCast]
    obtain ⟨b, hb, hi'⟩ := Contains_eq (n := i) (by omega) g (g i)
    rw [hb]
    simp only [Option.bind_some]
    have : b = false := by
      cases b with
      | false => rfl
      | true => obtain ⟨q, h1, h2⟩ := hi'.1 rfl; exact absurd h2 (hall i (Nat.le_refl _) (by omega) q h1)
    rw [this, cond_false, wrap_nat (by omega)]
    exact isa_j21_good fu hm d (i + 1) k (by omega) (by omega) fun r h1 h2 => hall r (by omega) h2
theorem isa_j15_bad (fu : Nat) (hm : m < 4611686018427387904) {p : Nat} (hp : p < m) (hb : inR c1 (g p) = false) : ∀ (d i k : Nat), i + d = p → d < k →
    isa_Check.j15 fu k m (m : Int) (i : Int) c0 c1 n m M g0 g1 g2 g3 g4 g5 M' g = some (-1, 18)
  | d, i, k + 1, hi, hk => by
    rw [isa_Check.j15_succ, bifd_pos (by omega), bifd_pos (by omega), bifd_pos (by omega), Int.toNat_natCast]
    by_cases hA : g i < 0
    · rw [bifd_pos hA]
    · rw [bifd_neg hA]
      by_cases hB : g i ≥ c1
      · rw [bifd_pos hB]
      · rw [bifd_neg hB]
        match d, hi, hk with
        | 0, hi, hk =>
          obtain rfl : i = p := by omega
          rw [Bool.eq_false_iff] at hb
          exact absurd (inR_iff.2 ⟨by omega, by omega⟩) hb
        | d + 1, hi, hk =>
          rw [wrap_nat (by omega)]
          exact isa_j15_bad fu hm hp hb d (i + 1) k (by omega) (by omega)
theorem isa_j15_good (fu : Nat) (hm : m < 4611686018427387904) : ∀ (d i k : Nat), i + d = m → d < k → (∀ p, i ≤ p → p < m → inR c1 (g p) = true) →
    isa_Check.j15 fu k m (m : Int) (i : Int) c0 c1 n m M g0 g1 g2 g3 g4 g5 M' g = isa_Check.j21 fu fu m (m : Int) 0 c0 c1 n m M g0 g1 g2 g3 g4 g5 M' g
  | 0, i, k + 1, hi, _, _ => by rw [isa_Check.j15_succ, bifd_neg (by omega)]
  | d + 1, i, k + 1, hi, hk, hall => by
    have := inR_iff.1 (hall i (Nat.le_refl _) (by omega))
    rw [isa_Check.j15_succ, bifd_pos (by omega), bifd_pos (by omega), bifd_pos (by omega), Int.toNat_natCast, bifd_neg (by omega), bifd_neg (by omega), wrap_nat (by omega)]
    exact isa_j15_good fu hm d (i + 1) k (by omega) (by omega) fun r h1 h2 => hall r (by omega) h2
theorem isa_j8_bad (fu : Nat) (hn : n ≤ 256) {p : Nat} (hp : p < n) (hb : insS c0 c1 (g0 p, g1 p, g2 p, g3 p, g4 p, g5 p) ≠ 0) : ∀ (d i k : Nat), i + d = p → d < k → (∀ q, i ≤ q → q < p → insS c0 c1 (g0 q, g1 q, g2 q, g3 q, g4 q, g5 q) = 0) →
    isa_Check.j8 fu k n (n : Int) (i : Int) c0 c1 n m M g0 g1 g2 g3 g4 g5 M' g = some ((p : Int), insS c0 c1 (g0 p, g1 p, g2 p, g3 p, g4 p, g5 p))
  | d, i, k + 1, hi, hk, hall => by
    rw [isa_Check.j8_succ, bifd_pos (by omega), bifd_pos (by omega), bifd_pos (by omega), Int.toNat_natCast, isa_ins_eq]
    simp only [Option.bind_some]
    match d, hi, hk with
    | 0, hi, hk =>
      obtain rfl : i = p := by omega
      rw [show (insS c0 c1 (g0 i, g1 i, g2 i, g3 i, g4 i, g5 i) != 0) = true by rw [bne_iff_ne]; exact hb, cond_true]
    | d + 1, hi, hk =>
      rw [show (insS c0 c1 (g0 i, g1 i, g2 i, g3 i, g4 i, g5 i) != 0) = false by rw [hall i (Nat.le_refl _) (by omega)]; rfl, cond_false, wrap_nat (by omega)]
      exact isa_j8_bad fu hn hp hb d (i + 1) k (by omega) (by omega) fun q h1 h2 => hall q (by omega) h2
theorem isa_j8_good (fu : Nat) (hn : n ≤ 256) : ∀ (d i k : Nat), i + d = n → d < k → (∀ q, i ≤ q → q < n → insS c0 c1 (g0 q, g1 q, g2 q, g3 q, g4 q, g5 q) = 0) →
    isa_Check.j8 fu k n (n : Int) (i : Int) c0 c1 n m M g0 g1 g2 g3 g4 g5 M' g = isa_Check.j15 fu fu m (m : Int) 0 c0 c1 n m M g0 g1 g2 g3 g4 g5 M' g
  | 0, i, k + 1, hi, _, _ => by rw [isa_Check.j8_succ, bifd_neg (by omega)]
  | d + 1, i, k + 1, hi, hk, hall => by
    rw [isa_Check.j8_succ, bifd_pos (by omega), bifd_pos (by omega), bifd_pos (by omega), Int.toNat_natCast, isa_ins_eq]
    simp only [Option.bind_some]
    rw [show (insS c0 c1 (g0 i, g1 i, g2 i, g3 i, g4 i, g5 i) != 0) = false by rw [hall i (Nat.le_refl _) (by omega)]; rfl, cond_false, wrap_nat (by omega)]
    exact isa_j8_good fu hn d (i + 1) k (by omega) (by omega) fun q h1 h2 => hall q (by omega) h2
/-! ### the reference -/
theorem ref_j22_bad (fu n19 : Nat) {i : Nat} (hm : m < 4611686018427387904) (hi : i < m) {q : Nat} (hq : q < i) (he : g i = g q) : ∀ (d j k : Nat), j + d = q → d < k →
    saturateref48_Check.j22 fu n19 k (i : Int) (j : Int) c0 c1 n m M g0 g1 g2 g3 g4 g5 M' g = some (-1, 9)
  | d, j, k + 1, hj, hk => by
    rw [saturateref48_Check.j22_succ, bifd_pos (by omega), bifd_pos (by omega), bifd_pos (by omega), bifd_pos (by omega), bifd_pos (by omega), Int.toNat_natCast, Int.toNat_natCast]
    by_cases hg : g i = g j
    · rw [show (g i == g j) = true by rw [beq_iff_eq]; exact hg, cond_true]
    · rw [show (g i == g j) = false by rw [beq_eq_false_iff_ne]; exact hg, cond_false]
      match d, hj, hk with
      | 0, hj, hk =>
        obtain rfl : j = q := by omega
        exact absurd he hg
      | d + 1, hj, hk =>
        rw [wrap_nat (by omega)]
        exact ref_j22_bad fu n19 hm hi hq he d (j + 1) k (by omega) (by omega)
theorem ref_j22_good (fu n19 : Nat) {i : Nat} (hm : m < 4611686018427387904) (hi : i < m) : ∀ (d j k : Nat), j + d = i → d < k → (∀ q, j ≤ q → q < i → g i ≠ g q) →
    saturateref48_Check.j22 fu n19 k (i : Int) (j : Int) c0 c1 n m M g0 g1 g2 g3 g4 g5 M' g = saturateref48_Check.j19 fu n19 ((i + 1 : Nat) : Int) c0 c1 n m M g0 g1 g2 g3 g4 g5 M' g
  | 0, j, k + 1, hj, _, _ => by rw [saturateref48_Check.j22_succ, bifd_neg (by omega), wrap_nat (by omega)]
  | d + 1, j, k + 1, hj, hk, hall => by
    rw [saturateref48_Check.j22_succ, bifd_pos (by omega), bifd_pos (by omega), bifd_pos (by omega), bifd_pos (by omega), bifd_pos (by omega), Int.toNat_natCast, Int.toNat_natCast]
    rw [show (g i == g j) = false by rw [beq_eq_false_iff_ne]; exact hall j (Nat.le_refl _) (by omega), cond_false, wrap_nat (by omega)]
    exact ref_j22_good fu n19 hm hi d (j + 1) k (by omega) (by omega) fun q h1 h2 => hall q (by omega) h2
theorem ref_j19_bad (fu : Nat) (hm : m < 4611686018427387904) (hf : m < fu) {p : Nat} (hp : p < m) (hd : ∃ q, q < p ∧ g p = g q) : ∀ (d i k : Nat), i + d = p → d < k → (∀ r, i ≤ r → r < p → ∀ q, q < r → g r ≠ g q) →
    saturateref48_Check.j19 fu k (i : Int) c0 c1 n m M g0 g1 g2 g3 g4 g5 M' g = some (-1, 9)
  | d, i, k + 1, hi, hk, hall => by
    rw [saturateref48_Check.j19_succ, bifd_pos (by omega)]
    rw [show (0 : Int) = ((0 : Nat) : Int) from rfl]
    match d, hi, hk with
    | 0, hi, hk =>
      obtain rfl : i = p := by omega
      obtain ⟨q, h1, h2⟩ := hd
      exact ref_j22_bad fu k hm hp h1 h2 q 0 fu (by omega) (by omega)
    | d + 1, hi, hk =>
      rw [ref_j22_good fu k hm (by omega) i 0 fu (by omega) (by omega) fun q _ h2 => hall i (Nat.le_refl _) (by omega) q h2]
      exact ref_j19_bad fu hm hf hp hd d (i + 1) k (by omega) (by omega) fun r h1 h2 => hall r (by omega) h2
theorem ref_j19_good (fu : Nat) (hm : m < 4611686018427387904) (hf : m < fu) : ∀ (d i k : Nat), i + d = m → d < k → (∀ r, i ≤ r → r < m → ∀ q, q < r → g r ≠ g q) →
    saturateref48_Check.j19 fu k (i : Int) c0 c1 n m M g0 g1 g2 g3 g4 g5 M' g = some (0, 0)
  | 0, i, k + 1, hi, _, _ => by rw [saturateref48_Check.j19_succ, bifd_neg (by omega)]
  | d + 1, i, k + 1, hi, hk, hall => by
    rw [saturateref48_Check.j19_succ, bifd_pos (by omega)]
    rw [show (0 : Int) = ((0 : Nat) : Int) from rfl]
    rw [ref_j22_good fu k hm (by omega) i 0 fu (by omega) (by omega) fun q _ h2 => hall i (Nat.le_refl _) (by omega) q h2]
    exact ref_j19_good fu hm hf d (i + 1) k (by omega) (by omega) fun r h1 h2 => hall r (by omega) h2
theorem ref_j14_bad (fu : Nat) (hm : m < 4611686018427387904) {p : Nat} (hp : p < m) (hb : inR c1 (g p) = false) : ∀ (d i k : Nat), i + d = p → d < k →
    saturateref48_Check.j14 fu k (i : Int) c0 c1 n m M g0 g1 g2 g3 g4 g5 M' g = some (-1, 18)
  | d, i, k + 1, hi, hk => by
    rw [saturateref48_Check.j14_succ, bifd_pos (by omega), bifd_pos (by omega), bifd_pos (by omega), Int.toNat_natCast]
    by_cases hA : g i < 0
    · rw [bifd_pos hA]
    · rw [bifd_neg hA, bifd_pos (by omega), bifd_pos (by omega)]
      by_cases hB : g i ≥ c1
      · rw [bifd_pos hB]
      · rw [bifd_neg hB]
        match d, hi, hk with
        | 0, hi, hk =>
          obtain rfl : i = p := by omega
          rw [Bool.eq_false_iff] at hb
          exact absurd (inR_iff.2 ⟨by omega, by omega⟩) hb
        | d + 1, hi, hk =>
          rw [wrap_nat (by omega)]
          exact ref_j14_bad fu hm hp hb d (i + 1) k (by omega) (by omega)
theorem ref_j14_good (fu : Nat) (hm : m < 4611686018427387904) : ∀ (d i k : Nat), i + d = m → d < k → (∀ p, i ≤ p → p < m → inR c1 (g p) = true) →
    saturateref48_Check.j14 fu k (i : Int) c0 c1 n m M g0 g1 g2 g3 g4 g5 M' g = saturateref48_Check.j19 fu fu 0 c0 c1 n m M g0 g1 g2 g3 g4 g5 M' g
  | 0, i, k + 1, hi, _, _ => by rw [saturateref48_Check.j14_succ, bifd_neg (by omega)]
  | d + 1, i, k + 1, hi, hk, hall => by
    have := inR_iff.1 (hall i (Nat.le_refl _) (by omega))
    rw [saturateref48_Check.j14_succ, bifd_pos (by omega), bifd_pos (by omega), bifd_pos (by omega), Int.toNat_natCast, bifd_neg (by omega), bifd_pos (by omega), bifd_pos (by omega), bifd_neg (by omega), wrap_nat (by omega)]
    exact ref_j14_good fu hm d (i + 1) k (by omega) (by omega) fun r h1 h2 => hall r (by omega) h2
theorem ref_cj8_bad (fu : Nat) (hn : n ≤ 256) (h5 : ∀ p, 0 ≤ g5 p ∧ g5 p < (U64 : Nat)) {p : Nat} (hp : p < n) (hb : insS c0 c1 (g0 p, g1 p, g2 p, g3 p, g4 p, g5 p) ≠ 0) : ∀ (d i k : Nat), i + d = p → d < k → (∀ q, i ≤ q → q < p → insS c0 c1 (g0 q, g1 q, g2 q, g3 q, g4 q, g5 q) = 0) →
    saturateref48_Check.j8 fu k (i : Int) c0 c1 n m M g0 g1 g2 g3 g4 g5 M' g = some ((p : Int), insS c0 c1 (g0 p, g1 p, g2 p, g3 p, g4 p, g5 p))
  | d, i, k + 1, hi, hk, hall => by
    rw [saturateref48_Check.j8_succ, bifd_pos (by omega), bifd_pos (by omega), bifd_pos (by omega), Int.toNat_natCast, ref_ins_eq _ (h5 i)]
    simp only [Option.bind_some]
    match d, hi, hk with
    | 0, hi, hk =>
      obtain rfl : i = p := by omega
      rw [show (insS c0 c1 (g0 i, g1 i, g2 i, g3 i, g4 i, g5 i) != 0) = true by rw [bne_iff_ne]; exact hb, cond_true]
    | d + 1, hi, hk =>
      rw [show (insS c0 c1 (g0 i, g1 i, g2 i, g3 i, g4 i, g5 i) != 0) = false by rw [hall i (Nat.le_refl _) (by omega)]; rfl, cond_false, wrap_nat (by omega)]
      exact ref_cj8_bad fu hn h5 hp hb d (i + 1) k (by omega) (by omega) fun q h1 h2 => hall q (by omega) h2
theorem ref_cj8_good (fu : Nat) (hn : n ≤ 256) (h5 : ∀ p, 0 ≤ g5 p ∧ g5 p < (U64 : Nat)) : ∀ (d i k : Nat), i + d = n → d < k → (∀ q, i ≤ q → q < n → insS c0 c1 (g0 q, g1 q, g2 q, g3 q, g4 q, g5 q) = 0) →
    saturateref48_Check.j8 fu k (i : Int) c0 c1 n m M g0 g1 g2 g3 g4 g5 M' g = saturateref48_Check.j14 fu fu 0 c0 c1 n m M g0 g1 g2 g3 g4 g5 M' g
  | 0, i, k + 1, hi, _, _ => by rw [saturateref48_Check.j8_succ, bifd_neg (by omega)]
  | d + 1, i, k + 1, hi, hk, hall => by
    rw [saturateref48_Check.j8_succ, bifd_pos (by omega), bifd_pos (by omega), bifd_pos (by omega), Int.toNat_natCast, ref_ins_eq _ (h5 i)]
    simp only [Option.bind_some]
    rw [show (insS c0 c1 (g0 i, g1 i, g2 i, g3 i, g4 i, g5 i) != 0) = false by rw [hall i (Nat.le_refl _) (by omega)]; rfl, cond_false, wrap_nat (by omega)]
    exact ref_cj8_good fu hn h5 d (i + 1) k (by omega) (by omega) fun q h1 h2 => hall q (by omega) h2
end
/-- The numbers of a program's instructions are a machine's. -/
structure Good (c : CodeT) : Prop where
  imm : ∀ p, 0 ≤ c.2.2.1.2.2.2.2.2.2 p ∧ c.2.2.1.2.2.2.2.2.2 p < (U64 : Nat)
  out : c.2.2.2.1 < 4611686018427387904
theorem check_both {c : CodeT} (hg : Good c) : ∃ r : Int × Int, isa_Check.f c = some r ∧ saturateref48_Check.f c = some r ∧ (r.2 = 0 ↔ Valid c) ∧ (r.2 = 0 → r = (0, 0)) := by
  obtain ⟨c0, c1, ⟨n, g0, g1, g2, g3, g4, g5⟩, m, g⟩ := c
  have hm : m < 4611686018427387904 := hg.out
  have h5 : ∀ p, 0 ≤ g5 p ∧ g5 p < (U64 : Nat) := hg.imm
  have hmf : m < fuel0 + 1 := by unfold fuel0; omega
  unfold isa_Check.f isa_Check.g saturateref48_Check.f saturateref48_Check.g
  simp only
  have no : ∀ {e a : Int}, e ≠ 0 → ¬ Valid (c0, c1, (n, g0, g1, g2, g3, g4, g5), m, g) → (((a, e) : Int × Int).2 = 0 ↔ Valid (c0, c1, (n, g0, g1, g2, g3, g4, g5), m, g)) ∧ (((a, e) : Int × Int).2 = 0 → ((a, e) : Int × Int) = (0, 0)) := fun he hv => ⟨⟨fun h => absurd h he, fun h => absurd h hv⟩, fun h => absurd h he⟩
  by_cases w1 : c0 < 1
  · rw [bifd_pos w1, bifd_pos w1]; exact ⟨_, rfl, rfl, no (by decide) fun h => by have := h.w.1; simp only at this; omega⟩
  rw [bifd_neg w1, bifd_neg w1]
  by_cases w2 : c0 > 64
  · rw [bifd_pos w2, bifd_pos w2]; exact ⟨_, rfl, rfl, no (by decide) fun h => by have := h.w.2; simp only at this; omega⟩
  rw [bifd_neg w2, bifd_neg w2]
  by_cases r1 : c1 < 1
  · rw [bifd_pos r1, bifd_pos r1]; exact ⟨_, rfl, rfl, no (by decide) fun h => by have := h.r.1; simp only at this; omega⟩
  rw [bifd_neg r1, bifd_neg r1]
  by_cases r2 : c1 > 8
  · rw [bifd_pos r2, bifd_pos r2]; exact ⟨_, rfl, rfl, no (by decide) fun h => by have := h.r.2; simp only at this; omega⟩
  rw [bifd_neg r2, bifd_neg r2]
  by_cases hn : (n : Int) > 256
  · rw [bifd_pos hn, bifd_pos hn]; exact ⟨_, rfl, rfl, no (by decide) fun h => by have := h.n; simp only at this; omega⟩
  rw [bifd_neg hn, bifd_neg hn]
  rw [show (0 : Int) = ((0 : Nat) : Int) from rfl]
  by_cases hins : ∀ p, p < n → insS c0 c1 (g0 p, g1 p, g2 p, g3 p, g4 p, g5 p) = 0
  · rw [isa_j8_good (fuel0 + 1) (by omega) n 0 (fuel0 + 1) (by omega) (by unfold fuel0; omega) fun q _ h => hins q h, ref_cj8_good (fuel0 + 1) (by omega) h5 n 0 (fuel0 + 1) (by omega) (by unfold fuel0; omega) fun q _ h => hins q h]
    rw [show (0 : Int) = ((0 : Nat) : Int) from rfl]
    by_cases hout : ∀ p, p < m → inR c1 (g p) = true
    · rw [isa_j15_good (fuel0 + 1) hm m 0 (fuel0 + 1) (by omega) (by omega) fun q _ h => hout q h, ref_j14_good (fuel0 + 1) hm m 0 (fuel0 + 1) (by omega) (by omega) fun q _ h => hout q h]
      rw [show (0 : Int) = ((0 : Nat) : Int) from rfl]
      by_cases hd : ∀ p, p < m → ∀ q, q < p → g p ≠ g q
      · rw [isa_j21_good (fuel0 + 1) hm m 0 (fuel0 + 1) (by omega) (by omega) fun p _ h => hd p h, ref_j19_good (fuel0 + 1) hm hmf m 0 (fuel0 + 1) (by omega) (by omega) fun p _ h => hd p h]
        exact ⟨_, rfl, rfl, ⟨fun _ => ⟨by simp only; omega, by simp only; omega, by simp only; omega, hins, hout, hd⟩, fun _ => rfl⟩, fun _ => rfl⟩
      · have hex : ∃ p, p < m ∧ ∃ q, q < p ∧ g p = g q := Classical.byContradiction fun hc => hd fun p hp q hq e => hc ⟨p, hp, q, hq, e⟩
        obtain ⟨p, hp⟩ := hex
        obtain ⟨p, _, ⟨hpm, hdp⟩, hfirst⟩ := first_bad (P := fun p => p < m ∧ ∃ q, q < p ∧ g p = g q) p hp
        have hall : ∀ r, 0 ≤ r → r < p → ∀ q, q < r → g r ≠ g q := fun r _ hr q hq e => hfirst r hr ⟨by omega, q, hq, e⟩
        rw [isa_j21_bad (fuel0 + 1) hm hpm hdp p 0 (fuel0 + 1) (by omega) (by omega) hall, ref_j19_bad (fuel0 + 1) hm hmf hpm hdp p 0 (fuel0 + 1) (by omega) (by omega) hall]
        exact ⟨_, rfl, rfl, no (by decide) fun h => hd h.dup⟩
    · have hex : ∃ p, p < m ∧ inR c1 (g p) = false := Classical.byContradiction fun hc => hout fun p hp => by
        cases e : inR c1 (g p) with
        | true => rfl
        | false => exact absurd ⟨p, hp, e⟩ hc
      obtain ⟨p, hp, hb⟩ := hex
      rw [isa_j15_bad (fuel0 + 1) hm hp hb p 0 (fuel0 + 1) (by omega) (by omega), ref_j14_bad (fuel0 + 1) hm hp hb p 0 (fuel0 + 1) (by omega) (by omega)]
      exact ⟨_, rfl, rfl, no (by decide) fun h => hout h.out⟩
  · have hex : ∃ p, p < n ∧ insS c0 c1 (g0 p, g1 p, g2 p, g3 p, g4 p, g5 p) ≠ 0 := Classical.byContradiction fun hc => hins fun p hp => Classical.byContradiction fun e => hc ⟨p, hp, e⟩
    obtain ⟨p, hp⟩ := hex
    obtain ⟨p, _, ⟨hpn, hb⟩, hfirst⟩ := first_bad (P := fun p => p < n ∧ insS c0 c1 (g0 p, g1 p, g2 p, g3 p, g4 p, g5 p) ≠ 0) p hp
    have hall : ∀ q, 0 ≤ q → q < p → insS c0 c1 (g0 q, g1 q, g2 q, g3 q, g4 q, g5 q) = 0 := fun q _ hq => Classical.byContradiction fun e => hfirst q hq ⟨by omega, e⟩
    rw [isa_j8_bad (fuel0 + 1) (by omega) hpn hb p 0 (fuel0 + 1) (by omega) (by unfold fuel0; omega) hall, ref_cj8_bad (fuel0 + 1) (by omega) h5 hpn hb p 0 (fuel0 + 1) (by omega) (by unfold fuel0; omega) hall]
    exact ⟨_, rfl, rfl, no hb fun h => hins h.ins⟩
end Go.Proofs.YtkmehmlcccdnbaaDoor.Fn
