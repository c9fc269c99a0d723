/- The checks ahead of Apply, by the program and by the reference: one specification that both meet; and what Apply does after them, with the loop over the operands worked out. The result of each operator on ranges: one specification that program and reference both meet. Apply on ranges: one specification that program and reference both meet. Facts: Apply of the program and of the reference compute the same; what it is. Terms: the facts of a term, by the program and by the reference, are the same. Facts: Meet, Join, Leq and Has, in the program and in the reference alike; what a meet keeps. -/
import Derived.Test.YtcihbcffokjgjaaGreatTF12
import Derived.Test.YtcihbcffokjgjaaGreatTF3
import Derived.Test.YtcihbcffokjgjaaGreatTKd
import Derived.Test.YtcihbcffokjgjaaGreatTFa
import Derived.Test.YtcihbcffokjgjaaGreatTTc
import Derived.Test.YtcihbcffokjgjaaGreatTF2
import Derived.Test.YtcihbcffokjgjaaGreatTF9
import Derived.Test.YtcihbcffokjgjaaGreatTKi
import Derived.Test.YtcihbcffokjgjaaGreatTTv
import Derived.Test.YtcihbcffokjgjaaGreatTF14
import Derived.Test.YtcihbcffokjgjaaGreatTMc
namespace Go.Proofs.YtcihbcffokjgjaaGreat.Fn
open Go Go.RowKit Go.Proofs.YtcihbcffokjgjaaGreat.Ev Go.Proofs.YtcihbcffokjgjaaGreat.Bv
set_option linter.unusedVariables false
set_option linter.unusedSimpArgs false
set_option maxRecDepth 100000
open Classical in
theorem ranges_check_j10 (fu : Nat) {r : Int} {n : Nat} {g : Nat → Int} (hl : n ≤ 1000) (d : Nat) : ∀ k i b, i + d = n → d < k →
    ranges_check.j10 (fu + 1) k r b n (n : Int) (i : Int) n g = some (if b = true ∨ ∃ j, i ≤ j ∧ j < n ∧ g j = 0 then (0, 3) else (r, 0)) := by
  induction d with
  | zero =>
    intro k i b hi hk
    obtain ⟨k, rfl⟩ : ∃ m, k = m + 1 := ⟨k - 1, by omega⟩
    obtain rfl : i = n := by omega
    have : ¬ ∃ j, i ≤ j ∧ j < i ∧ g j = 0 := by rintro ⟨j, h1, h2, _⟩; omega
    rw [ranges_check.j10_succ, bifd_neg (by omega)]
    cases b <;> simp [this]
  | succ d ih =>
    intro k i b hi hk
    obtain ⟨k, rfl⟩ : ∃ m, k = m + 1 := ⟨k - 1, by omega⟩
    rw [ranges_check.j10_succ, bifd_pos (by omega), bifd_pos (by omega), bifd_pos (by omega)]
    simp only [ranges_check.p13_eq]
    rw [wrapi, wrapi_succ (by omega), Int.toNat_natCast]
    have hex : (∃ j, i ≤ j ∧ j < n ∧ g j = 0) ↔ g i = 0 ∨ ∃ j, i + 1 ≤ j ∧ j < n ∧ g j = 0 := by
      constructor
      · rintro ⟨j, h1, h2, h3⟩
        rcases Nat.lt_or_ge i j with h | h
        · exact .inr ⟨j, h, h2, h3⟩
        · obtain rfl : j = i := by omega
          exact .inl h3
      · rintro (h | ⟨j, h1, h2, h3⟩)
        · exact ⟨i, Nat.le_refl _, by omega, h⟩
        · exact ⟨j, by omega, h2, h3⟩
    rw [hex]
    cases b with
    | true =>
      rw [cond_true, ih k (i + 1) true (by omega) (by omega)]; simp
    | false =>
      rw [cond_false, ih k (i + 1) _ (by omega) (by omega)]; simp
theorem ranges_check_eq {op w : Int} {x : Nat} (hx : x < 18446744073709551616) (n m : Nat) (g lo hi : Nat → Int) : ranges_check.f op w x (n, g) (m, lo, hi) = some (chkS op w x n m g) := by
  unfold ranges_check.f ranges_check.g chkS
  simp only [opinfo_Width_eq hx, opinfo_Pattern_eq, Option.bind_some]
  by_cases h1 : m ≠ n
  · rw [if_pos h1, show ((m : Int) != (n : Int)) = true by rw [bne_iff_ne]; omega]; rfl
  · rw [if_neg h1, show ((m : Int) != (n : Int)) = false by rw [bne_eq_false_iff_eq]; omega, cond_false]
    by_cases h2 : (widthS op w x n g).2 ≠ 0
    · rw [if_pos h2, show ((widthS op w x n g).2 != 0) = true by rw [bne_iff_ne]; exact h2]; rfl
    · rw [if_neg h2, show ((widthS op w x n g).2 != 0) = false by rw [bne_eq_false_iff_eq]; exact Decidable.not_not.1 h2, cond_false]
      by_cases h3 : op = 24 ∨ op = 25 ∨ op = 26
      · rw [if_pos h3, bifd_pos h3]
      · rw [if_neg h3, bifd_neg h3]
        have hs := widthS_small (Decidable.not_not.1 h2)
        have hn : n ≤ 1000 := by omega
        have := ranges_check_j10 fuel0 (r := (widthS op w x n g).1) (g := g) hn n (fuel0 + 1) 0 ((widthS op w x n g).1 == 0) (by omega) (fuel_gt hn)
        rw [show ((0 : Nat) : Int) = 0 from rfl] at this
        rw [this]; simp
theorem ap0 (fu k : Nat) (op r x : Int) (g lo hi : Nat → Int) : ranges_Apply.j6 fu (k + 1) op x 0 r 0 0 ((0 : Nat) : Int) 0 0 g 0 lo hi 0 0 0 (fun _ => 0) (fun _ => 0) =
    bif op == 2 then (ranges_Const.f r x).bind fun t => some ((t.1, t.2), 0) else (ranges_Top.f r).bind fun t => some ((t.1, t.2), 0) := by kernel_rfl
theorem ap1 (fu k : Nat) (op r x : Int) (g lo hi : Nat → Int) : ranges_Apply.j6 fu (k + 2) op x 1 r 0 1 ((1 : Nat) : Int) 0 1 g 1 lo hi 0 0 0 (fun _ => 0) (fun _ => 0) =
    (ranges_norm.f (g 0) (lo 0, hi 0)).bind fun p => (ranges_unary.f op r x (g 0) (p.1, p.2)).bind fun t => some ((t.1, t.2), 0) := by kernel_rfl
theorem ap2 (fu k : Nat) (op r x : Int) (g lo hi : Nat → Int) : ranges_Apply.j6 fu (k + 3) op x 2 r 0 2 ((2 : Nat) : Int) 0 2 g 2 lo hi 0 0 0 (fun _ => 0) (fun _ => 0) =
    (ranges_norm.f (g 0) (lo 0, hi 0)).bind fun p => (ranges_norm.f (g 1) (lo 1, hi 1)).bind fun q => (ranges_binary.f op (g 0) (g 1) (p.1, p.2) (q.1, q.2)).bind fun t => some ((t.1, t.2), 0) := by kernel_rfl
theorem ap3 (fu k : Nat) (op r x : Int) (g lo hi : Nat → Int) : ranges_Apply.j6 fu (k + 4) op x 3 r 0 3 ((3 : Nat) : Int) 0 3 g 3 lo hi 0 0 0 (fun _ => 0) (fun _ => 0) =
    (ranges_norm.f (g 0) (lo 0, hi 0)).bind fun p => (ranges_norm.f (g 1) (lo 1, hi 1)).bind fun q => (ranges_norm.f (g 2) (lo 2, hi 2)).bind fun s =>
      (ranges_single.f (p.1, p.2)).bind fun b => bif !b then (ranges_Join.f r (q.1, q.2) (s.1, s.2)).bind fun t => some ((t.1, t.2), 0) else bif p.1 == 1 then some ((q.1, q.2), 0) else some ((s.1, s.2), 0) := by kernel_rfl
end Go.Proofs.YtcihbcffokjgjaaGreat.Fn
namespace Go.Proofs.YtcihbcffokjgjaaGreat.Fn
open Go Go.RowKit Go.Proofs.YtcihbcffokjgjaaGreat.Ev Go.Proofs.YtcihbcffokjgjaaGreat.Bv
set_option linter.unusedVariables false
set_option linter.unusedSimpArgs false
set_option maxRecDepth 100000
def cst (p : Nat × Nat) : Int × Int := ((p.1 : Int), (p.2 : Int))
def topS (r : Nat) : Nat × Nat := (0, vmask r)
def flS (x : Nat) : Nat := vmask (len8 x)
def sumS (v l h m k : Nat) : Nat × Nat := if decide (l + m ≤ vmask v) = decide (h + k ≤ vmask v) then (vadd v l m, vadd v h k) else topS v
def difS (v l h m k : Nat) : Nat × Nat := if decide (l < k) = decide (h < m) then (vsub v l k, vsub v h m) else topS v
def mulS (v l h m k : Nat) : Nat × Nat := if h * k ≤ vmask v then (l * m, h * k) else topS v
def divS (v l h m k : Nat) : Nat × Nat := if m = 0 then topS v else (l / k, h / m)
def remS (l h m k : Nat) : Nat × Nat := if h < m then (l, h) else if 0 < m then (0, min h (k - 1)) else (0, h)
def shlS (v l h m k : Nat) : Nat × Nat := if m ≠ k then topS v else if v ≤ m then (0, 0) else if vmask v >>> m < h then topS v else (l <<< m, h <<< m)
def shrS (l h m k : Nat) : Nat × Nat := if m ≠ k then (0, h) else (l >>> m, h >>> m)
def sarS (v l h m k : Nat) : Nat × Nat := if h < 2 ^ (v - 1) then shrS l h m k else topS v
def truS (a b : Prop) [Decidable a] [Decidable b] : Nat × Nat := if a then (1, 1) else if b then (0, 0) else (0, 1)
def eqlS (l h m k : Nat) : Nat × Nat := truS (l = h ∧ m = k ∧ l = m) (h < m ∨ k < l)
def ultS (l h m k : Nat) : Nat × Nat := truS (h < m) (k ≤ l)
def sltS (v l h m k : Nat) : Nat × Nat := if (h < 2 ^ (v - 1) ∧ k < 2 ^ (v - 1)) ∨ (2 ^ (v - 1) ≤ l ∧ 2 ^ (v - 1) ≤ m) then ultS l h m k else (0, 1)
def oneS (op : Int) (r v x l h : Nat) : Nat × Nat :=
  if op = 3 then (vmask r - h, vmask r - l) else if op = 4 then (if l = 0 ∧ 0 < h then topS r else (vneg r h, vneg r l))
  else if op = 21 then (if x = 0 ∧ h ≤ vmask r then (l, h) else if x + r = v then (l >>> x, h >>> x) else topS r)
  else if op = 23 then (if 2 ^ (v - 1) ≤ l then (vsext v r l, vsext v r h) else if 2 ^ (v - 1) ≤ h then topS r else (l, h)) else (l, h)
def twoS (op : Int) (v u l h m k : Nat) : Nat × Nat :=
  if op = 5 then (0, min h k) else if op = 6 then (max l m, flS (h ||| k)) else if op = 7 then (0, flS (h ||| k)) else if op = 8 then sumS v l h m k else if op = 9 then difS v l h m k
  else if op = 10 then mulS v l h m k else if op = 11 then divS v l h m k else if op = 12 then remS l h m k else if op = 13 then shlS v l h m k else if op = 14 then shrS l h m k else if op = 15 then sarS v l h m k
  else if op = 16 then eqlS l h m k else if op = 17 then ultS l h m k else if op = 18 then sltS v l h m k else (vconcat v u l m, vconcat v u h k)
theorem Add64_eq (x y : Nat) : bits_Add64.f x y 0 = some ((((x + y) % 18446744073709551616 : Nat) : Int), (((x + y) / 18446744073709551616 : Nat) : Int)) := by
  unfold bits_Add64.f
  have h1 : decide ((0 : Int) ≤ (x : Int)) = true := decide_eq_true (by omega)
  have h2 : decide ((0 : Int) ≤ (y : Int)) = true := decide_eq_true (by omega)
  rw [h1, h2]
  simp only [Int.le_refl, decide_true, Bool.and_self, Bool.true_and, Int.reduceLE, cond_true]
  congr 1
theorem half_eq {v : Nat} (h : 1 ≤ v) : vmask v >>> 1 + 1 = 2 ^ (v - 1) ∧ vmask v / 2 + 1 = 2 ^ (v - 1) := by
  have := two_pow_pred h
  have := pw_pos (v - 1)
  rw [Nat.shiftRight_eq_div_pow]; unfold vmask; omega
theorem mul_split {a b x y : Nat} (hx : x < 18446744073709551616) (hy : y < 18446744073709551616) : x * y = (x / 4294967296) * (y / 4294967296) * 18446744073709551616 + ((x / 4294967296) * (y % 4294967296) + (x % 4294967296) * (y / 4294967296)) * 4294967296 + (x % 4294967296) * (y % 4294967296) := by
  have h1 := Nat.div_add_mod x 4294967296
  have h2 := Nat.div_add_mod y 4294967296
  generalize x / 4294967296 = p at *
  generalize x % 4294967296 = q at *
  generalize y / 4294967296 = s at *
  generalize y % 4294967296 = t at *
  subst h1 h2
  rw [Nat.add_mul, Nat.mul_add, Nat.mul_add]
  have e1 : 4294967296 * p * (4294967296 * s) = p * s * 18446744073709551616 := by
    rw [Nat.mul_mul_mul_comm]; omega
  have e2 : 4294967296 * p * t = p * t * 4294967296 := by rw [Nat.mul_assoc, Nat.mul_comm]
  have e3 : q * (4294967296 * s) = q * s * 4294967296 := by rw [Nat.mul_left_comm, Nat.mul_comm]
  omega
theorem mul_le {a b : Nat} (ha : a ≤ 4294967295) (hb : b ≤ 4294967295) : a * b ≤ 18446744065119617025 := Nat.mul_le_mul ha hb
theorem Mul64_eq {x y : Nat} (hx : x < 18446744073709551616) (hy : y < 18446744073709551616) : bits_Mul64.f x y = some (((x * y / 18446744073709551616 : Nat) : Int), ((x * y % 18446744073709551616 : Nat) : Int)) := by
  unfold bits_Mul64.f
  have m : ∀ {z : Nat}, z < 18446744073709551616 → Go.bits .and .u64 (z : Int) 4294967295 = ((z % 4294967296 : Nat) : Int) := fun {z} hz => by
    rw [show (4294967295 : Int) = ((2 ^ 32 - 1 : Nat) : Int) from rfl, and64 hz (by decide), and_mask]
  have s : ∀ {z : Nat}, z < 18446744073709551616 → shr .u64 (z : Int) 32 = ((z / 4294967296 : Nat) : Int) := fun {z} hz => by
    rw [show (32 : Int) = ((32 : Nat) : Int) from rfl, shr64 hz, Nat.shiftRight_eq_div_pow]
  have p : ∀ {a b : Nat}, a ≤ 4294967295 → b ≤ 4294967295 → IntKind.u64.wrap ((a : Int) * (b : Int)) = ((a * b : Nat) : Int) := fun {a b} ha hb => by
    have := mul_le ha hb
    rw [wrapu_mul, Nat.mod_eq_of_lt (by omega)]
  have q : ∀ {a b : Nat}, a + b < 18446744073709551616 → IntKind.u64.wrap ((a : Int) + (b : Int)) = ((a + b : Nat) : Int) := fun {a b} h => by
    rw [wrapu_add, Nat.mod_eq_of_lt h]
  have hx1 : x / 4294967296 ≤ 4294967295 := by omega
  have hx0 : x % 4294967296 ≤ 4294967295 := by omega
  have hy1 : y / 4294967296 ≤ 4294967295 := by omega
  have hy0 : y % 4294967296 ≤ 4294967295 := by omega
  have b11 := mul_le hx1 hy1
  have b10 := mul_le hx1 hy0
  have b01 := mul_le hx0 hy1
  have b00 := mul_le hx0 hy0
  have e := mul_split (a := 0) (b := 0) hx hy
  have e5 := wrapu_mul x y
  rw [e5, s hx, s hy, m hx, m hy, p hx1 hy1, p hx1 hy0, p hx0 hy0, p hx0 hy1, s (show x % 4294967296 * (y % 4294967296) < _ by omega), q (by omega), s (by omega), m (by omega), q (by omega), q (by omega), s (by omega), q (by omega)]
  congr 1
  refine Prod.ext ?_ rfl
  simp only
  rw [e]
  congr 1
  omega
theorem fill_prog {x : Nat} (hx : x < 18446744073709551616) : ranges_Fill.f x = some (flS x : Int) := by
  obtain ⟨n, hn, h64⟩ := len_ex hx
  have aux : ∀ {p q : Nat}, IsLen x p → IsLen x q → p ≤ q := fun {p q} hp hq => by
    rcases Nat.lt_or_ge q p with hlt | hge
    · rcases hp.2 with h0 | h0
      · omega
      · have := Nat.pow_le_pow_right (n := 2) (by decide) (show q ≤ p - 1 by omega)
        have := hq.1
        omega
    · exact hge
  have e : n = len8 x := Nat.le_antisymm (aux hn (isLen_len8 x)) (aux (isLen_len8 x) hn)
  rw [ranges_Fill_eq hx hn h64, e]; rfl
section
variable {v l h m k : Nat}
theorem MMn (h1 : 1 ≤ v) (h2 : v ≤ 64) : MM (v : Int) = (vmask v : Int) := by unfold MM; rw [W_of h1 h2]
theorem cut64 (h2 : v ≤ 64) (x : Nat) : vcut v (x % 18446744073709551616) = x % 2 ^ v := by unfold vcut; rw [mod64_mod h2]
theorem beqd (a b : Bool) : (a == b) = decide (a = b) := by cases a <;> cases b <;> rfl
theorem sum_prog (h1 : 1 ≤ v) (h2 : v ≤ 64) (hl : l ≤ h) (hh : h ≤ vmask v) (hm : m ≤ k) (hk : k ≤ vmask v) : ranges_sum.f (v : Int) ((l : Int), (h : Int)) ((m : Int), (k : Int)) = some (cst (sumS v l h m k)) := by
  have hM := vmask_lt h2
  unfold ranges_sum.f ranges_sum.g
  simp only [bits_Mask_eq, Add64_eq, ranges_Top_eq, Option.bind_some, W_of h1 h2, MMn h1 h2, ranges_sum.p7_eq]
  rw [bits_Cut_eq _ (Nat.mod_lt _ (by decide)), bits_Cut_eq _ (Nat.mod_lt _ (by decide)), W_of h1 h2, cut64 h2, cut64 h2]
  simp only [Option.bind_some]
  have e1 : ∀ a b : Nat, (((a / 18446744073709551616 : Nat) : Int) == 0) = decide (a < 18446744073709551616) := fun a b => by
    by_cases ha : a < 18446744073709551616
    · rw [Nat.div_eq_of_lt ha, decide_eq_true ha]; rfl
    · rw [decide_eq_false ha]
      have : 1 ≤ a / 18446744073709551616 := by omega
      rw [beq_eq_false_iff_ne]; omega
  simp only [e1 _ 0]
  unfold sumS
  by_cases a1 : h + k < 18446744073709551616
  · have a2 : l + m < 18446744073709551616 := by omega
    rw [bifd_pos a2, bifd_pos a1, Nat.mod_eq_of_lt a1, Nat.mod_eq_of_lt a2]
    simp only [Int.ofNat_le, beqd]
    by_cases hc : decide (l + m ≤ vmask v) = decide (h + k ≤ vmask v)
    · rw [if_pos hc, decide_eq_true hc]; rfl
    · rw [if_neg hc, decide_eq_false hc]; rfl
  · rw [show decide (h + k ≤ vmask v) = false from decide_eq_false (by omega)]
    rw [bifd_neg a1, bifd_neg a1]
    by_cases a2 : l + m < 18446744073709551616
    · rw [bifd_pos a2, Nat.mod_eq_of_lt a2]
      simp only [Int.ofNat_le, beqd]
      by_cases hc : decide (l + m ≤ vmask v) = false
      · rw [if_pos hc, decide_eq_true hc]; rfl
      · rw [if_neg hc, decide_eq_false hc]; rfl
    · rw [bifd_neg a2, if_pos (decide_eq_false (by omega))]; rfl
theorem dif_prog (h1 : 1 ≤ v) (h2 : v ≤ 64) (hl : l ≤ h) (hh : h ≤ vmask v) (hm : m ≤ k) (hk : k ≤ vmask v) : ranges_difference.f (v : Int) ((l : Int), (h : Int)) ((m : Int), (k : Int)) = some (cst (difS v l h m k)) := by
  have hM := vmask_lt h2
  unfold ranges_difference.f difS
  simp only [ranges_Top_eq, Option.bind_some, MMn h1 h2, Int.ofNat_lt, beqd]
  rw [wrapu_sub (by omega), wrapu_sub (by omega), bits_Cut_eq _ (Nat.mod_lt _ (by decide)), bits_Cut_eq _ (Nat.mod_lt _ (by decide)), W_of h1 h2, sub_cut h2 _ (by omega), sub_cut h2 _ (by omega)]
  by_cases hc : decide (l < k) = decide (h < m)
  · rw [if_pos hc, decide_eq_true hc]; rfl
  · rw [if_neg hc, decide_eq_false hc]; rfl
theorem mul_prog (h1 : 1 ≤ v) (h2 : v ≤ 64) (hl : l ≤ h) (hh : h ≤ vmask v) (hm : m ≤ k) (hk : k ≤ vmask v) : ranges_product.f (v : Int) ((l : Int), (h : Int)) ((m : Int), (k : Int)) = some (cst (mulS v l h m k)) := by
  have hM := vmask_lt h2
  unfold ranges_product.f mulS
  rw [Mul64_eq (by omega) (by omega), bits_Mask_eq, W_of h1 h2, ranges_Top_eq, MMn h1 h2, wrapu_mul]
  simp only [Option.bind_some]
  have hlm : l * m ≤ h * k := Nat.mul_le_mul hl hm
  by_cases a : h * k < 18446744073709551616
  · rw [Nat.div_eq_of_lt a, Nat.mod_eq_of_lt a, Nat.mod_eq_of_lt (by omega)]
    rw [show (((0 : Nat) : Int) != 0) = false from rfl, cond_false]
    by_cases hc : h * k ≤ vmask v
    · rw [if_pos hc, bifd_neg (by omega)]; rfl
    · rw [if_neg hc, bifd_pos (by omega)]; rfl
  · have : 1 ≤ h * k / 18446744073709551616 := by generalize h * k = z at *; omega
    rw [show (((h * k / 18446744073709551616 : Nat) : Int) != 0) = true by rw [bne_iff_ne]; omega, cond_true, if_neg (by omega)]; rfl
theorem div_prog (h1 : 1 ≤ v) (h2 : v ≤ 64) (hl : l ≤ h) (hh : h ≤ vmask v) (hm : m ≤ k) (hk : k ≤ vmask v) : ranges_quotient.f (v : Int) ((l : Int), (h : Int)) ((m : Int), (k : Int)) = some (cst (divS v l h m k)) := by
  have hM := vmask_lt h2
  unfold ranges_quotient.f divS
  rw [ranges_Top_eq, MMn h1 h2]
  simp only [Option.bind_some]
  by_cases hc : m = 0
  · subst hc; rfl
  · rw [if_neg hc, show ((m : Int) == 0) = false by rw [beq_eq_false_iff_ne]; omega, cond_false, bifd_neg (by omega), bifd_neg (by omega), tdiv_nat, tdiv_nat]
    have := Nat.div_le_self l k
    have := Nat.div_le_self h m
    rw [wrapu_of (by omega), wrapu_of (by omega)]; rfl
theorem mn_min (a b : Nat) : mn (a : Int) (b : Int) = ((min a b : Nat) : Int) := by unfold mn; split <;> omega
theorem mx_max (a b : Nat) : mx (a : Int) (b : Int) = ((max a b : Nat) : Int) := by unfold mx; split <;> omega
theorem rem_prog (hk : k < 18446744073709551616) (hm : m ≤ k) : ranges_remainder.f ((l : Int), (h : Int)) ((m : Int), (k : Int)) = some (cst (remS l h m k)) := by
  unfold ranges_remainder.f remS
  by_cases a : h < m
  · rw [bifd_pos (by omega), if_pos a]; rfl
  · rw [bifd_neg (by omega), if_neg a]
    by_cases b : 0 < m
    · rw [bifd_pos (by omega), if_pos b, show (k : Int) - 1 = ((k - 1 : Nat) : Int) by omega, wrapu_of (by omega), mn_min]; rfl
    · rw [bifd_neg (by omega), if_neg b]; rfl
theorem p6_shr (fu fm : Nat) (hl : l < 18446744073709551616) (hh : h < 18446744073709551616) (hm : m < 18446744073709551616) : ranges_shift.p6 (fm + 1) fu (l : Int) (h : Int) (m : Int) (k : Int) 0 0 = some (cst (shrS l h m k)) := by
  rw [ranges_shift.p6_eq]; unfold ranges_single.f shrS
  simp only [Option.bind_some, beq_nat]
  by_cases a : m = k
  · rw [if_neg (by simpa using a), decide_eq_true a, Bool.not_true, cond_false, bifd_neg (by omega), bifd_neg (by omega), shr64 hl, shr64 hh]; rfl
  · rw [if_pos a, decide_eq_false a]; rfl
theorem half_shr (h1 : 1 ≤ v) (h2 : v ≤ 64) : shr .u64 (vmask v : Int) 1 = ((2 ^ (v - 1) - 1 : Nat) : Int) := by
  rw [show (1 : Int) = ((1 : Nat) : Int) from rfl, shr64 (vmask_lt h2)]
  have := (half_eq h1).1
  congr 1; omega
theorem shift_prog (h1 : 1 ≤ v) (h2 : v ≤ 64) (hl : l ≤ h) (hh : h ≤ vmask v) (hm : m ≤ k) (hk : k ≤ vmask v) {op : Int} (ho : op = 13 ∨ op = 14 ∨ op = 15) :
    ranges_shift.f op (v : Int) ((l : Int), (h : Int)) ((m : Int), (k : Int)) = some (cst (if op = 13 then shlS v l h m k else if op = 14 then shrS l h m k else sarS v l h m k)) := by
  have hM := vmask_lt h2
  have hp := pw_pos (v - 1)
  unfold ranges_shift.f ranges_shift.g
  simp only [bits_Mask_eq, ranges_Top_eq, W_of h1 h2, MMn h1 h2, Option.bind_some, half_shr h1 h2, p6_shr (l := l) (h := h) (m := m) (k := k) _ _ (by omega) (by omega) (by omega)]
  rcases ho with rfl | rfl | rfl
  · simp only [Int.reduceBEq, cond_false, cond_true, Int.reduceEq, if_true, if_false]
    unfold ranges_single.f shlS
    simp only [Option.bind_some, beq_nat]
    by_cases a : m = k
    · rw [if_neg (by simpa using a), decide_eq_true a, Bool.not_true, cond_false, wrapu_of (by omega)]
      by_cases b : v ≤ m
      · rw [if_pos b, bifd_pos (by omega)]; rfl
      · rw [if_neg b, bifd_neg (by omega), bifd_neg (by omega), shr64 hM]
        by_cases c : vmask v >>> m < h
        · rw [if_pos c, bifd_pos (by omega)]; rfl
        · rw [if_neg c, bifd_neg (by omega), bifd_neg (by omega), bifd_neg (by omega), shl64, shl64]
          have hs : h <<< m < 18446744073709551616 := by
            rw [Nat.shiftLeft_eq]
            have : h ≤ vmask v / 2 ^ m := by rw [← Nat.shiftRight_eq_div_pow]; omega
            have := Nat.mul_le_mul_right (2 ^ m) this
            have := Nat.div_mul_le_self (vmask v) (2 ^ m)
            omega
          have hs2 : l <<< m < 18446744073709551616 := by
            rw [Nat.shiftLeft_eq] at hs ⊢
            have := Nat.mul_le_mul_right (2 ^ m) hl
            omega
          rw [Nat.mod_eq_of_lt hs, Nat.mod_eq_of_lt hs2]; rfl
    · rw [if_pos a, decide_eq_false a]; rfl
  · simp only [Int.reduceBEq, cond_false, cond_true, Int.reduceEq, if_true, if_false]
  · simp only [Int.reduceBEq, cond_false, cond_true, Int.reduceEq, if_true, if_false]
    unfold sarS
    by_cases a : h < 2 ^ (v - 1)
    · rw [if_pos a, bifd_neg (by omega)]
    · rw [if_neg a, bifd_pos (by omega)]; rfl
theorem W1 : W 1 = 1 := by decide
theorem Top1 : ranges_Top.f 1 = some (0, 1) := by rw [ranges_Top_eq]; unfold MM; rw [W1]; rfl
theorem truS_bif (a b : Prop) [Decidable a] [Decidable b] : (bif decide a then some ((1 : Int), (1 : Int)) else bif decide b then some (0, 0) else some (0, 1)) = some (cst (truS a b)) := by
  unfold truS; by_cases ha : a <;> by_cases hb : b <;> simp [ha, hb, cst]
theorem cmp_p12 (fu fm : Nat) : ranges_compare.p12 (fm + 1) fu (l : Int) (h : Int) (m : Int) (k : Int) 0 0 = some (cst (ultS l h m k)) := by
  rw [ranges_compare.p12_eq]; simp only [Top1, Option.bind_some]
  unfold ultS
  rw [← truS_bif]
  simp only [Int.ofNat_lt, ge_iff_le, Int.ofNat_le]
theorem cmp_prog (h1 : 1 ≤ v) (h2 : v ≤ 64) (hl : l ≤ h) (hh : h ≤ vmask v) (hm : m ≤ k) (hk : k ≤ vmask v) {op : Int} (ho : op = 16 ∨ op = 17 ∨ op = 18) :
    ranges_compare.f op (v : Int) ((l : Int), (h : Int)) ((m : Int), (k : Int)) = some (cst (if op = 16 then eqlS l h m k else if op = 17 then ultS l h m k else sltS v l h m k)) := by
  have hM := vmask_lt h2
  have hp := pw_pos (v - 1)
  unfold ranges_compare.f ranges_compare.g
  simp only [bits_Mask_eq, W_of h1 h2, Option.bind_some, half_shr h1 h2, cmp_p12, ranges_compare.p9_eq, Top1]
  rcases ho with rfl | rfl | rfl
  · simp only [Int.reduceBEq, cond_false, cond_true, Int.reduceEq, if_true, if_false]
    unfold ranges_single.f eqlS truS
    simp only [Option.bind_some, beq_nat]
    by_cases a : h < m
    · rw [bifd_pos (by omega), if_neg (by omega), if_pos (.inl a)]; rfl
    · rw [bifd_neg (by omega)]
      by_cases b : k < l
      · rw [bifd_pos (by omega), if_neg (by omega), if_pos (.inr b)]; rfl
      · rw [bifd_neg (by omega)]
        by_cases c : l = h ∧ m = k
        · rw [bifd_pos c.1, bifd_pos c.2, if_pos (by omega)]; rfl
        · rw [if_neg (by omega), if_neg (by omega)]
          by_cases d : l = h
          · rw [bifd_pos d, bifd_neg (by omega)]; rfl
          · rw [bifd_neg d]; rfl
  · simp only [Int.reduceBEq, cond_false, cond_true, Int.reduceEq, if_true, if_false]
  · simp only [Int.reduceBEq, cond_false, cond_true, Int.reduceEq, if_true, if_false]
    unfold sltS
    by_cases a : 2 ^ (v - 1) ≤ h
    · rw [bifd_pos (by omega)]
      by_cases b : 2 ^ (v - 1) ≤ l
      · rw [bifd_neg (by omega)]
        by_cases c : 2 ^ (v - 1) ≤ m
        · rw [bifd_neg (by omega), if_pos (.inr ⟨b, c⟩)]
        · rw [bifd_pos (by omega), if_neg (by omega)]; rfl
      · rw [bifd_pos (by omega), if_neg (by omega)]; rfl
    · rw [bifd_neg (by omega)]
      by_cases b : 2 ^ (v - 1) ≤ k
      · rw [bifd_pos (by omega), bifd_pos (by omega), if_neg (by omega)]; rfl
      · rw [bifd_neg (by omega), if_pos (.inl (by omega))]
theorem or_ltv (hv : v ≤ 64) (hh : h ≤ vmask v) (hk : k ≤ vmask v) : h ||| k < 18446744073709551616 := by
  have hp := pw_pos v
  have : h ||| k < 2 ^ v := Nat.or_lt_two_pow (by unfold vmask at hh; omega) (by unfold vmask at hk; omega)
  have := pw_le hv
  omega
theorem binary_prog {u : Nat} (h1 : 1 ≤ v) (h2 : v ≤ 64) (u1 : 1 ≤ u) (u2 : u ≤ 64) (hl : l ≤ h) (hh : h ≤ vmask v) (hm : m ≤ k) (hk : k ≤ vmask u) {op : Int} (ho : 5 ≤ op) (ho2 : op ≤ 20) (ho3 : op ≠ 19) (huv : op ≠ 20 → u = v) :
    ranges_binary.f op (v : Int) (u : Int) ((l : Int), (h : Int)) ((m : Int), (k : Int)) = some (cst (twoS op v u l h m k)) := by
  have hM := vmask_lt h2
  have hN := vmask_lt u2
  have hs : op = 5 ∨ op = 6 ∨ op = 7 ∨ op = 8 ∨ op = 9 ∨ op = 10 ∨ op = 11 ∨ op = 12 ∨ op = 13 ∨ op = 14 ∨ op = 15 ∨ op = 16 ∨ op = 17 ∨ op = 18 ∨ op = 20 := by omega
  unfold ranges_binary.f twoS
  by_cases h20 : op = 20
  · subst h20
    simp only [Int.reduceBEq, cond_false, cond_true, Int.reduceEq, if_true, if_false, bits_Concat_eq _ _ (show l < 18446744073709551616 by omega) (show m < 18446744073709551616 by omega), bits_Concat_eq _ _ (show h < 18446744073709551616 by omega) (show k < 18446744073709551616 by omega), Option.bind_some, W_of h1 h2, W_of u1 u2]
    rfl
  · obtain rfl := huv h20
    have hor := or_ltv h2 hh hk
    have hs' : op = 5 ∨ op = 6 ∨ op = 7 ∨ op = 8 ∨ op = 9 ∨ op = 10 ∨ op = 11 ∨ op = 12 ∨ op = 13 ∨ op = 14 ∨ op = 15 ∨ op = 16 ∨ op = 17 ∨ op = 18 := by omega
    clear hs
    rcases hs' with rfl | rfl | rfl | rfl | rfl | rfl | rfl | rfl | rfl | rfl | rfl | rfl | rfl | rfl
    all_goals simp only [Int.reduceBEq, cond_false, cond_true, Int.reduceEq, if_true, if_false]
    · rw [mn_min]; rfl
    · rw [or64 (by omega) (by omega), fill_prog hor, mx_max]; rfl
    · rw [or64 (by omega) (by omega), fill_prog hor]; rfl
    · rw [sum_prog h1 h2 hl hh hm hk]; rfl
    · rw [dif_prog h1 h2 hl hh hm hk]; rfl
    · rw [mul_prog h1 h2 hl hh hm hk]; rfl
    · rw [div_prog h1 h2 hl hh hm hk]; rfl
    · rw [rem_prog (by omega) hm]; rfl
    · rw [shift_prog h1 h2 hl hh hm hk (by decide)]; rfl
    · rw [shift_prog h1 h2 hl hh hm hk (by decide)]; rfl
    · rw [shift_prog h1 h2 hl hh hm hk (by decide)]; rfl
    · rw [cmp_prog h1 h2 hl hh hm hk (by decide)]; rfl
    · rw [cmp_prog h1 h2 hl hh hm hk (by decide)]; rfl
    · rw [cmp_prog h1 h2 hl hh hm hk (by decide)]; rfl
theorem unary_prog {r x : Nat} (h1 : 1 ≤ v) (h2 : v ≤ 64) (r1 : 1 ≤ r) (r2 : r ≤ 64) (hx : x < 18446744073709551616) (hl : l ≤ h) (hh : h ≤ vmask v) {op : Int} (ho : op = 3 ∨ op = 4 ∨ op = 21 ∨ op = 22 ∨ op = 23) (hr : op = 3 ∨ op = 4 → r = v) (hr2 : op = 21 → x + r ≤ v) :
    ranges_unary.f op (r : Int) (x : Int) (v : Int) ((l : Int), (h : Int)) = some (cst (oneS op r v x l h)) := by
  have hM := vmask_lt h2
  have hR := vmask_lt r2
  have hp := pw_pos (v - 1)
  unfold ranges_unary.f ranges_unary.g oneS
  simp only [bits_Mask_eq, W_of h1 h2, W_of r1 r2, Option.bind_some, half_shr h1 h2, ranges_unary.p8_eq, ranges_unary.p12_eq, ranges_unary.p21_eq, ranges_Top_eq, MMn r1 r2, bits_Neg_eq _ (show l < 18446744073709551616 by omega), bits_Neg_eq _ (show h < 18446744073709551616 by omega), bits_Sext_eq _ _ (show l < 18446744073709551616 by omega), bits_Sext_eq _ _ (show h < 18446744073709551616 by omega)]
  rcases ho with rfl | rfl | rfl | rfl | rfl
  all_goals simp only [Int.reduceBEq, cond_false, cond_true, Int.reduceEq, if_true, if_false]
  · obtain rfl := hr (.inl rfl)
    rw [wrapu_sub_le hR (by omega), wrapu_sub_le hR (by omega)]; rfl
  · by_cases a : l = 0
    · subst a
      rw [show (((0 : Nat) : Int) == 0) = true from rfl, cond_true]
      by_cases b : 0 < h
      · rw [bifd_pos (by omega), if_pos ⟨rfl, b⟩]; rfl
      · rw [bifd_neg (by omega), if_neg (by omega)]; rfl
    · rw [show ((l : Int) == 0) = false by rw [beq_eq_false_iff_ne]; omega, cond_false, if_neg (by omega)]; rfl
  · have hxv := hr2 rfl
    rw [wrapu_of (by omega), wrapu_of (by omega), wrapu_add, Nat.mod_eq_of_lt (by omega), beq_nat, shr64 (by omega), shr64 (by omega)]
    have e : (bif decide (x + r = v) then bif decide ((x : Int) < 0) then none else bif decide ((x : Int) < 0) then none else some (((l >>> x : Nat) : Int), ((h >>> x : Nat) : Int)) else some ((0 : Int), (vmask r : Int))) = some (cst (if x + r = v then (l >>> x, h >>> x) else topS r)) := by
      by_cases c : x + r = v
      · rw [bifd_pos c, if_pos c, bifd_neg (by omega), bifd_neg (by omega)]; rfl
      · rw [bifd_neg c, if_neg c]; rfl
    rw [e]
    by_cases a : x = 0
    · rw [show ((x : Int) == 0) = true by subst a; rfl, cond_true]
      by_cases b : h ≤ vmask r
      · rw [bifd_pos (by omega), if_pos ⟨a, b⟩]; rfl
      · rw [bifd_neg (by omega), if_neg (show ¬ (x = 0 ∧ h ≤ vmask r) from fun c => b c.2)]
    · rw [show ((x : Int) == 0) = false by rw [beq_eq_false_iff_ne]; omega, cond_false, if_neg (show ¬ (x = 0 ∧ h ≤ vmask r) from fun c => a c.1)]
  · rfl
  · by_cases a : 2 ^ (v - 1) ≤ l
    · rw [if_pos a, bifd_pos (by omega)]; rfl
    · rw [if_neg a, bifd_neg (by omega)]
      by_cases b : 2 ^ (v - 1) ≤ h
      · rw [if_pos b, bifd_pos (by omega)]; rfl
      · rw [if_neg b, bifd_neg (by omega)]; rfl
end
end Go.Proofs.YtcihbcffokjgjaaGreat.Fn
namespace Go.Proofs.YtcihbcffokjgjaaGreat.Fn
open Go Go.RowKit Go.Proofs.YtcihbcffokjgjaaGreat.Ev Go.Proofs.YtcihbcffokjgjaaGreat.Bv
set_option linter.unusedVariables false
set_option linter.unusedSimpArgs false
set_option maxRecDepth 100000
def valS (op r : Int) (x n : Nat) (g : Nat → Int) (q : Nat → Int × Int) : Int × Int :=
  if op = 1 then (0, MM r) else if op = 2 then ((vcut (W r) x : Int), (vcut (W r) x : Int))
  else if op = 19 then (if (q 0).1 = (q 0).2 then (if (q 0).1 = 1 then q 1 else q 2) else jn (q 1) (q 2))
  else if n = 1 then cst (oneS op r.toNat (g 0).toNat x (q 0).1.toNat (q 0).2.toNat)
  else cst (twoS op (g 0).toNat (g 1).toNat (q 0).1.toNat (q 0).2.toNat (q 1).1.toNat (q 1).2.toNat)
noncomputable def resS (op w : Int) (x n m : Nat) (g lo hi : Nat → Int) : (Int × Int) × Int :=
  if (chkS op w x n m g).2 ≠ 0 then ((0, 0), (chkS op w x n m g).2) else (valS op (chkS op w x n m g).1 x n g (fun i => nrm (MM (g i)) (lo i, hi i)), 0)
theorem nrm_nat {v : Nat} (h1 : 1 ≤ v) (h2 : v ≤ 64) {lo hi : Int} (h : 0 ≤ lo) : ∃ l k : Nat, nrm (MM (v : Int)) (lo, hi) = ((l : Int), (k : Int)) ∧ l ≤ k ∧ k ≤ vmask v := by
  obtain ⟨a1, a2, a3⟩ := nrm_ok (MM_nn v) (r := (lo, hi)) h
  rw [MMn h1 h2] at *
  generalize nrm (vmask v : Int) (lo, hi) = p at *
  obtain ⟨p1, p2⟩ := p
  simp only at a1 a2 a3
  exact ⟨p1.toNat, p2.toNat, by rw [Int.toNat_of_nonneg a1, Int.toNat_of_nonneg (by omega)], by omega, by omega⟩
theorem fuel_is : ∃ k, fuel0 + 1 = k + 4 := ⟨fuel0 - 3, by unfold fuel0; omega⟩
theorem apply_prog {op w : Int} {x : Nat} (hx : x < 18446744073709551616) (n m : Nat) (g lo hi : Nat → Int) (hlo : ∀ i, 0 ≤ lo i) : ranges_Apply.f op w x (n, g) (m, lo, hi) = some (resS op w x n m g lo hi) := by
  unfold ranges_Apply.f ranges_Apply.g resS
  simp only [ranges_check_eq hx, Option.bind_some]
  by_cases hc : (chkS op w x n m g).2 ≠ 0
  · rw [if_pos hc, show ((chkS op w x n m g).2 != 0) = true by rw [bne_iff_ne]; exact hc]; rfl
  · have hc0 := Decidable.not_not.1 hc
    obtain ⟨h1, h2, rfl, ha, hg, he, e0, e1⟩ := chkS_ok hc0
    rw [if_neg hc, show ((chkS op w x m m g).2 != 0) = false by rw [bne_eq_false_iff_eq]; exact hc0, cond_false, he]
    obtain ⟨r1, r2, hcases⟩ := widthT_ok h1 h2 ha hg e0 e1
    generalize (widthT op w x g).1 = r at *
    clear he e0 e1 hc hc0 ha
    obtain ⟨r, rfl, r1, r2⟩ := nat_of r1 r2
    obtain ⟨k, hk⟩ := fuel_is
    rw [hk]
    rcases hcases with ⟨ho, rfl⟩ | ⟨ho, rfl, hr⟩ | ⟨ho, rfl, hr, hr2⟩ | ⟨rfl, rfl, g0, g1, g2⟩ | ⟨rfl, rfl, hr⟩ | ⟨ho, rfl, g1, hr⟩ | ⟨ho, rfl, g1, hr⟩
    · rw [ap0]
      rcases ho with rfl | rfl
      · simp only [Int.reduceBEq, cond_false, cond_true, ranges_Top_eq, Option.bind_some, valS, if_true]
      · simp only [Int.reduceBEq, cond_false, cond_true, ranges_Const_eq _ hx, Option.bind_some, valS, Int.reduceEq, if_true, if_false]
    · obtain ⟨v, hv, v1, v2⟩ := nat_of (hg 0 (by omega)).1 (hg 0 (by omega)).2
      obtain ⟨l, h, e, hl, hh⟩ := nrm_nat v1 v2 (hi := hi 0) (hlo 0)
      rw [ap1, ranges_norm_eq, hv, e]
      simp only [Option.bind_some]
      rw [unary_prog v1 v2 r1 r2 hx hl hh (by omega) (fun _ => by omega) (by omega)]
      simp only [Option.bind_some, valS, hv, e, Int.toNat_natCast]
      rw [if_neg (by omega), if_neg (by omega), if_neg (by omega), if_pos trivial]
    · obtain ⟨v, hv, v1, v2⟩ := nat_of (hg 0 (by omega)).1 (hg 0 (by omega)).2
      obtain ⟨l, h, e, hl, hh⟩ := nrm_nat v1 v2 (hi := hi 0) (hlo 0)
      rw [ap1, ranges_norm_eq, hv, e]
      simp only [Option.bind_some]
      rw [unary_prog v1 v2 r1 r2 hx hl hh (by omega) (by omega) (fun h => by have := hr h; omega)]
      simp only [Option.bind_some, valS, hv, e, Int.toNat_natCast]
      rw [if_neg (by omega), if_neg (by omega), if_neg (by omega), if_pos trivial]
    · obtain ⟨l, h, e, hl, hh⟩ := nrm_nat (v := 1) (by decide) (by decide) (hi := hi 0) (hlo 0)
      obtain ⟨l1, k1, e1, hl1, hk1⟩ := nrm_nat r1 r2 (hi := hi 1) (hlo 1)
      obtain ⟨l2, k2, e2, hl2, hk2⟩ := nrm_nat r1 r2 (hi := hi 2) (hlo 2)
      rw [ap3, ranges_norm_eq, ranges_norm_eq, ranges_norm_eq, g0, g1, g2, show (1 : Int) = ((1 : Nat) : Int) from rfl, e, e1, e2]
      have f1 := e1
      have f2 := e2
      rw [MMn r1 r2] at f1 f2
      simp only [Option.bind_some, valS, g0, g1, g2, show (1 : Int) = ((1 : Nat) : Int) from rfl, e, e1, e2, f1, f2, ranges_Join_eq, MMn r1 r2]
      unfold ranges_single.f
      rw [nrm_of (r := ((l1 : Int), (k1 : Int))) (by simp only; omega) (by simp only; omega), nrm_of (r := ((l2 : Int), (k2 : Int))) (by simp only; omega) (by simp only; omega)]
      simp only [Option.bind_some, beq_nat, Int.natCast_inj]
      rw [if_neg (show ¬ ((19 : Int) = ((1 : Nat) : Int)) by decide), if_neg (by decide), if_pos trivial]
      by_cases c : l = h
      · rw [if_pos c, decide_eq_true c, Bool.not_true, cond_false]
        by_cases d : l = 1
        · rw [if_pos d, bifd_pos d]
        · rw [if_neg d, bifd_neg d]
      · rw [if_neg c, decide_eq_false c]; rfl
    · obtain ⟨v, hv, v1, v2⟩ := nat_of (hg 0 (by omega)).1 (hg 0 (by omega)).2
      obtain ⟨u, hu, u1, u2⟩ := nat_of (hg 1 (by omega)).1 (hg 1 (by omega)).2
      obtain ⟨l, h, e, hl, hh⟩ := nrm_nat v1 v2 (hi := hi 0) (hlo 0)
      obtain ⟨l1, k1, e1, hl1, hk1⟩ := nrm_nat u1 u2 (hi := hi 1) (hlo 1)
      rw [show k + 4 = (k + 1) + 3 from rfl, ap2, ranges_norm_eq, ranges_norm_eq, hv, hu, e, e1]
      simp only [Option.bind_some]
      rw [binary_prog v1 v2 u1 u2 hl hh hl1 hk1 (by decide) (by decide) (by decide) (fun h => absurd rfl h)]
      simp only [Option.bind_some, valS, hv, hu, e, e1, Int.toNat_natCast]
      rfl
    · obtain ⟨v, hv, v1, v2⟩ := nat_of (hg 0 (by omega)).1 (hg 0 (by omega)).2
      have hu : g 1 = (v : Int) := by omega
      obtain ⟨l, h, e, hl, hh⟩ := nrm_nat v1 v2 (hi := hi 0) (hlo 0)
      obtain ⟨l1, k1, e1, hl1, hk1⟩ := nrm_nat v1 v2 (hi := hi 1) (hlo 1)
      rw [show k + 4 = (k + 1) + 3 from rfl, ap2, ranges_norm_eq, ranges_norm_eq, hv, hu, e, e1]
      simp only [Option.bind_some]
      rw [binary_prog v1 v2 v1 v2 hl hh hl1 hk1 (by omega) (by omega) (by omega) (fun _ => rfl)]
      simp only [Option.bind_some, valS, hv, hu, e, e1, Int.toNat_natCast]
      rw [if_neg (by omega), if_neg (by omega), if_neg (by omega), if_neg (by decide)]
    · obtain ⟨v, hv, v1, v2⟩ := nat_of (hg 0 (by omega)).1 (hg 0 (by omega)).2
      have hu : g 1 = (v : Int) := by omega
      obtain ⟨l, h, e, hl, hh⟩ := nrm_nat v1 v2 (hi := hi 0) (hlo 0)
      obtain ⟨l1, k1, e1, hl1, hk1⟩ := nrm_nat v1 v2 (hi := hi 1) (hlo 1)
      rw [show k + 4 = (k + 1) + 3 from rfl, ap2, ranges_norm_eq, ranges_norm_eq, hv, hu, e, e1]
      simp only [Option.bind_some]
      rw [binary_prog v1 v2 v1 v2 hl hh hl1 hk1 (by omega) (by omega) (by omega) (fun _ => rfl)]
      simp only [Option.bind_some, valS, hv, hu, e, e1, Int.toNat_natCast]
      rw [if_neg (by omega), if_neg (by omega), if_neg (by omega), if_neg (by decide)]
end Go.Proofs.YtcihbcffokjgjaaGreat.Fn
namespace Go.Proofs.YtcihbcffokjgjaaGreat.Fn
open Go Go.RowKit Go.Proofs.YtcihbcffokjgjaaGreat.Ev Go.Proofs.YtcihbcffokjgjaaGreat.Bv
set_option linter.unusedVariables false
set_option linter.unusedSimpArgs false
set_option maxRecDepth 100000
def opF (G z o l h : Nat → Int) (i : Nat) : F3 := ofN (G i) ((z i).toNat, (o i).toNat) ((l i).toNat, (h i).toNat)
def opW (G z o l h : Nat → Int) (i : Nat) : Int := (opF G z o l h i).1
def opZ (G z o l h : Nat → Int) (i : Nat) : Int := ((opF G z o l h i).2.1.1 : Int)
def opO (G z o l h : Nat → Int) (i : Nat) : Int := ((opF G z o l h i).2.1.2 : Int)
def opL (G z o l h : Nat → Int) (i : Nat) : Int := ((opF G z o l h i).2.2.1 : Int)
def opH (G z o l h : Nat → Int) (i : Nat) : Int := ((opF G z o l h i).2.2.2 : Int)
section
variable {G z o l h : Nat → Int} (hz : Nums z) (ho : Nums o) (hl : Nums l) (hh : Nums h)
include hz ho
theorem opF_fv (i : Nat) : Fv (opF G z o l h i).1 (opF G z o l h i).2.1 (opF G z o l h i).2.2 := by
  obtain ⟨a, ha, la⟩ := hz i
  obtain ⟨b, hb, lb⟩ := ho i
  exact ofN_fv (G i) (k := ((z i).toNat, (o i).toNat)) (by simp only; omega) (by simp only; omega)
theorem opZ_nums (n : Nat) : Nums (tr (opZ G z o l h) n) := fun i => by
  unfold tr
  split
  · exact ⟨_, rfl, (opF_fv hz ho i).kv.l1⟩
  · exact ⟨0, rfl, by decide⟩
theorem opO_nums (n : Nat) : Nums (tr (opO G z o l h) n) := fun i => by
  unfold tr
  split
  · exact ⟨_, rfl, (opF_fv hz ho i).kv.l2⟩
  · exact ⟨0, rfl, by decide⟩
omit hz ho in
theorem opL_nn (n : Nat) (i : Nat) : 0 ≤ tr (opL G z o l h) n i := by
  unfold tr
  split
  · exact Int.natCast_nonneg _
  · exact Int.le_refl _
omit hz ho in
theorem opH_nn (n : Nat) (i : Nat) : 0 ≤ tr (opH G z o l h) n i := by
  unfold tr
  split
  · exact Int.natCast_nonneg _
  · exact Int.le_refl _
include hl hh
theorem op_prog (i : Nat) : facts_of.f (G i, z i, o i, l i, h i) = some (opW G z o l h i, opZ G z o l h i, opO G z o l h i, opL G z o l h i, opH G z o l h i) := by
  obtain ⟨a, ha, la⟩ := hz i
  obtain ⟨b, hb, lb⟩ := ho i
  obtain ⟨c, hc, lc⟩ := hl i
  obtain ⟨d, hd, ld⟩ := hh i
  have := facts_of_eq (G i) (k := (a, b)) (r := (c, d)) la lb
  unfold opW opZ opO opL opH opF
  rw [ha, hb, hc, hd]
  exact this
end
noncomputable def apP (op w x : Int) (n : Nat) (g z o l h : Nat → Int) : Option (FT × Int) :=
  (known_Apply.f op w x (n, g) (n, z, o)).bind fun r2 =>
    bif (r2.2 != 0) then
      some ((0, 0, 0, 0, 0), r2.2)
    else
      (ranges_Apply.f op w x (n, g) (n, l, h)).bind fun r3 =>
      bif (r3.2 != 0) then
        some ((0, 0, 0, 0, 0), r3.2)
      else
        (opinfo_Width.f op w x (n, g)).bind fun r4 =>
        bif (r4.2 != 0) then
          some ((0, 0, 0, 0, 0), r4.2)
        else
          (facts_Reduce.f (r4.1, r2.1.1, r2.1.2, r3.1.1, r3.1.2)).bind fun r5 =>
          some ((r5.1.1, r5.1.2.1, r5.1.2.2.1, r5.1.2.2.2.1, r5.1.2.2.2.2), 0)
theorem ap_j5 (fu : Nat) (op w x : Int) {n : Nat} (hn : n ≤ 1000) {G z o l h : Nat → Int} (hz : Nums z) (ho : Nums o) (hl : Nums l) (hh : Nums h) (c0 c1 c2 c3 c4 : Int) (d : Nat) : ∀ (k i : Nat), i + d = n → d < k →
    facts_Apply.j5 fu k op w x n n n n (n : Int) (i : Int) n G z o l h c0 c1 c2 c3 c4 n (tr (opW G z o l h) i) n (tr (opZ G z o l h) i) (tr (opO G z o l h) i) n (tr (opL G z o l h) i) (tr (opH G z o l h) i) =
      apP op w x n (tr (opW G z o l h) n) (tr (opZ G z o l h) n) (tr (opO G z o l h) n) (tr (opL G z o l h) n) (tr (opH G z o l h) n) := by
  induction d with
  | zero =>
    intro k i hi hk
    obtain ⟨k, rfl⟩ : ∃ m, k = m + 1 := ⟨k - 1, by omega⟩
    obtain rfl : i = n := by omega
    rw [facts_Apply.j5_succ, bifd_neg (by omega)]; rfl
  | succ d ih =>
    intro k i hi hk
    obtain ⟨k, rfl⟩ : ∃ m, k = m + 1 := ⟨k - 1, by omega⟩
    rw [facts_Apply.j5_succ, bifd_pos (by omega), bifd_pos (by omega), bifd_pos (by omega), Int.toNat_natCast, op_prog hz ho hl hh i, Option.bind_some, bifd_pos (by omega), bifd_pos (by omega), bifd_pos (by omega), bifd_pos (by omega), bifd_pos (by omega), bifd_pos (by omega), wrapi, wrapi_succ (by omega), tr_upd, tr_upd, tr_upd, tr_upd, tr_upd]
    exact ih k (i + 1) (by omega) (by omega)
theorem wid_chk {op w : Int} {x n m : Nat} {g : Nat → Int} (h : (chkS op w x n m g).2 = 0) : widthS op w x n g = chkS op w x n m g := by
  obtain ⟨h1, h2, h3, h4, h5, h6, h7, h8⟩ := chkS_ok h
  unfold chkS at h h6 ⊢
  by_cases q1 : m ≠ n
  · exact absurd h3 q1
  · rw [if_neg q1] at h h6 ⊢
    by_cases q2 : (widthS op w x n g).2 ≠ 0
    · rw [if_pos q2] at h; exact absurd h q2
    · rw [if_neg q2] at h h6 ⊢
      rw [if_neg (show ¬ (op = 24 ∨ op = 25 ∨ op = 26) by omega)] at h h6 ⊢
      by_cases q4 : (widthS op w x n g).1 = 0 ∨ ∃ j, j < n ∧ g j = 0
      · rw [if_pos q4] at h; exact absurd h (by decide)
      · rw [if_neg q4] at h h6 ⊢
        exact Prod.ext rfl (Decidable.not_not.1 q2)
theorem valS_nn {op r : Int} {x n : Nat} {g : Nat → Int} {q : Nat → Int × Int} (hq : ∀ i, 0 ≤ (q i).1 ∧ 0 ≤ (q i).2) : 0 ≤ (valS op r x n g q).1 ∧ 0 ≤ (valS op r x n g q).2 := by
  unfold valS
  split
  · exact ⟨Int.le_refl _, MM_nn _⟩
  · split
    · exact ⟨Int.natCast_nonneg _, Int.natCast_nonneg _⟩
    · split
      · split
        · split
          · exact hq 1
          · exact hq 2
        · unfold jn
          have h1 := hq 1
          have h2 := hq 2
          constructor
          · rcases mn_c (q 1).1 (q 2).1 with e | e <;> rw [e] <;> omega
          · rcases mx_c (q 1).2 (q 2).2 with e | e <;> rw [e] <;> omega
      · split
        · exact ⟨Int.natCast_nonneg _, Int.natCast_nonneg _⟩
        · exact ⟨Int.natCast_nonneg _, Int.natCast_nonneg _⟩
noncomputable def rvalN (op w : Int) (x n : Nat) (g l h : Nat → Int) : Nat × Nat := ((resS op w x n n g l h).1.1.toNat, (resS op w x n n g l h).1.2.toNat)
noncomputable def kvalN (op w : Int) (x n : Nat) (g z o : Nat → Int) : Nat × Nat := kvalS op (chkS op w x n n g).1.toNat x g (elm g z o)
theorem parts (op w : Int) {x n : Nat} (hx : x < U64) {g z o l h : Nat → Int} (hz : Nums z) (ho : Nums o) (hl : ∀ i, 0 ≤ l i) (hc : (chkS op w x n n g).2 = 0) : ∃ r : Nat, (chkS op w x n n g).1 = (r : Int) ∧ 1 ≤ r ∧ r ≤ 64 ∧ El r (kvalN op w x n g z o) ∧
    kresS op w x n n g z o = ((((kvalN op w x n g z o).1 : Int), ((kvalN op w x n g z o).2 : Int)), 0) ∧ resS op w x n n g l h = ((((rvalN op w x n g l h).1 : Int), ((rvalN op w x n g l h).2 : Int)), 0) := by
  obtain ⟨_, hn, _, _, hg, r, hr, r1, r2, hcas⟩ := chk_cas hc
  refine ⟨r, hr, r1, r2, ?_, ?_, ?_⟩
  · unfold kvalN
    rw [hr, Int.toNat_natCast]
    exact el_val hcas hg (fun i hi => by
      have hgi := hg i hi
      obtain ⟨v, hv, v1, v2⟩ := nat_of hgi.1 hgi.2
      obtain ⟨a, ha, la⟩ := hz i
      obtain ⟨b, hb, lb⟩ := ho i
      unfold elm
      rw [hv, W_of v1 v2, Int.toNat_natCast, ha, hb]; exact el_kof la lb) r1 r2
  · unfold kresS; rw [if_neg (fun e => e hc)]; rfl
  · have hv : resS op w x n n g l h = (valS op (chkS op w x n n g).1 x n g (fun i => nrm (MM (g i)) (l i, h i)), 0) := by unfold resS; rw [if_neg (fun e => e hc)]
    have hnn := valS_nn (op := op) (r := (chkS op w x n n g).1) (x := x) (n := n) (g := g) (q := fun i => nrm (MM (g i)) (l i, h i)) (fun i => by
      have := nrm_ok (MM_nn (g i)) (r := (l i, h i)) (hl i)
      omega)
    unfold rvalN
    rw [hv]
    refine Prod.ext (Prod.ext ?_ ?_) rfl
    · exact (Int.toNat_of_nonneg hnn.1).symm
    · exact (Int.toNat_of_nonneg hnn.2).symm
noncomputable def apQ (op w : Int) (x n : Nat) (g z o l h : Nat → Int) : Option ((Nat × Nat) × (Nat × Nat)) := redS (chkS op w x n n g).1 (kvalN op w x n g z o) (rvalN op w x n g l h)
theorem apQ_spec (op w : Int) {x n : Nat} (hx : x < U64) {g z o l h : Nat → Int} (hz : Nums z) (ho : Nums o) (hl : ∀ i, 0 ≤ l i) (hc : (chkS op w x n n g).2 = 0) : ∃ r : Nat, (chkS op w x n n g).1 = (r : Int) ∧ 1 ≤ r ∧ r ≤ 64 ∧
    RedP (r : Int) (kvalN op w x n g z o) (nrmN (vmask r) (rvalN op w x n g l h)) (apQ op w x n g z o l h) := by
  obtain ⟨r, hr, r1, r2, hel, _, _⟩ := parts op w hx (h := h) hz ho hl hc
  have eW : W (r : Int) = r := W_of r1 r2
  have eM : MK (r : Int) = vmask r := congrArg vmask eW
  have := (redS_spec (r : Int) (rvalN op w x n g l h) hel.l1 hel.l2).1
  rw [eW, eM, hel.kof] at this
  refine ⟨r, hr, r1, r2, ?_⟩
  unfold apQ
  rw [hr]; exact this
theorem apP_eq (op w : Int) {x n : Nat} (hx : x < U64) {g z o l h : Nat → Int} (hz : Nums z) (ho : Nums o) (hl : ∀ i, 0 ≤ l i) :
    apP op w x n g z o l h = some (if (chkS op w x n n g).2 = 0 then (fE (redF (chkS op w x n n g).1 (apQ op w x n g z o l h)), 0) else ((0, 0, 0, 0, 0), (chkS op w x n n g).2)) := by
  unfold apP
  rw [apply_prog12 hx n n hz ho, apply_prog hx n n g l h hl, opinfo_Width_eq hx]
  simp only [Option.bind_some]
  by_cases hc : (chkS op w x n n g).2 = 0
  · obtain ⟨r, hr, r1, r2, hel, hk, hrv⟩ := parts op w hx (h := h) hz ho hl hc
    have hw := wid_chk hc
    rw [if_pos hc, hk, hrv, hw]
    simp only
    rw [hc, bne_self_eq_false, cond_false, cond_false, cond_false, hr]
    have p3 := facts_Reduce_eq (r : Int) (k := kvalN op w x n g z o) (r := rvalN op w x n g l h) hel.l1 hel.l2
    rw [W_of r1 r2, redR_eq] at p3
    rw [show facts_Reduce.f ((r : Int), ((kvalN op w x n g z o).1 : Int), ((kvalN op w x n g z o).2 : Int), ((rvalN op w x n g l h).1 : Int), ((rvalN op w x n g l h).2 : Int)) = _ from p3, Option.bind_some]
    unfold apQ
    rw [hr]
  · rw [if_neg hc]
    unfold kresS
    rw [if_pos hc]
    simp only
    rw [show ((chkS op w x n n g).2 != 0) = true by rw [bne_iff_ne]; exact hc, cond_true]
theorem facts_Apply_eq (op w : Int) {x n : Nat} (hn : n ≤ 1000) {G z o l h : Nat → Int} (hz : Nums z) (ho : Nums o) (hl : Nums l) (hh : Nums h) : facts_Apply.f op w x (n, G, z, o, l, h) = apP op w x n (tr (opW G z o l h) n) (tr (opZ G z o l h) n) (tr (opO G z o l h) n) (tr (opL G z o l h) n) (tr (opH G z o l h) n) := by
  unfold facts_Apply.f
  have hf : 1000 < fuel0 := by unfold fuel0; omega
  generalize fuel0 = m at hf
  unfold facts_Apply.g
  simp only
  rw [bifd_pos (by omega), ble_of (by omega), cond_true, bifd_pos (by omega), ble_of (by omega), cond_true, bifd_pos (by omega), cond_true]
  have := ap_j5 (m + 1) op w (x : Int) hn hz ho hl hh (G := G) 0 0 0 0 0 n (m + 1) 0 (by omega) (by omega)
  rw [tr_zero, tr_zero, tr_zero, tr_zero, tr_zero] at this
  exact this
end Go.Proofs.YtcihbcffokjgjaaGreat.Fn
namespace Go.Proofs.YtcihbcffokjgjaaGreat.Fn
open Go Go.RowKit Go.Proofs.YtcihbcffokjgjaaGreat.Ev Go.Proofs.YtcihbcffokjgjaaGreat.Bv
set_option linter.unusedVariables false
set_option linter.unusedSimpArgs false
set_option maxRecDepth 100000
theorem nums_tr {v : Nat → Int} (h : Nums v) (n : Nat) : Nums (tr v n) := fun i => by
  unfold tr
  split
  · exact h i
  · exact ⟨0, rfl, by decide⟩
def NumF (r : FT) : Prop := ∃ z o l h : Nat, (r.2.1 = z ∧ r.2.2.1 = o ∧ r.2.2.2.1 = l ∧ r.2.2.2.2 = h) ∧ z < U64 ∧ o < U64 ∧ l < U64 ∧ h < U64
theorem NumF.fE {f : F3} (h : Fv f.1 f.2.1 f.2.2) : NumF (fE f) := ⟨_, _, _, _, ⟨rfl, rfl, rfl, rfl⟩, h.kv.l1, h.kv.l2, (rok_lt h.rv).1, (rok_lt h.rv).2⟩
theorem NumF.zero : NumF (0, 0, 0, 0, 0) := ⟨0, 0, 0, 0, ⟨rfl, rfl, rfl, rfl⟩, by decide, by decide, by decide, by decide⟩
noncomputable def apV (op w : Int) (x n : Nat) (G z o l h : Nat → Int) : FT × Int :=
  if (chkS op w x n n (tr (opW G z o l h) n)).2 = 0 then (fE (redF (chkS op w x n n (tr (opW G z o l h) n)).1 (apQ op w x n (tr (opW G z o l h) n) (tr (opZ G z o l h) n) (tr (opO G z o l h) n) (tr (opL G z o l h) n) (tr (opH G z o l h) n))), 0)
  else ((0, 0, 0, 0, 0), (chkS op w x n n (tr (opW G z o l h) n)).2)
section
variable {G z o l h : Nat → Int} (hz : Nums z) (ho : Nums o) (hl : Nums l) (hh : Nums h)
include hz ho hl hh
theorem apV_prog (op w : Int) {x n : Nat} (hx : x < U64) (hn : n ≤ 1000) : facts_Apply.f op w x (n, G, z, o, l, h) = some (apV op w x n G z o l h) := by
  rw [facts_Apply_eq op w hn hz ho hl hh]
  exact apP_eq op w hx (opZ_nums (l := l) (h := h) (G := G) hz ho n) (opO_nums (l := l) (h := h) (G := G) hz ho n) (opL_nn n)
omit hl hh in
theorem apV_num (op w : Int) {x n : Nat} (hx : x < U64) : NumF (apV op w x n G z o l h).1 := by
  unfold apV
  by_cases hc : (chkS op w x n n (tr (opW G z o l h) n)).2 = 0
  · rw [if_pos hc]
    obtain ⟨r, hr, r1, r2, hq⟩ := apQ_spec op w (n := n) hx (g := tr (opW G z o l h) n) (h := tr (opH G z o l h) n) (opZ_nums (l := l) (h := h) (G := G) hz ho n) (opO_nums (l := l) (h := h) (G := G) hz ho n) (opL_nn n) hc
    rw [hr]
    exact NumF.fE (redF_fv (by omega) (by omega) hq)
  · rw [if_neg hc]; exact NumF.zero
end
def kidAt (K : List Tm) (i : Nat) : Tm := (K[i]?).getD (Tm.mk 0 0 0 (ByteArray.mk #[]) [])
theorem kidAt_of {K : List Tm} {i : Nat} {t : Tm} (h : K[i]? = some t) : kidAt K i = t := by unfold kidAt; rw [h]; rfl
noncomputable def facR (n : Nat) (t : Tm) : FT := ((facts_compute.FC n).1 (t, ())).getD (0, 0, 0, 0, 0)
noncomputable def kR0 (n : Nat) (K : List Tm) (i : Nat) : Int := (facR n (kidAt K i)).1
noncomputable def kR1 (n : Nat) (K : List Tm) (i : Nat) : Int := if i < K.length then (facR n (kidAt K i)).2.1 else 0
noncomputable def kR2 (n : Nat) (K : List Tm) (i : Nat) : Int := if i < K.length then (facR n (kidAt K i)).2.2.1 else 0
noncomputable def kR3 (n : Nat) (K : List Tm) (i : Nat) : Int := if i < K.length then (facR n (kidAt K i)).2.2.2.1 else 0
noncomputable def kR4 (n : Nat) (K : List Tm) (i : Nat) : Int := if i < K.length then (facR n (kidAt K i)).2.2.2.2 else 0
theorem kR_at {n : Nat} {K : List Tm} {i : Nat} {t : Tm} (h : K[i]? = some t) : facR n t = (kR0 n K i, kR1 n K i, kR2 n K i, kR3 n K i, kR4 n K i) := by
  have hi : i < K.length := (List.getElem?_eq_some_iff.1 h).1
  unfold kR0 kR1 kR2 kR3 kR4
  rw [if_pos hi, if_pos hi, if_pos hi, if_pos hi, kidAt_of h]
theorem kR_num {n : Nat} {K : List Tm} (h : ∀ (i : Nat) t, K[i]? = some t → NumF (facR n t)) : Nums (kR1 n K) ∧ Nums (kR2 n K) ∧ Nums (kR3 n K) ∧ Nums (kR4 n K) := by
  have key : ∀ i, i < K.length → NumF (facR n (kidAt K i)) := fun i hi => by
    have e : K[i]? = some K[i] := List.getElem?_eq_getElem hi
    rw [kidAt_of e]; exact h i _ e
  refine ⟨fun i => ?_, fun i => ?_, fun i => ?_, fun i => ?_⟩
  all_goals
    first | unfold kR1 | unfold kR2 | unfold kR3 | unfold kR4
    by_cases hi : i < K.length
    · rw [if_pos hi]
      obtain ⟨z, o, l, hh, ⟨e1, e2, e3, e4⟩, l1, l2, l3, l4⟩ := key i hi
      first | exact ⟨z, e1, l1⟩ | exact ⟨o, e2, l2⟩ | exact ⟨l, e3, l3⟩ | exact ⟨hh, e4, l4⟩
    · rw [if_neg hi]; exact ⟨0, rfl, by decide⟩
theorem compute_j3 (rec : Tm × Unit → Option FT) (hrec) (fu : Nat) (K : List Tm) (hK : K.length ≤ 1000) {R0 R1 R2 R3 R4 : Nat → Int} (hr : ∀ (i : Nat) t, K[i]? = some t → rec (t, ()) = some (R0 i, R1 i, R2 i, R3 i, R4 i)) (c0 c1 c2 : Int) (c3 : ByteArray) (c4 : List Tm) (z0 z1 z2 z3 z4 : Int) :
    ∀ (ks : List Tm) (i k : Nat), K.drop i = ks → i ≤ K.length → ks.length < k →
    facts_compute.j3 rec hrec fu k i K (K.length : Int) (i : Int) c0 c1 c2 c3 c4 z0 z1 z2 z3 z4 i (tr R0 i) (tr R1 i) (tr R2 i) (tr R3 i) (tr R4 i) =
      (facts_Apply.f c0 c1 c2 (K.length, tr R0 K.length, tr R1 K.length, tr R2 K.length, tr R3 K.length, tr R4 K.length)).bind fun r3 => some (r3.1.1, r3.1.2.1, r3.1.2.2.1, r3.1.2.2.2.1, r3.1.2.2.2.2)
  | [], i, k, hd, hi, hk => by
    obtain ⟨k, rfl⟩ : ∃ m, k = m + 1 := ⟨k - 1, by omega⟩
    obtain rfl := drop_nil hd hi
    rw [facts_compute.j3_succ, bifd_neg (by omega)]
  | t :: ks, i, k, hd, hi, hk => by
    obtain ⟨k, rfl⟩ : ∃ m, k = m + 1 := ⟨k - 1, by rw [List.length_cons] at hk; omega⟩
    obtain ⟨h3, h4, h5⟩ := drop_cons hd
    rw [facts_compute.j3_succ, bifd_pos (by omega), bifd_pos (by omega), bifd_pos (by omega), Int.toNat_natCast, h4, Option.bind_some, Tm.eta', hr i t h4, Option.bind_some, ble_of (by omega), cond_true, wrapi, wrapi_succ (by omega), tr_cat, tr_cat, tr_cat, tr_cat, tr_cat]
    exact compute_j3 rec hrec fu K hK hr c0 c1 c2 c3 c4 z0 z1 z2 z3 z4 ks (i + 1) k h5 (by omega) (by rw [List.length_cons] at hk; omega)
noncomputable def apN (n : Nat) (t : Tm) : FT := (apV t.op t.width t.val.toNat t.kids.length (tr (kR0 n t.kids) t.kids.length) (tr (kR1 n t.kids) t.kids.length) (tr (kR2 n t.kids) t.kids.length) (tr (kR3 n t.kids) t.kids.length) (tr (kR4 n t.kids) t.kids.length)).1
theorem fac_FC : ∀ (n : Nat) (t : Tm), Ok t → dpT t ≤ n → (facts_compute.FC n).1 (t, ()) = some (facR n t) ∧ NumF (facR n t) ∧ ∀ m, n = m + 1 → facR n t = apN m t := by
  intro n
  induction n with
  | zero => intro t _ h; have := dpT_eq t; omega
  | succ n ih =>
    intro t ht hd
    have e2 := dpT_eq t
    have hl := ht.len
    obtain ⟨ev, lv⟩ := val_nat ht.wf
    have hk : ∀ (i : Nat) u, t.kids[i]? = some u → (facts_compute.FC n).1 (u, ()) = some (facR n u) ∧ NumF (facR n u) := fun i u hu => by
      have := ih u (ht.kid hu) (by have := szL_mem hu; omega)
      exact ⟨this.1, this.2.1⟩
    obtain ⟨n1, n2, n3, n4⟩ := kR_num (fun i u hu => (hk i u hu).2)
    have n1 := nums_tr n1 t.kids.length
    have n2 := nums_tr n2 t.kids.length
    have n3 := nums_tr n3 t.kids.length
    have n4 := nums_tr n4 t.kids.length
    have hv1 := apV_prog (G := tr (kR0 n t.kids) t.kids.length) n1 n2 n3 n4 t.op t.width lv (n := t.kids.length) (by omega)
    have hnum := apV_num (G := tr (kR0 n t.kids) t.kids.length) (l := tr (kR3 n t.kids) t.kids.length) (h := tr (kR4 n t.kids) t.kids.length) n1 n2 t.op t.width lv (n := t.kids.length)
    rw [ev] at hv1
    have c1 : (facts_compute.FC (n + 1)).1 (t, ()) = some (apN n t) := by
      show facts_compute.g (facts_compute.FC n).1 (facts_compute.FC n).2 (fuel0 + 1) t = _
      have hf : 10000 < fuel0 + 1 := by unfold fuel0; omega
      generalize fuel0 + 1 = fu at hf
      unfold facts_compute.g
      have := compute_j3 (facts_compute.FC n).1 (facts_compute.FC n).2 fu t.kids (by omega) (fun i u hu => by rw [(hk i u hu).1, kR_at hu]) t.op t.width t.val t.name t.kids 0 0 0 0 0 t.kids 0 fu rfl (Nat.zero_le _) (by omega)
      rw [tr_zero, tr_zero, tr_zero, tr_zero, tr_zero, hv1, Option.bind_some] at this
      exact this
    have c3 : facR (n + 1) t = apN n t := by unfold facR; rw [c1]; rfl
    rw [c1, c3]
    exact ⟨rfl, hnum, fun m hm => by obtain rfl : n = m := (by omega); rfl⟩
noncomputable def ofT (t : Tm) : FT × Int := if chkT t ≠ 0 then ((0, 0, 0, 0, 0), chkT t) else (facR deep0 t, 0)
theorem of_prog {t : Tm} (h : Ok t) : facts_Of.f t = some (ofT t) := by
  unfold facts_Of.f ofT facts_compute.f
  rw [Tm.eta', check_prog h, Option.bind_some]
  by_cases h0 : chkT t ≠ 0
  · rw [show (chkT t != 0) = true by rw [bne_iff_ne]; exact h0, cond_true, if_pos h0]
  · rw [show (chkT t != 0) = false by rw [bne_eq_false_iff_eq]; exact Decidable.not_not.1 h0, cond_false, if_neg h0, (fac_FC deep0 t h (by have := h.dp; unfold deep0; omega)).1, Option.bind_some]
theorem light_eq {t : Tm} (hw : wfT t) : ∃ b, saturatelaw14_light.f t = some b ∧ (b = true → Ok t) := by
  unfold saturatelaw14_light.f saturateref06_Light.f
  rw [Tm.eta', Tm.eta', count_eq hw (by decide) (by decide) (by decide) (by decide), Option.bind_some]
  unfold cntS
  by_cases h : (dpT t : Int) ≤ 20 ∧ (szT t : Int) ≤ 60
  · rw [if_pos h, bifd_neg (by omega)]
    exact ⟨true, rfl, fun _ => ⟨hw, by omega, by omega⟩⟩
  · rw [if_neg h]
    exact ⟨false, rfl, fun e => by cases e⟩
end Go.Proofs.YtcihbcffokjgjaaGreat.Fn
namespace Go.Proofs.YtcihbcffokjgjaaGreat.Fn
open Go Go.RowKit Go.Proofs.YtcihbcffokjgjaaGreat.Ev Go.Proofs.YtcihbcffokjgjaaGreat.Bv
set_option linter.unusedVariables false
set_option linter.unusedSimpArgs false
set_option maxRecDepth 100000
def hasN (f : F3) (x : Nat) : Prop := khas f.2.1 (vcut (W f.1) x) ∧ inN f.2.2 (vcut (W f.1) x)
instance (f : F3) (x : Nat) : Decidable (hasN f x) := inferInstanceAs (Decidable (_ ∧ _))
theorem inN_cast {r : Nat × Nat} {x : Nat} : (((r.1 : Int) ≤ (x : Int)) ∧ (x : Int) ≤ (r.2 : Int)) ↔ inN r x := by
  unfold inN
  rw [Int.ofNat_le, Int.ofNat_le]
theorem has_f {f : F3} (h : Fv f.1 f.2.1 f.2.2) {x : Nat} (hx : x < U64) : ((known_Has.f f.1 ((f.2.1.1 : Int), (f.2.1.2 : Int)) x).bind fun r2 => bif r2 then (ranges_Has.f f.1 ((f.2.2.1 : Int), (f.2.2.2 : Int)) x).bind fun r3 => some r3 else some false) = some (decide (hasN f x)) := by
  obtain ⟨e1, e2, e3⟩ := fvl h
  rw [known_Has_eq f.1 h.kv.l1 h.kv.l2 hx, Option.bind_some, ranges_Has_eq f.1 _ hx, Option.bind_some, nrm_cp, e2, e3]
  simp only [inN_cast]
  by_cases h1 : khas f.2.1 (vcut (W f.1) x)
  · rw [bifd_pos h1]; congr 1; rw [decide_eq_decide]; exact ⟨fun q => ⟨h1, q⟩, fun q => q.2⟩
  · rw [bifd_neg h1, decide_eq_false (fun q : hasN f x => h1 q.1)]
theorem facts_Has_eq (a : Int) {k r : Nat × Nat} (hz : k.1 < U64) (ho : k.2 < U64) {x : Nat} (hx : x < U64) : facts_Has.f (fI a k r) x = some (decide (hasN (ofN a k r) x)) := by
  unfold facts_Has.f
  have h := facts_of_eq a (k := k) (r := r) hz ho
  simp only
  rw [h, Option.bind_some]
  exact has_f (ofN_fv a hz ho) hx
end Go.Proofs.YtcihbcffokjgjaaGreat.Fn
