/- Apply on elements of known bits: the program's and the reference's, to one specification. -/
import Derived.Test.YtcihbcffokjgjaaGreatAF10
import Derived.Test.YtcihbcffokjgjaaGreatAF2
import Derived.Test.YtcihbcffokjgjaaGreatAF9
import Derived.Test.YtcihbcffokjgjaaGreatAKe
namespace Go.Proofs.YtcihbcffokjgjaaGreat.Fn
open Go Go.RowKit Go.Proofs.YtcihbcffokjgjaaGreat.Ev Go.Proofs.YtcihbcffokjgjaaGreat.Bv
set_option linter.unusedVariables false
set_option linter.unusedSimpArgs false
set_option maxRecDepth 100000

def kbinS (op : Int) (r v u : Nat) (a b : Nat × Nat) : Nat × Nat :=
  if op = 5 then (a.1 ||| b.1, a.2 &&& b.2) else if op = 6 then (a.1 &&& b.1, a.2 ||| b.2) else if op = 7 then ((a.1 &&& b.1) ||| (a.2 &&& b.2), (a.1 &&& b.2) ||| (a.2 &&& b.1))
  else if op = 8 then ksum v 0 a b else if op = 9 then ksum v 1 a (b.2, b.1) else if op = 20 then kconS v u a b else if op = 16 then keqS v a b
  else if op = 13 ∨ op = 14 ∨ op = 15 then (if kone v b then kshS op v a b.2 else (0, 0)) else if op = 10 then ktimS v a b else kexS op v r a b
theorem ref_binary {op : Int} (h5 : 5 ≤ op) (h18 : op ≤ 18) {r v : Nat} {a b : Nat × Nat} (ha : El v a) (hb : El v b) (v1 : 1 ≤ v) (v2 : v ≤ 64) (r1 : 1 ≤ r) (r2 : r ≤ 64) :
    saturateref12_binary.f op v r ((a.1 : Int), (a.2 : Int)) ((b.1 : Int), (b.2 : Int)) = some (((kbinS op r v v a b).1 : Int), ((kbinS op r v v a b).2 : Int)) := by
  have hs : op = 5 ∨ op = 6 ∨ op = 7 ∨ op = 8 ∨ op = 9 ∨ op = 10 ∨ op = 11 ∨ op = 12 ∨ op = 13 ∨ op = 14 ∨ op = 15 ∨ op = 16 ∨ op = 17 ∨ op = 18 := by omega
  unfold saturateref12_binary.f saturateref12_bitwise.f
  have add := saturateref12_Add_eq (v : Int) ha.l1 ha.l2 hb.l1 hb.l2
  have sub := saturateref12_Sub_eq (v : Int) ha.l1 ha.l2 hb.l1 hb.l2
  rw [MK, W_of v1 v2, ha.kof, hb.kof] at add sub
  unfold kbinS
  simp only
  rcases hs with rfl | rfl | rfl | rfl | rfl | rfl | rfl | rfl | rfl | rfl | rfl | rfl | rfl | rfl
  all_goals simp only [Int.reduceBEq, cond_true, cond_false, Int.reduceEq, if_true, if_false, or_self, or_true, true_or, or_false, false_or]
  · rw [or64 ha.l1 hb.l1, and64 ha.l2 hb.l2]; rfl
  · rw [and64 ha.l1 hb.l1, or64 ha.l2 hb.l2]; rfl
  · rw [and64 ha.l1 hb.l1, and64 ha.l2 hb.l2, and64 ha.l1 hb.l2, and64 ha.l2 hb.l1, or64 (and_lt hb.l1) (and_lt hb.l2), or64 (and_lt hb.l2) (and_lt hb.l1)]; rfl
  · rw [add]; rfl
  · rw [sub]; rfl
  · rw [ref_times ha hb v1 v2]; rfl
  · rw [ref_exact (by decide) ha hb v1 v2 r1 r2]; rfl
  · rw [ref_exact (by decide) ha hb v1 v2 r1 r2]; rfl
  · rw [ref_shifted (by decide) ha hb v1 v2]; split <;> rfl
  · rw [ref_shifted (by decide) ha hb v1 v2]; split <;> rfl
  · rw [ref_shifted (by decide) ha hb v1 v2]; split <;> rfl
  · rw [ref_equal ha hb v1 v2]; rfl
  · rw [ref_exact (by decide) ha hb v1 v2 r1 r2]; rfl
  · rw [ref_exact (by decide) ha hb v1 v2 r1 r2]; rfl
theorem one_shl_pred {n r : Nat} (hn : n ≤ r) (r1 : 1 ≤ r) (r2 : r ≤ 64) : bits_Cut.f (r : Int) (IntKind.u64.wrap ((shl .u64 1 (n : Int)) - 1)) = some (vmask n : Int) := by
  have e : IntKind.u64.wrap ((shl .u64 1 (n : Int)) - 1) = (vmask n : Int) := by
    rw [show (1 : Int) = ((1 : Nat) : Int) from rfl, shl64, Nat.one_shiftLeft]
    unfold vmask
    rcases Nat.lt_or_ge n 64 with h | h
    · have h2 : 2 ^ n < 18446744073709551616 := by rw [← p64]; exact Nat.pow_lt_pow_right (by decide) h
      have := pw_pos n
      rw [Nat.mod_eq_of_lt h2, wrapu]; omega
    · obtain rfl : n = 64 := by omega
      decide
  have hl : vmask n ≤ vmask r := by have := Nat.pow_le_pow_right (n := 2) (by decide) hn; unfold vmask; omega
  rw [e, bits_Cut_eq _ (vmask_lt (by omega)), W_of r1 r2]
  unfold vcut; rw [cut_of_le hl]
theorem prog_rem {w m : Nat} {a : Nat × Nat} (ha : El w a) (w2 : w ≤ 64) (hm : m < w) : (a.1 ||| vnot w (2 ^ m - 1), a.2 &&& (2 ^ m - 1)) = kremS w m a := by
  have hb : ∀ i, (2 ^ m - 1).testBit i = decide (i < m) := fun i => testBit_mask m i
  refine Prod.ext (bits_ext fun i => ?_) (bits_ext fun i => ?_)
  · show (a.1 ||| vnot w (2 ^ m - 1)).testBit i = (bld _ w).testBit i
    rw [Nat.testBit_or, testBit_vnot, hb, testBit_bld]
    by_cases h : i < w
    · rw [decide_eq_true h]
      by_cases h2 : i < m
      · rw [decide_eq_true h2, if_pos h2]; simp
      · rw [decide_eq_false h2, if_neg h2]; simp
    · rw [decide_eq_false h, ha.b1 w2 (by omega)]; rfl
  · show (a.2 &&& (2 ^ m - 1)).testBit i = (bld _ w).testBit i
    rw [Nat.testBit_and, hb, testBit_bld]
    by_cases h2 : i < m
    · rw [decide_eq_true h2, if_pos h2, decide_eq_true (show i < w by omega)]; simp
    · rw [decide_eq_false h2, if_neg h2]; simp
theorem prog_p27 (fu : Nat) {op : Int} (ho : op = 10 ∨ op = 11 ∨ op = 12 ∨ op = 17 ∨ op = 18) {r v : Nat} {a b : Nat × Nat} (ha : El v a) (hb : El v b) (v1 : 1 ≤ v) (v2 : v ≤ 64) (r1 : 1 ≤ r) (r2 : r ≤ 64) (hr : op = 10 → r = v) (hn : ¬ (kone v a ∧ kone v b)) (y : Int) (c : Bool) (hyc : (y, c) = (if kone v b then ((b.2 : Int), true) else (0, false))) :
    known_binary.p27 (fuel0 + 1) (fuel0 + 1) op r v y c a.1 a.2 b.1 b.2 0 0 = some (((if op = 10 then ktimS v a b else kexS op v r a b).1 : Int), ((if op = 10 then ktimS v a b else kexS op v r a b).2 : Int)) := by
  have hp : known_binary.p32 (fuel0 + 1) (fuel0 + 1) 0 0 = some (0, 0) := by rw [known_binary.p32_eq]
  have hq := known_binary.p27_eq fuel0 (fuel0 + 1) op r v y c a.1 a.2 b.1 b.2 0 0
  generalize fuel0 + 1 = fu at *
  rw [hq, hp]
  by_cases h10 : op = 10
  · subst h10
    obtain rfl := hr rfl
    have la := klow_le r a
    have lb := klow_le r b
    have hmn : mn (IntKind.i64.wrap ((klow r a : Int) + (klow r b : Int))) (r : Int) = (ktim r a b : Int) := by
      rw [wrapi, wrapi_of (by omega) (by omega), ← Int.natCast_add, mn_nat]; unfold ktim; rw [Nat.min_comm]
    rw [show ((10 : Int) == 10) = true from rfl, cond_true, prog_low ha v2, Option.bind_some, prog_low hb v2, Option.bind_some, hmn, bifd_neg (by omega), one_shl_pred (by unfold ktim; omega) r1 r2, Option.bind_some, if_pos rfl]
    unfold ktimS; rw [if_neg hn]; rfl
  · rw [show (op == 10) = false by rw [beq_eq_false_iff_ne]; exact h10, cond_false, if_neg h10]
    unfold kexS; rw [if_neg hn]
    by_cases h12 : op = 12
    · rw [show (op == 12) = true by rw [beq_iff_eq]; exact h12, cond_true]
      by_cases hk : kone v b
      · rw [if_pos hk] at hyc
        obtain ⟨rfl, rfl⟩ := Prod.mk.inj hyc
        rw [cond_true, bits_Count_eq hb.l2, Option.bind_some]
        by_cases h1 : ones b.2 = 1
        · obtain ⟨m, hm, e⟩ := ones_one hb.l2 h1
          have hb1 : ((ones b.2 : Int) == 1) = true := by rw [beq_iff_eq]; omega
          have hmv : m < v := by
            have h2 := lt_of_le_mask (hb.m2 v2)
            rw [e] at h2
            exact (Nat.pow_lt_pow_iff_right (by decide)).1 h2
          have hpm : 2 ^ m < 18446744073709551616 := by have := hb.l2; rw [e] at this; exact this
          have h0 := pw_pos m
          rw [if_pos ⟨h12, hk, h1⟩, hb1, cond_true, e, klog_pow, ← prog_rem ha v2 hmv]
          have ew : IntKind.u64.wrap (((2 ^ m : Nat) : Int) - 1) = ((2 ^ m - 1 : Nat) : Int) := by rw [wrapu]; omega
          rw [ew, bits_Not_eq _ (Nat.lt_of_le_of_lt (Nat.sub_le _ _) hpm), Option.bind_some, W_of v1 v2, or64 ha.l1 (vnot_lt _ v2), and64 ha.l2 (Nat.lt_of_le_of_lt (Nat.sub_le _ _) hpm)]
        · have hb1 : ((ones b.2 : Int) == 1) = false := by rw [beq_eq_false_iff_ne]; omega
          rw [if_neg (show ¬ (op = 12 ∧ kone v b ∧ ones b.2 = 1) from fun h => h1 h.2.2), hb1, cond_false]; rfl
      · rw [if_neg hk] at hyc
        obtain ⟨rfl, rfl⟩ := Prod.mk.inj hyc
        rw [cond_false, if_neg (show ¬ (op = 12 ∧ kone v b ∧ ones b.2 = 1) from fun h => hk h.2.1)]; rfl
    · rw [show (op == 12) = false by rw [beq_eq_false_iff_ne]; exact h12, cond_false, if_neg (show ¬ (op = 12 ∧ kone v b ∧ ones b.2 = 1) from fun h => h12 h.1)]; rfl
theorem prog_binary {op : Int} (h5 : 5 ≤ op) (h20 : op ≤ 20) (h19 : op ≠ 19) {r v u : Nat} {a b : Nat × Nat} (ha : El v a) (hb : El u b) (v1 : 1 ≤ v) (v2 : v ≤ 64) (u1 : 1 ≤ u) (u2 : u ≤ 64) (r1 : 1 ≤ r) (r2 : r ≤ 64) (hu : op ≠ 20 → u = v) (hr : op = 10 → r = v) :
    known_binary.f op r v u ((a.1 : Int), (a.2 : Int)) ((b.1 : Int), (b.2 : Int)) = some (((kbinS op r v u a b).1 : Int), ((kbinS op r v u a b).2 : Int)) := by
  unfold known_binary.f known_binary.g
  simp only
  by_cases h : op = 20
  · subst h
    simp only [Int.reduceBEq, cond_true, cond_false]
    rw [bits_Concat_eq _ _ ha.l1 hb.l1, Option.bind_some, bits_Concat_eq _ _ ha.l2 hb.l2, Option.bind_some, W_of v1 v2, W_of u1 u2]; rfl
  · obtain rfl := hu h
    have hs : op = 5 ∨ op = 6 ∨ op = 7 ∨ op = 8 ∨ op = 9 ∨ op = 13 ∨ op = 14 ∨ op = 15 ∨ op = 16 ∨ (op = 10 ∨ op = 11 ∨ op = 12 ∨ op = 17 ∨ op = 18) := by omega
    have add := known_Add_eq (u : Int) ha.l1 ha.l2 hb.l1 hb.l2
    have sub := known_Sub_eq (u : Int) ha.l1 ha.l2 hb.l1 hb.l2
    rw [MK, W_of v1 v2, ha.kof, hb.kof] at add sub
    have p22 : known_binary.p22 (fuel0 + 1) (fuel0 + 1) = some (0, 0) := by rw [known_binary.p22_eq]
    have p27 := fun ho hn y c hyc => prog_p27 0 (op := op) ho ha hb v1 v2 r1 r2 hr hn y c hyc
    generalize fuel0 + 1 = fu at *
    rw [prog_single ha v1 v2, prog_single hb v1 v2]
    simp only [Option.bind_some]
    have sh : ∀ K : Option (Int × Int), op = 13 ∨ op = 14 ∨ op = 15 → K = some (((if kone u b then kshS op u a b.2 else (0, 0)).1 : Int), ((if kone u b then kshS op u a b.2 else (0, 0)).2 : Int)) → K = some (((kbinS op r u u a b).1 : Int), ((kbinS op r u u a b).2 : Int)) := by
      intro K ho hK
      rw [hK]; unfold kbinS
      rw [if_neg (show ¬ op = 5 by omega), if_neg (show ¬ op = 6 by omega), if_neg (show ¬ op = 7 by omega), if_neg (show ¬ op = 8 by omega), if_neg (show ¬ op = 9 by omega), if_neg (show ¬ op = 20 by omega), if_neg (show ¬ op = 16 by omega), if_pos ho]
    have shb : op = 13 ∨ op = 14 ∨ op = 15 → (bif ((if kone u b then ((b.2 : Int), true) else (0, false)) : Int × Bool).2 then (known_shift.f op u ((a.1 : Int), (a.2 : Int)) ((if kone u b then ((b.2 : Int), true) else (0, false)) : Int × Bool).1).bind fun r7 => some (r7.1, r7.2) else known_binary.p22 fu fu) = some (((if kone u b then kshS op u a b.2 else (0, 0)).1 : Int), ((if kone u b then kshS op u a b.2 else (0, 0)).2 : Int)) := by
      intro ho
      by_cases hk : kone u b
      · rw [if_pos hk, if_pos hk, cond_true, prog_shift ho ha v1 v2 (hb.m2 v2), Option.bind_some]
      · rw [if_neg hk, if_neg hk, cond_false, p22]; rfl
    rcases hs with rfl | rfl | rfl | rfl | rfl | rfl | rfl | rfl | rfl | ho
    · rw [show ((5 : Int) == 5) = true from rfl, cond_true, or64 ha.l1 hb.l1, and64 ha.l2 hb.l2]; rfl
    · rw [show ((6 : Int) == 5) = false from rfl, cond_false, show ((6 : Int) == 6) = true from rfl, cond_true, and64 ha.l1 hb.l1, or64 ha.l2 hb.l2]; rfl
    · rw [show ((7 : Int) == 5) = false from rfl, cond_false, show ((7 : Int) == 6) = false from rfl, cond_false, show ((7 : Int) == 7) = true from rfl, cond_true, and64 ha.l1 hb.l1, and64 ha.l2 hb.l2, and64 ha.l1 hb.l2, and64 ha.l2 hb.l1, or64 (and_lt hb.l1) (and_lt hb.l2), or64 (and_lt hb.l2) (and_lt hb.l1)]; rfl
    · rw [show ((8 : Int) == 5) = false from rfl, cond_false, show ((8 : Int) == 6) = false from rfl, cond_false, show ((8 : Int) == 7) = false from rfl, cond_false, show ((8 : Int) == 8) = true from rfl, cond_true, add]; rfl
    · rw [show ((9 : Int) == 5) = false from rfl, cond_false, show ((9 : Int) == 6) = false from rfl, cond_false, show ((9 : Int) == 7) = false from rfl, cond_false, show ((9 : Int) == 8) = false from rfl, cond_false, show ((9 : Int) == 9) = true from rfl, cond_true, sub]; rfl
    · refine sh _ (by decide) ?_
      rw [show ((13 : Int) == 5) = false from rfl, cond_false, show ((13 : Int) == 6) = false from rfl, cond_false, show ((13 : Int) == 7) = false from rfl, cond_false, show ((13 : Int) == 8) = false from rfl, cond_false, show ((13 : Int) == 9) = false from rfl, cond_false, show ((13 : Int) == 20) = false from rfl, cond_false, show ((13 : Int) == 16) = false from rfl, cond_false, show ((13 : Int) == 13) = true from rfl, cond_true]
      exact shb (by decide)
    · refine sh _ (by decide) ?_
      rw [show ((14 : Int) == 5) = false from rfl, cond_false, show ((14 : Int) == 6) = false from rfl, cond_false, show ((14 : Int) == 7) = false from rfl, cond_false, show ((14 : Int) == 8) = false from rfl, cond_false, show ((14 : Int) == 9) = false from rfl, cond_false, show ((14 : Int) == 20) = false from rfl, cond_false, show ((14 : Int) == 16) = false from rfl, cond_false, show ((14 : Int) == 13) = false from rfl, cond_false, show ((14 : Int) == 14) = true from rfl, cond_true]
      exact shb (by decide)
    · refine sh _ (by decide) ?_
      rw [show ((15 : Int) == 5) = false from rfl, cond_false, show ((15 : Int) == 6) = false from rfl, cond_false, show ((15 : Int) == 7) = false from rfl, cond_false, show ((15 : Int) == 8) = false from rfl, cond_false, show ((15 : Int) == 9) = false from rfl, cond_false, show ((15 : Int) == 20) = false from rfl, cond_false, show ((15 : Int) == 16) = false from rfl, cond_false, show ((15 : Int) == 13) = false from rfl, cond_false, show ((15 : Int) == 14) = false from rfl, cond_false, show ((15 : Int) == 15) = true from rfl, cond_true]
      exact shb (by decide)
    · rw [show ((16 : Int) == 5) = false from rfl, cond_false, show ((16 : Int) == 6) = false from rfl, cond_false, show ((16 : Int) == 7) = false from rfl, cond_false, show ((16 : Int) == 8) = false from rfl, cond_false, show ((16 : Int) == 9) = false from rfl, cond_false, show ((16 : Int) == 20) = false from rfl, cond_false, show ((16 : Int) == 16) = true from rfl, cond_true, prog_equal ha hb v1 v2]; rfl
    · rw [show (op == 5) = false by rw [beq_eq_false_iff_ne]; omega, cond_false, show (op == 6) = false by rw [beq_eq_false_iff_ne]; omega, cond_false, show (op == 7) = false by rw [beq_eq_false_iff_ne]; omega, cond_false, show (op == 8) = false by rw [beq_eq_false_iff_ne]; omega, cond_false, show (op == 9) = false by rw [beq_eq_false_iff_ne]; omega, cond_false, show (op == 20) = false by rw [beq_eq_false_iff_ne]; omega, cond_false, show (op == 16) = false by rw [beq_eq_false_iff_ne]; omega, cond_false, show (op == 13) = false by rw [beq_eq_false_iff_ne]; omega, cond_false, show (op == 14) = false by rw [beq_eq_false_iff_ne]; omega, cond_false, show (op == 15) = false by rw [beq_eq_false_iff_ne]; omega, cond_false]
      have fin : ∀ K : Option (Int × Int), K = some (((if op = 10 then ktimS u a b else kexS op u r a b).1 : Int), ((if op = 10 then ktimS u a b else kexS op u r a b).2 : Int)) → K = some (((kbinS op r u u a b).1 : Int), ((kbinS op r u u a b).2 : Int)) := by
        intro K hK
        rw [hK]; unfold kbinS
        rw [if_neg (show ¬ op = 5 by omega), if_neg (show ¬ op = 6 by omega), if_neg (show ¬ op = 7 by omega), if_neg (show ¬ op = 8 by omega), if_neg (show ¬ op = 9 by omega), if_neg (show ¬ op = 20 by omega), if_neg (show ¬ op = 16 by omega), if_neg (show ¬ (op = 13 ∨ op = 14 ∨ op = 15) by omega)]
      refine fin _ ?_
      by_cases h1 : kone u a
      · by_cases h2 : kone u b
        · rw [if_pos h1, if_pos h2, cond_true, cond_true, prog_value ho v1 v2 ha.l2 hb.l2, Option.bind_some, prog_const r1 r2 (kval_lt v2 _ _), Option.bind_some]
          by_cases h10 : op = 10
          · obtain rfl := hr h10
            rw [if_pos h10]; unfold ktimS; rw [if_pos ⟨h1, h2⟩, h10]; rfl
          · rw [if_neg h10]; unfold kexS; rw [if_pos ⟨h1, h2⟩]
        · rw [if_pos h1, if_neg h2, cond_true, cond_false]
          exact p27 ho (fun h => h2 h.2) 0 false (by rw [if_neg h2])
      · rw [if_neg h1, cond_false]
        by_cases h2 : kone u b
        · rw [if_pos h2]; exact p27 ho (fun h => h1 h.1) _ _ (by rw [if_pos h2])
        · rw [if_neg h2]; exact p27 ho (fun h => h1 h.1) _ _ (by rw [if_neg h2])
/-! ### Apply -/
/-- The operand's element. -/
def elm (g z o : Nat → Int) (i : Nat) : Nat × Nat := kof (vmask (W (g i))) (z i).toNat (o i).toNat
def kiteS (c a b : Nat × Nat) : Nat × Nat := if kone 1 c then (if c.2 = 1 then a else b) else (a.1 &&& b.1, a.2 &&& b.2)
def kvalS (op : Int) (r x : Nat) (g : Nat → Int) (e : Nat → Nat × Nat) : Nat × Nat :=
  if op = 1 then (0, 0) else if op = 2 then kcst r x else if op = 19 then kiteS (e 0) (e 1) (e 2)
  else if op = 3 ∨ op = 4 ∨ op = 21 ∨ op = 22 ∨ op = 23 then kunaS op r x (g 0).toNat (e 0) else kbinS op r (g 0).toNat (g 1).toNat (e 0) (e 1)
open Classical in
/-- The result of Apply, or its error. -/
noncomputable def kresS (op w : Int) (x n m : Nat) (g z o : Nat → Int) : (Int × Int) × Int :=
  if (chkS op w x n m g).2 ≠ 0 then ((0, 0), (chkS op w x n m g).2)
  else ((((kvalS op (chkS op w x n m g).1.toNat x g (elm g z o)).1 : Int), ((kvalS op (chkS op w x n m g).1.toNat x g (elm g z o)).2 : Int)), 0)
theorem kap0 (fu k : Nat) (op r x : Int) (g z o : Nat → Int) : known_Apply.j6 fu (k + 1) op x 0 0 r 0 ((0 : Nat) : Int) 0 0 g 0 z o 0 0 0 (fun _ => 0) (fun _ => 0) =
    bif op == 2 then (known_Const.f r x).bind fun t => some ((t.1, t.2), 0) else some ((0, 0), 0) := by kernel_rfl
theorem kap1 (fu k : Nat) (op r x : Int) (g z o : Nat → Int) : known_Apply.j6 fu (k + 2) op x 1 1 r 1 ((1 : Nat) : Int) 0 1 g 1 z o 0 0 1 (fun _ => 0) (fun _ => 0) =
    (known_of.f (g 0) (z 0, o 0)).bind fun p => (known_unary.f op r (IntKind.i64.wrap x) (g 0) (p.1, p.2)).bind fun t => some ((t.1, t.2), 0) := by kernel_rfl
theorem kap2 (fu k : Nat) (op r x : Int) (g z o : Nat → Int) : known_Apply.j6 fu (k + 3) op x 2 2 r 2 ((2 : Nat) : Int) 0 2 g 2 z o 0 0 2 (fun _ => 0) (fun _ => 0) =
    (known_of.f (g 0) (z 0, o 0)).bind fun p => (known_of.f (g 1) (z 1, o 1)).bind fun q => (known_binary.f op r (g 0) (g 1) (p.1, p.2) (q.1, q.2)).bind fun t => some ((t.1, t.2), 0) := by kernel_rfl
theorem kap3 (fu k : Nat) (op r x : Int) (g z o : Nat → Int) : known_Apply.j6 fu (k + 4) op x 3 3 r 3 ((3 : Nat) : Int) 0 3 g 3 z o 0 0 3 (fun _ => 0) (fun _ => 0) =
    (known_of.f (g 0) (z 0, o 0)).bind fun p => (known_of.f (g 1) (z 1, o 1)).bind fun q => (known_of.f (g 2) (z 2, o 2)).bind fun s =>
      (known_Single.f 1 (p.1, p.2)).bind fun c => bif c.2 then (bif decide (0 ≤ IntKind.u64.wrap (2 - c.1)) then bif decide (IntKind.u64.wrap (2 - c.1) < ((3 : Nat) : Int)) then some ((upd 2 s.1 (upd 1 q.1 (upd 0 p.1 (fun _ => 0))) (IntKind.u64.wrap (2 - c.1)).toNat, upd 2 s.2 (upd 1 q.2 (upd 0 p.2 (fun _ => 0))) (IntKind.u64.wrap (2 - c.1)).toNat), 0) else none else none)
        else (known_Join.f r (q.1, q.2) (s.1, s.2)).bind fun t => some ((t.1, t.2), 0) := by kernel_rfl
theorem rap0 (fu k : Nat) (op r x : Int) (ho : op = 1 ∨ op = 2) (g z o : Nat → Int) : saturateref12_Apply.j6 fu (k + 1) op x 0 0 r 0 0 0 g 0 z o 0 0 0 (fun _ => 0) (fun _ => 0) =
    bif op == 1 then (saturateref12_Top.f).bind fun t => some ((t.1, t.2), 0) else (saturateref12_Const.f r x).bind fun t => some ((t.1, t.2), 0) := by
  rcases ho with rfl | rfl
  · kernel_rfl
  · kernel_rfl
theorem rap1 (fu k : Nat) (op r x : Int) (ho : op = 3 ∨ op = 4 ∨ op = 21 ∨ op = 22 ∨ op = 23) (g z o : Nat → Int) : saturateref12_Apply.j6 fu (k + 2) op x 1 1 r 0 0 1 g 1 z o 0 0 0 (fun _ => 0) (fun _ => 0) =
    (saturateref12_Of.f (g 0) (z 0, o 0)).bind fun p => (saturateref12_unary.f op r x (g 0) (p.1, p.2)).bind fun t => some ((t.1, t.2), 0) := by
  rcases ho with rfl | rfl | rfl | rfl | rfl <;> kernel_rfl
theorem rap2 (fu k : Nat) (op r x : Int) (ho : op = 5 ∨ op = 6 ∨ op = 7 ∨ op = 8 ∨ op = 9 ∨ op = 10 ∨ op = 11 ∨ op = 12 ∨ op = 13 ∨ op = 14 ∨ op = 15 ∨ op = 16 ∨ op = 17 ∨ op = 18) (g z o : Nat → Int) : saturateref12_Apply.j6 fu (k + 3) op x 2 2 r 0 0 2 g 2 z o 0 0 0 (fun _ => 0) (fun _ => 0) =
    (saturateref12_Of.f (g 0) (z 0, o 0)).bind fun p => (saturateref12_Of.f (g 1) (z 1, o 1)).bind fun q => (saturateref12_binary.f op (g 0) r (p.1, p.2) (q.1, q.2)).bind fun t => some ((t.1, t.2), 0) := by
  rcases ho with rfl | rfl | rfl | rfl | rfl | rfl | rfl | rfl | rfl | rfl | rfl | rfl | rfl | rfl <;> kernel_rfl
theorem rap20 (fu k : Nat) (r x : Int) (g z o : Nat → Int) : saturateref12_Apply.j6 fu (k + 3) 20 x 2 2 r 0 0 2 g 2 z o 0 0 0 (fun _ => 0) (fun _ => 0) =
    (saturateref12_Of.f (g 0) (z 0, o 0)).bind fun p => (saturateref12_Of.f (g 1) (z 1, o 1)).bind fun q => (saturateref12_concat.f (g 0) (g 1) (p.1, p.2) (q.1, q.2)).bind fun t => some ((t.1, t.2), 0) := by kernel_rfl
theorem rap3 (fu k : Nat) (r x : Int) (g z o : Nat → Int) : saturateref12_Apply.j6 (fu + 1) (k + 4) 19 x 3 3 r 0 0 3 g 3 z o 0 0 0 (fun _ => 0) (fun _ => 0) =
    (saturateref12_Of.f (g 0) (z 0, o 0)).bind fun p => (saturateref12_Of.f (g 1) (z 1, o 1)).bind fun q => (saturateref12_Of.f (g 2) (z 2, o 2)).bind fun s =>
      (saturateref12_Single.f 1 (p.1, p.2)).bind fun c => bif c.2 then (bif c.1 == 1 then some ((q.1, q.2), 0) else bif c.2 then some ((s.1, s.2), 0) else (saturateref12_Join.f r (q.1, q.2) (s.1, s.2)).bind fun t => some ((t.1, t.2), 0))
        else (bif c.2 then some ((s.1, s.2), 0) else (saturateref12_Join.f r (q.1, q.2) (s.1, s.2)).bind fun t => some ((t.1, t.2), 0)) := by kernel_rfl
end Go.Proofs.YtcihbcffokjgjaaGreat.Fn
