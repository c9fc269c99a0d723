/- On single values every operator is exact; so, being monotone, it is sound. The reference's value of an operator (layer 8), in the words of the theory. Each operator's result on ranges contains its value: a plain law of numbers. Facts: Apply's facts contain the operator's value. The law's value of an operator, and the law's loop over the operands. -/
import Derived.Test.YtcihbcffokjgjaaGreatTKi
import Derived.Test.YtcihbcffokjgjaaGreatTF12
import Derived.Test.YtcihbcffokjgjaaGreatTFc
import Derived.Test.YtcihbcffokjgjaaGreatTKd
namespace Go.Proofs.YtcihbcffokjgjaaGreat.Fn
open Go Go.RowKit Go.Proofs.YtcihbcffokjgjaaGreat.Ev Go.Proofs.YtcihbcffokjgjaaGreat.Bv
set_option linter.unusedVariables false
set_option linter.unusedSimpArgs false
set_option maxRecDepth 100000
theorem kcst_mod {w a b : Nat} (h : a % 2 ^ w = b % 2 ^ w) : kcst w a = kcst w b := by unfold kcst vcut; rw [h]
theorem kcst_ext {w : Nat} {k : Nat × Nat} {x : Nat} (h : ∀ i, k.1.testBit i = (decide (i < w) && !x.testBit i) ∧ k.2.testBit i = (decide (i < w) && x.testBit i)) : k = kcst w x :=
  Prod.ext (bits_ext fun i => by rw [(h i).1, kcst_bit1]) (bits_ext fun i => by rw [(h i).2, kcst_bit2])
theorem kone_cst {w : Nat} (w1 : 1 ≤ w) (hw : w ≤ 64) (x : Nat) : kone w (kcst w x) := by
  have h := el_cst w1 hw x
  show kunk _ _ = 0
  refine bits_ext fun i => ?_
  rw [kunk_bit h.l1 h.l2 hw, kcst_bit1, kcst_bit2, Nat.zero_testBit]
  cases decide (i < w) <;> cases x.testBit i <;> rfl
theorem kcst_snd {w x : Nat} (h : x < 2 ^ w) : (kcst w x).2 = x := Nat.mod_eq_of_lt h
theorem kcst_swap (w x : Nat) : ((kcst w x).2, (kcst w x).1) = kcst w (vnot w x) := kcst_ext fun i => by
  rw [testBit_vnot]
  simp only
  rw [kcst_bit1, kcst_bit2]
  cases decide (i < w) <;> cases x.testBit i <;> decide
theorem sum_cst {w c : Nat} (hc : c ≤ 1) (hw : w ≤ 64) (a b : Nat) : ksum w c (kcst w a) (kcst w b) = kcst w (a + b + c) := kcst_ext fun i => by
  have lo : ∀ (x j : Nat), j < w → (kcst w x).2.testBit j = x.testBit j := fun x j hj => by rw [kcst_bit2, decide_eq_true hj]; rfl
  have hi : ∀ (x j : Nat), j < w → (vnot 64 (kcst w x).1).testBit j = x.testBit j := fun x j hj => by rw [vnot64_bit (by omega), kcst_bit1, decide_eq_true hj]; simp
  unfold ksum
  simp only
  rw [testBit_bld, testBit_bld]
  by_cases h : i < w
  · have e1 : car c (kcst w a).2 (kcst w b).2 i = car c a b i := car_congr hc i (fun j hj => lo a j (by omega)) (fun j hj => lo b j (by omega))
    have e2 : car c (vnot 64 (kcst w a).1) (vnot 64 (kcst w b).1) i = car c a b i := car_congr hc i (fun j hj => hi a j (by omega)) (fun j hj => hi b j (by omega))
    unfold sumZ sumO opn sbit
    rw [lo a i h, lo b i h, hi a i h, hi b i h, e1, e2, add_bit hc, decide_eq_true h]
    simp
  · rw [decide_eq_false h]; simp
def vunaS (op : Int) (r x v y : Nat) : Nat := if op = 3 then vnot v y else if op = 4 then vneg v y else if op = 21 then vextract x r y else if op = 23 then vsext v r y else y
theorem una_cst {op : Int} {r x v y : Nat} (ho : op = 3 ∨ op = 4 ∨ op = 21 ∨ op = 22 ∨ op = 23) (v1 : 1 ≤ v) (v2 : v ≤ 64) (hr : op = 3 ∨ op = 4 → r = v) (hx : op = 21 → x + r ≤ v) (hy : y < 2 ^ v) : kunaS op r x v (kcst v y) = kcst r (vunaS op r x v y) := by
  have hp := pw_pos v
  unfold kunaS vunaS
  rcases ho with rfl | rfl | rfl | rfl | rfl
  · obtain rfl := hr (.inl rfl)
    rw [if_pos rfl, if_pos rfl]; exact kcst_swap _ _
  · obtain rfl := hr (.inr rfl)
    rw [if_neg (by decide), if_pos rfl, if_neg (by decide), if_pos rfl, kcst_swap, sum_cst (by decide) v2]
    apply kcst_mod
    unfold vneg vnot
    rw [Nat.mod_mod]; congr 1
    have := Nat.mod_lt y hp; omega
  · have := hx rfl
    rw [if_neg (by decide), if_neg (by decide), if_neg (by decide), if_neg (by decide), if_pos rfl]
    refine kcst_ext fun i => ?_
    simp only
    rw [testBit_bld, testBit_bld]
    unfold uF uG vextract
    rw [if_pos rfl, if_pos rfl, kcst_bit1, kcst_bit2, Nat.testBit_mod_two_pow, Nat.testBit_shiftRight, Nat.add_comm x i]
    by_cases h : i < r
    · rw [decide_eq_true h, decide_eq_true (show i + x < v by omega)]; simp
    · rw [decide_eq_false h]; simp
  · rw [if_neg (by decide), if_neg (by decide), if_neg (by decide), if_neg (by decide), if_neg (by decide), if_neg (by decide)]
    refine kcst_ext fun i => ?_
    simp only
    rw [testBit_bld, testBit_bld]
    unfold uF uG
    simp only [Int.reduceEq, if_false]
    by_cases h : i < v
    · rw [if_pos h, if_pos h, kcst_bit1, kcst_bit2, decide_eq_true h]; simp
    · rw [if_neg h, if_neg h, testBit_ge hy (by omega)]; simp
  · rw [if_neg (by decide), if_neg (by decide), if_neg (by decide), if_neg (by decide), if_neg (by decide), if_pos rfl]
    refine kcst_ext fun i => ?_
    simp only
    rw [testBit_bld, testBit_bld]
    unfold uF uG vsext
    simp only [Int.reduceEq, if_false, if_true]
    rw [testBit_bld]
    by_cases h : i < v
    · rw [if_pos h, if_pos h, kcst_bit1, kcst_bit2, decide_eq_true h, show min i (v - 1) = i by omega]; cases decide (i < r) <;> simp
    · rw [if_neg h, if_neg h, kcst_bit1, kcst_bit2, decide_eq_true (show v - 1 < v by omega), show min i (v - 1) = v - 1 by omega]; cases decide (i < r) <;> simp
def vbinS (op : Int) (v u a b : Nat) : Nat :=
  if op = 5 then vand v a b else if op = 6 then vor v a b else if op = 7 then vxor v a b else if op = 8 then vadd v a b else if op = 9 then vsub v a b else if op = 20 then vconcat v u a b else if op = 16 then veq v a b
  else if op = 13 then vshl v a b else if op = 14 then vlshr v a b else if op = 15 then vashr v a b else kval op v a b
theorem mov_cst {w : Nat} (hw : w ≤ 64) (x : Nat) (by_ : Int) (fo : Bool) : kmovS w (kcst w x) by_ (!fo) fo = kcst w (bld (shf w x by_ fo) w) := kcst_ext fun i => by
  unfold kmovS
  simp only
  rw [testBit_bld, testBit_bld, testBit_bld]
  by_cases h : i < w
  · rw [decide_eq_true h]
    have e : mG w (kcst w x) by_ fo i = shf w x by_ fo i ∧ mF w (kcst w x) by_ (!fo) i = !shf w x by_ fo i := by
      unfold mG mF shf
      by_cases q : (i : Int) + by_ < (w : Int)
      · rw [if_pos q, if_pos q, if_pos q]
        by_cases q2 : 0 ≤ (i : Int) + by_
        · rw [if_pos q2, if_pos q2, if_pos q2, kcst_bit2, vnot64_bit (by omega), kcst_bit1, decide_eq_true (show ((i : Int) + by_).toNat < w by omega)]; simp
        · rw [if_neg q2, if_neg q2, if_neg q2]; simp
      · rw [if_neg q, if_neg q, if_neg q]; simp
    rw [e.1, e.2]; simp
  · rw [decide_eq_false h]; simp
theorem eq_cst {w : Nat} (w1 : 1 ≤ w) (hw : w ≤ 64) {a b : Nat} (ha : a < 2 ^ w) (hb : b < 2 ^ w) : keqS w (kcst w a) (kcst w b) = kcst 1 (veq w a b) := by
  unfold keqS veq
  rw [Nat.mod_eq_of_lt ha, Nat.mod_eq_of_lt hb]
  by_cases e : a = b
  · subst e
    have hd := (el_cst w1 hw a).and
    have hd' : (kcst w a).2 &&& (kcst w a).1 = 0 := by rw [Nat.and_comm]; exact hd
    rw [if_neg (fun h => h.elim (fun h => h hd) (fun h => h hd')), if_pos ⟨kone_cst w1 hw a, kone_cst w1 hw a, rfl⟩, if_pos rfl]
  · have : (kcst w a).1 &&& (kcst w b).2 ≠ 0 ∨ (kcst w a).2 &&& (kcst w b).1 ≠ 0 := by
      apply Decidable.byContradiction
      intro h
      have h1 : (kcst w a).1 &&& (kcst w b).2 = 0 := Decidable.byContradiction fun q => h (.inl q)
      have h2 : (kcst w a).2 &&& (kcst w b).1 = 0 := Decidable.byContradiction fun q => h (.inr q)
      refine e (bits_ext fun i => ?_)
      have q1 := bit_of h1 i
      have q2 := bit_of h2 i
      rw [Nat.testBit_and, kcst_bit1, kcst_bit2, Nat.zero_testBit] at q1
      rw [Nat.testBit_and, kcst_bit1, kcst_bit2, Nat.zero_testBit] at q2
      by_cases hi : i < w
      · rw [decide_eq_true hi] at q1 q2
        revert q1 q2; cases a.testBit i <;> cases b.testBit i <;> decide
      · rw [testBit_ge ha (by omega), testBit_ge hb (by omega)]
    rw [if_pos this, if_neg e]
theorem con_cst {v u : Nat} (v1 : 1 ≤ v) (u1 : 1 ≤ u) (huv : v + u ≤ 64) (a b : Nat) : kconS v u (kcst v a) (kcst u b) = kcst (v + u) (vconcat v u a b) := by
  have ha := el_cst v1 (show v ≤ 64 by omega) a
  have hb := el_cst u1 (show u ≤ 64 by omega) b
  unfold kconS
  rw [concat_bld huv _ _ (lt_of_le_mask (ha.m1 (by omega))) (lt_of_le_mask (hb.m1 (by omega))), concat_bld huv _ _ (lt_of_le_mask (ha.m2 (by omega))) (lt_of_le_mask (hb.m2 (by omega)))]
  refine kcst_ext fun i => ?_
  simp only
  rw [testBit_bld, testBit_bld, testBit_vconcat]
  unfold cF
  by_cases h : i < v + u
  · rw [decide_eq_true h, decide_eq_true (show i < 64 by omega)]
    by_cases h2 : u ≤ i
    · rw [if_pos h2, if_pos h2, kcst_bit1, kcst_bit2, decide_eq_true h2, decide_eq_true (show i - u < v by omega), decide_eq_false (show ¬ i < u by omega)]; simp
    · rw [if_neg h2, if_neg h2, kcst_bit1, kcst_bit2, decide_eq_false h2, decide_eq_true (show i < u by omega)]; simp
  · rw [decide_eq_false h]; simp
theorem bin_cst {op : Int} {r v u a b : Nat} (h5 : 5 ≤ op) (h20 : op ≤ 20) (h19 : op ≠ 19) (v1 : 1 ≤ v) (v2 : v ≤ 64) (u1 : 1 ≤ u) (huv : op = 20 → v + u ≤ 64 ∧ r = v + u) (hu : op ≠ 20 → u = v) (hr : 5 ≤ op ∧ op ≤ 15 → r = v) (hr1 : op = 16 → r = 1) (ha : a < 2 ^ v) (hb : b < 2 ^ u) :
    kbinS op r v u (kcst v a) (kcst u b) = kcst r (vbinS op v u a b) := by
  have hp := pw_pos v
  by_cases h : op = 20
  · subst h
    obtain ⟨h1, rfl⟩ := huv rfl
    exact con_cst v1 u1 h1 a b
  · obtain rfl := hu h
    have k1 := kone_cst v1 v2 a
    have k2 := kone_cst v1 v2 b
    have s1 := kcst_snd ha
    have s2 := kcst_snd hb
    have s3 : b % 2 ^ u = b := Nat.mod_eq_of_lt hb
    have hs : op = 5 ∨ op = 6 ∨ op = 7 ∨ op = 8 ∨ op = 9 ∨ op = 13 ∨ op = 14 ∨ op = 15 ∨ op = 16 ∨ op = 10 ∨ (op = 11 ∨ op = 12 ∨ op = 17 ∨ op = 18) := by omega
    unfold kbinS vbinS
    rcases hs with rfl | rfl | rfl | rfl | rfl | rfl | rfl | rfl | rfl | rfl | ho
    · obtain rfl := hr (by decide)
      simp only [Int.reduceEq, if_true, if_false, or_self, or_true, true_or, or_false, false_or]
      refine kcst_ext fun i => ?_
      simp only [Nat.testBit_or, Nat.testBit_and, kcst_bit1, kcst_bit2, vand, Nat.testBit_mod_two_pow]
      cases decide (i < r) <;> cases a.testBit i <;> cases b.testBit i <;> decide
    · obtain rfl := hr (by decide)
      simp only [Int.reduceEq, if_true, if_false, or_self, or_true, true_or, or_false, false_or]
      refine kcst_ext fun i => ?_
      simp only [Nat.testBit_or, Nat.testBit_and, kcst_bit1, kcst_bit2, vor, Nat.testBit_mod_two_pow]
      cases decide (i < r) <;> cases a.testBit i <;> cases b.testBit i <;> decide
    · obtain rfl := hr (by decide)
      simp only [Int.reduceEq, if_true, if_false, or_self, or_true, true_or, or_false, false_or]
      refine kcst_ext fun i => ?_
      simp only [Nat.testBit_or, Nat.testBit_and, Nat.testBit_xor, kcst_bit1, kcst_bit2, vxor, Nat.testBit_mod_two_pow]
      cases decide (i < r) <;> cases a.testBit i <;> cases b.testBit i <;> decide
    · obtain rfl := hr (by decide)
      simp only [Int.reduceEq, if_true, if_false, or_self, or_true, true_or, or_false, false_or]
      rw [sum_cst (by decide) v2]; apply kcst_mod; unfold vadd; rw [Nat.mod_mod]; rfl
    · obtain rfl := hr (by decide)
      simp only [Int.reduceEq, if_true, if_false, or_self, or_true, true_or, or_false, false_or]
      rw [kcst_swap, sum_cst (by decide) v2]; apply kcst_mod; unfold vsub vnot; rw [Nat.mod_mod, s3]; congr 1; omega
    · obtain rfl := hr (by decide)
      simp only [Int.reduceEq, if_true, if_false, or_self, or_true, true_or, or_false, false_or]
      rw [if_pos k2, s2]; unfold kshS; rw [if_pos rfl, ← shf_shl v2, s3]; exact mov_cst v2 a _ false
    · obtain rfl := hr (by decide)
      simp only [Int.reduceEq, if_true, if_false, or_self, or_true, true_or, or_false, false_or]
      rw [if_pos k2, s2]; unfold kshS; rw [if_neg (by decide), if_pos rfl, ← shf_lshr v2, s3]; exact mov_cst v2 a _ false
    · obtain rfl := hr (by decide)
      simp only [Int.reduceEq, if_true, if_false, or_self, or_true, true_or, or_false, false_or]
      rw [if_pos k2, s2]; unfold kshS; rw [if_neg (by decide), if_neg (by decide), ← shf_ashr v2, s3, kcst_bit1, kcst_bit2, decide_eq_true (show r - 1 < r by omega)]
      exact mov_cst v2 a _ (a.testBit (r - 1))
    · obtain rfl := hr1 rfl
      simp only [Int.reduceEq, if_true, if_false, or_self, or_true, true_or, or_false, false_or]
      exact eq_cst v1 v2 ha hb
    · obtain rfl := hr (by decide)
      simp only [Int.reduceEq, if_true, if_false, or_self, or_true, true_or, or_false, false_or]
      unfold ktimS; rw [if_pos ⟨k1, k2⟩, s1, s2]; rfl
    · rw [if_neg (by omega), if_neg (by omega), if_neg (by omega), if_neg (by omega), if_neg (by omega), if_neg (by omega), if_neg (by omega), if_neg (by omega), if_neg (by omega)]
      rw [if_neg (by omega), if_neg (by omega), if_neg (by omega), if_neg (by omega), if_neg (by omega), if_neg (by omega), if_neg (by omega), if_neg (by omega), if_neg (by omega), if_neg (by omega)]
      unfold kexS; rw [if_pos ⟨k1, k2⟩, s1, s2]
def vvalS (op : Int) (r x : Nat) (g : Nat → Int) (y : Nat → Nat) : Nat :=
  if op = 2 then x else if op = 19 then (if y 0 = 1 then y 1 else y 2) else if op = 3 ∨ op = 4 ∨ op = 21 ∨ op = 22 ∨ op = 23 then vunaS op r x (g 0).toNat (y 0) else vbinS op (g 0).toNat (g 1).toNat (y 0) (y 1)
theorem val_cst {op : Int} {r x n : Nat} {g : Nat → Int} {y : Nat → Nat} (h1 : op ≠ 1) (hc : Cas op r x n g) (hg : ∀ i, i < n → 1 ≤ g i ∧ g i ≤ 64) (hy : ∀ i, i < n → y i < 2 ^ (g i).toNat) (r1 : 1 ≤ r) (r2 : r ≤ 64) :
    kvalS op r x g (fun i => kcst (g i).toNat (y i)) = kcst r (vvalS op r x g y) := by
  unfold kvalS vvalS
  rcases hc with ⟨hop, rfl⟩ | ⟨hop, rfl, hr⟩ | ⟨hop, rfl, hr, hr2⟩ | ⟨rfl, rfl, g0, g1, g2⟩ | ⟨rfl, rfl, hr⟩ | ⟨hop, rfl, g1, hr⟩ | ⟨hop, rfl, g1, hr⟩
  · obtain rfl : op = 2 := by omega
    rw [if_neg (by decide), if_pos rfl, if_pos rfl]
  · have := hg 0 (by omega)
    rw [if_neg (by omega), if_neg (by omega), if_neg (by omega), if_pos (by omega), if_neg (by omega), if_neg (by omega), if_pos (by omega)]
    exact una_cst (by omega) (by omega) (by omega) (fun _ => by omega) (by omega) (hy 0 (by omega))
  · have := hg 0 (by omega)
    rw [if_neg (by omega), if_neg (by omega), if_neg (by omega), if_pos (by omega), if_neg (by omega), if_neg (by omega), if_pos (by omega)]
    exact una_cst (by omega) (by omega) (by omega) (by omega) (fun h => by have := hr h; omega) (hy 0 (by omega))
  · rw [if_neg (by decide), if_neg (by decide), if_pos rfl, if_neg (by decide), if_pos rfl]
    have h0 := hy 0 (by omega)
    rw [show (g 0).toNat = 1 by omega] at h0
    have e0 : (kcst 1 (y 0)).2 = y 0 := kcst_snd h0
    unfold kiteS
    simp only
    rw [show (g 0).toNat = 1 by omega, show (g 1).toNat = r by omega, show (g 2).toNat = r by omega]
    rw [if_pos (kone_cst (by decide) (by decide) _), e0]
    split <;> rfl
  all_goals
    have := hg 0 (by omega)
    have := hg 1 (by omega)
    rw [if_neg (by omega), if_neg (by omega), if_neg (by omega), if_neg (by omega), if_neg (by omega), if_neg (by omega), if_neg (by omega)]
    exact bin_cst (by omega) (by omega) (by omega) (by omega) (by omega) (by omega) (fun h => by omega) (fun h => by omega) (fun h => by omega) (fun h => by omega) (hy 0 (by omega)) (hy 1 (by omega))
theorem has_iff {w : Nat} (hw : w ≤ 64) {k : Nat × Nat} (hk : El w k) {y : Nat} (hy : y < 2 ^ w) : khas k y ↔ Le (kcst w y) k := by
  unfold khas Le
  constructor
  · intro h i
    have q1 := bit_of h.1 i
    have q2 := bit_of h.2 i
    rw [Nat.testBit_and] at q1 q2
    rw [Nat.zero_testBit] at q1
    rw [kcst_bit1, kcst_bit2]
    by_cases hi : i < w
    · rw [decide_eq_true hi]
      revert q1 q2; cases k.1.testBit i <;> cases k.2.testBit i <;> cases y.testBit i <;> decide
    · rw [hk.b1 hw (by omega), hk.b2 hw (by omega)]; simp
  · intro h
    refine ⟨bits_ext fun i => ?_, bits_ext fun i => ?_⟩ <;>
    · have q := h i
      rw [kcst_bit1, kcst_bit2] at q
      rw [Nat.testBit_and]
      first
      | rw [Nat.zero_testBit]
      | skip
      by_cases hi : i < w
      · rw [decide_eq_true hi] at q
        revert q; cases k.1.testBit i <;> cases k.2.testBit i <;> cases y.testBit i <;> decide
      · first | rw [hk.b1 hw (by omega)] | rw [hk.b2 hw (by omega)]
        simp
theorem val_sound {op : Int} {r x n : Nat} {g : Nat → Int} {e : Nat → Nat × Nat} {y : Nat → Nat} (h1 : op ≠ 1) (hc : Cas op r x n g) (hg : ∀ i, i < n → 1 ≤ g i ∧ g i ≤ 64) (he : ∀ i, i < n → El (g i).toNat (e i)) (hy : ∀ i, i < n → y i < 2 ^ (g i).toNat) (hh : ∀ i, i < n → khas (e i) (y i)) (r1 : 1 ≤ r) (r2 : r ≤ 64) :
    Le (kcst r (vvalS op r x g y)) (kvalS op r x g e) := by
  rw [← val_cst h1 hc hg hy r1 r2]
  refine le_val hc hg (fun i hi => el_cst (by have := hg i hi; omega) (by have := hg i hi; omega) _) he (fun i hi => ?_) r2
  exact (has_iff (by have := hg i hi; omega) (he i hi) (hy i hi)).1 (hh i hi)
end Go.Proofs.YtcihbcffokjgjaaGreat.Fn
namespace Go.Proofs.YtcihbcffokjgjaaGreat.Fn
open Go Go.RowKit Go.Proofs.YtcihbcffokjgjaaGreat.Ev Go.Proofs.YtcihbcffokjgjaaGreat.Bv
set_option linter.unusedVariables false
set_option linter.unusedSimpArgs false
set_option maxRecDepth 100000
theorem one08 {op : Int} {r x v y : Nat} (ho : op = 3 ∨ op = 4 ∨ op = 21 ∨ op = 22 ∨ op = 23) (v1 : 1 ≤ v) (v2 : v ≤ 64) (r1 : 1 ≤ r) (r2 : r ≤ 64) (hx : op = 21 → x ≤ 64) (hy : y < U64) : saturateref08_one.f op r x v y = some (vunaS op r x v y : Int) := by
  unfold saturateref08_one.f vunaS
  rcases ho with rfl | rfl | rfl | rfl | rfl <;> simp only [Int.reduceBEq, cond_true, cond_false, Int.reduceEq, if_true, if_false]
  · rw [saturateref01_Not_eq _ hy, W_of v1 v2]; rfl
  · rw [saturateref01_Neg_eq _ hy, W_of v1 v2]; rfl
  · have := hx rfl
    rw [wrapi, wrapi_of (by omega) (by omega), saturateref01_Extract_eq _ _ hy, W_of r1 r2]; rfl
  · rw [saturateref01_Sext_eq _ _ hy, W_of v1 v2, W_of r1 r2]; rfl
theorem two08 {op : Int} {v a b : Nat} (h5 : 5 ≤ op) (h18 : op ≤ 18) (v1 : 1 ≤ v) (v2 : v ≤ 64) (ha : a < U64) (hb : b < U64) : saturateref08_two.f op v a b = some (vbinS op v v a b : Int) := by
  have hs : op = 5 ∨ op = 6 ∨ op = 7 ∨ op = 8 ∨ op = 9 ∨ op = 10 ∨ op = 11 ∨ op = 12 ∨ op = 13 ∨ op = 14 ∨ op = 15 ∨ op = 16 ∨ op = 17 ∨ op = 18 := by omega
  unfold saturateref08_two.f vbinS kval
  rcases hs with rfl | rfl | rfl | rfl | rfl | rfl | rfl | rfl | rfl | rfl | rfl | rfl | rfl | rfl <;> simp only [Int.reduceBEq, cond_true, cond_false, Int.reduceEq, if_true, if_false]
  · rw [saturateref01_And_eq _ ha hb, W_of v1 v2]; rfl
  · rw [saturateref01_Or_eq _ ha hb, W_of v1 v2]; rfl
  · rw [saturateref01_Xor_eq _ ha hb, W_of v1 v2]; rfl
  · rw [saturateref01_Add_eq _ ha hb, W_of v1 v2]; rfl
  · rw [saturateref01_Sub_eq _ ha hb, W_of v1 v2]; rfl
  · rw [saturateref01_Mul_eq _ ha hb, W_of v1 v2]; rfl
  · rw [saturateref01_Udiv_eq _ ha hb, W_of v1 v2]; rfl
  · rw [saturateref01_Urem_eq _ ha hb, W_of v1 v2]; rfl
  · rw [saturateref01_Shl_eq _ ha hb, W_of v1 v2]; rfl
  · rw [saturateref01_Lshr_eq _ ha hb, W_of v1 v2]; rfl
  · rw [saturateref01_Ashr_eq _ ha hb, W_of v1 v2]; rfl
  · rw [saturateref01_Eq_eq _ ha hb, W_of v1 v2]; rfl
  · rw [saturateref01_Ult_eq _ ha hb, W_of v1 v2]; rfl
  · rw [saturateref01_Slt_eq _ ha hb, W_of v1 v2]; rfl
def cutv (g y : Nat → Int) (i : Nat) : Nat := vcut (W (g i)) (y i).toNat
theorem cutv_lt (g y : Nat → Int) (i : Nat) : cutv g y i < U64 := vcut_lt _ (W_le _)
theorem value_j3 (fu : Nat) (op r x : Int) {n : Nat} (hn : n ≤ 3) {g y : Nat → Int} (hy : Nums y) (d : Nat) : ∀ (k i : Nat) (f : Nat → Int), n - i = d → i ≤ n → d < k → (∀ j, j < i → f j = (cutv g y j : Int)) →
    ∃ C, (∀ j, j < n → C j = (cutv g y j : Int)) ∧ ∃ k', saturateref08_value.j3 fu k op r x n i i n g y i f = saturateref08_value.j3 fu (k' + 1) op r x n n n n g y n C := by
  induction d with
  | zero =>
    intro k i f hd hi hk hj
    obtain ⟨k, rfl⟩ : ∃ m, k = m + 1 := ⟨k - 1, by omega⟩
    obtain rfl : i = n := by omega
    exact ⟨f, hj, k, rfl⟩
  | succ d ih =>
    intro k i f hd hi hk hj
    obtain ⟨k, rfl⟩ : ∃ m, k = m + 1 := ⟨k - 1, by omega⟩
    obtain ⟨C, hC, k', he⟩ := ih k (i + 1) (cat i f (fun t => [(cutv g y i : Int)].getD t 0)) (by omega) (by omega) (by omega) (fun j hj' => by
      rcases Nat.lt_or_ge j i with h | h
      · rw [cat_lt h]; exact hj j h
      · obtain rfl : j = i := by omega
        rw [cat_at]; rfl)
    refine ⟨C, hC, k', ?_⟩
    obtain ⟨a, ha, la⟩ := hy i
    have hc : saturateref01_Cut.f (g i) (y i) = some (cutv g y i : Int) := by unfold cutv; rw [ha]; exact saturateref01_Cut_eq (g i) la
    rw [saturateref08_value.j3_succ, bifd_pos (by omega), bifd_pos (by omega), bifd_pos (by omega), bifd_pos (by omega), bifd_pos (by omega), Int.toNat_natCast, hc, Option.bind_some, show Nat.ble ((i + 1) * 8) 140737488355328 = true by rw [Nat.ble_eq]; omega, cond_true, wrapi, wrapi_succ (by omega)]
    exact he
theorem vt0 (fu k : Nat) (op r x : Int) (g y C : Nat → Int) : saturateref08_value.j3 fu (k + 1) op r x 0 0 ((0 : Nat) : Int) 0 g y 0 C = some x := by kernel_rfl
theorem vt1 (fu k : Nat) (op r x : Int) (g y C : Nat → Int) : saturateref08_value.j3 fu (k + 1) op r x 1 1 ((1 : Nat) : Int) 1 g y 1 C = (saturateref08_one.f op r x (g 0) (C 0)).bind fun t => some t := by kernel_rfl
theorem vt2 (fu k : Nat) (op r x : Int) (g y C : Nat → Int) : saturateref08_value.j3 fu (k + 1) op r x 2 2 ((2 : Nat) : Int) 2 g y 2 C = bif op == 20 then (saturateref01_Concat.f (g 0) (g 1) (C 0) (C 1)).bind fun t => some t else (saturateref08_two.f op (g 0) (C 0) (C 1)).bind fun t => some t := by kernel_rfl
theorem vt3 (fu k : Nat) (op r x : Int) (g y C : Nat → Int) : saturateref08_value.j3 fu (k + 1) op r x 3 3 ((3 : Nat) : Int) 3 g y 3 C = bif C 0 == 1 then some (C 1) else some (C 2) := by kernel_rfl
theorem value08 {op : Int} {r x n : Nat} {g y : Nat → Int} (h1 : op ≠ 1) (hx : x < U64) (hn : n ≤ 3) (hy : Nums y) (hc : Cas op r x n g) (hg : ∀ i, i < n → 1 ≤ g i ∧ g i ≤ 64) (r1 : 1 ≤ r) (r2 : r ≤ 64) :
    saturateref08_value.f op r x (n, g, y) = some (vvalS op r x g (cutv g y) : Int) := by
  unfold saturateref08_value.f saturateref08_value.g
  have hfu : 1000 < fuel0 + 1 := by unfold fuel0; omega
  generalize fuel0 + 1 = fu at *
  obtain ⟨C, hC, k', he⟩ := value_j3 fu op r x hn hy (g := g) n fu 0 (fun _ => 0) rfl (by omega) (by omega) (fun j hj => by omega)
  have he0 : saturateref08_value.j3 fu fu op r x n 0 0 n g y 0 (fun _ => 0) = _ := he
  simp only
  rw [he0]
  have wd : ∀ i, i < n → ∃ v : Nat, g i = (v : Int) ∧ (g i).toNat = v ∧ 1 ≤ v ∧ v ≤ 64 := fun i hi => by
    obtain ⟨v, hv, v1, v2⟩ := nat_of (hg i hi).1 (hg i hi).2
    exact ⟨v, hv, by omega, v1, v2⟩
  unfold vvalS
  rcases hc with ⟨hop, rfl⟩ | ⟨hop, rfl, hr⟩ | ⟨hop, rfl, hr, hr2⟩ | ⟨rfl, rfl, g0, g1, g2⟩ | ⟨rfl, rfl, hr⟩ | ⟨hop, rfl, g1, hr⟩ | ⟨hop, rfl, g1, hr⟩
  · obtain rfl : op = 2 := by omega
    rw [vt0, if_pos rfl]
  · obtain ⟨v, hv, hv2, v1, v2⟩ := wd 0 (by omega)
    rw [vt1, hC 0 (by omega), hv, one08 (by omega) v1 v2 r1 r2 (fun h => by omega) (cutv_lt _ _ _), if_neg (by omega), if_neg (by omega), if_pos (by omega), Int.toNat_natCast]; rfl
  · obtain ⟨v, hv, hv2, v1, v2⟩ := wd 0 (by omega)
    rw [vt1, hC 0 (by omega), hv, one08 (by omega) v1 v2 r1 r2 (fun h => by have := hr h; omega) (cutv_lt _ _ _), if_neg (by omega), if_neg (by omega), if_pos (by omega), Int.toNat_natCast]; rfl
  · rw [vt3, hC 0 (by omega), hC 1 (by omega), hC 2 (by omega), if_neg (by decide), if_pos rfl]
    by_cases q : cutv g y 0 = 1
    · rw [if_pos q, q]; rfl
    · rw [if_neg q, show ((cutv g y 0 : Int) == 1) = false by rw [beq_eq_false_iff_ne]; omega]; rfl
  · obtain ⟨v, hv, hv2, v1, v2⟩ := wd 0 (by omega)
    obtain ⟨u, hu, hu2, u1, u2⟩ := wd 1 (by omega)
    rw [vt2, show ((20 : Int) == 20) = true from rfl, cond_true, hC 0 (by omega), hC 1 (by omega), hv, hu, saturateref01_Concat_eq _ _ (cutv_lt _ _ _) (cutv_lt _ _ _), W_of v1 v2, W_of u1 u2, if_neg (by decide), if_neg (by decide), if_neg (by decide), Int.toNat_natCast, Int.toNat_natCast]; rfl
  · obtain ⟨v, hv, hv2, v1, v2⟩ := wd 0 (by omega)
    rw [vt2, show (op == 20) = false by rw [beq_eq_false_iff_ne]; omega, cond_false, hC 0 (by omega), hC 1 (by omega), hv, two08 (by omega) (by omega) v1 v2 (cutv_lt _ _ _) (cutv_lt _ _ _), if_neg (by omega), if_neg (by omega), if_neg (by omega), g1, hv, Int.toNat_natCast]; rfl
  · obtain ⟨v, hv, hv2, v1, v2⟩ := wd 0 (by omega)
    rw [vt2, show (op == 20) = false by rw [beq_eq_false_iff_ne]; omega, cond_false, hC 0 (by omega), hC 1 (by omega), hv, two08 (by omega) (by omega) v1 v2 (cutv_lt _ _ _) (cutv_lt _ _ _), if_neg (by omega), if_neg (by omega), if_neg (by omega), g1, hv, Int.toNat_natCast]; rfl
end Go.Proofs.YtcihbcffokjgjaaGreat.Fn
namespace Go.Proofs.YtcihbcffokjgjaaGreat.Fn
open Go Go.RowKit Go.Proofs.YtcihbcffokjgjaaGreat.Ev Go.Proofs.YtcihbcffokjgjaaGreat.Bv
set_option linter.unusedVariables false
set_option linter.unusedSimpArgs false
def Snd (r : Nat) (p : Nat × Nat) (y : Nat) : Prop := p.1 ≤ y ∧ y ≤ p.2 ∧ p.2 ≤ vmask r
def oneV (op : Int) (r v x a : Nat) : Nat := if op = 3 then vnot v a else if op = 4 then vneg v a else if op = 21 then vextract x r a else if op = 23 then vsext v r a else a
def twoV (op : Int) (v u a b : Nat) : Nat :=
  if op = 5 then vand v a b else if op = 6 then vor v a b else if op = 7 then vxor v a b else if op = 8 then vadd v a b else if op = 9 then vsub v a b else if op = 10 then vmul v a b
  else if op = 11 then vudiv v a b else if op = 12 then vurem v a b else if op = 13 then vshl v a b else if op = 14 then vlshr v a b else if op = 15 then vashr v a b
  else if op = 16 then veq v a b else if op = 17 then vult v a b else if op = 18 then vslt v a b else vconcat v u a b
section
variable {v u l h m k a b r : Nat}
theorem le_mask {x v : Nat} (h : x < 2 ^ v) : x ≤ vmask v := by unfold vmask; omega
theorem lt_of_mask {x v : Nat} (h : x ≤ vmask v) : x < 2 ^ v := by have := pw_pos v; unfold vmask at h; omega
theorem snd_top {y : Nat} (h : y < 2 ^ r) : Snd r (topS r) y := ⟨Nat.zero_le _, le_mask h, Nat.le_refl _⟩
theorem mod_lt' (x v : Nat) : x % 2 ^ v < 2 ^ v := Nat.mod_lt _ (pw_pos v)
theorem len_le {x : Nat} (hx : x < 2 ^ v) : len8 x ≤ v := by
  have := isLen_len8 x
  rcases this.2 with h0 | h0
  · omega
  · rcases Nat.lt_or_ge v (len8 x) with hlt | hge
    · have := Nat.pow_le_pow_right (n := 2) (by decide) (show v ≤ len8 x - 1 by omega)
      omega
    · exact hge
theorem fl_le {x : Nat} (hx : x < 2 ^ v) : flS x ≤ vmask v := by
  have := Nat.pow_le_pow_right (n := 2) (by decide) (len_le hx)
  unfold flS vmask; omega
theorem snd_and (hl : l ≤ a) (ha : a ≤ h) (hh : h ≤ vmask v) (hm : m ≤ b) (hb : b ≤ k) (hk : k ≤ vmask v) : Snd v (0, min h k) (vand v a b) := by
  have h1 : a &&& b ≤ a := Nat.and_le_left
  have h2 : a &&& b ≤ b := Nat.and_le_right
  have h3 := lt_of_mask (Nat.le_trans ha hh)
  have e : vand v a b = a &&& b := Nat.mod_eq_of_lt (by omega)
  rw [e]
  exact ⟨Nat.zero_le _, by show _ ≤ min h k; omega, by show min h k ≤ _; omega⟩
theorem or_bound (ha : a ≤ h) (hb : b ≤ k) : a < 2 ^ len8 (h ||| k) ∧ b < 2 ^ len8 (h ||| k) := by
  have := (isLen_len8 (h ||| k)).1
  have h1 : h ≤ h ||| k := Nat.left_le_or
  have h2 : k ≤ h ||| k := Nat.right_le_or
  omega
theorem snd_or (hl : l ≤ a) (ha : a ≤ h) (hh : h ≤ vmask v) (hm : m ≤ b) (hb : b ≤ k) (hk : k ≤ vmask v) : Snd v (max l m, flS (h ||| k)) (vor v a b) := by
  have h1 : a ≤ a ||| b := Nat.left_le_or
  have h2 : b ≤ a ||| b := Nat.right_le_or
  have e : vor v a b = a ||| b := Nat.mod_eq_of_lt (Nat.or_lt_two_pow (lt_of_mask (Nat.le_trans ha hh)) (lt_of_mask (Nat.le_trans hb hk)))
  obtain ⟨b1, b2⟩ := or_bound ha hb
  rw [e]
  exact ⟨by show max l m ≤ _; omega, le_mask (Nat.or_lt_two_pow b1 b2), fl_le (Nat.or_lt_two_pow (lt_of_mask hh) (lt_of_mask hk))⟩
theorem snd_xor (hl : l ≤ a) (ha : a ≤ h) (hh : h ≤ vmask v) (hm : m ≤ b) (hb : b ≤ k) (hk : k ≤ vmask v) : Snd v (0, flS (h ||| k)) (vxor v a b) := by
  have e : vxor v a b = a ^^^ b := Nat.mod_eq_of_lt (Nat.xor_lt_two_pow (lt_of_mask (Nat.le_trans ha hh)) (lt_of_mask (Nat.le_trans hb hk)))
  obtain ⟨b1, b2⟩ := or_bound ha hb
  rw [e]
  exact ⟨Nat.zero_le _, le_mask (Nat.xor_lt_two_pow b1 b2), fl_le (Nat.or_lt_two_pow (lt_of_mask hh) (lt_of_mask hk))⟩
theorem mod_big {x P : Nat} (h1 : P ≤ x) (h2 : x < 2 * P) : x % P = x - P := by
  rw [Nat.mod_eq_sub_mod h1, Nat.mod_eq_of_lt (by omega)]
theorem snd_sum (hl : l ≤ a) (ha : a ≤ h) (hh : h ≤ vmask v) (hm : m ≤ b) (hb : b ≤ k) (hk : k ≤ vmask v) : Snd v (sumS v l h m k) (vadd v a b) := by
  unfold sumS
  by_cases c : decide (l + m ≤ vmask v) = decide (h + k ≤ vmask v)
  · rw [if_pos c]
    have hp := pw_pos v
    unfold vadd
    by_cases d : h + k ≤ vmask v
    · unfold vmask at *
      rw [Nat.mod_eq_of_lt (show a + b < 2 ^ v by omega), Nat.mod_eq_of_lt (show l + m < 2 ^ v by omega), Nat.mod_eq_of_lt (show h + k < 2 ^ v by omega)]
      exact ⟨by show l + m ≤ _; omega, by show _ ≤ h + k; omega, d⟩
    · have d2 : ¬ l + m ≤ vmask v := by rw [decide_eq_decide] at c; exact fun e => d (c.1 e)
      unfold vmask at *
      rw [mod_big (x := a + b) (by omega) (by omega), mod_big (x := l + m) (by omega) (by omega), mod_big (x := h + k) (by omega) (by omega)]
      exact ⟨by show l + m - _ ≤ _; omega, by show _ ≤ h + k - _; omega, by show h + k - _ ≤ 2 ^ v - 1; omega⟩
  · rw [if_neg c]; exact snd_top (mod_lt' _ _)
theorem sub_ge (h1 : a < 2 ^ v) (h2 : b ≤ a) : vsub v a b = a - b := by
  unfold vsub
  rw [Nat.mod_eq_of_lt (show b < 2 ^ v by omega), mod_big (by omega) (by omega)]; omega
theorem sub_lt' (h1 : b < 2 ^ v) (h2 : a < b) : vsub v a b = a + 2 ^ v - b := by
  unfold vsub
  rw [Nat.mod_eq_of_lt h1, Nat.mod_eq_of_lt (by omega)]; omega
theorem snd_dif (hl : l ≤ a) (ha : a ≤ h) (hh : h ≤ vmask v) (hm : m ≤ b) (hb : b ≤ k) (hk : k ≤ vmask v) : Snd v (difS v l h m k) (vsub v a b) := by
  unfold difS
  have p1 := lt_of_mask hh
  have p2 := lt_of_mask hk
  by_cases c : decide (l < k) = decide (h < m)
  · rw [if_pos c]
    rw [decide_eq_decide] at c
    by_cases d : l < k
    · have d2 := c.1 d
      rw [sub_lt' (a := a) (b := b) (by omega) (by omega), sub_lt' p2 d, sub_lt' (by omega) d2]
      unfold Snd vmask; simp only; omega
    · have d2 : ¬ h < m := fun e => d (c.2 e)
      rw [sub_ge (a := a) (b := b) (by omega) (by omega), sub_ge (a := l) (b := k) (by omega) (by omega), sub_ge (a := h) (b := m) (by omega) (by omega)]
      unfold Snd vmask; simp only; omega
  · rw [if_neg c]; exact snd_top (mod_lt' _ _)
theorem snd_mul (hl : l ≤ a) (ha : a ≤ h) (hh : h ≤ vmask v) (hm : m ≤ b) (hb : b ≤ k) (hk : k ≤ vmask v) : Snd v (mulS v l h m k) (vmul v a b) := by
  unfold mulS
  by_cases c : h * k ≤ vmask v
  · rw [if_pos c]
    have h1 : a * b ≤ h * k := Nat.mul_le_mul ha hb
    have h2 : l * m ≤ a * b := Nat.mul_le_mul hl hm
    have e : vmul v a b = a * b := Nat.mod_eq_of_lt (lt_of_mask (by omega))
    rw [e]; exact ⟨h2, h1, c⟩
  · rw [if_neg c]; exact snd_top (mod_lt' _ _)
theorem vudiv_lt' (v a b : Nat) : vudiv v a b < 2 ^ v := by
  unfold vudiv
  have := pw_pos v
  split
  · omega
  · have := Nat.div_le_self (a % 2 ^ v) (b % 2 ^ v)
    have := mod_lt' a v
    omega
theorem snd_div (hl : l ≤ a) (ha : a ≤ h) (hh : h ≤ vmask v) (hm : m ≤ b) (hb : b ≤ k) (hk : k ≤ vmask v) : Snd v (divS v l h m k) (vudiv v a b) := by
  have p1 := lt_of_mask hh
  have p2 := lt_of_mask hk
  unfold divS
  by_cases c : m = 0
  · rw [if_pos c]; exact snd_top (vudiv_lt' _ _ _)
  · rw [if_neg c]; unfold vudiv
    rw [Nat.mod_eq_of_lt (show b < 2 ^ v by omega), Nat.mod_eq_of_lt (show a < 2 ^ v by omega), if_neg (by omega)]
    exact ⟨Nat.div_le_div hl hb (by omega), Nat.div_le_div ha hm c, Nat.le_trans (Nat.div_le_self _ _) hh⟩
theorem snd_rem (hl : l ≤ a) (ha : a ≤ h) (hh : h ≤ vmask v) (hm : m ≤ b) (hb : b ≤ k) (hk : k ≤ vmask v) : Snd v (remS l h m k) (vurem v a b) := by
  have p1 := lt_of_mask hh
  have p2 := lt_of_mask hk
  unfold remS vurem
  rw [Nat.mod_eq_of_lt (show b < 2 ^ v by omega), Nat.mod_eq_of_lt (show a < 2 ^ v by omega)]
  by_cases c : h < m
  · rw [if_pos c, if_neg (by omega), Nat.mod_eq_of_lt (by omega)]; exact ⟨hl, ha, hh⟩
  · rw [if_neg c]
    have hle := Nat.mod_le a b
    by_cases d : 0 < m
    · have := Nat.mod_lt a (show 0 < b by omega)
      rw [if_pos d, if_neg (by omega)]
      exact ⟨Nat.zero_le _, by show _ ≤ min h (k - 1); omega, by show min h (k - 1) ≤ _; omega⟩
    · rw [if_neg d]
      refine ⟨Nat.zero_le _, ?_, hh⟩
      show _ ≤ h
      split <;> omega
theorem shl_le {x y n : Nat} (h : x ≤ y) : x <<< n ≤ y <<< n := by rw [Nat.shiftLeft_eq, Nat.shiftLeft_eq]; exact Nat.mul_le_mul_right _ h
theorem shr_mono {x y n : Nat} (h : x ≤ y) : x >>> n ≤ y >>> n := by rw [Nat.shiftRight_eq_div_pow, Nat.shiftRight_eq_div_pow]; exact Nat.div_le_div_right h
theorem snd_shl (h1 : 1 ≤ v) (hl : l ≤ a) (ha : a ≤ h) (hh : h ≤ vmask v) (hm : m ≤ b) (hb : b ≤ k) (hk : k ≤ vmask v) : Snd v (shlS v l h m k) (vshl v a b) := by
  unfold shlS
  by_cases c : m ≠ k
  · rw [if_pos c]; exact snd_top (mod_lt' _ _)
  · rw [if_neg c]
    obtain rfl : b = m := by omega
    have e : b % 2 ^ v = b := Nat.mod_eq_of_lt (lt_of_mask (by omega))
    by_cases d : v ≤ b
    · rw [if_pos d]
      have : vshl v a b = 0 := by unfold vshl; rw [e, far_shl a d]
      rw [this]; exact ⟨Nat.le_refl _, Nat.le_refl _, Nat.zero_le _⟩
    · rw [if_neg d]
      by_cases f : vmask v >>> b < h
      · rw [if_pos f]; exact snd_top (mod_lt' _ _)
      · rw [if_neg f]
        have hs : h <<< b ≤ vmask v := by
          rw [Nat.shiftLeft_eq]
          have : h ≤ vmask v / 2 ^ b := by rw [← Nat.shiftRight_eq_div_pow]; omega
          have := Nat.mul_le_mul_right (2 ^ b) this
          have := Nat.div_mul_le_self (vmask v) (2 ^ b)
          omega
        have ha2 := shl_le (n := b) ha
        have : vshl v a b = a <<< b := by unfold vshl; rw [e, Nat.mod_eq_of_lt (lt_of_mask (by omega))]
        rw [this]; exact ⟨shl_le hl, ha2, hs⟩
theorem snd_shr (hl : l ≤ a) (ha : a ≤ h) (hh : h ≤ vmask v) (hm : m ≤ b) (hb : b ≤ k) (hk : k ≤ vmask v) : Snd v (shrS l h m k) (vlshr v a b) := by
  have e : vlshr v a b = a >>> b := by unfold vlshr; rw [Nat.mod_eq_of_lt (lt_of_mask (by omega)), Nat.mod_eq_of_lt (lt_of_mask (by omega))]
  rw [e]; unfold shrS
  by_cases c : m ≠ k
  · rw [if_pos c]; exact ⟨Nat.zero_le _, Nat.le_trans (shr_le _ _) ha, hh⟩
  · rw [if_neg c]
    obtain rfl : b = m := by omega
    exact ⟨shr_mono hl, shr_mono ha, Nat.le_trans (shr_le _ _) hh⟩
theorem vashr_lt' (v a b : Nat) : vashr v a b < 2 ^ v := by
  unfold vashr
  split
  · exact sub_lt_pw v _
  · exact Nat.lt_of_le_of_lt (shr_le _ _) (mod_lt' _ _)
theorem top_off {x v : Nat} (h1 : 1 ≤ v) (hx : x < 2 ^ (v - 1)) : x.testBit (v - 1) = false := testBit_ge hx (Nat.le_refl _)
theorem top_on {x v : Nat} (h1 : 1 ≤ v) (hx : 2 ^ (v - 1) ≤ x) (h2 : x < 2 ^ v) : x.testBit (v - 1) = true := by
  rw [testBit_top h1, Nat.mod_eq_of_lt h2]; exact decide_eq_true hx
theorem snd_sar (h1 : 1 ≤ v) (hl : l ≤ a) (ha : a ≤ h) (hh : h ≤ vmask v) (hm : m ≤ b) (hb : b ≤ k) (hk : k ≤ vmask v) : Snd v (sarS v l h m k) (vashr v a b) := by
  unfold sarS
  by_cases c : h < 2 ^ (v - 1)
  · rw [if_pos c]
    have e : vashr v a b = vlshr v a b := by unfold vashr; rw [top_off h1 (by omega)]; rfl
    rw [e]; exact snd_shr hl ha hh hm hb hk
  · rw [if_neg c]; exact snd_top (vashr_lt' _ _ _)
theorem snd_truth (p q s : Prop) [Decidable p] [Decidable q] [Decidable s] (h1 : p → s) (h2 : q → ¬ s) : Snd 1 (truS p q) (if s then 1 else 0) := by
  unfold truS Snd
  by_cases hp : p
  · rw [if_pos hp, if_pos (h1 hp)]; decide
  · rw [if_neg hp]
    by_cases hq : q
    · rw [if_pos hq, if_neg (h2 hq)]; decide
    · rw [if_neg hq]; split <;> decide
theorem snd_eql (hl : l ≤ a) (ha : a ≤ h) (hh : h ≤ vmask v) (hm : m ≤ b) (hb : b ≤ k) (hk : k ≤ vmask v) : Snd 1 (eqlS l h m k) (veq v a b) := by
  unfold eqlS veq
  rw [Nat.mod_eq_of_lt (lt_of_mask (show a ≤ vmask v by omega)), Nat.mod_eq_of_lt (lt_of_mask (show b ≤ vmask v by omega))]
  exact snd_truth _ _ _ (by omega) (by omega)
theorem snd_ult (hl : l ≤ a) (ha : a ≤ h) (hh : h ≤ vmask v) (hm : m ≤ b) (hb : b ≤ k) (hk : k ≤ vmask v) : Snd 1 (ultS l h m k) (vult v a b) := by
  unfold ultS vult
  rw [Nat.mod_eq_of_lt (lt_of_mask (show a ≤ vmask v by omega)), Nat.mod_eq_of_lt (lt_of_mask (show b ≤ vmask v by omega))]
  exact snd_truth _ _ _ (by omega) (by omega)
theorem snd_slt (h1 : 1 ≤ v) (hl : l ≤ a) (ha : a ≤ h) (hh : h ≤ vmask v) (hm : m ≤ b) (hb : b ≤ k) (hk : k ≤ vmask v) : Snd 1 (sltS v l h m k) (vslt v a b) := by
  have p1 := lt_of_mask hh
  have p2 := lt_of_mask hk
  unfold sltS
  by_cases c : (h < 2 ^ (v - 1) ∧ k < 2 ^ (v - 1)) ∨ (2 ^ (v - 1) ≤ l ∧ 2 ^ (v - 1) ≤ m)
  · rw [if_pos c]
    have e : vslt v a b = vult v a b := by
      unfold vslt vult sgn
      rw [Nat.mod_eq_of_lt (show a < 2 ^ v by omega), Nat.mod_eq_of_lt (show b < 2 ^ v by omega)]
      rcases c with c | c
      · rw [top_off h1 (show a < 2 ^ (v - 1) by omega), top_off h1 (show b < 2 ^ (v - 1) by omega)]
        simp
      · rw [top_on h1 (show 2 ^ (v - 1) ≤ a by omega) (by omega), top_on h1 (show 2 ^ (v - 1) ≤ b by omega) (by omega)]
        simp only [if_true]
        by_cases hab : a < b
        · rw [if_pos (by omega), if_pos hab]
        · rw [if_neg (by omega), if_neg hab]
    rw [e]; exact snd_ult hl ha hh hm hb hk
  · rw [if_neg c]
    refine ⟨Nat.zero_le _, ?_, Nat.le_refl _⟩
    show vslt v a b ≤ 1
    unfold vslt; split <;> omega
theorem concat_small (huv : v + u ≤ 64) (ha : a < 2 ^ v) (hb : b < 2 ^ u) : vconcat v u a b = a * 2 ^ u + b := by
  unfold vconcat
  have hlt : a <<< u < 2 ^ 64 := by
    rw [Nat.shiftLeft_eq]
    have h1 : a * 2 ^ u < 2 ^ v * 2 ^ u := Nat.mul_lt_mul_of_pos_right ha (pw_pos u)
    rw [← Nat.pow_add] at h1
    exact Nat.lt_of_lt_of_le h1 (Nat.pow_le_pow_right (by decide) huv)
  rw [Nat.mod_eq_of_lt ha, Nat.mod_eq_of_lt hb, Nat.mod_eq_of_lt hlt, Nat.shiftLeft_eq]
  have := Nat.two_pow_add_eq_or_of_lt hb a
  rw [Nat.mul_comm, ← this]
theorem snd_concat (huv : v + u ≤ 64) (hl : l ≤ a) (ha : a ≤ h) (hh : h ≤ vmask v) (hm : m ≤ b) (hb : b ≤ k) (hk : k ≤ vmask u) : Snd (v + u) (vconcat v u l m, vconcat v u h k) (vconcat v u a b) := by
  have p1 := lt_of_mask hh
  have p2 := lt_of_mask hk
  rw [concat_small huv (a := a) (b := b) (by omega) (by omega), concat_small huv (a := l) (b := m) (by omega) (by omega), concat_small huv p1 p2]
  have e1 := Nat.mul_le_mul_right (2 ^ u) hl
  have e2 := Nat.mul_le_mul_right (2 ^ u) ha
  have e3 : h * 2 ^ u ≤ (2 ^ v - 1) * 2 ^ u := Nat.mul_le_mul_right _ hh
  rw [Nat.sub_mul, Nat.one_mul] at e3
  have hv := pw_pos v
  have e4 : 2 ^ u ≤ 2 ^ v * 2 ^ u := Nat.le_mul_of_pos_left _ hv
  unfold Snd vmask
  unfold vmask at hk
  rw [Nat.pow_add]
  simp only
  omega
theorem snd_two (op : Int) (ho : 5 ≤ op) (ho2 : op ≤ 20) (ho3 : op ≠ 19) (h1 : 1 ≤ v) (huv : op ≠ 20 → u = v) (huv2 : op = 20 → v + u ≤ 64) (hl : l ≤ a) (ha : a ≤ h) (hh : h ≤ vmask v) (hm : m ≤ b) (hb : b ≤ k) (hk : k ≤ vmask u) :
    Snd (if op = 20 then v + u else if 16 ≤ op then 1 else v) (twoS op v u l h m k) (twoV op v u a b) := by
  unfold twoS twoV
  by_cases h20 : op = 20
  · subst h20
    simp only [Int.reduceEq, if_true, if_false]
    exact snd_concat (huv2 rfl) hl ha hh hm hb hk
  · obtain rfl := huv h20
    have hs : op = 5 ∨ op = 6 ∨ op = 7 ∨ op = 8 ∨ op = 9 ∨ op = 10 ∨ op = 11 ∨ op = 12 ∨ op = 13 ∨ op = 14 ∨ op = 15 ∨ op = 16 ∨ op = 17 ∨ op = 18 := by omega
    rcases hs with rfl | rfl | rfl | rfl | rfl | rfl | rfl | rfl | rfl | rfl | rfl | rfl | rfl | rfl
    all_goals simp only [Int.reduceEq, Int.reduceLE, if_true, if_false]
    · exact snd_and hl ha hh hm hb hk
    · exact snd_or hl ha hh hm hb hk
    · exact snd_xor hl ha hh hm hb hk
    · exact snd_sum hl ha hh hm hb hk
    · exact snd_dif hl ha hh hm hb hk
    · exact snd_mul hl ha hh hm hb hk
    · exact snd_div hl ha hh hm hb hk
    · exact snd_rem hl ha hh hm hb hk
    · exact snd_shl h1 hl ha hh hm hb hk
    · exact snd_shr hl ha hh hm hb hk
    · exact snd_sar h1 hl ha hh hm hb hk
    · exact snd_eql hl ha hh hm hb hk
    · exact snd_ult hl ha hh hm hb hk
    · exact snd_slt h1 hl ha hh hm hb hk
theorem vsext_on (h1 : 1 ≤ v) (hr : v ≤ r) (h64 : r ≤ 64) (ha : 2 ^ (v - 1) ≤ a) (ha2 : a < 2 ^ v) : vsext v r a = a + (2 ^ r - 2 ^ v) := by
  rw [← s64_cut h1 (by omega) h64]
  unfold s64 vcut
  rw [top_on h1 ha ha2, if_pos rfl, Nat.mod_eq_of_lt ha2]
  have hP := pw_dvd64 h64
  have hq := pw_pos (64 - r)
  have hvr := Nat.pow_le_pow_right (n := 2) (by decide) hr
  generalize 2 ^ (64 - r) = q at *
  generalize 2 ^ r = R at *
  generalize 2 ^ v = P at *
  obtain ⟨e, rfl⟩ : ∃ e, q = e + 1 := ⟨q - 1, by omega⟩
  rw [Nat.mul_add, Nat.mul_one] at hP
  rw [show a + (18446744073709551616 - P) = R * e + (a + (R - P)) by omega, Nat.mul_add_mod, Nat.mod_eq_of_lt (by omega)]
theorem vsext_off (h1 : 1 ≤ v) (hr : v ≤ r) (h64 : r ≤ 64) (ha : a < 2 ^ (v - 1)) : vsext v r a = a := by
  have := two_pow_pred h1
  have hvr := Nat.pow_le_pow_right (n := 2) (by decide) hr
  rw [← s64_cut h1 (by omega) h64]
  unfold s64 vcut
  rw [top_off h1 ha, if_neg (by decide), Nat.mod_eq_of_lt (show a < 2 ^ v by omega), Nat.mod_eq_of_lt (by omega)]
theorem vneg_pos (ha0 : 0 < a) (ha : a < 2 ^ v) : vneg v a = 2 ^ v - a := by
  unfold vneg; rw [Nat.mod_eq_of_lt ha, Nat.mod_eq_of_lt (by omega)]
theorem vneg_zero : vneg v 0 = 0 := by unfold vneg; rw [Nat.zero_mod, Nat.sub_zero, Nat.mod_self]
theorem snd_one {x : Nat} (op : Int) (ho : op = 3 ∨ op = 4 ∨ op = 21 ∨ op = 22 ∨ op = 23) (h1 : 1 ≤ v) (r1 : 1 ≤ r) (r2 : r ≤ 64) (hr : op = 3 ∨ op = 4 → r = v) (hr2 : op = 21 → x + r ≤ v) (hr3 : op = 22 ∨ op = 23 → v ≤ r) (hl : l ≤ a) (ha : a ≤ h) (hh : h ≤ vmask v) :
    Snd r (oneS op r v x l h) (oneV op r v x a) := by
  have p1 := lt_of_mask hh
  unfold oneS oneV
  rcases ho with rfl | rfl | rfl | rfl | rfl
  all_goals simp only [Int.reduceEq, if_true, if_false]
  · obtain rfl := hr (.inl rfl)
    unfold Snd vnot vmask; rw [Nat.mod_eq_of_lt (show a < 2 ^ r by omega)]; simp only; omega
  · obtain rfl := hr (.inr rfl)
    by_cases c : l = 0 ∧ 0 < h
    · rw [if_pos c]; exact snd_top (mod_lt' _ _)
    · rw [if_neg c]
      by_cases d : h = 0
      · obtain rfl : a = 0 := by omega
        obtain rfl : l = 0 := by omega
        subst d
        rw [vneg_zero]; exact ⟨Nat.le_refl _, Nat.le_refl _, Nat.zero_le _⟩
      · rw [vneg_pos (a := a) (by omega) (by omega), vneg_pos (a := l) (by omega) (by omega), vneg_pos (a := h) (by omega) (by omega)]
        unfold Snd vmask; simp only; omega
  · have hxv := hr2 rfl
    by_cases c : x = 0 ∧ h ≤ vmask r
    · rw [if_pos c]
      have e : vextract x r a = a := by unfold vextract; rw [c.1, Nat.shiftRight_zero, Nat.mod_eq_of_lt (lt_of_mask (by omega))]
      rw [e]; exact ⟨hl, ha, c.2⟩
    · rw [if_neg c]
      by_cases d : x + r = v
      · rw [if_pos d]
        have hs : h >>> x < 2 ^ r := by
          rw [Nat.shiftRight_eq_div_pow, Nat.div_lt_iff_lt_mul (pw_pos x), ← Nat.pow_add, Nat.add_comm, d]; exact p1
        have hm := shr_mono (n := x) ha
        have e : vextract x r a = a >>> x := by unfold vextract; rw [Nat.mod_eq_of_lt (by omega)]
        rw [e]; exact ⟨shr_mono hl, hm, le_mask hs⟩
      · rw [if_neg d]; exact snd_top (mod_lt' _ _)
  · have hvr := Nat.pow_le_pow_right (n := 2) (by decide) (hr3 (.inl rfl))
    exact ⟨hl, ha, le_mask (by omega)⟩
  · have hv := hr3 (.inr rfl)
    have hvr := Nat.pow_le_pow_right (n := 2) (by decide) hv
    by_cases c : 2 ^ (v - 1) ≤ l
    · rw [if_pos c, vsext_on (a := a) h1 hv r2 (by omega) (by omega), vsext_on (a := l) h1 hv r2 (by omega) (by omega), vsext_on (a := h) h1 hv r2 (by omega) p1]
      unfold Snd vmask; simp only; omega
    · rw [if_neg c]
      by_cases d : 2 ^ (v - 1) ≤ h
      · rw [if_pos d]; exact snd_top (bld_lt _ _)
      · rw [if_neg d, vsext_off (a := a) h1 hv r2 (by omega)]; exact ⟨hl, ha, le_mask (by omega)⟩
end
end Go.Proofs.YtcihbcffokjgjaaGreat.Fn
namespace Go.Proofs.YtcihbcffokjgjaaGreat.Fn
open Go Go.RowKit Go.Proofs.YtcihbcffokjgjaaGreat.Ev Go.Proofs.YtcihbcffokjgjaaGreat.Bv
set_option linter.unusedVariables false
set_option linter.unusedSimpArgs false
set_option maxRecDepth 100000
theorem vbin_two {op : Int} {v u a b : Nat} (h5 : 5 ≤ op) (h20 : op ≤ 20) (h19 : op ≠ 19) : vbinS op v u a b = twoV op v u a b := by
  have hs : op = 5 ∨ op = 6 ∨ op = 7 ∨ op = 8 ∨ op = 9 ∨ op = 10 ∨ op = 11 ∨ op = 12 ∨ op = 13 ∨ op = 14 ∨ op = 15 ∨ op = 16 ∨ op = 17 ∨ op = 18 ∨ op = 20 := by omega
  unfold vbinS twoV kval
  rcases hs with rfl | rfl | rfl | rfl | rfl | rfl | rfl | rfl | rfl | rfl | rfl | rfl | rfl | rfl | rfl
  all_goals simp only [Int.reduceEq, if_true, if_false]
theorem snd_cut {r : Nat} {s : Nat × Nat} {y : Nat} (h : Snd r s y) : Snd r s (vcut r y) := by
  have : vcut r y = y := Nat.mod_eq_of_lt (lt_of_le_mask (Nat.le_trans h.2.1 h.2.2))
  rw [this]; exact h
theorem rval_snd {op : Int} {r x n : Nat} {g : Nat → Int} (h1 : op ≠ 1) (hc : Cas op r x n g) (hg : ∀ i, i < n → 1 ≤ g i ∧ g i ≤ 64) (r1 : 1 ≤ r) (r2 : r ≤ 64) {q : Nat → Int × Int} {p : Nat → Nat × Nat} (hq : ∀ i, i < n → q i = cp (p i))
    (hp : ∀ i, i < n → rok (vmask (g i).toNat) (p i)) {y : Nat → Nat} (hy : ∀ i, i < n → inN (p i) (y i)) : ∃ s : Nat × Nat, valS op (r : Int) x n g q = cp s ∧ Snd r s (vcut r (vvalS op r x g y)) := by
  unfold valS vvalS
  rcases hc with ⟨hop, rfl⟩ | ⟨hop, rfl, hr⟩ | ⟨hop, rfl, hr, hr2⟩ | ⟨rfl, rfl, g0, g1, g2⟩ | ⟨rfl, rfl, hr⟩ | ⟨hop, rfl, g1, hr⟩ | ⟨hop, rfl, g1, hr⟩
  · obtain rfl : op = 2 := by omega
    rw [if_neg (by decide), if_pos rfl, if_pos rfl, W_of r1 r2]
    exact ⟨(vcut r x, vcut r x), rfl, Nat.le_refl _, Nat.le_refl _, le_mask_of (Nat.mod_lt _ (pw_pos _))⟩
  · have h0 := hg 0 (by omega)
    have y0 := hy 0 (by omega)
    rw [if_neg (by omega), if_neg (by omega), if_neg (by omega), if_pos rfl, if_neg (by omega), if_neg (by omega), if_pos (by omega), hq 0 (by omega)]
    have e : (g 0).toNat = r := by omega
    have hp0 := (hp 0 (by omega)).2
    rw [e] at hp0 ⊢
    refine ⟨_, rfl, snd_cut ?_⟩
    simp only [Int.toNat_natCast]
    exact snd_one op (by omega) r1 r1 r2 (fun _ => rfl) (by omega) (by omega) y0.1 y0.2 hp0
  · have h0 := hg 0 (by omega)
    have y0 := hy 0 (by omega)
    rw [if_neg (by omega), if_neg (by omega), if_neg (by omega), if_pos rfl, if_neg (by omega), if_neg (by omega), if_pos (by omega), hq 0 (by omega)]
    have hp0 := (hp 0 (by omega)).2
    refine ⟨_, rfl, snd_cut ?_⟩
    simp only [Int.toNat_natCast]
    exact snd_one op (by omega) (by omega) r1 r2 (by omega) (fun h => by have := hr h; omega) (fun h => by have := hr2 h; omega) y0.1 y0.2 hp0
  · have y0 := hy 0 (by omega)
    have y1 := hy 1 (by omega)
    have y2 := hy 2 (by omega)
    have p0 := hp 0 (by omega)
    have p1 := hp 1 (by omega)
    have p2 := hp 2 (by omega)
    rw [g0] at p0
    rw [g1, Int.toNat_natCast] at p1
    rw [g2, Int.toNat_natCast] at p2
    have p01 : (p 0).2 ≤ 1 := p0.2
    rw [if_neg (show ¬ (19 : Int) = 1 by decide), if_neg (show ¬ (19 : Int) = 2 by decide), if_pos (rfl : (19 : Int) = 19), if_neg (show ¬ (19 : Int) = 2 by decide), if_pos (rfl : (19 : Int) = 19), hq 0 (by omega), hq 1 (by omega), hq 2 (by omega)]
    obtain ⟨a1, a2⟩ := y0
    obtain ⟨b1, b2⟩ := y1
    obtain ⟨c1, c2⟩ := y2
    obtain ⟨d1, d2⟩ := p1
    obtain ⟨e1, e2⟩ := p2
    by_cases hh : ((p 0).1 : Int) = ((p 0).2 : Int)
    · rw [if_pos hh]
      by_cases h2 : ((p 0).1 : Int) = 1
      · rw [if_pos h2, if_pos (show y 0 = 1 by omega)]
        exact ⟨_, rfl, snd_cut ⟨b1, b2, d2⟩⟩
      · rw [if_neg h2, if_neg (show ¬ y 0 = 1 by omega)]
        exact ⟨_, rfl, snd_cut ⟨c1, c2, e2⟩⟩
    · rw [if_neg hh, jn_cp]
      refine ⟨_, rfl, snd_cut ?_⟩
      unfold jnN Snd
      simp only
      split <;> omega
  · have h0 := hg 0 (by omega)
    have h1' := hg 1 (by omega)
    have y0 := hy 0 (by omega)
    have y1 := hy 1 (by omega)
    have p0 := (hp 0 (by omega)).2
    have p1 := (hp 1 (by omega)).2
    rw [if_neg (by omega), if_neg (by omega), if_neg (by omega), if_neg (show ¬ (2 : Nat) = 1 by decide), if_neg (by omega), if_neg (by omega), if_neg (by omega), hq 0 (by omega), hq 1 (by omega)]
    refine ⟨_, rfl, snd_cut ?_⟩
    simp only [Int.toNat_natCast]
    rw [vbin_two (by omega) (by omega) (by omega)]
    have := snd_two 20 (v := (g 0).toNat) (u := (g 1).toNat) (by omega) (by omega) (by omega) (by omega) (fun e => absurd rfl e) (fun _ => by omega) y0.1 y0.2 p0 y1.1 y1.2 p1
    rw [if_pos rfl] at this
    rw [show r = (g 0).toNat + (g 1).toNat by omega]; exact this
  · have h0 := hg 0 (by omega)
    have h1' := hg 1 (by omega)
    have y0 := hy 0 (by omega)
    have y1 := hy 1 (by omega)
    have p0 := (hp 0 (by omega)).2
    have p1 := (hp 1 (by omega)).2
    rw [if_neg (by omega), if_neg (by omega), if_neg (by omega), if_neg (show ¬ (2 : Nat) = 1 by decide), if_neg (by omega), if_neg (by omega), if_neg (by omega), hq 0 (by omega), hq 1 (by omega)]
    refine ⟨_, rfl, snd_cut ?_⟩
    simp only [Int.toNat_natCast]
    rw [vbin_two (by omega) (by omega) (by omega)]
    have := snd_two op (v := (g 0).toNat) (u := (g 1).toNat) (by omega) (by omega) (by omega) (by omega) (fun _ => by omega) (fun e => by omega) y0.1 y0.2 p0 y1.1 y1.2 p1
    rw [if_neg (by omega), if_pos (by omega)] at this
    rw [show r = 1 by omega]; exact this
  · have h0 := hg 0 (by omega)
    have h1' := hg 1 (by omega)
    have y0 := hy 0 (by omega)
    have y1 := hy 1 (by omega)
    have p0 := (hp 0 (by omega)).2
    have p1 := (hp 1 (by omega)).2
    rw [if_neg (by omega), if_neg (by omega), if_neg (by omega), if_neg (show ¬ (2 : Nat) = 1 by decide), if_neg (by omega), if_neg (by omega), if_neg (by omega), hq 0 (by omega), hq 1 (by omega)]
    refine ⟨_, rfl, snd_cut ?_⟩
    simp only [Int.toNat_natCast]
    rw [vbin_two (by omega) (by omega) (by omega)]
    have := snd_two op (v := (g 0).toNat) (u := (g 1).toNat) (by omega) (by omega) (by omega) (by omega) (fun _ => by omega) (fun e => by omega) y0.1 y0.2 p0 y1.1 y1.2 p1
    rw [if_neg (by omega), if_neg (by omega)] at this
    rw [show r = (g 0).toNat by omega]; exact this
theorem ap_sound {op w : Int} (h1 : op ≠ 1) {x n r : Nat} (hx : x < U64) {g z o l h : Nat → Int} (hz : Nums z) (ho : Nums o) (hl : ∀ i, 0 ≤ l i) (hh : ∀ i, 0 ≤ h i) (hc : (chkS op w x n n g).2 = 0) (hr : (chkS op w x n n g).1 = (r : Int)) {y : Nat → Nat}
    (hy : ∀ i, i < n → y i < 2 ^ (g i).toNat) (hk : ∀ i, i < n → khas (elm g z o i) (y i)) (hi : ∀ i, i < n → inN (nrmN (MK (g i)) ((l i).toNat, (h i).toNat)) (y i))
    {q : Option ((Nat × Nat) × (Nat × Nat))} (hq : RedP (r : Int) (kvalN op w x n g z o) (nrmN (vmask r) (rvalN op w x n g l h)) q) : q.isSome = true ∧ hasN (redF (r : Int) q) (vvalS op r x g y) := by
  obtain ⟨_, hn, _, _, hg, r', hr', r1, r2, hcas⟩ := chk_cas hc
  obtain rfl : r' = r := by omega
  have eW : W (r' : Int) = r' := W_of r1 r2
  have eM : MK (r' : Int) = vmask r' := congrArg vmask eW
  have hgw : ∀ i, i < n → MK (g i) = vmask (g i).toNat := fun i hi => by
    have := W_of' (hg i hi).1 (hg i hi).2
    show vmask (W (g i)) = _
    rw [show W (g i) = (g i).toNat by omega]
  obtain ⟨s, e1, e2⟩ := rval_snd h1 hcas hg r1 r2 (q := fun i => nrm (MM (g i)) (l i, h i)) (p := fun i => nrmN (MK (g i)) ((l i).toNat, (h i).toNat)) (fun i _ => by
      have := nrm_cp (g i) ((l i).toNat, (h i).toNat)
      unfold cp at this
      simp only [Int.toNat_of_nonneg (hl i), Int.toNat_of_nonneg (hh i)] at this
      exact this) (fun i hi' => by rw [← hgw i hi']; exact nrmN_ok _ _) hi
  have ers : rvalN op w x n g l h = s := by
    unfold rvalN resS
    rw [if_neg (fun e => e hc), hr]
    simp only
    rw [e1]; rfl
  have hrs : rok (vmask r') s := ⟨Nat.le_trans e2.1 e2.2.1, e2.2.2⟩
  have hel : ∀ i, i < n → El (g i).toNat (elm g z o i) := fun i hi => by
    obtain ⟨v, _, hv, _, _, q, _⟩ := opd hz ho i (hg i hi).1 (hg i hi).2
    rw [hv]; exact q
  have l := val_sound h1 hcas hg hel hy hk r1 r2
  have hke := el_val hcas hg hel r1 r2
  have ek : kvalN op w x n g z o = kvalS op r' x g (elm g z o) := by unfold kvalN; rw [hr, Int.toNat_natCast]
  have hk2 : khas (kvalS op r' x g (elm g z o)) (vcut r' (vvalS op r' x g y)) := by
    rw [has_iff r2 hke (show vcut r' (vvalS op r' x g y) < 2 ^ r' from Nat.mod_lt _ (pw_pos _))]
    rw [kcst_mod (b := vvalS op r' x g y) (by unfold vcut; rw [Nat.mod_mod])]
    exact l
  rw [ers, nrmN_of hrs, ek] at hq
  have hx' : vcut r' (vvalS op r' x g y) ≤ MK (r' : Int) := by rw [eM]; exact le_mask_of (Nat.mod_lt _ (pw_pos _))
  have hin : inN (nrmN (MK (r' : Int)) s) (vcut r' (vvalS op r' x g y)) := by rw [eM, nrmN_of hrs]; exact ⟨e2.1, e2.2.1⟩
  cases q with
  | none => exact (hq _ hx' hk2 hin).elim
  | some q =>
    have := hq.2 _ hx' hk2 hin
    refine ⟨rfl, ?_, ?_⟩
    · show khas q.1 (vcut (W (r' : Int)) _); rw [eW]; exact this.1
    · show inN q.2 (vcut (W (r' : Int)) _); rw [eW]; exact this.2
end Go.Proofs.YtcihbcffokjgjaaGreat.Fn
namespace Go.Proofs.YtcihbcffokjgjaaGreat.Fn
open Go Go.RowKit Go.Proofs.YtcihbcffokjgjaaGreat.Ev Go.Proofs.YtcihbcffokjgjaaGreat.Bv
set_option linter.unusedVariables false
set_option linter.unusedSimpArgs false
set_option maxRecDepth 100000
theorem cutv_pow {g y : Nat → Int} {i : Nat} (h1 : 1 ≤ g i) (h2 : g i ≤ 64) : cutv g y i < 2 ^ (g i).toNat := by
  obtain ⟨v, hv, v1, v2⟩ := nat_of h1 h2
  unfold cutv vcut
  rw [hv, W_of v1 v2, Int.toNat_natCast]; exact Nat.mod_lt _ (pw_pos _)
theorem ite_lt' {p : Prop} [Decidable p] {a b c : Nat} (ha : a < c) (hb : b < c) : (if p then a else b) < c := by split <;> assumption
theorem vuna_lt {op : Int} {r x v y : Nat} (hv : v ≤ 64) (hr : r ≤ 64) (hy : y < U64) : vunaS op r x v y < U64 :=
  ite_lt' (vnot_lt _ hv) (ite_lt' (vneg_lt _ hv) (ite_lt' (vextract_lt _ _ hr) (ite_lt' (vsext_lt _ _ hr) hy)))
theorem vbin_lt {op : Int} {v u a b : Nat} (hv : v ≤ 64) (hu : u ≤ 64) : vbinS op v u a b < U64 :=
  ite_lt' (vand_lt _ _ hv) (ite_lt' (vor_lt _ _ hv) (ite_lt' (vxor_lt _ _ hv) (ite_lt' (vadd_lt _ _ hv) (ite_lt' (vsub_lt _ _ hv) (ite_lt' (vconcat_lt _ _ hu) (ite_lt' (ite_lt' (by decide) (by decide)) (ite_lt' (vshl_lt _ _ hv) (ite_lt' (vlshr_lt _ _ hv) (ite_lt' (vashr_lt _ _ hv) (kval_lt hv _ _))))))))))
theorem vval_lt {op : Int} {r x n : Nat} {g : Nat → Int} {y : Nat → Nat} (h1 : op ≠ 1) (hx : x < U64) (hc : Cas op r x n g) (hg : ∀ i, i < n → 1 ≤ g i ∧ g i ≤ 64) (hy : ∀ i, i < n → y i < U64) (r2 : r ≤ 64) : vvalS op r x g y < U64 := by
  unfold vvalS
  rcases hc with ⟨hop, rfl⟩ | ⟨hop, rfl, hr⟩ | ⟨hop, rfl, hr, hr2⟩ | ⟨rfl, rfl, g0, g1, g2⟩ | ⟨rfl, rfl, hr⟩ | ⟨hop, rfl, g1, hr⟩ | ⟨hop, rfl, g1, hr⟩
  · rw [if_pos (by omega)]; exact hx
  · rw [if_neg (by omega), if_neg (by omega), if_pos (by omega)]
    have := hg 0 (by omega)
    exact vuna_lt (by omega) r2 (hy 0 (by omega))
  · rw [if_neg (by omega), if_neg (by omega), if_pos (by omega)]
    have := hg 0 (by omega)
    exact vuna_lt (by omega) r2 (hy 0 (by omega))
  · rw [if_neg (by decide), if_pos rfl]
    exact ite_lt' (hy 1 (by omega)) (hy 2 (by omega))
  all_goals
    rw [if_neg (by omega), if_neg (by omega), if_neg (by omega)]
    have := hg 0 (by omega)
    have := hg 1 (by omega)
    exact vbin_lt (by omega) (by omega)
end Go.Proofs.YtcihbcffokjgjaaGreat.Fn
