/- On single values every operator is exact; so, being monotone, it is sound. -/
import Derived.Test.YtbfniopkadaheaaKi
namespace Go.Proofs.Ytbfniopkadaheaa.Fn
open Go Go.RowKit Go.Proofs.Ytbfniopkadaheaa.Ev Go.Proofs.Ytbfniopkadaheaa.Bv
set_option linter.unusedVariables false
set_option linter.unusedSimpArgs false
set_option maxRecDepth 100000

theorem kcst_mod {w a b : Nat} (h : a % 2 ^ w = b % 2 ^ w) : kcst w a = kcst w b := by unfold kcst vcut; rw [h]
theorem kcst_ext {w : Nat} {k : Nat × Nat} {x : Nat} (h : ∀ i, k.1.testBit i = (decide (i < w) && !x.testBit i) ∧ k.2.testBit i = (decide (i < w) && x.testBit i)) : k = kcst w x :=
  Prod.ext (bits_ext fun i => by rw [(h i).1, kcst_bit1]) (bits_ext fun i => by rw [(h i).2, kcst_bit2])
theorem kone_cst {w : Nat} (w1 : 1 ≤ w) (hw : w ≤ 64) (x : Nat) : kone w (kcst w x) := by
  have h := el_cst w1 hw x
  show kunk _ _ = 0
  refine bits_ext fun i => ?_
  rw [kunk_bit h.l1 h.l2 hw, kcst_bit1, kcst_bit2, Nat.zero_testBit]
  cases decide (i < w) <;> cases x.testBit i <;> rfl
theorem kcst_snd {w x : Nat} (h : x < 2 ^ w) : (kcst w x).2 = x := Nat.mod_eq_of_lt h
theorem kcst_swap (w x : Nat) : ((kcst w x).2, (kcst w x).1) = kcst w (vnot w x) := kcst_ext fun i => by
  rw [testBit_vnot]
  simp only
  rw [kcst_bit1, kcst_bit2]
  cases decide (i < w) <;> cases x.testBit i <;> decide
theorem sum_cst {w c : Nat} (hc : c ≤ 1) (hw : w ≤ 64) (a b : Nat) : ksum w c (kcst w a) (kcst w b) = kcst w (a + b + c) := kcst_ext fun i => by
  have lo : ∀ (x j : Nat), j < w → (kcst w x).2.testBit j = x.testBit j := fun x j hj => by rw [kcst_bit2, decide_eq_true hj]; rfl
  have hi : ∀ (x j : Nat), j < w → (vnot 64 (kcst w x).1).testBit j = x.testBit j := fun x j hj => by rw [vnot64_bit (by omega), kcst_bit1, decide_eq_true hj]; simp
  unfold ksum
  simp only
  rw [testBit_bld, testBit_bld]
  by_cases h : i < w
  · have e1 : car c (kcst w a).2 (kcst w b).2 i = car c a b i := car_congr hc i (fun j hj => lo a j (by omega)) (fun j hj => lo b j (by omega))
    have e2 : car c (vnot 64 (kcst w a).1) (vnot 64 (kcst w b).1) i = car c a b i := car_congr hc i (fun j hj => hi a j (by omega)) (fun j hj => hi b j (by omega))
    unfold sumZ sumO opn sbit
    rw [lo a i h, lo b i h, hi a i h, hi b i h, e1, e2, add_bit hc, decide_eq_true h]
    simp
  · rw [decide_eq_false h]; simp
def vunaS (op : Int) (r x v y : Nat) : Nat := if op = 3 then vnot v y else if op = 4 then vneg v y else if op = 21 then vextract x r y else if op = 23 then vsext v r y else y
theorem una_cst {op : Int} {r x v y : Nat} (ho : op = 3 ∨ op = 4 ∨ op = 21 ∨ op = 22 ∨ op = 23) (v1 : 1 ≤ v) (v2 : v ≤ 64) (hr : op = 3 ∨ op = 4 → r = v) (hx : op = 21 → x + r ≤ v) (hy : y < 2 ^ v) : kunaS op r x v (kcst v y) = kcst r (vunaS op r x v y) := by
  have hp := pw_pos v
  unfold kunaS vunaS
  rcases ho with rfl | rfl | rfl | rfl | rfl
  · obtain rfl := hr (.inl rfl)
    rw [if_pos rfl, if_pos rfl]; exact kcst_swap _ _
  · obtain rfl := hr (.inr rfl)
    rw [if_neg (by decide), if_pos rfl, if_neg (by decide), if_pos rfl, kcst_swap, sum_cst (by decide) v2]
    apply kcst_mod
    unfold vneg vnot
    rw [Nat.mod_mod]; congr 1
    have := Nat.mod_lt y hp; omega
  · have := hx rfl
    rw [if_neg (by decide), if_neg (by decide), if_neg (by decide), if_neg (by decide), if_pos rfl]
    refine kcst_ext fun i => ?_
    simp only
    rw [testBit_bld, testBit_bld]
    unfold uF uG vextract
    rw [if_pos rfl, if_pos rfl, kcst_bit1, kcst_bit2, Nat.testBit_mod_two_pow, Nat.testBit_shiftRight, Nat.add_comm x i]
    by_cases h : i < r
    · rw [decide_eq_true h, decide_eq_true (show i + x < v by omega)]; simp
    · rw [decide_eq_false h]; simp
  · rw [if_neg (by decide), if_neg (by decide), if_neg (by decide), if_neg (by decide), if_neg (by decide), if_neg (by decide)]
    refine kcst_ext fun i => ?_
    simp only
    rw [testBit_bld, testBit_bld]
    unfold uF uG
    simp only [Int.reduceEq, if_false]
    by_cases h : i < v
    · rw [if_pos h, if_pos h, kcst_bit1, kcst_bit2, decide_eq_true h]; simp
    · rw [if_neg h, if_neg h, testBit_ge hy (by omega)]; simp
  · rw [if_neg (by decide), if_neg (by decide), if_neg (by decide), if_neg (by decide), if_neg (by decide), if_pos rfl]
    refine kcst_ext fun i => ?_
    simp only
    rw [testBit_bld, testBit_bld]
    unfold uF uG vsext
    simp only [Int.reduceEq, if_false, if_true]
    rw [testBit_bld]
    by_cases h : i < v
    · rw [if_pos h, if_pos h, kcst_bit1, kcst_bit2, decide_eq_true h, show min i (v - 1) = i by omega]; cases decide (i < r) <;> simp
    · rw [if_neg h, if_neg h, kcst_bit1, kcst_bit2, decide_eq_true (show v - 1 < v by omega), show min i (v - 1) = v - 1 by omega]; cases decide (i < r) <;> simp
def vbinS (op : Int) (v u a b : Nat) : Nat :=
  if op = 5 then vand v a b else if op = 6 then vor v a b else if op = 7 then vxor v a b else if op = 8 then vadd v a b else if op = 9 then vsub v a b else if op = 20 then vconcat v u a b else if op = 16 then veq v a b
  else if op = 13 then vshl v a b else if op = 14 then vlshr v a b else if op = 15 then vashr v a b else kval op v a b
theorem mov_cst {w : Nat} (hw : w ≤ 64) (x : Nat) (by_ : Int) (fo : Bool) : kmovS w (kcst w x) by_ (!fo) fo = kcst w (bld (shf w x by_ fo) w) := kcst_ext fun i => by
  unfold kmovS
  simp only
  rw [testBit_bld, testBit_bld, testBit_bld]
  by_cases h : i < w
  · rw [decide_eq_true h]
    have e : mG w (kcst w x) by_ fo i = shf w x by_ fo i ∧ mF w (kcst w x) by_ (!fo) i = !shf w x by_ fo i := by
      unfold mG mF shf
      by_cases q : (i : Int) + by_ < (w : Int)
      · rw [if_pos q, if_pos q, if_pos q]
        by_cases q2 : 0 ≤ (i : Int) + by_
        · rw [if_pos q2, if_pos q2, if_pos q2, kcst_bit2, vnot64_bit (by omega), kcst_bit1, decide_eq_true (show ((i : Int) + by_).toNat < w by omega)]; simp
        · rw [if_neg q2, if_neg q2, if_neg q2]; simp
      · rw [if_neg q, if_neg q, if_neg q]; simp
    rw [e.1, e.2]; simp
  · rw [decide_eq_false h]; simp
theorem eq_cst {w : Nat} (w1 : 1 ≤ w) (hw : w ≤ 64) {a b : Nat} (ha : a < 2 ^ w) (hb : b < 2 ^ w) : keqS w (kcst w a) (kcst w b) = kcst 1 (veq w a b) := by
  unfold keqS veq
  rw [Nat.mod_eq_of_lt ha, Nat.mod_eq_of_lt hb]
  by_cases e : a = b
  · subst e
    have hd := (el_cst w1 hw a).and
    have hd' : (kcst w a).2 &&& (kcst w a).1 = 0 := by rw [Nat.and_comm]; exact hd
    rw [if_neg (fun h => h.elim (fun h => h hd) (fun h => h hd')), if_pos ⟨kone_cst w1 hw a, kone_cst w1 hw a, rfl⟩, if_pos rfl]
  · have : (kcst w a).1 &&& (kcst w b).2 ≠ 0 ∨ (kcst w a).2 &&& (kcst w b).1 ≠ 0 := by
      apply Decidable.byContradiction
      intro h
      have h1 : (kcst w a).1 &&& (kcst w b).2 = 0 := Decidable.byContradiction fun q => h (.inl q)
      have h2 : (kcst w a).2 &&& (kcst w b).1 = 0 := Decidable.byContradiction fun q => h (.inr q)
      refine e (bits_ext fun i => ?_)
      have q1 := bit_of h1 i
      have q2 := bit_of h2 i
      rw [Nat.testBit_and, kcst_bit1, kcst_bit2, Nat.zero_testBit] at q1
      rw [Nat.testBit_and, kcst_bit1, kcst_bit2, Nat.zero_testBit] at q2
      by_cases hi : i < w
      · rw [decide_eq_true hi] at q1 q2
        revert q1 q2; cases a.testBit i <;> cases b.testBit i <;> decide
      · rw [testBit_ge ha (by omega), testBit_ge hb (by omega)]
    rw [if_pos this, if_neg e]
theorem con_cst {v u : Nat} (v1 : 1 ≤ v) (u1 : 1 ≤ u) (huv : v + u ≤ 64) (a b : Nat) : kconS v u (kcst v a) (kcst u b) = kcst (v + u) (vconcat v u a b) := by
  have ha := el_cst v1 (show v ≤ 64 by omega) a
  have hb := el_cst u1 (show u ≤ 64 by omega) b
  unfold kconS
  rw [concat_bld huv _ _ (lt_of_le_mask (ha.m1 (by omega))) (lt_of_le_mask (hb.m1 (by omega))), concat_bld huv _ _ (lt_of_le_mask (ha.m2 (by omega))) (lt_of_le_mask (hb.m2 (by omega)))]
  refine kcst_ext fun i => ?_
  simp only
  rw [testBit_bld, testBit_bld, testBit_vconcat]
  unfold cF
  by_cases h : i < v + u
  · rw [decide_eq_true h, decide_eq_true (show i < 64 by omega)]
    by_cases h2 : u ≤ i
    · rw [if_pos h2, if_pos h2, kcst_bit1, kcst_bit2, decide_eq_true h2, decide_eq_true (show i - u < v by omega), decide_eq_false (show ¬ i < u by omega)]; simp
    · rw [if_neg h2, if_neg h2, kcst_bit1, kcst_bit2, decide_eq_false h2, decide_eq_true (show i < u by omega)]; simp
  · rw [decide_eq_false h]; simp
theorem bin_cst {op : Int} {r v u a b : Nat} (h5 : 5 ≤ op) (h20 : op ≤ 20) (h19 : op ≠ 19) (v1 : 1 ≤ v) (v2 : v ≤ 64) (u1 : 1 ≤ u) (huv : op = 20 → v + u ≤ 64 ∧ r = v + u) (hu : op ≠ 20 → u = v) (hr : 5 ≤ op ∧ op ≤ 15 → r = v) (hr1 : op = 16 → r = 1) (ha : a < 2 ^ v) (hb : b < 2 ^ u) :
    kbinS op r v u (kcst v a) (kcst u b) = kcst r (vbinS op v u a b) := by
  have hp := pw_pos v
  by_cases h : op = 20
  · subst h
    obtain ⟨h1, rfl⟩ := huv rfl
    exact con_cst v1 u1 h1 a b
  · obtain rfl := hu h
    have k1 := kone_cst v1 v2 a
    have k2 := kone_cst v1 v2 b
    have s1 := kcst_snd ha
    have s2 := kcst_snd hb
    have s3 : b % 2 ^ u = b := Nat.mod_eq_of_lt hb
    have hs : op = 5 ∨ op = 6 ∨ op = 7 ∨ op = 8 ∨ op = 9 ∨ op = 13 ∨ op = 14 ∨ op = 15 ∨ op = 16 ∨ op = 10 ∨ (op = 11 ∨ op = 12 ∨ op = 17 ∨ op = 18) := by omega
    unfold kbinS vbinS
    rcases hs with rfl | rfl | rfl | rfl | rfl | rfl | rfl | rfl | rfl | rfl | ho
    · obtain rfl := hr (by decide)
      simp only [Int.reduceEq, if_true, if_false, or_self, or_true, true_or, or_false, false_or]
      refine kcst_ext fun i => ?_
      simp only [Nat.testBit_or, Nat.testBit_and, kcst_bit1, kcst_bit2, vand, Nat.testBit_mod_two_pow]
      cases decide (i < r) <;> cases a.testBit i <;> cases b.testBit i <;> decide
    · obtain rfl := hr (by decide)
      simp only [Int.reduceEq, if_true, if_false, or_self, or_true, true_or, or_false, false_or]
      refine kcst_ext fun i => ?_
      simp only [Nat.testBit_or, Nat.testBit_and, kcst_bit1, kcst_bit2, vor, Nat.testBit_mod_two_pow]
      cases decide (i < r) <;> cases a.testBit i <;> cases b.testBit i <;> decide
    · obtain rfl := hr (by decide)
      simp only [Int.reduceEq, if_true, if_false, or_self, or_true, true_or, or_false, false_or]
      refine kcst_ext fun i => ?_
      simp only [Nat.testBit_or, Nat.testBit_and, Nat.testBit_xor, kcst_bit1, kcst_bit2, vxor, Nat.testBit_mod_two_pow]
      cases decide (i < r) <;> cases a.testBit i <;> cases b.testBit i <;> decide
    · obtain rfl := hr (by decide)
      simp only [Int.reduceEq, if_true, if_false, or_self, or_true, true_or, or_false, false_or]
      rw [sum_cst (by decide) v2]; apply kcst_mod; unfold vadd; rw [Nat.mod_mod]; rfl
    · obtain rfl := hr (by decide)
      simp only [Int.reduceEq, if_true, if_false, or_self, or_true, true_or, or_false, false_or]
      rw [kcst_swap, sum_cst (by decide) v2]; apply kcst_mod; unfold vsub vnot; rw [Nat.mod_mod, s3]; congr 1; omega
    · obtain rfl := hr (by decide)
      simp only [Int.reduceEq, if_true, if_false, or_self, or_true, true_or, or_false, false_or]
      rw [if_pos k2, s2]; unfold kshS; rw [if_pos rfl, ← shf_shl v2, s3]; exact mov_cst v2 a _ false
    · obtain rfl := hr (by decide)
      simp only [Int.reduceEq, if_true, if_false, or_self, or_true, true_or, or_false, false_or]
      rw [if_pos k2, s2]; unfold kshS; rw [if_neg (by decide), if_pos rfl, ← shf_lshr v2, s3]; exact mov_cst v2 a _ false
    · obtain rfl := hr (by decide)
      simp only [Int.reduceEq, if_true, if_false, or_self, or_true, true_or, or_false, false_or]
      rw [if_pos k2, s2]; unfold kshS; rw [if_neg (by decide), if_neg (by decide), ← shf_ashr v2, s3, kcst_bit1, kcst_bit2, decide_eq_true (show r - 1 < r by omega)]
      exact mov_cst v2 a _ (a.testBit (r - 1))
    · obtain rfl := hr1 rfl
      simp only [Int.reduceEq, if_true, if_false, or_self, or_true, true_or, or_false, false_or]
      exact eq_cst v1 v2 ha hb
    · obtain rfl := hr (by decide)
      simp only [Int.reduceEq, if_true, if_false, or_self, or_true, true_or, or_false, false_or]
      unfold ktimS; rw [if_pos ⟨k1, k2⟩, s1, s2]; rfl
    · rw [if_neg (by omega), if_neg (by omega), if_neg (by omega), if_neg (by omega), if_neg (by omega), if_neg (by omega), if_neg (by omega), if_neg (by omega), if_neg (by omega)]
      rw [if_neg (by omega), if_neg (by omega), if_neg (by omega), if_neg (by omega), if_neg (by omega), if_neg (by omega), if_neg (by omega), if_neg (by omega), if_neg (by omega), if_neg (by omega)]
      unfold kexS; rw [if_pos ⟨k1, k2⟩, s1, s2]
/-- The operator's value. -/
def vvalS (op : Int) (r x : Nat) (g : Nat → Int) (y : Nat → Nat) : Nat :=
  if op = 2 then x else if op = 19 then (if y 0 = 1 then y 1 else y 2) else if op = 3 ∨ op = 4 ∨ op = 21 ∨ op = 22 ∨ op = 23 then vunaS op r x (g 0).toNat (y 0) else vbinS op (g 0).toNat (g 1).toNat (y 0) (y 1)
theorem val_cst {op : Int} {r x n : Nat} {g : Nat → Int} {y : Nat → Nat} (h1 : op ≠ 1) (hc : Cas op r x n g) (hg : ∀ i, i < n → 1 ≤ g i ∧ g i ≤ 64) (hy : ∀ i, i < n → y i < 2 ^ (g i).toNat) (r1 : 1 ≤ r) (r2 : r ≤ 64) :
    kvalS op r x g (fun i => kcst (g i).toNat (y i)) = kcst r (vvalS op r x g y) := by
  unfold kvalS vvalS
  rcases hc with ⟨hop, rfl⟩ | ⟨hop, rfl, hr⟩ | ⟨hop, rfl, hr, hr2⟩ | ⟨rfl, rfl, g0, g1, g2⟩ | ⟨rfl, rfl, hr⟩ | ⟨hop, rfl, g1, hr⟩ | ⟨hop, rfl, g1, hr⟩
  · obtain rfl : op = 2 := by omega
    rw [if_neg (by decide), if_pos rfl, if_pos rfl]
  · have := hg 0 (by omega)
    rw [if_neg (by omega), if_neg (by omega), if_neg (by omega), if_pos (by omega), if_neg (by omega), if_neg (by omega), if_pos (by omega)]
    exact una_cst (by omega) (by omega) (by omega) (fun _ => by omega) (by omega) (hy 0 (by omega))
  · have := hg 0 (by omega)
    rw [if_neg (by omega), if_neg (by omega), if_neg (by omega), if_pos (by omega), if_neg (by omega), if_neg (by omega), if_pos (by omega)]
    exact una_cst (by omega) (by omega) (by omega) (by omega) (fun h => by have := hr h; omega) (hy 0 (by omega))
  · rw [if_neg (by decide), if_neg (by decide), if_pos rfl, if_neg (by decide), if_pos rfl]
    have h0 := hy 0 (by omega)
    rw [show (g 0).toNat = 1 by omega] at h0
    have e0 : (kcst 1 (y 0)).2 = y 0 := kcst_snd h0
    unfold kiteS
    simp only
    rw [show (g 0).toNat = 1 by omega, show (g 1).toNat = r by omega, show (g 2).toNat = r by omega]
    rw [if_pos (kone_cst (by decide) (by decide) _), e0]
    split <;> rfl
  all_goals
    have := hg 0 (by omega)
    have := hg 1 (by omega)
    rw [if_neg (by omega), if_neg (by omega), if_neg (by omega), if_neg (by omega), if_neg (by omega), if_neg (by omega), if_neg (by omega)]
    exact bin_cst (by omega) (by omega) (by omega) (by omega) (by omega) (by omega) (fun h => by omega) (fun h => by omega) (fun h => by omega) (fun h => by omega) (hy 0 (by omega)) (hy 1 (by omega))
theorem has_iff {w : Nat} (hw : w ≤ 64) {k : Nat × Nat} (hk : El w k) {y : Nat} (hy : y < 2 ^ w) : khas k y ↔ Le (kcst w y) k := by
  unfold khas Le
  constructor
  · intro h i
    have q1 := bit_of h.1 i
    have q2 := bit_of h.2 i
    rw [Nat.testBit_and] at q1 q2
    rw [Nat.zero_testBit] at q1
    rw [kcst_bit1, kcst_bit2]
    by_cases hi : i < w
    · rw [decide_eq_true hi]
      revert q1 q2; cases k.1.testBit i <;> cases k.2.testBit i <;> cases y.testBit i <;> decide
    · rw [hk.b1 hw (by omega), hk.b2 hw (by omega)]; simp
  · intro h
    refine ⟨bits_ext fun i => ?_, bits_ext fun i => ?_⟩ <;>
    · have q := h i
      rw [kcst_bit1, kcst_bit2] at q
      rw [Nat.testBit_and]
      first
      | rw [Nat.zero_testBit]
      | skip
      by_cases hi : i < w
      · rw [decide_eq_true hi] at q
        revert q; cases k.1.testBit i <;> cases k.2.testBit i <;> cases y.testBit i <;> decide
      · first | rw [hk.b1 hw (by omega)] | rw [hk.b2 hw (by omega)]
        simp
/-- Sound: the result contains the operator's value. -/
theorem val_sound {op : Int} {r x n : Nat} {g : Nat → Int} {e : Nat → Nat × Nat} {y : Nat → Nat} (h1 : op ≠ 1) (hc : Cas op r x n g) (hg : ∀ i, i < n → 1 ≤ g i ∧ g i ≤ 64) (he : ∀ i, i < n → El (g i).toNat (e i)) (hy : ∀ i, i < n → y i < 2 ^ (g i).toNat) (hh : ∀ i, i < n → khas (e i) (y i)) (r1 : 1 ≤ r) (r2 : r ≤ 64) :
    Le (kcst r (vvalS op r x g y)) (kvalS op r x g e) := by
  rw [← val_cst h1 hc hg hy r1 r2]
  refine le_val hc hg (fun i hi => el_cst (by have := hg i hi; omega) (by have := hg i hi; omega) _) he (fun i hi => ?_) r2
  exact (has_iff (by have := hg i hi; omega) (he i hi) (hy i hi)).1 (hh i hi)
end Go.Proofs.Ytbfniopkadaheaa.Fn
