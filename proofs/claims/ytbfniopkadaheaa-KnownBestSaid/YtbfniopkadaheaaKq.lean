/- The law's loops over all values of the operands. -/
import Derived.Test.YtbfniopkadaheaaF1
import Derived.Test.YtbfniopkadaheaaF3
import Derived.Test.YtbfniopkadaheaaF4
import Derived.Test.YtbfniopkadaheaaKp
namespace Go.Proofs.Ytbfniopkadaheaa.Fn
open Go Go.RowKit Go.Proofs.Ytbfniopkadaheaa.Ev Go.Proofs.Ytbfniopkadaheaa.Bv
set_option linter.unusedVariables false
set_option linter.unusedSimpArgs false
set_option maxRecDepth 100000

/-- Where the operand's bits begin in the number. -/
def Sof (g : Nat → Int) : Nat → Nat
  | 0 => 0
  | i + 1 => Sof g i + (g i).toNat
/-- The operand's value in the number t. -/
def dig (g : Nat → Int) (t i : Nat) : Nat := vcut (W (g i)) (t >>> Sof g i)
def allin (g z o : Nat → Int) (t : Nat) : Nat → Bool
  | 0 => true
  | i + 1 => allin g z o t i && decide (khas (elm g z o i) (dig g t i))
theorem allin_iff {g z o : Nat → Int} {t n : Nat} : allin g z o t n = true ↔ ∀ j, j < n → khas (elm g z o j) (dig g t j) := by
  induction n with
  | zero => simp [allin]
  | succ n ih =>
    unfold allin
    rw [Bool.and_eq_true, ih, decide_eq_true_iff]
    constructor
    · rintro ⟨h1, h2⟩ j hj
      rcases Nat.lt_or_ge j n with h | h
      · exact h1 j h
      · obtain rfl : j = n := by omega
        exact h2
    · intro h
      exact ⟨fun j hj => h j (by omega), h n (by omega)⟩
theorem dig_lt (g : Nat → Int) (t i : Nat) : dig g t i < U64 := vcut_lt _ (W_le _)
theorem dig_cut (g : Nat → Int) (t i : Nat) : vcut (W (g i)) (dig g t i) = dig g t i := by unfold dig vcut; rw [Nat.mod_mod]
theorem best_j23 (fu n17 : Nat) (r bits err x : Int) (some_ : Bool) {t : Nat} (ht : t < U64) (op w k1 k2 w1 w2 : Int) {n : Nat} (hn : n ≤ 3) {g z o : Nat → Int} (hg : ∀ i, i < n → 1 ≤ g i ∧ g i ≤ 64) (hz : Nums z) (ho : Nums o) (d : Nat) : ∀ (k i : Nat) (f : Nat → Int), n - i = d → i ≤ n → d < k → Nums f → (∀ j, j < i → f j = (dig g t j : Int)) →
    ∃ Y, Nums Y ∧ (∀ j, j < n → Y j = (dig g t j : Int)) ∧ ∃ k', saturatelaw12_KnownBest.j23 (fu + 1) n17 k r bits err some_ t i ((t >>> Sof g i : Nat) : Int) (allin g z o t i) i op w x n n k1 k2 w1 w2 i f n g n z o =
      saturatelaw12_KnownBest.j23 (fu + 1) n17 (k' + 1) r bits err some_ t n ((t >>> Sof g n : Nat) : Int) (allin g z o t n) n op w x n n k1 k2 w1 w2 n Y n g n z o := by
  induction d with
  | zero =>
    intro k i f hd hi hk hf hj
    obtain ⟨k, rfl⟩ : ∃ m, k = m + 1 := ⟨k - 1, by omega⟩
    obtain rfl : i = n := by omega
    exact ⟨f, hf, hj, k, rfl⟩
  | succ d ih =>
    intro k i f hd hi hk hf hj
    obtain ⟨k, rfl⟩ : ∃ m, k = m + 1 := ⟨k - 1, by omega⟩
    obtain ⟨Y, nY, hY, k', he⟩ := ih k (i + 1) (cat i f (fun s => [(dig g t i : Int)].getD s 0)) (by omega) (by omega) (by omega) (nums_cat hf (nums_one (dig_lt g t i))) (fun j hj' => by
      rcases Nat.lt_or_ge j i with h | h
      · rw [cat_lt h]; exact hj j h
      · obtain rfl : j = i := by omega
        rw [cat_at]; rfl)
    refine ⟨Y, nY, hY, k', ?_⟩
    obtain ⟨v, hv, v1, v2⟩ := nat_of (hg i (by omega)).1 (hg i (by omega)).2
    have hs : t >>> Sof g i < U64 := Nat.lt_of_le_of_lt (shr_le _ _) ht
    have hcut : saturateref01_Cut.f (g i) ((t >>> Sof g i : Nat) : Int) = some (dig g t i : Int) := saturateref01_Cut_eq (g i) hs
    have hsh : shr .u64 ((t >>> Sof g i : Nat) : Int) (IntKind.u64.wrap (g i)) = ((t >>> Sof g (i + 1) : Nat) : Int) := by
      rw [hv, wrapu_of (by omega), shr64 hs]
      show (((t >>> Sof g i) >>> v : Nat) : Int) = ((t >>> (Sof g i + (g i).toNat) : Nat) : Int)
      rw [hv, Int.toNat_natCast, Nat.shiftRight_add]
    have hhas : saturateref12_Has.f (g i) (z i, o i) (dig g t i : Int) = some (decide (khas (elm g z o i) (dig g t i))) := by
      obtain ⟨a, ha, la⟩ := hz i
      obtain ⟨b, hb, lb⟩ := ho i
      have := saturateref12_Has_eq (g i) la lb (dig_lt g t i)
      rw [dig_cut] at this
      unfold elm
      rw [ha, hb]; exact this
    have hw0 : ¬ (IntKind.u64.wrap (g i) < 0) := by rw [hv, wrapu_of (by omega)]; omega
    have e2 : IntKind.i64.wrap ((i : Int) + 1) = ((i + 1 : Nat) : Int) := by rw [wrapi, wrapi_succ (by omega)]
    rw [saturatelaw12_KnownBest.j23_succ, bifd_pos (by omega), bifd_pos (by omega), bifd_pos (by omega), Int.toNat_natCast, hcut, Option.bind_some, bifd_pos (by omega), bifd_pos (by omega), bifd_neg hw0, hsh, hhas]
    have hb8 : Nat.ble ((i + 1) * 8) 140737488355328 = true := by rw [Nat.ble_eq]; omega
    cases ha : allin g z o t i with
    | true =>
      have e3 : allin g z o t (i + 1) = decide (khas (elm g z o i) (dig g t i)) := by show (allin g z o t i && _) = _; rw [ha]; rfl
      rw [cond_true, bifd_pos (by omega), bifd_pos (by omega), bifd_pos (by omega), bifd_pos (by omega), Option.bind_some, hb8, cond_true, saturatelaw12_KnownBest.p24_eq, e2, ← e3]
      exact he
    | false =>
      have e3 : allin g z o t (i + 1) = false := by show (allin g z o t i && _) = _; rw [ha]; rfl
      rw [cond_false, hb8, cond_true, saturatelaw12_KnownBest.p24_eq, e2]
      rw [e3] at he
      exact he
/-- What the outer loop has found below t: whether any value, and the join. -/
def acc (inn : Nat → Bool) (v : Nat → Nat) (r : Nat) : Nat → Bool × (Nat × Nat)
  | 0 => (false, (0, 0))
  | t + 1 => if inn t then (true, if (acc inn v r t).1 then ((acc inn v r t).2.1 &&& (kcst r (v t)).1, (acc inn v r t).2.2 &&& (kcst r (v t)).2) else kcst r (v t)) else acc inn v r t
theorem acc_succ (inn : Nat → Bool) (v : Nat → Nat) (r t : Nat) : acc inn v r (t + 1) = if inn t then (true, if (acc inn v r t).1 then ((acc inn v r t).2.1 &&& (kcst r (v t)).1, (acc inn v r t).2.2 &&& (kcst r (v t)).2) else kcst r (v t)) else acc inn v r t := rfl
theorem acc_el {inn : Nat → Bool} {v : Nat → Nat} {r : Nat} (r1 : 1 ≤ r) (r2 : r ≤ 64) (t : Nat) : El r (acc inn v r t).2 := by
  induction t with
  | zero => exact el_top r2
  | succ t ih =>
    unfold acc
    split
    · simp only
      split
      · exact El.mk' r2 (and_le_mask (ih.m1 r2)) (and_le_mask (ih.m2 r2)) fun i => by
          have h1 := ih.dis i
          simp only [Nat.testBit_and]
          revert h1; cases (acc inn v r t).2.1.testBit i <;> cases (acc inn v r t).2.2.testBit i <;> cases (kcst r (v t)).1.testBit i <;> cases (kcst r (v t)).2.testBit i <;> decide
      · exact el_cst r1 r2 _
    · exact ih
theorem acc_any {inn : Nat → Bool} {v : Nat → Nat} {r t t' : Nat} (h : t' < t) (hi : inn t' = true) : (acc inn v r t).1 = true := by
  induction t with
  | zero => omega
  | succ t ih =>
    unfold acc
    split
    · rfl
    · rename_i hn
      rcases Nat.lt_or_ge t' t with h1 | h1
      · exact ih h1
      · obtain rfl : t' = t := by omega
        exact absurd hi hn
theorem acc_none {inn : Nat → Bool} {v : Nat → Nat} {r t : Nat} (h : (acc inn v r t).1 = false) : ∀ t', t' < t → inn t' = false := by
  intro t' ht
  cases q : inn t' with
  | false => rfl
  | true => rw [acc_any ht q] at h; cases h
theorem acc_bits {inn : Nat → Bool} {v : Nat → Nat} {r : Nat} (i : Nat) (t : Nat) : (acc inn v r t).1 = true →
    ((acc inn v r t).2.1.testBit i = true ↔ i < r ∧ ∀ t', t' < t → inn t' = true → (v t').testBit i = false) ∧
    ((acc inn v r t).2.2.testBit i = true ↔ i < r ∧ ∀ t', t' < t → inn t' = true → (v t').testBit i = true) := by
  induction t with
  | zero => intro h; cases h
  | succ t ih =>
    intro h
    have split_ : ∀ (P : Nat → Prop), (∀ t', t' < t + 1 → inn t' = true → P t') ↔ (∀ t', t' < t → inn t' = true → P t') ∧ (inn t = true → P t) := fun P =>
      ⟨fun q => ⟨fun t' h1 h2 => q t' (by omega) h2, fun h2 => q t (by omega) h2⟩, fun q t' h1 h2 => by
        rcases Nat.lt_or_ge t' t with h3 | h3
        · exact q.1 t' h3 h2
        · obtain rfl : t' = t := by omega
          exact q.2 h2⟩
    rw [split_, split_]
    rw [acc_succ] at h ⊢
    cases q : inn t with
    | true =>
      rw [q, if_pos rfl] at h
      rw [if_pos rfl]
      simp only [true_implies]
      cases q2 : (acc inn v r t).1 with
      | true =>
        rw [if_pos rfl]
        obtain ⟨i1, i2⟩ := ih q2
        simp only [Nat.testBit_and, Bool.and_eq_true, i1, i2]
        rw [kcst_bit1, kcst_bit2]
        by_cases hi : i < r
        · rw [decide_eq_true hi]; simp [hi]
        · rw [decide_eq_false hi]; simp [hi]
      | false =>
        rw [if_neg (by decide)]
        have hn := acc_none q2
        rw [kcst_bit1, kcst_bit2]
        have hv : ∀ (P : Nat → Prop), (∀ t', t' < t → inn t' = true → P t') ↔ True := fun P => ⟨fun _ => trivial, fun _ t' h1 h2 => by rw [hn t' h1] at h2; cases h2⟩
        rw [hv, hv]
        by_cases hi : i < r
        · rw [decide_eq_true hi]; simp [hi]
        · rw [decide_eq_false hi]; simp [hi]
    | false =>
      rw [q, if_neg (by decide)] at h
      rw [if_neg (by decide)]
      obtain ⟨i1, i2⟩ := ih h
      rw [i1, i2]
      simp
theorem shl_i64 : ∀ N : Fin 13, shl .i64 1 ((N.1 : Nat) : Int) = ((2 ^ N.1 : Nat) : Int) := by decide
/-- The values of the operands in the number t. -/
def vt (op : Int) (r x : Nat) (g : Nat → Int) (t : Nat) : Nat := vvalS op r x g (dig g t)
theorem best_step (fu n17 : Nat) {op w : Int} {x n r N : Nat} (h1 : op ≠ 1) (hx : x < U64) (hN : N ≤ 9) {g z o : Nat → Int} (hz : Nums z) (ho : Nums o) (h : (chkS op w x n n g).2 = 0) (hr : (chkS op w x n n g).1 = (r : Int)) (k1 k2 err : Int) {t : Nat} (ht : t < 2 ^ N) :
    saturatelaw12_KnownBest.j17 (fu + 1000) (n17 + 1) r N err (acc (fun t => allin g z o t n) (vt op r x g) r t).1 t op w x n n k1 k2 ((acc (fun t => allin g z o t n) (vt op r x g) r t).2.1 : Int) ((acc (fun t => allin g z o t n) (vt op r x g) r t).2.2 : Int) n g n z o =
    saturatelaw12_KnownBest.j17 (fu + 1000) n17 r N err (acc (fun t => allin g z o t n) (vt op r x g) r (t + 1)).1 ((t + 1 : Nat) : Int) op w x n n k1 k2 ((acc (fun t => allin g z o t n) (vt op r x g) r (t + 1)).2.1 : Int) ((acc (fun t => allin g z o t n) (vt op r x g) r (t + 1)).2.2 : Int) n g n z o := by
  obtain ⟨_, hn, _, _, hg, r', hr', r1, r2, hc⟩ := chk_cas h
  obtain rfl : r' = r := by omega
  have hp : 2 ^ N ≤ 512 := by have := Nat.pow_le_pow_right (n := 2) (by decide) hN; omega
  have hsh : shl .i64 1 (IntKind.u64.wrap (N : Int)) = ((2 ^ N : Nat) : Int) := by rw [wrapu_of (by omega)]; exact shl_i64 ⟨N, by omega⟩
  have hel := acc_el (inn := fun t => allin g z o t n) (v := vt op r' x g) r1 r2 t
  have hA := acc_succ (fun t => allin g z o t n) (vt op r' x g) r' t
  have ht64 : t < U64 := by unfold U64; omega
  rw [saturatelaw12_KnownBest.j17_succ, bifd_neg (by rw [wrapu_of (by omega)]; omega), hsh, bifd_pos (by omega), wrapu_of (n := t) (by omega)]
  obtain ⟨Y, nY, hY, k', he⟩ := best_j23 (fu + 999) n17 r' N err x (acc (fun t => allin g z o t n) (vt op r' x g) r' t).1 ht64 op w k1 k2 ((acc (fun t => allin g z o t n) (vt op r' x g) r' t).2.1 : Int) ((acc (fun t => allin g z o t n) (vt op r' x g) r' t).2.2 : Int) hn hg hz ho n (fu + 1000) 0 (fun _ => 0) rfl (by omega) (by omega) nums_zero (fun j hj => by omega)
  have he0 : saturatelaw12_KnownBest.j23 (fu + 1000) n17 (fu + 1000) r' N err (acc (fun t => allin g z o t n) (vt op r' x g) r' t).1 t 0 (t : Int) true 0 op w x n n k1 k2 ((acc (fun t => allin g z o t n) (vt op r' x g) r' t).2.1 : Int) ((acc (fun t => allin g z o t n) (vt op r' x g) r' t).2.2 : Int) 0 (fun _ => 0) n g n z o = _ := he
  rw [he0, saturatelaw12_KnownBest.j23_succ, bifd_neg (by omega)]
  have e2 : IntKind.i64.wrap ((t : Int) + 1) = ((t + 1 : Nat) : Int) := by rw [wrapi, wrapi_succ (by omega)]
  rw [hA]
  cases hin : allin g z o t n with
  | false =>
    rw [Bool.not_false, cond_true, saturatelaw12_KnownBest.p18_eq, e2, if_neg (by decide)]
  | true =>
    rw [Bool.not_true, cond_false, if_pos rfl, result_eq h1 hx nY h, Option.bind_some, hr, Int.toNat_natCast]
    have hv : vvalS op r' x g (cutv g Y) = vt op r' x g t := vval_congr h1 hc (fun _ _ => rfl) (fun i hi => by unfold cutv; rw [hY i hi, Int.toNat_natCast, dig_cut])
    have hvl : vt op r' x g t < U64 := vval_lt h1 hx hc hg (fun j _ => dig_lt _ _ _) r2
    have kc := el_cst r1 r2 (vt op r' x g t)
    rw [hv]
    simp only
    rw [Bool.not_true, cond_false, ref_const r1 r2 hvl, Option.bind_some]
    cases hs : (acc (fun t => allin g z o t n) (vt op r' x g) r' t).1 with
    | true =>
      have hj := ref_join r1 r2 hel kc
      rw [cond_true, hj, Option.bind_some, saturatelaw12_KnownBest.p36_eq, saturatelaw12_KnownBest.p18_eq, e2, if_pos rfl]
    | false =>
      rw [cond_false, Option.bind_some, saturatelaw12_KnownBest.p36_eq, saturatelaw12_KnownBest.p18_eq, e2, if_neg (by decide)]
/-- Every choice of values is the digits of a number. -/
theorem dig_all {g : Nat → Int} {n : Nat} (hn : n ≤ 3) (hg : ∀ i, i < n → 1 ≤ g i ∧ g i ≤ 64) (y : Nat → Nat) (hy : ∀ i, i < n → y i < 2 ^ (g i).toNat) : ∃ t, t < 2 ^ Sof g n ∧ ∀ i, i < n → dig g t i = y i := by
  have hW : ∀ i, i < n → W (g i) = (g i).toNat := fun i hi => by
    obtain ⟨v, hv, v1, v2⟩ := nat_of (hg i hi).1 (hg i hi).2
    rw [hv, W_of v1 v2]; rfl
  -- build from the digits below
  have key : ∀ m, m ≤ n → ∃ t, t < 2 ^ Sof g m ∧ ∀ i, i < m → dig g t i = y i := by
    intro m
    induction m with
    | zero => intro _; exact ⟨0, pw_pos _, fun i hi => by omega⟩
    | succ m ih =>
      intro hm
      obtain ⟨t, ht, hd⟩ := ih (by omega)
      have hym := hy m (by omega)
      refine ⟨2 ^ Sof g m * y m + t, ?_, fun i hi => ?_⟩
      · show _ < 2 ^ (Sof g m + (g m).toNat)
        rw [Nat.pow_add]
        have : 2 ^ Sof g m * (y m + 1) ≤ 2 ^ Sof g m * 2 ^ (g m).toNat := Nat.mul_le_mul_left _ hym
        rw [Nat.mul_add] at this; omega
      · rcases Nat.lt_or_ge i m with h | h
        · rw [← hd i h]
          have hS : Sof g i + (g i).toNat ≤ Sof g m := by
            have mono : ∀ a b, a ≤ b → Sof g a ≤ Sof g b := by
              intro a b hab
              induction b with
              | zero => have : a = 0 := by omega
                        subst this; exact Nat.le_refl _
              | succ b ihb =>
                rcases Nat.lt_or_ge a (b + 1) with q | q
                · exact Nat.le_trans (ihb (by omega)) (Nat.le_add_right _ _)
                · have : a = b + 1 := by omega
                  subst this; exact Nat.le_refl _
            exact mono (i + 1) m (by omega)
          unfold dig vcut
          rw [hW i (by omega)]
          refine bits_ext fun j => ?_
          rw [Nat.testBit_mod_two_pow, Nat.testBit_mod_two_pow, Nat.testBit_shiftRight, Nat.testBit_shiftRight, Nat.testBit_two_pow_mul_add _ ht]
          by_cases q : j < (g i).toNat
          · rw [if_pos (by omega)]
          · rw [decide_eq_false q]; rfl
        · obtain rfl : i = m := by omega
          unfold dig vcut
          rw [hW i (by omega)]
          refine bits_ext fun j => ?_
          rw [Nat.testBit_mod_two_pow, Nat.testBit_shiftRight, Nat.testBit_two_pow_mul_add _ ht, if_neg (by omega), Nat.add_sub_cancel_left]
          by_cases q : j < (g i).toNat
          · rw [decide_eq_true q]; rfl
          · rw [decide_eq_false q, testBit_ge hym (by omega)]; rfl
  exact key n (Nat.le_refl _)
/-- The join of all values is the best element. -/
theorem acc_best {op : Int} {x n r : Nat} (h1 : op ≠ 1) {g z o : Nat → Int} (hz : Nums z) (ho : Nums o) (hn0 : n ≠ 0) (hn : n ≤ 3) (hg : ∀ i, i < n → 1 ≤ g i ∧ g i ≤ 64) (hc : Cas op r x n g) (r1 : 1 ≤ r) (r2 : r ≤ 64) (hbest : BestOp op g (elm g z o)) :
    (acc (fun t => allin g z o t n) (vt op r x g) r (2 ^ Sof g n)).1 = true ∧ (acc (fun t => allin g z o t n) (vt op r x g) r (2 ^ Sof g n)).2 = kvalS op r x g (elm g z o) := by
  have hel : ∀ i, i < n → El (g i).toNat (elm g z o i) := fun i hi => by
    obtain ⟨v, _, hv, _, _, q, _⟩ := opd hz ho i (hg i hi).1 (hg i hi).2
    rw [hv]; exact q
  have ek := el_val hc hg hel r1 r2
  have digp : ∀ t i, i < n → dig g t i < 2 ^ (g i).toNat := fun t i hi => by
    obtain ⟨v, hv, v1, v2⟩ := nat_of (hg i hi).1 (hg i hi).2
    unfold dig vcut
    rw [hv, W_of v1 v2, Int.toNat_natCast]; exact Nat.mod_lt _ (pw_pos _)
  -- a choice of values is a number
  have surj : ∀ y : Nat → Nat, (∀ j, j < n → inK (g j).toNat (elm g z o j) (y j)) → ∃ t, t < 2 ^ Sof g n ∧ allin g z o t n = true ∧ vt op r x g t = vvalS op r x g y := by
    intro y hy
    obtain ⟨t, ht, hd⟩ := dig_all hn hg y (fun i hi => (hy i hi).1)
    refine ⟨t, ht, allin_iff.2 fun j hj => ?_, vval_congr h1 hc (fun _ _ => rfl) hd⟩
    rw [hd j hj]; exact (inK_has.1 (hy j hj)).2
  have snd : ∀ t, allin g z o t n = true → Le (kcst r (vt op r x g t)) (kvalS op r x g (elm g z o)) := fun t ht =>
    val_sound h1 hc hg hel (fun j hj => digp t j hj) (allin_iff.1 ht) r1 r2
  have some_ : (acc (fun t => allin g z o t n) (vt op r x g) r (2 ^ Sof g n)).1 = true := by
    obtain ⟨t, ht, hi, _⟩ := surj (fun j => (elm g z o j).2) (fun j hj => in_least (by have := hg j hj; omega) (hel j hj))
    exact acc_any ht hi
  refine ⟨some_, ?_⟩
  refine Prod.ext (bits_ext fun i => ?_) (bits_ext fun i => ?_)
  · obtain ⟨i1, _⟩ := acc_bits i (2 ^ Sof g n) some_
    by_cases hk : (kvalS op r x g (elm g z o)).1.testBit i = true
    · rw [hk, i1]
      have hir : i < r := Decidable.byContradiction fun q => by rw [ek.b1 r2 (by omega)] at hk; cases hk
      refine ⟨hir, fun t' _ ht => ?_⟩
      have := (snd t' ht i).1 hk
      rw [kcst_bit1, decide_eq_true hir] at this
      simpa using this
    · have hkf : (kvalS op r x g (elm g z o)).1.testBit i = false := by simpa using hk
      rw [hkf]
      apply Bool.eq_false_iff.2
      intro ha
      obtain ⟨hir, hall⟩ := i1.1 ha
      obtain ⟨y, hy, hv⟩ := val_tight hbest hc hn0 hg hel r2 hir (s := true) ⟨fun _ => hkf, fun q => by cases q⟩
      obtain ⟨t, ht, hi, he⟩ := surj y hy
      have := hall t ht hi
      rw [he, hv] at this; cases this
  · obtain ⟨_, i2⟩ := acc_bits i (2 ^ Sof g n) some_
    by_cases hk : (kvalS op r x g (elm g z o)).2.testBit i = true
    · rw [hk, i2]
      have hir : i < r := Decidable.byContradiction fun q => by rw [ek.b2 r2 (by omega)] at hk; cases hk
      refine ⟨hir, fun t' _ ht => ?_⟩
      have := (snd t' ht i).2 hk
      rw [kcst_bit2, decide_eq_true hir] at this
      simpa using this
    · have hkf : (kvalS op r x g (elm g z o)).2.testBit i = false := by simpa using hk
      rw [hkf]
      apply Bool.eq_false_iff.2
      intro ha
      obtain ⟨hir, hall⟩ := i2.1 ha
      obtain ⟨y, hy, hv⟩ := val_tight hbest hc hn0 hg hel r2 hir (s := false) ⟨fun q => (by cases q), fun _ => hkf⟩
      obtain ⟨t, ht, hi, he⟩ := surj y hy
      have := hall t ht hi
      rw [he, hv] at this; cases this
theorem best_j17 (fu : Nat) {op w : Int} {x n r N : Nat} (h1 : op ≠ 1) (hx : x < U64) (hN : N ≤ 9) {g z o : Nat → Int} (hz : Nums z) (ho : Nums o) (h : (chkS op w x n n g).2 = 0) (hr : (chkS op w x n n g).1 = (r : Int)) (k1 k2 err : Int) (d : Nat) : ∀ (k t : Nat), 2 ^ N - t = d → t ≤ 2 ^ N → d < k →
    ∃ k', saturatelaw12_KnownBest.j17 (fu + 1000) k r N err (acc (fun t => allin g z o t n) (vt op r x g) r t).1 t op w x n n k1 k2 ((acc (fun t => allin g z o t n) (vt op r x g) r t).2.1 : Int) ((acc (fun t => allin g z o t n) (vt op r x g) r t).2.2 : Int) n g n z o =
    saturatelaw12_KnownBest.j17 (fu + 1000) (k' + 1) r N err (acc (fun t => allin g z o t n) (vt op r x g) r (2 ^ N)).1 ((2 ^ N : Nat) : Int) op w x n n k1 k2 ((acc (fun t => allin g z o t n) (vt op r x g) r (2 ^ N)).2.1 : Int) ((acc (fun t => allin g z o t n) (vt op r x g) r (2 ^ N)).2.2 : Int) n g n z o := by
  induction d with
  | zero =>
    intro k t hd ht hk
    obtain ⟨k, rfl⟩ : ∃ m, k = m + 1 := ⟨k - 1, by omega⟩
    have e : t = 2 ^ N := by omega
    rw [e]; exact ⟨k, rfl⟩
  | succ d ih =>
    intro k t hd ht hk
    obtain ⟨k, rfl⟩ : ∃ m, k = m + 1 := ⟨k - 1, by omega⟩
    obtain ⟨k', he⟩ := ih k (t + 1) (by omega) (by omega) (by omega)
    exact ⟨k', by rw [best_step fu k h1 hx hN hz ho h hr k1 k2 err (by omega)]; exact he⟩
theorem best_j6 (fu : Nat) {op w : Int} {x n r : Nat} (h1 : op ≠ 1) (hx : x < U64) {g z o : Nat → Int} (hz : Nums z) (ho : Nums o) (hn0 : n ≠ 0) (h : (chkS op w x n n g).2 = 0) (hr : (chkS op w x n n g).1 = (r : Int)) (hbest : BestOp op g (elm g z o)) (d : Nat) : ∀ (k i : Nat), n - i = d → i ≤ n → d < k → Sof g i ≤ 4 * i →
    saturatelaw12_KnownBest.j6 (fu + 1000) k r (Sof g i) i op w x n n n g n z o = some true := by
  obtain ⟨_, hn, _, _, hg, r', hr', r1, r2, hc⟩ := chk_cas h
  obtain rfl : r' = r := by omega
  induction d with
  | zero =>
    intro k i hd hi hk hS
    obtain ⟨k, rfl⟩ : ∃ m, k = m + 1 := ⟨k - 1, by omega⟩
    obtain rfl : i = n := by omega
    rw [saturatelaw12_KnownBest.j6_succ, bifd_neg (by omega)]
    by_cases h9 : Sof g i ≤ 9
    · rw [bifd_neg (by omega), apply_prog12 hx i i hz ho, Option.bind_some]
      unfold kresS
      rw [if_neg (show ¬ (chkS op w x i i g).2 ≠ 0 from fun q => q h), hr, Int.toNat_natCast]
      have hp : 2 ^ Sof g i ≤ 512 := by have := Nat.pow_le_pow_right (n := 2) (by decide) h9; omega
      obtain ⟨e1, e2⟩ := acc_best h1 hz ho hn0 hn hg hc r1 r2 hbest
      obtain ⟨k', he⟩ := best_j17 fu h1 hx h9 hz ho h hr ((kvalS op r' x g (elm g z o)).1 : Int) ((kvalS op r' x g (elm g z o)).2 : Int) 0 (2 ^ Sof g i) (fu + 1000) 0 rfl (Nat.zero_le _) (by omega)
      have he0 : saturatelaw12_KnownBest.j17 (fu + 1000) (fu + 1000) r' (Sof g i) 0 false 0 op w x i i ((kvalS op r' x g (elm g z o)).1 : Int) ((kvalS op r' x g (elm g z o)).2 : Int) 0 0 i g i z o = _ := he
      simp only
      have hsh : shl .i64 1 (IntKind.u64.wrap (Sof g i : Int)) = ((2 ^ Sof g i : Nat) : Int) := by rw [wrapu_of (by omega)]; exact shl_i64 ⟨Sof g i, by omega⟩
      rw [he0, saturatelaw12_KnownBest.j17_succ, bifd_neg (by rw [wrapu_of (by omega)]; omega), hsh, bifd_neg (Int.lt_irrefl _), e1, e2, show ((0 : Int) == 0) = true from rfl, cond_true, cond_true, beq_self_eq_true, beq_self_eq_true, lives12_true]
      rfl
    · rw [bifd_pos (by omega), lives12_true, Option.bind_some]
  | succ d ih =>
    intro k i hd hi hk hS
    obtain ⟨k, rfl⟩ : ∃ m, k = m + 1 := ⟨k - 1, by omega⟩
    rw [saturatelaw12_KnownBest.j6_succ, bifd_pos (by omega), bifd_pos (by omega), bifd_pos (by omega), Int.toNat_natCast]
    by_cases q : g i > 4
    · rw [bifd_pos q, lives12_true, Option.bind_some]
    · have := hg i (by omega)
      have e1 : IntKind.i64.wrap ((Sof g i : Int) + g i) = (Sof g (i + 1) : Int) := by
        show _ = ((Sof g i + (g i).toNat : Nat) : Int)
        rw [wrapi, wrapi_of (by omega) (by omega)]; omega
      have e2 : IntKind.i64.wrap ((i : Int) + 1) = ((i + 1 : Nat) : Int) := by rw [wrapi, wrapi_succ (by omega)]
      rw [bifd_neg q, bifd_pos (by omega), bifd_pos (by omega), e1, e2]
      exact ih k (i + 1) (by omega) (by omega) (by omega) (by show Sof g i + (g i).toNat ≤ _; omega)
theorem best_eq {op w : Int} {x n : Nat} {g z o : Nat → Int} (hz : Nums z) (ho : Nums o) (h : (chkS op w x n n g).2 = 0) : ∃ b, saturatelaw12_best.f (op, w, (x : Int), (n, g), (n, z, o)) = some b ∧ (b = true → BestOp op g (elm g z o)) := by
  obtain ⟨_, hn, hop1, hop2, hg, r, hr, r1, r2, hc⟩ := chk_cas h
  have hs : (op = 12 ∨ op = 13 ∨ op = 14 ∨ op = 15) → n = 2 ∧ g 1 = g 0 ∧ saturateref12_Single.f (g 1) (z 1, o 1) = some (if kone (g 1).toNat (elm g z o 1) then (((elm g z o 1).2 : Int), true) else (0, false)) ∧ (elm g z o 1).2 < U64 := by
    intro hop
    have hn2 : n = 2 ∧ g 1 = g 0 := by
      rcases hc with ⟨q, rfl⟩ | ⟨q, rfl, _⟩ | ⟨q, rfl, _, _⟩ | ⟨q, rfl, _, _, _⟩ | ⟨q, rfl, _⟩ | ⟨q, rfl, q1, _⟩ | ⟨q, rfl, q1, _⟩ <;> first | exact ⟨rfl, q1⟩ | (exfalso; omega)
    obtain ⟨v, hv, hv2, v1, v2, hel, _, _⟩ := opd hz ho 1 (hg 1 (by omega)).1 (hg 1 (by omega)).2
    refine ⟨hn2.1, hn2.2, ?_, hel.l2⟩
    obtain ⟨a, ha, la⟩ := hz 1
    obtain ⟨b, hb, lb⟩ := ho 1
    have := saturateref12_Single_eq (g 1) la lb
    unfold elm
    rw [ha, hb, this, MK, hv, W_of v1 v2, Int.toNat_natCast, Int.toNat_natCast, Int.toNat_natCast]
  unfold saturatelaw12_best.f
  simp only
  have hops : op = 1 ∨ op = 2 ∨ op = 3 ∨ op = 4 ∨ op = 5 ∨ op = 6 ∨ op = 7 ∨ op = 8 ∨ op = 9 ∨ op = 10 ∨ op = 11 ∨ op = 12 ∨ op = 13 ∨ op = 14 ∨ op = 15 ∨ op = 16 ∨ op = 17 ∨ op = 18 ∨ op = 19 ∨ op = 20 ∨ op = 21 ∨ op = 22 ∨ op = 23 := by omega
  rcases hops with rfl | rfl | rfl | rfl | rfl | rfl | rfl | rfl | rfl | rfl | rfl | rfl | rfl | rfl | rfl | rfl | rfl | rfl | rfl | rfl | rfl | rfl | rfl
  all_goals simp only [Int.reduceBEq, cond_true, cond_false]
  · exact ⟨false, rfl, fun q => by cases q⟩
  · exact ⟨false, rfl, fun q => by cases q⟩
  · exact ⟨true, rfl, fun _ => by unfold BestOp; exact .inl rfl⟩
  · exact ⟨true, rfl, fun _ => by unfold BestOp; exact .inr (.inl rfl)⟩
  · exact ⟨true, rfl, fun _ => by unfold BestOp Best2; simp⟩
  · exact ⟨true, rfl, fun _ => by unfold BestOp Best2; simp⟩
  · exact ⟨true, rfl, fun _ => by unfold BestOp Best2; simp⟩
  · exact ⟨true, rfl, fun _ => by unfold BestOp Best2; simp⟩
  · exact ⟨true, rfl, fun _ => by unfold BestOp Best2; simp⟩
  · exact ⟨false, rfl, fun q => by cases q⟩
  · exact ⟨false, rfl, fun q => by cases q⟩
  · obtain ⟨rfl, hg1, hs, hl⟩ := hs (by decide)
    rw [bifd_pos (by decide), bifd_pos (by decide), hs, Option.bind_some]
    by_cases q : kone (g 1).toNat (elm g z o 1)
    · rw [if_pos q, cond_true]
      simp only
      rw [saturateref01_Count_eq hl, Option.bind_some]
      refine ⟨_, rfl, fun q2 => ?_⟩
      have q3 : ones (elm g z o 1).2 = 1 := by rw [beq_iff_eq] at q2; omega
      unfold BestOp Best2; exact .inr (.inr (.inr (.inr (.inr (.inr (.inr (.inr (.inr (.inr (.inr (.inr (.inr ⟨rfl, q, q3⟩))))))))))))
    · rw [if_neg q, cond_false]; exact ⟨false, rfl, fun q => by cases q⟩
  · obtain ⟨rfl, hg1, hs, hl⟩ := hs (by decide)
    rw [bifd_pos (by decide), bifd_pos (by decide), hs, Option.bind_some]
    refine ⟨_, rfl, fun q2 => ?_⟩
    by_cases q : kone (g 1).toNat (elm g z o 1)
    · unfold BestOp Best2; exact .inr (.inr (.inr (.inr (.inr (.inr (.inr (.inr (.inr (.inr (.inr (.inr (.inl ⟨.inl rfl, q⟩))))))))))))
    · rw [if_neg q] at q2; cases q2
  · obtain ⟨rfl, hg1, hs, hl⟩ := hs (by decide)
    rw [bifd_pos (by decide), bifd_pos (by decide), hs, Option.bind_some]
    refine ⟨_, rfl, fun q2 => ?_⟩
    by_cases q : kone (g 1).toNat (elm g z o 1)
    · unfold BestOp Best2; exact .inr (.inr (.inr (.inr (.inr (.inr (.inr (.inr (.inr (.inr (.inr (.inr (.inl ⟨.inr (.inl rfl), q⟩))))))))))))
    · rw [if_neg q] at q2; cases q2
  · obtain ⟨rfl, hg1, hs, hl⟩ := hs (by decide)
    rw [bifd_pos (by decide), bifd_pos (by decide), hs, Option.bind_some]
    refine ⟨_, rfl, fun q2 => ?_⟩
    by_cases q : kone (g 1).toNat (elm g z o 1)
    · unfold BestOp Best2; exact .inr (.inr (.inr (.inr (.inr (.inr (.inr (.inr (.inr (.inr (.inr (.inr (.inl ⟨.inr (.inr rfl), q⟩))))))))))))
    · rw [if_neg q] at q2; cases q2
  · exact ⟨false, rfl, fun q => by cases q⟩
  · exact ⟨false, rfl, fun q => by cases q⟩
  · exact ⟨false, rfl, fun q => by cases q⟩
  · exact ⟨true, rfl, fun _ => by unfold BestOp; exact .inr (.inr (.inl rfl))⟩
  · exact ⟨true, rfl, fun _ => by unfold BestOp Best2; simp⟩
  · exact ⟨true, rfl, fun _ => by unfold BestOp; simp⟩
  · exact ⟨true, rfl, fun _ => by unfold BestOp; simp⟩
  · exact ⟨true, rfl, fun _ => by unfold BestOp; simp⟩
end Go.Proofs.Ytbfniopkadaheaa.Fn
