/- FactsApplySound, in plain words: if the operands' facts contain their values, Apply's facts are valid and contain the operator's value. -/
import Derived.Test.YtcihbcffokjgjaaGreatSStFactsApplySound
import Derived.Test.YtcihbcffokjgjaaGreatSFl
namespace Go.Proofs.YtcihbcffokjgjaaGreat.Th
open Go Go.RowKit Go.Proofs.YtcihbcffokjgjaaGreat.Ev Go.Proofs.YtcihbcffokjgjaaGreat.Fn Go.Proofs.YtcihbcffokjgjaaGreat.Bv
set_option linter.unusedVariables false
set_option linter.unusedSimpArgs false
set_option maxRecDepth 100000
theorem ofN_valid {m : F3} (h : Fv m.1 m.2.1 m.2.2) : ofN m.1 m.2.1 m.2.2 = m := if_pos h.val
theorem valid_valid {m : F3} (h : Fv m.1 m.2.1 m.2.2) : facts_Valid.f (m.1, (m.2.1.1 : Int), (m.2.1.2 : Int), (m.2.2.1 : Int), (m.2.2.2 : Int)) = some true := by rw [facts_Valid_eq m.1 (k := m.2.1) (r := m.2.2) h.kv.l1 h.kv.l2, decide_eq_true h.val]
theorem has_valid {m : F3} (h : Fv m.1 m.2.1 m.2.2) {x : Nat} (hx : x < U64) : facts_Has.f (m.1, (m.2.1.1 : Int), (m.2.1.2 : Int), (m.2.2.1 : Int), (m.2.2.2 : Int)) x = some (decide (hasN m x)) := by rw [facts_Has_eq m.1 (k := m.2.1) (r := m.2.2) h.kv.l1 h.kv.l2 hx, ofN_valid h]
theorem opW_W (G z o l h : Nat → Int) (i : Nat) : opW G z o l h i = (W (G i) : Int) := by
  unfold opW opF ofN
  split
  · rename_i c; exact (W_of' c.1.1 c.1.2).symm
  · rfl
section
variable {G z o l h : Nat → Int} (hz : Nums z) (ho : Nums o) (hl : Nums l) (hh : Nums h)
include hz ho
theorem op_elm {n i : Nat} (hi : i < n) : elm (tr (opW G z o l h) n) (tr (opZ G z o l h) n) (tr (opO G z o l h) n) i = (opF G z o l h i).2.1 := by
  unfold elm
  rw [tr_at hi, tr_at hi, tr_at hi]
  exact (opF_fv (l := l) (h := h) (G := G) hz ho i).kv.kof
theorem op_rng {n i : Nat} (hi : i < n) : nrmN (MK (tr (opW G z o l h) n i)) ((tr (opL G z o l h) n i).toNat, (tr (opH G z o l h) n i).toNat) = (opF G z o l h i).2.2 := by
  rw [tr_at hi, tr_at hi, tr_at hi]
  exact nrmN_of (opF_fv (l := l) (h := h) (G := G) hz ho i).rv
include hl hh
theorem op_has {i : Nat} {y : Nat} (hy : y < U64) : saturateref14_Has.f (G i, z i, o i, l i, h i) (y : Int) = some (decide (hasN (opF G z o l h i) y)) := by
  obtain ⟨a, ha, la⟩ := hz i
  obtain ⟨b, hb, lb⟩ := ho i
  obtain ⟨c, hc, lc⟩ := hl i
  obtain ⟨d, hd, ld⟩ := hh i
  have := saturateref14_Has_eq (G i) (k := (a, b)) (r := (c, d)) la lb hy
  unfold opF
  rw [ha, hb, hc, hd]
  exact this
end
theorem nums_tr {v : Nat → Int} (h : Nums v) (n : Nat) : Nums (tr v n) := fun i => by
  unfold tr
  split
  · exact h i
  · exact ⟨0, rfl, by decide⟩
theorem sound_j8 (v : Unit → Option Bool) {e} (hv : v () = some true) (fu : Nat) {op w : Int} (h1 : op ≠ 1) {x n r : Nat} (hx : x < U64) {G z o l h Y : Nat → Int} (hz : Nums z) (ho : Nums o) (hl : Nums l) (hh : Nums h) (hY : Nums Y)
    (hc : (chkS op w x n n (tr (opW G z o l h) n)).2 = 0) (hr : (chkS op w x n n (tr (opW G z o l h) n)).1 = (r : Int)) {q : Option ((Nat × Nat) × (Nat × Nat))}
    (hq : RedP (r : Int) (kvalN op w x n (tr (opW G z o l h) n) (tr (opZ G z o l h) n) (tr (opO G z o l h) n)) (nrmN (vmask r) (rvalN op w x n (tr (opW G z o l h) n) (tr (opL G z o l h) n) (tr (opH G z o l h) n))) q) (d : Nat) : ∀ (k i : Nat), i + d = n → d < k → (∀ j, j < i → hasN (opF G z o l h j) (Y j).toNat) →
    saturatelaw14_FactsApplySound.j8 v e fu k op w x n n i (i : Int) n G z o l h n Y (redF (r : Int) q).1 ((redF (r : Int) q).2.1.1 : Int) ((redF (r : Int) q).2.1.2 : Int) ((redF (r : Int) q).2.2.1 : Int) ((redF (r : Int) q).2.2.2 : Int) i (tr (opW G z o l h) i) (tr Y i) = some true := by
  obtain ⟨_, hn, _, _, hg, r', hr', r1, r2, hcas⟩ := chk_cas hc
  obtain rfl : r' = r := by omega
  induction d with
  | zero =>
    intro k i hi hk hj
    obtain ⟨k, rfl⟩ : ∃ m, k = m + 1 := ⟨k - 1, by omega⟩
    obtain rfl : i = n := by omega
    have hm := redF_fv (a := (r' : Int)) (by omega) (by omega) hq
    have hcut : ∀ j, j < i → cutv (tr (opW G z o l h) i) (tr Y i) j = vcut (W (opF G z o l h j).1) (Y j).toNat := fun j hj' => by
      unfold cutv; rw [tr_at hj', tr_at hj']; rfl
    have hs := ap_sound h1 hx (opZ_nums (l := l) (h := h) (G := G) hz ho i) (opO_nums (l := l) (h := h) (G := G) hz ho i) (opL_nn i) (opH_nn i) hc hr (y := cutv (tr (opW G z o l h) i) (tr Y i))
      (fun j hj' => cutv_pow (hg j hj').1 (hg j hj').2) (fun j hj' => by rw [op_elm hz ho hj', hcut j hj']; exact (hj j hj').1) (fun j hj' => by rw [op_rng hz ho hj', hcut j hj']; exact (hj j hj').2) hq
    have hvl := vval_lt (y := cutv (tr (opW G z o l h) i) (tr Y i)) h1 hx hcas hg (fun j _ => cutv_lt _ _ _) r2
    rw [saturatelaw14_FactsApplySound.j8_succ, bifd_neg (by omega), apply08 h1 hx (nums_tr hY i) hc, Option.bind_some, hr, Int.toNat_natCast]
    simp only
    rw [show ((0 : Int) == 0) = true from rfl, cond_true, valid_valid hm, Option.bind_some, cond_true, has_valid hm hvl, Option.bind_some, decide_eq_true hs.2, cond_true, hv]; rfl
  | succ d ih =>
    intro k i hi hk hj
    obtain ⟨k, rfl⟩ : ∃ m, k = m + 1 := ⟨k - 1, by omega⟩
    obtain ⟨y, hy, ly⟩ := hY i
    have hhas := op_has hz ho hl hh (G := G) (i := i) ly
    rw [saturatelaw14_FactsApplySound.j8_succ, bifd_pos (by omega), bifd_pos (by omega), bifd_pos (by omega), bifd_pos (by omega), bifd_pos (by omega), Int.toNat_natCast, hy, hhas, Option.bind_some]
    by_cases c : hasN (opF G z o l h i) y
    · rw [decide_eq_true c, Bool.not_true, cond_false, bifd_pos (by omega), bifd_pos (by omega), saturateref01_W_eq, Option.bind_some, bifd_pos (by omega), bifd_pos (by omega), ble_of (by omega), cond_true, wrapi, wrapi_succ (by omega), ← opW_W G z o l h i, tr_cat, ← hy, tr_cat]
      exact ih k (i + 1) (by omega) (by omega) fun j hj' => by
        rcases Nat.lt_or_ge j i with q | q
        · exact hj j q
        · obtain rfl : j = i := by omega
          rw [hy]; exact c
    · rw [decide_eq_false c, Bool.not_false, cond_true, hv]; rfl
theorem sound_abs (v : Unit → Option Bool) {e} (hv : v () = some true) (fu : Nat) (hfu : 1000 < fu) (op w : Int) {x n m : Nat} (hx : x < U64) {G z o l h Y : Nat → Int} (hz : Nums z) (ho : Nums o) (hl : Nums l) (hh : Nums h) (hY : Nums Y) : saturatelaw14_FactsApplySound.gv v e fu op w (x : Int) (n, G, z, o, l, h) (m, Y) = some true := by
  unfold saturatelaw14_FactsApplySound.gv
  simp only
  by_cases c : n ≤ 5
  · rw [bifd_neg (by omega)]
    by_cases c2 : m = n
    · subst c2
      rw [bne_self_eq_false, cond_false]
      by_cases c3 : op = 1
      · rw [show (op == 1) = true by rw [beq_iff_eq]; exact c3, cond_true, hv]; rfl
      · rw [show (op == 1) = false by rw [beq_eq_false_iff_ne]; exact c3, cond_false, facts_Apply_eq op w (by omega) hz ho hl hh]
        have nz := opZ_nums (l := l) (h := h) (G := G) hz ho m
        have no := opO_nums (l := l) (h := h) (G := G) hz ho m
        rw [apP_eq op w hx nz no (opL_nn m), Option.bind_some]
        by_cases hc : (chkS op w x m m (tr (opW G z o l h) m)).2 = 0
        · obtain ⟨r, hr, _, _, hq⟩ := apQ_spec op w (n := m) hx (g := tr (opW G z o l h) m) (h := tr (opH G z o l h) m) nz no (opL_nn m) hc
          rw [if_pos hc]
          simp only
          rw [bne_self_eq_false, cond_false, hr]
          have := sound_j8 v (e := e) hv fu c3 hx hz ho hl hh hY hc hr hq m fu 0 (by omega) (by omega) (fun j hj => absurd hj (by omega))
          rw [tr_zero, tr_zero] at this
          exact this
        · rw [if_neg hc]
          simp only
          rw [show ((chkS op w x m m (tr (opW G z o l h) m)).2 != 0) = true by rw [bne_iff_ne]; exact hc, cond_true, hv]; rfl
    · rw [show ((m : Int) != (n : Int)) = true by rw [bne_iff_ne]; omega, cond_true, hv]; rfl
  · rw [bifd_pos (by omega), hv]; rfl
theorem FactsApplySound : St.FactsApplySound := by
  intro op w x n G z o l h m Y _ _ hx0 _ _ hz ho hl hh _ hY
  obtain ⟨x, rfl, hx⟩ := u64_of hx0
  have q := @sound_abs (fun a => saturatelaw14_lives.f) ⟨saturatelaw14_lives.con⟩ lives14_true (fuel0 + 1) (by unfold fuel0; omega) op w x n m hx G z o l h Y (nums_of hz) (nums_of ho) (nums_of hl) (nums_of hh) (nums_of hY)
  delta saturatelaw14_FactsApplySound.f
  exact q
end Go.Proofs.YtcihbcffokjgjaaGreat.Th
