/- The law's value of an operator, and the law's loop over the operands. -/
import Derived.Test.YtbfniopkadaheaaF4
import Derived.Test.YtbfniopkadaheaaKl
namespace Go.Proofs.Ytbfniopkadaheaa.Fn
open Go Go.RowKit Go.Proofs.Ytbfniopkadaheaa.Ev Go.Proofs.Ytbfniopkadaheaa.Bv
set_option linter.unusedVariables false
set_option linter.unusedSimpArgs false
set_option maxRecDepth 100000

theorem chkS_congr {op w : Int} {x n m : Nat} {g g' : Nat → Int} (h : ∀ i, i < n → g i = g' i) : chkS op w x n m g = chkS op w x n m g' := by
  unfold chkS
  rw [widthS_congr h]
  have e : ((widthS op w x n g').1 = 0 ∨ ∃ j, j < n ∧ g j = 0) ↔ ((widthS op w x n g').1 = 0 ∨ ∃ j, j < n ∧ g' j = 0) := by
    constructor
    · rintro (q | ⟨j, hj, q⟩)
      · exact .inl q
      · exact .inr ⟨j, hj, by rw [← h j hj]; exact q⟩
    · rintro (q | ⟨j, hj, q⟩)
      · exact .inl q
      · exact .inr ⟨j, hj, by rw [h j hj]; exact q⟩
  simp only [e]
theorem vval_congr {op : Int} {r x n : Nat} {g g' : Nat → Int} {y y' : Nat → Nat} (h1 : op ≠ 1) (hc : Cas op r x n g) (h : ∀ i, i < n → g' i = g i) (hy : ∀ i, i < n → y' i = y i) : vvalS op r x g' y' = vvalS op r x g y := by
  unfold vvalS
  rcases hc with ⟨hop, rfl⟩ | ⟨hop, rfl, hr⟩ | ⟨hop, rfl, hr, hr2⟩ | ⟨rfl, rfl, g0, g1, g2⟩ | ⟨rfl, rfl, hr⟩ | ⟨hop, rfl, g1, hr⟩ | ⟨hop, rfl, g1, hr⟩
  · rw [if_pos (by omega), if_pos (by omega)]
  · rw [h 0 (by omega), hy 0 (by omega), if_neg (by omega), if_neg (by omega), if_pos (by omega), if_neg (by omega), if_neg (by omega), if_pos (by omega)]
  · rw [h 0 (by omega), hy 0 (by omega), if_neg (by omega), if_neg (by omega), if_pos (by omega), if_neg (by omega), if_neg (by omega), if_pos (by omega)]
  · simp only [hy 0 (by omega), hy 1 (by omega), hy 2 (by omega), Int.reduceEq, if_true, if_false]
  · simp only [h 0 (by omega), hy 0 (by omega), h 1 (by omega), hy 1 (by omega), Int.reduceEq, if_false, or_self]
  all_goals
    have q1 : ¬ op = 2 := by omega
    have q2 : ¬ op = 19 := by omega
    have q3 : ¬ (op = 3 ∨ op = 4 ∨ op = 21 ∨ op = 22 ∨ op = 23) := by omega
    simp only [h 0 (by omega), hy 0 (by omega), h 1 (by omega), hy 1 (by omega), if_neg q1, if_neg q2, if_neg q3]
theorem result_j3 (fu : Nat) (op w x : Int) {n : Nat} (m : Nat) (hn : n ≤ 3) {g z o y : Nat → Int} (hy : Nums y) (d : Nat) : ∀ (k i : Nat) (f0 f1 : Nat → Int), n - i = d → i ≤ n → d < k → Nums f1 → (∀ j, j < i → f0 j = g j ∧ f1 j = y j) →
    ∃ G Y, Nums Y ∧ (∀ j, j < n → G j = g j ∧ Y j = y j) ∧ saturatelaw12_result.j3 fu k n i i n y op w x n m i f0 f1 n g m z o = (saturateref08_Apply.f op w x (n, G, Y)).bind fun r1 => some (r1.1, (r1.2 == 0)) := by
  induction d with
  | zero =>
    intro k i f0 f1 hd hi hk h1 hj
    obtain ⟨k, rfl⟩ : ∃ m, k = m + 1 := ⟨k - 1, by omega⟩
    obtain rfl : i = n := by omega
    exact ⟨f0, f1, h1, hj, by rw [saturatelaw12_result.j3_succ, bifd_neg (by omega)]⟩
  | succ d ih =>
    intro k i f0 f1 hd hi hk h1 hj
    obtain ⟨k, rfl⟩ : ∃ m, k = m + 1 := ⟨k - 1, by omega⟩
    obtain ⟨a, ha, la⟩ := hy i
    obtain ⟨G, Y, nY, hl, he⟩ := ih k (i + 1) (cat i f0 (fun t => [g i].getD t 0)) (cat i f1 (fun t => [y i].getD t 0)) (by omega) (by omega) (by omega) (by rw [ha]; exact nums_cat h1 (nums_one la)) (fun j hj' => by
      rcases Nat.lt_or_ge j i with h | h
      · rw [cat_lt h, cat_lt h]; exact hj j h
      · obtain rfl : j = i := by omega
        rw [cat_at, cat_at]; exact ⟨rfl, rfl⟩)
    refine ⟨G, Y, nY, hl, ?_⟩
    rw [saturatelaw12_result.j3_succ, bifd_pos (by omega), bifd_pos (by omega), bifd_pos (by omega), bifd_pos (by omega), bifd_pos (by omega), Int.toNat_natCast, show Nat.ble ((i + 1) * 16) 140737488355328 = true by rw [Nat.ble_eq]; omega, cond_true, wrapi, wrapi_succ (by omega)]
    exact he
/-- The law's value of an operator is the specification's. -/
theorem result_eq {op w : Int} {x n : Nat} {g z o y : Nat → Int} (h1 : op ≠ 1) (hx : x < U64) (hy : Nums y) (h : (chkS op w x n n g).2 = 0) (m : Nat) :
    saturatelaw12_result.f (op, w, (x : Int), (n, g), (m, z, o)) (n, y) = some ((vvalS op (chkS op w x n n g).1.toNat x g (cutv g y) : Int), true) := by
  obtain ⟨_, hn, _, _, hg, r, hr, r1, r2, hc⟩ := chk_cas h
  unfold saturatelaw12_result.f saturatelaw12_result.g
  have hfu : 1000 < fuel0 + 1 := by unfold fuel0; omega
  generalize fuel0 + 1 = fu at *
  obtain ⟨G, Y, nY, hl, he⟩ := result_j3 fu op w x m hn hy (g := g) (z := z) (o := o) n fu 0 (fun _ => 0) (fun _ => 0) rfl (by omega) (by omega) nums_zero (fun j hj => by omega)
  have he0 : saturatelaw12_result.j3 fu fu n 0 0 n y op w x n m 0 (fun _ => 0) (fun _ => 0) n g m z o = _ := he
  simp only
  have hG : ∀ j, j < n → G j = g j := fun j hj => (hl j hj).1
  have hch : chkS op w x n n G = chkS op w x n n g := chkS_congr hG
  rw [he0, apply08 h1 hx nY (by rw [hch]; exact h), Option.bind_some, hch, hr, Int.toNat_natCast]
  rw [vval_congr h1 hc hG (y := cutv g y) (fun i hi => by unfold cutv; rw [(hl i hi).1, (hl i hi).2])]
  rfl
theorem cutv_pow {g y : Nat → Int} {i : Nat} (h1 : 1 ≤ g i) (h2 : g i ≤ 64) : cutv g y i < 2 ^ (g i).toNat := by
  obtain ⟨v, hv, v1, v2⟩ := nat_of h1 h2
  unfold cutv vcut
  rw [hv, W_of v1 v2, Int.toNat_natCast]; exact Nat.mod_lt _ (pw_pos _)
theorem ite_lt' {p : Prop} [Decidable p] {a b c : Nat} (ha : a < c) (hb : b < c) : (if p then a else b) < c := by split <;> assumption
theorem vuna_lt {op : Int} {r x v y : Nat} (hv : v ≤ 64) (hr : r ≤ 64) (hy : y < U64) : vunaS op r x v y < U64 :=
  ite_lt' (vnot_lt _ hv) (ite_lt' (vneg_lt _ hv) (ite_lt' (vextract_lt _ _ hr) (ite_lt' (vsext_lt _ _ hr) hy)))
theorem vbin_lt {op : Int} {v u a b : Nat} (hv : v ≤ 64) (hu : u ≤ 64) : vbinS op v u a b < U64 :=
  ite_lt' (vand_lt _ _ hv) (ite_lt' (vor_lt _ _ hv) (ite_lt' (vxor_lt _ _ hv) (ite_lt' (vadd_lt _ _ hv) (ite_lt' (vsub_lt _ _ hv) (ite_lt' (vconcat_lt _ _ hu) (ite_lt' (ite_lt' (by decide) (by decide)) (ite_lt' (vshl_lt _ _ hv) (ite_lt' (vlshr_lt _ _ hv) (ite_lt' (vashr_lt _ _ hv) (kval_lt hv _ _))))))))))
theorem vval_lt {op : Int} {r x n : Nat} {g : Nat → Int} {y : Nat → Nat} (h1 : op ≠ 1) (hx : x < U64) (hc : Cas op r x n g) (hg : ∀ i, i < n → 1 ≤ g i ∧ g i ≤ 64) (hy : ∀ i, i < n → y i < U64) (r2 : r ≤ 64) : vvalS op r x g y < U64 := by
  unfold vvalS
  rcases hc with ⟨hop, rfl⟩ | ⟨hop, rfl, hr⟩ | ⟨hop, rfl, hr, hr2⟩ | ⟨rfl, rfl, g0, g1, g2⟩ | ⟨rfl, rfl, hr⟩ | ⟨hop, rfl, g1, hr⟩ | ⟨hop, rfl, g1, hr⟩
  · rw [if_pos (by omega)]; exact hx
  · rw [if_neg (by omega), if_neg (by omega), if_pos (by omega)]
    have := hg 0 (by omega)
    exact vuna_lt (by omega) r2 (hy 0 (by omega))
  · rw [if_neg (by omega), if_neg (by omega), if_pos (by omega)]
    have := hg 0 (by omega)
    exact vuna_lt (by omega) r2 (hy 0 (by omega))
  · rw [if_neg (by decide), if_pos rfl]
    exact ite_lt' (hy 1 (by omega)) (hy 2 (by omega))
  all_goals
    rw [if_neg (by omega), if_neg (by omega), if_neg (by omega)]
    have := hg 0 (by omega)
    have := hg 1 (by omega)
    exact vbin_lt (by omega) (by omega)
theorem ref_has_op {g z o y : Nat → Int} (hz : Nums z) (ho : Nums o) (hy : Nums y) (i : Nat) : saturateref12_Has.f (g i) (z i, o i) (y i) = some (decide (khas (elm g z o i) (cutv g y i))) := by
  obtain ⟨a, ha, la⟩ := hz i
  obtain ⟨b, hb, lb⟩ := ho i
  obtain ⟨c, hc, lc⟩ := hy i
  unfold elm cutv
  rw [ha, hb, hc]
  exact saturateref12_Has_eq (g i) la lb lc
theorem sound_j10 (fu : Nat) (op w : Int) {x n r : Nat} (h1 : op ≠ 1) (hx : x < U64) {g z o y : Nat → Int} (hz : Nums z) (ho : Nums o) (hy : Nums y) (h : (chkS op w x n n g).2 = 0) (hr : (chkS op w x n n g).1 = (r : Int)) (d : Nat) : ∀ (k i : Nat), n - i = d → i ≤ n → d < k → (∀ j, j < i → khas (elm g z o j) (cutv g y j)) →
    saturatelaw12_KnownSound.j10 fu k n r i n y op w x n n ((kvalS op r x g (elm g z o)).1 : Int) ((kvalS op r x g (elm g z o)).2 : Int) n g n z o = some true := by
  obtain ⟨_, hn, _, _, hg, r', hr', r1, r2, hc⟩ := chk_cas h
  obtain rfl : r' = r := by omega
  have hel : ∀ i, i < n → El (g i).toNat (elm g z o i) := fun i hi => by
    obtain ⟨v, _, hv, _, _, q, _⟩ := opd hz ho i (hg i hi).1 (hg i hi).2
    rw [hv]; exact q
  induction d with
  | zero =>
    intro k i hd hi hk hj
    obtain ⟨k, rfl⟩ : ∃ m, k = m + 1 := ⟨k - 1, by omega⟩
    obtain rfl : i = n := by omega
    have hv := vval_lt (y := cutv g y) h1 hx hc hg (fun j _ => cutv_lt _ _ _) r2
    have e1 := el_val hc hg hel r1 r2
    have l := val_sound h1 hc hg hel (fun j hj' => cutv_pow (hg j hj').1 (hg j hj').2) hj r1 r2
    rw [saturatelaw12_KnownSound.j10_succ, bifd_neg (by omega), result_eq h1 hx hy h, Option.bind_some, hr, Int.toNat_natCast]
    have q1 := saturateref12_Valid_eq (r' : Int) e1.l1 e1.l2
    rw [MK, W_of r1 r2, decide_eq_true e1.ok] at q1
    have q2 := known_Has_eq (r' : Int) e1.l1 e1.l2 hv
    have hk2 : khas (kvalS op r' x g (elm g z o)) (vcut r' (vvalS op r' x g (cutv g y))) := by
      rw [has_iff r2 e1 (show vcut r' (vvalS op r' x g (cutv g y)) < 2 ^ r' from Nat.mod_lt _ (pw_pos _))]
      rw [kcst_mod (b := vvalS op r' x g (cutv g y)) (by unfold vcut; rw [Nat.mod_mod])]
      exact l
    rw [MK, W_of r1 r2, e1.kof, decide_eq_true hk2] at q2
    rw [cond_true, q1, Option.bind_some, cond_true, q2, Option.bind_some, cond_true, lives12_true, Option.bind_some]
  | succ d ih =>
    intro k i hd hi hk hj
    obtain ⟨k, rfl⟩ : ∃ m, k = m + 1 := ⟨k - 1, by omega⟩
    rw [saturatelaw12_KnownSound.j10_succ, bifd_pos (by omega), bifd_pos (by omega), bifd_pos (by omega), bifd_pos (by omega), bifd_pos (by omega), bifd_pos (by omega), bifd_pos (by omega), Int.toNat_natCast, ref_has_op hz ho hy, Option.bind_some]
    by_cases q : khas (elm g z o i) (cutv g y i)
    · rw [decide_eq_true q, Bool.not_true, cond_false, wrapi, wrapi_succ (by omega)]
      exact ih k (i + 1) (by omega) (by omega) (by omega) (fun j hj' => by
        rcases Nat.lt_or_ge j i with h | h
        · exact hj j h
        · obtain rfl : j = i := by omega
          exact q)
    · rw [decide_eq_false q, Bool.not_false, cond_true, lives12_true, Option.bind_some]
end Go.Proofs.Ytbfniopkadaheaa.Fn
