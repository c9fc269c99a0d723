/- Terms: the facts of a term contain its value under any environment. lives() of the chapter on facts: its examples, one by one. -/
import Derived.Test.YtcihbcffokjgjaaGreatTF14
import Derived.Test.YtcihbcffokjgjaaGreatTF3
import Derived.Test.YtcihbcffokjgjaaGreatTFc
import Derived.Test.YtcihbcffokjgjaaGreatTKn
import Derived.Test.YtcihbcffokjgjaaGreatTF9
import Derived.Test.YtcihbcffokjgjaaGreatTTv
namespace Go.Proofs.YtcihbcffokjgjaaGreat.Fn
open Go Go.RowKit Go.Proofs.YtcihbcffokjgjaaGreat.Ev Go.Proofs.YtcihbcffokjgjaaGreat.Bv
set_option linter.unusedVariables false
set_option linter.unusedSimpArgs false
set_option maxRecDepth 100000
theorem look_ex {N : Nat} (hN : N ≤ 1000) (E : Nat → ByteArray) {V : Nat → Int} (hV : Nums V) (s : ByteArray) : ∃ (x : Nat) (b : Bool), saturateref08_Look.f (N, E, V) s = some ((x : Int), b) ∧ x < U64 := by
  unfold saturateref08_Look.f
  have hf : 1001 < fuel0 + 1 := by unfold fuel0; omega
  generalize fuel0 + 1 = fu at hf
  unfold saturateref08_Look.g
  have key : ∀ (d i k : Nat), i + d = N → d < k → ∃ (x : Nat) (b : Bool), saturateref08_Look.j2 fu k N s (i : Int) N E V = some ((x : Int), b) ∧ x < U64 := by
    intro d
    induction d with
    | zero =>
      intro i k hi hk
      obtain ⟨k, rfl⟩ : ∃ m, k = m + 1 := ⟨k - 1, by omega⟩
      exact ⟨0, false, by rw [saturateref08_Look.j2_succ, bifd_neg (by omega)]; rfl, by decide⟩
    | succ d ih =>
      intro i k hi hk
      obtain ⟨k, rfl⟩ : ∃ m, k = m + 1 := ⟨k - 1, by omega⟩
      rw [saturateref08_Look.j2_succ, bifd_pos (by omega), bifd_pos (by omega), bifd_pos (by omega), Int.toNat_natCast]
      cases ((E i).toList == s.toList)
      · rw [cond_false, wrapi, wrapi_succ (by omega)]
        exact ih (i + 1) k (by omega) (by omega)
      · obtain ⟨x, hx, lx⟩ := hV i
        rw [cond_true, bifd_pos (by omega), bifd_pos (by omega), hx]
        exact ⟨x, true, rfl, lx⟩
  exact key N 0 fu (by omega) (by omega)
theorem chkS_of {op w : Int} {x n : Nat} {g : Nat → Int} {r : Int} (h : widthS op w x n g = (r, 0)) (hp : ¬ (op = 24 ∨ op = 25 ∨ op = 26)) (hr : r ≠ 0) (hg : ∀ j, j < n → g j ≠ 0) : chkS op w x n n g = (r, 0) := by
  unfold chkS
  rw [h]
  simp only
  rw [if_neg (fun e => e rfl), if_neg (fun e => e rfl), if_neg hp, if_neg]
  rintro (h1 | ⟨j, hj, h1⟩)
  · exact hr h1
  · exact hg j hj h1
theorem node_ok {t : Tm} (h : nodeS t = 0) : ¬ (t.op = 24 ∨ t.op = 25 ∨ t.op = 26) ∧ 1 ≤ t.width ∧ widthS t.op t.width t.val.toNat t.kids.length (tr (wdS t.kids) t.kids.length) = (t.width, 0) := by
  unfold nodeS at h
  generalize hws : widthS t.op t.width t.val.toNat t.kids.length (tr (wdS t.kids) t.kids.length) = ws at h ⊢
  have b2 : decide (t.op = 24 ∨ t.op = 25 ∨ t.op = 26) = false ∧ decide (t.width < 1) = false ∧ (ws.2 == 0) = true ∧ (ws.1 == t.width) = true := by
    revert h
    generalize decide (arity t.op < 0) = b1
    generalize decide (t.op = 24 ∨ t.op = 25 ∨ t.op = 26) = b2
    generalize ((t.kids.length : Int) == arity t.op) = b3
    generalize (t.name.toList == (ByteArray.mk #[]).toList) = b4
    generalize (t.op == 1) = b5
    generalize (t.op == 2) = b6
    generalize (t.op == 21) = b7
    generalize (t.val == 0) = b8
    generalize nameS t.name = b9
    generalize decide (t.width < 1) = b10
    generalize (ws.2 == 0) = b11
    generalize (ws.1 == t.width) = b12
    cases b1
    · cases b2
      · cases b3
        · intro h; exact absurd (show (4 : Int) = 0 from h) (by decide)
        · cases b4 <;> cases b5 <;> cases b6 <;> cases b7 <;> cases b8 <;> cases b9 <;> cases b10 <;> cases b11 <;> cases b12 <;> simp
      · intro h; exact absurd (show (4 : Int) = 0 from h) (by decide)
    · intro h; exact absurd (show (4 : Int) = 0 from h) (by decide)
  obtain ⟨q1, q2, q3, q4⟩ := b2
  rw [decide_eq_false_iff_not] at q1 q2
  rw [beq_iff_eq] at q3 q4
  exact ⟨q1, by omega, Prod.ext q4 q3⟩
theorem firstE_kid : ∀ {K : List Tm}, firstE (postL K) = 0 → ∀ (i : Nat) u, K[i]? = some u → firstE (postT u) = 0
  | [], _, i, u, hu => by simp at hu
  | v :: K, h, i, u, hu => by
    rw [show postL (v :: K) = postT v ++ postL K by rw [postL], firstE_append] at h
    by_cases h0 : firstE (postT v) ≠ 0
    · rw [if_pos h0] at h; exact absurd h h0
    · rw [if_neg h0] at h
      cases i with
      | zero => simp at hu; subst hu; exact Decidable.not_not.1 h0
      | succ i => exact firstE_kid h i u (by simpa using hu)
theorem firstE_parts {t : Tm} (h : firstE (postT t) = 0) : nodeS t = 0 ∧ ∀ (i : Nat) u, t.kids[i]? = some u → firstE (postT u) = 0 := by
  rw [postT_kids, firstE_append] at h
  by_cases h0 : firstE (postL t.kids) ≠ 0
  · rw [if_pos h0] at h; exact absurd h h0
  · rw [if_neg h0] at h
    have h1 := Decidable.not_not.1 h0
    refine ⟨?_, firstE_kid h1⟩
    unfold firstE at h
    by_cases h2 : nodeS t ≠ 0
    · rw [if_pos h2] at h; exact absurd h h2
    · exact Decidable.not_not.1 h2
def Sound (N : Nat) (E : Nat → ByteArray) (V : Nat → Int) (n : Nat) (t : Tm) (m : F3) (x : Nat) (b : Bool) : Prop :=
  facR n t = fE m ∧ Fv m.1 m.2.1 m.2.2 ∧ m.1 = t.width ∧ (saturateref08_Value.FC n).1 (t, (N, E, V), ()) = some ((x : Int), b) ∧ x < U64 ∧ (b = true → hasN m x)
theorem value_j8 (rec : Tm × (Nat × (Nat → ByteArray) × (Nat → Int)) × Unit → Option (Int × Bool)) (hrec) (fu : Nat) (N : Nat) (E : Nat → ByteArray) (V : Nat → Int) (K : List Tm) (hK : K.length ≤ 1000) {X : Nat → Int} {B : Nat → Bool} (hr : ∀ (i : Nat) t, K[i]? = some t → rec (t, (N, E, V), ()) = some (X i, B i)) (c0 c1 c2 : Int) (c3 : ByteArray) :
    ∀ (ks : List Tm) (i k : Nat), K.drop i = ks → i ≤ K.length → ks.length < k → (∀ j, j < i → B j = true) →
    ((∃ j, j < K.length ∧ B j = false) ∧ saturateref08_Value.j8 rec hrec fu k N i (i : Int) N E V c0 c1 c2 c3 K i (tr (wdS K) i) (tr X i) = some (0, false)) ∨
    ((∀ j, j < K.length → B j = true) ∧ saturateref08_Value.j8 rec hrec fu k N i (i : Int) N E V c0 c1 c2 c3 K i (tr (wdS K) i) (tr X i) = (saturateref08_value.f c0 c1 c2 (K.length, tr (wdS K) K.length, tr X K.length)).bind fun r6 => some (r6, true))
  | [], i, k, hd, hi, hk, hB => by
    obtain ⟨k, rfl⟩ : ∃ m, k = m + 1 := ⟨k - 1, by omega⟩
    obtain rfl := drop_nil hd hi
    rw [saturateref08_Value.j8_succ, bifd_neg (by omega)]
    exact .inr ⟨hB, rfl⟩
  | t :: ks, i, k, hd, hi, hk, hB => by
    obtain ⟨k, rfl⟩ : ∃ m, k = m + 1 := ⟨k - 1, by rw [List.length_cons] at hk; omega⟩
    obtain ⟨h3, h4, h5⟩ := drop_cons hd
    rw [saturateref08_Value.j8_succ, bifd_pos (by omega), bifd_pos (by omega), bifd_pos (by omega), Int.toNat_natCast, h4, Option.bind_some, Tm.eta', hr i t h4, Option.bind_some]
    cases hb : B i with
    | false =>
      simp only [Bool.not_false]
      rw [cond_true]
      exact .inl ⟨⟨i, h3, hb⟩, rfl⟩
    | true =>
      simp only [Bool.not_true]
      rw [cond_false, bifd_pos (by omega), bifd_pos (by omega), Option.bind_some, ble_of (by omega), cond_true, wrapi, wrapi_succ (by omega), ← wdS_at h4, tr_cat, tr_cat]
      exact value_j8 rec hrec fu N E V K hK hr c0 c1 c2 c3 ks (i + 1) k h5 (by omega) (by rw [List.length_cons] at hk; omega) fun j hj => by
        rcases Nat.lt_or_ge j i with q | q
        · exact hB j q
        · obtain rfl : j = i := by omega
          exact hb
theorem redF_fst (a : Int) (q : Option ((Nat × Nat) × (Nat × Nat))) : (redF a q).1 = a := by cases q <;> rfl
theorem sound_FC {N : Nat} (hN : N ≤ 1000) (E : Nat → ByteArray) {V : Nat → Int} (hV : Nums V) : ∀ (n : Nat) (t : Tm), Ok t → dpT t ≤ n → firstE (postT t) = 0 → ∃ m x b, Sound N E V n t m x b := by
  intro n
  induction n with
  | zero => intro t _ h; have := dpT_eq t; omega
  | succ n ih =>
    intro t ht hd he
    have e2 := dpT_eq t
    have hl := ht.len
    obtain ⟨ev, lv⟩ := val_nat ht.wf
    obtain ⟨hnode, hkid⟩ := firstE_parts he
    obtain ⟨hpat, hw1, hws⟩ := node_ok hnode
    -- the operands
    have hex : ∀ i : Nat, ∃ q : F3 × Nat × Bool, ∀ u, t.kids[i]? = some u → Sound N E V n u q.1 q.2.1 q.2.2 := fun i => by
      cases hu : t.kids[i]? with
      | none => exact ⟨((0, (0, 0), (0, 0)), 0, false), fun u hu' => by cases hu'⟩
      | some u =>
        obtain ⟨m, x, b, h⟩ := ih u (ht.kid hu) (by have := szL_mem hu; omega) (hkid i u hu)
        exact ⟨(m, x, b), fun u' hu' => by cases hu'; exact h⟩
    obtain ⟨Q, hQ⟩ := Classical.axiomOfChoice hex
    have hQ' : ∀ i, i < t.kids.length → ∃ u, t.kids[i]? = some u ∧ Sound N E V n u (Q i).1 (Q i).2.1 (Q i).2.2 := fun i hi => ⟨t.kids[i], List.getElem?_eq_getElem hi, hQ i _ (List.getElem?_eq_getElem hi)⟩
    have hk : ∀ (i : Nat) u, t.kids[i]? = some u → NumF (facR n u) := fun i u hu => (fac_FC n u (ht.kid hu) (by have := szL_mem hu; omega)).2.1
    obtain ⟨n1, n2, n3, n4⟩ := kR_num hk
    have n1 := nums_tr n1 t.kids.length
    have n2 := nums_tr n2 t.kids.length
    have n3 := nums_tr n3 t.kids.length
    have n4 := nums_tr n4 t.kids.length
    have hop : ∀ i, i < t.kids.length → opF (tr (kR0 n t.kids) t.kids.length) (tr (kR1 n t.kids) t.kids.length) (tr (kR2 n t.kids) t.kids.length) (tr (kR3 n t.kids) t.kids.length) (tr (kR4 n t.kids) t.kids.length) i = (Q i).1 := fun i hi => by
      obtain ⟨u, hu, s1, s2, _⟩ := hQ' i hi
      have := (kR_at (n := n) hu).symm.trans s1
      unfold opF
      rw [tr_at hi, tr_at hi, tr_at hi, tr_at hi, tr_at hi]
      have f0 : kR0 n t.kids i = (Q i).1.1 := congrArg (·.1) this
      have f1 : kR1 n t.kids i = ((Q i).1.2.1.1 : Int) := congrArg (·.2.1) this
      have f2 : kR2 n t.kids i = ((Q i).1.2.1.2 : Int) := congrArg (·.2.2.1) this
      have f3 : kR3 n t.kids i = ((Q i).1.2.2.1 : Int) := congrArg (·.2.2.2.1) this
      have f4 : kR4 n t.kids i = ((Q i).1.2.2.2 : Int) := congrArg (·.2.2.2.2) this
      rw [f0, f1, f2, f3, f4]
      exact if_pos s2.val
    have hg : tr (opW (tr (kR0 n t.kids) t.kids.length) (tr (kR1 n t.kids) t.kids.length) (tr (kR2 n t.kids) t.kids.length) (tr (kR3 n t.kids) t.kids.length) (tr (kR4 n t.kids) t.kids.length)) t.kids.length = tr (wdS t.kids) t.kids.length := funext fun j => by
      by_cases hj : j < t.kids.length
      · rw [tr_at hj, tr_at hj]
        obtain ⟨u, hu, _, _, s3, _⟩ := hQ' j hj
        unfold opW
        rw [hop j hj, wdS_at hu, s3]
      · unfold tr; rw [if_neg hj, if_neg hj]
    have hwid : ∀ j, j < t.kids.length → 1 ≤ tr (wdS t.kids) t.kids.length j ∧ tr (wdS t.kids) t.kids.length j = (Q j).1.1 := fun j hj => by
      obtain ⟨u, hu, _, s2, s3, _⟩ := hQ' j hj
      rw [tr_at hj, wdS_at hu, ← s3]
      exact ⟨s2.a1, rfl⟩
    have hchk := chkS_of hws hpat (by omega) (fun j hj => by have := (hwid j hj).1; omega)
    have hc : (chkS t.op t.width t.val.toNat t.kids.length t.kids.length (tr (wdS t.kids) t.kids.length)).2 = 0 := by rw [hchk]
    obtain ⟨_, hn3, _, _, hgr, r, hr, r1, r2, hcas⟩ := chk_cas hc
    have hrw : (r : Int) = t.width := by rw [← hr, hchk]
    have ez := opZ_nums (l := tr (kR3 n t.kids) t.kids.length) (h := tr (kR4 n t.kids) t.kids.length) (G := tr (kR0 n t.kids) t.kids.length) n1 n2 t.kids.length
    have eo := opO_nums (l := tr (kR3 n t.kids) t.kids.length) (h := tr (kR4 n t.kids) t.kids.length) (G := tr (kR0 n t.kids) t.kids.length) n1 n2 t.kids.length
    obtain ⟨r', hr', _, _, hred⟩ := apQ_spec t.op t.width lv (n := t.kids.length) (g := tr (wdS t.kids) t.kids.length) (h := tr (opH (tr (kR0 n t.kids) t.kids.length) (tr (kR1 n t.kids) t.kids.length) (tr (kR2 n t.kids) t.kids.length) (tr (kR3 n t.kids) t.kids.length) (tr (kR4 n t.kids) t.kids.length)) t.kids.length) ez eo
      (opL_nn (G := tr (kR0 n t.kids) t.kids.length) (z := tr (kR1 n t.kids) t.kids.length) (o := tr (kR2 n t.kids) t.kids.length) (l := tr (kR3 n t.kids) t.kids.length) (h := tr (kR4 n t.kids) t.kids.length) t.kids.length) hc
    obtain rfl : r' = r := by omega
    have hfac := (fac_FC (n + 1) t ht hd).2.2 n rfl
    have hap : apN n t = fE (redF (r' : Int) (apQ t.op t.width t.val.toNat t.kids.length (tr (wdS t.kids) t.kids.length) (tr (opZ (tr (kR0 n t.kids) t.kids.length) (tr (kR1 n t.kids) t.kids.length) (tr (kR2 n t.kids) t.kids.length) (tr (kR3 n t.kids) t.kids.length) (tr (kR4 n t.kids) t.kids.length)) t.kids.length) (tr (opO (tr (kR0 n t.kids) t.kids.length) (tr (kR1 n t.kids) t.kids.length) (tr (kR2 n t.kids) t.kids.length) (tr (kR3 n t.kids) t.kids.length) (tr (kR4 n t.kids) t.kids.length)) t.kids.length) (tr (opL (tr (kR0 n t.kids) t.kids.length) (tr (kR1 n t.kids) t.kids.length) (tr (kR2 n t.kids) t.kids.length) (tr (kR3 n t.kids) t.kids.length) (tr (kR4 n t.kids) t.kids.length)) t.kids.length) (tr (opH (tr (kR0 n t.kids) t.kids.length) (tr (kR1 n t.kids) t.kids.length) (tr (kR2 n t.kids) t.kids.length) (tr (kR3 n t.kids) t.kids.length) (tr (kR4 n t.kids) t.kids.length)) t.kids.length))) := by
      unfold apN apV
      rw [hg, if_pos hc, hr]
    generalize hGz : tr (opZ (tr (kR0 n t.kids) t.kids.length) (tr (kR1 n t.kids) t.kids.length) (tr (kR2 n t.kids) t.kids.length) (tr (kR3 n t.kids) t.kids.length) (tr (kR4 n t.kids) t.kids.length)) t.kids.length = Z at *
    generalize hGo : tr (opO (tr (kR0 n t.kids) t.kids.length) (tr (kR1 n t.kids) t.kids.length) (tr (kR2 n t.kids) t.kids.length) (tr (kR3 n t.kids) t.kids.length) (tr (kR4 n t.kids) t.kids.length)) t.kids.length = O at *
    generalize hGl : tr (opL (tr (kR0 n t.kids) t.kids.length) (tr (kR1 n t.kids) t.kids.length) (tr (kR2 n t.kids) t.kids.length) (tr (kR3 n t.kids) t.kids.length) (tr (kR4 n t.kids) t.kids.length)) t.kids.length = L at *
    generalize hGh : tr (opH (tr (kR0 n t.kids) t.kids.length) (tr (kR1 n t.kids) t.kids.length) (tr (kR2 n t.kids) t.kids.length) (tr (kR3 n t.kids) t.kids.length) (tr (kR4 n t.kids) t.kids.length)) t.kids.length = H at *
    have oz : ∀ i, i < t.kids.length → Z i = ((Q i).1.2.1.1 : Int) := fun i hi => by rw [← hGz, tr_at hi]; unfold opZ; rw [hop i hi]
    have oo : ∀ i, i < t.kids.length → O i = ((Q i).1.2.1.2 : Int) := fun i hi => by rw [← hGo, tr_at hi]; unfold opO; rw [hop i hi]
    have ol : ∀ i, i < t.kids.length → L i = ((Q i).1.2.2.1 : Int) := fun i hi => by rw [← hGl, tr_at hi]; unfold opL; rw [hop i hi]
    have oh : ∀ i, i < t.kids.length → H i = ((Q i).1.2.2.2 : Int) := fun i hi => by rw [← hGh, tr_at hi]; unfold opH; rw [hop i hi]
    have hLn : ∀ i, 0 ≤ L i := fun i => by rw [← hGl]; exact opL_nn _ i
    have hHn : ∀ i, 0 ≤ H i := fun i => by rw [← hGh]; exact opH_nn _ i
    have hfv := redF_fv (a := (r' : Int)) (by omega) (by omega) hred
    have hm1 : (redF (r' : Int) (apQ t.op t.width t.val.toNat t.kids.length (tr (wdS t.kids) t.kids.length) Z O L H)).1 = t.width := by
      rw [redF_fst]; exact hrw
    have eW : W (r' : Int) = r' := W_of r1 r2
    have eM : MK (r' : Int) = vmask r' := congrArg vmask eW
    -- the value
    have hgoal : ∃ (x : Nat) (b : Bool), (saturateref08_Value.FC (n + 1)).1 (t, (N, E, V), ()) = some ((x : Int), b) ∧ x < U64 ∧ (b = true → hasN (redF (r' : Int) (apQ t.op t.width t.val.toNat t.kids.length (tr (wdS t.kids) t.kids.length) Z O L H)) x) := by
      have hf : 10000 < fuel0 + 1 := by unfold fuel0; omega
      have hunf : (saturateref08_Value.FC (n + 1)).1 (t, (N, E, V), ()) = saturateref08_Value.g (saturateref08_Value.FC n).1 (saturateref08_Value.FC n).2 (fuel0 + 1) t (N, E, V) := rfl
      rw [hunf]
      generalize fuel0 + 1 = fu at hf
      unfold saturateref08_Value.g
      by_cases h1 : t.op = 1
      · rw [show (t.op == 1) = true by rw [beq_iff_eq]; exact h1, cond_true]
        obtain ⟨x, b, hx, lx⟩ := look_ex hN E hV t.name
        simp only
        rw [hx, Option.bind_some]
        cases b with
        | false => exact ⟨0, false, rfl, by decide, fun e => by cases e⟩
        | true =>
          simp only [Bool.not_true]
          rw [cond_false, saturateref01_Cut_eq t.width lx, Option.bind_some]
          refine ⟨vcut (W t.width) x, true, rfl, vcut_lt x (W_le _), fun _ => ?_⟩
          have hk0 : kvalN t.op t.width t.val.toNat t.kids.length (tr (wdS t.kids) t.kids.length) Z O = (0, 0) := by unfold kvalN kvalS; rw [if_pos h1]
          have hr0 : rvalN t.op t.width t.val.toNat t.kids.length (tr (wdS t.kids) t.kids.length) L H = (0, vmask r') := by
            unfold rvalN resS
            rw [if_neg (fun e => e hc), hr]
            unfold valS
            rw [if_pos h1]
            exact Prod.ext rfl (by show (MM (r' : Int)).toNat = _; unfold MM; rw [eW, Int.toNat_natCast])
          rw [hk0, hr0] at hred
          have hx' : vcut r' x ≤ MK (r' : Int) := by rw [eM]; exact le_mask_of (Nat.mod_lt _ (pw_pos _))
          have h00 : khas (0, 0) (vcut r' x) := ⟨Nat.and_zero _, Nat.and_zero _⟩
          have hok : rok (vmask r') (0, vmask r') := ⟨Nat.zero_le _, Nat.le_refl _⟩
          have hin : inN (nrmN (MK (r' : Int)) (nrmN (vmask r') (0, vmask r'))) (vcut r' x) := by
            rw [eM, nrmN_of hok, nrmN_of hok]; exact ⟨Nat.zero_le _, by rw [eM] at hx'; exact hx'⟩
          have hWt : W t.width = r' := by rw [← hrw]; exact eW
          rw [hWt]
          generalize apQ t.op t.width t.val.toNat t.kids.length (tr (wdS t.kids) t.kids.length) Z O L H = q at hred ⊢
          cases q with
          | none => exact (hred _ hx' h00 hin).elim
          | some q =>
            have := hred.2 _ hx' h00 hin
            have e0 : vcut (W (r' : Int)) (vcut r' x) = vcut r' x := by rw [eW]; unfold vcut; rw [Nat.mod_mod]
            refine ⟨?_, ?_⟩
            · show khas q.1 (vcut (W (r' : Int)) _); rw [e0]; exact this.1
            · show inN q.2 (vcut (W (r' : Int)) _); rw [e0]; exact this.2
      · rw [show (t.op == 1) = false by rw [beq_eq_false_iff_ne]; exact h1, cond_false]
        have hj := value_j8 (saturateref08_Value.FC n).1 (saturateref08_Value.FC n).2 fu N E V t.kids (by omega) (X := fun i => ((Q i).2.1 : Int)) (B := fun i => (Q i).2.2) (fun i u hu => (hQ i u hu).2.2.2.1) t.op t.width t.val t.name t.kids 0 fu rfl (Nat.zero_le _) (by omega) (fun j hj => absurd hj (by omega))
        rw [tr_zero, tr_zero] at hj
        rcases hj with ⟨_, hj⟩ | ⟨hall, hj⟩
        · exact ⟨0, false, hj, by decide, fun e => by cases e⟩
        · have nX : Nums (tr (fun i => ((Q i).2.1 : Int)) t.kids.length) := fun i => by
            unfold tr
            split
            · rename_i hi
              obtain ⟨u, hu, s⟩ := hQ' i hi
              exact ⟨_, rfl, s.2.2.2.2.1⟩
            · exact ⟨0, rfl, by decide⟩
          have hval := value08 h1 lv hn3 nX hcas hgr r1 r2
          rw [ev, hrw] at hval
          rw [hval, Option.bind_some] at hj
          have hvl := vval_lt (y := cutv (tr (wdS t.kids) t.kids.length) (tr (fun i => ((Q i).2.1 : Int)) t.kids.length)) h1 lv hcas hgr (fun j _ => cutv_lt _ _ _) r2
          refine ⟨_, true, hj, hvl, fun _ => ?_⟩
          have hcut : ∀ j, j < t.kids.length → cutv (tr (wdS t.kids) t.kids.length) (tr (fun i => ((Q i).2.1 : Int)) t.kids.length) j = vcut (W (Q j).1.1) (Q j).2.1 := fun j hj' => by
            unfold cutv
            rw [(hwid j hj').2, tr_at hj', Int.toNat_natCast]
          exact (ap_sound h1 lv ez eo hLn hHn hc hr (y := cutv (tr (wdS t.kids) t.kids.length) (tr (fun i => ((Q i).2.1 : Int)) t.kids.length))
            (fun j hj' => cutv_pow (hgr j hj').1 (hgr j hj').2)
            (fun j hj' => by
              obtain ⟨u, hu, s⟩ := hQ' j hj'
              rw [hcut j hj']
              unfold elm
              rw [oz j hj', oo j hj', (hwid j hj').2, Int.toNat_natCast, Int.toNat_natCast]
              rw [show kof (vmask (W (Q j).1.1)) (Q j).1.2.1.1 (Q j).1.2.1.2 = (Q j).1.2.1 from s.2.1.kv.kof]
              exact (s.2.2.2.2.2 (hall j hj')).1)
            (fun j hj' => by
              obtain ⟨u, hu, s⟩ := hQ' j hj'
              rw [hcut j hj', ol j hj', oh j hj', (hwid j hj').2, Int.toNat_natCast, Int.toNat_natCast]
              rw [show nrmN (MK (Q j).1.1) ((Q j).1.2.2.1, (Q j).1.2.2.2) = (Q j).1.2.2 from nrmN_of s.2.1.rv]
              exact (s.2.2.2.2.2 (hall j hj')).2) hred).2
    obtain ⟨x, b, g1, g2, g3⟩ := hgoal
    exact ⟨_, x, b, hfac.trans hap, hfv, hm1, g1, g2, g3⟩
end Go.Proofs.YtcihbcffokjgjaaGreat.Fn
namespace Go.Proofs.YtcihbcffokjgjaaGreat.Fn
open Go Go.RowKit Go.Proofs.YtcihbcffokjgjaaGreat.Ev Go.Proofs.YtcihbcffokjgjaaGreat.Bv
set_option linter.unusedVariables false
set_option linter.unusedSimpArgs false
set_option maxRecDepth 100000
abbrev tX : Tm := Tm.mk 1 8 0 (ByteArray.mk #[120]) []
abbrev tC (n : Int) : Tm := Tm.mk 2 8 n (ByteArray.mk #[]) []
abbrev tLow : Tm := Tm.mk 5 8 0 (ByteArray.mk #[]) [tX, tC 15]
abbrev tUlt : Tm := Tm.mk 17 1 0 (ByteArray.mk #[]) [tLow, tC 16]
theorem l14_const : facts_Const.f 8 3 = some (8, 252, 3, 3, 3) := by kernel_rfl
theorem l14_const4 : facts_Const.f 8 4 = some (8, 251, 4, 4, 4) := by kernel_rfl
theorem l14_const1 : facts_Const.f 1 1 = some (1, 0, 1, 1, 1) := by kernel_rfl
theorem l14_var : term_Var.f (ByteArray.mk #[120]) 8 = some tX := by kernel_rfl
theorem l14_cst : term_Const.f 8 15 = some (tC 15) := by kernel_rfl
theorem l14_cst16 : term_Const.f 8 16 = some (tC 16) := by kernel_rfl
theorem l14_make : term_Make.f 5 [tX, tC 15] = some tLow := by kernel_rfl
theorem l14_make2 : term_Make.f 17 [tLow, tC 16] = some tUlt := by kernel_rfl
theorem l14_top : facts_Top.f 8 = some (8, 0, 0, 0, 255) := by kernel_rfl
theorem l14_top4 : facts_Top.f 4 = some (4, 0, 0, 0, 15) := by kernel_rfl
theorem l14_meet : facts_Meet.f (8, 252, 3, 3, 3) (8, 0, 0, 0, 255) = some ((8, 252, 3, 3, 3), true) := by kernel_rfl
theorem l14_meet2 : facts_Meet.f (8, 252, 3, 3, 3) (8, 251, 4, 4, 4) = some ((8, 0, 0, 0, 255), false) := by kernel_rfl
theorem l14_chk0 : term_Check.f (Tm.mk 0 0 0 (ByteArray.mk #[]) []) = some 4 := by kernel_rfl
theorem l14_chk1 : term_Check.f tLow = some 0 := by kernel_rfl
theorem l14_chk2 : term_Check.f tUlt = some 0 := by kernel_rfl
theorem l14_c1 : facts_compute.f tLow = some (8, 240, 0, 0, 15) := by kernel_rfl
theorem l14_c2 : facts_compute.f tUlt = some (1, 0, 1, 1, 1) := by kernel_rfl
theorem l14_val : facts_Valid.f (8, 240, 0, 0, 15) = some true := by kernel_rfl
theorem l14_val2 : facts_Valid.f (8, 240, 0, 0, 255) = some false := by kernel_rfl
theorem l14_join : facts_Join.f (8, 0, 0, 0, 255) (4, 0, 0, 0, 15) = some ((0, 0, 0, 0, 0), 3) := by kernel_rfl
theorem l14_of0 : facts_Of.f (Tm.mk 0 0 0 (ByteArray.mk #[]) []) = some ((0, 0, 0, 0, 0), 4) := by
  unfold facts_Of.f
  rw [show (Tm.mk (Tm.mk 0 0 0 (ByteArray.mk #[]) []).op (Tm.mk 0 0 0 (ByteArray.mk #[]) []).width (Tm.mk 0 0 0 (ByteArray.mk #[]) []).val (Tm.mk 0 0 0 (ByteArray.mk #[]) []).name (Tm.mk 0 0 0 (ByteArray.mk #[]) []).kids) = Tm.mk 0 0 0 (ByteArray.mk #[]) [] from rfl, l14_chk0]
  rfl
theorem Tm.eta (t : Tm) : Tm.mk t.op t.width t.val t.name t.kids = t := by cases t; rfl
theorem l14_ofs {t : Tm} {a b c d e : Int} (h : term_Check.f t = some 0) (hc : facts_compute.f t = some (a, b, c, d, e)) : facts_Of.f t = some ((a, b, c, d, e), 0) := by
  unfold facts_Of.f
  rw [Tm.eta, h]
  simp only [Option.bind_some, bne_self_eq_false, cond_false]
  rw [hc]
  rfl
section
variable (v1 : ByteArray × Int × Unit → Option Tm) (v2 : Int × Int × Unit → Option Tm) (v3 : Int × List Tm × Unit → Option Tm) (v4 : Tm × Unit → Option ((Int × Int × Int × Int × Int) × Int)) (v5 : Int × Int × Unit → Option (Int × Int × Int × Int × Int)) (v6 : Int × Unit → Option (Int × Int × Int × Int × Int)) (v7 : (Int × Int × Int × Int × Int) × (Int × Int × Int × Int × Int) × Unit → Option ((Int × Int × Int × Int × Int) × Bool)) (v8 : (Int × Int × Int × Int × Int) × (Int × Int × Int × Int × Int) × Unit → Option ((Int × Int × Int × Int × Int) × Int)) (v9 : (Int × Int × Int × Int × Int) × Unit → Option Bool)
theorem lives14_abs {h1 h2 h3 h4 h5 h6 h7 h8 h9} (e1 : v1 (ByteArray.mk #[120], 8, ()) = some tX) (e2 : v2 (8, 15, ()) = some (tC 15)) (e2' : v2 (8, 16, ()) = some (tC 16)) (e3 : v3 (5, [tX, tC 15], ()) = some tLow) (e3' : v3 (17, [tLow, tC 16], ()) = some tUlt)
    (e4 : v4 (tLow, ()) = some ((8, 240, 0, 0, 15), 0)) (e4' : v4 (tUlt, ()) = some ((1, 0, 1, 1, 1), 0)) (e4'' : v4 (Tm.mk 0 0 0 (ByteArray.mk #[]) [], ()) = some ((0, 0, 0, 0, 0), 4))
    (e5 : v5 (8, 3, ()) = some (8, 252, 3, 3, 3)) (e5' : v5 (8, 4, ()) = some (8, 251, 4, 4, 4)) (e5'' : v5 (1, 1, ()) = some (1, 0, 1, 1, 1)) (e6 : v6 (8, ()) = some (8, 0, 0, 0, 255)) (e6' : v6 (4, ()) = some (4, 0, 0, 0, 15))
    (e7 : v7 ((8, 252, 3, 3, 3), (8, 0, 0, 0, 255), ()) = some ((8, 252, 3, 3, 3), true)) (e7' : v7 ((8, 252, 3, 3, 3), (8, 251, 4, 4, 4), ()) = some ((8, 0, 0, 0, 255), false)) (e8 : v8 ((8, 0, 0, 0, 255), (4, 0, 0, 0, 15), ()) = some ((0, 0, 0, 0, 0), 3))
    (e9 : v9 ((8, 240, 0, 0, 15), ()) = some true) (e9' : v9 ((8, 240, 0, 0, 255), ()) = some false) : saturatelaw14_lives.fv v1 h1 v2 h2 v3 h3 v4 h4 v5 h5 v6 h6 v7 h7 v8 h8 v9 h9 = some true := by
  unfold saturatelaw14_lives.fv
  simp only [Tm.eta, e1, e2, e2', Option.bind_some, e3, e3', e4, e4', e4'', e5, e5', e5'', e6, e6', e7, e7', e8, e9, e9', beq_self_eq_true, Bool.and_self, cond_true, Bool.not_false]
end
theorem lives14_true : saturatelaw14_lives.f = some true := by
  delta saturatelaw14_lives.f
  exact @lives14_abs (fun a => term_Var.f a.1 a.2.1) (fun a => term_Const.f a.1 a.2.1) (fun a => term_Make.f a.1 a.2.1) (fun a => facts_Of.f a.1) (fun a => facts_Const.f a.1 a.2.1) (fun a => facts_Top.f a.1) (fun a => facts_Meet.f a.1 a.2.1) (fun a => facts_Join.f a.1 a.2.1) (fun a => facts_Valid.f a.1) ⟨term_Var.con⟩ ⟨term_Const.con⟩ ⟨term_Make.con⟩ ⟨facts_Of.con⟩ ⟨facts_Const.con⟩ ⟨facts_Top.con⟩ ⟨facts_Meet.con⟩ ⟨facts_Join.con⟩ ⟨facts_Valid.con⟩ l14_var l14_cst l14_cst16 l14_make l14_make2 (l14_ofs l14_chk1 l14_c1) (l14_ofs l14_chk2 l14_c2) l14_of0 l14_const l14_const4 l14_const1 l14_top l14_top4 l14_meet l14_meet2 l14_join l14_val l14_val2
end Go.Proofs.YtcihbcffokjgjaaGreat.Fn
