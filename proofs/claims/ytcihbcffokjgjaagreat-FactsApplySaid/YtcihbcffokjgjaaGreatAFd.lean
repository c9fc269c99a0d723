/- Facts: Apply of the program and of the reference compute the same; what it is. -/
import Derived.Test.YtcihbcffokjgjaaGreatAF11
import Derived.Test.YtcihbcffokjgjaaGreatAF2
import Derived.Test.YtcihbcffokjgjaaGreatAF3
import Derived.Test.YtcihbcffokjgjaaGreatAF7
import Derived.Test.YtcihbcffokjgjaaGreatAFb
import Derived.Test.YtcihbcffokjgjaaGreatAKi
import Derived.Test.YtcihbcffokjgjaaGreatATz
namespace Go.Proofs.YtcihbcffokjgjaaGreat.Fn
open Go Go.RowKit Go.Proofs.YtcihbcffokjgjaaGreat.Ev Go.Proofs.YtcihbcffokjgjaaGreat.Bv
set_option linter.unusedVariables false
set_option linter.unusedSimpArgs false
set_option maxRecDepth 100000

/-- The first n values. -/
def tr (v : Nat → Int) (n j : Nat) : Int := if j < n then v j else 0
theorem tr_zero (v : Nat → Int) : tr v 0 = fun _ => 0 := funext fun j => if_neg (Nat.not_lt_zero j)
theorem tr_upd (v : Nat → Int) (n : Nat) : upd n (v n) (tr v n) = tr v (n + 1) := funext fun j => by
  unfold upd tr
  by_cases h : j = n
  · subst h; rw [show Nat.beq j j = true from Nat.beq_refl j, cond_true, if_pos (by omega)]
  · rw [show Nat.beq j n = false by cases e : Nat.beq j n with | true => exact absurd (Nat.eq_of_beq_eq_true e) h | false => rfl, cond_false]
    by_cases h2 : j < n
    · rw [if_pos h2, if_pos (by omega)]
    · rw [if_neg h2, if_neg (by omega)]
theorem tr_cat (v : Nat → Int) (n : Nat) : cat n (tr v n) (fun i => [v n].getD i 0) = tr v (n + 1) := funext fun j => by
  unfold cat tr
  by_cases h : j < n
  · rw [show Nat.blt j n = true by rw [Nat.blt_eq]; exact h, cond_true, if_pos h, if_pos (by omega)]
  · rw [show Nat.blt j n = false by cases e : Nat.blt j n with | true => rw [Nat.blt_eq] at e; omega | false => rfl, cond_false]
    by_cases h2 : j = n
    · subst h2; rw [Nat.sub_self, if_pos (by omega)]; rfl
    · rw [if_neg (by omega)]
      obtain ⟨d, hd⟩ : ∃ d, j - n = d + 1 := ⟨j - n - 1, by omega⟩
      rw [hd]; rfl
/-- The facts that the operands stand for. -/
def opF (G z o l h : Nat → Int) (i : Nat) : F3 := ofN (G i) ((z i).toNat, (o i).toNat) ((l i).toNat, (h i).toNat)
def opW (G z o l h : Nat → Int) (i : Nat) : Int := (opF G z o l h i).1
def opZ (G z o l h : Nat → Int) (i : Nat) : Int := ((opF G z o l h i).2.1.1 : Int)
def opO (G z o l h : Nat → Int) (i : Nat) : Int := ((opF G z o l h i).2.1.2 : Int)
def opL (G z o l h : Nat → Int) (i : Nat) : Int := ((opF G z o l h i).2.2.1 : Int)
def opH (G z o l h : Nat → Int) (i : Nat) : Int := ((opF G z o l h i).2.2.2 : Int)
section
variable {G z o l h : Nat → Int} (hz : Nums z) (ho : Nums o) (hl : Nums l) (hh : Nums h)
include hz ho
theorem opF_fv (i : Nat) : Fv (opF G z o l h i).1 (opF G z o l h i).2.1 (opF G z o l h i).2.2 := by
  obtain ⟨a, ha, la⟩ := hz i
  obtain ⟨b, hb, lb⟩ := ho i
  exact ofN_fv (G i) (k := ((z i).toNat, (o i).toNat)) (by simp only; omega) (by simp only; omega)
theorem opZ_nums (n : Nat) : Nums (tr (opZ G z o l h) n) := fun i => by
  unfold tr
  split
  · exact ⟨_, rfl, (opF_fv hz ho i).kv.l1⟩
  · exact ⟨0, rfl, by decide⟩
theorem opO_nums (n : Nat) : Nums (tr (opO G z o l h) n) := fun i => by
  unfold tr
  split
  · exact ⟨_, rfl, (opF_fv hz ho i).kv.l2⟩
  · exact ⟨0, rfl, by decide⟩
omit hz ho in
theorem opL_nn (n : Nat) (i : Nat) : 0 ≤ tr (opL G z o l h) n i := by
  unfold tr
  split
  · exact Int.natCast_nonneg _
  · exact Int.le_refl _
omit hz ho in
theorem opH_nn (n : Nat) (i : Nat) : 0 ≤ tr (opH G z o l h) n i := by
  unfold tr
  split
  · exact Int.natCast_nonneg _
  · exact Int.le_refl _
include hl hh
theorem op_prog (i : Nat) : facts_of.f (G i, z i, o i, l i, h i) = some (opW G z o l h i, opZ G z o l h i, opO G z o l h i, opL G z o l h i, opH G z o l h i) := by
  obtain ⟨a, ha, la⟩ := hz i
  obtain ⟨b, hb, lb⟩ := ho i
  obtain ⟨c, hc, lc⟩ := hl i
  obtain ⟨d, hd, ld⟩ := hh i
  have := facts_of_eq (G i) (k := (a, b)) (r := (c, d)) la lb
  unfold opW opZ opO opL opH opF
  rw [ha, hb, hc, hd]
  exact this
theorem op_ref (i : Nat) : saturateref14_Norm.f (G i, z i, o i, l i, h i) = some (opW G z o l h i, opZ G z o l h i, opO G z o l h i, opL G z o l h i, opH G z o l h i) := by
  obtain ⟨a, ha, la⟩ := hz i
  obtain ⟨b, hb, lb⟩ := ho i
  obtain ⟨c, hc, lc⟩ := hl i
  obtain ⟨d, hd, ld⟩ := hh i
  have := saturateref14_Norm_eq (G i) (k := (a, b)) (r := (c, d)) la lb
  unfold opW opZ opO opL opH opF
  rw [ha, hb, hc, hd]
  exact this
end
/-- What is left to do once the operands are there: the program. -/
noncomputable def apP (op w x : Int) (n : Nat) (g z o l h : Nat → Int) : Option (FT × Int) :=
  (known_Apply.f op w x (n, g) (n, z, o)).bind fun r2 =>
    bif (r2.2 != 0) then
      some ((0, 0, 0, 0, 0), r2.2)
    else
      (ranges_Apply.f op w x (n, g) (n, l, h)).bind fun r3 =>
      bif (r3.2 != 0) then
        some ((0, 0, 0, 0, 0), r3.2)
      else
        (opinfo_Width.f op w x (n, g)).bind fun r4 =>
        bif (r4.2 != 0) then
          some ((0, 0, 0, 0, 0), r4.2)
        else
          (facts_Reduce.f (r4.1, r2.1.1, r2.1.2, r3.1.1, r3.1.2)).bind fun r5 =>
          some ((r5.1.1, r5.1.2.1, r5.1.2.2.1, r5.1.2.2.2.1, r5.1.2.2.2.2), 0)
noncomputable def apR (op w x : Int) (n : Nat) (g z o l h : Nat → Int) : Option (FT × Int) :=
  (saturateref12_Refused.f op w x (n, g) (n : Int)).bind fun r2 =>
    bif (r2.2 != 0) then
      some ((0, 0, 0, 0, 0), r2.2)
    else
      (saturateref12_Apply.f op w x (n, g) (n, z, o)).bind fun r3 =>
      (saturateref13_Apply.f op w x (n, g) (n, l, h)).bind fun r4 =>
      (saturateref14_Reduce.f (r2.1, r3.1.1, r3.1.2, r4.1.1, r4.1.2)).bind fun r5 =>
      some ((r5.1.1, r5.1.2.1, r5.1.2.2.1, r5.1.2.2.2.1, r5.1.2.2.2.2), 0)
theorem ap_j5 (fu : Nat) (op w x : Int) {n : Nat} (hn : n ≤ 1000) {G z o l h : Nat → Int} (hz : Nums z) (ho : Nums o) (hl : Nums l) (hh : Nums h) (c0 c1 c2 c3 c4 : Int) (d : Nat) : ∀ (k i : Nat), i + d = n → d < k →
    facts_Apply.j5 fu k op w x n n n n (n : Int) (i : Int) n G z o l h c0 c1 c2 c3 c4 n (tr (opW G z o l h) i) n (tr (opZ G z o l h) i) (tr (opO G z o l h) i) n (tr (opL G z o l h) i) (tr (opH G z o l h) i) =
      apP op w x n (tr (opW G z o l h) n) (tr (opZ G z o l h) n) (tr (opO G z o l h) n) (tr (opL G z o l h) n) (tr (opH G z o l h) n) := by
  induction d with
  | zero =>
    intro k i hi hk
    obtain ⟨k, rfl⟩ : ∃ m, k = m + 1 := ⟨k - 1, by omega⟩
    obtain rfl : i = n := by omega
    rw [facts_Apply.j5_succ, bifd_neg (by omega)]; rfl
  | succ d ih =>
    intro k i hi hk
    obtain ⟨k, rfl⟩ : ∃ m, k = m + 1 := ⟨k - 1, by omega⟩
    rw [facts_Apply.j5_succ, bifd_pos (by omega), bifd_pos (by omega), bifd_pos (by omega), Int.toNat_natCast, op_prog hz ho hl hh i, Option.bind_some, bifd_pos (by omega), bifd_pos (by omega), bifd_pos (by omega), bifd_pos (by omega), bifd_pos (by omega), bifd_pos (by omega), wrapi, wrapi_succ (by omega), tr_upd, tr_upd, tr_upd, tr_upd, tr_upd]
    exact ih k (i + 1) (by omega) (by omega)
theorem ble_of {m n : Nat} (h : m ≤ n) : Nat.ble m n = true := by rw [Nat.ble_eq]; exact h
theorem ref_ap_j5 (fu : Nat) (op w x : Int) {n : Nat} (hn : n ≤ 1000) {G z o l h : Nat → Int} (hz : Nums z) (ho : Nums o) (hl : Nums l) (hh : Nums h) (c0 c1 c2 c3 c4 : Int) (d : Nat) : ∀ (k i : Nat), i + d = n → d < k →
    saturateref14_Apply.j5 fu k op w x n i i i (i : Int) n G z o l h c0 c1 c2 c3 c4 i (tr (opW G z o l h) i) i (tr (opZ G z o l h) i) (tr (opO G z o l h) i) i (tr (opL G z o l h) i) (tr (opH G z o l h) i) =
      apR op w x n (tr (opW G z o l h) n) (tr (opZ G z o l h) n) (tr (opO G z o l h) n) (tr (opL G z o l h) n) (tr (opH G z o l h) n) := by
  induction d with
  | zero =>
    intro k i hi hk
    obtain ⟨k, rfl⟩ : ∃ m, k = m + 1 := ⟨k - 1, by omega⟩
    obtain rfl : i = n := by omega
    rw [saturateref14_Apply.j5_succ, bifd_neg (by omega)]; rfl
  | succ d ih =>
    intro k i hi hk
    obtain ⟨k, rfl⟩ : ∃ m, k = m + 1 := ⟨k - 1, by omega⟩
    rw [saturateref14_Apply.j5_succ, bifd_pos (by omega), bifd_pos (by omega), bifd_pos (by omega), Int.toNat_natCast, op_ref hz ho hl hh i, Option.bind_some, ble_of (by omega), ble_of (by omega), cond_true, cond_true, cond_true, wrapi, wrapi_succ (by omega), tr_cat, tr_cat, tr_cat, tr_cat, tr_cat]
    exact ih k (i + 1) (by omega) (by omega)
theorem wid_chk {op w : Int} {x n m : Nat} {g : Nat → Int} (h : (chkS op w x n m g).2 = 0) : widthS op w x n g = chkS op w x n m g := by
  obtain ⟨h1, h2, h3, h4, h5, h6, h7, h8⟩ := chkS_ok h
  unfold chkS at h h6 ⊢
  by_cases q1 : m ≠ n
  · exact absurd h3 q1
  · rw [if_neg q1] at h h6 ⊢
    by_cases q2 : (widthS op w x n g).2 ≠ 0
    · rw [if_pos q2] at h; exact absurd h q2
    · rw [if_neg q2] at h h6 ⊢
      rw [if_neg (show ¬ (op = 24 ∨ op = 25 ∨ op = 26) by omega)] at h h6 ⊢
      by_cases q4 : (widthS op w x n g).1 = 0 ∨ ∃ j, j < n ∧ g j = 0
      · rw [if_pos q4] at h; exact absurd h (by decide)
      · rw [if_neg q4] at h h6 ⊢
        exact Prod.ext rfl (Decidable.not_not.1 q2)
theorem valS_nn {op r : Int} {x n : Nat} {g : Nat → Int} {q : Nat → Int × Int} (hq : ∀ i, 0 ≤ (q i).1 ∧ 0 ≤ (q i).2) : 0 ≤ (valS op r x n g q).1 ∧ 0 ≤ (valS op r x n g q).2 := by
  unfold valS
  split
  · exact ⟨Int.le_refl _, MM_nn _⟩
  · split
    · exact ⟨Int.natCast_nonneg _, Int.natCast_nonneg _⟩
    · split
      · split
        · split
          · exact hq 1
          · exact hq 2
        · unfold jn
          have h1 := hq 1
          have h2 := hq 2
          constructor
          · rcases mn_c (q 1).1 (q 2).1 with e | e <;> rw [e] <;> omega
          · rcases mx_c (q 1).2 (q 2).2 with e | e <;> rw [e] <;> omega
      · split
        · exact ⟨Int.natCast_nonneg _, Int.natCast_nonneg _⟩
        · exact ⟨Int.natCast_nonneg _, Int.natCast_nonneg _⟩
noncomputable def rvalN (op w : Int) (x n : Nat) (g l h : Nat → Int) : Nat × Nat := ((resS op w x n n g l h).1.1.toNat, (resS op w x n n g l h).1.2.toNat)
noncomputable def kvalN (op w : Int) (x n : Nat) (g z o : Nat → Int) : Nat × Nat := kvalS op (chkS op w x n n g).1.toNat x g (elm g z o)
/-- What Apply returns, in both. -/
theorem ap_ex (op w : Int) {x n : Nat} (hx : x < U64) {g z o l h : Nat → Int} (hz : Nums z) (ho : Nums o) (hl : ∀ i, 0 ≤ l i) (hh : ∀ i, 0 ≤ h i) :
    ((chkS op w x n n g).2 ≠ 0 → apP op w x n g z o l h = some ((0, 0, 0, 0, 0), (chkS op w x n n g).2) ∧ apR op w x n g z o l h = some ((0, 0, 0, 0, 0), (chkS op w x n n g).2)) ∧
    ((chkS op w x n n g).2 = 0 → ∃ r : Nat, (chkS op w x n n g).1 = (r : Int) ∧ 1 ≤ r ∧ r ≤ 64 ∧ El r (kvalN op w x n g z o) ∧ ∃ q, RedP (r : Int) (kvalN op w x n g z o) (nrmN (vmask r) (rvalN op w x n g l h)) q ∧
      apP op w x n g z o l h = some (fE (redF (r : Int) q), 0) ∧ apR op w x n g z o l h = some (fE (redF (r : Int) q), 0)) := by
  unfold apP apR
  rw [apply_prog12 hx n n hz ho, apply_ref12 hx n n hz ho, saturateref12_Refused_eq hx, apply_prog hx n n g l h hl, apply_ref hx n n g l h hl, opinfo_Width_eq hx]
  simp only [Option.bind_some]
  refine ⟨fun hc => ?_, fun hc => ?_⟩
  · unfold kresS
    rw [if_pos hc]
    simp only
    rw [show ((chkS op w x n n g).2 != 0) = true by rw [bne_iff_ne]; exact hc, cond_true, cond_true]
    exact ⟨rfl, rfl⟩
  · obtain ⟨_, hn, _, _, hg, r, hr, r1, r2, hcas⟩ := chk_cas hc
    have hel : El r (kvalN op w x n g z o) := by
      unfold kvalN
      rw [hr, Int.toNat_natCast]
      exact el_val hcas hg (fun i hi => by
        have hgi := hg i hi
        obtain ⟨v, _, e2, _, _, e3, _⟩ := opd hz ho i hgi.1 hgi.2
        rw [e2]; exact e3) r1 r2
    have hk : kresS op w x n n g z o = ((((kvalN op w x n g z o).1 : Int), ((kvalN op w x n g z o).2 : Int)), 0) := by unfold kresS; rw [if_neg (fun e => e hc)]; rfl
    have hrv : resS op w x n n g l h = ((((rvalN op w x n g l h).1 : Int), ((rvalN op w x n g l h).2 : Int)), 0) := by
      have hv : resS op w x n n g l h = (valS op (chkS op w x n n g).1 x n g (fun i => nrm (MM (g i)) (l i, h i)), 0) := by unfold resS; rw [if_neg (fun e => e hc)]
      have hnn := valS_nn (op := op) (r := (chkS op w x n n g).1) (x := x) (n := n) (g := g) (q := fun i => nrm (MM (g i)) (l i, h i)) (fun i => by
        have := nrm_ok (MM_nn (g i)) (r := (l i, h i)) (hl i)
        omega)
      unfold rvalN
      rw [hv]
      refine Prod.ext (Prod.ext ?_ ?_) rfl
      · exact (Int.toNat_of_nonneg hnn.1).symm
      · exact (Int.toNat_of_nonneg hnn.2).symm
    have hw := wid_chk hc
    rw [hk, hrv, hw]
    simp only
    rw [hc, bne_self_eq_false, cond_false, cond_false, cond_false, cond_false, hr]
    obtain ⟨q, p1, _, p3, p4⟩ := reduce_ex (r : Int) (k := kvalN op w x n g z o) (r := rvalN op w x n g l h) hel.l1 hel.l2
    have eW : W (r : Int) = r := W_of r1 r2
    have eM : MK (r : Int) = vmask r := congrArg vmask eW
    rw [eW] at p1 p3 p4
    rw [eM, hel.kof] at p1
    rw [redR_eq] at p3 p4
    refine ⟨r, rfl, r1, r2, hel, q, p1, ?_, ?_⟩
    · rw [show facts_Reduce.f ((r : Int), ((kvalN op w x n g z o).1 : Int), ((kvalN op w x n g z o).2 : Int), ((rvalN op w x n g l h).1 : Int), ((rvalN op w x n g l h).2 : Int)) = _ from p3, Option.bind_some]
    · rw [show saturateref14_Reduce.f ((r : Int), ((kvalN op w x n g z o).1 : Int), ((kvalN op w x n g z o).2 : Int), ((rvalN op w x n g l h).1 : Int), ((rvalN op w x n g l h).2 : Int)) = _ from p4, Option.bind_some]
theorem facts_Apply_eq (op w : Int) {x n : Nat} (hn : n ≤ 1000) {G z o l h : Nat → Int} (hz : Nums z) (ho : Nums o) (hl : Nums l) (hh : Nums h) : facts_Apply.f op w x (n, G, z, o, l, h) = apP op w x n (tr (opW G z o l h) n) (tr (opZ G z o l h) n) (tr (opO G z o l h) n) (tr (opL G z o l h) n) (tr (opH G z o l h) n) := by
  unfold facts_Apply.f
  have hf : 1000 < fuel0 := by unfold fuel0; omega
  generalize fuel0 = m at hf
  unfold facts_Apply.g
  simp only
  rw [bifd_pos (by omega), ble_of (by omega), cond_true, bifd_pos (by omega), ble_of (by omega), cond_true, bifd_pos (by omega), cond_true]
  have := ap_j5 (m + 1) op w (x : Int) hn hz ho hl hh (G := G) 0 0 0 0 0 n (m + 1) 0 (by omega) (by omega)
  rw [tr_zero, tr_zero, tr_zero, tr_zero, tr_zero] at this
  exact this
theorem saturateref14_Apply_eq (op w : Int) {x n : Nat} (hn : n ≤ 1000) {G z o l h : Nat → Int} (hz : Nums z) (ho : Nums o) (hl : Nums l) (hh : Nums h) : saturateref14_Apply.f op w x (n, G, z, o, l, h) = apR op w x n (tr (opW G z o l h) n) (tr (opZ G z o l h) n) (tr (opO G z o l h) n) (tr (opL G z o l h) n) (tr (opH G z o l h) n) := by
  unfold saturateref14_Apply.f
  have hf : 1000 < fuel0 := by unfold fuel0; omega
  generalize fuel0 = m at hf
  unfold saturateref14_Apply.g
  simp only
  have := ref_ap_j5 (m + 1) op w (x : Int) hn hz ho hl hh (G := G) 0 0 0 0 0 n (m + 1) 0 (by omega) (by omega)
  rw [tr_zero, tr_zero, tr_zero, tr_zero, tr_zero] at this
  exact this
end Go.Proofs.YtcihbcffokjgjaaGreat.Fn
