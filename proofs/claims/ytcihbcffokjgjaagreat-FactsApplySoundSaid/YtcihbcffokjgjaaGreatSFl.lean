/- Facts: Apply's facts contain the operator's value. The law's value of an operator, and the law's loop over the operands. lives() of the chapter on facts: its examples, one by one. -/
import Derived.Test.YtcihbcffokjgjaaGreatSKb
import Derived.Test.YtcihbcffokjgjaaGreatSFd
import Derived.Test.YtcihbcffokjgjaaGreatSTw
import Derived.Test.YtcihbcffokjgjaaGreatSF7
import Derived.Test.YtcihbcffokjgjaaGreatSTp
namespace Go.Proofs.YtcihbcffokjgjaaGreat.Fn
open Go Go.RowKit Go.Proofs.YtcihbcffokjgjaaGreat.Ev Go.Proofs.YtcihbcffokjgjaaGreat.Bv
set_option linter.unusedVariables false
set_option linter.unusedSimpArgs false
set_option maxRecDepth 100000

theorem vbin_two {op : Int} {v u a b : Nat} (h5 : 5 ≤ op) (h20 : op ≤ 20) (h19 : op ≠ 19) : vbinS op v u a b = twoV op v u a b := by
  have hs : op = 5 ∨ op = 6 ∨ op = 7 ∨ op = 8 ∨ op = 9 ∨ op = 10 ∨ op = 11 ∨ op = 12 ∨ op = 13 ∨ op = 14 ∨ op = 15 ∨ op = 16 ∨ op = 17 ∨ op = 18 ∨ op = 20 := by omega
  unfold vbinS twoV kval
  rcases hs with rfl | rfl | rfl | rfl | rfl | rfl | rfl | rfl | rfl | rfl | rfl | rfl | rfl | rfl | rfl
  all_goals simp only [Int.reduceEq, if_true, if_false]
theorem snd_cut {r : Nat} {s : Nat × Nat} {y : Nat} (h : Snd r s y) : Snd r s (vcut r y) := by
  have : vcut r y = y := Nat.mod_eq_of_lt (lt_of_le_mask (Nat.le_trans h.2.1 h.2.2))
  rw [this]; exact h
theorem rval_snd {op : Int} {r x n : Nat} {g : Nat → Int} (h1 : op ≠ 1) (hc : Cas op r x n g) (hg : ∀ i, i < n → 1 ≤ g i ∧ g i ≤ 64) (r1 : 1 ≤ r) (r2 : r ≤ 64) {q : Nat → Int × Int} {p : Nat → Nat × Nat} (hq : ∀ i, i < n → q i = cp (p i))
    (hp : ∀ i, i < n → rok (vmask (g i).toNat) (p i)) {y : Nat → Nat} (hy : ∀ i, i < n → inN (p i) (y i)) : ∃ s : Nat × Nat, valS op (r : Int) x n g q = cp s ∧ Snd r s (vcut r (vvalS op r x g y)) := by
  unfold valS vvalS
  rcases hc with ⟨hop, rfl⟩ | ⟨hop, rfl, hr⟩ | ⟨hop, rfl, hr, hr2⟩ | ⟨rfl, rfl, g0, g1, g2⟩ | ⟨rfl, rfl, hr⟩ | ⟨hop, rfl, g1, hr⟩ | ⟨hop, rfl, g1, hr⟩
  · obtain rfl : op = 2 := by omega
    rw [if_neg (by decide), if_pos rfl, if_pos rfl, W_of r1 r2]
    exact ⟨(vcut r x, vcut r x), rfl, Nat.le_refl _, Nat.le_refl _, le_mask_of (Nat.mod_lt _ (pw_pos _))⟩
  · have h0 := hg 0 (by omega)
    have y0 := hy 0 (by omega)
    rw [if_neg (by omega), if_neg (by omega), if_neg (by omega), if_pos rfl, if_neg (by omega), if_neg (by omega), if_pos (by omega), hq 0 (by omega)]
    have e : (g 0).toNat = r := by omega
    have hp0 := (hp 0 (by omega)).2
    rw [e] at hp0 ⊢
    refine ⟨_, rfl, snd_cut ?_⟩
    simp only [Int.toNat_natCast]
    exact snd_one op (by omega) r1 r1 r2 (fun _ => rfl) (by omega) (by omega) y0.1 y0.2 hp0
  · have h0 := hg 0 (by omega)
    have y0 := hy 0 (by omega)
    rw [if_neg (by omega), if_neg (by omega), if_neg (by omega), if_pos rfl, if_neg (by omega), if_neg (by omega), if_pos (by omega), hq 0 (by omega)]
    have hp0 := (hp 0 (by omega)).2
    refine ⟨_, rfl, snd_cut ?_⟩
    simp only [Int.toNat_natCast]
    exact snd_one op (by omega) (by omega) r1 r2 (by omega) (fun h => by have := hr h; omega) (fun h => by have := hr2 h; omega) y0.1 y0.2 hp0
  · have y0 := hy 0 (by omega)
    have y1 := hy 1 (by omega)
    have y2 := hy 2 (by omega)
    have p0 := hp 0 (by omega)
    have p1 := hp 1 (by omega)
    have p2 := hp 2 (by omega)
    rw [g0] at p0
    rw [g1, Int.toNat_natCast] at p1
    rw [g2, Int.toNat_natCast] at p2
    have p01 : (p 0).2 ≤ 1 := p0.2
    rw [if_neg (show ¬ (19 : Int) = 1 by decide), if_neg (show ¬ (19 : Int) = 2 by decide), if_pos (rfl : (19 : Int) = 19), if_neg (show ¬ (19 : Int) = 2 by decide), if_pos (rfl : (19 : Int) = 19), hq 0 (by omega), hq 1 (by omega), hq 2 (by omega)]
    obtain ⟨a1, a2⟩ := y0
    obtain ⟨b1, b2⟩ := y1
    obtain ⟨c1, c2⟩ := y2
    obtain ⟨d1, d2⟩ := p1
    obtain ⟨e1, e2⟩ := p2
    by_cases hh : ((p 0).1 : Int) = ((p 0).2 : Int)
    · rw [if_pos hh]
      by_cases h2 : ((p 0).1 : Int) = 1
      · rw [if_pos h2, if_pos (show y 0 = 1 by omega)]
        exact ⟨_, rfl, snd_cut ⟨b1, b2, d2⟩⟩
      · rw [if_neg h2, if_neg (show ¬ y 0 = 1 by omega)]
        exact ⟨_, rfl, snd_cut ⟨c1, c2, e2⟩⟩
    · rw [if_neg hh, jn_cp]
      refine ⟨_, rfl, snd_cut ?_⟩
      unfold jnN Snd
      simp only
      split <;> omega
  · have h0 := hg 0 (by omega)
    have h1' := hg 1 (by omega)
    have y0 := hy 0 (by omega)
    have y1 := hy 1 (by omega)
    have p0 := (hp 0 (by omega)).2
    have p1 := (hp 1 (by omega)).2
    rw [if_neg (by omega), if_neg (by omega), if_neg (by omega), if_neg (show ¬ (2 : Nat) = 1 by decide), if_neg (by omega), if_neg (by omega), if_neg (by omega), hq 0 (by omega), hq 1 (by omega)]
    refine ⟨_, rfl, snd_cut ?_⟩
    simp only [Int.toNat_natCast]
    rw [vbin_two (by omega) (by omega) (by omega)]
    have := snd_two 20 (v := (g 0).toNat) (u := (g 1).toNat) (by omega) (by omega) (by omega) (by omega) (fun e => absurd rfl e) (fun _ => by omega) y0.1 y0.2 p0 y1.1 y1.2 p1
    rw [if_pos rfl] at this
    rw [show r = (g 0).toNat + (g 1).toNat by omega]; exact this
  · have h0 := hg 0 (by omega)
    have h1' := hg 1 (by omega)
    have y0 := hy 0 (by omega)
    have y1 := hy 1 (by omega)
    have p0 := (hp 0 (by omega)).2
    have p1 := (hp 1 (by omega)).2
    rw [if_neg (by omega), if_neg (by omega), if_neg (by omega), if_neg (show ¬ (2 : Nat) = 1 by decide), if_neg (by omega), if_neg (by omega), if_neg (by omega), hq 0 (by omega), hq 1 (by omega)]
    refine ⟨_, rfl, snd_cut ?_⟩
    simp only [Int.toNat_natCast]
    rw [vbin_two (by omega) (by omega) (by omega)]
    have := snd_two op (v := (g 0).toNat) (u := (g 1).toNat) (by omega) (by omega) (by omega) (by omega) (fun _ => by omega) (fun e => by omega) y0.1 y0.2 p0 y1.1 y1.2 p1
    rw [if_neg (by omega), if_pos (by omega)] at this
    rw [show r = 1 by omega]; exact this
  · have h0 := hg 0 (by omega)
    have h1' := hg 1 (by omega)
    have y0 := hy 0 (by omega)
    have y1 := hy 1 (by omega)
    have p0 := (hp 0 (by omega)).2
    have p1 := (hp 1 (by omega)).2
    rw [if_neg (by omega), if_neg (by omega), if_neg (by omega), if_neg (show ¬ (2 : Nat) = 1 by decide), if_neg (by omega), if_neg (by omega), if_neg (by omega), hq 0 (by omega), hq 1 (by omega)]
    refine ⟨_, rfl, snd_cut ?_⟩
    simp only [Int.toNat_natCast]
    rw [vbin_two (by omega) (by omega) (by omega)]
    have := snd_two op (v := (g 0).toNat) (u := (g 1).toNat) (by omega) (by omega) (by omega) (by omega) (fun _ => by omega) (fun e => by omega) y0.1 y0.2 p0 y1.1 y1.2 p1
    rw [if_neg (by omega), if_neg (by omega)] at this
    rw [show r = (g 0).toNat by omega]; exact this
/-- Apply's facts contain the operator's value, if the operands' facts contain theirs. -/
theorem ap_sound {op w : Int} (h1 : op ≠ 1) {x n r : Nat} (hx : x < U64) {g z o l h : Nat → Int} (hz : Nums z) (ho : Nums o) (hl : ∀ i, 0 ≤ l i) (hh : ∀ i, 0 ≤ h i) (hc : (chkS op w x n n g).2 = 0) (hr : (chkS op w x n n g).1 = (r : Int)) {y : Nat → Nat}
    (hy : ∀ i, i < n → y i < 2 ^ (g i).toNat) (hk : ∀ i, i < n → khas (elm g z o i) (y i)) (hi : ∀ i, i < n → inN (nrmN (MK (g i)) ((l i).toNat, (h i).toNat)) (y i))
    {q : Option ((Nat × Nat) × (Nat × Nat))} (hq : RedP (r : Int) (kvalN op w x n g z o) (nrmN (vmask r) (rvalN op w x n g l h)) q) : q.isSome = true ∧ hasN (redF (r : Int) q) (vvalS op r x g y) := by
  obtain ⟨_, hn, _, _, hg, r', hr', r1, r2, hcas⟩ := chk_cas hc
  obtain rfl : r' = r := by omega
  have eW : W (r' : Int) = r' := W_of r1 r2
  have eM : MK (r' : Int) = vmask r' := congrArg vmask eW
  have hgw : ∀ i, i < n → MK (g i) = vmask (g i).toNat := fun i hi => by
    have := W_of' (hg i hi).1 (hg i hi).2
    show vmask (W (g i)) = _
    rw [show W (g i) = (g i).toNat by omega]
  obtain ⟨s, e1, e2⟩ := rval_snd h1 hcas hg r1 r2 (q := fun i => nrm (MM (g i)) (l i, h i)) (p := fun i => nrmN (MK (g i)) ((l i).toNat, (h i).toNat)) (fun i _ => by
      have := nrm_cp (g i) ((l i).toNat, (h i).toNat)
      unfold cp at this
      simp only [Int.toNat_of_nonneg (hl i), Int.toNat_of_nonneg (hh i)] at this
      exact this) (fun i hi' => by rw [← hgw i hi']; exact nrmN_ok _ _) hi
  have ers : rvalN op w x n g l h = s := by
    unfold rvalN resS
    rw [if_neg (fun e => e hc), hr]
    simp only
    rw [e1]; rfl
  have hrs : rok (vmask r') s := ⟨Nat.le_trans e2.1 e2.2.1, e2.2.2⟩
  have hel : ∀ i, i < n → El (g i).toNat (elm g z o i) := fun i hi => by
    obtain ⟨v, _, hv, _, _, q, _⟩ := opd hz ho i (hg i hi).1 (hg i hi).2
    rw [hv]; exact q
  have l := val_sound h1 hcas hg hel hy hk r1 r2
  have hke := el_val hcas hg hel r1 r2
  have ek : kvalN op w x n g z o = kvalS op r' x g (elm g z o) := by unfold kvalN; rw [hr, Int.toNat_natCast]
  have hk2 : khas (kvalS op r' x g (elm g z o)) (vcut r' (vvalS op r' x g y)) := by
    rw [has_iff r2 hke (show vcut r' (vvalS op r' x g y) < 2 ^ r' from Nat.mod_lt _ (pw_pos _))]
    rw [kcst_mod (b := vvalS op r' x g y) (by unfold vcut; rw [Nat.mod_mod])]
    exact l
  rw [ers, nrmN_of hrs, ek] at hq
  have hx' : vcut r' (vvalS op r' x g y) ≤ MK (r' : Int) := by rw [eM]; exact le_mask_of (Nat.mod_lt _ (pw_pos _))
  have hin : inN (nrmN (MK (r' : Int)) s) (vcut r' (vvalS op r' x g y)) := by rw [eM, nrmN_of hrs]; exact ⟨e2.1, e2.2.1⟩
  cases q with
  | none => exact (hq _ hx' hk2 hin).elim
  | some q =>
    have := hq.2 _ hx' hk2 hin
    refine ⟨rfl, ?_, ?_⟩
    · show khas q.1 (vcut (W (r' : Int)) _); rw [eW]; exact this.1
    · show inN q.2 (vcut (W (r' : Int)) _); rw [eW]; exact this.2
end Go.Proofs.YtcihbcffokjgjaaGreat.Fn
namespace Go.Proofs.YtcihbcffokjgjaaGreat.Fn
open Go Go.RowKit Go.Proofs.YtcihbcffokjgjaaGreat.Ev Go.Proofs.YtcihbcffokjgjaaGreat.Bv
set_option linter.unusedVariables false
set_option linter.unusedSimpArgs false
set_option maxRecDepth 100000

theorem cutv_pow {g y : Nat → Int} {i : Nat} (h1 : 1 ≤ g i) (h2 : g i ≤ 64) : cutv g y i < 2 ^ (g i).toNat := by
  obtain ⟨v, hv, v1, v2⟩ := nat_of h1 h2
  unfold cutv vcut
  rw [hv, W_of v1 v2, Int.toNat_natCast]; exact Nat.mod_lt _ (pw_pos _)
theorem ite_lt' {p : Prop} [Decidable p] {a b c : Nat} (ha : a < c) (hb : b < c) : (if p then a else b) < c := by split <;> assumption
theorem vuna_lt {op : Int} {r x v y : Nat} (hv : v ≤ 64) (hr : r ≤ 64) (hy : y < U64) : vunaS op r x v y < U64 :=
  ite_lt' (vnot_lt _ hv) (ite_lt' (vneg_lt _ hv) (ite_lt' (vextract_lt _ _ hr) (ite_lt' (vsext_lt _ _ hr) hy)))
theorem vbin_lt {op : Int} {v u a b : Nat} (hv : v ≤ 64) (hu : u ≤ 64) : vbinS op v u a b < U64 :=
  ite_lt' (vand_lt _ _ hv) (ite_lt' (vor_lt _ _ hv) (ite_lt' (vxor_lt _ _ hv) (ite_lt' (vadd_lt _ _ hv) (ite_lt' (vsub_lt _ _ hv) (ite_lt' (vconcat_lt _ _ hu) (ite_lt' (ite_lt' (by decide) (by decide)) (ite_lt' (vshl_lt _ _ hv) (ite_lt' (vlshr_lt _ _ hv) (ite_lt' (vashr_lt _ _ hv) (kval_lt hv _ _))))))))))
theorem vval_lt {op : Int} {r x n : Nat} {g : Nat → Int} {y : Nat → Nat} (h1 : op ≠ 1) (hx : x < U64) (hc : Cas op r x n g) (hg : ∀ i, i < n → 1 ≤ g i ∧ g i ≤ 64) (hy : ∀ i, i < n → y i < U64) (r2 : r ≤ 64) : vvalS op r x g y < U64 := by
  unfold vvalS
  rcases hc with ⟨hop, rfl⟩ | ⟨hop, rfl, hr⟩ | ⟨hop, rfl, hr, hr2⟩ | ⟨rfl, rfl, g0, g1, g2⟩ | ⟨rfl, rfl, hr⟩ | ⟨hop, rfl, g1, hr⟩ | ⟨hop, rfl, g1, hr⟩
  · rw [if_pos (by omega)]; exact hx
  · rw [if_neg (by omega), if_neg (by omega), if_pos (by omega)]
    have := hg 0 (by omega)
    exact vuna_lt (by omega) r2 (hy 0 (by omega))
  · rw [if_neg (by omega), if_neg (by omega), if_pos (by omega)]
    have := hg 0 (by omega)
    exact vuna_lt (by omega) r2 (hy 0 (by omega))
  · rw [if_neg (by decide), if_pos rfl]
    exact ite_lt' (hy 1 (by omega)) (hy 2 (by omega))
  all_goals
    rw [if_neg (by omega), if_neg (by omega), if_neg (by omega)]
    have := hg 0 (by omega)
    have := hg 1 (by omega)
    exact vbin_lt (by omega) (by omega)
end Go.Proofs.YtcihbcffokjgjaaGreat.Fn
namespace Go.Proofs.YtcihbcffokjgjaaGreat.Fn
open Go Go.RowKit Go.Proofs.YtcihbcffokjgjaaGreat.Ev Go.Proofs.YtcihbcffokjgjaaGreat.Bv
set_option linter.unusedVariables false
set_option linter.unusedSimpArgs false
set_option maxRecDepth 100000

abbrev tX : Tm := Tm.mk 1 8 0 (ByteArray.mk #[120]) []
abbrev tC (n : Int) : Tm := Tm.mk 2 8 n (ByteArray.mk #[]) []
abbrev tLow : Tm := Tm.mk 5 8 0 (ByteArray.mk #[]) [tX, tC 15]
abbrev tUlt : Tm := Tm.mk 17 1 0 (ByteArray.mk #[]) [tLow, tC 16]
theorem l14_const : facts_Const.f 8 3 = some (8, 252, 3, 3, 3) := by kernel_rfl
theorem l14_const4 : facts_Const.f 8 4 = some (8, 251, 4, 4, 4) := by kernel_rfl
theorem l14_const1 : facts_Const.f 1 1 = some (1, 0, 1, 1, 1) := by kernel_rfl
theorem l14_var : term_Var.f (ByteArray.mk #[120]) 8 = some tX := by kernel_rfl
theorem l14_cst : term_Const.f 8 15 = some (tC 15) := by kernel_rfl
theorem l14_cst16 : term_Const.f 8 16 = some (tC 16) := by kernel_rfl
theorem l14_make : term_Make.f 5 [tX, tC 15] = some tLow := by kernel_rfl
theorem l14_make2 : term_Make.f 17 [tLow, tC 16] = some tUlt := by kernel_rfl
theorem l14_top : facts_Top.f 8 = some (8, 0, 0, 0, 255) := by kernel_rfl
theorem l14_top4 : facts_Top.f 4 = some (4, 0, 0, 0, 15) := by kernel_rfl
theorem l14_meet : facts_Meet.f (8, 252, 3, 3, 3) (8, 0, 0, 0, 255) = some ((8, 252, 3, 3, 3), true) := by kernel_rfl
theorem l14_meet2 : facts_Meet.f (8, 252, 3, 3, 3) (8, 251, 4, 4, 4) = some ((8, 0, 0, 0, 255), false) := by kernel_rfl
theorem l14_chk0 : term_Check.f (Tm.mk 0 0 0 (ByteArray.mk #[]) []) = some 4 := by kernel_rfl
theorem l14_chk1 : term_Check.f tLow = some 0 := by kernel_rfl
theorem l14_chk2 : term_Check.f tUlt = some 0 := by kernel_rfl
theorem l14_c1 : facts_compute.f tLow = some (8, 240, 0, 0, 15) := by kernel_rfl
theorem l14_c2 : facts_compute.f tUlt = some (1, 0, 1, 1, 1) := by kernel_rfl
theorem l14_val : facts_Valid.f (8, 240, 0, 0, 15) = some true := by kernel_rfl
theorem l14_val2 : facts_Valid.f (8, 240, 0, 0, 255) = some false := by kernel_rfl
theorem l14_join : facts_Join.f (8, 0, 0, 0, 255) (4, 0, 0, 0, 15) = some ((0, 0, 0, 0, 0), 3) := by kernel_rfl
theorem l14_of0 : facts_Of.f (Tm.mk 0 0 0 (ByteArray.mk #[]) []) = some ((0, 0, 0, 0, 0), 4) := by
  unfold facts_Of.f
  rw [show (Tm.mk (Tm.mk 0 0 0 (ByteArray.mk #[]) []).op (Tm.mk 0 0 0 (ByteArray.mk #[]) []).width (Tm.mk 0 0 0 (ByteArray.mk #[]) []).val (Tm.mk 0 0 0 (ByteArray.mk #[]) []).name (Tm.mk 0 0 0 (ByteArray.mk #[]) []).kids) = Tm.mk 0 0 0 (ByteArray.mk #[]) [] from rfl, l14_chk0]
  rfl
theorem Tm.eta (t : Tm) : Tm.mk t.op t.width t.val t.name t.kids = t := by cases t; rfl
theorem l14_ofs {t : Tm} {a b c d e : Int} (h : term_Check.f t = some 0) (hc : facts_compute.f t = some (a, b, c, d, e)) : facts_Of.f t = some ((a, b, c, d, e), 0) := by
  unfold facts_Of.f
  rw [Tm.eta, h]
  simp only [Option.bind_some, bne_self_eq_false, cond_false]
  rw [hc]
  rfl
section
variable (v1 : ByteArray × Int × Unit → Option Tm) (v2 : Int × Int × Unit → Option Tm) (v3 : Int × List Tm × Unit → Option Tm) (v4 : Tm × Unit → Option ((Int × Int × Int × Int × Int) × Int)) (v5 : Int × Int × Unit → Option (Int × Int × Int × Int × Int)) (v6 : Int × Unit → Option (Int × Int × Int × Int × Int)) (v7 : (Int × Int × Int × Int × Int) × (Int × Int × Int × Int × Int) × Unit → Option ((Int × Int × Int × Int × Int) × Bool)) (v8 : (Int × Int × Int × Int × Int) × (Int × Int × Int × Int × Int) × Unit → Option ((Int × Int × Int × Int × Int) × Int)) (v9 : (Int × Int × Int × Int × Int) × Unit → Option Bool)
theorem lives14_abs {h1 h2 h3 h4 h5 h6 h7 h8 h9} (e1 : v1 (ByteArray.mk #[120], 8, ()) = some tX) (e2 : v2 (8, 15, ()) = some (tC 15)) (e2' : v2 (8, 16, ()) = some (tC 16)) (e3 : v3 (5, [tX, tC 15], ()) = some tLow) (e3' : v3 (17, [tLow, tC 16], ()) = some tUlt)
    (e4 : v4 (tLow, ()) = some ((8, 240, 0, 0, 15), 0)) (e4' : v4 (tUlt, ()) = some ((1, 0, 1, 1, 1), 0)) (e4'' : v4 (Tm.mk 0 0 0 (ByteArray.mk #[]) [], ()) = some ((0, 0, 0, 0, 0), 4))
    (e5 : v5 (8, 3, ()) = some (8, 252, 3, 3, 3)) (e5' : v5 (8, 4, ()) = some (8, 251, 4, 4, 4)) (e5'' : v5 (1, 1, ()) = some (1, 0, 1, 1, 1)) (e6 : v6 (8, ()) = some (8, 0, 0, 0, 255)) (e6' : v6 (4, ()) = some (4, 0, 0, 0, 15))
    (e7 : v7 ((8, 252, 3, 3, 3), (8, 0, 0, 0, 255), ()) = some ((8, 252, 3, 3, 3), true)) (e7' : v7 ((8, 252, 3, 3, 3), (8, 251, 4, 4, 4), ()) = some ((8, 0, 0, 0, 255), false)) (e8 : v8 ((8, 0, 0, 0, 255), (4, 0, 0, 0, 15), ()) = some ((0, 0, 0, 0, 0), 3))
    (e9 : v9 ((8, 240, 0, 0, 15), ()) = some true) (e9' : v9 ((8, 240, 0, 0, 255), ()) = some false) : saturatelaw14_lives.fv v1 h1 v2 h2 v3 h3 v4 h4 v5 h5 v6 h6 v7 h7 v8 h8 v9 h9 = some true := by
  unfold saturatelaw14_lives.fv
  simp only [Tm.eta, e1, e2, e2', Option.bind_some, e3, e3', e4, e4', e4'', e5, e5', e5'', e6, e6', e7, e7', e8, e9, e9', beq_self_eq_true, Bool.and_self, cond_true, Bool.not_false]
end
theorem lives14_true : saturatelaw14_lives.f = some true := by
  delta saturatelaw14_lives.f
  exact @lives14_abs (fun a => term_Var.f a.1 a.2.1) (fun a => term_Const.f a.1 a.2.1) (fun a => term_Make.f a.1 a.2.1) (fun a => facts_Of.f a.1) (fun a => facts_Const.f a.1 a.2.1) (fun a => facts_Top.f a.1) (fun a => facts_Meet.f a.1 a.2.1) (fun a => facts_Join.f a.1 a.2.1) (fun a => facts_Valid.f a.1) ⟨term_Var.con⟩ ⟨term_Const.con⟩ ⟨term_Make.con⟩ ⟨facts_Of.con⟩ ⟨facts_Const.con⟩ ⟨facts_Top.con⟩ ⟨facts_Meet.con⟩ ⟨facts_Join.con⟩ ⟨facts_Valid.con⟩ l14_var l14_cst l14_cst16 l14_make l14_make2 (l14_ofs l14_chk1 l14_c1) (l14_ofs l14_chk2 l14_c2) l14_of0 l14_const l14_const4 l14_const1 l14_top l14_top4 l14_meet l14_meet2 l14_join l14_val l14_val2
end Go.Proofs.YtcihbcffokjgjaaGreat.Fn
