/- The reference's value of an operator (layer 8), in the words of the theory. -/
import Derived.Test.YtbfniopkadaheaaF3
import Derived.Test.YtbfniopkadaheaaKj
namespace Go.Proofs.Ytbfniopkadaheaa.Fn
open Go Go.RowKit Go.Proofs.Ytbfniopkadaheaa.Ev Go.Proofs.Ytbfniopkadaheaa.Bv
set_option linter.unusedVariables false
set_option linter.unusedSimpArgs false
set_option maxRecDepth 100000

theorem widthS_congr {op w : Int} {x n : Nat} {g g' : Nat → Int} (h : ∀ i, i < n → g i = g' i) : widthS op w x n g = widthS op w x n g' := by
  unfold widthS
  by_cases h1 : op < 1 ∨ 26 < op ∨ (n : Int) ≠ arity op
  · rw [if_pos h1, if_pos h1]
  · rw [if_neg h1, if_neg h1]
    have ha : allIn n g ↔ allIn n g' := ⟨fun q i hi => by rw [← h i hi]; exact q i hi, fun q i hi => by rw [h i hi]; exact q i hi⟩
    have e : widthT op w x g = widthT op w x g' := by
      rcases widthT_cases (op := op) (by omega) (by omega) n (by omega) with ⟨ho, hn⟩ | ⟨ho, hn⟩ | ⟨ho, hn⟩ | ⟨ho, hn⟩ | ⟨ho, hn⟩ | ⟨ho, hn⟩ | ⟨ho, hn⟩
      · have e1 : widthT op w x g = leafS op w x := if_pos ho
        have e2 : widthT op w x g' = leafS op w x := if_pos ho
        rw [e1, e2]
      · have e0 := h 0 (by omega)
        have e1 : widthT op w x g = (g 0, 0) := by rcases ho with rfl | rfl | rfl <;> rfl
        have e2 : widthT op w x g' = (g' 0, 0) := by rcases ho with rfl | rfl | rfl <;> rfl
        rw [e1, e2, e0]
      · have e0 := h 0 (by omega)
        have e1 : widthT op w x g = partS op w x (g 0) := by rcases ho with rfl | rfl | rfl <;> rfl
        have e2 : widthT op w x g' = partS op w x (g' 0) := by rcases ho with rfl | rfl | rfl <;> rfl
        rw [e1, e2, e0]
      · have e0 := h 0 (by omega)
        have e1 := h 1 (by omega)
        have e2 := h 2 (by omega)
        unfold widthT; rw [e0, e1, e2]
      all_goals
        have e0 := h 0 (by omega)
        have e1 := h 1 (by omega)
        have q1 : ¬ (op = 1 ∨ op = 2 ∨ op = 24 ∨ op = 25) := by omega
        have q2 : ¬ (op = 3 ∨ op = 4 ∨ op = 26) := by omega
        have q3 : ¬ (op = 21 ∨ op = 22 ∨ op = 23) := by omega
        have q4 : ¬ op = 19 := by omega
        simp only [widthT, e0, e1, if_neg q1, if_neg q2, if_neg q3, if_neg q4]
    by_cases h2 : allIn n g
    · rw [if_pos h2, if_pos (ha.1 h2), e]
    · rw [if_neg h2, if_neg (fun q => h2 (ha.2 q))]
theorem one08 {op : Int} {r x v y : Nat} (ho : op = 3 ∨ op = 4 ∨ op = 21 ∨ op = 22 ∨ op = 23) (v1 : 1 ≤ v) (v2 : v ≤ 64) (r1 : 1 ≤ r) (r2 : r ≤ 64) (hx : op = 21 → x ≤ 64) (hy : y < U64) : saturateref08_one.f op r x v y = some (vunaS op r x v y : Int) := by
  unfold saturateref08_one.f vunaS
  rcases ho with rfl | rfl | rfl | rfl | rfl <;> simp only [Int.reduceBEq, cond_true, cond_false, Int.reduceEq, if_true, if_false]
  · rw [saturateref01_Not_eq _ hy, W_of v1 v2]; rfl
  · rw [saturateref01_Neg_eq _ hy, W_of v1 v2]; rfl
  · have := hx rfl
    rw [wrapi, wrapi_of (by omega) (by omega), saturateref01_Extract_eq _ _ hy, W_of r1 r2]; rfl
  · rw [saturateref01_Sext_eq _ _ hy, W_of v1 v2, W_of r1 r2]; rfl
theorem two08 {op : Int} {v a b : Nat} (h5 : 5 ≤ op) (h18 : op ≤ 18) (v1 : 1 ≤ v) (v2 : v ≤ 64) (ha : a < U64) (hb : b < U64) : saturateref08_two.f op v a b = some (vbinS op v v a b : Int) := by
  have hs : op = 5 ∨ op = 6 ∨ op = 7 ∨ op = 8 ∨ op = 9 ∨ op = 10 ∨ op = 11 ∨ op = 12 ∨ op = 13 ∨ op = 14 ∨ op = 15 ∨ op = 16 ∨ op = 17 ∨ op = 18 := by omega
  unfold saturateref08_two.f vbinS kval
  rcases hs with rfl | rfl | rfl | rfl | rfl | rfl | rfl | rfl | rfl | rfl | rfl | rfl | rfl | rfl <;> simp only [Int.reduceBEq, cond_true, cond_false, Int.reduceEq, if_true, if_false]
  · rw [saturateref01_And_eq _ ha hb, W_of v1 v2]; rfl
  · rw [saturateref01_Or_eq _ ha hb, W_of v1 v2]; rfl
  · rw [saturateref01_Xor_eq _ ha hb, W_of v1 v2]; rfl
  · rw [saturateref01_Add_eq _ ha hb, W_of v1 v2]; rfl
  · rw [saturateref01_Sub_eq _ ha hb, W_of v1 v2]; rfl
  · rw [saturateref01_Mul_eq _ ha hb, W_of v1 v2]; rfl
  · rw [saturateref01_Udiv_eq _ ha hb, W_of v1 v2]; rfl
  · rw [saturateref01_Urem_eq _ ha hb, W_of v1 v2]; rfl
  · rw [saturateref01_Shl_eq _ ha hb, W_of v1 v2]; rfl
  · rw [saturateref01_Lshr_eq _ ha hb, W_of v1 v2]; rfl
  · rw [saturateref01_Ashr_eq _ ha hb, W_of v1 v2]; rfl
  · rw [saturateref01_Eq_eq _ ha hb, W_of v1 v2]; rfl
  · rw [saturateref01_Ult_eq _ ha hb, W_of v1 v2]; rfl
  · rw [saturateref01_Slt_eq _ ha hb, W_of v1 v2]; rfl
/-- The operand's value, cut. -/
def cutv (g y : Nat → Int) (i : Nat) : Nat := vcut (W (g i)) (y i).toNat
theorem cutv_lt (g y : Nat → Int) (i : Nat) : cutv g y i < U64 := vcut_lt _ (W_le _)
theorem value_j3 (fu : Nat) (op r x : Int) {n : Nat} (hn : n ≤ 3) {g y : Nat → Int} (hy : Nums y) (d : Nat) : ∀ (k i : Nat) (f : Nat → Int), n - i = d → i ≤ n → d < k → (∀ j, j < i → f j = (cutv g y j : Int)) →
    ∃ C, (∀ j, j < n → C j = (cutv g y j : Int)) ∧ ∃ k', saturateref08_value.j3 fu k op r x n i i n g y i f = saturateref08_value.j3 fu (k' + 1) op r x n n n n g y n C := by
  induction d with
  | zero =>
    intro k i f hd hi hk hj
    obtain ⟨k, rfl⟩ : ∃ m, k = m + 1 := ⟨k - 1, by omega⟩
    obtain rfl : i = n := by omega
    exact ⟨f, hj, k, rfl⟩
  | succ d ih =>
    intro k i f hd hi hk hj
    obtain ⟨k, rfl⟩ : ∃ m, k = m + 1 := ⟨k - 1, by omega⟩
    obtain ⟨C, hC, k', he⟩ := ih k (i + 1) (cat i f (fun t => [(cutv g y i : Int)].getD t 0)) (by omega) (by omega) (by omega) (fun j hj' => by
      rcases Nat.lt_or_ge j i with h | h
      · rw [cat_lt h]; exact hj j h
      · obtain rfl : j = i := by omega
        rw [cat_at]; rfl)
    refine ⟨C, hC, k', ?_⟩
    obtain ⟨a, ha, la⟩ := hy i
    have hc : saturateref01_Cut.f (g i) (y i) = some (cutv g y i : Int) := by unfold cutv; rw [ha]; exact saturateref01_Cut_eq (g i) la
    rw [saturateref08_value.j3_succ, bifd_pos (by omega), bifd_pos (by omega), bifd_pos (by omega), bifd_pos (by omega), bifd_pos (by omega), Int.toNat_natCast, hc, Option.bind_some, show Nat.ble ((i + 1) * 8) 140737488355328 = true by rw [Nat.ble_eq]; omega, cond_true, wrapi, wrapi_succ (by omega)]
    exact he
theorem vt0 (fu k : Nat) (op r x : Int) (g y C : Nat → Int) : saturateref08_value.j3 fu (k + 1) op r x 0 0 ((0 : Nat) : Int) 0 g y 0 C = some x := by kernel_rfl
theorem vt1 (fu k : Nat) (op r x : Int) (g y C : Nat → Int) : saturateref08_value.j3 fu (k + 1) op r x 1 1 ((1 : Nat) : Int) 1 g y 1 C = (saturateref08_one.f op r x (g 0) (C 0)).bind fun t => some t := by kernel_rfl
theorem vt2 (fu k : Nat) (op r x : Int) (g y C : Nat → Int) : saturateref08_value.j3 fu (k + 1) op r x 2 2 ((2 : Nat) : Int) 2 g y 2 C = bif op == 20 then (saturateref01_Concat.f (g 0) (g 1) (C 0) (C 1)).bind fun t => some t else (saturateref08_two.f op (g 0) (C 0) (C 1)).bind fun t => some t := by kernel_rfl
theorem vt3 (fu k : Nat) (op r x : Int) (g y C : Nat → Int) : saturateref08_value.j3 fu (k + 1) op r x 3 3 ((3 : Nat) : Int) 3 g y 3 C = bif C 0 == 1 then some (C 1) else some (C 2) := by kernel_rfl
theorem value08 {op : Int} {r x n : Nat} {g y : Nat → Int} (h1 : op ≠ 1) (hx : x < U64) (hn : n ≤ 3) (hy : Nums y) (hc : Cas op r x n g) (hg : ∀ i, i < n → 1 ≤ g i ∧ g i ≤ 64) (r1 : 1 ≤ r) (r2 : r ≤ 64) :
    saturateref08_value.f op r x (n, g, y) = some (vvalS op r x g (cutv g y) : Int) := by
  unfold saturateref08_value.f saturateref08_value.g
  have hfu : 1000 < fuel0 + 1 := by unfold fuel0; omega
  generalize fuel0 + 1 = fu at *
  obtain ⟨C, hC, k', he⟩ := value_j3 fu op r x hn hy (g := g) n fu 0 (fun _ => 0) rfl (by omega) (by omega) (fun j hj => by omega)
  have he0 : saturateref08_value.j3 fu fu op r x n 0 0 n g y 0 (fun _ => 0) = _ := he
  simp only
  rw [he0]
  have wd : ∀ i, i < n → ∃ v : Nat, g i = (v : Int) ∧ (g i).toNat = v ∧ 1 ≤ v ∧ v ≤ 64 := fun i hi => by
    obtain ⟨v, hv, v1, v2⟩ := nat_of (hg i hi).1 (hg i hi).2
    exact ⟨v, hv, by omega, v1, v2⟩
  unfold vvalS
  rcases hc with ⟨hop, rfl⟩ | ⟨hop, rfl, hr⟩ | ⟨hop, rfl, hr, hr2⟩ | ⟨rfl, rfl, g0, g1, g2⟩ | ⟨rfl, rfl, hr⟩ | ⟨hop, rfl, g1, hr⟩ | ⟨hop, rfl, g1, hr⟩
  · obtain rfl : op = 2 := by omega
    rw [vt0, if_pos rfl]
  · obtain ⟨v, hv, hv2, v1, v2⟩ := wd 0 (by omega)
    rw [vt1, hC 0 (by omega), hv, one08 (by omega) v1 v2 r1 r2 (fun h => by omega) (cutv_lt _ _ _), if_neg (by omega), if_neg (by omega), if_pos (by omega), Int.toNat_natCast]; rfl
  · obtain ⟨v, hv, hv2, v1, v2⟩ := wd 0 (by omega)
    rw [vt1, hC 0 (by omega), hv, one08 (by omega) v1 v2 r1 r2 (fun h => by have := hr h; omega) (cutv_lt _ _ _), if_neg (by omega), if_neg (by omega), if_pos (by omega), Int.toNat_natCast]; rfl
  · rw [vt3, hC 0 (by omega), hC 1 (by omega), hC 2 (by omega), if_neg (by decide), if_pos rfl]
    by_cases q : cutv g y 0 = 1
    · rw [if_pos q, q]; rfl
    · rw [if_neg q, show ((cutv g y 0 : Int) == 1) = false by rw [beq_eq_false_iff_ne]; omega]; rfl
  · obtain ⟨v, hv, hv2, v1, v2⟩ := wd 0 (by omega)
    obtain ⟨u, hu, hu2, u1, u2⟩ := wd 1 (by omega)
    rw [vt2, show ((20 : Int) == 20) = true from rfl, cond_true, hC 0 (by omega), hC 1 (by omega), hv, hu, saturateref01_Concat_eq _ _ (cutv_lt _ _ _) (cutv_lt _ _ _), W_of v1 v2, W_of u1 u2, if_neg (by decide), if_neg (by decide), if_neg (by decide), Int.toNat_natCast, Int.toNat_natCast]; rfl
  · obtain ⟨v, hv, hv2, v1, v2⟩ := wd 0 (by omega)
    rw [vt2, show (op == 20) = false by rw [beq_eq_false_iff_ne]; omega, cond_false, hC 0 (by omega), hC 1 (by omega), hv, two08 (by omega) (by omega) v1 v2 (cutv_lt _ _ _) (cutv_lt _ _ _), if_neg (by omega), if_neg (by omega), if_neg (by omega), g1, hv, Int.toNat_natCast]; rfl
  · obtain ⟨v, hv, hv2, v1, v2⟩ := wd 0 (by omega)
    rw [vt2, show (op == 20) = false by rw [beq_eq_false_iff_ne]; omega, cond_false, hC 0 (by omega), hC 1 (by omega), hv, two08 (by omega) (by omega) v1 v2 (cutv_lt _ _ _) (cutv_lt _ _ _), if_neg (by omega), if_neg (by omega), if_neg (by omega), g1, hv, Int.toNat_natCast]; rfl
theorem apply08_j3 (fu : Nat) (op w x : Int) {n : Nat} (hn : n ≤ 3) {g y : Nat → Int} (d : Nat) : ∀ (k i : Nat) (f : Nat → Int), n - i = d → i ≤ n → d < k → (∀ j, j < i → f j = g j) →
    ∃ C, (∀ j, j < n → C j = g j) ∧ ∃ k', saturateref08_Apply.j3 fu k op w x n i i n g y i f = saturateref08_Apply.j3 fu (k' + 1) op w x n n n n g y n C := by
  induction d with
  | zero =>
    intro k i f hd hi hk hj
    obtain ⟨k, rfl⟩ : ∃ m, k = m + 1 := ⟨k - 1, by omega⟩
    obtain rfl : i = n := by omega
    exact ⟨f, hj, k, rfl⟩
  | succ d ih =>
    intro k i f hd hi hk hj
    obtain ⟨k, rfl⟩ : ∃ m, k = m + 1 := ⟨k - 1, by omega⟩
    obtain ⟨C, hC, k', he⟩ := ih k (i + 1) (cat i f (fun t => [g i].getD t 0)) (by omega) (by omega) (by omega) (fun j hj' => by
      rcases Nat.lt_or_ge j i with h | h
      · rw [cat_lt h]; exact hj j h
      · obtain rfl : j = i := by omega
        rw [cat_at]; rfl)
    refine ⟨C, hC, k', ?_⟩
    rw [saturateref08_Apply.j3_succ, bifd_pos (by omega), bifd_pos (by omega), bifd_pos (by omega), Int.toNat_natCast, show Nat.ble ((i + 1) * 8) 140737488355328 = true by rw [Nat.ble_eq]; omega, cond_true, wrapi, wrapi_succ (by omega)]
    exact he
theorem apply08_j12 (fu : Nat) (op x : Int) {r : Int} (hr : r ≠ 0) {n : Nat} (hn : n ≤ 3) {g y C : Nat → Int} (h0 : ∀ j, j < n → C j ≠ 0) (d : Nat) : ∀ (k i : Nat), n - i = d → i ≤ n → d < k →
    saturateref08_Apply.j12 fu k op x n n r i n g y n C = (saturateref08_value.f op r x (n, g, y)).bind fun r3 => some (r3, 0) := by
  induction d with
  | zero =>
    intro k i hd hi hk
    obtain ⟨k, rfl⟩ : ∃ m, k = m + 1 := ⟨k - 1, by omega⟩
    obtain rfl : i = n := by omega
    rw [saturateref08_Apply.j12_succ, bifd_neg (by omega), show (r == 0) = false by rw [beq_eq_false_iff_ne]; exact hr, cond_false]
  | succ d ih =>
    intro k i hd hi hk
    obtain ⟨k, rfl⟩ : ∃ m, k = m + 1 := ⟨k - 1, by omega⟩
    rw [saturateref08_Apply.j12_succ, bifd_pos (by omega), bifd_pos (by omega), bifd_pos (by omega), Int.toNat_natCast, show (C i == 0) = false by rw [beq_eq_false_iff_ne]; exact h0 i (by omega), cond_false, wrapi, wrapi_succ (by omega)]
    exact ih k (i + 1) (by omega) (by omega) (by omega)
/-- What the reference's value needs of the checks. -/
theorem width_of_chk {op w : Int} {x n m : Nat} {g : Nat → Int} (h : (chkS op w x n m g).2 = 0) : widthS op w x n g = chkS op w x n m g ∧ ¬ (op = 24 ∨ op = 25 ∨ op = 26) := by
  obtain ⟨h1, h2, h3, h4, h5, h6, h7, h8⟩ := chkS_ok h
  refine ⟨?_, by omega⟩
  unfold chkS at h h6 ⊢
  by_cases q1 : m ≠ n
  · exact absurd h3 q1
  · rw [if_neg q1] at h h6 ⊢
    by_cases q2 : (widthS op w x n g).2 ≠ 0
    · rw [if_pos q2] at h; exact absurd h q2
    · rw [if_neg q2] at h h6 ⊢
      rw [if_neg (show ¬ (op = 24 ∨ op = 25 ∨ op = 26) by omega)] at h h6 ⊢
      by_cases q4 : (widthS op w x n g).1 = 0 ∨ ∃ j, j < n ∧ g j = 0
      · rw [if_pos q4] at h; exact absurd h (by decide)
      · rw [if_neg q4] at h h6 ⊢
        exact Prod.ext rfl (Decidable.not_not.1 q2)
theorem apply08 {op w : Int} {x n : Nat} {g y : Nat → Int} (h1 : op ≠ 1) (hx : x < U64) (hy : Nums y) (h : (chkS op w x n n g).2 = 0) :
    saturateref08_Apply.f op w x (n, g, y) = some ((vvalS op (chkS op w x n n g).1.toNat x g (cutv g y) : Int), 0) := by
  obtain ⟨_, hn, _, _, hg, r, hr, r1, r2, hc⟩ := chk_cas h
  obtain ⟨hw, hpat⟩ := width_of_chk h
  unfold saturateref08_Apply.f saturateref08_Apply.g
  have hfu : 1000 < fuel0 + 1 := by unfold fuel0; omega
  generalize fuel0 + 1 = fu at *
  obtain ⟨C, hC, k', he⟩ := apply08_j3 fu op w x hn (g := g) (y := y) n fu 0 (fun _ => 0) rfl (by omega) (by omega) (fun j hj => by omega)
  have he0 : saturateref08_Apply.j3 fu fu op w x n 0 0 n g y 0 (fun _ => 0) = _ := he
  simp only
  rw [he0, saturateref08_Apply.j3_succ, bifd_neg (by omega), saturateref04_Width_eq hx, Option.bind_some, widthS_congr hC, hw]
  rw [show ((chkS op w x n n g).2 != 0) = false by rw [bne_eq_false_iff_eq]; exact h, cond_false, show (op == 1) = false by rw [beq_eq_false_iff_ne]; exact h1, cond_false, saturateref04_Pattern_eq, Option.bind_some, bifd_neg hpat, hr]
  have hj := apply08_j12 fu op x (r := (r : Int)) (by omega) hn (g := g) (y := y) (C := C) (fun j hj => by rw [hC j hj]; have := hg j hj; omega) n fu 0 rfl (by omega) (by omega)
  have hj0 : saturateref08_Apply.j12 fu fu op x n n r 0 n g y n C = _ := hj
  rw [hj0, value08 h1 hx hn hy hc hg r1 r2, Option.bind_some, Int.toNat_natCast]
end Go.Proofs.Ytbfniopkadaheaa.Fn
