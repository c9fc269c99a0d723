/- What the printed functions return, in the words of the theory: one section for each function. -/
import Derived.Test.YtpdnbcablofgiaaBv
import Derived.Test.YtpdnbcablofgiaaOp
import Derived.Test.YtpdnbcablofgiaaQAllx1
import Derived.Test.YtpdnbcablofgiaaQAllx2
import Derived.Test.YtpdnbcablofgiaaQAllx3
import Derived.Test.YtpdnbcablofgiaaQAllx4
import Derived.Test.YtpdnbcablofgiaaQAllx5
import Derived.Test.YtpdnbcablofgiaaQAllx6
namespace Go.Proofs.Ytpdnbcablofgiaa.Pure
open Go Go.RowKit Go.Proofs.Ytpdnbcablofgiaa.QAll Go.Proofs.YtpdnbcablofgiaaW.PrintWords Go.Proofs.YtpdnbcablofgiaaW.PrintLast Go.Proofs.Ytpdnbcablofgiaa.Bv Go.Proofs.Ytpdnbcablofgiaa.Op
set_option linter.unusedVariables false
set_option linter.unusedSimpArgs false
theorem opinfo_Arity_eq {k : Nat} (hk : 4 ≤ k) (op : Int) : opinfo_Arity.f k op = some (arity op) := by
  obtain ⟨k, rfl⟩ : ∃ m, k = m + 4 := ⟨k - 4, by omega⟩
  by_cases h : 1 ≤ op ∧ op ≤ 26
  · rcases ops h.1 h.2 with rfl | rfl | rfl | rfl | rfl | rfl | rfl | rfl | rfl | rfl | rfl | rfl | rfl | rfl | rfl | rfl | rfl | rfl | rfl | rfl | rfl | rfl | rfl | rfl | rfl | rfl <;> simp (config := { decide := true }) [opinfo_Arity.f, opinfo_Arity.j0, opinfo_Arity.j1, wrap64, arity]
  · rw [arity_out (by omega)]
    have e : ∀ n : Int, 1 ≤ n → n ≤ 26 → ¬ op = n := by omega
    have b : ∀ n : Int, 1 ≤ n → n ≤ 26 → (op == n) = false := fun n h1 h2 => by simpa using e n h1 h2
    unfold opinfo_Arity.f
    rw [if_neg (e 19 (by decide) (by decide)), if_neg (e 5 (by decide) (by decide)), if_neg (e 6 (by decide) (by decide)), if_neg (e 7 (by decide) (by decide)), if_neg (e 8 (by decide) (by decide)), if_neg (e 9 (by decide) (by decide)), if_neg (e 10 (by decide) (by decide)), if_neg (e 11 (by decide) (by decide)), if_neg (e 12 (by decide) (by decide)), if_neg (e 13 (by decide) (by decide)), if_neg (e 14 (by decide) (by decide)), if_neg (e 15 (by decide) (by decide)), if_neg (e 16 (by decide) (by decide)), if_neg (e 17 (by decide) (by decide)), if_neg (e 18 (by decide) (by decide)), b 20 (by decide) (by decide)]
    simp only [opinfo_Arity.j0]
    rw [if_neg (by decide), if_neg (e 3 (by decide) (by decide)), if_neg (e 4 (by decide) (by decide)), if_neg (e 21 (by decide) (by decide)), if_neg (e 22 (by decide) (by decide)), if_neg (e 23 (by decide) (by decide)), b 26 (by decide) (by decide)]
    simp only [opinfo_Arity.j1]
    rw [if_neg (by decide), if_neg (e 1 (by decide) (by decide)), if_neg (e 2 (by decide) (by decide)), if_neg (e 24 (by decide) (by decide)), if_neg (e 25 (by decide) (by decide))]
theorem opinfo_known_eq (op : Int) : opinfo_known.f op = some (decide (1 ≤ op ∧ op ≤ 26)) := by
  unfold opinfo_known.f
  by_cases h : op ≥ 1
  · rw [if_pos h]; simp [show 1 ≤ op from h]
  · rw [if_neg h]; simp; omega
theorem opinfo_inside_eq (a : Int) : opinfo_inside.f a = some (ins a) := by
  unfold opinfo_inside.f ins
  by_cases h : a ≥ 0
  · rw [if_pos h]; simp [show 0 ≤ a from h]
  · rw [if_neg h]; simp; omega
theorem opinfo_leaf_eq (op w : Int) {x : Nat} (hx : x < 18446744073709551616) : opinfo_leaf.f op w x = some (if ¬ (0 ≤ w ∧ w ≤ 64) ∨ (op = 2 ∧ 0 < w ∧ 2 ^ w.toNat ≤ x) then (0, 3) else (w, 0)) := by
  unfold opinfo_leaf.f
  rw [opinfo_inside_eq]; simp only [Option.bind_some]
  by_cases h : 0 ≤ w ∧ w ≤ 64
  · rw [if_pos (ins_iff.2 h)]
    by_cases h2 : op = 2
    · rw [if_pos h2]
      by_cases h3 : w > 0
      · rw [if_pos h3, if_pos h.1]
        by_cases h4 : 2 ^ w.toNat ≤ x
        · rw [if_neg (fun e => (far_shr0 hx h.1 h.2).1 e h4), if_pos (.inr ⟨h2, h3, h4⟩)]
        · rw [if_pos ((far_shr0 hx h.1 h.2).2 h4), if_neg (fun e => e.elim (fun e => e h) (fun e => h4 e.2.2))]
      · rw [if_neg h3, if_neg (fun e => e.elim (fun e => e h) (fun e => h3 e.2.1))]
    · rw [if_neg h2, if_neg (fun e => e.elim (fun e => e h) (fun e => h2 e.1))]
  · rw [if_neg (fun e => h (ins_iff.1 e)), if_pos (.inl h)]
theorem opinfo_resized_eq {k : Nat} (hk : 1 ≤ k) (op w : Int) {x : Nat} {a : Int} (ha : a ≤ 64) : opinfo_resized.f k op w x a = some (if w < 1 ∨ w > 64 ∨ a < 1 then (0, 3) else if op = 21 then (if w > a ∨ (x : Int) > a - w then (0, 3) else (w, 0)) else if w < a then (0, 3) else (w, 0)) := by
  obtain ⟨k, rfl⟩ : ∃ m, k = m + 1 := ⟨k - 1, by omega⟩
  unfold opinfo_resized.f
  by_cases h1 : w < 1
  · rw [if_pos h1, if_pos (.inl h1)]; rfl
  · rw [if_neg h1]
    by_cases h2 : w > 64
    · rw [if_pos h2, if_pos (.inr (.inl h2))]; rfl
    · rw [if_neg h2]; simp only [opinfo_resized.j0]
      by_cases h3 : a < 1
      · rw [if_pos (by simpa using h3), if_pos (.inr (.inr h3))]
      · rw [if_neg (by simpa using h3), if_neg (show ¬ (w < 1 ∨ w > 64 ∨ a < 1) by omega)]
        by_cases h4 : op = 21
        · rw [if_pos h4, if_pos h4]
          by_cases h5 : w > a
          · rw [if_pos h5, if_pos (.inl h5)]
          · rw [if_neg h5, wrapi_of (a := a - w) (by omega) (by omega), wrapu, show (a - w) % 18446744073709551616 = a - w by omega]
            by_cases h6 : (x : Int) > a - w
            · rw [if_pos h6, if_pos (.inr h6)]
            · rw [if_neg h6, if_neg (show ¬ (w > a ∨ (x : Int) > a - w) by omega)]
        · rw [if_neg h4, if_neg h4]
          by_cases h5 : w < a
          · rw [if_pos h5, if_pos h5]
          · rw [if_neg h5, if_neg h5]
theorem opinfo_agreed_eq (b : Bool) (r : Int) : opinfo_agreed.f b r = some (if b = true then (r, 0) else (0, 3)) := by
  unfold opinfo_agreed.f; cases b <;> rfl
theorem opinfo_Width_end {k : Nat} (hk : 8 ≤ k) {op w : Int} {x : Nat} (hx : x < 18446744073709551616) {l : List Int} (h1 : 1 ≤ op) (h2 : op ≤ 26) (ha : (l.length : Int) = arity op) (hall : l.all ins = true) :
    opinfo_Width.l0 k op w x l l (l.length : Int) (l.length : Int) = some (widthT op w x l) := by
  obtain ⟨k, rfl⟩ : ∃ m, k = m + 8 := ⟨k - 8, by omega⟩
  have hin : ∀ a ∈ l, 0 ≤ a ∧ a ≤ 64 := fun a h => ins_iff.1 (List.all_eq_true.1 hall a h)
  clear hall
  have A : 0 < l.length → 0 ≤ rd l 0 ∧ rd l 0 ≤ 64 := fun h => hin _ (rd_mem h)
  have B : 1 < l.length → 0 ≤ rd l 1 ∧ rd l 1 ≤ 64 := fun h => hin _ (rd_mem h)
  clear hin
  rcases ops h1 h2 with rfl | rfl | rfl | rfl | rfl | rfl | rfl | rfl | rfl | rfl | rfl | rfl | rfl | rfl | rfl | rfl | rfl | rfl | rfl | rfl | rfl | rfl | rfl | rfl | rfl | rfl
  all_goals
    unfold opinfo_Width.l0
    rw [if_neg (Int.lt_irrefl _)]
    simp (config := { decide := true }) only [if_true, if_false, reduceIte, opinfo_Width.j2, opinfo_Width.j3, opinfo_Width.j4, opinfo_Width.j5, opinfo_leaf_eq _ w hx, opinfo_agreed_eq, Option.bind_some, widthT]
  all_goals
    have hlen := ha
    simp (config := { decide := true }) only [arity, if_true, if_false, reduceIte] at hlen
    clear ha
    try simp (config := { decide := true }) only [hlen, if_true, if_false, reduceIte]
  all_goals first
    | done
    | rfl
    | (have hA := A (by omega)
       first
         | rfl
         | (simp only [opinfo_resized_eq (k := k + 4) (by omega) _ w hA.2, Option.bind_some, pair_eta]; done)
         | (simp (config := { decide := true }) only [opinfo_resized_eq (k := k + 4) (by omega) _ w hA.2, Option.bind_some, pair_eta, if_true, if_false, reduceIte]; done)
         | (have hB := B (by omega)
            try rw [wrapi_of (a := rd l 0 + rd l 1) (by omega) (by omega)]
            try simp only [decide_eq_true_eq, beq_iff_eq]
            all_goals ((repeat' split) <;> first | rfl | (exfalso; omega) | simp_all)))
theorem opinfo_Width_loop {op w : Int} {x : Nat} (hx : x < 18446744073709551616) {l : List Int} (hl : l.length ≤ 9223372036854775807) (h1 : 1 ≤ op) (h2 : op ≤ 26) (ha : (l.length : Int) = arity op) (d : Nat) : ∀ k i, i + d = l.length → d + 8 ≤ k → (l.take i).all ins = true →
    opinfo_Width.l0 k op w x l l (l.length : Int) (i : Int) = some (if (l.drop i).all ins = true then widthT op w x l else (0, 3)) := by
  induction d with
  | zero =>
    intro k i hi hk ht
    obtain rfl : i = l.length := by omega
    rw [List.take_length] at ht
    rw [opinfo_Width_end hk hx h1 h2 ha ht, List.drop_length]; rfl
  | succ d ih =>
    intro k i hi hk ht
    obtain ⟨k, rfl⟩ : ∃ m, k = m + 1 := ⟨k - 1, by omega⟩
    have hlt : i < l.length := by omega
    unfold opinfo_Width.l0
    rw [if_pos (by omega), if_pos (Int.natCast_nonneg _), if_pos (by omega), opinfo_inside_eq, Option.bind_some, drop_rd hlt, wrapi_succ (by omega)]
    by_cases hb : ins (rd l (i : Int)) = true
    · rw [if_pos hb, ih k (i + 1) (by omega) (by omega) (by rw [take_rd hlt, List.all_append, ht]; simp [hb])]
      simp [hb]
    · rw [if_neg hb]; simp [hb]
theorem opinfo_Width_eq {k : Nat} {op w : Int} {x : Nat} (hx : x < 18446744073709551616) {l : List Int} (hl : l.length ≤ 9223372036854775807) (hk : 20 ≤ k) : opinfo_Width.f k op w x l = some (widthS op w x l) := by
  obtain ⟨k, rfl⟩ : ∃ m, k = m + 1 := ⟨k - 1, by omega⟩
  unfold opinfo_Width.f widthS
  rw [opinfo_known_eq, opinfo_Arity_eq (by omega)]; simp only [Option.bind_some]
  by_cases h : 1 ≤ op ∧ op ≤ 26
  · rw [if_pos (by simpa using h)]
    simp only [opinfo_Width.j0]
    by_cases ha : (l.length : Int) = arity op
    · have h3 := (arity_in h.1 h.2).2
      rw [if_neg (by simp [ha]), if_neg (by omega)]
      have := opinfo_Width_loop (w := w) hx hl h.1 h.2 ha l.length k 0 (by omega) (by omega) (by simp)
      simpa using this
    · rw [if_pos (by simpa using ha), if_pos (.inr (.inr ha))]
  · rw [if_neg (by simpa using h), if_pos (by omega)]
    simp only [opinfo_Width.j0]; rw [if_pos trivial]
theorem saturateref04_Is_l0_eq {op : Int} {l : List Int} (hl : l.length ≤ 9223372036854775807) (d : Nat) : ∀ k i, i + d = l.length → d < k → saturateref04_Is.l0 k op l (l.length : Int) (i : Int) = some (decide (op ∈ l.drop i)) := by
  induction d with
  | zero =>
    intro k i hi hk
    obtain ⟨k, rfl⟩ : ∃ m, k = m + 1 := ⟨k - 1, by omega⟩
    obtain rfl : i = l.length := by omega
    unfold saturateref04_Is.l0; rw [if_neg (by omega)]; simp
  | succ d ih =>
    intro k i hi hk
    obtain ⟨k, rfl⟩ : ∃ m, k = m + 1 := ⟨k - 1, by omega⟩
    have hlt : i < l.length := by omega
    unfold saturateref04_Is.l0
    rw [if_pos (by omega), if_pos (Int.natCast_nonneg _), if_pos (by omega), drop_rd hlt, wrapi_succ (by omega)]
    by_cases h : rd l (i : Int) = op
    · rw [if_pos h]; simp [h]
    · rw [if_neg h, ih k (i + 1) (by omega) (by omega)]
      have h' : ¬ op = rd l (i : Int) := fun e => h e.symm
      simp [h']
theorem saturateref04_Is_eq {k : Nat} {op : Int} {l : List Int} (hk : 10 ≤ k) (hl : l.length ≤ 8) : saturateref04_Is.f k op l = some (decide (op ∈ l)) := by
  unfold saturateref04_Is.f
  have := saturateref04_Is_l0_eq (op := op) (l := l) (by omega) l.length k 0 (by omega) (by omega)
  simpa using this
theorem saturateref04_Leaf_eq {k : Nat} (hk : 10 ≤ k) (op : Int) : saturateref04_Leaf.f k op = some (decide (op = 1 ∨ op = 2 ∨ op = 24 ∨ op = 25)) := by
  unfold saturateref04_Leaf.f; rw [saturateref04_Is_eq hk (by decide)]; simp
theorem saturateref04_Arity_eq {k : Nat} (hk : 12 ≤ k) (op : Int) : saturateref04_Arity.f k op = some (arity op) := by
  obtain ⟨k, rfl⟩ : ∃ m, k = m + 1 := ⟨k - 1, by omega⟩
  unfold saturateref04_Arity.f
  by_cases h1 : op < 1
  · rw [if_pos h1, arity_out (.inl h1)]; rfl
  · rw [if_neg h1]; simp only [saturateref04_Arity.j0]
    by_cases h2 : op > 26
    · rw [if_pos (by simpa using h2), arity_out (.inr h2)]
    · rw [if_neg (by simpa using h2), saturateref04_Leaf_eq (by omega), saturateref04_Is_eq (by omega) (by decide)]; simp only [Option.bind_some]
      rcases ops (op := op) (by omega) (by omega) with rfl | rfl | rfl | rfl | rfl | rfl | rfl | rfl | rfl | rfl | rfl | rfl | rfl | rfl | rfl | rfl | rfl | rfl | rfl | rfl | rfl | rfl | rfl | rfl | rfl | rfl <;> rfl
theorem saturateref04_width_eq (a : Int) : saturateref04_width.f a = some (ins a) := by
  unfold saturateref04_width.f ins
  by_cases h : a ≥ 0
  · rw [if_pos h]; simp [show 0 ≤ a from h]
  · rw [if_neg h]; simp; omega
theorem saturateref04_leaf_eq (op w : Int) {x : Nat} (hx : x < 18446744073709551616) : saturateref04_leaf.f op w x = some (if ¬ (0 ≤ w ∧ w ≤ 64) ∨ (op = 2 ∧ 0 < w ∧ 2 ^ w.toNat ≤ x) then (0, 3) else (w, 0)) := by
  unfold saturateref04_leaf.f
  rw [saturateref04_width_eq]; simp only [Option.bind_some]
  by_cases h : 0 ≤ w ∧ w ≤ 64
  · rw [if_pos (ins_iff.2 h)]
    by_cases h2 : op = 2
    · rw [if_pos h2]
      by_cases h3 : w > 0
      · rw [if_pos h3]
        by_cases h5 : w < 64
        · rw [if_pos h5, one_shl h3 h5, if_pos (by rw [wrapu]; omega)]
          by_cases h4 : 2 ^ w.toNat ≤ x
          · rw [if_pos (by omega), if_pos (.inr ⟨h2, h3, h4⟩)]
          · rw [if_neg (by omega), if_neg (fun e => e.elim (fun e => e h) (fun e => h4 e.2.2))]
        · obtain rfl : w = 64 := by omega
          rw [if_neg h5, if_neg (fun e => e.elim (fun e => e h) (fun e => by have := e.2.2; rw [show (64 : Int).toNat = 64 from rfl, p64] at this; omega))]
      · rw [if_neg h3, if_neg (fun e => e.elim (fun e => e h) (fun e => h3 e.2.1))]
    · rw [if_neg h2, if_neg (fun e => e.elim (fun e => e h) (fun e => h2 e.1))]
  · rw [if_neg (fun e => h (ins_iff.1 e)), if_pos (.inl h)]
theorem saturateref04_parts_eq {k : Nat} (hk : 1 ≤ k) (op w : Int) {x : Nat} {a : Int} (ha : a ≤ 64) : saturateref04_parts.f k op w x a = some (if w < 1 ∨ w > 64 ∨ a < 1 then (0, 3) else if op = 21 then (if w > a ∨ (x : Int) > a - w then (0, 3) else (w, 0)) else if w < a then (0, 3) else (w, 0)) := by
  obtain ⟨k, rfl⟩ : ∃ m, k = m + 1 := ⟨k - 1, by omega⟩
  unfold saturateref04_parts.f
  rw [saturateref04_width_eq]; simp only [Option.bind_some]
  by_cases h0 : 0 ≤ w ∧ w ≤ 64
  · rw [if_pos (ins_iff.2 h0)]
    by_cases h1 : w < 1
    · rw [if_pos h1, if_pos (.inl h1)]; rfl
    · rw [if_neg h1]; simp only [saturateref04_parts.j0]
      by_cases h3 : a < 1
      · rw [if_pos (by simpa using h3), if_pos (.inr (.inr h3))]
      · rw [if_neg (by simpa using h3), if_neg (show ¬ (w < 1 ∨ w > 64 ∨ a < 1) by omega)]
        by_cases h4 : op = 21
        · rw [if_pos h4, if_pos h4]
          by_cases h5 : w > a
          · rw [if_pos h5, if_pos (.inl h5)]
          · rw [if_neg h5, wrapi_of (a := a - w) (by omega) (by omega), wrapu, show (a - w) % 18446744073709551616 = a - w by omega]
            by_cases h6 : (x : Int) > a - w
            · rw [if_pos h6, if_pos (.inr h6)]
            · rw [if_neg h6, if_neg (show ¬ (w > a ∨ (x : Int) > a - w) by omega)]
        · rw [if_neg h4, if_neg h4]
          by_cases h5 : w < a
          · rw [if_pos h5, if_pos h5]
          · rw [if_neg h5, if_neg h5]
  · rw [if_neg (fun e => h0 (ins_iff.1 e)), if_pos (by omega)]; rfl
theorem saturateref04_Width_end {k : Nat} (hk : 15 ≤ k) {op w : Int} {x : Nat} (hx : x < 18446744073709551616) {l : List Int} (h1 : 1 ≤ op) (h2 : op ≤ 26) (ha : (l.length : Int) = arity op) (hall : l.all ins = true) :
    saturateref04_Width.l0 k op w x l (l.length : Int) (l.length : Int) = some (widthT op w x l) := by
  obtain ⟨k, rfl⟩ : ∃ m, k = m + 15 := ⟨k - 15, by omega⟩
  have hin : ∀ a ∈ l, 0 ≤ a ∧ a ≤ 64 := fun a h => ins_iff.1 (List.all_eq_true.1 hall a h)
  clear hall
  have A : 0 < l.length → 0 ≤ rd l 0 ∧ rd l 0 ≤ 64 := fun h => hin _ (rd_mem h)
  have B : 1 < l.length → 0 ≤ rd l 1 ∧ rd l 1 ≤ 64 := fun h => hin _ (rd_mem h)
  clear hin
  unfold saturateref04_Width.l0
  rw [if_neg (Int.lt_irrefl _), saturateref04_Leaf_eq (by omega), Option.bind_some]
  rcases ops h1 h2 with rfl | rfl | rfl | rfl | rfl | rfl | rfl | rfl | rfl | rfl | rfl | rfl | rfl | rfl | rfl | rfl | rfl | rfl | rfl | rfl | rfl | rfl | rfl | rfl | rfl | rfl
  all_goals
    simp (config := { decide := true }) only [if_true, if_false, reduceIte, saturateref04_Width.j2, saturateref04_leaf_eq _ w hx, Option.bind_some, widthT]
  all_goals
    have hlen := ha
    simp (config := { decide := true }) only [arity, if_true, if_false, reduceIte] at hlen
    clear ha
    try simp (config := { decide := true }) only [hlen, if_true, if_false, reduceIte]
  all_goals first
    | done
    | rfl
    | (have hA := A (by omega)
       first
         | rfl
         | (simp only [saturateref04_parts_eq (k := k + 13) (by omega) _ w hA.2, Option.bind_some, pair_eta]; done)
         | (simp (config := { decide := true }) only [saturateref04_parts_eq (k := k + 13) (by omega) _ w hA.2, Option.bind_some, pair_eta, if_true, if_false, reduceIte]; done)
         | (have hB := B (by omega)
            try rw [wrapi_of (a := rd l 0 + rd l 1) (by omega) (by omega)]
            try simp only [decide_eq_true_eq, beq_iff_eq]
            all_goals ((repeat' split) <;> first | rfl | (exfalso; omega) | simp_all)))
theorem saturateref04_Width_loop {op w : Int} {x : Nat} (hx : x < 18446744073709551616) {l : List Int} (hl : l.length ≤ 9223372036854775807) (h1 : 1 ≤ op) (h2 : op ≤ 26) (ha : (l.length : Int) = arity op) (d : Nat) : ∀ k i, i + d = l.length → d + 15 ≤ k → (l.take i).all ins = true →
    saturateref04_Width.l0 k op w x l (l.length : Int) (i : Int) = some (if (l.drop i).all ins = true then widthT op w x l else (0, 3)) := by
  induction d with
  | zero =>
    intro k i hi hk ht
    obtain rfl : i = l.length := by omega
    rw [List.take_length] at ht
    rw [saturateref04_Width_end hk hx h1 h2 ha ht, List.drop_length]; rfl
  | succ d ih =>
    intro k i hi hk ht
    obtain ⟨k, rfl⟩ : ∃ m, k = m + 1 := ⟨k - 1, by omega⟩
    have hlt : i < l.length := by omega
    unfold saturateref04_Width.l0
    rw [if_pos (by omega), if_pos (Int.natCast_nonneg _), if_pos (by omega), saturateref04_width_eq, Option.bind_some, drop_rd hlt, wrapi_succ (by omega)]
    by_cases hb : ins (rd l (i : Int)) = true
    · rw [if_pos hb, ih k (i + 1) (by omega) (by omega) (by rw [take_rd hlt, List.all_append, ht]; simp [hb])]
      simp [hb]
    · rw [if_neg hb]; simp [hb]
theorem saturateref04_Width_eq {k : Nat} {op w : Int} {x : Nat} (hx : x < 18446744073709551616) {l : List Int} (hl : l.length ≤ 9223372036854775807) (hk : 30 ≤ k) : saturateref04_Width.f k op w x l = some (widthS op w x l) := by
  obtain ⟨k, rfl⟩ : ∃ m, k = m + 1 := ⟨k - 1, by omega⟩
  unfold saturateref04_Width.f widthS
  rw [saturateref04_Arity_eq (by omega)]; simp only [Option.bind_some]
  by_cases h : 1 ≤ op ∧ op ≤ 26
  · have h3 := arity_in h.1 h.2
    rw [if_neg (by omega)]
    simp only [saturateref04_Width.j0]
    by_cases ha : (l.length : Int) = arity op
    · rw [if_neg (by simp [ha]), if_neg (by omega)]
      have := saturateref04_Width_loop (w := w) hx hl h.1 h.2 ha l.length k 0 (by omega) (by omega) (by simp)
      simpa using this
    · rw [if_pos (by simpa using ha), if_pos (.inr (.inr ha))]
  · rw [if_pos (by rw [arity_out (by omega)]; decide), if_pos (by omega)]
    simp only [saturateref04_Width.j0]; rw [if_pos trivial]
theorem lives_eq : saturatelaw04_lives.f 1000 = some true := by decide +kernel
theorem opinfo_Commutes_eq (op : Int) : opinfo_Commutes.f op = some (decide (op = 5 ∨ op = 6 ∨ op = 7 ∨ op = 8 ∨ op = 10 ∨ op = 16)) := by
  unfold opinfo_Commutes.f
  repeat' split
  all_goals simp_all
theorem saturateref04_Commutes_eq {k : Nat} (hk : 10 ≤ k) (op : Int) : saturateref04_Commutes.f k op = some (decide (op = 5 ∨ op = 6 ∨ op = 7 ∨ op = 8 ∨ op = 10 ∨ op = 16)) := by
  unfold saturateref04_Commutes.f; rw [saturateref04_Is_eq hk (by decide)]; simp
theorem opinfo_Leaf_eq {k : Nat} (hk : 4 ≤ k) (op : Int) : opinfo_Leaf.f k op = some (decide (op = 1 ∨ op = 2 ∨ op = 24 ∨ op = 25)) := by
  unfold opinfo_Leaf.f; rw [opinfo_Arity_eq hk]; simp only [Option.bind_some]
  congr 1
  unfold arity
  by_cases h : op = 1 ∨ op = 2 ∨ op = 24 ∨ op = 25
  · rcases h with rfl | rfl | rfl | rfl <;> rfl
  · rw [decide_eq_false h]
    repeat' split
    all_goals first | rfl | omega
theorem opinfo_Pattern_eq (op : Int) : opinfo_Pattern.f op = some (decide (op = 24 ∨ op = 25 ∨ op = 26)) := by
  unfold opinfo_Pattern.f
  by_cases h : op ≥ 24
  · rw [if_pos h]; congr 1; rw [decide_eq_decide]; omega
  · rw [if_neg h]; congr 1; symm; rw [decide_eq_false_iff_not]; omega
theorem saturateref04_Pattern_eq {k : Nat} (hk : 10 ≤ k) (op : Int) : saturateref04_Pattern.f k op = some (decide (op = 24 ∨ op = 25 ∨ op = 26)) := by
  unfold saturateref04_Pattern.f; rw [saturateref04_Is_eq hk (by decide)]; simp
end Go.Proofs.Ytpdnbcablofgiaa.Pure
