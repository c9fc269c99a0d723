/- Results of Apply: elements, and monotone; the law's loop over joins. -/
import Derived.Test.YtbfniopkadaheaaF0
import Derived.Test.YtbfniopkadaheaaF1
import Derived.Test.YtbfniopkadaheaaF4
import Derived.Test.YtbfniopkadaheaaKh
namespace Go.Proofs.Ytbfniopkadaheaa.Fn
open Go Go.RowKit Go.Proofs.Ytbfniopkadaheaa.Ev Go.Proofs.Ytbfniopkadaheaa.Bv
set_option linter.unusedVariables false
set_option linter.unusedSimpArgs false
set_option maxRecDepth 100000

/-- What the checks leave: the operator, the width r of the result, and the widths of the n operands. -/
def Cas (op : Int) (r x n : Nat) (g : Nat → Int) : Prop :=
  ((op = 1 ∨ op = 2) ∧ n = 0) ∨ ((op = 3 ∨ op = 4) ∧ n = 1 ∧ (r : Int) = g 0) ∨
    ((op = 21 ∨ op = 22 ∨ op = 23) ∧ n = 1 ∧ (op = 21 → (x : Int) + r ≤ g 0) ∧ (op = 22 ∨ op = 23 → g 0 ≤ r)) ∨
    (op = 19 ∧ n = 3 ∧ g 0 = 1 ∧ g 1 = r ∧ g 2 = r) ∨ (op = 20 ∧ n = 2 ∧ (r : Int) = g 0 + g 1) ∨
    ((op = 16 ∨ op = 17 ∨ op = 18) ∧ n = 2 ∧ g 1 = g 0 ∧ (r : Int) = 1) ∨ ((5 ≤ op ∧ op ≤ 15) ∧ n = 2 ∧ g 1 = g 0 ∧ (r : Int) = g 0)
/-- The checks let it through. -/
theorem chk_cas {op w : Int} {x n m : Nat} {g : Nat → Int} (h : (chkS op w x n m g).2 = 0) :
    m = n ∧ n ≤ 3 ∧ 1 ≤ op ∧ op ≤ 23 ∧ (∀ i, i < n → 1 ≤ g i ∧ g i ≤ 64) ∧ ∃ r : Nat, (chkS op w x n m g).1 = (r : Int) ∧ 1 ≤ r ∧ r ≤ 64 ∧ Cas op r x n g := by
  obtain ⟨h1, h2, rfl, ha, hg, he, e0, e1⟩ := chkS_ok h
  have ar := arity_in (op := op) (by omega) (by omega)
  obtain ⟨r1, r2, hcases⟩ := widthT_ok h1 h2 ha hg e0 e1
  obtain ⟨r, hr, r1, r2⟩ := nat_of r1 r2
  refine ⟨rfl, by omega, h1, h2, hg, r, by rw [he]; exact hr, r1, r2, ?_⟩
  rw [hr] at hcases
  exact hcases
theorem el_val {op : Int} {r x n : Nat} {g : Nat → Int} {e : Nat → Nat × Nat} (hc : Cas op r x n g) (hg : ∀ i, i < n → 1 ≤ g i ∧ g i ≤ 64) (he : ∀ i, i < n → El (g i).toNat (e i)) (r1 : 1 ≤ r) (r2 : r ≤ 64) : El r (kvalS op r x g e) := by
  unfold kvalS
  rcases hc with ⟨hop, rfl⟩ | ⟨hop, rfl, hr⟩ | ⟨hop, rfl, hr, hr2⟩ | ⟨rfl, rfl, g0, g1, g2⟩ | ⟨rfl, rfl, hr⟩ | ⟨hop, rfl, g1, hr⟩ | ⟨hop, rfl, g1, hr⟩
  · rcases hop with rfl | rfl
    · rw [if_pos rfl]; exact el_top r2
    · rw [if_neg (by decide), if_pos rfl]; exact el_cst r1 r2 _
  · rw [if_neg (by omega), if_neg (by omega), if_neg (by omega), if_pos (by omega)]
    have := hg 0 (by omega)
    exact el_una (he 0 (by omega)) (by omega) r2 (fun _ => by omega)
  · rw [if_neg (by omega), if_neg (by omega), if_neg (by omega), if_pos (by omega)]
    have := hg 0 (by omega)
    exact el_una (he 0 (by omega)) (by omega) r2 (fun h => by omega)
  · rw [if_neg (by decide), if_neg (by decide), if_pos rfl]
    have h1 := he 1 (by omega)
    have h2 := he 2 (by omega)
    rw [show (g 1).toNat = r by omega] at h1
    rw [show (g 2).toNat = r by omega] at h2
    exact el_ite r2 h1 h2
  · rw [if_neg (by decide), if_neg (by decide), if_neg (by decide), if_neg (by decide)]
    have := hg 0 (by omega)
    have := hg 1 (by omega)
    exact el_bin (by decide) (by decide) (by decide) (he 0 (by omega)) (he 1 (by omega)) (by omega) (by omega) (by omega) r1 r2 (fun h => absurd rfl h) (fun h => by omega) (fun h => absurd h (by decide)) (fun _ => by omega)
  · rw [if_neg (by omega), if_neg (by omega), if_neg (by omega), if_neg (by omega)]
    have := hg 0 (by omega)
    have := hg 1 (by omega)
    exact el_bin (by omega) (by omega) (by omega) (he 0 (by omega)) (he 1 (by omega)) (by omega) (by omega) (by omega) r1 r2 (fun h => by omega) (fun h => by omega) (fun h => by omega) (fun h => by omega)
  · rw [if_neg (by omega), if_neg (by omega), if_neg (by omega), if_neg (by omega)]
    have := hg 0 (by omega)
    have := hg 1 (by omega)
    exact el_bin (by omega) (by omega) (by omega) (he 0 (by omega)) (he 1 (by omega)) (by omega) (by omega) (by omega) r1 r2 (fun h => by omega) (fun h => by omega) (fun h => by omega) (fun h => by omega)
theorem le_val {op : Int} {r x n : Nat} {g : Nat → Int} {e e' : Nat → Nat × Nat} (hc : Cas op r x n g) (hg : ∀ i, i < n → 1 ≤ g i ∧ g i ≤ 64) (he : ∀ i, i < n → El (g i).toNat (e i)) (he' : ∀ i, i < n → El (g i).toNat (e' i)) (hl : ∀ i, i < n → Le (e i) (e' i)) (r2 : r ≤ 64) : Le (kvalS op r x g e) (kvalS op r x g e') := by
  unfold kvalS
  rcases hc with ⟨hop, rfl⟩ | ⟨hop, rfl, hr⟩ | ⟨hop, rfl, hr, hr2⟩ | ⟨rfl, rfl, g0, g1, g2⟩ | ⟨rfl, rfl, hr⟩ | ⟨hop, rfl, g1, hr⟩ | ⟨hop, rfl, g1, hr⟩
  · rcases hop with rfl | rfl <;> exact le_refl' _
  · rw [if_neg (by omega), if_neg (by omega), if_neg (by omega), if_pos (by omega), if_neg (by omega), if_neg (by omega), if_neg (by omega), if_pos (by omega)]
    have := hg 0 (by omega)
    exact le_una (he 0 (by omega)) (by omega) (by omega) (hl 0 (by omega))
  · rw [if_neg (by omega), if_neg (by omega), if_neg (by omega), if_pos (by omega), if_neg (by omega), if_neg (by omega), if_neg (by omega), if_pos (by omega)]
    have := hg 0 (by omega)
    exact le_una (he 0 (by omega)) (by omega) (by omega) (hl 0 (by omega))
  · rw [if_neg (by decide), if_neg (by decide), if_pos rfl, if_neg (by decide), if_neg (by decide), if_pos rfl]
    have h0 := he 0 (by omega)
    have h0' := he' 0 (by omega)
    rw [show (g 0).toNat = 1 by omega] at h0 h0'
    exact le_ite h0 h0' (hl 0 (by omega)) (hl 1 (by omega)) (hl 2 (by omega))
  all_goals
    rw [if_neg (by omega), if_neg (by omega), if_neg (by omega), if_neg (by omega), if_neg (by omega), if_neg (by omega), if_neg (by omega), if_neg (by omega)]
    have := hg 0 (by omega)
    have := hg 1 (by omega)
    exact le_bin (by omega) (by omega) (fun h => by omega) (fun h => by omega) (fun h => by omega) (he 0 (by omega)) (he 1 (by omega)) (he' 0 (by omega)) (he' 1 (by omega)) (hl 0 (by omega)) (hl 1 (by omega))
theorem nums_cat {n : Nat} {f h : Nat → Int} (hf : Nums f) (hh : Nums h) : Nums (cat n f h) := by
  intro i
  unfold cat
  cases Nat.blt i n
  · exact hh _
  · exact hf _
theorem nums_one {v : Nat} (h : v < U64) : Nums (fun i => [(v : Int)].getD i 0) := by
  intro i
  cases i with
  | zero => exact ⟨v, rfl, h⟩
  | succ i => exact ⟨0, by simp, by decide⟩
theorem nums_zero : Nums (fun _ => 0) := fun _ => ⟨0, rfl, by decide⟩
theorem cat_lt {n : Nat} {f h : Nat → Int} {i : Nat} (hi : i < n) : cat n f h i = f i := by
  unfold cat; rw [show Nat.blt i n = true by rw [Nat.blt_eq]; exact hi]; rfl
theorem cat_at {n : Nat} {f h : Nat → Int} : cat n f h n = h 0 := by
  unfold cat; rw [show Nat.blt n n = false by cases q : Nat.blt n n with | false => rfl | true => rw [Nat.blt_eq] at q; omega]; simp
/-- The joined operand. -/
def jn12 (g z o z' o' : Nat → Int) (i : Nat) : Nat × Nat := ((elm g z o i).1 &&& (elm g z' o' i).1, (elm g z o i).2 &&& (elm g z' o' i).2)
theorem ref_join_op {g z o z' o' : Nat → Int} (hz : Nums z) (ho : Nums o) (hz' : Nums z') (ho' : Nums o') (i : Nat) : saturateref12_Join.f (g i) (z i, o i) (z' i, o' i) = some (((jn12 g z o z' o' i).1 : Int), ((jn12 g z o z' o' i).2 : Int)) := by
  obtain ⟨a, ha, la⟩ := hz i
  obtain ⟨b, hb, lb⟩ := ho i
  obtain ⟨c, hc, lc⟩ := hz' i
  obtain ⟨d, hd, ld⟩ := ho' i
  unfold jn12 elm
  rw [ha, hb, hc, hd]
  exact saturateref12_Join_eq (g i) la lb lc ld
/-- The law's end. -/
noncomputable def mtail (r op w x : Int) (n m m' : Nat) (g z o l0 l1 : Nat → Int) : Option Bool :=
  (known_Apply.f op w x (n, g) (m, z, o)).bind fun r7 => (known_Apply.f op w x (n, g) (m', l0, l1)).bind fun r8 =>
    bif (r7.2 == 0) then bif (r8.2 == 0) then (known_Leq.f r (r7.1.1, r7.1.2) (r8.1.1, r8.1.2)).bind fun r9 => bif r9 then (saturatelaw12_lives.f).bind fun r10 => some r10 else some false else some false else some false
theorem mono_j6 (fu : Nat) (r op w x : Int) {n : Nat} (hn : n ≤ 3) {g z o z' o' : Nat → Int} (hz : Nums z) (ho : Nums o) (hz' : Nums z') (ho' : Nums o') (d : Nat) : ∀ (k i : Nat) (f0 f1 : Nat → Int), n - i = d → i ≤ n → d < k → Nums f0 → Nums f1 → (∀ j, j < i → f0 j = ((jn12 g z o z' o' j).1 : Int) ∧ f1 j = ((jn12 g z o z' o' j).2 : Int)) →
    ∃ l0 l1, Nums l0 ∧ Nums l1 ∧ (∀ j, j < n → l0 j = ((jn12 g z o z' o' j).1 : Int) ∧ l1 j = ((jn12 g z o z' o' j).2 : Int)) ∧
      saturatelaw12_KnownMonotone.j6 fu k n r i i n z' o' op w x n n i f0 f1 n g n z o = mtail r op w x n n n g z o l0 l1 := by
  induction d with
  | zero =>
    intro k i f0 f1 hd hi hk h0 h1 hj
    obtain ⟨k, rfl⟩ : ∃ m, k = m + 1 := ⟨k - 1, by omega⟩
    obtain rfl : i = n := by omega
    exact ⟨f0, f1, h0, h1, hj, by rw [saturatelaw12_KnownMonotone.j6_succ, bifd_neg (by omega)]; rfl⟩
  | succ d ih =>
    intro k i f0 f1 hd hi hk h0 h1 hj
    obtain ⟨k, rfl⟩ : ∃ m, k = m + 1 := ⟨k - 1, by omega⟩
    have hv : (jn12 g z o z' o' i).1 < U64 ∧ (jn12 g z o z' o' i).2 < U64 := by
      obtain ⟨c, hc, lc⟩ := hz' i
      obtain ⟨d, hd, ld⟩ := ho' i
      have := kof_lt (M := vmask (W (g i))) lc ld
      unfold jn12 elm
      rw [hc, hd]
      exact ⟨and_lt this.1, and_lt this.2⟩
    obtain ⟨l0, l1, n0, n1, hl, he⟩ := ih k (i + 1) (cat i f0 (fun t => [((jn12 g z o z' o' i).1 : Int)].getD t 0)) (cat i f1 (fun t => [((jn12 g z o z' o' i).2 : Int)].getD t 0)) (by omega) (by omega) (by omega) (nums_cat h0 (nums_one hv.1)) (nums_cat h1 (nums_one hv.2)) (fun j hj' => by
      rcases Nat.lt_or_ge j i with h | h
      · rw [cat_lt h, cat_lt h]; exact hj j h
      · obtain rfl : j = i := by omega
        rw [cat_at, cat_at]; exact ⟨rfl, rfl⟩)
    refine ⟨l0, l1, n0, n1, hl, ?_⟩
    rw [saturatelaw12_KnownMonotone.j6_succ, bifd_pos (by omega), bifd_pos (by omega), bifd_pos (by omega), bifd_pos (by omega), bifd_pos (by omega), bifd_pos (by omega), bifd_pos (by omega), Int.toNat_natCast, ref_join_op hz ho hz' ho', Option.bind_some, show Nat.ble ((i + 1) * 16) 140737488355328 = true by rw [Nat.ble_eq]; omega, cond_true, wrapi, wrapi_succ (by omega)]
    exact he
end Go.Proofs.Ytbfniopkadaheaa.Fn
