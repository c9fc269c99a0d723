/- Apply on elements: both programs return the specification's. -/
import Derived.Test.YtcihbcffokjgjaaGreatAF10
import Derived.Test.YtcihbcffokjgjaaGreatAF2
import Derived.Test.YtcihbcffokjgjaaGreatAKf
namespace Go.Proofs.YtcihbcffokjgjaaGreat.Fn
open Go Go.RowKit Go.Proofs.YtcihbcffokjgjaaGreat.Ev Go.Proofs.YtcihbcffokjgjaaGreat.Bv
set_option linter.unusedVariables false
set_option linter.unusedSimpArgs false
set_option maxRecDepth 100000

/-- Numbers of 64 bits. -/
def Nums (z : Nat → Int) : Prop := ∀ i, ∃ n : Nat, z i = (n : Int) ∧ n < U64
theorem nums_of {z : Nat → Int} (h : ∀ i, (Lit.int .u64 (z i)).wf = true) : Nums z := fun i => u64_of (h i)
theorem opd {g z o : Nat → Int} (hz : Nums z) (ho : Nums o) (i : Nat) (h1 : 1 ≤ g i) (h2 : g i ≤ 64) :
    ∃ v : Nat, g i = (v : Int) ∧ (g i).toNat = v ∧ 1 ≤ v ∧ v ≤ 64 ∧ El v (elm g z o i) ∧ known_of.f (g i) (z i, o i) = some (((elm g z o i).1 : Int), ((elm g z o i).2 : Int)) ∧ saturateref12_Of.f (g i) (z i, o i) = some (((elm g z o i).1 : Int), ((elm g z o i).2 : Int)) := by
  obtain ⟨v, hv, v1, v2⟩ := nat_of h1 h2
  obtain ⟨a, ha, la⟩ := hz i
  obtain ⟨b, hb, lb⟩ := ho i
  refine ⟨v, hv, by omega, v1, v2, ?_, ?_, ?_⟩
  · unfold elm; rw [hv, W_of v1 v2, ha, hb]; exact el_kof la lb
  · unfold elm; rw [ha, hb]; exact known_of_eq (g i) la lb
  · unfold elm; rw [ha, hb]; exact saturateref12_Of_eq (g i) la lb
theorem prog_join {w : Nat} (w1 : 1 ≤ w) (w2 : w ≤ 64) {a b : Nat × Nat} (ha : El w a) (hb : El w b) : known_Join.f w ((a.1 : Int), (a.2 : Int)) ((b.1 : Int), (b.2 : Int)) = some (((a.1 &&& b.1 : Nat) : Int), ((a.2 &&& b.2 : Nat) : Int)) := by
  have := known_Join_eq (w : Int) ha.l1 ha.l2 hb.l1 hb.l2
  rw [MK, W_of w1 w2, ha.kof, hb.kof] at this; exact this
theorem ref_join {w : Nat} (w1 : 1 ≤ w) (w2 : w ≤ 64) {a b : Nat × Nat} (ha : El w a) (hb : El w b) : saturateref12_Join.f w ((a.1 : Int), (a.2 : Int)) ((b.1 : Int), (b.2 : Int)) = some (((a.1 &&& b.1 : Nat) : Int), ((a.2 &&& b.2 : Nat) : Int)) := by
  have := saturateref12_Join_eq (w : Int) ha.l1 ha.l2 hb.l1 hb.l2
  rw [MK, W_of w1 w2, ha.kof, hb.kof] at this; exact this
theorem one_val {c : Nat × Nat} (hc : El 1 c) : c.2 = 0 ∨ c.2 = 1 := by
  have := hc.m2 (by decide)
  have e : vmask 1 = 1 := rfl
  omega
theorem apply_prog12 {op w : Int} {x : Nat} (hx : x < 18446744073709551616) (n m : Nat) {g z o : Nat → Int} (hz : Nums z) (ho : Nums o) : known_Apply.f op w x (n, g) (m, z, o) = some (kresS op w x n m g z o) := by
  unfold known_Apply.f known_Apply.g kresS
  rw [known_refused_eq hx, Option.bind_some]
  by_cases hc : (chkS op w x n m g).2 ≠ 0
  · rw [if_pos hc, show ((chkS op w x n m g).2 != 0) = true by rw [bne_iff_ne]; exact hc, cond_true]
  · have hc0 := Decidable.not_not.1 hc
    rw [if_neg hc]
    obtain ⟨h1, h2, rfl, ha, hg, he, e0, e1⟩ := chkS_ok hc0
    have ar := arity_in (op := op) (by omega) (by omega)
    rw [show ((chkS op w x m m g).2 != 0) = false by rw [bne_eq_false_iff_eq]; exact hc0, cond_false, bifd_pos (Int.natCast_nonneg _), show Nat.ble (m * 16) 140737488355328 = true by rw [Nat.ble_eq]; omega, cond_true, he]
    obtain ⟨r1, r2, hcases⟩ := widthT_ok h1 h2 ha hg e0 e1
    generalize (widthT op w x g).1 = r at *
    clear he e0 e1 hc hc0
    obtain ⟨r, rfl, r1, r2⟩ := nat_of r1 r2
    rw [Int.toNat_natCast]
    obtain ⟨k, hk⟩ := fuel4
    rw [hk]; clear hk
    have un : op = 3 ∨ op = 4 ∨ op = 21 ∨ op = 22 ∨ op = 23 → m = 1 → (op = 21 → x + r ≤ (g 0).toNat) → (op = 22 ∨ op = 23 → (g 0).toNat ≤ r) →
        known_Apply.j6 (k + 4) (k + 4) op x m m r m (m : Int) 0 m g m z o 0 0 m (fun _ => 0) (fun _ => 0) = some ((((kvalS op r x g (elm g z o)).1 : Int), ((kvalS op r x g (elm g z o)).2 : Int)), 0) := by
      rintro hop rfl q1 q2
      obtain ⟨v, hv, hv2, v1, v2, hel, hp, _⟩ := opd hz ho 0 (hg 0 (by omega)).1 (hg 0 (by omega)).2
      have hvs : kvalS op r x g (elm g z o) = kunaS op r x v (elm g z o 0) := by
        unfold kvalS; rw [hv2, if_neg (by omega), if_neg (by omega), if_neg (by omega), if_pos hop]
      rw [hvs, show k + 4 = (k + 2) + 2 from rfl, kap1, hp, Option.bind_some, hv, prog_unary (x := x) hel v1 v2 r1 r2 hop (fun h => ⟨by have := q1 h; omega, by have := q1 h; rw [wrapi, wrapi_of (by omega) (by omega)]⟩) (fun h => by have := q2 h; omega), Option.bind_some]
    have bi : 5 ≤ op → op ≤ 20 → op ≠ 19 → m = 2 → (op ≠ 20 → g 1 = g 0) → (op = 10 → (r : Int) = g 0) →
        known_Apply.j6 (k + 4) (k + 4) op x m m r m (m : Int) 0 m g m z o 0 0 m (fun _ => 0) (fun _ => 0) = some ((((kvalS op r x g (elm g z o)).1 : Int), ((kvalS op r x g (elm g z o)).2 : Int)), 0) := by
      rintro p5 p20 p19 rfl q1 q2
      obtain ⟨v, hv, hv2, v1, v2, hel, hp, _⟩ := opd hz ho 0 (hg 0 (by omega)).1 (hg 0 (by omega)).2
      obtain ⟨u, hu, hu2, u1, u2, hel2, hp2, _⟩ := opd hz ho 1 (hg 1 (by omega)).1 (hg 1 (by omega)).2
      have hvs : kvalS op r x g (elm g z o) = kbinS op r v u (elm g z o 0) (elm g z o 1) := by
        unfold kvalS; rw [hv2, hu2, if_neg (by omega), if_neg (by omega), if_neg (by omega), if_neg (by omega)]
      rw [hvs, show k + 4 = (k + 1) + 3 from rfl, kap2, hp, Option.bind_some, hp2, Option.bind_some, hv, hu, prog_binary p5 p20 p19 hel hel2 v1 v2 u1 u2 r1 r2 (fun h => by have := q1 h; omega) (fun h => by have := q2 h; omega), Option.bind_some]
    rcases hcases with ⟨hop, rfl⟩ | ⟨hop, rfl, hr⟩ | ⟨hop, rfl, hr, hr2⟩ | ⟨rfl, rfl, g0, g1, g2⟩ | ⟨rfl, rfl, hr⟩ | ⟨hop, rfl, g1, hr⟩ | ⟨hop, rfl, g1, hr⟩
    · have hk0 := kap0 (k + 4) (k + 3) op r x g z o
      rw [show (k + 3) + 1 = k + 4 from rfl] at hk0
      rw [hk0]
      unfold kvalS
      rcases hop with rfl | rfl
      · simp only [Int.reduceBEq, cond_false, if_true]; rfl
      · have := prog_const r1 r2 hx
        simp only [Int.reduceBEq, cond_true, Int.reduceEq, if_true, if_false]
        rw [this, Option.bind_some]
    · exact un (by omega) rfl (by omega) (by omega)
    · exact un (by omega) rfl (fun h => by have := hr h; omega) (fun h => by have := hr2 h; omega)
    · obtain ⟨v, hv, hv2, v1, v2, hel, hp, _⟩ := opd hz ho 0 (hg 0 (by omega)).1 (hg 0 (by omega)).2
      obtain ⟨u, hu, hu2, u1, u2, hel2, hp2, _⟩ := opd hz ho 1 (hg 1 (by omega)).1 (hg 1 (by omega)).2
      obtain ⟨t, ht, ht2, t1, t2, hel3, hp3, _⟩ := opd hz ho 2 (hg 2 (by omega)).1 (hg 2 (by omega)).2
      obtain rfl : v = 1 := by omega
      obtain rfl : u = r := by omega
      obtain rfl : t = u := by omega
      have hs := prog_single hel (by decide) (by decide)
      have hvs : kvalS 19 t x g (elm g z o) = kiteS (elm g z o 0) (elm g z o 1) (elm g z o 2) := by
        unfold kvalS; rw [if_neg (by decide), if_neg (by decide), if_pos rfl]
      rw [hvs, kap3, hp, Option.bind_some, hp2, Option.bind_some, hp3, Option.bind_some]
      simp only at hs ⊢
      rw [show (1 : Int) = ((1 : Nat) : Int) from rfl, hs, Option.bind_some]
      unfold kiteS
      by_cases h1 : kone 1 (elm g z o 0)
      · rw [if_pos h1, if_pos h1, cond_true]
        rcases one_val hel with q | q
        · rw [q, if_neg (by decide)]; rfl
        · rw [q, if_pos rfl]; rfl
      · rw [if_neg h1, if_neg h1, cond_false, prog_join t1 t2 hel2 hel3, Option.bind_some]
    · exact bi (by decide) (by decide) (by decide) rfl (fun h => absurd rfl h) (fun h => absurd h (by decide))
    · exact bi (by omega) (by omega) (by omega) rfl (fun _ => g1) (fun h => by omega)
    · exact bi (by omega) (by omega) (by omega) rfl (fun _ => g1) (fun h => by omega)
theorem apply_ref12 {op w : Int} {x : Nat} (hx : x < 18446744073709551616) (n m : Nat) {g z o : Nat → Int} (hz : Nums z) (ho : Nums o) : saturateref12_Apply.f op w x (n, g) (m, z, o) = some (kresS op w x n m g z o) := by
  unfold saturateref12_Apply.f saturateref12_Apply.g kresS
  rw [saturateref12_Refused_eq hx, Option.bind_some]
  by_cases hc : (chkS op w x n m g).2 ≠ 0
  · rw [if_pos hc, show ((chkS op w x n m g).2 != 0) = true by rw [bne_iff_ne]; exact hc, cond_true]
  · have hc0 := Decidable.not_not.1 hc
    rw [if_neg hc]
    obtain ⟨h1, h2, rfl, ha, hg, he, e0, e1⟩ := chkS_ok hc0
    have ar := arity_in (op := op) (by omega) (by omega)
    rw [show ((chkS op w x m m g).2 != 0) = false by rw [bne_eq_false_iff_eq]; exact hc0, cond_false, he]
    obtain ⟨r1, r2, hcases⟩ := widthT_ok h1 h2 ha hg e0 e1
    generalize (widthT op w x g).1 = r at *
    clear he e0 e1 hc hc0
    obtain ⟨r, rfl, r1, r2⟩ := nat_of r1 r2
    rw [Int.toNat_natCast]
    obtain ⟨k, hk⟩ := fuel4
    rw [hk]; clear hk
    have un : op = 3 ∨ op = 4 ∨ op = 21 ∨ op = 22 ∨ op = 23 → m = 1 → (op = 21 → x + r ≤ (g 0).toNat) →
        saturateref12_Apply.j6 (k + 4) (k + 4) op x m m r 0 0 m g m z o 0 0 0 (fun _ => 0) (fun _ => 0) = some ((((kvalS op r x g (elm g z o)).1 : Int), ((kvalS op r x g (elm g z o)).2 : Int)), 0) := by
      rintro hop rfl q1
      obtain ⟨v, hv, hv2, v1, v2, hel, _, hp⟩ := opd hz ho 0 (hg 0 (by omega)).1 (hg 0 (by omega)).2
      have hvs : kvalS op r x g (elm g z o) = kunaS op r x v (elm g z o 0) := by
        unfold kvalS; rw [hv2, if_neg (by omega), if_neg (by omega), if_neg (by omega), if_pos hop]
      rw [hvs, show k + 4 = (k + 2) + 2 from rfl, rap1 _ _ _ _ _ hop, hp, Option.bind_some, hv, ref_unary hel v1 v2 r2 hop (fun h => by have := q1 h; omega) hx, Option.bind_some]
    have bi : op = 5 ∨ op = 6 ∨ op = 7 ∨ op = 8 ∨ op = 9 ∨ op = 10 ∨ op = 11 ∨ op = 12 ∨ op = 13 ∨ op = 14 ∨ op = 15 ∨ op = 16 ∨ op = 17 ∨ op = 18 → m = 2 → g 1 = g 0 →
        saturateref12_Apply.j6 (k + 4) (k + 4) op x m m r 0 0 m g m z o 0 0 0 (fun _ => 0) (fun _ => 0) = some ((((kvalS op r x g (elm g z o)).1 : Int), ((kvalS op r x g (elm g z o)).2 : Int)), 0) := by
      rintro hop rfl q1
      obtain ⟨v, hv, hv2, v1, v2, hel, _, hp⟩ := opd hz ho 0 (hg 0 (by omega)).1 (hg 0 (by omega)).2
      obtain ⟨u, hu, hu2, u1, u2, hel2, _, hp2⟩ := opd hz ho 1 (hg 1 (by omega)).1 (hg 1 (by omega)).2
      obtain rfl : u = v := by omega
      have hvs : kvalS op r x g (elm g z o) = kbinS op r u u (elm g z o 0) (elm g z o 1) := by
        unfold kvalS; rw [hv2, hu2, if_neg (by omega), if_neg (by omega), if_neg (by omega), if_neg (by omega)]
      rw [hvs, show k + 4 = (k + 1) + 3 from rfl, rap2 _ _ _ _ _ hop, hp, Option.bind_some, hp2, Option.bind_some, hv, ref_binary (by omega) (by omega) hel hel2 v1 v2 r1 r2, Option.bind_some]
    rcases hcases with ⟨hop, rfl⟩ | ⟨hop, rfl, hr⟩ | ⟨hop, rfl, hr, hr2⟩ | ⟨rfl, rfl, g0, g1, g2⟩ | ⟨rfl, rfl, hr⟩ | ⟨hop, rfl, g1, hr⟩ | ⟨hop, rfl, g1, hr⟩
    · have hk0 := rap0 (k + 4) (k + 3) op r x hop g z o
      rw [show (k + 3) + 1 = k + 4 from rfl] at hk0
      have e : saturateref12_Apply.j6 (k + 4) (k + 4) op x ((0 : Nat)) ((0 : Nat)) r 0 0 0 g 0 z o 0 0 0 (fun _ => 0) (fun _ => 0) = _ := hk0
      rw [e]
      unfold kvalS saturateref12_Top.f
      rcases hop with rfl | rfl
      · simp only [Int.reduceBEq, cond_true, if_true]; rfl
      · have := ref_const r1 r2 hx
        simp only [Int.reduceBEq, cond_false, Int.reduceEq, if_true, if_false]
        rw [this, Option.bind_some]
    · exact un (by omega) rfl (by omega)
    · exact un (by omega) rfl (fun h => by have := hr h; omega)
    · obtain ⟨v, hv, hv2, v1, v2, hel, _, hp⟩ := opd hz ho 0 (hg 0 (by omega)).1 (hg 0 (by omega)).2
      obtain ⟨u, hu, hu2, u1, u2, hel2, _, hp2⟩ := opd hz ho 1 (hg 1 (by omega)).1 (hg 1 (by omega)).2
      obtain ⟨t, ht, ht2, t1, t2, hel3, _, hp3⟩ := opd hz ho 2 (hg 2 (by omega)).1 (hg 2 (by omega)).2
      obtain rfl : v = 1 := by omega
      obtain rfl : u = r := by omega
      obtain rfl : t = u := by omega
      have hs := ref_single hel (by decide) (by decide)
      have hvs : kvalS 19 t x g (elm g z o) = kiteS (elm g z o 0) (elm g z o 1) (elm g z o 2) := by
        unfold kvalS; rw [if_neg (by decide), if_neg (by decide), if_pos rfl]
      rw [hvs, show k + 4 = (k + 3) + 1 from rfl, rap3 (k + 3) k, hp, Option.bind_some, hp2, Option.bind_some, hp3, Option.bind_some]
      simp only at hs ⊢
      rw [show (1 : Int) = ((1 : Nat) : Int) from rfl, hs, Option.bind_some]
      unfold kiteS
      by_cases h1 : kone 1 (elm g z o 0)
      · rw [if_pos h1, if_pos h1, cond_true]
        rcases one_val hel with q | q
        · rw [q, if_neg (by decide)]; rfl
        · rw [q, if_pos rfl]; rfl
      · rw [if_neg h1, if_neg h1, cond_false, cond_false, ref_join t1 t2 hel2 hel3, Option.bind_some]
    · obtain ⟨v, hv, hv2, v1, v2, hel, _, hp⟩ := opd hz ho 0 (hg 0 (by omega)).1 (hg 0 (by omega)).2
      obtain ⟨u, hu, hu2, u1, u2, hel2, _, hp2⟩ := opd hz ho 1 (hg 1 (by omega)).1 (hg 1 (by omega)).2
      have hvs : kvalS 20 r x g (elm g z o) = kconS v u (elm g z o 0) (elm g z o 1) := by
        unfold kvalS kbinS; rw [hv2, hu2]; simp only [Int.reduceEq, if_true, if_false, or_self]
      have hr20 := rap20 (k + 4) (k + 1) r x g z o
      rw [show (k + 1) + 3 = k + 4 from rfl, hp, Option.bind_some, hp2, Option.bind_some, hv, hu] at hr20
      simp only at hr20 ⊢
      rw [ref_concat hel hel2 (by omega), Option.bind_some] at hr20
      rw [hvs]; exact hr20
    · exact bi (by omega) rfl g1
    · exact bi (by omega) rfl g1
end Go.Proofs.YtcihbcffokjgjaaGreat.Fn
