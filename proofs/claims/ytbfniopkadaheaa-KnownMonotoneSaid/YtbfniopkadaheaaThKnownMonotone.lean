/- KnownMonotone, in plain words: Apply is monotone in each operand. -/
import Derived.Test.YtbfniopkadaheaaStKnownMonotone
import Derived.Test.YtbfniopkadaheaaKi
namespace Go.Proofs.Ytbfniopkadaheaa.Th
open Go Go.RowKit Go.Proofs.Ytbfniopkadaheaa.Ev Go.Proofs.Ytbfniopkadaheaa.Fn Go.Proofs.Ytbfniopkadaheaa.Bv
set_option linter.unusedVariables false
set_option linter.unusedSimpArgs false
set_option maxRecDepth 100000
theorem few_some (a : Int × Int × Int × (Nat × (Nat → Int)) × (Nat × (Nat → Int) × (Nat → Int))) : ∃ b, saturatelaw12_few.f a = some b := by
  unfold saturatelaw12_few.f
  cases decide ((a.2.2.2.1.1 : Int) ≤ 5) <;> exact ⟨_, rfl⟩
theorem KnownMonotone : St.KnownMonotone := by
  intro op w x n g m z o N z' o' _ _ hx0 _ _ _ hz ho _ hz' ho'
  obtain ⟨x, rfl, hx⟩ := u64_of hx0
  obtain ⟨b, hb⟩ := few_some (op, w, (x : Int), (n, g), (m, z, o))
  have nz := nums_of hz
  have no := nums_of ho
  have nz' := nums_of hz'
  have no' := nums_of ho'
  unfold saturatelaw12_KnownMonotone.f
  have hfu : 1000 < fuel0 + 1 := by unfold fuel0; omega
  generalize fuel0 + 1 = fu at *
  unfold saturatelaw12_KnownMonotone.g
  simp only at hb ⊢
  rw [saturateref12_Refused_eq hx, Option.bind_some, hb, Option.bind_some, lives12_true, Option.bind_some]
  by_cases hc : (chkS op w x n m g).2 ≠ 0
  · rw [show ((chkS op w x n m g).2 != 0) = true by rw [bne_iff_ne]; exact hc, cond_true]
  · have hc0 := Decidable.not_not.1 hc
    rw [show ((chkS op w x n m g).2 != 0) = false by rw [bne_eq_false_iff_eq]; exact hc0, cond_false]
    cases b with
    | false => rfl
    | true =>
      rw [Bool.not_true, cond_false]
      obtain ⟨rfl, hn, _, _, hg, r, hr, r1, r2, hcas⟩ := chk_cas hc0
      by_cases hN : N = m
      · subst hN
        rw [show ((N : Int) != (N : Int)) = false from bne_self_eq_false _, cond_false]
        obtain ⟨l0, l1, n0, n1, hl, he⟩ := mono_j6 fu (chkS op w x N N g).1 op w x hn nz no nz' no' N fu 0 (fun _ => 0) (fun _ => 0) rfl (by omega) (by omega) nums_zero nums_zero (fun j hj => by omega)
        have he0 : saturatelaw12_KnownMonotone.j6 fu fu N (chkS op w x N N g).1 0 0 N z' o' op w x N N 0 (fun _ => 0) (fun _ => 0) N g N z o = _ := he
        rw [he0]
        unfold mtail
        rw [apply_prog12 hx N N nz no, Option.bind_some, apply_prog12 hx N N n0 n1, Option.bind_some]
        unfold kresS
        rw [if_neg hc, if_neg hc, hr, Int.toNat_natCast]
        have hel : ∀ i, i < N → El (g i).toNat (elm g z o i) := fun i hi => by
          obtain ⟨v, _, hv, _, _, q, _⟩ := opd nz no i (hg i hi).1 (hg i hi).2
          rw [hv]; exact q
        have hel' : ∀ i, i < N → El (g i).toNat (elm g z' o' i) := fun i hi => by
          obtain ⟨v, _, hv, _, _, q, _⟩ := opd nz' no' i (hg i hi).1 (hg i hi).2
          rw [hv]; exact q
        have hj : ∀ i, i < N → elm g l0 l1 i = jn12 g z o z' o' i ∧ El (g i).toNat (jn12 g z o z' o' i) ∧ Le (elm g z o i) (jn12 g z o z' o' i) := fun i hi => by
          have q := hel i hi
          have hk : kok (vmask (g i).toNat) (jn12 g z o z' o' i).1 (jn12 g z o z' o' i).2 := kok_and q.ok
          have hle : (jn12 g z o z' o' i).1 ≤ (elm g z o i).1 ∧ (jn12 g z o z' o' i).2 ≤ (elm g z o i).2 := ⟨Nat.and_le_left, Nat.and_le_left⟩
          refine ⟨?_, ⟨Nat.lt_of_le_of_lt hle.1 q.l1, Nat.lt_of_le_of_lt hle.2 q.l2, hk⟩, fun j => ⟨fun h => ?_, fun h => ?_⟩⟩
          · obtain ⟨v, hv, hv2, v1, v2, _⟩ := opd nz no i (hg i hi).1 (hg i hi).2
            rw [hv2] at hk
            unfold elm
            rw [(hl i hi).1, (hl i hi).2, Int.toNat_natCast, Int.toNat_natCast, hv, W_of v1 v2]
            exact kof_of hk
          · have h' : ((elm g z o i).1 &&& (elm g z' o' i).1).testBit j = true := h
            rw [Nat.testBit_and, Bool.and_eq_true] at h'; exact h'.1
          · have h' : ((elm g z o i).2 &&& (elm g z' o' i).2).testBit j = true := h
            rw [Nat.testBit_and, Bool.and_eq_true] at h'; exact h'.1
        have e1 := el_val hcas hg hel r1 r2
        have e2 := el_val hcas hg (fun i hi => by rw [(hj i hi).1]; exact (hj i hi).2.1) r1 r2 (e := elm g l0 l1)
        have l := le_val hcas hg hel (fun i hi => by rw [(hj i hi).1]; exact (hj i hi).2.1) (fun i hi => by rw [(hj i hi).1]; exact (hj i hi).2.2) r2 (e' := elm g l0 l1)
        have hq := known_Leq_eq (r : Int) e1.l1 e1.l2 e2.l1 e2.l2
        rw [MK, W_of r1 r2, e1.kof, e2.kof, decide_eq_true (kle_iff.2 l)] at hq
        generalize kvalS op r x g (elm g z o) = A at *
        generalize kvalS op r x g (elm g l0 l1) = B at *
        clear he he0 hl hj hel hel' hb
        have z0 : ((0 : Int) == 0) = true := rfl
        rw [z0, cond_true, cond_true, hq, Option.bind_some, cond_true, lives12_true, Option.bind_some]
      · rw [show ((N : Int) != (m : Int)) = true by rw [bne_iff_ne]; omega, cond_true]
end Go.Proofs.Ytbfniopkadaheaa.Th
