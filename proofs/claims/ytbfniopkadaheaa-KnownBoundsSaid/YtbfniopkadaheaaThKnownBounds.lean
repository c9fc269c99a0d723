/- KnownBounds, in plain words: Meet and Join are the greatest lower and the least upper bound. -/
import Derived.Test.YtbfniopkadaheaaStKnownBounds
import Derived.Test.YtbfniopkadaheaaTk
namespace Go.Proofs.Ytbfniopkadaheaa.Th
open Go Go.RowKit Go.Proofs.Ytbfniopkadaheaa.Ev Go.Proofs.Ytbfniopkadaheaa.Fn Go.Proofs.Ytbfniopkadaheaa.Bv
set_option linter.unusedVariables false
set_option linter.unusedSimpArgs false
theorem KnownBounds : St.KnownBounds := by
  intro w a0 a1 b0 b1 c0 c1 _ ha0 ha1 hb0 hb1 hc0 hc1
  obtain ⟨a0, rfl, la0⟩ := u64_of ha0
  obtain ⟨a1, rfl, la1⟩ := u64_of ha1
  obtain ⟨b0, rfl, lb0⟩ := u64_of hb0
  obtain ⟨b1, rfl, lb1⟩ := u64_of hb1
  obtain ⟨c0, rfl, lc0⟩ := u64_of hc0
  obtain ⟨c1, rfl, lc1⟩ := u64_of hc1
  unfold saturatelaw12_KnownBounds.f saturatelaw12_KnownBounds.g
  simp only [saturatelaw12_KnownBounds.p7_eq, saturatelaw12_KnownBounds.p5_eq, lives12_true, known_Leq_eq w la0 la1 la0 la1, known_Leq_eq w la0 la1 lb0 lb1, known_Leq_eq w lb0 lb1 lc0 lc1, known_Leq_eq w la0 la1 lc0 lc1, known_Leq_eq w lc0 lc1 la0 la1, known_Leq_eq w lc0 lc1 lb0 lb1,
    known_Meet_eq w la0 la1 lb0 lb1, known_Join_eq w la0 la1 lb0 lb1, Option.bind_some]
  have hx := kof_kok (MK w) a0 a1
  have hy := kof_kok (MK w) b0 b1
  have hz := kof_kok (MK w) c0 c1
  have lx := kof_lt (M := MK w) la0 la1
  have ly := kof_lt (M := MK w) lb0 lb1
  have ex : kof (MK w) a0 a1 = kof (MK w) a0 a1 := rfl
  generalize hX : kof (MK w) a0 a1 = x at *
  generalize hY : kof (MK w) b0 b1 = y at *
  generalize hZ : kof (MK w) c0 c1 = z at *
  have hj : kok (MK w) (x.1 &&& y.1) (x.2 &&& y.2) := kok_and hx
  have lj : x.1 &&& y.1 < U64 ∧ x.2 &&& y.2 < U64 := ⟨and_lt ly.1, and_lt ly.2⟩
  have fj : kof (MK w) (x.1 &&& y.1) (x.2 &&& y.2) = (x.1 &&& y.1, x.2 &&& y.2) := kof_of hj
  simp only [known_Valid_eq w lj.1 lj.2, known_Leq_eq w la0 la1 lj.1 lj.2, known_Leq_eq w lb0 lb1 lj.1 lj.2, known_Leq_eq w lj.1 lj.2 lc0 lc1, hX, hY, hZ, fj, Option.bind_some]
  have e1 : kle x (x.1 &&& y.1, x.2 &&& y.2) := ⟨or_and1 _ _, or_and1 _ _⟩
  have e2 : kle y (x.1 &&& y.1, x.2 &&& y.2) := ⟨or_and2 _ _, or_and2 _ _⟩
  have e3 : kle x x := ⟨or_refl _, or_refl _⟩
  have k1 : kle x z → kle y z → kle (x.1 &&& y.1, x.2 &&& y.2) z := fun h1 h2 => ⟨and_or h1.1 h2.1, and_or h1.2 h2.2⟩
  have k2 : kle x y → kle y z → kle x z := fun h1 h2 => ⟨or_trans h1.1 h2.1, or_trans h1.2 h2.2⟩
  by_cases hd : kdis x y
  · have hm : kok (MK w) (x.1 ||| y.1) (x.2 ||| y.2) := kok_or hx hy hd
    have lm : x.1 ||| y.1 < U64 ∧ x.2 ||| y.2 < U64 := ⟨or_lt lx.1 ly.1, or_lt lx.2 ly.2⟩
    have fm : kof (MK w) (x.1 ||| y.1) (x.2 ||| y.2) = (x.1 ||| y.1, x.2 ||| y.2) := kof_of hm
    simp only [if_pos hd, known_Valid_eq w lm.1 lm.2, known_Leq_eq w lm.1 lm.2 la0 la1, known_Leq_eq w lm.1 lm.2 lb0 lb1, known_Leq_eq w lc0 lc1 lm.1 lm.2, hX, hY, hZ, fm, Option.bind_some]
    have e4 : kle (x.1 ||| y.1, x.2 ||| y.2) x := ⟨or_or1 _ _, or_or1 _ _⟩
    have e5 : kle (x.1 ||| y.1, x.2 ||| y.2) y := ⟨or_or2 _ _, or_or2 _ _⟩
    have k3 : kle z x → kle z y → kle z (x.1 ||| y.1, x.2 ||| y.2) := fun h1 h2 => ⟨or_le h1.1 h2.1, or_le h1.2 h2.2⟩
    simp only [decide_eq_true hj, decide_eq_true hm, decide_eq_true e1, decide_eq_true e2, decide_eq_true e3, decide_eq_true e4, decide_eq_true e5, Bool.not_true, cond_true, cond_false]
    by_cases b1 : kle x z <;> by_cases b2 : kle y z <;> by_cases b3 : kle z x <;> by_cases b4 : kle z y <;> by_cases b5 : kle x y <;>
      first
      | (exact absurd (k2 b5 b2) b1)
      | (have g1 := k1 b1 b2; have g3 := k3 b3 b4; simp only [b1, b2, b3, b4, b5, g1, g3, decide_true, decide_false, Bool.not_true, Bool.not_false, cond_true, cond_false]; done)
      | (have g1 := k1 b1 b2; simp only [b1, b2, b3, b4, b5, g1, decide_true, decide_false, Bool.not_true, Bool.not_false, cond_true, cond_false]; done)
      | (have g3 := k3 b3 b4; simp only [b1, b2, b3, b4, b5, g3, decide_true, decide_false, Bool.not_true, Bool.not_false, cond_true, cond_false]; done)
      | (simp only [b1, b2, b3, b4, b5, decide_true, decide_false, Bool.not_true, Bool.not_false, cond_true, cond_false]; done)
  · have k4 : ¬ (kle z x ∧ kle z y) := fun h => hd (kdis_of hz h.1 h.2)
    have h0 : known_Valid.f w ((0 : Int), (0 : Int)) = some true := by
      have := known_Valid_eq w (z := 0) (o := 0) (by decide) (by decide)
      rw [decide_eq_true (kok_zero _)] at this; exact this
    simp only [if_neg hd, h0, Option.bind_some]
    simp only [decide_eq_true hj, decide_eq_true e1, decide_eq_true e2, decide_eq_true e3, Bool.not_true, cond_true, cond_false]
    by_cases b1 : kle x z <;> by_cases b2 : kle y z <;> by_cases b3 : kle z x <;> by_cases b4 : kle z y <;> by_cases b5 : kle x y <;>
      first
      | (exact absurd (k2 b5 b2) b1)
      | (exact absurd (And.intro b3 b4) k4)
      | (have g1 := k1 b1 b2; simp [b1, b2, b3, b4, b5, g1]; done)
      | (simp [b1, b2, b3, b4, b5]; done)
end Go.Proofs.Ytbfniopkadaheaa.Th
