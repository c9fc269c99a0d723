/- OpinfoBack, in plain words: a name is found at its place, no two operators have one name, what is found has the name. -/
import Derived.Test.YtpdnbcablofgiaaDoorStOpinfoBack
import Derived.Test.YtpdnbcablofgiaaDoorOn
namespace Go.Proofs.YtpdnbcablofgiaaDoor.Th
open Go Go.RowKit Go.Proofs.YtpdnbcablofgiaaDoor.Ev Go.Proofs.YtpdnbcablofgiaaDoor.Fn
set_option linter.unusedVariables false
theorem p4_true (fu : Nat) (s : ByteArray) : saturatelaw04_OpinfoBack.p4 (fu + 1) (fu + 1) s = some true := by
  rw [saturatelaw04_OpinfoBack.p4_eq]
  obtain ⟨⟨k, b⟩, e, _, h1, h2⟩ := Of_ok s
  rw [e, Option.bind_some]
  cases b with
  | false => rw [Bool.not_false, cond_true, lives04_true, Option.bind_some]
  | true =>
    obtain ⟨q1, q2, q3⟩ := h1 rfl
    simp only at q1 q2 q3
    rw [Bool.not_true, cond_false, opinfo_Name_eq, Option.bind_some, nm_in q1 q2, q3, cond_true, lives04_true, Option.bind_some]
theorem OpinfoBack : St.OpinfoBack := by
  intro a b s _ _
  unfold saturatelaw04_OpinfoBack.f
  generalize fuel0 = fu
  unfold saturatelaw04_OpinfoBack.g
  obtain ⟨r, e1, _⟩ := Of_ok (nm a)
  rw [opinfo_Name_eq, opinfo_Name_eq, p4_true, Option.bind_some, Option.bind_some, Option.bind_some]
  by_cases h1 : a ≥ 1
  · by_cases h2 : a ≤ 26
    · rw [Of_name h1 h2, Option.bind_some, ct (decide_eq_true h1), ct (decide_eq_true h2), Bool.not_true, cond_false, bne_self_eq_false, cond_false]
      cases hb : (a != b) with
      | false => rfl
      | true =>
        rw [cond_true]
        refine cf ?_
        have hne : a ≠ b := by simpa using hb
        rw [nm_in h1 h2]
        by_cases hbr : 1 ≤ b ∧ b ≤ 26
        · rw [nm_in hbr.1 hbr.2]
          cases hq : ((gtab0_0 a.toNat).toList == (gtab0_0 b.toNat).toList) with
          | false => rfl
          | true => exact absurd (apart h1 h2 hbr.1 hbr.2 hq) hne
        · have : nm b = gtab0_0 0 := by unfold nm; rw [if_neg hbr]; rfl
          rw [this]
          cases hq : ((gtab0_0 a.toNat).toList == (gtab0_0 0).toList) with
          | false => rfl
          | true =>
            have := congrArg Fin.val (apart0 ⟨a.toNat, by omega⟩ ⟨0, by omega⟩ hq)
            simp only at this
            omega
    · rw [e1, Option.bind_some, ct (decide_eq_true h1), cf (decide_eq_false h2)]
  · rw [e1, Option.bind_some, cf (decide_eq_false h1)]
end Go.Proofs.YtpdnbcablofgiaaDoor.Th
