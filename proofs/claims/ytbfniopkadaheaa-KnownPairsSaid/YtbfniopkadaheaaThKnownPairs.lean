/- KnownPairs, in plain words: Meet, Join, Leq, Add and Sub are the reference's. -/
import Derived.Test.YtbfniopkadaheaaStKnownPairs
import Derived.Test.YtbfniopkadaheaaKb
namespace Go.Proofs.Ytbfniopkadaheaa.Th
open Go Go.RowKit Go.Proofs.Ytbfniopkadaheaa.Ev Go.Proofs.Ytbfniopkadaheaa.Fn Go.Proofs.Ytbfniopkadaheaa.Bv
set_option linter.unusedVariables false
set_option linter.unusedSimpArgs false
theorem KnownPairs : St.KnownPairs := by
  intro w a0 a1 b0 b1 _ ha0 ha1 hb0 hb1
  obtain ⟨a0, rfl, l0⟩ := u64_of ha0
  obtain ⟨a1, rfl, l1⟩ := u64_of ha1
  obtain ⟨b0, rfl, m0⟩ := u64_of hb0
  obtain ⟨b1, rfl, m1⟩ := u64_of hb1
  unfold saturatelaw12_KnownPairs.f
  simp only [known_Meet_eq w l0 l1 m0 m1, saturateref12_Meet_eq w l0 l1 m0 m1, known_Join_eq w l0 l1 m0 m1, saturateref12_Join_eq w l0 l1 m0 m1, known_Leq_eq w l0 l1 m0 m1, saturateref12_Leq_eq w l0 l1 m0 m1,
    known_Add_eq w l0 l1 m0 m1, saturateref12_Add_eq w l0 l1 m0 m1, known_Sub_eq w l0 l1 m0 m1, saturateref12_Sub_eq w l0 l1 m0 m1, lives12_true, Option.bind_some, beq_self_eq_true, Bool.and_self, cond_true]
end Go.Proofs.Ytbfniopkadaheaa.Th
