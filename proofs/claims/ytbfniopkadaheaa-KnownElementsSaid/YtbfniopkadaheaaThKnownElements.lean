/- KnownElements, in plain words: Top, Const, Valid, Has, Single and Size are the reference's. -/
import Derived.Test.YtbfniopkadaheaaStKnownElements
import Derived.Test.YtbfniopkadaheaaKa
namespace Go.Proofs.Ytbfniopkadaheaa.Th
open Go Go.RowKit Go.Proofs.Ytbfniopkadaheaa.Ev Go.Proofs.Ytbfniopkadaheaa.Fn Go.Proofs.Ytbfniopkadaheaa.Bv
set_option linter.unusedVariables false
set_option linter.unusedSimpArgs false
theorem KnownElements : St.KnownElements := by
  intro w k0 k1 x _ h0 h1 hx
  obtain ⟨k0, rfl, l0⟩ := u64_of h0
  obtain ⟨k1, rfl, l1⟩ := u64_of h1
  obtain ⟨x, rfl, lx⟩ := u64_of hx
  unfold saturatelaw12_KnownElements.f known_Top.f saturateref12_Top.f
  simp only [known_Single_eq w l0 l1, saturateref12_Single_eq w l0 l1, known_Const_eq w lx, saturateref12_Const_eq w lx, known_Valid_eq w l0 l1, saturateref12_Valid_eq w l0 l1, known_Has_eq w l0 l1 lx, saturateref12_Has_eq w l0 l1 lx, known_Size_eq w l0 l1, saturateref12_Size_eq w l0 l1, lives12_true, Option.bind_some, beq_self_eq_true, Bool.and_self, cond_true]
end Go.Proofs.Ytbfniopkadaheaa.Th
