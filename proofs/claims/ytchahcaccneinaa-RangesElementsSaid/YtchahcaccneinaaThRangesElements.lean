/- RangesElements, in plain words: the program's functions return what the reference's return. -/
import Derived.Test.YtchahcaccneinaaStRangesElements
import Derived.Test.YtchahcaccneinaaTr
namespace Go.Proofs.Ytchahcaccneinaa.Th
open Go Go.RowKit Go.Proofs.Ytchahcaccneinaa.Ev Go.Proofs.Ytchahcaccneinaa.Fn Go.Proofs.Ytchahcaccneinaa.Bv
set_option linter.unusedVariables false
set_option linter.unusedSimpArgs false
theorem RangesElements : St.RangesElements := by
  intro w lo hi x _ _ _ hx0
  obtain ⟨x, rfl, hx⟩ := u64_of hx0
  obtain ⟨n, hn, h64⟩ := len_ex hx
  unfold saturatelaw13_RangesElements.f
  rw [ranges_Single_eq, saturateref13_Single_eq, ranges_Top_eq, saturateref13_Top_eq, ranges_Const_eq w hx, saturateref13_Const_eq w hx, ranges_Valid_eq, saturateref13_Valid_eq, ranges_Has_eq w _ hx, saturateref13_Has_eq w _ hx, ranges_Fill_eq hx hn h64, saturateref13_Fill_eq hn h64, lives_true]
  simp
end Go.Proofs.Ytchahcaccneinaa.Th
