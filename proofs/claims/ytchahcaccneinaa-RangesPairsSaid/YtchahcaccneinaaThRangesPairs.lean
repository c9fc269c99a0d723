/- RangesPairs, in plain words: the program's functions return what the reference's return. -/
import Derived.Test.YtchahcaccneinaaStRangesPairs
import Derived.Test.YtchahcaccneinaaTr
namespace Go.Proofs.Ytchahcaccneinaa.Th
open Go Go.RowKit Go.Proofs.Ytchahcaccneinaa.Ev Go.Proofs.Ytchahcaccneinaa.Fn Go.Proofs.Ytchahcaccneinaa.Bv
set_option linter.unusedVariables false
set_option linter.unusedSimpArgs false
theorem RangesPairs : St.RangesPairs := by
  intro w a0 a1 b0 b1 _ _ _ _ _
  unfold saturatelaw13_RangesPairs.f
  rw [ranges_Meet_eq, saturateref13_Meet_eq, ranges_Join_eq, saturateref13_Join_eq, ranges_Leq_eq, saturateref13_Leq_eq, lives_true]
  simp
end Go.Proofs.Ytchahcaccneinaa.Th
