/- BitsCounts, in plain words: the count, the lowest and the highest bit. -/
import Derived.Test.YtnagfkdgangikaaDoorStBitsCounts
import Derived.Test.YtnagfkdgangikaaDoorTp
import Derived.Test.YtnagfkdgangikaaDoorHl
namespace Go.Proofs.YtnagfkdgangikaaDoor.Th
open Go Go.RowKit Go.Proofs.YtnagfkdgangikaaDoor.Ev Go.Proofs.YtnagfkdgangikaaDoor.Fn Go.Proofs.YtnagfkdgangikaaDoor.Bv
set_option linter.unusedVariables false
theorem BitsCounts : St.BitsCounts := by
  intro a h
  obtain ⟨x, rfl, hx⟩ := u64_of h
  unfold saturatelaw01_BitsCounts.f
  obtain ⟨r, e1, e2⟩ := Lowest_eq hx
  obtain ⟨s, e3, e4⟩ := Highest_eq hx
  rw [bits_Count_eq hx, saturateref01_Count_eq hx, Option.bind_some, Option.bind_some, beq_self_eq_true, cond_true, e1, e2, Option.bind_some, Option.bind_some, beq_self_eq_true, cond_true, e3, e4, Option.bind_some, Option.bind_some, beq_self_eq_true, cond_true, lives01_true, Option.bind_some]
end Go.Proofs.YtnagfkdgangikaaDoor.Th
