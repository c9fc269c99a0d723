/- OpinfoNames, in plain words: both tables hold the same names, both searches find the same place. -/
import Derived.Test.YtpdnbcablofgiaaDoorStOpinfoNames
import Derived.Test.YtpdnbcablofgiaaDoorOn
namespace Go.Proofs.YtpdnbcablofgiaaDoor.Th
open Go Go.RowKit Go.Proofs.YtpdnbcablofgiaaDoor.Ev Go.Proofs.YtpdnbcablofgiaaDoor.Fn
set_option linter.unusedVariables false
theorem OpinfoNames : St.OpinfoNames := by
  intro a s _
  unfold saturatelaw04_OpinfoNames.f
  obtain ⟨r, e1, e2, _⟩ := Of_ok s
  rw [e1, e2, opinfo_Name_eq, saturateref04_Name_eq, Option.bind_some, Option.bind_some, Option.bind_some, Option.bind_some, beq_self_eq_true, cond_true, beq_self_eq_true, cond_true, beq_self_eq_true, cond_true, lives04_true, Option.bind_some]
end Go.Proofs.YtpdnbcablofgiaaDoor.Th
