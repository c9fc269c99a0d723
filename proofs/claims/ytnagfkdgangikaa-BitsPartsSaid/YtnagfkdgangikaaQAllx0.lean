-- Written by a program of this workplace out of Lean's own print of the translation. Lean checks it.
import Derived.Test.YtnagfkdgangikaaProg
import Derived.Below
import Derived.Deep.Draws
import Derived.Deep.AppendLies
import Derived.Maps.AppendAt
import Derived.OwnWalk
import Derived.Laws.BytesArg
import Derived.Laws.MakeOwn
import Derived.Laws.OwnMore
import Derived.Deep.OwnRows
import Derived.Tactics
import Derived.Lib.ConvBytes
import Derived.Laws.Slices
import Derived.WalkKit
import Derived.KernelRfl
import Derived.RowKit3
import Derived.Deep.LoopGhost
import Derived.Deep.QuietTactic
import Derived.BigQuiet
import Derived.WideLaws
import Derived.Deep.DeepCutAuto
import Derived.Deep.CutBlock
import Derived.Deep.RegionHeld3
import Derived.Laws.Rows
import Derived.Lib.AppendStr
import Derived.ArgAppend
import Derived.Laws.IdiomCopy
import Derived.OrdersHeld
import Derived.Laws.BitsLemmas
import Derived.RowKit
import Derived.Test.YtnagfkdgangikaaWWords
import Derived.Test.YtnagfkdgangikaaWLast
import Derived.Test.YtnagfkdgangikaaWTab
import Derived.Test.YtnagfkdgangikaaWFour
import Derived.Test.YtnagfkdgangikaaWQPut
import Derived.Test.YtnagfkdgangikaaWApart
import Derived.Test.YtnagfkdgangikaaWArr
import Derived.Test.YtnagfkdgangikaaWZeros
import Derived.Test.YtnagfkdgangikaaWFoot
import Derived.Test.YtnagfkdgangikaaWKept
import Derived.Test.YtnagfkdgangikaaWShare
import Derived.Test.YtnagfkdgangikaaWN
import Derived.Test.YtnagfkdgangikaaWFootNe
import Derived.Test.YtnagfkdgangikaaWAt
import Derived.Test.YtnagfkdgangikaaWEqStruct
import Derived.Test.YtnagfkdgangikaaWRepsOne
import Derived.Test.YtnagfkdgangikaaWInv
import Derived.Test.YtnagfkdgangikaaWInvWords
import Derived.Test.YtnagfkdgangikaaWGuard
import Derived.Test.YtnagfkdgangikaaWNEv
import Derived.Test.YtnagfkdgangikaaWMore
namespace Go.Proofs.Ytnagfkdgangikaa.QAll
open Go.RowKit Go.Proofs.YtnagfkdgangikaaW.PrintWords Go.Proofs.YtnagfkdgangikaaW.PrintLast Go.Proofs.YtnagfkdgangikaaW.PrintMore
attribute [local go_sem] max2_int min2_int max_two min_two max_three min_three max_four min_four   -- for this text's walks alone
set_option linter.unusedVariables false
set_option linter.unusedSimpArgs false



def errW : Option Int → Value
  | none => .nilIface
  | some c => .iface 0 (.int .i64 c)
theorem errW_none : errW none = .nilIface := rfl
theorem errW_some (c : Int) : errW (some c) = .iface 0 (.int .i64 c) := rfl

-- the values' own types

end Go.Proofs.Ytnagfkdgangikaa.QAll
