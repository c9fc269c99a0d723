-- Written by a program of this workplace out of Lean's own print of the translation. Lean checks it.
import Derived.Test.YtpdnbcablofgiaaProg
import Derived.Below
import Derived.Deep.Draws
import Derived.Deep.AppendLies
import Derived.Maps.AppendAt
import Derived.OwnWalk
import Derived.Laws.BytesArg
import Derived.Laws.MakeOwn
import Derived.Laws.OwnMore
import Derived.Deep.OwnRows
import Derived.Tactics
import Derived.Lib.ConvBytes
import Derived.Laws.Slices
import Derived.WalkKit
import Derived.KernelRfl
import Derived.RowKit3
import Derived.Deep.LoopGhost
import Derived.Deep.QuietTactic
import Derived.BigQuiet
import Derived.WideLaws
import Derived.Deep.DeepCutAuto
import Derived.Deep.CutBlock
import Derived.Deep.RegionHeld3
import Derived.Laws.Rows
import Derived.Lib.AppendStr
import Derived.ArgAppend
import Derived.Laws.IdiomCopy
import Derived.OrdersHeld
import Derived.Laws.BitsLemmas
import Derived.RowKit
import Derived.Test.YtpdnbcablofgiaaWWords
import Derived.Test.YtpdnbcablofgiaaWLast
import Derived.Test.YtpdnbcablofgiaaWTab
import Derived.Test.YtpdnbcablofgiaaWFour
import Derived.Test.YtpdnbcablofgiaaWQPut
import Derived.Test.YtpdnbcablofgiaaWApart
import Derived.Test.YtpdnbcablofgiaaWArr
import Derived.Test.YtpdnbcablofgiaaWZeros
import Derived.Test.YtpdnbcablofgiaaWFoot
import Derived.Test.YtpdnbcablofgiaaWKept
import Derived.Test.YtpdnbcablofgiaaWShare
import Derived.Test.YtpdnbcablofgiaaWN
import Derived.Test.YtpdnbcablofgiaaWFootNe
import Derived.Test.YtpdnbcablofgiaaWAt
import Derived.Test.YtpdnbcablofgiaaWEqStruct
import Derived.Test.YtpdnbcablofgiaaWRepsOne
import Derived.Test.YtpdnbcablofgiaaWInv
import Derived.Test.YtpdnbcablofgiaaWInvWords
import Derived.Test.YtpdnbcablofgiaaWGuard
import Derived.Test.YtpdnbcablofgiaaWNEv
import Derived.Test.YtpdnbcablofgiaaWMore
namespace Go.Proofs.Ytpdnbcablofgiaa.QAll
open Go.RowKit Go.Proofs.YtpdnbcablofgiaaW.PrintWords Go.Proofs.YtpdnbcablofgiaaW.PrintLast Go.Proofs.YtpdnbcablofgiaaW.PrintMore
attribute [local go_sem] max2_int min2_int max_two min_two max_three min_three max_four min_four   -- for this text's walks alone
set_option linter.unusedVariables false
set_option linter.unusedSimpArgs false



def errW : Option Int → Value
  | none => .nilIface
  | some c => .iface 0 (.int .i64 c)
theorem errW_none : errW none = .nilIface := rfl
theorem errW_some (c : Int) : errW (some c) = .iface 0 (.int .i64 c) := rfl

theorem info3 : (Try.prog.info? 3).map (fun i => (i.zero, i.size, i.bytes)) = some (some (.int .i64 0), 1, 8) := by kernel_rfl
theorem info22 : (Try.prog.info? 22).map (fun i => (i.zero, i.size, i.bytes)) = some (some (.int .i64 0), 1, 8) := by kernel_rfl
-- the values' own types

end Go.Proofs.Ytpdnbcablofgiaa.QAll
