/- What the functions return, as the evaluator tells it: written by a program of this workplace (mev.py); Lean checks each equation. -/
import Derived.Test.YtcihbcffokjgjaaGreatProg
import Derived.Test.YtcihbcffokjgjaaGreatAEvC
import Derived.Test.YtcihbcffokjgjaaGreatAF0
import Derived.Test.YtcihbcffokjgjaaGreatAF2
import Derived.Test.YtcihbcffokjgjaaGreatAF3
import Derived.Test.YtcihbcffokjgjaaGreatAF4
import Derived.Test.YtcihbcffokjgjaaGreatAF6
import Derived.Test.YtcihbcffokjgjaaGreatAF7
import Derived.Test.YtcihbcffokjgjaaGreatAF8
import Derived.Test.YtcihbcffokjgjaaGreatAF9
import Derived.Test.YtcihbcffokjgjaaGreatAF10
import Derived.Test.YtcihbcffokjgjaaGreatAF11
namespace Go.Proofs.YtcihbcffokjgjaaGreat.Fn
open Go Go.RowKit Go.Proofs.YtcihbcffokjgjaaGreat.Ev Go.Proofs
set_option linter.unusedVariables false
set_option maxRecDepth 100000
/-! ### saturateref01_Extract: function 189 -/
/-! ### saturateref08_one: function 127 -/
/-! ### saturateref01_And: function 190 -/
/-! ### saturateref01_Or: function 191 -/
/-! ### saturateref01_Xor: function 192 -/
/-! ### saturateref01_Ashr: function 199 -/
/-! ### saturateref01_Eq: function 200 -/
/-! ### saturateref08_two: function 128 -/
/-! ### saturateref08_value: function 64 -/
/-! ### saturateref08_Apply: function 23 -/
/-! ### saturatelaw14_FactsApplySound: function 6 -/
end Go.Proofs.YtcihbcffokjgjaaGreat.Fn
