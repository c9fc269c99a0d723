/- What the functions return, as the evaluator tells it: written by a program of this workplace (mev.py); Lean checks each equation. -/
import Derived.Test.YtcihbcffokjgjaaGreatProg
import Derived.Test.YtcihbcffokjgjaaGreatAEvC
import Derived.Test.YtcihbcffokjgjaaGreatAF0
import Derived.Test.YtcihbcffokjgjaaGreatAF1
import Derived.Test.YtcihbcffokjgjaaGreatAF2
namespace Go.Proofs.YtcihbcffokjgjaaGreat.Fn
open Go Go.RowKit Go.Proofs.YtcihbcffokjgjaaGreat.Ev Go.Proofs
set_option linter.unusedVariables false
set_option maxRecDepth 100000
/-! ### known_Has: function 69 -/
/-! ### ranges_Has: function 70 -/
/-! ### facts_Has: function 25 -/
end Go.Proofs.YtcihbcffokjgjaaGreat.Fn
