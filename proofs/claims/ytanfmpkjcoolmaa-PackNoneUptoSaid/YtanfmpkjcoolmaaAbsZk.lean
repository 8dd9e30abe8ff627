/- A variable's slice of a block that is only read from now on. -/
import Derived.Test.YtanfmpkjcoolmaaAbsZj
set_option linter.unusedVariables false
set_option linter.unusedSimpArgs false
namespace Go.Abs
variable {P : Program} {N : Nat} {Q : Exit → Tm → List Ob → Prop} {tm : Tm} {S : List Ob}
end Go.Abs
