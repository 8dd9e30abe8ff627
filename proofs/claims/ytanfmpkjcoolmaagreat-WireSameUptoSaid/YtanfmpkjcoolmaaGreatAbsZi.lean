/- Results that hold a row or a block of their own somewhere within. -/
import Derived.Test.YtanfmpkjcoolmaaGreatAbsZh
set_option linter.unusedVariables false
set_option linter.unusedSimpArgs false
namespace Go.Abs
variable {P : Program} {N : Nat} {ops : Array Oper} {l : List Oper} {Q : Exit → Tm → List Ob → Prop} {tm : Tm} {S : List Ob}
section ops
variable {t : Tmp} {ty : TypeId} {pos : String} {after : Array Edge}
end ops
end Go.Abs
