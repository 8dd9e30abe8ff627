/- A variable with its value, made at a place that was kept for it. -/
import Derived.Test.YtanfmpkjcoolmaaGreatAbsZs
set_option linter.unusedVariables false
namespace Go.Abs
variable {P : Program} {N : Nat} {ops : Array Oper} {l : List Oper} {Q : Exit → Tm → List Ob → Prop} {tm : Tm} {S : List Ob}
section
variable {ty : TypeId} {pos : String} {after : Array Edge} {t : Nat}
end
end Go.Abs
