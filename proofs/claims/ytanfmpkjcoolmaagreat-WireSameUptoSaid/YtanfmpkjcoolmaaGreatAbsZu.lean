/- An array of zero values, built of nothing. -/
import Derived.Test.YtanfmpkjcoolmaaGreatAbsZt
set_option linter.unusedVariables false
namespace Go.Abs
variable {P : Program} {N : Nat} {ops : Array Oper} {l : List Oper} {Q : Exit → Tm → List Ob → Prop} {tm : Tm} {S : List Ob}
theorem AOps.forget {tm' : Tm} (h : AOps P N ops l Q tm' S) (e : FLe tm tm') : AOps P N ops l Q tm S := fun ro g a w st => h ro g a w (st.forget e)
theorem AOps.abs (h : ∀ o : Array Oper, o = ops → AOps P N o l Q tm S) : AOps P N ops l Q tm S := h ops rfl
section
variable {ty : TypeId} {pos : String} {after : Array Edge} {t : Nat}
end
end Go.Abs
