/- Plain: what two have, told by truth values. -/
set_option linter.unusedVariables false
namespace Go.Abs.Tb
def reg (b : Bool) : Int := if b then 1 else 0
def at2 {α : Type} (f : Bool → α) (b : Bool) (v : α) : Bool → α := fun x => if x = b then v else f x
end Go.Abs.Tb
