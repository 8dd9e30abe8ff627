/- Regions whose first operations come in any order and whose others come in the written order. -/
import Derived.Test.YtanfmpkjcoolmaaGreatAbsN
set_option linter.unusedVariables false
set_option linter.unusedSimpArgs false
namespace Go.Abs
variable {P : Program} {N : Nat} {ops : Array Oper} {Q : Exit → Tm → List Ob → Prop} {tm : Tm} {S : List Ob}
def edgeAt (ops : Array Oper) (i j : Nat) : Bool := match ops[i]? with | some o => hasEdge o j | none => false
def sinksB (ops : Array Oper) (m : Nat) : Bool := (List.range m).all fun j => (List.range (m + 1)).any fun i => Nat.blt j i && edgeAt ops i j
def rowB (ops : Array Oper) (m : Nat) : Bool := (List.range ops.size).all fun k => Nat.ble k m || edgeAt ops k (k - 1)
end Go.Abs
