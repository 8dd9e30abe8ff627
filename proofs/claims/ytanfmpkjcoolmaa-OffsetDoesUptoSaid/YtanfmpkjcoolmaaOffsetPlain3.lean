/- Plain: all positions, as they are told. -/
import Derived.Test.YtanfmpkjcoolmaaOffsetPlain2
set_option linter.unusedVariables false
namespace Go.Abs
namespace Tb
def tellAt (t : Tb) (x : Int) : Sp := ⟨(t.spAt x).e, (t.spAt x).r, x, t.off x⟩
def alls (t : Tb) : List (Int × Sp) := (List.range (t.n - t.start).toNat).map fun k : Nat => (t.start + (k : Int), t.tellAt (t.start + (k : Int)))
/-- How many positions lie ahead of the i-th span. -/
def cnt (t : Tb) (i : Nat) : Nat := ((if i < t.l.length then (t.nth i).p else t.n) - t.start).toNat
end Tb
abbrev pz (p : Int × Sp) : List D := [vi p.1, .agg (spz p.2)]
abbrev qz (p : Int × Sp) : List D := spz p.2
end Go.Abs
