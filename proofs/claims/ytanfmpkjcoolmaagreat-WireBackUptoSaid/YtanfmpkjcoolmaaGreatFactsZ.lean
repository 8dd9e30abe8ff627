/- What the whole program says of itself, told once for all rows. -/
import Derived.Test.YtanfmpkjcoolmaaGreatRows
import Derived.WalkKit
import Derived.ProofKit
import Derived.JoinedCond
namespace Go.Proofs.YtanfmpkjcoolmaaGreat.Facts
set_option linter.unusedVariables false
theorem and2 {a b : Bool} (h : a = true) (k : b = true) : (a && b) = true := by rw [h, k]; rfl
theorem laidOut : laidOutB Tryz.prog = true := by kernel_rfl
theorem rowed : mapsRowed Tryz.prog = true := by kernel_rfl
theorem stops : (Tryz.prog.stops == []) = true := by kernel_rfl
theorem stopKnobs : (Tryz.prog.stopKnobs == []) = true := by kernel_rfl
theorem heard : Tryz.prog.stopsHeard = true := by kernel_rfl
/-- The signs of the order in which the program begins, as numbers. -/
def signs : List Nat := [104, 97, 114, 110, 101, 115, 115, 32, 99, 100, 49, 50, 48, 53, 53, 49, 52, 56, 99, 52, 50, 57, 55, 99, 52, 101, 98, 100, 52, 52, 99, 53, 100, 54, 53, 99, 48, 53, 100, 100, 54, 97, 101, 102, 100, 52, 100, 98, 99, 49, 99, 101, 57, 101, 102, 49, 98, 50, 101, 54, 49, 55, 48, 101, 55, 53, 54, 57, 51, 99, 51, 55, 32, 99, 117, 116, 32, 97, 116, 32, 112, 111, 110, 116, 111, 111, 110, 47, 112, 111, 110, 116, 111, 111, 110, 108, 97, 119, 50, 52, 46, 87, 105, 114, 101, 66, 97, 99, 107, 32, 112, 111, 110, 116, 111, 111, 110, 47, 112, 111, 110, 116, 111, 111, 110, 108, 97, 119, 50, 52, 46, 87, 105, 114, 101, 83, 97, 109, 101]
theorem order : Tryz.prog.initOrder.toList = signs.map Char.ofNat := by
  have h : Tryz.prog.initOrder = String.ofList (signs.map Char.ofNat) := by kernel_rfl
  rw [h, String.toList_ofList]
theorem enter : Tryz.prog.mayEnter = true := by
  unfold Program.mayEnter
  rw [order]
  kernel_rfl
theorem lifts : Tryz.prog.liftsFinal = false := by
  unfold Program.liftsFinal Program.headLifts
  rw [order]
  kernel_rfl
theorem made : Tryz.prog.make = some .cut := by
  unfold Program.make
  rw [order]
  kernel_rfl
end Go.Proofs.YtanfmpkjcoolmaaGreat.Facts
