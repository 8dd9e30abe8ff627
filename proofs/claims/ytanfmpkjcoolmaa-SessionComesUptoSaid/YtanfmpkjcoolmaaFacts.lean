/- What the whole program says of itself, told once for all rows. -/
import Derived.Test.YtanfmpkjcoolmaaRows
import Derived.WalkKit
import Derived.ProofKit
import Derived.JoinedCond
namespace Go.Proofs.Ytanfmpkjcoolmaa.Facts
set_option linter.unusedVariables false
theorem and2 {a b : Bool} (h : a = true) (k : b = true) : (a && b) = true := by rw [h, k]; rfl
theorem laidOut : laidOutB Try.prog = true := by kernel_rfl
theorem rowed : mapsRowed Try.prog = true := by kernel_rfl
theorem stops : (Try.prog.stops == []) = true := by kernel_rfl
theorem stopKnobs : (Try.prog.stopKnobs == []) = true := by kernel_rfl
theorem heard : Try.prog.stopsHeard = true := by kernel_rfl
/-- The signs of the order in which the program begins, as numbers. -/
def signs : List Nat := [104, 97, 114, 110, 101, 115, 115, 32, 53, 50, 56, 50, 51, 102, 57, 52, 49, 50, 52, 48, 50, 102, 49, 51, 57, 97, 56, 48, 99, 52, 99, 98, 49, 52, 48, 49, 101, 50, 98, 99, 97, 99, 51, 55, 101, 50, 55, 53, 55, 97, 101, 57, 50, 52, 56, 50, 101, 50, 49, 97, 52, 100, 57, 54, 52, 100, 48, 54, 48, 54, 100, 99, 32, 99, 117, 116, 32, 97, 116, 32, 112, 111, 110, 116, 111, 111, 110, 47, 112, 111, 110, 116, 111, 111, 110, 108, 97, 119, 48, 54, 46, 69, 118, 101, 110, 116, 66, 121, 116, 101, 115, 32, 112, 111, 110, 116, 111, 111, 110, 47, 112, 111, 110, 116, 111, 111, 110, 108, 97, 119, 49, 51, 46, 76, 101, 97, 115, 101, 68, 111, 101, 115, 32, 112, 111, 110, 116, 111, 111, 110, 47, 112, 111, 110, 116, 111, 111, 110, 108, 97, 119, 49, 51, 46, 76, 101, 97, 115, 101, 69, 112, 111, 99, 104, 115, 32, 112, 111, 110, 116, 111, 111, 110, 47, 112, 111, 110, 116, 111, 111, 110, 108, 97, 119, 49, 51, 46, 76, 101, 97, 115, 101, 78, 111, 116, 32, 112, 111, 110, 116, 111, 111, 110, 47, 112, 111, 110, 116, 111, 111, 110, 108, 97, 119, 50, 49, 46, 77, 105, 114, 114, 111, 114, 84, 104, 101, 114, 101, 32, 112, 111, 110, 116, 111, 111, 110, 47, 112, 111, 110, 116, 111, 111, 110, 108, 97, 119, 50, 49, 46, 77, 105, 114, 114, 111, 114, 75, 110, 111, 119, 115, 32, 112, 111, 110, 116, 111, 111, 110, 47, 112, 111, 110, 116, 111, 111, 110, 108, 97, 119, 48, 49, 46, 80, 97, 99, 107, 80, 117, 116, 115, 32, 112, 111, 110, 116, 111, 111, 110, 47, 112, 111, 110, 116, 111, 111, 110, 108, 97, 119, 48, 54, 46, 69, 118, 101, 110, 116, 76, 101, 97, 118, 101, 115, 32, 112, 111, 110, 116, 111, 111, 110, 47, 112, 111, 110, 116, 111, 111, 110, 108, 97, 119, 48, 49, 46, 80, 97, 99, 107, 82, 105, 115, 101, 115, 32, 112, 111, 110, 116, 111, 111, 110, 47, 112, 111, 110, 116, 111, 111, 110, 108, 97, 119, 48, 49, 46, 80, 97, 99, 107, 66, 97, 99, 107, 32, 112, 111, 110, 116, 111, 111, 110, 47, 112, 111, 110, 116, 111, 111, 110, 108, 97, 119, 48, 49, 46, 80, 97, 99, 107, 82, 101, 97, 100, 115, 32, 112, 111, 110, 116, 111, 111, 110, 47, 112, 111, 110, 116, 111, 111, 110, 108, 97, 119, 48, 49, 46, 80, 97, 99, 107, 78, 111, 110, 101, 32, 112, 111, 110, 116, 111, 111, 110, 47, 112, 111, 110, 116, 111, 111, 110, 108, 97, 119, 50, 49, 46, 77, 105, 114, 114, 111, 114, 66, 117, 110, 100, 108, 101, 115, 32, 112, 111, 110, 116, 111, 111, 110, 47, 112, 111, 110, 116, 111, 111, 110, 108, 97, 119, 50, 49, 46, 77, 105, 114, 114, 111, 114, 79, 114, 100, 101, 114, 32, 112, 111, 110, 116, 111, 111, 110, 47, 112, 111, 110, 116, 111, 111, 110, 108, 97, 119, 48, 49, 46, 80, 97, 99, 107, 79, 110, 101, 32, 112, 111, 110, 116, 111, 111, 110, 47, 112, 111, 110, 116, 111, 111, 110, 108, 97, 119, 48, 54, 46, 69, 118, 101, 110, 116, 74, 111, 105, 110, 115, 32, 112, 111, 110, 116, 111, 111, 110, 47, 112, 111, 110, 116, 111, 111, 110, 108, 97, 119, 48, 49, 46, 80, 97, 99, 107, 70, 105, 114, 115, 116, 32, 112, 111, 110, 116, 111, 111, 110, 47, 112, 111, 110, 116, 111, 111, 110, 108, 97, 119, 50, 51, 46, 83, 101, 115, 115, 105, 111, 110, 79, 114, 100, 101, 114, 32, 112, 111, 110, 116, 111, 111, 110, 47, 112, 111, 110, 116, 111, 111, 110, 108, 97, 119, 50, 51, 46, 83, 101, 115, 115, 105, 111, 110, 67, 111, 109, 101, 115, 32, 112, 111, 110, 116, 111, 111, 110, 47, 112, 111, 110, 116, 111, 111, 110, 108, 97, 119, 50, 51, 46, 83, 101, 115, 115, 105, 111, 110, 65, 110, 101, 119, 32, 112, 111, 110, 116, 111, 111, 110, 47, 112, 111, 110, 116, 111, 111, 110, 108, 97, 119, 48, 54, 46, 69, 118, 101, 110, 116, 84, 101, 108, 108, 115, 32, 112, 111, 110, 116, 111, 111, 110, 47, 112, 111, 110, 116, 111, 111, 110, 108, 97, 119, 49, 51, 46, 76, 101, 97, 115, 101, 66, 121, 116, 101, 115, 32, 112, 111, 110, 116, 111, 111, 110, 47, 112, 111, 110, 116, 111, 111, 110, 108, 97, 119, 48, 54, 46, 69, 118, 101, 110, 116, 82, 101, 97, 100, 115, 32, 112, 111, 110, 116, 111, 111, 110, 47, 112, 111, 110, 116, 111, 111, 110, 108, 97, 119, 48, 54, 46, 69, 118, 101, 110, 116, 66, 97, 99, 107, 32, 112, 111, 110, 116, 111, 111, 110, 47, 112, 111, 110, 116, 111, 111, 110, 108, 97, 119, 50, 49, 46, 77, 105, 114, 114, 111, 114, 69, 110, 116, 114, 105, 101, 115, 32, 112, 111, 110, 116, 111, 111, 110, 47, 112, 111, 110, 116, 111, 111, 110, 108, 97, 119, 50, 48, 46, 79, 102, 102, 115, 101, 116, 66, 97, 99, 107, 32, 112, 111, 110, 116, 111, 111, 110, 47, 112, 111, 110, 116, 111, 111, 110, 108, 97, 119, 50, 48, 46, 79, 102, 102, 115, 101, 116, 84, 101, 108, 108, 115, 32, 112, 111, 110, 116, 111, 111, 110, 47, 112, 111, 110, 116, 111, 111, 110, 108, 97, 119, 50, 51, 46, 83, 101, 115, 115, 105, 111, 110, 66, 121, 116, 101, 115, 32, 112, 111, 110, 116, 111, 111, 110, 47, 112, 111, 110, 116, 111, 111, 110, 108, 97, 119, 50, 48, 46, 79, 102, 102, 115, 101, 116, 77, 97, 116, 99, 104, 32, 112, 111, 110, 116, 111, 111, 110, 47, 112, 111, 110, 116, 111, 111, 110, 108, 97, 119, 50, 48, 46, 79, 102, 102, 115, 101, 116, 68, 111, 101, 115, 32, 112, 111, 110, 116, 111, 111, 110, 47, 112, 111, 110, 116, 111, 111, 110, 108, 97, 119, 50, 48, 46, 79, 102, 102, 115, 101, 116, 66, 121, 116, 101, 115]
theorem order : Try.prog.initOrder.toList = signs.map Char.ofNat := by
  have h : Try.prog.initOrder = String.ofList (signs.map Char.ofNat) := by kernel_rfl
  rw [h, String.toList_ofList]
abbrev cutW : List Char := [99, 117, 116].map Char.ofNat
theorem hd : (behindMainWord (wordsSigns (signs.map Char.ofNat))).head? = some cutW := by kernel_rfl
theorem words : ∃ rest, behindMainWord (wordsSigns (signs.map Char.ofNat)) = cutW :: rest := by
  have h := hd
  generalize behindMainWord (wordsSigns (signs.map Char.ofNat)) = l at h
  cases l with
  | nil => cases h
  | cons c rest =>
    simp only [List.head?_cons, Option.some.injEq] at h
    exact ⟨rest, by rw [h]⟩
theorem lays : Try.prog.laysLater = false := by kernel_rfl
theorem refl : Try.prog.bearsReflect = false := by kernel_rfl
theorem rows0 : Try.prog.doorRows = [] := by kernel_rfl
theorem strip (rest : List (List Char)) : stripLifts liftWords (cutW :: rest) = ([], cutW :: rest) := by rfl
theorem cutWords : ∃ rest, behindMainWord (wordsSigns Try.prog.initOrder.toList) = cutW :: rest := by
  obtain ⟨rest, h⟩ := words
  exact ⟨rest, by rw [order]; exact h⟩
theorem enterOf {P : Program} {rest : List (List Char)} (h : behindMainWord (wordsSigns P.initOrder.toList) = cutW :: rest) (hl : P.laysLater = false) (hr : P.bearsReflect = false) (hd : P.doorRows = []) : P.mayEnter = true := by
  have e1 : (cutW == "gc".toList || cutW == "spec".toList) = false := by rfl
  have e2 : (cutW == "carried".toList) = false := by rfl
  have e3 : (some cutW == some "cut".toList) = true := by rfl
  unfold Program.mayEnter
  simp only [h, strip, Program.doorFits, hd, hl, hr, e1, e2, e3, List.head?_cons]
  rfl
theorem liftsOf {P : Program} {rest : List (List Char)} (h : behindMainWord (wordsSigns P.initOrder.toList) = cutW :: rest) : P.liftsFinal = false := by
  unfold Program.liftsFinal Program.headLifts
  simp only [h, strip]
  rfl
theorem makeOf {P : Program} {rest : List (List Char)} (h : behindMainWord (wordsSigns P.initOrder.toList) = cutW :: rest) : P.make = some .cut := by
  unfold Program.make
  rw [h]
  rfl
theorem enter : Try.prog.mayEnter = true := let ⟨_, h⟩ := cutWords; enterOf h lays refl rows0
theorem lifts : Try.prog.liftsFinal = false := let ⟨_, h⟩ := cutWords; liftsOf h
theorem made : Try.prog.make = some .cut := let ⟨_, h⟩ := cutWords; makeOf h
end Go.Proofs.Ytanfmpkjcoolmaa.Facts
