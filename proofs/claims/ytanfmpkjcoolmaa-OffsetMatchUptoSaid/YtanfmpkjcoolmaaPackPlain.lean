/- Plain: the numbers' forms. -/
import Derived.Test.YtanfmpkjcoolmaaAbsA
set_option linter.unusedVariables false
set_option linter.unusedSimpArgs false
namespace Go.Abs

/-- The natural number of a number with a sign. -/
def natN (n : Int) : Nat := if 0 ≤ n then 2 * n.toNat else 2 * (-n - 1).toNat + 1

/-- The digits to the base 128 but the last one, with 128 added; the highest first. -/
def hiD (v : Nat) : List Int := if h : v = 0 then [] else hiD (v / 128) ++ [((v % 128 + 128 : Nat) : Int)]
termination_by v
decreasing_by omega
def formN (u : Nat) : List Int := hiD (u / 128) ++ [((u % 128 : Nat) : Int)]
def form (n : Int) : List Int := formN (natN n)
def forms (l : List Int) : List Int := l.flatMap form

def sizeN (u : Nat) : Nat := if h : u < 128 then 1 else sizeN (u / 128) + 1
termination_by u
decreasing_by omega

theorem hiD_zero : hiD 0 = [] := by rw [hiD]; rfl
theorem hiD_pos {v : Nat} (h : v ≠ 0) : hiD v = hiD (v / 128) ++ [((v % 128 + 128 : Nat) : Int)] := by rw [hiD, dif_neg h]
/-! ### Bits -/
/-! ### The first number of bytes -/
def numberN (u : Nat) : Int := if u % 2 = 0 then ((u / 2 : Nat) : Int) else -((u / 2 : Nat) : Int) - 1
def firstG (u i : Nat) : List Int → Int × Nat × Int
  | [] => (0, 0, 10)
  | c :: r => if (i = 0 ∧ c = 128) ∨ u > 144115188075855871 then (0, 0, 11) else if c < 128 then (numberN (u * 128 + (c % 128).toNat), i + 1, 0) else firstG (u * 128 + (c % 128).toNat) (i + 1) r
def firstP (b : List Int) : Int × Nat × Int := firstG 0 0 b
def Byt (b : List Int) : Prop := ∀ x ∈ b, 0 ≤ x ∧ x ≤ 255
theorem Byt.at {b : List Int} (h : Byt b) {i : Nat} (hi : i < b.length) : 0 ≤ b.getD i 0 ∧ b.getD i 0 ≤ 255 := by
  rw [List.getD_eq_getElem?_getD, List.getElem?_eq_getElem hi]
  exact h _ (List.getElem_mem hi)
end Go.Abs
