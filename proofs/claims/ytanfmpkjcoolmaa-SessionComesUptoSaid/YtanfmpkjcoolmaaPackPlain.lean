/- Plain: the numbers' forms. -/
import Derived.Test.YtanfmpkjcoolmaaAbsA
set_option linter.unusedVariables false
set_option linter.unusedSimpArgs false
namespace Go.Abs

/-- The natural number of a number with a sign. -/
def natN (n : Int) : Nat := if 0 ≤ n then 2 * n.toNat else 2 * (-n - 1).toNat + 1

theorem natN_lt {n : Int} (h0 : -9223372036854775808 ≤ n) (h1 : n ≤ 9223372036854775807) : natN n < 18446744073709551616 := by
  unfold natN; split <;> omega

/-- The digits to the base 128 but the last one, with 128 added; the highest first. -/
def hiD (v : Nat) : List Int := if h : v = 0 then [] else hiD (v / 128) ++ [((v % 128 + 128 : Nat) : Int)]
termination_by v
decreasing_by omega
def formN (u : Nat) : List Int := hiD (u / 128) ++ [((u % 128 : Nat) : Int)]
def form (n : Int) : List Int := formN (natN n)
def forms (l : List Int) : List Int := l.flatMap form

def sizeN (u : Nat) : Nat := if h : u < 128 then 1 else sizeN (u / 128) + 1
termination_by u
decreasing_by omega

theorem sizeN_small {u : Nat} (h : u < 128) : sizeN u = 1 := by rw [sizeN, dif_pos h]
theorem sizeN_big {u : Nat} (h : 128 ≤ u) : sizeN u = sizeN (u / 128) + 1 := by rw [sizeN, dif_neg (by omega)]
theorem hiD_zero : hiD 0 = [] := by rw [hiD]; rfl
theorem hiD_pos {v : Nat} (h : v ≠ 0) : hiD v = hiD (v / 128) ++ [((v % 128 + 128 : Nat) : Int)] := by rw [hiD, dif_neg h]
theorem hiD_length : ∀ (u : Nat), (hiD (u / 128)).length + 1 = sizeN u := by
  intro u
  induction u using Nat.strongRecOn with
  | _ u ih =>
    by_cases h : u < 128
    · rw [sizeN_small h, Nat.div_eq_of_lt h, hiD_zero]; rfl
    · rw [sizeN_big (by omega), hiD_pos (by omega), List.length_append, ← ih (u / 128) (by omega)]; rfl
theorem formN_length (u : Nat) : (formN u).length = sizeN u := by unfold formN; rw [List.length_append, ← hiD_length]; rfl
theorem sizeN_le : ∀ (k u : Nat), u < 128 ^ k → 1 ≤ k → sizeN u ≤ k := by
  intro k
  induction k with
  | zero => intro u _ h; omega
  | succ k ih =>
    intro u hu _
    by_cases h : u < 128
    · rw [sizeN_small h]; omega
    · rw [sizeN_big (by omega)]
      have : 1 ≤ k := by
        rcases Nat.eq_zero_or_pos k with h0 | h0
        · subst h0; simp at hu; omega
        · exact h0
      have := ih (u / 128) (by rw [Nat.pow_succ] at hu; omega) this
      omega
theorem sizeN_le10 {u : Nat} (h : u < 18446744073709551616) : sizeN u ≤ 10 := sizeN_le 10 u (by omega) (by omega)

/-! ### Bits -/
/-! ### The first number of bytes -/
def numberN (u : Nat) : Int := if u % 2 = 0 then ((u / 2 : Nat) : Int) else -((u / 2 : Nat) : Int) - 1
def firstG (u i : Nat) : List Int → Int × Nat × Int
  | [] => (0, 0, 10)
  | c :: r => if (i = 0 ∧ c = 128) ∨ u > 144115188075855871 then (0, 0, 11) else if c < 128 then (numberN (u * 128 + (c % 128).toNat), i + 1, 0) else firstG (u * 128 + (c % 128).toNat) (i + 1) r
def firstP (b : List Int) : Int × Nat × Int := firstG 0 0 b
def Byt (b : List Int) : Prop := ∀ x ∈ b, 0 ≤ x ∧ x ≤ 255
theorem Byt.at {b : List Int} (h : Byt b) {i : Nat} (hi : i < b.length) : 0 ≤ b.getD i 0 ∧ b.getD i 0 ≤ 255 := by
  rw [List.getD_eq_getElem?_getD, List.getElem?_eq_getElem hi]
  exact h _ (List.getElem_mem hi)
theorem numberN_bd (u : Nat) (h : u < 18446744073709551616) : -9223372036854775808 ≤ numberN u ∧ numberN u ≤ 9223372036854775807 := by
  unfold numberN; split <;> omega
end Go.Abs
