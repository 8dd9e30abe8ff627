/- Plain: all positions, as they are told. -/
import Derived.Test.YtanfmpkjcoolmaaOffsetPlain2
set_option linter.unusedVariables false
namespace Go.Abs
namespace Tb
def tellAt (t : Tb) (x : Int) : Sp := ⟨(t.spAt x).e, (t.spAt x).r, x, t.off x⟩
def alls (t : Tb) : List (Int × Sp) := (List.range (t.n - t.start).toNat).map fun k : Nat => (t.start + (k : Int), t.tellAt (t.start + (k : Int)))
theorem in_all {t : Tb} (h : t.good = true) {i : Nat} (hi : i < t.l.length) {x : Int} (h1 : (t.nth i).p ≤ x) (h2 : x < t.fin i) : t.start ≤ x ∧ x < t.n := by
  constructor
  · rw [start_good h, if_neg (by omega)]
    rcases Nat.eq_zero_or_pos i with e | e
    · rw [← e]; exact h1
    · have := rises' h e hi; omega
  · by_cases e : i + 1 < t.l.length
    · rw [fin_next e] at h2
      have h8 := rise h (i := t.l.length - 1) (by omega)
      rw [fin_last (by omega)] at h8
      rcases Nat.eq_or_lt_of_le (show i + 1 ≤ t.l.length - 1 by omega) with h7 | h7
      · rw [h7] at h2; omega
      · have h6 := rises' h h7 (by omega); omega
    · rw [fin_last e] at h2; exact h2
/-- How many positions lie ahead of the i-th span. -/
def cnt (t : Tb) (i : Nat) : Nat := ((if i < t.l.length then (t.nth i).p else t.n) - t.start).toNat
end Tb
abbrev pz (p : Int × Sp) : List D := [vi p.1, .agg (spz p.2)]
abbrev qz (p : Int × Sp) : List D := spz p.2
end Go.Abs
