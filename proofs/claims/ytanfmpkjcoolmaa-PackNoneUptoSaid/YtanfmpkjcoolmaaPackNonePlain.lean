/- Plain: bytes turned in place. -/
import Derived.Test.YtanfmpkjcoolmaaPackPlain3
import Derived.Test.YtanfmpkjcoolmaaAbsZl
set_option linter.unusedVariables false
namespace Go.Abs
abbrev c8 (a : Int) : D := .val (.int .u8 a)
abbrev x8 (a : Int) : D := .val (.int .u8 (bitsI .xor .u8 a 255))
def mix (b : List Int) (i : Nat) : List D := (b.take i).map x8 ++ (b.drop i).map c8
theorem mix_zero (b : List Int) : mix b 0 = b.map c8 := by simp [mix]
theorem mix_len (b : List Int) (i : Nat) : (mix b i).length = b.length := by simp [mix]; omega
theorem mix_take {b : List Int} {i : Nat} (h : i ≤ b.length) : (mix b i).take i = (b.take i).map x8 := by
  unfold mix; rw [List.take_left' (by simp; omega)]
theorem mix_drop {b : List Int} {i : Nat} (h : i ≤ b.length) : (mix b i).drop i = (b.drop i).map c8 := by
  unfold mix; rw [List.drop_left' (by simp; omega)]
theorem mix_at {b : List Int} {i : Nat} {a : Int} (h : b[i]? = some a) : (mix b i).drop i = c8 a :: (b.drop (i + 1)).map c8 := by
  obtain ⟨hi, rfl⟩ := List.getElem?_eq_some_iff.1 h
  rw [mix_drop (by omega), List.drop_eq_getElem_cons hi]; rfl
theorem mix_store {b : List Int} {i : Nat} {a : Int} (h : b[i]? = some a) : splice (mix b i) i [x8 a] = mix b (i + 1) := by
  obtain ⟨hi, rfl⟩ := List.getElem?_eq_some_iff.1 h
  unfold splice
  rw [mix_take (by omega)]
  have e : (mix b i).drop (i + [x8 b[i]].length) = (b.drop (i + 1)).map c8 := by
    rw [← List.drop_drop, mix_at (List.getElem?_eq_getElem hi)]; rfl
  rw [e]
  unfold mix
  rw [List.take_succ_eq_append_getElem hi, List.map_append]; rfl
theorem c8_lf (b : List Int) : ∀ d ∈ b.map c8, LF d := fun d hd => by obtain ⟨a, _, rfl⟩ := List.mem_map.1 hd; exact .val _
theorem ints_flat (b : List Int) : (ints .u8 b).flatten = b.map c8 := by
  induction b with
  | nil => rfl
  | cons a b ih => simp only [ints, List.map_cons, List.flatten_cons] at ih ⊢; rw [ih]; rfl
theorem half_i64 {n : Int} (h : -9223372036854775808 ≤ n ∧ n ≤ 9223372036854775807) : -9223372036854775808 ≤ n.tdiv 2 ∧ n.tdiv 2 ≤ 9223372036854775807 := by
  have : (n.tdiv 2).natAbs = n.natAbs / 2 := Int.natAbs_tdiv n 2
  omega
theorem half_wrap {n : Int} (h : -9223372036854775808 ≤ n ∧ n ≤ 9223372036854775807) : IntKind.i64.wrap (n.tdiv 2) = n.tdiv 2 := by
  have := half_i64 h
  exact IntWalk.i64_in _ ⟨by omega, by omega⟩
end Go.Abs
