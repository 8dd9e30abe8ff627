/- Plain: numbers read one behind the other. -/
import Derived.Test.YtanfmpkjcoolmaaGreatPackPlain2
set_option linter.unusedVariables false
namespace Go.Abs
/-- Any number. -/
def Up.w (u : Up) : Int × Up := u.int (-9223372036854775808) 9223372036854775807
def Up.flag (u : Up) : Int × Up := u.int 0 1
theorem Up.w_form {n : Int} (h0 : -9223372036854775808 ≤ n) (h1 : n ≤ 9223372036854775807) (r : List Int) : Up.w ⟨form n ++ r, 0⟩ = (n, ⟨r, 0⟩) := Up.int_form h0 h1 h0 h1 r
theorem Up.flag_form {n : Int} (h0 : 0 ≤ n) (h1 : n ≤ 1) (r : List Int) : Up.flag ⟨form n ++ r, 0⟩ = (n, ⟨r, 0⟩) := Up.int_form (by omega) (by omega) h0 h1 r
theorem forms_len' (l : List Int) (hl : ∀ n ∈ l, -9223372036854775808 ≤ n ∧ n ≤ 9223372036854775807) : (forms l).length ≤ 10 * l.length := by
  induction l with
  | nil => simp [forms]
  | cons n l ih =>
    have h := hl n (by simp)
    have := ih (fun m hm => hl m (by simp [hm]))
    have e : (form n).length ≤ 10 := by unfold form; rw [formN_length]; exact sizeN_le10 (natN_lt h.1 h.2)
    simp only [forms, List.flatMap_cons, List.length_append, List.length_cons] at *
    omega
end Go.Abs
