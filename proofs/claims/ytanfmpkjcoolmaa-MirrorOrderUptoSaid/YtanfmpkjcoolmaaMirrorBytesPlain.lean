/- Plain: an entry's bytes. -/
import Derived.Test.YtanfmpkjcoolmaaMirrorPlain
import Derived.Test.YtanfmpkjcoolmaaPackPlain3
import Derived.Test.YtanfmpkjcoolmaaLeaseBytesPlain
set_option linter.unusedVariables false
namespace Go.Abs
namespace En
def okE (x : En) : Prop := (-9223372036854775808 ≤ x.k ∧ x.k ≤ 9223372036854775807) ∧ (-9223372036854775808 ≤ x.v ∧ x.v ≤ 9223372036854775807)
def four (x : En) : List Int := [x.e, x.r, x.k, x.v]
def bytes (x : En) : List Int := if x.chk ≠ 0 then [] else forms x.four
theorem chk_in {x : En} (h : x.chk = 0) : 1 ≤ x.e ∧ x.e ≤ 9007199254740992 ∧ 0 ≤ x.r ∧ x.r < 2 := by
  unfold chk at h
  split at h
  · cases h
  · omega
theorem four_i64 {x : En} (ho : x.okE) (h : x.chk = 0) : ∀ n ∈ x.four, -9223372036854775808 ≤ n ∧ n ≤ 9223372036854775807 := by
  have := chk_in h
  obtain ⟨h1, h2⟩ := ho
  intro n hn
  simp only [four, List.mem_cons, List.not_mem_nil, or_false] at hn
  rcases hn with rfl | rfl | rfl | rfl <;> omega
def z : En := ⟨0, 0, 0, 0⟩
def parse (b : List Int) : En × Int :=
  let r1 := Up.w ⟨b, 0⟩; let r2 := r1.2.w; let r3 := r2.2.w; let r4 := r3.2.w
  if r4.2.close ≠ 0 then (z, r4.2.close) else if (⟨r1.1, r2.1, r3.1, r4.1⟩ : En).chk ≠ 0 then (z, (⟨r1.1, r2.1, r3.1, r4.1⟩ : En).chk) else (⟨r1.1, r2.1, r3.1, r4.1⟩, 0)
theorem bytes_byt (x : En) : Byt x.bytes := by
  unfold bytes; split
  · intro x hx; cases hx
  · exact forms_byt _
theorem bytes_l40 {x : En} (ho : x.okE) : L40 x.bytes := by
  unfold bytes; split
  · simp [L40]
  · rename_i h
    have h6 := four_i64 (x := x) ho (by simpa using h)
    have := forms_len' x.four h6
    simp only [L40, four, List.length_cons, List.length_nil] at *
    omega
theorem parse_bytes {x : En} (ho : x.okE) (h : x.chk = 0) : parse x.bytes = (x, 0) := by
  have h6 := four_i64 ho h
  simp only [four, List.mem_cons, List.not_mem_nil, or_false, forall_eq_or_imp, forall_eq] at h6
  obtain ⟨h1, h2, h3, h4⟩ := h6
  have hb : x.bytes = form x.e ++ (form x.r ++ (form x.k ++ (form x.v ++ []))) := by
    unfold bytes; rw [if_neg (by simp [h])]; simp [four, forms]
  rw [hb]
  simp only [parse, Up.w_form h1.1 h1.2, Up.w_form h2.1 h2.2, Up.w_form h3.1 h3.2, Up.w_form h4.1 h4.2]
  have hc : Up.close ⟨[], 0⟩ = 0 := rfl
  rw [hc, if_neg (by simp)]
  rw [show (⟨x.e, x.r, x.k, x.v⟩ : En) = x from rfl, if_neg (by simp [h])]
end En
end Go.Abs
