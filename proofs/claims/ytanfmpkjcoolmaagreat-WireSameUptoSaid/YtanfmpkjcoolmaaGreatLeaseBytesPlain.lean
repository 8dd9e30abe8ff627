/- Plain: a lease's bytes. -/
import Derived.Test.YtanfmpkjcoolmaaGreatLeasePlain
import Derived.Test.YtanfmpkjcoolmaaGreatMirrorPlain
import Derived.Test.YtanfmpkjcoolmaaGreatPackPlain3
set_option linter.unusedVariables false
namespace Go.Abs
namespace Ls
def six (l : Ls) : List Int := [l.o, l.la, l.e, l.c, l.u, if l.s = true then 1 else 0]
def bytes (l : Ls) : List Int := if l.chk ≠ 0 then [] else forms l.six
theorem six_i64 {l : Ls} (h : l.chk = 0) : ∀ n ∈ l.six, -9223372036854775808 ≤ n ∧ n ≤ 9223372036854775807 := by
  have hb : l.bad1 = false := by
    unfold chk at h
    split at h
    · cases h
    · rename_i h1; simpa using h1
  simp [bad1, num, reg] at hb
  intro n hn
  simp only [six, List.mem_cons, List.not_mem_nil, or_false] at hn
  rcases hn with rfl | rfl | rfl | rfl | rfl | rfl
  all_goals first | omega | (split <;> omega)
def z : Ls := ⟨0, 0, 0, 0, 0, false⟩
def parse (b : List Int) : Ls × Int :=
  let r1 := Up.w ⟨b, 0⟩; let r2 := r1.2.w; let r3 := r2.2.w; let r4 := r3.2.w; let r5 := r4.2.w; let r6 := r5.2.flag
  if r6.2.close ≠ 0 then (z, r6.2.close) else if (⟨r1.1, r2.1, r3.1, r4.1, r5.1, r6.1 == 1⟩ : Ls).chk ≠ 0 then (z, (⟨r1.1, r2.1, r3.1, r4.1, r5.1, r6.1 == 1⟩ : Ls).chk) else (⟨r1.1, r2.1, r3.1, r4.1, r5.1, r6.1 == 1⟩, 0)
theorem bytes_byt (l : Ls) : Byt l.bytes := by
  unfold bytes; split
  · intro x hx; cases hx
  · exact forms_byt _
theorem bytes_l40 (l : Ls) : L40 l.bytes := by
  unfold bytes; split
  · simp [L40]
  · rename_i h
    have h6 := six_i64 (l := l) (by simpa using h)
    have := forms_len' l.six h6
    simp only [L40, six, List.length_cons, List.length_nil] at *
    omega
theorem parse_bytes {l : Ls} (h : l.chk = 0) : parse l.bytes = (l, 0) := by
  have h6 := six_i64 h
  simp only [six, List.mem_cons, List.not_mem_nil, or_false, forall_eq_or_imp, forall_eq] at h6
  obtain ⟨h1, h2, h3, h4, h5, h7⟩ := h6
  have hb : l.bytes = form l.o ++ (form l.la ++ (form l.e ++ (form l.c ++ (form l.u ++ (form (if l.s = true then 1 else 0) ++ []))))) := by
    unfold bytes; rw [if_neg (by simp [h])]; simp [six, forms]
  have hs : (0 : Int) ≤ (if l.s = true then 1 else 0) ∧ (if l.s = true then 1 else 0 : Int) ≤ 1 := by split <;> omega
  have hs2 : ((if l.s = true then 1 else 0 : Int) == 1) = l.s := by cases l.s <;> rfl
  rw [hb]
  simp only [parse, Up.w_form h1.1 h1.2, Up.w_form h2.1 h2.2, Up.w_form h3.1 h3.2, Up.w_form h4.1 h4.2, Up.w_form h5.1 h5.2, Up.flag_form hs.1 hs.2, hs2]
  have hc : Up.close ⟨[], 0⟩ = 0 := rfl
  rw [hc, if_neg (by simp)]
  rw [show (⟨l.o, l.la, l.e, l.c, l.u, l.s⟩ : Ls) = l from rfl, if_neg (by simp [h])]
end Ls
end Go.Abs
