/- Plain: events and their bytes. -/
import Derived.Test.YtanfmpkjcoolmaaGreatPackPlain3
import Derived.Test.YtanfmpkjcoolmaaGreatLeaseBytesPlain
set_option linter.unusedVariables false
namespace Go.Abs
structure Ev where
  c : Int
  k : Int
  v : Int
  i : Int
abbrev Ev.z (x : Ev) : List D := [vi x.c, vi x.k, vi x.v, vi x.i]
abbrev I64' (n : Int) : Prop := -9223372036854775808 ≤ n ∧ n ≤ 9223372036854775807
namespace Ev
def okV (x : Ev) : Prop := I64' x.k ∧ I64' x.v ∧ I64' x.i
def chk (x : Ev) : Int := if x.c = 1 ∧ x.i = 0 then 0 else if x.c = 2 ∧ (x.k = 0 ∧ x.v = 0) ∧ x.i ≥ 1 ∧ x.i ≤ 9007199254740992 then 0 else 60
theorem chk_one {x : Ev} (h : x.chk ≠ 0) : x.chk = 60 := by
  unfold chk at *
  split
  · rename_i h1; rw [if_pos h1] at h; simp at h
  · rename_i h1
    rw [if_neg h1] at h
    split
    · rename_i h2; rw [if_pos h2] at h; simp at h
    · rfl
def nums (x : Ev) : List Int := if x.c = 2 then [2, x.i] else [1, x.k, x.v]
theorem nums_i64 {x : Ev} (h : x.okV) : ∀ n ∈ x.nums, I64' n := by
  obtain ⟨h1, h2, h3⟩ := h
  intro n hn
  unfold nums at hn
  split at hn
  · simp at hn; rcases hn with rfl | rfl
    · constructor <;> omega
    · exact h3
  · simp at hn; rcases hn with rfl | rfl | rfl
    · constructor <;> omega
    · exact h1
    · exact h2
theorem nums_len (x : Ev) : x.nums.length ≤ 3 := by unfold nums; split <;> simp
def put (b : List Int) (x : Ev) : List Int := if x.chk ≠ 0 then b else b ++ forms x.nums
def all (l : List Ev) : List Int := l.flatMap fun x => forms x.nums
def bytes (l : List Ev) : List Int × Int := if l.any (fun x => x.chk != 0) = true then ([], 60) else if l.length > 4096 then ([], 3) else (forms [(l.length : Int)] ++ all l, 0)
theorem any_yes {l : List Ev} {i : Nat} {x : Ev} (hx : l[i]? = some x) (h : x.chk ≠ 0) : l.any (fun x => x.chk != 0) = true := by
  rw [List.any_eq_true]; exact ⟨x, List.mem_of_getElem? hx, by simpa using h⟩
theorem any_no {l : List Ev} (h : ∀ (j : Nat) (x : Ev), j < l.length → l[j]? = some x → x.chk = 0) : l.any (fun x => x.chk != 0) = false := by
  rw [List.any_eq_false]
  intro x hx
  obtain ⟨j, hj⟩ := List.getElem?_of_mem hx
  have := h j x (List.getElem?_eq_some_iff.1 hj).1 hj
  simp [this]
theorem all_byt (l : List Ev) : Byt (all l) := by
  intro n hn
  simp only [all, List.mem_flatMap] at hn
  obtain ⟨x, _, h⟩ := hn
  exact forms_byt _ n h
theorem bytes_byt (l : List Ev) : Byt (bytes l).1 := by
  unfold bytes; split
  · intro x hx; cases hx
  · split
    · intro x hx; cases hx
    · exact (forms_byt _).append (all_byt l)
end Ev
end Go.Abs
