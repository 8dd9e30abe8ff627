/- Plain: events and their bytes. -/
import Derived.Test.YtanfmpkjcoolmaaPackPlain3
import Derived.Test.YtanfmpkjcoolmaaLeaseBytesPlain
set_option linter.unusedVariables false
namespace Go.Abs
structure Ev where
  c : Int
  k : Int
  v : Int
  i : Int
abbrev Ev.z (x : Ev) : List D := [vi x.c, vi x.k, vi x.v, vi x.i]
abbrev I64' (n : Int) : Prop := -9223372036854775808 ≤ n ∧ n ≤ 9223372036854775807
namespace Ev
def okV (x : Ev) : Prop := I64' x.k ∧ I64' x.v ∧ I64' x.i
def chk (x : Ev) : Int := if x.c = 1 ∧ x.i = 0 then 0 else if x.c = 2 ∧ (x.k = 0 ∧ x.v = 0) ∧ x.i ≥ 1 ∧ x.i ≤ 9007199254740992 then 0 else 60
theorem chk_one {x : Ev} (h : x.chk ≠ 0) : x.chk = 60 := by
  unfold chk at *
  split
  · rename_i h1; rw [if_pos h1] at h; simp at h
  · rename_i h1
    rw [if_neg h1] at h
    split
    · rename_i h2; rw [if_pos h2] at h; simp at h
    · rfl
theorem chk_zero {x : Ev} (h : x.chk = 0) : (x.c = 1 ∧ x.i = 0) ∨ (x.c = 2 ∧ x.k = 0 ∧ x.v = 0 ∧ x.i ≥ 1 ∧ x.i ≤ 9007199254740992) := by
  unfold chk at h
  split at h
  · left; assumption
  · split at h
    · right; rename_i h1; exact ⟨h1.1, h1.2.1.1, h1.2.1.2, h1.2.2⟩
    · cases h
def nums (x : Ev) : List Int := if x.c = 2 then [2, x.i] else [1, x.k, x.v]
theorem nums_i64 {x : Ev} (h : x.okV) : ∀ n ∈ x.nums, I64' n := by
  obtain ⟨h1, h2, h3⟩ := h
  intro n hn
  unfold nums at hn
  split at hn
  · simp at hn; rcases hn with rfl | rfl
    · constructor <;> omega
    · exact h3
  · simp at hn; rcases hn with rfl | rfl | rfl
    · constructor <;> omega
    · exact h1
    · exact h2
theorem nums_len (x : Ev) : x.nums.length ≤ 3 := by unfold nums; split <;> simp
def put (b : List Int) (x : Ev) : List Int := if x.chk ≠ 0 then b else b ++ forms x.nums
def all (l : List Ev) : List Int := l.flatMap fun x => forms x.nums
def bytes (l : List Ev) : List Int × Int := if l.any (fun x => x.chk != 0) = true then ([], 60) else if l.length > 4096 then ([], 3) else (forms [(l.length : Int)] ++ all l, 0)
theorem any_yes {l : List Ev} {i : Nat} {x : Ev} (hx : l[i]? = some x) (h : x.chk ≠ 0) : l.any (fun x => x.chk != 0) = true := by
  rw [List.any_eq_true]; exact ⟨x, List.mem_of_getElem? hx, by simpa using h⟩
theorem any_no {l : List Ev} (h : ∀ (j : Nat) (x : Ev), j < l.length → l[j]? = some x → x.chk = 0) : l.any (fun x => x.chk != 0) = false := by
  rw [List.any_eq_false]
  intro x hx
  obtain ⟨j, hj⟩ := List.getElem?_of_mem hx
  have := h j x (List.getElem?_eq_some_iff.1 hj).1 hj
  simp [this]
theorem all_take {l : List Ev} {i : Nat} {x : Ev} (hx : l[i]? = some x) : all (l.take (i + 1)) = all (l.take i) ++ forms x.nums := by
  obtain ⟨hi, rfl⟩ := List.getElem?_eq_some_iff.1 hx
  rw [List.take_succ_eq_append_getElem hi]; simp [all, -List.take_append_getElem]
theorem all_len {l : List Ev} (h : ∀ x ∈ l, x.okV) : (all l).length ≤ 30 * l.length := by
  induction l with
  | nil => simp [all]
  | cons x l ih =>
    have h1 := ih (fun y hy => h y (by simp [hy]))
    have h2 := forms_len' x.nums (nums_i64 (h x (by simp)))
    have h3 := nums_len x
    have e : all (x :: l) = forms x.nums ++ all l := by simp [all]
    rw [e, List.length_append, List.length_cons]
    omega
theorem all_byt (l : List Ev) : Byt (all l) := by
  intro n hn
  simp only [all, List.mem_flatMap] at hn
  obtain ⟨x, _, h⟩ := hn
  exact forms_byt _ n h
theorem put_byt {b : List Int} (hb : Byt b) (x : Ev) : Byt (put b x) := by
  unfold put; split
  · exact hb
  · exact hb.append (forms_byt _)
theorem bytes_byt (l : List Ev) : Byt (bytes l).1 := by
  unfold bytes; split
  · intro x hx; cases hx
  · split
    · intro x hx; cases hx
    · exact (forms_byt _).append (all_byt l)
theorem put_all {l : List Ev} {i : Nat} {x : Ev} (hx : l[i]? = some x) (h : x.chk = 0) (b : List Int) : put (b ++ all (l.take i)) x = b ++ all (l.take (i + 1)) := by
  unfold put; rw [if_neg (by simp [h]), all_take hx, List.append_assoc]
end Ev
theorem ren_litmap {ρ σ : Nat → Nat → Prop} {α : Type} {f : α → List D} (hf : ∀ a, flats (f a) = true) {nl : Option Bool} {l : List α} {xs : List (List D)} {c : Cap} (h : xs = l.map f) : Ren ρ σ (.sl nl xs c) (.sl none (l.map f) .ro) := by subst h; exact ren_map hf
end Go.Abs
