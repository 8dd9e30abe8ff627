/- What an owner's calls answer: plain. -/
import Derived.Test.YtanfmpkjcoolmaaGreatAbsN
namespace Go.Abs
structure Sd where
  e : Int
  y : Int
  a : Int
  n : Int
abbrev sz (s : Sd) : D := .agg [.val (.int .i64 s.e), .val (.int .i64 s.y), .val (.int .i64 s.a), .val (.int .i64 s.n)]
namespace Sd
def chk (s : Sd) : Int := if s.a < 0 ∨ s.n < s.a ∨ s.y < s.n ∨ s.e < s.y ∨ s.e > 9007199254740992 then 1 else 0
def joined (s : Sd) (c : Int) : Sd := if s.chk = 0 ∧ c ≥ 0 ∧ c ≤ s.y then ⟨s.e, s.y, c, c⟩ else s
def many (s : Sd) : Int := if s.y - s.n < 8 then s.y - s.n else 8
def next (s : Sd) : Int × Int × Sd := if s.chk = 0 then (s.n, s.many, ⟨s.e, s.y, s.a, s.n + s.many⟩) else (0, 0, s)
def back (s : Sd) : Sd := if s.chk = 0 then ⟨s.e, s.y, s.a, s.a⟩ else s
def acked (s : Sd) (u : Int) : Sd := if s.chk = 0 ∧ u > s.a ∧ u ≤ s.y then ⟨s.e, s.y, u, if s.n < u then u else s.n⟩ else s
def grown (s : Sd) (e y : Int) : Sd := if s.chk = 0 ∧ y ≥ s.y ∧ e ≥ y ∧ e ≥ s.e ∧ e ≤ 9007199254740992 then ⟨e, y, s.a, s.n⟩ else s
def fin (s : Sd) : Bool := s.chk == 0 && s.a == s.e
theorem ok {s : Sd} (h : s.chk = 0) : 0 ≤ s.a ∧ s.a ≤ s.n ∧ s.n ≤ s.y ∧ s.y ≤ s.e ∧ s.e ≤ 9007199254740992 := by
  unfold chk at h
  split at h
  · cases h
  · omega
end Sd
structure En where
  e : Int
  r : Int
  k : Int
  v : Int
abbrev ez (x : En) : List D := [.val (.int .i64 x.e), .val (.int .i64 x.r), .val (.int .i64 x.k), .val (.int .i64 x.v)]
namespace En
def chk (x : En) : Int := if x.e < 1 ∨ x.e > 9007199254740992 ∨ x.r < 0 ∨ x.r ≥ 2 then 1 else 0
end En
def chkB (p q : Int) (l : List En) : Int := if p < 0 ∨ p ≥ 4 ∨ q < 0 ∨ q > 9007199254740992 ∨ (l.length : Int) < 1 ∨ (l.length : Int) > 8 ∨ (l.length : Int) > 9007199254740992 - q then 1 else if l.any (fun x => x.chk != 0) = true then 1 else 0
theorem En.chk_one {x : En} (h : x.chk ≠ 0) : x.chk = 1 := by unfold En.chk at *; split at h <;> simp_all
theorem any_yes {l : List En} {i : Nat} {x : En} (hx : l[i]? = some x) (h : x.chk ≠ 0) : l.any (fun x => x.chk != 0) = true := by
  rw [List.any_eq_true]; exact ⟨x, List.mem_of_getElem? hx, by simpa using h⟩
theorem any_no {l : List En} (h : ∀ (j : Nat) (x : En), j < l.length → l[j]? = some x → x.chk = 0) : l.any (fun x => x.chk != 0) = false := by
  rw [List.any_eq_false]
  intro x hx
  obtain ⟨j, hj⟩ := List.getElem?_of_mem hx
  have := h j x (List.getElem?_eq_some_iff.1 hj).1 hj
  simp [this]
def accept (e p q : Int) (l : List En) : List En × Int := if chkB p q l ≠ 0 then ([], chkB p q l) else if e < 0 ∨ e > 9007199254740992 then ([], 1) else if q > e then ([], 210) else if q < e then ([], 7) else (l, 0)
/-- Do they rise? -/
def rises (l : List Int) : Bool := (List.range (l.length - 1)).all fun i => decide (l.getD i 0 ≤ l.getD (i + 1) 0)
end Go.Abs
