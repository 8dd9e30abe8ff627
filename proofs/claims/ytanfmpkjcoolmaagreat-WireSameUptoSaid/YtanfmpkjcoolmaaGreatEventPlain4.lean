/- Plain: the records of events, those ahead of a barrier, those between barriers. -/
import Derived.Test.YtanfmpkjcoolmaaGreatEventPlain
import Derived.Test.YtanfmpkjcoolmaaGreatAbsN
set_option linter.unusedVariables false
namespace Go.Abs
abbrev Rc := Int × Int
abbrev rz (p : Rc) : List D := [vi p.1, vi p.2]
def Ev.rc (x : Ev) : Rc := (x.k, x.v)
def recs (l : List Ev) : List Rc := (l.filter fun x => x.c == 1).map Ev.rc
theorem map_some {α : Type} {f : α → List D} {l : List α} {k : Nat} {x : List D} (h : (l.map f)[k]? = some x) : ∃ p, l[k]? = some p ∧ f p = x := by
  rw [List.getElem?_map] at h; exact Option.map_eq_some_iff.1 h
theorem map_one {α : Type} {f : α → List D} {n : Nat} (h : ∀ a, (f a).length = n) {l : List α} : ∀ x ∈ l.map f, x.length = n := fun x hx => by obtain ⟨p, _, rfl⟩ := List.mem_map.1 hx; exact h p
theorem take_snoc {α : Type} {l : List α} {k : Nat} {p : α} (h : l[k]? = some p) : l.take (k + 1) = l.take k ++ [p] := by
  obtain ⟨hi, rfl⟩ := List.getElem?_eq_some_iff.1 h
  exact List.take_succ_eq_append_getElem hi
end Go.Abs
