/- Plain: the records of events, those ahead of a barrier, those between barriers. -/
import Derived.Test.YtanfmpkjcoolmaaEventPlain
import Derived.Test.YtanfmpkjcoolmaaAbsZb
set_option linter.unusedVariables false
namespace Go.Abs
abbrev Rc := Int × Int
abbrev rz (p : Rc) : List D := [vi p.1, vi p.2]
def Ev.rc (x : Ev) : Rc := (x.k, x.v)
def recs (l : List Ev) : List Rc := (l.filter fun x => x.c == 1).map Ev.rc
theorem recs_take_yes {l : List Ev} {i : Nat} {x : Ev} (hx : l[i]? = some x) (h : x.c = 1) : recs (l.take (i + 1)) = recs (l.take i) ++ [x.rc] := by
  obtain ⟨hi, rfl⟩ := List.getElem?_eq_some_iff.1 hx
  rw [List.take_succ_eq_append_getElem hi]; simp [recs, List.filter_append, h, -List.take_append_getElem]
theorem recs_take_no {l : List Ev} {i : Nat} {x : Ev} (hx : l[i]? = some x) (h : x.c ≠ 1) : recs (l.take (i + 1)) = recs (l.take i) := by
  obtain ⟨hi, rfl⟩ := List.getElem?_eq_some_iff.1 hx
  rw [List.take_succ_eq_append_getElem hi]; simp [recs, List.filter_append, h, -List.take_append_getElem]
theorem recs_at {l : List Ev} {i : Nat} {x : Ev} (hx : l[i]? = some x) (h : x.c = 1) : (recs l)[(recs (l.take i)).length]? = some x.rc := by
  have hi := (List.getElem?_eq_some_iff.1 hx).1
  have e : recs l = recs (l.take i) ++ recs (l.drop i) := by have := congrArg recs (List.take_append_drop i l).symm; rw [this]; simp only [recs, List.filter_append, List.map_append]
  have hx' := (List.getElem?_eq_some_iff.1 hx).2
  rw [e, List.getElem?_append_right (Nat.le_refl _), Nat.sub_self, List.drop_eq_getElem_cons hi, hx']
  simp [recs, h]
theorem recs_len (l : List Ev) : (recs l).length ≤ l.length := by simp [recs]; exact List.length_filter_le _ _
theorem lf_fnrp {f : Fn} {cs : List D} (h : ∀ d ∈ cs, LF d) : LF (.fn f [] [.rp cs]) := .fn (fun d h => by cases h) (fun d hd => by simp at hd; subst hd; exact .rp h)
theorem lf_rp1 {α : Type} {f : α → List D} (hf : ∀ a, flats (f a) = true) {l : List α} : ∀ d ∈ [D.sl none (l.map f) .ro], LF d := lf_cons (lf_map hf (.inl rfl)) lf_nil
theorem map_some {α : Type} {f : α → List D} {l : List α} {k : Nat} {x : List D} (h : (l.map f)[k]? = some x) : ∃ p, l[k]? = some p ∧ f p = x := by
  rw [List.getElem?_map] at h; exact Option.map_eq_some_iff.1 h
theorem map_one {α : Type} {f : α → List D} {n : Nat} (h : ∀ a, (f a).length = n) {l : List α} : ∀ x ∈ l.map f, x.length = n := fun x hx => by obtain ⟨p, _, rfl⟩ := List.mem_map.1 hx; exact h p
theorem one_one {y : List D} {n : Nat} (h : y.length = n) : ∀ x ∈ [y], x.length = n := fun x hx => by simp only [List.mem_cons, List.not_mem_nil, or_false] at hx; subst hx; exact h
theorem take_snoc {α : Type} {l : List α} {k : Nat} {p : α} (h : l[k]? = some p) : l.take (k + 1) = l.take k ++ [p] := by
  obtain ⟨hi, rfl⟩ := List.getElem?_eq_some_iff.1 h
  exact List.take_succ_eq_append_getElem hi
end Go.Abs
