/- Plain: what becomes of a table. -/
import Derived.Test.YtanfmpkjcoolmaaOffsetPlain3
import Derived.Test.YtanfmpkjcoolmaaAbsZk
set_option linter.unusedVariables false
namespace Go.Abs
namespace Tb
def cutE (t : Tb) (x : Int) : Int := if x < t.start ∨ x > t.n then 1 else 0
def cutT (t : Tb) (x : Int) : Tb := if x < t.start ∨ x > t.n then t else ⟨t.l.take (t.lb x), x⟩
def clip (s : Sp) (x : Int) : Sp := if s.p < x then ⟨s.e, s.r, x, s.o + (x - s.p)⟩ else s
def kept (t : Tb) (x : Int) (i : Nat) : List Sp := (List.range i).flatMap fun j => if t.fin j ≤ x then [] else [clip (t.nth j) x]
def dropT (t : Tb) (x : Int) : Tb := if x < t.start ∨ x > t.n then t else ⟨t.kept x t.l.length, t.n⟩
abbrev flat (l : List Sp) : List D := (l.map spz).flatten
theorem sp4 {l : List Sp} : ∀ x ∈ l.map spz, x.length = 4 := fun x hx => by obtain ⟨p, _, rfl⟩ := List.mem_map.1 hx; rfl
theorem flat_length (l : List Sp) : (flat l).length = l.length * 4 := by rw [flat_len sp4, List.length_map]
theorem flat_cons (s : Sp) (l : List Sp) : flat (s :: l) = spz s ++ flat l := by simp [flat]
theorem flat_drop : ∀ (l : List Sp) (j : Nat), (flat l).drop (j * 4) = flat (l.drop j)
  | l, 0 => by simp
  | [], j + 1 => by simp [flat]
  | s :: l, j + 1 => by
    rw [flat_cons, show (j + 1) * 4 = (spz s).length + j * 4 by simp; omega, List.drop_length_add_append, flat_drop l j]; rfl
theorem flat_take : ∀ (l : List Sp) (j : Nat), (flat l).take (j * 4) = flat (l.take j)
  | l, 0 => by simp [flat]
  | [], j + 1 => by simp [flat]
  | s :: l, j + 1 => by
    rw [flat_cons, show (j + 1) * 4 = (spz s).length + j * 4 by simp; omega, List.take_length_add_append, flat_take l j, List.take_succ_cons, flat_cons]
theorem flat_at {t : Tb} {j : Nat} (h : j < t.l.length) : ((flat t.l).drop (j * 4)).take 4 = spz (t.nth j) := by
  rw [flat_drop, List.drop_eq_getElem_cons h, flat_cons]
  have e : t.nth j = t.l[j] := by have := nth_at h; rw [List.getElem?_eq_getElem h] at this; exact (Option.some.inj this).symm
  rw [e]; rfl
theorem flat_lf (l : List Sp) : ∀ d ∈ flat l, LF d := fun d hd => by
  obtain ⟨x, hx, hd⟩ := List.mem_flatten.1 hd
  obtain ⟨p, _, rfl⟩ := List.mem_map.1 hx
  exact flats_lf (by rfl) d hd
theorem flat_one (l : List Sp) : ∀ x ∈ l.map spz, ∀ d ∈ x, d.one = true := fun x hx d hd => by
  obtain ⟨p, _, rfl⟩ := List.mem_map.1 hx
  simp only [spz, List.mem_cons, List.not_mem_nil, or_false] at hd
  rcases hd with rfl | rfl | rfl | rfl <;> rfl
theorem flat_lf2 (l : List Sp) : ∀ x ∈ l.map spz, ∀ d ∈ x, LF d := fun x hx d hd => by
  obtain ⟨p, _, rfl⟩ := List.mem_map.1 hx
  exact flats_lf (by rfl) d hd
abbrev z4 : List D := [vi 0, vi 0, vi 0, vi 0]
def zer (n : Nat) : List D := (List.replicate n z4).flatten
theorem zer_len (n : Nat) : (zer n).length = n * 4 := by
  unfold zer; rw [flat_len (sz := 4) (fun x hx => by rw [List.eq_of_mem_replicate hx]; rfl), List.length_replicate]
theorem zer_lf (n : Nat) : ∀ d ∈ zer n, LF d := fun d hd => by
  obtain ⟨x, hx, hd⟩ := List.mem_flatten.1 hd
  rw [List.eq_of_mem_replicate hx] at hd
  exact flats_lf (by rfl) d hd
theorem cut_cells {l : List Sp} {k : Nat} (h : k ≤ l.length) : splice (flat l) (k * 4) (List.replicate (l.length - k) z4).flatten = flat (l.take k) ++ zer (l.length - k) := by
  unfold splice
  have h2 := zer_len (l.length - k)
  have h3 := flat_length l
  rw [show (List.replicate (l.length - k) z4).flatten = zer (l.length - k) from rfl, flat_take, List.drop_eq_nil_of_le (by rw [h2, h3, ← Nat.add_mul]; exact Nat.le_of_eq (by congr 1; omega)), List.append_nil]
theorem cut_lf (l : List Sp) (k : Nat) : ∀ d ∈ flat (l.take k) ++ zer (l.length - k), LF d := fun d hd => by
  rcases List.mem_append.1 hd with h | h
  · exact flat_lf _ d h
  · exact zer_lf _ d h
theorem cut_whole {l : List Sp} {k : Nat} (h : k = l.length) : flat l = flat (l.take k) ++ zer (l.length - k) := by
  subst h; rw [List.take_length, Nat.sub_self]; simp [zer]
/-- One operation. -/
structure Opr where
  d : Int
  e : Int
  r : Int
  x : Int
abbrev oz (o : Opr) : List D := [vi o.d, vi o.e, vi o.r, vi o.x]
def okO (o : Opr) : Prop := -9223372036854775808 ≤ o.x ∧ o.x ≤ 9223372036854775807
def doT (t : Tb) (o : Opr) : Tb := if o.d = 0 then t.may.addT o.e o.r o.x else if o.d = 1 then t.may.cutT o.x else t.may.dropT o.x
end Tb
end Go.Abs
namespace Go.Abs
namespace Tb
theorem peek_two {l : Nat} {cs : List D} {a b a' b' : D} (h : Peek l cs a a') (h' : Peek l cs b b') : Peek l cs (.agg [a, b]) (.agg [a', b']) :=
  .agg rfl (fun i x y h1 h2 => by
    match i with
    | 0 => simp at h1 h2; subst h1 h2; exact h
    | 1 => simp at h1 h2; subst h1 h2; exact h'
    | i + 2 => simp at h1)
theorem peek_sp {l : Nat} {l1 : List Sp} {n : Nat} (hn : l1.length = n) : Peek l (flat l1) (.bs l 0 n) (.sl none (l1.map spz) .ro) :=
  .bs (sz := 4) (a := []) (b := []) (by simp) rfl (by simpa using hn) sp4 (flat_one _) (flat_lf2 _)
def after (t : Tb) (l : List Opr) : Tb := l.foldl doT t
end Tb
end Go.Abs
