/- Plain: what is read out of bytes. -/
import Derived.Test.YtanfmpkjcoolmaaPackPlain
import Derived.Test.YtanfmpkjcoolmaaAbsN
set_option linter.unusedVariables false
set_option linter.unusedSimpArgs false
namespace Go.Abs
/-- The length of all bytes that are taken. -/
abbrev L40 (b : List Int) : Prop := b.length ≤ 1099511627776
abbrev bys (b : List Int) : D := .sl none (ints .u8 b) .ro
abbrev vi (n : Int) : D := .val (.int .i64 n)
abbrev vb (b : Bool) : D := .val (.bool b)
structure Up where
  b : List Int
  e : Int
/-- The box of an Unpacker; of the reference's. -/
abbrev Up.z (u : Up) : List D := [bys u.b, vi u.e, vb true]
abbrev Up.rz (u : Up) : List D := [bys u.b, vi u.e]
abbrev Up.ok (u : Up) : Prop := Byt u.b ∧ L40 u.b
/-- The reference keeps no bytes behind an error. -/
def Up.clr (u : Up) : Up := if u.e = 0 then u else ⟨[], u.e⟩
def Up.spoil (u : Up) (x : Int) : Up := if u.e = 0 then ⟨u.b, x⟩ else u
def Up.int (u : Up) (lo hi : Int) : Int × Up :=
  if u.e ≠ 0 then (0, u)
  else if (firstP u.b).2.2 = 0 ∧ ((firstP u.b).1 < lo ∨ (firstP u.b).1 > hi) then (0, ⟨u.b, 11⟩)
  else if (firstP u.b).2.2 ≠ 0 then (0, ⟨u.b, (firstP u.b).2.2⟩)
  else ((firstP u.b).1, ⟨u.b.drop (firstP u.b).2.1, 0⟩)
def Up.str (u : Up) (most : Int) : List Int × Up :=
  if (u.int 0 (max 0 most)).2.e ≠ 0 then ([], (u.int 0 (max 0 most)).2)
  else if (u.int 0 (max 0 most)).1 > (u.int 0 (max 0 most)).2.b.length then ([], ⟨(u.int 0 (max 0 most)).2.b, 10⟩)
  else ((u.int 0 (max 0 most)).2.b.take (u.int 0 (max 0 most)).1.toNat, ⟨(u.int 0 (max 0 most)).2.b.drop (u.int 0 (max 0 most)).1.toNat, 0⟩)
def Up.rest (u : Up) : Int := if u.e = 0 then u.b.length else 0
def Up.close (u : Up) : Int := if u.e ≠ 0 then u.e else if u.b.length > 0 then 12 else 0

theorem Byt.drop {b : List Int} (h : Byt b) (n : Nat) : Byt (b.drop n) := fun x hx => h x (List.mem_of_mem_drop hx)
theorem Byt.take {b : List Int} (h : Byt b) (n : Nat) : Byt (b.take n) := fun x hx => h x (List.mem_of_mem_take hx)
theorem Up.ok.drop {b : List Int} {e e' : Int} {n : Nat} (h : Up.ok ⟨b, e⟩) : Up.ok ⟨b.drop n, e'⟩ := ⟨h.1.drop n, by have := h.2; simp only [L40, List.length_drop] at *; omega⟩
/-- One thing that is asked. -/
structure Ak1 where
  d : Int
  lo : Int
  hi : Int
  n : Int
  e : Int
abbrev Ak1.z (a : Ak1) : List D := [vi a.d, vi a.lo, vi a.hi, vi a.n, vi a.e]
def Up.ask (u : Up) (a : Ak1) : Up := if a.d = 0 then (u.int a.lo a.hi).2 else if a.d = 1 then (u.str a.n).2 else if a.d = 2 then (u.int 0 1).2 else u.spoil a.e
theorem hiD_byt : ∀ (v : Nat), Byt (hiD v) := by
  intro v
  induction v using Nat.strongRecOn with
  | _ v ih =>
    by_cases h : v = 0
    · subst h; rw [hiD_zero]; intro x hx; cases hx
    · rw [hiD_pos h]
      intro x hx
      rcases List.mem_append.1 hx with hx | hx
      · exact ih (v / 128) (by omega) x hx
      · simp only [List.mem_cons, List.not_mem_nil, or_false] at hx
        subst hx; omega
theorem Byt.append {a b : List Int} (h : Byt a) (k : Byt b) : Byt (a ++ b) := fun x hx => by
  rcases List.mem_append.1 hx with hx | hx
  · exact h x hx
  · exact k x hx
theorem form_byt (n : Int) : Byt (form n) := (hiD_byt _).append fun x hx => by
  simp only [List.mem_cons, List.not_mem_nil, or_false] at hx
  subst hx; omega
theorem forms_byt : ∀ (l : List Int), Byt (forms l)
  | [] => fun x hx => by simp [forms] at hx
  | n :: l => by
    have : forms (n :: l) = form n ++ forms l := by simp [forms]
    rw [this]
    exact (form_byt n).append (forms_byt l)
section
variable {P : Program} {N : Nat} {ops : Array Oper} {l : List Oper} {Q : Exit → Tm → List Ob → Prop} {tm : Tm} {S : List Ob} {t : Tmp} {ty : TypeId} {pos : String} {after : Array Edge}
end
end Go.Abs
