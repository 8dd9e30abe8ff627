/- Calls that only read what is lent; slices written in place, as results; their end. -/
import Derived.Test.YtanfmpkjcoolmaaAbsZg
set_option linter.unusedVariables false
set_option linter.unusedSimpArgs false
namespace Go.Abs
variable {P : Program} {N : Nat} {ops : Array Oper} {l : List Oper} {Q : Exit → Tm → List Ob → Prop} {tm : Tm} {S : List Ob}
inductive PeekAll (l : Nat) (cs : List D) : List D → List D → Prop
  | nil : PeekAll l cs [] []
  | cons {a b : D} {as bs : List D} (h : Peek l cs a b) (t : PeekAll l cs as bs) : PeekAll l cs (a :: as) (b :: bs)
theorem PeekAll.length {l : Nat} {cs as bs : List D} (h : PeekAll l cs as bs) : as.length = bs.length := by
  induction h with
  | nil => rfl
  | cons h t ih => simp [ih]
theorem PeekAll.get {l : Nat} {cs as bs : List D} (h : PeekAll l cs as bs) : ∀ (i : Nat) (x y : D), as[i]? = some x → bs[i]? = some y → Peek l cs x y := by
  induction h with
  | nil => intro i x y h; simp at h
  | cons h t ih =>
    intro i x y h1 h2
    cases i with
    | zero => simp at h1 h2; subst h1; subst h2; exact h
    | succ i => exact ih i x y (by simpa using h1) (by simpa using h2)
section ops
variable {t : Tmp} {ty : TypeId} {pos : String} {after : Array Edge}
end ops
end Go.Abs
