/- Objects behind which nothing is known; rows that slices within a variable own. -/
import Derived.Test.YtanfmpkjcoolmaaGreatAbsZn
import Derived.Test.YtanfmpkjcoolmaaGreatTwoPlain
set_option linter.unusedVariables false
set_option linter.unusedSimpArgs false
namespace Go.Abs
/-- May be appended to. -/
def CapS (S : List Ob) (C : Cap) (n : Nat) : Prop := C = .full ∨ ∃ i, C = .own (i + 1) ∧ S[i]? = some (.row n 3)
def Dis (C D : Cap) : Prop := ∀ i, C = .own i → D ≠ .own i
/-- What an append leaves: the row i; the others' rows stay. -/
def Kept (S1 S2 : List Ob) (C : Cap) (i n : Nat) : Prop := S2[i]? = some (.row n 3) ∧ ∀ j m, S1[j]? = some (.row m 3) → C ≠ .own (j + 1) → S2[j]? = some (.row m 3) ∧ j ≠ i
theorem Kept.mine {S1 S2 : List Ob} {C : Cap} {i n : Nat} (h : Kept S1 S2 C i n) : CapS S2 (.own (i + 1)) n := .inr ⟨i, rfl, h.1⟩
theorem Kept.other {S1 S2 : List Ob} {C D : Cap} {i n m : Nat} (h : Kept S1 S2 C i n) (hd : CapS S1 D m) (hx : Dis D C) : CapS S2 D m ∧ Dis (.own (i + 1)) D ∧ Dis D (.own (i + 1)) := by
  rcases hd with rfl | ⟨j, rfl, hj⟩
  · exact ⟨.inl rfl, fun _ _ => by simp, fun _ e => by cases e⟩
  · have := h.2 j m hj (fun e => hx _ rfl e)
    exact ⟨.inr ⟨j, rfl, this.1⟩, fun k e e2 => by cases e; cases e2; exact this.2 rfl, fun k e e2 => by cases e; cases e2; exact this.2 rfl⟩
end Go.Abs
