/- Objects behind which nothing is known; rows that slices within a variable own. -/
import Derived.Test.YtanfmpkjcoolmaaAbsZn
import Derived.Test.YtanfmpkjcoolmaaTwoPlain
set_option linter.unusedVariables false
set_option linter.unusedSimpArgs false
namespace Go.Abs
theorem nfS : (∀ (S T U : List Ob), S ++ T ++ U = S ++ (T ++ U)) ∧ (∀ (S T : List Ob), (S ++ T).length = S.length + T.length) ∧ (∀ (S T : List Ob), (S ++ T)[S.length]? = T[0]?) ∧ (∀ (S T : List Ob) (k : Nat), (S ++ T)[S.length + k]? = T[k]?) ∧
    (∀ (S T : List Ob) (v : Ob), (S ++ T).set S.length v = S ++ T.set 0 v) ∧ (∀ (S T : List Ob) (k : Nat) (v : Ob), (S ++ T).set (S.length + k) v = S ++ T.set k v) := by
  refine ⟨fun S T U => by simp, fun S T => by simp, fun S T => ?_, fun S T k => ?_, fun S T v => ?_, fun S T k v => ?_⟩
  · rw [List.getElem?_append_right (Nat.le_refl _), Nat.sub_self]
  · rw [List.getElem?_append_right (by omega), Nat.add_sub_cancel_left]
  · rw [List.set_append_right _ _ (Nat.le_refl _), Nat.sub_self]
  · rw [List.set_append_right _ _ (by omega), Nat.add_sub_cancel_left]
/-- May be appended to. -/
def CapS (S : List Ob) (C : Cap) (n : Nat) : Prop := C = .full ∨ ∃ i, C = .own (i + 1) ∧ S[i]? = some (.row n 3)
def Dis (C D : Cap) : Prop := ∀ i, C = .own i → D ≠ .own i
theorem CapS.app {S T : List Ob} {C : Cap} {n : Nat} (h : CapS S C n) : CapS (S ++ T) C n := by
  rcases h with h | ⟨i, h1, h2⟩
  · exact .inl h
  · exact .inr ⟨i, h1, by rw [List.getElem?_append_left (List.getElem?_eq_some_iff.1 h2).1]; exact h2⟩
/-- What an append leaves: the row i; the others' rows stay. -/
def Kept (S1 S2 : List Ob) (C : Cap) (i n : Nat) : Prop := S2[i]? = some (.row n 3) ∧ ∀ j m, S1[j]? = some (.row m 3) → C ≠ .own (j + 1) → S2[j]? = some (.row m 3) ∧ j ≠ i
theorem Kept.mine {S1 S2 : List Ob} {C : Cap} {i n : Nat} (h : Kept S1 S2 C i n) : CapS S2 (.own (i + 1)) n := .inr ⟨i, rfl, h.1⟩
theorem Kept.other {S1 S2 : List Ob} {C D : Cap} {i n m : Nat} (h : Kept S1 S2 C i n) (hd : CapS S1 D m) (hx : Dis D C) : CapS S2 D m ∧ Dis (.own (i + 1)) D ∧ Dis D (.own (i + 1)) := by
  rcases hd with rfl | ⟨j, rfl, hj⟩
  · exact ⟨.inl rfl, fun _ _ => by simp, fun _ e => by cases e⟩
  · have := h.2 j m hj (fun e => hx _ rfl e)
    exact ⟨.inr ⟨j, rfl, this.1⟩, fun k e e2 => by cases e; cases e2; exact this.2 rfl, fun k e e2 => by cases e; cases e2; exact this.2 rfl⟩
end Go.Abs
