/- Plain: what is read has the form that was read. -/
import Derived.Test.YtanfmpkjcoolmaaGreatPackPlain3
set_option linter.unusedVariables false
namespace Go.Abs
theorem natN_numberN (w : Nat) : natN (numberN w) = w := by
  unfold natN numberN
  split <;> split <;> omega
theorem hiD_step {u : Nat} {c : Int} (hc : 128 ≤ c) (hc2 : c ≤ 255) (hne : u * 128 + (c % 128).toNat ≠ 0) : hiD (u * 128 + (c % 128).toNat) = hiD u ++ [c] := by
  rw [hiD_pos hne]
  have h1 : (u * 128 + (c % 128).toNat) / 128 = u := by omega
  have h2 : (((u * 128 + (c % 128).toNat) % 128 + 128 : Nat) : Int) = c := by omega
  rw [h1, h2]
theorem firstG_inv : ∀ (r : List Int) (u i : Nat), Byt r → (i = 0 → u = 0) → (i ≠ 0 → u ≠ 0) → (firstG u i r).2.2 = 0 → ∃ w, (firstG u i r).1 = numberN w ∧ hiD u ++ r.take ((firstG u i r).2.1 - i) = formN w
  | [], u, i, _, _, _, h => by simp [firstG] at h
  | c :: r, u, i, hb, h0, h1, h => by
    have hc := hb c (by simp)
    rw [firstG_cons] at h ⊢
    split at h
    · simp at h
    · rename_i h2
      rw [if_neg h2]
      split at h
      · rename_i h3
        rw [if_pos h3]
        refine ⟨_, rfl, ?_⟩
        simp only [show i + 1 - i = 1 by omega]
        unfold formN
        rw [show (u * 128 + (c % 128).toNat) / 128 = u by omega]
        simp
        omega
      · rename_i h3
        rw [if_neg h3]
        have hne : u * 128 + (c % 128).toNat ≠ 0 := by
          by_cases hi : i = 0
          · have : c ≠ 128 := fun e => h2 (.inl ⟨hi, e⟩)
            omega
          · have := h1 hi; omega
        obtain ⟨w, e1, e2⟩ := firstG_inv r _ (i + 1) (fun x hx => hb x (by simp [hx])) (by omega) (fun _ => hne) h
        refine ⟨w, e1, ?_⟩
        have hbd := (firstG_bd r _ _ h).1
        rw [← e2, hiD_step (by omega) hc.2 hne, show (firstG (u * 128 + (c % 128).toNat) (i + 1) r).2.1 - i = (firstG (u * 128 + (c % 128).toNat) (i + 1) r).2.1 - (i + 1) + 1 by omega]
        simp
theorem firstP_inv {b : List Int} (hb : Byt b) (h : (firstP b).2.2 = 0) : b = form (firstP b).1 ++ b.drop (firstP b).2.1 := by
  obtain ⟨w, e1, e2⟩ := firstG_inv b 0 0 hb (fun _ => rfl) (fun h => absurd rfl h) h
  have e3 : form (firstP b).1 = b.take (firstP b).2.1 := by
    unfold firstP form
    rw [e1, natN_numberN, ← e2, hiD_zero]; rfl
  rw [e3, List.take_append_drop]
end Go.Abs
