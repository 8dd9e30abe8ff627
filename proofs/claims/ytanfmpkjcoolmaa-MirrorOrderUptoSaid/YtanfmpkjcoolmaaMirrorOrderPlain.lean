/- Plain: in order. -/
import Derived.Test.YtanfmpkjcoolmaaMirrorBunPlain
set_option linter.unusedVariables false
namespace Go.Abs
def pile (V : List En) : Nat → List Bn
  | 0 => bun 1 0 V
  | n + 1 => pile V n ++ bun 1 ((3 * n : Nat) : Int) (V.drop (3 * n))
theorem pile_len (V : List En) : ∀ n, (pile V n).length ≤ (n + 1) * (V.length + 7)
  | 0 => by rw [pile, bun_len]; unfold cnt; omega
  | n + 1 => by
    have h1 := pile_len V n
    have h2 : (bun 1 ((3 * n : Nat) : Int) (V.drop (3 * n))).length ≤ V.length + 7 := by rw [bun_len]; unfold cnt; rw [List.length_drop]; omega
    have h3 : (n + 1 + 1) * (V.length + 7) = (n + 1) * (V.length + 7) + (V.length + 7) := Nat.succ_mul _ _
    rw [pile, List.length_append, h3]; omega
theorem pile_len' {V : List En} (hV : V.length ≤ 1048576) {n : Nat} (hn : 3 * n ≤ V.length + 3) : (pile V n).length ≤ 549755813888 := by
  have h1 := pile_len V n
  have h2 : (n + 1) * (V.length + 7) ≤ (n + 1) * 1048583 := Nat.mul_le_mul_left _ (by omega)
  omega
/-- A piece of V, at its place. -/
def Piece (V : List En) (b : Bn) : Prop := ∃ a m : Nat, b.2.1 = (a : Int) ∧ b.2.2 = (V.take (a + m)).drop a ∧ a + m ≤ V.length
theorem bun_piece {V : List En} {i : Nat} (hi : i ≤ V.length) : ∀ b ∈ bun 1 ((i : Nat) : Int) (V.drop i), Piece V b := by
  intro b hb
  unfold bun at hb
  obtain ⟨k, hk, rfl⟩ := List.mem_map.1 hb
  have h8 := cnt_lt (List.mem_range.1 hk)
  rw [List.length_drop] at h8
  refine ⟨i + 8 * k, min 8 (V.length - (i + 8 * k)), ?_, ?_, by omega⟩
  · simp only [List.length_drop]; omega
  · simp only [chunk]
    have e1 : V.take (i + (8 * k + 8)) = V.take (i + 8 * k + min 8 (V.length - (i + 8 * k))) := by rw [List.take_eq_take_iff]; omega
    rw [List.take_drop, List.drop_drop, e1]
theorem pile_piece {V : List En} : ∀ n, 3 * n ≤ V.length + 2 → ∀ b ∈ pile V n, Piece V b
  | 0, _, b, hb => by
    have := bun_piece (V := V) (i := 0) (by omega) b
    rw [List.drop_zero] at this
    exact this (by rw [pile] at hb; exact hb)
  | n + 1, h, b, hb => by
    rw [pile] at hb
    rcases List.mem_append.1 hb with hb | hb
    · exact pile_piece n (by omega) b hb
    · exact bun_piece (by omega) b hb
theorem acc_ok {e p q : Int} {l : List En} (h : (accept e p q l).2 = 0) : q = e ∧ (accept e p q l).1 = l := by
  unfold accept at h ⊢
  split at h
  · rename_i h1; exact absurd h h1
  · rename_i h1
    rw [if_neg h1]
    split at h
    · simp at h
    · rename_i h2
      rw [if_neg h2]
      split at h
      · simp at h
      · rename_i h3
        rw [if_neg h3]
        split at h
        · simp at h
        · rename_i h4
          rw [if_neg h4]
          exact ⟨by omega, rfl⟩
theorem acc_piece {V : List En} {b : Bn} (hb : Piece V b) {g : Nat} (hg : g ≤ V.length) {r : List En × Int} (hr : r = accept ((V.take g).length : Int) b.1 b.2.1 b.2.2) (h : r.2 = 0) : ∃ g2, g ≤ g2 ∧ g2 ≤ V.length ∧ V.take g ++ r.1 = V.take g2 := by
  obtain ⟨a, m, h1, h2, h3⟩ := hb
  subst hr
  obtain ⟨k1, k2⟩ := acc_ok h
  rw [List.length_take, h1] at k1
  have hag : a = g := by omega
  subst hag
  refine ⟨a + m, by omega, h3, ?_⟩
  rw [k2, h2]
  have := List.take_append_drop a (V.take (a + m))
  rwa [List.take_take, Nat.min_eq_left (by omega)] at this
theorem piece_len {V : List En} {b : Bn} (hb : Piece V b) : b.2.2.length ≤ V.length := by
  obtain ⟨a, m, h1, h2, h3⟩ := hb
  rw [h2, List.length_drop, List.length_take]; omega
end Go.Abs
