/- Plain: all positions, as they are told. -/
import Derived.Test.YtanfmpkjcoolmaaOffsetPlain2
set_option linter.unusedVariables false
namespace Go.Abs
namespace Tb
theorem may_start (t : Tb) : (may t).start = t.start := by unfold start; rw [may_same (may_good t)]
theorem may_n (t : Tb) : (may t).n = if t.chk = 0 then t.n else 0 := by
  unfold may
  by_cases h : t.chk = 0
  · rw [if_neg (by simp [h]), if_pos h]
  · rw [if_pos h, if_neg h]; simp [new, num]
theorem start_le {t : Tb} (h : t.good = true) : t.start ≤ t.n := by
  rw [start_good h]
  split
  · exact Int.le_refl _
  · have h8 := rise h (i := t.l.length - 1) (by omega)
    rw [fin_last (by omega)] at h8
    rcases Nat.eq_zero_or_pos (t.l.length - 1) with e | e
    · rw [e] at h8; omega
    · have := rises' h e (by omega); omega
def tellAt (t : Tb) (x : Int) : Sp := ⟨(t.spAt x).e, (t.spAt x).r, x, t.off x⟩
def alls (t : Tb) : List (Int × Sp) := (List.range (t.n - t.start).toNat).map fun k : Nat => (t.start + (k : Int), t.tellAt (t.start + (k : Int)))
theorem alls_len (t : Tb) : t.alls.length = (t.n - t.start).toNat := by simp [alls]
theorem alls_get {t : Tb} {k : Nat} (h : k < (t.n - t.start).toNat) : t.alls[k]? = some (t.start + (k : Int), t.tellAt (t.start + (k : Int))) := by
  unfold alls; rw [List.getElem?_map, List.getElem?_range h]; rfl
theorem alls_pos {t : Tb} : ∀ p ∈ t.alls, p.2.p = p.1 := by
  intro p hp
  obtain ⟨k, _, rfl⟩ := List.mem_map.1 hp
  rfl
theorem in_all {t : Tb} (h : t.good = true) {i : Nat} (hi : i < t.l.length) {x : Int} (h1 : (t.nth i).p ≤ x) (h2 : x < t.fin i) : t.start ≤ x ∧ x < t.n := by
  constructor
  · rw [start_good h, if_neg (by omega)]
    rcases Nat.eq_zero_or_pos i with e | e
    · rw [← e]; exact h1
    · have := rises' h e hi; omega
  · by_cases e : i + 1 < t.l.length
    · rw [fin_next e] at h2
      have h8 := rise h (i := t.l.length - 1) (by omega)
      rw [fin_last (by omega)] at h8
      rcases Nat.eq_or_lt_of_le (show i + 1 ≤ t.l.length - 1 by omega) with h7 | h7
      · rw [h7] at h2; omega
      · have h6 := rises' h h7 (by omega); omega
    · rw [fin_last e] at h2; exact h2
theorem alls_at {t : Tb} (h : t.good = true) {i : Nat} (hi : i < t.l.length) {x : Int} (h1 : (t.nth i).p ≤ x) (h2 : x < t.fin i) : t.alls[(x - t.start).toNat]? = some (x, ⟨(t.nth i).e, (t.nth i).r, x, (t.nth i).o + (x - (t.nth i).p)⟩) := by
  obtain ⟨s1, s2⟩ := in_all h hi h1 h2
  rw [alls_get (by omega), show t.start + (((x - t.start).toNat : Nat) : Int) = x by omega]
  obtain ⟨e1, e2⟩ := spAt_in s1 s2
  have e3 := idx_eq h s1 s2 hi h1 h2
  unfold tellAt off
  rw [if_neg (by simp [e1]), e2, e3]
/-- How many positions lie ahead of the i-th span. -/
def cnt (t : Tb) (i : Nat) : Nat := ((if i < t.l.length then (t.nth i).p else t.n) - t.start).toNat
theorem cnt_zero {t : Tb} (h : t.good = true) : t.cnt 0 = 0 := by
  unfold cnt
  rw [start_good h]
  split
  · rw [if_neg (by omega)]; omega
  · rw [if_pos (by omega)]; omega
theorem cnt_at {t : Tb} {i : Nat} (hi : i < t.l.length) : t.cnt i = ((t.nth i).p - t.start).toNat := by unfold cnt; rw [if_pos hi]
theorem cnt_next (t : Tb) (i : Nat) : t.cnt (i + 1) = (t.fin i - t.start).toNat := by unfold cnt fin; rfl
theorem cnt_end (t : Tb) : t.cnt t.l.length = t.alls.length := by unfold cnt; rw [if_neg (by omega), alls_len]
end Tb
abbrev pz (p : Int × Sp) : List D := [vi p.1, .agg (spz p.2)]
abbrev qz (p : Int × Sp) : List D := spz p.2
theorem lf_rpt {l : List Sp} {n : Int} : ∀ d ∈ [D.sl none (l.map spz) .ro, vi n], LF d := lf_cons (lf_map (f := spz) (fun _ => rfl) (.inl rfl)) (lf_cons (.val _) lf_nil)
end Go.Abs
