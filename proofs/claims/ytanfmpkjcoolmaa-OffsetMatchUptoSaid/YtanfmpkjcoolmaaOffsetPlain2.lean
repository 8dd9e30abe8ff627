/- Plain: what is common to two tables; one position more. -/
import Derived.Test.YtanfmpkjcoolmaaOffsetPlain
set_option linter.unusedVariables false
namespace Go.Abs
namespace Tb
/-- Where the span of x ends. -/
def beh (t : Tb) (x : Int) : Int := t.fin (t.idx x)
def whose (t : Tb) (x : Int) : Int × Int := ((t.spAt x).e, (t.spAt x).r)
def lo (a b : Tb) : Int := if a.start < b.start then b.start else a.start
def hi (a b : Tb) : Int := if b.n < a.n then b.n else a.n
def com (a b : Tb) : Int := match (List.range (hi a b - lo a b).toNat).find? (fun k : Nat => !(decide (a.whose (lo a b + (k : Int)) = b.whose (lo a b + (k : Int))))) with
  | some k => lo a b + (k : Int)
  | none => hi a b
theorem com_at {a b : Tb} {r : Int} (h1 : lo a b ≤ r) (h2 : r < hi a b) (h3 : ∀ x, lo a b ≤ x → x < r → a.whose x = b.whose x) (h4 : a.whose r ≠ b.whose r) : com a b = r := by
  unfold com
  cases hp : (List.range (hi a b - lo a b).toNat).find? (fun k : Nat => !(decide (a.whose (lo a b + (k : Int)) = b.whose (lo a b + (k : Int))))) with
  | none =>
    have := List.find?_eq_none.1 hp (r - lo a b).toNat (List.mem_range.2 (by omega))
    rw [show lo a b + (((r - lo a b).toNat : Nat) : Int) = r by omega] at this
    simp [h4] at this
  | some k =>
    have k1 := List.find?_some hp
    have k2 := List.mem_range.1 (List.mem_of_find?_eq_some hp)
    simp only [Bool.not_eq_true', decide_eq_false_iff_not] at k1
    dsimp only
    rcases Int.lt_trichotomy (lo a b + (k : Int)) r with e | e | e
    · exact absurd (h3 _ (by omega) e) k1
    · exact e
    · exfalso
      have k3 := (List.find?_eq_some_iff_getElem.1 hp).2
      obtain ⟨i, hi1, hi2, hi3⟩ := k3
      simp only [List.getElem_range] at hi2
      have := hi3 (r - lo a b).toNat (by omega)
      simp only [List.getElem_range, Bool.not_not, decide_eq_true_eq] at this
      rw [show lo a b + (((r - lo a b).toNat : Nat) : Int) = r by omega] at this
      exact h4 this
theorem com_all {a b : Tb} (h3 : ∀ x, lo a b ≤ x → x < hi a b → a.whose x = b.whose x) : com a b = hi a b := by
  unfold com
  cases hp : (List.range (hi a b - lo a b).toNat).find? (fun k : Nat => !(decide (a.whose (lo a b + (k : Int)) = b.whose (lo a b + (k : Int))))) with
  | none => rfl
  | some k =>
    have k1 := List.find?_some hp
    have k2 := List.mem_range.1 (List.mem_of_find?_eq_some hp)
    simp only [Bool.not_eq_true', decide_eq_false_iff_not] at k1
    exact absurd (h3 _ (by omega) (by omega)) k1
theorem com_cases (a b : Tb) : (com a b = hi a b ∧ ∀ x, lo a b ≤ x → x < hi a b → a.whose x = b.whose x) ∨ (lo a b ≤ com a b ∧ com a b < hi a b ∧ (∀ x, lo a b ≤ x → x < com a b → a.whose x = b.whose x) ∧ a.whose (com a b) ≠ b.whose (com a b)) := by
  unfold com
  cases hp : (List.range (hi a b - lo a b).toNat).find? (fun k : Nat => !(decide (a.whose (lo a b + (k : Int)) = b.whose (lo a b + (k : Int))))) with
  | none =>
    left
    refine ⟨rfl, fun x h1 h2 => ?_⟩
    have := List.find?_eq_none.1 hp (x - lo a b).toNat (List.mem_range.2 (by omega))
    rw [show lo a b + (((x - lo a b).toNat : Nat) : Int) = x by omega] at this
    simpa using this
  | some k =>
    right
    have k1 := List.find?_some hp
    have k2 := List.mem_range.1 (List.mem_of_find?_eq_some hp)
    simp only [Bool.not_eq_true', decide_eq_false_iff_not] at k1
    dsimp only
    refine ⟨by omega, by omega, fun x h1 h2 => ?_, k1⟩
    obtain ⟨i, hi1, hi2, hi3⟩ := (List.find?_eq_some_iff_getElem.1 hp).2
    simp only [List.getElem_range] at hi2
    have := hi3 (x - lo a b).toNat (by omega)
    simp only [List.getElem_range, Bool.not_not, decide_eq_true_eq] at this
    rw [show lo a b + (((x - lo a b).toNat : Nat) : Int) = x by omega] at this
    exact this
theorem spAt_in {t : Tb} {x : Int} (h1 : t.start ≤ x) (h2 : x < t.n) : t.errF x = 0 ∧ t.spAt x = t.nth (t.idx x) := by
  have : t.errF x = 0 := by unfold errF; rw [if_neg (by omega), if_neg (by omega)]
  exact ⟨this, by unfold spAt; rw [if_neg (by simp [this])]⟩
/-- In one span all is whose its first is. -/
theorem whose_on {t : Tb} (h : t.good = true) {x y : Int} (h1 : t.start ≤ x) (h2 : x < t.n) (h3 : x ≤ y) (h4 : y < t.beh x) : t.whose y = t.whose x ∧ y < t.n := by
  obtain ⟨k1, k2, k3, _⟩ := idx_in h h1 h2
  have hy : y < t.n := by
    unfold beh at h4
    by_cases e : t.idx x + 1 < t.l.length
    · rw [fin_next e] at h4
      have h8 := rise h (i := t.l.length - 1) (by omega)
      rw [fin_last (by omega)] at h8
      rcases Nat.eq_or_lt_of_le (show t.idx x + 1 ≤ t.l.length - 1 by omega) with h7 | h7
      · rw [← h7] at h8; omega
      · have h6 := rises' h h7 (by omega); omega
    · rw [fin_last e] at h4; exact h4
  have e := idx_eq h (x := y) (by omega) hy k1 (by omega) h4
  unfold whose
  rw [(spAt_in h1 h2).2, (spAt_in (by omega) hy).2, e]
  exact ⟨rfl, hy⟩
theorem beh_gt {t : Tb} (h : t.good = true) {x : Int} (h1 : t.start ≤ x) (h2 : x < t.n) : x < t.beh x ∧ t.beh x ≤ t.n := by
  obtain ⟨k1, k2, k3, _⟩ := idx_in h h1 h2
  refine ⟨k3, ?_⟩
  rcases Int.lt_or_le t.n (t.beh x) with e | e
  · have := (whose_on h h1 h2 (y := t.n) (by omega) e).2; omega
  · exact e
/-- The offset in one log of what has an offset in the other. -/
def trE (a b : Tb) (x : Int) : Int := if a.may.errP x ≠ 0 then a.may.errP x else if a.may.pos x ≥ com a.may b.may then 4 else b.may.errF (a.may.pos x)
def tr (a b : Tb) (x : Int) : Int := if a.may.errP x ≠ 0 then 0 else if a.may.pos x ≥ com a.may b.may then 0 else b.may.off (a.may.pos x)
/-- One position more. -/
def addE (t : Tb) (e r o : Int) : Int :=
  if e < 1 ∨ e > 9007199254740992 ∨ r < 0 ∨ r ≥ 2 ∨ num o = false then 1
  else if t.n = 9007199254740992 then 6
  else if t.l.length = 0 then 0
  else if e < (t.nth (t.l.length - 1)).e ∨ (e = (t.nth (t.l.length - 1)).e ∧ r ≠ (t.nth (t.l.length - 1)).r) ∨ o ≤ t.last (t.l.length - 1) then 7
  else if e = (t.nth (t.l.length - 1)).e ∧ o - 1 = t.last (t.l.length - 1) then 0
  else if t.l.length ≥ 4096 then 3 else 0
def joins (t : Tb) (e o : Int) : Prop := 0 < t.l.length ∧ e = (t.nth (t.l.length - 1)).e ∧ o - 1 = t.last (t.l.length - 1)
instance (t : Tb) (e o : Int) : Decidable (t.joins e o) := inferInstanceAs (Decidable (_ ∧ _))
def addT (t : Tb) (e r o : Int) : Tb :=
  if t.addE e r o ≠ 0 then t else if t.joins e o then ⟨t.l, t.n + 1⟩ else ⟨t.l ++ [⟨e, r, t.n, o⟩], t.n + 1⟩
end Tb
end Go.Abs
namespace Go.Abs
namespace Tb
/-- Of the spans looked at so far, from the last on, each begins behind x. -/
def late (t : Tb) (x : Int) (k : Nat) : Prop := ∀ j, j < k → x < (t.nth (t.l.length - 1 - j)).o
instance (t : Tb) (x : Int) (k : Nat) : Decidable (t.late x k) := inferInstanceAs (Decidable (∀ j, j < k → _))
theorem late_zero (t : Tb) (x : Int) : t.late x 0 := fun j h => by omega
theorem late_succ {t : Tb} {x : Int} {k : Nat} (h : t.late x k) (h2 : x < (t.nth (t.l.length - 1 - k)).o) : t.late x (k + 1) := fun j hj => by
  rcases Nat.eq_or_lt_of_le (show j ≤ k by omega) with e | e
  · rw [e]; exact h2
  · exact h j e
theorem back_some {t : Tb} {f : Int × Sp → List D} {k : Nat} {y : List D} (h : (t.back.map f)[k]? = some y) : k < t.l.length ∧ f (((t.l.length - 1 - k : Nat) : Int), t.nth (t.l.length - 1 - k)) = y := by
  rw [List.getElem?_map] at h
  obtain ⟨p, h1, h2⟩ := Option.map_eq_some_iff.1 h
  have hk : k < t.l.length := by have := (List.getElem?_eq_some_iff.1 h1).1; rwa [back_len] at this
  rw [back_at hk] at h1
  cases h1
  exact ⟨hk, h2⟩
theorem late_at {t : Tb} {x : Int} {k j : Nat} (h : t.late x k) (h1 : t.l.length - 1 - k < j) (h2 : j < t.l.length) : x < (t.nth j).o := by
  have := h (t.l.length - 1 - j) (by omega)
  rwa [show t.l.length - 1 - (t.l.length - 1 - j) = j by omega] at this
/-- It is past its last one: it is nowhere. -/
theorem late_no {t : Tb} (hg : t.good = true) {x : Int} {k : Nat} (hk : k < t.l.length) (h : t.late x k) (h1 : x ≥ (t.nth (t.l.length - 1 - k)).o) (h2 : x > t.last (t.l.length - 1 - k)) : ∀ j, j < t.l.length → ¬ t.oin x j := by
  rintro j hj ⟨a1, a2⟩
  rcases Nat.lt_trichotomy j (t.l.length - 1 - k) with e | e | e
  · have := o_rise' hg e (by omega); omega
  · rw [e] at a2; omega
  · have := late_at h e hj; omega
theorem late_all {t : Tb} {x : Int} (h : t.late x t.l.length) : ∀ j, j < t.l.length → ¬ t.oin x j := by
  rintro j hj ⟨a1, a2⟩
  have := h (t.l.length - 1 - j) (by omega)
  rw [show t.l.length - 1 - (t.l.length - 1 - j) = j by omega] at this
  omega
theorem com_step {a b : Tb} (ha : a.good = true) (hb : b.good = true) {n x : Int} (h1 : lo a b ≤ n) (h2 : n < hi a b) (hw : a.whose n = b.whose n) (h3 : n ≤ x) (h4 : x < if b.beh n < a.beh n then b.beh n else a.beh n) : a.whose x = b.whose x := by
  have l1 : a.start ≤ n ∧ b.start ≤ n := by unfold lo at h1; split at h1 <;> omega
  have l2 : n < a.n ∧ n < b.n := by unfold hi at h2; split at h2 <;> omega
  have l3 : x < a.beh n ∧ x < b.beh n := by split at h4 <;> omega
  rw [(whose_on ha l1.1 l2.1 h3 l3.1).1, (whose_on hb l1.2 l2.2 h3 l3.2).1, hw]
theorem lo_start {a b : Tb} {n : Int} (h1 : lo a b ≤ n) : a.start ≤ n ∧ b.start ≤ n := by unfold lo at h1; split at h1 <;> omega
theorem hi_end {a b : Tb} {n : Int} (h1 : n < hi a b) : n < a.n ∧ n < b.n := by unfold hi at h1; split at h1 <;> omega
theorem hi_le {a b : Tb} {n : Int} (h1 : n ≤ a.n) (h2 : n ≤ b.n) : n ≤ hi a b := by unfold hi; split <;> omega
def bt : Nat → Tb
  | 0 => ⟨[], 0⟩
  | 1 => ⟨[⟨1, 0, 0, 100⟩], 1⟩
  | 2 => ⟨[⟨1, 0, 0, 100⟩], 2⟩
  | _ => ⟨[⟨1, 0, 0, 100⟩, ⟨2, 1, 2, 102⟩], 3⟩
def bq : List Sp := [⟨1, 0, 0, 100⟩, ⟨1, 0, 0, 101⟩, ⟨2, 1, 0, 102⟩]
theorem bt_good : ∀ i, (bt i).good = true
  | 0 => by decide
  | 1 => by decide
  | 2 => by decide
  | _ + 3 => (by decide : (bt 3).good = true)
theorem bt_add : ∀ i, i < 3 → ∃ x, bq[i]? = some x ∧ (bt i).addE x.e x.r x.o = 0 ∧ (bt i).addT x.e x.r x.o = bt (i + 1) ∧ (bt (i + 1)).n = (i : Int) + 1 ∧ (bt i).may = bt i
  | 0, _ => ⟨_, rfl, by decide, rfl, rfl, may_same (bt_good 0)⟩
  | 1, _ => ⟨_, rfl, by decide, rfl, rfl, may_same (bt_good 1)⟩
  | 2, _ => ⟨_, rfl, by decide, rfl, rfl, may_same (bt_good 2)⟩
  | _ + 3, h => by omega
def bt5 : Tb := ⟨[⟨1, 0, 0, 100⟩], 5⟩
theorem bt_end : (bt 3).off 1 = 101 ∧ (bt 3).errF 1 = 0 ∧ (bt 3).pos 102 = 2 ∧ (bt 3).errP 102 = 0 ∧ com (bt 3) bt5 = 2 ∧ bt5.may = bt5 := by
  refine ⟨by decide, by decide, by decide, by decide, by decide, may_same (by decide)⟩
end Tb
end Go.Abs
namespace Go.Abs
namespace Tb
theorem bq_o : ∀ x ∈ bq, 0 ≤ x.o := by decide
theorem bt_len (i : Nat) : (bt i).l.length ≤ 1048576 := Nat.le_trans (good_num (bt_good i)).2 (by decide)
end Tb
end Go.Abs
