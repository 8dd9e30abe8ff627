/- Plain: tables of offsets. -/
import Derived.Test.YtanfmpkjcoolmaaAbsZf
import Derived.Test.YtanfmpkjcoolmaaPackPlain2
import Derived.Test.YtanfmpkjcoolmaaMirrorPlain
import Derived.Test.YtanfmpkjcoolmaaEventPlain4
set_option linter.unusedVariables false
namespace Go.Abs
structure Sp where
  e : Int
  r : Int
  p : Int
  o : Int
abbrev spz (x : Sp) : List D := [vi x.e, vi x.r, vi x.p, vi x.o]
structure Tb where
  l : List Sp
  n : Int
abbrev tz (t : Tb) : D := .agg [.sl none (t.l.map spz) .ro, vi t.n]
namespace Tb
def num (n : Int) : Bool := decide (n ≥ 0) && decide (n ≤ 9007199254740992)
theorem num_iff {n : Int} : num n = true ↔ 0 ≤ n ∧ n ≤ 9007199254740992 := by simp [num]
def nth (t : Tb) (i : Nat) : Sp := t.l.getD i ⟨0, 0, 0, 0⟩
theorem nth_at {t : Tb} {i : Nat} (h : i < t.l.length) : t.l[i]? = some (t.nth i) := by
  unfold nth; rw [List.getD_eq_getElem?_getD, List.getElem?_eq_getElem h]; rfl
/-- Where the i-th span ends. -/
def fin (t : Tb) (i : Nat) : Int := if i + 1 < t.l.length then (t.nth (i + 1)).p else t.n
def last (t : Tb) (i : Nat) : Int := (t.nth i).o + (t.fin i - (t.nth i).p - 1)
def sp1 (x : Sp) : Bool := decide (1 ≤ x.e) && decide (x.e ≤ 9007199254740992) && decide (0 ≤ x.r) && decide (x.r < 2) && num x.p && num x.o
theorem sp1_iff {x : Sp} : sp1 x = true ↔ (1 ≤ x.e ∧ x.e ≤ 9007199254740992) ∧ (0 ≤ x.r ∧ x.r < 2) ∧ (0 ≤ x.p ∧ x.p ≤ 9007199254740992) ∧ (0 ≤ x.o ∧ x.o ≤ 9007199254740992) := by
  unfold sp1; simp only [Bool.and_eq_true, decide_eq_true_eq, num_iff]; omega
def wide (t : Tb) (i : Nat) : Bool := decide (t.fin i > (t.nth i).p) && decide (t.last i ≤ 9007199254740992)
def single (t : Tb) (i : Nat) : Bool := sp1 (t.nth i) && (decide (t.l.length ≤ i + 1) || num (t.nth (i + 1)).p) && t.wide i
def follows (t : Tb) (i : Nat) : Bool :=
  decide ((t.nth (i - 1)).e ≤ (t.nth i).e) && (decide ((t.nth (i - 1)).e ≠ (t.nth i).e) || decide ((t.nth (i - 1)).r = (t.nth i).r)) && decide (t.last (i - 1) < (t.nth i).o) && (decide ((t.nth (i - 1)).e ≠ (t.nth i).e) || decide ((t.nth i).o ≠ t.last (i - 1) + 1))
def okAt (t : Tb) (i : Nat) : Bool := t.single i && (Nat.beq i 0 || t.follows i)
def good (t : Tb) : Bool := num t.n && decide (t.l.length ≤ 4096) && (List.range t.l.length).all t.okAt
def chk (t : Tb) : Int := if t.good = true then 0 else 200
/-- What the arithmetic of one span needs. -/
structure InB (t : Tb) (i : Nat) : Prop where
  lt : i < t.l.length
  p : 0 ≤ (t.nth i).p ∧ (t.nth i).p ≤ 9007199254740992
  o : 0 ≤ (t.nth i).o ∧ (t.nth i).o ≤ 9007199254740992
  f : 0 ≤ t.fin i ∧ t.fin i ≤ 9007199254740992
theorem single_in {t : Tb} {i : Nat} (hn : num t.n = true) (hi : i < t.l.length) (h : t.single i = true) : t.InB i := by
  unfold single at h
  simp only [Bool.and_eq_true, Bool.or_eq_true, decide_eq_true_eq, sp1_iff] at h
  refine ⟨hi, h.1.1.2.2.1, h.1.1.2.2.2, ?_⟩
  unfold fin
  split
  · rcases h.1.2 with h2 | h2
    · omega
    · exact num_iff.1 h2
  · exact num_iff.1 hn
theorem inb_of {t : Tb} {i : Nat} (hn : num t.n = true) (hi : i < t.l.length) (hs : sp1 (t.nth i) = true) (hx : (decide (t.l.length ≤ i + 1) || num (t.nth (i + 1)).p) = true) : t.InB i := by
  rw [sp1_iff] at hs
  refine ⟨hi, hs.2.2.1, hs.2.2.2, ?_⟩
  unfold fin
  split
  · rw [Bool.or_eq_true, decide_eq_true_eq] at hx
    rcases hx with h2 | h2
    · omega
    · exact num_iff.1 h2
  · exact num_iff.1 hn
theorem okAt_false {t : Tb} {i : Nat} (h : t.okAt i = true → False) : t.okAt i = false := by
  cases hq : t.okAt i with
  | false => rfl
  | true => exact (h hq).elim
theorem okAt_iff {t : Tb} {i : Nat} : t.okAt i = true ↔ t.single i = true ∧ (i = 0 ∨ ((t.nth (i - 1)).e ≤ (t.nth i).e ∧ ((t.nth (i - 1)).e ≠ (t.nth i).e ∨ (t.nth (i - 1)).r = (t.nth i).r) ∧ t.last (i - 1) < (t.nth i).o ∧ ((t.nth (i - 1)).e ≠ (t.nth i).e ∨ (t.nth i).o ≠ t.last (i - 1) + 1))) := by
  unfold okAt follows
  simp only [Bool.and_eq_true, Bool.or_eq_true, decide_eq_true_eq, and_assoc]
  rw [show ((i.beq 0 = true) ↔ i = 0) from ⟨Nat.eq_of_beq_eq_true, fun h => by subst h; rfl⟩]
theorem single_last {t : Tb} {i : Nat} (hn : num t.n = true) (hi : i < t.l.length) (h : t.single i = true) : 0 ≤ t.last i ∧ t.last i ≤ 9007199254740992 := by
  have hb := single_in hn hi h
  have hp := hb.p; have ho := hb.o
  unfold single wide at h
  simp only [Bool.and_eq_true, decide_eq_true_eq] at h
  have h2 := h.2
  have e : t.last i = (t.nth i).o + (t.fin i - (t.nth i).p - 1) := rfl
  omega
theorem follows_iff {t : Tb} {i : Nat} : t.follows i = true ↔ ((t.nth (i - 1)).e ≤ (t.nth i).e ∧ ((t.nth (i - 1)).e ≠ (t.nth i).e ∨ (t.nth (i - 1)).r = (t.nth i).r) ∧ t.last (i - 1) < (t.nth i).o ∧ ((t.nth (i - 1)).e ≠ (t.nth i).e ∨ (t.nth i).o ≠ t.last (i - 1) + 1)) := by
  unfold follows
  simp only [Bool.and_eq_true, Bool.or_eq_true, decide_eq_true_eq, and_assoc]
theorem single_sp1 {t : Tb} {i : Nat} (h : t.okAt i = true) : sp1 (t.nth i) = true := by
  unfold okAt single at h
  simp only [Bool.and_eq_true] at h
  exact h.1.1.1
theorem good_at {t : Tb} (h : t.good = true) {i : Nat} (hi : i < t.l.length) : t.okAt i = true := by
  unfold good at h
  simp only [Bool.and_eq_true] at h
  exact List.all_eq_true.1 h.2 i (List.mem_range.2 hi)
theorem good_num {t : Tb} (h : t.good = true) : (0 ≤ t.n ∧ t.n ≤ 9007199254740992) ∧ t.l.length ≤ 4096 := by
  unfold good at h
  simp only [Bool.and_eq_true, decide_eq_true_eq] at h
  exact ⟨num_iff.1 h.1.1, h.1.2⟩
theorem chk_yes {t : Tb} (h : num t.n = true) (h2 : t.l.length ≤ 4096) (h3 : ∀ i, i < t.l.length → t.okAt i = true) : t.chk = 0 := by
  unfold chk good
  rw [h, decide_eq_true h2, List.all_eq_true.2 (fun i hi => h3 i (List.mem_range.1 hi))]; rfl
theorem chk_no {t : Tb} {i : Nat} (hi : i < t.l.length) (h : t.okAt i = false) : t.chk = 200 := by
  unfold chk
  rw [if_neg (fun hg => by have := good_at hg hi; rw [h] at this; cases this)]
theorem chk_num {t : Tb} (h : num t.n = false ∨ t.l.length > 4096) : t.chk = 200 := by
  unfold chk
  rw [if_neg (fun hg => by
    have := good_num hg
    rcases h with h | h
    · have h2 := num_iff.2 this.1; rw [h] at h2; cases h2
    · omega)]
def new (n : Int) : Tb := ⟨[], if num n = true then n else 0⟩
def may (t : Tb) : Tb := if t.chk ≠ 0 then new 0 else t
def start (t : Tb) : Int := if (may t).l.length = 0 then (may t).n else ((may t).nth 0).p
theorem good_chk {t : Tb} : t.chk = 0 ↔ t.good = true := by
  unfold chk; split
  · rename_i h; exact ⟨fun _ => h, fun _ => rfl⟩
  · rename_i h; exact ⟨fun h2 => by simp at h2, fun h2 => absurd h2 h⟩
theorem new_good (n : Int) : (new n).good = true := by
  unfold good new
  split <;> simp_all [num]
theorem may_good (t : Tb) : (may t).good = true := by
  unfold may
  split
  · exact new_good 0
  · rename_i h; exact good_chk.1 (by simpa using h)
theorem may_len {t : Tb} : (may t).l.length ≤ t.l.length := by
  unfold may; split
  · simp [new]
  · exact Nat.le_refl _
theorem may_same {t : Tb} (h : t.good = true) : may t = t := by unfold may; rw [if_neg (by simp [good_chk.2 h])]
theorem rise {t : Tb} (h : t.good = true) {i : Nat} (hi : i < t.l.length) : (t.nth i).p < t.fin i := by
  have := good_at h hi
  unfold okAt single wide at this
  simp only [Bool.and_eq_true, decide_eq_true_eq] at this
  exact this.1.2.1
theorem fin_next {t : Tb} {i : Nat} (h : i + 1 < t.l.length) : t.fin i = (t.nth (i + 1)).p := by unfold fin; rw [if_pos h]
theorem fin_last {t : Tb} {i : Nat} (h : ¬ i + 1 < t.l.length) : t.fin i = t.n := by unfold fin; rw [if_neg h]
theorem rises {t : Tb} (h : t.good = true) : ∀ (d i : Nat), i + d < t.l.length → (t.nth i).p + d ≤ (t.nth (i + d)).p
  | 0, i, hi => by simp
  | d + 1, i, hi => by
    have h1 := rises h d i (by omega)
    have h2 := rise h (i := i + d) (by omega)
    rw [fin_next (by omega)] at h2
    have e : i + (d + 1) = i + d + 1 := by omega
    rw [e]; omega
theorem rises' {t : Tb} (h : t.good = true) {i j : Nat} (hij : i < j) (hj : j < t.l.length) : (t.nth i).p < (t.nth j).p := by
  have := rises h (j - i) i (by omega)
  rw [show i + (j - i) = j by omega] at this
  omega
/-- How many spans begin ahead of x. -/
def lb (t : Tb) (x : Int) : Nat := (List.range t.l.length).countP fun i => decide ((t.nth i).p < x)
theorem countP_cut (p : Nat → Bool) : ∀ (n k : Nat), k ≤ n → (∀ j, j < k → p j = true) → (∀ j, k ≤ j → j < n → p j = false) → (List.range n).countP p = k
  | 0, k, hk, _, _ => by simp; omega
  | n + 1, k, hk, h1, h2 => by
    rw [List.range_succ, List.countP_append]
    by_cases e : k = n + 1
    · subst e
      rw [countP_cut p n n (Nat.le_refl _) (fun j hj => h1 j (by omega)) (fun j h3 h4 => by omega)]
      simp [h1 n (by omega)]
    · rw [countP_cut p n k (by omega) h1 (fun j h3 h4 => h2 j h3 (by omega))]
      simp [h2 n (by omega) (by omega)]
theorem lb_eq {t : Tb} {x : Int} {k : Nat} (hk : k ≤ t.l.length) (h1 : ∀ j, j < k → (t.nth j).p < x) (h2 : ∀ j, k ≤ j → j < t.l.length → x ≤ (t.nth j).p) : t.lb x = k :=
  countP_cut _ _ _ hk (fun j hj => by simpa using h1 j hj) (fun j h3 h4 => by have := h2 j h3 h4; simp; omega)
theorem p_in {t : Tb} (h : t.good = true) {i : Nat} (hi : i < t.l.length) : 0 ≤ (t.nth i).p ∧ (t.nth i).p ≤ 9007199254740992 := (sp1_iff.1 (single_sp1 (good_at h hi))).2.2.1
theorem lb_cut {t : Tb} (h : t.good = true) (x : Int) : t.lb x ≤ t.l.length ∧ (∀ j, j < t.lb x → (t.nth j).p < x) ∧ (∀ j, t.lb x ≤ j → j < t.l.length → x ≤ (t.nth j).p) := by
  have key : ∀ m, m ≤ t.l.length → (∀ j, j < m → (t.nth j).p < x) ∨ ∃ k, k < m ∧ x ≤ (t.nth k).p ∧ ∀ j, j < k → (t.nth j).p < x := by
    intro m
    induction m with
    | zero => intro _; left; intro j hj; omega
    | succ m ih =>
      intro hm
      rcases ih (by omega) with h1 | ⟨k, h1, h2, h3⟩
      · by_cases h4 : (t.nth m).p < x
        · left; intro j hj
          rcases Nat.lt_or_ge j m with h5 | h5
          · exact h1 j h5
          · exact (show j = m by omega) ▸ h4
        · right; exact ⟨m, by omega, by omega, h1⟩
      · right; exact ⟨k, by omega, h2, h3⟩
  rcases key t.l.length (Nat.le_refl _) with h1 | ⟨k, h1, h2, h3⟩
  · have e := lb_eq (Nat.le_refl _) h1 (fun j h2 h3 => by omega)
    rw [e]; exact ⟨Nat.le_refl _, h1, fun j h2 h3 => by omega⟩
  · have h4 : ∀ j, k ≤ j → j < t.l.length → x ≤ (t.nth j).p := fun j hj hj2 => by
      rcases Nat.eq_or_lt_of_le hj with h9 | h9
      · exact h9 ▸ h2
      · exact Int.le_trans h2 (Int.le_of_lt (rises' h h9 hj2))
    have e := lb_eq (by omega) h3 h4
    rw [e]; exact ⟨by omega, h3, h4⟩
/-- The span in which x lies. -/
def idx (t : Tb) (x : Int) : Nat := if t.lb x < t.l.length ∧ (t.nth (t.lb x)).p = x then t.lb x else t.lb x - 1
def errF (t : Tb) (x : Int) : Int := if x < t.start then 7 else if x ≥ t.n then 4 else 0
theorem start_good {t : Tb} (h : t.good = true) : t.start = if t.l.length = 0 then t.n else (t.nth 0).p := by unfold start; rw [may_same h]
theorem start_pos {t : Tb} (h : t.good = true) : 0 ≤ t.start := by
  rw [start_good h]
  split
  · exact (good_num h).1.1
  · exact (p_in h (by omega)).1
theorem len_pos {t : Tb} (h : t.good = true) {x : Int} (h1 : t.start ≤ x) (h2 : x < t.n) : 0 < t.l.length := by
  rw [start_good h] at h1
  split at h1 <;> omega
theorem idx_in {t : Tb} (h : t.good = true) {x : Int} (h1 : t.start ≤ x) (h2 : x < t.n) : t.idx x < t.l.length ∧ (t.nth (t.idx x)).p ≤ x ∧ x < t.fin (t.idx x) ∧ (t.idx x = t.lb x ∨ t.idx x + 1 = t.lb x) := by
  have hp := len_pos h h1 h2
  obtain ⟨c1, c2, c3⟩ := lb_cut h x
  have h0 : (t.nth 0).p ≤ x := by rw [start_good h, if_neg (by omega)] at h1; exact h1
  unfold idx
  split
  · rename_i g
    refine ⟨g.1, by omega, ?_, .inl rfl⟩
    have := rise h g.1
    omega
  · rename_i g
    have hl : 0 < t.lb x := by
      rcases Nat.eq_zero_or_pos (t.lb x) with e | e
      · exfalso
        have := c3 0 (by omega) hp
        exact g ⟨by omega, by rw [e]; omega⟩
      · exact e
    refine ⟨by omega, Int.le_of_lt (c2 _ (by omega)), ?_, .inr (by omega)⟩
    by_cases e : t.lb x < t.l.length
    · rw [fin_next (by omega), show t.lb x - 1 + 1 = t.lb x by omega]
      have := c3 (t.lb x) (Nat.le_refl _) e
      have : (t.nth (t.lb x)).p ≠ x := fun e2 => g ⟨e, e2⟩
      omega
    · rw [fin_last (by omega)]; exact h2
theorem fin_le {t : Tb} (h : t.good = true) {i j : Nat} (hij : i < j) (hj : j < t.l.length) : t.fin i ≤ (t.nth j).p := by
  rw [fin_next (by omega)]
  rcases Nat.eq_or_lt_of_le (show i + 1 ≤ j from hij) with e | e
  · rw [e]; exact Int.le_refl _
  · exact Int.le_of_lt (rises' h e hj)
theorem idx_eq {t : Tb} (h : t.good = true) {x : Int} (h1 : t.start ≤ x) (h2 : x < t.n) {i : Nat} (hi : i < t.l.length) (h3 : (t.nth i).p ≤ x) (h4 : x < t.fin i) : t.idx x = i := by
  obtain ⟨k1, k2, k3, _⟩ := idx_in h h1 h2
  rcases Nat.lt_trichotomy (t.idx x) i with e | e | e
  · have := fin_le h e hi; omega
  · exact e
  · have := fin_le h e k1; omega
theorem idx_no {t : Tb} (h : t.good = true) {x : Int} (h1 : t.start ≤ x) (h2 : x < t.n) (g : ¬ (t.lb x < t.l.length ∧ (t.nth (t.lb x)).p = x)) : t.idx x + 1 = t.lb x := by
  have hp := len_pos h h1 h2
  obtain ⟨c1, c2, c3⟩ := lb_cut h x
  have h0 : (t.nth 0).p ≤ x := by rw [start_good h, if_neg (by omega)] at h1; exact h1
  have hl : 0 < t.lb x := by
    rcases Nat.eq_zero_or_pos (t.lb x) with e | e
    · exfalso
      have := c3 0 (by omega) hp
      exact g ⟨by omega, by rw [e]; omega⟩
    · exact e
  unfold idx; rw [if_neg g]; omega
theorem idx_yes {t : Tb} {x : Int} (g : t.lb x < t.l.length ∧ (t.nth (t.lb x)).p = x) : t.idx x = t.lb x := by unfold idx; rw [if_pos g]
theorem errF_zero {t : Tb} {x : Int} (h : t.errF x = 0) : t.start ≤ x ∧ x < t.n := by
  unfold errF at h
  split at h
  · simp at h
  · split at h
    · simp at h
    · omega
theorem nth_in {t : Tb} (h : t.good = true) {i : Nat} (hi : i < t.l.length) : (0 ≤ (t.nth i).p ∧ (t.nth i).p ≤ 9007199254740992) ∧ (0 ≤ (t.nth i).o ∧ (t.nth i).o ≤ 9007199254740992) := (sp1_iff.1 (single_sp1 (good_at h hi))).2.2
def off (t : Tb) (x : Int) : Int := if t.errF x ≠ 0 then 0 else (t.nth (t.idx x)).o + (x - (t.nth (t.idx x)).p)
def ze : Sp := ⟨0, 0, 0, 0⟩
def spAt (t : Tb) (x : Int) : Sp := if t.errF x ≠ 0 then ze else t.nth (t.idx x)
/-- The span whose offsets hold x. -/
def oin (t : Tb) (x : Int) (i : Nat) : Prop := (t.nth i).o ≤ x ∧ x ≤ t.last i
instance (t : Tb) (x : Int) (i : Nat) : Decidable (t.oin x i) := inferInstanceAs (Decidable (_ ∧ _))
def pidx (t : Tb) (x : Int) : Option Nat := (List.range t.l.length).find? fun i => decide (t.oin x i)
def errP (t : Tb) (x : Int) : Int := if t.l.length = 0 ∨ x < (t.nth 0).o then 7 else if (t.pidx x).isSome = true then 0 else 4
def pos (t : Tb) (x : Int) : Int := match t.pidx x with | some i => if t.l.length = 0 ∨ x < (t.nth 0).o then 0 else (t.nth i).p + (x - (t.nth i).o) | none => 0
theorem last_rise {t : Tb} (h : t.good = true) {i : Nat} (hi : i < t.l.length) : (t.nth i).o ≤ t.last i := by
  have h1 := rise h hi
  have e : t.last i = (t.nth i).o + (t.fin i - (t.nth i).p - 1) := rfl
  omega
theorem o_rise {t : Tb} (h : t.good = true) : ∀ (d i : Nat), i + d + 1 < t.l.length → t.last i < (t.nth (i + d + 1)).o
  | 0, i, hi => by
    have h1 := (okAt_iff.1 (good_at h hi)).2
    simp only [Nat.add_zero, Nat.add_sub_cancel] at h1 ⊢
    rcases h1 with h1 | h1
    · omega
    · exact h1.2.2.1
  | d + 1, i, hi => by
    have h1 := o_rise h d i (by omega)
    have h2 := last_rise h (i := i + d + 1) (by omega)
    have h3 := o_rise h 0 (i + d + 1) (by omega)
    simp only [Nat.add_zero] at h3
    rw [show i + (d + 1) + 1 = i + d + 1 + 1 by omega]
    omega
theorem o_rise' {t : Tb} (h : t.good = true) {i j : Nat} (hij : i < j) (hj : j < t.l.length) : t.last i < (t.nth j).o := by
  have := o_rise h (j - i - 1) i (by omega)
  rw [show i + (j - i - 1) + 1 = j by omega] at this
  exact this
theorem oin_one {t : Tb} (h : t.good = true) {x : Int} {i j : Nat} (hi : i < t.l.length) (hj : j < t.l.length) (h1 : t.oin x i) (h2 : t.oin x j) : i = j := by
  obtain ⟨a1, a2⟩ := h1
  obtain ⟨b1, b2⟩ := h2
  rcases Nat.lt_trichotomy i j with e | e | e
  · have := o_rise' h e hj; omega
  · exact e
  · have := o_rise' h e hi; omega
theorem pidx_some {t : Tb} (h : t.good = true) {x : Int} {i : Nat} (hi : i < t.l.length) (h1 : t.oin x i) : t.pidx x = some i := by
  cases hp : t.pidx x with
  | none =>
    have := List.find?_eq_none.1 hp i (List.mem_range.2 hi)
    simp [h1] at this
  | some j =>
    have k1 := List.find?_some hp
    have k2 := List.mem_range.1 (List.mem_of_find?_eq_some hp)
    rw [oin_one h k2 hi (of_decide_eq_true k1) h1]
theorem pidx_none {t : Tb} {x : Int} (h : ∀ i, i < t.l.length → ¬ t.oin x i) : t.pidx x = none :=
  List.find?_eq_none.2 fun i hi => by simpa using h i (List.mem_range.1 hi)
theorem o_first {t : Tb} (h : t.good = true) {i : Nat} (hi : i < t.l.length) : (t.nth 0).o ≤ (t.nth i).o := by
  rcases Nat.eq_zero_or_pos i with e | e
  · rw [e]; exact Int.le_refl _
  · have h1 := o_rise' h e hi
    have h2 := last_rise h (i := 0) (by omega)
    omega
theorem pos_found {t : Tb} (h : t.good = true) {x : Int} {i : Nat} (hi : i < t.l.length) (h1 : t.oin x i) : t.errP x = 0 ∧ t.pos x = (t.nth i).p + (x - (t.nth i).o) := by
  have hp := pidx_some h hi h1
  have ho := o_first h hi
  have hn : ¬ (t.l.length = 0 ∨ x < (t.nth 0).o) := by have := h1.1; omega
  unfold errP pos
  rw [hp]
  refine ⟨by rw [if_neg hn]; rfl, ?_⟩
  simp only
  rw [if_neg hn]
theorem pos_none {t : Tb} {x : Int} (hn : ¬ (t.l.length = 0 ∨ x < (t.nth 0).o)) (h : ∀ i, i < t.l.length → ¬ t.oin x i) : t.errP x = 4 ∧ t.pos x = 0 := by
  unfold errP pos
  rw [pidx_none h, if_neg hn]; exact ⟨rfl, rfl⟩
theorem pos_first {t : Tb} {x : Int} (hn : t.l.length = 0 ∨ x < (t.nth 0).o) : t.errP x = 7 ∧ t.pos x = 0 := by
  unfold errP pos
  rw [if_pos hn]
  refine ⟨rfl, ?_⟩
  cases t.pidx x with
  | none => rfl
  | some i => simp only; rw [if_pos hn]
/-- The spans from the last to the first, with their numbers. -/
def back (t : Tb) : List (Int × Sp) := (List.range t.l.length).map fun k => (((t.l.length - 1 - k : Nat) : Int), t.nth (t.l.length - 1 - k))
theorem back_len (t : Tb) : t.back.length = t.l.length := by simp [back]
theorem back_at {t : Tb} {k : Nat} (h : k < t.l.length) : t.back[k]? = some (((t.l.length - 1 - k : Nat) : Int), t.nth (t.l.length - 1 - k)) := by
  unfold back; rw [List.getElem?_map, List.getElem?_range h]; rfl
end Tb
theorem ren_tz {ρ σ : Nat → Nat → Prop} {nl : Option Bool} {c : Cap} {l : List Sp} {n : Int} : Ren ρ σ (.agg [.sl nl (l.map spz) c, vi n]) (tz ⟨l, n⟩) := .agg rfl (RenAll.get (.cons (ren_map (f := spz) (fun _ => rfl)) (.cons (.lf (.val _)) .nil)))
theorem ren_tz0 {ρ σ : Nat → Nat → Prop} {nl : Option Bool} {c : Cap} {n m : Int} (h : n = m) : Ren ρ σ (.agg [.sl nl [] c, vi n]) (tz ⟨[], m⟩) := by subst h; exact .agg rfl (RenAll.get (.cons (.ro (fun x h => by cases h)) (.cons (.lf (.val _)) .nil)))
theorem lf_tz (t : Tb) : LF (tz t) := .agg (lf_cons (lf_map (f := spz) (fun _ => rfl) (.inl rfl)) (lf_cons (.val _) lf_nil))
end Go.Abs
