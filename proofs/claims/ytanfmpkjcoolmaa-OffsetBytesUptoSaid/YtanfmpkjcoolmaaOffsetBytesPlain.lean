/- Plain: a table's bytes. -/
import Derived.Test.YtanfmpkjcoolmaaOffsetPlain3
import Derived.Test.YtanfmpkjcoolmaaPackPlain3
import Derived.Test.YtanfmpkjcoolmaaPackPlain4
import Derived.Test.YtanfmpkjcoolmaaLeaseBytesPlain
set_option linter.unusedVariables false
namespace Go.Abs
abbrev I6 (n : Int) : Prop := -9223372036854775808 ≤ n ∧ n ≤ 9223372036854775807
theorem forms_add (a b : List Int) : forms (a ++ b) = forms a ++ forms b := by simp [forms]
namespace Sp
def four (s : Sp) : List Int := [s.e, s.r, s.p, s.o]
theorem four_i64 {s : Sp} (h : Tb.sp1 s = true) : ∀ n ∈ s.four, I6 n := by
  rw [Tb.sp1_iff] at h
  intro n hn
  simp only [four, List.mem_cons, List.not_mem_nil, or_false] at hn
  rcases hn with rfl | rfl | rfl | rfl <;> constructor <;> omega
end Sp
namespace Tb
def upto (t : Tb) (i : Nat) : List Int := t.n :: (t.l.length : Int) :: (t.l.take i).flatMap Sp.four
def bytes (t : Tb) : List Int := if t.chk ≠ 0 then [] else forms (t.upto t.l.length)
theorem upto_next {t : Tb} {i : Nat} (h : i < t.l.length) : t.upto (i + 1) = t.upto i ++ (t.nth i).four := by
  unfold upto
  rw [take_snoc (nth_at h)]; simp
theorem upto_i64 {t : Tb} (h : t.good = true) (i : Nat) : ∀ n ∈ t.upto i, I6 n := by
  have hn := good_num h
  intro n hm
  unfold upto at hm
  rcases List.mem_cons.1 hm with rfl | hm
  · constructor <;> omega
  · rcases List.mem_cons.1 hm with rfl | hm
    · constructor <;> omega
    · obtain ⟨s, hs, hx⟩ := List.mem_flatMap.1 hm
      obtain ⟨j, hj⟩ := List.getElem?_of_mem (List.mem_of_mem_take hs)
      have hjl := (List.getElem?_eq_some_iff.1 hj).1
      rw [nth_at hjl] at hj
      cases hj
      exact Sp.four_i64 (single_sp1 (good_at h hjl)) n hx
theorem flat4 (l : List Sp) : (l.flatMap Sp.four).length = 4 * l.length := by
  induction l with
  | nil => rfl
  | cons x l ih => rw [List.flatMap_cons, List.length_append, ih, List.length_cons]; simp [Sp.four]; omega
theorem upto_len {t : Tb} (i : Nat) : (t.upto i).length ≤ 2 + 4 * t.l.length := by
  unfold upto
  simp only [List.length_cons, flat4, List.length_take]; omega
theorem forms_small {t : Tb} (h : t.good = true) (i : Nat) : (forms (t.upto i)).length ≤ 163860 := by
  have h1 := forms_len' (t.upto i) (upto_i64 h i)
  have h2 := upto_len (t := t) i
  have h3 := (good_num h).2
  omega
def rds : Nat → Up → List Sp × Up
  | 0, u => ([], u)
  | k + 1, u => if u.e ≠ 0 then ([], u) else
    let r1 := u.w; let r2 := r1.2.w; let r3 := r2.2.w; let r4 := r3.2.w
    ((⟨r1.1, r2.1, r3.1, r4.1⟩ : Sp) :: (rds k r4.2).1, (rds k r4.2).2)
theorem rds_stop {k : Nat} {u : Up} (h : k = 0 ∨ u.e ≠ 0) : rds k u = ([], u) := by
  cases k with
  | zero => rfl
  | succ k => unfold rds; rw [if_pos (by rcases h with h | h; omega; exact h)]
theorem rds_go {k : Nat} {u r1 r2 r3 r4 : Up} {a1 a2 a3 a4 : Int} (h : u.e = 0) (h1 : u.w = (a1, r1)) (h2 : r1.w = (a2, r2)) (h3 : r2.w = (a3, r3)) (h4 : r3.w = (a4, r4)) : rds (k + 1) u = ((⟨a1, a2, a3, a4⟩ : Sp) :: (rds k r4).1, (rds k r4).2) := by
  rw [rds, if_neg (by simp [h])]; simp only [h1, h2, h3, h4]
def parse (b : List Int) : Tb × Int :=
  let r1 := Up.w ⟨b, 0⟩; let r2 := r1.2.int 0 4096; let s := rds r2.1.toNat r2.2
  if s.2.close ≠ 0 then (⟨[], 0⟩, s.2.close) else if (⟨s.1, r1.1⟩ : Tb).chk ≠ 0 then (⟨[], 0⟩, (⟨s.1, r1.1⟩ : Tb).chk) else (⟨s.1, r1.1⟩, 0)
theorem bytes_byt (t : Tb) : Byt t.bytes := by
  unfold bytes; split
  · intro x hx; cases hx
  · exact forms_byt _
theorem bytes_l40 (t : Tb) : L40 t.bytes := by
  unfold bytes; split
  · simp [L40]
  · rename_i h
    have := forms_small (good_chk.1 (by simpa using h)) t.l.length
    simp only [L40]; omega
/-- What has been written of spans is read as it was. -/
theorem rds_forms : ∀ (l : List Sp) (h : ∀ s ∈ l, sp1 s = true) (r : List Int), rds l.length ⟨forms (l.flatMap Sp.four) ++ r, 0⟩ = (l, ⟨r, 0⟩)
  | [], _, r => by simp [rds, forms]
  | s :: l, h, r => by
    have h4 := Sp.four_i64 (h s (by simp))
    simp only [Sp.four, List.mem_cons, List.not_mem_nil, or_false, forall_eq_or_imp, forall_eq] at h4
    obtain ⟨h1, h2, h3, h5⟩ := h4
    have hb : forms ((s :: l).flatMap Sp.four) ++ r = form s.e ++ (form s.r ++ (form s.p ++ (form s.o ++ (forms (l.flatMap Sp.four) ++ r)))) := by
      simp [Sp.four, forms]
    rw [hb, List.length_cons]
    rw [rds_go (u := ⟨_, 0⟩) rfl (Up.w_form h1.1 h1.2 _) (Up.w_form h2.1 h2.2 _) (Up.w_form h3.1 h3.2 _) (Up.w_form h5.1 h5.2 _), rds_forms l (fun x hx => h x (by simp [hx])) r]
theorem parse_bytes {t : Tb} (h : t.chk = 0) : parse t.bytes = (t, 0) := by
  have hg := good_chk.1 h
  have hn := good_num hg
  have hb : t.bytes = form t.n ++ (form (t.l.length : Int) ++ (forms (t.l.flatMap Sp.four) ++ [])) := by
    unfold bytes upto; rw [if_neg (by simp [h]), List.take_length]; simp [forms]
  have hall : ∀ s ∈ t.l, sp1 s = true := fun s hs => by
    obtain ⟨j, hj⟩ := List.getElem?_of_mem hs
    have hjl := (List.getElem?_eq_some_iff.1 hj).1
    rw [nth_at hjl] at hj; cases hj
    exact single_sp1 (good_at hg hjl)
  rw [hb]
  unfold parse
  rw [Up.w_form (by omega) (by omega)]
  dsimp only
  rw [Up.int_form (lo := 0) (hi := 4096) (by omega) (by omega) (by omega) (by omega)]
  dsimp only
  rw [show ((t.l.length : Int)).toNat = t.l.length by omega, rds_forms t.l hall []]
  dsimp only
  rw [show Up.close ⟨[], 0⟩ = 0 from rfl, if_neg (by simp), if_neg (by simp [h])]
/-- What is read has those bytes. -/
theorem rds_inv : ∀ (k : Nat) (u : Up), u.ok → (rds k u).2.e = 0 → u.e = 0 ∧ u.b = forms ((rds k u).1.flatMap Sp.four) ++ (rds k u).2.b ∧ (rds k u).1.length = k
  | 0, u, hu, h => by
    simp only [rds] at h ⊢
    exact ⟨h, by simp [forms], rfl⟩
  | k + 1, u, hu, h => by
    by_cases he : u.e = 0
    · obtain ⟨⟨a1, r1⟩, h1⟩ : ∃ x, u.w = x := ⟨_, rfl⟩
      obtain ⟨⟨a2, r2⟩, h2⟩ : ∃ x, r1.w = x := ⟨_, rfl⟩
      obtain ⟨⟨a3, r3⟩, h3⟩ : ∃ x, r2.w = x := ⟨_, rfl⟩
      obtain ⟨⟨a4, r4⟩, h4⟩ : ∃ x, r3.w = x := ⟨_, rfl⟩
      rw [rds_go (k := k) he h1 h2 h3 h4] at h ⊢
      have o1 : r1.ok := by have := Up.w_ok hu; rwa [h1] at this
      have o2 : r2.ok := by have := Up.w_ok o1; rwa [h2] at this
      have o3 : r3.ok := by have := Up.w_ok o2; rwa [h3] at this
      have o4 : r4.ok := by have := Up.w_ok o3; rwa [h4] at this
      obtain ⟨i1, i2, i3⟩ := rds_inv k _ o4 h
      obtain ⟨j1, j2⟩ := Up.w_inv (u := r3) o3.1 (by rw [h4]; exact i1)
      obtain ⟨k1, k2⟩ := Up.w_inv (u := r2) o2.1 (by rw [h3]; exact j1)
      obtain ⟨l1, l2⟩ := Up.w_inv (u := r1) o1.1 (by rw [h2]; exact k1)
      obtain ⟨m1, m2⟩ := Up.w_inv (u := u) hu.1 (by rw [h1]; exact l1)
      rw [h4] at j2; rw [h3] at k2; rw [h2] at l2; rw [h1] at m2
      refine ⟨he, ?_, by simp [i3]⟩
      rw [m2, l2, k2, j2]
      simp only
      rw [i2]
      simp [Sp.four, forms]
    · rw [rds_stop (.inr he)] at h
      exact absurd h he
theorem parse_inv {b : List Int} (hb : Byt b) (hl : L40 b) (h : (parse b).2 = 0) : (parse b).1.bytes = b ∧ (parse b).1.chk = 0 := by
  obtain ⟨r1, hr1⟩ : ∃ r, r = Up.w ⟨b, 0⟩ := ⟨_, rfl⟩
  obtain ⟨r2, hr2⟩ : ∃ r, r = r1.2.int 0 4096 := ⟨_, rfl⟩
  obtain ⟨s, hs⟩ : ∃ s, s = rds r2.1.toNat r2.2 := ⟨_, rfl⟩
  have hp : parse b = if s.2.close ≠ 0 then (⟨[], 0⟩, s.2.close) else if (⟨s.1, r1.1⟩ : Tb).chk ≠ 0 then (⟨[], 0⟩, (⟨s.1, r1.1⟩ : Tb).chk) else (⟨s.1, r1.1⟩, 0) := by rw [hs, hr2, hr1]; rfl
  have ok1 : r1.2.ok := by rw [hr1]; exact Up.w_ok ⟨hb, hl⟩
  have ok2 : r2.2.ok := by rw [hr2]; exact Up.int_ok ok1 _ _
  rw [hp] at h ⊢
  split at h
  · rename_i h1; exact absurd h h1
  · rename_i h1
    split at h
    · rename_i h2; exact absurd h h2
    · rename_i h2
      rw [if_neg h1, if_neg h2]
      have hc : (⟨s.1, r1.1⟩ : Tb).chk = 0 := by simpa using h2
      refine ⟨?_, hc⟩
      obtain ⟨z1, z2⟩ := Up.close_zero (by simpa using h1 : s.2.close = 0)
      rw [hs] at z1 z2
      obtain ⟨i1, i2, i3⟩ := rds_inv _ _ ok2 z1
      rw [hr2] at i1
      obtain ⟨j1, j2, j3, j4⟩ := Up.int_inv ok1.1 i1
      rw [hr1] at j1
      obtain ⟨k1, k2⟩ := Up.w_inv (u := ⟨b, 0⟩) hb j1
      rw [← hr1] at j1 k2
      rw [← hr2] at i1 j2 j3 j4
      rw [← hs] at i2 i3 z2
      have hlen : (s.1.length : Int) = r2.1 := by omega
      unfold bytes
      rw [if_neg h2]
      unfold upto
      rw [List.take_length]
      dsimp only
      rw [hlen]
      have hk : b = form r1.1 ++ r1.2.b := k2
      rw [hk, j2, i2, z2]
      simp [forms]
def same (a b : Tb) : Bool := decide (a.n = b.n) && decide (a.l.length = b.l.length) && (List.range a.l.length).all fun i => decide ((a.nth i).e = (b.nth i).e) && decide ((a.nth i).r = (b.nth i).r) && decide ((a.nth i).p = (b.nth i).p) && decide ((a.nth i).o = (b.nth i).o)
end Tb
end Go.Abs
namespace Go.Abs
theorem Up.int_rng {u : Up} {lo hi : Int} (h0 : lo ≤ 0) (h1 : 0 ≤ hi) : lo ≤ (u.int lo hi).1 ∧ (u.int lo hi).1 ≤ hi := by
  unfold Up.int
  split
  · exact ⟨h0, h1⟩
  · split
    · exact ⟨h0, h1⟩
    · rename_i h2
      split
      · exact ⟨h0, h1⟩
      · rename_i h3
        have h3 : (firstP u.b).2.2 = 0 := by simpa using h3
        have h4 : ¬ ((firstP u.b).1 < lo ∨ (firstP u.b).1 > hi) := fun h => h2 ⟨h3, h⟩
        constructor <;> dsimp only <;> omega
end Go.Abs
namespace Go.Abs
namespace Tb
theorem parse_len (b : List Int) : (parse b).1.l.length ≤ 1048576 := by
  have key : ∀ (s : List Sp × Up) (n : Int), (if s.2.close ≠ 0 then ((⟨[], 0⟩ : Tb), s.2.close) else if (⟨s.1, n⟩ : Tb).chk ≠ 0 then (⟨[], 0⟩, (⟨s.1, n⟩ : Tb).chk) else (⟨s.1, n⟩, 0)).1.l.length ≤ 1048576 := fun s n => by
    split
    · simp
    · split
      · simp
      · rename_i h
        have := (good_num (good_chk.1 (by simpa using h : (⟨s.1, n⟩ : Tb).chk = 0))).2
        dsimp only at this ⊢; omega
  exact key _ _
end Tb
end Go.Abs
