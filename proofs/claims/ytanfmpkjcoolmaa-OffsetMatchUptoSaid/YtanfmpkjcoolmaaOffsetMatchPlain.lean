/- Plain: tables that describe logs. -/
import Derived.Test.YtanfmpkjcoolmaaOffsetDoesPlain
set_option linter.unusedVariables false
namespace Go.Abs
structure Et where
  i : Int
  e : Int
  r : Int
abbrev etz (x : Et) : List D := [vi x.i, vi x.e, vi x.r]
namespace Tb
theorem good_mk {t : Tb} (h : num t.n = true) (h2 : t.l.length ≤ 4096) (h3 : ∀ i, i < t.l.length → t.okAt i = true) : t.good = true := good_chk.1 (chk_yes h h2 h3)
theorem who_at {t : Tb} (h : t.good = true) {k : Nat} {x : Int} (hk : k < t.l.length) (h1 : (t.nth k).p ≤ x) (h2 : x < t.fin k) : t.whose x = ((t.nth k).e, (t.nth k).r) := by
  obtain ⟨s1, s2⟩ := in_all h hk h1 h2
  unfold whose
  rw [(spAt_in s1 s2).2, idx_eq h s1 s2 hk h1 h2]
/-- A table describes a log: whose each entry is; the offsets are the positions, c behind. -/
structure Desc (t : Tb) (c : Int) (L : List Et) : Prop where
  good : t.good = true
  len : t.n = (L.length : Int)
  zero : t.start = 0
  who : ∀ (i : Nat) (x : Et), L[i]? = some x → t.whose (i : Int) = (x.e, x.r)
  offs : ∀ k, k < t.l.length → (t.nth k).o = c + (t.nth k).p
theorem desc_new (c : Int) : Desc (new 0) c [] :=
  ⟨new_good 0, by simp [new, num], by rw [start_good (new_good 0)]; simp [new, num], fun i x h => by simp at h, fun k hk => by simp [new] at hk⟩
theorem span_at {t : Tb} {c : Int} {L : List Et} (h : Desc t c L) {x : Int} (h0 : 0 ≤ x) (h1 : x < t.n) : ∃ k, k < t.l.length ∧ (t.nth k).p ≤ x ∧ x < t.fin k := by
  obtain ⟨k1, k2, k3, _⟩ := idx_in h.good (by rw [h.zero]; exact h0) h1
  exact ⟨_, k1, k2, k3⟩
theorem nth_take {l : List Sp} {n m : Int} {k i : Nat} (h : i < k) : (⟨l.take k, n⟩ : Tb).nth i = (⟨l, m⟩ : Tb).nth i := by
  unfold nth
  simp only [List.getD_eq_getElem?_getD, List.getElem?_take]
  rw [if_pos h]
theorem okAt_mk {t : Tb} {i : Nat} (h1 : sp1 (t.nth i) = true) (h2 : i + 1 < t.l.length → num (t.nth (i + 1)).p = true) (h3 : (t.nth i).p < t.fin i) (h4 : t.last i ≤ 9007199254740992) (h5 : i = 0 ∨ t.follows i = true) : t.okAt i = true := by
  unfold okAt single wide
  rw [h1]
  have e : (decide (t.l.length ≤ i + 1) || num (t.nth (i + 1)).p) = true := by
    rw [Bool.or_eq_true, decide_eq_true_eq]
    by_cases hx : t.l.length ≤ i + 1
    · exact .inl hx
    · exact .inr (h2 (by omega))
  rw [e]
  simp only [Bool.true_and, Bool.and_eq_true, Bool.or_eq_true, decide_eq_true_eq]
  refine ⟨⟨h3, h4⟩, ?_⟩
  rcases h5 with h5 | h5
  · subst h5; exact .inl rfl
  · exact .inr h5
theorem okAt_get {t : Tb} (hg : t.good = true) {i : Nat} (hi : i < t.l.length) : sp1 (t.nth i) = true ∧ (t.nth i).p < t.fin i ∧ t.last i ≤ 9007199254740992 ∧ (i = 0 ∨ t.follows i = true) := by
  have h := good_at hg hi
  have h1 := single_sp1 h
  have h2 := (single_last (num_iff.2 (good_num hg).1) hi (okAt_iff.1 h).1).2
  refine ⟨h1, rise hg hi, h2, ?_⟩
  have h3 := (okAt_iff.1 h).2
  rcases h3 with h3 | h3
  · exact .inl h3
  · exact .inr (follows_iff.2 h3)
theorem last_eq (t : Tb) (i : Nat) : t.last i = (t.nth i).o + (t.fin i - (t.nth i).p - 1) := rfl
theorem desc_cut {t : Tb} {c : Int} {L : List Et} (h : Desc t c L) {n : Nat} (hn : n ≤ L.length) : t.cutE (n : Int) = 0 ∧ Desc (t.cutT (n : Int)) c (L.take n) := by
  have hg := h.good
  have hl := h.len
  have hz := h.zero
  have hnn := good_num hg
  have hnot : ¬ ((n : Int) < t.start ∨ (n : Int) > t.n) := by rw [hz, hl]; omega
  refine ⟨by unfold cutE; rw [if_neg hnot], ?_⟩
  have e : t.cutT (n : Int) = ⟨t.l.take (t.lb n), n⟩ := by unfold cutT; rw [if_neg hnot]
  rw [e]
  obtain ⟨c1, c2, c3⟩ := lb_cut hg (n : Int)
  obtain ⟨m, hm⟩ : ∃ m, m = t.lb (n : Int) := ⟨_, rfl⟩
  rw [← hm] at c1 c2 c3 ⊢
  obtain ⟨u, hu⟩ : ∃ u, u = (⟨t.l.take m, n⟩ : Tb) := ⟨_, rfl⟩
  rw [← hu]
  have hul : u.l.length = m := by rw [hu]; simp; omega
  have hun : u.n = n := by rw [hu]
  have hnth : ∀ i, i < m → u.nth i = t.nth i := fun i hi => by rw [hu]; exact nth_take hi
  have hfin : ∀ i, i + 1 < m → u.fin i = t.fin i := fun i hi => by
    rw [fin_next (by omega), fin_next (by omega), hnth _ hi]
  have hfl : ∀ i, i + 1 = m → u.fin i = n ∧ (n : Int) ≤ t.fin i := fun i hi => by
    refine ⟨by rw [fin_last (by omega), hun], ?_⟩
    by_cases hq : i + 1 < t.l.length
    · rw [fin_next hq]; exact c3 (i + 1) (by omega) hq
    · rw [fin_last hq, hl]; omega
  have hug : u.good = true := by
    refine good_mk (by rw [hun]; exact num_iff.2 (by omega)) (by omega) (fun i hi => ?_)
    rw [hul] at hi
    obtain ⟨o1, o2, o3, o4⟩ := okAt_get hg (show i < t.l.length by omega)
    have hle : (t.nth i).p < u.fin i ∧ u.fin i ≤ t.fin i := by
      by_cases hq : i + 1 < m
      · rw [hfin i hq]; omega
      · obtain ⟨f1, f2⟩ := hfl i (by omega)
        rw [f1]; exact ⟨c2 i hi, f2⟩
    refine okAt_mk (by rw [hnth i hi]; exact o1) (fun hq => ?_) (by rw [hnth i hi]; exact hle.1) (by rw [last_eq, hnth i hi]; rw [last_eq] at o3; omega) ?_
    · rw [hnth _ (by omega)]; exact num_iff.2 (p_in hg (by omega))
    · rcases o4 with o4 | o4
      · exact .inl o4
      · rcases Nat.eq_zero_or_pos i with e0 | e0
        · exact .inl e0
        · right
          rw [follows_iff] at o4 ⊢
          have el : u.last (i - 1) = t.last (i - 1) := by rw [last_eq, last_eq, hnth _ (by omega), hfin _ (by omega)]
          rw [hnth i hi, hnth (i - 1) (by omega), el]
          exact o4
  have hus : u.start = 0 := by
    rw [start_good hug, hul, hun]
    rw [start_good hg] at hz
    split
    · rename_i h0
      split at hz
      · rw [hl] at hz; omega
      · have := c3 0 (by omega) (by omega); omega
    · rename_i h0
      rw [if_neg (by omega)] at hz
      rw [hnth 0 (by omega)]; exact hz
  refine ⟨hug, by rw [hun]; simp; omega, hus, fun i x hx => ?_, fun k hk => ?_⟩
  · have hin : i < n := by have := (List.getElem?_eq_some_iff.1 hx).1; simp at this; omega
    rw [List.getElem?_take, if_pos hin] at hx
    rw [← h.who i x hx]
    obtain ⟨k, k1, k2, k3⟩ := span_at h (x := (i : Int)) (by omega) (by rw [hl]; omega)
    have hkm : k < m := by
      rcases Nat.lt_or_ge k m with e1 | e1
      · exact e1
      · have := c3 k e1 k1; omega
    rw [who_at hg k1 k2 k3, who_at hug (k := k) (by omega) (by rw [hnth k hkm]; exact k2) ?_, hnth k hkm]
    by_cases hq : k + 1 < m
    · rw [hfin k hq]; exact k3
    · rw [(hfl k (by omega)).1]; omega
  · rw [hul] at hk
    rw [hnth k hk]; exact h.offs k (by omega)
theorem desc_spans {t : Tb} {c : Int} {L : List Et} (h : Desc t c L) : (t.l.length : Int) ≤ t.n := by
  rcases Nat.eq_zero_or_pos t.l.length with e | e
  · have := good_num h.good; omega
  · have h1 := rises h.good (t.l.length - 1) 0 (by omega)
    have h2 := rise h.good (i := t.l.length - 1) (by omega)
    rw [fin_last (by omega)] at h2
    have h3 := (p_in h.good (i := 0) (by omega)).1
    rw [Nat.zero_add] at h1
    omega
theorem desc_last {t : Tb} {c : Int} {L : List Et} (h : Desc t c L) (h0 : 0 < t.l.length) : t.last (t.l.length - 1) = c + t.n - 1 ∧ ∀ x, L.getLast? = some x → x.e = (t.nth (t.l.length - 1)).e ∧ x.r = (t.nth (t.l.length - 1)).r := by
  have ho := h.offs (t.l.length - 1) (by omega)
  have hf : t.fin (t.l.length - 1) = t.n := fin_last (by omega)
  have hr := rise h.good (i := t.l.length - 1) (by omega)
  refine ⟨by rw [last_eq, ho, hf]; omega, fun x hx => ?_⟩
  have hl := h.len
  have hne : 0 < L.length := by
    have := (p_in h.good (i := t.l.length - 1) (by omega)).1
    omega
  have hx' : L[L.length - 1]? = some x := by rw [List.getLast?_eq_getElem?] at hx; exact hx
  have h1 := h.who (L.length - 1) x hx'
  rw [who_at h.good (k := t.l.length - 1) (by omega) (by omega) (by rw [hf]; omega)] at h1
  rw [Prod.mk.injEq] at h1
  exact ⟨h1.1.symm, h1.2.symm⟩
/-- May the one stand behind the other? -/
def Nxt (x y : Et) : Prop := x.e ≤ y.e ∧ (x.e = y.e → x.r = y.r)
theorem nth_app {l : List Sp} {s : Sp} {n m : Int} {i : Nat} (h : i < l.length) : (⟨l ++ [s], n⟩ : Tb).nth i = (⟨l, m⟩ : Tb).nth i := by
  unfold nth; simp only [List.getD_eq_getElem?_getD]; rw [List.getElem?_append_left h]
theorem nth_app_last {l : List Sp} {s : Sp} {n : Int} : (⟨l ++ [s], n⟩ : Tb).nth l.length = s := by
  unfold nth; simp [List.getD_eq_getElem?_getD]
theorem desc_add {t : Tb} {c : Int} {L : List Et} (h : Desc t c L) {x : Et} (he : 1 ≤ x.e ∧ x.e ≤ 1000) (hr : 0 ≤ x.r ∧ x.r < 2) (hc : 0 ≤ c ∧ c ≤ 1000) (hL : L.length ≤ 1000) (hx : ∀ y, L.getLast? = some y → Nxt y x) :
    t.addE x.e x.r (c + (L.length : Int)) = 0 ∧ Desc (t.addT x.e x.r (c + (L.length : Int))) c (L ++ [x]) := by
  have hg := h.good
  have hl := h.len
  have hz := h.zero
  have hnn := good_num hg
  have hsp := desc_spans h
  have hno : num (c + (L.length : Int)) = true := num_iff.2 (by omega)
  have ha : ¬ (x.e < 1 ∨ x.e > 9007199254740992 ∨ x.r < 0 ∨ x.r ≥ 2 ∨ num (c + (L.length : Int)) = false) := by rw [hno]; simp; omega
  have hf : ¬ t.n = 9007199254740992 := by omega
  have hlast : ∀ h0 : 0 < t.l.length, ∃ y, L.getLast? = some y := fun h0 => by
    have : 0 < L.length := by have := (p_in hg (i := 0) h0).1; have := rise hg (i := t.l.length - 1) (by omega); rw [fin_last (by omega)] at this; have := (p_in hg (i := t.l.length - 1) (by omega)).1; omega
    exact ⟨_, List.getLast?_eq_some_getLast (by intro e; rw [e] at this; simp at this)⟩
  have hE : t.addE x.e x.r (c + (L.length : Int)) = 0 := by
    unfold addE
    rw [if_neg ha, if_neg hf]
    by_cases h0 : t.l.length = 0
    · rw [if_pos h0]
    · rw [if_neg h0]
      obtain ⟨d1, d2⟩ := desc_last h (by omega)
      obtain ⟨y, hy⟩ := hlast (by omega)
      obtain ⟨y1, y2⟩ := d2 y hy
      obtain ⟨n1, n2⟩ := hx y hy
      rw [if_neg (by rw [d1, hl, ← y1, ← y2]; rintro (q | ⟨q, q2⟩ | q); omega; exact q2 (n2 q.symm).symm; omega)]
      split
      · rfl
      · rw [if_neg (by omega)]
  refine ⟨hE, ?_⟩
  by_cases hj : t.joins x.e (c + (L.length : Int))
  · have e : t.addT x.e x.r (c + (L.length : Int)) = ⟨t.l, t.n + 1⟩ := by unfold addT; rw [if_neg (by simp [hE]), if_pos hj]
    rw [e]
    obtain ⟨u, hu⟩ : ∃ u, u = (⟨t.l, t.n + 1⟩ : Tb) := ⟨_, rfl⟩
    rw [← hu]
    obtain ⟨j0, j1, j2⟩ := hj
    have hul : u.l = t.l := by rw [hu]
    have hun : u.n = t.n + 1 := by rw [hu]
    have hnth : ∀ i, u.nth i = t.nth i := fun i => by unfold nth; rw [hul]
    have hfin : ∀ i, i + 1 < t.l.length → u.fin i = t.fin i := fun i hi => by rw [fin_next (by rw [hul]; exact hi), fin_next hi, hnth]
    have hfl : ∀ i, ¬ i + 1 < t.l.length → u.fin i = t.n + 1 ∧ t.fin i = t.n := fun i hi => ⟨by rw [fin_last (by rw [hul]; exact hi), hun], fin_last hi⟩
    obtain ⟨d1, d2⟩ := desc_last h j0
    have hug : u.good = true := by
      refine good_mk (by rw [hun]; exact num_iff.2 (by omega)) (by rw [hul]; omega) (fun i hi => ?_)
      rw [hul] at hi
      obtain ⟨o1, o2, o3, o4⟩ := okAt_get hg hi
      have hle : t.fin i ≤ u.fin i ∧ u.last i ≤ 9007199254740992 := by
        by_cases hq : i + 1 < t.l.length
        · rw [last_eq, hfin i hq, hnth, ← last_eq]; exact ⟨Int.le_refl _, o3⟩
        · obtain ⟨f1, f2⟩ := hfl i hq
          have ei : i = t.l.length - 1 := by omega
          rw [last_eq, f1, f2, hnth]
          rw [← ei, last_eq, f2] at d1
          exact ⟨by omega, by omega⟩
      refine okAt_mk (by rw [hnth]; exact o1) (fun hq => by rw [hul] at hq; rw [hnth]; exact num_iff.2 (p_in hg hq)) (by rw [hnth]; omega) hle.2 ?_
      rcases o4 with o4 | o4
      · exact .inl o4
      · rcases Nat.eq_zero_or_pos i with e0 | e0
        · exact .inl e0
        · right
          rw [follows_iff] at o4 ⊢
          have el : u.last (i - 1) = t.last (i - 1) := by rw [last_eq, last_eq, hnth, hfin _ (by omega)]
          rw [hnth, hnth, el]; exact o4
    have hus : u.start = 0 := by
      rw [start_good hug, hul, if_neg (by omega), hnth]
      rw [start_good hg, if_neg (by omega)] at hz; exact hz
    refine ⟨hug, by rw [hun, hl]; simp, hus, fun i y hy => ?_, fun k hk => by rw [hul] at hk; rw [hnth]; exact h.offs k hk⟩
    by_cases hi : i < L.length
    · rw [List.getElem?_append_left hi] at hy
      rw [← h.who i y hy]
      obtain ⟨k, k1, k2, k3⟩ := span_at h (x := (i : Int)) (by omega) (by rw [hl]; omega)
      rw [who_at hg k1 k2 k3, who_at hug (k := k) (by rw [hul]; exact k1) (by rw [hnth]; exact k2) ?_, hnth]
      by_cases hq : k + 1 < t.l.length
      · rw [hfin k hq]; exact k3
      · rw [(hfl k hq).1]; omega
    · have hi2 : i = L.length := by have := (List.getElem?_eq_some_iff.1 hy).1; simp at this; omega
      subst hi2
      rw [List.getElem?_append_right (Nat.le_refl _), Nat.sub_self] at hy
      simp at hy; subst hy
      obtain ⟨y, hy⟩ := hlast j0
      obtain ⟨y1, y2⟩ := d2 y hy
      have hq : ¬ t.l.length - 1 + 1 < t.l.length := by omega
      have hp := rise hg (i := t.l.length - 1) (by omega)
      rw [(hfl _ hq).2] at hp
      rw [who_at hug (k := t.l.length - 1) (by rw [hul]; omega) (by rw [hnth]; omega) (by rw [(hfl _ hq).1]; omega), hnth, j1]
      rw [Prod.mk.injEq]
      refine ⟨j1.symm.trans j1, ?_⟩
      rw [← y2]; exact (hx y hy).2 (by rw [y1, j1])
  · have e : t.addT x.e x.r (c + (L.length : Int)) = ⟨t.l ++ [⟨x.e, x.r, t.n, c + (L.length : Int)⟩], t.n + 1⟩ := by unfold addT; rw [if_neg (by simp [hE]), if_neg hj]
    rw [e]
    obtain ⟨s, hs⟩ : ∃ s, s = (⟨x.e, x.r, t.n, c + (L.length : Int)⟩ : Sp) := ⟨_, rfl⟩
    rw [← hs]
    obtain ⟨u, hu⟩ : ∃ u, u = (⟨t.l ++ [s], t.n + 1⟩ : Tb) := ⟨_, rfl⟩
    rw [← hu]
    have hul : u.l.length = t.l.length + 1 := by rw [hu]; simp
    have hun : u.n = t.n + 1 := by rw [hu]
    have hnth : ∀ i, i < t.l.length → u.nth i = t.nth i := fun i hi => by rw [hu]; exact nth_app hi
    have hnew : u.nth t.l.length = s := by rw [hu]; exact nth_app_last
    have hfin : ∀ i, i < t.l.length → u.fin i = t.fin i := fun i hi => by
      rw [fin_next (by omega)]
      by_cases hq : i + 1 < t.l.length
      · rw [fin_next hq, hnth _ hq]
      · rw [fin_last hq, show i + 1 = t.l.length by omega, hnew, hs]
    have hfl : u.fin t.l.length = t.n + 1 := by rw [fin_last (by omega), hun]
    have hug : u.good = true := by
      refine good_mk (by rw [hun]; exact num_iff.2 (by omega)) (by omega) (fun i hi => ?_)
      by_cases hq : i < t.l.length
      · obtain ⟨o1, o2, o3, o4⟩ := okAt_get hg hq
        refine okAt_mk (by rw [hnth i hq]; exact o1) (fun hq2 => ?_) (by rw [hnth i hq, hfin i hq]; exact o2) (by rw [last_eq, hnth i hq, hfin i hq, ← last_eq]; exact o3) ?_
        · by_cases hq3 : i + 1 < t.l.length
          · rw [hnth _ hq3]; exact num_iff.2 (p_in hg hq3)
          · rw [show i + 1 = t.l.length by omega, hnew, hs]; exact num_iff.2 hnn.1
        · rcases o4 with o4 | o4
          · exact .inl o4
          · rcases Nat.eq_zero_or_pos i with e0 | e0
            · exact .inl e0
            · right
              rw [follows_iff] at o4 ⊢
              have el : u.last (i - 1) = t.last (i - 1) := by rw [last_eq, last_eq, hnth _ (by omega), hfin _ (by omega)]
              rw [hnth i hq, hnth (i - 1) (by omega), el]; exact o4
      · have ei : i = t.l.length := by omega
        subst ei
        refine okAt_mk (by rw [hnew, hs]; exact sp1_iff.2 ⟨by dsimp only; omega, hr, hnn.1, by dsimp only; omega⟩) (fun hq2 => by omega) (by rw [hnew, hfl, hs]; dsimp only; omega) (by rw [last_eq, hnew, hfl, hs]; dsimp only; omega) ?_
        rcases Nat.eq_zero_or_pos t.l.length with e0 | e0
        · exact .inl e0
        · right
          obtain ⟨d1, d2⟩ := desc_last h e0
          obtain ⟨y, hy⟩ := hlast e0
          obtain ⟨y1, y2⟩ := d2 y hy
          obtain ⟨n1, n2⟩ := hx y hy
          have hne : ¬ (t.nth (t.l.length - 1)).e = x.e := fun q => hj ⟨e0, q.symm, by rw [d1, hl]⟩
          rw [follows_iff, hnew, hnth _ (by omega), last_eq, hnth _ (by omega), hfin _ (by omega), ← last_eq, d1, hs]
          dsimp only
          exact ⟨by omega, .inl hne, by omega, .inl hne⟩
    have hus : u.start = 0 := by
      rw [start_good hug, if_neg (by omega)]
      rcases Nat.eq_zero_or_pos t.l.length with e0 | e0
      · rw [start_good hg, if_pos e0] at hz
        have : u.nth 0 = s := by rw [← e0]; exact hnew
        rw [this, hs]; exact hz
      · rw [start_good hg, if_neg (by omega)] at hz
        rw [hnth 0 e0]; exact hz
    refine ⟨hug, by rw [hun, hl]; simp, hus, fun i y hy => ?_, fun k hk => ?_⟩
    · by_cases hi : i < L.length
      · rw [List.getElem?_append_left hi] at hy
        rw [← h.who i y hy]
        obtain ⟨k, k1, k2, k3⟩ := span_at h (x := (i : Int)) (by omega) (by rw [hl]; omega)
        rw [who_at hg k1 k2 k3, who_at hug (k := k) (by omega) (by rw [hnth k k1]; exact k2) (by rw [hfin k k1]; exact k3), hnth k k1]
      · have hi2 : i = L.length := by have := (List.getElem?_eq_some_iff.1 hy).1; simp at this; omega
        subst hi2
        rw [List.getElem?_append_right (Nat.le_refl _), Nat.sub_self] at hy
        simp at hy; subst hy
        rw [who_at hug (k := t.l.length) (by omega) (by rw [hnew, hs]; dsimp only; omega) (by rw [hfl]; omega), hnew, hs]
    · by_cases hq : k < t.l.length
      · rw [hnth k hq]; exact h.offs k hq
      · rw [show k = t.l.length by omega, hnew, hs]; dsimp only; omega
/-- The same record, if under the same epoch at the same place. -/
theorem com_logs {s t : Tb} {c d : Int} {L M : List Et} (hs : Desc s c L) (ht : Desc t d M) (hm : ∀ (p : Nat) (x y : Et), L[p]? = some x → M[p]? = some y → x.e = y.e → x = y) :
    ∃ n : Nat, com s t = (n : Int) ∧ n ≤ L.length ∧ n ≤ M.length ∧ L.take n = M.take n ∧ ∀ (x y : Et), L[n]? = some x → M[n]? = some y → ¬ (x.e = y.e ∧ x.r = y.r) := by
  have lz : lo s t = 0 := by unfold lo; rw [hs.zero, ht.zero]; rfl
  have hh : hi s t ≤ L.length ∧ hi s t ≤ M.length ∧ 0 ≤ hi s t ∧ (hi s t = L.length ∨ hi s t = M.length) := by unfold hi; rw [hs.len, ht.len]; split <;> omega
  have key : ∀ n : Nat, (n : Int) ≤ hi s t → (∀ x : Int, 0 ≤ x → x < (n : Int) → s.whose x = t.whose x) → L.take n = M.take n := fun n hn hw => by
    apply List.ext_getElem?
    intro p
    rw [List.getElem?_take, List.getElem?_take]
    split
    · rename_i hp
      have e1 : L[p]? = some L[p] := List.getElem?_eq_getElem (by omega)
      have e2 : M[p]? = some M[p] := List.getElem?_eq_getElem (by omega)
      have w := hw (p : Int) (by omega) (by omega)
      rw [hs.who p _ e1, ht.who p _ e2, Prod.mk.injEq] at w
      rw [e1, e2, hm p _ _ e1 e2 w.1]
    · rfl
  rcases com_cases s t with ⟨h1, h2⟩ | ⟨h1, h2, h3, h4⟩
  · refine ⟨(hi s t).toNat, by rw [h1]; omega, by omega, by omega, key _ (by omega) (fun x h3 h4 => h2 x (by rw [lz]; exact h3) (by omega)), fun x y hx hy => ?_⟩
    have a1 := (List.getElem?_eq_some_iff.1 hx).1
    have a2 := (List.getElem?_eq_some_iff.1 hy).1
    omega
  · rw [lz] at h1 h3
    refine ⟨(com s t).toNat, by omega, by omega, by omega, key _ (by omega) (fun x h5 h6 => h3 x h5 (by omega)), fun x y hx hy hq => h4 ?_⟩
    have w1 := hs.who _ x hx
    have w2 := ht.who _ y hy
    rw [show (((com s t).toNat : Nat) : Int) = com s t by omega] at w1 w2
    rw [w1, w2, hq.1, hq.2]
/-- The logs of two regions, and their tables. -/
structure Wd where
  L : Bool → List Et
  T : Bool → Tb
  b : Bool
  ep : Int
  jo : Bool
  nx : Int
def reg (b : Bool) : Int := if b then 1 else 0
def base (b : Bool) : Int := 100 * reg b
def at2 {α : Type} (f : Bool → α) (b : Bool) (v : α) : Bool → α := fun x => if x = b then v else f x
theorem at2_same {α : Type} (f : Bool → α) (b : Bool) (v : α) : at2 f b v b = v := by simp [at2]
theorem at2_other {α : Type} {f : Bool → α} {b c : Bool} {v : α} (h : c ≠ b) : at2 f b v c = f c := by simp [at2, h]
structure Inv (k : Nat) (w : Wd) : Prop where
  desc : ∀ c, Desc (w.T c) (base c) (w.L c)
  len : ∀ c, (w.L c).length ≤ k
  ep : 0 ≤ w.ep ∧ w.ep ≤ k
  rng : ∀ c, ∀ x ∈ w.L c, (1 ≤ x.e ∧ x.e ≤ w.ep) ∧ 0 ≤ x.r ∧ x.r < 2
  own : ∀ c, ∀ x ∈ w.L c, x.e = w.ep → x.r = reg w.b
  mono : ∀ c, ∀ (p : Nat) (x y : Et), (w.L c)[p]? = some x → (w.L c)[p + 1]? = some y → Nxt x y
  mt : ∀ c, ∀ (p : Nat) (x y : Et), (w.L c)[p]? = some x → (w.L (!c))[p]? = some y → x.e = y.e → x = y
  ah : ∀ (p : Nat) (y : Et), (w.L (!w.b))[p]? = some y → y.e = w.ep → p < (w.L w.b).length
  jn : w.jo = true → w.L (!w.b) = (w.L w.b).take (w.L (!w.b)).length
def wd0 : Wd := ⟨fun _ => [], fun _ => new 0, false, 0, false, 0⟩
theorem inv0 : Inv 0 wd0 := ⟨fun c => desc_new _, fun c => Nat.le_refl _, ⟨Int.le_refl _, Int.le_refl _⟩, fun c x h => by simp [wd0] at h, fun c x h => by simp [wd0] at h, fun c p x y h => by simp [wd0] at h, fun c p x y h => by simp [wd0] at h, fun p y h => by simp [wd0] at h, fun h => by simp [wd0] at h⟩
theorem Inv.more {k : Nat} {w : Wd} (h : Inv k w) : Inv (k + 1) w := ⟨h.desc, fun c => Nat.le_succ_of_le (h.len c), ⟨h.ep.1, by have := h.ep.2; omega⟩, h.rng, h.own, h.mono, h.mt, h.ah, h.jn⟩
theorem Inv.take {k : Nat} {w : Wd} (h : Inv k w) (c : Bool) : Inv (k + 1) { w with b := c, ep := w.ep + 1, jo := false } := by
  have hep := h.ep
  refine ⟨h.desc, fun c => Nat.le_succ_of_le (h.len c), ⟨by dsimp only; omega, by dsimp only; omega⟩, fun d x hx => ?_, fun d x hx he => ?_, h.mono, h.mt, fun p y hy he => ?_, fun h => by simp at h⟩
  · have := h.rng d x hx; dsimp only; omega
  · have := h.rng d x hx; dsimp only at he; omega
  · have := h.rng (!c) y (List.mem_of_getElem? hy); dsimp only at he; omega
theorem getElem_snoc {α : Type} {l : List α} {v x : α} {p : Nat} (h : (l ++ [v])[p]? = some x) : (p < l.length ∧ l[p]? = some x) ∨ (p = l.length ∧ x = v) := by
  rcases getElem?_snoc h with ⟨h1, h2⟩ | ⟨h1, h2⟩
  · exact .inl ⟨h2, h1⟩
  · exact .inr ⟨h1, h2⟩
/-- A record is put behind the log of c. -/
def putW (w : Wd) (c : Bool) (x : Et) : Wd := { w with L := at2 w.L c (w.L c ++ [x]), T := at2 w.T c ((w.T c).addT x.e x.r (base c + ((w.L c).length : Int))) }
theorem base_rng (c : Bool) : 0 ≤ base c ∧ base c ≤ 1000 := by cases c <;> simp [base, reg]
theorem nxt_last {k : Nat} {w : Wd} (h : Inv k w) {c : Bool} {x : Et} (hx : ∀ y, (w.L c).getLast? = some y → Nxt y x) : ∀ (p : Nat) (y z : Et), (w.L c ++ [x])[p]? = some y → (w.L c ++ [x])[p + 1]? = some z → Nxt y z := by
  intro p y z hy hz
  rcases getElem_snoc hy with ⟨h1, h2⟩ | ⟨h1, h2⟩
  · rcases getElem_snoc hz with ⟨g1, g2⟩ | ⟨g1, g2⟩
    · exact h.mono c p y z h2 g2
    · subst g2
      refine hx y ?_
      rw [List.getLast?_eq_getElem?, ← g1, Nat.add_sub_cancel]; exact h2
  · have := (List.getElem?_eq_some_iff.1 hz).1; simp at this; omega
theorem bne_of {a b : Bool} (h : a ≠ b) : a = !b := by cases a <;> cases b <;> simp_all
theorem bnot_ne (b : Bool) : (!b) ≠ b := by cases b <;> simp
/-- The owner appends. -/
theorem Inv.append {k : Nat} {w : Wd} (h : Inv k w) (hk : k ≤ 300) (h0 : w.ep > 0) (n : Int) :
    (w.T w.b).addE w.ep (reg w.b) (base w.b + ((w.L w.b).length : Int)) = 0 ∧ Inv (k + 1) { putW w w.b ⟨n, w.ep, reg w.b⟩ with nx := n } := by
  have hep := h.ep
  have hl := h.len w.b
  have hreg : 0 ≤ reg w.b ∧ reg w.b < 2 := by unfold reg; split <;> omega
  have hlast : ∀ y, (w.L w.b).getLast? = some y → Nxt y ⟨n, w.ep, reg w.b⟩ := fun y hy => by
    have hm := List.mem_of_getLast? hy
    have h1 := h.rng w.b y hm
    exact ⟨h1.1.2, fun e => h.own w.b y hm e⟩
  obtain ⟨a1, a2⟩ := desc_add (h.desc w.b) (x := ⟨n, w.ep, reg w.b⟩) ⟨by dsimp only; omega, by dsimp only; omega⟩ hreg (base_rng _) (by omega) hlast
  refine ⟨a1, fun c => ?_, fun c => ?_, ⟨by dsimp only [putW]; omega, by dsimp only [putW]; omega⟩, fun c x hx => ?_, fun c x hx he => ?_, fun c => ?_, fun c p x y hx hy he => ?_, fun p y hy he => ?_, fun hj => ?_⟩
  · dsimp only [putW]
    by_cases e : c = w.b
    · subst e; rw [at2_same, at2_same]; exact a2
    · rw [at2_other e, at2_other e]; exact h.desc c
  · dsimp only [putW]
    by_cases e : c = w.b
    · subst e; rw [at2_same, List.length_append]; simp; omega
    · rw [at2_other e]; have := h.len c; omega
  · dsimp only [putW] at hx ⊢
    by_cases e : c = w.b
    · subst e; rw [at2_same] at hx
      rcases List.mem_append.1 hx with hx | hx
      · exact h.rng _ x hx
      · simp at hx; subst hx; exact ⟨⟨by dsimp only; omega, Int.le_refl _⟩, hreg⟩
    · rw [at2_other e] at hx; exact h.rng c x hx
  · dsimp only [putW] at hx he ⊢
    by_cases e : c = w.b
    · subst e; rw [at2_same] at hx
      rcases List.mem_append.1 hx with hx | hx
      · exact h.own _ x hx he
      · simp at hx; subst hx; rfl
    · rw [at2_other e] at hx; exact h.own c x hx he
  · dsimp only [putW]
    by_cases e : c = w.b
    · subst e; rw [at2_same]; exact nxt_last h hlast
    · rw [at2_other e]; exact h.mono c
  · dsimp only [putW] at hx hy
    by_cases e : c = w.b
    · subst e
      rw [at2_same] at hx; rw [at2_other (bnot_ne _)] at hy
      rcases getElem_snoc hx with ⟨h1, h2⟩ | ⟨h1, h2⟩
      · exact h.mt _ p x y h2 hy he
      · subst h2; have := h.ah p y hy he.symm; omega
    · have e2 := bne_of e
      subst e2
      rw [at2_other (bnot_ne _)] at hx
      rw [Bool.not_not, at2_same] at hy
      rcases getElem_snoc hy with ⟨h1, h2⟩ | ⟨h1, h2⟩
      · exact h.mt _ p x y hx (by rw [Bool.not_not]; exact h2) he
      · subst h2; have := h.ah p x hx he; omega
  · dsimp only [putW] at hy he ⊢
    rw [at2_other (bnot_ne _)] at hy
    rw [at2_same, List.length_append]
    have := h.ah p y hy he; omega
  · dsimp only [putW] at hj ⊢
    rw [at2_other (bnot_ne _), at2_same]
    have h1 := h.jn hj
    have h2 : (w.L (!w.b)).length ≤ (w.L w.b).length := by rw [h1, List.length_take]; omega
    rw [List.take_append_of_le_length h2]; exact h1
/-- The other one takes the next record. -/
theorem Inv.mirror {k : Nat} {w : Wd} (h : Inv k w) (hk : k ≤ 300) (hj : w.jo = true) {x : Et} (hx : (w.L w.b)[(w.L (!w.b)).length]? = some x) :
    (w.T (!w.b)).addE x.e x.r (base (!w.b) + ((w.L (!w.b)).length : Int)) = 0 ∧ Inv (k + 1) (putW w (!w.b) x) := by
  have hep := h.ep
  have hl := h.len (!w.b)
  have hjn := h.jn hj
  have hlt := (List.getElem?_eq_some_iff.1 hx).1
  obtain ⟨o, ho⟩ : ∃ o, o = (!w.b) := ⟨_, rfl⟩
  have hxr := h.rng w.b x (List.mem_of_getElem? hx)
  have hsub : ∀ (p : Nat) (y : Et), (w.L (!w.b))[p]? = some y → (w.L w.b)[p]? = some y := fun p y hy => by
    have hp := (List.getElem?_eq_some_iff.1 hy).1
    rw [hjn, List.getElem?_take, if_pos hp] at hy; exact hy
  have hlast : ∀ y, (w.L (!w.b)).getLast? = some y → Nxt y x := fun y hy => by
    rw [List.getLast?_eq_getElem?] at hy
    have hp := (List.getElem?_eq_some_iff.1 hy).1
    have h1 := hsub _ y hy
    exact h.mono w.b _ y x h1 (by rw [show (w.L (!w.b)).length - 1 + 1 = (w.L (!w.b)).length by omega]; exact hx)
  obtain ⟨a1, a2⟩ := desc_add (h.desc (!w.b)) (x := x) ⟨by omega, by omega⟩ hxr.2 (base_rng _) (by omega) hlast
  refine ⟨a1, fun c => ?_, fun c => ?_, ⟨hep.1, by dsimp only [putW]; omega⟩, fun c y hy => ?_, fun c y hy he => ?_, fun c => ?_, fun c p y z hy hz he => ?_, fun p y hy he => ?_, fun _ => ?_⟩
  · dsimp only [putW]
    by_cases e : c = !w.b
    · subst e; rw [at2_same, at2_same]; exact a2
    · rw [at2_other e, at2_other e]; exact h.desc c
  · dsimp only [putW]
    by_cases e : c = !w.b
    · subst e; rw [at2_same, List.length_append]; simp; omega
    · rw [at2_other e]; have := h.len c; omega
  · dsimp only [putW] at hy ⊢
    by_cases e : c = !w.b
    · subst e; rw [at2_same] at hy
      rcases List.mem_append.1 hy with hy | hy
      · exact h.rng _ y hy
      · simp at hy; subst hy; exact hxr
    · rw [at2_other e] at hy; exact h.rng c y hy
  · dsimp only [putW] at hy he ⊢
    by_cases e : c = !w.b
    · subst e; rw [at2_same] at hy
      rcases List.mem_append.1 hy with hy | hy
      · exact h.own _ y hy he
      · simp at hy; subst hy; exact h.own w.b y (List.mem_of_getElem? hx) he
    · rw [at2_other e] at hy; exact h.own c y hy he
  · dsimp only [putW]
    by_cases e : c = !w.b
    · subst e; rw [at2_same]; exact nxt_last h hlast
    · rw [at2_other e]; exact h.mono c
  · dsimp only [putW] at hy hz
    by_cases e : c = !w.b
    · subst e
      rw [at2_same] at hy; rw [Bool.not_not, at2_other (bnot_ne _).symm] at hz
      rcases getElem_snoc hy with ⟨h1, h2⟩ | ⟨h1, h2⟩
      · exact h.mt _ p y z h2 (by rw [Bool.not_not]; exact hz) he
      · subst h2; rw [h1, hx] at hz; exact Option.some.inj hz
    · have e2 : c = w.b := by have := bne_of e; rwa [Bool.not_not] at this
      subst e2
      rw [at2_other e] at hy
      rw [at2_same] at hz
      rcases getElem_snoc hz with ⟨h1, h2⟩ | ⟨h1, h2⟩
      · exact h.mt _ p y z hy h2 he
      · subst h2; rw [h1, hx] at hy; exact (Option.some.inj hy).symm
  · dsimp only [putW] at hy he ⊢
    rw [at2_same] at hy
    rw [at2_other (bnot_ne _).symm]
    rcases getElem_snoc hy with ⟨h1, h2⟩ | ⟨h1, h2⟩
    · exact h.ah p y h2 he
    · omega
  · dsimp only [putW]
    rw [at2_same, at2_other (bnot_ne _).symm, List.length_append]
    rw [show (w.L (!w.b)).length + [x].length = (w.L (!w.b)).length + 1 from rfl, take_snoc hx, ← hjn]
/-- The other one cuts its log. -/
def joinW (w : Wd) (n : Nat) : Wd := { w with L := at2 w.L (!w.b) ((w.L (!w.b)).take n), T := at2 w.T (!w.b) ((w.T (!w.b)).cutT (n : Int)), jo := true }
theorem Inv.join {k : Nat} {w : Wd} (h : Inv k w) {n : Nat} (hn : n ≤ (w.L (!w.b)).length) (he : (w.L w.b).take n = (w.L (!w.b)).take n) : (w.T (!w.b)).cutE (n : Int) = 0 ∧ Inv (k + 1) (joinW w n) := by
  have hep := h.ep
  obtain ⟨a1, a2⟩ := desc_cut (h.desc (!w.b)) hn
  refine ⟨a1, fun c => ?_, fun c => ?_, ⟨hep.1, by dsimp only [joinW]; omega⟩, fun c y hy => ?_, fun c y hy he => ?_, fun c p y z hy hz => ?_, fun c p y z hy hz he => ?_, fun p y hy he => ?_, fun _ => ?_⟩
  · dsimp only [joinW]
    by_cases e : c = !w.b
    · subst e; rw [at2_same, at2_same]; exact a2
    · rw [at2_other e, at2_other e]; exact h.desc c
  · dsimp only [joinW]
    by_cases e : c = !w.b
    · subst e; rw [at2_same, List.length_take]; have := h.len (!w.b); omega
    · rw [at2_other e]; have := h.len c; omega
  · dsimp only [joinW] at hy ⊢
    by_cases e : c = !w.b
    · subst e; rw [at2_same] at hy; exact h.rng _ y (List.mem_of_mem_take hy)
    · rw [at2_other e] at hy; exact h.rng c y hy
  · dsimp only [joinW] at hy he ⊢
    by_cases e : c = !w.b
    · subst e; rw [at2_same] at hy; exact h.own _ y (List.mem_of_mem_take hy) he
    · rw [at2_other e] at hy; exact h.own c y hy he
  · dsimp only [joinW] at hy hz
    by_cases e : c = !w.b
    · subst e; rw [at2_same, List.getElem?_take] at hy hz
      split at hz
      · split at hy
        · exact h.mono _ p y z hy hz
        · cases hy
      · cases hz
    · rw [at2_other e] at hy hz; exact h.mono c p y z hy hz
  · dsimp only [joinW] at hy hz
    by_cases e : c = !w.b
    · subst e
      rw [at2_same, List.getElem?_take] at hy; rw [Bool.not_not, at2_other (bnot_ne _).symm] at hz
      split at hy
      · exact h.mt _ p y z hy (by rw [Bool.not_not]; exact hz) he
      · cases hy
    · have e2 : c = w.b := by have := bne_of e; rwa [Bool.not_not] at this
      subst e2
      rw [at2_other e] at hy
      rw [at2_same, List.getElem?_take] at hz
      split at hz
      · exact h.mt _ p y z hy hz he
      · cases hz
  · dsimp only [joinW] at hy he ⊢
    rw [at2_same, List.getElem?_take] at hy
    rw [at2_other (bnot_ne _).symm]
    split at hy
    · exact h.ah p y hy he
    · cases hy
  · dsimp only [joinW]
    rw [at2_same, at2_other (bnot_ne _).symm, List.length_take, Nat.min_eq_left hn, he]
end Tb
end Go.Abs
