/- Plain: epochs rise, and each is one region's. -/
import Derived.Test.YtanfmpkjcoolmaaLeasePlain
import Derived.Test.YtanfmpkjcoolmaaAbsZe
import Derived.Test.YtanfmpkjcoolmaaEventPlain4
set_option linter.unusedVariables false
namespace Go.Abs
namespace Ls
def goodN (l : Ls) : Prop := (l.o = -1 ∨ 0 ≤ l.o ∧ l.o < 2) ∧ (l.la = -1 ∨ 0 ≤ l.la ∧ l.la < 2) ∧ (0 ≤ l.e ∧ l.e ≤ 9007199254740992) ∧ (0 ≤ l.c ∧ l.c ≤ 9007199254740992) ∧ (0 ≤ l.u ∧ l.u ≤ 9007199254740992) ∧
  (l.o = -1 ∨ l.o = l.la) ∧ (l.la = -1 → l.e = 0) ∧ (l.la ≠ -1 → l.e ≠ 0) ∧ (l.o = -1 → l.u ≤ l.c)
def good (l : Ls) : Prop := l.goodN ∧ (l.la = -1 → l.s = false)
theorem chk_good {l : Ls} (h : l.good) : l.chk = 0 := by
  obtain ⟨o, la, e, c, u, s⟩ := l
  obtain ⟨h1, h2⟩ := h
  simp only [goodN] at h1
  simp only at h2
  have b1 : bad1 ⟨o, la, e, c, u, s⟩ = false := by
    unfold bad1 reg num; simp; omega
  have b2 : bad2 ⟨o, la, e, c, u, s⟩ = false := by
    unfold bad2; cases s <;> simp at * <;> omega
  unfold chk
  rw [b1, b2]; rfl
theorem more_ok {a b : Int} (ha : 0 ≤ a ∧ a ≤ 9007199254740992) (hb : 0 ≤ b) : a ≤ more a b ∧ more a b ≤ 9007199254740992 := by
  unfold more; split <;> omega
theorem mine_good {l : Ls} {r ep : Int} (h : l.mine r ep = 0) : l.o = r ∧ l.e = ep ∧ 0 ≤ r ∧ r < 2 := by
  unfold mine at h
  split at h
  · cases h
  · rename_i h1
    split at h
    · cases h
    · rename_i h2
      simp [reg] at h1 h2
      omega
theorem grant_good {l : Ls} (h : l.good) {r : Int} (hr : 0 ≤ r ∧ r < 2) (he : l.e ≠ 9007199254740992) : (l.grant r).good := by
  have hm := more_ok (b := 16) h.1.2.2.2.1 (by omega)
  obtain ⟨h1, h2⟩ := h
  refine ⟨?_, fun hl => ?_⟩
  · unfold goodN at *
    refine ⟨.inr hr, .inr hr, ⟨?_, ?_⟩, h1.2.2.2.1, ⟨?_, hm.2⟩, .inr rfl, ?_, ?_, ?_⟩ <;> simp only [grant] <;> omega
  · simp only [grant] at hl; omega
/-- What one call does. -/
structure Step (l : Ls) (a : Ak) : Prop where
  good : (l.ask a).1.good
  kept : (l.ask a).2.2 ≠ 0 → (l.ask a).1 = l
  fresh : (l.ask a).2.2 = 0 → (l.ask a).2.1 ≠ 0 → (l.ask a).2.1 = l.e + 1 ∧ (l.ask a).1.e = l.e + 1
  still : ¬ ((l.ask a).2.2 = 0 ∧ (l.ask a).2.1 ≠ 0) → (l.ask a).1.e = l.e ∧ ((l.ask a).1.o ≠ -1 → (l.ask a).1.o = l.o)
  mine : (l.ask a).2.2 = 0 → (a.d = 2 ∨ a.d = 5) → (l.ask a).2.1 = 0 ∧ (l.ask a).1.e = l.e ∧ l.o = a.r ∧ 0 ≤ a.r
theorem acq_err {l : Ls} {r : Int} : (l.acq r).2.2 ≠ 0 → (l.acq r).1 = l := by
  unfold acq; (repeat' split) <;> simp
theorem step {l : Ls} (h : l.good) (a : Ak) : Step l a := by
  have hh := h
  by_cases h1 : a.d = 1
  · have e : l.ask a = l.acq a.r := by unfold ask; rw [if_pos h1]
    have key : (l.acq a.r = (l.grant a.r, l.e + 1, 0) ∧ (0 ≤ a.r ∧ a.r < 2) ∧ l.e ≠ 9007199254740992) ∨ ((l.acq a.r).1 = l ∧ (l.acq a.r).2.1 = 0 ∧ (l.acq a.r).2.2 ≠ 0) := by
      unfold acq
      split
      · right; exact ⟨rfl, rfl, by simp⟩
      · rename_i g1
        split
        · right; exact ⟨rfl, rfl, by simp⟩
        · split
          · right; exact ⟨rfl, rfl, by simp⟩
          · split
            · right; exact ⟨rfl, rfl, by simp⟩
            · rename_i g4
              left; refine ⟨rfl, ?_, by simpa using g4⟩
              simp [reg] at g1; omega
    rcases key with ⟨k, hr, he⟩ | ⟨k1, k2, k3⟩
    · constructor <;> rw [e, k]
      · exact grant_good h hr he
      · intro h; simp at h
      · intro _ _; exact ⟨rfl, rfl⟩
      · intro h; simp at h; have := hh.1.2.2.1; omega
      · intro _ h; omega
    · constructor <;> rw [e]
      · rw [k1]; exact h
      · intro _; exact k1
      · intro h _; exact absurd h k3
      · intro _; rw [k1]; exact ⟨rfl, fun _ => rfl⟩
      · intro h _; exact absurd h k3
  · by_cases h2 : a.d = 2
    · have e : l.ask a = ((l.renew a.r (l.ep a)).1, 0, (l.renew a.r (l.ep a)).2) := by unfold ask; rw [if_neg h1, if_pos h2]
      unfold renew at e
      by_cases hm : l.mine a.r (l.ep a) = 0
      · rw [if_pos hm] at e
        have mg := mine_good hm
        have mo := more_ok (b := 16) h.1.2.2.2.1 (by omega)
        constructor <;> rw [e]
        · exact ⟨by have := h.1; unfold goodN at *; simp only at *; omega, h.2⟩
        · intro h; simp at h
        · intro _ h; simp at h
        · intro _; exact ⟨rfl, fun _ => rfl⟩
        · intro _ _; exact ⟨rfl, rfl, mg.1, mg.2.2.1⟩
      · rw [if_neg hm] at e
        constructor <;> rw [e]
        · exact h
        · intro _; rfl
        · intro h _; exact absurd h hm
        · intro _; exact ⟨rfl, fun _ => rfl⟩
        · intro h _; exact absurd h hm
    · by_cases h3 : a.d = 3
      · have e : l.ask a = ((l.rel a.r (l.ep a)).1, 0, (l.rel a.r (l.ep a)).2) := by unfold ask; rw [if_neg h1, if_neg h2, if_pos h3]
        unfold rel at e
        by_cases hm : l.mine a.r (l.ep a) = 0
        · rw [if_pos hm] at e
          constructor <;> rw [e]
          · have g1 := h.1; exact ⟨⟨.inl rfl, g1.2.1, g1.2.2.1, g1.2.2.2.1, g1.2.2.2.1, .inl rfl, g1.2.2.2.2.2.2.1, g1.2.2.2.2.2.2.2.1, fun _ => Int.le_refl _⟩, h.2⟩
          · intro h; simp at h
          · intro _ h; simp at h
          · intro _; exact ⟨rfl, fun h => absurd rfl h⟩
          · intro _ h; omega
        · rw [if_neg hm] at e
          constructor <;> rw [e]
          · exact h
          · intro _; rfl
          · intro h _; exact absurd h hm
          · intro _; exact ⟨rfl, fun _ => rfl⟩
          · intro h _; exact absurd h hm
      · by_cases h4 : a.d = 4
        · have e : l.ask a = l.tra a.r (l.ep a) a.t := by unfold ask; rw [if_neg h1, if_neg h2, if_neg h3, if_pos h4]
          have key : (l.tra a.r (l.ep a) a.t = (l.grant a.t, l.e + 1, 0) ∧ (0 ≤ a.t ∧ a.t < 2) ∧ l.e ≠ 9007199254740992) ∨ ((l.tra a.r (l.ep a) a.t).1 = l ∧ (l.tra a.r (l.ep a) a.t).2.1 = 0 ∧ (l.tra a.r (l.ep a) a.t).2.2 ≠ 0) := by
            unfold tra
            split
            · right; exact ⟨rfl, rfl, by simp⟩
            · rename_i g1
              split
              · rename_i g2; right; exact ⟨rfl, rfl, g2⟩
              · split
                · right; exact ⟨rfl, rfl, by simp⟩
                · split
                  · right; exact ⟨rfl, rfl, by simp⟩
                  · rename_i g4
                    left; refine ⟨rfl, ?_, by simpa using g4⟩
                    simp [reg] at g1; omega
          rcases key with ⟨k, hr, he⟩ | ⟨k1, k2, k3⟩
          · constructor <;> rw [e, k]
            · exact grant_good h hr he
            · intro h; simp at h
            · intro _ _; exact ⟨rfl, rfl⟩
            · intro h; simp at h; have := hh.1.2.2.1; omega
            · intro _ h; omega
          · constructor <;> rw [e]
            · rw [k1]; exact h
            · intro _; exact k1
            · intro h _; exact absurd h k3
            · intro _; rw [k1]; exact ⟨rfl, fun _ => rfl⟩
            · intro h _; exact absurd h k3
        · by_cases h5 : a.d = 5
          · have e : l.ask a = ((l.alone a.r (l.ep a) a.s).1, 0, (l.alone a.r (l.ep a) a.s).2) := by unfold ask; rw [if_neg h1, if_neg h2, if_neg h3, if_neg h4, if_pos h5]
            unfold alone at e
            by_cases hm : l.mine a.r (l.ep a) = 0
            · rw [if_pos hm] at e
              have mg := mine_good hm
              constructor <;> rw [e]
              · exact ⟨by have := h.1; unfold goodN at *; simp only at *; omega, fun hl => by have := h.1; unfold goodN at *; simp only at *; omega⟩
              · intro h; simp at h
              · intro _ h; simp at h
              · intro _; exact ⟨rfl, fun _ => rfl⟩
              · intro _ _; exact ⟨rfl, rfl, mg.1, mg.2.2.1⟩
            · rw [if_neg hm] at e
              constructor <;> rw [e]
              · exact h
              · intro _; rfl
              · intro h _; exact absurd h hm
              · intro _; exact ⟨rfl, fun _ => rfl⟩
              · intro h _; exact absurd h hm
          · have e : l.ask a = (l.tick a.n, 0, 0) := by unfold ask; rw [if_neg h1, if_neg h2, if_neg h3, if_neg h4, if_neg h5]
            have key : (l.tick a.n).good ∧ (l.tick a.n).e = l.e ∧ (l.tick a.n).o = l.o := by
              unfold tick
              split
              · rename_i g
                simp at g
                have mo := more_ok (b := a.n) h.1.2.2.2.1 (by omega)
                refine ⟨?_, rfl, rfl⟩
                exact ⟨by have := h.1; unfold goodN at *; simp only at *; omega, h.2⟩
              · exact ⟨h, rfl, rfl⟩
            constructor <;> rw [e]
            · exact key.1
            · intro h; simp at h
            · intro _ h; simp at h
            · intro _; exact ⟨key.2.1, fun _ => key.2.2⟩
            · intro _ h; omega
end Ls
theorem look_none {L : List (Int × Int)} {a : Int} (h : ∀ q ∈ L, q.1 < a) : look L a = none := by
  unfold look
  rw [List.find?_eq_none.2 (fun q hq => by have := h q hq; simp; omega)]; rfl
theorem look_snoc {L : List (Int × Int)} {a b : Int} (h : look L a = none) : look (L ++ [(a, b)]) a = some b := by
  unfold look at *
  rw [List.find?_append]
  cases hf : L.find? (fun p => p.1 == a) with
  | none => simp
  | some q => rw [hf] at h; simp at h
/-- Of a lease and the epochs made. -/
structure Made (l : Ls) (L : List (Int × Int)) : Prop where
  good : l.good
  keys : ∀ q ∈ L, q.1 ≤ l.e
  hold : l.o ≠ -1 → look L l.e = some l.o
theorem Made.grow {l : Ls} {L : List (Int × Int)} (h : Made l L) (a : Ak) (h1 : (l.ask a).2.2 = 0) (h2 : (l.ask a).2.1 ≠ 0) : look L (l.ask a).2.1 = none ∧ Made (l.ask a).1 (L ++ [((l.ask a).2.1, (l.ask a).1.o)]) := by
  have st := Ls.step h.good a
  obtain ⟨f1, f2⟩ := st.fresh h1 h2
  have hno : look L (l.ask a).2.1 = none := look_none (fun q hq => by have := h.keys q hq; omega)
  refine ⟨hno, st.good, fun q hq => ?_, fun _ => ?_⟩
  · rcases List.mem_append.1 hq with hq | hq
    · have := h.keys q hq; omega
    · simp at hq; subst hq; simp only; omega
  · rw [f2, ← f1]; exact look_snoc hno
theorem Made.same {l : Ls} {L : List (Int × Int)} (h : Made l L) (a : Ak) (h1 : ¬ ((l.ask a).2.2 = 0 ∧ (l.ask a).2.1 ≠ 0)) : (l.ask a).1.e = l.e ∧ Made (l.ask a).1 L := by
  have st := Ls.step h.good a
  obtain ⟨f1, f2⟩ := st.still h1
  refine ⟨f1, st.good, fun q hq => by rw [f1]; exact h.keys q hq, fun ho => ?_⟩
  have := f2 ho
  rw [f1, this]; exact h.hold (by rw [← this]; exact ho)
theorem Made.mine {l : Ls} {L : List (Int × Int)} (h : Made l L) (a : Ak) (h1 : (l.ask a).2.2 = 0) (h2 : a.d = 2 ∨ a.d = 5) : (l.ask a).2.1 = 0 ∧ look L (l.ask a).1.e = some a.r := by
  obtain ⟨f1, f2, f3, f4⟩ := (Ls.step h.good a).mine h1 h2
  exact ⟨f1, by rw [f2, h.hold (by omega), f3]⟩
theorem Made.new : Made Ls.new [] := ⟨⟨by unfold Ls.goodN Ls.new; simp, fun _ => rfl⟩, fun q h => (List.not_mem_nil h).elim, fun h => absurd rfl h⟩
end Go.Abs
