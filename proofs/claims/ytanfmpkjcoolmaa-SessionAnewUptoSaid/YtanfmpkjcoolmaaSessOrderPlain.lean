/- Plain: what has come is a beginning of what was sent; it comes; started anew. -/
import Derived.Test.YtanfmpkjcoolmaaSessLinePlain
set_option linter.unusedVariables false
namespace Go.Abs
open Tb
namespace Sq
theorem take_live {x : Sq} {p : Pq} (hb : p.b = x.p) (hp : p.p = x.b) : x.take p = if p.s ≠ x.e ∨ x.e ≥ MX then (x.ack p, [], false) else ({ x.ack p with e := x.e + 1 }, p.l, true) := by
  have hm : x.meet p = x := by unfold meet; rw [if_neg (by rw [hb]; omega)]
  have he : (x.ack p).e = x.e := by unfold ack; split <;> rfl
  unfold take
  rw [if_neg (by rw [hb]; omega), hm, if_neg (by simp [hp]), he]
theorem take_dead {x : Sq} {p : Pq} (h : p.b < x.p ∨ (p.b = x.p ∧ p.p ≠ x.b)) : x.take p = (x, [], false) := by
  unfold take
  rcases h with h | ⟨h, g⟩
  · rw [if_pos h]
  · have hm : x.meet p = x := by unfold meet; rw [if_neg (by rw [h]; omega)]
    rw [if_neg (by rw [h]; omega), hm, if_pos g]
theorem ack_b (x : Sq) (p : Pq) : (x.ack p).b = x.b := by unfold ack; split <;> rfl
theorem ack_p (x : Sq) (p : Pq) : (x.ack p).p = x.p := by unfold ack; split <;> rfl
theorem ack_s (x : Sq) (p : Pq) : (x.ack p).s = x.s := by unfold ack; split <;> rfl
theorem ack_e (x : Sq) (p : Pq) : (x.ack p).e = x.e := by unfold ack; split <;> rfl
end Sq
namespace Se
/-- A packet on its way to `w.to`, that the other end has sent. -/
structure Good (B : Bool → Int) (l : Ln) (w : Wy) : Prop where
  b : w.p.b = B (!w.to)
  p : w.p.p = B w.to
  a : 0 ≤ w.p.a ∧ w.p.a ≤ ((l.came w.to).length : Int)
  s : (w.p.s = 0 ∧ w.p.l = []) ∨ ∃ (i : Nat) (v : Int), w.p.s = (i : Int) + 1 ∧ w.p.l = [v] ∧ (l.sent (!w.to))[i]? = some v
def Dead (B : Bool → Int) (w : Wy) : Prop := w.p.b < B (!w.to) ∨ (w.p.b = B (!w.to) ∧ w.p.p ≠ B w.to)
/-- One end. -/
structure End (B : Bool → Int) (l : Ln) (c : Bool) : Prop where
  b : (l.x c).b = B c
  p : (l.x c).p = B (!c)
  s : (l.x c).s = ((l.sent c).length : Int)
  a : ∃ n : Nat, (l.x c).a = (n : Int) ∧ n ≤ (l.came c).length ∧ (l.x c).q = ((l.sent c).drop n).map fun v => [v]
  e : (l.x c).e = ((l.came (!c)).length : Int) + 1
  pre : l.came c <+: l.sent c
  q : (l.x c).q.length ≤ 16
structure Inv (B : Bool → Int) (o : List Wy) (l : Ln) (n : Nat) : Prop where
  bb : ∀ c, 1 ≤ B c ∧ B c ≤ 9
  en : ∀ c, End B l c
  bag : ∀ w ∈ l.bag, w.p.chk = 0 ∧ (Good B l w ∨ (w ∈ o ∧ Dead B w))
  bl : l.bag.length ≤ 16 * n
  sn : ∀ c, (l.sent c).length ≤ n
/-- What takes over leaves and lets grow. -/
structure Le (l l' : Ln) : Prop where
  sent : ∀ c, l.sent c <+: l'.sent c
  came : ∀ c, l.came c <+: l'.came c
  a : ∀ c, (l.x c).a ≤ (l'.x c).a
theorem Le.refl (l : Ln) : Le l l := ⟨fun _ => List.prefix_rfl, fun _ => List.prefix_rfl, fun _ => Int.le_refl _⟩
theorem Le.trans {l m n : Ln} (h : Le l m) (g : Le m n) : Le l n := ⟨fun c => (h.sent c).trans (g.sent c), fun c => (h.came c).trans (g.came c), fun c => Int.le_trans (h.a c) (g.a c)⟩
theorem pre_at {l m : List Int} {i : Nat} {v : Int} (h : l <+: m) (g : l[i]? = some v) : m[i]? = some v := by
  obtain ⟨t, rfl⟩ := h
  rw [List.getElem?_append_left (List.getElem?_eq_some_iff.1 g).1]; exact g
theorem pre_more {l m : List Int} {v : Int} (h : l <+: m) (g : m[l.length]? = some v) : l ++ [v] <+: m := by
  obtain ⟨t, rfl⟩ := h
  rw [List.getElem?_append_right (Nat.le_refl _), Nat.sub_self] at g
  cases t with
  | nil => cases g
  | cons y t => simp at g; subst g; exact ⟨t, by simp⟩
theorem Good.up {B : Bool → Int} {l l' : Ln} {w : Wy} (h : Good B l w) (hs : ∀ c, l.sent c <+: l'.sent c) (hc : ∀ c, l.came c <+: l'.came c) : Good B l' w := by
  refine ⟨h.b, h.p, ⟨h.a.1, ?_⟩, ?_⟩
  · have := (hc w.to).length_le
    have := h.a.2
    omega
  · rcases h.s with h | ⟨i, v, h1, h2, h3⟩
    · exact .inl h
    · exact .inr ⟨i, v, h1, h2, pre_at (hs _) h3⟩
theorem Good.chk {B : Bool → Int} {o : List Wy} {l : Ln} {n : Nat} {w : Wy} (h : Inv B o l n) (hn : n ≤ 1000) (g : Good B l w) : w.p.chk = 0 := by
  rw [Pq.chk0]
  have h1 := h.bb (!w.to)
  have h2 := h.bb w.to
  have h3 := (h.en w.to).pre.length_le
  have h4 := h.sn w.to
  have h5 := h.sn (!w.to)
  have h6 := g.a
  have h7 := g.b
  have h8 := g.p
  rcases g.s with ⟨s1, s2⟩ | ⟨i, v, s1, s2, s3⟩
  · refine ⟨by omega, by omega, by omega, by omega, by rw [s2]; simp, ?_⟩
    rw [s2]; simp
  · have s4 := (List.getElem?_eq_some_iff.1 s3).1
    refine ⟨by omega, by omega, by omega, by omega, by rw [s2]; simp, by omega⟩
theorem Inv.ok {B : Bool → Int} {o : List Wy} {l : Ln} {n : Nat} (h : Inv B o l n) (hn : n ≤ 1000) (c : Bool) : (l.x c).Ok := by
  have hE := h.en c
  obtain ⟨m, a1, a2, a3⟩ := hE.a
  have h1 := h.bb c
  have h2 := h.bb (!c)
  have h3 := h.sn c
  have h4 := h.sn (!c)
  have h5 := hE.pre.length_le
  have h6 := (h.en (!c)).pre.length_le
  have h7 := hE.b
  have h8 := hE.p
  have h9 := hE.s
  have hA := hE.e
  have hq : (l.x c).q.length = (l.sent c).length - m := by rw [a3]; simp
  refine ⟨?_, ?_, ?_, ?_, ?_, ?_, hE.q, ?_⟩
  · unfold MX; omega
  · unfold MX; omega
  · unfold MX; omega
  · unfold MX; omega
  · unfold MX; omega
  · omega
  · rw [a3]
    intro y hy
    obtain ⟨v, _, rfl⟩ := List.mem_map.1 hy
    simp
theorem Inv.gd {B : Bool → Int} {o : List Wy} {l : Ln} {n : Nat} (h : Inv B o l n) (hn : n ≤ 1000) : Gd l := by
  refine ⟨fun c => h.ok hn c, fun c => ?_, fun w hw => (h.bag w hw).1, ?_, fun c => ?_, fun c => ?_⟩
  · have h1 := (h.en c).s
    have h2 := h.sn c
    omega
  · have := h.bl; omega
  · have := h.sn c; omega
  · have h1 := (h.en c).pre.length_le
    have h2 := h.sn c
    omega
theorem more_n {B : Bool → Int} {o : List Wy} {l : Ln} {n m : Nat} (h : Inv B o l n) (hm : n ≤ m) : Inv B o l m := ⟨h.bb, h.en, h.bag, by have := h.bl; omega, fun c => by have := h.sn c; omega⟩
theorem takes_dead {B : Bool → Int} {o : List Wy} {l : Ln} {n : Nat} {w : Wy} (h : Inv B o l n) (g : Dead B w) : l.takes w = l := by
  have hE := h.en w.to
  have ht : (l.x w.to).take w.p = (l.x w.to, [], false) := Sq.take_dead (by rw [hE.b, hE.p]; exact g)
  unfold Ln.takes
  rw [ht]
  have : at2 l.x w.to (l.x w.to) = l.x := by funext c; unfold at2; split <;> simp_all
  simp [this]
theorem ack_end {B : Bool → Int} {l : Ln} {c : Bool} {p : Pq} (hE : End B l c) (ha : 0 ≤ p.a ∧ p.a ≤ ((l.came c).length : Int)) :
    ∃ n : Nat, ((l.x c).ack p).a = (n : Int) ∧ n ≤ (l.came c).length ∧ ((l.x c).ack p).q = ((l.sent c).drop n).map (fun v => [v]) ∧ p.a ≤ (n : Int) ∧ (l.x c).a ≤ (n : Int) ∧ ((l.x c).ack p).q.length ≤ 16 := by
  obtain ⟨m, a1, a2, a3⟩ := hE.a
  have hp := hE.pre.length_le
  have hs := hE.s
  have hq := hE.q
  by_cases h : p.a > (l.x c).a
  · refine ⟨p.a.toNat, ?_, by omega, ?_, by omega, by omega, ?_⟩
    · unfold Sq.ack; rw [if_pos ⟨h, by omega⟩]; dsimp only; omega
    · unfold Sq.ack; rw [if_pos ⟨h, by omega⟩]; dsimp only
      rw [a3, ← List.map_drop, List.drop_drop]
      congr 2; omega
    · unfold Sq.ack; rw [if_pos ⟨h, by omega⟩]; dsimp only
      rw [List.length_drop]; omega
  · refine ⟨m, ?_, a2, ?_, by omega, by omega, ?_⟩ <;> (unfold Sq.ack; rw [if_neg (fun q => h q.1)])
    · exact a1
    · exact a3
    · exact hq
/-- What a good packet does. -/
theorem takes_good {B : Bool → Int} {o : List Wy} {l : Ln} {n : Nat} {w : Wy} (h : Inv B o l n) (hn : n ≤ 1000) (g : Good B l w) :
    Inv B o (l.takes w) n ∧ Le l (l.takes w) ∧ (l.takes w).sent = l.sent ∧ (l.takes w).x (!w.to) = l.x (!w.to) ∧ w.p.a ≤ ((l.takes w).x w.to).a ∧ (w.p.s = ((l.came (!w.to)).length : Int) + 1 → ((l.takes w).came (!w.to)).length = (l.came (!w.to)).length + 1) := by
  obtain ⟨t, p⟩ := w
  have hE := h.en t
  have hF := h.en (!t)
  obtain ⟨m, a1, a2, a3, a4, a5, a6⟩ := ack_end hE g.a
  dsimp only at a1 a3 a4 a6
  have hs := h.sn t
  have hs2 := h.sn (!t)
  have hF2 := hF.pre.length_le
  have he := hE.e
  have tl := Sq.take_live (x := l.x t) (p := p) (by rw [hE.p]; exact g.b) (by rw [hE.b]; exact g.p)
  by_cases q : p.s = (l.x t).e
  · -- it comes
    rw [if_neg (by intro k; rcases k with k | k; exact k q; unfold MX at k; omega)] at tl
    obtain ⟨i, v, s1, s2, s3⟩ : ∃ (i : Nat) (v : Int), p.s = (i : Int) + 1 ∧ p.l = [v] ∧ (l.sent (!t))[i]? = some v := by
      rcases g.s with ⟨s1, _⟩ | s
      · exact absurd s1 (by dsimp only; omega)
      · exact s
    have hi : i = (l.came (!t)).length := by omega
    subst hi
    have hk : l.takes ⟨t, p⟩ = { l with x := at2 l.x t { (l.x t).ack p with e := (l.x t).e + 1 }, came := at2 l.came (!t) (l.came (!t) ++ [v]) } := by
      unfold Ln.takes
      dsimp only
      rw [tl, if_pos rfl, s2]
    have hup : ∀ c, l.came c <+: at2 l.came (!t) (l.came (!t) ++ [v]) c := fun c => by
      by_cases e : c = !t
      · subst e; rw [at2_same]; exact List.prefix_append _ _
      · rw [at2_other e]; exact List.prefix_rfl
    rw [hk]
    refine ⟨⟨h.bb, fun c => ?_, fun w hw => ⟨(h.bag w hw).1, (h.bag w hw).2.imp (fun k => k.up (fun _ => List.prefix_rfl) hup) id⟩, h.bl, h.sn⟩, ⟨fun _ => List.prefix_rfl, hup, fun c => ?_⟩, rfl, ?_, ?_, fun _ => ?_⟩
    · by_cases e : c = t
      · subst e
        refine ⟨?_, ?_, ?_, ?_, ?_, ?_, ?_⟩ <;> dsimp only <;> (try rw [at2_same])
        · exact (Sq.ack_b _ _).trans hE.b
        · exact (Sq.ack_p _ _).trans hE.p
        · exact (Sq.ack_s _ _).trans hE.s
        · rw [at2_other (fun k => bnot_ne c k.symm)]
          exact ⟨m, a1, a2, a3⟩
        · rw [at2_same, List.length_append, List.length_singleton]; dsimp only; omega
        · rw [at2_other (fun k => bnot_ne c k.symm)]
          exact hE.pre
        · exact a6
      · have := bne_of e; subst this
        refine ⟨?_, ?_, ?_, ?_, ?_, ?_, ?_⟩ <;> dsimp only <;> (try rw [at2_other (bnot_ne t)])
        · exact hF.b
        · exact hF.p
        · exact hF.s
        · obtain ⟨k, k1, k2, k3⟩ := hF.a
          exact ⟨k, k1, by rw [at2_same, List.length_append]; omega, k3⟩
        · rw [Bool.not_not, at2_other (fun k => bnot_ne t k.symm)]
          have := hF.e; rw [Bool.not_not] at this; exact this
        · rw [at2_same]; exact pre_more hF.pre s3
        · exact hF.q
    · dsimp only
      by_cases e : c = t
      · subst e; rw [at2_same]; dsimp only; rw [a1]; exact a5
      · rw [at2_other e]; exact Int.le_refl _
    · dsimp only; rw [at2_other (bnot_ne t)]
    · dsimp only; rw [at2_same]; dsimp only; rw [a1]; exact a4
    · dsimp only; rw [at2_same, List.length_append, List.length_singleton]
  · rw [if_pos (.inl q)] at tl
    have hk : l.takes ⟨t, p⟩ = { l with x := at2 l.x t ((l.x t).ack p) } := by
      unfold Ln.takes
      dsimp only
      rw [tl, if_neg (by simp)]
    rw [hk]
    refine ⟨⟨h.bb, fun c => ?_, fun w hw => ⟨(h.bag w hw).1, (h.bag w hw).2.imp (fun k => k.up (fun _ => List.prefix_rfl) (fun _ => List.prefix_rfl)) id⟩, h.bl, h.sn⟩, ⟨fun _ => List.prefix_rfl, fun _ => List.prefix_rfl, fun c => ?_⟩, rfl, ?_, ?_, fun k => ?_⟩
    · by_cases e : c = t
      · subst e
        refine ⟨?_, ?_, ?_, ?_, ?_, hE.pre, ?_⟩ <;> dsimp only <;> (try rw [at2_same])
        · exact (Sq.ack_b _ _).trans hE.b
        · exact (Sq.ack_p _ _).trans hE.p
        · exact (Sq.ack_s _ _).trans hE.s
        · exact ⟨m, a1, a2, a3⟩
        · exact (Sq.ack_e _ _).trans hE.e
        · exact a6
      · have := bne_of e; subst this
        refine ⟨?_, ?_, ?_, ?_, ?_, hF.pre, ?_⟩ <;> dsimp only <;> (try rw [at2_other (bnot_ne t)])
        · exact hF.b
        · exact hF.p
        · exact hF.s
        · exact hF.a
        · exact hF.e
        · exact hF.q
    · dsimp only
      by_cases e : c = t
      · subst e; rw [at2_same, a1]; exact a5
      · rw [at2_other e]; exact Int.le_refl _
    · dsimp only; rw [at2_other (bnot_ne t)]
    · dsimp only; rw [at2_same, a1]; exact a4
    · dsimp only at k; exact absurd (by omega) q
theorem again_mem {B : Bool → Int} {l : Ln} {c : Bool} (hE : End B l c) {i : Nat} {y : Pq} (hy : (l.x c).again[i]? = some y) :
    ∃ (n : Nat) (v : Int), (l.x c).a = (n : Int) ∧ n ≤ (l.came c).length ∧ n + (l.x c).q.length = (l.sent c).length ∧ y = (l.x c).pk ((n : Int) + (i : Int) + 1) [v] ∧ (l.sent c)[n + i]? = some v := by
  obtain ⟨m, a1, a2, a3⟩ := hE.a
  have hi := (List.getElem?_eq_some_iff.1 hy).1
  rw [Sq.again_len] at hi
  have hq : (l.x c).q.length = (l.sent c).length - m := by rw [a3]; simp
  obtain ⟨v, hv⟩ : ∃ v, (l.sent c)[m + i]? = some v := ⟨_, List.getElem?_eq_getElem (by omega)⟩
  have h1 : (l.x c).q[i]? = some [v] := by
    rw [a3, List.getElem?_map, List.getElem?_drop, hv]; rfl
  have h2 := Sq.again_at h1
  rw [hy] at h2
  refine ⟨m, v, a1, a2, by omega, ?_, hv⟩
  have := Option.some.inj h2
  rw [this, a1]
theorem good_again {B : Bool → Int} {l : Ln} {c : Bool} (hE : End B l c) {y : Pq} (hy : y ∈ (l.x c).again) : Good B l ⟨!c, y⟩ := by
  obtain ⟨i, hi⟩ := List.mem_iff_getElem?.1 hy
  obtain ⟨n, v, h1, h2, h3, h4, h5⟩ := again_mem hE hi
  subst h4
  have he := hE.e
  refine ⟨?_, ?_, ?_, .inr ⟨n + i, v, ?_, rfl, ?_⟩⟩ <;> dsimp only [Sq.pk]
  · rw [Bool.not_not]; exact hE.b
  · exact hE.p
  · omega
  · omega
  · rw [Bool.not_not]; exact h5
theorem good_answer {B : Bool → Int} {l : Ln} {c : Bool} (hE : End B l c) : Good B l ⟨!c, (l.x c).pk 0 []⟩ := by
  have he := hE.e
  refine ⟨?_, ?_, ?_, .inl ⟨rfl, rfl⟩⟩ <;> dsimp only [Sq.pk]
  · rw [Bool.not_not]; exact hE.b
  · exact hE.p
  · omega
theorem does_inv {B : Bool → Int} {o : List Wy} {l : Ln} {n : Nat} (h : Inv B o l n) (hn : n < 1000) (x : Nt) : Inv B o (l.does x) (n + 1) := by
  have hM := more_n h (Nat.le_succ n)
  have hE := h.en x.w
  have hF := h.en (!x.w)
  have hadd : ∀ ps : List Wy, ps.length ≤ 16 → (∀ w ∈ ps, Good B l w) → Inv B o { l with bag := l.bag ++ ps } (n + 1) := fun ps hp hg => by
    refine ⟨h.bb, fun c => ⟨(h.en c).b, (h.en c).p, (h.en c).s, (h.en c).a, (h.en c).e, (h.en c).pre, (h.en c).q⟩, fun w hw => ?_, ?_, hM.sn⟩
    · rcases List.mem_append.1 hw with hw | hw
      · exact ⟨(h.bag w hw).1, (h.bag w hw).2.imp (fun k => k.up (fun _ => List.prefix_rfl) (fun _ => List.prefix_rfl)) id⟩
      · exact ⟨(hg w hw).chk h (by omega), .inl ((hg w hw).up (fun _ => List.prefix_rfl) (fun _ => List.prefix_rfl))⟩
    · have := h.bl
      dsimp only
      rw [List.length_append]; omega
  unfold Ln.does
  split
  · split
    · rename_i hq
      have hup : ∀ c, l.sent c <+: at2 l.sent x.w (l.sent x.w ++ [x.v]) c := fun c => by
        by_cases e : c = x.w
        · subst e; rw [at2_same]; exact List.prefix_append _ _
        · rw [at2_other e]; exact List.prefix_rfl
      obtain ⟨m, a1, a2, a3⟩ := hE.a
      have hp := hE.pre.length_le
      have hs := hE.s
      have hI : Inv B o { l with x := at2 l.x x.w ((l.x x.w).send [x.v]), sent := at2 l.sent x.w (l.sent x.w ++ [x.v]) } (n + 1) := by
        refine ⟨h.bb, fun c => ?_, fun w hw => ⟨(h.bag w hw).1, (h.bag w hw).2.imp (fun k => k.up hup (fun _ => List.prefix_rfl)) id⟩, hM.bl, fun c => ?_⟩
        · by_cases e : c = x.w
          · subst e
            refine ⟨?_, ?_, ?_, ?_, ?_, (hE.pre).trans (hup _), ?_⟩ <;> dsimp only <;> (try rw [at2_same]) <;> (try dsimp only [Sq.send])
            · exact hE.b
            · exact hE.p
            · rw [at2_same, List.length_append, List.length_singleton]; omega
            · refine ⟨m, a1, a2, ?_⟩
              rw [at2_same, a3, List.drop_append_of_le_length (by omega), List.map_append]; rfl
            · exact hE.e
            · rw [List.length_append, List.length_singleton]; omega
          · have := bne_of e; subst this
            refine ⟨?_, ?_, ?_, ?_, ?_, ?_, ?_⟩ <;> dsimp only <;> (try rw [at2_other (bnot_ne x.w)])
            · exact hF.b
            · exact hF.p
            · rw [at2_other (bnot_ne x.w)]; exact hF.s
            · rw [at2_other (bnot_ne x.w)]; exact hF.a
            · exact hF.e
            · first | exact hF.pre | (rw [at2_other (bnot_ne x.w)]; exact hF.pre)
            · exact hF.q
        · dsimp only
          by_cases e : c = x.w
          · subst e; rw [at2_same, List.length_append, List.length_singleton]; have := h.sn x.w; omega
          · rw [at2_other e]; have := h.sn c; omega
      refine ⟨hI.bb, fun c => ⟨(hI.en c).b, (hI.en c).p, (hI.en c).s, (hI.en c).a, (hI.en c).e, (hI.en c).pre, (hI.en c).q⟩, fun w hw => ?_, ?_, hI.sn⟩
      · rcases List.mem_append.1 hw with hw | hw
        · exact ⟨(hI.bag w hw).1, (hI.bag w hw).2.imp (fun k => k.up (fun _ => List.prefix_rfl) (fun _ => List.prefix_rfl)) id⟩
        · rw [List.mem_singleton] at hw
          subst hw
          have he := hE.e
          have hg : Good B { l with x := at2 l.x x.w ((l.x x.w).send [x.v]), sent := at2 l.sent x.w (l.sent x.w ++ [x.v]) } ⟨!x.w, (l.x x.w).pk ((l.x x.w).s + 1) [x.v]⟩ := by
            refine ⟨?_, ?_, ?_, .inr ⟨(l.sent x.w).length, x.v, ?_, rfl, ?_⟩⟩ <;> dsimp only [Sq.pk]
            · rw [Bool.not_not]; exact hE.b
            · exact hE.p
            · omega
            · omega
            · rw [Bool.not_not, at2_same, List.getElem?_append_right (Nat.le_refl _), Nat.sub_self]; rfl
          exact ⟨hg.chk hI (by omega), .inl (hg.up (fun _ => List.prefix_rfl) (fun _ => List.prefix_rfl))⟩
      · have := h.bl
        dsimp only
        rw [List.length_append, List.length_singleton]; omega
    · exact hM
  · split
    · refine hadd _ (by rw [List.length_map, Sq.again_len]; exact hE.q) (fun w hw => ?_)
      obtain ⟨y, hy, rfl⟩ := List.mem_map.1 hw
      exact good_again hE hy
    · split
      · refine hadd _ (by simp) (fun w hw => ?_)
        rw [List.mem_singleton] at hw
        subst hw
        exact good_answer hE
      · split
        · split
          · rename_i w hw
            rcases (h.bag w (List.mem_of_getElem? hw)).2 with g | ⟨_, g⟩
            · exact more_n (takes_good h (by omega) g).1 (Nat.le_succ n)
            · rw [takes_dead h g]; exact hM
          · exact hM
        · refine ⟨h.bb, fun c => ⟨(h.en c).b, (h.en c).p, (h.en c).s, (h.en c).a, (h.en c).e, (h.en c).pre, (h.en c).q⟩, fun w hw => ?_, ?_, hM.sn⟩
          · have hw' := List.mem_of_mem_eraseIdx hw
            exact ⟨(h.bag w hw').1, (h.bag w hw').2.imp (fun k => k.up (fun _ => List.prefix_rfl) (fun _ => List.prefix_rfl)) id⟩
          · have h1 := h.bl
            have h2 := List.length_eraseIdx_le (l := l.bag) (i := x.i l)
            dsimp only
            omega
def B0 (c : Bool) : Int := if c then 7 else 5
def l0 : Ln := ⟨fun c => ⟨B0 c, B0 (!c), 0, 0, 1, []⟩, [], fun _ => [], fun _ => []⟩
theorem inv0 : Inv B0 [] l0 0 := by
  refine ⟨fun c => by cases c <;> decide, fun c => ⟨rfl, rfl, rfl, ⟨0, rfl, Nat.le_refl _, rfl⟩, rfl, List.prefix_rfl, Nat.zero_le _⟩, fun w hw => (by cases hw), by decide, fun c => Nat.le_refl _⟩
theorem Inv.eq {B : Bool → Int} {o : List Wy} {l : Ln} {n : Nat} (h : Inv B o l n) (c : Bool) : (l.came c).length ≤ (l.sent c).length ∧ (l.sent c).take (l.came c).length = l.came c := ⟨(h.en c).pre.length_le, (List.prefix_iff_eq_take.1 (h.en c).pre).symm⟩
/-- Packets that come one behind the other. -/
def all (l : Ln) (ws : List Wy) : Ln := ws.foldl Ln.takes l
def flush (l : Ln) (k : Bool) : Ln := all l (((l.x k).again ++ [(l.x k).pk 0 []]).map fun y => ⟨!k, y⟩)
/-- What goes out twice, and the answers. -/
def rounds (l : Ln) : Ln := flush (flush (flush (flush l false) true) false) true
def answers (l : Ln) : Ln := let m := l.takes ⟨true, (l.x false).pk 0 []⟩; m.takes ⟨false, (m.x true).pk 0 []⟩
/-- One end is started anew. -/
def anew (l : Ln) (k : Bool) : Ln := { l with x := at2 l.x k ⟨9, 0, 0, 0, 1, []⟩ }
def met (l : Ln) (k : Bool) : Ln := { l with x := at2 (at2 l.x k ⟨9, B0 (!k), 0, 0, 1, []⟩) (!k) ⟨B0 (!k), 9, 0, 0, 1, []⟩ }
def fresh (l : Ln) : Ln := { l with sent := fun _ => [], came := fun _ => [] }
theorem met_1 {l : Ln} {n : Nat} (h : Inv B0 [] l n) (k : Bool) : (anew l k).takes ⟨!k, ⟨9, 0, 0, 0, []⟩⟩ = { l with x := at2 (at2 l.x k ⟨9, 0, 0, 0, 1, []⟩) (!k) ⟨B0 (!k), 9, 0, 0, 1, []⟩ } := by
  have hE := h.en (!k)
  have ht : ((anew l k).x (!k)).take ⟨9, 0, 0, 0, []⟩ = (⟨B0 (!k), 9, 0, 0, 1, []⟩, [], false) := by
    have hx : (anew l k).x (!k) = l.x (!k) := at2_other (bnot_ne k)
    rw [hx]
    unfold Sq.take
    dsimp only
    have hp := hE.p
    rw [Bool.not_not] at hp
    have hb := hE.b
    have hB : B0 k < 9 ∧ 0 ≠ B0 (!k) := by cases k <;> decide
    have hm : (l.x (!k)).meet ⟨9, 0, 0, 0, []⟩ = ⟨B0 (!k), 9, 0, 0, 1, []⟩ := by
      unfold Sq.meet
      rw [if_pos (by dsimp only; omega), hb]
    rw [if_neg (by omega), hm, if_pos hB.2]
  unfold Ln.takes
  dsimp only
  rw [ht, if_neg (by simp)]
  rfl
theorem met_2 {l : Ln} {n : Nat} (h : Inv B0 [] l n) (k : Bool) : ({ l with x := at2 (at2 l.x k ⟨9, 0, 0, 0, 1, []⟩) (!k) ⟨B0 (!k), 9, 0, 0, 1, []⟩ } : Ln).takes ⟨k, ⟨B0 (!k), 9, 0, 0, []⟩⟩ = met l k := by
  have ht : (at2 (at2 l.x k ⟨9, 0, 0, 0, 1, []⟩) (!k) ⟨B0 (!k), 9, 0, 0, 1, []⟩ k).take ⟨B0 (!k), 9, 0, 0, []⟩ = (⟨9, B0 (!k), 0, 0, 1, []⟩, [], false) := by
    rw [at2_other (fun q => bnot_ne k q.symm), at2_same]
    cases k <;> rfl
  unfold Ln.takes
  dsimp only
  rw [ht, if_neg (by simp)]
  unfold met
  congr 1
  funext c
  by_cases e : c = k
  · subst e
    rw [at2_same, at2_other (fun q => bnot_ne c q.symm), at2_same]
  · have := bne_of e; subst this
    rw [at2_other e, at2_same, at2_same]
def B1 (k : Bool) : Bool → Int := at2 B0 k 9
theorem dead_old {l : Ln} {n : Nat} (h : Inv B0 [] l n) (k : Bool) {w : Wy} (hw : w ∈ l.bag) : Dead (B1 k) w := by
  have hg : Good B0 l w := by
    rcases (h.bag w hw).2 with g | ⟨g, _⟩
    · exact g
    · cases g
  unfold Dead B1
  by_cases e : w.to = k
  · subst e
    right
    rw [at2_other (bnot_ne _), at2_same]
    have h1 := hg.b
    have h2 := hg.p
    refine ⟨h1, ?_⟩
    rw [h2]
    cases w.to <;> decide
  · have := bne_of e
    left
    have h1 := hg.b
    rw [this, Bool.not_not, at2_same] 
    rw [this, Bool.not_not] at h1
    rw [h1]
    cases k <;> decide
theorem inv1 {l : Ln} {n : Nat} (h : Inv B0 [] l n) (k : Bool) : Inv (B1 k) l.bag (fresh (met l k)) n := by
  refine ⟨fun c => ?_, fun c => ?_, fun w hw => ⟨(h.bag w hw).1, .inr ⟨hw, dead_old h k hw⟩⟩, h.bl, fun c => Nat.zero_le _⟩
  · unfold B1 at2
    split
    · decide
    · cases c <;> decide
  · by_cases e : c = k
    · subst e
      refine ⟨?_, ?_, ?_, ⟨0, ?_, Nat.le_refl _, ?_⟩, ?_, List.prefix_rfl, ?_⟩ <;> (simp only [fresh, met]; try rw [at2_other (fun q => bnot_ne c q.symm), at2_same]) <;> (try simp [B1, at2])
    · have := bne_of e; subst this
      refine ⟨?_, ?_, ?_, ⟨0, ?_, Nat.le_refl _, ?_⟩, ?_, List.prefix_rfl, ?_⟩ <;> (simp only [fresh, met]; try rw [at2_same]) <;> (try simp [B1, at2])
theorem ok_new {b p : Int} (hb : 1 ≤ b ∧ b ≤ 9) (hp : 0 ≤ p ∧ p ≤ 9) : (⟨b, p, 0, 0, 1, []⟩ : Sq).Ok := by
  refine ⟨?_, ?_, ?_, ?_, ?_, rfl, Nat.zero_le _, fun y hy => by cases hy⟩ <;> unfold MX <;> dsimp only <;> omega
theorem gd_x {l : Ln} (h : Gd l) {x : Bool → Sq} (hx : ∀ c, (x c).Ok ∧ (x c).s < 9007199254740992) : Gd { l with x := x } := ⟨fun c => (hx c).1, fun c => (hx c).2, h.pk, h.bl, h.sn, h.cm⟩
end Se
end Go.Abs
namespace Go.Abs
open Tb
namespace Se
theorem does_byt {l : Ln} {x : Nt} (hx : x.Ok) (h : ∀ c, Byt (l.sent c)) : ∀ c, Byt ((l.does x).sent c) := by
  intro c
  unfold Ln.does
  split
  · split
    · dsimp only
      by_cases e : c = x.w
      · subst e; rw [at2_same]
        intro a ha
        rcases List.mem_append.1 ha with ha | ha
        · exact h _ a ha
        · rw [List.mem_singleton] at ha; subst ha; exact hx.2
      · rw [at2_other e]; exact h c
    · exact h c
  · split
    · exact h c
    · split
      · exact h c
      · split
        · split
          · exact h c
          · exact h c
        · exact h c
theorem Inv.byt {B : Bool → Int} {o : List Wy} {l : Ln} {n : Nat} (h : Inv B o l n) (hb : ∀ c, Byt (l.sent c)) (c : Bool) : Byt (l.came c) := fun a ha => hb c a ((h.en c).pre.mem ha)
theorem rw0 {l : Ln} (A B : Ob) (h0 : l.bag = []) (h1 : ∀ c, l.sent c = []) (h2 : ∀ c, l.came c = []) : Rw l (fun k => k + 2) [A, B, .row 0 6, .row 0 1, .row 0 1, .row 0 1, .row 0 1] := by
  refine ⟨fun k hk => ?_, fun j k _ _ e => by omega⟩
  rcases k with _ | _ | _ | _ | _ | k
  · simp [Ln.rl, h0]
  · simp [Ln.rl, h1]
  · simp [Ln.rl, h1]
  · simp [Ln.rl, h2]
  · simp [Ln.rl, h2]
  · omega
end Se
end Go.Abs
namespace Go.Abs
open Tb
namespace Se
def met1 (l : Ln) (k : Bool) : Ln := { l with x := at2 (at2 l.x k ⟨9, 0, 0, 0, 1, []⟩) (!k) ⟨B0 (!k), 9, 0, 0, 1, []⟩ }
theorem rw_fresh {l l' : Ln} {r : Nat → Nat} {S : List Ob} (h : Rw l r S) (hb : l'.bag = l.bag) (h1 : ∀ c, l'.sent c = []) (h2 : ∀ c, l'.came c = []) : Rw l' (fun j => if j = 0 then r 0 else S.length + (j - 1)) (S ++ [.row 0 1, .row 0 1, .row 0 1, .row 0 1]) := by
  have hl := h.lt (k := 0) (by decide)
  refine ⟨fun k hk => ?_, fun j k hj hk e => ?_⟩
  · rcases k with _ | _ | _ | _ | _ | k
    · rw [if_pos rfl, List.getElem?_append_left hl, h.row 0 (by decide)]; simp [Ln.rl, hb]
    · rw [if_neg (by omega), List.getElem?_append_right (by omega), Nat.add_sub_cancel_left]; simp [Ln.rl, h1]
    · rw [if_neg (by omega), List.getElem?_append_right (by omega), Nat.add_sub_cancel_left]; simp [Ln.rl, h1]
    · rw [if_neg (by omega), List.getElem?_append_right (by omega), Nat.add_sub_cancel_left]; simp [Ln.rl, h2]
    · rw [if_neg (by omega), List.getElem?_append_right (by omega), Nat.add_sub_cancel_left]; simp [Ln.rl, h2]
    · omega
  · (try dsimp only at e)
    split at e <;> split at e <;> omega
theorem gd_anew {l : Ln} (h : Gd l) (k : Bool) : Gd (anew l k) := gd_x h (fun c => by
  by_cases e : c = k
  · subst e; rw [at2_same]; exact ⟨ok_new (by decide) (by decide), by decide⟩
  · rw [at2_other e]; exact ⟨h.ok c, h.lt c⟩)
theorem gd_met1 {l : Ln} (h : Gd l) (k : Bool) : Gd (met1 l k) := gd_x h (fun c => by
  by_cases e : c = !k
  · subst e; rw [at2_same]; exact ⟨ok_new (by cases k <;> decide) (by decide), by show (0 : Int) < _; decide⟩
  · rw [at2_other e]
    by_cases e2 : c = k
    · subst e2; rw [at2_same]; exact ⟨ok_new (by decide) (by decide), by decide⟩
    · exact absurd (bne_of e2) e)
theorem old_dead {l : Ln} {n : Nat} (h : Inv B0 [] l n) (k : Bool) {w : Wy} (hw : w ∈ l.bag) : (fresh (met l k)).takes w = fresh (met l k) := takes_dead (inv1 h k) (dead_old h k hw)
theorem chk_9 : (⟨9, 0, 0, 0, []⟩ : Pq).chk = 0 := by decide
theorem chk_b (k : Bool) : (⟨B0 k, 9, 0, 0, []⟩ : Pq).chk = 0 := by cases k <;> decide
end Se
end Go.Abs
