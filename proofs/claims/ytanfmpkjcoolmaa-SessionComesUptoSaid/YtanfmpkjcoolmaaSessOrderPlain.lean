/- Plain: what has come is a beginning of what was sent; it comes; started anew. -/
import Derived.Test.YtanfmpkjcoolmaaSessLinePlain
set_option linter.unusedVariables false
namespace Go.Abs
open Tb
namespace Sq
theorem take_live {x : Sq} {p : Pq} (hb : p.b = x.p) (hp : p.p = x.b) : x.take p = if p.s ≠ x.e ∨ x.e ≥ MX then (x.ack p, [], false) else ({ x.ack p with e := x.e + 1 }, p.l, true) := by
  have hm : x.meet p = x := by unfold meet; rw [if_neg (by rw [hb]; omega)]
  have he : (x.ack p).e = x.e := by unfold ack; split <;> rfl
  unfold take
  rw [if_neg (by rw [hb]; omega), hm, if_neg (by simp [hp]), he]
theorem take_dead {x : Sq} {p : Pq} (h : p.b < x.p ∨ (p.b = x.p ∧ p.p ≠ x.b)) : x.take p = (x, [], false) := by
  unfold take
  rcases h with h | ⟨h, g⟩
  · rw [if_pos h]
  · have hm : x.meet p = x := by unfold meet; rw [if_neg (by rw [h]; omega)]
    rw [if_neg (by rw [h]; omega), hm, if_pos g]
theorem ack_b (x : Sq) (p : Pq) : (x.ack p).b = x.b := by unfold ack; split <;> rfl
theorem ack_p (x : Sq) (p : Pq) : (x.ack p).p = x.p := by unfold ack; split <;> rfl
theorem ack_s (x : Sq) (p : Pq) : (x.ack p).s = x.s := by unfold ack; split <;> rfl
theorem ack_e (x : Sq) (p : Pq) : (x.ack p).e = x.e := by unfold ack; split <;> rfl
end Sq
namespace Se
/-- A packet on its way to `w.to`, that the other end has sent. -/
structure Good (B : Bool → Int) (l : Ln) (w : Wy) : Prop where
  b : w.p.b = B (!w.to)
  p : w.p.p = B w.to
  a : 0 ≤ w.p.a ∧ w.p.a ≤ ((l.came w.to).length : Int)
  s : (w.p.s = 0 ∧ w.p.l = []) ∨ ∃ (i : Nat) (v : Int), w.p.s = (i : Int) + 1 ∧ w.p.l = [v] ∧ (l.sent (!w.to))[i]? = some v
def Dead (B : Bool → Int) (w : Wy) : Prop := w.p.b < B (!w.to) ∨ (w.p.b = B (!w.to) ∧ w.p.p ≠ B w.to)
/-- One end. -/
structure End (B : Bool → Int) (l : Ln) (c : Bool) : Prop where
  b : (l.x c).b = B c
  p : (l.x c).p = B (!c)
  s : (l.x c).s = ((l.sent c).length : Int)
  a : ∃ n : Nat, (l.x c).a = (n : Int) ∧ n ≤ (l.came c).length ∧ (l.x c).q = ((l.sent c).drop n).map fun v => [v]
  e : (l.x c).e = ((l.came (!c)).length : Int) + 1
  pre : l.came c <+: l.sent c
  q : (l.x c).q.length ≤ 16
structure Inv (B : Bool → Int) (o : List Wy) (l : Ln) (n : Nat) : Prop where
  bb : ∀ c, 1 ≤ B c ∧ B c ≤ 9
  en : ∀ c, End B l c
  bag : ∀ w ∈ l.bag, w.p.chk = 0 ∧ (Good B l w ∨ (w ∈ o ∧ Dead B w))
  bl : l.bag.length ≤ 16 * n
  sn : ∀ c, (l.sent c).length ≤ n
/-- What takes over leaves and lets grow. -/
structure Le (l l' : Ln) : Prop where
  sent : ∀ c, l.sent c <+: l'.sent c
  came : ∀ c, l.came c <+: l'.came c
  a : ∀ c, (l.x c).a ≤ (l'.x c).a
theorem Le.refl (l : Ln) : Le l l := ⟨fun _ => List.prefix_rfl, fun _ => List.prefix_rfl, fun _ => Int.le_refl _⟩
theorem Le.trans {l m n : Ln} (h : Le l m) (g : Le m n) : Le l n := ⟨fun c => (h.sent c).trans (g.sent c), fun c => (h.came c).trans (g.came c), fun c => Int.le_trans (h.a c) (g.a c)⟩
theorem pre_at {l m : List Int} {i : Nat} {v : Int} (h : l <+: m) (g : l[i]? = some v) : m[i]? = some v := by
  obtain ⟨t, rfl⟩ := h
  rw [List.getElem?_append_left (List.getElem?_eq_some_iff.1 g).1]; exact g
theorem pre_more {l m : List Int} {v : Int} (h : l <+: m) (g : m[l.length]? = some v) : l ++ [v] <+: m := by
  obtain ⟨t, rfl⟩ := h
  rw [List.getElem?_append_right (Nat.le_refl _), Nat.sub_self] at g
  cases t with
  | nil => cases g
  | cons y t => simp at g; subst g; exact ⟨t, by simp⟩
theorem Good.up {B : Bool → Int} {l l' : Ln} {w : Wy} (h : Good B l w) (hs : ∀ c, l.sent c <+: l'.sent c) (hc : ∀ c, l.came c <+: l'.came c) : Good B l' w := by
  refine ⟨h.b, h.p, ⟨h.a.1, ?_⟩, ?_⟩
  · have := (hc w.to).length_le
    have := h.a.2
    omega
  · rcases h.s with h | ⟨i, v, h1, h2, h3⟩
    · exact .inl h
    · exact .inr ⟨i, v, h1, h2, pre_at (hs _) h3⟩
theorem Good.chk {B : Bool → Int} {o : List Wy} {l : Ln} {n : Nat} {w : Wy} (h : Inv B o l n) (hn : n ≤ 1000) (g : Good B l w) : w.p.chk = 0 := by
  rw [Pq.chk0]
  have h1 := h.bb (!w.to)
  have h2 := h.bb w.to
  have h3 := (h.en w.to).pre.length_le
  have h4 := h.sn w.to
  have h5 := h.sn (!w.to)
  have h6 := g.a
  have h7 := g.b
  have h8 := g.p
  rcases g.s with ⟨s1, s2⟩ | ⟨i, v, s1, s2, s3⟩
  · refine ⟨by omega, by omega, by omega, by omega, by rw [s2]; simp, ?_⟩
    rw [s2]; simp
  · have s4 := (List.getElem?_eq_some_iff.1 s3).1
    refine ⟨by omega, by omega, by omega, by omega, by rw [s2]; simp, by omega⟩
theorem Inv.ok {B : Bool → Int} {o : List Wy} {l : Ln} {n : Nat} (h : Inv B o l n) (hn : n ≤ 1000) (c : Bool) : (l.x c).Ok := by
  have hE := h.en c
  obtain ⟨m, a1, a2, a3⟩ := hE.a
  have h1 := h.bb c
  have h2 := h.bb (!c)
  have h3 := h.sn c
  have h4 := h.sn (!c)
  have h5 := hE.pre.length_le
  have h6 := (h.en (!c)).pre.length_le
  have h7 := hE.b
  have h8 := hE.p
  have h9 := hE.s
  have hA := hE.e
  have hq : (l.x c).q.length = (l.sent c).length - m := by rw [a3]; simp
  refine ⟨?_, ?_, ?_, ?_, ?_, ?_, hE.q, ?_⟩
  · unfold MX; omega
  · unfold MX; omega
  · unfold MX; omega
  · unfold MX; omega
  · unfold MX; omega
  · omega
  · rw [a3]
    intro y hy
    obtain ⟨v, _, rfl⟩ := List.mem_map.1 hy
    simp
theorem Inv.gd {B : Bool → Int} {o : List Wy} {l : Ln} {n : Nat} (h : Inv B o l n) (hn : n ≤ 1000) : Gd l := by
  refine ⟨fun c => h.ok hn c, fun c => ?_, fun w hw => (h.bag w hw).1, ?_, fun c => ?_, fun c => ?_⟩
  · have h1 := (h.en c).s
    have h2 := h.sn c
    omega
  · have := h.bl; omega
  · have := h.sn c; omega
  · have h1 := (h.en c).pre.length_le
    have h2 := h.sn c
    omega
theorem more_n {B : Bool → Int} {o : List Wy} {l : Ln} {n m : Nat} (h : Inv B o l n) (hm : n ≤ m) : Inv B o l m := ⟨h.bb, h.en, h.bag, by have := h.bl; omega, fun c => by have := h.sn c; omega⟩
theorem takes_dead {B : Bool → Int} {o : List Wy} {l : Ln} {n : Nat} {w : Wy} (h : Inv B o l n) (g : Dead B w) : l.takes w = l := by
  have hE := h.en w.to
  have ht : (l.x w.to).take w.p = (l.x w.to, [], false) := Sq.take_dead (by rw [hE.b, hE.p]; exact g)
  unfold Ln.takes
  rw [ht]
  have : at2 l.x w.to (l.x w.to) = l.x := by funext c; unfold at2; split <;> simp_all
  simp [this]
theorem ack_end {B : Bool → Int} {l : Ln} {c : Bool} {p : Pq} (hE : End B l c) (ha : 0 ≤ p.a ∧ p.a ≤ ((l.came c).length : Int)) :
    ∃ n : Nat, ((l.x c).ack p).a = (n : Int) ∧ n ≤ (l.came c).length ∧ ((l.x c).ack p).q = ((l.sent c).drop n).map (fun v => [v]) ∧ p.a ≤ (n : Int) ∧ (l.x c).a ≤ (n : Int) ∧ ((l.x c).ack p).q.length ≤ 16 := by
  obtain ⟨m, a1, a2, a3⟩ := hE.a
  have hp := hE.pre.length_le
  have hs := hE.s
  have hq := hE.q
  by_cases h : p.a > (l.x c).a
  · refine ⟨p.a.toNat, ?_, by omega, ?_, by omega, by omega, ?_⟩
    · unfold Sq.ack; rw [if_pos ⟨h, by omega⟩]; dsimp only; omega
    · unfold Sq.ack; rw [if_pos ⟨h, by omega⟩]; dsimp only
      rw [a3, ← List.map_drop, List.drop_drop]
      congr 2; omega
    · unfold Sq.ack; rw [if_pos ⟨h, by omega⟩]; dsimp only
      rw [List.length_drop]; omega
  · refine ⟨m, ?_, a2, ?_, by omega, by omega, ?_⟩ <;> (unfold Sq.ack; rw [if_neg (fun q => h q.1)])
    · exact a1
    · exact a3
    · exact hq
/-- What a good packet does. -/
theorem takes_good {B : Bool → Int} {o : List Wy} {l : Ln} {n : Nat} {w : Wy} (h : Inv B o l n) (hn : n ≤ 1000) (g : Good B l w) :
    Inv B o (l.takes w) n ∧ Le l (l.takes w) ∧ (l.takes w).sent = l.sent ∧ (l.takes w).x (!w.to) = l.x (!w.to) ∧ w.p.a ≤ ((l.takes w).x w.to).a ∧ (w.p.s = ((l.came (!w.to)).length : Int) + 1 → ((l.takes w).came (!w.to)).length = (l.came (!w.to)).length + 1) := by
  obtain ⟨t, p⟩ := w
  have hE := h.en t
  have hF := h.en (!t)
  obtain ⟨m, a1, a2, a3, a4, a5, a6⟩ := ack_end hE g.a
  dsimp only at a1 a3 a4 a6
  have hs := h.sn t
  have hs2 := h.sn (!t)
  have hF2 := hF.pre.length_le
  have he := hE.e
  have tl := Sq.take_live (x := l.x t) (p := p) (by rw [hE.p]; exact g.b) (by rw [hE.b]; exact g.p)
  by_cases q : p.s = (l.x t).e
  · -- it comes
    rw [if_neg (by intro k; rcases k with k | k; exact k q; unfold MX at k; omega)] at tl
    obtain ⟨i, v, s1, s2, s3⟩ : ∃ (i : Nat) (v : Int), p.s = (i : Int) + 1 ∧ p.l = [v] ∧ (l.sent (!t))[i]? = some v := by
      rcases g.s with ⟨s1, _⟩ | s
      · exact absurd s1 (by dsimp only; omega)
      · exact s
    have hi : i = (l.came (!t)).length := by omega
    subst hi
    have hk : l.takes ⟨t, p⟩ = { l with x := at2 l.x t { (l.x t).ack p with e := (l.x t).e + 1 }, came := at2 l.came (!t) (l.came (!t) ++ [v]) } := by
      unfold Ln.takes
      dsimp only
      rw [tl, if_pos rfl, s2]
    have hup : ∀ c, l.came c <+: at2 l.came (!t) (l.came (!t) ++ [v]) c := fun c => by
      by_cases e : c = !t
      · subst e; rw [at2_same]; exact List.prefix_append _ _
      · rw [at2_other e]; exact List.prefix_rfl
    rw [hk]
    refine ⟨⟨h.bb, fun c => ?_, fun w hw => ⟨(h.bag w hw).1, (h.bag w hw).2.imp (fun k => k.up (fun _ => List.prefix_rfl) hup) id⟩, h.bl, h.sn⟩, ⟨fun _ => List.prefix_rfl, hup, fun c => ?_⟩, rfl, ?_, ?_, fun _ => ?_⟩
    · by_cases e : c = t
      · subst e
        refine ⟨?_, ?_, ?_, ?_, ?_, ?_, ?_⟩ <;> dsimp only <;> (try rw [at2_same])
        · exact (Sq.ack_b _ _).trans hE.b
        · exact (Sq.ack_p _ _).trans hE.p
        · exact (Sq.ack_s _ _).trans hE.s
        · rw [at2_other (fun k => bnot_ne c k.symm)]
          exact ⟨m, a1, a2, a3⟩
        · rw [at2_same, List.length_append, List.length_singleton]; dsimp only; omega
        · rw [at2_other (fun k => bnot_ne c k.symm)]
          exact hE.pre
        · exact a6
      · have := bne_of e; subst this
        refine ⟨?_, ?_, ?_, ?_, ?_, ?_, ?_⟩ <;> dsimp only <;> (try rw [at2_other (bnot_ne t)])
        · exact hF.b
        · exact hF.p
        · exact hF.s
        · obtain ⟨k, k1, k2, k3⟩ := hF.a
          exact ⟨k, k1, by rw [at2_same, List.length_append]; omega, k3⟩
        · rw [Bool.not_not, at2_other (fun k => bnot_ne t k.symm)]
          have := hF.e; rw [Bool.not_not] at this; exact this
        · rw [at2_same]; exact pre_more hF.pre s3
        · exact hF.q
    · dsimp only
      by_cases e : c = t
      · subst e; rw [at2_same]; dsimp only; rw [a1]; exact a5
      · rw [at2_other e]; exact Int.le_refl _
    · dsimp only; rw [at2_other (bnot_ne t)]
    · dsimp only; rw [at2_same]; dsimp only; rw [a1]; exact a4
    · dsimp only; rw [at2_same, List.length_append, List.length_singleton]
  · rw [if_pos (.inl q)] at tl
    have hk : l.takes ⟨t, p⟩ = { l with x := at2 l.x t ((l.x t).ack p) } := by
      unfold Ln.takes
      dsimp only
      rw [tl, if_neg (by simp)]
    rw [hk]
    refine ⟨⟨h.bb, fun c => ?_, fun w hw => ⟨(h.bag w hw).1, (h.bag w hw).2.imp (fun k => k.up (fun _ => List.prefix_rfl) (fun _ => List.prefix_rfl)) id⟩, h.bl, h.sn⟩, ⟨fun _ => List.prefix_rfl, fun _ => List.prefix_rfl, fun c => ?_⟩, rfl, ?_, ?_, fun k => ?_⟩
    · by_cases e : c = t
      · subst e
        refine ⟨?_, ?_, ?_, ?_, ?_, hE.pre, ?_⟩ <;> dsimp only <;> (try rw [at2_same])
        · exact (Sq.ack_b _ _).trans hE.b
        · exact (Sq.ack_p _ _).trans hE.p
        · exact (Sq.ack_s _ _).trans hE.s
        · exact ⟨m, a1, a2, a3⟩
        · exact (Sq.ack_e _ _).trans hE.e
        · exact a6
      · have := bne_of e; subst this
        refine ⟨?_, ?_, ?_, ?_, ?_, hF.pre, ?_⟩ <;> dsimp only <;> (try rw [at2_other (bnot_ne t)])
        · exact hF.b
        · exact hF.p
        · exact hF.s
        · exact hF.a
        · exact hF.e
        · exact hF.q
    · dsimp only
      by_cases e : c = t
      · subst e; rw [at2_same, a1]; exact a5
      · rw [at2_other e]; exact Int.le_refl _
    · dsimp only; rw [at2_other (bnot_ne t)]
    · dsimp only; rw [at2_same, a1]; exact a4
    · dsimp only at k; exact absurd (by omega) q
theorem again_mem {B : Bool → Int} {l : Ln} {c : Bool} (hE : End B l c) {i : Nat} {y : Pq} (hy : (l.x c).again[i]? = some y) :
    ∃ (n : Nat) (v : Int), (l.x c).a = (n : Int) ∧ n ≤ (l.came c).length ∧ n + (l.x c).q.length = (l.sent c).length ∧ y = (l.x c).pk ((n : Int) + (i : Int) + 1) [v] ∧ (l.sent c)[n + i]? = some v := by
  obtain ⟨m, a1, a2, a3⟩ := hE.a
  have hi := (List.getElem?_eq_some_iff.1 hy).1
  rw [Sq.again_len] at hi
  have hq : (l.x c).q.length = (l.sent c).length - m := by rw [a3]; simp
  obtain ⟨v, hv⟩ : ∃ v, (l.sent c)[m + i]? = some v := ⟨_, List.getElem?_eq_getElem (by omega)⟩
  have h1 : (l.x c).q[i]? = some [v] := by
    rw [a3, List.getElem?_map, List.getElem?_drop, hv]; rfl
  have h2 := Sq.again_at h1
  rw [hy] at h2
  refine ⟨m, v, a1, a2, by omega, ?_, hv⟩
  have := Option.some.inj h2
  rw [this, a1]
theorem good_again {B : Bool → Int} {l : Ln} {c : Bool} (hE : End B l c) {y : Pq} (hy : y ∈ (l.x c).again) : Good B l ⟨!c, y⟩ := by
  obtain ⟨i, hi⟩ := List.mem_iff_getElem?.1 hy
  obtain ⟨n, v, h1, h2, h3, h4, h5⟩ := again_mem hE hi
  subst h4
  have he := hE.e
  refine ⟨?_, ?_, ?_, .inr ⟨n + i, v, ?_, rfl, ?_⟩⟩ <;> dsimp only [Sq.pk]
  · rw [Bool.not_not]; exact hE.b
  · exact hE.p
  · omega
  · omega
  · rw [Bool.not_not]; exact h5
theorem good_answer {B : Bool → Int} {l : Ln} {c : Bool} (hE : End B l c) : Good B l ⟨!c, (l.x c).pk 0 []⟩ := by
  have he := hE.e
  refine ⟨?_, ?_, ?_, .inl ⟨rfl, rfl⟩⟩ <;> dsimp only [Sq.pk]
  · rw [Bool.not_not]; exact hE.b
  · exact hE.p
  · omega
theorem does_inv {B : Bool → Int} {o : List Wy} {l : Ln} {n : Nat} (h : Inv B o l n) (hn : n < 1000) (x : Nt) : Inv B o (l.does x) (n + 1) := by
  have hM := more_n h (Nat.le_succ n)
  have hE := h.en x.w
  have hF := h.en (!x.w)
  have hadd : ∀ ps : List Wy, ps.length ≤ 16 → (∀ w ∈ ps, Good B l w) → Inv B o { l with bag := l.bag ++ ps } (n + 1) := fun ps hp hg => by
    refine ⟨h.bb, fun c => ⟨(h.en c).b, (h.en c).p, (h.en c).s, (h.en c).a, (h.en c).e, (h.en c).pre, (h.en c).q⟩, fun w hw => ?_, ?_, hM.sn⟩
    · rcases List.mem_append.1 hw with hw | hw
      · exact ⟨(h.bag w hw).1, (h.bag w hw).2.imp (fun k => k.up (fun _ => List.prefix_rfl) (fun _ => List.prefix_rfl)) id⟩
      · exact ⟨(hg w hw).chk h (by omega), .inl ((hg w hw).up (fun _ => List.prefix_rfl) (fun _ => List.prefix_rfl))⟩
    · have := h.bl
      dsimp only
      rw [List.length_append]; omega
  unfold Ln.does
  split
  · split
    · rename_i hq
      have hup : ∀ c, l.sent c <+: at2 l.sent x.w (l.sent x.w ++ [x.v]) c := fun c => by
        by_cases e : c = x.w
        · subst e; rw [at2_same]; exact List.prefix_append _ _
        · rw [at2_other e]; exact List.prefix_rfl
      obtain ⟨m, a1, a2, a3⟩ := hE.a
      have hp := hE.pre.length_le
      have hs := hE.s
      have hI : Inv B o { l with x := at2 l.x x.w ((l.x x.w).send [x.v]), sent := at2 l.sent x.w (l.sent x.w ++ [x.v]) } (n + 1) := by
        refine ⟨h.bb, fun c => ?_, fun w hw => ⟨(h.bag w hw).1, (h.bag w hw).2.imp (fun k => k.up hup (fun _ => List.prefix_rfl)) id⟩, hM.bl, fun c => ?_⟩
        · by_cases e : c = x.w
          · subst e
            refine ⟨?_, ?_, ?_, ?_, ?_, (hE.pre).trans (hup _), ?_⟩ <;> dsimp only <;> (try rw [at2_same]) <;> (try dsimp only [Sq.send])
            · exact hE.b
            · exact hE.p
            · rw [at2_same, List.length_append, List.length_singleton]; omega
            · refine ⟨m, a1, a2, ?_⟩
              rw [at2_same, a3, List.drop_append_of_le_length (by omega), List.map_append]; rfl
            · exact hE.e
            · rw [List.length_append, List.length_singleton]; omega
          · have := bne_of e; subst this
            refine ⟨?_, ?_, ?_, ?_, ?_, ?_, ?_⟩ <;> dsimp only <;> (try rw [at2_other (bnot_ne x.w)])
            · exact hF.b
            · exact hF.p
            · rw [at2_other (bnot_ne x.w)]; exact hF.s
            · rw [at2_other (bnot_ne x.w)]; exact hF.a
            · exact hF.e
            · first | exact hF.pre | (rw [at2_other (bnot_ne x.w)]; exact hF.pre)
            · exact hF.q
        · dsimp only
          by_cases e : c = x.w
          · subst e; rw [at2_same, List.length_append, List.length_singleton]; have := h.sn x.w; omega
          · rw [at2_other e]; have := h.sn c; omega
      refine ⟨hI.bb, fun c => ⟨(hI.en c).b, (hI.en c).p, (hI.en c).s, (hI.en c).a, (hI.en c).e, (hI.en c).pre, (hI.en c).q⟩, fun w hw => ?_, ?_, hI.sn⟩
      · rcases List.mem_append.1 hw with hw | hw
        · exact ⟨(hI.bag w hw).1, (hI.bag w hw).2.imp (fun k => k.up (fun _ => List.prefix_rfl) (fun _ => List.prefix_rfl)) id⟩
        · rw [List.mem_singleton] at hw
          subst hw
          have he := hE.e
          have hg : Good B { l with x := at2 l.x x.w ((l.x x.w).send [x.v]), sent := at2 l.sent x.w (l.sent x.w ++ [x.v]) } ⟨!x.w, (l.x x.w).pk ((l.x x.w).s + 1) [x.v]⟩ := by
            refine ⟨?_, ?_, ?_, .inr ⟨(l.sent x.w).length, x.v, ?_, rfl, ?_⟩⟩ <;> dsimp only [Sq.pk]
            · rw [Bool.not_not]; exact hE.b
            · exact hE.p
            · omega
            · omega
            · rw [Bool.not_not, at2_same, List.getElem?_append_right (Nat.le_refl _), Nat.sub_self]; rfl
          exact ⟨hg.chk hI (by omega), .inl (hg.up (fun _ => List.prefix_rfl) (fun _ => List.prefix_rfl))⟩
      · have := h.bl
        dsimp only
        rw [List.length_append, List.length_singleton]; omega
    · exact hM
  · split
    · refine hadd _ (by rw [List.length_map, Sq.again_len]; exact hE.q) (fun w hw => ?_)
      obtain ⟨y, hy, rfl⟩ := List.mem_map.1 hw
      exact good_again hE hy
    · split
      · refine hadd _ (by simp) (fun w hw => ?_)
        rw [List.mem_singleton] at hw
        subst hw
        exact good_answer hE
      · split
        · split
          · rename_i w hw
            rcases (h.bag w (List.mem_of_getElem? hw)).2 with g | ⟨_, g⟩
            · exact more_n (takes_good h (by omega) g).1 (Nat.le_succ n)
            · rw [takes_dead h g]; exact hM
          · exact hM
        · refine ⟨h.bb, fun c => ⟨(h.en c).b, (h.en c).p, (h.en c).s, (h.en c).a, (h.en c).e, (h.en c).pre, (h.en c).q⟩, fun w hw => ?_, ?_, hM.sn⟩
          · have hw' := List.mem_of_mem_eraseIdx hw
            exact ⟨(h.bag w hw').1, (h.bag w hw').2.imp (fun k => k.up (fun _ => List.prefix_rfl) (fun _ => List.prefix_rfl)) id⟩
          · have h1 := h.bl
            have h2 := List.length_eraseIdx_le (l := l.bag) (i := x.i l)
            dsimp only
            omega
def B0 (c : Bool) : Int := if c then 7 else 5
def l0 : Ln := ⟨fun c => ⟨B0 c, B0 (!c), 0, 0, 1, []⟩, [], fun _ => [], fun _ => []⟩
theorem inv0 : Inv B0 [] l0 0 := by
  refine ⟨fun c => by cases c <;> decide, fun c => ⟨rfl, rfl, rfl, ⟨0, rfl, Nat.le_refl _, rfl⟩, rfl, List.prefix_rfl, Nat.zero_le _⟩, fun w hw => (by cases hw), by decide, fun c => Nat.le_refl _⟩
theorem Inv.eq {B : Bool → Int} {o : List Wy} {l : Ln} {n : Nat} (h : Inv B o l n) (c : Bool) : (l.came c).length ≤ (l.sent c).length ∧ (l.sent c).take (l.came c).length = l.came c := ⟨(h.en c).pre.length_le, (List.prefix_iff_eq_take.1 (h.en c).pre).symm⟩
/-- Packets that come one behind the other. -/
def all (l : Ln) (ws : List Wy) : Ln := ws.foldl Ln.takes l
theorem all_good {B : Bool → Int} {o : List Wy} {n : Nat} (hn : n ≤ 1000) : ∀ (ws : List Wy) {l : Ln}, Inv B o l n → (∀ w ∈ ws, Good B l w) → Inv B o (all l ws) n ∧ Le l (all l ws) ∧ (all l ws).sent = l.sent
  | [], l, h, _ => ⟨h, Le.refl l, rfl⟩
  | w :: ws, l, h, g => by
    obtain ⟨t1, t2, t3, t4, t5, t6⟩ := takes_good h hn (g w (List.mem_cons_self ..))
    obtain ⟨u1, u2, u3⟩ := all_good hn ws t1 (fun y hy => (g y (List.mem_cons_of_mem _ hy)).up (t2.sent) (t2.came))
    exact ⟨u1, t2.trans u2, u3.trans t3⟩
theorem come_all {B : Bool → Int} {o : List Wy} {n : Nat} (hn : n ≤ 1000) (k : Bool) : ∀ (ps : List Pq) (i : Nat) {l : Ln}, Inv B o l n → (∀ y ∈ ps, Good B l ⟨!k, y⟩) → (∀ (j : Nat) (y : Pq), ps[j]? = some y → y.s = (i : Int) + (j : Int) + 1) → i + ps.length = (l.sent k).length → i ≤ (l.came k).length → ((all l (ps.map fun y => ⟨!k, y⟩)).came k).length = (l.sent k).length
  | [], i, l, h, _, _, hl, hi => by
    have := (h.en k).pre.length_le
    simp at hl
    show (l.came k).length = _
    omega
  | y :: ps, i, l, h, g, hs, hl, hi => by
    obtain ⟨t1, t2, t3, t4, t5, t6⟩ := takes_good h hn (g y (List.mem_cons_self ..))
    have hp := (h.en k).pre.length_le
    have h0 := hs 0 y rfl
    dsimp only at t6
    rw [Bool.not_not] at t6
    simp only [List.length_cons] at hl
    have key := come_all hn k ps (i + 1) t1 (fun z hz => (g z (List.mem_cons_of_mem _ hz)).up (t2.sent) (t2.came)) (fun j z hz => by have := hs (j + 1) z hz; omega) (by rw [t3]; omega) (by
      by_cases e : i = (l.came k).length
      · have := t6 (by omega); omega
      · have := (t2.came k).length_le; omega)
    rw [t3] at key
    exact key
def flush (l : Ln) (k : Bool) : Ln := all l (((l.x k).again ++ [(l.x k).pk 0 []]).map fun y => ⟨!k, y⟩)
theorem flush_good {B : Bool → Int} {o : List Wy} {n : Nat} {l : Ln} (hn : n ≤ 1000) (h : Inv B o l n) (k : Bool) : ∀ w ∈ ((l.x k).again ++ [(l.x k).pk 0 []]).map (fun y => (⟨!k, y⟩ : Wy)), Good B l w := fun w hw => by
  obtain ⟨y, hy, rfl⟩ := List.mem_map.1 hw
  rcases List.mem_append.1 hy with hy | hy
  · exact good_again (h.en k) hy
  · rw [List.mem_singleton] at hy; subst hy; exact good_answer (h.en k)
theorem flush_inv {B : Bool → Int} {o : List Wy} {n : Nat} {l : Ln} (hn : n ≤ 1000) (h : Inv B o l n) (k : Bool) : Inv B o (flush l k) n ∧ Le l (flush l k) ∧ (flush l k).sent = l.sent := all_good hn _ h (flush_good hn h k)
theorem flush_came {B : Bool → Int} {o : List Wy} {n : Nat} {l : Ln} (hn : n ≤ 1000) (h : Inv B o l n) (k : Bool) : ((flush l k).came k).length = (l.sent k).length ∧ (((l.came (!k)).length : Nat) : Int) ≤ ((flush l k).x (!k)).a := by
  have hE := h.en k
  obtain ⟨m, a1, a2, a3⟩ := hE.a
  have hp := hE.pre.length_le
  have hq : (l.x k).q.length = (l.sent k).length - m := by rw [a3]; simp
  have hc := come_all hn k (l.x k).again m h (fun y hy => good_again hE hy) (fun j y hy => by
    obtain ⟨n', v, b1, b2, b3, b4, b5⟩ := again_mem hE hy
    subst b4
    dsimp only [Sq.pk]; omega) (by rw [Sq.again_len]; omega) a2
  obtain ⟨u1, u2, u3⟩ := all_good hn ((l.x k).again.map fun y => ⟨!k, y⟩) h (fun w hw => flush_good hn h k w (by rw [List.map_append]; exact List.mem_append_left _ hw))
  have hg := (good_answer (l := l) hE).up u2.sent u2.came
  obtain ⟨t1, t2, t3, t4, t5, t6⟩ := takes_good u1 hn hg
  have hf : flush l k = (all l ((l.x k).again.map fun y => ⟨!k, y⟩)).takes ⟨!k, (l.x k).pk 0 []⟩ := by
    unfold flush all
    rw [List.map_append, List.foldl_append]; rfl
  rw [hf]
  constructor
  · have h1 := (t2.came k).length_le
    have h2 := (t1.en k).pre.length_le
    rw [t3, u3] at h2
    omega
  · have he := hE.e
    have t7 : (l.x k).e - 1 ≤ _ := t5
    dsimp only at t7
    omega
theorem came_stay {B : Bool → Int} {o : List Wy} {n : Nat} {l l' : Ln} (h' : Inv B o l' n) (hle : Le l l') (hs : l'.sent = l.sent) {k : Bool} (hk : (l.came k).length = (l.sent k).length) : (l'.came k).length = (l'.sent k).length := by
  have h1 := (hle.came k).length_le
  have h2 := (h'.en k).pre.length_le
  rw [hs] at *
  omega
theorem a_stay {B : Bool → Int} {o : List Wy} {n : Nat} {l l' : Ln} (h' : Inv B o l' n) (hle : Le l l') (hs : l'.sent = l.sent) {k : Bool} (hk : (((l.sent k).length : Nat) : Int) ≤ (l.x k).a) : (((l'.sent k).length : Nat) : Int) ≤ (l'.x k).a := by
  have h1 := hle.a k
  rw [hs]
  omega
/-- What goes out twice, and the answers. -/
def rounds (l : Ln) : Ln := flush (flush (flush (flush l false) true) false) true
def answers (l : Ln) : Ln := let m := l.takes ⟨true, (l.x false).pk 0 []⟩; m.takes ⟨false, (m.x true).pk 0 []⟩
theorem rounds_all {B : Bool → Int} {o : List Wy} {n : Nat} {l : Ln} (hn : n ≤ 1000) (h : Inv B o l n) : Inv B o (rounds l) n ∧ ∀ c, ((rounds l).came c).length = ((rounds l).sent c).length ∧ ((((rounds l).sent c).length : Nat) : Int) ≤ ((rounds l).x c).a := by
  unfold rounds
  obtain ⟨h1, e1, s1⟩ := flush_inv hn h false
  have c1 := (flush_came hn h false).1
  rw [← s1] at c1
  generalize flush l false = l1 at *
  obtain ⟨h2, e2, s2⟩ := flush_inv hn h1 true
  have c2 := (flush_came hn h1 true).1
  rw [← s2] at c2
  have d2 := (flush_came hn h1 true).2
  generalize flush l1 true = l2 at *
  have c1' := came_stay h2 e2 s2 c1
  have a2 : ((l2.sent false).length : Int) ≤ (l2.x false).a := by
    rw [s2, ← c1]; exact d2
  obtain ⟨h3, e3, s3⟩ := flush_inv hn h2 false
  have d3 := (flush_came hn h2 false).2
  generalize flush l2 false = l3 at *
  have a3 : ((l3.sent true).length : Int) ≤ (l3.x true).a := by
    rw [s3, ← c2]; exact d3
  obtain ⟨h4, e4, s4⟩ := flush_inv hn h3 true
  generalize flush l3 true = l4 at *
  refine ⟨h4, fun c => ?_⟩
  cases c
  · exact ⟨came_stay h4 (e3.trans e4) (s4.trans s3) c1', a_stay h4 (e3.trans e4) (s4.trans s3) a2⟩
  · exact ⟨came_stay h4 (e3.trans e4) (s4.trans s3) c2, a_stay h4 e4 s4 a3⟩
theorem answers_inv {B : Bool → Int} {o : List Wy} {n : Nat} {l : Ln} (hn : n ≤ 1000) (h : Inv B o l n) : Inv B o (answers l) n ∧ Le l (answers l) ∧ (answers l).sent = l.sent := by
  unfold answers
  obtain ⟨h5, e5, s5, _⟩ := takes_good h hn (good_answer (h.en false))
  obtain ⟨h6, e6, s6, _⟩ := takes_good h5 hn (good_answer (h5.en true))
  exact ⟨h6, e5.trans e6, s6.trans s5⟩
theorem all_comes {B : Bool → Int} {o : List Wy} {n : Nat} {l : Ln} (hn : n ≤ 1000) (h : Inv B o l n) (k : Bool) : (answers (rounds l)).came k = (answers (rounds l)).sent k ∧ ((answers (rounds l)).x k).q = [] := by
  obtain ⟨h1, hr⟩ := rounds_all hn h
  generalize rounds l = m at *
  obtain ⟨h2, e2, s2⟩ := answers_inv hn h1
  have f1 := came_stay h2 e2 s2 (hr k).1
  have f2 := a_stay h2 e2 s2 (hr k).2
  have hE := h2.en k
  generalize answers m = z at *
  refine ⟨List.IsPrefix.eq_of_length hE.pre f1, ?_⟩
  obtain ⟨q, a1, a2, a3⟩ := hE.a
  rw [a3, List.map_eq_nil_iff]
  exact List.drop_eq_nil_of_le (by omega)
/-- One end is started anew. -/
def anew (l : Ln) (k : Bool) : Ln := { l with x := at2 l.x k ⟨9, 0, 0, 0, 1, []⟩ }
def met (l : Ln) (k : Bool) : Ln := { l with x := at2 (at2 l.x k ⟨9, B0 (!k), 0, 0, 1, []⟩) (!k) ⟨B0 (!k), 9, 0, 0, 1, []⟩ }
def fresh (l : Ln) : Ln := { l with sent := fun _ => [], came := fun _ => [] }
def B1 (k : Bool) : Bool → Int := at2 B0 k 9
end Se
end Go.Abs
namespace Go.Abs
open Tb
namespace Se
theorem does_byt {l : Ln} {x : Nt} (hx : x.Ok) (h : ∀ c, Byt (l.sent c)) : ∀ c, Byt ((l.does x).sent c) := by
  intro c
  unfold Ln.does
  split
  · split
    · dsimp only
      by_cases e : c = x.w
      · subst e; rw [at2_same]
        intro a ha
        rcases List.mem_append.1 ha with ha | ha
        · exact h _ a ha
        · rw [List.mem_singleton] at ha; subst ha; exact hx.2
      · rw [at2_other e]; exact h c
    · exact h c
  · split
    · exact h c
    · split
      · exact h c
      · split
        · split
          · exact h c
          · exact h c
        · exact h c
theorem Inv.byt {B : Bool → Int} {o : List Wy} {l : Ln} {n : Nat} (h : Inv B o l n) (hb : ∀ c, Byt (l.sent c)) (c : Bool) : Byt (l.came c) := fun a ha => hb c a ((h.en c).pre.mem ha)
theorem rw0 {l : Ln} (A B : Ob) (h0 : l.bag = []) (h1 : ∀ c, l.sent c = []) (h2 : ∀ c, l.came c = []) : Rw l (fun k => k + 2) [A, B, .row 0 6, .row 0 1, .row 0 1, .row 0 1, .row 0 1] := by
  refine ⟨fun k hk => ?_, fun j k _ _ e => by omega⟩
  rcases k with _ | _ | _ | _ | _ | k
  · simp [Ln.rl, h0]
  · simp [Ln.rl, h1]
  · simp [Ln.rl, h1]
  · simp [Ln.rl, h2]
  · simp [Ln.rl, h2]
  · omega
end Se
end Go.Abs
namespace Go.Abs
open Tb
namespace Se
def met1 (l : Ln) (k : Bool) : Ln := { l with x := at2 (at2 l.x k ⟨9, 0, 0, 0, 1, []⟩) (!k) ⟨B0 (!k), 9, 0, 0, 1, []⟩ }
end Se
end Go.Abs
