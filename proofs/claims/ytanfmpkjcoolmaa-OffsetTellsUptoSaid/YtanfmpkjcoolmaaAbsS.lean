/- Loops whose rounds make variables of their own: what a round made is forgotten at its end. -/
import Derived.Test.YtanfmpkjcoolmaaAbsQ
set_option linter.unusedVariables false
set_option linter.unusedSimpArgs false
namespace Go.Abs
variable {P : Program} {N : Nat} {Q : Exit → Tm → List Ob → Prop} {tm : Tm} {S : List Ob}

/-- It speaks of no object but the first m. -/
inductive Un (m : Nat) : D → Prop
  | lf {d : D} (h : LF d) : Un m d
  | bp {l o : Nat} (h : l < m) : Un m (.bp l o)
  | bs {l o n : Nat} (h : l < m) : Un m (.bs l o n)
  | sl {nl : Option Bool} {xs : List (List D)} {c : Cap} (h : ∀ x ∈ xs, ∀ d ∈ x, Un m d) (hc : ∀ l, c = .own l → l < m) : Un m (.sl nl xs c)
  | rp {cs : List D} (h : ∀ d ∈ cs, Un m d) : Un m (.rp cs)
  | agg {cs : List D} (h : ∀ d ∈ cs, Un m d) : Un m (.agg cs)
  | tup {cs : List D} (h : ∀ d ∈ cs, Un m d) : Un m (.tup cs)
  | fn {f : Fn} {a b : List D} (h : ∀ d ∈ a, Un m d) (h' : ∀ d ∈ b, Un m d) : Un m (.fn f a b)

theorem Un.sl_inv {m : Nat} {nl : Option Bool} {xs : List (List D)} {c : Cap} (hu : Un m (.sl nl xs c)) : (∀ x ∈ xs, ∀ d ∈ x, Un m d) ∧ (∀ l, c = .own l → l < m) := by
  cases hu with
  | lf h => cases h with | sl h hc => exact ⟨fun x hx d hd => .lf (h x hx d hd), fun l hl => by rcases hc with e | e <;> rw [e] at hl <;> cases hl⟩
  | sl h hc => exact ⟨h, hc⟩
theorem Un.rp_inv {m : Nat} {cs : List D} (hu : Un m (.rp cs)) : ∀ d ∈ cs, Un m d := by
  cases hu with
  | lf h => cases h with | rp h => exact fun d hd => .lf (h d hd)
  | rp h => exact h
theorem Un.agg_inv {m : Nat} {cs : List D} (hu : Un m (.agg cs)) : ∀ d ∈ cs, Un m d := by
  cases hu with
  | lf h => cases h with | agg h => exact fun d hd => .lf (h d hd)
  | agg h => exact h
theorem Un.tup_inv {m : Nat} {cs : List D} (hu : Un m (.tup cs)) : ∀ d ∈ cs, Un m d := by
  cases hu with
  | lf h => cases h with | tup h => exact fun d hd => .lf (h d hd)
  | tup h => exact h
theorem Un.fn_inv {m : Nat} {f : Fn} {a b : List D} (hu : Un m (.fn f a b)) : (∀ d ∈ a, Un m d) ∧ (∀ d ∈ b, Un m d) := by
  cases hu with
  | lf h => cases h with | fn h h' => exact ⟨fun d hd => .lf (h d hd), fun d hd => .lf (h' d hd)⟩
  | fn h h' => exact ⟨h, h'⟩

def G.cut (g : G) (m : Nat) : G :=
  { eta := fun l => if l < m then g.eta l else none, row := fun l => if l < m then g.row l else none, lim := g.lim, own := fun b => (g.own b).bind fun l => if l < m then some l else none, base := g.base }

theorem Rep.un {g : G} {w : World} {m : Nat} {v : Value} {d : D} (r : Rep g w v d) : Un m d → Rep (g.cut m) w v d := by
  induction r with
  | any v => intro _; exact .any v
  | val v => intro _; exact .val v
  | sl st f hn hcap hnone hnl hst hcell hrep hc ih =>
    intro hu
    obtain ⟨hx, hcc⟩ := hu.sl_inv
    refine .sl st f hn hcap hnone hnl hst hcell (fun i x hx' j d hd => ih i x hx' j d hd (hx x (List.mem_of_getElem? hx') d (List.mem_of_getElem? hd))) ?_
    rename_i c
    cases c with
    | ro => trivial
    | full => exact hc
    | own l =>
      obtain ⟨k, h, e, h1, h2⟩ := hc
      exact ⟨k, h, by simp only [G.cut, if_pos (hcc l rfl)]; exact e, h1, h2⟩
  | rp f hcell hrep ih => intro hu; exact .rp f hcell (fun j d hd => ih j d hd (hu.rp_inv d (List.mem_of_getElem? hd)))
  | bp e =>
    intro hu
    cases hu with
    | lf h => cases h
    | bp h => exact .bp (by simp only [G.cut, if_pos h]; exact e)
  | bs e hc =>
    intro hu
    cases hu with
    | lf h => cases h
    | bs h => exact .bs (by simp only [G.cut, if_pos h]; exact e) hc
  | agg hs hrep ih => intro hu; exact .agg hs (fun i v d hv hd => ih i v d hv hd (hu.agg_inv d (List.mem_of_getElem? hd)))
  | tup hs hrep ih => intro hu; exact .tup hs (fun i v d hv hd => ih i v d hv hd (hu.tup_inv d (List.mem_of_getElem? hd)))
  | fn hs hs' hrep hrep' ih ih' =>
    intro hu
    exact .fn hs hs' (fun i v d hv hd => ih i v d hv hd (hu.fn_inv.1 d (List.mem_of_getElem? hd))) (fun i v d hv hd => ih' i v d hv hd (hu.fn_inv.2 d (List.mem_of_getElem? hd)))

def ObUn (m : Nat) : Ob → Prop
  | .box cs => ∀ d ∈ cs, Un m d
  | .row _ _ => True
  | .dead => True
  | .seen _ _ => True
  | .lent => True

theorem Sim.cut {g : G} {w : World} {T : List Ob} (h : Sim g w (S ++ T)) (hu : ∀ ob ∈ S, ObUn S.length ob) : Sim (g.cut S.length) w S where
  obs l ob e := by
    have hl : l < S.length := (List.getElem?_eq_some_iff.1 e).1
    have k := h.obs l ob (by rw [List.getElem?_append_left hl]; exact e)
    have hob := hu ob (List.mem_of_getElem? e)
    cases ob with
    | box ds =>
      obtain ⟨b, c, T', e1, e2, e3, e4, e5, e6⟩ := k
      exact ⟨b, c, T', by simp only [G.cut, if_pos hl]; exact e1, by simp only [G.cut, e2, Option.bind_some, if_pos hl], e3, e4, e5, fun i v d hv hd => (e6 i v d hv hd).un (hob d (List.mem_of_getElem? hd))⟩
    | row n sz =>
      obtain ⟨a, cap, e1, e2, e3, e4⟩ := k
      refine ⟨a, cap, by simp only [G.cut, if_pos hl]; exact e1, e2, e3, ?_⟩
      rcases e4 with e4 | ⟨b, off, c, T', f1, f2, f3, f4, f5⟩
      · exact .inl e4
      · exact .inr ⟨b, off, c, T', f1, by simp only [G.cut, f2, Option.bind_some, if_pos hl], f3, f4, f5⟩
    | dead => exact ⟨by simp only [G.cut, if_pos hl]; exact k.1, by simp only [G.cut, if_pos hl]; exact k.2⟩
    | lent => trivial
    | seen J k' =>
      obtain ⟨B, e1, e2⟩ := k
      exact ⟨B, fun b kb => by simp only [G.cut, e1 b kb, Option.bind_some, if_pos hl], e2⟩
  noEta l hl := by simp only [G.cut, if_neg (Nat.not_lt.2 hl)]
  noRow l hl := by simp only [G.cut, if_neg (Nat.not_lt.2 hl)]
  own b l e := by
    simp only [G.cut] at e
    obtain ⟨l', e1, e2⟩ := Option.bind_eq_some_iff.1 e
    split at e2
    · rename_i hlt
      cases e2
      exact ⟨hlt, (h.own b l e1).2⟩
    · cases e2
  lim := h.lim

theorem Later.cut {g g1 : G} {w w1 : World} {m : Nat} (hs : Sim g w S) (hm : S.length ≤ m) (h : Later g w g1 w1) : Later g w (g1.cut m) w1 := by
  refine ⟨⟨h.1.cell, fun l b e => ?_, fun l n x e => ?_⟩, ⟨h.2.size, h.2.os, h.2.tape, h.2.output, fun b hb ho => ?_, fun b l hb ho => ?_, h.2.base⟩⟩
  · have hl : l < S.length := by
      rcases Nat.lt_or_ge l S.length with h' | h'
      · exact h'
      · rw [hs.noEta l h'] at e; cases e
    simp only [G.cut, if_pos (Nat.lt_of_lt_of_le hl hm)]
    exact h.1.eta l b e
  · have hl : l < S.length := by
      rcases Nat.lt_or_ge l S.length with h' | h'
      · exact h'
      · rw [hs.noRow l h'] at e; cases e
    obtain ⟨n', h', e', d'⟩ := h.1.row l n x e
    exact ⟨n', h', by simp only [G.cut, if_pos (Nat.lt_of_lt_of_le hl hm)]; exact e', d'⟩
  · obtain ⟨e1, e2, e3⟩ := h.2.old b hb ho
    exact ⟨e1, e2, by simp only [G.cut, e3, Option.bind_none]⟩
  · have e := h.2.kept b l hb ho
    have hl := (hs.own b l ho).1
    simp only [G.cut, e, Option.bind_some, if_pos (Nat.lt_of_lt_of_le hl hm)]

theorem AWP.loopX {α : Type} (m : Nat) (I : α → Prop) (F : α → Tm) (O : α → List Ob) (μ : α → Nat) {c : Code} (p₀ : α) (h₀ : I p₀) (hf : FLe tm (F p₀)) (hS : S = O p₀) (hm : ∀ p, (O p).length = m)
    (hF : ∀ p, I p → ∀ i, Un m (F p i)) (hO : ∀ p, I p → ∀ ob ∈ O p, ObUn m ob)
    (round : ∀ p, I p → AWP P N c (Then (fun tm' S' => ∃ p' T, I p' ∧ FLe tm' (F p') ∧ S' = O p' ++ T ∧ μ p' < μ p) Q) (F p) (O p)) : AWP P N (.loop c) Q tm S := fun ro hnr g a w st => by
  subst hS
  have hnc : RoOk ro c := fun k => by have := hnr k; simpa only [nr] using this
  intro b k cs hro hb hr
  have key : ∀ n p g' a' w', μ p = n → I p → St N g' (F p) (O p) a' w' → Later g w g' w' →
      ∃ e a2 w2, Post N Q g w e a2 w2 ∧ ArrivesIn (Machine.fenced P (wideR ro)) P (lone (b.atR a' (.code c :: .inLoop c :: k)) cs w') b k cs e a2 w2 := by
    intro n
    induction n using Nat.strongRecOn with
    | _ n ih =>
      intro p g' a' w' hn hI st' hl
      obtain ⟨e, a₁, w₁, ⟨g1, tm1, S1, q, st1, l1⟩, harr⟩ := round p hI ro hnc g' a' w' st' b (.inLoop c :: k) cs hro hb hr
      cases e with
      | normal =>
        obtain ⟨p', T, hI', hf', rfl, hlt⟩ := q
        have st2 := st1.forget hf'
        have hml := hm p'
        have st3 : St N (g1.cut m) (F p') (O p') a₁ w₁ := ⟨st2.size, st2.based, st2.once, fun d hd => by
          obtain ⟨b', e', q1, q2, q3⟩ := st2.defers d hd
          exact ⟨b', e', q1, by simp only [G.cut, q2, Option.bind_none], q3⟩, fun i => (st2.slots i).un (hF p' hI' i), by
          have := st2.sim.cut (S := O p') (by rw [hml]; exact hO p' hI')
          rwa [hml] at this⟩
        obtain ⟨e₂, a₂, w₂, hq₂, harr₂⟩ := ih (μ p') (hn ▸ hlt) p' (g1.cut m) a₁ w₁ rfl hI' st3 ((hl.trans l1).cut st.sim (Nat.le_of_eq (hm p₀)))
        exact ⟨e₂, a₂, w₂, hq₂, .of_steps (StepsIn.trans harr (.one (fenced_calm hb hr rfl) stepR_inLoop)) harr₂⟩
      | exit id => exact ⟨_, a₁, w₁, ⟨g1, tm1, S1, q, st1, hl.trans l1⟩, .pass (x := .inLoop c) rfl (fun _ _ => .inl (by simp)) harr⟩
      | goto l => exact ⟨_, a₁, w₁, ⟨g1, tm1, S1, q, st1, hl.trans l1⟩, .pass (x := .inLoop c) rfl (fun _ _ => .inl (by simp)) harr⟩
      | ret => exact ⟨_, a₁, w₁, ⟨g1, tm1, S1, q, st1, hl.trans l1⟩, .pass (x := .inLoop c) rfl (fun _ _ => .inl (by simp)) harr⟩
      | panic ch => exact ⟨_, a₁, w₁, ⟨g1, tm1, S1, q, st1, hl.trans l1⟩, .pass (x := .inLoop c) rfl (fun _ _ => .inl (by simp)) harr⟩
      | outgrown => exact ⟨_, a₁, w₁, ⟨g1, tm1, S1, q, st1, hl.trans l1⟩, .pass (x := .inLoop c) rfl (fun _ _ => .inl (by simp)) harr⟩
  obtain ⟨e, a', w', hq, harr⟩ := key _ p₀ g a w rfl h₀ (st.forget hf) (.refl g w)
  exact ⟨e, a', w', hq, .of_steps (.one (fenced_calm hb hr rfl) stepR_loop) harr⟩

theorem un_empty {m : Nat} : ∀ i, Un m (empty i) := fun _ => .lf .any
theorem un_put {m : Nat} {i : Nat} {d : D} (hd : Un m d) (h : ∀ j, Un m (tm j)) : ∀ j, Un m (put tm i d j) := fun j => by
  unfold put
  cases Nat.beq j i with
  | true => exact hd
  | false => exact h j
theorem un_nil {m : Nat} : ∀ ob ∈ ([] : List Ob), ObUn m ob := fun ob h => by cases h
theorem un_cons {m : Nat} {ob : Ob} {S : List Ob} (h : ObUn m ob) (t : ∀ ob ∈ S, ObUn m ob) : ∀ x ∈ ob :: S, ObUn m x := fun x hx => by
  rcases List.mem_cons.1 hx with rfl | hx
  · exact h
  · exact t x hx
theorem un_box {m : Nat} {cs : List D} (h : flats cs = true) : ObUn m (.box cs) := fun d hd => .lf (flats_lf h d hd)
theorem un_boxL {m : Nat} {cs : List D} (h : ∀ d ∈ cs, LF d) : ObUn m (.box cs) := fun d hd => .lf (h d hd)
theorem lf_map {α : Type} {f : α → List D} (hf : ∀ a, flats (f a) = true) {nl : Option Bool} {l : List α} {c : Cap} (hc : c = .ro ∨ c = .full) : LF (.sl nl (l.map f) c) :=
  .sl (fun x hx d hd => by obtain ⟨a, _, rfl⟩ := List.mem_map.1 hx; exact flats_lf (hf a) d hd) hc
theorem ren_map {ρ σ : Nat → Nat → Prop} {α : Type} {f : α → List D} (hf : ∀ a, flats (f a) = true) {nl : Option Bool} {l : List α} {c : Cap} : Ren ρ σ (.sl nl (l.map f) c) (.sl none (l.map f) .ro) :=
  .ro (fun x hx d hd => by obtain ⟨a, _, rfl⟩ := List.mem_map.1 hx; exact flats_lf (hf a) d hd)
theorem map_at {α : Type} (f : α → List D) {l : List α} {i : Nat} {a : α} (h : l[i]? = some a) : (l.map f)[((i : Int)).toNat]? = some (f a) := by
  rw [Int.toNat_natCast, List.getElem?_map, h]; rfl
end Go.Abs
