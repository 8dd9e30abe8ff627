/- append: the operation. -/
import Derived.Test.YtanfmpkjcoolmaaAbsG
import Derived.Deep.Upon
set_option linter.unusedVariables false
set_option linter.unusedSimpArgs false
namespace Go.Abs
variable {P : Program} {N : Nat} {ops : Array Oper} {l : List Oper} {Q : Exit → Tm → List Ob → Prop} {tm : Tm} {S : List Ob}

/-- An element type: its cells, its bytes, its zero value. -/
structure EI (P : Program) (e : TypeId) (sz bytes : Nat) (z : Value) : Prop where
  info : ∃ i, P.info? e = some i ∧ i.size = sz ∧ i.bytes = bytes ∧ i.zero = some z
  zsize : z.cells.size = sz
  pos : Nat.blt 0 bytes = true

theorem setCells_eq {w : World} {b o : Nat} {c : Array Value} {T : TypeId} {vs : List Value} (hh : w.heap[b]? = some (.cells c T (0, 0))) (hl : o + vs.length ≤ c.size) (h1 : ∀ v ∈ vs, v.oneCell' = true) :
    w.setCells b o vs = w.setRow b (c.toList.take o ++ vs ++ c.toList.drop (o + vs.length)).toArray := by
  have k1 := run_storeCells_at (P := default) b o T vs 0 c w hh (by omega) h1
  have k2 := run_storeCells_cells (P := default) b o vs 0 w (fun j hj => by
    have : o + j < c.size := by omega
    simp [World.cell?, hh, this]) (fun j hj => by simp [World.frozen?, hh]) h1
  rw [k1] at k2
  simp only [Nat.add_zero, Result.ok.injEq, true_and] at k2
  exact k2.symm

theorem zeroCells_size (zero : Array Value) (n : Nat) : (Builtin.zeroCells zero n).size = n * zero.size := by simp [Builtin.zeroCells]

theorem run_firstCells_at {g : G} {w w' : World} {ao : Option Addr} {n cap sz : Nat} {cs : List Value} (hl : cs.length = n * sz) (hn0 : ao = none → n = 0)
    (hat : ∀ ad, ao = some ad → ∀ (k : Nat) (v : Value), cs[k]? = some v → At g w (ad.add k) v) (hw : w'.heap = w.heap) : (Builtin.firstCells sz n (.slice ao n cap)).run P w' = .ok cs.toArray w' := by
  cases ao with
  | none =>
    have := hn0 rfl
    subst this
    obtain rfl : cs = [] := List.eq_nil_of_length_eq_zero (by simpa using hl)
    exact run_firstCells_none w' sz 0 0 cap
  | some ad =>
    refine run_firstCells_some w' sz n ad n cap cs hl (fun j v hv => ?_)
    have := (hat ad rfl j v hv).1
    unfold World.cell? at this ⊢
    rw [hw]; exact this

/-- What the growing arm gives: shared by both forms. -/
theorem grow_arm {g : G} {w : World} (hs : Sim g w S) {S' : List Ob} {L n m sz bytes cap : Nat} {e t tx ty : TypeId} {z : Value} {e' : TypeId} (hu : P.underlying t = some (.slice e)) (hux : P.underlying tx = some (.slice e')) (he : EI P e sz bytes z)
    {ao : Option Addr} {nl : Option Bool} {xs ys : List (List D)} {c : Cap} {v : Value} {nl' : Option Bool} {c' : Cap} (rx : Rep g w (.slice ao n cap) (.sl nl xs c)) (ry : Rep g w v (.sl nl' ys c')) (hsx : ∀ x ∈ xs, x.length = sz) (hsy : ∀ x ∈ ys, x.length = sz)
    (hn : xs.length = n) (hm : ys.length = m) (hg : cap < n + m) (hroom : (n + m) * bytes ≤ 140737488355328)
    (h1 : ∀ (l : Nat) (ob : Ob), S'[l]? = some ob → l = L ∧ ob = .row (n + m) sz ∨ l ≠ L ∧ S[l]? = some ob) (h2 : S.length ≤ S'.length) (h3 : L < S'.length)
    (hrow : ∀ n' h, g.row L = some (n', h) → n' < n + m) (hbox : ∀ ds, S[L]? ≠ some (.box ds)) :
    ∃ v' g' w', (Builtin.append_ #[t, tx] ty #[.slice ao n cap, v]).run P w = .ok v' w' ∧ Rep g' w' v' (.sl none (xs ++ ys) (.own L)) ∧ Sim g' w' S' ∧ Later g w g' w' := by
  obtain ⟨i, hi, hsz, hby, hz⟩ := he.info
  subst hsz hby
  obtain ⟨cx, lx, ox, atx, nex, rpx⟩ := sl_flat rx hsx
  obtain ⟨ao', n', cap', rfl⟩ : ∃ ao' n' cap', v = .slice ao' n' cap' := by cases ry; exact ⟨_, _, _, rfl⟩
  obtain ⟨cy, ly, oy, aty, ney, rpy⟩ := sl_flat ry hsy
  have hn' : n' = m := by cases ry with | sl st f h => omega
  subst hn'
  have h0x : ao = none → n = 0 := by cases rx with | sl st f h hc hno => intro e; have := hno e; omega
  have h0y : ao' = none → n' = 0 := by cases ry with | sl st f h hc hno => intro e; have := hno e; omega
  have hpos : 0 < i.bytes := Nat.lt_of_succ_le (Nat.le_of_ble_eq_true he.pos)
  have hle : n + n' ≤ 140737488355328 := Nat.le_trans (Nat.le_mul_of_pos_right _ hpos) hroom
  have src : Src P i.size tx (.slice ao' n' cap') n' cy w := src_of hux h0y cy (by rw [ly, hm]) oy aty
  have run := run_append_grow_src (P := P) w t tx ty e i z hu hi hz ao n cap cx (run_firstCells_at (by rw [lx, hn]) h0x atx rfl) _ n' cy src hg (by omega) (growslice_fits hg hroom)
  have hge := grownCap_ge w (need := n + n') (old := cap) e
  have hcs : ((cx ++ cy).toArray ++ Builtin.zeroCells z.cells (grownCap w (n + n') cap e - (n + n'))).size = grownCap w (n + n') cap e * i.size := by
    simp only [Array.size_append, List.size_toArray, List.length_append, lx, ly, hn, hm, zeroCells_size, he.zsize]
    rw [← Nat.add_mul, ← Nat.add_mul]; congr 1; omega
  obtain ⟨k1, k2⟩ := grow_sim hs (need := n + n') (sz := i.size) h1 h2 h3 hrow hbox _ e hcs hge
  refine ⟨_, _, _, run, ?_, k1, k2⟩
  have hlen : (cx ++ cy).length = (n + n') * i.size := by rw [List.length_append, lx, ly, hn, hm, Nat.add_mul]
  refine rep_of_flat (sz := i.size) (cx ++ cy) (by rw [List.length_append, hn, hm]) hge (fun e => by cases e) ?_ ?_ ?_ ?_
  · intro x hx
    rcases List.mem_append.1 hx with h | h
    · exact hsx x h
    · exact hsy x h
  · intro k u hk
    have hlt := (List.getElem?_eq_some_iff.1 hk).1
    refine ⟨_, rfl, ?_, ?_, ?_⟩
    · rw [add_lit, Nat.zero_add]
      show (w.alloc _).cell? ⟨w.heap.size, k, none⟩ = _
      rw [World.cell?_alloc_new, Array.getElem?_append_left (by simpa using hlt), List.getElem?_toArray]
      exact hk
    · rw [add_lit, Nat.zero_add]
      simp only [gGrow, upd_same]
      omega
    · rcases List.mem_append.1 (List.mem_of_getElem? hk) with h | h
      · exact ox u h
      · exact oy u h
  · intro i' x hx j d hd
    obtain ⟨u, e1, e2⟩ := cat_rep (g := g) (w := w) lx hsx rpx rpy i' x hx j d hd
    exact ⟨u, e1, e2.mono k2.1⟩
  · exact ⟨n + n', .slice (some ⟨w.heap.size, 0, none⟩) (n + n') (grownCap w (n + n') cap e), by simp only [gGrow, upd_same], Nat.le_refl _, fun _ => rfl⟩

section ops
variable {dst : Option Tmp} {ty : TypeId} {pos : String} {after : Array Edge}

theorem op_append_full {t tx e e' : TypeId} {x y : Operand} {sz bytes : Nat} {z : Value} {nl nl' : Option Bool} {xs ys : List (List D)} {c' : Cap} (hd : dstOk N dst = true) (hu : P.underlying t = some (.slice e)) (hux : P.underlying tx = some (.slice e')) (he : EI P e sz bytes z)
    (hx : ev tm x = .sl nl xs .full) (hy : ev tm y = .sl nl' ys c') (hsx : ∀ x ∈ xs, x.length = sz) (hsy : ∀ x ∈ ys, x.length = sz) (hroom : (xs.length + ys.length) * bytes ≤ 140737488355328)
    (rest : AOps P N ops l Q (putO tm dst (.sl none (xs ++ ys) (.own S.length))) (S ++ [.row (xs.length + ys.length) sz])) : AOps P N ops (⟨dst, .call ⟨.builtin .append, #[x, y], #[t, tx]⟩, ty, pos, after, none⟩ :: l) Q tm S :=
  .value rfl hd (fun g a w st => by
    have rx := st.ev x
    rw [hx] at rx
    have ry := st.ev y
    rw [hy] at ry
    generalize hvx : a.eval x = vx at rx
    generalize hvy : a.eval y = vy at ry
    obtain ⟨ao, n, cap, rfl, hn, hcap, hnone⟩ : ∃ ao n cap, vx = .slice ao n cap ∧ xs.length = n ∧ cap = n ∧ (ao = none → cap = 0) := by cases rx with | sl st f h1 h2 h3 h4 h5 h6 h7 h8 => exact ⟨_, _, _, rfl, h1, h8, h3⟩
    have hrun : ∀ v' w', (Builtin.append_ #[t, tx] ty #[.slice ao n cap, vy]).run P w = .ok v' w' → (execOp a.eval (⟨dst, .call ⟨.builtin .append, #[x, y], #[t, tx]⟩, ty, pos, after, none⟩ : Oper)).run P w = .ok (.value v') w' := by
      intro v' w' h
      simp [execOp, resolve, invoke, builtin, hvx, hvy, h]
    subst hn
    by_cases hg : cap < xs.length + ys.length
    · obtain ⟨v', g', w', k1, k2, k3, k4⟩ := grow_arm (ty := ty) (L := S.length) (S' := S ++ [.row (xs.length + ys.length) sz]) st.sim hu hux he rx ry hsx hsy rfl rfl hg hroom
        (fun l ob h => by
          rcases getElem?_snoc h with ⟨h, hlt⟩ | ⟨rfl, rfl⟩
          · exact .inr ⟨by omega, h⟩
          · exact .inl ⟨rfl, rfl⟩) (by simp) (by simp) (fun n' h k => by rw [st.sim.noRow _ (Nat.le_refl _)] at k; cases k) (fun ds k => by simp at k)
      exact ⟨v', g', w', hrun _ _ k1, k2, k3, k4⟩
    · have hm : ys = [] := List.eq_nil_of_length_eq_zero (by omega)
      subst hm
      obtain ⟨i, hi, hsz, hby, hz⟩ := he.info
      obtain ⟨ao', n', cap', rfl, hn', hnone'⟩ : ∃ ao' n' cap', vy = .slice ao' n' cap' ∧ n' = 0 ∧ (ao' = none → cap' = 0) := by cases ry with | sl st f h1 h2 h3 => exact ⟨_, _, _, rfl, by simpa using h1.symm, h3⟩
      subst hn'
      have src : Src P i.size tx (.slice ao' 0 cap') 0 [] w := by
        cases ao' with
        | none => exact Src.ofNil w hux cap'
        | some ad => exact Src.ofSlice w hux ad 0 cap' [] (by simp) (fun j u h => by simp at h) (fun u h => by cases h)
      have run := run_append_nothing (P := P) w t tx ty e i hu hi ao xs.length cap (by omega) _ src
      obtain ⟨k1, k2⟩ := same_sim (n := xs.length) (sz := sz) (cap := cap) (ao := ao) st.sim hcap hnone
      refine ⟨_, _, w, hrun _ _ run, ?_, ?_, k2⟩
      · rw [List.append_nil]
        have rx' := rx.mono k2.1
        cases rx' with
        | sl st f h1 h2 h3 h4 h5 h6 h7 h8 => exact .sl st f h1 h2 h3 (fun b h => by cases h) h5 h6 h7 ⟨xs.length, _, by simp only [upd_same], Nat.le_refl _, fun _ => rfl⟩
      · simpa using k1) rest

theorem op_append_own {t tx e e' : TypeId} {x y : Operand} {sz bytes l0 n0 : Nat} {z : Value} {nl nl' : Option Bool} {xs ys : List (List D)} {c' : Cap} (hd : dstOk N dst = true) (hu : P.underlying t = some (.slice e)) (hux : P.underlying tx = some (.slice e')) (he : EI P e sz bytes z)
    (hx : ev tm x = .sl nl xs (.own l0)) (hl : S[l0]? = some (.row n0 sz)) (hn0 : n0 = xs.length) (hy : ev tm y = .sl nl' ys c') (hsx : ∀ x ∈ xs, x.length = sz) (hsy : ∀ x ∈ ys, x.length = sz) (hroom : (xs.length + ys.length) * bytes ≤ 140737488355328)
    (rest : AOps P N ops l Q (putO tm dst (.sl none (xs ++ ys) (.own l0))) (S.set l0 (.row (xs.length + ys.length) sz))) : AOps P N ops (⟨dst, .call ⟨.builtin .append, #[x, y], #[t, tx]⟩, ty, pos, after, none⟩ :: l) Q tm S :=
  .value rfl hd (fun g a w st => by
    subst hn0
    have rx := st.ev x
    rw [hx] at rx
    have ry := st.ev y
    rw [hy] at ry
    generalize hvx : a.eval x = vx at rx
    generalize hvy : a.eval y = vy at ry
    obtain ⟨ao, n, cap, rfl, hn, hcap, hnone, hco⟩ : ∃ ao n cap, vx = .slice ao n cap ∧ xs.length = n ∧ n ≤ cap ∧ (ao = none → cap = 0) ∧ CapOk g vx n cap (.own l0) := by cases rx with | sl st f h1 h2 h3 h4 h5 h6 h7 h8 => exact ⟨_, _, _, rfl, h1, h2, h3, h8⟩
    subst hn
    obtain ⟨m0, hd0, hrow, hle0, heq0⟩ := hco
    obtain ⟨a1, cap1, hrow1, hsp⟩ := st.sim.obs l0 _ hl
    rw [hrow1] at hrow
    simp only [Option.some.injEq, Prod.mk.injEq] at hrow
    obtain ⟨rfl, rfl⟩ := hrow
    have := heq0 rfl
    simp only [Value.slice.injEq, true_and] at this
    obtain ⟨rfl, rfl⟩ := this
    have hrun : ∀ v' w', (Builtin.append_ #[t, tx] ty #[.slice ao xs.length cap, vy]).run P w = .ok v' w' → (execOp a.eval (⟨dst, .call ⟨.builtin .append, #[x, y], #[t, tx]⟩, ty, pos, after, none⟩ : Oper)).run P w = .ok (.value v') w' := by
      intro v' w' h
      simp [execOp, resolve, invoke, builtin, hvx, hvy, h]
    have hlt0 : l0 < S.length := (List.getElem?_eq_some_iff.1 hl).1
    by_cases hg : cap < xs.length + ys.length
    · obtain ⟨v', g', w', k1, k2, k3, k4⟩ := grow_arm (ty := ty) (L := l0) (S' := S.set l0 (.row (xs.length + ys.length) sz)) st.sim hu hux he rx ry hsx hsy rfl rfl hg hroom
        (fun l ob h => by
          by_cases e : l = l0
          · subst e; rw [List.getElem?_set_self hlt0] at h; cases h; exact .inl ⟨rfl, rfl⟩
          · rw [List.getElem?_set_ne (by omega)] at h; exact .inr ⟨e, h⟩) (by simp) (by simpa using hlt0) (fun n' h k => by rw [hrow1] at k; cases k; omega) (fun ds k => by rw [hl] at k; cases k)
      exact ⟨v', g', w', hrun _ _ k1, k2, k3, k4⟩
    · obtain ⟨i, hi, hsz, hby, hz⟩ := he.info
      subst hsz
      obtain ⟨ao', n', cap', rfl⟩ : ∃ ao' n' cap', vy = .slice ao' n' cap' := by cases ry; exact ⟨_, _, _, rfl⟩
      obtain ⟨cy, ly, oy, aty, ney, rpy⟩ := sl_flat ry hsy
      have hn' : n' = ys.length := by cases ry with | sl st f h => omega
      have h0y : ao' = none → n' = 0 := by cases ry with | sl st f h hc hno => intro e; have := hno e; omega
      have src : Src P i.size tx (.slice ao' n' cap') n' cy w := src_of hux h0y cy (by rw [ly, hn']) oy aty
      subst hn'
      obtain ⟨_, _, hspare⟩ := hsp
      by_cases hm : ys.length = 0
      · have hm : ys = [] := List.eq_nil_of_length_eq_zero hm
        subst hm
        have hcy : cy = [] := List.eq_nil_of_length_eq_zero (by simpa using ly)
        subst hcy
        have run := run_append_nothing (P := P) w t tx ty e i hu hi ao xs.length cap (by omega) _ src
        have hset : S.set l0 (.row (xs.length + 0) i.size) = S := by
          apply List.ext_getElem?
          intro j
          by_cases e : j = l0
          · subst e; rw [List.getElem?_set_self hlt0, hl]; rfl
          · rw [List.getElem?_set_ne (by omega)]
        refine ⟨_, g, w, hrun _ _ run, ?_, by show Sim g w (S.set l0 (.row (xs.length + 0) i.size)); rw [hset]; exact st.sim, .refl g w⟩
        rw [List.append_nil]
        cases rx with
        | sl st f h1 h2 h3 h4 h5 h6 h7 h8 => exact .sl st f h1 h2 h3 (fun b h => by cases h) h5 h6 h7 h8
      · rcases hspare with hspare | ⟨b, off, c, T, rfl, ho, hh, hcs, hlim⟩
        · omega
        obtain ⟨k1, k2, k3, k4⟩ := place_sim st.sim (m := ys.length) hl hrow1 (by omega) ho hh hcs hlim cy ly
        have hfit : off + xs.length * i.size + cy.length ≤ c.size := by rw [ly]; have := Nat.add_mul xs.length ys.length i.size; omega
        have run := run_append_room_src (P := P) w t tx ty e i hu hi b off xs.length cap _ ys.length cy src (by omega)
          (fun j hj => by have : off + xs.length * i.size + j < c.size := by omega
                          simp [World.cell?, hh, this]) (fun j hj => by simp [World.frozen?, hh])
        rw [setCells_eq hh hfit oy] at run
        obtain ⟨cx, lx, ox, atx, nex, rpx⟩ := sl_flat rx hsx
        refine ⟨_, _, _, hrun _ _ run, ?_, k1, k2⟩
        refine rep_of_flat (sz := i.size) (cx ++ cy) (by rw [List.length_append]) (by omega) (fun e => by cases e) ?_ ?_ ?_ ?_
        · intro x hx
          rcases List.mem_append.1 hx with h | h
          · exact hsx x h
          · exact hsy x h
        · intro k u hk
          refine ⟨_, rfl, ?_⟩
          by_cases hkl : k < cx.length
          · rw [List.getElem?_append_left hkl] at hk
            exact k2.1.cell _ _ (atx _ rfl k u hk)
          · rw [List.getElem?_append_right (by omega)] at hk
            have hlt := (List.getElem?_eq_some_iff.1 hk).1
            have := k3 _ u hk
            refine ⟨?_, ?_, oy u (List.mem_of_getElem? hk)⟩
            · rw [add_lit, ← this]
              congr 2; omega
            · rw [add_lit]
              simp only [upd_same]
              have := Nat.add_mul xs.length ys.length i.size
              omega
        · intro i' x hx j d hd
          obtain ⟨u, e1, e2⟩ := cat_rep (g := g) (w := w) lx hsx rpx rpy i' x hx j d hd
          exact ⟨u, e1, e2.mono k2.1⟩
        · exact ⟨xs.length + ys.length, .slice (some ⟨b, off, none⟩) (xs.length + ys.length) cap, by simp only [upd_same], Nat.le_refl _, fun _ => rfl⟩) rest
end ops
end Go.Abs
