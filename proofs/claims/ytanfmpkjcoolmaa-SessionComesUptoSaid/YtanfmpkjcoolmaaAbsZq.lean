/- Blocks of known capacity: made, written in place, at last a row. -/
import Derived.Test.YtanfmpkjcoolmaaAbsZp
set_option linter.unusedVariables false
set_option linter.unusedSimpArgs false
namespace Go.Abs
variable {P : Program} {N : Nat} {ops : Array Oper} {l : List Oper} {Q : Exit → Tm → List Ob → Prop} {tm : Tm} {S : List Ob}
theorem AOps.valueX {o : Oper} (hg : o.guard = none) (hd : dstOk N o.dst = true) {α : Type} {d : α → D} {S' : α → List Ob} {pre : α → Prop}
    (h : ∀ g a w, St N g tm S a w → ∃ x v g' w', pre x ∧ (execOp a.eval o).run P w = .ok (.value v) w' ∧ Rep g' w' v (d x) ∧ Sim g' w' (S' x) ∧ Later g w g' w')
    (rest : ∀ x, pre x → AOps P N ops l Q (putO tm o.dst (d x)) (S' x)) : AOps P N ops (o :: l) Q tm S := fun ro g a w st => by
  obtain ⟨x, v, g', w', hp, hr, hrep, hsim, hl⟩ := h g a w st
  unfold wpListIn
  rw [if_pos (by simp [Region.wanted, hg])]
  refine ⟨about_wide, ?_⟩
  rw [run_semAt hr (fun _ e => by cases e)]
  exact wpList_mono (fun e a' w2 k => Post.later hl k) _ _ _ (rest x hp ro g' _ w' ((st.later hl hsim).put (dstOk_lt hd) hrep))
section ops
variable {t : Tmp} {ty : TypeId} {pos : String} {after : Array Edge}
/-- append with no room left: a block of its own, of some capacity. -/
theorem n_append_bq {T tx e e' : TypeId} {x y : Operand} {sz bytes : Nat} {z : Value} {nl nl' : Option Bool} {xs ys : List (List D)} {c' : Cap} {n m : Nat} {fs : List D} (hd : Nat.blt t N = true) (hu : P.underlying T = some (.slice e)) (hux : P.underlying tx = some (.slice e')) (he : EI P e sz bytes z)
    (hx : ev tm x = .sl nl xs .full) (hy : ev tm y = .sl nl' ys c') (hsx : ∀ x ∈ xs, x.length = sz) (hsy : ∀ x ∈ ys, x.length = sz) (hroom : (xs.length + ys.length) * bytes ≤ 140737488355328) (hpos : 0 < ys.length) (hm : xs.length + ys.length = m) (hn : S.length = n) (hfs : (xs ++ ys).flatten = fs)
    (rest : ∀ cap, m ≤ cap → AOps P N ops l Q (put tm t (.bq n 0 m cap)) (S ++ [.box (fs ++ List.replicate ((cap - m) * sz) .any)])) : AOps P N ops (⟨some t, .call ⟨.builtin .append, #[x, y], #[T, tx]⟩, ty, pos, after, none⟩ :: l) Q tm S := by
  subst hm hn hfs
  refine AOps.valueX (o := ⟨some t, .call ⟨.builtin .append, #[x, y], #[T, tx]⟩, ty, pos, after, none⟩) rfl hd (α := Nat) (d := fun cap => D.bq S.length 0 (xs.length + ys.length) cap) (S' := fun cap => S ++ [Ob.box ((xs ++ ys).flatten ++ List.replicate ((cap - (xs.length + ys.length)) * sz) D.any)]) (pre := fun cap => xs.length + ys.length ≤ cap) (fun g a w st => ?_) (fun cap hc => rest cap hc)
  have rx := st.ev x
  rw [hx] at rx
  have ry := st.ev y
  rw [hy] at ry
  generalize hvx : a.eval x = vx at rx
  generalize hvy : a.eval y = vy at ry
  obtain ⟨ao, n, cap, rfl, hn, hcap, hnone⟩ : ∃ ao n cap, vx = .slice ao n cap ∧ xs.length = n ∧ cap = n ∧ (ao = none → cap = 0) := by cases rx with | sl st f h1 h2 h3 h4 h5 h6 h7 h8 => exact ⟨_, _, _, rfl, h1, h8, h3⟩
  have hrun : ∀ v' w', (Builtin.append_ #[T, tx] ty #[.slice ao n cap, vy]).run P w = .ok v' w' → (execOp a.eval (⟨some t, .call ⟨.builtin .append, #[x, y], #[T, tx]⟩, ty, pos, after, none⟩ : Oper)).run P w = .ok (.value v') w' := by
    intro v' w' h
    simp [execOp, resolve, invoke, builtin, hvx, hvy, h]
  obtain ⟨i, hi, hsz, hby, hz⟩ := he.info
  subst hsz hby
  obtain ⟨cx, lx, ox, atx, nex, rpx⟩ := sl_flat rx hsx
  obtain ⟨ao', n', cap', rfl⟩ : ∃ ao' n' cap', vy = .slice ao' n' cap' := by cases ry; exact ⟨_, _, _, rfl⟩
  obtain ⟨cy, ly, oy, aty, ney, rpy⟩ := sl_flat ry hsy
  have hn' : ys.length = n' := by cases ry with | sl st f h => exact h
  have h0x : ao = none → n = 0 := by cases rx with | sl st f h hc hno => intro e; have := hno e; omega
  have h0y : ao' = none → n' = 0 := by cases ry with | sl st f h hc hno => intro e; have := hno e; omega
  have hpos' : 0 < i.bytes := Nat.lt_of_succ_le (Nat.le_of_ble_eq_true he.pos)
  have hg : cap < n + n' := by omega
  have hroom' : (n + n') * i.bytes ≤ 140737488355328 := by rw [← hn, ← hn']; exact hroom
  have hle : n + n' ≤ 140737488355328 := Nat.le_trans (Nat.le_mul_of_pos_right _ hpos') hroom'
  have src : Src P i.size tx (.slice ao' n' cap') n' cy w := src_of hux h0y cy (by rw [ly, hn']) oy aty
  have run := run_append_grow_src (P := P) w T tx ty e i z hu hi hz ao n cap cx (run_firstCells_at (by rw [lx, hn]) h0x atx rfl) _ n' cy src hg (by omega) (growslice_fits hg hroom')
  have hge := grownCap_ge w (need := n + n') (old := cap) e
  obtain ⟨s1, s2⟩ := sim_drew st.sim
  have hfl : (xs ++ ys).flatten.length = (n + n') * i.size := by rw [flat_len (fun x hx => (List.mem_append.1 hx).elim (hsx x) (hsy x)), List.length_append, hn, hn']
  obtain ⟨k1, k2⟩ := newBoxLe s1 ((cx ++ cy).toArray ++ Builtin.zeroCells z.cells (grownCap w (n + n') cap e - (n + n'))) e ((xs ++ ys).flatten ++ List.replicate ((grownCap w (n + n') cap e - (n + n')) * i.size) .any)
    (by rw [List.length_append, hfl, List.length_replicate, Array.size_append, zeroCells_size, he.zsize]; simp only [List.size_toArray, List.length_append, lx, ly, hn, hn', Nat.add_mul]; omega)
    (fun k u d hu hd => by
      rcases Nat.lt_or_ge k (xs ++ ys).flatten.length with hk | hk
      · rw [List.getElem?_append_left hk] at hd
        have hlt := (List.getElem?_eq_some_iff.1 hd).1
        have hsz : ∀ x ∈ xs ++ ys, x.length = i.size := fun x hx => (List.mem_append.1 hx).elim (hsx x) (hsy x)
        have h0 : 0 < i.size := by
          rw [flat_len hsz] at hlt
          rcases Nat.eq_zero_or_pos i.size with h | h
          · rw [h] at hlt; simp at hlt
          · exact h
        obtain ⟨x, h1, h2⟩ := flat_inv h0 hsz hd
        obtain ⟨u', e1, e2⟩ := cat_rep (g := g) (w := w) lx hsx rpx rpy _ x h1 _ d h2
        rw [Nat.div_add_mod'] at e1
        have hlt2 := (List.getElem?_eq_some_iff.1 e1).1
        rw [Array.getElem?_append_left (by simpa using hlt2), List.getElem?_toArray, e1] at hu
        cases hu
        exact e2.mono s2.1
      · rw [List.getElem?_append_right hk] at hd
        have := List.eq_of_mem_replicate (List.mem_of_getElem? hd)
        subst this; exact .any _)
  refine ⟨grownCap w (n + n') cap e, _, gBox g S.length w.heap.size, _, by rw [hn, hn']; exact hge, hrun _ _ run, ?_, ?_, s2.trans k2⟩
  · rw [hn, hn']
    exact .bq (by simp [gBox, upd_same]) hge
  · rw [hn, hn']; exact k1
theorem n_bqLen {T e : TypeId} {x : Operand} {l0 o n cap : Nat} {m : Int} (hd : Nat.blt t N = true) (hu : P.underlying T = some (.slice e)) (hx : ev tm x = .bq l0 o n cap) (hm : (n : Int) = m)
    (rest : AOps P N ops l Q (put tm t (.val (.int .i64 m))) S) : AOps P N ops (⟨some t, .call ⟨.builtin .len, #[x], #[T]⟩, ty, pos, after, none⟩ :: l) Q tm S := by
  subst hm
  exact AOps.still (o := ⟨some t, .call ⟨.builtin .len, #[x], #[T]⟩, ty, pos, after, none⟩) rfl hd (fun g a w st => by
    have r := st.ev x
    rw [hx] at r
    generalize hvx : a.eval x = v at r
    cases r with
    | bq h1 h2 =>
      refine ⟨_, ?_, .val _⟩
      simp [execOp, resolve, invoke, builtin, hvx, Builtin.len_, run_underlying hu, goInt]) rest
theorem n_bqIndexAddr {T e : TypeId} {x y : Operand} {sz : Nat} {ag : Bool} {l0 o n cap q : Nat} {k : IntKind} {i : Int} (hd : Nat.blt t N = true)
    (hu : P.underlying T = some (.slice e)) (ht : TI P e sz ag) (hx : ev tm x = .bq l0 o n cap) (hy : ev tm y = .val (.int k i)) (h0 : 0 ≤ i) (hi : i < (n : Int)) (hq : o + i.toNat * sz = q)
    (rest : AOps P N ops l Q (put tm t (.bp l0 q)) S) : AOps P N ops (⟨some t, .indexAddr T x y, ty, pos, after, none⟩ :: l) Q tm S := by
  subst hq
  exact AOps.still (o := ⟨some t, .indexAddr T x y, ty, pos, after, none⟩) rfl hd (fun g a w st => by
    have r := st.ev x
    rw [hx] at r
    have ey := st.ev y
    rw [hy] at ey
    have ey := ey.val_inv
    generalize hvx : a.eval x = v at r
    cases r with
    | bq h1 h2 =>
      rename_i b
      refine ⟨.pointer (some ⟨b, o + i.toNat * sz, none⟩), ?_, .bp h1⟩
      have : 0 ≤ i ∧ i < (n : Int) := ⟨h0, hi⟩
      simp [execOp, hvx, ey, Instr.indexAt, asIntOf, run_underlying hu, this, ht.sizeOf, add_lit]) rest
theorem n_bqSlice {T e : TypeId} {x : Operand} {lo hi : Option Operand} {sz k h : Nat} {ag : Bool} {l0 o n cap q : Nat} (hd : Nat.blt t N = true)
    (hu : P.underlying T = some (.slice e)) (ht : TI P e sz ag) (hx : ev tm x = .bq l0 o n cap) (hhi : SB tm hi n h) (hlo : SB tm lo 0 k) (h1 : k ≤ h) (h2 : h ≤ cap) (hn : hi = none → h ≤ n) (hq : (if cap = k then o else o + k * sz) = q)
    (rest : AOps P N ops l Q (put tm t (.bq l0 q (h - k) (cap - k))) S) : AOps P N ops (⟨some t, .slice T x lo hi none, ty, pos, after, none⟩ :: l) Q tm S := by
  subst hq
  exact AOps.still (o := ⟨some t, .slice T x lo hi none, ty, pos, after, none⟩) rfl hd (fun g a w st => by
    have r := st.ev x
    rw [hx] at r
    generalize hvx : a.eval x = v at r
    cases r with
    | bq q1 q2 =>
      rename_i b
      have hval : (if cap = k then some (⟨b, o, none⟩ : Addr) else some (⟨b, o + k * sz, none⟩ : Addr)) = some ⟨b, if cap = k then o else o + k * sz, none⟩ := by
        split <;> rfl
      refine ⟨.slice (some ⟨b, if cap = k then o else o + k * sz, none⟩) (h - k) (cap - k), ?_, .bq q1 (by omega)⟩
      have hbl : ∀ w, (Instr.sliceBounds true n cap (lo.map a.eval) (hi.map a.eval) none).run P w = .ok (k, h, cap) w := by
        intro w
        cases hi with
        | none =>
          simp only [SB] at hhi
          have hn := hn rfl
          cases lo with
          | none => simp only [SB] at hlo; simp [Instr.sliceBounds, hhi, hlo]
          | some y =>
            obtain ⟨kd, m, e1, e2⟩ := hlo
            have ey := st.ev y; rw [e1] at ey; have ey := ey.val_inv; subst e2
            simp [Instr.sliceBounds, hhi, ey, run_sliceBound kd k n _ (by omega : k ≤ n)]
        | some z =>
          obtain ⟨kd', m', e1', e2'⟩ := hhi
          have ez := st.ev z; rw [e1'] at ez; have ez := ez.val_inv; subst e2'
          cases lo with
          | none => simp only [SB] at hlo; simp [Instr.sliceBounds, hlo, ez, run_sliceBound kd' h cap _ h2]
          | some y =>
            obtain ⟨kd, m, e1, e2⟩ := hlo
            have ey := st.ev y; rw [e1] at ey; have ey := ey.val_inv; subst e2
            simp [Instr.sliceBounds, ez, ey, run_sliceBound kd' h cap _ h2, run_sliceBound kd k h _ h1]
      simp only [execOp, hvx, Instr.sliceAt, Instr.slice, run_underlying hu, hbl, ht.sizeOf, Sem.run_bind, Result.andThen_ok, Option.map_some, Option.map_none, add_lit, Sem.run_pure, hval]) rest
theorem n_bqSlice3 {T e : TypeId} {x : Operand} {lo : Option Operand} {hi mx : Operand} {sz k h m : Nat} {ag : Bool} {l0 o n cap : Nat} (hd : Nat.blt t N = true)
    (hu : P.underlying T = some (.slice e)) (ht : TI P e sz ag) (hx : ev tm x = .bq l0 o n cap) (hhi : SB tm (some hi) 0 h) (hmx : SB tm (some mx) 0 m) (hlo : SB tm lo 0 k) (h1 : k ≤ h) (h2 : h ≤ m) (h3 : m ≤ cap)
    (rest : AOps P N ops l Q (put tm t .any) S) : AOps P N ops (⟨some t, .slice T x lo (some hi) (some mx), ty, pos, after, none⟩ :: l) Q tm S :=
  AOps.still (o := ⟨some t, .slice T x lo (some hi) (some mx), ty, pos, after, none⟩) rfl hd (fun g a w st => by
    have r := st.ev x
    rw [hx] at r
    generalize hvx : a.eval x = v at r
    cases r with
    | bq q1 q2 =>
      rename_i b
      obtain ⟨kd', m', e1', e2'⟩ := hhi
      have ez := st.ev hi; rw [e1'] at ez; have ez := ez.val_inv; subst e2'
      obtain ⟨kd2, m2, e12, e22⟩ := hmx
      have em := st.ev mx; rw [e12] at em; have em := em.val_inv; subst e22
      have hbl : ∀ w, (Instr.sliceBounds true n cap (lo.map a.eval) (some (a.eval hi)) (some (a.eval mx))).run P w = .ok (k, h, m) w := by
        intro w
        cases lo with
        | none => simp only [SB] at hlo; simp [Instr.sliceBounds, hlo, ez, em, run_sliceBound kd' h m _ h2, run_sliceBound kd2 m cap _ h3]
        | some y =>
          obtain ⟨kd, m1, e1, e2⟩ := hlo
          have ey := st.ev y; rw [e1] at ey; have ey := ey.val_inv; subst e2
          simp [Instr.sliceBounds, ez, ey, em, run_sliceBound kd' h m _ h2, run_sliceBound kd2 m cap _ h3, run_sliceBound kd k h _ h1]
      refine ⟨.slice (if m = k then some ⟨b, o, none⟩ else (some (⟨b, o, none⟩ : Addr)).map (·.add (k * sz))) (h - k) (m - k), ?_, .any _⟩
      simp only [execOp, hvx, Instr.sliceAt, Instr.slice, run_underlying hu, hbl, ht.sizeOf, Sem.run_bind, Result.andThen_ok, Option.map_some, Sem.run_pure]) rest
end ops
end Go.Abs
