/- Slices into variables' blocks: written in place. -/
import Derived.Test.YtanfmpkjcoolmaaGreatAbsZf
set_option linter.unusedVariables false
set_option linter.unusedSimpArgs false
namespace Go.Abs
variable {P : Program} {N : Nat} {ops : Array Oper} {l : List Oper} {Q : Exit → Tm → List Ob → Prop} {tm : Tm} {S : List Ob}

/-- The cells of elements, one behind the other. -/
theorem flat_get {sz : Nat} : ∀ {xs : List (List D)} (h : ∀ x ∈ xs, x.length = sz) {i j : Nat} {x : List D} {d : D}, xs[i]? = some x → x[j]? = some d → xs.flatten[i * sz + j]? = some d
  | [], _, i, j, x, d, hx, _ => by simp at hx
  | y :: ys, h, i, j, x, d, hx, hd => by
    have hy : y.length = sz := h y (by simp)
    rw [List.flatten_cons]
    cases i with
    | zero =>
      simp only [List.getElem?_cons_zero, Option.some.injEq] at hx
      subst hx
      have := (List.getElem?_eq_some_iff.1 hd).1
      rw [List.getElem?_append_left (by omega), Nat.zero_mul, Nat.zero_add]; exact hd
    | succ i =>
      have hx' : ys[i]? = some x := by simpa using hx
      rw [Nat.add_mul, Nat.one_mul, List.getElem?_append_right (by omega), show i * sz + sz + j - y.length = i * sz + j by omega]
      exact flat_get (fun x hx => h x (by simp [hx])) hx' hd
theorem flat_len {sz : Nat} : ∀ {xs : List (List D)} (h : ∀ x ∈ xs, x.length = sz), xs.flatten.length = xs.length * sz
  | [], _ => by simp
  | y :: ys, h => by
    rw [List.flatten_cons, List.length_append, flat_len (fun x hx => h x (by simp [hx])), h y (by simp), List.length_cons, Nat.add_mul]; omega
theorem flat_inv {sz : Nat} (h0 : 0 < sz) {xs : List (List D)} (h : ∀ x ∈ xs, x.length = sz) {k : Nat} {d : D} (hk : xs.flatten[k]? = some d) : ∃ x, xs[k / sz]? = some x ∧ x[k % sz]? = some d := by
  have hlt := (List.getElem?_eq_some_iff.1 hk).1
  rw [flat_len h] at hlt
  have hi : k / sz < xs.length := by rw [Nat.div_lt_iff_lt_mul h0]; exact hlt
  have hm : k % sz < sz := Nat.mod_lt _ h0
  have hx := h xs[k / sz] (List.getElem_mem hi)
  have e1 : xs[k / sz]? = some xs[k / sz] := List.getElem?_eq_getElem hi
  have e2 : (xs[k / sz])[k % sz]? = some ((xs[k / sz])[k % sz]'(by omega)) := List.getElem?_eq_getElem (by omega)
  have := flat_get h e1 e2
  rw [Nat.div_add_mod', hk] at this
  exact ⟨_, e1, by rw [e2, this]⟩

theorem sim_drew {g : G} {w : World} (hs : Sim g w S) : Sim g w.drew S ∧ Later g w g w.drew := by
  have hle : Le g w g w.drew := ⟨fun a v h => h, fun _ _ h => h, fun _ n h e => ⟨n, h, e, .inr ⟨rfl, rfl⟩⟩⟩
  exact ⟨⟨fun l ob h => (hs.obs l ob h).keep hle ⟨Nat.le_refl _, rfl, rfl, rfl⟩ (fun b ho => ⟨rfl, rfl, ho⟩) (fun n h e => e) (fun e2 => ⟨e2, fun e1 => e1⟩), hs.noEta, hs.noRow, hs.own, hs.lim⟩,
    hle, ⟨Nat.le_refl _, rfl, rfl, rfl, fun b _ h => ⟨rfl, rfl, h⟩, fun _ _ _ h => h, rfl⟩⟩

section ops
variable {dst : Option Tmp} {t' : Tmp} {ty : TypeId} {pos : String} {after : Array Edge}

/-- append with no room left: its block taken as a variable's. -/
theorem op_append_box {t tx e e' : TypeId} {x y : Operand} {sz bytes : Nat} {z : Value} {nl nl' : Option Bool} {xs ys : List (List D)} {c' : Cap} (hd : dstOk N dst = true) (hu : P.underlying t = some (.slice e)) (hux : P.underlying tx = some (.slice e')) (he : EI P e sz bytes z)
    (hx : ev tm x = .sl nl xs .full) (hy : ev tm y = .sl nl' ys c') (hsx : ∀ x ∈ xs, x.length = sz) (hsy : ∀ x ∈ ys, x.length = sz) (hroom : (xs.length + ys.length) * bytes ≤ 140737488355328) (hpos : 0 < ys.length)
    (rest : AOps P N ops l Q (putO tm dst (.bs S.length 0 (xs.length + ys.length))) (S ++ [.box (xs ++ ys).flatten])) : AOps P N ops (⟨dst, .call ⟨.builtin .append, #[x, y], #[t, tx]⟩, ty, pos, after, none⟩ :: l) Q tm S :=
  .value rfl hd (fun g a w st => by
    have rx := st.ev x
    rw [hx] at rx
    have ry := st.ev y
    rw [hy] at ry
    generalize hvx : a.eval x = vx at rx
    generalize hvy : a.eval y = vy at ry
    obtain ⟨ao, n, cap, rfl, hn, hcap, hnone⟩ : ∃ ao n cap, vx = .slice ao n cap ∧ xs.length = n ∧ cap = n ∧ (ao = none → cap = 0) := by cases rx with | sl st f h1 h2 h3 h4 h5 h6 h7 h8 => exact ⟨_, _, _, rfl, h1, h8, h3⟩
    have hrun : ∀ v' w', (Builtin.append_ #[t, tx] ty #[.slice ao n cap, vy]).run P w = .ok v' w' → (execOp a.eval (⟨dst, .call ⟨.builtin .append, #[x, y], #[t, tx]⟩, ty, pos, after, none⟩ : Oper)).run P w = .ok (.value v') w' := by
      intro v' w' h
      simp [execOp, resolve, invoke, builtin, hvx, hvy, h]
    obtain ⟨i, hi, hsz, hby, hz⟩ := he.info
    subst hsz hby
    obtain ⟨cx, lx, ox, atx, nex, rpx⟩ := sl_flat rx hsx
    obtain ⟨ao', n', cap', rfl⟩ : ∃ ao' n' cap', vy = .slice ao' n' cap' := by cases ry; exact ⟨_, _, _, rfl⟩
    obtain ⟨cy, ly, oy, aty, ney, rpy⟩ := sl_flat ry hsy
    have hn' : ys.length = n' := by cases ry with | sl st f h => exact h
    have h0x : ao = none → n = 0 := by cases rx with | sl st f h hc hno => intro e; have := hno e; omega
    have h0y : ao' = none → n' = 0 := by cases ry with | sl st f h hc hno => intro e; have := hno e; omega
    have hpos' : 0 < i.bytes := Nat.lt_of_succ_le (Nat.le_of_ble_eq_true he.pos)
    have hg : cap < n + n' := by omega
    have hroom' : (n + n') * i.bytes ≤ 140737488355328 := by rw [← hn, ← hn']; exact hroom
    have hle : n + n' ≤ 140737488355328 := Nat.le_trans (Nat.le_mul_of_pos_right _ hpos') hroom'
    have src : Src P i.size tx (.slice ao' n' cap') n' cy w := src_of hux h0y cy (by rw [ly, hn']) oy aty
    have run := run_append_grow_src (P := P) w t tx ty e i z hu hi hz ao n cap cx (run_firstCells_at (by rw [lx, hn]) h0x atx rfl) _ n' cy src hg (by omega) (growslice_fits hg hroom')
    have hge := grownCap_ge w (need := n + n') (old := cap) e
    obtain ⟨s1, s2⟩ := sim_drew st.sim
    obtain ⟨k1, k2⟩ := newBoxLe s1 ((cx ++ cy).toArray ++ Builtin.zeroCells z.cells (grownCap w (n + n') cap e - (n + n'))) e ((xs ++ ys).flatten)
      (by rw [flat_len (fun x hx => (List.mem_append.1 hx).elim (hsx x) (hsy x))]; simp only [Array.size_append, List.size_toArray, List.length_append, lx, ly, Nat.add_mul]; omega)
      (fun k u d hu hd => by
        have hlt := (List.getElem?_eq_some_iff.1 hd).1
        have hsz : ∀ x ∈ xs ++ ys, x.length = i.size := fun x hx => (List.mem_append.1 hx).elim (hsx x) (hsy x)
        have h0 : 0 < i.size := by
          rw [flat_len hsz] at hlt
          rcases Nat.eq_zero_or_pos i.size with h | h
          · rw [h] at hlt; simp at hlt
          · exact h
        obtain ⟨x, h1, h2⟩ := flat_inv h0 hsz hd
        obtain ⟨u', e1, e2⟩ := cat_rep (g := g) (w := w) lx hsx rpx rpy _ x h1 _ d h2
        rw [Nat.div_add_mod'] at e1
        have hlt2 := (List.getElem?_eq_some_iff.1 e1).1
        rw [Array.getElem?_append_left (by simpa using hlt2), List.getElem?_toArray, e1] at hu
        cases hu
        exact e2.mono s2.1)
    refine ⟨_, gBox g S.length w.heap.size, _, hrun _ _ run, ?_, k1, s2.trans k2⟩
    rw [← hn, ← hn'] at hge ⊢
    exact .bs (by simp [gBox, upd_same]) hge) rest

theorem op_bsLen {t e : TypeId} {x : Operand} {l0 o n : Nat} (hd : dstOk N dst = true) (hu : P.underlying t = some (.slice e)) (hx : ev tm x = .bs l0 o n)
    (rest : AOps P N ops l Q (putO tm dst (.val (.int .i64 (n : Int)))) S) : AOps P N ops (⟨dst, .call ⟨.builtin .len, #[x], #[t]⟩, ty, pos, after, none⟩ :: l) Q tm S :=
  .still rfl hd (fun g a w st => by
    have r := st.ev x
    rw [hx] at r
    generalize hvx : a.eval x = v at r
    cases r with
    | bs h1 h2 =>
      refine ⟨_, ?_, .val _⟩
      simp [execOp, resolve, invoke, builtin, hvx, Builtin.len_, run_underlying hu, goInt]) rest

theorem op_bsIndexAddr {t e : TypeId} {x y : Operand} {sz : Nat} {ag : Bool} {l0 o n : Nat} {k : IntKind} {i : Int} (hd : dstOk N dst = true)
    (hu : P.underlying t = some (.slice e)) (ht : TI P e sz ag) (hx : ev tm x = .bs l0 o n) (hy : ev tm y = .val (.int k i)) (h0 : 0 ≤ i) (hi : i < (n : Int))
    (rest : AOps P N ops l Q (putO tm dst (.bp l0 (o + i.toNat * sz))) S) : AOps P N ops (⟨dst, .indexAddr t x y, ty, pos, after, none⟩ :: l) Q tm S :=
  .still rfl hd (fun g a w st => by
    have r := st.ev x
    rw [hx] at r
    have ey := st.ev y
    rw [hy] at ey
    have ey := ey.val_inv
    generalize hvx : a.eval x = v at r
    cases r with
    | bs h1 h2 =>
      rename_i b cap
      refine ⟨.pointer (some ⟨b, o + i.toNat * sz, none⟩), ?_, .bp h1⟩
      have : 0 ≤ i ∧ i < (n : Int) := ⟨h0, hi⟩
      simp [execOp, hvx, ey, Instr.indexAt, asIntOf, run_underlying hu, this, ht.sizeOf, add_lit]) rest

end ops

/-- What is lent to a call that only reads. -/
inductive Peek (l : Nat) (cs : List D) : D → D → Prop
  | ren {d d' : D} (h : Ren (fun _ _ => False) (fun _ _ => False) d d') : Peek l cs d d'
  | bs {o n sz : Nat} {xs : List (List D)} {a b : List D} (hcs : cs = a ++ xs.flatten ++ b) (ho : a.length = o) (hn : xs.length = n) (hsz : ∀ x ∈ xs, x.length = sz) (hone : ∀ x ∈ xs, ∀ d ∈ x, d.one = true) (hlf : ∀ x ∈ xs, ∀ d ∈ x, LF d) : Peek l cs (.bs l o n) (.sl none xs .ro)
  | agg {as bs : List D} (hl : as.length = bs.length) (h : ∀ (i : Nat) (x y : D), as[i]? = some x → bs[i]? = some y → Peek l cs x y) : Peek l cs (.agg as) (.agg bs)
def G.show (g : G) (b n : Nat) : G := { g.sub [] with lim := fun x => if x = b then n else g.lim x }
theorem Peek.rep {g : G} {w : World} {l b : Nat} {cs : List D} {c : Array Value} {T : TypeId} (he : g.eta l = some b) (hh : w.heap[b]? = some (.cells c T (0, 0))) (hsz : cs.length ≤ c.size) (hlim : g.lim b = 0)
    (hrep : ∀ (i : Nat) (v : Value) (d : D), c[i]? = some v → cs[i]? = some d → Rep g w v d) {d d' : D} (h : Peek l cs d d') : ∀ {v : Value}, Rep g w v d → Rep (g.show b c.size) w v d' := by
  have hle : Le (g.sub []) w (g.show b c.size) w := by
    refine ⟨fun ad v hv => ⟨hv.1, ?_, hv.2.2⟩, fun l b h => h, fun l n x e => ⟨n, x, e, .inr ⟨rfl, rfl⟩⟩⟩
    simp only [G.show]
    have h2 : ad.off < g.lim ad.block := hv.2.1
    split
    · rename_i h; rw [h, hlim] at h2; omega
    · exact h2
  have hmono : ∀ {v : Value} {d : D}, LF d → Rep g w v d → Rep (g.show b c.size) w v d := fun h r => (Rep.lf (g := g) (g' := g.sub []) rfl r h).mono hle
  induction h with
  | ren h => exact fun r => (Ren.rep (g := g) (g' := g.sub []) rfl (fun _ _ h => h.elim) (fun _ _ h => h.elim) h r).mono hle
  | bs hcs ho hn hsz2 hone hlf =>
    rename_i o n sz xs a b'
    intro v r
    cases r with
    | bs q1 q2 =>
      rw [he] at q1; cases q1
      have hxl : xs.flatten.length = xs.length * sz := flat_len hsz2
      have key : ∀ (i : Nat) (x : List D), xs[i]? = some x → ∀ (j : Nat) (d : D), x[j]? = some d → ∃ u, c[o + (i * sz + j)]? = some u ∧ Rep g w u d := fun i x hx j d hd => by
        have h1 := flat_get hsz2 hx hd
        have h1l := (List.getElem?_eq_some_iff.1 h1).1
        have h2 : cs[o + (i * sz + j)]? = some d := by
          rw [hcs, List.append_assoc, List.getElem?_append_right (by omega), ho, Nat.add_sub_cancel_left, List.getElem?_append_left h1l]; exact h1
        have h3 : o + (i * sz + j) < c.size := Nat.lt_of_lt_of_le (List.getElem?_eq_some_iff.1 h2).1 hsz
        exact ⟨_, Array.getElem?_eq_getElem h3, hrep _ _ _ (Array.getElem?_eq_getElem h3) h2⟩
      refine .sl sz (fun i j => c.getD (o + (i * sz + j)) undef) hn q2 (fun e => by cases e) (fun b h => by cases h) hsz2 (fun i x hx j d hd => ?_) (fun i x hx j d hd => ?_) trivial
      · obtain ⟨u, k1, k2⟩ := key i x hx j d hd
        have e2 : c.getD (o + (i * sz + j)) undef = u := by rw [Array.getD_eq_getD_getElem?, k1]; rfl
        refine ⟨_, rfl, ?_, ?_, ?_⟩
        · rw [add_lit, e2]; simp only [World.cell?, hh]; simpa using k1
        · rw [add_lit]; simp only [G.show, if_true]; exact (Array.getElem?_eq_some_iff.1 k1).1
        · rw [e2]; exact rep_one k2 (hone x (List.mem_of_getElem? hx) d (List.mem_of_getElem? hd))
      · obtain ⟨u, k1, k2⟩ := key i x hx j d hd
        have e2 : c.getD (o + (i * sz + j)) undef = u := by rw [Array.getD_eq_getD_getElem?, k1]; rfl
        rw [e2]; exact hmono (hlf x (List.mem_of_getElem? hx) d (List.mem_of_getElem? hd)) k2
  | agg hl h ih =>
    intro v r
    cases r with
    | agg hs hrep' => exact .agg (by omega) (fun i v d h1 h2 => by obtain ⟨x, hx⟩ := get_pair hl h2; exact ih i x d hx h2 (hrep' i v x h1 hx))
mutual
theorem flat_rep {g g' : G} {w w' : World} : ∀ {d : D} {v : Value}, d.flat = true → Rep g w v d → Rep g' w' v d
  | .any, v, _, r => .any v
  | .val u, v, _, r => by cases r; exact .val _
  | .agg ds, v, h, r => by
    cases r with
    | agg hs hrep => exact .agg hs (fun i u d h1 h2 => flats_rep (by simpa [D.flat] using h) (hrep i u d h1 h2) (List.mem_of_getElem? h2))
  | .tup ds, v, h, r => by
    cases r with
    | tup hs hrep => exact .tup hs (fun i u d h1 h2 => flats_rep (by simpa [D.flat] using h) (hrep i u d h1 h2) (List.mem_of_getElem? h2))
  | .sl .., v, h, r => by simp [D.flat] at h
  | .rp .., v, h, r => by simp [D.flat] at h
  | .bp .., v, h, r => by simp [D.flat] at h
  | .bs .., v, h, r => by simp [D.flat] at h
  | .bq .., v, h, r => by simp [D.flat] at h
  | .fn .., v, h, r => by simp [D.flat] at h
theorem flats_rep {g g' : G} {w w' : World} : ∀ {ds : List D} {d : D} {v : Value}, flats ds = true → Rep g w v d → d ∈ ds → Rep g' w' v d
  | [], d, v, _, _, h => by cases h
  | e :: es, d, v, h, r, hm => by
    rw [flats, Bool.and_eq_true] at h
    rcases List.mem_cons.1 hm with e1 | e1
    · rw [e1] at r ⊢; exact flat_rep h.1 r
    · exact flats_rep h.2 r e1
end
end Go.Abs
