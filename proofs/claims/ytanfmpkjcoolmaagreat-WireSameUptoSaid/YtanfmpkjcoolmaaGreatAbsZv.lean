/- Calls that only read what is lent, where blocks hold slices of other blocks. -/
import Derived.Test.YtanfmpkjcoolmaaGreatAbsZu
set_option linter.unusedVariables false
set_option linter.unusedSimpArgs false
namespace Go.Abs
variable {P : Program} {N : Nat} {ops : Array Oper} {l : List Oper} {Q : Exit → Tm → List Ob → Prop} {tm : Tm} {S : List Ob}
inductive PeekM (S : List Ob) : D → D → Prop
  | ren {d d' : D} (h : Ren (fun _ _ => False) (fun _ _ => False) d d') : PeekM S d d'
  | bs {l n sz : Nat} {cs b : List D} {ys xs : List (List D)} (hl : S[l]? = some (.box cs)) (hcs : cs = ys.flatten ++ b) (hn : ys.length = n) (hxy : xs.length = ys.length) (hsz : ∀ y ∈ ys, y.length = sz) (hsx : ∀ x ∈ xs, x.length = sz)
      (hone : ∀ x ∈ xs, ∀ d ∈ x, d.one = true) (h : ∀ (i j : Nat) (y x : List D) (d e : D), ys[i]? = some y → xs[i]? = some x → y[j]? = some d → x[j]? = some e → PeekM S d e) : PeekM S (.bs l 0 n) (.sl none xs .ro)
  | agg {as bs : List D} (hl : as.length = bs.length) (h : ∀ (i : Nat) (x y : D), as[i]? = some x → bs[i]? = some y → PeekM S x y) : PeekM S (.agg as) (.agg bs)
def Shown (S : List Ob) (g : G) (x : Nat) : Prop := ∃ l cs, S[l]? = some (.box cs) ∧ g.eta l = some x
theorem shown_lim {g : G} {w : World} (hs : Sim g w S) {x : Nat} (h : Shown S g x) : g.lim x = 0 ∧ ∃ c T, w.heap[x]? = some (.cells c T (0, 0)) := by
  obtain ⟨l, cs, hl, he⟩ := h
  obtain ⟨b, c, T, e1, e2, e3, e4, e5, e6⟩ := hs.obs l _ hl
  rw [he] at e1; cases e1
  exact ⟨e5.1, c, T, e3⟩
/-- All that lies in boxes is shown. -/
theorem show_all {g : G} {w : World} (hs : Sim g w S) : ∃ lim : Nat → Nat, (∀ x, ¬ Shown S g x → lim x = g.lim x) ∧ ∀ x, Shown S g x → ∀ c T o, w.heap[x]? = some (.cells c T o) → lim x = c.size := by
  have key : ∀ x, ∃ n : Nat, (¬ Shown S g x → n = g.lim x) ∧ (Shown S g x → ∀ c T o, w.heap[x]? = some (.cells c T o) → n = c.size) := fun x => by
    by_cases h : Shown S g x
    · obtain ⟨_, c, T, e⟩ := shown_lim hs h
      exact ⟨c.size, fun k => absurd h k, fun _ c' T' o' e' => by rw [e] at e'; cases e'; rfl⟩
    · exact ⟨g.lim x, fun _ => rfl, fun k => absurd k h⟩
  obtain ⟨f, hf⟩ := Classical.skolem.1 key
  exact ⟨f, fun x => (hf x).1, fun x => (hf x).2⟩
theorem PeekM.rep {g : G} {w : World} (hs : Sim g w S) {lim : Nat → Nat} (h1 : ∀ x, ¬ Shown S g x → lim x = g.lim x) (h2 : ∀ x, Shown S g x → ∀ c T o, w.heap[x]? = some (.cells c T o) → lim x = c.size) {d d' : D} (h : PeekM S d d') : ∀ {v : Value}, Rep g w v d → Rep { g.sub [] with lim := lim } w v d' := by
  have hle : Le (g.sub []) w { g.sub [] with lim := lim } w := by
    refine ⟨fun ad v hv => ⟨hv.1, ?_, hv.2.2⟩, fun l b h => h, fun l n x e => ⟨n, x, e, .inr ⟨rfl, rfl⟩⟩⟩
    have h3 : ad.off < g.lim ad.block := hv.2.1
    show ad.off < lim ad.block
    by_cases k : Shown S g ad.block
    · rw [(shown_lim hs k).1] at h3; omega
    · rw [h1 _ k]; exact h3
  induction h with
  | ren h => exact fun r => (Ren.rep (g := g) (g' := g.sub []) rfl (fun _ _ h => h.elim) (fun _ _ h => h.elim) h r).mono hle
  | bs hl hcs hn hxy hsz hsx hone h ih =>
    rename_i l n sz cs b' ys xs
    intro v r
    obtain ⟨b, c, T, he, ho, hh, hsz0, hlim, hrepb⟩ := hs.obs l _ hl
    cases r with
    | bs q1 q2 =>
      rw [he] at q1; cases q1
      have hlb : lim b = c.size := h2 b ⟨l, cs, hl, he⟩ c T _ hh
      have key : ∀ (i : Nat) (x : List D), xs[i]? = some x → ∀ (j : Nat) (d : D), x[j]? = some d → ∃ u, c[0 + (i * sz + j)]? = some u ∧ Rep { g.sub [] with lim := lim } w u d := fun i x hx j d hd => by
        obtain ⟨y, hy⟩ := get_pair hxy.symm hx
        have hxl := hsx x (List.mem_of_getElem? hx)
        have hyl := hsz y (List.mem_of_getElem? hy)
        obtain ⟨e, he2⟩ := get_pair (show y.length = x.length by omega) hd
        have h1 := flat_get hsz hy he2
        have h1l := (List.getElem?_eq_some_iff.1 h1).1
        have h2 : cs[0 + (i * sz + j)]? = some e := by rw [hcs, Nat.zero_add, List.getElem?_append_left h1l]; exact h1
        have h3 : 0 + (i * sz + j) < c.size := Nat.lt_of_lt_of_le (List.getElem?_eq_some_iff.1 h2).1 hsz0
        exact ⟨_, Array.getElem?_eq_getElem h3, ih i j y x e d hy hx he2 hd (hrepb _ _ _ (Array.getElem?_eq_getElem h3) h2)⟩
      refine .sl sz (fun i j => c.getD (0 + (i * sz + j)) undef) (by omega) q2 (fun e => by cases e) (fun b h => by cases h) hsx (fun i x hx j d hd => ?_) (fun i x hx j d hd => ?_) trivial
      · obtain ⟨u, k1, k2⟩ := key i x hx j d hd
        have e2 : c.getD (0 + (i * sz + j)) undef = u := by rw [Array.getD_eq_getD_getElem?, k1]; rfl
        refine ⟨_, rfl, ?_, ?_, ?_⟩
        · rw [add_lit, e2]; simp only [World.cell?, hh]; simpa using k1
        · rw [add_lit]; show _ < lim b; rw [hlb]; exact (Array.getElem?_eq_some_iff.1 k1).1
        · rw [e2]; exact rep_one k2 (hone x (List.mem_of_getElem? hx) d (List.mem_of_getElem? hd))
      · obtain ⟨u, k1, k2⟩ := key i x hx j d hd
        have e2 : c.getD (0 + (i * sz + j)) undef = u := by rw [Array.getD_eq_getD_getElem?, k1]; rfl
        rw [e2]; exact k2
  | agg hl h ih =>
    intro v r
    cases r with
    | agg hs hrep' => exact .agg (by omega) (fun i v d h1 h2 => by obtain ⟨x, hx⟩ := get_pair hl h2; exact ih i x d hx h2 (hrep' i v x h1 hx))
section ops
variable {t : Tmp} {ty : TypeId} {pos : String} {after : Array Edge}
theorem n_callPeekM {fo : Operand} {as : Array Operand} {ts : Array TypeId} {f : FuncId} {fi ca args : List D} {ds : List D} {r : D} (hd : Nat.blt t N = true) (hcf : CF P f) (hf : ev tm fo = .fn (.func f) fi ca)
    (ha : fi ++ as.toList.map (ev tm) ++ ca = args) (hlen : args.length = ds.length) (hargs : ∀ (i : Nat) (x y : D), args[i]? = some x → ds[i]? = some y → PeekM S x y) (h : Does P f ds [] r []) (hr : r.flat = true)
    (rest : AOps P N ops l Q (put tm t r) S) : AOps P N ops (⟨some t, .call ⟨.value fo, as, ts⟩, ty, pos, after, none⟩ :: l) Q tm S := fun ro g a w st => by
  have rf := st.ev fo
  rw [hf] at rf
  generalize hvf : a.eval fo = vf at rf
  obtain ⟨lim, L1, L2⟩ := show_all st.sim
  cases rf with
  | fn hs hs' hrep hrep' =>
    rename_i vfi vca
    obtain ⟨fn, hfn, hname, hbody⟩ := hcf
    have hrun : (execOp a.eval (⟨some t, .call ⟨.value fo, as, ts⟩, ty, pos, after, none⟩ : Oper)).run P w = .ok (.enter f (vfi ++ as.map a.eval ++ vca)) w := by
      have hname' : ¬ fn.name = "runtime.NumGoroutine" := by simpa using hname
      have hbody' : ¬ fn.body = none := by intro e; rw [e] at hbody; cases hbody
      simp [execOp, resolve, hvf, Deferred.ofValue, invoke, callFunc, hfn, hname', hbody']
    have hlo : ∀ x, w.heap.size ≤ x → ¬ Shown S g x := fun x hx k => by
      obtain ⟨_, c, T, e⟩ := shown_lim st.sim k
      have := (Array.getElem?_eq_some_iff.1 e).1
      omega
    have hsub : Sim { g.sub [] with lim := lim } w [] := by
      refine ⟨fun l ob h => by simp at h, fun l _ => by simp [G.sub], fun l _ => by simp [G.sub], fun x l h => ?_, fun x hx => ?_⟩
      · simp only [G.sub, Option.bind_eq_some_iff] at h
        obtain ⟨l', _, h2⟩ := h
        simp [idx] at h2
      · show lim x = 0
        rw [L1 x (hlo x hx)]; exact st.sim.lim x hx
    have hlen' := hlen
    rw [← ha] at hlen' hargs
    have hsz : (vfi ++ as.map a.eval ++ vca).size = ds.length := by
      have := hlen'
      simp only [List.length_append, List.length_map, Array.length_toList] at this
      simp only [Array.size_append, Array.size_map]
      omega
    have hreps : ∀ (i : Nat) (v : Value) (d : D), (vfi ++ as.map a.eval ++ vca)[i]? = some v → ds[i]? = some d → Rep { g.sub [] with lim := lim } w v d := by
      intro i v d e1 e2
      obtain ⟨x, hx⟩ := get_pair hlen' e2
      refine (hargs i x d hx e2).rep st.sim L1 L2 ?_
      rw [← Array.getElem?_toList] at e1
      simp only [Array.toList_append, Array.toList_map] at e1
      by_cases c1 : i < fi.length
      · rw [List.append_assoc, List.getElem?_append_left (by simp; omega)] at e1
        rw [List.append_assoc, List.getElem?_append_left c1] at hx
        exact hrep i v x (by simpa using e1) hx
      · rw [List.append_assoc, List.getElem?_append_right (by simp; omega)] at e1
        rw [List.append_assoc, List.getElem?_append_right (by omega)] at hx
        rw [show i - vfi.toList.length = i - fi.length by simp; omega] at e1
        by_cases c2 : i - fi.length < as.size
        · rw [List.getElem?_append_left (by simp; omega)] at e1 hx
          simp only [List.getElem?_map, Option.map_eq_some_iff] at e1 hx
          obtain ⟨o1, q1, rfl⟩ := e1
          obtain ⟨o2, q2, rfl⟩ := hx
          rw [q1] at q2; cases q2
          exact st.ev o1
        · rw [List.getElem?_append_right (by simp; omega)] at e1 hx
          simp only [List.length_map, Array.length_toList] at e1 hx
          exact hrep' _ v x (by simpa using e1) hx
    unfold wpListIn
    rw [if_pos (by simp [Region.wanted])]
    refine ⟨about_wide, ?_⟩
    rw [run_semAt hrun (fun _ e => by cases e)]
    refine ⟨depth_wide, ?_⟩
    show CallsIn Fence.wide 0 P f _ w _
    rw [callsIn_wide]
    refine (h { g.sub [] with lim := lim } w _ hsub hsz hreps).mono ?_
    rintro e w' ⟨v, g', rfl, hv, hs', hL⟩
    obtain ⟨lim2, M1, M2⟩ : ∃ lim2 : Nat → Nat, (∀ x, Shown S g x → lim2 x = 0) ∧ ∀ x, ¬ Shown S g x → lim2 x = g'.lim x := by
      have key : ∀ x, ∃ n : Nat, (Shown S g x → n = 0) ∧ (¬ Shown S g x → n = g'.lim x) := fun x => by
        by_cases k : Shown S g x
        · exact ⟨0, fun _ => rfl, fun q => absurd k q⟩
        · exact ⟨g'.lim x, fun q => absurd q k, fun _ => rfl⟩
      obtain ⟨f, hf⟩ := Classical.skolem.1 key
      exact ⟨f, fun x => (hf x).1, fun x => (hf x).2⟩
    obtain ⟨g2, hg2⟩ : ∃ g2 : G, g2 = { g with lim := lim2 } := ⟨_, rfl⟩
    have hnone : ∀ x, ({ g.sub [] with lim := lim } : G).own x = none := fun x => by
      simp only [G.sub]
      cases g.own x with
      | none => rfl
      | some l => simp [idx]
    have hold : ∀ x, x < w.heap.size → w'.heap[x]? = w.heap[x]? ∧ g2.lim x = g.lim x := fun x hx => by
      obtain ⟨k1, k2, k3⟩ := hL.2.old x hx (hnone x)
      refine ⟨k1, ?_⟩
      rw [hg2]; show lim2 x = _
      by_cases k : Shown S g x
      · rw [M1 x k, (shown_lim st.sim k).1]
      · rw [M2 x k, k2]; exact L1 x k
    have hle : Le g w g2 w' := by
      refine ⟨fun ad u hu => ?_, fun l b h => by rw [hg2]; exact h, fun l n x e => ⟨n, x, by rw [hg2]; exact e, .inr ⟨rfl, rfl⟩⟩⟩
      have hab := cell_block hu.1
      refine ⟨(cell_same (hold _ hab).1).trans hu.1, by rw [(hold _ hab).2]; exact hu.2.1, hu.2.2⟩
    have hlater : Later g w g2 w' := ⟨hle, hL.2.size, hL.2.os, hL.2.tape, hL.2.output, fun x hx hox => ⟨(hold x hx).1, (hold x hx).2, by rw [hg2]; exact hox⟩, fun x l hx hox => by rw [hg2]; exact hox, by rw [hg2]⟩
    have hsim : Sim g2 w' S := by
      refine ⟨fun l ob hl => (st.sim.obs l ob hl).keep hle hL.2.ext (fun x hox => ?_) (fun n x e => by rw [hg2]; exact e) (fun e2 => ⟨by rw [hg2]; exact e2, fun e1 => by rw [hg2]; exact e1⟩), fun l hl => by rw [hg2]; exact st.sim.noEta l hl, fun l hl => by rw [hg2]; exact st.sim.noRow l hl, fun x l hox => ?_, fun x hx => ?_⟩
      · have hx := (st.sim.own x l hox).2
        exact ⟨(hold x hx).1, (hold x hx).2, by rw [hg2]; exact hox⟩
      · rw [hg2] at hox
        have := st.sim.own x l hox
        exact ⟨this.1, Nat.lt_of_lt_of_le this.2 hL.2.size⟩
      · rw [hg2]; show lim2 x = 0
        by_cases k : Shown S g x
        · exact M1 x k
        · rw [M2 x k]; exact hs'.lim x hx
    have st2 := (st.later hlater hsim).put (o := some t) (v := v) (d := r) (dstOk_lt (o := some t) hd) (flat_rep hr hv)
    exact wpList_mono (fun e a' w2 k => Post.later hlater k) _ _ _ (rest ro _ _ w' st2)
end ops
end Go.Abs
