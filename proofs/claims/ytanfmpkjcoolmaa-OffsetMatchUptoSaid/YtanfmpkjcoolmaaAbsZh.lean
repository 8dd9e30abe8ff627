/- Calls that only read what is lent; slices written in place, as results; their end. -/
import Derived.Test.YtanfmpkjcoolmaaAbsZg
set_option linter.unusedVariables false
set_option linter.unusedSimpArgs false
namespace Go.Abs
variable {P : Program} {N : Nat} {ops : Array Oper} {l : List Oper} {Q : Exit → Tm → List Ob → Prop} {tm : Tm} {S : List Ob}
inductive PeekAll (l : Nat) (cs : List D) : List D → List D → Prop
  | nil : PeekAll l cs [] []
  | cons {a b : D} {as bs : List D} (h : Peek l cs a b) (t : PeekAll l cs as bs) : PeekAll l cs (a :: as) (b :: bs)
theorem PeekAll.length {l : Nat} {cs as bs : List D} (h : PeekAll l cs as bs) : as.length = bs.length := by
  induction h with
  | nil => rfl
  | cons h t ih => simp [ih]
theorem PeekAll.get {l : Nat} {cs as bs : List D} (h : PeekAll l cs as bs) : ∀ (i : Nat) (x y : D), as[i]? = some x → bs[i]? = some y → Peek l cs x y := by
  induction h with
  | nil => intro i x y h; simp at h
  | cons h t ih =>
    intro i x y h1 h2
    cases i with
    | zero => simp at h1 h2; subst h1; subst h2; exact h
    | succ i => exact ih i x y (by simpa using h1) (by simpa using h2)
section ops
variable {t : Tmp} {ty : TypeId} {pos : String} {after : Array Edge}
theorem n_callPeek {fo : Operand} {as : Array Operand} {ts : Array TypeId} {f : FuncId} {fi ca args : List D} {ds cs : List D} {l0 : Nat} {r : D} (hd : Nat.blt t N = true) (hcf : CF P f) (hf : ev tm fo = .fn (.func f) fi ca)
    (ha : fi ++ as.toList.map (ev tm) ++ ca = args) (hl : S[l0]? = some (.box cs)) (hargs : PeekAll l0 cs args ds) (h : Does P f ds [] r []) (hr : r.flat = true)
    (rest : AOps P N ops l Q (put tm t r) S) : AOps P N ops (⟨some t, .call ⟨.value fo, as, ts⟩, ty, pos, after, none⟩ :: l) Q tm S := fun ro g a w st => by
  have rf := st.ev fo
  rw [hf] at rf
  generalize hvf : a.eval fo = vf at rf
  obtain ⟨b, c, T, he, ho, hh, hsz0, hlim, hrepb⟩ := st.sim.obs l0 _ hl
  have hb : b < w.heap.size := (st.sim.own b l0 ho).2
  cases rf with
  | fn hs hs' hrep hrep' =>
    rename_i vfi vca
    obtain ⟨fn, hfn, hname, hbody⟩ := hcf
    have hrun : (execOp a.eval (⟨some t, .call ⟨.value fo, as, ts⟩, ty, pos, after, none⟩ : Oper)).run P w = .ok (.enter f (vfi ++ as.map a.eval ++ vca)) w := by
      have hname' : ¬ fn.name = "runtime.NumGoroutine" := by simpa using hname
      have hbody' : ¬ fn.body = none := by intro e; rw [e] at hbody; cases hbody
      simp [execOp, resolve, hvf, Deferred.ofValue, invoke, callFunc, hfn, hname', hbody']
    have hsub : Sim (g.show b c.size) w [] := by
      refine ⟨fun l ob h => by simp at h, fun l _ => by simp [G.show, G.sub], fun l _ => by simp [G.show, G.sub], fun x l h => ?_, fun x hx => ?_⟩
      · simp only [G.show, G.sub, Option.bind_eq_some_iff] at h
        obtain ⟨l', _, h2⟩ := h
        simp [idx] at h2
      · simp only [G.show, G.sub]; rw [if_neg (by omega)]; exact st.sim.lim x hx
    have hargs' := hargs
    rw [← ha] at hargs'
    have hsz : (vfi ++ as.map a.eval ++ vca).size = ds.length := by
      have := hargs'.length
      simp only [List.length_append, List.length_map, Array.length_toList] at this
      simp only [Array.size_append, Array.size_map]
      omega
    have hreps : ∀ (i : Nat) (v : Value) (d : D), (vfi ++ as.map a.eval ++ vca)[i]? = some v → ds[i]? = some d → Rep (g.show b c.size) w v d := by
      intro i v d e1 e2
      obtain ⟨x, hx⟩ := get_pair hargs'.length e2
      refine (hargs'.get i x d hx e2).rep he hh hsz0 hlim hrepb ?_
      rw [← Array.getElem?_toList] at e1
      simp only [Array.toList_append, Array.toList_map] at e1
      by_cases c1 : i < fi.length
      · rw [List.append_assoc, List.getElem?_append_left (by simp; omega)] at e1
        rw [List.append_assoc, List.getElem?_append_left c1] at hx
        exact hrep i v x (by simpa using e1) hx
      · rw [List.append_assoc, List.getElem?_append_right (by simp; omega)] at e1
        rw [List.append_assoc, List.getElem?_append_right (by omega)] at hx
        rw [show i - vfi.toList.length = i - fi.length by simp; omega] at e1
        by_cases c2 : i - fi.length < as.size
        · rw [List.getElem?_append_left (by simp; omega)] at e1 hx
          simp only [List.getElem?_map, Option.map_eq_some_iff] at e1 hx
          obtain ⟨o1, q1, rfl⟩ := e1
          obtain ⟨o2, q2, rfl⟩ := hx
          rw [q1] at q2; cases q2
          exact st.ev o1
        · rw [List.getElem?_append_right (by simp; omega)] at e1 hx
          simp only [List.length_map, Array.length_toList] at e1 hx
          exact hrep' _ v x (by simpa using e1) hx
    unfold wpListIn
    rw [if_pos (by simp [Region.wanted])]
    refine ⟨about_wide, ?_⟩
    rw [run_semAt hrun (fun _ e => by cases e)]
    refine ⟨depth_wide, ?_⟩
    show CallsIn Fence.wide 0 P f _ w _
    rw [callsIn_wide]
    refine (h (g.show b c.size) w _ hsub hsz hreps).mono ?_
    rintro e w' ⟨v, g', rfl, hv, hs', hL⟩
    obtain ⟨g2, hg2⟩ : ∃ g2 : G, g2 = { g with lim := fun x => if x = b then 0 else g'.lim x } := ⟨_, rfl⟩
    have hnone : ∀ x, (g.show b c.size).own x = none := fun x => by
      simp only [G.show, G.sub]
      cases g.own x with
      | none => rfl
      | some l => simp [idx]
    have hold : ∀ x, x < w.heap.size → w'.heap[x]? = w.heap[x]? ∧ g2.lim x = g.lim x := fun x hx => by
      obtain ⟨k1, k2, k3⟩ := hL.2.old x hx (hnone x)
      refine ⟨k1, ?_⟩
      rw [hg2]; simp only
      split
      · rename_i e; rw [e, hlim]
      · rename_i e; rw [k2]; simp only [G.show]; rw [if_neg e]
    have hle : Le g w g2 w' := by
      refine ⟨fun ad u hu => ?_, fun l b h => by rw [hg2]; exact h, fun l n x e => ⟨n, x, by rw [hg2]; exact e, .inr ⟨rfl, rfl⟩⟩⟩
      have hab := cell_block hu.1
      refine ⟨(cell_same (hold _ hab).1).trans hu.1, by rw [(hold _ hab).2]; exact hu.2.1, hu.2.2⟩
    have hlater : Later g w g2 w' := ⟨hle, hL.2.size, hL.2.os, hL.2.tape, hL.2.output, fun x hx hox => ⟨(hold x hx).1, (hold x hx).2, by rw [hg2]; exact hox⟩, fun x l hx hox => by rw [hg2]; exact hox, by rw [hg2]⟩
    have hsim : Sim g2 w' S := by
      refine ⟨fun l ob hl => (st.sim.obs l ob hl).keep hle hL.2.ext (fun x hox => ?_) (fun n x e => by rw [hg2]; exact e) (fun e1 e2 => ⟨by rw [hg2]; exact e1, by rw [hg2]; exact e2⟩), fun l hl => by rw [hg2]; exact st.sim.noEta l hl, fun l hl => by rw [hg2]; exact st.sim.noRow l hl, fun x l hox => ?_, fun x hx => ?_⟩
      · have hx := (st.sim.own x l hox).2
        exact ⟨(hold x hx).1, (hold x hx).2, by rw [hg2]; exact hox⟩
      · rw [hg2] at hox
        have := st.sim.own x l hox
        exact ⟨this.1, Nat.lt_of_lt_of_le this.2 hL.2.size⟩
      · rw [hg2]; simp only
        split
        · rfl
        · exact hs'.lim x hx
    have st2 := (st.later hlater hsim).put (o := some t) (v := v) (d := r) (dstOk_lt (o := some t) hd) (flat_rep hr hv)
    exact wpList_mono (fun e a' w2 k => Post.later hlater k) _ _ _ (rest ro _ _ w' st2)

/-- A call that hands back a slice of a new block. -/
theorem n_callNewBs {fo : Operand} {as : Array Operand} {ts : Array TypeId} {f : FuncId} {fi ca args : List D} {ds : List D} {bs : List D} {k n : Nat} {S' : List Ob} (hd : Nat.blt t N = true) (hcf : CF P f) (hf : ev tm fo = .fn (.func f) fi ca)
    (ha : fi ++ as.toList.map (ev tm) ++ ca = args) (hargs : RenAll (fun _ _ => False) (fun _ _ => False) args ds) (h : Does P f ds [] (.bs 0 0 k) [.box bs]) (hx : ∀ d ∈ bs, LF d) (hn : S.length = n) (hS : S ++ [.box bs] = S')
    (rest : AOps P N ops l Q (put tm t (.bs n 0 k)) S') : AOps P N ops (⟨some t, .call ⟨.value fo, as, ts⟩, ty, pos, after, none⟩ :: l) Q tm S := by
  subst hn hS
  refine op_callG (dst := some t) hd hcf hf h (ι := []) List.nodup_nil rfl (fun j ob' hj => by simp at hj) ?_ (by simp) (by simp) (fun l hl _ => by rw [List.getElem?_append_left hl]) (fun j l hj => by simp at hj)
    (fun k ob hk => ?_) (.bs (.inr ⟨Nat.zero_le _, rfl⟩)) rest
  · rw [ha]
    exact hargs.mono (fun _ _ h => h.elim) (fun _ _ h => h.elim)
  · rw [List.getElem?_append_right (by omega), Nat.add_sub_cancel_left] at hk
    refine ⟨ob, by simpa using hk, ?_⟩
    cases k with
    | zero => simp at hk; subst hk; exact .box rfl (lf_pair hx)
    | succ k => simp at hk
/-- A call that writes a block and hands back a slice of it. -/
theorem n_callBoxBs {fo : Operand} {as : Array Operand} {ts : Array TypeId} {f : FuncId} {fi ca args : List D} {ds : List D} {l0 o k : Nat} {cs bs bs' : List D} {S' : List Ob} (hd : Nat.blt t N = true) (hcf : CF P f) (hf : ev tm fo = .fn (.func f) fi ca)
    (ha : fi ++ as.toList.map (ev tm) ++ ca = args) (hargs : RenAll (fun a b => a = l0 ∧ b = 0) (fun _ _ => False) args ds) (hl : S[l0]? = some (.box cs)) (hin : RenAll (fun _ _ => False) (fun _ _ => False) cs bs) (h : Does P f ds [.box bs] (.bs 0 o k) [.box bs']) (hx : ∀ d ∈ bs', LF d) (hS : S.set l0 (.box bs') = S')
    (rest : AOps P N ops l Q (put tm t (.bs l0 o k)) S') : AOps P N ops (⟨some t, .call ⟨.value fo, as, ts⟩, ty, pos, after, none⟩ :: l) Q tm S := by
  subst hS
  have hlt : l0 < S.length := (List.getElem?_eq_some_iff.1 hl).1
  refine op_callG (dst := some t) hd hcf hf h (ι := [l0]) (by simp) rfl (fun j ob' hj => ?_) ?_ (by simp) (by simp) (fun l hl hm => by rw [List.getElem?_set_ne (by simp at hm; omega)]) (fun j l hj => ?_)
    (fun k ob hk => by rw [List.getElem?_eq_none (by simp)] at hk; cases hk) (.bs (.inl rfl)) rest
  · cases j with
    | zero =>
      simp only [List.getElem?_cons_zero, Option.some.injEq] at hj
      exact ⟨l0, cs, bs, rfl, hl, hj.symm, .box hin.length (hin.mono (fun _ _ h => h.elim) (fun _ _ h => h.elim)).get⟩
    | succ j => simp at hj
  · rw [ha]
    exact hargs.mono (fun a b h => by obtain ⟨rfl, rfl⟩ := h; rfl) (fun _ _ h => h.elim)
  · cases j with
    | zero =>
      simp only [List.getElem?_cons_zero, Option.some.injEq] at hj
      subst hj
      exact ⟨bs', bs', rfl, by rw [List.getElem?_set_self hlt], .box rfl (lf_pair hx)⟩
    | succ j => simp at hj
theorem n_append_box {tt tx e e' : TypeId} {x y : Operand} {sz bytes m n : Nat} {z : Value} {nl nl' : Option Bool} {xs ys : List (List D)} {c' : Cap} {cs : List D} {S' : List Ob} (hd : Nat.blt t N = true) (hu : P.underlying tt = some (.slice e)) (hux : P.underlying tx = some (.slice e')) (he : EI P e sz bytes z)
    (hx : ev tm x = .sl nl xs .full) (hy : ev tm y = .sl nl' ys c') (hsx : ∀ x ∈ xs, x.length = sz) (hsy : ∀ x ∈ ys, x.length = sz) (hroom : (xs.length + ys.length) * bytes ≤ 140737488355328) (hpos : 0 < ys.length) (hm : xs.length + ys.length = m) (hcs : (xs ++ ys).flatten = cs) (hn : S.length = n) (hS : S ++ [.box cs] = S')
    (rest : AOps P N ops l Q (put tm t (.bs n 0 m)) S') : AOps P N ops (⟨some t, .call ⟨.builtin .append, #[x, y], #[tt, tx]⟩, ty, pos, after, none⟩ :: l) Q tm S := by
  subst hm hcs hn hS
  exact op_append_box (dst := some t) hd hu hux he hx hy hsx hsy hroom hpos rest
theorem n_bsLen {tt e : TypeId} {x : Operand} {l0 o n : Nat} (hd : Nat.blt t N = true) (hu : P.underlying tt = some (.slice e)) (hx : ev tm x = .bs l0 o n)
    (rest : AOps P N ops l Q (put tm t (.val (.int .i64 (n : Int)))) S) : AOps P N ops (⟨some t, .call ⟨.builtin .len, #[x], #[tt]⟩, ty, pos, after, none⟩ :: l) Q tm S := op_bsLen (dst := some t) hd hu hx rest
theorem n_bsIndexAddr {tt e : TypeId} {x y : Operand} {sz q : Nat} {ag : Bool} {l0 o n : Nat} {k : IntKind} {i : Int} (hd : Nat.blt t N = true)
    (hu : P.underlying tt = some (.slice e)) (ht : TI P e sz ag) (hx : ev tm x = .bs l0 o n) (hy : ev tm y = .val (.int k i)) (h0 : 0 ≤ i) (hi : i < (n : Int)) (hq : o + i.toNat * sz = q)
    (rest : AOps P N ops l Q (put tm t (.bp l0 q)) S) : AOps P N ops (⟨some t, .indexAddr tt x y, ty, pos, after, none⟩ :: l) Q tm S := by
  subst hq; exact op_bsIndexAddr (dst := some t) hd hu ht hx hy h0 hi rest
theorem n_bsSlice {tt e : TypeId} {x : Operand} {lo hi : Option Operand} {sz k h q m : Nat} {ag : Bool} {l0 o n : Nat} (hd : Nat.blt t N = true)
    (hu : P.underlying tt = some (.slice e)) (ht : TI P e sz ag) (hx : ev tm x = .bs l0 o n) (hhi : SB tm hi n h) (hlo : SB tm lo 0 k) (h1 : k = 0 ∨ k < h) (h2 : h ≤ n) (hq : o + k * sz = q) (hm : h - k = m)
    (rest : AOps P N ops l Q (put tm t (.bs l0 q m)) S) : AOps P N ops (⟨some t, .slice tt x lo hi none, ty, pos, after, none⟩ :: l) Q tm S := by
  subst hq hm; exact op_bsSlice (dst := some t) hd hu ht hx hhi hlo h1 h2 rest
theorem n_bsClear {dst : Option Tmp} {tt e : TypeId} {x : Operand} {sz bytes : Nat} {z : Value} {l0 o n : Nat} {ds zs : List D} {S' : List Ob} (hd : dstOk N dst = true) (hu : P.underlying tt = some (.slice e)) (he : EI P e sz bytes z)
    (hx : ev tm x = .bs l0 o n) (hn : 0 < n) (hl : S[l0]? = some (.box ds)) (hlen : o + n * sz ≤ ds.length) (hz1 : z.cells.toList.all (fun v => v.oneCell') = true) (hzs : z.cells.toList.map ofV = zs) (hS : S.set l0 (.box (splice ds o (List.replicate n zs).flatten)) = S')
    (rest : AOps P N ops l Q (putO tm dst (.tup [])) S') : AOps P N ops (⟨dst, .call ⟨.builtin .clear, #[x], #[tt]⟩, ty, pos, after, none⟩ :: l) Q tm S := by
  subst hzs hS; exact op_bsClear hd hu he hx hn hl hlen hz1 rest
end ops
/-- It hands back a slice of a new block. -/
theorem fin_newBs {rvs : List ResultVar} {ds : List D} {l k : Nat} {cs bs : List D} (h : RVs P tm S rvs ds) (hd : resD ds = .bs l 0 k) (hl : S[l]? = some (.box cs)) (hb : RenAll No No cs bs) :
    Fin P rvs 0 (.bs 0 0 k) [.box bs] .ret tm S := by
  refine ⟨.inr rfl, ds, [l], h, by rw [hd]; exact .bs rfl, by simp, fun j hj => absurd hj (by omega), rfl, fun j ob' h => ?_⟩
  cases j with
  | zero =>
    simp only [List.getElem?_cons_zero, Option.some.injEq] at h
    subst h
    exact ⟨l, _, rfl, hl, .box hb.length (hb.mono (fun _ _ h => h.elim) (fun _ _ h => h.elim)).get⟩
  | succ j => simp at h
/-- It has written a block of the caller's and hands back a slice of it. -/
theorem fin_boxBs {rvs : List ResultVar} {ds : List D} {o k k' : Nat} {cs bs : List D} (h : RVs P tm S rvs ds) (hd : resD ds = .bs 0 o k) (hk : k = k') (hl : S[0]? = some (.box cs)) (hb : RenAll No No cs bs) :
    Fin P rvs 1 (.bs 0 o k') [.box bs] .ret tm S := by
  subst hk
  refine ⟨.inr rfl, ds, [0], h, by rw [hd]; exact .bs rfl, by simp, fun j hj => by cases j with | zero => rfl | succ j => exact absurd hj (by simp), rfl, fun j ob' h => ?_⟩
  cases j with
  | zero =>
    simp only [List.getElem?_cons_zero, Option.some.injEq] at h
    subst h
    exact ⟨0, _, rfl, hl, .box hb.length (hb.mono (fun _ _ h => h.elim) (fun _ _ h => h.elim)).get⟩
  | succ j => simp at h
end Go.Abs
