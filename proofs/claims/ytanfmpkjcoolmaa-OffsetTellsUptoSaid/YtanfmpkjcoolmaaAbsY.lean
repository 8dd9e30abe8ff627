/- Loops over functions: what an iterator owes, what a round owes, the loop. -/
import Derived.Test.YtanfmpkjcoolmaaAbsX
import Derived.Test.YtanfmpkjcoolmaaAbsS
set_option linter.unusedVariables false
set_option linter.unusedSimpArgs false
namespace Go.Abs
variable {P : Program} {N : Nat} {ops : Array Oper} {Q : Exit → Tm → List Ob → Prop} {tm : Tm} {S : List Ob}
abbrev Hid := Option Nat → (Nat → Nat) → (Nat → Prop) → World → Prop
def gL (lim : Nat → Nat) : G := { eta := fun _ => none, row := fun _ => none, lim := lim, own := fun _ => none, base := 0 }

/-- What a round does to all else. -/
structure Turn (lim : Nat → Nat) (B : Nat → Prop) (w : World) (lim' : Nat → Nat) (B' : Nat → Prop) (w' : World) : Prop where
  ext : Ext w w'
  others : ∀ b, b < w.heap.size → ¬ B b → w'.heap[b]? = w.heap[b]? ∧ lim' b = lim b ∧ ¬ B' b
  keep : ∀ b, B b → B' b
  cell : ∀ a v, AtL lim w a v → AtL lim' w' a v
  lim : ∀ b, w'.heap.size ≤ b → lim' b = 0
  own : ∀ b, B' b → b < w'.heap.size

/-- A call of yield l with the k-th element brings a round. -/
def Yields (P : Program) (l : Nat) (J : Hid) (xs : List (List D)) : Prop :=
  ∀ (k : Nat) (x : List D) (vs : Array Value) (lim : Nat → Nat) (B : Nat → Prop) (w : World), xs[k]? = some x → J (some k) lim B w → (∀ b, B b → b < w.heap.size) → vs.size = x.length →
    (∀ (i : Nat) (v : Value) (d : D), vs[i]? = some v → x[i]? = some d → Rep (gL lim) w v d) →
    ∃ fn tmps assign body, (Instr.yield l vs).run P w = .ok (.round l fn tmps assign body) w ∧
      RoundIn Fence.wide 0 P l fn tmps assign body w fun e w' => ∃ lim' B' b, e = .returned (.bool b) ∧ Turn lim B w lim' B' w' ∧ Stays J (if b then some (k + 1) else none) lim' B' w'

section
variable {ty : TypeId} {pos : String} {after : Array Edge}
theorem n_yield {rest : List Oper} {fo : Operand} {as : Array Operand} {ts : Array TypeId} {t l l0 k : Nat} {J : Hid} {xs : List (List D)} {x args : List D} {S1 S2 : List Ob} (hd : Nat.blt t N = true) (hf : ev tm fo = .val (.func (.yield l) #[] #[])) (hS : S[l0]? = some (.seen J (some k)))
    (hy : Yields P l J xs) (hx : xs[k]? = some x) (ha : as.toList.map (ev tm) = args) (hargs : RenAll (fun _ _ => False) (fun _ _ => False) args x) (h1 : S.set l0 (.seen J (some (k + 1))) = S1) (h2 : S.set l0 (.seen J none) = S2)
    (yes : AOps P N ops rest Q (put tm t (.val (.bool true))) S1) (no : AOps P N ops rest Q (put tm t (.val (.bool false))) S2) :
    AOps P N ops (⟨some t, .call ⟨.value fo, as, ts⟩, ty, pos, after, none⟩ :: rest) Q tm S := fun ro g a w st => by
  subst h1 h2
  have rf := st.ev fo
  rw [hf] at rf
  have ef := rf.val_inv
  obtain ⟨B, hB, hst⟩ := st.sim.obs l0 _ hS
  have hJ : J (some k) g.lim B w := hst g.lim w (.refl w) (fun _ _ => ⟨rfl, rfl⟩) (fun _ _ h => h) st.sim.lim
  have hBlt : ∀ b, B b → b < w.heap.size := fun b h => (st.sim.own b l0 (hB b h)).2
  have hsz : (as.map a.eval).size = x.length := by
    have := hargs.length
    rw [← ha, List.length_map, Array.length_toList] at this
    rw [Array.size_map, this]
  have hreps : ∀ (i : Nat) (v : Value) (d : D), (as.map a.eval)[i]? = some v → x[i]? = some d → Rep (gL g.lim) w v d := by
    intro i v d h1 h2
    obtain ⟨y, hy'⟩ := get_pair hargs.length h2
    have hr := hargs.get i y d hy' h2
    have : Rep g w v y := by
      rw [← ha] at hy'
      simp only [List.getElem?_map, Option.map_eq_some_iff, Array.getElem?_toList] at hy'
      simp only [Array.getElem?_map, Option.map_eq_some_iff] at h1
      obtain ⟨o1, q1, rfl⟩ := h1
      obtain ⟨o2, q2, rfl⟩ := hy'
      rw [q1] at q2; cases q2
      exact st.ev o1
    exact Ren.rep (g := g) (g' := gL g.lim) rfl (fun _ _ h => h.elim) (fun _ _ h => h.elim) hr this
  obtain ⟨fn, tmps, assign, body, hrun, hround⟩ := hy k x _ g.lim B w hx hJ hBlt hsz hreps
  have hop : (execOp a.eval (⟨some t, .call ⟨.value fo, as, ts⟩, ty, pos, after, none⟩ : Oper)).run P w = .ok (.round l fn tmps assign body) w := by
    simp [execOp, resolve, ef, Deferred.ofValue, invoke, hrun]
  unfold wpListIn
  rw [if_pos (by simp [Region.wanted])]
  refine ⟨about_wide, ?_⟩
  rw [run_semAt hop (fun _ e => by cases e)]
  refine ⟨depth_wide, ?_⟩
  refine RoundIn.mono (F := wideR ro) (show RoundIn (wideR ro) 0 P l fn tmps assign body w _ from hround) ?_
  rintro e w' ⟨lim', B', b, rfl, ht, hst'⟩
  have hlt : l0 < S.length := (List.getElem?_eq_some_iff.1 hS).1
  obtain ⟨own', ho1, ho2, ho3⟩ : ∃ own' : Nat → Option Nat, (∀ b, b < w.heap.size → own' b = g.own b) ∧ (∀ b, w.heap.size ≤ b → B' b → own' b = some l0) ∧ (∀ b j, w.heap.size ≤ b → own' b = some j → j = l0 ∧ B' b) := by
    classical
    refine ⟨fun b => if w.heap.size ≤ b then (if B' b then some l0 else none) else g.own b, ?_, ?_, ?_⟩
    · intro b hb; simp only; rw [if_neg (by omega)]
    · intro b hb h; simp only; rw [if_pos hb, if_pos h]
    · intro b j hb h
      simp only at h
      rw [if_pos hb] at h
      split at h
      · rename_i hh; cases h; exact ⟨rfl, hh⟩
      · cases h
  have hle : Le g w { g with lim := lim', own := own' } w' := ⟨fun a v h => ht.cell a v h, fun _ _ h => h, fun _ n h e => ⟨n, h, e, .inr ⟨rfl, rfl⟩⟩⟩
  have hl : Later g w { g with lim := lim', own := own' } w' := by
    refine ⟨hle, ⟨ht.ext.size, ht.ext.os, ht.ext.tape, ht.ext.output, ?_, ?_, rfl⟩⟩
    · intro b hb ho
      obtain ⟨q1, q2, q3⟩ := ht.others b hb (fun hbb => by rw [hB b hbb] at ho; cases ho)
      exact ⟨q1, q2, (ho1 b hb).trans ho⟩
    · intro b j hb ho
      exact (ho1 b hb).trans ho
  have hsim : ∀ k', Stays J k' lim' B' w' → Sim { g with lim := lim', own := own' } w' (S.set l0 (.seen J k')) := by
    intro k' hs
    refine ⟨?_, ?_, ?_, ?_, ht.lim⟩
    · intro j ob h
      by_cases e : j = l0
      · subst e
        rw [List.getElem?_set_self hlt] at h
        cases h
        refine ⟨B', fun b hb => ?_, hs⟩
        rcases Nat.lt_or_ge b w.heap.size with hb' | hb'
        · have : B b := Classical.byContradiction fun hn => (ht.others b hb' hn).2.2 hb
          exact (ho1 b hb').trans (hB b this)
        · exact ho2 b hb' hb
      · rw [List.getElem?_set_ne (by omega)] at h
        refine (st.sim.obs j ob h).keep hle ht.ext ?_ (fun n h e => e) (fun e1 e2 => ⟨e1, e2⟩)
        intro b ho
        have hb := (st.sim.own b j ho).2
        obtain ⟨q1, q2, q3⟩ := ht.others b hb (fun hbb => by rw [hB b hbb] at ho; cases ho; exact e rfl)
        exact ⟨q1, q2, (ho1 b hb).trans ho⟩
    · intro j h; exact st.sim.noEta j (by simpa using h)
    · intro j h; exact st.sim.noRow j (by simpa using h)
    · intro b j h
      rw [List.length_set]
      rcases Nat.lt_or_ge b w.heap.size with hb' | hb'
      · have := st.sim.own b j ((ho1 b hb').symm.trans h)
        exact ⟨this.1, Nat.lt_of_lt_of_le hb' ht.ext.size⟩
      · obtain ⟨rfl, hh⟩ := ho3 b j hb' h
        exact ⟨hlt, ht.own b hh⟩
  cases b with
  | true => exact wpList_mono (fun e a' w2 k => Post.later hl k) _ _ _ (yes ro _ _ w' ((st.later hl (hsim _ hst')).put (o := some t) (dstOk_lt hd) (.val _)))
  | false => exact wpList_mono (fun e a' w2 k => Post.later hl k) _ _ _ (no ro _ _ w' ((st.later hl (hsim _ hst')).put (o := some t) (dstOk_lt hd) (.val _)))
end

/-- What is owed by an iterator: it hands on the elements xs, one behind the other, as long as they are wanted. -/
def Iter (P : Program) (f : FuncId) (ds : List D) (Sb : List Ob) (xs : List (List D)) : Prop :=
  ∀ (l : Nat) (J : Hid), Yields P l J xs → ∀ (g : G) (w : World) (vs : Array Value), Sim g w (.seen J (some 0) :: Sb) → vs.size = ds.length + 1 →
    (∀ (i : Nat) (v : Value) (d : D), vs[i]? = some v → (D.val (.func (.yield l) #[] #[]) :: ds)[i]? = some d → Rep g w v d) →
    Calls P f vs w fun e w' => ∃ v g' k' S', e = .returned v ∧ (k' = some xs.length ∨ k' = none) ∧ Sim g' w' (.seen J k' :: S') ∧ Later g w g' w'
def IFin (P : Program) (rvs : List ResultVar) (J : Hid) (n : Nat) (e : Exit) (tm : Tm) (S : List Ob) : Prop :=
  (e = .normal ∨ e = .ret) ∧ ∃ ds k', RVs P tm S rvs ds ∧ (k' = some n ∨ k' = none) ∧ S[0]? = some (.seen J k')
theorem Iter.of_body {f : FuncId} {fn : Func} {c : Code} {rvs : List ResultVar} {ds : List D} {Sb : List Ob} {xs : List (List D)} (hf : P.funcs[f]? = some fn) (hb : fn.body = some c) (hN : fn.ntmps = N) (hres : fn.results = rvs.toArray) (hlen : Nat.ble (ds.length + 1) N = true)
    (h : ∀ (l : Nat) (J : Hid), Yields P l J xs → AWP P N c (IFin P rvs J xs.length) (frameOf (.val (.func (.yield l) #[] #[]) :: ds)) (.seen J (some 0) :: Sb)) : Iter P f ds Sb xs := by
  intro l J hY g1 w vs hs hl hrep
  have hlen := Nat.le_of_ble_eq_true hlen
  obtain ⟨g, hg⟩ : ∃ g, g = { g1 with base := w.heap.size } := ⟨_, rfl⟩
  have hgb : g.base = w.heap.size := by rw [hg]
  have hs : Sim g w (.seen J (some 0) :: Sb) := by rw [hg]; exact hs.rebase _
  obtain ⟨ds', hds'⟩ : ∃ ds', ds' = D.val (.func (.yield l) #[] #[]) :: ds := ⟨_, rfl⟩
  have hdl : ds'.length = ds.length + 1 := by rw [hds']; rfl
  have hrep : ∀ (i : Nat) (v : Value) (d : D), vs[i]? = some v → ds'[i]? = some d → Rep g w v d := fun i v d h1 h2 => by rw [hg]; exact (hrep i v d h1 (by rw [← hds']; exact h2)).mono (Le.rebase _)
  rw [← callsIn_wide (n := 0)]
  refine callsIn_of_wp_marks hf hb trivial ?_
  have st : St N g (frameOf ds') (.seen J (some 0) :: Sb) { tmps := vs ++ Array.replicate (fn.ntmps - vs.size) undef, defers := [] } w := by
    refine ⟨by simp; omega, by rw [hgb]; exact Nat.le_refl _, List.nodup_nil, (fun d hd => by cases hd), ?_, hs⟩
    intro i
    show Rep g w ((vs ++ Array.replicate (fn.ntmps - vs.size) undef).getD i undef) (ds'.getD i .any)
    by_cases hi : i < ds'.length
    · have h1 : (vs ++ Array.replicate (fn.ntmps - vs.size) undef).getD i undef = vs[i]'(by omega) := by
        rw [Array.getD_eq_getD_getElem?, Array.getElem?_append_left (by omega), Array.getElem?_eq_getElem (by omega)]; rfl
      have h2 : ds'.getD i .any = ds'[i] := by rw [List.getD_eq_getElem?_getD, List.getElem?_eq_getElem hi]; rfl
      rw [h1, h2]
      exact hrep i _ _ (Array.getElem?_eq_getElem (by omega)) (List.getElem?_eq_getElem hi)
    · have h2 : ds'.getD i .any = .any := by rw [List.getD_eq_getElem?_getD, List.getElem?_eq_none (by omega)]; rfl
      rw [h2]; exact .any _
  have hw := h l J hY none (fun k => by cases k) g _ w (by rw [hds'] at st; exact st)
  refine Code.wpIn_mono ?_ hw
  rintro e a' w' ⟨g', tm', S1, ⟨he, dr, k', hrv, hk, hS0⟩, st', hl'⟩
  have hfin : LeavesInM Fence.wide 0 P fn a'.tmps (fun e w' => ∃ v g' k' S', e = .returned v ∧ (k' = some xs.length ∨ k' = none) ∧ Sim g' w' (.seen J k' :: S') ∧ Later g1 w g' w') a'.defers .returning w' := by
    refine st'.leaves hl' (by rw [hl'.2.base, hgb]; exact Nat.le_refl _) a'.defers rfl ?_
    intro w2 st2 hl2
    obtain ⟨v, hrun, hv⟩ := results_rep st2 hres hrv
    refine ⟨v, hrun, v, { g' with base := g1.base }, k', S1.tail, rfl, hk, ?_, ?_⟩
    · have : S1 = .seen J k' :: S1.tail := by
        cases S1 with
        | nil => simp at hS0
        | cons x xs => simp at hS0; subst hS0; rfl
      rw [← this]
      exact st2.sim.rebase _
    · rw [hg] at hl2
      exact ⟨⟨hl2.1.cell, hl2.1.eta, hl2.1.row⟩, ⟨hl2.2.size, hl2.2.os, hl2.2.tape, hl2.2.output, hl2.2.old, hl2.2.kept, rfl⟩⟩
  rcases he with rfl | rfl
  · exact hfin
  · exact hfin
end Go.Abs
