/- Slices in variables; functions with what they hold, as results and arguments. -/
import Derived.Test.YtanfmpkjcoolmaaAbsZa
set_option linter.unusedVariables false
set_option linter.unusedSimpArgs false
namespace Go.Abs
variable {P : Program} {N : Nat} {ops : Array Oper} {l : List Oper} {Q : Exit → Tm → List Ob → Prop} {tm : Tm} {S : List Ob}

/-- A variable's slice whose capacity is its length becomes a row of the call's own. -/
theorem AWP.adoptBox {j i : Nat} {ds : List D} {nl : Option Bool} {xs : List (List D)} {c : Code} {n m sz : Nat} {S' : List Ob} (hj : S[j]? = some (.box ds)) (hi : ds[i]? = some (.sl nl xs .full)) (hn : S.length = n) (hm : xs.length = m)
    (hS : S.set j (.box (ds.set i (.sl none xs (.own n)))) ++ [.row m sz] = S') (h : AWP P N c Q tm S') : AWP P N c Q tm S := by
  subst hn hm hS
  intro ro hro g a w st
  obtain ⟨b, cs, T, e1, e2, e3, e4, e5, e6⟩ := st.sim.obs j _ hj
  have hil : i < cs.size := Nat.lt_of_lt_of_le (List.getElem?_eq_some_iff.1 hi).1 e4
  have r := e6 i _ _ (Array.getElem?_eq_getElem hil) hi
  generalize hv : cs[i] = v at r
  cases r with
  | sl s f h1 h2 h3 h4 h5 h6 h7 h8 =>
    rename_i ao n cap
    subst h1
    obtain ⟨k1, k2⟩ := same_sim (sz := sz) (ao := ao) st.sim h8 h3
    have hjl : j < S.length := (List.getElem?_eq_some_iff.1 hj).1
    have r' : Rep { g with row := upd g.row S.length (some (xs.length, .slice ao xs.length cap)) } w (.slice ao xs.length cap) (.sl none xs (.own S.length)) :=
      .sl s f rfl h2 h3 (fun b h => by cases h) h5 (fun i x hx j d hd => let ⟨ad, e, k⟩ := h6 i x hx j d hd; ⟨ad, e, k2.1.cell _ _ k⟩) (fun i x hx j d hd => (h7 i x hx j d hd).mono k2.1) ⟨xs.length, _, by simp only [upd_same], Nat.le_refl _, fun _ => rfl⟩
    have hlen : (S.set j (.box (ds.set i (.sl none xs (.own S.length)))) ++ [Ob.row xs.length sz]).length = (S ++ [Ob.row xs.length sz]).length := by simp
    have k3 : Sim { g with row := upd g.row S.length (some (xs.length, .slice ao xs.length cap)) } w (S.set j (.box (ds.set i (.sl none xs (.own S.length)))) ++ [.row xs.length sz]) := by
      refine ⟨fun l ob hl => ?_, fun l hl => k1.noEta l (by rw [hlen] at hl; exact hl), fun l hl => k1.noRow l (by rw [hlen] at hl; exact hl), fun b l hb => by rw [hlen]; exact k1.own b l hb, k1.lim⟩
      by_cases e : l = j
      · subst e
        rw [List.getElem?_append_left (by simpa using hjl), List.getElem?_set_self hjl] at hl
        cases hl
        refine ⟨b, cs, T, k2.1.eta _ _ e1, e2, e3, by simpa using e4, e5, fun i' v' d' hv' hd' => ?_⟩
        by_cases ei : i' = i
        · subst ei
          rw [List.getElem?_set_self (List.getElem?_eq_some_iff.1 hi).1] at hd'
          cases hd'
          rw [Array.getElem?_eq_getElem hil] at hv'
          cases hv'
          rw [hv]; exact r'
        · rw [List.getElem?_set_ne (by omega)] at hd'
          exact (e6 i' v' d' hv' hd').mono k2.1
      · refine k1.obs l ob ?_
        rcases Nat.lt_or_ge l S.length with hl2 | hl2
        · rw [List.getElem?_append_left (by simpa using hl2), List.getElem?_set_ne (by omega)] at hl
          rw [List.getElem?_append_left hl2]; exact hl
        · rw [List.getElem?_append_right (by simpa using hl2), List.length_set] at hl
          rw [List.getElem?_append_right hl2]; exact hl
    have st2 : St N { g with row := upd g.row S.length (some (xs.length, .slice ao xs.length cap)) } tm (S.set j (.box (ds.set i (.sl none xs (.own S.length)))) ++ [.row xs.length sz]) a w := by
      have st' := st.later k2 k1
      exact ⟨st'.size, st'.based, st'.once, st'.defers, st'.slots, k3⟩
    exact Code.wpIn_mono (fun e a' w' k => Post.later k2 k) (h ro hro _ a w st2)
theorem ren_fn1 {ρ σ : Nat → Nat → Prop} {f : Fn} {l l' o : Nat} (h : ρ l l') : Ren ρ σ (.fn f [] [.bp l o]) (.fn f [] [.bp l' o]) := by
  refine .fn rfl rfl (fun i x y h1 h2 => by simp at h1) (fun i x y h1 h2 => ?_)
  cases i with
  | zero => simp at h1 h2; subst h1 h2; exact .bp h
  | succ i => simp at h1
/-- It hands back a function that holds a new variable. -/
theorem fin_newFn {rvs : List ResultVar} {ds : List D} {f : Fn} {l : Nat} {cs bs : List D} (h : RVs P tm S rvs ds) (hd : resD ds = .fn f [] [.bp l 0]) (hl : S[l]? = some (.box cs)) (hb : RenAll No No cs bs) :
    Fin P rvs 0 (.fn f [] [.bp 0 0]) [.box bs] .ret tm S := by
  refine ⟨.inr rfl, ds, [l], h, by rw [hd]; exact ren_fn1 rfl, by simp, fun j hj => absurd hj (by omega), rfl, fun j ob' h => ?_⟩
  cases j with
  | zero =>
    simp only [List.getElem?_cons_zero, Option.some.injEq] at h
    subst h
    exact ⟨l, _, rfl, hl, .box hb.length (hb.mono (fun _ _ h => h.elim) (fun _ _ h => h.elim)).get⟩
  | succ j => simp at h
section
variable {t : Tmp} {ty : TypeId} {pos : String} {after : Array Edge}
theorem n_callNewFn {fo : Operand} {as : Array Operand} {ts : Array TypeId} {f : FuncId} {f' : Fn} {fi ca args : List D} {ds : List D} {bs : List D} {n : Nat} {S' : List Ob} (hd : Nat.blt t N = true) (hcf : CF P f) (hf : ev tm fo = .fn (.func f) fi ca)
    (ha : fi ++ as.toList.map (ev tm) ++ ca = args) (hargs : RenAll (fun _ _ => False) (fun _ _ => False) args ds) (h : Does P f ds [] (.fn f' [] [.bp 0 0]) [.box bs]) (hx : ∀ d ∈ bs, LF d) (hn : S.length = n) (hS : S ++ [.box bs] = S')
    (rest : AOps P N ops l Q (put tm t (.fn f' [] [.bp n 0])) S') : AOps P N ops (⟨some t, .call ⟨.value fo, as, ts⟩, ty, pos, after, none⟩ :: l) Q tm S := by
  subst hn hS
  refine op_callG (dst := some t) hd hcf hf h (ι := []) List.nodup_nil rfl (fun j ob' hj => by simp at hj) ?_ (by simp) (by simp) (fun l hl _ => by rw [List.getElem?_append_left hl]) (fun j l hj => by simp at hj)
    (fun k ob hk => ?_) (ren_fn1 (.inr ⟨Nat.zero_le _, rfl⟩)) rest
  · rw [ha]
    exact hargs.mono (fun _ _ h => h.elim) (fun _ _ h => h.elim)
  · rw [List.getElem?_append_right (by omega), Nat.add_sub_cancel_left] at hk
    refine ⟨ob, by simpa using hk, ?_⟩
    cases k with
    | zero => simp at hk; subst hk; exact .box rfl (lf_pair hx)
    | succ k => simp at hk
end
/-- A variable that is only read from now on. -/
theorem AWP.freeze {t j : Nat} {ds : List D} {c : Code} {S' : List Ob} (hx : tm t = .bp j 0) (hj : S[j]? = some (.box ds)) (hone : ds.all D.one = true) (hS : S.set j .lent = S') (h : AWP P N c Q (put tm t (.rp ds)) S') : AWP P N c Q tm S := by
  subst hS
  intro ro hro g a w st
  obtain ⟨b, cs, T, e1, e2, e3, e4, e5, e6⟩ := st.sim.obs j _ hj
  have hjl : j < S.length := (List.getElem?_eq_some_iff.1 hj).1
  obtain ⟨g', hg'⟩ : ∃ g' : G, g' = { g with lim := fun x => if x = b then cs.size else g.lim x } := ⟨_, rfl⟩
  have hb : b < w.heap.size := (st.sim.own b j e2).2
  have hle : Le g w g' w := by
    refine ⟨fun ad v hv => ⟨hv.1, ?_, hv.2.2⟩, fun l b h => by rw [hg']; exact h, fun l n x e => ⟨n, x, by rw [hg']; exact e, .inr ⟨rfl, rfl⟩⟩⟩
    rw [hg']; simp only
    split
    · rename_i h; have := hv.2.1; rw [h, e5] at this; omega
    · exact hv.2.1
  have hlater : Later g w g' w := ⟨hle, ⟨Nat.le_refl _, rfl, rfl, rfl, fun x hx ho => ⟨rfl, by rw [hg']; simp only; rw [if_neg (by rintro rfl; rw [e2] at ho; cases ho)], by rw [hg']; exact ho⟩, fun x l hx ho => by rw [hg']; exact ho, by rw [hg']⟩⟩
  have hsim : Sim g' w (S.set j .lent) := by
    refine ⟨fun l ob hl => ?_, fun l hl => by rw [hg']; exact st.sim.noEta l (by simpa using hl), fun l hl => by rw [hg']; exact st.sim.noRow l (by simpa using hl), fun x l ho => ?_, fun x hx => ?_⟩
    · by_cases e : l = j
      · subst e
        rw [List.getElem?_set_self hjl] at hl
        cases hl; trivial
      · rw [List.getElem?_set_ne (by omega)] at hl
        refine (st.sim.obs l ob hl).keep hle (.refl w) (fun x ho => ⟨rfl, ?_, by rw [hg']; exact ho⟩) (fun n h e => by rw [hg']; exact e) (fun k1 k2 => ⟨by rw [hg']; exact k1, by rw [hg']; exact k2⟩)
        rw [hg']; simp only; rw [if_neg (by rintro rfl; rw [e2] at ho; cases ho; exact e rfl)]
    · rw [hg'] at ho
      rw [List.length_set]; exact st.sim.own x l ho
    · rw [hg']; simp only; rw [if_neg (by omega)]; exact st.sim.lim x hx
  have hrp : Rep g' w (a.tmps.getD t undef) (.rp ds) := by
    have r := st.slots t
    rw [hx] at r
    generalize a.tmps.getD t undef = v at r
    cases r with
    | bp hb' =>
      rw [e1] at hb'; cases hb'
      have hcell : ∀ (i : Nat) (d : D), ds[i]? = some d → ∃ v, cs[i]? = some v ∧ Rep g w v d := fun i d hd => by
        have : i < cs.size := Nat.lt_of_lt_of_le (List.getElem?_eq_some_iff.1 hd).1 e4
        exact ⟨cs[i], Array.getElem?_eq_getElem this, e6 i _ d (Array.getElem?_eq_getElem this) hd⟩
      refine .rp (fun i => cs.getD i undef) (fun i d hd => ?_) (fun i d hd => ?_)
      · obtain ⟨v, hv, hr⟩ := hcell i d hd
        have hv2 : cs.getD i undef = v := by rw [Array.getD_eq_getD_getElem?, hv]; rfl
        have hadd : (⟨b, 0, none⟩ : Addr).add i = ⟨b, i, none⟩ := by unfold Addr.add; split <;> simp_all
        rw [hv2, hadd]
        refine ⟨?_, ?_, rep_one hr (List.all_eq_true.1 hone d (List.mem_of_getElem? hd))⟩
        · simp only [World.cell?, e3]; simpa using hv
        · rw [hg']; simp only [if_true]
          have := (List.getElem?_eq_some_iff.1 hd).1
          omega
      · obtain ⟨v, hv, hr⟩ := hcell i d hd
        have hv2 : cs.getD i undef = v := by rw [Array.getD_eq_getD_getElem?, hv]; rfl
        rw [hv2]; exact hr.mono hle
  have st' := st.later hlater hsim
  have st2 : St N g' (put tm t (.rp ds)) (S.set j .lent) a w := by
    refine ⟨st'.size, st'.based, st'.once, st'.defers, fun i => ?_, st'.sim⟩
    by_cases e : i = t
    · subst e; rw [put_same]; exact hrp
    · rw [put_other _ _ e]; exact st'.slots i
  exact Code.wpIn_mono (fun e a' w' k => Post.later hlater k) (h ro hro _ a w st2)
end Go.Abs
