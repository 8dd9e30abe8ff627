/- Guards and conditions without parting of ways: a guarded value is known where its guard holds. -/
import Derived.Test.YtanfmpkjcoolmaaAbsN
import Derived.Test.YtanfmpkjcoolmaaAbsK
set_option linter.unusedVariables false
set_option linter.unusedSimpArgs false
namespace Go.Abs
variable {P : Program} {N : Nat} {ops : Array Oper} {l : List Oper} {Q : Exit → Tm → List Ob → Prop} {tm : Tm} {S : List Ob}

theorem AOps.then1 {o : Oper} {tm1 : Tm} {S1 : List Ob} (h : AOps P N ops [o] (fun e tm' S' => e = .normal ∧ tm' = tm1 ∧ S' = S1) tm S) (rest : AOps P N ops l Q tm1 S1) : AOps P N ops (o :: l) Q tm S := fun ro g a w st => by
  have h1 := h ro g a w st
  have hno : ∀ e a' w', Post N (fun e tm' S' => e = .normal ∧ tm' = tm1 ∧ S' = S1) g w e a' w' → e = .normal ∧ wpListIn (wideR ro) 0 P ops (Post N Q g w) l a' w' := by
    rintro e a' w' ⟨g', tm', S', ⟨rfl, rfl, rfl⟩, st', hl⟩
    exact ⟨rfl, wpList_mono (fun e a2 w2 k => Post.later hl k) _ _ _ (rest ro g' a' w' st')⟩
  revert h1
  generalize Post N (fun e tm' S' => e = .normal ∧ tm' = tm1 ∧ S' = S1) g w = R at hno
  intro h1
  unfold wpListIn at h1 ⊢
  split
  · rename_i hw
    rw [if_pos hw] at h1
    exact op_to hno h1
  · rename_i hw
    rw [if_neg hw] at h1
    exact ⟨h1.1, (hno _ _ _ h1.2).2⟩

section
variable {ty : TypeId} {pos : String} {after : Array Edge} {t : Nat}
/-- An operation that stands under a guard: where the guard holds (c), its value is d. -/
theorem n_soft {op : Op} {j : Nat} {want : Bool} {u : Nat} (c : Bool) {E d : D} (hj : (ops[j]?).bind (·.dst) = some u) (hd : Nat.blt t N = true) (ht : Nat.blt u N = true) (hu : tm u = E)
    (hyes : c = true → E = .val (.bool want)) (hno : c = false → ∃ v, E = .val v ∧ v ≠ .bool want)
    (step : c = true → AOps P N ops [⟨some t, op, ty, pos, after, none⟩] (fun e tm' S' => e = .normal ∧ tm' = put tm t d ∧ S' = S) tm S)
    (rest : AOps P N ops l Q (put tm t (bif c then d else .val undef)) S) : AOps P N ops (⟨some t, op, ty, pos, after, some (j, want)⟩ :: l) Q tm S := by
  cases c with
  | true => exact AOps.guard (b := want) (dst := some t) hj hd ht (by rw [hu]; exact hyes rfl) (fun _ => AOps.then1 (step rfl) rest) (fun h => by cases want <;> cases h)
  | false =>
    obtain ⟨v, hv, hne⟩ := hno rfl
    intro ro g a w st
    have hlt := dstOk_lt (N := N) (o := some u) ht u rfl
    have hr := st.slots u
    rw [hu, hv] at hr
    generalize hvv : a.tmps.getD u undef = x at hr
    cases hr
    have hy : ∀ b, yielded ops a.tmps j = some b → v = .bool b := by
      intro b hb
      unfold yielded at hb
      rw [hj] at hb
      have hsz := st.size
      have : a.tmps[u]? = some v := by
        rw [Array.getD_eq_getD_getElem?] at hvv
        have hl : u < a.tmps.size := by omega
        rw [Array.getElem?_eq_getElem hl] at hvv ⊢
        simpa using hvv
      rw [Option.bind_some, this] at hb
      revert hb
      cases v <;> simp
    unfold wpListIn
    rw [if_neg (by
      intro hw
      unfold Region.wanted at hw
      simp only at hw
      cases hyy : yielded ops a.tmps j with
      | none => simp [hyy] at hw
      | some b =>
        have := hy b hyy
        subst this
        simp [hyy] at hw
        subst hw
        exact hne rfl)]
    exact ⟨about_wide, rest ro g _ w (st.put (o := some t) (dstOk_lt hd) (.val undef))⟩
theorem AOps.name {u : Nat} {b : Bool} (F : Bool → D) (hb : tm u = F b) (h : ∀ β : Bool, β = b → AOps P N ops l Q (put tm u (F β)) S) : AOps P N ops l Q tm S := by
  have := h b rfl
  rwa [put_id hb] at this
theorem Walk.name {O : (Nat → Bool) → List Ob} {R : Tm → Prop} {k : Nat} {u : Nat} {b : Bool} (F : Bool → D) (hb : tm u = F b) (h : ∀ β : Bool, β = b → Walk P N ops O R k l (put tm u (F β))) : Walk P N ops O R k l tm := by
  have := h b rfl
  rwa [put_id hb] at this
theorem n_pick_and {c x : Operand} {b x' : Bool} (hd : Nat.blt t N = true) (hc : ev tm c = .val (.bool b)) (hx : b = true → ev tm x = .val (.bool x')) (rest : AOps P N ops l Q (put tm t (.val (.bool (b && x')))) S) : AOps P N ops (⟨some t, .pick c x (.const (.bool false)), ty, pos, after, none⟩ :: l) Q tm S :=
  n_pick hd hc (by cases b with | true => exact hx rfl | false => rfl) rest
theorem n_pick_or {c y : Operand} {b x' : Bool} (hd : Nat.blt t N = true) (hc : ev tm c = .val (.bool b)) (hx : b = false → ev tm y = .val (.bool x')) (rest : AOps P N ops l Q (put tm t (.val (.bool (b || x')))) S) : AOps P N ops (⟨some t, .pick c (.const (.bool true)) y, ty, pos, after, none⟩ :: l) Q tm S :=
  n_pick hd hc (by cases b with | true => rfl | false => exact hx rfl) rest
end
end Go.Abs
