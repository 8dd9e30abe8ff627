/- Scopes, labels; calls of two variables; makes of functions. -/
import Derived.Test.YtanfmpkjcoolmaaAbsZ
set_option linter.unusedVariables false
set_option linter.unusedSimpArgs false
namespace Go.Abs
variable {P : Program} {N : Nat} {ops : Array Oper} {l : List Oper} {Q : Exit → Tm → List Ob → Prop} {tm : Tm} {S : List Ob}
def NoGoto (Q : Exit → Tm → List Ob → Prop) : Exit → Tm → List Ob → Prop
  | .goto _, _, _ => False
  | e, tm, S => Q e tm S
theorem AWP.label {l : Nat} (h : Q .normal tm S) : AWP P N (.label l) Q tm S := fun ro hro g a w st => wpIn_label ⟨g, tm, S, h, st, .refl g w⟩
theorem AWP.labelThen {l : Nat} {y : Code} (h : AWP P N y Q tm S) : AWP P N (.label l) (Then (fun tm' S' => AWP P N y Q tm' S') Q) tm S := AWP.label h
theorem stepR_scope {b : Frame} {a : Act} {k : List Item} {cs : List Frame} {w : World} {c : Code} : step P (lone (b.atR a (.code (.scope c) :: k)) cs w) = .next (lone (b.atR a (.code c :: .inScope c :: k)) cs w) :=
  step_lone_go (by simp [stepG, stepG.exec, Frame.atR])
theorem stepR_inScope {b : Frame} {a : Act} {k : List Item} {cs : List Frame} {w : World} {c : Code} : step P (lone (b.atR a (.inScope c :: k)) cs w) = .next (lone (b.atR a k) cs w) :=
  step_lone_go (by simp [stepG, stepG.exec, Frame.atR])
theorem AWP.scope {c : Code} (h : AWP P N c (NoGoto Q) tm S) : AWP P N (.scope c) Q tm S := fun ro hnr g a w st => by
  intro b k cs hro hb hr
  have hnc : RoOk ro c := fun k => by have := hnr k; simpa only [nr] using this
  have h0 : (lone (b.atR a (.code (.scope c) :: k)) cs w).fenced P (wideR ro) := fenced_calm hb hr rfl
  obtain ⟨e, a₁, w₁, ⟨g1, tm1, S1, q, st1, l1⟩, harr⟩ := h ro hnc g a w st b (.inScope c :: k) cs hro hb hr
  cases e with
  | normal => exact ⟨.normal, a₁, w₁, ⟨g1, tm1, S1, q, st1, l1⟩, .head h0 stepR_scope (StepsIn.trans harr (.one (fenced_calm hb hr rfl) stepR_inScope))⟩
  | exit id =>
    have hx : exitTo id (.inScope c :: k) = exitTo id k := by simp [exitTo]
    exact ⟨.exit id, a₁, w₁, ⟨g1, tm1, S1, q, st1, l1⟩, fun k' hk => .head h0 stepR_scope (harr.1 k' (by rw [hx]; exact hk)),
      fun hr' hk => let ⟨k₁, h1, h2⟩ := harr.2 hr' (by rw [hx]; exact hk); ⟨k₁, h1, .head h0 stepR_scope h2⟩⟩
  | goto t => exact q.elim
  | ret => exact ⟨_, a₁, w₁, ⟨g1, tm1, S1, q, st1, l1⟩, .of_steps (.one h0 stepR_scope) harr⟩
  | panic ch => exact ⟨_, a₁, w₁, ⟨g1, tm1, S1, q, st1, l1⟩, .of_steps (.one h0 stepR_scope) harr⟩
  | outgrown => exact ⟨_, a₁, w₁, ⟨g1, tm1, S1, q, st1, l1⟩, .of_steps (.one h0 stepR_scope) harr⟩

def to2 (l0 l1 a b : Nat) : Prop := a = l0 ∧ b = 0 ∨ a = l1 ∧ b = 1
def fro2 (l0 l1 b a : Nat) : Prop := a = l0 ∧ b = 0 ∨ a = l1 ∧ b = 1
section ops
variable {t : Tmp} {ty : TypeId} {pos : String} {after : Array Edge}
/-- A call that reads and writes two variables of the caller's. -/
theorem n_callBox2 {fo : Operand} {as : Array Operand} {ts : Array TypeId} {f : FuncId} {fi ca args : List D} {ds : List D} {l0 l1 : Nat} {c0 c1 c0' c1' b0 b1 b0' b1' : List D} {r : D} {S' : List Ob} (hd : Nat.blt t N = true) (hcf : CF P f) (hf : ev tm fo = .fn (.func f) fi ca)
    (ha : fi ++ as.toList.map (ev tm) ++ ca = args) (hargs : RenAll (to2 l0 l1) (fun _ _ => False) args ds) (hl0 : S[l0]? = some (.box c0)) (hin0 : RenAll (to2 l0 l1) (fun _ _ => False) c0 b0) (hl1 : S[l1]? = some (.box c1)) (hne : Nat.beq l0 l1 = false)
    (hin1 : RenAll (to2 l0 l1) (fun _ _ => False) c1 b1) (h : Does P f ds [.box b0, .box b1] r [.box b0', .box b1']) (hout0 : RenAll (fro2 l0 l1) (fun _ _ => False) b0' c0') (hout1 : RenAll (fro2 l0 l1) (fun _ _ => False) b1' c1') (hr : LF r)
    (hS : (S.set l0 (.box c0')).set l1 (.box c1') = S')
    (rest : AOps P N ops l Q (put tm t r) S') : AOps P N ops (⟨some t, .call ⟨.value fo, as, ts⟩, ty, pos, after, none⟩ :: l) Q tm S := by
  have hlt0 : l0 < S.length := (List.getElem?_eq_some_iff.1 hl0).1
  have hlt1 : l1 < S.length := (List.getElem?_eq_some_iff.1 hl1).1
  have hne' : l0 ≠ l1 := by rintro rfl; rw [Nat.beq_refl] at hne; cases hne
  subst hS
  have hback : ∀ a b, to2 l0 l1 a b → back [l0, l1] a b := fun a b h => by rcases h with ⟨rfl, rfl⟩ | ⟨rfl, rfl⟩ <;> rfl
  have hfwd : ∀ b a, fro2 l0 l1 b a → fwdE [l0, l1] S.length b a := fun b a h => by rcases h with ⟨rfl, rfl⟩ | ⟨rfl, rfl⟩ <;> exact .inl rfl
  refine op_callG (dst := some t) hd hcf hf h (ι := [l0, l1]) (by simp [hne']) rfl (fun j ob' hj => ?_) ?_ (by simp) (by simp) (fun l hl hm => by simp at hm; rw [List.getElem?_set_ne (by omega), List.getElem?_set_ne (by omega)]) (fun j l hj => ?_)
    (fun k ob hk => by rw [List.getElem?_eq_none (by simp)] at hk; cases hk) (.lf hr) rest
  · match j with
    | 0 =>
      simp only [List.getElem?_cons_zero, Option.some.injEq] at hj
      exact ⟨l0, c0, b0, rfl, hl0, hj.symm, .box hin0.length (hin0.mono hback (fun _ _ h => h.elim)).get⟩
    | 1 =>
      simp only [List.getElem?_cons_succ, List.getElem?_cons_zero, Option.some.injEq] at hj
      exact ⟨l1, c1, b1, rfl, hl1, hj.symm, .box hin1.length (hin1.mono hback (fun _ _ h => h.elim)).get⟩
    | j + 2 => simp at hj
  · rw [ha]
    exact hargs.mono hback (fun _ _ h => h.elim)
  · match j with
    | 0 =>
      simp only [List.getElem?_cons_zero, Option.some.injEq] at hj
      subst hj
      exact ⟨b0', c0', rfl, by rw [List.getElem?_set_ne (Ne.symm hne'), List.getElem?_set_self hlt0], .box hout0.length (hout0.mono hfwd (fun _ _ h => h.elim)).get⟩
    | 1 =>
      simp only [List.getElem?_cons_succ, List.getElem?_cons_zero, Option.some.injEq] at hj
      subst hj
      exact ⟨b1', c1', rfl, by rw [List.getElem?_set_self (by simpa using hlt1)], .box hout1.length (hout1.mono hfwd (fun _ _ h => h.elim)).get⟩
    | j + 2 => simp at hj
theorem n_callBoxB {fo : Operand} {as : Array Operand} {ts : Array TypeId} {f : FuncId} {fi ca args : List D} {ds : List D} {l0 : Nat} {cs bs bs' : List D} {r : D} {S' : List Ob} (hd : Nat.blt t N = true) (hcf : CF P f) (hf : ev tm fo = .fn (.func f) fi ca)
    (ha : fi ++ as.toList.map (ev tm) ++ ca = args) (hargs : RenAll (fun a b => a = l0 ∧ b = 0) (fun _ _ => False) args ds) (hl : S[l0]? = some (.box cs)) (hin : RenAll (fun _ _ => False) (fun _ _ => False) cs bs) (h : Does P f ds [.box bs] r [.box bs']) (hx : ∀ d ∈ bs', LF d) (hr : LF r) (hS : S.set l0 (.box bs') = S')
    (rest : AOps P N ops l Q (put tm t r) S') : AOps P N ops (⟨some t, .call ⟨.value fo, as, ts⟩, ty, pos, after, none⟩ :: l) Q tm S := n_callBox hd hcf hf ha hl h hin hargs hx hr hS rest
theorem n_call0B {fo : Operand} {as : Array Operand} {ts : Array TypeId} {f : FuncId} {fi ca args : List D} {ds : List D} {r : D} (hd : Nat.blt t N = true) (hcf : CF P f) (hf : ev tm fo = .fn (.func f) fi ca)
    (ha : fi ++ as.toList.map (ev tm) ++ ca = args) (hargs : RenAll (fun _ _ => False) (fun _ _ => False) args ds) (h : Does P f ds [] r []) (hr : LF r)
    (rest : AOps P N ops l Q (put tm t r) S) : AOps P N ops (⟨some t, .call ⟨.value fo, as, ts⟩, ty, pos, after, none⟩ :: l) Q tm S := n_call0 hd hcf hf ha h hargs hr rest
theorem n_callOwnB {fo : Operand} {as : Array Operand} {ts : Array TypeId} {f : FuncId} {fi ca args : List D} {ds : List D} {nl : Option Bool} {xs : List (List D)} {k sz n : Nat} {S' : List Ob} (hd : Nat.blt t N = true) (hcf : CF P f) (hf : ev tm fo = .fn (.func f) fi ca)
    (ha : fi ++ as.toList.map (ev tm) ++ ca = args) (hargs : RenAll (fun _ _ => False) (fun _ _ => False) args ds) (h : Does P f ds [] (.sl nl xs (.own 0)) [.row k sz]) (hx : ∀ x ∈ xs, ∀ d ∈ x, LF d) (hn : S.length = n) (hS : S ++ [.row k sz] = S')
    (rest : AOps P N ops l Q (put tm t (.sl none xs (.own n))) S') : AOps P N ops (⟨some t, .call ⟨.value fo, as, ts⟩, ty, pos, after, none⟩ :: l) Q tm S := n_callOwn hd hcf hf ha h hargs hx hn hS rest
theorem n_callNewB {fo : Operand} {as : Array Operand} {ts : Array TypeId} {f : FuncId} {fi ca args : List D} {ds : List D} {bs : List D} {n : Nat} {S' : List Ob} (hd : Nat.blt t N = true) (hcf : CF P f) (hf : ev tm fo = .fn (.func f) fi ca)
    (ha : fi ++ as.toList.map (ev tm) ++ ca = args) (hargs : RenAll (fun _ _ => False) (fun _ _ => False) args ds) (h : Does P f ds [] (.bp 0 0) [.box bs]) (hx : ∀ d ∈ bs, LF d) (hn : S.length = n) (hS : S ++ [.box bs] = S')
    (rest : AOps P N ops l Q (put tm t (.bp n 0)) S') : AOps P N ops (⟨some t, .call ⟨.value fo, as, ts⟩, ty, pos, after, none⟩ :: l) Q tm S := n_callNew hd hcf hf ha h hargs hx hn hS rest
end ops
def id2 (a b : Nat) : Prop := a = b ∧ Nat.blt a 2 = true
/-- It has written two variables of the caller's. -/
theorem fin_box2 {rvs : List ResultVar} {ds : List D} {d r : D} {c0 c1 b0 b1 : List D} (h : RVs P tm S rvs ds) (hd : resD ds = d) (hr : Ren id2 No d r) (hl0 : S[0]? = some (.box c0)) (hl1 : S[1]? = some (.box c1)) (hb0 : RenAll id2 No c0 b0) (hb1 : RenAll id2 No c1 b1) :
    Fin P rvs 2 r [.box b0, .box b1] .ret tm S := by
  have key : ∀ a b, id2 a b → back [0, 1] a b := fun a b ⟨e, h⟩ => by
    subst e
    have : a < 2 := Nat.lt_of_succ_le (Nat.le_of_ble_eq_true h)
    match a with
    | 0 => rfl
    | 1 => rfl
    | a + 2 => omega
  refine ⟨.inr rfl, ds, [0, 1], h, by rw [hd]; exact hr.mono key (fun _ _ h => h.elim), by simp, fun j hj => by match j with | 0 => rfl | 1 => rfl | j + 2 => exact absurd hj (by omega), rfl, fun j ob' h => ?_⟩
  match j with
  | 0 =>
    simp only [List.getElem?_cons_zero, Option.some.injEq] at h
    subst h
    exact ⟨0, _, rfl, hl0, .box hb0.length (hb0.mono key (fun _ _ h => h.elim)).get⟩
  | 1 =>
    simp only [List.getElem?_cons_succ, List.getElem?_cons_zero, Option.some.injEq] at h
    subst h
    exact ⟨1, _, rfl, hl1, .box hb1.length (hb1.mono key (fun _ _ h => h.elim)).get⟩
  | j + 2 => simp at h
theorem n_ptrne {t : Tmp} {ty : TypeId} {pos : String} {after : Array Edge} {xT yT e : TypeId} {x : Operand} {p : D} (hd : Nat.blt t N = true) (hu : P.underlying xT = some (.pointer e)) (hx : ev tm x = p) (hp : p.loc = true)
    (rest : AOps P N ops l Q (put tm t (.val (.bool true))) S) : AOps P N ops (⟨some t, .binOp .neq xT x (.const (.pointer none)) yT, ty, pos, after, none⟩ :: l) Q tm S :=
  op_ptrnil (neg := true) rfl (dst := some t) hd hu (by rw [hx]; exact hp) rest
theorem renAll_same {ρ σ : Nat → Nat → Prop} : ∀ {ds : List D}, (∀ d ∈ ds, LF d) → RenAll ρ σ ds ds
  | [], _ => .nil
  | d :: ds, h => .cons (.lf (h d (by simp))) (renAll_same fun x hx => h x (by simp [hx]))
section
variable {t : Tmp} {ty : TypeId} {pos : String} {after : Array Edge}
theorem n_callBoxes {fo : Operand} {as : Array Operand} {ts : Array TypeId} {f : FuncId} {fi ca args : List D} {ds : List D} {l0 l1 : Nat} {c0 c1 b0 b1 b0' b1' : List D} {r : D} {S' : List Ob} (hd : Nat.blt t N = true) (hcf : CF P f) (hf : ev tm fo = .fn (.func f) fi ca)
    (ha : fi ++ as.toList.map (ev tm) ++ ca = args) (hargs : RenAll (to2 l0 l1) (fun _ _ => False) args ds) (hl0 : S[l0]? = some (.box c0)) (hin0 : RenAll (to2 l0 l1) (fun _ _ => False) c0 b0) (hl1 : S[l1]? = some (.box c1)) (hne : Nat.beq l0 l1 = false)
    (hin1 : RenAll (to2 l0 l1) (fun _ _ => False) c1 b1) (h : Does P f ds [.box b0, .box b1] r [.box b0', .box b1']) (hx0 : ∀ d ∈ b0', LF d) (hx1 : ∀ d ∈ b1', LF d) (hr : LF r)
    (hS : (S.set l0 (.box b0')).set l1 (.box b1') = S')
    (rest : AOps P N ops l Q (put tm t r) S') : AOps P N ops (⟨some t, .call ⟨.value fo, as, ts⟩, ty, pos, after, none⟩ :: l) Q tm S :=
  n_callBox2 hd hcf hf ha hargs hl0 hin0 hl1 hne hin1 h (renAll_same hx0) (renAll_same hx1) hr hS rest
/-- A closure over a variable that holds another one's address. -/
theorem n_callClo {fo : Operand} {as : Array Operand} {ts : Array TypeId} {f : FuncId} {fi ca args : List D} {ds : List D} {l0 l1 : Nat} {c1 b1 b1' : List D} {r : D} {S' : List Ob} (hd : Nat.blt t N = true) (hcf : CF P f) (hf : ev tm fo = .fn (.func f) fi ca)
    (ha : fi ++ as.toList.map (ev tm) ++ ca = args) (hargs : RenAll (fun a b => a = l0 ∧ b = 0) (fun _ _ => False) args ds) (hl0 : S[l0]? = some (.box [.bp l1 0])) (hl1 : S[l1]? = some (.box c1)) (hne : Nat.beq l0 l1 = false)
    (hin1 : RenAll (fun _ _ => False) (fun _ _ => False) c1 b1) (h : Does P f ds [.box [.bp 1 0], .box b1] r [.box [.bp 1 0], .box b1']) (hx1 : ∀ d ∈ b1', LF d) (hr : LF r)
    (hS : S.set l1 (.box b1') = S')
    (rest : AOps P N ops l Q (put tm t r) S') : AOps P N ops (⟨some t, .call ⟨.value fo, as, ts⟩, ty, pos, after, none⟩ :: l) Q tm S := by
  refine n_callBox2 (l0 := l0) (l1 := l1) (c0' := [.bp l1 0]) hd hcf hf ha (hargs.mono (fun a b h => .inl h) (fun _ _ h => h)) hl0 (.cons (.bp (.inr ⟨rfl, rfl⟩)) .nil) hl1 hne (hin1.mono (fun _ _ h => h.elim) (fun _ _ h => h)) h (.cons (.bp (.inr ⟨rfl, rfl⟩)) .nil) (renAll_same hx1) hr ?_ rest
  have : S.set l0 (.box [.bp l1 0]) = S := by
    apply List.ext_getElem?
    intro i
    by_cases e : i = l0
    · subst e
      rw [List.getElem?_set_self (List.getElem?_eq_some_iff.1 hl0).1, hl0]
    · rw [List.getElem?_set_ne (by omega)]
  rw [this]; exact hS
end
/-- Less is said of the objects. -/
inductive Loose : List Ob → List Ob → Prop
  | nil : Loose [] []
  | lent {a : Ob} {S S' : List Ob} (h : Loose S S') : Loose (a :: S) (.lent :: S')
  | same {a : Ob} {S S' : List Ob} (h : Loose S S') : Loose (a :: S) (a :: S')
theorem Loose.length {S S' : List Ob} (h : Loose S S') : S'.length = S.length := by
  induction h with
  | nil => rfl
  | lent h ih => simp [ih]
  | same h ih => simp [ih]
theorem Loose.get {S S' : List Ob} (h : Loose S S') : ∀ (i : Nat) (ob : Ob), S'[i]? = some ob → ob = .lent ∨ S[i]? = some ob := by
  induction h with
  | nil => intro i ob h; simp at h
  | lent h ih =>
    intro i ob e
    cases i with
    | zero => simp at e; exact .inl e.symm
    | succ i => simp only [List.getElem?_cons_succ] at e ⊢; exact ih i ob e
  | same h ih =>
    intro i ob e
    cases i with
    | zero => simp at e; subst e; exact .inr rfl
    | succ i => simp only [List.getElem?_cons_succ] at e ⊢; exact ih i ob e
theorem AWP.looser {c : Code} {S' : List Ob} (e : Loose S S') (h : AWP P N c Q tm S') : AWP P N c Q tm S := fun ro hro g a w st =>
  h ro hro g a w ⟨st.size, st.based, st.once, st.defers, st.slots, ⟨fun l ob hl => by
    rcases e.get l ob hl with rfl | h
    · trivial
    · exact st.sim.obs l ob h, fun l hl => st.sim.noEta l (by rw [e.length] at hl; exact hl), fun l hl => st.sim.noRow l (by rw [e.length] at hl; exact hl), fun b l hb => by rw [e.length]; exact st.sim.own b l hb, st.sim.lim⟩⟩
end Go.Abs
