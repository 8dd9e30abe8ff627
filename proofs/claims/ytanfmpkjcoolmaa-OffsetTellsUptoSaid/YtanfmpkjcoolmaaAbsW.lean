/- Regions that draw their order, whatever their operations change: the objects by a table of which of the writers are done. -/
import Derived.Test.YtanfmpkjcoolmaaAbsV
set_option linter.unusedVariables false
set_option linter.unusedSimpArgs false
namespace Go.Abs
variable {P : Program} {N : Nat} {ops : Array Oper} {Q : Exit → Tm → List Ob → Prop} {tm : Tm} {S : List Ob}

/-- b waits for a. -/
def reachB (ops : Array Oper) (a : Nat) : Nat → Nat → Bool
  | 0, b => Nat.beq a b
  | fuel + 1, b => Nat.beq a b || (match ops[b]? with | some o => o.after.any fun e => Region.binds .any e && reachB ops a fuel e.on | none => false)
theorem reach_closed {L : Nat → Bool} (hc : Closed ops L) {a : Nat} : ∀ (fuel b : Nat), reachB ops a fuel b = true → L b = true → L a = true
  | 0, b, h, hb => by rw [reachB] at h; rw [Nat.eq_of_beq_eq_true h]; exact hb
  | fuel + 1, b, h, hb => by
    rw [reachB, Bool.or_eq_true] at h
    rcases h with h | h
    · rw [Nat.eq_of_beq_eq_true h]; exact hb
    · cases ho : ops[b]? with
      | none => rw [ho] at h; cases h
      | some o =>
        rw [ho] at h
        simp only at h
        rw [← Array.any_toList, List.any_eq_true] at h
        obtain ⟨e, he, h2⟩ := h
        rw [Bool.and_eq_true] at h2
        have he' := Array.mem_toList_iff.1 he
        exact reach_closed hc fuel e.on h2.2 (hc b o ho hb e he' h2.1)

/-- Can these be the ones that are done when k comes up? -/
def fitsB (ops : Array Oper) (k : Nat) (ws : List Nat) (p : List Bool) : Bool :=
  (ws.zip p).all fun x => (bif x.2 then !(reachB ops k ops.size x.1) else !(reachB ops x.1 ops.size k) || Nat.beq x.1 k) && (ws.zip p).all fun y => !(x.2 && !y.2 && reachB ops y.1 ops.size x.1)
def bitsOf : Nat → List (List Bool)
  | 0 => [[]]
  | n + 1 => (bitsOf n).map (false :: ·) ++ (bitsOf n).map (true :: ·)
theorem mem_bits : ∀ (p : List Bool), p ∈ bitsOf p.length
  | [] => by simp [bitsOf]
  | b :: p => by
    have := mem_bits p
    cases b <;> simp [bitsOf, this]
def tabB (ops : Array Oper) (k : Nat) (ws : List Nat) (pats : List (List Bool)) : Bool :=
  (bitsOf ws.length).all fun p => pats.contains p || !(fitsB ops k ws p)

theorem fits_of {L : Nat → Bool} {k : Nat} {o : Oper} (ho : ops[k]? = some o) (hr : Ready ops k o L) (ws : List Nat) : fitsB ops k ws (ws.map L) = true := by
  have hcm : Closed ops (mark L k) := by
    intro j p hp' hj e he hb
    by_cases ej : j = k
    · subst ej
      have : p = o := by rw [hp'] at ho; exact Option.some.inj ho
      subst this
      by_cases e2 : e.on = j
      · rw [e2, mark_same]
      · rw [mark_other _ e2]; exact hr.pre e he hb
    · rw [mark_other _ ej] at hj
      by_cases e2 : e.on = k
      · rw [e2, mark_same]
      · rw [mark_other _ e2]; exact hr.closed j p hp' hj e he hb
  have hz : ∀ x ∈ ws.zip (ws.map L), x.2 = L x.1 := by
    intro x hx
    obtain ⟨i, hi, e⟩ := List.getElem_of_mem hx
    rw [List.getElem_zip, List.getElem_map] at e
    rw [← e]
  unfold fitsB
  rw [List.all_eq_true]
  intro x hx
  rw [Bool.and_eq_true, List.all_eq_true]
  refine ⟨?_, fun y hy => ?_⟩
  · rw [hz x hx]
    cases hl : L x.1 with
    | true =>
      simp only [cond_true, Bool.not_eq_true']
      cases hh : reachB ops k ops.size x.1 with
      | false => rfl
      | true => have := reach_closed hr.closed _ _ hh hl; rw [hr.un] at this; cases this
    | false =>
      simp only [cond_false]
      cases hh : reachB ops x.1 ops.size k with
      | false => rfl
      | true =>
        have := reach_closed hcm _ _ hh (mark_same L k)
        by_cases e : x.1 = k
        · rw [e]; simp
        · rw [mark_other _ e, hl] at this; cases this
  · rw [hz x hx, hz y hy]
    cases h1 : L x.1 with
    | false => simp
    | true =>
      cases h2 : L y.1 with
      | true => simp
      | false =>
        cases hh : reachB ops y.1 ops.size x.1 with
        | false => simp
        | true => have := reach_closed hr.closed _ _ hh h1; rw [h2] at this; cases this

/-- The objects, by the table. -/
def OT (T : List Bool → List Ob) (ws : List Nat) : (Nat → Bool) → List Ob := fun L => T (ws.map L)
theorem AWP.anyT {id : Nat} {l : List Oper} (ws : List Nat) (T : List Bool → List Ob) {S1 : List Ob} (hm : P.follows .mixedOrders = true) (hB : anyB l.toArray = true) (h0 : T (ws.map fun j => Nat.ble l.toArray.size j) = S) (h1 : T (ws.map fun _ => true) = S1)
    (h : Walk P N l.toArray (OT T ws) (fun tm' => Q .normal tm' S1) 0 l tm) : AWP P N (.region id l.toArray true) Q tm S :=
  AWP.any (OT T ws) hm hB h0 (by rw [show OT T ws (fun _ => true) = S1 from h1]; simpa using h)
/-- One operation: in each case that can be. `nx` turns its own bit. -/
theorem Walk.tab {R : Tm → Prop} {k : Nat} {o : Oper} {rest : List Oper} {d : D} {rs : List Nat} {es : List D} {ws : List Nat} {T : List Bool → List Ob} (pats : List (List Bool))
    (ho : ops[k]? = some o) (hp : tabB ops k ws pats = true) (hrs : (rs.all fun s => (o.looksAt ops).contains s) = true) (hes : rs.map tm = es)
    (h : ∀ base : Tm, ∀ p ∈ pats, ∀ p', p' = (ws.zip p).map (fun x => Nat.beq x.1 k || x.2) → AOps P N ops [o] (fun e tm' S'' => e = .normal ∧ tm' = putO (putAll rs es base) o.dst d ∧ S'' = T p') (putAll rs es base) (T p))
    (next : Walk P N ops (OT T ws) R (k + 1) rest (putO tm o.dst d)) : Walk P N ops (OT T ws) R k (o :: rest) tm := by
  refine Walk.op hrs hes (fun L hr base => ?_) next
  have hmem : ws.map L ∈ pats := by
    have hb := mem_bits (ws.map L)
    rw [List.length_map] at hb
    have := List.all_eq_true.1 hp _ hb
    rw [fits_of ho hr ws] at this
    simpa using this
  refine h base (ws.map L) hmem (ws.map (mark L k)) ?_
  refine List.ext_getElem (by simp) fun i h1 h2 => ?_
  simp only [List.getElem_map, List.getElem_zip]
  unfold mark
  have h3 : i < ws.length := by simpa using h1
  cases Nat.beq (ws[i]'h3) k <;> rfl
/-- The cases one by one: what is done, the objects, the objects behind it. -/
def StepAll (P : Program) (N : Nat) (ops : Array Oper) (o : Oper) (d : D) (T : List Bool → List Ob) (k : Nat) (ws : List Nat) (F : Tm) : List (List Bool × List Ob × List Ob) → Prop
  | [] => True
  | (p, Sa, Sb) :: r => (T p = Sa ∧ T ((ws.zip p).map (fun x => Nat.beq x.1 k || x.2)) = Sb ∧ AOps P N ops [o] (fun e tm' S'' => e = .normal ∧ tm' = putO F o.dst d ∧ S'' = Sb) F Sa) ∧ StepAll P N ops o d T k ws F r
theorem StepAll.get {o : Oper} {d : D} {T : List Bool → List Ob} {k : Nat} {ws : List Nat} {F : Tm} : ∀ {l : List (List Bool × List Ob × List Ob)}, StepAll P N ops o d T k ws F l → ∀ p ∈ l.map (·.1), AOps P N ops [o] (fun e tm' S'' => e = .normal ∧ tm' = putO F o.dst d ∧ S'' = T ((ws.zip p).map (fun x => Nat.beq x.1 k || x.2))) F (T p)
  | [], _, p, hp => by simp at hp
  | (q, Sa, Sb) :: r, h, p, hp => by
    obtain ⟨⟨e1, e2, h1⟩, h2⟩ := h
    rcases List.mem_cons.1 hp with rfl | hp
    · rw [e1, e2]; exact h1
    · exact StepAll.get h2 p hp
theorem Walk.cases {R : Tm → Prop} {k : Nat} {o : Oper} {rest : List Oper} {d : D} {rs : List Nat} {es : List D} {ws : List Nat} {T : List Bool → List Ob} (cs : List (List Bool × List Ob × List Ob))
    (ho : ops[k]? = some o) (hp : tabB ops k ws (cs.map (·.1)) = true) (hrs : (rs.all fun s => (o.looksAt ops).contains s) = true) (hes : rs.map tm = es)
    (h : ∀ base : Tm, StepAll P N ops o d T k ws (putAll rs es base) cs)
    (next : Walk P N ops (OT T ws) R (k + 1) rest (putO tm o.dst d)) : Walk P N ops (OT T ws) R k (o :: rest) tm :=
  Walk.tab (cs.map (·.1)) ho hp hrs hes (fun base p hp p' e => by subst e; exact (h base).get p hp) next
end Go.Abs
