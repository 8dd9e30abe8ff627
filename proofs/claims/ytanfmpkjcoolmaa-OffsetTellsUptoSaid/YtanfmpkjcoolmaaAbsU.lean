/- Regions that draw their order, with several operations that change the objects, one behind the other. -/
import Derived.Test.YtanfmpkjcoolmaaAbsN
set_option linter.unusedVariables false
set_option linter.unusedSimpArgs false
namespace Go.Abs
variable {P : Program} {N : Nat} {ops : Array Oper} {Q : Exit → Tm → List Ob → Prop} {tm : Tm} {S : List Ob}

/-- The objects, by which of the writers are done. -/
def OC (S : List Ob) : List (Nat × List Ob) → (Nat → Bool) → List Ob
  | [], _ => S
  | (m, S1) :: ws, L => bif L m then OC S1 ws L else S
/-- All that they may be. -/
def OCs (S : List Ob) (ws : List (Nat × List Ob)) : List (List Ob) := S :: ws.map (·.2)
def lastOC (S : List Ob) : List (Nat × List Ob) → List Ob
  | [] => S
  | (_, S1) :: ws => lastOC S1 ws
theorem OC_all (S : List Ob) (ws : List (Nat × List Ob)) : OC S ws (fun _ => true) = lastOC S ws := by
  induction ws generalizing S with
  | nil => rfl
  | cons x ws ih => obtain ⟨m, S1⟩ := x; simp only [OC, lastOC, cond_true]; exact ih S1
theorem OC_none {L : Nat → Bool} {m : Nat} {S1 : List Ob} {ws : List (Nat × List Ob)} (h : L m = false) : OC S ((m, S1) :: ws) L = S := by simp only [OC, h, cond_false]
theorem AWP.anyC {id : Nat} {l : List Oper} (ws : List (Nat × List Ob)) {S1 : List Ob} (hm : P.follows .mixedOrders = true) (hB : anyB l.toArray = true) (hlt : (ws.all fun w => Nat.blt w.1 l.length) = true) (hS : lastOC S ws = S1)
    (h : Walk P N l.toArray (OC S ws) (fun tm' => Q .normal tm' S1) 0 l tm) : AWP P N (.region id l.toArray true) Q tm S := AWP.any (OC S ws) hm hB (by
      cases ws with
      | nil => rfl
      | cons x ws =>
        obtain ⟨m, S2⟩ := x
        rw [List.all_cons, Bool.and_eq_true] at hlt
        refine OC_none ?_
        cases hh : Nat.ble l.toArray.size m with
        | false => rfl
        | true => have h1 := Nat.le_of_ble_eq_true hh; have h2 := Nat.lt_of_succ_le (Nat.le_of_ble_eq_true hlt.1); simp at h1; omega) (by rw [OC_all, hS]; simpa using h)

/-- Each writer waits for the one ahead of it. -/
def chainB (ops : Array Oper) : List (List Nat) → List (Nat × List Ob) → Bool
  | p :: ps, (m, _) :: (m', S') :: ws => pathB ops p && p.head? == some m && p.getLast? == some m' && chainB ops ps ((m', S') :: ws)
  | _, [_] => true
  | _, [] => true
  | [], _ => false

abbrev Closed (ops : Array Oper) (L : Nat → Bool) : Prop := ∀ (j : Nat) (p : Oper), ops[j]? = some p → L j = true → ∀ e ∈ p.after, Region.binds .any e = true → L e.on = true
theorem path_of {L : Nat → Bool} (hc : Closed ops L) {p : List Nat} {i m : Nat} (hp : pathB ops p = true) (h0 : p.head? = some i) (h1 : p.getLast? = some m) (h : L m = true) : L i = true := by
  cases p with
  | nil => cases h0
  | cons x l =>
    simp only [List.head?_cons, Option.some.injEq] at h0
    subst h0
    exact path_back hc l x m hp h1 h
/-- Whichever are done: one of what they may be. -/
theorem OC_mem (S : List Ob) (ws : List (Nat × List Ob)) (L : Nat → Bool) : OC S ws L ∈ OCs S ws := by
  induction ws generalizing S with
  | nil => simp [OC, OCs]
  | cons x ws ih =>
    obtain ⟨m, S1⟩ := x
    simp only [OC, OCs, List.map_cons]
    cases L m with
    | false => simp
    | true => exact List.mem_cons_of_mem _ (ih S1)
theorem OC_mark {L : Nat → Bool} {k : Nat} : ∀ {S : List Ob} {ws : List (Nat × List Ob)}, (∀ w ∈ ws, w.1 ≠ k) → OC S ws (mark L k) = OC S ws L
  | S, [], _ => rfl
  | S, (m, S1) :: ws, h => by
    have hm : m ≠ k := h (m, S1) (by simp)
    simp only [OC, mark_other L hm]
    rw [OC_mark (S := S1) (ws := ws) fun w hw => h w (by simp [hw])]

section moves
variable {R : Tm → Prop} {k : Nat} {o : Oper} {rest : List Oper} {d : D} {rs : List Nat} {es : List D} {ws : List (Nat × List Ob)}
/-- It changes nothing, whatever is done. -/
theorem Walk.free (hk : (ws.all fun w => !(Nat.beq w.1 k)) = true) (hrs : (rs.all fun s => (o.looksAt ops).contains s) = true) (hes : rs.map tm = es)
    (h : ∀ base : Tm, ∀ S', S' ∈ OCs S ws → AOps P N ops [o] (fun e tm' S'' => e = .normal ∧ tm' = putO (putAll rs es base) o.dst d ∧ S'' = S') (putAll rs es base) S')
    (next : Walk P N ops (OC S ws) R (k + 1) rest (putO tm o.dst d)) : Walk P N ops (OC S ws) R k (o :: rest) tm := by
  refine Walk.op hrs hes (fun L hr base => ?_) next
  rw [OC_mark fun w hw => by
    have := List.all_eq_true.1 hk w hw
    intro e; rw [e] at this; simp at this]
  exact h base _ (OC_mem S ws L)
/-- It changes nothing, and waits for all writers of w1, while those of w2 wait for it. -/
theorem Walk.mid (w1 w2 : List (Nat × List Ob)) (ps1 ps2 : List (List Nat)) (hws : ws = w1 ++ w2) (hk : (ws.all fun w => !(Nat.beq w.1 k)) = true) (ho : ops[k]? = some o)
    (h1 : ((w1.zip ps1).all fun x => pathB ops x.2 && x.2.head? == some x.1.1 && x.2.getLast? == some k) = true) (hl1 : w1.length = ps1.length)
    (h2 : ((w2.zip ps2).all fun x => pathB ops x.2 && x.2.head? == some k && x.2.getLast? == some x.1.1) = true) (hl2 : w2.length = ps2.length)
    (hrs : (rs.all fun s => (o.looksAt ops).contains s) = true) (hes : rs.map tm = es) {S1 : List Ob} (hS : lastOC S w1 = S1)
    (h : ∀ base : Tm, AOps P N ops [o] (fun e tm' S'' => e = .normal ∧ tm' = putO (putAll rs es base) o.dst d ∧ S'' = S1) (putAll rs es base) S1)
    (next : Walk P N ops (OC S ws) R (k + 1) rest (putO tm o.dst d)) : Walk P N ops (OC S ws) R k (o :: rest) tm := by
  refine Walk.op hrs hes (fun L hr base => ?_) next
  have hne : ∀ w ∈ ws, w.1 ≠ k := fun w hw e => by
    have := List.all_eq_true.1 hk w hw
    rw [e] at this; simp at this
  rw [OC_mark hne]
  have hcm : Closed ops (mark L k) := by
    intro j p hp' hj e he hb
    by_cases ej : j = k
    · subst ej
      have : p = o := by rw [hp'] at ho; exact Option.some.inj ho
      subst this
      by_cases e2 : e.on = j
      · rw [e2, mark_same]
      · rw [mark_other _ e2]; exact hr.pre e he hb
    · rw [mark_other _ ej] at hj
      by_cases e2 : e.on = k
      · rw [e2, mark_same]
      · rw [mark_other _ e2]; exact hr.closed j p hp' hj e he hb
  have d1 : ∀ w ∈ w1, L w.1 = true := by
    intro w hw
    obtain ⟨i, hi, e⟩ := List.getElem_of_mem hw
    have hm : (w, ps1[i]'(by omega)) ∈ w1.zip ps1 := by
      rw [← e]
      exact List.mem_of_getElem? (i := i) (by rw [List.getElem?_zip_eq_some]; exact ⟨List.getElem?_eq_getElem hi, List.getElem?_eq_getElem (by omega)⟩)
    have := List.all_eq_true.1 h1 _ hm
    simp only [Bool.and_eq_true, beq_iff_eq] at this
    have q := path_of hcm this.1.1 this.1.2 this.2 (mark_same L k)
    rwa [mark_other L (hne w (by rw [hws]; simp [hw]))] at q
  have d2 : ∀ w ∈ w2, L w.1 = false := by
    intro w hw
    obtain ⟨i, hi, e⟩ := List.getElem_of_mem hw
    have hm : (w, ps2[i]'(by omega)) ∈ w2.zip ps2 := by
      rw [← e]
      exact List.mem_of_getElem? (i := i) (by rw [List.getElem?_zip_eq_some]; exact ⟨List.getElem?_eq_getElem hi, List.getElem?_eq_getElem (by omega)⟩)
    have := List.all_eq_true.1 h2 _ hm
    simp only [Bool.and_eq_true, beq_iff_eq] at this
    cases hh : L w.1 with
    | false => rfl
    | true => have q := path_of hr.closed this.1.1 this.1.2 this.2 hh; rw [hr.un] at q; cases q
  have e : OC S ws L = S1 := by
    rw [hws, ← hS]
    clear hS hws h1 hl1 hk hne next
    induction w1 generalizing S with
    | nil =>
      cases w2 with
      | nil => rfl
      | cons x w2 => obtain ⟨m, S2⟩ := x; exact OC_none (d2 (m, S2) (by simp))
    | cons x w1 ih =>
      obtain ⟨m, S2⟩ := x
      simp only [List.cons_append, OC, d1 (m, S2) (by simp), cond_true, lastOC]
      exact ih (fun w hw => d1 w (by simp [hw]))
  rw [e]
  exact h base
/-- It is a writer: those of w1 are done, those of w2 are not. -/
theorem Walk.turns (w1 w2 : List (Nat × List Ob)) (ps1 ps2 : List (List Nat)) {S1 S2 : List Ob} (hws : ws = w1 ++ (k, S2) :: w2) (hk : ((w1 ++ w2).all fun w => !(Nat.beq w.1 k)) = true) (ho : ops[k]? = some o)
    (h1 : ((w1.zip ps1).all fun x => pathB ops x.2 && x.2.head? == some x.1.1 && x.2.getLast? == some k) = true) (hl1 : w1.length = ps1.length)
    (h2 : ((w2.zip ps2).all fun x => pathB ops x.2 && x.2.head? == some k && x.2.getLast? == some x.1.1) = true) (hl2 : w2.length = ps2.length)
    (hrs : (rs.all fun s => (o.looksAt ops).contains s) = true) (hes : rs.map tm = es) (hS : lastOC S w1 = S1)
    (h : ∀ base : Tm, AOps P N ops [o] (fun e tm' S'' => e = .normal ∧ tm' = putO (putAll rs es base) o.dst d ∧ S'' = S2) (putAll rs es base) S1)
    (next : Walk P N ops (OC S ws) R (k + 1) rest (putO tm o.dst d)) : Walk P N ops (OC S ws) R k (o :: rest) tm := by
  refine Walk.op hrs hes (fun L hr base => ?_) next
  have hne : ∀ w ∈ w1 ++ w2, w.1 ≠ k := fun w hw e => by
    have := List.all_eq_true.1 hk w hw
    rw [e] at this; simp at this
  have hcm : Closed ops (mark L k) := by
    intro j p hp' hj e he hb
    by_cases ej : j = k
    · subst ej
      have : p = o := by rw [hp'] at ho; exact Option.some.inj ho
      subst this
      by_cases e2 : e.on = j
      · rw [e2, mark_same]
      · rw [mark_other _ e2]; exact hr.pre e he hb
    · rw [mark_other _ ej] at hj
      by_cases e2 : e.on = k
      · rw [e2, mark_same]
      · rw [mark_other _ e2]; exact hr.closed j p hp' hj e he hb
  have d1 : ∀ w ∈ w1, L w.1 = true := by
    intro w hw
    obtain ⟨i, hi, e⟩ := List.getElem_of_mem hw
    have hm : (w, ps1[i]'(by omega)) ∈ w1.zip ps1 := by
      rw [← e]
      exact List.mem_of_getElem? (i := i) (by rw [List.getElem?_zip_eq_some]; exact ⟨List.getElem?_eq_getElem hi, List.getElem?_eq_getElem (by omega)⟩)
    have := List.all_eq_true.1 h1 _ hm
    simp only [Bool.and_eq_true, beq_iff_eq] at this
    have q := path_of hcm this.1.1 this.1.2 this.2 (mark_same L k)
    rwa [mark_other L (hne w (by simp [hw]))] at q
  have d2 : ∀ w ∈ w2, L w.1 = false := by
    intro w hw
    obtain ⟨i, hi, e⟩ := List.getElem_of_mem hw
    have hm : (w, ps2[i]'(by omega)) ∈ w2.zip ps2 := by
      rw [← e]
      exact List.mem_of_getElem? (i := i) (by rw [List.getElem?_zip_eq_some]; exact ⟨List.getElem?_eq_getElem hi, List.getElem?_eq_getElem (by omega)⟩)
    have := List.all_eq_true.1 h2 _ hm
    simp only [Bool.and_eq_true, beq_iff_eq] at this
    cases hh : L w.1 with
    | false => rfl
    | true => have q := path_of hr.closed this.1.1 this.1.2 this.2 hh; rw [hr.un] at q; cases q
  have e : OC S ws L = S1 ∧ OC S ws (mark L k) = S2 := by
    rw [hws, ← hS]
    clear hS hws h1 hl1 next
    have hne' := hne
    clear hne hk h
    induction w1 generalizing S with
    | nil =>
      refine ⟨OC_none hr.un, ?_⟩
      simp only [List.nil_append, OC, mark_same, cond_true]
      cases w2 with
      | nil => rfl
      | cons x w2 =>
        obtain ⟨m, S3⟩ := x
        exact OC_none (by rw [mark_other L (hne' (m, S3) (by simp))]; exact d2 (m, S3) (by simp))
    | cons x w1 ih =>
      obtain ⟨m, S3⟩ := x
      have hm := d1 (m, S3) (by simp)
      simp only [List.cons_append, OC, hm, mark_other L (hne' (m, S3) (by simp)), cond_true, lastOC]
      exact ih (fun w hw => d1 w (by simp [hw])) (fun w hw => hne' w (by simp [List.mem_append] at hw ⊢; rcases hw with hw | hw <;> simp [hw]))
  rw [e.1, e.2]
  exact h base
end moves
end Go.Abs
