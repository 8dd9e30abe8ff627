/- Regions that draw their order: one walk of the written order serves every order. -/
import Derived.Test.YtanfmpkjcoolmaaAbsM
import Derived.Orders
set_option linter.unusedVariables false
set_option linter.unusedSimpArgs false
namespace Go.Abs
variable {P : Program} {N : Nat} {ops : Array Oper} {Q : Exit → Tm → List Ob → Prop} {tm : Tm} {S : List Ob}

theorem blt_t {j k : Nat} (h : j < k) : Nat.blt j k = true := Nat.ble_eq_true_of_le h
theorem blt_f {j k : Nat} (h : ¬ j < k) : Nat.blt j k = false := by
  cases hh : Nat.blt j k with
  | false => rfl
  | true => exact absurd (Nat.lt_of_succ_le (Nat.le_of_ble_eq_true hh)) h

/-- One more is done. -/
def mark (L : Nat → Bool) (i : Nat) : Nat → Bool := fun j => bif Nat.beq j i then true else L j
theorem mark_same (L : Nat → Bool) (i : Nat) : mark L i i = true := by simp [mark]
theorem mark_other (L : Nat → Bool) {i j : Nat} (h : j ≠ i) : mark L i j = L j := by
  unfold mark
  cases hb : Nat.beq j i with
  | true => exact absurd (Nat.eq_of_beq_eq_true hb) h
  | false => rfl

def hasEdge (o : Oper) (i : Nat) : Bool := o.after.any fun e => Region.binds .any e && Nat.beq e.on i

/-- Of two operations: what one writes the other reads only where they are ordered; no slot is written twice; edges lead back. -/
def pairB (ops : Array Oper) (k : Nat) (o : Oper) (j : Nat) (p : Oper) : Bool :=
  (match p.dst with
    | none => true
    | some s => (Nat.beq j k || (!((o.looksAt ops).contains s)) || (bif Nat.blt j k then hasEdge o j else hasEdge p k)) && (Nat.beq j k || o.dst != some s))
def anyB (ops : Array Oper) : Bool :=
  (List.range ops.size).all fun k => match ops[k]? with
    | none => true
    | some o => (o.after.all fun e => !Region.binds .any e || Nat.blt e.on k) && (List.range ops.size).all fun j => match ops[j]? with
      | none => true
      | some p => pairB ops k o j p

structure AnyOk (ops : Array Oper) : Prop where
  back : ∀ (k : Nat) (o : Oper), ops[k]? = some o → ∀ e ∈ o.after, Region.binds .any e = true → e.on < k
  read : ∀ (k : Nat) (o : Oper) (j : Nat) (p : Oper) (s : Nat), ops[k]? = some o → ops[j]? = some p → p.dst = some s → s ∈ o.looksAt ops → j ≠ k → (j < k → ∃ e ∈ o.after, Region.binds .any e = true ∧ e.on = j) ∧ (k < j → ∃ e ∈ p.after, Region.binds .any e = true ∧ e.on = k)
  once : ∀ (k : Nat) (o : Oper) (j : Nat) (p : Oper) (s : Nat), ops[k]? = some o → ops[j]? = some p → p.dst = some s → o.dst = some s → j = k

theorem hasEdge_spec {o : Oper} {i : Nat} (h : hasEdge o i = true) : ∃ e ∈ o.after, Region.binds .any e = true ∧ e.on = i := by
  unfold hasEdge at h
  rw [← Array.any_toList, List.any_eq_true] at h
  obtain ⟨e, he, hb⟩ := h
  rw [Bool.and_eq_true] at hb
  exact ⟨e, Array.mem_toList_iff.1 he, hb.1, Nat.eq_of_beq_eq_true hb.2⟩

theorem anyB_spec (h : anyB ops = true) : AnyOk ops := by
  have key : ∀ k o, ops[k]? = some o → (o.after.all fun e => !Region.binds .any e || Nat.blt e.on k) = true ∧ ∀ j p, ops[j]? = some p → pairB ops k o j p = true := by
    intro k o ho
    have hk : k < ops.size := (Array.getElem?_eq_some_iff.1 ho).1
    have h1 := List.all_eq_true.1 h k (List.mem_range.2 hk)
    simp only [ho, Bool.and_eq_true] at h1
    refine ⟨h1.1, fun j p hp => ?_⟩
    have hj : j < ops.size := (Array.getElem?_eq_some_iff.1 hp).1
    have h2 := List.all_eq_true.1 h1.2 j (List.mem_range.2 hj)
    simpa only [hp] using h2
  refine ⟨fun k o ho e he hb => ?_, fun k o j p s ho hp hd hs hne => ?_, fun k o j p s ho hp hd hd' => ?_⟩
  · have h1 := (key k o ho).1
    rw [Array.all_eq_true_iff_forall_mem] at h1
    have h2 := h1 e he
    rw [hb] at h2
    simp only [Bool.not_true, Bool.false_or] at h2
    exact Nat.lt_of_succ_le (Nat.le_of_ble_eq_true h2)
  · have h1 := (key k o ho).2 j p hp
    unfold pairB at h1
    rw [hd] at h1
    simp only [Bool.and_eq_true, Bool.or_eq_true] at h1
    have hb : Nat.beq j k = false := by cases hh : Nat.beq j k with | false => rfl | true => exact absurd (Nat.eq_of_beq_eq_true hh) hne
    have h2 := h1.1
    rw [hb] at h2
    have hc : (o.looksAt ops).contains s = true := by simpa using hs
    rw [hc] at h2
    simp only [Bool.not_true, Bool.false_eq_true, false_or] at h2
    refine ⟨fun hlt => ?_, fun hlt => ?_⟩
    · have : Nat.blt j k = true := blt_t hlt
      rw [this, cond_true] at h2
      exact hasEdge_spec h2
    · have : Nat.blt j k = false := by
        cases hh : Nat.blt j k with
        | false => rfl
        | true => have := Nat.lt_of_succ_le (Nat.le_of_ble_eq_true hh); omega
      rw [this, cond_false] at h2
      exact hasEdge_spec h2
  · have h1 := (key k o ho).2 j p hp
    unfold pairB at h1
    rw [hd] at h1
    simp only [Bool.and_eq_true, Bool.or_eq_true] at h1
    rcases h1.2 with h2 | h2
    · exact Nat.eq_of_beq_eq_true h2
    · rw [hd'] at h2; simp at h2

/-- What must be done, and what must not, when operation k comes up. -/
structure Ready (ops : Array Oper) (k : Nat) (o : Oper) (L : Nat → Bool) : Prop where
  un : L k = false
  pre : ∀ e ∈ o.after, Region.binds .any e = true → L e.on = true
  closed : ∀ (j : Nat) (p : Oper), ops[j]? = some p → L j = true → ∀ e ∈ p.after, Region.binds .any e = true → L e.on = true

/-- What one operation does: its value, its objects. -/
def One (P : Program) (N : Nat) (ops : Array Oper) (o : Oper) (d : D) (S' : List Ob) (tm : Tm) (S : List Ob) : Prop :=
  AOps P N ops [o] (fun e tm' S'' => e = .normal ∧ tm' = putO tm o.dst d ∧ S'' = S') tm S

def Walk (P : Program) (N : Nat) (ops : Array Oper) (O : (Nat → Bool) → List Ob) (Q : Tm → Prop) : Nat → List Oper → Tm → Prop
  | _, [], tm => Q tm
  | k, o :: rest, tm => ∃ d, (∀ L, Ready ops k o L → ∀ base : Tm, (∀ s ∈ o.looksAt ops, base s = tm s) → One P N ops o d (O (mark L k)) base (O L)) ∧ Walk P N ops O Q (k + 1) rest (putO tm o.dst d)

section
variable {vals : Nat → D}
def wr (ops : Array Oper) (s : Nat) : Option Nat := (List.range ops.size).find? fun j => match ops[j]? with | some o => o.dst == some s | none => false
theorem wr_some {s j : Nat} (h : wr ops s = some j) : ∃ o, ops[j]? = some o ∧ o.dst = some s := by
  unfold wr at h
  have h1 := List.find?_some h
  cases ho : ops[j]? with
  | none => simp [ho] at h1
  | some o => simp only [ho, beq_iff_eq] at h1; exact ⟨o, rfl, h1⟩
theorem wr_none {s : Nat} (h : wr ops s = none) : ∀ (j : Nat) (o : Oper), ops[j]? = some o → o.dst ≠ some s := by
  intro j o ho e
  unfold wr at h
  have hj : j < ops.size := (Array.getElem?_eq_some_iff.1 ho).1
  have := List.find?_eq_none.1 h j (List.mem_range.2 hj)
  simp [ho, e] at this

def rt (ops : Array Oper) (tm : Tm) (vals : Nat → D) (L : Nat → Bool) : Tm := fun s => match wr ops s with
  | some j => bif L j then vals j else tm s
  | none => tm s

theorem rt_mark (hk : AnyOk ops) {L : Nat → Bool} {k : Nat} {o : Oper} (ho : ops[k]? = some o) : rt ops tm vals (mark L k) = putO (rt ops tm vals L) o.dst (vals k) := by
  funext s
  unfold rt
  cases hw : wr ops s with
  | none =>
    have := wr_none hw k o ho
    cases hd : o.dst with
    | none => simp only [putO, hw]
    | some t =>
      have hne : s ≠ t := fun e => this (by rw [hd, e])
      simp only [putO]
      rw [put_other _ _ hne]
      simp only [hw]
  | some j =>
    obtain ⟨p, hp, hpd⟩ := wr_some hw
    by_cases e : j = k
    · subst e
      have : p = o := by rw [hp] at ho; exact Option.some.inj ho
      subst this
      simp only [hpd, putO]
      rw [put_same, mark_same]
      rfl
    · dsimp only
      rw [mark_other _ e]
      cases hd : o.dst with
      | none => simp only [putO, hw]
      | some t =>
        have hne : s ≠ t := fun e' => e (hk.once k o j p s ho hp hpd (by rw [hd, e']))
        simp only [putO]
        rw [put_other _ _ hne]
        simp only [hw]

theorem rt_read (hk : AnyOk ops) {L : Nat → Bool} {k : Nat} {o : Oper} (ho : ops[k]? = some o) (hr : Ready ops k o L) {s : Nat} (hs : s ∈ o.looksAt ops) :
    rt ops tm vals L s = rt ops tm vals (fun j => Nat.blt j k) s := by
  unfold rt
  cases hw : wr ops s with
  | none => rfl
  | some j =>
    obtain ⟨p, hp, hpd⟩ := wr_some hw
    dsimp only
    by_cases e : j = k
    · subst e
      rw [hr.un]
      have : Nat.blt j j = false := blt_f (by omega)
      rw [this]
    · have := hk.read k o j p s ho hp hpd hs e
      by_cases hlt : j < k
      · obtain ⟨ed, he, hb, e1⟩ := this.1 hlt
        have h1 := hr.pre ed he hb
        rw [e1] at h1
        have h2 : Nat.blt j k = true := blt_t hlt
        rw [h1, h2]
      · have hkj : k < j := Nat.lt_of_le_of_ne (Nat.le_of_not_lt hlt) (Ne.symm e)
        obtain ⟨ed, he, hb, e1⟩ := this.2 hkj
        have h1 : L j = false := by
          cases hl : L j with
          | false => rfl
          | true => have := hr.closed j p hp hl ed he hb; rw [e1, hr.un] at this; cases this
        have h2 : Nat.blt j k = false := by
          cases hh : Nat.blt j k with
          | false => rfl
          | true => exact absurd (Nat.lt_of_succ_le (Nat.le_of_ble_eq_true hh)) hlt
        rw [h1, h2]
end

/-- What the walk shows: each operation's value. -/
theorem Walk.spec {O : (Nat → Bool) → List Ob} {Q : Tm → Prop} (hk : AnyOk ops) : ∀ (l : List Oper) (k : Nat) (vals : Nat → D), (∀ j, l[j]? = ops[k + j]?) → Walk P N ops O Q k l (rt ops tm vals (fun j => Nat.blt j k)) →
    ∃ vals' : Nat → D, (∀ j, j < k → vals' j = vals j) ∧ (∀ j o, ops[j]? = some o → k ≤ j → ∀ L, Ready ops j o L → ∀ base : Tm, (∀ s ∈ o.looksAt ops, base s = rt ops tm vals' (fun i => Nat.blt i j) s) → One P N ops o (vals' j) (O (mark L j)) base (O L)) ∧
      Q (rt ops tm vals' (fun j => Nat.blt j ops.size))
  | [], k, vals, hl, h => by
    have hsz : ops.size ≤ k := by
      have := hl 0
      simp only [List.getElem?_nil, Nat.add_zero] at this
      rcases Nat.lt_or_ge k ops.size with h' | h'
      · rw [Array.getElem?_eq_getElem h'] at this; cases this
      · exact h'
    refine ⟨vals, fun _ _ => rfl, fun j o ho hj => ?_, ?_⟩
    · have := (Array.getElem?_eq_some_iff.1 ho).1; omega
    · have : rt ops tm vals (fun j => Nat.blt j k) = rt ops tm vals (fun j => Nat.blt j ops.size) := by
        funext s
        unfold rt
        cases hw : wr ops s with
        | none => rfl
        | some j =>
          obtain ⟨p, hp, hpd⟩ := wr_some hw
          have h1 : j < ops.size := (Array.getElem?_eq_some_iff.1 hp).1
          have h2 : Nat.blt j k = true := blt_t (by omega)
          have h3 : Nat.blt j ops.size = true := blt_t h1
          dsimp only
          rw [h2, h3]
      rw [← this]
      exact h
  | o :: l, k, vals, hl, h => by
    obtain ⟨d, h1, h2⟩ := h
    have h0 : ops[k]? = some o := by simpa using (hl 0).symm
    let v1 : Nat → D := fun j => bif Nat.beq j k then d else vals j
    have hv1 : v1 k = d := by simp [v1]
    have hvo : ∀ j, j ≠ k → v1 j = vals j := fun j hj => by
      have hb : Nat.beq j k = false := by cases hh : Nat.beq j k with | false => rfl | true => exact absurd (Nat.eq_of_beq_eq_true hh) hj
      simp only [v1, hb, cond_false]
    have hrt : rt ops tm v1 (fun j => Nat.blt j k) = rt ops tm vals (fun j => Nat.blt j k) := by
      funext s
      unfold rt
      cases hw : wr ops s with
      | none => rfl
      | some j =>
        dsimp only
        by_cases e : j = k
        · subst e; have : Nat.blt j j = false := blt_f (by omega)
          rw [this]; rfl
        · rw [hvo j e]
    have hmk : mark (fun j => Nat.blt j k) k = fun j => Nat.blt j (k + 1) := by
      funext j
      by_cases e : j = k
      · subst e; rw [mark_same, blt_t (by omega)]
      · rw [mark_other _ e]
        by_cases hlt : j < k
        · have a1 : Nat.blt j k = true := blt_t hlt
          have a2 : Nat.blt j (k + 1) = true := blt_t (by omega)
          rw [a1, a2]
        · have a1 : Nat.blt j k = false := by
            cases hh : Nat.blt j k with
            | false => rfl
            | true => exact absurd (Nat.lt_of_succ_le (Nat.le_of_ble_eq_true hh)) hlt
          have a2 : Nat.blt j (k + 1) = false := by
            cases hh : Nat.blt j (k + 1) with
            | false => rfl
            | true => have := Nat.lt_of_succ_le (Nat.le_of_ble_eq_true hh); omega
          rw [a1, a2]
    have hnext : Walk P N ops O Q (k + 1) l (rt ops tm v1 (fun j => Nat.blt j (k + 1))) := by
      rw [← hmk, rt_mark hk h0, hv1, hrt]
      exact h2
    obtain ⟨vals', e1, e2, e3⟩ := Walk.spec hk l (k + 1) v1 (fun j => by have := hl (j + 1); simpa [Nat.add_assoc, Nat.add_comm 1 j] using this) hnext
    have hvk : vals' k = d := by rw [e1 k (by omega), hv1]
    refine ⟨vals', fun j hj => by rw [e1 j (by omega), hvo j (by omega)], fun j p hp hj L hr base hb => ?_, e3⟩
    by_cases e : j = k
    · subst e
      have : p = o := by rw [hp] at h0; exact Option.some.inj h0
      subst this
      rw [hvk]
      refine h1 L hr base fun s hs => ?_
      rw [hb s hs]
      unfold rt
      cases hw : wr ops s with
      | none => rfl
      | some i =>
        dsimp only
        by_cases hlt : i < j
        · rw [e1 i (by omega), hvo i (by omega)]
        · have a1 : Nat.blt i j = false := by
            cases hh : Nat.blt i j with
            | false => rfl
            | true => exact absurd (Nat.lt_of_succ_le (Nat.le_of_ble_eq_true hh)) hlt
          rw [a1]; rfl
    · exact e2 j p hp (by omega) L hr base hb

theorem One.go {ro : Option Nat} {o : Oper} {d : D} {S' : List Ob} {g : G} {a : Act} {w : World} (h : One P N ops o d S' tm S) (st : St N g tm S a w) {K : Act → World → Prop} {Q' : Exit → Act → World → Prop} {i : Nat} (hi : ops[i]? = some o)
    (hK : ∀ g' a' w', St N g' (putO tm o.dst d) S' a' w' → Later g w g' w' → K a' w') : wpOpIn (wideR ro) 0 P ops Q' i K a w := by
  have h1 := h ro g a w st
  have hno : ∀ e a' w', Post N (fun e tm' S'' => e = .normal ∧ tm' = putO tm o.dst d ∧ S'' = S') g w e a' w' → e = .normal ∧ K a' w' := by
    rintro e a' w' ⟨g', tm', S1, ⟨rfl, rfl, rfl⟩, st', l⟩
    exact ⟨rfl, hK g' a' w' st' l⟩
  revert h1
  generalize Post N (fun e tm' S'' => e = .normal ∧ tm' = putO tm o.dst d ∧ S'' = S') g w = R at hno
  intro h1
  unfold wpListIn at h1
  unfold wpOpIn
  simp only [hi]
  split
  · rename_i hw
    rw [if_pos hw] at h1
    exact op_to hno h1
  · rename_i hw
    rw [if_neg hw] at h1
    exact ⟨h1.1, (hno _ _ _ h1.2).2⟩

def done (L : Array Bool) : Nat → Bool := fun i => L.getD i true
theorem done_mark {L : Array Bool} {i : Nat} (h : i < L.size) : done (L.setIfInBounds i true) = mark (done L) i := by
  funext j
  unfold done
  by_cases e : j = i
  · subst e; rw [mark_same]; simp [h]
  · rw [mark_other _ e]; exact getD_set_ne true (Ne.symm e)

theorem any_run {ro : Option Nat} {O : (Nat → Bool) → List Ob} {vals : Nat → D} {g0 : G} {w0 : World} (hk : AnyOk ops)
    (hop : ∀ j o, ops[j]? = some o → ∀ L, Ready ops j o L → ∀ base : Tm, (∀ s ∈ o.looksAt ops, base s = rt ops tm vals (fun i => Nat.blt i j) s) → One P N ops o (vals j) (O (mark L j)) base (O L))
    (hQ : Q .normal (rt ops tm vals (fun _ => true)) (O (fun _ => true))) :
    ∀ (fuel : Nat) (L : Array Bool) (g : G) (a : Act) (w : World), L.size = ops.size → (List.range ops.size).countP (fun i => !(done L i)) = fuel →
      (∀ j p, ops[j]? = some p → done L j = true → ∀ e ∈ p.after, Region.binds .any e = true → done L e.on = true) →
      St N g (rt ops tm vals (done L)) (O (done L)) a w → Later g0 w0 g w → wpAnyIn (wideR ro) 0 P .any ops (Post N Q g0 w0) fuel L a w
  | 0, L, g, a, w, hsz, hc, hcl, st, hl => by
    have hall : ∀ i, done L i = true := fun i => by
      rcases Nat.lt_or_ge i ops.size with h | h
      · have := List.countP_eq_zero.1 hc i (List.mem_range.2 h)
        simpa using this
      · unfold done; rw [Array.getD_eq_getD_getElem?, Array.getElem?_eq_none (by omega)]; rfl
    have e : done L = fun _ => true := funext hall
    refine ⟨?_, g, _, _, hQ, by rw [e] at st; exact st, hl⟩
    rw [List.eq_nil_iff_forall_not_mem]
    intro i hi
    have := (mem_ready.1 hi).1
    have h2 := hall i
    unfold done at h2
    rw [this] at h2; cases h2
  | fuel + 1, L, g, a, w, hsz, hc, hcl, st, hl => by
    refine ⟨fun hnil => ?_, fun i hi => ?_⟩
    · exfalso
      have hex : ∀ k, k < ops.size → done L k = true := by
        intro k
        induction k using Nat.strongRecOn with
        | _ k ih =>
          intro hlt
          cases hd : done L k with
          | true => rfl
          | false =>
            exfalso
            have : k ∈ Region.ready .any ops L := by
              rw [mem_ready]
              refine ⟨hd, ops[k], Array.getElem?_eq_getElem hlt, fun e he hb => ?_⟩
              have h1 := hk.back k _ (Array.getElem?_eq_getElem hlt) e he hb
              have h2 := ih e.on h1 (by omega)
              unfold done at h2
              rw [Array.getD_eq_getD_getElem?, Array.getElem?_eq_getElem (by omega)] at h2 ⊢
              exact h2
            rw [hnil] at this; cases this
      have : (List.range ops.size).countP (fun i => !(done L i)) = 0 := List.countP_eq_zero.2 fun i hi => by
        rw [hex i (List.mem_range.1 hi)]; simp
      omega
    · obtain ⟨h0, o, ho, hall⟩ := mem_ready.1 hi
      have hlt : i < ops.size := (Array.getElem?_eq_some_iff.1 ho).1
      have hr : Ready ops i o (done L) := ⟨h0, fun e he hb => by
        have h2 := hall e he hb
        have h1 := hk.back i o ho e he hb
        unfold done
        rw [Array.getD_eq_getD_getElem?, Array.getElem?_eq_getElem (by omega)] at h2 ⊢
        exact h2, hcl⟩
      have hone := hop i o ho (done L) hr (rt ops tm vals (done L)) (fun s hs => rt_read hk ho hr hs)
      refine One.go hone st ho fun g' a' w' st' hl' => ?_
      refine any_run hk hop hQ fuel _ g' a' w' (by simp [hsz]) ?_ ?_ ?_ (hl.trans hl')
      · rw [done_mark (by omega)]
        have : ∀ n, i < n → (List.range n).countP (fun j => !(mark (done L) i j)) + 1 = (List.range n).countP (fun j => !(done L j)) := by
          intro n
          induction n with
          | zero => intro h; omega
          | succ n ih =>
            intro h
            rw [List.range_succ, List.countP_append, List.countP_append]
            by_cases e : i = n
            · subst e
              have h1 : (List.range i).countP (fun j => !(mark (done L) i j)) = (List.range i).countP (fun j => !(done L j)) := by
                refine List.countP_congr fun j hj => ?_
                rw [mark_other _ (by have := List.mem_range.1 hj; omega)]
              rw [h1]
              simp [List.countP_cons, mark_same, hr.un]
            · have := ih (by omega)
              have h2 : mark (done L) i n = done L n := mark_other _ (fun e' => e e'.symm)
              simp only [List.countP_cons, List.countP_nil, h2]
              omega
        have := this ops.size hlt
        omega
      · rw [done_mark (by omega)]
        intro j p hp hj e he hb
        by_cases ej : j = i
        · subst ej
          have : p = o := by rw [hp] at ho; exact Option.some.inj ho
          subst this
          have h1 := hr.pre e he hb
          by_cases e2 : e.on = j
          · rw [e2, mark_same]
          · rw [mark_other _ e2]; exact h1
        · rw [mark_other _ ej] at hj
          have h1 := hcl j p hp hj e he hb
          by_cases e2 : e.on = i
          · rw [e2, mark_same]
          · rw [mark_other _ e2]; exact h1
      · rw [done_mark (by omega), rt_mark hk ho]
        exact st'

theorem St.drew {g : G} {a : Act} {w : World} (st : St N g tm S a w) : St N g tm S a { w with drawn := w.drawn + 1 } ∧ Later g w g { w with drawn := w.drawn + 1 } := by
  have hle : Le g w g { w with drawn := w.drawn + 1 } := ⟨fun _ _ h => h, fun _ _ h => h, fun _ n h e => ⟨n, h, e, .inr ⟨rfl, rfl⟩⟩⟩
  refine ⟨⟨st.size, st.based, st.once, st.defers, fun i => (st.slots i).mono hle, ?_⟩, hle, ⟨Nat.le_refl _, rfl, rfl, rfl, fun _ _ h => ⟨rfl, rfl, h⟩, fun _ _ _ h => h, rfl⟩⟩
  obtain ⟨h1, h2, h3, h4, h5⟩ := st.sim
  exact ⟨fun l ob e => (h1 l ob e).keep hle ⟨Nat.le_refl _, rfl, rfl, rfl⟩ (fun b ho => ⟨rfl, rfl, ho⟩) (fun n h e => e) (fun e1 e2 => ⟨e1, e2⟩), h2, h3, h4, h5⟩

/-- A region that draws its order. -/
theorem AWP.any {id : Nat} (O : (Nat → Bool) → List Ob) (hm : P.follows .mixedOrders = true) (hB : anyB ops = true) (h0 : O (fun j => Nat.ble ops.size j) = S)
    (h : Walk P N ops O (fun tm' => Q .normal tm' (O (fun _ => true))) 0 ops.toList tm) : AWP P N (.region id ops true) Q tm S := fun ro _ g a w st => by
  have hk := anyB_spec hB
  have ht : rt ops tm (fun _ => .any) (fun j => Nat.blt j 0) = tm := by
    funext s
    unfold rt
    cases wr ops s with
    | none => rfl
    | some j => rfl
  obtain ⟨vals, _, hop, hq⟩ := Walk.spec hk ops.toList 0 (fun _ => .any) (fun j => by simp) (by rw [ht]; exact h)
  have hall : rt ops tm vals (fun j => Nat.blt j ops.size) = rt ops tm vals (fun _ => true) := by
    funext s
    unfold rt
    cases hw : wr ops s with
    | none => rfl
    | some j =>
      obtain ⟨p, hp, _⟩ := wr_some hw
      have h1 : j < ops.size := (Array.getElem?_eq_some_iff.1 hp).1
      have h3 : Nat.blt j ops.size = true := blt_t h1
      dsimp only
      rw [h3]
  rw [hall] at hq
  have hd0 : done (Array.replicate ops.size false) = fun j => Nat.ble ops.size j := by
    funext j
    unfold done
    rw [Array.getD_eq_getD_getElem?]
    rcases Nat.lt_or_ge j ops.size with h1 | h1
    · rw [Array.getElem?_eq_getElem (by simpa using h1)]
      have : Nat.ble ops.size j = false := by
        cases hh : Nat.ble ops.size j with
        | false => rfl
        | true => have := Nat.le_of_ble_eq_true hh; omega
      simp [this]
    · rw [Array.getElem?_eq_none (by simpa using h1)]
      have : Nat.ble ops.size j = true := Nat.ble_eq_true_of_le h1
      rw [this]; rfl
  obtain ⟨st', hl'⟩ := st.drew
  refine wpIn_region_any hm (any_run hk (fun j o ho => hop j o ho (Nat.zero_le _)) hq ops.size _ g a _ (by simp) ?_ ?_ ?_ hl')
  · rw [hd0]
    have : ∀ n, n ≤ ops.size → (List.range n).countP (fun i => !(Nat.ble ops.size i)) = n := by
      intro n
      induction n with
      | zero => intro _; rfl
      | succ n ih =>
        intro hn
        rw [List.range_succ, List.countP_append, ih (by omega)]
        have : Nat.ble ops.size n = false := by
          cases hh : Nat.ble ops.size n with
          | false => rfl
          | true => have := Nat.le_of_ble_eq_true hh; omega
        simp [this]
    exact this _ (Nat.le_refl _)
  · rw [hd0]
    intro j p hp hj
    have := Nat.le_of_ble_eq_true hj
    have := (Array.getElem?_eq_some_iff.1 hp).1
    omega
  · rw [hd0, h0]
    have : rt ops tm vals (fun j => Nat.ble ops.size j) = tm := by
      funext s
      unfold rt
      cases hw : wr ops s with
      | none => rfl
      | some j =>
        obtain ⟨p, hp, _⟩ := wr_some hw
        have h1 : j < ops.size := (Array.getElem?_eq_some_iff.1 hp).1
        have : Nat.ble ops.size j = false := by
          cases hh : Nat.ble ops.size j with
          | false => rfl
          | true => have := Nat.le_of_ble_eq_true hh; omega
        dsimp only
        rw [this]; rfl
    rw [this]
    exact st'

/-! The moves of a walk. -/
def putAll : List Nat → List D → Tm → Tm
  | r :: rs, e :: es, base => put (putAll rs es base) r e
  | _, _, base => base
theorem putAll_id {base : Tm} : ∀ (rs : List Nat), putAll rs (rs.map base) base = base
  | [] => rfl
  | r :: rs => by
    simp only [List.map_cons, putAll, putAll_id rs]
    funext i
    by_cases e : i = r
    · subst e; rw [put_same]
    · rw [put_other _ _ e]

theorem Walk.done {O : (Nat → Bool) → List Ob} {Q : Tm → Prop} {k : Nat} (h : Q tm) : Walk P N ops O Q k [] tm := h
theorem put_id {u : Nat} {d : D} (h : tm u = d) : put tm u d = tm := by
  funext i
  by_cases e : i = u
  · subst e; rw [put_same, h]
  · rw [put_other _ _ e]
section moves
variable {O : (Nat → Bool) → List Ob} {R : Tm → Prop} {k : Nat} {o : Oper} {rest : List Oper} {d : D} {rs : List Nat} {es : List D}
theorem Walk.op (hrs : (rs.all fun s => (o.looksAt ops).contains s) = true) (hes : rs.map tm = es)
    (h : ∀ L, Ready ops k o L → ∀ base : Tm, One P N ops o d (O (mark L k)) (putAll rs es base) (O L)) (next : Walk P N ops O R (k + 1) rest (putO tm o.dst d)) : Walk P N ops O R k (o :: rest) tm :=
  ⟨d, fun L hr base hb => by
    have e : rs.map base = es := by rw [← hes]; exact List.map_congr_left fun s hs => hb s (by simpa using List.all_eq_true.1 hrs s hs)
    have := h L hr base
    rw [← e, putAll_id] at this
    exact this, next⟩
/-- Where nothing is changed. -/
theorem Walk.still (hrs : (rs.all fun s => (o.looksAt ops).contains s) = true) (hes : rs.map tm = es)
    (h : ∀ base : Tm, AOps P N ops [o] (fun e tm' S' => e = .normal ∧ tm' = putO (putAll rs es base) o.dst d ∧ S' = S) (putAll rs es base) S) (next : Walk P N ops (fun _ => S) R (k + 1) rest (putO tm o.dst d)) : Walk P N ops (fun _ => S) R k (o :: rest) tm :=
  Walk.op hrs hes (fun _ _ base => h base) next
theorem AWP.anyStill {id : Nat} {l : List Oper} (hm : P.follows .mixedOrders = true) (hB : anyB l.toArray = true)
    (h : Walk P N l.toArray (fun _ => S) (fun tm' => Q .normal tm' S) 0 l tm) : AWP P N (.region id l.toArray true) Q tm S := AWP.any (fun _ => S) hm hB rfl (by simpa using h)
/-! One operation, number m, changes the objects. -/
def O1 (m : Nat) (S S1 : List Ob) : (Nat → Bool) → List Ob := fun L => bif L m then S1 else S
theorem AWP.any1 {id : Nat} {l : List Oper} (m : Nat) (S1 : List Ob) (hm : P.follows .mixedOrders = true) (hB : anyB l.toArray = true) (hlt : Nat.blt m l.length = true)
    (h : Walk P N l.toArray (O1 m S S1) (fun tm' => Q .normal tm' S1) 0 l tm) : AWP P N (.region id l.toArray true) Q tm S := AWP.any (O1 m S S1) hm hB (by
      have : Nat.ble l.toArray.size m = false := by
        cases hh : Nat.ble l.toArray.size m with
        | false => rfl
        | true => have h1 := Nat.le_of_ble_eq_true hh; have h2 := Nat.lt_of_succ_le (Nat.le_of_ble_eq_true hlt); simp at h1; omega
      show (bif Nat.ble l.toArray.size m then S1 else S) = S
      rw [this]; rfl) (by simpa [O1] using h)
variable {m : Nat} {S1 : List Ob}
theorem Walk.writes (hk : Nat.beq k m = true) (hrs : (rs.all fun s => (o.looksAt ops).contains s) = true) (hes : rs.map tm = es)
    (h : ∀ base : Tm, AOps P N ops [o] (fun e tm' S' => e = .normal ∧ tm' = putO (putAll rs es base) o.dst d ∧ S' = S1) (putAll rs es base) S) (next : Walk P N ops (O1 m S S1) R (k + 1) rest (putO tm o.dst d)) : Walk P N ops (O1 m S S1) R k (o :: rest) tm := by
  have e := Nat.eq_of_beq_eq_true hk
  subst e
  refine Walk.op hrs hes (fun L hr base => ?_) next
  have h1 : O1 k S S1 (mark L k) = S1 := by simp only [O1, mark_same, cond_true]
  have h2 : O1 k S S1 L = S := by simp only [O1, hr.un, cond_false]
  rw [h1, h2]
  exact h base
theorem Walk.both (hk : Nat.beq m k = false) (hrs : (rs.all fun s => (o.looksAt ops).contains s) = true) (hes : rs.map tm = es)
    (h : ∀ base : Tm, ∀ S', S' = S ∨ S' = S1 → AOps P N ops [o] (fun e tm' S'' => e = .normal ∧ tm' = putO (putAll rs es base) o.dst d ∧ S'' = S') (putAll rs es base) S')
    (next : Walk P N ops (O1 m S S1) R (k + 1) rest (putO tm o.dst d)) : Walk P N ops (O1 m S S1) R k (o :: rest) tm := by
  refine Walk.op hrs hes (fun L hr base => ?_) next
  have h1 : O1 m S S1 (mark L k) = O1 m S S1 L := by simp only [O1, mark, hk, cond_false]
  rw [h1]
  exact h base _ (by unfold O1; cases L m <;> simp)
/-- From the one to the other there are edges. -/
def pathB (ops : Array Oper) : List Nat → Bool
  | i :: j :: l => (match ops[j]? with | some o => hasEdge o i | none => false) && pathB ops (j :: l)
  | _ => true
theorem path_back {L : Nat → Bool} (hc : ∀ (j : Nat) (p : Oper), ops[j]? = some p → L j = true → ∀ e ∈ p.after, Region.binds .any e = true → L e.on = true) :
    ∀ (l : List Nat) (i m : Nat), pathB ops (i :: l) = true → (i :: l).getLast? = some m → L m = true → L i = true
  | [], i, m, _, hm, h => by simp at hm; subst hm; exact h
  | j :: l, i, m, hp, hm, h => by
    simp only [pathB, Bool.and_eq_true] at hp
    have h1 := path_back hc l j m hp.2 (by simpa [List.getLast?_cons_cons] using hm) h
    cases ho : ops[j]? with
    | none => rw [ho] at hp; simp at hp
    | some o =>
      rw [ho] at hp
      obtain ⟨e, he, hb, e1⟩ := hasEdge_spec hp.1
      rw [← e1]
      exact hc j o ho h1 e he hb
theorem Walk.ahead (l : List Nat) (hk : Nat.beq m k = false) (hp : pathB ops (k :: l) = true) (hl : (k :: l).getLast? = some m) (hrs : (rs.all fun s => (o.looksAt ops).contains s) = true) (hes : rs.map tm = es)
    (h : ∀ base : Tm, AOps P N ops [o] (fun e tm' S' => e = .normal ∧ tm' = putO (putAll rs es base) o.dst d ∧ S' = S) (putAll rs es base) S) (next : Walk P N ops (O1 m S S1) R (k + 1) rest (putO tm o.dst d)) : Walk P N ops (O1 m S S1) R k (o :: rest) tm := by
  refine Walk.op hrs hes (fun L hr base => ?_) next
  have h1 : O1 m S S1 (mark L k) = O1 m S S1 L := by simp only [O1, mark, hk, cond_false]
  have h0 : L m = false := by
    cases hh : L m with
    | false => rfl
    | true => have := path_back hr.closed l k m hp hl hh; rw [hr.un] at this; cases this
  have h2 : O1 m S S1 L = S := by simp only [O1, h0, cond_false]
  rw [h1, h2]
  exact h base
theorem Walk.behind (l : List Nat) (hk : Nat.beq m k = false) (ho : ops[k]? = some o) (hp : pathB ops (m :: l) = true) (hl : (m :: l).getLast? = some k) (hrs : (rs.all fun s => (o.looksAt ops).contains s) = true) (hes : rs.map tm = es)
    (h : ∀ base : Tm, AOps P N ops [o] (fun e tm' S' => e = .normal ∧ tm' = putO (putAll rs es base) o.dst d ∧ S' = S1) (putAll rs es base) S1) (next : Walk P N ops (O1 m S S1) R (k + 1) rest (putO tm o.dst d)) : Walk P N ops (O1 m S S1) R k (o :: rest) tm := by
  refine Walk.op hrs hes (fun L hr base => ?_) next
  have h1 : O1 m S S1 (mark L k) = O1 m S S1 L := by simp only [O1, mark, hk, cond_false]
  have hcm : ∀ (j : Nat) (p : Oper), ops[j]? = some p → mark L k j = true → ∀ e ∈ p.after, Region.binds .any e = true → mark L k e.on = true := by
    intro j p hp' hj e he hb
    by_cases ej : j = k
    · subst ej
      have : p = o := by rw [hp'] at ho; exact Option.some.inj ho
      subst this
      by_cases e2 : e.on = j
      · rw [e2, mark_same]
      · rw [mark_other _ e2]; exact hr.pre e he hb
    · rw [mark_other _ ej] at hj
      by_cases e2 : e.on = k
      · rw [e2, mark_same]
      · rw [mark_other _ e2]; exact hr.closed j p hp' hj e he hb
  have h3 := path_back hcm l m k hp hl (mark_same L k)
  have hne : m ≠ k := fun e => by rw [e] at hk; simp at hk
  rw [mark_other _ hne] at h3
  have h2 : O1 m S S1 L = S1 := by simp only [O1, h3, cond_true]
  rw [h1, h2]
  exact h base
theorem Walk.split {u : Nat} {l : List Oper} {b : Bool} (hb : tm u = .val (.bool b)) (ht : b = true → Walk P N ops O R k l (put tm u (.val (.bool true)))) (hf : b = false → Walk P N ops O R k l (put tm u (.val (.bool false)))) : Walk P N ops O R k l tm := by
  cases b
  · have := hf rfl; rwa [put_id hb] at this
  · have := ht rfl; rwa [put_id hb] at this
theorem AOps.split {u : Nat} {l : List Oper} {b : Bool} (hb : tm u = .val (.bool b)) (ht : b = true → AOps P N ops l Q (put tm u (.val (.bool true))) S) (hf : b = false → AOps P N ops l Q (put tm u (.val (.bool false))) S) : AOps P N ops l Q tm S := by
  cases b
  · have := hf rfl; rwa [put_id hb] at this
  · have := ht rfl; rwa [put_id hb] at this
end moves
end Go.Abs
