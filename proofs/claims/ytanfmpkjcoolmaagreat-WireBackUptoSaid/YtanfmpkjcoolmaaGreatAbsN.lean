/- The ground of the walks: abstract values, what a world has to do with them, the rules. -/
import Derived.Test.YtanfmpkjcoolmaaGreatAbsA
import Derived.Orders
import Derived.Laws.StructEq
import Derived.Laws.BytesArg
import Derived.Laws.Strings
/- Regions that draw their order: one walk of the written order serves every order. -/
set_option linter.unusedVariables false
set_option linter.unusedSimpArgs false
namespace Go.Abs
variable {P : Program} {N : Nat} {ops : Array Oper} {Q : Exit → Tm → List Ob → Prop} {tm : Tm} {S : List Ob}

theorem blt_t {j k : Nat} (h : j < k) : Nat.blt j k = true := Nat.ble_eq_true_of_le h
theorem blt_f {j k : Nat} (h : ¬ j < k) : Nat.blt j k = false := by
  cases hh : Nat.blt j k with
  | false => rfl
  | true => exact absurd (Nat.lt_of_succ_le (Nat.le_of_ble_eq_true hh)) h

/-- One more is done. -/
def mark (L : Nat → Bool) (i : Nat) : Nat → Bool := fun j => bif Nat.beq j i then true else L j
theorem mark_same (L : Nat → Bool) (i : Nat) : mark L i i = true := by simp [mark]
theorem mark_other (L : Nat → Bool) {i j : Nat} (h : j ≠ i) : mark L i j = L j := by
  unfold mark
  cases hb : Nat.beq j i with
  | true => exact absurd (Nat.eq_of_beq_eq_true hb) h
  | false => rfl

def hasEdge (o : Oper) (i : Nat) : Bool := o.after.any fun e => Region.binds .any e && Nat.beq e.on i

/-- Of two operations: what one writes the other reads only where they are ordered; no slot is written twice; edges lead back. -/
def pairB (ops : Array Oper) (k : Nat) (o : Oper) (j : Nat) (p : Oper) : Bool :=
  (match p.dst with
    | none => true
    | some s => (Nat.beq j k || (!((o.looksAt ops).contains s)) || (bif Nat.blt j k then hasEdge o j else hasEdge p k)) && (Nat.beq j k || o.dst != some s))
def anyB (ops : Array Oper) : Bool :=
  (List.range ops.size).all fun k => match ops[k]? with
    | none => true
    | some o => (o.after.all fun e => !Region.binds .any e || Nat.blt e.on k) && (List.range ops.size).all fun j => match ops[j]? with
      | none => true
      | some p => pairB ops k o j p

structure AnyOk (ops : Array Oper) : Prop where
  back : ∀ (k : Nat) (o : Oper), ops[k]? = some o → ∀ e ∈ o.after, Region.binds .any e = true → e.on < k
  read : ∀ (k : Nat) (o : Oper) (j : Nat) (p : Oper) (s : Nat), ops[k]? = some o → ops[j]? = some p → p.dst = some s → s ∈ o.looksAt ops → j ≠ k → (j < k → ∃ e ∈ o.after, Region.binds .any e = true ∧ e.on = j) ∧ (k < j → ∃ e ∈ p.after, Region.binds .any e = true ∧ e.on = k)
  once : ∀ (k : Nat) (o : Oper) (j : Nat) (p : Oper) (s : Nat), ops[k]? = some o → ops[j]? = some p → p.dst = some s → o.dst = some s → j = k

theorem hasEdge_spec {o : Oper} {i : Nat} (h : hasEdge o i = true) : ∃ e ∈ o.after, Region.binds .any e = true ∧ e.on = i := by
  unfold hasEdge at h
  rw [← Array.any_toList, List.any_eq_true] at h
  obtain ⟨e, he, hb⟩ := h
  rw [Bool.and_eq_true] at hb
  exact ⟨e, Array.mem_toList_iff.1 he, hb.1, Nat.eq_of_beq_eq_true hb.2⟩

theorem anyB_spec (h : anyB ops = true) : AnyOk ops := by
  have key : ∀ k o, ops[k]? = some o → (o.after.all fun e => !Region.binds .any e || Nat.blt e.on k) = true ∧ ∀ j p, ops[j]? = some p → pairB ops k o j p = true := by
    intro k o ho
    have hk : k < ops.size := (Array.getElem?_eq_some_iff.1 ho).1
    have h1 := List.all_eq_true.1 h k (List.mem_range.2 hk)
    simp only [ho, Bool.and_eq_true] at h1
    refine ⟨h1.1, fun j p hp => ?_⟩
    have hj : j < ops.size := (Array.getElem?_eq_some_iff.1 hp).1
    have h2 := List.all_eq_true.1 h1.2 j (List.mem_range.2 hj)
    simpa only [hp] using h2
  refine ⟨fun k o ho e he hb => ?_, fun k o j p s ho hp hd hs hne => ?_, fun k o j p s ho hp hd hd' => ?_⟩
  · have h1 := (key k o ho).1
    rw [Array.all_eq_true_iff_forall_mem] at h1
    have h2 := h1 e he
    rw [hb] at h2
    simp only [Bool.not_true, Bool.false_or] at h2
    exact Nat.lt_of_succ_le (Nat.le_of_ble_eq_true h2)
  · have h1 := (key k o ho).2 j p hp
    unfold pairB at h1
    rw [hd] at h1
    simp only [Bool.and_eq_true, Bool.or_eq_true] at h1
    have hb : Nat.beq j k = false := by cases hh : Nat.beq j k with | false => rfl | true => exact absurd (Nat.eq_of_beq_eq_true hh) hne
    have h2 := h1.1
    rw [hb] at h2
    have hc : (o.looksAt ops).contains s = true := by simpa using hs
    rw [hc] at h2
    simp only [Bool.not_true, Bool.false_eq_true, false_or] at h2
    refine ⟨fun hlt => ?_, fun hlt => ?_⟩
    · have : Nat.blt j k = true := blt_t hlt
      rw [this, cond_true] at h2
      exact hasEdge_spec h2
    · have : Nat.blt j k = false := by
        cases hh : Nat.blt j k with
        | false => rfl
        | true => have := Nat.lt_of_succ_le (Nat.le_of_ble_eq_true hh); omega
      rw [this, cond_false] at h2
      exact hasEdge_spec h2
  · have h1 := (key k o ho).2 j p hp
    unfold pairB at h1
    rw [hd] at h1
    simp only [Bool.and_eq_true, Bool.or_eq_true] at h1
    rcases h1.2 with h2 | h2
    · exact Nat.eq_of_beq_eq_true h2
    · rw [hd'] at h2; simp at h2

/-- What must be done, and what must not, when operation k comes up. -/
structure Ready (ops : Array Oper) (k : Nat) (o : Oper) (L : Nat → Bool) : Prop where
  un : L k = false
  pre : ∀ e ∈ o.after, Region.binds .any e = true → L e.on = true
  closed : ∀ (j : Nat) (p : Oper), ops[j]? = some p → L j = true → ∀ e ∈ p.after, Region.binds .any e = true → L e.on = true

/-- What one operation does: its value, its objects. -/
def One (P : Program) (N : Nat) (ops : Array Oper) (o : Oper) (d : D) (S' : List Ob) (tm : Tm) (S : List Ob) : Prop :=
  AOps P N ops [o] (fun e tm' S'' => e = .normal ∧ tm' = putO tm o.dst d ∧ S'' = S') tm S

def Walk (P : Program) (N : Nat) (ops : Array Oper) (O : (Nat → Bool) → List Ob) (Q : Tm → Prop) : Nat → List Oper → Tm → Prop
  | _, [], tm => Q tm
  | k, o :: rest, tm => ∃ d, (∀ L, Ready ops k o L → ∀ base : Tm, (∀ s ∈ o.looksAt ops, base s = tm s) → One P N ops o d (O (mark L k)) base (O L)) ∧ Walk P N ops O Q (k + 1) rest (putO tm o.dst d)

section
variable {vals : Nat → D}
def wr (ops : Array Oper) (s : Nat) : Option Nat := (List.range ops.size).find? fun j => match ops[j]? with | some o => o.dst == some s | none => false
theorem wr_some {s j : Nat} (h : wr ops s = some j) : ∃ o, ops[j]? = some o ∧ o.dst = some s := by
  unfold wr at h
  have h1 := List.find?_some h
  cases ho : ops[j]? with
  | none => simp [ho] at h1
  | some o => simp only [ho, beq_iff_eq] at h1; exact ⟨o, rfl, h1⟩
theorem wr_none {s : Nat} (h : wr ops s = none) : ∀ (j : Nat) (o : Oper), ops[j]? = some o → o.dst ≠ some s := by
  intro j o ho e
  unfold wr at h
  have hj : j < ops.size := (Array.getElem?_eq_some_iff.1 ho).1
  have := List.find?_eq_none.1 h j (List.mem_range.2 hj)
  simp [ho, e] at this

def rt (ops : Array Oper) (tm : Tm) (vals : Nat → D) (L : Nat → Bool) : Tm := fun s => match wr ops s with
  | some j => bif L j then vals j else tm s
  | none => tm s

theorem rt_mark (hk : AnyOk ops) {L : Nat → Bool} {k : Nat} {o : Oper} (ho : ops[k]? = some o) : rt ops tm vals (mark L k) = putO (rt ops tm vals L) o.dst (vals k) := by
  funext s
  unfold rt
  cases hw : wr ops s with
  | none =>
    have := wr_none hw k o ho
    cases hd : o.dst with
    | none => simp only [putO, hw]
    | some t =>
      have hne : s ≠ t := fun e => this (by rw [hd, e])
      simp only [putO]
      rw [put_other _ _ hne]
      simp only [hw]
  | some j =>
    obtain ⟨p, hp, hpd⟩ := wr_some hw
    by_cases e : j = k
    · subst e
      have : p = o := by rw [hp] at ho; exact Option.some.inj ho
      subst this
      simp only [hpd, putO]
      rw [put_same, mark_same]
      rfl
    · dsimp only
      rw [mark_other _ e]
      cases hd : o.dst with
      | none => simp only [putO, hw]
      | some t =>
        have hne : s ≠ t := fun e' => e (hk.once k o j p s ho hp hpd (by rw [hd, e']))
        simp only [putO]
        rw [put_other _ _ hne]
        simp only [hw]

theorem rt_read (hk : AnyOk ops) {L : Nat → Bool} {k : Nat} {o : Oper} (ho : ops[k]? = some o) (hr : Ready ops k o L) {s : Nat} (hs : s ∈ o.looksAt ops) :
    rt ops tm vals L s = rt ops tm vals (fun j => Nat.blt j k) s := by
  unfold rt
  cases hw : wr ops s with
  | none => rfl
  | some j =>
    obtain ⟨p, hp, hpd⟩ := wr_some hw
    dsimp only
    by_cases e : j = k
    · subst e
      rw [hr.un]
      have : Nat.blt j j = false := blt_f (by omega)
      rw [this]
    · have := hk.read k o j p s ho hp hpd hs e
      by_cases hlt : j < k
      · obtain ⟨ed, he, hb, e1⟩ := this.1 hlt
        have h1 := hr.pre ed he hb
        rw [e1] at h1
        have h2 : Nat.blt j k = true := blt_t hlt
        rw [h1, h2]
      · have hkj : k < j := Nat.lt_of_le_of_ne (Nat.le_of_not_lt hlt) (Ne.symm e)
        obtain ⟨ed, he, hb, e1⟩ := this.2 hkj
        have h1 : L j = false := by
          cases hl : L j with
          | false => rfl
          | true => have := hr.closed j p hp hl ed he hb; rw [e1, hr.un] at this; cases this
        have h2 : Nat.blt j k = false := by
          cases hh : Nat.blt j k with
          | false => rfl
          | true => exact absurd (Nat.lt_of_succ_le (Nat.le_of_ble_eq_true hh)) hlt
        rw [h1, h2]
end

/-- What the walk shows: each operation's value. -/
theorem Walk.spec {O : (Nat → Bool) → List Ob} {Q : Tm → Prop} (hk : AnyOk ops) : ∀ (l : List Oper) (k : Nat) (vals : Nat → D), (∀ j, l[j]? = ops[k + j]?) → Walk P N ops O Q k l (rt ops tm vals (fun j => Nat.blt j k)) →
    ∃ vals' : Nat → D, (∀ j, j < k → vals' j = vals j) ∧ (∀ j o, ops[j]? = some o → k ≤ j → ∀ L, Ready ops j o L → ∀ base : Tm, (∀ s ∈ o.looksAt ops, base s = rt ops tm vals' (fun i => Nat.blt i j) s) → One P N ops o (vals' j) (O (mark L j)) base (O L)) ∧
      Q (rt ops tm vals' (fun j => Nat.blt j ops.size))
  | [], k, vals, hl, h => by
    have hsz : ops.size ≤ k := by
      have := hl 0
      simp only [List.getElem?_nil, Nat.add_zero] at this
      rcases Nat.lt_or_ge k ops.size with h' | h'
      · rw [Array.getElem?_eq_getElem h'] at this; cases this
      · exact h'
    refine ⟨vals, fun _ _ => rfl, fun j o ho hj => ?_, ?_⟩
    · have := (Array.getElem?_eq_some_iff.1 ho).1; omega
    · have : rt ops tm vals (fun j => Nat.blt j k) = rt ops tm vals (fun j => Nat.blt j ops.size) := by
        funext s
        unfold rt
        cases hw : wr ops s with
        | none => rfl
        | some j =>
          obtain ⟨p, hp, hpd⟩ := wr_some hw
          have h1 : j < ops.size := (Array.getElem?_eq_some_iff.1 hp).1
          have h2 : Nat.blt j k = true := blt_t (by omega)
          have h3 : Nat.blt j ops.size = true := blt_t h1
          dsimp only
          rw [h2, h3]
      rw [← this]
      exact h
  | o :: l, k, vals, hl, h => by
    obtain ⟨d, h1, h2⟩ := h
    have h0 : ops[k]? = some o := by simpa using (hl 0).symm
    let v1 : Nat → D := fun j => bif Nat.beq j k then d else vals j
    have hv1 : v1 k = d := by simp [v1]
    have hvo : ∀ j, j ≠ k → v1 j = vals j := fun j hj => by
      have hb : Nat.beq j k = false := by cases hh : Nat.beq j k with | false => rfl | true => exact absurd (Nat.eq_of_beq_eq_true hh) hj
      simp only [v1, hb, cond_false]
    have hrt : rt ops tm v1 (fun j => Nat.blt j k) = rt ops tm vals (fun j => Nat.blt j k) := by
      funext s
      unfold rt
      cases hw : wr ops s with
      | none => rfl
      | some j =>
        dsimp only
        by_cases e : j = k
        · subst e; have : Nat.blt j j = false := blt_f (by omega)
          rw [this]; rfl
        · rw [hvo j e]
    have hmk : mark (fun j => Nat.blt j k) k = fun j => Nat.blt j (k + 1) := by
      funext j
      by_cases e : j = k
      · subst e; rw [mark_same, blt_t (by omega)]
      · rw [mark_other _ e]
        by_cases hlt : j < k
        · have a1 : Nat.blt j k = true := blt_t hlt
          have a2 : Nat.blt j (k + 1) = true := blt_t (by omega)
          rw [a1, a2]
        · have a1 : Nat.blt j k = false := by
            cases hh : Nat.blt j k with
            | false => rfl
            | true => exact absurd (Nat.lt_of_succ_le (Nat.le_of_ble_eq_true hh)) hlt
          have a2 : Nat.blt j (k + 1) = false := by
            cases hh : Nat.blt j (k + 1) with
            | false => rfl
            | true => have := Nat.lt_of_succ_le (Nat.le_of_ble_eq_true hh); omega
          rw [a1, a2]
    have hnext : Walk P N ops O Q (k + 1) l (rt ops tm v1 (fun j => Nat.blt j (k + 1))) := by
      rw [← hmk, rt_mark hk h0, hv1, hrt]
      exact h2
    obtain ⟨vals', e1, e2, e3⟩ := Walk.spec hk l (k + 1) v1 (fun j => by have := hl (j + 1); simpa [Nat.add_assoc, Nat.add_comm 1 j] using this) hnext
    have hvk : vals' k = d := by rw [e1 k (by omega), hv1]
    refine ⟨vals', fun j hj => by rw [e1 j (by omega), hvo j (by omega)], fun j p hp hj L hr base hb => ?_, e3⟩
    by_cases e : j = k
    · subst e
      have : p = o := by rw [hp] at h0; exact Option.some.inj h0
      subst this
      rw [hvk]
      refine h1 L hr base fun s hs => ?_
      rw [hb s hs]
      unfold rt
      cases hw : wr ops s with
      | none => rfl
      | some i =>
        dsimp only
        by_cases hlt : i < j
        · rw [e1 i (by omega), hvo i (by omega)]
        · have a1 : Nat.blt i j = false := by
            cases hh : Nat.blt i j with
            | false => rfl
            | true => exact absurd (Nat.lt_of_succ_le (Nat.le_of_ble_eq_true hh)) hlt
          rw [a1]; rfl
    · exact e2 j p hp (by omega) L hr base hb

theorem One.go {ro : Option Nat} {o : Oper} {d : D} {S' : List Ob} {g : G} {a : Act} {w : World} (h : One P N ops o d S' tm S) (st : St N g tm S a w) {K : Act → World → Prop} {Q' : Exit → Act → World → Prop} {i : Nat} (hi : ops[i]? = some o)
    (hK : ∀ g' a' w', St N g' (putO tm o.dst d) S' a' w' → Later g w g' w' → K a' w') : wpOpIn (wideR ro) 0 P ops Q' i K a w := by
  have h1 := h ro g a w st
  have hno : ∀ e a' w', Post N (fun e tm' S'' => e = .normal ∧ tm' = putO tm o.dst d ∧ S'' = S') g w e a' w' → e = .normal ∧ K a' w' := by
    rintro e a' w' ⟨g', tm', S1, ⟨rfl, rfl, rfl⟩, st', l⟩
    exact ⟨rfl, hK g' a' w' st' l⟩
  revert h1
  generalize Post N (fun e tm' S'' => e = .normal ∧ tm' = putO tm o.dst d ∧ S'' = S') g w = R at hno
  intro h1
  unfold wpListIn at h1
  unfold wpOpIn
  simp only [hi]
  split
  · rename_i hw
    rw [if_pos hw] at h1
    exact op_to hno h1
  · rename_i hw
    rw [if_neg hw] at h1
    exact ⟨h1.1, (hno _ _ _ h1.2).2⟩

def done (L : Array Bool) : Nat → Bool := fun i => L.getD i true
theorem done_mark {L : Array Bool} {i : Nat} (h : i < L.size) : done (L.setIfInBounds i true) = mark (done L) i := by
  funext j
  unfold done
  by_cases e : j = i
  · subst e; rw [mark_same]; simp [h]
  · rw [mark_other _ e]; exact getD_set_ne true (Ne.symm e)

theorem any_run {ro : Option Nat} {O : (Nat → Bool) → List Ob} {vals : Nat → D} {g0 : G} {w0 : World} (hk : AnyOk ops)
    (hop : ∀ j o, ops[j]? = some o → ∀ L, Ready ops j o L → ∀ base : Tm, (∀ s ∈ o.looksAt ops, base s = rt ops tm vals (fun i => Nat.blt i j) s) → One P N ops o (vals j) (O (mark L j)) base (O L))
    (hQ : Q .normal (rt ops tm vals (fun _ => true)) (O (fun _ => true))) :
    ∀ (fuel : Nat) (L : Array Bool) (g : G) (a : Act) (w : World), L.size = ops.size → (List.range ops.size).countP (fun i => !(done L i)) = fuel →
      (∀ j p, ops[j]? = some p → done L j = true → ∀ e ∈ p.after, Region.binds .any e = true → done L e.on = true) →
      St N g (rt ops tm vals (done L)) (O (done L)) a w → Later g0 w0 g w → wpAnyIn (wideR ro) 0 P .any ops (Post N Q g0 w0) fuel L a w
  | 0, L, g, a, w, hsz, hc, hcl, st, hl => by
    have hall : ∀ i, done L i = true := fun i => by
      rcases Nat.lt_or_ge i ops.size with h | h
      · have := List.countP_eq_zero.1 hc i (List.mem_range.2 h)
        simpa using this
      · unfold done; rw [Array.getD_eq_getD_getElem?, Array.getElem?_eq_none (by omega)]; rfl
    have e : done L = fun _ => true := funext hall
    refine ⟨?_, g, _, _, hQ, by rw [e] at st; exact st, hl⟩
    rw [List.eq_nil_iff_forall_not_mem]
    intro i hi
    have := (mem_ready.1 hi).1
    have h2 := hall i
    unfold done at h2
    rw [this] at h2; cases h2
  | fuel + 1, L, g, a, w, hsz, hc, hcl, st, hl => by
    refine ⟨fun hnil => ?_, fun i hi => ?_⟩
    · exfalso
      have hex : ∀ k, k < ops.size → done L k = true := by
        intro k
        induction k using Nat.strongRecOn with
        | _ k ih =>
          intro hlt
          cases hd : done L k with
          | true => rfl
          | false =>
            exfalso
            have : k ∈ Region.ready .any ops L := by
              rw [mem_ready]
              refine ⟨hd, ops[k], Array.getElem?_eq_getElem hlt, fun e he hb => ?_⟩
              have h1 := hk.back k _ (Array.getElem?_eq_getElem hlt) e he hb
              have h2 := ih e.on h1 (by omega)
              unfold done at h2
              rw [Array.getD_eq_getD_getElem?, Array.getElem?_eq_getElem (by omega)] at h2 ⊢
              exact h2
            rw [hnil] at this; cases this
      have : (List.range ops.size).countP (fun i => !(done L i)) = 0 := List.countP_eq_zero.2 fun i hi => by
        rw [hex i (List.mem_range.1 hi)]; simp
      omega
    · obtain ⟨h0, o, ho, hall⟩ := mem_ready.1 hi
      have hlt : i < ops.size := (Array.getElem?_eq_some_iff.1 ho).1
      have hr : Ready ops i o (done L) := ⟨h0, fun e he hb => by
        have h2 := hall e he hb
        have h1 := hk.back i o ho e he hb
        unfold done
        rw [Array.getD_eq_getD_getElem?, Array.getElem?_eq_getElem (by omega)] at h2 ⊢
        exact h2, hcl⟩
      have hone := hop i o ho (done L) hr (rt ops tm vals (done L)) (fun s hs => rt_read hk ho hr hs)
      refine One.go hone st ho fun g' a' w' st' hl' => ?_
      refine any_run hk hop hQ fuel _ g' a' w' (by simp [hsz]) ?_ ?_ ?_ (hl.trans hl')
      · rw [done_mark (by omega)]
        have : ∀ n, i < n → (List.range n).countP (fun j => !(mark (done L) i j)) + 1 = (List.range n).countP (fun j => !(done L j)) := by
          intro n
          induction n with
          | zero => intro h; omega
          | succ n ih =>
            intro h
            rw [List.range_succ, List.countP_append, List.countP_append]
            by_cases e : i = n
            · subst e
              have h1 : (List.range i).countP (fun j => !(mark (done L) i j)) = (List.range i).countP (fun j => !(done L j)) := by
                refine List.countP_congr fun j hj => ?_
                rw [mark_other _ (by have := List.mem_range.1 hj; omega)]
              rw [h1]
              simp [List.countP_cons, mark_same, hr.un]
            · have := ih (by omega)
              have h2 : mark (done L) i n = done L n := mark_other _ (fun e' => e e'.symm)
              simp only [List.countP_cons, List.countP_nil, h2]
              omega
        have := this ops.size hlt
        omega
      · rw [done_mark (by omega)]
        intro j p hp hj e he hb
        by_cases ej : j = i
        · subst ej
          have : p = o := by rw [hp] at ho; exact Option.some.inj ho
          subst this
          have h1 := hr.pre e he hb
          by_cases e2 : e.on = j
          · rw [e2, mark_same]
          · rw [mark_other _ e2]; exact h1
        · rw [mark_other _ ej] at hj
          have h1 := hcl j p hp hj e he hb
          by_cases e2 : e.on = i
          · rw [e2, mark_same]
          · rw [mark_other _ e2]; exact h1
      · rw [done_mark (by omega), rt_mark hk ho]
        exact st'

theorem St.drew {g : G} {a : Act} {w : World} (st : St N g tm S a w) : St N g tm S a { w with drawn := w.drawn + 1 } ∧ Later g w g { w with drawn := w.drawn + 1 } := by
  have hle : Le g w g { w with drawn := w.drawn + 1 } := ⟨fun _ _ h => h, fun _ _ h => h, fun _ n h e => ⟨n, h, e, .inr ⟨rfl, rfl⟩⟩⟩
  refine ⟨⟨st.size, st.based, st.once, st.defers, fun i => (st.slots i).mono hle, ?_⟩, hle, ⟨Nat.le_refl _, rfl, rfl, rfl, fun _ _ h => ⟨rfl, rfl, h⟩, fun _ _ _ h => h, rfl⟩⟩
  obtain ⟨h1, h2, h3, h4, h5⟩ := st.sim
  exact ⟨fun l ob e => (h1 l ob e).keep hle ⟨Nat.le_refl _, rfl, rfl, rfl⟩ (fun b ho => ⟨rfl, rfl, ho⟩) (fun n h e => e) (fun e2 => ⟨e2, fun e1 => e1⟩), h2, h3, h4, h5⟩

/-- A region that draws its order. -/
theorem AWP.any {id : Nat} (O : (Nat → Bool) → List Ob) (hm : P.follows .mixedOrders = true) (hB : anyB ops = true) (h0 : O (fun j => Nat.ble ops.size j) = S)
    (h : Walk P N ops O (fun tm' => Q .normal tm' (O (fun _ => true))) 0 ops.toList tm) : AWP P N (.region id ops true) Q tm S := fun ro _ g a w st => by
  have hk := anyB_spec hB
  have ht : rt ops tm (fun _ => .any) (fun j => Nat.blt j 0) = tm := by
    funext s
    unfold rt
    cases wr ops s with
    | none => rfl
    | some j => rfl
  obtain ⟨vals, _, hop, hq⟩ := Walk.spec hk ops.toList 0 (fun _ => .any) (fun j => by simp) (by rw [ht]; exact h)
  have hall : rt ops tm vals (fun j => Nat.blt j ops.size) = rt ops tm vals (fun _ => true) := by
    funext s
    unfold rt
    cases hw : wr ops s with
    | none => rfl
    | some j =>
      obtain ⟨p, hp, _⟩ := wr_some hw
      have h1 : j < ops.size := (Array.getElem?_eq_some_iff.1 hp).1
      have h3 : Nat.blt j ops.size = true := blt_t h1
      dsimp only
      rw [h3]
  rw [hall] at hq
  have hd0 : done (Array.replicate ops.size false) = fun j => Nat.ble ops.size j := by
    funext j
    unfold done
    rw [Array.getD_eq_getD_getElem?]
    rcases Nat.lt_or_ge j ops.size with h1 | h1
    · rw [Array.getElem?_eq_getElem (by simpa using h1)]
      have : Nat.ble ops.size j = false := by
        cases hh : Nat.ble ops.size j with
        | false => rfl
        | true => have := Nat.le_of_ble_eq_true hh; omega
      simp [this]
    · rw [Array.getElem?_eq_none (by simpa using h1)]
      have : Nat.ble ops.size j = true := Nat.ble_eq_true_of_le h1
      rw [this]; rfl
  obtain ⟨st', hl'⟩ := st.drew
  refine wpIn_region_any hm (any_run hk (fun j o ho => hop j o ho (Nat.zero_le _)) hq ops.size _ g a _ (by simp) ?_ ?_ ?_ hl')
  · rw [hd0]
    have : ∀ n, n ≤ ops.size → (List.range n).countP (fun i => !(Nat.ble ops.size i)) = n := by
      intro n
      induction n with
      | zero => intro _; rfl
      | succ n ih =>
        intro hn
        rw [List.range_succ, List.countP_append, ih (by omega)]
        have : Nat.ble ops.size n = false := by
          cases hh : Nat.ble ops.size n with
          | false => rfl
          | true => have := Nat.le_of_ble_eq_true hh; omega
        simp [this]
    exact this _ (Nat.le_refl _)
  · rw [hd0]
    intro j p hp hj
    have := Nat.le_of_ble_eq_true hj
    have := (Array.getElem?_eq_some_iff.1 hp).1
    omega
  · rw [hd0, h0]
    have : rt ops tm vals (fun j => Nat.ble ops.size j) = tm := by
      funext s
      unfold rt
      cases hw : wr ops s with
      | none => rfl
      | some j =>
        obtain ⟨p, hp, _⟩ := wr_some hw
        have h1 : j < ops.size := (Array.getElem?_eq_some_iff.1 hp).1
        have : Nat.ble ops.size j = false := by
          cases hh : Nat.ble ops.size j with
          | false => rfl
          | true => have := Nat.le_of_ble_eq_true hh; omega
        dsimp only
        rw [this]; rfl
    rw [this]
    exact st'

/-! The moves of a walk. -/
def putAll : List Nat → List D → Tm → Tm
  | r :: rs, e :: es, base => put (putAll rs es base) r e
  | _, _, base => base
theorem putAll_id {base : Tm} : ∀ (rs : List Nat), putAll rs (rs.map base) base = base
  | [] => rfl
  | r :: rs => by
    simp only [List.map_cons, putAll, putAll_id rs]
    funext i
    by_cases e : i = r
    · subst e; rw [put_same]
    · rw [put_other _ _ e]

theorem Walk.done {O : (Nat → Bool) → List Ob} {Q : Tm → Prop} {k : Nat} (h : Q tm) : Walk P N ops O Q k [] tm := h
theorem put_id {u : Nat} {d : D} (h : tm u = d) : put tm u d = tm := by
  funext i
  by_cases e : i = u
  · subst e; rw [put_same, h]
  · rw [put_other _ _ e]
section moves
variable {O : (Nat → Bool) → List Ob} {R : Tm → Prop} {k : Nat} {o : Oper} {rest : List Oper} {d : D} {rs : List Nat} {es : List D}
theorem Walk.op (hrs : (rs.all fun s => (o.looksAt ops).contains s) = true) (hes : rs.map tm = es)
    (h : ∀ L, Ready ops k o L → ∀ base : Tm, One P N ops o d (O (mark L k)) (putAll rs es base) (O L)) (next : Walk P N ops O R (k + 1) rest (putO tm o.dst d)) : Walk P N ops O R k (o :: rest) tm :=
  ⟨d, fun L hr base hb => by
    have e : rs.map base = es := by rw [← hes]; exact List.map_congr_left fun s hs => hb s (by simpa using List.all_eq_true.1 hrs s hs)
    have := h L hr base
    rw [← e, putAll_id] at this
    exact this, next⟩
/-- Where nothing is changed. -/
theorem Walk.still (hrs : (rs.all fun s => (o.looksAt ops).contains s) = true) (hes : rs.map tm = es)
    (h : ∀ base : Tm, AOps P N ops [o] (fun e tm' S' => e = .normal ∧ tm' = putO (putAll rs es base) o.dst d ∧ S' = S) (putAll rs es base) S) (next : Walk P N ops (fun _ => S) R (k + 1) rest (putO tm o.dst d)) : Walk P N ops (fun _ => S) R k (o :: rest) tm :=
  Walk.op hrs hes (fun _ _ base => h base) next
theorem AWP.anyStill {id : Nat} {l : List Oper} (hm : P.follows .mixedOrders = true) (hB : anyB l.toArray = true)
    (h : Walk P N l.toArray (fun _ => S) (fun tm' => Q .normal tm' S) 0 l tm) : AWP P N (.region id l.toArray true) Q tm S := AWP.any (fun _ => S) hm hB rfl (by simpa using h)
/-! One operation, number m, changes the objects. -/
def O1 (m : Nat) (S S1 : List Ob) : (Nat → Bool) → List Ob := fun L => bif L m then S1 else S
variable {m : Nat} {S1 : List Ob}
theorem Walk.writes (hk : Nat.beq k m = true) (hrs : (rs.all fun s => (o.looksAt ops).contains s) = true) (hes : rs.map tm = es)
    (h : ∀ base : Tm, AOps P N ops [o] (fun e tm' S' => e = .normal ∧ tm' = putO (putAll rs es base) o.dst d ∧ S' = S1) (putAll rs es base) S) (next : Walk P N ops (O1 m S S1) R (k + 1) rest (putO tm o.dst d)) : Walk P N ops (O1 m S S1) R k (o :: rest) tm := by
  have e := Nat.eq_of_beq_eq_true hk
  subst e
  refine Walk.op hrs hes (fun L hr base => ?_) next
  have h1 : O1 k S S1 (mark L k) = S1 := by simp only [O1, mark_same, cond_true]
  have h2 : O1 k S S1 L = S := by simp only [O1, hr.un, cond_false]
  rw [h1, h2]
  exact h base
theorem Walk.both (hk : Nat.beq m k = false) (hrs : (rs.all fun s => (o.looksAt ops).contains s) = true) (hes : rs.map tm = es)
    (h : ∀ base : Tm, ∀ S', S' = S ∨ S' = S1 → AOps P N ops [o] (fun e tm' S'' => e = .normal ∧ tm' = putO (putAll rs es base) o.dst d ∧ S'' = S') (putAll rs es base) S')
    (next : Walk P N ops (O1 m S S1) R (k + 1) rest (putO tm o.dst d)) : Walk P N ops (O1 m S S1) R k (o :: rest) tm := by
  refine Walk.op hrs hes (fun L hr base => ?_) next
  have h1 : O1 m S S1 (mark L k) = O1 m S S1 L := by simp only [O1, mark, hk, cond_false]
  rw [h1]
  exact h base _ (by unfold O1; cases L m <;> simp)
/-- From the one to the other there are edges. -/
def pathB (ops : Array Oper) : List Nat → Bool
  | i :: j :: l => (match ops[j]? with | some o => hasEdge o i | none => false) && pathB ops (j :: l)
  | _ => true
theorem path_back {L : Nat → Bool} (hc : ∀ (j : Nat) (p : Oper), ops[j]? = some p → L j = true → ∀ e ∈ p.after, Region.binds .any e = true → L e.on = true) :
    ∀ (l : List Nat) (i m : Nat), pathB ops (i :: l) = true → (i :: l).getLast? = some m → L m = true → L i = true
  | [], i, m, _, hm, h => by simp at hm; subst hm; exact h
  | j :: l, i, m, hp, hm, h => by
    simp only [pathB, Bool.and_eq_true] at hp
    have h1 := path_back hc l j m hp.2 (by simpa [List.getLast?_cons_cons] using hm) h
    cases ho : ops[j]? with
    | none => rw [ho] at hp; simp at hp
    | some o =>
      rw [ho] at hp
      obtain ⟨e, he, hb, e1⟩ := hasEdge_spec hp.1
      rw [← e1]
      exact hc j o ho h1 e he hb
theorem Walk.ahead (l : List Nat) (hk : Nat.beq m k = false) (hp : pathB ops (k :: l) = true) (hl : (k :: l).getLast? = some m) (hrs : (rs.all fun s => (o.looksAt ops).contains s) = true) (hes : rs.map tm = es)
    (h : ∀ base : Tm, AOps P N ops [o] (fun e tm' S' => e = .normal ∧ tm' = putO (putAll rs es base) o.dst d ∧ S' = S) (putAll rs es base) S) (next : Walk P N ops (O1 m S S1) R (k + 1) rest (putO tm o.dst d)) : Walk P N ops (O1 m S S1) R k (o :: rest) tm := by
  refine Walk.op hrs hes (fun L hr base => ?_) next
  have h1 : O1 m S S1 (mark L k) = O1 m S S1 L := by simp only [O1, mark, hk, cond_false]
  have h0 : L m = false := by
    cases hh : L m with
    | false => rfl
    | true => have := path_back hr.closed l k m hp hl hh; rw [hr.un] at this; cases this
  have h2 : O1 m S S1 L = S := by simp only [O1, h0, cond_false]
  rw [h1, h2]
  exact h base
theorem Walk.behind (l : List Nat) (hk : Nat.beq m k = false) (ho : ops[k]? = some o) (hp : pathB ops (m :: l) = true) (hl : (m :: l).getLast? = some k) (hrs : (rs.all fun s => (o.looksAt ops).contains s) = true) (hes : rs.map tm = es)
    (h : ∀ base : Tm, AOps P N ops [o] (fun e tm' S' => e = .normal ∧ tm' = putO (putAll rs es base) o.dst d ∧ S' = S1) (putAll rs es base) S1) (next : Walk P N ops (O1 m S S1) R (k + 1) rest (putO tm o.dst d)) : Walk P N ops (O1 m S S1) R k (o :: rest) tm := by
  refine Walk.op hrs hes (fun L hr base => ?_) next
  have h1 : O1 m S S1 (mark L k) = O1 m S S1 L := by simp only [O1, mark, hk, cond_false]
  have hcm : ∀ (j : Nat) (p : Oper), ops[j]? = some p → mark L k j = true → ∀ e ∈ p.after, Region.binds .any e = true → mark L k e.on = true := by
    intro j p hp' hj e he hb
    by_cases ej : j = k
    · subst ej
      have : p = o := by rw [hp'] at ho; exact Option.some.inj ho
      subst this
      by_cases e2 : e.on = j
      · rw [e2, mark_same]
      · rw [mark_other _ e2]; exact hr.pre e he hb
    · rw [mark_other _ ej] at hj
      by_cases e2 : e.on = k
      · rw [e2, mark_same]
      · rw [mark_other _ e2]; exact hr.closed j p hp' hj e he hb
  have h3 := path_back hcm l m k hp hl (mark_same L k)
  have hne : m ≠ k := fun e => by rw [e] at hk; simp at hk
  rw [mark_other _ hne] at h3
  have h2 : O1 m S S1 L = S1 := by simp only [O1, h3, cond_true]
  rw [h1, h2]
  exact h base
theorem Walk.split {u : Nat} {l : List Oper} {b : Bool} (hb : tm u = .val (.bool b)) (ht : b = true → Walk P N ops O R k l (put tm u (.val (.bool true)))) (hf : b = false → Walk P N ops O R k l (put tm u (.val (.bool false)))) : Walk P N ops O R k l tm := by
  cases b
  · have := hf rfl; rwa [put_id hb] at this
  · have := ht rfl; rwa [put_id hb] at this
theorem AOps.split {u : Nat} {l : List Oper} {b : Bool} (hb : tm u = .val (.bool b)) (ht : b = true → AOps P N ops l Q (put tm u (.val (.bool true))) S) (hf : b = false → AOps P N ops l Q (put tm u (.val (.bool false))) S) : AOps P N ops l Q tm S := by
  cases b
  · have := hf rfl; rwa [put_id hb] at this
  · have := ht rfl; rwa [put_id hb] at this
end moves
end Go.Abs

/- Guards and conditions without parting of ways: a guarded value is known where its guard holds. -/
set_option linter.unusedVariables false
set_option linter.unusedSimpArgs false
namespace Go.Abs
variable {P : Program} {N : Nat} {ops : Array Oper} {l : List Oper} {Q : Exit → Tm → List Ob → Prop} {tm : Tm} {S : List Ob}

theorem AOps.then1 {o : Oper} {tm1 : Tm} {S1 : List Ob} (h : AOps P N ops [o] (fun e tm' S' => e = .normal ∧ tm' = tm1 ∧ S' = S1) tm S) (rest : AOps P N ops l Q tm1 S1) : AOps P N ops (o :: l) Q tm S := fun ro g a w st => by
  have h1 := h ro g a w st
  have hno : ∀ e a' w', Post N (fun e tm' S' => e = .normal ∧ tm' = tm1 ∧ S' = S1) g w e a' w' → e = .normal ∧ wpListIn (wideR ro) 0 P ops (Post N Q g w) l a' w' := by
    rintro e a' w' ⟨g', tm', S', ⟨rfl, rfl, rfl⟩, st', hl⟩
    exact ⟨rfl, wpList_mono (fun e a2 w2 k => Post.later hl k) _ _ _ (rest ro g' a' w' st')⟩
  revert h1
  generalize Post N (fun e tm' S' => e = .normal ∧ tm' = tm1 ∧ S' = S1) g w = R at hno
  intro h1
  unfold wpListIn at h1 ⊢
  split
  · rename_i hw
    rw [if_pos hw] at h1
    exact op_to hno h1
  · rename_i hw
    rw [if_neg hw] at h1
    exact ⟨h1.1, (hno _ _ _ h1.2).2⟩

section
variable {ty : TypeId} {pos : String} {after : Array Edge} {t : Nat}
/-- An operation that stands under a guard: where the guard holds (c), its value is d. -/
theorem n_soft {op : Op} {j : Nat} {want : Bool} {u : Nat} (c : Bool) {E d : D} (hj : (ops[j]?).bind (·.dst) = some u) (hd : Nat.blt t N = true) (ht : Nat.blt u N = true) (hu : tm u = E)
    (hyes : c = true → E = .val (.bool want)) (hno : c = false → ∃ v, E = .val v ∧ v ≠ .bool want)
    (step : c = true → AOps P N ops [⟨some t, op, ty, pos, after, none⟩] (fun e tm' S' => e = .normal ∧ tm' = put tm t d ∧ S' = S) tm S)
    (rest : AOps P N ops l Q (put tm t (bif c then d else .val undef)) S) : AOps P N ops (⟨some t, op, ty, pos, after, some (j, want)⟩ :: l) Q tm S := by
  cases c with
  | true => exact AOps.guard (b := want) (dst := some t) hj hd ht (by rw [hu]; exact hyes rfl) (fun _ => AOps.then1 (step rfl) rest) (fun h => by cases want <;> cases h)
  | false =>
    obtain ⟨v, hv, hne⟩ := hno rfl
    intro ro g a w st
    have hlt := dstOk_lt (N := N) (o := some u) ht u rfl
    have hr := st.slots u
    rw [hu, hv] at hr
    generalize hvv : a.tmps.getD u undef = x at hr
    cases hr
    have hy : ∀ b, yielded ops a.tmps j = some b → v = .bool b := by
      intro b hb
      unfold yielded at hb
      rw [hj] at hb
      have hsz := st.size
      have : a.tmps[u]? = some v := by
        rw [Array.getD_eq_getD_getElem?] at hvv
        have hl : u < a.tmps.size := by omega
        rw [Array.getElem?_eq_getElem hl] at hvv ⊢
        simpa using hvv
      rw [Option.bind_some, this] at hb
      revert hb
      cases v <;> simp
    unfold wpListIn
    rw [if_neg (by
      intro hw
      unfold Region.wanted at hw
      simp only at hw
      cases hyy : yielded ops a.tmps j with
      | none => simp [hyy] at hw
      | some b =>
        have := hy b hyy
        subst this
        simp [hyy] at hw
        subst hw
        exact hne rfl)]
    exact ⟨about_wide, rest ro g _ w (st.put (o := some t) (dstOk_lt hd) (.val undef))⟩
theorem AOps.name {u : Nat} {b : Bool} (F : Bool → D) (hb : tm u = F b) (h : ∀ β : Bool, β = b → AOps P N ops l Q (put tm u (F β)) S) : AOps P N ops l Q tm S := by
  have := h b rfl
  rwa [put_id hb] at this
theorem Walk.name {O : (Nat → Bool) → List Ob} {R : Tm → Prop} {k : Nat} {u : Nat} {b : Bool} (F : Bool → D) (hb : tm u = F b) (h : ∀ β : Bool, β = b → Walk P N ops O R k l (put tm u (F β))) : Walk P N ops O R k l tm := by
  have := h b rfl
  rwa [put_id hb] at this
theorem n_pick_and {c x : Operand} {b x' : Bool} (hd : Nat.blt t N = true) (hc : ev tm c = .val (.bool b)) (hx : b = true → ev tm x = .val (.bool x')) (rest : AOps P N ops l Q (put tm t (.val (.bool (b && x')))) S) : AOps P N ops (⟨some t, .pick c x (.const (.bool false)), ty, pos, after, none⟩ :: l) Q tm S :=
  n_pick hd hc (by cases b with | true => exact hx rfl | false => rfl) rest
theorem n_pick_or {c y : Operand} {b x' : Bool} (hd : Nat.blt t N = true) (hc : ev tm c = .val (.bool b)) (hx : b = false → ev tm y = .val (.bool x')) (rest : AOps P N ops l Q (put tm t (.val (.bool (b || x')))) S) : AOps P N ops (⟨some t, .pick c (.const (.bool true)) y, ty, pos, after, none⟩ :: l) Q tm S :=
  n_pick hd hc (by cases b with | true => rfl | false => exact hx rfl) rest
end
end Go.Abs

/- Equality of structs of plain fields; least and greatest of two. -/
set_option linter.unusedVariables false
set_option linter.unusedSimpArgs false
namespace Go.Abs
variable {P : Program} {N : Nat} {ops : Array Oper} {l : List Oper} {Q : Exit → Tm → List Ob → Prop} {tm : Tm} {S : List Ob}

inductive EqL (P : Program) : Nat → Array Value → Array Value → List Field → Bool → Prop
  | nil {n : Nat} {xs ys : Array Value} : EqL P n xs ys [] true
  | int {n : Nat} {xs ys : Array Value} {f : Field} {fs : List Field} {a b : Int} {r : Bool} {k k1 : IntKind} (hn : (f.name == "_") = false) (ti : TI P f.type 1 false) (hu : P.underlying f.type = some (.int k)) (hx : xs[f.offset]? = some (.int k1 a)) (hy : ys[f.offset]? = some (.int k1 b))
      (h : EqL P n xs ys fs r) : EqL P n xs ys (f :: fs) ((a == b) && r)
  | bool {n : Nat} {xs ys : Array Value} {f : Field} {fs : List Field} {a b : Bool} {r : Bool} (hn : (f.name == "_") = false) (ti : TI P f.type 1 false) (hu : P.underlying f.type = some .bool) (hx : xs[f.offset]? = some (.bool a)) (hy : ys[f.offset]? = some (.bool b))
      (h : EqL P n xs ys fs r) : EqL P n xs ys (f :: fs) ((a == b) && r)
  | struct {n sz : Nat} {xs ys us vs : Array Value} {f : Field} {fs : List Field} {gs : Array Field} {r1 r : Bool} (hn : (f.name == "_") = false) (ti : TI P f.type sz true) (hu : P.underlying f.type = some (.struct gs)) (hp : P.stoodInHeld f.type = false)
      (hx : xs.extract f.offset (f.offset + sz) = us) (hy : ys.extract f.offset (f.offset + sz) = vs) (h1 : EqL P n us vs gs.toList r1) (h : EqL P (n + 1) xs ys fs r) : EqL P (n + 1) xs ys (f :: fs) (r1 && r)

theorem run_part_one {t : TypeId} (ti : TI P t 1 false) {xs : Array Value} {i : Nat} {v : Value} (h : xs[i]? = some v) (w : World) : (part t xs i).run P w = .ok v w := by
  unfold part
  simp only [Sem.run_bind, ti.isAgg, Result.andThen_ok]
  simp [h]
theorem run_part_agg {t : TypeId} {sz : Nat} (ti : TI P t sz true) {xs us : Array Value} {i : Nat} (h : xs.extract i (i + sz) = us) (w : World) : (part t xs i).run P w = .ok (.agg us) w := by
  unfold part
  simp only [Sem.run_bind, ti.isAgg, Result.andThen_ok]
  simp [ti.sizeOf, h]
theorem EqL.run {n : Nat} {xs ys : Array Value} {fs : List Field} {r : Bool} (h : EqL P n xs ys fs r) (w : World) : ∀ d : Nat, (Op.eqFields (d + n + 1) xs ys fs).run P w = .ok r w := by
  induction h with
  | nil => intro d; simp [Op.eqFields]
  | @int n xs ys f fs a b r k k1 hn ti hu hx hy _ ih =>
    intro d
    have hn' : f.name ≠ "_" := by simpa using hn
    rw [Op.eqFields]
    simp only [if_pos hn', Sem.run_bind, run_part_one ti hx, run_part_one ti hy, Result.andThen_ok, run_equalIn_int w (d + n) f.type k1 k a b hu]
    cases (a == b)
    · simp
    · simpa using ih d
  | @bool n xs ys f fs a b r hn ti hu hx hy _ ih =>
    intro d
    have hn' : f.name ≠ "_" := by simpa using hn
    rw [Op.eqFields]
    simp only [if_pos hn', Sem.run_bind, run_part_one ti hx, run_part_one ti hy, Result.andThen_ok, run_equalIn_bool' w (d + n) f.type a b hu]
    cases (a == b)
    · simp
    · simpa using ih d
  | @struct n sz xs ys us vs f fs gs r1 r hn ti hu hp hx hy _ _ ih1 ih =>
    intro d
    have hn' : f.name ≠ "_" := by simpa using hn
    have hf : P.fieldsOf f.type = gs := by simp [Program.fieldsOf, hu]
    have e1 : (Op.equalIn (d + (n + 1) + 1) f.type (.agg us) (.agg vs)).run P w = .ok r1 w := by
      rw [run_equalIn_struct (P := P) w _ f.type us vs (by rw [hf]; exact hu) hp, hf]
      exact ih1 d
    rw [Op.eqFields]
    simp only [if_pos hn', Sem.run_bind, run_part_agg ti hx, run_part_agg ti hy, Result.andThen_ok, e1]
    cases r1
    · simp
    · simpa using ih d

section
variable {t : Tmp} {ty : TypeId} {pos : String} {after : Array Edge}
theorem run_struct {xT : TypeId} {fs : Array Field} {xs ys : Array Value} {r : Bool} (hu : P.underlying xT = some (.struct fs)) (hp : P.stoodInHeld xT = false) (h : EqL P 4 xs ys fs.toList r) (w : World) :
    (Op.equalIn 10000 xT (.agg xs) (.agg ys)).run P w = .ok r w := by
  have hf : P.fieldsOf xT = fs := by simp [Program.fieldsOf, hu]
  rw [show (10000 : Nat) = 9994 + 4 + 1 + 1 from rfl, run_equalIn_struct (P := P) w _ xT xs ys (by rw [hf]; exact hu) hp, hf]
  exact h.run w _
theorem n_steq {xT yT : TypeId} {fs : Array Field} {x y : Operand} {dx dy : D} {xs ys : Array Value} {r b : Bool} (hd : Nat.blt t N = true) (hx : ev tm x = dx) (hy : ev tm y = dy) (hvx : dx.exact = some (.agg xs)) (hvy : dy.exact = some (.agg ys))
    (hu : P.underlying xT = some (.struct fs)) (hp : P.stoodInHeld xT = false) (hm : P.eqGuardType P.depth xT = false) (h : EqL P 4 xs ys fs.toList r) (hb : r = b)
    (rest : AOps P N ops l Q (put tm t (.val (.bool b))) S) : AOps P N ops (⟨some t, .binOp .eql xT x y yT, ty, pos, after, none⟩ :: l) Q tm S :=
  n_bin hd hx hy hvx hvy (fun w => by
    subst hb
    simp only [Sem.run_bind, run_eqGuard_agg w .eql xT x y xs ys hm, Result.andThen_ok, run_eql_struct, run_struct hu hp h w]) rest
theorem n_stne {xT yT : TypeId} {fs : Array Field} {x y : Operand} {dx dy : D} {xs ys : Array Value} {r b : Bool} (hd : Nat.blt t N = true) (hx : ev tm x = dx) (hy : ev tm y = dy) (hvx : dx.exact = some (.agg xs)) (hvy : dy.exact = some (.agg ys))
    (hu : P.underlying xT = some (.struct fs)) (hp : P.stoodInHeld xT = false) (hm : P.eqGuardType P.depth xT = false) (h : EqL P 4 xs ys fs.toList r) (hb : (!r) = b)
    (rest : AOps P N ops l Q (put tm t (.val (.bool b))) S) : AOps P N ops (⟨some t, .binOp .neq xT x y yT, ty, pos, after, none⟩ :: l) Q tm S :=
  n_bin hd hx hy hvx hvy (fun w => by
    subst hb
    simp only [Sem.run_bind, run_eqGuard_agg w .neq xT x y xs ys hm, Result.andThen_ok, run_neq_struct, run_struct hu hp h w]) rest
theorem run_bool {xT : TypeId} (hu : P.underlying xT = some .bool) (a b : Bool) (w : World) : (Op.equalIn 10000 xT (.bool a) (.bool b)).run P w = .ok (a == b) w := run_equalIn_bool w 9999 xT a b hu
theorem n_beql {xT yT : TypeId} {x y : Operand} {a b c : Bool} (hd : Nat.blt t N = true) (hx : ev tm x = .val (.bool a)) (hy : ev tm y = .val (.bool b)) (hu : P.underlying xT = some .bool) (hb : (a == b) = c)
    (rest : AOps P N ops l Q (put tm t (.val (.bool c))) S) : AOps P N ops (⟨some t, .binOp .eql xT x y yT, ty, pos, after, none⟩ :: l) Q tm S :=
  n_bin hd hx hy rfl rfl (fun w => by
    subst hb
    simp [eqGuard_at_bool, binOp, Op.equal, Op.maxDepth, run_bool hu]) rest
theorem n_bneq {xT yT : TypeId} {x y : Operand} {a b c : Bool} (hd : Nat.blt t N = true) (hx : ev tm x = .val (.bool a)) (hy : ev tm y = .val (.bool b)) (hu : P.underlying xT = some .bool) (hb : (a != b) = c)
    (rest : AOps P N ops l Q (put tm t (.val (.bool c))) S) : AOps P N ops (⟨some t, .binOp .neq xT x y yT, ty, pos, after, none⟩ :: l) Q tm S :=
  n_bin hd hx hy rfl rfl (fun w => by
    subst hb
    simp [eqGuard_at_bool, binOp, Op.equal, Op.maxDepth, run_bool hu, bne]) rest
theorem n_max {T1 T2 : Array TypeId} {x y : Operand} {k : IntKind} {a b c : Int} (hd : Nat.blt t N = true) (hx : ev tm x = .val (.int k a)) (hy : ev tm y = .val (.int k b)) (hc : (if a < b then b else a) = c)
    (rest : AOps P N ops l Q (put tm t (.val (.int k c))) S) : AOps P N ops (⟨some t, .call ⟨.builtin .max, #[x, y], T1⟩, ty, pos, after, none⟩ :: l) Q tm S :=
  AOps.still rfl hd (fun g ac w st => by
    have rx := st.ev x
    have ry := st.ev y
    rw [hx] at rx
    rw [hy] at ry
    generalize hvx : ac.eval x = v at rx
    generalize hvy : ac.eval y = v' at ry
    cases rx
    cases ry
    refine ⟨_, ?_, .val _⟩
    simp only [execOp, resolve]
    simp [invoke, builtin, hvx, hvy, Builtin.max_, Builtin.max2, hc]) rest
end
end Go.Abs

/- Values without objects, told by computation. -/
set_option linter.unusedVariables false
set_option linter.unusedSimpArgs false
namespace Go.Abs
mutual
def D.flat : D → Bool
  | .any => true
  | .val _ => true
  | .agg ds => flats ds
  | .tup ds => flats ds
  | _ => false
def flats : List D → Bool
  | [] => true
  | d :: ds => d.flat && flats ds
end
mutual
theorem D.flat_lf : ∀ {d : D}, d.flat = true → LF d
  | .any, _ => .any
  | .val _, _ => .val _
  | .agg ds, h => .agg (flats_lf (by simpa [D.flat] using h))
  | .tup ds, h => .tup (flats_lf (by simpa [D.flat] using h))
  | .sl .., h => by simp [D.flat] at h
  | .rp .., h => by simp [D.flat] at h
  | .bp .., h => by simp [D.flat] at h
  | .bs .., h => by simp [D.flat] at h
  | .bq .., h => by simp [D.flat] at h
  | .fn .., h => by simp [D.flat] at h
theorem flats_lf : ∀ {ds : List D}, flats ds = true → ∀ d ∈ ds, LF d
  | [], _ => lf_nil
  | d :: ds, h => by
    rw [flats, Bool.and_eq_true] at h
    exact lf_cons (D.flat_lf h.1) (flats_lf h.2)
end
theorem ren_flat {ρ σ : Nat → Nat → Prop} {d d' : D} (hl : d.flat = true) (h : d = d') : Ren ρ σ d d' := h ▸ .lf (D.flat_lf hl)
end Go.Abs

/- Loops whose rounds make variables of their own: what a round made is forgotten at its end. -/
set_option linter.unusedVariables false
set_option linter.unusedSimpArgs false
namespace Go.Abs
variable {P : Program} {N : Nat} {Q : Exit → Tm → List Ob → Prop} {tm : Tm} {S : List Ob}

/-- It speaks of no object but the first m. -/
inductive Un (m : Nat) : D → Prop
  | lf {d : D} (h : LF d) : Un m d
  | bp {l o : Nat} (h : l < m) : Un m (.bp l o)
  | bs {l o n : Nat} (h : l < m) : Un m (.bs l o n)
  | bq {l o n c : Nat} (h : l < m) : Un m (.bq l o n c)
  | sl {nl : Option Bool} {xs : List (List D)} {c : Cap} (h : ∀ x ∈ xs, ∀ d ∈ x, Un m d) (hc : ∀ l, c = .own l → l < m) : Un m (.sl nl xs c)
  | rp {cs : List D} (h : ∀ d ∈ cs, Un m d) : Un m (.rp cs)
  | agg {cs : List D} (h : ∀ d ∈ cs, Un m d) : Un m (.agg cs)
  | tup {cs : List D} (h : ∀ d ∈ cs, Un m d) : Un m (.tup cs)
  | fn {f : Fn} {a b : List D} (h : ∀ d ∈ a, Un m d) (h' : ∀ d ∈ b, Un m d) : Un m (.fn f a b)

theorem Un.sl_inv {m : Nat} {nl : Option Bool} {xs : List (List D)} {c : Cap} (hu : Un m (.sl nl xs c)) : (∀ x ∈ xs, ∀ d ∈ x, Un m d) ∧ (∀ l, c = .own l → l < m) := by
  cases hu with
  | lf h => cases h with | sl h hc => exact ⟨fun x hx d hd => .lf (h x hx d hd), fun l hl => by rcases hc with e | e <;> rw [e] at hl <;> cases hl⟩
  | sl h hc => exact ⟨h, hc⟩
theorem Un.rp_inv {m : Nat} {cs : List D} (hu : Un m (.rp cs)) : ∀ d ∈ cs, Un m d := by
  cases hu with
  | lf h => cases h with | rp h => exact fun d hd => .lf (h d hd)
  | rp h => exact h
theorem Un.agg_inv {m : Nat} {cs : List D} (hu : Un m (.agg cs)) : ∀ d ∈ cs, Un m d := by
  cases hu with
  | lf h => cases h with | agg h => exact fun d hd => .lf (h d hd)
  | agg h => exact h
theorem Un.tup_inv {m : Nat} {cs : List D} (hu : Un m (.tup cs)) : ∀ d ∈ cs, Un m d := by
  cases hu with
  | lf h => cases h with | tup h => exact fun d hd => .lf (h d hd)
  | tup h => exact h
theorem Un.fn_inv {m : Nat} {f : Fn} {a b : List D} (hu : Un m (.fn f a b)) : (∀ d ∈ a, Un m d) ∧ (∀ d ∈ b, Un m d) := by
  cases hu with
  | lf h => cases h with | fn h h' => exact ⟨fun d hd => .lf (h d hd), fun d hd => .lf (h' d hd)⟩
  | fn h h' => exact ⟨h, h'⟩

def G.cut (g : G) (m : Nat) : G :=
  { eta := fun l => if l < m then g.eta l else none, row := fun l => if l < m then g.row l else none, lim := g.lim, own := fun b => (g.own b).bind fun l => if l < m then some l else none, base := g.base }

theorem Rep.un {g : G} {w : World} {m : Nat} {v : Value} {d : D} (r : Rep g w v d) : Un m d → Rep (g.cut m) w v d := by
  induction r with
  | any v => intro _; exact .any v
  | val v => intro _; exact .val v
  | sl st f hn hcap hnone hnl hst hcell hrep hc ih =>
    intro hu
    obtain ⟨hx, hcc⟩ := hu.sl_inv
    refine .sl st f hn hcap hnone hnl hst hcell (fun i x hx' j d hd => ih i x hx' j d hd (hx x (List.mem_of_getElem? hx') d (List.mem_of_getElem? hd))) ?_
    rename_i c
    cases c with
    | ro => trivial
    | full => exact hc
    | own l =>
      obtain ⟨k, h, e, h1, h2⟩ := hc
      exact ⟨k, h, by simp only [G.cut, if_pos (hcc l rfl)]; exact e, h1, h2⟩
  | rp f hcell hrep ih => intro hu; exact .rp f hcell (fun j d hd => ih j d hd (hu.rp_inv d (List.mem_of_getElem? hd)))
  | bp e =>
    intro hu
    cases hu with
    | lf h => cases h
    | bp h => exact .bp (by simp only [G.cut, if_pos h]; exact e)
  | bs e hc =>
    intro hu
    cases hu with
    | lf h => cases h
    | bs h => exact .bs (by simp only [G.cut, if_pos h]; exact e) hc
  | bq e hc =>
    intro hu
    cases hu with
    | lf h => cases h
    | bq h => exact .bq (by simp only [G.cut, if_pos h]; exact e) hc
  | agg hs hrep ih => intro hu; exact .agg hs (fun i v d hv hd => ih i v d hv hd (hu.agg_inv d (List.mem_of_getElem? hd)))
  | tup hs hrep ih => intro hu; exact .tup hs (fun i v d hv hd => ih i v d hv hd (hu.tup_inv d (List.mem_of_getElem? hd)))
  | fn hs hs' hrep hrep' ih ih' =>
    intro hu
    exact .fn hs hs' (fun i v d hv hd => ih i v d hv hd (hu.fn_inv.1 d (List.mem_of_getElem? hd))) (fun i v d hv hd => ih' i v d hv hd (hu.fn_inv.2 d (List.mem_of_getElem? hd)))

def ObUn (m : Nat) : Ob → Prop
  | .box cs => ∀ d ∈ cs, Un m d
  | .row _ _ => True
  | .dead => True
  | .seen _ _ => True
  | .lent => True

theorem Sim.cut {g : G} {w : World} {T : List Ob} (h : Sim g w (S ++ T)) (hu : ∀ ob ∈ S, ObUn S.length ob) : Sim (g.cut S.length) w S where
  obs l ob e := by
    have hl : l < S.length := (List.getElem?_eq_some_iff.1 e).1
    have k := h.obs l ob (by rw [List.getElem?_append_left hl]; exact e)
    have hob := hu ob (List.mem_of_getElem? e)
    cases ob with
    | box ds =>
      obtain ⟨b, c, T', e1, e2, e3, e4, e5, e6⟩ := k
      exact ⟨b, c, T', by simp only [G.cut, if_pos hl]; exact e1, by simp only [G.cut, e2, Option.bind_some, if_pos hl], e3, e4, ⟨e5.1, by simp only [G.cut, if_pos hl]; exact e5.2⟩, fun i v d hv hd => (e6 i v d hv hd).un (hob d (List.mem_of_getElem? hd))⟩
    | row n sz =>
      obtain ⟨a, cap, e1, e2, e3, e4⟩ := k
      refine ⟨a, cap, by simp only [G.cut, if_pos hl]; exact e1, e2, e3, ?_⟩
      rcases e4 with e4 | ⟨b, off, c, T', f1, f2, f3, f4, f5⟩
      · exact .inl e4
      · exact .inr ⟨b, off, c, T', f1, by simp only [G.cut, f2, Option.bind_some, if_pos hl], f3, f4, f5⟩
    | dead => exact ⟨by simp only [G.cut, if_pos hl]; exact k.1, by simp only [G.cut, if_pos hl]; exact k.2⟩
    | lent => trivial
    | seen J k' =>
      obtain ⟨B, e1, e2⟩ := k
      exact ⟨B, fun b kb => by simp only [G.cut, e1 b kb, Option.bind_some, if_pos hl], e2⟩
  noEta l hl := by simp only [G.cut, if_neg (Nat.not_lt.2 hl)]
  noRow l hl := by simp only [G.cut, if_neg (Nat.not_lt.2 hl)]
  own b l e := by
    simp only [G.cut] at e
    obtain ⟨l', e1, e2⟩ := Option.bind_eq_some_iff.1 e
    split at e2
    · rename_i hlt
      cases e2
      exact ⟨hlt, (h.own b l e1).2⟩
    · cases e2
  lim := h.lim

theorem Later.cut {g g1 : G} {w w1 : World} {m : Nat} (hs : Sim g w S) (hm : S.length ≤ m) (h : Later g w g1 w1) : Later g w (g1.cut m) w1 := by
  refine ⟨⟨h.1.cell, fun l b e => ?_, fun l n x e => ?_⟩, ⟨h.2.size, h.2.os, h.2.tape, h.2.output, fun b hb ho => ?_, fun b l hb ho => ?_, h.2.base⟩⟩
  · have hl : l < S.length := by
      rcases Nat.lt_or_ge l S.length with h' | h'
      · exact h'
      · rw [hs.noEta l h'] at e; cases e
    simp only [G.cut, if_pos (Nat.lt_of_lt_of_le hl hm)]
    exact h.1.eta l b e
  · have hl : l < S.length := by
      rcases Nat.lt_or_ge l S.length with h' | h'
      · exact h'
      · rw [hs.noRow l h'] at e; cases e
    obtain ⟨n', h', e', d'⟩ := h.1.row l n x e
    exact ⟨n', h', by simp only [G.cut, if_pos (Nat.lt_of_lt_of_le hl hm)]; exact e', d'⟩
  · obtain ⟨e1, e2, e3⟩ := h.2.old b hb ho
    exact ⟨e1, e2, by simp only [G.cut, e3, Option.bind_none]⟩
  · have e := h.2.kept b l hb ho
    have hl := (hs.own b l ho).1
    simp only [G.cut, e, Option.bind_some, if_pos (Nat.lt_of_lt_of_le hl hm)]

theorem AWP.loopX {α : Type} (m : Nat) (I : α → Prop) (F : α → Tm) (O : α → List Ob) (μ : α → Nat) {c : Code} (p₀ : α) (h₀ : I p₀) (hf : FLe tm (F p₀)) (hS : S = O p₀) (hm : ∀ p, (O p).length = m)
    (hF : ∀ p, I p → ∀ i, Un m (F p i)) (hO : ∀ p, I p → ∀ ob ∈ O p, ObUn m ob)
    (round : ∀ p, I p → AWP P N c (Then (fun tm' S' => ∃ p' T, I p' ∧ FLe tm' (F p') ∧ S' = O p' ++ T ∧ μ p' < μ p) Q) (F p) (O p)) : AWP P N (.loop c) Q tm S := fun ro hnr g a w st => by
  subst hS
  have hnc : RoOk ro c := fun k => by have := hnr k; simpa only [nr] using this
  intro b k cs hro hb hr
  have key : ∀ n p g' a' w', μ p = n → I p → St N g' (F p) (O p) a' w' → Later g w g' w' →
      ∃ e a2 w2, Post N Q g w e a2 w2 ∧ ArrivesIn (Machine.fenced P (wideR ro)) P (lone (b.atR a' (.code c :: .inLoop c :: k)) cs w') b k cs e a2 w2 := by
    intro n
    induction n using Nat.strongRecOn with
    | _ n ih =>
      intro p g' a' w' hn hI st' hl
      obtain ⟨e, a₁, w₁, ⟨g1, tm1, S1, q, st1, l1⟩, harr⟩ := round p hI ro hnc g' a' w' st' b (.inLoop c :: k) cs hro hb hr
      cases e with
      | normal =>
        obtain ⟨p', T, hI', hf', rfl, hlt⟩ := q
        have st2 := st1.forget hf'
        have hml := hm p'
        have st3 : St N (g1.cut m) (F p') (O p') a₁ w₁ := ⟨st2.size, st2.based, st2.once, fun d hd => by
          obtain ⟨b', e', q1, q2, q3⟩ := st2.defers d hd
          exact ⟨b', e', q1, by simp only [G.cut, q2, Option.bind_none], q3⟩, fun i => (st2.slots i).un (hF p' hI' i), by
          have := st2.sim.cut (S := O p') (by rw [hml]; exact hO p' hI')
          rwa [hml] at this⟩
        obtain ⟨e₂, a₂, w₂, hq₂, harr₂⟩ := ih (μ p') (hn ▸ hlt) p' (g1.cut m) a₁ w₁ rfl hI' st3 ((hl.trans l1).cut st.sim (Nat.le_of_eq (hm p₀)))
        exact ⟨e₂, a₂, w₂, hq₂, .of_steps (StepsIn.trans harr (.one (fenced_calm hb hr rfl) stepR_inLoop)) harr₂⟩
      | exit id => exact ⟨_, a₁, w₁, ⟨g1, tm1, S1, q, st1, hl.trans l1⟩, .pass (x := .inLoop c) rfl (fun _ _ => .inl (by simp)) harr⟩
      | goto l => exact ⟨_, a₁, w₁, ⟨g1, tm1, S1, q, st1, hl.trans l1⟩, .pass (x := .inLoop c) rfl (fun _ _ => .inl (by simp)) harr⟩
      | ret => exact ⟨_, a₁, w₁, ⟨g1, tm1, S1, q, st1, hl.trans l1⟩, .pass (x := .inLoop c) rfl (fun _ _ => .inl (by simp)) harr⟩
      | panic ch => exact ⟨_, a₁, w₁, ⟨g1, tm1, S1, q, st1, hl.trans l1⟩, .pass (x := .inLoop c) rfl (fun _ _ => .inl (by simp)) harr⟩
      | outgrown => exact ⟨_, a₁, w₁, ⟨g1, tm1, S1, q, st1, hl.trans l1⟩, .pass (x := .inLoop c) rfl (fun _ _ => .inl (by simp)) harr⟩
  obtain ⟨e, a', w', hq, harr⟩ := key _ p₀ g a w rfl h₀ (st.forget hf) (.refl g w)
  exact ⟨e, a', w', hq, .of_steps (.one (fenced_calm hb hr rfl) stepR_loop) harr⟩

theorem un_empty {m : Nat} : ∀ i, Un m (empty i) := fun _ => .lf .any
theorem un_put {m : Nat} {i : Nat} {d : D} (hd : Un m d) (h : ∀ j, Un m (tm j)) : ∀ j, Un m (put tm i d j) := fun j => by
  unfold put
  cases Nat.beq j i with
  | true => exact hd
  | false => exact h j
theorem un_nil {m : Nat} : ∀ ob ∈ ([] : List Ob), ObUn m ob := fun ob h => by cases h
theorem un_cons {m : Nat} {ob : Ob} {S : List Ob} (h : ObUn m ob) (t : ∀ ob ∈ S, ObUn m ob) : ∀ x ∈ ob :: S, ObUn m x := fun x hx => by
  rcases List.mem_cons.1 hx with rfl | hx
  · exact h
  · exact t x hx
theorem un_box {m : Nat} {cs : List D} (h : flats cs = true) : ObUn m (.box cs) := fun d hd => .lf (flats_lf h d hd)
theorem un_boxL {m : Nat} {cs : List D} (h : ∀ d ∈ cs, LF d) : ObUn m (.box cs) := fun d hd => .lf (h d hd)
theorem lf_map {α : Type} {f : α → List D} (hf : ∀ a, flats (f a) = true) {nl : Option Bool} {l : List α} {c : Cap} (hc : c = .ro ∨ c = .full) : LF (.sl nl (l.map f) c) :=
  .sl (fun x hx d hd => by obtain ⟨a, _, rfl⟩ := List.mem_map.1 hx; exact flats_lf (hf a) d hd) hc
theorem ren_map {ρ σ : Nat → Nat → Prop} {α : Type} {f : α → List D} (hf : ∀ a, flats (f a) = true) {nl : Option Bool} {l : List α} {c : Cap} : Ren ρ σ (.sl nl (l.map f) c) (.sl none (l.map f) .ro) :=
  .ro (fun x hx d hd => by obtain ⟨a, _, rfl⟩ := List.mem_map.1 hx; exact flats_lf (hf a) d hd)
theorem map_at {α : Type} (f : α → List D) {l : List α} {i : Nat} {a : α} (h : l[i]? = some a) : (l.map f)[((i : Int)).toNat]? = some (f a) := by
  rw [Int.toNat_natCast, List.getElem?_map, h]; rfl
end Go.Abs

/- What is computed of frames, in one fact: the walks name it in the place of its parts. -/
set_option linter.unusedVariables false
namespace Go.Abs
theorem nf :
    (∀ (tm : Tm) (t : Nat), ev tm (.tmp t) = tm t) ∧ (∀ (tm : Tm) (v : Value), ev tm (.const v) = ofV v) ∧ (∀ (tm : Tm) (f : FuncId), ev tm (.func f) = .fn (.func f) [] []) ∧
    (∀ (tm : Tm) (i : Nat) (d : D) (j : Nat), put tm i d j = cond (Nat.beq j i) d (tm j)) ∧ (∀ (tm : Tm) (i : Nat) (d : D), putO tm (some i) d = put tm i d) ∧ (∀ (tm : Tm) (d : D), putO tm none d = tm) ∧
    (∀ {α : Type} (a b : α), cond true a b = a) ∧ (∀ {α : Type} (a b : α), cond false a b = b) ∧
    (ofV (.slice none 0 0) = .sl (some true) [] .full) ∧ (∀ (k : IntKind) (n : Int), ofV (.int k n) = .val (.int k n)) ∧ (∀ b : Bool, ofV (.bool b) = .val (.bool b)) ∧ (∀ p : Option Addr, ofV (.pointer p) = .val (.pointer p)) ∧
    (∀ p : Array Value, ofV (.agg p) = .val (.agg p)) ∧ (∀ p : ByteArray, ofV (.string p) = .val (.string p)) ∧ (ofV .nilFunc = .val .nilFunc) ∧ (∀ p : Option Nat, ofV (.map p) = .val (.map p)) ∧
    (∀ (ds : List D) (i : Nat), frameOf ds i = ds.getD i .any) ∧ (∀ (sz : Nat) (cs : List D), D.ofCells true sz cs = .agg (cs.take sz)) ∧ (∀ (sz : Nat) (cs : List D), D.ofCells false sz cs = cs.headD .any) ∧
    (∀ cs : List D, D.cells (.agg cs) = cs) ∧ (∀ cs : Array Value, D.cells (.val (.agg cs)) = cs.toList.map ofV) ∧ (∀ (k : IntKind) (n : Int), D.cells (.val (.int k n)) = [.val (.int k n)]) ∧ (∀ b : Bool, D.cells (.val (.bool b)) = [.val (.bool b)]) ∧
    (∀ p : ByteArray, D.cells (.val (.string p)) = [.val (.string p)]) ∧ (∀ (p : Option Addr), D.cells (.val (.pointer p)) = [.val (.pointer p)]) ∧ (∀ (p : Option Nat), D.cells (.val (.map p)) = [.val (.map p)]) ∧ (D.cells (.val .nilFunc) = [.val .nilFunc]) ∧
    (∀ (nl : Option Bool) (xs : List (List D)) (c : Cap), D.cells (.sl nl xs c) = [.sl nl xs c]) ∧ (∀ l o : Nat, D.cells (.bp l o) = [.bp l o]) ∧ (∀ l o n : Nat, D.cells (.bs l o n) = [.bs l o n]) ∧ (∀ cs : List D, D.cells (.rp cs) = [.rp cs]) ∧ (∀ (f : Fn) (a b : List D), D.cells (.fn f a b) = [.fn f a b]) ∧ (D.cells .any = [.any]) ∧
    (∀ (S : List Ob) (l off : Nat), D.at S (.bp l off) = (match S[l]? with | some (.box ds) => some (ds.drop off) | _ => none)) ∧ (∀ (S : List Ob) (cs : List D), D.at S (.rp cs) = some cs) ∧
    (∀ (r : Nat) (rs : List Nat) (e : D) (es : List D) (base : Tm), putAll (r :: rs) (e :: es) base = put (putAll rs es base) r e) ∧ (∀ base : Tm, putAll [] [] base = base) ∧
    (∀ k l o : Nat, D.shift k (.bp l o) = .bp l (o + k)) ∧ (∀ (k : Nat) (cs : List D), D.shift k (.rp cs) = .rp (cs.drop k)) ∧
    (∀ (ds : List D) (off : Nat) (cs : List D), splice ds off cs = ds.take off ++ cs ++ ds.drop (off + cs.length)) ∧ (∀ d : D, resD [d] = d) ∧ (∀ (d e : D) (ds : List D), resD (d :: e :: ds) = .tup (d :: e :: ds)) ∧ (resD [] = .tup []) ∧
    (∀ b : Bool, (b && true) = b) ∧ (∀ b : Bool, (true && b) = b) ∧ (∀ b : Bool, (b && false) = false) ∧ (∀ b : Bool, (false && b) = false) ∧ ((!true) = false) ∧ ((!false) = true) ∧
    (∀ {α : Type} (a : α) (l : List α) (d : α), (a :: l).getD 0 d = a) ∧ (∀ {α : Type} (a : α) (l : List α) (d : α) (n : Nat), (a :: l).getD (n + 1) d = l.getD n d) ∧ (∀ {α : Type} (d : α) (n : Nat), ([] : List α).getD n d = d) ∧
    (∀ {α : Type} (a : α) (l : List α), (a :: l)[0]? = some a) ∧ (∀ {α : Type} (a : α) (l : List α) (n : Nat), (a :: l)[n + 1]? = l[n]?) ∧
    (∀ {α : Type} (a : α) (l : List α) (n : Nat), (a :: l).drop (n + 1) = l.drop n) ∧ (∀ {α : Type} (l : List α), l.drop 0 = l) ∧ (∀ {α : Type} (n : Nat), ([] : List α).drop n = []) ∧
    (∀ {α : Type} (a : α) (l : List α) (n : Nat), (a :: l).take (n + 1) = a :: l.take n) ∧ (∀ {α : Type} (l : List α), l.take 0 = []) ∧ (∀ {α : Type} (n : Nat), ([] : List α).take n = []) ∧ (∀ {α : Type} (a : α) (l : List α) (d : α), (a :: l).headD d = a) ∧
    (∀ {α : Type} (a b : α) (l : List α), (a :: l).set 0 b = b :: l) ∧ (∀ {α : Type} (a b : α) (l : List α) (n : Nat), (a :: l).set (n + 1) b = a :: l.set n b) ∧
    (∀ {α : Type} (a : α) (l m : List α), a :: l ++ m = a :: (l ++ m)) ∧ (∀ {α : Type} (l : List α), [] ++ l = l) ∧ (∀ {α : Type} (l : List α), l ++ [] = l) ∧ (∀ {α β : Type} (f : α → β) (a : α) (l : List α), (a :: l).map f = f a :: l.map f) ∧ (∀ {α β : Type} (f : α → β), ([] : List α).map f = []) ∧
    (∀ {α : Type} (a : α) (l : List α), (a :: l).length = l.length + 1) ∧ (∀ {α : Type}, ([] : List α).length = 0) ∧ (∀ n : Nat, 0 + n = n) ∧ (∀ n : Nat, n + 0 = n) ∧ (∀ {α : Type} (l : List α), l.toArray.toList = l) ∧
    (∀ {α : Type} (p : α → Bool) (a : α) (l : List α), (a :: l).all p = (p a && l.all p)) ∧ (∀ {α : Type} (p : α → Bool), ([] : List α).all p = true) ∧ (∀ xs : Array Value, Value.cells (.agg xs) = xs) := by
  (repeat' apply And.intro) <;> intros <;> first | rfl | simp
/-- Lists of operands, first. -/
theorem nl : (∀ xs : Array Value, Value.cells (.agg xs) = xs) ∧ (∀ {α : Type} (l : List α), l.toArray.toList = l) ∧ (∀ {α β : Type} (f : α → β) (a : α) (l : List α), (a :: l).map f = f a :: l.map f) ∧ (∀ {α β : Type} (f : α → β), ([] : List α).map f = []) ∧
    (∀ {α : Type} (a : α) (l m : List α), a :: l ++ m = a :: (l ++ m)) ∧ (∀ {α : Type} (l : List α), [] ++ l = l) ∧ (∀ {α : Type} (l : List α), l ++ [] = l) := by
  (repeat' apply And.intro) <;> intros <;> first | rfl | simp
/-- Conditions, as propositions. -/
theorem nh : (∀ (p : Prop) [Decidable p], (decide p = true) = p) ∧ (∀ (p : Prop) [Decidable p], (decide p = false) = ¬ p) ∧ (∀ a b : Int, ((a == b) = true) = (a = b)) ∧ (∀ a b : Int, ((a == b) = false) = ¬ a = b) ∧ (∀ a b : Int, ((a != b) = true) = ¬ a = b) ∧ (∀ a b : Int, ((a != b) = false) = (a = b)) ∧
    (∀ b : Bool, ((!b) = true) = (b = false)) ∧ (∀ b : Bool, ((!b) = false) = (b = true)) ∧ (∀ a b : Bool, ((a && b) = true) = (a = true ∧ b = true)) ∧ (∀ a b : Bool, ((a || b) = false) = (a = false ∧ b = false)) := by
  (repeat' apply And.intro) <;> intros <;> simp
end Go.Abs

/- Regions that draw their order, with several operations that change the objects, one behind the other. -/
set_option linter.unusedVariables false
set_option linter.unusedSimpArgs false
namespace Go.Abs
variable {P : Program} {N : Nat} {ops : Array Oper} {Q : Exit → Tm → List Ob → Prop} {tm : Tm} {S : List Ob}

/-- The objects, by which of the writers are done. -/
def OC (S : List Ob) : List (Nat × List Ob) → (Nat → Bool) → List Ob
  | [], _ => S
  | (m, S1) :: ws, L => bif L m then OC S1 ws L else S
/-- All that they may be. -/
def OCs (S : List Ob) (ws : List (Nat × List Ob)) : List (List Ob) := S :: ws.map (·.2)
def lastOC (S : List Ob) : List (Nat × List Ob) → List Ob
  | [] => S
  | (_, S1) :: ws => lastOC S1 ws
theorem OC_none {L : Nat → Bool} {m : Nat} {S1 : List Ob} {ws : List (Nat × List Ob)} (h : L m = false) : OC S ((m, S1) :: ws) L = S := by simp only [OC, h, cond_false]
/-- Each writer waits for the one ahead of it. -/
def chainB (ops : Array Oper) : List (List Nat) → List (Nat × List Ob) → Bool
  | p :: ps, (m, _) :: (m', S') :: ws => pathB ops p && p.head? == some m && p.getLast? == some m' && chainB ops ps ((m', S') :: ws)
  | _, [_] => true
  | _, [] => true
  | [], _ => false

abbrev Closed (ops : Array Oper) (L : Nat → Bool) : Prop := ∀ (j : Nat) (p : Oper), ops[j]? = some p → L j = true → ∀ e ∈ p.after, Region.binds .any e = true → L e.on = true
theorem path_of {L : Nat → Bool} (hc : Closed ops L) {p : List Nat} {i m : Nat} (hp : pathB ops p = true) (h0 : p.head? = some i) (h1 : p.getLast? = some m) (h : L m = true) : L i = true := by
  cases p with
  | nil => cases h0
  | cons x l =>
    simp only [List.head?_cons, Option.some.injEq] at h0
    subst h0
    exact path_back hc l x m hp h1 h
/-- Whichever are done: one of what they may be. -/
theorem OC_mem (S : List Ob) (ws : List (Nat × List Ob)) (L : Nat → Bool) : OC S ws L ∈ OCs S ws := by
  induction ws generalizing S with
  | nil => simp [OC, OCs]
  | cons x ws ih =>
    obtain ⟨m, S1⟩ := x
    simp only [OC, OCs, List.map_cons]
    cases L m with
    | false => simp
    | true => exact List.mem_cons_of_mem _ (ih S1)
theorem OC_mark {L : Nat → Bool} {k : Nat} : ∀ {S : List Ob} {ws : List (Nat × List Ob)}, (∀ w ∈ ws, w.1 ≠ k) → OC S ws (mark L k) = OC S ws L
  | S, [], _ => rfl
  | S, (m, S1) :: ws, h => by
    have hm : m ≠ k := h (m, S1) (by simp)
    simp only [OC, mark_other L hm]
    rw [OC_mark (S := S1) (ws := ws) fun w hw => h w (by simp [hw])]

section moves
variable {R : Tm → Prop} {k : Nat} {o : Oper} {rest : List Oper} {d : D} {rs : List Nat} {es : List D} {ws : List (Nat × List Ob)}
/-- It changes nothing, whatever is done. -/
theorem Walk.free (hk : (ws.all fun w => !(Nat.beq w.1 k)) = true) (hrs : (rs.all fun s => (o.looksAt ops).contains s) = true) (hes : rs.map tm = es)
    (h : ∀ base : Tm, ∀ S', S' ∈ OCs S ws → AOps P N ops [o] (fun e tm' S'' => e = .normal ∧ tm' = putO (putAll rs es base) o.dst d ∧ S'' = S') (putAll rs es base) S')
    (next : Walk P N ops (OC S ws) R (k + 1) rest (putO tm o.dst d)) : Walk P N ops (OC S ws) R k (o :: rest) tm := by
  refine Walk.op hrs hes (fun L hr base => ?_) next
  rw [OC_mark fun w hw => by
    have := List.all_eq_true.1 hk w hw
    intro e; rw [e] at this; simp at this]
  exact h base _ (OC_mem S ws L)
/-- It is a writer: those of w1 are done, those of w2 are not. -/
theorem Walk.turns (w1 w2 : List (Nat × List Ob)) (ps1 ps2 : List (List Nat)) {S1 S2 : List Ob} (hws : ws = w1 ++ (k, S2) :: w2) (hk : ((w1 ++ w2).all fun w => !(Nat.beq w.1 k)) = true) (ho : ops[k]? = some o)
    (h1 : ((w1.zip ps1).all fun x => pathB ops x.2 && x.2.head? == some x.1.1 && x.2.getLast? == some k) = true) (hl1 : w1.length = ps1.length)
    (h2 : ((w2.zip ps2).all fun x => pathB ops x.2 && x.2.head? == some k && x.2.getLast? == some x.1.1) = true) (hl2 : w2.length = ps2.length)
    (hrs : (rs.all fun s => (o.looksAt ops).contains s) = true) (hes : rs.map tm = es) (hS : lastOC S w1 = S1)
    (h : ∀ base : Tm, AOps P N ops [o] (fun e tm' S'' => e = .normal ∧ tm' = putO (putAll rs es base) o.dst d ∧ S'' = S2) (putAll rs es base) S1)
    (next : Walk P N ops (OC S ws) R (k + 1) rest (putO tm o.dst d)) : Walk P N ops (OC S ws) R k (o :: rest) tm := by
  refine Walk.op hrs hes (fun L hr base => ?_) next
  have hne : ∀ w ∈ w1 ++ w2, w.1 ≠ k := fun w hw e => by
    have := List.all_eq_true.1 hk w hw
    rw [e] at this; simp at this
  have hcm : Closed ops (mark L k) := by
    intro j p hp' hj e he hb
    by_cases ej : j = k
    · subst ej
      have : p = o := by rw [hp'] at ho; exact Option.some.inj ho
      subst this
      by_cases e2 : e.on = j
      · rw [e2, mark_same]
      · rw [mark_other _ e2]; exact hr.pre e he hb
    · rw [mark_other _ ej] at hj
      by_cases e2 : e.on = k
      · rw [e2, mark_same]
      · rw [mark_other _ e2]; exact hr.closed j p hp' hj e he hb
  have d1 : ∀ w ∈ w1, L w.1 = true := by
    intro w hw
    obtain ⟨i, hi, e⟩ := List.getElem_of_mem hw
    have hm : (w, ps1[i]'(by omega)) ∈ w1.zip ps1 := by
      rw [← e]
      exact List.mem_of_getElem? (i := i) (by rw [List.getElem?_zip_eq_some]; exact ⟨List.getElem?_eq_getElem hi, List.getElem?_eq_getElem (by omega)⟩)
    have := List.all_eq_true.1 h1 _ hm
    simp only [Bool.and_eq_true, beq_iff_eq] at this
    have q := path_of hcm this.1.1 this.1.2 this.2 (mark_same L k)
    rwa [mark_other L (hne w (by simp [hw]))] at q
  have d2 : ∀ w ∈ w2, L w.1 = false := by
    intro w hw
    obtain ⟨i, hi, e⟩ := List.getElem_of_mem hw
    have hm : (w, ps2[i]'(by omega)) ∈ w2.zip ps2 := by
      rw [← e]
      exact List.mem_of_getElem? (i := i) (by rw [List.getElem?_zip_eq_some]; exact ⟨List.getElem?_eq_getElem hi, List.getElem?_eq_getElem (by omega)⟩)
    have := List.all_eq_true.1 h2 _ hm
    simp only [Bool.and_eq_true, beq_iff_eq] at this
    cases hh : L w.1 with
    | false => rfl
    | true => have q := path_of hr.closed this.1.1 this.1.2 this.2 hh; rw [hr.un] at q; cases q
  have e : OC S ws L = S1 ∧ OC S ws (mark L k) = S2 := by
    rw [hws, ← hS]
    clear hS hws h1 hl1 next
    have hne' := hne
    clear hne hk h
    induction w1 generalizing S with
    | nil =>
      refine ⟨OC_none hr.un, ?_⟩
      simp only [List.nil_append, OC, mark_same, cond_true]
      cases w2 with
      | nil => rfl
      | cons x w2 =>
        obtain ⟨m, S3⟩ := x
        exact OC_none (by rw [mark_other L (hne' (m, S3) (by simp))]; exact d2 (m, S3) (by simp))
    | cons x w1 ih =>
      obtain ⟨m, S3⟩ := x
      have hm := d1 (m, S3) (by simp)
      simp only [List.cons_append, OC, hm, mark_other L (hne' (m, S3) (by simp)), cond_true, lastOC]
      exact ih (fun w hw => d1 w (by simp [hw])) (fun w hw => hne' w (by simp [List.mem_append] at hw ⊢; rcases hw with hw | hw <;> simp [hw]))
  rw [e.1, e.2]
  exact h base
end moves
end Go.Abs

/- Places kept for variables that are yet to be made: where two of them are made in any order, their numbers do not hang on it. -/
set_option linter.unusedVariables false
set_option linter.unusedSimpArgs false
namespace Go.Abs
variable {P : Program} {N : Nat} {ops : Array Oper} {l : List Oper} {Q : Exit → Tm → List Ob → Prop} {tm : Tm} {S : List Ob}

theorem Sim.reserve {g : G} {w : World} (hs : Sim g w S) : Sim g w (S ++ [.dead]) := by
  refine ⟨fun l ob h => ?_, fun l h => hs.noEta l (by simp at h; omega), fun l h => hs.noRow l (by simp at h; omega), fun b l h => ?_, hs.lim⟩
  · rcases getElem?_snoc h with ⟨h, _⟩ | ⟨rfl, rfl⟩
    · exact hs.obs l ob h
    · exact ⟨hs.noEta _ (Nat.le_refl _), hs.noRow _ (Nat.le_refl _)⟩
  · have := hs.own b l h
    simp only [List.length_append, List.length_cons, List.length_nil]
    omega
theorem AWP.reserve {c : Code} (S' : List Ob) (e : S ++ [.dead] = S') (h : AWP P N c Q tm S') : AWP P N c Q tm S := fun ro hro g a w st => by
  subst e
  exact h ro hro g a w ⟨st.size, st.based, st.once, st.defers, st.slots, st.sim.reserve⟩

section
variable {ty : TypeId} {pos : String} {after : Array Edge} {t : Nat}
end
end Go.Abs

/- Regions that draw their order, whatever their operations change: the objects by a table of which of the writers are done. -/
set_option linter.unusedVariables false
set_option linter.unusedSimpArgs false
namespace Go.Abs
variable {P : Program} {N : Nat} {ops : Array Oper} {Q : Exit → Tm → List Ob → Prop} {tm : Tm} {S : List Ob}

/-- b waits for a. -/
def reachB (ops : Array Oper) (a : Nat) : Nat → Nat → Bool
  | 0, b => Nat.beq a b
  | fuel + 1, b => Nat.beq a b || (match ops[b]? with | some o => o.after.any fun e => Region.binds .any e && reachB ops a fuel e.on | none => false)
theorem reach_closed {L : Nat → Bool} (hc : Closed ops L) {a : Nat} : ∀ (fuel b : Nat), reachB ops a fuel b = true → L b = true → L a = true
  | 0, b, h, hb => by rw [reachB] at h; rw [Nat.eq_of_beq_eq_true h]; exact hb
  | fuel + 1, b, h, hb => by
    rw [reachB, Bool.or_eq_true] at h
    rcases h with h | h
    · rw [Nat.eq_of_beq_eq_true h]; exact hb
    · cases ho : ops[b]? with
      | none => rw [ho] at h; cases h
      | some o =>
        rw [ho] at h
        simp only at h
        rw [← Array.any_toList, List.any_eq_true] at h
        obtain ⟨e, he, h2⟩ := h
        rw [Bool.and_eq_true] at h2
        have he' := Array.mem_toList_iff.1 he
        exact reach_closed hc fuel e.on h2.2 (hc b o ho hb e he' h2.1)

/-- Can these be the ones that are done when k comes up? -/
def fitsB (ops : Array Oper) (k : Nat) (ws : List Nat) (p : List Bool) : Bool :=
  (ws.zip p).all fun x => (bif x.2 then !(reachB ops k ops.size x.1) else !(reachB ops x.1 ops.size k) || Nat.beq x.1 k) && (ws.zip p).all fun y => !(x.2 && !y.2 && reachB ops y.1 ops.size x.1)
def bitsOf : Nat → List (List Bool)
  | 0 => [[]]
  | n + 1 => (bitsOf n).map (false :: ·) ++ (bitsOf n).map (true :: ·)
theorem mem_bits : ∀ (p : List Bool), p ∈ bitsOf p.length
  | [] => by simp [bitsOf]
  | b :: p => by
    have := mem_bits p
    cases b <;> simp [bitsOf, this]
def tabB (ops : Array Oper) (k : Nat) (ws : List Nat) (pats : List (List Bool)) : Bool :=
  (bitsOf ws.length).all fun p => pats.contains p || !(fitsB ops k ws p)

theorem fits_of {L : Nat → Bool} {k : Nat} {o : Oper} (ho : ops[k]? = some o) (hr : Ready ops k o L) (ws : List Nat) : fitsB ops k ws (ws.map L) = true := by
  have hcm : Closed ops (mark L k) := by
    intro j p hp' hj e he hb
    by_cases ej : j = k
    · subst ej
      have : p = o := by rw [hp'] at ho; exact Option.some.inj ho
      subst this
      by_cases e2 : e.on = j
      · rw [e2, mark_same]
      · rw [mark_other _ e2]; exact hr.pre e he hb
    · rw [mark_other _ ej] at hj
      by_cases e2 : e.on = k
      · rw [e2, mark_same]
      · rw [mark_other _ e2]; exact hr.closed j p hp' hj e he hb
  have hz : ∀ x ∈ ws.zip (ws.map L), x.2 = L x.1 := by
    intro x hx
    obtain ⟨i, hi, e⟩ := List.getElem_of_mem hx
    rw [List.getElem_zip, List.getElem_map] at e
    rw [← e]
  unfold fitsB
  rw [List.all_eq_true]
  intro x hx
  rw [Bool.and_eq_true, List.all_eq_true]
  refine ⟨?_, fun y hy => ?_⟩
  · rw [hz x hx]
    cases hl : L x.1 with
    | true =>
      simp only [cond_true, Bool.not_eq_true']
      cases hh : reachB ops k ops.size x.1 with
      | false => rfl
      | true => have := reach_closed hr.closed _ _ hh hl; rw [hr.un] at this; cases this
    | false =>
      simp only [cond_false]
      cases hh : reachB ops x.1 ops.size k with
      | false => rfl
      | true =>
        have := reach_closed hcm _ _ hh (mark_same L k)
        by_cases e : x.1 = k
        · rw [e]; simp
        · rw [mark_other _ e, hl] at this; cases this
  · rw [hz x hx, hz y hy]
    cases h1 : L x.1 with
    | false => simp
    | true =>
      cases h2 : L y.1 with
      | true => simp
      | false =>
        cases hh : reachB ops y.1 ops.size x.1 with
        | false => simp
        | true => have := reach_closed hr.closed _ _ hh h1; rw [h2] at this; cases this

/-- The objects, by the table. -/
def OT (T : List Bool → List Ob) (ws : List Nat) : (Nat → Bool) → List Ob := fun L => T (ws.map L)
theorem AWP.anyT {id : Nat} {l : List Oper} (ws : List Nat) (T : List Bool → List Ob) {S1 : List Ob} (hm : P.follows .mixedOrders = true) (hB : anyB l.toArray = true) (h0 : T (ws.map fun j => Nat.ble l.toArray.size j) = S) (h1 : T (ws.map fun _ => true) = S1)
    (h : Walk P N l.toArray (OT T ws) (fun tm' => Q .normal tm' S1) 0 l tm) : AWP P N (.region id l.toArray true) Q tm S :=
  AWP.any (OT T ws) hm hB h0 (by rw [show OT T ws (fun _ => true) = S1 from h1]; simpa using h)
/-- One operation: in each case that can be. `nx` turns its own bit. -/
theorem Walk.tab {R : Tm → Prop} {k : Nat} {o : Oper} {rest : List Oper} {d : D} {rs : List Nat} {es : List D} {ws : List Nat} {T : List Bool → List Ob} (pats : List (List Bool))
    (ho : ops[k]? = some o) (hp : tabB ops k ws pats = true) (hrs : (rs.all fun s => (o.looksAt ops).contains s) = true) (hes : rs.map tm = es)
    (h : ∀ base : Tm, ∀ p ∈ pats, ∀ p', p' = (ws.zip p).map (fun x => Nat.beq x.1 k || x.2) → AOps P N ops [o] (fun e tm' S'' => e = .normal ∧ tm' = putO (putAll rs es base) o.dst d ∧ S'' = T p') (putAll rs es base) (T p))
    (next : Walk P N ops (OT T ws) R (k + 1) rest (putO tm o.dst d)) : Walk P N ops (OT T ws) R k (o :: rest) tm := by
  refine Walk.op hrs hes (fun L hr base => ?_) next
  have hmem : ws.map L ∈ pats := by
    have hb := mem_bits (ws.map L)
    rw [List.length_map] at hb
    have := List.all_eq_true.1 hp _ hb
    rw [fits_of ho hr ws] at this
    simpa using this
  refine h base (ws.map L) hmem (ws.map (mark L k)) ?_
  refine List.ext_getElem (by simp) fun i h1 h2 => ?_
  simp only [List.getElem_map, List.getElem_zip]
  unfold mark
  have h3 : i < ws.length := by simpa using h1
  cases Nat.beq (ws[i]'h3) k <;> rfl
/-- The cases one by one: what is done, the objects, the objects behind it. -/
def StepAll (P : Program) (N : Nat) (ops : Array Oper) (o : Oper) (d : D) (T : List Bool → List Ob) (k : Nat) (ws : List Nat) (F : Tm) : List (List Bool × List Ob × List Ob) → Prop
  | [] => True
  | (p, Sa, Sb) :: r => (T p = Sa ∧ T ((ws.zip p).map (fun x => Nat.beq x.1 k || x.2)) = Sb ∧ AOps P N ops [o] (fun e tm' S'' => e = .normal ∧ tm' = putO F o.dst d ∧ S'' = Sb) F Sa) ∧ StepAll P N ops o d T k ws F r
theorem StepAll.get {o : Oper} {d : D} {T : List Bool → List Ob} {k : Nat} {ws : List Nat} {F : Tm} : ∀ {l : List (List Bool × List Ob × List Ob)}, StepAll P N ops o d T k ws F l → ∀ p ∈ l.map (·.1), AOps P N ops [o] (fun e tm' S'' => e = .normal ∧ tm' = putO F o.dst d ∧ S'' = T ((ws.zip p).map (fun x => Nat.beq x.1 k || x.2))) F (T p)
  | [], _, p, hp => by simp at hp
  | (q, Sa, Sb) :: r, h, p, hp => by
    obtain ⟨⟨e1, e2, h1⟩, h2⟩ := h
    rcases List.mem_cons.1 hp with rfl | hp
    · rw [e1, e2]; exact h1
    · exact StepAll.get h2 p hp
theorem Walk.cases {R : Tm → Prop} {k : Nat} {o : Oper} {rest : List Oper} {d : D} {rs : List Nat} {es : List D} {ws : List Nat} {T : List Bool → List Ob} (cs : List (List Bool × List Ob × List Ob))
    (ho : ops[k]? = some o) (hp : tabB ops k ws (cs.map (·.1)) = true) (hrs : (rs.all fun s => (o.looksAt ops).contains s) = true) (hes : rs.map tm = es)
    (h : ∀ base : Tm, StepAll P N ops o d T k ws (putAll rs es base) cs)
    (next : Walk P N ops (OT T ws) R (k + 1) rest (putO tm o.dst d)) : Walk P N ops (OT T ws) R k (o :: rest) tm :=
  Walk.tab (cs.map (·.1)) ho hp hrs hes (fun base p hp p' e => by subst e; exact (h base).get p hp) next
end Go.Abs

/- Bytes as strings: conversion, equality. -/
set_option linter.unusedVariables false
set_option linter.unusedSimpArgs false
namespace Go.Abs
variable {P : Program} {N : Nat} {ops : Array Oper} {l : List Oper} {Q : Exit → Tm → List Ob → Prop} {tm : Tm} {S : List Ob}
/-- Every one is a byte. -/
def bytesL (xs : List Int) : Prop := ∀ n ∈ xs, 0 ≤ n ∧ n ≤ 255
theorem byteOf_inj {a b : Int} (ha : 0 ≤ a ∧ a ≤ 255) (hb : 0 ≤ b ∧ b ≤ 255) (h : UInt8.ofNat a.toNat = UInt8.ofNat b.toNat) : a = b := by
  have := congrArg UInt8.toNat h
  simp only [UInt8.toNat_ofNat'] at this
  omega
theorem strOf_inj : ∀ {xs ys : List Int}, bytesL xs → bytesL ys → (xs.map fun n => UInt8.ofNat n.toNat) = (ys.map fun n => UInt8.ofNat n.toNat) → xs = ys
  | [], [], _, _, _ => rfl
  | [], y :: ys, _, _, h => by simp at h
  | x :: xs, [], _, _, h => by simp at h
  | x :: xs, y :: ys, hx, hy, h => by
    simp only [List.map_cons, List.cons.injEq] at h
    rw [byteOf_inj (hx x (by simp)) (hy y (by simp)) h.1, strOf_inj (fun n hn => hx n (by simp [hn])) (fun n hn => hy n (by simp [hn])) h.2]
theorem str_eq {xs ys : List Int} (hx : bytesL xs) (hy : bytesL ys) : ((strOfNums xs).toList == (strOfNums ys).toList) = decide (xs = ys) := by
  rw [ByteArray.toList_eq, ByteArray.toList_eq, strOfNums_data, strOfNums_data]
  by_cases h : xs = ys
  · subst h; simp
  · rw [decide_eq_false h]
    simp only [beq_eq_false_iff_ne, ne_eq]
    exact fun e => h (strOf_inj hx hy e)
section
variable {ty : TypeId} {pos : String} {after : Array Edge} {t : Nat}
theorem n_toStr {src dT e : TypeId} {x : Operand} {nl : Option Bool} {xs : List Int} {c : Cap} (hd : Nat.blt t N = true) (hs : P.underlying src = some (.slice e)) (he : P.underlying e = some (.int .u8)) (hdT : P.underlying dT = some .string) (hx : ev tm x = .sl nl (ints .u8 xs) c)
    (rest : AOps P N ops l Q (put tm t (.val (.string (strOfNums xs)))) S) : AOps P N ops (⟨some t, .convert src dT x, ty, pos, after, none⟩ :: l) Q tm S :=
  AOps.still (o := ⟨some t, .convert src dT x, ty, pos, after, none⟩) (d := .val (.string (strOfNums xs))) rfl hd (fun g a w st => by
    have r := st.ev x
    rw [hx] at r
    generalize hv : a.eval x = v at r
    refine ⟨.string (strOfNums xs), ?_, .val _⟩
    have : (convert src dT v).run P w = .ok (.string (strOfNums xs)) w := by
      cases r with
      | sl st' f hn hcap hnone hnl hst hcell hrep hc =>
        rename_i ao n cap
        rw [ints_length] at hn
        cases ao with
        | none =>
          have h0 := hnone rfl
          have : xs = [] := List.eq_nil_of_length_eq_zero (by omega)
          subst this
          rw [run_convert_bytes_nil w src e hs he n cap dT hdT]
          rfl
        | some ad =>
          have hl : (loadCells ad n).run P w = .ok (xs.map (Value.int .u8)).toArray w := by
            have := run_loadCells_list (P := P) w ad (xs.map (Value.int .u8)) (fun j v hj => by
              rw [List.getElem?_map, Option.map_eq_some_iff] at hj
              obtain ⟨m, hm, rfl⟩ := hj
              have hlt := (List.getElem?_eq_some_iff.1 hm).1
              have hg : (ints .u8 xs)[j]? = some [.val (.int .u8 m)] := by rw [ints, List.getElem?_map, hm]; rfl
              obtain ⟨ad', e1, k1⟩ := hcell j _ hg 0 (.val (.int .u8 m)) rfl
              have e2 := (hrep j _ hg 0 (.val (.int .u8 m)) rfl).val_inv
              have e3 := hst _ (List.mem_of_getElem? hg)
              cases e1
              rw [← e3, List.length_singleton, Nat.mul_one, Nat.add_zero, e2] at k1
              exact k1.1)
            simpa [hn] using this
          rw [run_convert_bytes_string w src dT e _ n cap hs he hdT, run_bytesToString w ad n cap xs hl, foldl_push_bytes]
          simp [strOfNums, ByteArray.empty, ByteArray.emptyWithCapacity]
          rfl
    simp only [execOp, hv]
    rw [Sem.run_bind, this]
    rfl) rest
theorem n_streq {xT yT : TypeId} {x y : Operand} {xs ys : List Int} {b : Bool} (hd : Nat.blt t N = true) (hx : ev tm x = .val (.string (strOfNums xs))) (hy : ev tm y = .val (.string (strOfNums ys))) (hbx : bytesL xs) (hby : bytesL ys) (hb : decide (xs = ys) = b)
    (rest : AOps P N ops l Q (put tm t (.val (.bool b))) S) : AOps P N ops (⟨some t, .binOp .eql xT x y yT, ty, pos, after, none⟩ :: l) Q tm S :=
  n_bin hd hx hy rfl rfl (v := .bool b) (fun w => by
    rw [← hb, ← str_eq hbx hby]
    rfl) rest
theorem n_strne {xT yT : TypeId} {x y : Operand} {xs ys : List Int} {b : Bool} (hd : Nat.blt t N = true) (hx : ev tm x = .val (.string (strOfNums xs))) (hy : ev tm y = .val (.string (strOfNums ys))) (hbx : bytesL xs) (hby : bytesL ys) (hb : (!decide (xs = ys)) = b)
    (rest : AOps P N ops l Q (put tm t (.val (.bool b))) S) : AOps P N ops (⟨some t, .binOp .neq xT x y yT, ty, pos, after, none⟩ :: l) Q tm S :=
  n_bin hd hx hy rfl rfl (v := .bool b) (fun w => by
    rw [← hb, ← str_eq hbx hby]
    rfl) rest
end
end Go.Abs

/- Loops over functions: what an iterator owes, what a round owes, the loop. -/
set_option linter.unusedVariables false
set_option linter.unusedSimpArgs false
namespace Go.Abs
variable {P : Program} {N : Nat} {ops : Array Oper} {Q : Exit → Tm → List Ob → Prop} {tm : Tm} {S : List Ob}
abbrev Hid := Option Nat → (Nat → Nat) → (Nat → Prop) → World → Prop
def gL (lim : Nat → Nat) : G := { eta := fun _ => none, row := fun _ => none, lim := lim, own := fun _ => none, base := 0 }

/-- What a round does to all else. -/
structure Turn (lim : Nat → Nat) (B : Nat → Prop) (w : World) (lim' : Nat → Nat) (B' : Nat → Prop) (w' : World) : Prop where
  ext : Ext w w'
  others : ∀ b, b < w.heap.size → ¬ B b → w'.heap[b]? = w.heap[b]? ∧ lim' b = lim b ∧ ¬ B' b
  keep : ∀ b, B b → B' b
  cell : ∀ a v, AtL lim w a v → AtL lim' w' a v
  lim : ∀ b, w'.heap.size ≤ b → lim' b = 0
  own : ∀ b, B' b → b < w'.heap.size

/-- A call of yield l with the k-th element brings a round. -/
def Yields (P : Program) (l : Nat) (J : Hid) (xs : List (List D)) : Prop :=
  ∀ (k : Nat) (x : List D) (vs : Array Value) (lim : Nat → Nat) (B : Nat → Prop) (w : World), xs[k]? = some x → J (some k) lim B w → (∀ b, B b → b < w.heap.size) → vs.size = x.length →
    (∀ (i : Nat) (v : Value) (d : D), vs[i]? = some v → x[i]? = some d → Rep (gL lim) w v d) →
    ∃ fn tmps assign body, (Instr.yield l vs).run P w = .ok (.round l fn tmps assign body) w ∧
      RoundIn Fence.wide 0 P l fn tmps assign body w fun e w' => ∃ lim' B' b, e = .returned (.bool b) ∧ Turn lim B w lim' B' w' ∧ Stays J (if b then some (k + 1) else none) lim' B' w'

section
variable {ty : TypeId} {pos : String} {after : Array Edge}
end

/-- What is owed by an iterator: it hands on the elements xs, one behind the other, as long as they are wanted. -/
def Iter (P : Program) (f : FuncId) (ds : List D) (Sb : List Ob) (xs : List (List D)) : Prop :=
  ∀ (l : Nat) (J : Hid), Yields P l J xs → ∀ (g : G) (w : World) (vs : Array Value), Sim g w (.seen J (some 0) :: Sb) → vs.size = ds.length + 1 →
    (∀ (i : Nat) (v : Value) (d : D), vs[i]? = some v → (D.val (.func (.yield l) #[] #[]) :: ds)[i]? = some d → Rep g w v d) →
    Calls P f vs w fun e w' => ∃ v g' k' S', e = .returned v ∧ (k' = some xs.length ∨ k' = none) ∧ Sim g' w' (.seen J k' :: S') ∧ Later g w g' w'
def IFin (P : Program) (rvs : List ResultVar) (J : Hid) (n : Nat) (e : Exit) (tm : Tm) (S : List Ob) : Prop :=
  (e = .normal ∨ e = .ret) ∧ ∃ ds k', RVs P tm S rvs ds ∧ (k' = some n ∨ k' = none) ∧ S[0]? = some (.seen J k')
theorem Iter.of_body {f : FuncId} {fn : Func} {c : Code} {rvs : List ResultVar} {ds : List D} {Sb : List Ob} {xs : List (List D)} (hf : P.funcs[f]? = some fn) (hb : fn.body = some c) (hN : fn.ntmps = N) (hres : fn.results = rvs.toArray) (hlen : Nat.ble (ds.length + 1) N = true)
    (h : ∀ (l : Nat) (J : Hid), Yields P l J xs → AWP P N c (IFin P rvs J xs.length) (frameOf (.val (.func (.yield l) #[] #[]) :: ds)) (.seen J (some 0) :: Sb)) : Iter P f ds Sb xs := by
  intro l J hY g1 w vs hs hl hrep
  have hlen := Nat.le_of_ble_eq_true hlen
  obtain ⟨g, hg⟩ : ∃ g, g = { g1 with base := w.heap.size } := ⟨_, rfl⟩
  have hgb : g.base = w.heap.size := by rw [hg]
  have hs : Sim g w (.seen J (some 0) :: Sb) := by rw [hg]; exact hs.rebase _
  obtain ⟨ds', hds'⟩ : ∃ ds', ds' = D.val (.func (.yield l) #[] #[]) :: ds := ⟨_, rfl⟩
  have hdl : ds'.length = ds.length + 1 := by rw [hds']; rfl
  have hrep : ∀ (i : Nat) (v : Value) (d : D), vs[i]? = some v → ds'[i]? = some d → Rep g w v d := fun i v d h1 h2 => by rw [hg]; exact (hrep i v d h1 (by rw [← hds']; exact h2)).mono (Le.rebase _)
  rw [← callsIn_wide (n := 0)]
  refine callsIn_of_wp_marks hf hb trivial ?_
  have st : St N g (frameOf ds') (.seen J (some 0) :: Sb) { tmps := vs ++ Array.replicate (fn.ntmps - vs.size) undef, defers := [] } w := by
    refine ⟨by simp; omega, by rw [hgb]; exact Nat.le_refl _, List.nodup_nil, (fun d hd => by cases hd), ?_, hs⟩
    intro i
    show Rep g w ((vs ++ Array.replicate (fn.ntmps - vs.size) undef).getD i undef) (ds'.getD i .any)
    by_cases hi : i < ds'.length
    · have h1 : (vs ++ Array.replicate (fn.ntmps - vs.size) undef).getD i undef = vs[i]'(by omega) := by
        rw [Array.getD_eq_getD_getElem?, Array.getElem?_append_left (by omega), Array.getElem?_eq_getElem (by omega)]; rfl
      have h2 : ds'.getD i .any = ds'[i] := by rw [List.getD_eq_getElem?_getD, List.getElem?_eq_getElem hi]; rfl
      rw [h1, h2]
      exact hrep i _ _ (Array.getElem?_eq_getElem (by omega)) (List.getElem?_eq_getElem hi)
    · have h2 : ds'.getD i .any = .any := by rw [List.getD_eq_getElem?_getD, List.getElem?_eq_none (by omega)]; rfl
      rw [h2]; exact .any _
  have hw := h l J hY none (fun k => by cases k) g _ w (by rw [hds'] at st; exact st)
  refine Code.wpIn_mono ?_ hw
  rintro e a' w' ⟨g', tm', S1, ⟨he, dr, k', hrv, hk, hS0⟩, st', hl'⟩
  have hfin : LeavesInM Fence.wide 0 P fn a'.tmps (fun e w' => ∃ v g' k' S', e = .returned v ∧ (k' = some xs.length ∨ k' = none) ∧ Sim g' w' (.seen J k' :: S') ∧ Later g1 w g' w') a'.defers .returning w' := by
    refine st'.leaves hl' (by rw [hl'.2.base, hgb]; exact Nat.le_refl _) a'.defers rfl ?_
    intro w2 st2 hl2
    obtain ⟨v, hrun, hv⟩ := results_rep st2 hres hrv
    refine ⟨v, hrun, v, { g' with base := g1.base }, k', S1.tail, rfl, hk, ?_, ?_⟩
    · have : S1 = .seen J k' :: S1.tail := by
        cases S1 with
        | nil => simp at hS0
        | cons x xs => simp at hS0; subst hS0; rfl
      rw [← this]
      exact st2.sim.rebase _
    · rw [hg] at hl2
      exact ⟨⟨hl2.1.cell, hl2.1.eta, hl2.1.row⟩, ⟨hl2.2.size, hl2.2.os, hl2.2.tape, hl2.2.output, hl2.2.old, hl2.2.kept, rfl⟩⟩
  rcases he with rfl | rfl
  · exact hfin
  · exact hfin
end Go.Abs

/- The loop over a function. -/
set_option linter.unusedVariables false
set_option linter.unusedSimpArgs false
namespace Go.Abs
variable {P : Program} {N : Nat} {ops : Array Oper} {Q : Exit → Tm → List Ob → Prop} {tm : Tm} {S : List Ob}

/-- Lent to the iterator. -/
def lend : List Nat → List Ob → List Ob
  | [], S => S
  | l :: ι, S => lend ι (S.set l .lent)
theorem lend_length : ∀ (ι : List Nat) (S : List Ob), (lend ι S).length = S.length
  | [], S => rfl
  | l :: ι, S => by rw [lend, lend_length, List.length_set]
theorem lend_get : ∀ (ι : List Nat) (S : List Ob) (j : Nat) (ob : Ob), (lend ι S)[j]? = some ob → j ∈ ι ∧ ob = .lent ∨ j ∉ ι ∧ S[j]? = some ob ∨ ob = .lent
  | [], S, j, ob, h => .inr (.inl ⟨by simp, h⟩)
  | l :: ι, S, j, ob, h => by
    rcases lend_get ι _ j ob h with ⟨h1, h2⟩ | ⟨h1, h2⟩ | h2
    · exact .inr (.inr h2)
    · by_cases e : j = l
      · subst e
        have hlt : j < S.length := by have := (List.getElem?_eq_some_iff.1 h2).1; simpa using this
        rw [List.getElem?_set_self hlt] at h2
        cases h2
        exact .inr (.inr rfl)
      · rw [List.getElem?_set_ne (by omega)] at h2
        exact .inr (.inl ⟨by simp [e, h1], h2⟩)
    · exact .inr (.inr h2)

/-- The caller's own blocks while the loop goes on, the loop's two among them. -/
structure Mine (gs : G) (ws : World) (ι : List Nat) (rec dfr : Nat) (g : G) (B : Nat → Prop) (w : World) : Prop where
  base : g.base = gs.base
  le : Le gs ws g w
  ext : Ext ws w
  free : ∀ b, b < ws.heap.size → gs.own b = none → g.own b = none
  kept : ∀ b l, b < ws.heap.size → gs.own b = some l → l ∉ ι → g.own b = some l
  lent : ∀ b l, b < ws.heap.size → gs.own b = some l → l ∈ ι → g.own b = none
  iff : ∀ b, B b ↔ (g.own b ≠ none ∨ b = rec ∨ b = dfr)
  recNew : gs.own rec = none ∧ rec < ws.heap.size
  dfrNew : gs.own dfr = none ∧ dfr < ws.heap.size
  ne : rec ≠ dfr
  dblock : w.heap[dfr]? = some (.deferred (some []))
def Phase (rc : LoopState → Option Code → Loop) (rec : Nat) (O : Nat → List Ob) (Left : Code → List Ob → Prop) : Option Nat → List Ob → World → Prop
  | some k, S1, w => S1 = O k ∧ w.heap[rec]? = some (.loop (rc .ready none))
  | none, S1, w => ∃ c, Left c S1 ∧ w.heap[rec]? = some (.loop (rc .done (some c)))
def JR (gs : G) (ws : World) (ι : List Nat) (rec dfr : Nat) (rc : LoopState → Option Code → Loop) (O : Nat → List Ob) (Left : Code → List Ob → Prop) : Hid := fun kk lim B w =>
  ∃ g S1, g.lim = lim ∧ Sim g w S1 ∧ Mine gs ws ι rec dfr g B w ∧ Phase rc rec O Left kk S1 w
theorem JR.stays {gs : G} {ws : World} {ι : List Nat} {rec dfr : Nat} {rc : LoopState → Option Code → Loop} {O : Nat → List Ob} {Left : Code → List Ob → Prop} {kk : Option Nat} {g : G} {S1 : List Ob} {B : Nat → Prop} {w : World}
    (hs : Sim g w S1) (hm : Mine gs ws ι rec dfr g B w) (hp : Phase rc rec O Left kk S1 w) : Stays (JR gs ws ι rec dfr rc O Left) kk g.lim B w := by
  intro lim' w' hx hb ha hl
  have hle : Le g w { g with lim := lim' } w' := ⟨fun a v h => ha a v h, fun _ _ h => h, fun _ n h e => ⟨n, h, e, .inr ⟨rfl, rfl⟩⟩⟩
  have hrec : w'.heap[rec]? = w.heap[rec]? := (hb rec ((hm.iff rec).2 (.inr (.inl rfl)))).1
  have hdfr : w'.heap[dfr]? = w.heap[dfr]? := (hb dfr ((hm.iff dfr).2 (.inr (.inr rfl)))).1
  refine ⟨{ g with lim := lim' }, S1, rfl, ⟨fun l ob h => (hs.obs l ob h).keep hle hx (fun b ho => ?_) (fun n h e => e) (fun e2 => ⟨e2, fun e1 => e1⟩), hs.noEta, hs.noRow, fun b l e => ?_, hl⟩, ?_, ?_⟩
  · have := hb b ((hm.iff b).2 (.inl (by rw [ho]; simp)))
    exact ⟨this.1, this.2, ho⟩
  · have := hs.own b l e
    exact ⟨this.1, Nat.lt_of_lt_of_le this.2 hx.size⟩
  · exact ⟨hm.base, hm.le.trans hle, hm.ext.trans hx, hm.free, hm.kept, hm.lent, hm.iff, hm.recNew, hm.dfrNew, hm.ne, hdfr.trans hm.dblock⟩
  · cases kk with
    | some k => exact ⟨hp.1, hrec.trans hp.2⟩
    | none => obtain ⟨c, h1, h2⟩ := hp; exact ⟨c, h1, hrec.trans h2⟩

/-- What a round does, the record aside. -/
structure Fr2 (rec : Nat) (g : G) (w : World) (g' : G) (w' : World) : Prop where
  le : Le g w g' w'
  ext : Ext w w'
  old : ∀ b, b < w.heap.size → g.own b = none → b ≠ rec → w'.heap[b]? = w.heap[b]? ∧ g'.lim b = g.lim b ∧ g'.own b = none
  limR : g'.own rec = none
  kept : ∀ b l, b < w.heap.size → g.own b = some l → g'.own b = some l
  base : g'.base = g.base
theorem Later.fr2 {rec : Nat} {g g' : G} {w w' : World} (h : Later g w g' w') (hr : rec < w.heap.size) (ho : g.own rec = none) : Fr2 rec g w g' w' :=
  ⟨h.1, h.2.ext, fun b hb ho _ => h.2.old b hb ho, (h.2.old rec hr ho).2.2, h.2.kept, h.2.base⟩
theorem Fr2.trans {rec : Nat} {g g' g'' : G} {w w' w'' : World} (h : Fr2 rec g w g' w') (k : Fr2 rec g' w' g'' w'') : Fr2 rec g w g'' w'' :=
  ⟨h.le.trans k.le, h.ext.trans k.ext, fun b hb ho hr => by
    obtain ⟨e1, e2, e3⟩ := h.old b hb ho hr
    obtain ⟨f1, f2, f3⟩ := k.old b (Nat.lt_of_lt_of_le hb h.ext.size) e3 hr
    exact ⟨f1.trans e1, f2.trans e2, f3⟩, k.limR, fun b l hb ho => k.kept b l (Nat.lt_of_lt_of_le hb h.ext.size) (h.kept b l hb ho), k.base.trans h.base⟩
theorem Fr2.putRec {rec : Nat} {g : G} {w : World} (hs : Sim g w S) {o : Obj} (o' : Obj) (hh : w.heap[rec]? = some o) (ho : o.isCells = false) (hw : g.own rec = none) : Fr2 rec g w g (w.putObj rec o') :=
  ⟨(putFree hs o' hh ho hw).2, ⟨by simp, rfl, rfl, rfl⟩, fun b hb ho hne => ⟨World.putObj_heap_other hne, rfl, ho⟩, hw, fun _ _ _ h => h, rfl⟩
theorem Fr2.cut {rec m : Nat} {g g1 : G} {w w1 : World} (hs : Sim g w S) (hm : S.length ≤ m) (h : Fr2 rec g w g1 w1) : Fr2 rec g w (g1.cut m) w1 := by
  refine ⟨⟨h.le.cell, fun l b e => ?_, fun l n x e => ?_⟩, h.ext, fun b hb ho hr => ?_, by simp only [G.cut, h.limR, Option.bind_none], fun b l hb ho => ?_, h.base⟩
  · have hl : l < S.length := by
      rcases Nat.lt_or_ge l S.length with h' | h'
      · exact h'
      · rw [hs.noEta l h'] at e; cases e
    simp only [G.cut, if_pos (Nat.lt_of_lt_of_le hl hm)]
    exact h.le.eta l b e
  · have hl : l < S.length := by
      rcases Nat.lt_or_ge l S.length with h' | h'
      · exact h'
      · rw [hs.noRow l h'] at e; cases e
    obtain ⟨n', h', e', d'⟩ := h.le.row l n x e
    exact ⟨n', h', by simp only [G.cut, if_pos (Nat.lt_of_lt_of_le hl hm)]; exact e', d'⟩
  · obtain ⟨e1, e2, e3⟩ := h.old b hb ho hr
    exact ⟨e1, e2, by simp only [G.cut, e3, Option.bind_none]⟩
  · have e := h.kept b l hb ho
    have hl := (hs.own b l ho).1
    simp only [G.cut, e, Option.bind_some, if_pos (Nat.lt_of_lt_of_le hl hm)]
/-- So the iterator's things lie as they lay. -/
theorem Fr2.turn {gs : G} {ws : World} {ι : List Nat} {rec dfr : Nat} {g g' : G} {B : Nat → Prop} {w w' : World} {S' : List Ob} (h : Fr2 rec g w g' w') (hm : Mine gs ws ι rec dfr g B w) (hs : Sim g w S) (hs' : Sim g' w' S') :
    Turn g.lim B w g'.lim (fun b => g'.own b ≠ none ∨ b = rec ∨ b = dfr) w' ∧ Mine gs ws ι rec dfr g' (fun b => g'.own b ≠ none ∨ b = rec ∨ b = dfr) w' := by
  have hrec : rec < w.heap.size := Nat.lt_of_lt_of_le hm.recNew.2 hm.ext.size
  have hdfr : dfr < w.heap.size := Nat.lt_of_lt_of_le hm.dfrNew.2 hm.ext.size
  have ho : ∀ b, ¬ B b → g.own b = none ∧ b ≠ rec ∧ b ≠ dfr := fun b hb => by
    have := fun h => hb ((hm.iff b).2 h)
    refine ⟨?_, fun e => this (.inr (.inl e)), fun e => this (.inr (.inr e))⟩
    cases e : g.own b with
    | none => rfl
    | some l => exact absurd (.inl (by rw [e]; simp)) this
  refine ⟨⟨h.ext, ?_, ?_, h.le.cell, hs'.lim, ?_⟩, ⟨h.base.trans hm.base, hm.le.trans h.le, hm.ext.trans h.ext, ?_, ?_, ?_, fun b => Iff.rfl, hm.recNew, hm.dfrNew, hm.ne, ?_⟩⟩
  · intro b hb hB
    obtain ⟨e1, e2, e3⟩ := ho b hB
    obtain ⟨f1, f2, f3⟩ := h.old b hb e1 e2
    exact ⟨f1, f2, fun h => by rcases h with h | h | h; exact h f3; exact e2 h; exact e3 h⟩
  · intro b hb
    rcases (hm.iff b).1 hb with e | e | e
    · cases e1 : g.own b with
      | none => exact absurd e1 e
      | some l =>
        refine .inl ?_
        rw [h.kept b l (hs.own b l e1).2 e1]; simp
    · exact .inr (.inl e)
    · exact .inr (.inr e)
  · intro b hb
    rcases hb with e | e | e
    · cases e1 : g'.own b with
      | none => exact absurd e1 e
      | some l => exact (hs'.own b l e1).2
    · subst e; exact Nat.lt_of_lt_of_le hrec h.ext.size
    · subst e; exact Nat.lt_of_lt_of_le hdfr h.ext.size
  · intro b hb e
    by_cases er : b = rec
    · subst er; exact h.limR
    · exact (h.old b (Nat.lt_of_lt_of_le hb hm.ext.size) (hm.free b hb e) er).2.2
  · intro b l hb e hl
    exact h.kept b l (Nat.lt_of_lt_of_le hb hm.ext.size) (hm.kept b l hb e hl)
  · intro b l hb e hl
    have hn := hm.lent b l hb e hl
    have er : b ≠ rec := by rintro rfl; rw [hm.recNew.1] at e; cases e
    exact (h.old b (Nat.lt_of_lt_of_le hb hm.ext.size) hn er).2.2
  · have hn := hm.free dfr hm.dfrNew.2 hm.dfrNew.1
    exact (h.old dfr hdfr hn (Ne.symm hm.ne)).1.trans hm.dblock

/-- A loop variable's slots. -/
def putPs : List Tmp → List D → Tm → Tm
  | p :: ps, d :: ds, tm => putPs ps ds (put tm p d)
  | _, _, tm => tm
theorem rep_zip {g : G} {w : World} : ∀ (ps : List Tmp) (vs : List Value) (ds : List D) (t : Array Value) (tm : Tm), vs.length = ds.length → ps.length = ds.length → (∀ (i : Nat) (v : Value) (d : D), vs[i]? = some v → ds[i]? = some d → Rep g w v d) → (∀ i, Rep g w (t.getD i undef) (tm i)) →
    (∀ p ∈ ps, p < t.size) → ((ps.zip vs).foldl (fun t (p : Tmp × Value) => t.setIfInBounds p.1 p.2) t).size = t.size ∧ ∀ i, Rep g w (((ps.zip vs).foldl (fun t (p : Tmp × Value) => t.setIfInBounds p.1 p.2) t).getD i undef) (putPs ps ds tm i)
  | [], vs, ds, t, tm, h1, h2, h3, h4, _ => by
    have : ds = [] := List.eq_nil_of_length_eq_zero (by simpa using h2.symm)
    subst this
    exact ⟨rfl, h4⟩
  | p :: ps, vs, ds, t, tm, h1, h2, h3, h4, h5 => by
    cases ds with
    | nil => simp at h2
    | cons d ds =>
      cases vs with
      | nil => simp at h1
      | cons v vs =>
        simp only [List.zip_cons_cons, List.foldl_cons, putPs]
        have hp := h5 p (by simp)
        obtain ⟨k1, k2⟩ := rep_zip (g := g) (w := w) ps vs ds (t.setIfInBounds p v) (put tm p d) (by simpa using h1) (by simpa using h2) (fun i v d e1 e2 => h3 (i + 1) v d (by simpa using e1) (by simpa using e2)) (fun i => by
          by_cases e : i = p
          · subst e
            rw [put_same]
            have : (t.setIfInBounds i v).getD i undef = v := by simp [Array.getD, hp]
            rw [this]; exact h3 0 v d rfl rfl
          · rw [put_other _ _ e]
            have : (t.setIfInBounds p v).getD i undef = t.getD i undef := by
              simp only [Array.getD_eq_getD_getElem?]
              rw [Array.getElem?_setIfInBounds_ne (by omega)]
            rw [this]; exact h4 i) (fun q hq => by simpa using h5 q (by simp [hq]))
        exact ⟨by rw [k1]; simp, k2⟩

/-- How a round may be left. -/
def RQ (O : Nat → List Ob) (Left : Code → List Ob → Prop) (k : Nat) : Exit → Tm → List Ob → Prop
  | .normal, _, S' => ∃ T, S' = O (k + 1) ++ T
  | .ret, _, S' => Left .ret S'
  | .exit id, _, S' => Left (.exit id) S'
  | .goto t, _, S' => Left (.goto t) S'
  | _, _, _ => False

theorem St.turnRec {g : G} {a : Act} {w : World} {rec : Nat} {r : Loop} (o' : Obj) (st : St N g tm S a w) (hh : w.heap[rec]? = some (.loop r)) (hw : g.own rec = none) : St N g tm S a (w.putObj rec o') := by
  obtain ⟨h1, h2⟩ := putFree st.sim o' hh rfl hw
  refine ⟨st.size, by simpa using st.based, st.once, ?_, fun i => (st.slots i).mono h2, h1⟩
  intro d hd
  obtain ⟨b, e, q1, q2, q3⟩ := st.defers d hd
  have : b ≠ rec := by rintro rfl; rw [hh] at q3; cases q3
  exact ⟨b, e, q1, q2, (World.putObj_heap_other this).trans q3⟩

/-- The rounds. -/
theorem yields_of {ps : Array Tmp} {assign body : Code} {xs : List (List D)} {O : Nat → List Ob} {Left : Code → List Ob → Prop} {gs : G} {ws : World} {ι : List Nat} {rec dfr fnid : Nat} {tmps : Array Value}
    (hps : ∀ x ∈ xs, x.length = ps.size) (hlf : ∀ x ∈ xs, ∀ d ∈ x, LF d) (hpb : ∀ p ∈ ps, p < N) (hsz : tmps.size = N) (htm : ∀ i, Rep gs ws (tmps.getD i undef) (tm i)) (hbase : gs.base ≤ ws.heap.size) (m : Nat) (hlen : ∀ k, (O k).length = m) (hun : ∀ k, ∀ ob ∈ O k, ObUn m ob)
    (hna : nr assign = true) (hnb : nr body = true)
    (round : ∀ k x, xs[k]? = some x → AWP P N assign (Then (fun tm1 S1 => AWP P N body (RQ O Left k) tm1 S1) (fun _ _ _ => False)) (putPs ps.toList x tm) (O k)) :
    Yields P rec (JR gs ws ι rec dfr (fun st pe => { state := st, pending := pe, fn := fnid, tmps, params := ps, assign, body, defers := dfr }) O Left) xs := by
  intro k x vs lim B W hx hJ hBlt hvs hreps
  obtain ⟨g, S1, rfl, hsim, hm, rfl, hrec⟩ := hJ
  have hxm := List.mem_of_getElem? hx
  have hrl : rec < W.heap.size := Nat.lt_of_lt_of_le hm.recNew.2 hm.ext.size
  have hro : g.own rec = none := hm.free rec hm.recNew.2 hm.recNew.1
  refine ⟨fnid, _, assign, body, run_yield hrec (by rw [hvs]; exact hps x hxm), ?_⟩
  refine roundIn_of_wpIn (F := Fence.wide) trivial ?_
  have hz := rep_zip (g := g) (w := W) ps.toList vs.toList x tmps tm (by simpa using hvs) (by rw [Array.length_toList]; exact (hps x hxm).symm) (fun i v d e1 e2 => Rep.lf (g := gL g.lim) (g' := g) rfl (hreps i v d (by simpa using e1) e2) (hlf x hxm d (List.mem_of_getElem? e2))) (fun i => (htm i).mono hm.le) (fun p hp => by rw [hsz]; exact hpb p (by simpa using hp))
  have hfold : (ps.zip vs).foldl (fun tmps (p : Tmp × Value) => tmps.setIfInBounds p.1 p.2) tmps = (ps.toList.zip vs.toList).foldl (fun t (p : Tmp × Value) => t.setIfInBounds p.1 p.2) tmps := by
    rw [← Array.foldl_toList, Array.toList_zip]
  have st0 : St N g (putPs ps.toList x tm) (O k) { tmps := (ps.zip vs).foldl (fun tmps (p : Tmp × Value) => tmps.setIfInBounds p.1 p.2) tmps, defers := [] } W := by
    rw [hfold]
    exact ⟨by show Array.size _ = N; rw [hz.1, hsz], by rw [hm.base]; exact Nat.le_trans hbase hm.ext.size, List.nodup_nil, (fun d h => by cases h), hz.2, hsim⟩
  have hw := round k x hx (some rec) (fun _ => hna) g _ W st0
  refine Code.wpIn_mono ?_ hw
  rintro e a1 W1 ⟨g1, tm1, S1, q, st1, hl1⟩
  cases e with
  | normal =>
    have hf1 := hl1.fr2 hrl hro
    have hrec1 := (hl1.2.old rec hrl hro).1.trans hrec
    have hro1 := (hl1.2.old rec hrl hro).2.2
    have hrl1 := Nat.lt_of_lt_of_le hrl hl1.2.size
    refine ⟨_, run_beginRound hrec1 rfl, ?_⟩
    have st2 := st1.turnRec (.loop { state := .busy, pending := none, fn := fnid, tmps, params := ps, assign, body, defers := dfr }) hrec1 hro1
    have hf2 := Fr2.putRec st1.sim (.loop { state := .busy, pending := none, fn := fnid, tmps, params := ps, assign, body, defers := dfr }) hrec1 rfl hro1
    have hrec2 : (W1.putObj rec (.loop { state := .busy, pending := none, fn := fnid, tmps, params := ps, assign, body, defers := dfr })).heap[rec]? = some (.loop { state := .busy, pending := none, fn := fnid, tmps, params := ps, assign, body, defers := dfr }) := World.putObj_heap_same hrl1
    refine Code.wpIn_mono ?_ (q (some rec) (fun _ => hnb) g1 a1 _ st2)
    rintro e a2 W3 ⟨g2, tm2, S2, q2, st3, hl3⟩
    have hrl2 : rec < (W1.putObj rec (.loop { state := .busy, pending := none, fn := fnid, tmps, params := ps, assign, body, defers := dfr })).heap.size := by simpa using hrl1
    have hf3 := hl3.fr2 hrl2 hro1
    have hrec3 := (hl3.2.old rec hrl2 hro1).1.trans hrec2
    have hro3 := (hl3.2.old rec hrl2 hro1).2.2
    have hall := (hf1.trans hf2).trans hf3
    -- the end of the round
    have leave : ∀ c : Code, Left c S2 → ∃ v w', (Instr.endRound rec (some c)).run P W3 = .ok v w' ∧ ∃ lim' B' b, Ending.returned v = .returned (.bool b) ∧ Turn g.lim B W lim' B' w' ∧ Stays (JR gs ws ι rec dfr (fun st pe => { state := st, pending := pe, fn := fnid, tmps, params := ps, assign, body, defers := dfr }) O Left) (if b then some (k + 1) else none) lim' B' w' := by
      intro c hc
      have h4 := hall.trans (Fr2.putRec st3.sim (.loop { state := .done, pending := some c, fn := fnid, tmps, params := ps, assign, body, defers := dfr }) hrec3 rfl hro3)
      have s4 := (putFree st3.sim (.loop { state := .done, pending := some c, fn := fnid, tmps, params := ps, assign, body, defers := dfr }) hrec3 rfl hro3).1
      obtain ⟨t1, t2⟩ := h4.turn hm hsim s4
      refine ⟨_, _, run_endRound (some c) hrec3, g2.lim, _, false, rfl, t1, ?_⟩
      exact JR.stays s4 t2 ⟨c, hc, World.putObj_heap_same (Array.getElem?_eq_some_iff.1 hrec3).1⟩
    cases e with
    | normal =>
      obtain ⟨T, hT⟩ := q2
      have h4 := hall.trans (Fr2.putRec st3.sim (.loop { state := .ready, pending := none, fn := fnid, tmps, params := ps, assign, body, defers := dfr }) hrec3 rfl hro3)
      have s4 := (putFree st3.sim (.loop { state := .ready, pending := none, fn := fnid, tmps, params := ps, assign, body, defers := dfr }) hrec3 rfl hro3).1
      have h5 := h4.cut (m := m) hsim (by rw [hlen k]; exact Nat.le_refl _)
      have s5 : Sim (g2.cut m) (W3.putObj rec (.loop { state := .ready, pending := none, fn := fnid, tmps, params := ps, assign, body, defers := dfr })) (O (k + 1)) := by
        have := Sim.cut (S := O (k + 1)) (T := T) (by rw [← hT]; exact s4) (by rw [hlen]; exact hun (k + 1))
        rwa [hlen] at this
      obtain ⟨t1, t2⟩ := h5.turn hm hsim s5
      refine ⟨_, _, run_endRound none hrec3, (g2.cut m).lim, _, true, rfl, t1, ?_⟩
      exact JR.stays s5 t2 ⟨rfl, World.putObj_heap_same (Array.getElem?_eq_some_iff.1 hrec3).1⟩
    | ret => exact leave _ q2
    | exit id => exact leave _ q2
    | goto t => exact leave _ q2
    | panic ch => exact q2.elim
    | outgrown => exact q2.elim
  | ret => exact q.elim
  | exit id => exact q.elim
  | goto t => exact q.elim
  | panic ch => exact q.elim
  | outgrown => exact q.elim

/-- Lent objects, by their places in the list. -/
def inv (ι : List Nat) (l j : Nat) : Prop := ∃ i, j = i + 1 ∧ ι[i]? = some l
theorem Sim.free {g : G} {w : World} (hs : Sim g w S) (o : Obj) (ho : o.isCells = false) : Sim g (w.alloc o) S ∧ Le g w g (w.alloc o) := by
  have hle : Le g w g (w.alloc o) := ⟨fun a v h => ⟨(cell_same (heap_alloc_lt (cell_block h.1))).trans h.1, h.2.1, h.2.2⟩, fun _ _ h => h, fun _ n h e => ⟨n, h, e, .inr ⟨rfl, rfl⟩⟩⟩
  refine ⟨⟨fun l ob h => (hs.obs l ob h).keep hle ⟨by simp, rfl, rfl, rfl⟩ (fun b hb => ⟨heap_alloc_lt (hs.own b l hb).2, rfl, hb⟩) (fun n h e => e) (fun e2 => ⟨e2, fun e1 => e1⟩), hs.noEta, hs.noRow, fun b l e => ?_, fun b h => hs.lim b ?_⟩, hle⟩
  · have := hs.own b l e
    rw [World.size_alloc]; omega
  · rw [World.size_alloc] at h; omega

/-- The loop over a function. -/
theorem AWP.rangeFunc {gop : Operand} {ps : Array Tmp} {assign body : Code} {f : FuncId} {ca ds : List D} {Sb : List Ob} {xs : List (List D)} (ι : List Nat) (O : Nat → List Ob) (Left : Code → List Ob → Prop)
    (hg : ev tm gop = .fn (.func f) [] ca) (hcf : CF P f) (hI : Iter P f ds Sb xs) (hnd : ι.Nodup) (hsl : Sb.length = ι.length)
    (hSb : ∀ (j : Nat) (ob : Ob), Sb[j]? = some ob → ∃ l as bs, ι[j]? = some l ∧ S[l]? = some (.box as) ∧ ob = .box bs ∧ as.length = bs.length ∧ ∀ (i : Nat) (x y : D), as[i]? = some x → bs[i]? = some y → Ren (inv ι) (fun _ _ => False) x y)
    (hargs : RenAll (inv ι) (fun _ _ => False) ca ds) (hO : lend ι S = O 0)
    (hps : ∀ x ∈ xs, x.length = ps.size) (hlf : ∀ x ∈ xs, ∀ d ∈ x, LF d) (hpb : ∀ p ∈ ps, p < N) (hlen : ∀ k, (O k).length = S.length) (hun : ∀ k, ∀ ob ∈ O k, ObUn S.length ob)
    (hna : nr assign = true) (hnb : nr body = true)
    (round : ∀ k x, xs[k]? = some x → AWP P N assign (Then (fun tm1 S1 => AWP P N body (RQ O Left k) tm1 S1) (fun _ _ _ => False)) (putPs ps.toList x tm) (O k))
    (done : Q .normal tm (O xs.length)) (stop : ∀ c S', Left c S' → S.length ≤ S'.length ∧ AWP P N c Q tm S') : AWP P N (.rangeFunc gop ps assign body) Q tm S := by
  intro ro hro g a w st
  have hro0 : ro = none := by
    cases ro with
    | none => rfl
    | some l => have := hro rfl; simp [nr] at this
  subst hro0
  have rf := st.ev gop
  rw [hg] at rf
  generalize hvf : a.eval gop = vf at rf
  cases rf with
  | fn hs0 hs1 hrep0 hrep1 =>
    rename_i vfi vca
    have hvfi : vfi = #[] := by
      have : vfi.size = 0 := by simpa using hs0
      exact Array.eq_empty_of_size_eq_zero this
    subst hvfi
    refine wpIn_rangeFunc (F := wideR none) ?_
    intro fnid _
    obtain ⟨rc, hrc⟩ : ∃ rc : LoopState → Option Code → Loop, rc = fun st pe => { state := st, pending := pe, fn := fnid, tmps := a.tmps, params := ps, assign, body, defers := w.heap.size } := ⟨_, rfl⟩
    obtain ⟨ws, hws⟩ : ∃ ws, ws = (w.alloc (.deferred (some []))).alloc (.loop (rc .ready none)) := ⟨_, rfl⟩
    have hsz : ws.heap.size = w.heap.size + 2 := by rw [hws]; simp
    obtain ⟨sA, lA⟩ := st.sim.free (.deferred (some [])) rfl
    obtain ⟨sB, lB⟩ := sA.free (.loop (rc .ready none)) rfl
    rw [← hws] at sB lB
    have hle : Le g w g ws := lA.trans lB
    have hold : ∀ b, b < w.heap.size → ws.heap[b]? = w.heap[b]? := fun b hb => by
      rw [hws, heap_alloc_lt (by simp; omega), heap_alloc_lt hb]
    have hdblock : ws.heap[w.heap.size]? = some (.deferred (some [])) := by
      rw [hws, heap_alloc_lt (by simp)]; exact heap_alloc_eq
    have hrblock : ws.heap[w.heap.size + 1]? = some (.loop (rc .ready none)) := by
      rw [hws]
      have := heap_alloc_eq (w := w.alloc (.deferred (some []))) (o := .loop (rc .ready none))
      rwa [World.size_alloc] at this
    have hownNone : ∀ b, w.heap.size ≤ b → g.own b = none := fun b hb => by
      cases h : g.own b with
      | none => rfl
      | some l => exact absurd (st.sim.own b l h).2 (by omega)
    -- the caller, its boxes lent
    obtain ⟨ownC, hc1, hc2, hc3⟩ : ∃ ownC : Nat → Option Nat, (∀ b l, g.own b = some l → l ∉ ι → ownC b = some l) ∧ (∀ b l, g.own b = some l → l ∈ ι → ownC b = none) ∧ (∀ b, g.own b = none → ownC b = none) := by
      refine ⟨fun b => (g.own b).bind fun l => if l ∈ ι then none else some l, ?_, ?_, ?_⟩
      · intro b l h hl; simp [h, hl]
      · intro b l h hl; simp [h, hl]
      · intro b h; simp [h]
    have hcs : ∀ b l, ownC b = some l → g.own b = some l ∧ l ∉ ι := fun b l h => by
      cases e : g.own b with
      | none => rw [hc3 b e] at h; cases h
      | some l' =>
        by_cases hl : l' ∈ ι
        · rw [hc2 b l' e hl] at h; cases h
        · rw [hc1 b l' e hl] at h; cases h; exact ⟨rfl, hl⟩
    have hleC : Le g ws { g with own := ownC } ws := ⟨fun _ _ h => h, fun _ _ h => h, fun _ n h e => ⟨n, h, e, .inr ⟨rfl, rfl⟩⟩⟩
    have simC : Sim { g with own := ownC } ws (O 0) := by
      rw [← hO]
      refine ⟨fun l ob h => ?_, fun l h => sB.noEta l (by rw [lend_length] at h; exact h), fun l h => sB.noRow l (by rw [lend_length] at h; exact h), fun b l h => ?_, sB.lim⟩
      · have key : ob = .lent ∨ l ∉ ι ∧ S[l]? = some ob := by
          rcases lend_get ι S l ob h with ⟨_, h2⟩ | h2 | h2
          · exact .inl h2
          · exact .inr h2
          · exact .inl h2
        rcases key with rfl | ⟨hl, h2⟩
        · trivial
        · exact (sB.obs l ob h2).keep hleC (.refl ws) (fun b hb => ⟨rfl, rfl, hc1 b l hb hl⟩) (fun n h e => e) (fun e2 => ⟨e2, fun e1 => e1⟩)
      · rw [lend_length]; exact sB.own b l (hcs b l h).1
    have mineC : Mine g ws ι (w.heap.size + 1) w.heap.size { g with own := ownC } (fun b => ownC b ≠ none ∨ b = w.heap.size + 1 ∨ b = w.heap.size) ws :=
      ⟨rfl, hleC, .refl ws, fun b _ h => hc3 b h, fun b l _ h hl => hc1 b l h hl, fun b l _ h hl => hc2 b l h hl, fun b => Iff.rfl, ⟨hownNone _ (by omega), by omega⟩, ⟨hownNone _ (Nat.le_refl _), by omega⟩, by omega, hdblock⟩
    have hbasew : g.base ≤ ws.heap.size := by have := st.based; omega
    have hY : Yields P (w.heap.size + 1) (JR g ws ι (w.heap.size + 1) w.heap.size rc O Left) xs := by
      rw [hrc]
      exact yields_of (N := N) (tm := tm) hps hlf hpb st.size (fun i => (st.slots i).mono hle) hbasew S.length hlen hun hna hnb round
    have stC : Stays (JR g ws ι (w.heap.size + 1) w.heap.size rc O Left) (some 0) g.lim (fun b => ownC b ≠ none ∨ b = w.heap.size + 1 ∨ b = w.heap.size) ws :=
      JR.stays (g := { g with own := ownC }) simC mineC ⟨rfl, hrblock⟩
    -- the iterator's ghost
    obtain ⟨gi, hgi⟩ : ∃ gi : G, gi = { eta := fun j => match j with | 0 => none | i + 1 => (ι[i]?).bind g.eta, row := fun _ => none, lim := g.lim, own := fun b => if b = w.heap.size + 1 ∨ b = w.heap.size then some 0 else (g.own b).map fun l => (idx l ι 1).getD 0, base := 0 } := ⟨_, rfl⟩
    have hgiE : ∀ i l, ι[i]? = some l → gi.eta (i + 1) = g.eta l := fun i l h => by rw [hgi]; simp [h]
    have hgiO : ∀ b i l, g.own b = some l → ι[i]? = some l → gi.own b = some (i + 1) := fun b i l h hi => by
      have hb := (st.sim.own b l h).2
      rw [hgi]
      simp only
      rw [if_neg (by omega), h, Option.map_some, idx_of hnd hi, Option.getD_some, Nat.add_comm]
    have hgiO0 : ∀ b, ownC b ≠ none ∨ b = w.heap.size + 1 ∨ b = w.heap.size → gi.own b = some 0 := fun b h => by
      rw [hgi]
      simp only
      by_cases c : b = w.heap.size + 1 ∨ b = w.heap.size
      · rw [if_pos c]
      · rw [if_neg c]
        rcases h with h | h
        · cases e : ownC b with
          | none => exact absurd e h
          | some l =>
            obtain ⟨e1, e2⟩ := hcs b l e
            rw [e1, Option.map_some]
            have : idx l ι 1 = none := by
              cases e3 : idx l ι 1 with
              | none => rfl
              | some j => exact absurd (List.mem_of_getElem? (idx_some e3).2) e2
            rw [this]; rfl
        · exact absurd h c
    have hgiN : ∀ b, b ≠ w.heap.size + 1 → b ≠ w.heap.size → g.own b = none → gi.own b = none := fun b h1 h2 h => by
      rw [hgi]
      simp only
      rw [if_neg (by omega), h]; rfl
    have hrepI : ∀ {v : Value} {d d' : D}, Ren (inv ι) (fun _ _ => False) d d' → Rep g ws v d → Rep gi ws v d' := fun {v d d'} h r =>
      Ren.rep (g := g) (g' := gi) (by rw [hgi]) (fun l l' ⟨i, e, hi⟩ b hb => by subst e; rw [hgiE i l hi]; exact hb) (fun _ _ h => h.elim) h r
    have simI : Sim gi ws (.seen (JR g ws ι (w.heap.size + 1) w.heap.size rc O Left) (some 0) :: Sb) := by
      refine ⟨?_, ?_, ?_, ?_, ?_⟩
      · intro j ob h
        cases j with
        | zero =>
          simp only [List.getElem?_cons_zero, Option.some.injEq] at h
          subst h
          exact ⟨_, fun b hb => hgiO0 b hb, by rw [hgi]; exact stC⟩
        | succ j =>
          simp only [List.getElem?_cons_succ] at h
          obtain ⟨l, as, bs, e1, e2, rfl, e3, e4⟩ := hSb j ob h
          obtain ⟨b, c, T, k1, k2, k3, k4, k5, k6⟩ := sB.obs l _ e2
          refine ⟨b, c, T, by rw [hgiE j l e1]; exact k1, hgiO b j l k2 e1, k3, by omega, ⟨by rw [hgi]; exact k5.1, by rw [hgi]⟩, fun i v d h1 h2 => ?_⟩
          obtain ⟨x, hx⟩ := get_pair e3 h2
          exact hrepI (e4 i x d hx h2) (k6 i v x h1 hx)
      · intro j h
        rw [List.length_cons] at h
        cases j with
        | zero => omega
        | succ i => rw [hgi]; simp only; rw [List.getElem?_eq_none (by omega)]; rfl
      · intro j h; rw [hgi]
      · intro b j h
        rw [hgi] at h
        simp only at h
        rw [List.length_cons]
        split at h
        · rename_i c
          cases h
          exact ⟨by omega, by omega⟩
        · rw [Option.map_eq_some_iff] at h
          obtain ⟨l, h1, h2⟩ := h
          have := (sB.own b l h1).2
          refine ⟨?_, this⟩
          cases e3 : idx l ι 1 with
          | none => rw [e3] at h2; subst h2; simp
          | some j' =>
            rw [e3] at h2
            simp only [Option.getD_some] at h2
            subst h2
            have h4 := idx_some e3
            have := (List.getElem?_eq_some_iff.1 h4.2).1
            omega
      · intro b h; rw [hgi]; exact sB.lim b h
    refine ⟨w.heap.size + 1, [{ target := .collected w.heap.size, args := #[] }], ws, { target := .fn (.func f) vca, args := #[] ++ #[.func (.yield (w.heap.size + 1)) #[] #[]] }, ws, f, #[.func (.yield (w.heap.size + 1)) #[] #[]] ++ vca, ws, ?_, ?_, fun _ _ => trivial, ?_, depth_wide, ?_⟩
    · rw [hws, hrc]; exact run_enterLoop_outer _ _ _ _ _
    · have e0 : a.eval (.const (.func (.yield (w.heap.size + 1)) #[] #[])) = .func (.yield (w.heap.size + 1)) #[] #[] := rfl
      simp [resolve, hvf, e0, Deferred.ofValue]
    · obtain ⟨fn, hfn, hname, hbody⟩ := hcf
      have hname' : ¬ fn.name = "runtime.NumGoroutine" := by simpa using hname
      have hbody' : ¬ fn.body = none := by intro e; rw [e] at hbody; cases hbody
      simp [invoke, callFunc, hfn, hname', hbody']
    · show CallsIn Fence.wide 0 P f _ ws _
      rw [callsIn_wide]
      have hvs : (#[Value.func (.yield (w.heap.size + 1)) #[] #[]] ++ vca).size = ds.length + 1 := by
        have := hargs.length
        simp; omega
      refine (hI _ _ hY gi ws _ simI hvs ?_).mono ?_
      · intro i v d h1 h2
        cases i with
        | zero =>
          rw [Array.getElem?_append_left (by simp)] at h1
          simp at h1 h2
          subst h1; subst h2
          exact .val _
        | succ i =>
          rw [Array.getElem?_append_right (by simp)] at h1
          simp only [List.getElem?_cons_succ] at h2
          simp at h1
          obtain ⟨x, hx⟩ := get_pair hargs.length h2
          exact hrepI (hargs.get i x d hx h2) ((hrep1 i v x h1 hx).mono hle)
      · rintro e w3 ⟨v, g', k', S', rfl, hk', hs3, hl3⟩
        obtain ⟨B, hB, hst3⟩ := hs3.obs 0 _ rfl
        obtain ⟨g2, S2, hlim2, hs2, hm2, hph⟩ := hst3 g'.lim w3 (.refl w3) (fun _ _ => ⟨rfl, rfl⟩) (fun _ _ h => h) hs3.lim
        -- the caller again, with all that is its own
        obtain ⟨ownF, hf1, hf2⟩ : ∃ ownF : Nat → Option Nat, (∀ b l, b < w.heap.size → g.own b = some l → l ∈ ι → ownF b = some l) ∧ (∀ b, (∀ l, b < w.heap.size → g.own b = some l → l ∉ ι) → ownF b = g2.own b) := by
          classical
          refine ⟨fun b => if ∃ l, b < w.heap.size ∧ g.own b = some l ∧ l ∈ ι then g.own b else g2.own b, ?_, ?_⟩
          · intro b l h1 h2 h3; simp only; rw [if_pos ⟨l, h1, h2, h3⟩]; exact h2
          · intro b h; simp only; rw [if_neg (by rintro ⟨l, h1, h2, h3⟩; exact h l h1 h2 h3)]
        have hwsw : ∀ b, b < w.heap.size → b < ws.heap.size := fun b h => by omega
        have hF : ∀ b l, g2.own b = some l → ownF b = some l := fun b l h => by
          rw [hf2 b (fun l' h1 h2 h3 => by rw [hm2.lent b l' (hwsw b h1) h2 h3] at h; cases h)]; exact h
        have hrec3 : ∃ r, w3.heap[w.heap.size + 1]? = some (.loop r) ∧ r.state ≠ .busy ∧ ∀ c, r.pending = some c → ∃ S', S2 = S' ∧ Left c S' := by
          rcases hk' with rfl | rfl
          · obtain ⟨h1, h2⟩ := hph
            exact ⟨_, h2, by rw [hrc]; simp, fun c e => by rw [hrc] at e; cases e⟩
          · obtain ⟨c, h1, h2⟩ := hph
            refine ⟨_, h2, by rw [hrc]; simp, fun c' e => ?_⟩
            rw [hrc] at e
            cases e
            exact ⟨S2, rfl, h1⟩
        obtain ⟨r, hr1, hr2, hr4⟩ := hrec3
        have hro2 : g2.own (w.heap.size + 1) = none := hm2.free _ (by omega) (hownNone _ (by omega))
        have hrd2 : g2.own w.heap.size = none := hm2.free _ (by omega) (hownNone _ (Nat.le_refl _))
        obtain ⟨s4, l4⟩ := putFree hs2 (.loop { r with state := .exhausted }) hr1 rfl hro2
        have leF : Le g2 (w3.putObj (w.heap.size + 1) (.loop { r with state := .exhausted })) { g2 with own := ownF } (w3.putObj (w.heap.size + 1) (.loop { r with state := .exhausted })) := ⟨fun _ _ h => h, fun _ _ h => h, fun _ n h e => ⟨n, h, e, .inr ⟨rfl, rfl⟩⟩⟩
        have hlen2 : S.length ≤ S2.length := by
          rcases hk' with rfl | rfl
          · rw [hph.1, hlen]; exact Nat.le_refl _
          · obtain ⟨c, h1, h2⟩ := hph; exact (stop c _ h1).1
        have s5 : Sim { g2 with own := ownF } (w3.putObj (w.heap.size + 1) (.loop { r with state := .exhausted })) S2 := by
          refine ⟨fun l ob h => (s4.obs l ob h).keep leF (.refl _) (fun b hb => ⟨rfl, rfl, hF b l hb⟩) (fun n h e => e) (fun e2 => ⟨e2, fun e1 => e1⟩), s4.noEta, s4.noRow, fun b l h => ?_, s4.lim⟩
          by_cases c : ∃ l', b < w.heap.size ∧ g.own b = some l' ∧ l' ∈ ι
          · obtain ⟨l', c1, c2, c3⟩ := c
            have := hf1 b l' c1 c2 c3
            have h : ownF b = some l := h
            rw [this] at h; cases h
            have h6 := (st.sim.own b l c2).1
            refine ⟨Nat.lt_of_lt_of_le h6 hlen2, ?_⟩
            have := hm2.ext.size
            simp only [World.putObj_size]; omega
          · have := hf2 b (fun l' h1 h2 h3 => c ⟨l', h1, h2, h3⟩)
            have h : ownF b = some l := h
            rw [this] at h
            exact s4.own b l h
        have hlater : Later g w { g2 with own := ownF } (w3.putObj (w.heap.size + 1) (.loop { r with state := .exhausted })) := by
          refine ⟨((hle.trans hm2.le).trans l4).trans leF, ⟨?_, ?_, ?_, ?_, ?_, ?_, hm2.base⟩⟩
          · have := hm2.ext.size; simp only [World.putObj_size]; omega
          · exact hm2.ext.os.trans (by rw [hws]; rfl)
          · exact hm2.ext.tape.trans (by rw [hws]; rfl)
          · exact hm2.ext.output.trans (by rw [hws]; rfl)
          · intro b hb ho
            obtain ⟨e1, e2, e3⟩ := hl3.2.old b (hwsw b hb) (hgiN b (by omega) (by omega) ho)
            refine ⟨(World.putObj_heap_other (by omega)).trans (e1.trans (hold b hb)), ?_, ?_⟩
            · show g2.lim b = g.lim b
              rw [hlim2, e2, hgi]
            · show ownF b = none
              rw [hf2 b (fun l' h1 h2 h3 => by rw [ho] at h2; cases h2)]
              exact hm2.free b (hwsw b hb) ho
          · intro b l hb ho
            show ownF b = some l
            by_cases hl : l ∈ ι
            · exact hf1 b l hb ho hl
            · exact hF b l (hm2.kept b l (hwsw b hb) ho hl)
        have stF : St N { g2 with own := ownF } tm S2 { a with defers := [{ target := .collected w.heap.size, args := #[] }] ++ a.defers } (w3.putObj (w.heap.size + 1) (.loop { r with state := .exhausted })) := by
          have st' := st.later hlater s5
          refine ⟨st'.size, st'.based, ?_, ?_, st'.slots, s5⟩
          · show ({ target := .collected w.heap.size, args := #[] } :: a.defers).Nodup
            refine List.nodup_cons.2 ⟨fun hm => ?_, st.once⟩
            obtain ⟨b, e, q1, q2, q3⟩ := st.defers _ hm
            have : w.heap.size = b := by simpa using e
            subst this
            have := (Array.getElem?_eq_some_iff.1 q3).1
            omega
          · intro d hd
            rcases List.mem_cons.1 hd with rfl | hd
            · refine ⟨w.heap.size, rfl, ?_, ?_, ?_⟩
              · show g2.base ≤ _
                rw [hm2.base]; exact st.based
              · show ownF _ = none
                rw [hf2 _ (fun l' h1 _ _ => absurd h1 (Nat.lt_irrefl _))]; exact hrd2
              · exact (World.putObj_heap_other (by omega)).trans hm2.dblock
            · exact st'.defers d hd
        have hend := run_endLoop (P := P) hr1 hr2
        obtain ⟨w4, hw4⟩ : ∃ w4, w4 = w3.putObj (w.heap.size + 1) (.loop { r with state := .exhausted }) := ⟨_, rfl⟩
        rw [← hw4] at hend hlater stF
        refine ⟨r.pending, w4, hend, ?_⟩
        cases hp : r.pending with
        | none =>
          have hS2 : S2 = O xs.length := by
            rcases hk' with rfl | rfl
            · exact hph.1
            · obtain ⟨c, h1, h2⟩ := hph
              rw [hr1] at h2
              cases h2
              rw [hrc] at hp; cases hp
          subst hS2
          exact Post.later hlater ⟨_, _, _, done, stF, Later.refl _ _⟩
        | some c =>
          obtain ⟨S', rfl, hc⟩ := hr4 c hp
          exact Code.wpIn_mono (fun e a2 w2 k => Post.later hlater k) ((stop c _ hc).2 none (fun h => by cases h) _ _ _ stF)
end Go.Abs

/- Scopes, labels; calls of two variables; makes of functions. -/
set_option linter.unusedVariables false
set_option linter.unusedSimpArgs false
namespace Go.Abs
variable {P : Program} {N : Nat} {ops : Array Oper} {l : List Oper} {Q : Exit → Tm → List Ob → Prop} {tm : Tm} {S : List Ob}
def NoGoto (Q : Exit → Tm → List Ob → Prop) : Exit → Tm → List Ob → Prop
  | .goto _, _, _ => False
  | e, tm, S => Q e tm S
theorem stepR_scope {b : Frame} {a : Act} {k : List Item} {cs : List Frame} {w : World} {c : Code} : step P (lone (b.atR a (.code (.scope c) :: k)) cs w) = .next (lone (b.atR a (.code c :: .inScope c :: k)) cs w) :=
  step_lone_go (by simp [stepG, stepG.exec, Frame.atR])
theorem stepR_inScope {b : Frame} {a : Act} {k : List Item} {cs : List Frame} {w : World} {c : Code} : step P (lone (b.atR a (.inScope c :: k)) cs w) = .next (lone (b.atR a k) cs w) :=
  step_lone_go (by simp [stepG, stepG.exec, Frame.atR])
theorem AWP.scope {c : Code} (h : AWP P N c (NoGoto Q) tm S) : AWP P N (.scope c) Q tm S := fun ro hnr g a w st => by
  intro b k cs hro hb hr
  have hnc : RoOk ro c := fun k => by have := hnr k; simpa only [nr] using this
  have h0 : (lone (b.atR a (.code (.scope c) :: k)) cs w).fenced P (wideR ro) := fenced_calm hb hr rfl
  obtain ⟨e, a₁, w₁, ⟨g1, tm1, S1, q, st1, l1⟩, harr⟩ := h ro hnc g a w st b (.inScope c :: k) cs hro hb hr
  cases e with
  | normal => exact ⟨.normal, a₁, w₁, ⟨g1, tm1, S1, q, st1, l1⟩, .head h0 stepR_scope (StepsIn.trans harr (.one (fenced_calm hb hr rfl) stepR_inScope))⟩
  | exit id =>
    have hx : exitTo id (.inScope c :: k) = exitTo id k := by simp [exitTo]
    exact ⟨.exit id, a₁, w₁, ⟨g1, tm1, S1, q, st1, l1⟩, fun k' hk => .head h0 stepR_scope (harr.1 k' (by rw [hx]; exact hk)),
      fun hr' hk => let ⟨k₁, h1, h2⟩ := harr.2 hr' (by rw [hx]; exact hk); ⟨k₁, h1, .head h0 stepR_scope h2⟩⟩
  | goto t => exact q.elim
  | ret => exact ⟨_, a₁, w₁, ⟨g1, tm1, S1, q, st1, l1⟩, .of_steps (.one h0 stepR_scope) harr⟩
  | panic ch => exact ⟨_, a₁, w₁, ⟨g1, tm1, S1, q, st1, l1⟩, .of_steps (.one h0 stepR_scope) harr⟩
  | outgrown => exact ⟨_, a₁, w₁, ⟨g1, tm1, S1, q, st1, l1⟩, .of_steps (.one h0 stepR_scope) harr⟩

def to2 (l0 l1 a b : Nat) : Prop := a = l0 ∧ b = 0 ∨ a = l1 ∧ b = 1
def fro2 (l0 l1 b a : Nat) : Prop := a = l0 ∧ b = 0 ∨ a = l1 ∧ b = 1
section ops
variable {t : Tmp} {ty : TypeId} {pos : String} {after : Array Edge}
/-- A call that reads and writes two variables of the caller's. -/
theorem n_callBox2 {fo : Operand} {as : Array Operand} {ts : Array TypeId} {f : FuncId} {fi ca args : List D} {ds : List D} {l0 l1 : Nat} {c0 c1 c0' c1' b0 b1 b0' b1' : List D} {r : D} {S' : List Ob} (hd : Nat.blt t N = true) (hcf : CF P f) (hf : ev tm fo = .fn (.func f) fi ca)
    (ha : fi ++ as.toList.map (ev tm) ++ ca = args) (hargs : RenAll (to2 l0 l1) (fun _ _ => False) args ds) (hl0 : S[l0]? = some (.box c0)) (hin0 : RenAll (to2 l0 l1) (fun _ _ => False) c0 b0) (hl1 : S[l1]? = some (.box c1)) (hne : Nat.beq l0 l1 = false)
    (hin1 : RenAll (to2 l0 l1) (fun _ _ => False) c1 b1) (h : Does P f ds [.box b0, .box b1] r [.box b0', .box b1']) (hout0 : RenAll (fro2 l0 l1) (fun _ _ => False) b0' c0') (hout1 : RenAll (fro2 l0 l1) (fun _ _ => False) b1' c1') (hr : LF r)
    (hS : (S.set l0 (.box c0')).set l1 (.box c1') = S')
    (rest : AOps P N ops l Q (put tm t r) S') : AOps P N ops (⟨some t, .call ⟨.value fo, as, ts⟩, ty, pos, after, none⟩ :: l) Q tm S := by
  have hlt0 : l0 < S.length := (List.getElem?_eq_some_iff.1 hl0).1
  have hlt1 : l1 < S.length := (List.getElem?_eq_some_iff.1 hl1).1
  have hne' : l0 ≠ l1 := by rintro rfl; rw [Nat.beq_refl] at hne; cases hne
  subst hS
  have hback : ∀ a b, to2 l0 l1 a b → back [l0, l1] a b := fun a b h => by rcases h with ⟨rfl, rfl⟩ | ⟨rfl, rfl⟩ <;> rfl
  have hfwd : ∀ b a, fro2 l0 l1 b a → fwdE [l0, l1] S.length b a := fun b a h => by rcases h with ⟨rfl, rfl⟩ | ⟨rfl, rfl⟩ <;> exact .inl rfl
  refine op_callG (dst := some t) hd hcf hf h (ι := [l0, l1]) (by simp [hne']) rfl (fun j ob' hj => ?_) ?_ (by simp) (by simp) (fun l hl hm => by simp at hm; rw [List.getElem?_set_ne (by omega), List.getElem?_set_ne (by omega)]) (fun j l hj => ?_)
    (fun k ob hk => by rw [List.getElem?_eq_none (by simp)] at hk; cases hk) (.lf hr) rest
  · match j with
    | 0 =>
      simp only [List.getElem?_cons_zero, Option.some.injEq] at hj
      exact ⟨l0, c0, b0, rfl, hl0, hj.symm, .box hin0.length (hin0.mono hback (fun _ _ h => h.elim)).get⟩
    | 1 =>
      simp only [List.getElem?_cons_succ, List.getElem?_cons_zero, Option.some.injEq] at hj
      exact ⟨l1, c1, b1, rfl, hl1, hj.symm, .box hin1.length (hin1.mono hback (fun _ _ h => h.elim)).get⟩
    | j + 2 => simp at hj
  · rw [ha]
    exact hargs.mono hback (fun _ _ h => h.elim)
  · match j with
    | 0 =>
      simp only [List.getElem?_cons_zero, Option.some.injEq] at hj
      subst hj
      exact ⟨b0', c0', rfl, by rw [List.getElem?_set_ne (Ne.symm hne'), List.getElem?_set_self hlt0], .box hout0.length (hout0.mono hfwd (fun _ _ h => h.elim)).get⟩
    | 1 =>
      simp only [List.getElem?_cons_succ, List.getElem?_cons_zero, Option.some.injEq] at hj
      subst hj
      exact ⟨b1', c1', rfl, by rw [List.getElem?_set_self (by simpa using hlt1)], .box hout1.length (hout1.mono hfwd (fun _ _ h => h.elim)).get⟩
    | j + 2 => simp at hj
theorem n_callBoxB {fo : Operand} {as : Array Operand} {ts : Array TypeId} {f : FuncId} {fi ca args : List D} {ds : List D} {l0 : Nat} {cs bs bs' : List D} {r : D} {S' : List Ob} (hd : Nat.blt t N = true) (hcf : CF P f) (hf : ev tm fo = .fn (.func f) fi ca)
    (ha : fi ++ as.toList.map (ev tm) ++ ca = args) (hargs : RenAll (fun a b => a = l0 ∧ b = 0) (fun _ _ => False) args ds) (hl : S[l0]? = some (.box cs)) (hin : RenAll (fun _ _ => False) (fun _ _ => False) cs bs) (h : Does P f ds [.box bs] r [.box bs']) (hx : ∀ d ∈ bs', LF d) (hr : LF r) (hS : S.set l0 (.box bs') = S')
    (rest : AOps P N ops l Q (put tm t r) S') : AOps P N ops (⟨some t, .call ⟨.value fo, as, ts⟩, ty, pos, after, none⟩ :: l) Q tm S := n_callBox hd hcf hf ha hl h hin hargs hx hr hS rest
theorem n_call0B {fo : Operand} {as : Array Operand} {ts : Array TypeId} {f : FuncId} {fi ca args : List D} {ds : List D} {r : D} (hd : Nat.blt t N = true) (hcf : CF P f) (hf : ev tm fo = .fn (.func f) fi ca)
    (ha : fi ++ as.toList.map (ev tm) ++ ca = args) (hargs : RenAll (fun _ _ => False) (fun _ _ => False) args ds) (h : Does P f ds [] r []) (hr : LF r)
    (rest : AOps P N ops l Q (put tm t r) S) : AOps P N ops (⟨some t, .call ⟨.value fo, as, ts⟩, ty, pos, after, none⟩ :: l) Q tm S := n_call0 hd hcf hf ha h hargs hr rest
theorem n_callOwnB {fo : Operand} {as : Array Operand} {ts : Array TypeId} {f : FuncId} {fi ca args : List D} {ds : List D} {nl : Option Bool} {xs : List (List D)} {k sz n : Nat} {S' : List Ob} (hd : Nat.blt t N = true) (hcf : CF P f) (hf : ev tm fo = .fn (.func f) fi ca)
    (ha : fi ++ as.toList.map (ev tm) ++ ca = args) (hargs : RenAll (fun _ _ => False) (fun _ _ => False) args ds) (h : Does P f ds [] (.sl nl xs (.own 0)) [.row k sz]) (hx : ∀ x ∈ xs, ∀ d ∈ x, LF d) (hn : S.length = n) (hS : S ++ [.row k sz] = S')
    (rest : AOps P N ops l Q (put tm t (.sl none xs (.own n))) S') : AOps P N ops (⟨some t, .call ⟨.value fo, as, ts⟩, ty, pos, after, none⟩ :: l) Q tm S := n_callOwn hd hcf hf ha h hargs hx hn hS rest
theorem n_callNewB {fo : Operand} {as : Array Operand} {ts : Array TypeId} {f : FuncId} {fi ca args : List D} {ds : List D} {bs : List D} {n : Nat} {S' : List Ob} (hd : Nat.blt t N = true) (hcf : CF P f) (hf : ev tm fo = .fn (.func f) fi ca)
    (ha : fi ++ as.toList.map (ev tm) ++ ca = args) (hargs : RenAll (fun _ _ => False) (fun _ _ => False) args ds) (h : Does P f ds [] (.bp 0 0) [.box bs]) (hx : ∀ d ∈ bs, LF d) (hn : S.length = n) (hS : S ++ [.box bs] = S')
    (rest : AOps P N ops l Q (put tm t (.bp n 0)) S') : AOps P N ops (⟨some t, .call ⟨.value fo, as, ts⟩, ty, pos, after, none⟩ :: l) Q tm S := n_callNew hd hcf hf ha h hargs hx hn hS rest
end ops
def id2 (a b : Nat) : Prop := a = b ∧ Nat.blt a 2 = true
/-- It has written two variables of the caller's. -/
theorem fin_box2 {rvs : List ResultVar} {ds : List D} {d r : D} {c0 c1 b0 b1 : List D} (h : RVs P tm S rvs ds) (hd : resD ds = d) (hr : Ren id2 No d r) (hl0 : S[0]? = some (.box c0)) (hl1 : S[1]? = some (.box c1)) (hb0 : RenAll id2 No c0 b0) (hb1 : RenAll id2 No c1 b1) :
    Fin P rvs 2 r [.box b0, .box b1] .ret tm S := by
  have key : ∀ a b, id2 a b → back [0, 1] a b := fun a b ⟨e, h⟩ => by
    subst e
    have : a < 2 := Nat.lt_of_succ_le (Nat.le_of_ble_eq_true h)
    match a with
    | 0 => rfl
    | 1 => rfl
    | a + 2 => omega
  refine ⟨.inr rfl, ds, [0, 1], h, by rw [hd]; exact hr.mono key (fun _ _ h => h.elim), by simp, fun j hj => by match j with | 0 => rfl | 1 => rfl | j + 2 => exact absurd hj (by omega), rfl, fun j ob' h => ?_⟩
  match j with
  | 0 =>
    simp only [List.getElem?_cons_zero, Option.some.injEq] at h
    subst h
    exact ⟨0, _, rfl, hl0, .box hb0.length (hb0.mono key (fun _ _ h => h.elim)).get⟩
  | 1 =>
    simp only [List.getElem?_cons_succ, List.getElem?_cons_zero, Option.some.injEq] at h
    subst h
    exact ⟨1, _, rfl, hl1, .box hb1.length (hb1.mono key (fun _ _ h => h.elim)).get⟩
  | j + 2 => simp at h
theorem renAll_same {ρ σ : Nat → Nat → Prop} : ∀ {ds : List D}, (∀ d ∈ ds, LF d) → RenAll ρ σ ds ds
  | [], _ => .nil
  | d :: ds, h => .cons (.lf (h d (by simp))) (renAll_same fun x hx => h x (by simp [hx]))
section
variable {t : Tmp} {ty : TypeId} {pos : String} {after : Array Edge}
theorem n_callBoxes {fo : Operand} {as : Array Operand} {ts : Array TypeId} {f : FuncId} {fi ca args : List D} {ds : List D} {l0 l1 : Nat} {c0 c1 b0 b1 b0' b1' : List D} {r : D} {S' : List Ob} (hd : Nat.blt t N = true) (hcf : CF P f) (hf : ev tm fo = .fn (.func f) fi ca)
    (ha : fi ++ as.toList.map (ev tm) ++ ca = args) (hargs : RenAll (to2 l0 l1) (fun _ _ => False) args ds) (hl0 : S[l0]? = some (.box c0)) (hin0 : RenAll (to2 l0 l1) (fun _ _ => False) c0 b0) (hl1 : S[l1]? = some (.box c1)) (hne : Nat.beq l0 l1 = false)
    (hin1 : RenAll (to2 l0 l1) (fun _ _ => False) c1 b1) (h : Does P f ds [.box b0, .box b1] r [.box b0', .box b1']) (hx0 : ∀ d ∈ b0', LF d) (hx1 : ∀ d ∈ b1', LF d) (hr : LF r)
    (hS : (S.set l0 (.box b0')).set l1 (.box b1') = S')
    (rest : AOps P N ops l Q (put tm t r) S') : AOps P N ops (⟨some t, .call ⟨.value fo, as, ts⟩, ty, pos, after, none⟩ :: l) Q tm S :=
  n_callBox2 hd hcf hf ha hargs hl0 hin0 hl1 hne hin1 h (renAll_same hx0) (renAll_same hx1) hr hS rest
/-- A closure over a variable that holds another one's address. -/
theorem n_callClo {fo : Operand} {as : Array Operand} {ts : Array TypeId} {f : FuncId} {fi ca args : List D} {ds : List D} {l0 l1 : Nat} {c1 b1 b1' : List D} {r : D} {S' : List Ob} (hd : Nat.blt t N = true) (hcf : CF P f) (hf : ev tm fo = .fn (.func f) fi ca)
    (ha : fi ++ as.toList.map (ev tm) ++ ca = args) (hargs : RenAll (fun a b => a = l0 ∧ b = 0) (fun _ _ => False) args ds) (hl0 : S[l0]? = some (.box [.bp l1 0])) (hl1 : S[l1]? = some (.box c1)) (hne : Nat.beq l0 l1 = false)
    (hin1 : RenAll (fun _ _ => False) (fun _ _ => False) c1 b1) (h : Does P f ds [.box [.bp 1 0], .box b1] r [.box [.bp 1 0], .box b1']) (hx1 : ∀ d ∈ b1', LF d) (hr : LF r)
    (hS : S.set l1 (.box b1') = S')
    (rest : AOps P N ops l Q (put tm t r) S') : AOps P N ops (⟨some t, .call ⟨.value fo, as, ts⟩, ty, pos, after, none⟩ :: l) Q tm S := by
  refine n_callBox2 (l0 := l0) (l1 := l1) (c0' := [.bp l1 0]) hd hcf hf ha (hargs.mono (fun a b h => .inl h) (fun _ _ h => h)) hl0 (.cons (.bp (.inr ⟨rfl, rfl⟩)) .nil) hl1 hne (hin1.mono (fun _ _ h => h.elim) (fun _ _ h => h)) h (.cons (.bp (.inr ⟨rfl, rfl⟩)) .nil) (renAll_same hx1) hr ?_ rest
  have : S.set l0 (.box [.bp l1 0]) = S := by
    apply List.ext_getElem?
    intro i
    by_cases e : i = l0
    · subst e
      rw [List.getElem?_set_self (List.getElem?_eq_some_iff.1 hl0).1, hl0]
    · rw [List.getElem?_set_ne (by omega)]
  rw [this]; exact hS
end
/-- Less is said of the objects. -/
inductive Loose : List Ob → List Ob → Prop
  | nil : Loose [] []
  | lent {a : Ob} {S S' : List Ob} (h : Loose S S') : Loose (a :: S) (.lent :: S')
  | same {a : Ob} {S S' : List Ob} (h : Loose S S') : Loose (a :: S) (a :: S')
theorem Loose.length {S S' : List Ob} (h : Loose S S') : S'.length = S.length := by
  induction h with
  | nil => rfl
  | lent h ih => simp [ih]
  | same h ih => simp [ih]
theorem Loose.get {S S' : List Ob} (h : Loose S S') : ∀ (i : Nat) (ob : Ob), S'[i]? = some ob → ob = .lent ∨ S[i]? = some ob := by
  induction h with
  | nil => intro i ob h; simp at h
  | lent h ih =>
    intro i ob e
    cases i with
    | zero => simp at e; exact .inl e.symm
    | succ i => simp only [List.getElem?_cons_succ] at e ⊢; exact ih i ob e
  | same h ih =>
    intro i ob e
    cases i with
    | zero => simp at e; subst e; exact .inr rfl
    | succ i => simp only [List.getElem?_cons_succ] at e ⊢; exact ih i ob e
end Go.Abs

/- Slices in variables; functions with what they hold, as results and arguments. -/
set_option linter.unusedVariables false
set_option linter.unusedSimpArgs false
namespace Go.Abs
variable {P : Program} {N : Nat} {ops : Array Oper} {l : List Oper} {Q : Exit → Tm → List Ob → Prop} {tm : Tm} {S : List Ob}

/-- A variable's slice whose capacity is its length becomes a row of the call's own. -/
theorem AWP.adoptBox {j i : Nat} {ds : List D} {nl : Option Bool} {xs : List (List D)} {c : Code} {n m sz : Nat} {S' : List Ob} (hj : S[j]? = some (.box ds)) (hi : ds[i]? = some (.sl nl xs .full)) (hn : S.length = n) (hm : xs.length = m)
    (hS : S.set j (.box (ds.set i (.sl none xs (.own n)))) ++ [.row m sz] = S') (h : AWP P N c Q tm S') : AWP P N c Q tm S := by
  subst hn hm hS
  intro ro hro g a w st
  obtain ⟨b, cs, T, e1, e2, e3, e4, e5, e6⟩ := st.sim.obs j _ hj
  have hil : i < cs.size := Nat.lt_of_lt_of_le (List.getElem?_eq_some_iff.1 hi).1 e4
  have r := e6 i _ _ (Array.getElem?_eq_getElem hil) hi
  generalize hv : cs[i] = v at r
  cases r with
  | sl s f h1 h2 h3 h4 h5 h6 h7 h8 =>
    rename_i ao n cap
    subst h1
    obtain ⟨k1, k2⟩ := same_sim (sz := sz) (ao := ao) st.sim h8 h3
    have hjl : j < S.length := (List.getElem?_eq_some_iff.1 hj).1
    have r' : Rep { g with row := upd g.row S.length (some (xs.length, .slice ao xs.length cap)) } w (.slice ao xs.length cap) (.sl none xs (.own S.length)) :=
      .sl s f rfl h2 h3 (fun b h => by cases h) h5 (fun i x hx j d hd => let ⟨ad, e, k⟩ := h6 i x hx j d hd; ⟨ad, e, k2.1.cell _ _ k⟩) (fun i x hx j d hd => (h7 i x hx j d hd).mono k2.1) ⟨xs.length, _, by simp only [upd_same], Nat.le_refl _, fun _ => rfl⟩
    have hlen : (S.set j (.box (ds.set i (.sl none xs (.own S.length)))) ++ [Ob.row xs.length sz]).length = (S ++ [Ob.row xs.length sz]).length := by simp
    have k3 : Sim { g with row := upd g.row S.length (some (xs.length, .slice ao xs.length cap)) } w (S.set j (.box (ds.set i (.sl none xs (.own S.length)))) ++ [.row xs.length sz]) := by
      refine ⟨fun l ob hl => ?_, fun l hl => k1.noEta l (by rw [hlen] at hl; exact hl), fun l hl => k1.noRow l (by rw [hlen] at hl; exact hl), fun b l hb => by rw [hlen]; exact k1.own b l hb, k1.lim⟩
      by_cases e : l = j
      · subst e
        rw [List.getElem?_append_left (by simpa using hjl), List.getElem?_set_self hjl] at hl
        cases hl
        refine ⟨b, cs, T, k2.1.eta _ _ e1, e2, e3, by simpa using e4, ⟨e5.1, by simp only []; rw [upd_other _ _ (by omega)]; exact e5.2⟩, fun i' v' d' hv' hd' => ?_⟩
        by_cases ei : i' = i
        · subst ei
          rw [List.getElem?_set_self (List.getElem?_eq_some_iff.1 hi).1] at hd'
          cases hd'
          rw [Array.getElem?_eq_getElem hil] at hv'
          cases hv'
          rw [hv]; exact r'
        · rw [List.getElem?_set_ne (by omega)] at hd'
          exact (e6 i' v' d' hv' hd').mono k2.1
      · refine k1.obs l ob ?_
        rcases Nat.lt_or_ge l S.length with hl2 | hl2
        · rw [List.getElem?_append_left (by simpa using hl2), List.getElem?_set_ne (by omega)] at hl
          rw [List.getElem?_append_left hl2]; exact hl
        · rw [List.getElem?_append_right (by simpa using hl2), List.length_set] at hl
          rw [List.getElem?_append_right hl2]; exact hl
    have st2 : St N { g with row := upd g.row S.length (some (xs.length, .slice ao xs.length cap)) } tm (S.set j (.box (ds.set i (.sl none xs (.own S.length)))) ++ [.row xs.length sz]) a w := by
      have st' := st.later k2 k1
      exact ⟨st'.size, st'.based, st'.once, st'.defers, st'.slots, k3⟩
    exact Code.wpIn_mono (fun e a' w' k => Post.later k2 k) (h ro hro _ a w st2)
section
variable {t : Tmp} {ty : TypeId} {pos : String} {after : Array Edge}
end
end Go.Abs

/- What a call hands back is only read from now on. -/
set_option linter.unusedVariables false
namespace Go.Abs
variable {P : Program}
end Go.Abs
