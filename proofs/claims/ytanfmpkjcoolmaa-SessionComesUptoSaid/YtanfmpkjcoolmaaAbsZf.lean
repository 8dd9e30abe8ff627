/- Regions whose first operations come in any order and whose others come in the written order. -/
import Derived.Test.YtanfmpkjcoolmaaAbsN
set_option linter.unusedVariables false
set_option linter.unusedSimpArgs false
namespace Go.Abs
variable {P : Program} {N : Nat} {ops : Array Oper} {Q : Exit → Tm → List Ob → Prop} {tm : Tm} {S : List Ob}
def edgeAt (ops : Array Oper) (i j : Nat) : Bool := match ops[i]? with | some o => hasEdge o j | none => false
def sinksB (ops : Array Oper) (m : Nat) : Bool := (List.range m).all fun j => (List.range (m + 1)).any fun i => Nat.blt j i && edgeAt ops i j
def rowB (ops : Array Oper) (m : Nat) : Bool := (List.range ops.size).all fun k => Nat.ble k m || edgeAt ops k (k - 1)
theorem edgeAt_spec {i j : Nat} (h : edgeAt ops i j = true) : ∃ o, ops[i]? = some o ∧ ∃ e ∈ o.after, Region.binds .any e = true ∧ e.on = j := by
  unfold edgeAt at h
  cases ho : ops[i]? with
  | none => rw [ho] at h; cases h
  | some o => rw [ho] at h; exact ⟨o, rfl, hasEdge_spec h⟩
theorem sink_spec {m : Nat} (h : sinksB ops m = true) : ∀ j, j < m → ∃ i, j < i ∧ i ≤ m ∧ edgeAt ops i j = true := by
  intro j hj
  have h1 := List.all_eq_true.1 h j (List.mem_range.2 hj)
  obtain ⟨i, hi, hb⟩ := List.any_eq_true.1 h1
  rw [Bool.and_eq_true] at hb
  exact ⟨i, Nat.lt_of_succ_le (Nat.le_of_ble_eq_true hb.1), by have := List.mem_range.1 hi; omega, hb.2⟩
theorem rowB_spec {m : Nat} (h : rowB ops m = true) : ∀ k, m < k → k < ops.size → edgeAt ops k (k - 1) = true := by
  intro k hk hs
  have h1 := List.all_eq_true.1 h k (List.mem_range.2 hs)
  rw [Bool.or_eq_true] at h1
  rcases h1 with h1 | h1
  · have := Nat.le_of_ble_eq_true h1; omega
  · exact h1
/-- The written order, from k on. -/
theorem rowB_run {ro : Option Nat} {m : Nat} (hk : AnyOk ops) (hc : rowB ops m = true) {R : Exit → Act → World → Prop} : ∀ (n k : Nat) (L : Array Bool) (a : Act) (w : World), k + n = ops.size → m ≤ k → L.size = ops.size → (∀ i, i < ops.size → done L i = Nat.blt i k) →
    wpListIn (wideR ro) 0 P ops R (ops.toList.drop k) a w → wpAnyIn (wideR ro) 0 P .any ops R n L a w
  | 0, k, L, a, w, hn, hm, hL, hd, h => by
    have hdrop : ops.toList.drop k = [] := List.drop_eq_nil_of_le (by simp; omega)
    rw [hdrop] at h
    refine ⟨?_, h⟩
    rw [List.eq_nil_iff_forall_not_mem]
    intro i hi
    have h0 := (mem_ready.1 hi).1
    obtain ⟨_, o, ho, _⟩ := mem_ready.1 hi
    have hlt := (Array.getElem?_eq_some_iff.1 ho).1
    have h2 := hd i hlt
    unfold done at h2
    rw [h0, blt_t (by omega)] at h2; cases h2
  | n + 1, k, L, a, w, hn, hm, hL, hd, h => by
    have hlt : k < ops.size := by omega
    have hsplit : ops.toList.drop k = ops[k] :: ops.toList.drop (k + 1) := by
      rw [List.drop_eq_getElem_cons (by simpa using hlt)]; simp
    have hgetD : ∀ i, i < ops.size → L.getD i false = done L i := fun i hi => by
      unfold done; rw [Array.getD_eq_getD_getElem?, Array.getD_eq_getD_getElem?, Array.getElem?_eq_getElem (by omega)]; rfl
    refine ⟨fun hnil => ?_, fun i hi => ?_⟩
    · exfalso
      have : k ∈ Region.ready .any ops L := by
        rw [mem_ready]
        refine ⟨?_, ops[k], Array.getElem?_eq_getElem hlt, fun e he hb => ?_⟩
        · have := hd k hlt; rw [blt_f (by omega)] at this; exact this
        · have h1 := hk.back k _ (Array.getElem?_eq_getElem hlt) e he hb
          have h2 := hd e.on (by omega)
          rw [blt_t h1] at h2
          first | exact h2 | (rw [hgetD _ (by omega)]; exact h2)
      rw [hnil] at this; cases this
    · obtain ⟨h0, o, ho, hall⟩ := mem_ready.1 hi
      have hil := (Array.getElem?_eq_some_iff.1 ho).1
      have hik : i = k := by
        have h2 := hd i hil
        have hge : ¬ i < k := fun hlt' => by
          rw [blt_t hlt'] at h2
          unfold done at h2
          rw [h0] at h2; cases h2
        rcases Nat.lt_or_ge k i with h3 | h3
        · exfalso
          obtain ⟨o', ho', e, he, hb, e1⟩ := edgeAt_spec (rowB_spec hc i (by omega) hil)
          rw [ho] at ho'; cases ho'
          have h4 := hall e he hb
          rw [e1] at h4
          have h5 := hd (i - 1) (by omega)
          rw [blt_f (by omega)] at h5
          first | (unfold done at h5; rw [h4] at h5; cases h5) | (rw [hgetD _ (by omega), h5] at h4; cases h4)
        · omega
      subst hik
      have hoo : ops[i] = o := by rw [Array.getElem?_eq_getElem hil] at ho; exact Option.some.inj ho
      rw [hsplit, hoo] at h
      have hnext : ∀ a w, wpListIn (wideR ro) 0 P ops R (ops.toList.drop (i + 1)) a w → wpAnyIn (wideR ro) 0 P .any ops R n (L.setIfInBounds i true) a w := fun a w h => by
        refine rowB_run hk hc n (i + 1) _ a w (by omega) (by omega) (by simpa using hL) (fun j hj => ?_) h
        rw [done_mark (by omega)]
        by_cases e : j = i
        · subst e; rw [mark_same, blt_t (by omega)]
        · rw [mark_other _ e, hd j hj]
          by_cases hlt' : j < i
          · rw [blt_t hlt', blt_t (by omega)]
          · rw [blt_f hlt', blt_f (by omega)]
      unfold wpOpIn
      simp only [ho]
      unfold wpListIn at h
      split
      · rename_i hw
        rw [if_pos hw] at h
        exact Oper.wpIn_mono hnext h
      · rename_i hw
        rw [if_neg hw] at h
        exact ⟨h.1, hnext _ _ h.2⟩
/-- A walk of the first operations alone. -/
theorem Walk.specPre {O : (Nat → Bool) → List Ob} {Q : Tm → Prop} (hk : AnyOk ops) : ∀ (l : List Oper) (k : Nat) (vals : Nat → D), (∀ j, j < l.length → l[j]? = ops[k + j]?) → Walk P N ops O Q k l (rt ops tm vals (fun j => Nat.blt j k)) →
    ∃ vals' : Nat → D, (∀ j, j < k → vals' j = vals j) ∧ (∀ j o, ops[j]? = some o → k ≤ j → j < k + l.length → ∀ L, Ready ops j o L → ∀ base : Tm, (∀ s ∈ o.looksAt ops, base s = rt ops tm vals' (fun i => Nat.blt i j) s) → One P N ops o (vals' j) (O (mark L j)) base (O L)) ∧
      Q (rt ops tm vals' (fun j => Nat.blt j (k + l.length)))
  | [], k, vals, hl, h => ⟨vals, fun _ _ => rfl, fun j o ho hj hj2 => by simp at hj2; omega, h⟩
  | o :: l, k, vals, hl, h => by
    obtain ⟨d, h1, h2⟩ := h
    have h0 : ops[k]? = some o := by simpa using (hl 0 (by simp)).symm
    let v1 : Nat → D := fun j => bif Nat.beq j k then d else vals j
    have hv1 : v1 k = d := by simp [v1]
    have hvo : ∀ j, j ≠ k → v1 j = vals j := fun j hj => by
      have hb : Nat.beq j k = false := by cases hh : Nat.beq j k with | false => rfl | true => exact absurd (Nat.eq_of_beq_eq_true hh) hj
      simp only [v1, hb, cond_false]
    have hrt : rt ops tm v1 (fun j => Nat.blt j k) = rt ops tm vals (fun j => Nat.blt j k) := by
      funext s
      unfold rt
      cases hw : wr ops s with
      | none => rfl
      | some j =>
        dsimp only
        by_cases e : j = k
        · subst e; have : Nat.blt j j = false := blt_f (by omega)
          rw [this]; rfl
        · rw [hvo j e]
    have hmk : mark (fun j => Nat.blt j k) k = fun j => Nat.blt j (k + 1) := by
      funext j
      by_cases e : j = k
      · subst e; rw [mark_same, blt_t (by omega)]
      · rw [mark_other _ e]
        by_cases hlt : j < k
        · rw [blt_t hlt, blt_t (show j < k + 1 by omega)]
        · rw [blt_f hlt, blt_f (show ¬ j < k + 1 by omega)]
    have hnext : Walk P N ops O Q (k + 1) l (rt ops tm v1 (fun j => Nat.blt j (k + 1))) := by
      rw [← hmk, rt_mark hk h0, hv1, hrt]
      exact h2
    obtain ⟨vals', e1, e2, e3⟩ := Walk.specPre hk l (k + 1) v1 (fun j hj => by have := hl (j + 1) (by simp; omega); simpa [Nat.add_assoc, Nat.add_comm 1 j] using this) hnext
    have hvk : vals' k = d := by rw [e1 k (by omega), hv1]
    refine ⟨vals', fun j hj => by rw [e1 j (by omega), hvo j (by omega)], fun j p hp hj hj2 L hr base hb => ?_, by rw [List.length_cons, show k + (l.length + 1) = k + 1 + l.length by omega]; exact e3⟩
    by_cases e : j = k
    · subst e
      have : p = o := by rw [hp] at h0; exact Option.some.inj h0
      subst this
      rw [hvk]
      refine h1 L hr base fun s hs => ?_
      rw [hb s hs]
      unfold rt
      cases hw : wr ops s with
      | none => rfl
      | some i =>
        dsimp only
        by_cases hlt : i < j
        · rw [e1 i (by omega), hvo i (by omega)]
        · rw [blt_f hlt]; rfl
    · exact e2 j p hp (by omega) (by rw [List.length_cons] at hj2; omega) L hr base hb
theorem then_run {ro : Option Nat} {vals : Nat → D} {g0 : G} {w0 : World} {m : Nat} (hk : AnyOk ops) (hm : m < ops.size) (hs : sinksB ops m = true) (hc : rowB ops m = true)
    (hop : ∀ j o, ops[j]? = some o → j < m → ∀ L, Ready ops j o L → ∀ base : Tm, (∀ s ∈ o.looksAt ops, base s = rt ops tm vals (fun i => Nat.blt i j) s) → One P N ops o (vals j) S base S)
    (hQ : AOps P N ops (ops.toList.drop m) Q (rt ops tm vals (fun j => Nat.blt j m)) S) :
    ∀ (c fuel : Nat) (L : Array Bool) (g : G) (a : Act) (w : World), L.size = ops.size → (List.range m).countP (fun i => !(done L i)) = c → fuel = c + (ops.size - m) → (∀ i, m ≤ i → i < ops.size → done L i = false) →
      (∀ j p, ops[j]? = some p → done L j = true → ∀ e ∈ p.after, Region.binds .any e = true → done L e.on = true) →
      St N g (rt ops tm vals (done L)) S a w → Later g0 w0 g w → wpAnyIn (wideR ro) 0 P .any ops (Post N Q g0 w0) fuel L a w
  | 0, fuel, L, g, a, w, hsz, hcnt, hfu, hun, hcl, st, hl => by
    have hall : ∀ i, i < m → done L i = true := fun i hi => by
      have := List.countP_eq_zero.1 hcnt i (List.mem_range.2 hi)
      simpa using this
    have hd : ∀ i, i < ops.size → done L i = Nat.blt i m := fun i hi => by
      by_cases h : i < m
      · rw [blt_t h, hall i h]
      · rw [blt_f h, hun i (by omega) hi]
    have hrt : rt ops tm vals (done L) = rt ops tm vals (fun j => Nat.blt j m) := by
      funext s
      unfold rt
      cases hw : wr ops s with
      | none => rfl
      | some j =>
        obtain ⟨p, hp, _⟩ := wr_some hw
        dsimp only
        rw [hd j (Array.getElem?_eq_some_iff.1 hp).1]
    rw [hrt] at st
    refine rowB_run hk hc fuel m L a w (by omega) (Nat.le_refl _) hsz hd ?_
    exact wpList_mono (fun e a' w2 k => Post.later hl k) _ _ _ (hQ ro g a w st)
  | c + 1, fuel, L, g, a, w, hsz, hcnt, hfu, hun, hcl, st, hl => by
    obtain ⟨fuel, rfl⟩ : ∃ f, fuel = f + 1 := ⟨fuel - 1, by omega⟩
    have hgetD : ∀ i, i < ops.size → L.getD i false = done L i := fun i hi => by
      unfold done; rw [Array.getD_eq_getD_getElem?, Array.getD_eq_getD_getElem?, Array.getElem?_eq_getElem (by omega)]; rfl
    have hnot : ¬ ∀ i, i < m → done L i = true := fun h => by
      have : (List.range m).countP (fun i => !(done L i)) = 0 := List.countP_eq_zero.2 fun i hi => by rw [h i (List.mem_range.1 hi)]; simp
      omega
    have hclB : ∀ i o, ops[i]? = some o → (∀ e ∈ o.after, Region.binds .any e = true → done L e.on = true) → i = m → False := by
      intro i o ho hpre him
      subst him
      apply hnot
      intro j hj
      -- from the sink downwards
      have key : ∀ d j, i - j = d → j < i → done L j = true := by
        intro d
        induction d using Nat.strongRecOn with
        | _ d ih =>
          intro j hd hj
          obtain ⟨i', h1, h2, h3⟩ := sink_spec hs j hj
          obtain ⟨o', ho', e, he, hb, e1⟩ := edgeAt_spec h3
          by_cases e' : i' = i
          · subst e'; rw [ho] at ho'; cases ho'
            have := hpre e he hb; rw [e1] at this; exact this
          · have := ih (i - i') (by omega) i' rfl (by omega)
            have := hcl i' o' ho' this e he hb
            rw [e1] at this; exact this
      exact key _ j rfl hj
    refine ⟨fun hnil => ?_, fun i hi => ?_⟩
    · exfalso
      apply hnot
      intro k
      induction k using Nat.strongRecOn with
      | _ k ih =>
        intro hlt
        cases hd : done L k with
        | true => rfl
        | false =>
          exfalso
          have hlt2 : k < ops.size := by omega
          have : k ∈ Region.ready .any ops L := by
            rw [mem_ready]
            refine ⟨hd, ops[k], Array.getElem?_eq_getElem hlt2, fun e he hb => ?_⟩
            have h1 := hk.back k _ (Array.getElem?_eq_getElem hlt2) e he hb
            have h2 := ih e.on h1 (by omega)
            first | exact h2 | (rw [hgetD _ (by omega)]; exact h2)
          rw [hnil] at this; cases this
    · obtain ⟨h0, o, ho, hall⟩ := mem_ready.1 hi
      have hlt : i < ops.size := (Array.getElem?_eq_some_iff.1 ho).1
      have hpre : ∀ e ∈ o.after, Region.binds .any e = true → done L e.on = true := fun e he hb => by
        have h2 := hall e he hb
        have h1 := hk.back i o ho e he hb
        first | exact h2 | (rw [hgetD _ (by omega)] at h2; exact h2)
      have hr : Ready ops i o (done L) := ⟨h0, hpre, hcl⟩
      have him : i < m := by
        rcases Nat.lt_or_ge i m with h | h
        · exact h
        · exfalso
          rcases Nat.eq_or_lt_of_le h with h | h
          · exact hclB i o ho hpre h.symm
          · obtain ⟨o', ho', e, he, hb, e1⟩ := edgeAt_spec (rowB_spec hc i h hlt)
            rw [ho] at ho'; cases ho'
            have := hpre e he hb
            rw [e1, hun (i - 1) (by omega) (by omega)] at this; cases this
      have hone := hop i o ho him (done L) hr (rt ops tm vals (done L)) (fun s hs => rt_read hk ho hr hs)
      refine One.go hone st ho fun g' a' w' st' hl' => ?_
      refine then_run hk hm hs hc hop hQ c fuel _ g' a' w' (by simp [hsz]) ?_ (by omega) ?_ ?_ ?_ (hl.trans hl')
      · rw [done_mark (by omega)]
        have : ∀ n, i < n → (List.range n).countP (fun j => !(mark (done L) i j)) + 1 = (List.range n).countP (fun j => !(done L j)) := by
          intro n
          induction n with
          | zero => intro h; omega
          | succ n ih =>
            intro h
            rw [List.range_succ, List.countP_append, List.countP_append]
            by_cases e : i = n
            · subst e
              have h1 : (List.range i).countP (fun j => !(mark (done L) i j)) = (List.range i).countP (fun j => !(done L j)) := by
                refine List.countP_congr fun j hj => ?_
                rw [mark_other _ (by have := List.mem_range.1 hj; omega)]
              rw [h1]
              simp [List.countP_cons, mark_same, hr.un]
            · have := ih (by omega)
              have h2 : mark (done L) i n = done L n := mark_other _ (fun e' => e e'.symm)
              simp only [List.countP_cons, List.countP_nil, h2]
              omega
        have := this m him
        omega
      · intro j hj hj2
        rw [done_mark (by omega), mark_other _ (by omega)]; exact hun j hj hj2
      · rw [done_mark (by omega)]
        intro j p hp hj e he hb
        by_cases ej : j = i
        · subst ej
          have : p = o := by rw [hp] at ho; exact Option.some.inj ho
          subst this
          have h1 := hr.pre e he hb
          by_cases e2 : e.on = j
          · rw [e2, mark_same]
          · rw [mark_other _ e2]; exact h1
        · rw [mark_other _ ej] at hj
          have h1 := hcl j p hp hj e he hb
          by_cases e2 : e.on = i
          · rw [e2, mark_same]
          · rw [mark_other _ e2]; exact h1
      · rw [done_mark (by omega), rt_mark hk ho]
        exact st'
/-- The first m in any order, without effect; the rest as written. -/
theorem AWP.anyThen {id : Nat} {l : List Oper} (m : Nat) (hf : P.follows .mixedOrders = true) (hB : anyB l.toArray = true) (hm : Nat.blt m l.length = true) (hs : sinksB l.toArray m = true) (hc : rowB l.toArray m = true)
    (h : Walk P N l.toArray (fun _ => S) (fun tm' => AOps P N l.toArray (l.drop m) Q tm' S) 0 (l.take m) tm) : AWP P N (.region id l.toArray true) Q tm S := fun ro _ g a w st => by
  have hk := anyB_spec hB
  have hm : m < l.toArray.size := by simpa using Nat.lt_of_succ_le (Nat.le_of_ble_eq_true hm)
  have ht : rt l.toArray tm (fun _ => .any) (fun j => Nat.blt j 0) = tm := by
    funext s
    unfold rt
    cases wr l.toArray s with
    | none => rfl
    | some j => rfl
  have hlt : (l.take m).length = m := by rw [List.length_take]; simp at hm; omega
  obtain ⟨vals, _, hop, hq⟩ := Walk.specPre hk (l.take m) 0 (fun _ => .any) (fun j hj => by rw [hlt] at hj; rw [List.getElem?_take_of_lt hj]; simp) (by rw [ht]; exact h)
  rw [hlt, Nat.zero_add] at hq
  have hd0 : ∀ j, j < l.toArray.size → done (Array.replicate l.toArray.size false) j = false := fun j hj => by
    unfold done
    rw [Array.getD_eq_getD_getElem?, Array.getElem?_eq_getElem (by simpa using hj)]
    simp
  obtain ⟨st', hl'⟩ := st.drew
  refine wpIn_region_any hf (then_run hk hm hs hc (fun j o ho hj => hop j o ho (Nat.zero_le _) (by rw [hlt]; omega)) (by simpa using hq) m l.toArray.size _ g a _ (by simp) ?_ (by omega) (fun i _ hi => hd0 i hi) ?_ ?_ hl')
  · have : ∀ n, n ≤ l.toArray.size → (List.range n).countP (fun i => !(done (Array.replicate l.toArray.size false) i)) = n := by
      intro n
      induction n with
      | zero => intro _; rfl
      | succ n ih =>
        intro hn
        rw [List.range_succ, List.countP_append, ih (by omega)]
        simp only [List.countP_cons, List.countP_nil, hd0 n (by omega)]
        rfl
    exact this _ (by omega)
  · intro j p hp hj
    rw [hd0 j (Array.getElem?_eq_some_iff.1 hp).1] at hj; cases hj
  · have : rt l.toArray tm vals (done (Array.replicate l.toArray.size false)) = tm := by
      funext s
      unfold rt
      cases hw : wr l.toArray s with
      | none => rfl
      | some j =>
        obtain ⟨p, hp, _⟩ := wr_some hw
        dsimp only
        rw [hd0 j (Array.getElem?_eq_some_iff.1 hp).1]; rfl
    rw [this]; exact st'
end Go.Abs
