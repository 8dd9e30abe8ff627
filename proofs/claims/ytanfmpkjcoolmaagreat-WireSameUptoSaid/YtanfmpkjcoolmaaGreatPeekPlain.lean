/- Plain: a clone reads as the message. -/
import Derived.Test.YtanfmpkjcoolmaaGreatClonePlain
set_option linter.unusedVariables false
namespace Go.Abs
variable {S : List Ob}
inductive PeekAllM (S : List Ob) : List D → List D → Prop
  | nil : PeekAllM S [] []
  | cons {a b : D} {as bs : List D} (h : PeekM S a b) (t : PeekAllM S as bs) : PeekAllM S (a :: as) (b :: bs)
theorem PeekAllM.length {as bs : List D} (h : PeekAllM S as bs) : as.length = bs.length := by
  induction h with
  | nil => rfl
  | cons h t ih => simp [ih]
theorem PeekAllM.get {as bs : List D} (h : PeekAllM S as bs) : ∀ (i : Nat) (x y : D), as[i]? = some x → bs[i]? = some y → PeekM S x y := by
  induction h with
  | nil => intro i x y h; simp at h
  | cons h t ih =>
    intro i x y h1 h2
    cases i with
    | zero => simp at h1 h2; subst h1; subst h2; exact h
    | succ i => exact ih i x y (by simpa using h1) (by simpa using h2)
theorem PeekAllM.agg {as bs : List D} (h : PeekAllM S as bs) : PeekM S (.agg as) (.agg bs) := .agg h.length h.get
theorem peek_flat {xs : List (List D)} {k sz : Nat} (hS : S[k]? = some (co xs)) (hsz : ∀ x ∈ xs, x.length = sz) (hone : ∀ x ∈ xs, ∀ d ∈ x, d.one = true) (hlf : ∀ d ∈ xs.flatten, LF d) : PeekM S (cd k xs.length) (.sl none xs .ro) := by
  cases xs with
  | nil => exact .ren (.lf (.sl (fun x h => by cases h) (.inl rfl)))
  | cons x xs =>
    refine .bs (b := []) hS (by rw [List.append_nil]) rfl rfl hsz hsz hone (fun i j y z d e h1 h2 h3 h4 => ?_)
    rw [h1] at h2; cases h2
    rw [h3] at h4; cases h4
    exact .ren (.lf (hlf d (List.mem_flatten.2 ⟨y, List.mem_of_getElem? h1, List.mem_of_getElem? h3⟩)))
theorem peek_map {α : Type} {f : α → List D} {l : List α} {k sz : Nat} (hS : S[k]? = some (co (l.map f))) (hsz : ∀ a, (f a).length = sz) (hone : ∀ a, ∀ d ∈ f a, d.one = true) (hlf : ∀ d ∈ (l.map f).flatten, LF d) : PeekM S (cd k l.length) (.sl none (l.map f) .ro) := by
  have h := peek_flat hS (fun x hx => by obtain ⟨a, _, rfl⟩ := List.mem_map.1 hx; exact hsz a) (fun x hx => by obtain ⟨a, _, rfl⟩ := List.mem_map.1 hx; exact hone a) hlf
  rw [List.length_map] at h; exact h
theorem peek_tabs {tb : List (List Q4 × Int)} {k n : Nat} (hS : S[k]? = some (co (tc n tb.length tb))) (hsp : ∀ i t, tb[i]? = some t → S[n + i]? = some (cspan t)) : PeekM S (cd k tb.length) (.sl none (tb.map qt) .ro) := by
  cases tb with
  | nil => exact .ren (.lf (.sl (fun x h => by cases h) (.inl rfl)))
  | cons t0 ts =>
    rw [co_box (by rw [tc_len]; simp)] at hS
    refine .bs (sz := 2) (b := []) (ys := tc n (t0 :: ts).length (t0 :: ts)) hS (by rw [List.append_nil]) (tc_len _ _ _) (by rw [List.length_map, tc_len]) (tc_two _ _ _) (fun x hx => by obtain ⟨a, _, rfl⟩ := List.mem_map.1 hx; rfl)
      (fun x hx d hd => by obtain ⟨a, _, rfl⟩ := List.mem_map.1 hx; simp only [qt, List.mem_cons, List.not_mem_nil, or_false] at hd; rcases hd with rfl | rfl <;> rfl) (fun i j y x d e h1 h2 h3 h4 => ?_)
    generalize t0 :: ts = tb at *
    rw [List.getElem?_map, Option.map_eq_some_iff] at h2
    obtain ⟨t, ht, rfl⟩ := h2
    have hi : i < tb.length := (List.getElem?_eq_some_iff.1 ht).1
    rw [tc_done ht hi] at h1; cases h1
    rcases j with _ | _ | j
    · simp at h3 h4; subst h3; subst h4
      exact peek_map (hsp i t ht) (sz := 4) (fun a => rfl) (fun a d hd => by simp only [q4, List.mem_cons, List.not_mem_nil, or_false] at hd; rcases hd with rfl | rfl | rfl | rfl <;> rfl) (q4_lf _)
    · simp at h3 h4; subst h3; subst h4
      exact .ren (.lf (.val _))
    · simp at h3
theorem one_q1 (a : Int) : ∀ d ∈ q1 a, d.one = true := fun d hd => by simp only [q1, List.mem_cons, List.not_mem_nil, or_false] at hd; subst hd; rfl
theorem one_q2 (a : Int × Int) : ∀ d ∈ q2 a, d.one = true := fun d hd => by simp only [q2, List.mem_cons, List.not_mem_nil, or_false] at hd; rcases hd with rfl | rfl <;> rfl
theorem one_q4 (a : Q4) : ∀ d ∈ q4 a, d.one = true := fun d hd => by simp only [q4, List.mem_cons, List.not_mem_nil, or_false] at hd; rcases hd with rfl | rfl | rfl | rfl <;> rfl
/-- The clone, peeked at. -/
theorem peek_clone {w : Wr} {n : Nat} (h2 : S[n + 2]? = some (co (w.tx.r.map q2))) (h3 : S[n + 3]? = some (co (w.tx.v.map q1))) (h4 : S[n + 4]? = some (co (w.vc.map q1))) (h5 : S[n + 5]? = some (co (w.en.map q4))) (h6 : S[n + 6]? = some (co (ints .u8 w.by_))) (h7 : S[n + 7]? = some (co (tc (n + 8) w.tb.length w.tb)))
    (hsp : ∀ i t, w.tb[i]? = some t → S[n + 8 + i]? = some (cspan t)) : PeekM S (.agg (cwz n w)) (.agg (wz w)) := by
  have v : ∀ x, PeekM S (.val x) (.val x) := fun x => .ren (.lf (.val x))
  have hb : PeekM S (cd (n + 6) w.by_.length) (bys w.by_) := by
    have := peek_map (f := fun x => [D.val (.int .u8 x)]) (sz := 1) h6 (fun a => rfl) (fun a d hd => by simp only [List.mem_cons, List.not_mem_nil, or_false] at hd; subst hd; rfl) (by_lf _)
    exact this
  exact PeekAllM.agg (.cons (v _) (.cons (v _) (.cons (v _) (.cons (v _) (.cons (v _) (.cons (v _) (.cons (v _) (.cons (v _) (.cons (v _) (.cons (v _) (.cons (v _) (.cons (peek_map h2 (sz := 2) (fun _ => rfl) one_q2 (q2_lf _)) (.cons (peek_map h3 (sz := 1) (fun _ => rfl) one_q1 (q1_lf _)) (.cons (v _) (.cons (v _) (.cons (v _)
    (.cons (peek_map h4 (sz := 1) (fun _ => rfl) one_q1 (q1_lf _)) (.cons (v _) (.cons (peek_tabs h7 hsp) (.cons (v _) (.cons (v _) (.cons (peek_map h5 (sz := 4) (fun _ => rfl) one_q4 (q4_lf _)) (.cons (v _) (.cons hb .nil))))))))))))))))))))))))
end Go.Abs
namespace Go.Abs
/-- Lists of as many spans as the tables'. -/
def Fits (tb : List (List Q4 × Int)) (ss : List (List Q4)) : Prop := ss.map List.length = tb.map fun t => t.1.length
theorem fits_at {tb : List (List Q4 × Int)} {ss : List (List Q4)} {i : Nat} {t : List Q4 × Int} (h : Fits tb ss) (ht : tb[i]? = some t) : ∃ s, ss[i]? = some s ∧ s.length = t.1.length := by
  have h1 : (ss.map List.length)[i]? = some t.1.length := by rw [h, List.getElem?_map, ht]; rfl
  rw [List.getElem?_map, Option.map_eq_some_iff] at h1
  obtain ⟨s, hs, e⟩ := h1
  exact ⟨s, hs, e⟩
theorem fits_set {tb : List (List Q4 × Int)} {ss : List (List Q4)} {i : Nat} {s s' : List Q4} (h : Fits tb ss) (hs : ss[i]? = some s) (e : s'.length = s.length) : Fits tb (ss.set i s') := by
  unfold Fits at *
  rw [List.map_set, e, ← h]
  refine List.ext_getElem? fun j => ?_
  by_cases q : i = j
  · subst q
    have hi := (List.getElem?_eq_some_iff.1 hs).1
    rw [List.getElem?_set_self (by simpa using hi), List.getElem?_map, hs]; rfl
  · rw [List.getElem?_set_ne q]
abbrev cs4 (s : List Q4) : Ob := co (s.map q4)
theorem fits0 (tb : List (List Q4 × Int)) : Fits tb (tb.map (·.1)) := by unfold Fits; rw [List.map_map]; rfl
theorem fits0_ob (tb : List (List Q4 × Int)) : tb.map cspan = (tb.map (·.1)).map cs4 := by rw [List.map_map]; rfl
theorem tcd_head {base i j : Nat} {tb : List (List Q4 × Int)} {t : List Q4 × Int} (h : tb[j]? = some t) (hj : j < i) : ((tc base i tb).flatten.drop (j * 2)).headD .any = cd (base + j) t.1.length ∧ j * 2 < (tc base i tb).flatten.length := by
  have h1 := flat_get (j := 0) (d := cd (base + j) t.1.length) (tc_two base i tb) (tc_done h hj) rfl
  rw [Nat.add_zero] at h1
  refine ⟨?_, (List.getElem?_eq_some_iff.1 h1).1⟩
  rw [← List.head?_drop] at h1
  rw [List.headD_eq_head?_getD, h1]; rfl
theorem map_head {α : Type} {f : α → List D} {sz : Nat} {l : List α} {i o : Nat} {x : α} {d : D} (hsz : ∀ a, (f a).length = sz) (hx : l[i]? = some x) (hd : (f x)[o]? = some d) : ((l.map f).flatten.drop (i * sz + o)).headD .any = d ∧ i * sz + o < (l.map f).flatten.length := by
  have h1 := flat_at hsz hx hd
  refine ⟨?_, (List.getElem?_eq_some_iff.1 h1).1⟩
  rw [← List.head?_drop] at h1
  rw [List.headD_eq_head?_getD, h1]; rfl
end Go.Abs
