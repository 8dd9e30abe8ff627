/- Plain: what a clone of a message is made of. -/
import Derived.Test.YtanfmpkjcoolmaaGreatAbsZw
import Derived.Test.YtanfmpkjcoolmaaGreatHelloPlain
set_option linter.unusedVariables false
namespace Go.Abs
theorem splice_flat {zs : List (List D)} {sz i o : Nat} {z : List D} {d : D} (hsz : ∀ z ∈ zs, z.length = sz) (hz : zs[i]? = some z) (ho : o < sz) : splice zs.flatten (i * sz + o) [d] = (zs.set i (z.set o d)).flatten := by
  have h := splice_at (f := fun q : { z : List D // z.length = sz } => q.1) (sz := sz) (l := zs.attach.map fun q => ⟨q.1, hsz q.1 q.2⟩) (i := i) (o := o) (x := ⟨z, hsz z (List.mem_of_getElem? hz)⟩) (y := ⟨z.set o d, by rw [List.length_set]; exact hsz z (List.mem_of_getElem? hz)⟩) (d := d) (fun a => a.2)
    (by rw [List.getElem?_map]
        obtain ⟨hi, rfl⟩ := List.getElem?_eq_some_iff.1 hz
        rw [List.getElem?_eq_getElem (by simpa using hi)]
        simp) ho rfl
  have e1 : (zs.attach.map fun q => (⟨q.1, hsz q.1 q.2⟩ : { z : List D // z.length = sz })).map (fun q => q.1) = zs := by
    rw [List.map_map]; simp
  rw [List.map_set, e1] at h
  exact h
/-- The tables of a clone, the first i of which have spans of their own. -/
def tc (base : Nat) : Nat → List (List Q4 × Int) → List (List D)
  | 0, tb => tb.map qt
  | _ + 1, [] => []
  | i + 1, t :: ts => [cd base t.1.length, vi t.2] :: tc (base + 1) i ts
theorem tc_len (base i : Nat) (tb : List (List Q4 × Int)) : (tc base i tb).length = tb.length := by
  induction tb generalizing base i with
  | nil => cases i <;> rfl
  | cons t ts ih => cases i with
    | zero => simp [tc]
    | succ i => simp [tc, ih]
theorem tc_two (base i : Nat) (tb : List (List Q4 × Int)) : ∀ z ∈ tc base i tb, z.length = 2 := by
  induction tb generalizing base i with
  | nil => cases i <;> (intro z hz; simp [tc] at hz)
  | cons t ts ih => cases i with
    | zero => intro z hz; simp [tc] at hz; rcases hz with rfl | ⟨a, b, _, rfl⟩ <;> rfl
    | succ i =>
      intro z hz
      simp only [tc, List.mem_cons] at hz
      rcases hz with rfl | hz
      · rfl
      · exact ih _ _ z hz
theorem tc_at {base i : Nat} {tb : List (List Q4 × Int)} {t : List Q4 × Int} (h : tb[i]? = some t) : (tc base i tb)[i]? = some (qt t) := by
  induction tb generalizing base i with
  | nil => simp at h
  | cons a ts ih => cases i with
    | zero => simp at h; subst h; rfl
    | succ i => simpa [tc] using ih (base := base + 1) (by simpa using h)
theorem tc_set {base i : Nat} {tb : List (List Q4 × Int)} {t : List Q4 × Int} (h : tb[i]? = some t) : (tc base i tb).set i [cd (base + i) t.1.length, vi t.2] = tc base (i + 1) tb := by
  induction tb generalizing base i with
  | nil => simp at h
  | cons a ts ih => cases i with
    | zero => simp at h; subst h; simp [tc]
    | succ i =>
      have := ih (base := base + 1) (i := i) (by simpa using h)
      rw [show base + 1 + i = base + (i + 1) by omega] at this
      simp [tc, this]
theorem tc_done {base i j : Nat} {tb : List (List Q4 × Int)} {t : List Q4 × Int} (h : tb[j]? = some t) (hj : j < i) : (tc base i tb)[j]? = some [cd (base + j) t.1.length, vi t.2] := by
  induction tb generalizing base i j with
  | nil => simp at h
  | cons a ts ih => cases i with
    | zero => omega
    | succ i => cases j with
      | zero => simp at h; subst h; simp [tc]
      | succ j =>
        have := ih (base := base + 1) (i := i) (j := j) (by simpa using h) (by omega)
        rw [show base + 1 + j = base + (j + 1) by omega] at this
        simpa [tc] using this
theorem tc_head {base i : Nat} {tb : List (List Q4 × Int)} {t : List Q4 × Int} (h : tb[i]? = some t) : ((tc base i tb).flatten.drop (i * 2)).headD .any = .sl none (t.1.map q4) .ro ∧ i * 2 < (tc base i tb).flatten.length := by
  have h1 := flat_get (j := 0) (d := .sl none (t.1.map q4) .ro) (tc_two base i tb) (tc_at h) rfl
  rw [Nat.add_zero] at h1
  refine ⟨?_, (List.getElem?_eq_some_iff.1 h1).1⟩
  rw [← List.head?_drop] at h1
  rw [List.headD_eq_head?_getD, h1]; rfl
theorem tc_splice {base i : Nat} {tb : List (List Q4 × Int)} {t : List Q4 × Int} (h : tb[i]? = some t) : splice (tc base i tb).flatten (i * 2) [cd (base + i) t.1.length] = (tc base (i + 1) tb).flatten := by
  have := splice_flat (o := 0) (d := cd (base + i) t.1.length) (tc_two base i tb) (tc_at h) (by decide)
  rw [Nat.add_zero] at this
  rw [this, ← tc_set h]; rfl
abbrev cspan (t : List Q4 × Int) : Ob := co (t.1.map q4)
/-- The clone's own cells; its blocks lie from n on. -/
abbrev cwz (n : Nat) (w : Wr) : List D :=
  [vi w.kd, vi w.rg, vi w.rq, vi w.ep, vi w.to, vi w.dd, vb w.fl, vi w.er, vi w.tx.e, vi w.tx.i, vi w.tx.b, cd (n + 2) w.tx.r.length, cd (n + 3) w.tx.v.length, vi w.ke, vi w.ki, vi w.ln,
    cd (n + 4) w.vc.length, vi w.nm, cd (n + 7) w.tb.length, vi w.pt, vi w.ps, cd (n + 5) w.en.length, vi w.ch, cd (n + 6) w.by_.length]
theorem q1_lf (l : List Int) : ∀ d ∈ (l.map q1).flatten, LF d := fun d hd => by
  obtain ⟨z, hz, hd⟩ := List.mem_flatten.1 hd
  obtain ⟨a, _, rfl⟩ := List.mem_map.1 hz
  simp only [q1, List.mem_cons, List.not_mem_nil, or_false] at hd; subst hd; exact .val _
theorem q2_lf (l : List (Int × Int)) : ∀ d ∈ (l.map q2).flatten, LF d := fun d hd => by
  obtain ⟨z, hz, hd⟩ := List.mem_flatten.1 hd
  obtain ⟨a, _, rfl⟩ := List.mem_map.1 hz
  simp only [q2, List.mem_cons, List.not_mem_nil, or_false] at hd; rcases hd with rfl | rfl <;> exact .val _
theorem q4_lf (l : List Q4) : ∀ d ∈ (l.map q4).flatten, LF d := fun d hd => by
  obtain ⟨z, hz, hd⟩ := List.mem_flatten.1 hd
  obtain ⟨a, _, rfl⟩ := List.mem_map.1 hz
  simp only [q4, List.mem_cons, List.not_mem_nil, or_false] at hd; rcases hd with rfl | rfl | rfl | rfl <;> exact .val _
theorem qts_lf (l : List (List Q4 × Int)) : ∀ d ∈ (l.map qt).flatten, LF d := fun d hd => by
  obtain ⟨z, hz, hd⟩ := List.mem_flatten.1 hd
  obtain ⟨a, _, rfl⟩ := List.mem_map.1 hz
  simp only [qt, List.mem_cons, List.not_mem_nil, or_false] at hd
  rcases hd with rfl | rfl
  · exact lf_mapG (fun q d hd => by simp only [q4, List.mem_cons, List.not_mem_nil, or_false] at hd; rcases hd with rfl | rfl | rfl | rfl <;> exact .val _) (.inl rfl)
  · exact .val _
theorem by_lf (l : List Int) : ∀ d ∈ (ints .u8 l).flatten, LF d := fun d hd => by
  obtain ⟨z, hz, hd⟩ := List.mem_flatten.1 hd
  obtain ⟨a, _, rfl⟩ := List.mem_map.1 hz
  simp only [List.mem_cons, List.not_mem_nil, or_false] at hd; subst hd; exact .val _
end Go.Abs
