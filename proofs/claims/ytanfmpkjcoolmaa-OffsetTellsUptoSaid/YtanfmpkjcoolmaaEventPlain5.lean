/- Plain: records between barriers. -/
import Derived.Test.YtanfmpkjcoolmaaEventPlain4
set_option linter.unusedVariables false
set_option linter.unusedSimpArgs false
namespace Go.Abs
abbrev Ep := Int × List Rc
abbrev epz (e : Ep) : List D := [vi e.1, .sl none (e.2.map rz) .ro]
def stepE (s : List Ep × List Rc) (x : Ev) : List Ep × List Rc := if x.c = 1 then (s.1, s.2 ++ [x.rc]) else if x.c = 2 then (s.1 ++ [(x.i, s.2)], []) else s
def epsS (l : List Ev) : List Ep × List Rc := l.foldl stepE ([], [])
def eps (l : List Ev) : List Ep := (epsS l).1 ++ (if (epsS l).2.length > 0 then [(0, (epsS l).2)] else [])
theorem epsS_take {l : List Ev} {i : Nat} {x : Ev} (hx : l[i]? = some x) : epsS (l.take (i + 1)) = stepE (epsS (l.take i)) x := by
  rw [take_snoc hx]; simp [epsS, List.foldl_append]
theorem foldE_pre : ∀ (l : List Ev) (s : List Ep × List Rc), ∃ t, (l.foldl stepE s).1 = s.1 ++ t
  | [], s => ⟨[], by simp⟩
  | x :: l, s => by
    obtain ⟨t, ht⟩ := foldE_pre l (stepE s x)
    rw [List.foldl_cons, ht]
    unfold stepE
    split
    · exact ⟨t, rfl⟩
    · split
      · exact ⟨(x.i, s.2) :: t, by simp⟩
      · exact ⟨t, rfl⟩
theorem epsS_split (l : List Ev) (i : Nat) : epsS l = (l.drop i).foldl stepE (epsS (l.take i)) := by
  have h := congrArg epsS (List.take_append_drop i l).symm
  rw [h]; simp only [epsS, List.foldl_append]
theorem eps_at {l : List Ev} {i : Nat} {x : Ev} (hx : l[i]? = some x) (h1 : x.c ≠ 1) (h2 : x.c = 2) : (eps l)[(epsS (l.take i)).1.length]? = some (x.i, (epsS (l.take i)).2) := by
  obtain ⟨t, ht⟩ := foldE_pre (l.drop (i + 1)) (epsS (l.take (i + 1)))
  rw [← epsS_split, epsS_take hx] at ht
  have e : stepE (epsS (l.take i)) x = ((epsS (l.take i)).1 ++ [(x.i, (epsS (l.take i)).2)], []) := by unfold stepE; rw [if_neg h1, if_pos h2]
  rw [e] at ht
  unfold eps
  rw [ht]
  simp
theorem eps_last {l : List Ev} (h : (epsS l).2.length > 0) : (eps l)[(epsS l).1.length]? = some (0, (epsS l).2) ∧ (eps l).length = (epsS l).1.length + 1 := by
  unfold eps; rw [if_pos h]; simp
theorem eps_none {l : List Ev} (h : ¬ (epsS l).2.length > 0) : (eps l).length = (epsS l).1.length := by
  unfold eps; rw [if_neg h]; simp
theorem foldE_flat : ∀ (l : List Ev) (s : List Ep × List Rc), (l.foldl stepE s).1.flatMap (·.2) ++ (l.foldl stepE s).2 = s.1.flatMap (·.2) ++ s.2 ++ recs l
  | [], s => by simp [recs]
  | x :: l, s => by
    rw [List.foldl_cons, foldE_flat l]
    unfold stepE
    split
    · rename_i h; simp [recs, h]
    · rename_i h
      split
      · rename_i h'; simp [recs, h']
      · simp [recs, h]
theorem eps_flat (l : List Ev) : (eps l).flatMap (·.2) = recs l := by
  have h := foldE_flat l ([], [])
  simp only [List.flatMap_nil, List.nil_append, List.append_nil] at h
  unfold eps
  split
  · rw [← h]; simp [epsS]
  · rename_i h2
    have : (epsS l).2 = [] := List.eq_nil_of_length_eq_zero (by omega)
    rw [← h]
    show _ = (epsS l).1.flatMap (·.2) ++ (epsS l).2
    rw [this]; simp
theorem foldE_len : ∀ (l : List Ev) (s : List Ep × List Rc), (l.foldl stepE s).1.length ≤ s.1.length + l.length ∧ (l.foldl stepE s).2.length ≤ s.2.length + l.length
  | [], s => ⟨Nat.le_refl _, Nat.le_refl _⟩
  | x :: l, s => by
    obtain ⟨h1, h2⟩ := foldE_len l (stepE s x)
    rw [List.foldl_cons]
    unfold stepE at *
    split at h1 <;> simp only [List.length_cons, List.length_append, List.length_nil] at *
    · rename_i h; rw [if_pos h] at *; simp only [List.length_append, List.length_cons, List.length_nil] at *; omega
    · rename_i h; rw [if_neg h] at *
      split at h1
      · rename_i h'; rw [if_pos h'] at *; simp only [List.length_append, List.length_cons, List.length_nil] at *; omega
      · rename_i h'; rw [if_neg h'] at *; omega
theorem epsS_len (l : List Ev) : (epsS l).1.length ≤ l.length ∧ (epsS l).2.length ≤ l.length := by
  have := foldE_len l ([], [])
  simpa [epsS] using this
theorem eps_len (l : List Ev) : (eps l).length ≤ l.length + 1 := by
  have := (epsS_len l).1
  unfold eps; split <;> simp <;> omega
theorem flat_mem_len {l : List Ep} {e : Ep} (h : e ∈ l) : e.2.length ≤ (l.flatMap (·.2)).length := by
  induction l with
  | nil => cases h
  | cons a l ih =>
    rcases List.mem_cons.1 h with rfl | h
    · simp
    · have := ih h; simp at *; omega
theorem eps_part {l : List Ev} {e : Ep} (h : e ∈ eps l) : e.2.length ≤ l.length := by
  have h1 := flat_mem_len h
  rw [eps_flat] at h1
  exact Nat.le_trans h1 (recs_len l)
theorem flat_take_len (l : List Ep) (i : Nat) : ((l.take i).flatMap (·.2)).length ≤ (l.flatMap (·.2)).length := by
  have h := congrArg (fun l : List Ep => (l.flatMap (·.2)).length) (List.take_append_drop i l)
  simp only [List.flatMap_append, List.length_append] at h
  omega
theorem epz_lf (e : Ep) : ∀ d ∈ epz e, LF d := lf_cons (.val _) (lf_cons (lf_map (f := rz) (fun _ => rfl) (.inl rfl)) lf_nil)
theorem lf_mapG {α : Type} {f : α → List D} (hf : ∀ a, ∀ d ∈ f a, LF d) {nl : Option Bool} {l : List α} {c : Cap} (hc : c = .ro ∨ c = .full) : LF (.sl nl (l.map f) c) :=
  .sl (fun x hx d hd => by obtain ⟨a, _, rfl⟩ := List.mem_map.1 hx; exact hf a d hd) hc
theorem ren_mapG {ρ σ : Nat → Nat → Prop} {α : Type} {f : α → List D} (hf : ∀ a, ∀ d ∈ f a, LF d) {nl : Option Bool} {l : List α} {c : Cap} : Ren ρ σ (.sl nl (l.map f) c) (.sl none (l.map f) .ro) :=
  .ro (fun x hx d hd => by obtain ⟨a, _, rfl⟩ := List.mem_map.1 hx; exact hf a d hd)
theorem concat_at {S : List Ob} {x : Ob} : (S ++ [x])[S.length]? = some x := by simp
theorem concat_set {S : List Ob} {x y : Ob} : (S ++ [x]).set S.length y = S ++ [y] := by simp
theorem concat_old {S : List Ob} {x y : Ob} {r : Nat} (h : S[r]? = some y) : (S ++ [x])[r]? = some y := by rw [List.getElem?_append_left (List.getElem?_eq_some_iff.1 h).1]; exact h
end Go.Abs
namespace Go.Abs
theorem at_bp {S : List Ob} {l o : Nat} {ds : List D} (h : S[l]? = some (.box ds)) : (D.bp l o).at S = some (ds.drop o) := by simp only [D.at, h]
theorem seen_at {a : Ob} {S : List Ob} {ds : List D} : (a :: (S ++ [.box ds]))[S.length + 1]? = some (.box ds) := by simp
theorem seen_set {a x y z : Ob} {S : List Ob} (h : y = z) : (a :: (S ++ [x])).set (S.length + 1) y = a :: (S ++ [z]) := by subst h; simp
theorem seen_old {a x y : Ob} {S : List Ob} {r : Nat} (h : S[r]? = some y) : (a :: (S ++ [x]))[r + 1]? = some y := by rw [List.getElem?_cons_succ]; exact concat_old h
end Go.Abs
namespace Go.Abs
theorem epsS_flat (l : List Ev) : (epsS l).1.flatMap (·.2) ++ (epsS l).2 = recs l := by
  have h := foldE_flat l ([], [])
  simp only [List.flatMap_nil, List.nil_append, List.append_nil] at h
  exact h
def ups (l : List Ev) : List Rc := ((eps l)[0]?.map (·.2)).getD []
theorem ups_at {l : List Ev} {i : Nat} {x : Ev} (hx : l[i]? = some x) (h2 : x.c = 2) (h : (epsS (l.take i)).1 = []) : ups l = recs (l.take i) := by
  have e := eps_at hx (by omega) h2
  have f := epsS_flat (l.take i)
  rw [h] at e f
  unfold ups
  rw [show ([] : List Ep).length = 0 from rfl] at e
  rw [e]
  simpa using f
theorem ups_all {l : List Ev} (h : (epsS l).1 = []) : ups l = recs l := by
  have f := epsS_flat l
  rw [h] at f
  simp only [List.flatMap_nil, List.nil_append] at f
  unfold ups eps
  rw [h, f]
  split
  · simp
  · rename_i h2
    have : recs l = [] := List.eq_nil_of_length_eq_zero (by omega)
    rw [this]; simp
theorem epsS_go {l : List Ev} {i : Nat} {x : Ev} (hx : l[i]? = some x) (h2 : x.c ≠ 2) (h : (epsS (l.take i)).1 = []) : (epsS (l.take (i + 1))).1 = [] := by
  rw [epsS_take hx]; unfold stepE
  split
  · exact h
  · exact h
theorem ups_len (l : List Ev) : (ups l).length ≤ l.length := by
  unfold ups
  cases h : (eps l)[0]? with
  | none => simp
  | some e => exact eps_part (List.mem_of_getElem? h)
theorem eps_drop {l : List Ev} {i : Nat} {x : Ev} (hx : l[i]? = some x) : True := trivial
/-- Nothing is so. -/
abbrev Never : Ob := .seen (fun _ _ _ _ => False) none
theorem AWP.never {P : Program} {N : Nat} {Q : Exit → Tm → List Ob → Prop} {tm : Tm} {S : List Ob} {c : Code} {j : Nat} (h : S[j]? = some Never) : AWP P N c Q tm S := fun ro hro g a w st => by
  obtain ⟨B, h1, h2⟩ := st.sim.obs j _ h
  exact (h2 g.lim w (.refl w) (fun _ _ => ⟨rfl, rfl⟩) (fun _ _ h => h) st.sim.lim).elim
end Go.Abs
namespace Go.Abs
theorem drop_snoc {l : List Ev} {i s : Nat} {x : Ev} (hx : l[i]? = some x) (hs : s ≤ i) : (l.take (i + 1)).drop s = (l.take i).drop s ++ [x] := by
  have hi := (List.getElem?_eq_some_iff.1 hx).1
  rw [take_snoc hx, List.drop_append_of_le_length (by rw [List.length_take]; omega)]
theorem ep_go {l : List Ev} {i s : Nat} {x : Ev} (hx : l[i]? = some x) (h2 : x.c ≠ 2) (hs : s ≤ i) (h : (epsS (l.take i)).2 = recs ((l.take i).drop s)) :
    (epsS (l.take (i + 1))).1 = (epsS (l.take i)).1 ∧ (epsS (l.take (i + 1))).2 = recs ((l.take (i + 1)).drop s) := by
  rw [epsS_take hx, drop_snoc hx hs]
  unfold stepE
  split
  · rename_i h1; exact ⟨rfl, by rw [h]; simp [recs, h1]⟩
  · rename_i h1; (try rw [if_neg h2]); exact ⟨rfl, by rw [h]; simp [recs, h1]⟩
theorem ep_bar {l : List Ev} {i : Nat} {x : Ev} (hx : l[i]? = some x) (h2 : x.c = 2) : epsS (l.take (i + 1)) = ((epsS (l.take i)).1 ++ [(x.i, (epsS (l.take i)).2)], []) := by
  rw [epsS_take hx]; unfold stepE; rw [if_neg (by omega), if_pos h2]
theorem ep_nil {l : List Ev} {i : Nat} : recs ((l.take i).drop i) = [] := by
  rw [List.drop_eq_nil_of_le (by rw [List.length_take]; omega)]; rfl
theorem eps_yes {l : List Ev} (h : (epsS l).2.length > 0) : eps l = (epsS l).1 ++ [(0, (epsS l).2)] := by unfold eps; rw [if_pos h]
theorem eps_no {l : List Ev} (h : ¬ (epsS l).2.length > 0) : eps l = (epsS l).1 := by unfold eps; rw [if_neg h]; simp
end Go.Abs
