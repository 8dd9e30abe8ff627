/- Plain: the numbers with which bytes begin. -/
import Derived.Test.YtanfmpkjcoolmaaPackPlain4
import Derived.Test.YtanfmpkjcoolmaaEventPlain2
import Derived.Test.YtanfmpkjcoolmaaAbsZb
set_option linter.unusedVariables false
namespace Go.Abs
abbrev NP := Int × Int
abbrev npz (p : NP) : List D := [vi p.1, vi p.2]
def numsF (b : List Int) : Nat → Nat → List NP
  | 0, _ => []
  | f + 1, p => if (firstP (b.drop p)).2.2 ≠ 0 then [] else ((firstP (b.drop p)).1, ((p + (firstP (b.drop p)).2.1 : Nat) : Int)) :: numsF b f (p + (firstP (b.drop p)).2.1)
def nums (b : List Int) : List NP := numsF b (b.length + 1) 0
/-- Of the numbers pre are read, up to p. -/
structure NS (b : List Int) (pre : List NP) (p f : Nat) : Prop where
  le : p ≤ b.length
  fuel : b.length - p < f
  eq : nums b = pre ++ numsF b f p
  cnt : pre.length ≤ p
  frm : b.take p = pre.flatMap (fun q => form q.1)
  last : ∀ q, pre.getLast? = some q → q.2 = p
  zero : pre = [] → p = 0
theorem NS.start (b : List Int) : NS b [] 0 (b.length + 1) := ⟨Nat.zero_le _, by omega, rfl, Nat.le_refl _, by simp, fun q h => by simp at h, fun _ => rfl⟩
theorem NS.stop {b : List Int} {pre : List NP} {p f : Nat} (h : NS b pre p f) (he : (firstP (b.drop p)).2.2 ≠ 0) : nums b = pre := by
  have hf := h.fuel
  obtain ⟨f, rfl⟩ : ∃ g, f = g + 1 := ⟨f - 1, by omega⟩
  rw [h.eq, numsF, if_pos he, List.append_nil]
theorem NS.full {b : List Int} {pre : List NP} {p f : Nat} (h : NS b pre p f) (he : ¬ p < b.length) : nums b = pre := by
  refine h.stop ?_
  rw [List.drop_eq_nil_of_le (by omega)]
  simp [firstP, firstG]
theorem NS.next {b : List Int} (hb : Byt b) {pre : List NP} {p f : Nat} (h : NS b pre p f) (he : (firstP (b.drop p)).2.2 = 0) :
    NS b (pre ++ [((firstP (b.drop p)).1, ((p + (firstP (b.drop p)).2.1 : Nat) : Int))]) (p + (firstP (b.drop p)).2.1) (f - 1) ∧
    (nums b)[pre.length]? = some ((firstP (b.drop p)).1, ((p + (firstP (b.drop p)).2.1 : Nat) : Int)) := by
  have hf := h.fuel
  have hbd := firstP_bd he
  rw [List.length_drop] at hbd
  have hle := h.le
  have hc := h.cnt
  obtain ⟨f, rfl⟩ : ∃ g, f = g + 1 := ⟨f - 1, by omega⟩
  have e := h.eq
  rw [numsF, if_neg (by simp [he])] at e
  refine ⟨⟨by omega, by omega, by rw [e]; simp, by simp; omega, ?_, ?_, by simp⟩, by rw [e]; simp⟩
  · have hi := firstP_inv (hb.drop p) he
    have h1 : b.take (p + (firstP (b.drop p)).2.1) = b.take p ++ (b.drop p).take (firstP (b.drop p)).2.1 := by rw [List.take_add]
    have h2 : (b.drop p).take (firstP (b.drop p)).2.1 = form (firstP (b.drop p)).1 := by
      have hl : (form (firstP (b.drop p)).1).length = (firstP (b.drop p)).2.1 := by
        have := congrArg List.length hi
        simp only [List.length_append, List.length_drop] at this
        omega
      conv => lhs; arg 2; rw [hi]
      rw [← hl, List.take_left]
    rw [h1, h2, h.frm]; simp
  · intro q hq
    rw [List.getLast?_append] at hq
    simp at hq
    rw [← hq]
    simp
theorem nums_len (b : List Int) : (nums b).length ≤ b.length := by
  have key : ∀ f pre p, NS b pre p f → Byt b → True := fun _ _ _ _ _ => trivial
  have : ∀ (f p : Nat), p ≤ b.length → (numsF b f p).length ≤ b.length - p := by
    intro f
    induction f with
    | zero => intro p _; simp [numsF]
    | succ f ih =>
      intro p hp
      rw [numsF]
      split
      · simp
      · rename_i h
        have hbd := firstP_bd (b := b.drop p) (by simpa using h)
        rw [List.length_drop] at hbd
        have := ih (p + (firstP (b.drop p)).2.1) (by omega)
        simp only [List.length_cons]; omega
  exact this _ 0 (Nat.zero_le _)
theorem np_lf (e : NP) : ∀ d ∈ npz e, LF d := lf_cons (.val _) (lf_cons (.val _) lf_nil)
theorem ints_take1 {l : List NP} {k : Nat} {p : NP} (h : l[k]? = some p) : (l.take (k + 1)).map (·.1) = (l.take k).map (·.1) ++ [p.1] := by
  obtain ⟨hi, rfl⟩ := List.getElem?_eq_some_iff.1 h
  rw [List.take_succ_eq_append_getElem hi]; simp [-List.take_append_getElem]
theorem ints_take2 {l : List NP} {k : Nat} {p : NP} (h : l[k]? = some p) : (l.take (k + 1)).map (·.2) = (l.take k).map (·.2) ++ [p.2] := by
  obtain ⟨hi, rfl⟩ := List.getElem?_eq_some_iff.1 h
  rw [List.take_succ_eq_append_getElem hi]; simp [-List.take_append_getElem]
theorem map_some' {α : Type} {f : α → List D} {l : List α} {k : Nat} {x : List D} (h : (l.map f)[k]? = some x) : ∃ p, l[k]? = some p ∧ f p = x := by
  rw [List.getElem?_map] at h; exact Option.map_eq_some_iff.1 h
theorem lf_fnrp' {f : Fn} {cs : List D} (h : ∀ d ∈ cs, LF d) : LF (.fn f [] [.rp cs]) := .fn (fun d h => by cases h) (fun d hd => by simp at hd; subst hd; exact .rp h)
theorem lf_bys {b : List Int} : ∀ d ∈ [bys b], LF d := lf_cons (lf_ints (.inl rfl)) lf_nil
theorem ints_one' {k : IntKind} {l : List Int} : ∀ x ∈ ints k l, x.length = 1 := ints_one _ _
end Go.Abs
namespace Go.Abs
theorem NS.toEnd {b : List Int} (hb : Byt b) : ∀ (f : Nat) (pre : List NP) (p : Nat), NS b pre p f → ∃ p' f', NS b (nums b) p' f'
  | f, pre, p, h => by
    by_cases he : (firstP (b.drop p)).2.2 = 0
    · have hn := (h.next hb he).1
      have hf := h.fuel
      obtain ⟨g, rfl⟩ : ∃ g, f = g + 1 := ⟨f - 1, by omega⟩
      exact NS.toEnd hb g _ _ hn
    · exact ⟨p, f, by rw [h.stop he]; exact h⟩
theorem nums_end {b : List Int} (hb : Byt b) : ∃ p, p ≤ b.length ∧ b.take p = forms ((nums b).map (·.1)) ∧ (∀ q, (nums b).getLast? = some q → q.2 = (p : Int)) ∧ (nums b = [] → p = 0) := by
  obtain ⟨p, f, h⟩ := NS.toEnd hb _ _ _ (NS.start b)
  exact ⟨p, h.le, by rw [h.frm]; simp [forms, List.flatMap_map], h.last, h.zero⟩
theorem nums_last {b : List Int} (h : 0 < (nums b).length) : ∃ q, (nums b).getLast? = some q ∧ (ints .i64 ((nums b).map (·.2)))[((((nums b).map (·.2)).length : Int) - 1).toNat]? = some [vi q.2] := by
  have hne : nums b ≠ [] := by intro e; rw [e] at h; simp at h
  refine ⟨(nums b).getLast hne, List.getLast?_eq_some_getLast hne, ?_⟩
  have e : ((((nums b).map (·.2)).length : Int) - 1).toNat = (nums b).length - 1 := by rw [List.length_map]; omega
  rw [e, List.getLast_eq_getElem]
  unfold ints
  rw [List.getElem?_map, List.getElem?_map, List.getElem?_eq_getElem (show (nums b).length - 1 < (nums b).length by omega)]
  rfl
theorem firstP_i64 {b : List Int} (hb : Byt b) : ∀ (f p : Nat), ∀ q ∈ numsF b f p, -9223372036854775808 ≤ q.1 ∧ q.1 ≤ 9223372036854775807
  | 0, p, q, h => by simp [numsF] at h
  | f + 1, p, q, h => by
    rw [numsF] at h
    split at h
    · cases h
    · rcases List.mem_cons.1 h with rfl | h
      · exact firstP_num (hb.drop p)
      · exact firstP_i64 hb f _ q h
theorem nums_i64 {b : List Int} (hb : Byt b) : ∀ n ∈ (nums b).map (·.1), -9223372036854775808 ≤ n ∧ n ≤ 9223372036854775807 := by
  intro n hn
  obtain ⟨q, hq, rfl⟩ := List.mem_map.1 hn
  exact firstP_i64 hb _ _ q hq
theorem Up.str_inv {u : Up} {m : Int} (hu : u.ok) (h : (u.str m).2.e = 0) : u.e = 0 ∧ u.b = form ((u.str m).1.length : Int) ++ ((u.str m).1 ++ (u.str m).2.b) := by
  have hr := Up.int_range (u := u) (lo := 0) (hi := max 0 m) (by omega) (by omega)
  unfold Up.str at h ⊢
  split at h
  · rename_i h1; exact absurd h h1
  · rename_i h1
    rw [if_neg h1]
    split at h
    · simp at h
    · rename_i h2
      rw [if_neg h2]
      obtain ⟨e1, e2, e3, e4⟩ := Up.int_inv (lo := 0) (hi := max 0 m) hu.1 (by simpa using h1)
      refine ⟨e1, ?_⟩
      simp only
      rw [List.take_append_drop, List.length_take, show ((min (u.int 0 (max 0 m)).1.toNat (u.int 0 (max 0 m)).2.b.length : Nat) : Int) = (u.int 0 (max 0 m)).1 by omega]
      exact e2
end Go.Abs
