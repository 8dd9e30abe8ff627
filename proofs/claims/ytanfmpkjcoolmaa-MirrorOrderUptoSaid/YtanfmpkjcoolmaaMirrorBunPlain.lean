/- Plain: lists in bundles. -/
import Derived.Test.YtanfmpkjcoolmaaMirrorTherePlain
import Derived.Test.YtanfmpkjcoolmaaEventPlain5
import Derived.Test.YtanfmpkjcoolmaaAbsZf
set_option linter.unusedVariables false
namespace Go.Abs
abbrev Bn := Int × Int × List En
abbrev bz (b : Bn) : List D := [vi b.1, vi b.2.1, .sl none (b.2.2.map ez) .ro]
def chunk (l : List En) (k : Nat) : List En := (l.take (8 * k + 8)).drop (8 * k)
def cnt (l : List En) : Nat := (l.length + 7) / 8
def chunks (l : List En) : List (List En) := (List.range (cnt l)).map (chunk l)
def bun (p q : Int) (l : List En) : List Bn := (List.range (cnt l)).map fun k => (p, q + ((min (8 * k) l.length : Nat) : Int), chunk l k)
theorem chunks_len (l : List En) : (chunks l).length = cnt l := by simp [chunks]
theorem bun_len (p q : Int) (l : List En) : (bun p q l).length = cnt l := by simp [bun]
theorem chunks_at {l : List En} {k : Nat} (h : 8 * k < l.length) : (chunks l)[k]? = some (chunk l k) := by
  unfold chunks; rw [List.getElem?_map, List.getElem?_range (by unfold cnt; omega)]; rfl
theorem bun_at {p q : Int} {l : List En} {k : Nat} (h : k < cnt l) : (bun p q l)[k]? = some (p, q + ((min (8 * k) l.length : Nat) : Int), chunk l k) := by
  unfold bun; rw [List.getElem?_map, List.getElem?_range h]; rfl
theorem chunk_len {l : List En} {k : Nat} (h : 8 * k < l.length) : (chunk l k).length = min 8 (l.length - 8 * k) := by
  unfold chunk; rw [List.length_drop, List.length_take]; omega
theorem chunk_le (l : List En) (k : Nat) : (chunk l k).length ≤ 8 := by
  unfold chunk; rw [List.length_drop, List.length_take]; omega
theorem chunk_next {l : List En} {k : Nat} (h : 8 * k < l.length) : min (8 * k) l.length + (chunk l k).length = min (8 * (k + 1)) l.length := by
  rw [chunk_len h]; omega
theorem cnt_lt {l : List En} {k : Nat} (h : k < cnt l) : 8 * k < l.length := by unfold cnt at h; omega
theorem cnt_ge {l : List En} {k : Nat} (h : ¬ 8 * k < l.length) (hk : k ≤ cnt l) : k = cnt l := by unfold cnt at *; omega
theorem lt_cnt {l : List En} {k : Nat} (h : 8 * k < l.length) : k < cnt l := by unfold cnt; omega
theorem bz_lf (b : Bn) : ∀ d ∈ bz b, LF d := lf_cons (.val _) (lf_cons (.val _) (lf_cons (lf_map (f := ez) (fun _ => rfl) (.inl rfl)) lf_nil))
theorem flat_bun (p q : Int) (l : List En) : ∀ k, k ≤ cnt l → ((bun p q l).take k).flatMap (·.2.2) = l.take (8 * k)
  | 0, _ => by simp
  | k + 1, h => by
    rw [take_snoc (bun_at (by omega)), List.flatMap_append, flat_bun p q l k (by omega)]
    simp only [List.flatMap_cons, List.flatMap_nil, List.append_nil, chunk]
    have h1 := List.take_append_drop (8 * k) (l.take (8 * k + 8))
    rw [List.take_take, Nat.min_eq_left (by omega)] at h1
    rw [h1]; congr 1
theorem take_chunk (l : List En) (k : Nat) : l.take (8 * k) ++ chunk l k = l.take (8 * (k + 1)) := by
  unfold chunk
  have h1 := List.take_append_drop (8 * k) (l.take (8 * k + 8))
  rw [List.take_take, Nat.min_eq_left (by omega)] at h1
  rw [h1]; congr 1
theorem acc_len (e p q : Int) (l : List En) : (accept e p q l).1.length ≤ l.length := by
  unfold accept; (repeat' split) <;> simp
theorem flat_all (p q : Int) (l : List En) : (bun p q l).flatMap (·.2.2) = l := by
  have h := flat_bun p q l (cnt l) (Nat.le_refl _)
  rw [List.take_of_length_le (by rw [bun_len]; exact Nat.le_refl _), List.take_of_length_le (by unfold cnt; omega)] at h
  exact h
theorem lf_fn2 {f : Fn} {a b : List D} (h : ∀ d ∈ a, LF d) (k : ∀ d ∈ b, LF d) : LF (.fn f [] [.rp a, .rp b]) := .fn (fun d h => by cases h) (lf_cons (.rp h) (lf_cons (.rp k) lf_nil))
theorem lf_fn3 {f : Fn} {a b c : List D} (h : ∀ d ∈ a, LF d) (k : ∀ d ∈ b, LF d) (j : ∀ d ∈ c, LF d) : LF (.fn f [] [.rp a, .rp b, .rp c]) := .fn (fun d h => by cases h) (lf_cons (.rp h) (lf_cons (.rp k) (lf_cons (.rp j) lf_nil)))
theorem lf_vi {n : Int} : ∀ d ∈ [vi n], LF d := lf_cons (.val _) lf_nil
section
variable {P : Program} {N : Nat} {ops : Array Oper} {l : List Oper} {Q : Exit → Tm → List Ob → Prop} {tm : Tm} {S : List Ob}
theorem AOps.toRo {t : Nat} {nl : Option Bool} {xs : List (List D)} {c : Cap} (h : AOps P N ops l Q (put tm t (.sl none xs .ro)) S) : AOps P N ops l Q (put tm t (.sl nl xs c)) S := fun ro g a w st =>
  h ro g a w ⟨st.size, st.based, st.once, st.defers, fun i => by
    by_cases e : i = t
    · subst e
      have := st.slots i
      rw [put_same] at this ⊢
      exact this.ro_ (fun _ _ => rfl)
    · have := st.slots i
      rw [put_other _ _ e] at this ⊢
      exact this, st.sim⟩
end
end Go.Abs
