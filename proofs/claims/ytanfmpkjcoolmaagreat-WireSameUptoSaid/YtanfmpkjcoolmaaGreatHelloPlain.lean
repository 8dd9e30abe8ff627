/- Plain: the hello message. -/
import Derived.Test.YtanfmpkjcoolmaaGreatWirePlain
import Derived.Test.YtanfmpkjcoolmaaGreatSessPlain
set_option linter.unusedVariables false
namespace Go.Abs
abbrev h0 : Wr := ⟨13, 1, 0, 3, 0, 0, false, 0, ⟨0, 0, 0, [], []⟩, 0, 0, 0, [], 0, [], 0, 0, [], 0, []⟩
abbrev h1 : Wr := ⟨13, 1, 0, 0, 0, 0, false, 0, ⟨0, 0, 0, [], []⟩, 0, 0, 0, [], 0, [], 0, 0, [], 0, []⟩
theorem h0_sz : h0.Sz := ⟨Nat.zero_le _, Nat.zero_le _, Nat.zero_le _, Nat.zero_le _, fun t h => (by cases h), Nat.zero_le _, Nat.zero_le _, fun x h => (by cases h), Nat.zero_le _⟩
theorem hello_b : ([] ++ forms [13, 1]) ++ forms [3] = [26, 2, 6] := by
  simp [forms, form, formN, natN, hiD_zero]
theorem hello_1 : Up.int ⟨[26, 2, 6], 0⟩ 1 20 = (13, ⟨[2, 6], 0⟩) := rfl
theorem hello_2 : Up.int ⟨[2, 6], 0⟩ 0 1 = (1, ⟨[6], 0⟩) := rfl
theorem hello_3 : Up.int ⟨[6], 0⟩ 1 9007199254740992 = (3, ⟨[], 0⟩) := rfl
theorem hello_c : Up.close ⟨[], 0⟩ = 0 := rfl
theorem wz_lf (w : Wr) : LF (.agg (wz w)) := by
  have v : ∀ x, LF (.val x) := fun _ => .val _
  have q : ∀ l : List Q4, LF (.sl none (l.map q4) .ro) := fun l => lf_mapG (fun q d hd => by simp only [q4, List.mem_cons, List.not_mem_nil, or_false] at hd; rcases hd with rfl | rfl | rfl | rfl <;> exact .val _) (.inl rfl)
  have r : ∀ l : List (Int × Int), LF (.sl none (l.map q2) .ro) := fun l => lf_mapG (fun q d hd => by simp only [q2, List.mem_cons, List.not_mem_nil, or_false] at hd; rcases hd with rfl | rfl <;> exact .val _) (.inl rfl)
  have i : ∀ l : List Int, LF (.sl none (l.map q1) .ro) := fun l => lf_mapG (fun q d hd => by simp only [q1, List.mem_cons, List.not_mem_nil, or_false] at hd; subst hd; exact .val _) (.inl rfl)
  have t : ∀ l : List (List Q4 × Int), LF (.sl none (l.map qt) .ro) := fun l => lf_mapG (fun t d hd => by simp only [qt, List.mem_cons, List.not_mem_nil, or_false] at hd; rcases hd with rfl | rfl; exact q _; exact .val _) (.inl rfl)
  exact .agg (lf_cons (v _) (lf_cons (v _) (lf_cons (v _) (lf_cons (v _) (lf_cons (v _) (lf_cons (v _) (lf_cons (v _) (lf_cons (v _) (lf_cons (v _) (lf_cons (v _) (lf_cons (v _) (lf_cons (r _) (lf_cons (i _) (lf_cons (v _) (lf_cons (v _) (lf_cons (v _) (lf_cons (i _) (lf_cons (v _) (lf_cons (t _) (lf_cons (v _) (lf_cons (v _) (lf_cons (q _) (lf_cons (v _) (lf_cons (lf_ints (.inl rfl)) lf_nil))))))))))))))))))))))))
end Go.Abs
