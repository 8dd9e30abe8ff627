/- Plain: the numbers with which bytes begin. -/
import Derived.Test.YtanfmpkjcoolmaaGreatPackPlain4
import Derived.Test.YtanfmpkjcoolmaaGreatEventPlain2
import Derived.Test.YtanfmpkjcoolmaaGreatAbsN
set_option linter.unusedVariables false
namespace Go.Abs
abbrev NP := Int × Int
abbrev npz (p : NP) : List D := [vi p.1, vi p.2]
def numsF (b : List Int) : Nat → Nat → List NP
  | 0, _ => []
  | f + 1, p => if (firstP (b.drop p)).2.2 ≠ 0 then [] else ((firstP (b.drop p)).1, ((p + (firstP (b.drop p)).2.1 : Nat) : Int)) :: numsF b f (p + (firstP (b.drop p)).2.1)
def nums (b : List Int) : List NP := numsF b (b.length + 1) 0
/-- Of the numbers pre are read, up to p. -/
structure NS (b : List Int) (pre : List NP) (p f : Nat) : Prop where
  le : p ≤ b.length
  fuel : b.length - p < f
  eq : nums b = pre ++ numsF b f p
  cnt : pre.length ≤ p
  frm : b.take p = pre.flatMap (fun q => form q.1)
  last : ∀ q, pre.getLast? = some q → q.2 = p
  zero : pre = [] → p = 0
theorem NS.stop {b : List Int} {pre : List NP} {p f : Nat} (h : NS b pre p f) (he : (firstP (b.drop p)).2.2 ≠ 0) : nums b = pre := by
  have hf := h.fuel
  obtain ⟨f, rfl⟩ : ∃ g, f = g + 1 := ⟨f - 1, by omega⟩
  rw [h.eq, numsF, if_pos he, List.append_nil]
theorem NS.full {b : List Int} {pre : List NP} {p f : Nat} (h : NS b pre p f) (he : ¬ p < b.length) : nums b = pre := by
  refine h.stop ?_
  rw [List.drop_eq_nil_of_le (by omega)]
  simp [firstP, firstG]
theorem NS.next {b : List Int} (hb : Byt b) {pre : List NP} {p f : Nat} (h : NS b pre p f) (he : (firstP (b.drop p)).2.2 = 0) :
    NS b (pre ++ [((firstP (b.drop p)).1, ((p + (firstP (b.drop p)).2.1 : Nat) : Int))]) (p + (firstP (b.drop p)).2.1) (f - 1) ∧
    (nums b)[pre.length]? = some ((firstP (b.drop p)).1, ((p + (firstP (b.drop p)).2.1 : Nat) : Int)) := by
  have hf := h.fuel
  have hbd := firstP_bd he
  rw [List.length_drop] at hbd
  have hle := h.le
  have hc := h.cnt
  obtain ⟨f, rfl⟩ : ∃ g, f = g + 1 := ⟨f - 1, by omega⟩
  have e := h.eq
  rw [numsF, if_neg (by simp [he])] at e
  refine ⟨⟨by omega, by omega, by rw [e]; simp, by simp; omega, ?_, ?_, by simp⟩, by rw [e]; simp⟩
  · have hi := firstP_inv (hb.drop p) he
    have h1 : b.take (p + (firstP (b.drop p)).2.1) = b.take p ++ (b.drop p).take (firstP (b.drop p)).2.1 := by rw [List.take_add]
    have h2 : (b.drop p).take (firstP (b.drop p)).2.1 = form (firstP (b.drop p)).1 := by
      have hl : (form (firstP (b.drop p)).1).length = (firstP (b.drop p)).2.1 := by
        have := congrArg List.length hi
        simp only [List.length_append, List.length_drop] at this
        omega
      conv => lhs; arg 2; rw [hi]
      rw [← hl, List.take_left]
    rw [h1, h2, h.frm]; simp
  · intro q hq
    rw [List.getLast?_append] at hq
    simp at hq
    rw [← hq]
    simp
theorem nums_len (b : List Int) : (nums b).length ≤ b.length := by
  have key : ∀ f pre p, NS b pre p f → Byt b → True := fun _ _ _ _ _ => trivial
  have : ∀ (f p : Nat), p ≤ b.length → (numsF b f p).length ≤ b.length - p := by
    intro f
    induction f with
    | zero => intro p _; simp [numsF]
    | succ f ih =>
      intro p hp
      rw [numsF]
      split
      · simp
      · rename_i h
        have hbd := firstP_bd (b := b.drop p) (by simpa using h)
        rw [List.length_drop] at hbd
        have := ih (p + (firstP (b.drop p)).2.1) (by omega)
        simp only [List.length_cons]; omega
  exact this _ 0 (Nat.zero_le _)
end Go.Abs
namespace Go.Abs
theorem firstP_i64 {b : List Int} (hb : Byt b) : ∀ (f p : Nat), ∀ q ∈ numsF b f p, -9223372036854775808 ≤ q.1 ∧ q.1 ≤ 9223372036854775807
  | 0, p, q, h => by simp [numsF] at h
  | f + 1, p, q, h => by
    rw [numsF] at h
    split at h
    · cases h
    · rcases List.mem_cons.1 h with rfl | h
      · exact firstP_num (hb.drop p)
      · exact firstP_i64 hb f _ q h
theorem nums_i64 {b : List Int} (hb : Byt b) : ∀ n ∈ (nums b).map (·.1), -9223372036854775808 ≤ n ∧ n ≤ 9223372036854775807 := by
  intro n hn
  obtain ⟨q, hq, rfl⟩ := List.mem_map.1 hn
  exact firstP_i64 hb _ _ q hq
end Go.Abs
