/- Plain: sessions with nothing under way; packets and their bytes. -/
import Derived.Test.YtanfmpkjcoolmaaGreatPackPlain3
import Derived.Test.YtanfmpkjcoolmaaGreatPackPlain4
import Derived.Test.YtanfmpkjcoolmaaGreatPackPlain5
import Derived.Test.YtanfmpkjcoolmaaGreatLeaseBytesPlain
import Derived.Test.YtanfmpkjcoolmaaGreatAbsZi
set_option linter.unusedVariables false
namespace Go.Abs
def posN (n : Int) : Bool := decide (n ≥ 1) && decide (n ≤ 9007199254740992)
def numN (n : Int) : Bool := decide (n ≥ 0) && decide (n ≤ 9007199254740992)
structure Ss where
  b : Int
  p : Int
  s : Int
  a : Int
  e : Int
abbrev ssz (x : Ss) : List D := [vi x.b, vi x.p, vi x.s, vi x.a, vi x.e, .sl none [] .ro]
structure Pq where
  b : Int
  p : Int
  s : Int
  a : Int
  l : List Int
abbrev pqz (x : Pq) : List D := [vi x.b, vi x.p, vi x.s, vi x.a, bys x.l]
def Ss.may (x : Ss) : Prop := (1 ≤ x.b ∧ x.b ≤ 9007199254740992) ∧ (0 ≤ x.p ∧ x.p ≤ 9007199254740992) ∧ (0 ≤ x.s ∧ x.s ≤ 9007199254740992) ∧ (0 ≤ x.a ∧ x.a ≤ 9007199254740992) ∧ (1 ≤ x.e ∧ x.e ≤ 9007199254740992) ∧ x.s = x.a
instance (x : Ss) : Decidable x.may := inferInstanceAs (Decidable (_ ∧ _))
def Ss.chk (x : Ss) : Int := if x.may then 0 else 1
def Pq.may (x : Pq) : Prop := (1 ≤ x.b ∧ x.b ≤ 9007199254740992) ∧ (0 ≤ x.p ∧ x.p ≤ 9007199254740992) ∧ (0 ≤ x.s ∧ x.s ≤ 9007199254740992) ∧ (0 ≤ x.a ∧ x.a ≤ 9007199254740992) ∧ x.l.length ≤ 131072 ∧ ¬ (x.s = 0 ∧ 0 < x.l.length)
instance (x : Pq) : Decidable x.may := inferInstanceAs (Decidable (_ ∧ _))
def Pq.chk (x : Pq) : Int := if x.may then 0 else 1
def Pq.z : Pq := ⟨0, 0, 0, 0, []⟩
theorem Ss.chk0 {x : Ss} : x.chk = 0 ↔ x.may := by unfold Ss.chk; split <;> simp_all
theorem Pq.chk0 {x : Pq} : x.chk = 0 ↔ x.may := by unfold Pq.chk; split <;> simp_all
def Ss.answer (x : Ss) : Pq := if x.chk ≠ 0 then Pq.z else ⟨x.b, x.p, 0, x.e - 1, []⟩
def Ss.meet (x : Ss) (p : Pq) : Ss := if p.b > x.p then ⟨x.b, p.b, 0, 0, 1⟩ else x
def Ss.take (x : Ss) (p : Pq) : Ss × List Int × Bool :=
  if x.chk ≠ 0 ∨ p.chk ≠ 0 ∨ p.b < x.p then (x, [], false)
  else if p.p ≠ (x.meet p).b then (x.meet p, [], false)
  else if p.s ≠ (x.meet p).e ∨ (x.meet p).e ≥ 9007199254740992 then (x.meet p, [], false)
  else (⟨(x.meet p).b, (x.meet p).p, (x.meet p).s, (x.meet p).a, (x.meet p).e + 1⟩, p.l, true)
namespace Pq
def four (x : Pq) : List Int := [x.b, x.p, x.s, x.a]
def bytes (x : Pq) : List Int := if x.chk ≠ 0 then [] else forms x.four ++ forms [(x.l.length : Int)] ++ x.l
theorem four_i64 {x : Pq} (h : x.chk = 0) : ∀ n ∈ x.four, -9223372036854775808 ≤ n ∧ n ≤ 9223372036854775807 := by
  rw [chk0] at h
  obtain ⟨h1, h2, h3, h4, _⟩ := h
  intro n hn
  simp only [four, List.mem_cons, List.not_mem_nil, or_false] at hn
  rcases hn with rfl | rfl | rfl | rfl <;> constructor <;> omega
def parse (b : List Int) : Pq × Int :=
  let r1 := Up.w ⟨b, 0⟩; let r2 := r1.2.w; let r3 := r2.2.w; let r4 := r3.2.w; let r5 := r4.2.str 131072
  if r5.2.close ≠ 0 then (z, r5.2.close) else if (⟨r1.1, r2.1, r3.1, r4.1, r5.1⟩ : Pq).chk ≠ 0 then (z, (⟨r1.1, r2.1, r3.1, r4.1, r5.1⟩ : Pq).chk) else (⟨r1.1, r2.1, r3.1, r4.1, r5.1⟩, 0)
theorem bytes_byt {x : Pq} (hb : Byt x.l) : Byt x.bytes := by
  unfold bytes; split
  · intro a ha; cases ha
  · intro a ha
    rcases List.mem_append.1 ha with h | h
    · rcases List.mem_append.1 h with h | h <;> exact forms_byt _ a h
    · exact hb a h
theorem bytes_l40 {x : Pq} : L40 x.bytes := by
  unfold bytes; split
  · simp [L40]
  · rename_i h
    have h0 : x.chk = 0 := by simpa using h
    have h4 := forms_len' x.four (four_i64 h0)
    have hm := (chk0.1 h0).2.2.2.2.1
    have h1 := forms_len' [(x.l.length : Int)] (by intro n hn; simp at hn; subst hn; constructor <;> omega)
    simp only [L40, List.length_append, four, List.length_cons, List.length_nil] at *
    omega
theorem parse_bytes {x : Pq} (h : x.chk = 0) : parse x.bytes = (x, 0) := by
  have h6 := four_i64 h
  simp only [four, List.mem_cons, List.not_mem_nil, or_false, forall_eq_or_imp, forall_eq] at h6
  obtain ⟨h1, h2, h3, h4⟩ := h6
  have hm := (chk0.1 h).2.2.2.2.1
  have hb : x.bytes = form x.b ++ (form x.p ++ (form x.s ++ (form x.a ++ (form (x.l.length : Int) ++ (x.l ++ []))))) := by
    unfold bytes; rw [if_neg (by simp [h])]; simp [four, forms]
  rw [hb]
  simp only [parse, Up.w_form h1.1 h1.2, Up.w_form h2.1 h2.2, Up.w_form h3.1 h3.2, Up.w_form h4.1 h4.2, Up.str_form (x := x.l) (by omega) (m := 131072) (by omega)]
  have hc : Up.close ⟨[], 0⟩ = 0 := rfl
  rw [hc, if_neg (by simp)]
  rw [show (⟨x.b, x.p, x.s, x.a, x.l⟩ : Pq) = x from rfl, if_neg (by simp [h])]
end Pq
def Ss.new (n : Int) : Ss := if posN n = true then ⟨n, 0, 0, 0, 1⟩ else ⟨0, 0, 0, 0, 0⟩
end Go.Abs
