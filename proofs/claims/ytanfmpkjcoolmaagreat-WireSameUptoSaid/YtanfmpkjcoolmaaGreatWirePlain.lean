/- Plain: messages, and which are the same. -/
import Derived.Test.YtanfmpkjcoolmaaGreatAbsZu
import Derived.Test.YtanfmpkjcoolmaaGreatPackPlain5
set_option linter.unusedVariables false
namespace Go.Abs
abbrev Q4 := Int × Int × Int × Int
abbrev q4 (q : Q4) : List D := [vi q.1, vi q.2.1, vi q.2.2.1, vi q.2.2.2]
abbrev q2 (q : Int × Int) : List D := [vi q.1, vi q.2]
abbrev q1 (n : Int) : List D := [vi n]
abbrev qt (t : List Q4 × Int) : List D := [.sl none (t.1.map q4) .ro, vi t.2]
structure Tx where
  e : Int
  i : Int
  b : Int
  r : List (Int × Int)
  v : List Int
structure Wr where
  kd : Int
  rg : Int
  rq : Int
  ep : Int
  to : Int
  dd : Int
  fl : Bool
  er : Int
  tx : Tx
  ke : Int
  ki : Int
  ln : Int
  vc : List Int
  nm : Int
  tb : List (List Q4 × Int)
  pt : Int
  ps : Int
  en : List Q4
  ch : Int
  by_ : List Int
abbrev txz (t : Tx) : List D := [vi t.e, vi t.i, vi t.b, .sl none (t.r.map q2) .ro, .sl none (t.v.map q1) .ro]
abbrev wz (w : Wr) : List D :=
  [vi w.kd, vi w.rg, vi w.rq, vi w.ep, vi w.to, vi w.dd, vb w.fl, vi w.er, vi w.tx.e, vi w.tx.i, vi w.tx.b, .sl none (w.tx.r.map q2) .ro, .sl none (w.tx.v.map q1) .ro, vi w.ke, vi w.ki, vi w.ln,
    .sl none (w.vc.map q1) .ro, vi w.nm, .sl none (w.tb.map qt) .ro, vi w.pt, vi w.ps, .sl none (w.en.map q4) .ro, vi w.ch, bys w.by_]
theorem eq_take {α : Type} {l m : List α} {i : Nat} {x : α} (h : l.take i = m.take i) (hx : l[i]? = some x) (hy : m[i]? = some x) : l.take (i + 1) = m.take (i + 1) := by
  rw [List.take_add_one, List.take_add_one, h, hx, hy]
theorem eq_all {α : Type} {l m : List α} (hl : l.length = m.length) (h : l.take l.length = m.take l.length) : l = m := by
  rw [List.take_length] at h; rw [h, hl, List.take_length]
theorem ne_at {α : Type} {l m : List α} {i : Nat} {x y : α} (hx : l[i]? = some x) (hy : m[i]? = some y) (h : x ≠ y) : l ≠ m := by
  rintro rfl; rw [hx] at hy; exact h (Option.some.inj hy)
theorem ne_len {α : Type} {l m : List α} (h : l.length ≠ m.length) : l ≠ m := fun e => h (by rw [e])
end Go.Abs
namespace Go.Abs
def sameT (a b : Tx) : Bool := decide (a.e = b.e) && decide (a.i = b.i) && decide (a.b = b.b) && decide (a.r = b.r) && decide (a.v = b.v)
def sameW (a b : Wr) : Bool :=
  decide (a.kd = b.kd) && decide (a.rg = b.rg) && decide (a.rq = b.rq) && decide (a.ep = b.ep) && decide (a.to = b.to) && decide (a.dd = b.dd) && decide (a.fl = b.fl) && decide (a.er = b.er) && sameT a.tx b.tx && (decide (a.ke = b.ke) && decide (a.ki = b.ki)) && decide (a.ln = b.ln) &&
    decide (a.vc = b.vc) && decide (a.nm = b.nm) && decide (a.tb = b.tb) && decide (a.pt = b.pt) && decide (a.ps = b.ps) && decide (a.en = b.en) && decide (a.ch = b.ch) && decide (a.by_ = b.by_)
theorem sameT_self (a : Tx) : sameT a a = true := by simp [sameT]
theorem sameW_self (a : Wr) : sameW a a = true := by simp [sameW, sameT_self]
structure Wr.Sz (w : Wr) : Prop where
  r : w.tx.r.length ≤ 1048576
  v : w.tx.v.length ≤ 1048576
  c : w.vc.length ≤ 1048576
  t : w.tb.length ≤ 1048576
  s : ∀ t ∈ w.tb, t.1.length ≤ 1048576
  e : w.en.length ≤ 1048576
  l : L40 w.by_
  b : Byt w.by_
  m : w.by_.length ≤ 1048576
end Go.Abs
namespace Go.Abs
def Sca (a b : Wr) : Prop := a.kd = b.kd ∧ a.rg = b.rg ∧ a.rq = b.rq ∧ a.ep = b.ep ∧ a.to = b.to ∧ a.dd = b.dd ∧ a.fl = b.fl ∧ a.er = b.er ∧ a.ke = b.ke ∧ a.ki = b.ki ∧ a.ln = b.ln ∧ a.nm = b.nm ∧ a.pt = b.pt ∧ a.ps = b.ps ∧ a.ch = b.ch
def Lis (a b : Wr) : Prop := sameT a.tx b.tx = true ∧ a.vc = b.vc ∧ a.en = b.en ∧ a.by_ = b.by_
theorem sameW_iff {a b : Wr} : sameW a b = true ↔ Sca a b ∧ Lis a b ∧ a.tb = b.tb := by
  unfold sameW Sca Lis
  simp only [Bool.and_eq_true, decide_eq_true_eq]
  constructor
  · rintro ⟨⟨⟨⟨⟨⟨⟨⟨⟨⟨⟨⟨⟨⟨⟨⟨⟨⟨h1, h2⟩, h3⟩, h4⟩, h5⟩, h6⟩, h7⟩, h8⟩, h9⟩, h10, h11⟩, h12⟩, h13⟩, h14⟩, h15⟩, h16⟩, h17⟩, h18⟩, h19⟩, h20⟩
    exact ⟨⟨h1, h2, h3, h4, h5, h6, h7, h8, h10, h11, h12, h14, h16, h17, h19⟩, ⟨h9, h13, h18, h20⟩, h15⟩
  · rintro ⟨⟨h1, h2, h3, h4, h5, h6, h7, h8, h10, h11, h12, h14, h16, h17, h19⟩, ⟨h9, h13, h18, h20⟩, h15⟩
    exact ⟨⟨⟨⟨⟨⟨⟨⟨⟨⟨⟨⟨⟨⟨⟨⟨⟨⟨h1, h2⟩, h3⟩, h4⟩, h5⟩, h6⟩, h7⟩, h8⟩, h9⟩, h10, h11⟩, h12⟩, h13⟩, h14⟩, h15⟩, h16⟩, h17⟩, h18⟩, h19⟩, h20⟩
theorem sameW_no {a b : Wr} (h : Sca a b → Lis a b → a.tb = b.tb → False) : sameW a b = false := by
  rw [Bool.eq_false_iff]
  intro q
  obtain ⟨h1, h2, h3⟩ := sameW_iff.1 q
  exact h h1 h2 h3
end Go.Abs
