/- Plain: sessions with what is under way. -/
import Derived.Test.YtanfmpkjcoolmaaGreatSessPlain
import Derived.Test.YtanfmpkjcoolmaaGreatAbsZr
import Derived.Test.YtanfmpkjcoolmaaGreatEventPlain5
set_option linter.unusedVariables false
namespace Go.Abs
structure Sq where
  b : Int
  p : Int
  s : Int
  a : Int
  e : Int
  q : List (List Int)
abbrev qe (y : List Int) : List D := [bys y]
abbrev sqc (x : Sq) (c : Cap) : List D := [vi x.b, vi x.p, vi x.s, vi x.a, vi x.e, .sl none (x.q.map qe) c]
abbrev sqz (x : Sq) : List D := sqc x .ro
theorem Does.toRo {P : Program} {f : FuncId} {ds : List D} {r r' : D} {T : List Ob} (h : Does P f ds [] r T) (hv : ∀ g w v, Rep g w v r → Rep g w v r') (hf : LF r') : Does P f ds [] r' [] := by
  intro g w vs hs hsz hr
  refine (h g w vs hs hsz hr).mono ?_
  rintro e w' ⟨v, g', rfl, hv1, hs', hl⟩
  refine ⟨v, g'.cut 0, rfl, (hv g' w' v hv1).un (.lf hf), ?_, hl.cut hs (Nat.le_refl _)⟩
  have := Sim.cut (S := []) (T := T) (by simpa using hs') (fun ob h => by cases h)
  exact this
abbrev MX : Int := 9007199254740992
structure Sq.Ok (x : Sq) : Prop where
  b : 1 ≤ x.b ∧ x.b ≤ MX
  p : 0 ≤ x.p ∧ x.p ≤ MX
  s : 0 ≤ x.s ∧ x.s ≤ MX
  a : 0 ≤ x.a ∧ x.a ≤ MX
  e : 1 ≤ x.e ∧ x.e ≤ MX
  d : x.s - x.a = (x.q.length : Int)
  m : x.q.length ≤ 16
  l : ∀ y ∈ x.q, y.length ≤ 131072
def Sq.pk (x : Sq) (n : Int) (l : List Int) : Pq := ⟨x.b, x.p, n, x.e - 1, l⟩
def Sq.meet (x : Sq) (p : Pq) : Sq := if p.b > x.p then ⟨x.b, p.b, 0, 0, 1, []⟩ else x
def Sq.ack (x : Sq) (p : Pq) : Sq := if p.a > x.a ∧ p.a ≤ x.s then { x with q := x.q.drop (p.a - x.a).toNat, a := p.a } else x
def Sq.take (x : Sq) (p : Pq) : Sq × List Int × Bool :=
  if p.b < x.p then (x, [], false)
  else if p.p ≠ (x.meet p).b then (x.meet p, [], false)
  else if p.s ≠ ((x.meet p).ack p).e ∨ ((x.meet p).ack p).e ≥ MX then ((x.meet p).ack p, [], false)
  else ({ (x.meet p).ack p with e := ((x.meet p).ack p).e + 1 }, p.l, true)
def Sq.send (x : Sq) (l : List Int) : Sq := { x with s := x.s + 1, q := x.q ++ [l] }
def Sq.again (x : Sq) : List Pq := (List.range x.q.length).map fun (i : Nat) => x.pk (x.a + (i : Int) + 1) (x.q.getD i [])
end Go.Abs
