/- What a lease's calls answer: plain. -/
import Derived.Test.YtanfmpkjcoolmaaGreatAbsN
namespace Go.Abs
structure Ls where
  o : Int
  la : Int
  e : Int
  c : Int
  u : Int
  s : Bool
abbrev lz (l : Ls) : D := .agg [.val (.int .i64 l.o), .val (.int .i64 l.la), .val (.int .i64 l.e), .val (.int .i64 l.c), .val (.int .i64 l.u), .val (.bool l.s)]
namespace Ls
def reg (n : Int) : Bool := decide (n ≥ 0) && decide (n < 2)
def num (n : Int) : Bool := decide (n ≥ 0) && decide (n ≤ 9007199254740992)
def bad1 (l : Ls) : Bool := (l.o != -1 && !reg l.o || l.la != -1 && !reg l.la) || !num l.e || !num l.c || !num l.u
def bad2 (l : Ls) : Bool := ((l.o != -1 && l.o != l.la || l.la == -1 && (l.e != 0 || l.s)) || l.la != -1 && l.e == 0) || l.o == -1 && decide (l.u > l.c)
def chk (l : Ls) : Int := if l.bad1 = true then 1 else if l.bad2 = true then 1 else 0
def held (l : Ls) : Bool := (l.chk == 0 && l.o != -1) && decide (l.u > l.c)
def more (a b : Int) : Int := if b > 9007199254740992 - a then 9007199254740992 else a + b
def new : Ls := ⟨-1, -1, 0, 0, 0, false⟩
def grant (l : Ls) (r : Int) : Ls := ⟨r, r, l.e + 1, l.c, more l.c 16, l.s && l.la == r⟩
def acq (l : Ls) (r : Int) : Ls × Int × Int :=
  if (l.chk != 0 || !reg r) = true then (l, 0, 1) else if (l.held && l.o != r) = true then (l, 0, 130) else if (l.s && l.la != r) = true then (l, 0, 131) else if (l.e == 9007199254740992) = true then (l, 0, 6) else (l.grant r, l.e + 1, 0)
def mine (l : Ls) (r ep : Int) : Int := if (l.chk != 0 || !reg r) = true then 1 else if (l.o != r || l.e != ep) = true then 132 else 0
def renew (l : Ls) (r ep : Int) : Ls × Int := if l.mine r ep = 0 then (⟨l.o, l.la, l.e, l.c, more l.c 16, l.s⟩, 0) else (l, l.mine r ep)
def rel (l : Ls) (r ep : Int) : Ls × Int := if l.mine r ep = 0 then (⟨-1, l.la, l.e, l.c, l.c, l.s⟩, 0) else (l, l.mine r ep)
def alone (l : Ls) (r ep : Int) (b : Bool) : Ls × Int := if l.mine r ep = 0 then (⟨l.o, l.la, l.e, l.c, l.u, b⟩, 0) else (l, l.mine r ep)
def tra (l : Ls) (r ep to : Int) : Ls × Int × Int :=
  if (!reg to || to == r) = true then (l, 0, 1) else if l.mine r ep ≠ 0 then (l, 0, l.mine r ep) else if l.s = true then (l, 0, 131) else if (l.e == 9007199254740992) = true then (l, 0, 6) else (l.grant to, l.e + 1, 0)
def tick (l : Ls) (n : Int) : Ls := if (l.chk == 0 && decide (n > 0)) = true then ⟨l.o, l.la, l.e, more l.c n, l.u, l.s⟩ else l
end Ls
/-- One call that is asked for. -/
structure Ak where
  d : Int
  r : Int
  e : Int
  own : Bool
  t : Int
  n : Int
  s : Bool
abbrev az (a : Ak) : List D := [.val (.int .i64 a.d), .val (.int .i64 a.r), .val (.int .i64 a.e), .val (.bool a.own), .val (.int .i64 a.t), .val (.int .i64 a.n), .val (.bool a.s)]
namespace Ls
def ep (l : Ls) (a : Ak) : Int := if a.own = true then l.e else a.e
def ask (l : Ls) (a : Ak) : Ls × Int × Int :=
  if a.d = 1 then l.acq a.r else if a.d = 2 then ((l.renew a.r (l.ep a)).1, 0, (l.renew a.r (l.ep a)).2) else if a.d = 3 then ((l.rel a.r (l.ep a)).1, 0, (l.rel a.r (l.ep a)).2)
  else if a.d = 4 then l.tra a.r (l.ep a) a.t else if a.d = 5 then ((l.alone a.r (l.ep a) a.s).1, 0, (l.alone a.r (l.ep a) a.s).2) else (l.tick a.n, 0, 0)
end Ls
end Go.Abs
