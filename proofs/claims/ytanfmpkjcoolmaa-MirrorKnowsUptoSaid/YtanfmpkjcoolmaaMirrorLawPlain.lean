/- One step of what an owner knows: plain. -/
import Derived.Test.YtanfmpkjcoolmaaMirrorPlain
namespace Go.Abs
structure Kn where
  d : Int
  a : Int
  b : Int
abbrev kz (x : Kn) : List D := [.val (.int .i64 x.d), .val (.int .i64 x.a), .val (.int .i64 x.b)]
namespace Sd
def step (s : Sd) (k : Kn) : Sd := if k.d = 0 then s.joined k.a else if k.d = 1 then s.next.2.2 else if k.d = 2 then s.back else if k.d = 3 then s.acked k.a else s.grown k.a k.b
end Sd
end Go.Abs
