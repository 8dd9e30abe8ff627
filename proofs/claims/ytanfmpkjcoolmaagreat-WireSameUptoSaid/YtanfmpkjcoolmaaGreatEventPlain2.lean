/- Plain: events read out of bytes. -/
import Derived.Test.YtanfmpkjcoolmaaGreatEventPlain
set_option linter.unusedVariables false
namespace Go.Abs
def Ev.zero : Ev := ⟨0, 0, 0, 0⟩
def Up.take (u : Up) : Ev × Up :=
  if (u.int 1 2).1 = 2 then (if ((u.int 1 2).2.int 1 9007199254740992).2.e ≠ 0 then Ev.zero else ⟨(u.int 1 2).1, 0, 0, ((u.int 1 2).2.int 1 9007199254740992).1⟩, ((u.int 1 2).2.int 1 9007199254740992).2)
  else (if (u.int 1 2).2.w.2.w.2.e ≠ 0 then Ev.zero else ⟨(u.int 1 2).1, (u.int 1 2).2.w.1, (u.int 1 2).2.w.2.w.1, 0⟩, (u.int 1 2).2.w.2.w.2)
def Up.takes : Nat → Up → List Ev × Up
  | 0, u => ([], u)
  | k + 1, u => if u.e ≠ 0 then ([], u) else (u.take.1 :: (takes k u.take.2).1, (takes k u.take.2).2)
def Ev.parse (b : List Int) : List Ev × Int :=
  if (Up.takes (Up.int ⟨b, 0⟩ 0 4096).1.toNat (Up.int ⟨b, 0⟩ 0 4096).2).2.close ≠ 0 then ([], (Up.takes (Up.int ⟨b, 0⟩ 0 4096).1.toNat (Up.int ⟨b, 0⟩ 0 4096).2).2.close)
  else ((Up.takes (Up.int ⟨b, 0⟩ 0 4096).1.toNat (Up.int ⟨b, 0⟩ 0 4096).2).1, 0)
def Ev.rparse (b : List Int) : (Int × Int) × Int :=
  if (Up.w ⟨b, 0⟩).2.w.2.close ≠ 0 then ((0, 0), (Up.w ⟨b, 0⟩).2.w.2.close) else (((Up.w ⟨b, 0⟩).1, (Up.w ⟨b, 0⟩).2.w.1), 0)
end Go.Abs
