/- Plain: a lease's bytes. -/
import Derived.Test.YtanfmpkjcoolmaaLeasePlain
import Derived.Test.YtanfmpkjcoolmaaMirrorPlain
import Derived.Test.YtanfmpkjcoolmaaPackPlain3
set_option linter.unusedVariables false
namespace Go.Abs
namespace Ls
def six (l : Ls) : List Int := [l.o, l.la, l.e, l.c, l.u, if l.s = true then 1 else 0]
def bytes (l : Ls) : List Int := if l.chk ≠ 0 then [] else forms l.six
def z : Ls := ⟨0, 0, 0, 0, 0, false⟩
def parse (b : List Int) : Ls × Int :=
  let r1 := Up.w ⟨b, 0⟩; let r2 := r1.2.w; let r3 := r2.2.w; let r4 := r3.2.w; let r5 := r4.2.w; let r6 := r5.2.flag
  if r6.2.close ≠ 0 then (z, r6.2.close) else if (⟨r1.1, r2.1, r3.1, r4.1, r5.1, r6.1 == 1⟩ : Ls).chk ≠ 0 then (z, (⟨r1.1, r2.1, r3.1, r4.1, r5.1, r6.1 == 1⟩ : Ls).chk) else (⟨r1.1, r2.1, r3.1, r4.1, r5.1, r6.1 == 1⟩, 0)
theorem bytes_byt (l : Ls) : Byt l.bytes := by
  unfold bytes; split
  · intro x hx; cases hx
  · exact forms_byt _
end Ls
end Go.Abs
