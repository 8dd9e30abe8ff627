/- Plain: records between barriers. -/
import Derived.Test.YtanfmpkjcoolmaaEventPlain4
set_option linter.unusedVariables false
set_option linter.unusedSimpArgs false
namespace Go.Abs
abbrev Ep := Int × List Rc
abbrev epz (e : Ep) : List D := [vi e.1, .sl none (e.2.map rz) .ro]
def stepE (s : List Ep × List Rc) (x : Ev) : List Ep × List Rc := if x.c = 1 then (s.1, s.2 ++ [x.rc]) else if x.c = 2 then (s.1 ++ [(x.i, s.2)], []) else s
def epsS (l : List Ev) : List Ep × List Rc := l.foldl stepE ([], [])
def eps (l : List Ev) : List Ep := (epsS l).1 ++ (if (epsS l).2.length > 0 then [(0, (epsS l).2)] else [])
end Go.Abs
namespace Go.Abs
end Go.Abs
namespace Go.Abs
def ups (l : List Ev) : List Rc := ((eps l)[0]?.map (·.2)).getD []
/-- Nothing is so. -/
abbrev Never : Ob := .seen (fun _ _ _ _ => False) none
theorem AWP.never {P : Program} {N : Nat} {Q : Exit → Tm → List Ob → Prop} {tm : Tm} {S : List Ob} {c : Code} {j : Nat} (h : S[j]? = some Never) : AWP P N c Q tm S := fun ro hro g a w st => by
  obtain ⟨B, h1, h2⟩ := st.sim.obs j _ h
  exact (h2 g.lim w (.refl w) (fun _ _ => ⟨rfl, rfl⟩) (fun _ _ h => h) st.sim.lim).elim
end Go.Abs
namespace Go.Abs
end Go.Abs
