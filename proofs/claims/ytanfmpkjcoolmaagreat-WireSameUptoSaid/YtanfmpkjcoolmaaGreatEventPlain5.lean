/- Plain: records between barriers. -/
import Derived.Test.YtanfmpkjcoolmaaGreatEventPlain4
set_option linter.unusedVariables false
set_option linter.unusedSimpArgs false
namespace Go.Abs
abbrev Ep := Int × List Rc
abbrev epz (e : Ep) : List D := [vi e.1, .sl none (e.2.map rz) .ro]
def stepE (s : List Ep × List Rc) (x : Ev) : List Ep × List Rc := if x.c = 1 then (s.1, s.2 ++ [x.rc]) else if x.c = 2 then (s.1 ++ [(x.i, s.2)], []) else s
def epsS (l : List Ev) : List Ep × List Rc := l.foldl stepE ([], [])
def eps (l : List Ev) : List Ep := (epsS l).1 ++ (if (epsS l).2.length > 0 then [(0, (epsS l).2)] else [])
theorem lf_mapG {α : Type} {f : α → List D} (hf : ∀ a, ∀ d ∈ f a, LF d) {nl : Option Bool} {l : List α} {c : Cap} (hc : c = .ro ∨ c = .full) : LF (.sl nl (l.map f) c) :=
  .sl (fun x hx d hd => by obtain ⟨a, _, rfl⟩ := List.mem_map.1 hx; exact hf a d hd) hc
theorem ren_mapG {ρ σ : Nat → Nat → Prop} {α : Type} {f : α → List D} (hf : ∀ a, ∀ d ∈ f a, LF d) {nl : Option Bool} {l : List α} {c : Cap} : Ren ρ σ (.sl nl (l.map f) c) (.sl none (l.map f) .ro) :=
  .ro (fun x hx d hd => by obtain ⟨a, _, rfl⟩ := List.mem_map.1 hx; exact hf a d hd)
end Go.Abs
namespace Go.Abs
end Go.Abs
namespace Go.Abs
def ups (l : List Ev) : List Rc := ((eps l)[0]?.map (·.2)).getD []
/-- Nothing is so. -/
abbrev Never : Ob := .seen (fun _ _ _ _ => False) none
end Go.Abs
namespace Go.Abs
end Go.Abs
