/- What a call hands back is only read from now on. -/
import Derived.Test.YtanfmpkjcoolmaaAbsZb
set_option linter.unusedVariables false
namespace Go.Abs
variable {P : Program}
theorem Does.ownRo {f : FuncId} {ds : List D} {nl : Option Bool} {xs : List (List D)} {T : List Ob} (h : Does P f ds [] (.sl nl xs (.own 0)) T) (hx : ∀ x ∈ xs, ∀ d ∈ x, LF d) : Does P f ds [] (.sl none xs .ro) [] := by
  intro g w vs hs hsz hr
  refine (h g w vs hs hsz hr).mono ?_
  rintro e w' ⟨v, g', rfl, hv, hs', hl⟩
  have hv2 : Rep g' w' v (.sl none xs .ro) := hv.ro_ (fun _ _ => rfl)
  refine ⟨v, g'.cut 0, rfl, hv2.un (.lf (.sl hx (.inl rfl))), ?_, hl.cut hs (Nat.le_refl _)⟩
  have := Sim.cut (S := []) (T := T) (by simpa using hs') (fun ob h => by cases h)
  exact this
end Go.Abs
