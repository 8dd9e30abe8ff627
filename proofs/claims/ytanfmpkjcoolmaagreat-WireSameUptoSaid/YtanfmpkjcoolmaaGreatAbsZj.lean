/- What is a slice's own is forgotten. -/
import Derived.Test.YtanfmpkjcoolmaaGreatAbsZi
set_option linter.unusedVariables false
set_option linter.unusedSimpArgs false
namespace Go.Abs
variable {P : Program} {N : Nat} {Q : Exit → Tm → List Ob → Prop} {tm : Tm} {S : List Ob}
theorem Rep.asRo {g : G} {w : World} {v : Value} {nl : Option Bool} {xs : List (List D)} {c : Cap} (r : Rep g w v (.sl nl xs c)) : Rep g w v (.sl none xs .ro) := by
  cases r with
  | sl st f hn hcap hnone hnl hst hcell hrep hc => exact .sl st f hn hcap hnone (fun b e => by cases e) hst hcell hrep trivial
theorem AWP.asRo {t : Nat} {nl : Option Bool} {xs : List (List D)} {k : Cap} {c : Code} (hx : tm t = .sl nl xs k) (h : AWP P N c Q (put tm t (.sl none xs .ro)) S) : AWP P N c Q tm S := fun ro hro g a w st =>
  h ro hro g a w ⟨st.size, st.based, st.once, st.defers, fun i => by
    by_cases e : i = t
    · subst e; rw [put_same]; have r := st.slots i; rw [hx] at r; exact r.asRo
    · rw [put_other _ _ e]; exact st.slots i, st.sim⟩
end Go.Abs
