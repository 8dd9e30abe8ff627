/- Values without objects, told by computation. -/
import Derived.Test.YtanfmpkjcoolmaaAbsP
import Derived.Test.YtanfmpkjcoolmaaAbsL
set_option linter.unusedVariables false
set_option linter.unusedSimpArgs false
namespace Go.Abs
mutual
def D.flat : D → Bool
  | .any => true
  | .val _ => true
  | .agg ds => flats ds
  | .tup ds => flats ds
  | _ => false
def flats : List D → Bool
  | [] => true
  | d :: ds => d.flat && flats ds
end
mutual
theorem D.flat_lf : ∀ {d : D}, d.flat = true → LF d
  | .any, _ => .any
  | .val _, _ => .val _
  | .agg ds, h => .agg (flats_lf (by simpa [D.flat] using h))
  | .tup ds, h => .tup (flats_lf (by simpa [D.flat] using h))
  | .sl .., h => by simp [D.flat] at h
  | .rp .., h => by simp [D.flat] at h
  | .bp .., h => by simp [D.flat] at h
  | .bs .., h => by simp [D.flat] at h
  | .fn .., h => by simp [D.flat] at h
theorem flats_lf : ∀ {ds : List D}, flats ds = true → ∀ d ∈ ds, LF d
  | [], _ => lf_nil
  | d :: ds, h => by
    rw [flats, Bool.and_eq_true] at h
    exact lf_cons (D.flat_lf h.1) (flats_lf h.2)
end
theorem ren_flat {ρ σ : Nat → Nat → Prop} {d d' : D} (hl : d.flat = true) (h : d = d') : Ren ρ σ d d' := h ▸ .lf (D.flat_lf hl)
theorem renAll_flat {ds ds' : List D} (hl : flats ds = true) (h : ds = ds') : RenAll No No ds ds' := h ▸ renAll_lf (flats_lf hl)
end Go.Abs
