/- Plain: what two have, told by truth values. -/
set_option linter.unusedVariables false
namespace Go.Abs.Tb
def reg (b : Bool) : Int := if b then 1 else 0
def at2 {α : Type} (f : Bool → α) (b : Bool) (v : α) : Bool → α := fun x => if x = b then v else f x
theorem at2_same {α : Type} (f : Bool → α) (b : Bool) (v : α) : at2 f b v b = v := by simp [at2]
theorem at2_other {α : Type} {f : Bool → α} {b c : Bool} {v : α} (h : c ≠ b) : at2 f b v c = f c := by simp [at2, h]
theorem bne_of {a b : Bool} (h : a ≠ b) : a = !b := by cases a <;> cases b <;> simp_all
theorem bnot_ne (b : Bool) : (!b) ≠ b := by cases b <;> simp
end Go.Abs.Tb
