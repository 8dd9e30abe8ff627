/- A variable with its value, made at a place that was kept for it. -/
import Derived.Test.YtanfmpkjcoolmaaAbsZs
set_option linter.unusedVariables false
namespace Go.Abs
variable {P : Program} {N : Nat} {ops : Array Oper} {l : List Oper} {Q : Exit → Tm → List Ob → Prop} {tm : Tm} {S : List Ob}
section
variable {ty : TypeId} {pos : String} {after : Array Edge} {t : Nat}
theorem n_boxAt (l0 : Nat) {elem : TypeId} {x : Operand} {d : D} {ds : List D} {S' : List Ob} (hd : Nat.blt t N = true) (hx : ev tm x = d) (hs : d.solid = true) (hl : S[l0]? = some .dead) (hds : d.cells = ds) (hS : S.set l0 (.box ds) = S')
    (rest : AOps P N ops l Q (put tm t (.bp l0 0)) S') : AOps P N ops (⟨some t, .box elem x, ty, pos, after, none⟩ :: l) Q tm S :=
  AOps.value (o := ⟨some t, .box elem x, ty, pos, after, none⟩) rfl hd (d := .bp l0 0) (S' := S') (fun g a w st => by
    subst hds hS hx
    obtain ⟨h1, h2⟩ := rep_cells (st.ev x) hs
    obtain ⟨k1, k2⟩ := newBoxAt st.sim hl (a.eval x).cells elem (ev tm x).cells h1 h2
    refine ⟨.pointer (some ⟨w.heap.size, 0, none⟩), _, _, ?_, .bp (by simp [gBox, upd_same]), k1, k2⟩
    simp [execOp, Instr.box, newVar, newRow]) rest
end
end Go.Abs
