/- Arrays built; the lowest bit. -/
import Derived.Test.YtanfmpkjcoolmaaAbsZo
set_option linter.unusedVariables false
set_option linter.unusedSimpArgs false
namespace Go.Abs
open Tb
variable {P : Program} {N : Nat} {ops : Array Oper} {l : List Oper} {Q : Exit → Tm → List Ob → Prop} {tm : Tm} {S : List Ob}
section ops
variable {t : Tmp} {ty : TypeId} {pos : String} {after : Array Edge}
/-- An array of two built from both. -/
theorem n_build2 {T e : TypeId} {x y : Operand} {sz : Nat} {ag : Bool} {z : Value} {zs r : List D} {dx dy : D} (hd : Nat.blt t N = true) (hu : P.underlying T = some (.array 2 e)) (ht : TI P e sz ag) (hz0 : (P.info? T).map (·.zero) = some (some z)) (hz : z.cells.toList.map ofV = zs)
    (hx : ev tm x = dx) (hy : ev tm y = dy) (hr : fillD (fun i => some (i * sz, sz)) zs [(0, dx), (1, dy)] = some r)
    (rest : AOps P N ops l Q (put tm t (.agg r)) S) : AOps P N ops (⟨some t, .build T #[(0, x), (1, y)], ty, pos, after, none⟩ :: l) Q tm S :=
  AOps.still (o := ⟨some t, .build T #[(0, x), (1, y)], ty, pos, after, none⟩) (d := D.agg r) rfl hd (fun g a w st => by
    subst hx hy hz
    obtain ⟨i, hi, hz⟩ := Option.map_eq_some_iff.1 hz0
    obtain ⟨p1, p2⟩ := parts_rep st #[(0, x), (1, y)]
    obtain ⟨cells', e1, e2, e3⟩ := fill_rep (g := g) (w := w) _ _ z.cells _ r (by simp) (fun i v d h1 h2 => by
      simp only [List.getElem?_map, Array.getElem?_toList, h1, Option.map_some, Option.some.injEq] at h2
      subst h2
      exact rep_ofV v) p1 p2 hr
    refine ⟨.agg cells', ?_, .agg e2 e3⟩
    simp only [execOp, Instr.build, Sem.run_bind, zeroValue, typeInfo]
    simp only [Sem.run_bind, Result.andThen_ok, run_underlying hu, ht.sizeOf]
    have e1' : Instr.fill (fun i => some (i * sz, sz)) z.cells (List.map (fun x => (x.fst, a.eval x.snd)) [(0, x), (1, y)]) = some cells' := by rw [← e1]; congr 1; simp
    have e2' := e1'
    simp only [List.map_cons, List.map_nil] at e2'
    simp [hi, hz, e2']) rest

end ops
end Go.Abs
