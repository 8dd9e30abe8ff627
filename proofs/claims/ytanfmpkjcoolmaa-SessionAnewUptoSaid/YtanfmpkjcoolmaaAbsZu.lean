/- An array of zero values, built of nothing. -/
import Derived.Test.YtanfmpkjcoolmaaAbsZt
set_option linter.unusedVariables false
namespace Go.Abs
variable {P : Program} {N : Nat} {ops : Array Oper} {l : List Oper} {Q : Exit → Tm → List Ob → Prop} {tm : Tm} {S : List Ob}
section
variable {ty : TypeId} {pos : String} {after : Array Edge} {t : Nat}
theorem n_build0 {T e : TypeId} {n sz : Nat} {ag : Bool} {z : Value} {zs : List D} (hd : Nat.blt t N = true) (hu : P.underlying T = some (.array n e)) (ht : TI P e sz ag) (hz0 : (P.info? T).map (·.zero) = some (some z)) (hz : z.cells.toList.map ofV = zs)
    (rest : AOps P N ops l Q (put tm t (.agg zs)) S) : AOps P N ops (⟨some t, .build T #[], ty, pos, after, none⟩ :: l) Q tm S :=
  AOps.still (o := ⟨some t, .build T #[], ty, pos, after, none⟩) (d := D.agg zs) rfl hd (fun g a w st => by
    subst hz
    obtain ⟨i, hi, hz⟩ := Option.map_eq_some_iff.1 hz0
    refine ⟨.agg z.cells, ?_, .agg (by simp) (fun i v d h1 h2 => by
      simp only [List.getElem?_map, Array.getElem?_toList, h1, Option.map_some, Option.some.injEq] at h2
      subst h2
      exact rep_ofV v)⟩
    simp only [execOp, Instr.build, Sem.run_bind, zeroValue, typeInfo]
    simp only [Sem.run_bind, Result.andThen_ok, run_underlying hu, ht.sizeOf]
    have e1 : Instr.fill (fun i => some (i * sz, sz)) z.cells [] = some z.cells := rfl
    simp [hi, hz, e1]) rest
end
end Go.Abs
