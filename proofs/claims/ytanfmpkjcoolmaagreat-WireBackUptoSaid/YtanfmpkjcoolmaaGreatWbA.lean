/- Which messages are the same. -/
import Derived.Test.YtanfmpkjcoolmaaGreatPlainA
import Derived.Test.YtanfmpkjcoolmaaGreatWaA
set_option linter.unusedVariables false
set_option linter.unusedSimpArgs false
namespace Go.Proofs.YtanfmpkjcoolmaaGreat.Wb
open Go Go.Abs Go.Proofs.YtanfmpkjcoolmaaGreat.Pk Wa
attribute [local irreducible] AWP AOps Does

theorem n0WbA {α : Type} {a b : α} (h : a = b := by first|simp only[nf,Nat.beq]<;>rfl|rfl) : a = b := h
theorem e1WbA {α : Type} {a b : α} (h : a = b := by exact Eq.trans (by simp only [nl] <;> rfl) n0WbA) : a = b := h
theorem r2WbA {ρ σ : Nat → Nat → Prop} {a b : List D} (h : RenAll ρ σ a b := by repeat (first | exact .nil | refine .cons ?_ ?_ | exact ren_ints | exact .lf (.val _) | exact .lf (lf_ints (.inl rfl)) | exact .bp ⟨rfl, rfl⟩ | exact .bp (.inl ⟨rfl, rfl⟩) | exact .bp (.inr ⟨rfl, rfl⟩) | exact .lf (txz_lf _) | exact ren_mapG qt_lf | exact .lf lf_fnz | exact .lf (.agg (qt_lf _)) | exact ren_map (f := q1) (fun _ => rfl) | exact ren_map (f := q2) (fun _ => rfl) | exact ren_map (f := q4) (fun _ => rfl) | exact .lf (D.flat_lf rfl) | exact ren_lits rfl)) : RenAll ρ σ a b := h
theorem r3WbA {ρ σ : Nat → Nat → Prop} {a b : List D} (h : RenAll ρ σ a b := by repeat (first | exact .nil | refine .cons ?_ ?_ | exact ren_ints | exact .lf (.val _) | exact .lf (lf_ints (.inl rfl)) | exact .bp ⟨rfl, rfl⟩ | exact .bp (.inl ⟨rfl, rfl⟩) | exact .bp (.inr ⟨rfl, rfl⟩) | exact .lf (.agg (qt_lf _)) | exact .lf lf_fnz | exact ren_map (f := q1) (fun _ => rfl) | exact ren_map (f := q2) (fun _ => rfl) | exact ren_map (f := q4) (fun _ => rfl) | exact .lf (D.flat_lf rfl) | exact ren_lits rfl)) : RenAll ρ σ a b := h
theorem l4WbA {d : D} (h : LF d := by first | exact .val _ | exact lf_ints (.inl rfl) | exact lf_ints (.inr rfl) | exact .any | exact .agg (qt_lf _) | exact D.flat_lf rfl) : LF d := h
theorem cf23 : CF Tryz.prog 23 := ⟨_, Tryz.func23, by kernel_rfl, by kernel_rfl⟩
theorem cf24 : CF Tryz.prog 24 := ⟨_, Tryz.func24, by kernel_rfl, by kernel_rfl⟩
theorem cf25 : CF Tryz.prog 25 := ⟨_, Tryz.func25, by kernel_rfl, by kernel_rfl⟩
theorem cf26 : CF Tryz.prog 26 := ⟨_, Tryz.func26, by kernel_rfl, by kernel_rfl⟩
theorem cf27 : CF Tryz.prog 27 := ⟨_, Tryz.func27, by kernel_rfl, by kernel_rfl⟩
theorem cf28 : CF Tryz.prog 28 := ⟨_, Tryz.func28, by kernel_rfl, by kernel_rfl⟩
theorem cf29 : CF Tryz.prog 29 := ⟨_, Tryz.func29, by kernel_rfl, by kernel_rfl⟩
theorem cf31 : CF Tryz.prog 31 := ⟨_, Tryz.func31, by kernel_rfl, by kernel_rfl⟩
theorem cf61 : CF Tryz.prog 61 := ⟨_, Tryz.func61, by kernel_rfl, by kernel_rfl⟩
theorem cf62 : CF Tryz.prog 62 := ⟨_, Tryz.func62, by kernel_rfl, by kernel_rfl⟩
theorem cf9 : CF Tryz.prog 9 := ⟨_, Tryz.func9, by kernel_rfl, by kernel_rfl⟩
theorem fd26_0 : FD Tryz.prog 26 0 2 0 := ⟨_, _, Tryz.underlying26, rfl, rfl, rfl⟩
theorem fd26_1 : FD Tryz.prog 26 1 2 1 := ⟨_, _, Tryz.underlying26, rfl, rfl, rfl⟩
theorem fd26_2 : FD Tryz.prog 26 2 2 2 := ⟨_, _, Tryz.underlying26, rfl, rfl, rfl⟩
theorem fd26_3 : FD Tryz.prog 26 3 23 3 := ⟨_, _, Tryz.underlying26, rfl, rfl, rfl⟩
theorem fd26_4 : FD Tryz.prog 26 4 24 4 := ⟨_, _, Tryz.underlying26, rfl, rfl, rfl⟩
theorem fd33_0 : FD Tryz.prog 33 0 3 0 := ⟨_, _, Tryz.underlying33, rfl, rfl, rfl⟩
theorem fd33_1 : FD Tryz.prog 33 1 3 1 := ⟨_, _, Tryz.underlying33, rfl, rfl, rfl⟩
theorem fd33_10 : FD Tryz.prog 33 10 2 15 := ⟨_, _, Tryz.underlying33, rfl, rfl, rfl⟩
theorem fd33_11 : FD Tryz.prog 33 11 24 16 := ⟨_, _, Tryz.underlying33, rfl, rfl, rfl⟩
theorem fd33_12 : FD Tryz.prog 33 12 2 17 := ⟨_, _, Tryz.underlying33, rfl, rfl, rfl⟩
theorem fd33_13 : FD Tryz.prog 33 13 29 18 := ⟨_, _, Tryz.underlying33, rfl, rfl, rfl⟩
theorem fd33_14 : FD Tryz.prog 33 14 3 19 := ⟨_, _, Tryz.underlying33, rfl, rfl, rfl⟩
theorem fd33_15 : FD Tryz.prog 33 15 2 20 := ⟨_, _, Tryz.underlying33, rfl, rfl, rfl⟩
theorem fd33_16 : FD Tryz.prog 33 16 30 21 := ⟨_, _, Tryz.underlying33, rfl, rfl, rfl⟩
theorem fd33_17 : FD Tryz.prog 33 17 3 22 := ⟨_, _, Tryz.underlying33, rfl, rfl, rfl⟩
theorem fd33_18 : FD Tryz.prog 33 18 31 23 := ⟨_, _, Tryz.underlying33, rfl, rfl, rfl⟩
theorem fd33_2 : FD Tryz.prog 33 2 2 2 := ⟨_, _, Tryz.underlying33, rfl, rfl, rfl⟩
theorem fd33_3 : FD Tryz.prog 33 3 2 3 := ⟨_, _, Tryz.underlying33, rfl, rfl, rfl⟩
theorem fd33_4 : FD Tryz.prog 33 4 3 4 := ⟨_, _, Tryz.underlying33, rfl, rfl, rfl⟩
theorem fd33_5 : FD Tryz.prog 33 5 3 5 := ⟨_, _, Tryz.underlying33, rfl, rfl, rfl⟩
theorem fd33_6 : FD Tryz.prog 33 6 4 6 := ⟨_, _, Tryz.underlying33, rfl, rfl, rfl⟩
theorem fd33_7 : FD Tryz.prog 33 7 22 7 := ⟨_, _, Tryz.underlying33, rfl, rfl, rfl⟩
theorem fd33_8 : FD Tryz.prog 33 8 26 8 := ⟨_, _, Tryz.underlying33, rfl, rfl, rfl⟩
theorem fd33_9 : FD Tryz.prog 33 9 28 13 := ⟨_, _, Tryz.underlying33, rfl, rfl, rfl⟩
theorem ti2 : TI Tryz.prog 2 1 false := ⟨by kernel_rfl, by kernel_rfl⟩
theorem ti22 : TI Tryz.prog 22 1 false := ⟨by kernel_rfl, by kernel_rfl⟩
theorem ti23 : TI Tryz.prog 23 1 false := ⟨by kernel_rfl, by kernel_rfl⟩
theorem ti24 : TI Tryz.prog 24 1 false := ⟨by kernel_rfl, by kernel_rfl⟩
theorem ti26 : TI Tryz.prog 26 5 true := ⟨by kernel_rfl, by kernel_rfl⟩
theorem ti28 : TI Tryz.prog 28 2 true := ⟨by kernel_rfl, by kernel_rfl⟩
theorem ti29 : TI Tryz.prog 29 1 false := ⟨by kernel_rfl, by kernel_rfl⟩
theorem ti3 : TI Tryz.prog 3 1 false := ⟨by kernel_rfl, by kernel_rfl⟩
theorem ti30 : TI Tryz.prog 30 1 false := ⟨by kernel_rfl, by kernel_rfl⟩
theorem ti31 : TI Tryz.prog 31 1 false := ⟨by kernel_rfl, by kernel_rfl⟩
theorem ti4 : TI Tryz.prog 4 1 false := ⟨by kernel_rfl, by kernel_rfl⟩
theorem ti49 : TI Tryz.prog 49 2 true := ⟨by kernel_rfl, by kernel_rfl⟩

theorem e_tx (a b : Tx) (h1 : a.r.length ≤ 1048576) (h2 : a.v.length ≤ 1048576) (h3 : b.r.length ≤ 1048576) (h4 : b.v.length ≤ 1048576) : Does Tryz.prog 27 [.agg (txz a), .agg (txz b)] [] (vb (sameT a b)) [] := by
 refine Does.of_body (rvs := [.tmp 4]) Tryz.func27 rfl rfl rfl rfl ?_
 refine AWP.sr ?_
 refine n_box rfl n0WbA rfl rfl n0WbA n0WbA ?_
 refine n_box rfl n0WbA rfl rfl n0WbA n0WbA ?_
 refine n_assign rfl n0WbA ?_
 refine AOps.nil ?_
 refine AWP.sr ?_
 refine n_fieldAddr rfl fd26_0 ti2 rfl n0WbA rfl n0WbA ?_
 refine n_load rfl ti2 n0WbA n0WbA rfl n0WbA ?_
 refine n_fieldAddr rfl fd26_0 ti2 rfl n0WbA rfl n0WbA ?_
 refine n_load rfl ti2 n0WbA n0WbA rfl n0WbA ?_
 refine n_ibin rfl n0WbA n0WbA rfl ?_
 refine n_move rfl n0WbA ?_
 refine AOps.name (u := 10) (fun z => .val (.bool z)) n0WbA (fun b10 hb10 => ?_)
 refine n_softT b10 rfl rfl rfl n0WbA (fun h => by
  subst h
  refine n_fieldAddr rfl fd26_1 ti2 rfl n0WbA rfl n0WbA ?_
  exact AOps.nil ⟨rfl, rfl, rfl⟩) ?_
 refine n_softT b10 rfl rfl rfl n0WbA (fun h => by
  subst h
  refine n_load rfl ti2 n0WbA n0WbA rfl n0WbA ?_
  exact AOps.nil ⟨rfl, rfl, rfl⟩) ?_
 refine n_softT b10 rfl rfl rfl n0WbA (fun h => by
  subst h
  refine n_fieldAddr rfl fd26_1 ti2 rfl n0WbA rfl n0WbA ?_
  exact AOps.nil ⟨rfl, rfl, rfl⟩) ?_
 refine n_softT b10 rfl rfl rfl n0WbA (fun h => by
  subst h
  refine n_load rfl ti2 n0WbA n0WbA rfl n0WbA ?_
  exact AOps.nil ⟨rfl, rfl, rfl⟩) ?_
 refine n_softT b10 rfl rfl rfl n0WbA (fun h => by
  subst h
  refine n_ibin rfl n0WbA n0WbA rfl ?_
  exact AOps.nil ⟨rfl, rfl, rfl⟩) ?_
 refine n_pick_and rfl n0WbA (fun h => by cases b10 with | false => exact absurd h (by decide) | true => exact n0WbA) ?_
 refine n_move rfl n0WbA ?_
 refine AOps.name (u := 17) (fun z => .val (.bool z)) n0WbA (fun b17 hb17 => ?_)
 refine n_softT b17 rfl rfl rfl n0WbA (fun h => by
  subst h
  refine n_fieldAddr rfl fd26_2 ti2 rfl n0WbA rfl n0WbA ?_
  exact AOps.nil ⟨rfl, rfl, rfl⟩) ?_
 refine n_softT b17 rfl rfl rfl n0WbA (fun h => by
  subst h
  refine n_load rfl ti2 n0WbA n0WbA rfl n0WbA ?_
  exact AOps.nil ⟨rfl, rfl, rfl⟩) ?_
 refine n_softT b17 rfl rfl rfl n0WbA (fun h => by
  subst h
  refine n_fieldAddr rfl fd26_2 ti2 rfl n0WbA rfl n0WbA ?_
  exact AOps.nil ⟨rfl, rfl, rfl⟩) ?_
 refine n_softT b17 rfl rfl rfl n0WbA (fun h => by
  subst h
  refine n_load rfl ti2 n0WbA n0WbA rfl n0WbA ?_
  exact AOps.nil ⟨rfl, rfl, rfl⟩) ?_
 refine n_softT b17 rfl rfl rfl n0WbA (fun h => by
  subst h
  refine n_ibin rfl n0WbA n0WbA rfl ?_
  exact AOps.nil ⟨rfl, rfl, rfl⟩) ?_
 refine n_pick_and rfl n0WbA (fun h => by cases b17 with | false => exact absurd h (by decide) | true => exact n0WbA) ?_
 refine n_move rfl n0WbA ?_
 refine AOps.name (u := 24) (fun z => .val (.bool z)) n0WbA (fun b24 hb24 => ?_)
 refine n_softT b24 rfl rfl rfl n0WbA (fun h => by
  subst h
  refine n_fieldAddr rfl fd26_3 ti23 rfl n0WbA rfl n0WbA ?_
  exact AOps.nil ⟨rfl, rfl, rfl⟩) ?_
 refine n_softT b24 rfl rfl rfl n0WbA (fun h => by
  subst h
  refine n_load rfl ti23 n0WbA n0WbA rfl n0WbA ?_
  exact AOps.nil ⟨rfl, rfl, rfl⟩) ?_
 refine n_softT b24 rfl rfl rfl n0WbA (fun h => by
  subst h
  refine n_fieldAddr rfl fd26_3 ti23 rfl n0WbA rfl n0WbA ?_
  exact AOps.nil ⟨rfl, rfl, rfl⟩) ?_
 refine n_softT b24 rfl rfl rfl n0WbA (fun h => by
  subst h
  refine n_load rfl ti23 n0WbA n0WbA rfl n0WbA ?_
  exact AOps.nil ⟨rfl, rfl, rfl⟩) ?_
 refine n_softT b24 rfl rfl rfl n0WbA (fun h => by
  subst h
  refine n_call0B rfl cf62 rfl e1WbA r3WbA (e_rec a.r b.r h1 h3) l4WbA ?_
  exact AOps.nil ⟨rfl, rfl, rfl⟩) ?_
 refine n_pick_and rfl n0WbA (fun h => by cases b24 with | false => exact absurd h (by decide) | true => exact n0WbA) ?_
 refine n_move rfl n0WbA ?_
 refine AOps.name (u := 31) (fun z => .val (.bool z)) n0WbA (fun b31 hb31 => ?_)
 refine n_softT b31 rfl rfl rfl n0WbA (fun h => by
  subst h
  refine n_fieldAddr rfl fd26_4 ti24 rfl n0WbA rfl n0WbA ?_
  exact AOps.nil ⟨rfl, rfl, rfl⟩) ?_
 refine n_softT b31 rfl rfl rfl n0WbA (fun h => by
  subst h
  refine n_load rfl ti24 n0WbA n0WbA rfl n0WbA ?_
  exact AOps.nil ⟨rfl, rfl, rfl⟩) ?_
 refine n_softT b31 rfl rfl rfl n0WbA (fun h => by
  subst h
  refine n_fieldAddr rfl fd26_4 ti24 rfl n0WbA rfl n0WbA ?_
  exact AOps.nil ⟨rfl, rfl, rfl⟩) ?_
 refine n_softT b31 rfl rfl rfl n0WbA (fun h => by
  subst h
  refine n_load rfl ti24 n0WbA n0WbA rfl n0WbA ?_
  exact AOps.nil ⟨rfl, rfl, rfl⟩) ?_
 refine n_softT b31 rfl rfl rfl n0WbA (fun h => by
  subst h
  refine n_call0B rfl cf28 rfl e1WbA r3WbA (e_int a.v b.v h2 h4) l4WbA ?_
  exact AOps.nil ⟨rfl, rfl, rfl⟩) ?_
 refine n_pick_and rfl n0WbA (fun h => by cases b31 with | false => exact absurd h (by decide) | true => exact n0WbA) ?_
 refine n_assign rfl n0WbA ?_
 subst hb10
 subst hb17
 subst hb24
 subst hb31
 refine AOps.nil ?_
 refine AWP.ret ?_
 refine fin_pure (.cons (rv_tmp n0WbA) .nil) n0WbA ?_
 exact ren_flat rfl (congrArg vb (by unfold sameT; (try simp only [beq_iff_eq, decide_eq_decide]); grind))

theorem r_tx (a b : Tx) (h1 : a.r.length ≤ 1048576) (h2 : a.v.length ≤ 1048576) (h3 : b.r.length ≤ 1048576) (h4 : b.v.length ≤ 1048576) : Does Tryz.prog 23 [.agg (txz a), .agg (txz b)] [] (vb (sameT a b)) [] := by
 refine Does.of_body (rvs := [.tmp 4]) Tryz.func23 rfl rfl rfl rfl ?_
 refine AWP.sr ?_
 refine n_box rfl n0WbA rfl rfl n0WbA n0WbA ?_
 refine n_box rfl n0WbA rfl rfl n0WbA n0WbA ?_
 refine n_assign rfl n0WbA ?_
 refine AOps.nil ?_
 refine AWP.sr ?_
 refine n_fieldAddr rfl fd26_0 ti2 rfl n0WbA rfl n0WbA ?_
 refine n_load rfl ti2 n0WbA n0WbA rfl n0WbA ?_
 refine n_fieldAddr rfl fd26_0 ti2 rfl n0WbA rfl n0WbA ?_
 refine n_load rfl ti2 n0WbA n0WbA rfl n0WbA ?_
 refine n_ibin rfl n0WbA n0WbA rfl ?_
 refine n_move rfl n0WbA ?_
 refine AOps.name (u := 10) (fun z => .val (.bool z)) n0WbA (fun b10 hb10 => ?_)
 refine n_softT b10 rfl rfl rfl n0WbA (fun h => by
  subst h
  refine n_fieldAddr rfl fd26_1 ti2 rfl n0WbA rfl n0WbA ?_
  exact AOps.nil ⟨rfl, rfl, rfl⟩) ?_
 refine n_softT b10 rfl rfl rfl n0WbA (fun h => by
  subst h
  refine n_load rfl ti2 n0WbA n0WbA rfl n0WbA ?_
  exact AOps.nil ⟨rfl, rfl, rfl⟩) ?_
 refine n_softT b10 rfl rfl rfl n0WbA (fun h => by
  subst h
  refine n_fieldAddr rfl fd26_1 ti2 rfl n0WbA rfl n0WbA ?_
  exact AOps.nil ⟨rfl, rfl, rfl⟩) ?_
 refine n_softT b10 rfl rfl rfl n0WbA (fun h => by
  subst h
  refine n_load rfl ti2 n0WbA n0WbA rfl n0WbA ?_
  exact AOps.nil ⟨rfl, rfl, rfl⟩) ?_
 refine n_softT b10 rfl rfl rfl n0WbA (fun h => by
  subst h
  refine n_ibin rfl n0WbA n0WbA rfl ?_
  exact AOps.nil ⟨rfl, rfl, rfl⟩) ?_
 refine n_pick_and rfl n0WbA (fun h => by cases b10 with | false => exact absurd h (by decide) | true => exact n0WbA) ?_
 refine n_move rfl n0WbA ?_
 refine AOps.name (u := 17) (fun z => .val (.bool z)) n0WbA (fun b17 hb17 => ?_)
 refine n_softT b17 rfl rfl rfl n0WbA (fun h => by
  subst h
  refine n_fieldAddr rfl fd26_2 ti2 rfl n0WbA rfl n0WbA ?_
  exact AOps.nil ⟨rfl, rfl, rfl⟩) ?_
 refine n_softT b17 rfl rfl rfl n0WbA (fun h => by
  subst h
  refine n_load rfl ti2 n0WbA n0WbA rfl n0WbA ?_
  exact AOps.nil ⟨rfl, rfl, rfl⟩) ?_
 refine n_softT b17 rfl rfl rfl n0WbA (fun h => by
  subst h
  refine n_fieldAddr rfl fd26_2 ti2 rfl n0WbA rfl n0WbA ?_
  exact AOps.nil ⟨rfl, rfl, rfl⟩) ?_
 refine n_softT b17 rfl rfl rfl n0WbA (fun h => by
  subst h
  refine n_load rfl ti2 n0WbA n0WbA rfl n0WbA ?_
  exact AOps.nil ⟨rfl, rfl, rfl⟩) ?_
 refine n_softT b17 rfl rfl rfl n0WbA (fun h => by
  subst h
  refine n_ibin rfl n0WbA n0WbA rfl ?_
  exact AOps.nil ⟨rfl, rfl, rfl⟩) ?_
 refine n_pick_and rfl n0WbA (fun h => by cases b17 with | false => exact absurd h (by decide) | true => exact n0WbA) ?_
 refine n_move rfl n0WbA ?_
 refine AOps.name (u := 24) (fun z => .val (.bool z)) n0WbA (fun b24 hb24 => ?_)
 refine n_softT b24 rfl rfl rfl n0WbA (fun h => by
  subst h
  refine n_fieldAddr rfl fd26_3 ti23 rfl n0WbA rfl n0WbA ?_
  exact AOps.nil ⟨rfl, rfl, rfl⟩) ?_
 refine n_softT b24 rfl rfl rfl n0WbA (fun h => by
  subst h
  refine n_load rfl ti23 n0WbA n0WbA rfl n0WbA ?_
  exact AOps.nil ⟨rfl, rfl, rfl⟩) ?_
 refine n_softT b24 rfl rfl rfl n0WbA (fun h => by
  subst h
  refine n_fieldAddr rfl fd26_3 ti23 rfl n0WbA rfl n0WbA ?_
  exact AOps.nil ⟨rfl, rfl, rfl⟩) ?_
 refine n_softT b24 rfl rfl rfl n0WbA (fun h => by
  subst h
  refine n_load rfl ti23 n0WbA n0WbA rfl n0WbA ?_
  exact AOps.nil ⟨rfl, rfl, rfl⟩) ?_
 refine n_softT b24 rfl rfl rfl n0WbA (fun h => by
  subst h
  refine n_call0B rfl cf61 rfl e1WbA r3WbA (r_rec a.r b.r h1 h3) l4WbA ?_
  exact AOps.nil ⟨rfl, rfl, rfl⟩) ?_
 refine n_pick_and rfl n0WbA (fun h => by cases b24 with | false => exact absurd h (by decide) | true => exact n0WbA) ?_
 refine n_move rfl n0WbA ?_
 refine AOps.name (u := 31) (fun z => .val (.bool z)) n0WbA (fun b31 hb31 => ?_)
 refine n_softT b31 rfl rfl rfl n0WbA (fun h => by
  subst h
  refine n_fieldAddr rfl fd26_4 ti24 rfl n0WbA rfl n0WbA ?_
  exact AOps.nil ⟨rfl, rfl, rfl⟩) ?_
 refine n_softT b31 rfl rfl rfl n0WbA (fun h => by
  subst h
  refine n_load rfl ti24 n0WbA n0WbA rfl n0WbA ?_
  exact AOps.nil ⟨rfl, rfl, rfl⟩) ?_
 refine n_softT b31 rfl rfl rfl n0WbA (fun h => by
  subst h
  refine n_fieldAddr rfl fd26_4 ti24 rfl n0WbA rfl n0WbA ?_
  exact AOps.nil ⟨rfl, rfl, rfl⟩) ?_
 refine n_softT b31 rfl rfl rfl n0WbA (fun h => by
  subst h
  refine n_load rfl ti24 n0WbA n0WbA rfl n0WbA ?_
  exact AOps.nil ⟨rfl, rfl, rfl⟩) ?_
 refine n_softT b31 rfl rfl rfl n0WbA (fun h => by
  subst h
  refine n_call0B rfl cf24 rfl e1WbA r3WbA (r_int a.v b.v h2 h4) l4WbA ?_
  exact AOps.nil ⟨rfl, rfl, rfl⟩) ?_
 refine n_pick_and rfl n0WbA (fun h => by cases b31 with | false => exact absurd h (by decide) | true => exact n0WbA) ?_
 refine n_assign rfl n0WbA ?_
 subst hb10
 subst hb17
 subst hb24
 subst hb31
 refine AOps.nil ?_
 refine AWP.ret ?_
 refine fin_pure (.cons (rv_tmp n0WbA) .nil) n0WbA ?_
 exact ren_flat rfl (congrArg vb (by unfold sameT; (try simp only [beq_iff_eq, decide_eq_decide]); grind))

theorem txz_lf (t : Tx) : LF (.agg (txz t)) := .agg (lf_cons (.val _) (lf_cons (.val _) (lf_cons (.val _) (lf_cons (lf_mapG (fun q d hd => by simp only [q2, List.mem_cons, List.not_mem_nil, or_false] at hd; rcases hd with rfl | rfl <;> exact .val _) (.inl rfl)) (lf_cons (lf_mapG (fun q d hd => by simp only [q1, List.mem_cons, List.not_mem_nil, or_false] at hd; subst hd; exact .val _) (.inl rfl)) lf_nil)))))
set_option maxRecDepth 100000 in
set_option maxHeartbeats 4000000 in
theorem e_wr (a b : Wr) (ha : a.Sz) (hb : b.Sz) : Does Tryz.prog 10 [.agg (wz a), .agg (wz b)] [] (vb (sameW a b)) [] := by
 refine Does.of_body (rvs := [.tmp 4]) Tryz.func10 rfl rfl rfl rfl ?_
 refine AWP.sr ?_
 refine n_box rfl n0WbA rfl rfl n0WbA n0WbA ?_
 refine n_box rfl n0WbA rfl rfl n0WbA n0WbA ?_
 refine n_assign rfl n0WbA ?_
 refine AOps.nil ?_
 refine AWP.sr ?_
 refine AOps.abs (fun o ho => ?_)
 refine n_fieldAddr rfl fd33_0 ti3 rfl n0WbA rfl n0WbA ?_
 refine n_load rfl ti3 n0WbA n0WbA rfl n0WbA ?_
 refine n_fieldAddr rfl fd33_0 ti3 rfl n0WbA rfl n0WbA ?_
 refine n_load rfl ti3 n0WbA n0WbA rfl n0WbA ?_
 refine n_ibin rfl n0WbA n0WbA rfl ?_
 refine n_move rfl n0WbA ?_
 refine AOps.name (u := 10) (fun z => .val (.bool z)) n0WbA (fun b10 hb10 => ?_)
 refine AOps.forget (tm' := (put (put (put empty 2 (.bp 0 0)) 3 (.bp 1 0)) 10 (.val (.bool b10)))) ?_ (FLe.put (FLe.put (FLe.put (FLe.empty _) n0WbA) n0WbA) n0WbA)
 refine n_softT (u := 10) b10 (by rw [ho]; kernel_rfl) rfl rfl n0WbA (fun h => by
  subst h
  refine n_fieldAddr rfl fd33_1 ti3 rfl n0WbA rfl n0WbA ?_
  exact AOps.nil ⟨rfl, rfl, rfl⟩) ?_
 refine n_softT (u := 10) b10 (by rw [ho]; kernel_rfl) rfl rfl n0WbA (fun h => by
  subst h
  refine n_load rfl ti3 n0WbA n0WbA rfl n0WbA ?_
  exact AOps.nil ⟨rfl, rfl, rfl⟩) ?_
 refine n_softT (u := 10) b10 (by rw [ho]; kernel_rfl) rfl rfl n0WbA (fun h => by
  subst h
  refine n_fieldAddr rfl fd33_1 ti3 rfl n0WbA rfl n0WbA ?_
  exact AOps.nil ⟨rfl, rfl, rfl⟩) ?_
 refine n_softT (u := 10) b10 (by rw [ho]; kernel_rfl) rfl rfl n0WbA (fun h => by
  subst h
  refine n_load rfl ti3 n0WbA n0WbA rfl n0WbA ?_
  exact AOps.nil ⟨rfl, rfl, rfl⟩) ?_
 refine n_softT (u := 10) b10 (by rw [ho]; kernel_rfl) rfl rfl n0WbA (fun h => by
  subst h
  refine n_ibin rfl n0WbA n0WbA rfl ?_
  exact AOps.nil ⟨rfl, rfl, rfl⟩) ?_
 refine n_pick_and rfl n0WbA (fun h => by cases b10 with | false => exact absurd h (by decide) | true => exact n0WbA) ?_
 refine n_move rfl n0WbA ?_
 refine AOps.name (u := 17) (fun z => .val (.bool z)) n0WbA (fun b17 hb17 => ?_)
 refine AOps.forget (tm' := (put (put (put empty 2 (.bp 0 0)) 3 (.bp 1 0)) 17 (.val (.bool b17)))) ?_ (FLe.put (FLe.put (FLe.put (FLe.empty _) n0WbA) n0WbA) n0WbA)
 refine n_softT (u := 17) b17 (by rw [ho]; kernel_rfl) rfl rfl n0WbA (fun h => by
  subst h
  refine n_fieldAddr rfl fd33_2 ti2 rfl n0WbA rfl n0WbA ?_
  exact AOps.nil ⟨rfl, rfl, rfl⟩) ?_
 refine n_softT (u := 17) b17 (by rw [ho]; kernel_rfl) rfl rfl n0WbA (fun h => by
  subst h
  refine n_load rfl ti2 n0WbA n0WbA rfl n0WbA ?_
  exact AOps.nil ⟨rfl, rfl, rfl⟩) ?_
 refine n_softT (u := 17) b17 (by rw [ho]; kernel_rfl) rfl rfl n0WbA (fun h => by
  subst h
  refine n_fieldAddr rfl fd33_2 ti2 rfl n0WbA rfl n0WbA ?_
  exact AOps.nil ⟨rfl, rfl, rfl⟩) ?_
 refine n_softT (u := 17) b17 (by rw [ho]; kernel_rfl) rfl rfl n0WbA (fun h => by
  subst h
  refine n_load rfl ti2 n0WbA n0WbA rfl n0WbA ?_
  exact AOps.nil ⟨rfl, rfl, rfl⟩) ?_
 refine n_softT (u := 17) b17 (by rw [ho]; kernel_rfl) rfl rfl n0WbA (fun h => by
  subst h
  refine n_ibin rfl n0WbA n0WbA rfl ?_
  exact AOps.nil ⟨rfl, rfl, rfl⟩) ?_
 refine n_pick_and rfl n0WbA (fun h => by cases b17 with | false => exact absurd h (by decide) | true => exact n0WbA) ?_
 refine n_move rfl n0WbA ?_
 refine AOps.name (u := 24) (fun z => .val (.bool z)) n0WbA (fun b24 hb24 => ?_)
 refine AOps.forget (tm' := (put (put (put empty 2 (.bp 0 0)) 3 (.bp 1 0)) 24 (.val (.bool b24)))) ?_ (FLe.put (FLe.put (FLe.put (FLe.empty _) n0WbA) n0WbA) n0WbA)
 refine n_softT (u := 24) b24 (by rw [ho]; kernel_rfl) rfl rfl n0WbA (fun h => by
  subst h
  refine n_fieldAddr rfl fd33_3 ti2 rfl n0WbA rfl n0WbA ?_
  exact AOps.nil ⟨rfl, rfl, rfl⟩) ?_
 refine n_softT (u := 24) b24 (by rw [ho]; kernel_rfl) rfl rfl n0WbA (fun h => by
  subst h
  refine n_load rfl ti2 n0WbA n0WbA rfl n0WbA ?_
  exact AOps.nil ⟨rfl, rfl, rfl⟩) ?_
 refine n_softT (u := 24) b24 (by rw [ho]; kernel_rfl) rfl rfl n0WbA (fun h => by
  subst h
  refine n_fieldAddr rfl fd33_3 ti2 rfl n0WbA rfl n0WbA ?_
  exact AOps.nil ⟨rfl, rfl, rfl⟩) ?_
 refine n_softT (u := 24) b24 (by rw [ho]; kernel_rfl) rfl rfl n0WbA (fun h => by
  subst h
  refine n_load rfl ti2 n0WbA n0WbA rfl n0WbA ?_
  exact AOps.nil ⟨rfl, rfl, rfl⟩) ?_
 refine n_softT (u := 24) b24 (by rw [ho]; kernel_rfl) rfl rfl n0WbA (fun h => by
  subst h
  refine n_ibin rfl n0WbA n0WbA rfl ?_
  exact AOps.nil ⟨rfl, rfl, rfl⟩) ?_
 refine n_pick_and rfl n0WbA (fun h => by cases b24 with | false => exact absurd h (by decide) | true => exact n0WbA) ?_
 refine n_move rfl n0WbA ?_
 refine AOps.name (u := 31) (fun z => .val (.bool z)) n0WbA (fun b31 hb31 => ?_)
 refine AOps.forget (tm' := (put (put (put empty 2 (.bp 0 0)) 3 (.bp 1 0)) 31 (.val (.bool b31)))) ?_ (FLe.put (FLe.put (FLe.put (FLe.empty _) n0WbA) n0WbA) n0WbA)
 refine n_softT (u := 31) b31 (by rw [ho]; kernel_rfl) rfl rfl n0WbA (fun h => by
  subst h
  refine n_fieldAddr rfl fd33_4 ti3 rfl n0WbA rfl n0WbA ?_
  exact AOps.nil ⟨rfl, rfl, rfl⟩) ?_
 refine n_softT (u := 31) b31 (by rw [ho]; kernel_rfl) rfl rfl n0WbA (fun h => by
  subst h
  refine n_load rfl ti3 n0WbA n0WbA rfl n0WbA ?_
  exact AOps.nil ⟨rfl, rfl, rfl⟩) ?_
 refine n_softT (u := 31) b31 (by rw [ho]; kernel_rfl) rfl rfl n0WbA (fun h => by
  subst h
  refine n_fieldAddr rfl fd33_4 ti3 rfl n0WbA rfl n0WbA ?_
  exact AOps.nil ⟨rfl, rfl, rfl⟩) ?_
 refine n_softT (u := 31) b31 (by rw [ho]; kernel_rfl) rfl rfl n0WbA (fun h => by
  subst h
  refine n_load rfl ti3 n0WbA n0WbA rfl n0WbA ?_
  exact AOps.nil ⟨rfl, rfl, rfl⟩) ?_
 refine n_softT (u := 31) b31 (by rw [ho]; kernel_rfl) rfl rfl n0WbA (fun h => by
  subst h
  refine n_ibin rfl n0WbA n0WbA rfl ?_
  exact AOps.nil ⟨rfl, rfl, rfl⟩) ?_
 refine n_pick_and rfl n0WbA (fun h => by cases b31 with | false => exact absurd h (by decide) | true => exact n0WbA) ?_
 refine n_move rfl n0WbA ?_
 refine AOps.name (u := 38) (fun z => .val (.bool z)) n0WbA (fun b38 hb38 => ?_)
 refine AOps.forget (tm' := (put (put (put empty 2 (.bp 0 0)) 3 (.bp 1 0)) 38 (.val (.bool b38)))) ?_ (FLe.put (FLe.put (FLe.put (FLe.empty _) n0WbA) n0WbA) n0WbA)
 refine n_softT (u := 38) b38 (by rw [ho]; kernel_rfl) rfl rfl n0WbA (fun h => by
  subst h
  refine n_fieldAddr rfl fd33_5 ti3 rfl n0WbA rfl n0WbA ?_
  exact AOps.nil ⟨rfl, rfl, rfl⟩) ?_
 refine n_softT (u := 38) b38 (by rw [ho]; kernel_rfl) rfl rfl n0WbA (fun h => by
  subst h
  refine n_load rfl ti3 n0WbA n0WbA rfl n0WbA ?_
  exact AOps.nil ⟨rfl, rfl, rfl⟩) ?_
 refine n_softT (u := 38) b38 (by rw [ho]; kernel_rfl) rfl rfl n0WbA (fun h => by
  subst h
  refine n_fieldAddr rfl fd33_5 ti3 rfl n0WbA rfl n0WbA ?_
  exact AOps.nil ⟨rfl, rfl, rfl⟩) ?_
 refine n_softT (u := 38) b38 (by rw [ho]; kernel_rfl) rfl rfl n0WbA (fun h => by
  subst h
  refine n_load rfl ti3 n0WbA n0WbA rfl n0WbA ?_
  exact AOps.nil ⟨rfl, rfl, rfl⟩) ?_
 refine n_softT (u := 38) b38 (by rw [ho]; kernel_rfl) rfl rfl n0WbA (fun h => by
  subst h
  refine n_ibin rfl n0WbA n0WbA rfl ?_
  exact AOps.nil ⟨rfl, rfl, rfl⟩) ?_
 refine n_pick_and rfl n0WbA (fun h => by cases b38 with | false => exact absurd h (by decide) | true => exact n0WbA) ?_
 refine n_move rfl n0WbA ?_
 refine AOps.name (u := 45) (fun z => .val (.bool z)) n0WbA (fun b45 hb45 => ?_)
 refine AOps.forget (tm' := (put (put (put empty 2 (.bp 0 0)) 3 (.bp 1 0)) 45 (.val (.bool b45)))) ?_ (FLe.put (FLe.put (FLe.put (FLe.empty _) n0WbA) n0WbA) n0WbA)
 refine n_softT (u := 45) b45 (by rw [ho]; kernel_rfl) rfl rfl n0WbA (fun h => by
  subst h
  refine n_fieldAddr rfl fd33_6 ti4 rfl n0WbA rfl n0WbA ?_
  exact AOps.nil ⟨rfl, rfl, rfl⟩) ?_
 refine n_softT (u := 45) b45 (by rw [ho]; kernel_rfl) rfl rfl n0WbA (fun h => by
  subst h
  refine n_load rfl ti4 n0WbA n0WbA rfl n0WbA ?_
  exact AOps.nil ⟨rfl, rfl, rfl⟩) ?_
 refine n_softT (u := 45) b45 (by rw [ho]; kernel_rfl) rfl rfl n0WbA (fun h => by
  subst h
  refine n_fieldAddr rfl fd33_6 ti4 rfl n0WbA rfl n0WbA ?_
  exact AOps.nil ⟨rfl, rfl, rfl⟩) ?_
 refine n_softT (u := 45) b45 (by rw [ho]; kernel_rfl) rfl rfl n0WbA (fun h => by
  subst h
  refine n_load rfl ti4 n0WbA n0WbA rfl n0WbA ?_
  exact AOps.nil ⟨rfl, rfl, rfl⟩) ?_
 refine n_softT (u := 45) b45 (by rw [ho]; kernel_rfl) rfl rfl n0WbA (fun h => by
  subst h
  refine n_beql rfl n0WbA n0WbA Tryz.underlying4 rfl ?_
  exact AOps.nil ⟨rfl, rfl, rfl⟩) ?_
 refine n_pick_and rfl n0WbA (fun h => by cases b45 with | false => exact absurd h (by decide) | true => exact n0WbA) ?_
 refine n_move rfl n0WbA ?_
 refine AOps.name (u := 52) (fun z => .val (.bool z)) n0WbA (fun b52 hb52 => ?_)
 refine AOps.forget (tm' := (put (put (put empty 2 (.bp 0 0)) 3 (.bp 1 0)) 52 (.val (.bool b52)))) ?_ (FLe.put (FLe.put (FLe.put (FLe.empty _) n0WbA) n0WbA) n0WbA)
 refine n_softT (u := 52) b52 (by rw [ho]; kernel_rfl) rfl rfl n0WbA (fun h => by
  subst h
  refine n_fieldAddr rfl fd33_7 ti22 rfl n0WbA rfl n0WbA ?_
  exact AOps.nil ⟨rfl, rfl, rfl⟩) ?_
 refine n_softT (u := 52) b52 (by rw [ho]; kernel_rfl) rfl rfl n0WbA (fun h => by
  subst h
  refine n_load rfl ti22 n0WbA n0WbA rfl n0WbA ?_
  exact AOps.nil ⟨rfl, rfl, rfl⟩) ?_
 refine n_softT (u := 52) b52 (by rw [ho]; kernel_rfl) rfl rfl n0WbA (fun h => by
  subst h
  refine n_fieldAddr rfl fd33_7 ti22 rfl n0WbA rfl n0WbA ?_
  exact AOps.nil ⟨rfl, rfl, rfl⟩) ?_
 refine n_softT (u := 52) b52 (by rw [ho]; kernel_rfl) rfl rfl n0WbA (fun h => by
  subst h
  refine n_load rfl ti22 n0WbA n0WbA rfl n0WbA ?_
  exact AOps.nil ⟨rfl, rfl, rfl⟩) ?_
 refine n_softT (u := 52) b52 (by rw [ho]; kernel_rfl) rfl rfl n0WbA (fun h => by
  subst h
  refine n_ibin rfl n0WbA n0WbA rfl ?_
  exact AOps.nil ⟨rfl, rfl, rfl⟩) ?_
 refine n_pick_and rfl n0WbA (fun h => by cases b52 with | false => exact absurd h (by decide) | true => exact n0WbA) ?_
 refine n_move rfl n0WbA ?_
 refine AOps.name (u := 59) (fun z => .val (.bool z)) n0WbA (fun b59 hb59 => ?_)
 refine AOps.forget (tm' := (put (put (put empty 2 (.bp 0 0)) 3 (.bp 1 0)) 59 (.val (.bool b59)))) ?_ (FLe.put (FLe.put (FLe.put (FLe.empty _) n0WbA) n0WbA) n0WbA)
 refine n_softT (u := 59) b59 (by rw [ho]; kernel_rfl) rfl rfl n0WbA (fun h => by
  subst h
  refine n_fieldAddr rfl fd33_8 ti26 rfl n0WbA rfl n0WbA ?_
  exact AOps.nil ⟨rfl, rfl, rfl⟩) ?_
 refine n_softT (u := 59) b59 (by rw [ho]; kernel_rfl) rfl rfl n0WbA (fun h => by
  subst h
  refine n_load rfl ti26 n0WbA n0WbA rfl n0WbA ?_
  exact AOps.nil ⟨rfl, rfl, rfl⟩) ?_
 refine n_softT (u := 59) b59 (by rw [ho]; kernel_rfl) rfl rfl n0WbA (fun h => by
  subst h
  refine n_fieldAddr rfl fd33_8 ti26 rfl n0WbA rfl n0WbA ?_
  exact AOps.nil ⟨rfl, rfl, rfl⟩) ?_
 refine n_softT (u := 59) b59 (by rw [ho]; kernel_rfl) rfl rfl n0WbA (fun h => by
  subst h
  refine n_load rfl ti26 n0WbA n0WbA rfl n0WbA ?_
  exact AOps.nil ⟨rfl, rfl, rfl⟩) ?_
 refine n_softT (u := 59) b59 (by rw [ho]; kernel_rfl) rfl rfl n0WbA (fun h => by
  subst h
  refine n_call0B rfl cf27 rfl e1WbA r2WbA (e_tx a.tx b.tx ha.r ha.v hb.r hb.v) l4WbA ?_
  exact AOps.nil ⟨rfl, rfl, rfl⟩) ?_
 refine n_pick_and rfl n0WbA (fun h => by cases b59 with | false => exact absurd h (by decide) | true => exact n0WbA) ?_
 refine n_move rfl n0WbA ?_
 refine AOps.name (u := 66) (fun z => .val (.bool z)) n0WbA (fun b66 hb66 => ?_)
 refine AOps.forget (tm' := (put (put (put empty 2 (.bp 0 0)) 3 (.bp 1 0)) 66 (.val (.bool b66)))) ?_ (FLe.put (FLe.put (FLe.put (FLe.empty _) n0WbA) n0WbA) n0WbA)
 refine n_softT (u := 66) b66 (by rw [ho]; kernel_rfl) rfl rfl n0WbA (fun h => by
  subst h
  refine n_fieldAddr rfl fd33_9 ti28 rfl n0WbA rfl n0WbA ?_
  exact AOps.nil ⟨rfl, rfl, rfl⟩) ?_
 refine n_softT (u := 66) b66 (by rw [ho]; kernel_rfl) rfl rfl n0WbA (fun h => by
  subst h
  refine n_load rfl ti28 n0WbA n0WbA rfl n0WbA ?_
  exact AOps.nil ⟨rfl, rfl, rfl⟩) ?_
 refine n_softT (u := 66) b66 (by rw [ho]; kernel_rfl) rfl rfl n0WbA (fun h => by
  subst h
  refine n_fieldAddr rfl fd33_9 ti28 rfl n0WbA rfl n0WbA ?_
  exact AOps.nil ⟨rfl, rfl, rfl⟩) ?_
 refine n_softT (u := 66) b66 (by rw [ho]; kernel_rfl) rfl rfl n0WbA (fun h => by
  subst h
  refine n_load rfl ti28 n0WbA n0WbA rfl n0WbA ?_
  exact AOps.nil ⟨rfl, rfl, rfl⟩) ?_
 refine n_softT (u := 66) b66 (by rw [ho]; kernel_rfl) rfl rfl n0WbA (fun h => by
  subst h
  refine n_steq rfl n0WbA n0WbA rfl rfl Tryz.underlying28 (by kernel_rfl) (by kernel_rfl) (.int rfl ti2 Tryz.underlying2 rfl rfl (.int rfl ti2 Tryz.underlying2 rfl rfl .nil)) rfl ?_
  exact AOps.nil ⟨rfl, rfl, rfl⟩) ?_
 refine n_pick_and rfl n0WbA (fun h => by cases b66 with | false => exact absurd h (by decide) | true => exact n0WbA) ?_
 refine n_move rfl n0WbA ?_
 refine AOps.name (u := 73) (fun z => .val (.bool z)) n0WbA (fun b73 hb73 => ?_)
 refine AOps.forget (tm' := (put (put (put empty 2 (.bp 0 0)) 3 (.bp 1 0)) 73 (.val (.bool b73)))) ?_ (FLe.put (FLe.put (FLe.put (FLe.empty _) n0WbA) n0WbA) n0WbA)
 refine n_softT (u := 73) b73 (by rw [ho]; kernel_rfl) rfl rfl n0WbA (fun h => by
  subst h
  refine n_fieldAddr rfl fd33_10 ti2 rfl n0WbA rfl n0WbA ?_
  exact AOps.nil ⟨rfl, rfl, rfl⟩) ?_
 refine n_softT (u := 73) b73 (by rw [ho]; kernel_rfl) rfl rfl n0WbA (fun h => by
  subst h
  refine n_load rfl ti2 n0WbA n0WbA rfl n0WbA ?_
  exact AOps.nil ⟨rfl, rfl, rfl⟩) ?_
 refine n_softT (u := 73) b73 (by rw [ho]; kernel_rfl) rfl rfl n0WbA (fun h => by
  subst h
  refine n_fieldAddr rfl fd33_10 ti2 rfl n0WbA rfl n0WbA ?_
  exact AOps.nil ⟨rfl, rfl, rfl⟩) ?_
 refine n_softT (u := 73) b73 (by rw [ho]; kernel_rfl) rfl rfl n0WbA (fun h => by
  subst h
  refine n_load rfl ti2 n0WbA n0WbA rfl n0WbA ?_
  exact AOps.nil ⟨rfl, rfl, rfl⟩) ?_
 refine n_softT (u := 73) b73 (by rw [ho]; kernel_rfl) rfl rfl n0WbA (fun h => by
  subst h
  refine n_ibin rfl n0WbA n0WbA rfl ?_
  exact AOps.nil ⟨rfl, rfl, rfl⟩) ?_
 refine n_pick_and rfl n0WbA (fun h => by cases b73 with | false => exact absurd h (by decide) | true => exact n0WbA) ?_
 refine n_move rfl n0WbA ?_
 refine AOps.name (u := 80) (fun z => .val (.bool z)) n0WbA (fun b80 hb80 => ?_)
 refine AOps.forget (tm' := (put (put (put empty 2 (.bp 0 0)) 3 (.bp 1 0)) 80 (.val (.bool b80)))) ?_ (FLe.put (FLe.put (FLe.put (FLe.empty _) n0WbA) n0WbA) n0WbA)
 refine n_softT (u := 80) b80 (by rw [ho]; kernel_rfl) rfl rfl n0WbA (fun h => by
  subst h
  refine n_fieldAddr rfl fd33_11 ti24 rfl n0WbA rfl n0WbA ?_
  exact AOps.nil ⟨rfl, rfl, rfl⟩) ?_
 refine n_softT (u := 80) b80 (by rw [ho]; kernel_rfl) rfl rfl n0WbA (fun h => by
  subst h
  refine n_load rfl ti24 n0WbA n0WbA rfl n0WbA ?_
  exact AOps.nil ⟨rfl, rfl, rfl⟩) ?_
 refine n_softT (u := 80) b80 (by rw [ho]; kernel_rfl) rfl rfl n0WbA (fun h => by
  subst h
  refine n_fieldAddr rfl fd33_11 ti24 rfl n0WbA rfl n0WbA ?_
  exact AOps.nil ⟨rfl, rfl, rfl⟩) ?_
 refine n_softT (u := 80) b80 (by rw [ho]; kernel_rfl) rfl rfl n0WbA (fun h => by
  subst h
  refine n_load rfl ti24 n0WbA n0WbA rfl n0WbA ?_
  exact AOps.nil ⟨rfl, rfl, rfl⟩) ?_
 refine n_softT (u := 80) b80 (by rw [ho]; kernel_rfl) rfl rfl n0WbA (fun h => by
  subst h
  refine n_call0B rfl cf28 rfl e1WbA r2WbA (e_int a.vc b.vc ha.c hb.c) l4WbA ?_
  exact AOps.nil ⟨rfl, rfl, rfl⟩) ?_
 refine n_pick_and rfl n0WbA (fun h => by cases b80 with | false => exact absurd h (by decide) | true => exact n0WbA) ?_
 refine n_move rfl n0WbA ?_
 refine AOps.name (u := 87) (fun z => .val (.bool z)) n0WbA (fun b87 hb87 => ?_)
 refine AOps.forget (tm' := (put (put (put empty 2 (.bp 0 0)) 3 (.bp 1 0)) 87 (.val (.bool b87)))) ?_ (FLe.put (FLe.put (FLe.put (FLe.empty _) n0WbA) n0WbA) n0WbA)
 refine n_softT (u := 87) b87 (by rw [ho]; kernel_rfl) rfl rfl n0WbA (fun h => by
  subst h
  refine n_fieldAddr rfl fd33_12 ti2 rfl n0WbA rfl n0WbA ?_
  exact AOps.nil ⟨rfl, rfl, rfl⟩) ?_
 refine n_softT (u := 87) b87 (by rw [ho]; kernel_rfl) rfl rfl n0WbA (fun h => by
  subst h
  refine n_load rfl ti2 n0WbA n0WbA rfl n0WbA ?_
  exact AOps.nil ⟨rfl, rfl, rfl⟩) ?_
 refine n_softT (u := 87) b87 (by rw [ho]; kernel_rfl) rfl rfl n0WbA (fun h => by
  subst h
  refine n_fieldAddr rfl fd33_12 ti2 rfl n0WbA rfl n0WbA ?_
  exact AOps.nil ⟨rfl, rfl, rfl⟩) ?_
 refine n_softT (u := 87) b87 (by rw [ho]; kernel_rfl) rfl rfl n0WbA (fun h => by
  subst h
  refine n_load rfl ti2 n0WbA n0WbA rfl n0WbA ?_
  exact AOps.nil ⟨rfl, rfl, rfl⟩) ?_
 refine n_softT (u := 87) b87 (by rw [ho]; kernel_rfl) rfl rfl n0WbA (fun h => by
  subst h
  refine n_ibin rfl n0WbA n0WbA rfl ?_
  exact AOps.nil ⟨rfl, rfl, rfl⟩) ?_
 refine n_pick_and rfl n0WbA (fun h => by cases b87 with | false => exact absurd h (by decide) | true => exact n0WbA) ?_
 refine n_move rfl n0WbA ?_
 refine AOps.name (u := 94) (fun z => .val (.bool z)) n0WbA (fun b94 hb94 => ?_)
 refine AOps.forget (tm' := (put (put (put empty 2 (.bp 0 0)) 3 (.bp 1 0)) 94 (.val (.bool b94)))) ?_ (FLe.put (FLe.put (FLe.put (FLe.empty _) n0WbA) n0WbA) n0WbA)
 refine n_softT (u := 94) b94 (by rw [ho]; kernel_rfl) rfl rfl n0WbA (fun h => by
  subst h
  refine n_fieldAddr rfl fd33_13 ti29 rfl n0WbA rfl n0WbA ?_
  exact AOps.nil ⟨rfl, rfl, rfl⟩) ?_
 refine n_softT (u := 94) b94 (by rw [ho]; kernel_rfl) rfl rfl n0WbA (fun h => by
  subst h
  refine n_load rfl ti29 n0WbA n0WbA rfl n0WbA ?_
  exact AOps.nil ⟨rfl, rfl, rfl⟩) ?_
 refine n_softT (u := 94) b94 (by rw [ho]; kernel_rfl) rfl rfl n0WbA (fun h => by
  subst h
  refine n_fieldAddr rfl fd33_13 ti29 rfl n0WbA rfl n0WbA ?_
  exact AOps.nil ⟨rfl, rfl, rfl⟩) ?_
 refine n_softT (u := 94) b94 (by rw [ho]; kernel_rfl) rfl rfl n0WbA (fun h => by
  subst h
  refine n_load rfl ti29 n0WbA n0WbA rfl n0WbA ?_
  exact AOps.nil ⟨rfl, rfl, rfl⟩) ?_
 refine n_softT (u := 94) b94 (by rw [ho]; kernel_rfl) rfl rfl n0WbA (fun h => by
  subst h
  refine n_call0B rfl cf29 rfl e1WbA r2WbA (e_tabs a.tb b.tb ha.t hb.t ha.s hb.s) l4WbA ?_
  exact AOps.nil ⟨rfl, rfl, rfl⟩) ?_
 refine n_pick_and rfl n0WbA (fun h => by cases b94 with | false => exact absurd h (by decide) | true => exact n0WbA) ?_
 refine n_move rfl n0WbA ?_
 refine AOps.name (u := 101) (fun z => .val (.bool z)) n0WbA (fun b101 hb101 => ?_)
 refine AOps.forget (tm' := (put (put (put empty 2 (.bp 0 0)) 3 (.bp 1 0)) 101 (.val (.bool b101)))) ?_ (FLe.put (FLe.put (FLe.put (FLe.empty _) n0WbA) n0WbA) n0WbA)
 refine n_softT (u := 101) b101 (by rw [ho]; kernel_rfl) rfl rfl n0WbA (fun h => by
  subst h
  refine n_fieldAddr rfl fd33_14 ti3 rfl n0WbA rfl n0WbA ?_
  exact AOps.nil ⟨rfl, rfl, rfl⟩) ?_
 refine n_softT (u := 101) b101 (by rw [ho]; kernel_rfl) rfl rfl n0WbA (fun h => by
  subst h
  refine n_load rfl ti3 n0WbA n0WbA rfl n0WbA ?_
  exact AOps.nil ⟨rfl, rfl, rfl⟩) ?_
 refine n_softT (u := 101) b101 (by rw [ho]; kernel_rfl) rfl rfl n0WbA (fun h => by
  subst h
  refine n_fieldAddr rfl fd33_14 ti3 rfl n0WbA rfl n0WbA ?_
  exact AOps.nil ⟨rfl, rfl, rfl⟩) ?_
 refine n_softT (u := 101) b101 (by rw [ho]; kernel_rfl) rfl rfl n0WbA (fun h => by
  subst h
  refine n_load rfl ti3 n0WbA n0WbA rfl n0WbA ?_
  exact AOps.nil ⟨rfl, rfl, rfl⟩) ?_
 refine n_softT (u := 101) b101 (by rw [ho]; kernel_rfl) rfl rfl n0WbA (fun h => by
  subst h
  refine n_ibin rfl n0WbA n0WbA rfl ?_
  exact AOps.nil ⟨rfl, rfl, rfl⟩) ?_
 refine n_pick_and rfl n0WbA (fun h => by cases b101 with | false => exact absurd h (by decide) | true => exact n0WbA) ?_
 refine n_move rfl n0WbA ?_
 refine AOps.name (u := 108) (fun z => .val (.bool z)) n0WbA (fun b108 hb108 => ?_)
 refine AOps.forget (tm' := (put (put (put empty 2 (.bp 0 0)) 3 (.bp 1 0)) 108 (.val (.bool b108)))) ?_ (FLe.put (FLe.put (FLe.put (FLe.empty _) n0WbA) n0WbA) n0WbA)
 refine n_softT (u := 108) b108 (by rw [ho]; kernel_rfl) rfl rfl n0WbA (fun h => by
  subst h
  refine n_fieldAddr rfl fd33_15 ti2 rfl n0WbA rfl n0WbA ?_
  exact AOps.nil ⟨rfl, rfl, rfl⟩) ?_
 refine n_softT (u := 108) b108 (by rw [ho]; kernel_rfl) rfl rfl n0WbA (fun h => by
  subst h
  refine n_load rfl ti2 n0WbA n0WbA rfl n0WbA ?_
  exact AOps.nil ⟨rfl, rfl, rfl⟩) ?_
 refine n_softT (u := 108) b108 (by rw [ho]; kernel_rfl) rfl rfl n0WbA (fun h => by
  subst h
  refine n_fieldAddr rfl fd33_15 ti2 rfl n0WbA rfl n0WbA ?_
  exact AOps.nil ⟨rfl, rfl, rfl⟩) ?_
 refine n_softT (u := 108) b108 (by rw [ho]; kernel_rfl) rfl rfl n0WbA (fun h => by
  subst h
  refine n_load rfl ti2 n0WbA n0WbA rfl n0WbA ?_
  exact AOps.nil ⟨rfl, rfl, rfl⟩) ?_
 refine n_softT (u := 108) b108 (by rw [ho]; kernel_rfl) rfl rfl n0WbA (fun h => by
  subst h
  refine n_ibin rfl n0WbA n0WbA rfl ?_
  exact AOps.nil ⟨rfl, rfl, rfl⟩) ?_
 refine n_pick_and rfl n0WbA (fun h => by cases b108 with | false => exact absurd h (by decide) | true => exact n0WbA) ?_
 refine n_move rfl n0WbA ?_
 refine AOps.name (u := 115) (fun z => .val (.bool z)) n0WbA (fun b115 hb115 => ?_)
 refine AOps.forget (tm' := (put (put (put empty 2 (.bp 0 0)) 3 (.bp 1 0)) 115 (.val (.bool b115)))) ?_ (FLe.put (FLe.put (FLe.put (FLe.empty _) n0WbA) n0WbA) n0WbA)
 refine n_softT (u := 115) b115 (by rw [ho]; kernel_rfl) rfl rfl n0WbA (fun h => by
  subst h
  refine n_fieldAddr rfl fd33_16 ti30 rfl n0WbA rfl n0WbA ?_
  exact AOps.nil ⟨rfl, rfl, rfl⟩) ?_
 refine n_softT (u := 115) b115 (by rw [ho]; kernel_rfl) rfl rfl n0WbA (fun h => by
  subst h
  refine n_load rfl ti30 n0WbA n0WbA rfl n0WbA ?_
  exact AOps.nil ⟨rfl, rfl, rfl⟩) ?_
 refine n_softT (u := 115) b115 (by rw [ho]; kernel_rfl) rfl rfl n0WbA (fun h => by
  subst h
  refine n_fieldAddr rfl fd33_16 ti30 rfl n0WbA rfl n0WbA ?_
  exact AOps.nil ⟨rfl, rfl, rfl⟩) ?_
 refine n_softT (u := 115) b115 (by rw [ho]; kernel_rfl) rfl rfl n0WbA (fun h => by
  subst h
  refine n_load rfl ti30 n0WbA n0WbA rfl n0WbA ?_
  exact AOps.nil ⟨rfl, rfl, rfl⟩) ?_
 refine n_softT (u := 115) b115 (by rw [ho]; kernel_rfl) rfl rfl n0WbA (fun h => by
  subst h
  refine n_call0B rfl cf31 rfl e1WbA r2WbA (e_ent a.en b.en ha.e hb.e) l4WbA ?_
  exact AOps.nil ⟨rfl, rfl, rfl⟩) ?_
 refine n_pick_and rfl n0WbA (fun h => by cases b115 with | false => exact absurd h (by decide) | true => exact n0WbA) ?_
 refine n_move rfl n0WbA ?_
 refine AOps.name (u := 122) (fun z => .val (.bool z)) n0WbA (fun b122 hb122 => ?_)
 refine AOps.forget (tm' := (put (put (put empty 2 (.bp 0 0)) 3 (.bp 1 0)) 122 (.val (.bool b122)))) ?_ (FLe.put (FLe.put (FLe.put (FLe.empty _) n0WbA) n0WbA) n0WbA)
 refine n_softT (u := 122) b122 (by rw [ho]; kernel_rfl) rfl rfl n0WbA (fun h => by
  subst h
  refine n_fieldAddr rfl fd33_17 ti3 rfl n0WbA rfl n0WbA ?_
  exact AOps.nil ⟨rfl, rfl, rfl⟩) ?_
 refine n_softT (u := 122) b122 (by rw [ho]; kernel_rfl) rfl rfl n0WbA (fun h => by
  subst h
  refine n_load rfl ti3 n0WbA n0WbA rfl n0WbA ?_
  exact AOps.nil ⟨rfl, rfl, rfl⟩) ?_
 refine n_softT (u := 122) b122 (by rw [ho]; kernel_rfl) rfl rfl n0WbA (fun h => by
  subst h
  refine n_fieldAddr rfl fd33_17 ti3 rfl n0WbA rfl n0WbA ?_
  exact AOps.nil ⟨rfl, rfl, rfl⟩) ?_
 refine n_softT (u := 122) b122 (by rw [ho]; kernel_rfl) rfl rfl n0WbA (fun h => by
  subst h
  refine n_load rfl ti3 n0WbA n0WbA rfl n0WbA ?_
  exact AOps.nil ⟨rfl, rfl, rfl⟩) ?_
 refine n_softT (u := 122) b122 (by rw [ho]; kernel_rfl) rfl rfl n0WbA (fun h => by
  subst h
  refine n_ibin rfl n0WbA n0WbA rfl ?_
  exact AOps.nil ⟨rfl, rfl, rfl⟩) ?_
 refine n_pick_and rfl n0WbA (fun h => by cases b122 with | false => exact absurd h (by decide) | true => exact n0WbA) ?_
 refine n_move rfl n0WbA ?_
 refine AOps.name (u := 129) (fun z => .val (.bool z)) n0WbA (fun b129 hb129 => ?_)
 refine AOps.forget (tm' := (put (put (put empty 2 (.bp 0 0)) 3 (.bp 1 0)) 129 (.val (.bool b129)))) ?_ (FLe.put (FLe.put (FLe.put (FLe.empty _) n0WbA) n0WbA) n0WbA)
 refine n_softT (u := 129) b129 (by rw [ho]; kernel_rfl) rfl rfl n0WbA (fun h => by
  subst h
  refine n_fieldAddr rfl fd33_18 ti31 rfl n0WbA rfl n0WbA ?_
  exact AOps.nil ⟨rfl, rfl, rfl⟩) ?_
 refine n_softT (u := 129) b129 (by rw [ho]; kernel_rfl) rfl rfl n0WbA (fun h => by
  subst h
  refine n_load rfl ti31 n0WbA n0WbA rfl n0WbA ?_
  exact AOps.nil ⟨rfl, rfl, rfl⟩) ?_
 refine n_softT (u := 129) b129 (by rw [ho]; kernel_rfl) rfl rfl n0WbA (fun h => by
  subst h
  refine n_fieldAddr rfl fd33_18 ti31 rfl n0WbA rfl n0WbA ?_
  exact AOps.nil ⟨rfl, rfl, rfl⟩) ?_
 refine n_softT (u := 129) b129 (by rw [ho]; kernel_rfl) rfl rfl n0WbA (fun h => by
  subst h
  refine n_load rfl ti31 n0WbA n0WbA rfl n0WbA ?_
  exact AOps.nil ⟨rfl, rfl, rfl⟩) ?_
 refine n_softT (u := 129) b129 (by rw [ho]; kernel_rfl) rfl rfl n0WbA (fun h => by
  subst h
  refine n_call0B rfl cf9 rfl e1WbA r2WbA (b_equal a.by_ b.by_ ha.b hb.b) l4WbA ?_
  exact AOps.nil ⟨rfl, rfl, rfl⟩) ?_
 refine n_pick_and rfl n0WbA (fun h => by cases b129 with | false => exact absurd h (by decide) | true => exact n0WbA) ?_
 refine n_assign rfl n0WbA ?_
 clear ho
 refine AOps.nil ?_
 refine AWP.ret ?_
 refine fin_pure (.cons (rv_tmp n0WbA) .nil) n0WbA ?_
 refine ren_flat rfl (congrArg vb ?_)
 subst hb10
 subst hb17
 subst hb24
 subst hb31
 subst hb38
 subst hb45
 subst hb52
 subst hb59
 subst hb66
 subst hb73
 subst hb80
 subst hb87
 subst hb94
 subst hb101
 subst hb108
 subst hb115
 subst hb122
 subst hb129
 (try simp only [Bool.and_true])
 rfl

set_option maxRecDepth 100000 in
set_option maxHeartbeats 4000000 in
theorem r_wr (a b : Wr) (ha : a.Sz) (hb : b.Sz) : Does Tryz.prog 8 [.agg (wz a), .agg (wz b)] [] (vb (sameW a b)) [] := by
 refine Does.of_body (rvs := [.tmp 4]) Tryz.func8 rfl rfl rfl rfl ?_
 have hba : bytesL a.by_ := ha.b
 have hbb : bytesL b.by_ := hb.b
 have hat := ha.t
 have hbt := hb.t
 refine AWP.sr ?_
 refine n_box rfl n0WbA rfl rfl n0WbA n0WbA ?_
 refine n_box rfl n0WbA rfl rfl n0WbA n0WbA ?_
 refine n_assign rfl n0WbA ?_
 refine AOps.nil ?_
 refine AWP.seq ?_
 refine AWP.sr ?_
 refine AOps.abs (fun o ho => ?_)
 refine n_fieldAddr rfl fd33_0 ti3 rfl n0WbA rfl n0WbA ?_
 refine n_load rfl ti3 n0WbA n0WbA rfl n0WbA ?_
 refine n_fieldAddr rfl fd33_0 ti3 rfl n0WbA rfl n0WbA ?_
 refine n_load rfl ti3 n0WbA n0WbA rfl n0WbA ?_
 refine n_ibin rfl n0WbA n0WbA rfl ?_
 refine n_move rfl n0WbA ?_
 refine AOps.name (u := 11) (fun z => .val (.bool z)) n0WbA (fun b11 hb11 => ?_)
 refine AOps.forget (tm' := (put (put (put empty 2 (.bp 0 0)) 3 (.bp 1 0)) 11 (.val (.bool b11)))) ?_ (FLe.put (FLe.put (FLe.put (FLe.empty _) n0WbA) n0WbA) n0WbA)
 refine n_softF (u := 11) b11 (by rw [ho]; kernel_rfl) rfl rfl n0WbA (fun h => by
  subst h
  refine n_fieldAddr rfl fd33_1 ti3 rfl n0WbA rfl n0WbA ?_
  exact AOps.nil ⟨rfl, rfl, rfl⟩) ?_
 refine n_softF (u := 11) b11 (by rw [ho]; kernel_rfl) rfl rfl n0WbA (fun h => by
  subst h
  refine n_load rfl ti3 n0WbA n0WbA rfl n0WbA ?_
  exact AOps.nil ⟨rfl, rfl, rfl⟩) ?_
 refine n_softF (u := 11) b11 (by rw [ho]; kernel_rfl) rfl rfl n0WbA (fun h => by
  subst h
  refine n_fieldAddr rfl fd33_1 ti3 rfl n0WbA rfl n0WbA ?_
  exact AOps.nil ⟨rfl, rfl, rfl⟩) ?_
 refine n_softF (u := 11) b11 (by rw [ho]; kernel_rfl) rfl rfl n0WbA (fun h => by
  subst h
  refine n_load rfl ti3 n0WbA n0WbA rfl n0WbA ?_
  exact AOps.nil ⟨rfl, rfl, rfl⟩) ?_
 refine n_softF (u := 11) b11 (by rw [ho]; kernel_rfl) rfl rfl n0WbA (fun h => by
  subst h
  refine n_ibin rfl n0WbA n0WbA rfl ?_
  exact AOps.nil ⟨rfl, rfl, rfl⟩) ?_
 refine n_pick_or rfl n0WbA (fun h => by cases b11 with | true => exact absurd h (by decide) | false => exact n0WbA) ?_
 refine n_move rfl n0WbA ?_
 refine AOps.name (u := 18) (fun z => .val (.bool z)) n0WbA (fun b18 hb18 => ?_)
 refine AOps.forget (tm' := (put (put (put empty 2 (.bp 0 0)) 3 (.bp 1 0)) 18 (.val (.bool b18)))) ?_ (FLe.put (FLe.put (FLe.put (FLe.empty _) n0WbA) n0WbA) n0WbA)
 refine n_softF (u := 18) b18 (by rw [ho]; kernel_rfl) rfl rfl n0WbA (fun h => by
  subst h
  refine n_fieldAddr rfl fd33_2 ti2 rfl n0WbA rfl n0WbA ?_
  exact AOps.nil ⟨rfl, rfl, rfl⟩) ?_
 refine n_softF (u := 18) b18 (by rw [ho]; kernel_rfl) rfl rfl n0WbA (fun h => by
  subst h
  refine n_load rfl ti2 n0WbA n0WbA rfl n0WbA ?_
  exact AOps.nil ⟨rfl, rfl, rfl⟩) ?_
 refine n_softF (u := 18) b18 (by rw [ho]; kernel_rfl) rfl rfl n0WbA (fun h => by
  subst h
  refine n_fieldAddr rfl fd33_2 ti2 rfl n0WbA rfl n0WbA ?_
  exact AOps.nil ⟨rfl, rfl, rfl⟩) ?_
 refine n_softF (u := 18) b18 (by rw [ho]; kernel_rfl) rfl rfl n0WbA (fun h => by
  subst h
  refine n_load rfl ti2 n0WbA n0WbA rfl n0WbA ?_
  exact AOps.nil ⟨rfl, rfl, rfl⟩) ?_
 refine n_softF (u := 18) b18 (by rw [ho]; kernel_rfl) rfl rfl n0WbA (fun h => by
  subst h
  refine n_ibin rfl n0WbA n0WbA rfl ?_
  exact AOps.nil ⟨rfl, rfl, rfl⟩) ?_
 refine n_pick_or rfl n0WbA (fun h => by cases b18 with | true => exact absurd h (by decide) | false => exact n0WbA) ?_
 refine n_move rfl n0WbA ?_
 refine AOps.name (u := 25) (fun z => .val (.bool z)) n0WbA (fun b25 hb25 => ?_)
 refine AOps.forget (tm' := (put (put (put empty 2 (.bp 0 0)) 3 (.bp 1 0)) 25 (.val (.bool b25)))) ?_ (FLe.put (FLe.put (FLe.put (FLe.empty _) n0WbA) n0WbA) n0WbA)
 refine n_softF (u := 25) b25 (by rw [ho]; kernel_rfl) rfl rfl n0WbA (fun h => by
  subst h
  refine n_fieldAddr rfl fd33_3 ti2 rfl n0WbA rfl n0WbA ?_
  exact AOps.nil ⟨rfl, rfl, rfl⟩) ?_
 refine n_softF (u := 25) b25 (by rw [ho]; kernel_rfl) rfl rfl n0WbA (fun h => by
  subst h
  refine n_load rfl ti2 n0WbA n0WbA rfl n0WbA ?_
  exact AOps.nil ⟨rfl, rfl, rfl⟩) ?_
 refine n_softF (u := 25) b25 (by rw [ho]; kernel_rfl) rfl rfl n0WbA (fun h => by
  subst h
  refine n_fieldAddr rfl fd33_3 ti2 rfl n0WbA rfl n0WbA ?_
  exact AOps.nil ⟨rfl, rfl, rfl⟩) ?_
 refine n_softF (u := 25) b25 (by rw [ho]; kernel_rfl) rfl rfl n0WbA (fun h => by
  subst h
  refine n_load rfl ti2 n0WbA n0WbA rfl n0WbA ?_
  exact AOps.nil ⟨rfl, rfl, rfl⟩) ?_
 refine n_softF (u := 25) b25 (by rw [ho]; kernel_rfl) rfl rfl n0WbA (fun h => by
  subst h
  refine n_ibin rfl n0WbA n0WbA rfl ?_
  exact AOps.nil ⟨rfl, rfl, rfl⟩) ?_
 refine n_pick_or rfl n0WbA (fun h => by cases b25 with | true => exact absurd h (by decide) | false => exact n0WbA) ?_
 refine n_move rfl n0WbA ?_
 refine AOps.name (u := 32) (fun z => .val (.bool z)) n0WbA (fun b32 hb32 => ?_)
 refine AOps.forget (tm' := (put (put (put empty 2 (.bp 0 0)) 3 (.bp 1 0)) 32 (.val (.bool b32)))) ?_ (FLe.put (FLe.put (FLe.put (FLe.empty _) n0WbA) n0WbA) n0WbA)
 refine n_softF (u := 32) b32 (by rw [ho]; kernel_rfl) rfl rfl n0WbA (fun h => by
  subst h
  refine n_fieldAddr rfl fd33_4 ti3 rfl n0WbA rfl n0WbA ?_
  exact AOps.nil ⟨rfl, rfl, rfl⟩) ?_
 refine n_softF (u := 32) b32 (by rw [ho]; kernel_rfl) rfl rfl n0WbA (fun h => by
  subst h
  refine n_load rfl ti3 n0WbA n0WbA rfl n0WbA ?_
  exact AOps.nil ⟨rfl, rfl, rfl⟩) ?_
 refine n_softF (u := 32) b32 (by rw [ho]; kernel_rfl) rfl rfl n0WbA (fun h => by
  subst h
  refine n_fieldAddr rfl fd33_4 ti3 rfl n0WbA rfl n0WbA ?_
  exact AOps.nil ⟨rfl, rfl, rfl⟩) ?_
 refine n_softF (u := 32) b32 (by rw [ho]; kernel_rfl) rfl rfl n0WbA (fun h => by
  subst h
  refine n_load rfl ti3 n0WbA n0WbA rfl n0WbA ?_
  exact AOps.nil ⟨rfl, rfl, rfl⟩) ?_
 refine n_softF (u := 32) b32 (by rw [ho]; kernel_rfl) rfl rfl n0WbA (fun h => by
  subst h
  refine n_ibin rfl n0WbA n0WbA rfl ?_
  exact AOps.nil ⟨rfl, rfl, rfl⟩) ?_
 refine n_pick_or rfl n0WbA (fun h => by cases b32 with | true => exact absurd h (by decide) | false => exact n0WbA) ?_
 refine n_move rfl n0WbA ?_
 refine AOps.name (u := 39) (fun z => .val (.bool z)) n0WbA (fun b39 hb39 => ?_)
 refine AOps.forget (tm' := (put (put (put empty 2 (.bp 0 0)) 3 (.bp 1 0)) 39 (.val (.bool b39)))) ?_ (FLe.put (FLe.put (FLe.put (FLe.empty _) n0WbA) n0WbA) n0WbA)
 refine n_softF (u := 39) b39 (by rw [ho]; kernel_rfl) rfl rfl n0WbA (fun h => by
  subst h
  refine n_fieldAddr rfl fd33_5 ti3 rfl n0WbA rfl n0WbA ?_
  exact AOps.nil ⟨rfl, rfl, rfl⟩) ?_
 refine n_softF (u := 39) b39 (by rw [ho]; kernel_rfl) rfl rfl n0WbA (fun h => by
  subst h
  refine n_load rfl ti3 n0WbA n0WbA rfl n0WbA ?_
  exact AOps.nil ⟨rfl, rfl, rfl⟩) ?_
 refine n_softF (u := 39) b39 (by rw [ho]; kernel_rfl) rfl rfl n0WbA (fun h => by
  subst h
  refine n_fieldAddr rfl fd33_5 ti3 rfl n0WbA rfl n0WbA ?_
  exact AOps.nil ⟨rfl, rfl, rfl⟩) ?_
 refine n_softF (u := 39) b39 (by rw [ho]; kernel_rfl) rfl rfl n0WbA (fun h => by
  subst h
  refine n_load rfl ti3 n0WbA n0WbA rfl n0WbA ?_
  exact AOps.nil ⟨rfl, rfl, rfl⟩) ?_
 refine n_softF (u := 39) b39 (by rw [ho]; kernel_rfl) rfl rfl n0WbA (fun h => by
  subst h
  refine n_ibin rfl n0WbA n0WbA rfl ?_
  exact AOps.nil ⟨rfl, rfl, rfl⟩) ?_
 refine n_pick_or rfl n0WbA (fun h => by cases b39 with | true => exact absurd h (by decide) | false => exact n0WbA) ?_
 refine n_move rfl n0WbA ?_
 refine AOps.name (u := 46) (fun z => .val (.bool z)) n0WbA (fun b46 hb46 => ?_)
 refine AOps.forget (tm' := (put (put (put empty 2 (.bp 0 0)) 3 (.bp 1 0)) 46 (.val (.bool b46)))) ?_ (FLe.put (FLe.put (FLe.put (FLe.empty _) n0WbA) n0WbA) n0WbA)
 refine n_softF (u := 46) b46 (by rw [ho]; kernel_rfl) rfl rfl n0WbA (fun h => by
  subst h
  refine n_fieldAddr rfl fd33_6 ti4 rfl n0WbA rfl n0WbA ?_
  exact AOps.nil ⟨rfl, rfl, rfl⟩) ?_
 refine n_softF (u := 46) b46 (by rw [ho]; kernel_rfl) rfl rfl n0WbA (fun h => by
  subst h
  refine n_load rfl ti4 n0WbA n0WbA rfl n0WbA ?_
  exact AOps.nil ⟨rfl, rfl, rfl⟩) ?_
 refine n_softF (u := 46) b46 (by rw [ho]; kernel_rfl) rfl rfl n0WbA (fun h => by
  subst h
  refine n_fieldAddr rfl fd33_6 ti4 rfl n0WbA rfl n0WbA ?_
  exact AOps.nil ⟨rfl, rfl, rfl⟩) ?_
 refine n_softF (u := 46) b46 (by rw [ho]; kernel_rfl) rfl rfl n0WbA (fun h => by
  subst h
  refine n_load rfl ti4 n0WbA n0WbA rfl n0WbA ?_
  exact AOps.nil ⟨rfl, rfl, rfl⟩) ?_
 refine n_softF (u := 46) b46 (by rw [ho]; kernel_rfl) rfl rfl n0WbA (fun h => by
  subst h
  refine n_bneq rfl n0WbA n0WbA Tryz.underlying4 rfl ?_
  exact AOps.nil ⟨rfl, rfl, rfl⟩) ?_
 refine n_pick_or rfl n0WbA (fun h => by cases b46 with | true => exact absurd h (by decide) | false => exact n0WbA) ?_
 refine n_move rfl n0WbA ?_
 refine AOps.name (u := 53) (fun z => .val (.bool z)) n0WbA (fun b53 hb53 => ?_)
 refine AOps.forget (tm' := (put (put (put empty 2 (.bp 0 0)) 3 (.bp 1 0)) 53 (.val (.bool b53)))) ?_ (FLe.put (FLe.put (FLe.put (FLe.empty _) n0WbA) n0WbA) n0WbA)
 refine n_softF (u := 53) b53 (by rw [ho]; kernel_rfl) rfl rfl n0WbA (fun h => by
  subst h
  refine n_fieldAddr rfl fd33_7 ti22 rfl n0WbA rfl n0WbA ?_
  exact AOps.nil ⟨rfl, rfl, rfl⟩) ?_
 refine n_softF (u := 53) b53 (by rw [ho]; kernel_rfl) rfl rfl n0WbA (fun h => by
  subst h
  refine n_load rfl ti22 n0WbA n0WbA rfl n0WbA ?_
  exact AOps.nil ⟨rfl, rfl, rfl⟩) ?_
 refine n_softF (u := 53) b53 (by rw [ho]; kernel_rfl) rfl rfl n0WbA (fun h => by
  subst h
  refine n_fieldAddr rfl fd33_7 ti22 rfl n0WbA rfl n0WbA ?_
  exact AOps.nil ⟨rfl, rfl, rfl⟩) ?_
 refine n_softF (u := 53) b53 (by rw [ho]; kernel_rfl) rfl rfl n0WbA (fun h => by
  subst h
  refine n_load rfl ti22 n0WbA n0WbA rfl n0WbA ?_
  exact AOps.nil ⟨rfl, rfl, rfl⟩) ?_
 refine n_softF (u := 53) b53 (by rw [ho]; kernel_rfl) rfl rfl n0WbA (fun h => by
  subst h
  refine n_ibin rfl n0WbA n0WbA rfl ?_
  exact AOps.nil ⟨rfl, rfl, rfl⟩) ?_
 refine n_pick_or rfl n0WbA (fun h => by cases b53 with | true => exact absurd h (by decide) | false => exact n0WbA) ?_
 refine n_move rfl n0WbA ?_
 refine AOps.name (u := 60) (fun z => .val (.bool z)) n0WbA (fun b60 hb60 => ?_)
 refine AOps.forget (tm' := (put (put (put empty 2 (.bp 0 0)) 3 (.bp 1 0)) 60 (.val (.bool b60)))) ?_ (FLe.put (FLe.put (FLe.put (FLe.empty _) n0WbA) n0WbA) n0WbA)
 refine n_softF (u := 60) b60 (by rw [ho]; kernel_rfl) rfl rfl n0WbA (fun h => by
  subst h
  refine n_fieldAddr rfl fd33_9 ti28 rfl n0WbA rfl n0WbA ?_
  exact AOps.nil ⟨rfl, rfl, rfl⟩) ?_
 refine n_softF (u := 60) b60 (by rw [ho]; kernel_rfl) rfl rfl n0WbA (fun h => by
  subst h
  refine n_load rfl ti28 n0WbA n0WbA rfl n0WbA ?_
  exact AOps.nil ⟨rfl, rfl, rfl⟩) ?_
 refine n_softF (u := 60) b60 (by rw [ho]; kernel_rfl) rfl rfl n0WbA (fun h => by
  subst h
  refine n_fieldAddr rfl fd33_9 ti28 rfl n0WbA rfl n0WbA ?_
  exact AOps.nil ⟨rfl, rfl, rfl⟩) ?_
 refine n_softF (u := 60) b60 (by rw [ho]; kernel_rfl) rfl rfl n0WbA (fun h => by
  subst h
  refine n_load rfl ti28 n0WbA n0WbA rfl n0WbA ?_
  exact AOps.nil ⟨rfl, rfl, rfl⟩) ?_
 refine n_softF (u := 60) b60 (by rw [ho]; kernel_rfl) rfl rfl n0WbA (fun h => by
  subst h
  refine n_stne rfl n0WbA n0WbA rfl rfl Tryz.underlying28 (by kernel_rfl) (by kernel_rfl) (.int rfl ti2 Tryz.underlying2 rfl rfl (.int rfl ti2 Tryz.underlying2 rfl rfl .nil)) rfl ?_
  exact AOps.nil ⟨rfl, rfl, rfl⟩) ?_
 refine n_pick_or rfl n0WbA (fun h => by cases b60 with | true => exact absurd h (by decide) | false => exact n0WbA) ?_
 refine n_move rfl n0WbA ?_
 refine AOps.name (u := 67) (fun z => .val (.bool z)) n0WbA (fun b67 hb67 => ?_)
 refine AOps.forget (tm' := (put (put (put empty 2 (.bp 0 0)) 3 (.bp 1 0)) 67 (.val (.bool b67)))) ?_ (FLe.put (FLe.put (FLe.put (FLe.empty _) n0WbA) n0WbA) n0WbA)
 refine n_softF (u := 67) b67 (by rw [ho]; kernel_rfl) rfl rfl n0WbA (fun h => by
  subst h
  refine n_fieldAddr rfl fd33_10 ti2 rfl n0WbA rfl n0WbA ?_
  exact AOps.nil ⟨rfl, rfl, rfl⟩) ?_
 refine n_softF (u := 67) b67 (by rw [ho]; kernel_rfl) rfl rfl n0WbA (fun h => by
  subst h
  refine n_load rfl ti2 n0WbA n0WbA rfl n0WbA ?_
  exact AOps.nil ⟨rfl, rfl, rfl⟩) ?_
 refine n_softF (u := 67) b67 (by rw [ho]; kernel_rfl) rfl rfl n0WbA (fun h => by
  subst h
  refine n_fieldAddr rfl fd33_10 ti2 rfl n0WbA rfl n0WbA ?_
  exact AOps.nil ⟨rfl, rfl, rfl⟩) ?_
 refine n_softF (u := 67) b67 (by rw [ho]; kernel_rfl) rfl rfl n0WbA (fun h => by
  subst h
  refine n_load rfl ti2 n0WbA n0WbA rfl n0WbA ?_
  exact AOps.nil ⟨rfl, rfl, rfl⟩) ?_
 refine n_softF (u := 67) b67 (by rw [ho]; kernel_rfl) rfl rfl n0WbA (fun h => by
  subst h
  refine n_ibin rfl n0WbA n0WbA rfl ?_
  exact AOps.nil ⟨rfl, rfl, rfl⟩) ?_
 refine n_pick_or rfl n0WbA (fun h => by cases b67 with | true => exact absurd h (by decide) | false => exact n0WbA) ?_
 refine n_move rfl n0WbA ?_
 refine AOps.name (u := 74) (fun z => .val (.bool z)) n0WbA (fun b74 hb74 => ?_)
 refine AOps.forget (tm' := (put (put (put empty 2 (.bp 0 0)) 3 (.bp 1 0)) 74 (.val (.bool b74)))) ?_ (FLe.put (FLe.put (FLe.put (FLe.empty _) n0WbA) n0WbA) n0WbA)
 refine n_softF (u := 74) b74 (by rw [ho]; kernel_rfl) rfl rfl n0WbA (fun h => by
  subst h
  refine n_fieldAddr rfl fd33_12 ti2 rfl n0WbA rfl n0WbA ?_
  exact AOps.nil ⟨rfl, rfl, rfl⟩) ?_
 refine n_softF (u := 74) b74 (by rw [ho]; kernel_rfl) rfl rfl n0WbA (fun h => by
  subst h
  refine n_load rfl ti2 n0WbA n0WbA rfl n0WbA ?_
  exact AOps.nil ⟨rfl, rfl, rfl⟩) ?_
 refine n_softF (u := 74) b74 (by rw [ho]; kernel_rfl) rfl rfl n0WbA (fun h => by
  subst h
  refine n_fieldAddr rfl fd33_12 ti2 rfl n0WbA rfl n0WbA ?_
  exact AOps.nil ⟨rfl, rfl, rfl⟩) ?_
 refine n_softF (u := 74) b74 (by rw [ho]; kernel_rfl) rfl rfl n0WbA (fun h => by
  subst h
  refine n_load rfl ti2 n0WbA n0WbA rfl n0WbA ?_
  exact AOps.nil ⟨rfl, rfl, rfl⟩) ?_
 refine n_softF (u := 74) b74 (by rw [ho]; kernel_rfl) rfl rfl n0WbA (fun h => by
  subst h
  refine n_ibin rfl n0WbA n0WbA rfl ?_
  exact AOps.nil ⟨rfl, rfl, rfl⟩) ?_
 refine n_pick_or rfl n0WbA (fun h => by cases b74 with | true => exact absurd h (by decide) | false => exact n0WbA) ?_
 refine n_move rfl n0WbA ?_
 refine AOps.name (u := 81) (fun z => .val (.bool z)) n0WbA (fun b81 hb81 => ?_)
 refine AOps.forget (tm' := (put (put (put empty 2 (.bp 0 0)) 3 (.bp 1 0)) 81 (.val (.bool b81)))) ?_ (FLe.put (FLe.put (FLe.put (FLe.empty _) n0WbA) n0WbA) n0WbA)
 refine n_softF (u := 81) b81 (by rw [ho]; kernel_rfl) rfl rfl n0WbA (fun h => by
  subst h
  refine n_fieldAddr rfl fd33_14 ti3 rfl n0WbA rfl n0WbA ?_
  exact AOps.nil ⟨rfl, rfl, rfl⟩) ?_
 refine n_softF (u := 81) b81 (by rw [ho]; kernel_rfl) rfl rfl n0WbA (fun h => by
  subst h
  refine n_load rfl ti3 n0WbA n0WbA rfl n0WbA ?_
  exact AOps.nil ⟨rfl, rfl, rfl⟩) ?_
 refine n_softF (u := 81) b81 (by rw [ho]; kernel_rfl) rfl rfl n0WbA (fun h => by
  subst h
  refine n_fieldAddr rfl fd33_14 ti3 rfl n0WbA rfl n0WbA ?_
  exact AOps.nil ⟨rfl, rfl, rfl⟩) ?_
 refine n_softF (u := 81) b81 (by rw [ho]; kernel_rfl) rfl rfl n0WbA (fun h => by
  subst h
  refine n_load rfl ti3 n0WbA n0WbA rfl n0WbA ?_
  exact AOps.nil ⟨rfl, rfl, rfl⟩) ?_
 refine n_softF (u := 81) b81 (by rw [ho]; kernel_rfl) rfl rfl n0WbA (fun h => by
  subst h
  refine n_ibin rfl n0WbA n0WbA rfl ?_
  exact AOps.nil ⟨rfl, rfl, rfl⟩) ?_
 refine n_pick_or rfl n0WbA (fun h => by cases b81 with | true => exact absurd h (by decide) | false => exact n0WbA) ?_
 refine n_move rfl n0WbA ?_
 refine AOps.name (u := 88) (fun z => .val (.bool z)) n0WbA (fun b88 hb88 => ?_)
 refine AOps.forget (tm' := (put (put (put empty 2 (.bp 0 0)) 3 (.bp 1 0)) 88 (.val (.bool b88)))) ?_ (FLe.put (FLe.put (FLe.put (FLe.empty _) n0WbA) n0WbA) n0WbA)
 refine n_softF (u := 88) b88 (by rw [ho]; kernel_rfl) rfl rfl n0WbA (fun h => by
  subst h
  refine n_fieldAddr rfl fd33_15 ti2 rfl n0WbA rfl n0WbA ?_
  exact AOps.nil ⟨rfl, rfl, rfl⟩) ?_
 refine n_softF (u := 88) b88 (by rw [ho]; kernel_rfl) rfl rfl n0WbA (fun h => by
  subst h
  refine n_load rfl ti2 n0WbA n0WbA rfl n0WbA ?_
  exact AOps.nil ⟨rfl, rfl, rfl⟩) ?_
 refine n_softF (u := 88) b88 (by rw [ho]; kernel_rfl) rfl rfl n0WbA (fun h => by
  subst h
  refine n_fieldAddr rfl fd33_15 ti2 rfl n0WbA rfl n0WbA ?_
  exact AOps.nil ⟨rfl, rfl, rfl⟩) ?_
 refine n_softF (u := 88) b88 (by rw [ho]; kernel_rfl) rfl rfl n0WbA (fun h => by
  subst h
  refine n_load rfl ti2 n0WbA n0WbA rfl n0WbA ?_
  exact AOps.nil ⟨rfl, rfl, rfl⟩) ?_
 refine n_softF (u := 88) b88 (by rw [ho]; kernel_rfl) rfl rfl n0WbA (fun h => by
  subst h
  refine n_ibin rfl n0WbA n0WbA rfl ?_
  exact AOps.nil ⟨rfl, rfl, rfl⟩) ?_
 refine n_pick_or rfl n0WbA (fun h => by cases b88 with | true => exact absurd h (by decide) | false => exact n0WbA) ?_
 refine n_move rfl n0WbA ?_
 refine AOps.name (u := 95) (fun z => .val (.bool z)) n0WbA (fun b95 hb95 => ?_)
 refine AOps.forget (tm' := (put (put (put empty 2 (.bp 0 0)) 3 (.bp 1 0)) 95 (.val (.bool b95)))) ?_ (FLe.put (FLe.put (FLe.put (FLe.empty _) n0WbA) n0WbA) n0WbA)
 refine n_softF (u := 95) b95 (by rw [ho]; kernel_rfl) rfl rfl n0WbA (fun h => by
  subst h
  refine n_fieldAddr rfl fd33_17 ti3 rfl n0WbA rfl n0WbA ?_
  exact AOps.nil ⟨rfl, rfl, rfl⟩) ?_
 refine n_softF (u := 95) b95 (by rw [ho]; kernel_rfl) rfl rfl n0WbA (fun h => by
  subst h
  refine n_load rfl ti3 n0WbA n0WbA rfl n0WbA ?_
  exact AOps.nil ⟨rfl, rfl, rfl⟩) ?_
 refine n_softF (u := 95) b95 (by rw [ho]; kernel_rfl) rfl rfl n0WbA (fun h => by
  subst h
  refine n_fieldAddr rfl fd33_17 ti3 rfl n0WbA rfl n0WbA ?_
  exact AOps.nil ⟨rfl, rfl, rfl⟩) ?_
 refine n_softF (u := 95) b95 (by rw [ho]; kernel_rfl) rfl rfl n0WbA (fun h => by
  subst h
  refine n_load rfl ti3 n0WbA n0WbA rfl n0WbA ?_
  exact AOps.nil ⟨rfl, rfl, rfl⟩) ?_
 refine n_softF (u := 95) b95 (by rw [ho]; kernel_rfl) rfl rfl n0WbA (fun h => by
  subst h
  refine n_ibin rfl n0WbA n0WbA rfl ?_
  exact AOps.nil ⟨rfl, rfl, rfl⟩) ?_
 refine n_pick_or rfl n0WbA (fun h => by cases b95 with | true => exact absurd h (by decide) | false => exact n0WbA) ?_
 subst hb11
 subst hb18
 subst hb25
 subst hb32
 subst hb39
 subst hb46
 subst hb53
 subst hb60
 subst hb67
 subst hb74
 subst hb81
 subst hb88
 subst hb95
 clear ho
 refine AOps.nil ?_
 refine AWP.cond n0WbA (fun hc1 => ?_) (fun hc1 => ?_)
 · try simp only [nh] at hc1
   have hr : sameW a b = false := sameW_no (fun hA _ _ => by obtain ⟨h1, h2, h3, h4, h5, h6, h7, h8, h9, h10, h11, h12, h13, h14, h15⟩ := hA; simp [h1, h2, h3, h4, h5, h6, h7, h8, h9, h10, h11, h12, h13, h14, h15] at hc1)
   rw [hr]
   refine AWP.sr ?_
   refine n_assign rfl n0WbA ?_
   refine AOps.nil ?_
   refine AWP.ret ?_
   refine fin_pure (.cons (rv_tmp n0WbA) .nil) n0WbA ?_
   exact ren_flat rfl rfl
 · try simp only [nh] at hc1
   have hA : Sca a b := by { unfold Sca; (try simp at hc1); grind }
   clear hc1
   refine AWP.skip ?_
   refine AWP.seq ?_
   refine AWP.sr ?_
   refine n_fieldAddr rfl fd33_8 ti26 rfl n0WbA rfl n0WbA ?_
   refine n_load rfl ti26 n0WbA n0WbA rfl n0WbA ?_
   refine n_fieldAddr rfl fd33_8 ti26 rfl n0WbA rfl n0WbA ?_
   refine n_load rfl ti26 n0WbA n0WbA rfl n0WbA ?_
   refine n_call0B rfl cf23 rfl e1WbA r2WbA (r_tx a.tx b.tx ha.r ha.v hb.r hb.v) l4WbA ?_
   refine n_not rfl n0WbA rfl ?_
   refine n_move rfl n0WbA ?_
   refine AOps.name (u := 108) (fun z => .val (.bool z)) n0WbA (fun b108 hb108 => ?_)
   refine AOps.forget (tm' := (put (put (put empty 2 (.bp 0 0)) 3 (.bp 1 0)) 108 (.val (.bool b108)))) ?_ (FLe.put (FLe.put (FLe.put (FLe.empty _) n0WbA) n0WbA) n0WbA)
   refine n_softF b108 rfl rfl rfl n0WbA (fun h => by
    subst h
    refine n_fieldAddr rfl fd33_11 ti24 rfl n0WbA rfl n0WbA ?_
    exact AOps.nil ⟨rfl, rfl, rfl⟩) ?_
   refine n_softF b108 rfl rfl rfl n0WbA (fun h => by
    subst h
    refine n_load rfl ti24 n0WbA n0WbA rfl n0WbA ?_
    exact AOps.nil ⟨rfl, rfl, rfl⟩) ?_
   refine n_softF b108 rfl rfl rfl n0WbA (fun h => by
    subst h
    refine n_fieldAddr rfl fd33_11 ti24 rfl n0WbA rfl n0WbA ?_
    exact AOps.nil ⟨rfl, rfl, rfl⟩) ?_
   refine n_softF b108 rfl rfl rfl n0WbA (fun h => by
    subst h
    refine n_load rfl ti24 n0WbA n0WbA rfl n0WbA ?_
    exact AOps.nil ⟨rfl, rfl, rfl⟩) ?_
   refine n_softF b108 rfl rfl rfl n0WbA (fun h => by
    subst h
    refine n_call0B rfl cf24 rfl e1WbA r2WbA (r_int a.vc b.vc ha.c hb.c) l4WbA ?_
    exact AOps.nil ⟨rfl, rfl, rfl⟩) ?_
   refine n_softF b108 rfl rfl rfl n0WbA (fun h => by
    subst h
    refine n_not rfl n0WbA rfl ?_
    exact AOps.nil ⟨rfl, rfl, rfl⟩) ?_
   refine n_pick_or rfl n0WbA (fun h => by cases b108 with | true => exact absurd h (by decide) | false => exact n0WbA) ?_
   refine n_move rfl n0WbA ?_
   refine AOps.name (u := 116) (fun z => .val (.bool z)) n0WbA (fun b116 hb116 => ?_)
   refine AOps.forget (tm' := (put (put (put empty 2 (.bp 0 0)) 3 (.bp 1 0)) 116 (.val (.bool b116)))) ?_ (FLe.put (FLe.put (FLe.put (FLe.empty _) n0WbA) n0WbA) n0WbA)
   refine n_softF b116 rfl rfl rfl n0WbA (fun h => by
    subst h
    refine n_fieldAddr rfl fd33_16 ti30 rfl n0WbA rfl n0WbA ?_
    exact AOps.nil ⟨rfl, rfl, rfl⟩) ?_
   refine n_softF b116 rfl rfl rfl n0WbA (fun h => by
    subst h
    refine n_load rfl ti30 n0WbA n0WbA rfl n0WbA ?_
    exact AOps.nil ⟨rfl, rfl, rfl⟩) ?_
   refine n_softF b116 rfl rfl rfl n0WbA (fun h => by
    subst h
    refine n_fieldAddr rfl fd33_16 ti30 rfl n0WbA rfl n0WbA ?_
    exact AOps.nil ⟨rfl, rfl, rfl⟩) ?_
   refine n_softF b116 rfl rfl rfl n0WbA (fun h => by
    subst h
    refine n_load rfl ti30 n0WbA n0WbA rfl n0WbA ?_
    exact AOps.nil ⟨rfl, rfl, rfl⟩) ?_
   refine n_softF b116 rfl rfl rfl n0WbA (fun h => by
    subst h
    refine n_call0B rfl cf25 rfl e1WbA r2WbA (r_ent a.en b.en ha.e hb.e) l4WbA ?_
    exact AOps.nil ⟨rfl, rfl, rfl⟩) ?_
   refine n_softF b116 rfl rfl rfl n0WbA (fun h => by
    subst h
    refine n_not rfl n0WbA rfl ?_
    exact AOps.nil ⟨rfl, rfl, rfl⟩) ?_
   refine n_pick_or rfl n0WbA (fun h => by cases b116 with | true => exact absurd h (by decide) | false => exact n0WbA) ?_
   refine n_move rfl n0WbA ?_
   refine AOps.name (u := 124) (fun z => .val (.bool z)) n0WbA (fun b124 hb124 => ?_)
   refine AOps.forget (tm' := (put (put (put empty 2 (.bp 0 0)) 3 (.bp 1 0)) 124 (.val (.bool b124)))) ?_ (FLe.put (FLe.put (FLe.put (FLe.empty _) n0WbA) n0WbA) n0WbA)
   refine n_softF b124 rfl rfl rfl n0WbA (fun h => by
    subst h
    refine n_fieldAddr rfl fd33_18 ti31 rfl n0WbA rfl n0WbA ?_
    exact AOps.nil ⟨rfl, rfl, rfl⟩) ?_
   refine n_softF b124 rfl rfl rfl n0WbA (fun h => by
    subst h
    refine n_load rfl ti31 n0WbA n0WbA rfl n0WbA ?_
    exact AOps.nil ⟨rfl, rfl, rfl⟩) ?_
   refine n_softF b124 rfl rfl rfl n0WbA (fun h => by
    subst h
    refine n_toStr rfl Tryz.underlying31 Tryz.underlying5 Tryz.underlying9 n0WbA ?_
    exact AOps.nil ⟨rfl, rfl, rfl⟩) ?_
   refine n_softF b124 rfl rfl rfl n0WbA (fun h => by
    subst h
    refine n_fieldAddr rfl fd33_18 ti31 rfl n0WbA rfl n0WbA ?_
    exact AOps.nil ⟨rfl, rfl, rfl⟩) ?_
   refine n_softF b124 rfl rfl rfl n0WbA (fun h => by
    subst h
    refine n_load rfl ti31 n0WbA n0WbA rfl n0WbA ?_
    exact AOps.nil ⟨rfl, rfl, rfl⟩) ?_
   refine n_softF b124 rfl rfl rfl n0WbA (fun h => by
    subst h
    refine n_toStr rfl Tryz.underlying31 Tryz.underlying5 Tryz.underlying9 n0WbA ?_
    exact AOps.nil ⟨rfl, rfl, rfl⟩) ?_
   refine n_softF b124 rfl rfl rfl n0WbA (fun h => by
    subst h
    refine n_strne rfl n0WbA n0WbA (by assumption) (by assumption) rfl ?_
    exact AOps.nil ⟨rfl, rfl, rfl⟩) ?_
   refine n_pick_or rfl n0WbA (fun h => by cases b124 with | true => exact absurd h (by decide) | false => exact n0WbA) ?_
   refine n_move rfl n0WbA ?_
   refine AOps.name (u := 133) (fun z => .val (.bool z)) n0WbA (fun b133 hb133 => ?_)
   refine AOps.forget (tm' := (put (put (put empty 2 (.bp 0 0)) 3 (.bp 1 0)) 133 (.val (.bool b133)))) ?_ (FLe.put (FLe.put (FLe.put (FLe.empty _) n0WbA) n0WbA) n0WbA)
   refine n_softF b133 rfl rfl rfl n0WbA (fun h => by
    subst h
    refine n_fieldAddr rfl fd33_13 ti29 rfl n0WbA rfl n0WbA ?_
    exact AOps.nil ⟨rfl, rfl, rfl⟩) ?_
   refine n_softF b133 rfl rfl rfl n0WbA (fun h => by
    subst h
    refine n_load rfl ti29 n0WbA n0WbA rfl n0WbA ?_
    exact AOps.nil ⟨rfl, rfl, rfl⟩) ?_
   refine n_softF b133 rfl rfl rfl n0WbA (fun h => by
    subst h
    refine n_len rfl Tryz.underlying29 n0WbA (by first | rw [ints_length] | rw [List.length_map] | rfl) ?_
    exact AOps.nil ⟨rfl, rfl, rfl⟩) ?_
   refine n_softF b133 rfl rfl rfl n0WbA (fun h => by
    subst h
    refine n_fieldAddr rfl fd33_13 ti29 rfl n0WbA rfl n0WbA ?_
    exact AOps.nil ⟨rfl, rfl, rfl⟩) ?_
   refine n_softF b133 rfl rfl rfl n0WbA (fun h => by
    subst h
    refine n_load rfl ti29 n0WbA n0WbA rfl n0WbA ?_
    exact AOps.nil ⟨rfl, rfl, rfl⟩) ?_
   refine n_softF b133 rfl rfl rfl n0WbA (fun h => by
    subst h
    refine n_len rfl Tryz.underlying29 n0WbA (by first | rw [ints_length] | rw [List.length_map] | rfl) ?_
    exact AOps.nil ⟨rfl, rfl, rfl⟩) ?_
   refine n_softF b133 rfl rfl rfl n0WbA (fun h => by
    subst h
    refine n_ibin rfl n0WbA n0WbA rfl ?_
    exact AOps.nil ⟨rfl, rfl, rfl⟩) ?_
   refine n_pick_or rfl n0WbA (fun h => by cases b133 with | true => exact absurd h (by decide) | false => exact n0WbA) ?_
   subst hb108
   subst hb116
   subst hb124
   subst hb133
   refine AOps.nil ?_
   refine AWP.cond n0WbA (fun hc2 => ?_) (fun hc2 => ?_)
   · try simp only [nh] at hc2
     have hr : sameW a b = false := sameW_no (fun _ hB hC => by obtain ⟨h1, h2, h3, h4⟩ := hB; simp [h1, h2, h3, h4, hC] at hc2)
     rw [hr]
     refine AWP.sr ?_
     refine n_assign rfl n0WbA ?_
     refine AOps.nil ?_
     refine AWP.ret ?_
     refine fin_pure (.cons (rv_tmp n0WbA) .nil) n0WbA ?_
     exact ren_flat rfl rfl
   · try simp only [nh] at hc2
     have hB : Lis a b ∧ a.tb.length = b.tb.length := by { unfold Lis; (try simp at hc2); grind }
     clear hc2
     obtain ⟨hB, hlm⟩ := hB
     refine AWP.skip ?_
     refine AWP.seq ?_
     refine AWP.sr ?_
     refine n_assign rfl n0WbA ?_
     refine AOps.nil ?_
     refine AWP.block ?_
     refine AWP.loop (α := Nat) (fun i => i ≤ a.tb.length ∧ a.tb.take i = b.tb.take i) (fun i => put (put (put empty 2 (.bp 0 0)) 3 (.bp 1 0)) 5 (vi (i : Int))) (fun _ => [Ob.box (wz a), Ob.box (wz b)]) (fun i => a.tb.length - i) 0 ?_ ?_ ?_ ?_
     · exact ⟨Nat.zero_le _, rfl⟩
     · (repeat (first | exact FLe.empty _ | refine FLe.put ?_ ?_)) <;> first | (simp only [nf, Nat.beq]; done) | rfl | ((try simp only [nf, Nat.beq]); first | rfl | (simp only [List.length_map]; done) | (congr 2; omega; done))
     · rfl
     · rintro i ⟨hi, hE⟩
       try dsimp only at hi hE ⊢
       refine AWP.seq ?_
       refine AWP.sr ?_
       refine n_move rfl n0WbA ?_
       refine n_fieldAddr rfl fd33_13 ti29 rfl n0WbA rfl n0WbA ?_
       refine n_load rfl ti29 n0WbA n0WbA rfl n0WbA ?_
       refine n_len rfl Tryz.underlying29 n0WbA (by first | rw [ints_length] | rw [List.length_map] | rfl) ?_
       refine n_ibin rfl n0WbA n0WbA rfl ?_
       refine AOps.nil ?_
       refine AWP.cond n0WbA (fun hc3 => ?_) (fun hc3 => ?_)
       · try simp only [nh] at hc3
         obtain ⟨x, hx0⟩ : ∃ x, a.tb[i]? = some x := ⟨_, List.getElem?_eq_getElem (by omega)⟩
         obtain ⟨y, hy0⟩ : ∃ y, b.tb[i]? = some y := ⟨_, List.getElem?_eq_getElem (by omega)⟩
         have hx := map_at qt hx0
         have hy := map_at qt hy0
         refine AWP.skip ?_
         refine AWP.seq ?_
         refine AWP.block ?_
         refine AWP.seq ?_
         refine AWP.anyStill (by kernel_rfl) (by kernel_rfl) ?_
         refine Walk.still (rs := [2]) (by rfl) n0WbA (fun base => by
          refine n_fieldAddr rfl fd33_13 ti29 rfl n0WbA rfl n0WbA ?_
          exact AOps.nil ⟨rfl, rfl, rfl⟩) ?_
         refine Walk.still (rs := [149]) (by rfl) n0WbA (fun base => by
          refine n_load rfl ti29 n0WbA n0WbA rfl n0WbA ?_
          exact AOps.nil ⟨rfl, rfl, rfl⟩) ?_
         refine Walk.still (rs := [5]) (by rfl) n0WbA (fun base => by
          refine n_move rfl n0WbA ?_
          exact AOps.nil ⟨rfl, rfl, rfl⟩) ?_
         refine Walk.still (rs := [150, 151]) (by rfl) n0WbA (fun base => by
          refine n_indexAddr rfl Tryz.underlying29 ti49 rfl n0WbA n0WbA (by omega) (by exact hx) rfl ?_
          exact AOps.nil ⟨rfl, rfl, rfl⟩) ?_
         refine Walk.still (rs := [152]) (by rfl) n0WbA (fun base => by
          refine n_load rfl ti49 n0WbA n0WbA rfl n0WbA ?_
          exact AOps.nil ⟨rfl, rfl, rfl⟩) ?_
         refine Walk.still (rs := [3]) (by rfl) n0WbA (fun base => by
          refine n_fieldAddr rfl fd33_13 ti29 rfl n0WbA rfl n0WbA ?_
          exact AOps.nil ⟨rfl, rfl, rfl⟩) ?_
         refine Walk.still (rs := [154]) (by rfl) n0WbA (fun base => by
          refine n_load rfl ti29 n0WbA n0WbA rfl n0WbA ?_
          exact AOps.nil ⟨rfl, rfl, rfl⟩) ?_
         refine Walk.still (rs := [5]) (by rfl) n0WbA (fun base => by
          refine n_move rfl n0WbA ?_
          exact AOps.nil ⟨rfl, rfl, rfl⟩) ?_
         refine Walk.still (rs := [155, 156]) (by rfl) n0WbA (fun base => by
          refine n_indexAddr rfl Tryz.underlying29 ti49 rfl n0WbA n0WbA (by omega) (by exact hy) rfl ?_
          exact AOps.nil ⟨rfl, rfl, rfl⟩) ?_
         refine Walk.still (rs := [157]) (by rfl) n0WbA (fun base => by
          refine n_load rfl ti49 n0WbA n0WbA rfl n0WbA ?_
          exact AOps.nil ⟨rfl, rfl, rfl⟩) ?_
         refine Walk.still (rs := [153, 158]) (by rfl) n0WbA (fun base => by
          refine n_call0B rfl cf26 rfl e1WbA r2WbA (r_tab x y (ha.s x (List.mem_of_getElem? hx0)) (hb.s y (List.mem_of_getElem? hy0))) l4WbA ?_
          exact AOps.nil ⟨rfl, rfl, rfl⟩) ?_
         refine Walk.still (rs := [159]) (by rfl) n0WbA (fun base => by
          refine n_not rfl n0WbA rfl ?_
          exact AOps.nil ⟨rfl, rfl, rfl⟩) ?_
         refine Walk.done ?_
         refine AWP.cond n0WbA (fun hc4 => ?_) (fun hc4 => ?_)
         · try simp only [nh] at hc4
           have hr : sameW a b = false := sameW_no (fun _ _ e => ne_at hx0 hy0 (by rintro rfl; simp at hc4) e)
           rw [hr]
           refine AWP.sr ?_
           refine n_assign rfl n0WbA ?_
           refine AOps.nil ?_
           refine AWP.ret ?_
           refine fin_pure (.cons (rv_tmp n0WbA) .nil) n0WbA ?_
           exact ren_flat rfl rfl
         try simp only [nh] at hc4
         have hxy : x = y := by { (try simp at hc4); exact hc4 }
         refine AWP.skip ?_
         refine AWP.region ?_
         refine n_move rfl n0WbA ?_
         first | refine n_iadd rfl n0WbA n0WbA rfl (by omega) (by omega) ?_ | refine n_ibin rfl n0WbA n0WbA rfl ?_
         refine n_assign rfl n0WbA ?_
         refine AOps.nil ?_
         refine ⟨i + 1, ⟨by omega, eq_take hE hx0 (by rw [hxy]; exact hy0)⟩, ?_, rfl, by omega⟩
         (repeat (first | exact FLe.empty _ | refine FLe.put ?_ ?_)) <;> first | (simp only [nf, Nat.beq]; done) | rfl | ((try simp only [nf, Nat.beq]); first | rfl | (simp only [List.length_map]; done) | (congr 2; omega; done))
       · try simp only [nh] at hc3
         obtain rfl : i = a.tb.length := by omega
         have hr : sameW a b = true := sameW_iff.2 ⟨hA, hB, eq_all hlm hE⟩
         rw [hr]
         refine AWP.exit ?_
         refine AWP.sr ?_
         refine n_assign rfl n0WbA ?_
         refine AOps.nil ?_
         refine AWP.ret ?_
         refine fin_pure (.cons (rv_tmp n0WbA) .nil) n0WbA ?_
         exact ren_flat rfl rfl

end Go.Proofs.YtanfmpkjcoolmaaGreat.Wb
