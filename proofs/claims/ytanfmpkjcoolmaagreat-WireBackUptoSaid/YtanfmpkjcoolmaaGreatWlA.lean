/- Which messages may be. -/
import Derived.Test.YtanfmpkjcoolmaaGreatPlainA
import Derived.Test.YtanfmpkjcoolmaaGreatWkA
import Derived.Test.YtanfmpkjcoolmaaGreatWiA
set_option linter.unusedVariables false
set_option linter.unusedSimpArgs false
namespace Go.Proofs.YtanfmpkjcoolmaaGreat.Wl
open Go Go.Abs Go.Proofs.YtanfmpkjcoolmaaGreat.Pk Wa Wb Wh Wi Wj Wk
attribute [local irreducible] AWP AOps Does

theorem n0WlA {α : Type} {a b : α} (h : a = b := by first|simp only[nf,Nat.beq]<;>rfl|rfl) : a = b := h
theorem e1WlA {α : Type} {a b : α} (h : a = b := by exact Eq.trans (by simp only [nl] <;> rfl) n0WlA) : a = b := h
theorem r2WlA {ρ σ : Nat → Nat → Prop} {a b : List D} (h : RenAll ρ σ a b := by repeat (first | exact .nil | refine .cons ?_ ?_ | exact ren_ints | exact .lf (.val _) | exact .lf (lf_ints (.inl rfl)) | exact .bp ⟨rfl, rfl⟩ | exact .bp (.inl ⟨rfl, rfl⟩) | exact .bp (.inr ⟨rfl, rfl⟩) | exact .lf (wz_lf _) | exact .agg rfl (RenAll.get (by repeat (first | exact .nil | refine .cons ?_ ?_ | exact .lf (.val _) | exact ren_map (f := q1) (fun _ => rfl) | exact ren_map (f := q2) (fun _ => rfl) | exact ren_map (f := q4) (fun _ => rfl) | exact ren_mapG qt_lf | exact .ro (fun x h => by cases h) | exact ren_ints))) | exact .agg rfl (RenAll.get (.cons (.lf (.val _)) (.cons (.lf (.val _)) (.cons (ren_map (f := q4) (fun _ => rfl)) .nil)))) | exact ren_mapG qt_lf | exact .lf (.agg (qt_lf _)) | exact .lf (txz_lf _) | exact ren_bys0 rfl | exact .lf lf_fnz | exact ren_map (f := q1) (fun _ => rfl) | exact ren_map (f := q2) (fun _ => rfl) | exact ren_map (f := q4) (fun _ => rfl) | exact .lf (D.flat_lf rfl) | exact ren_lits rfl)) : RenAll ρ σ a b := h
theorem l3WlA {d : D} (h : LF d := by first | exact .val _ | exact lf_ints (.inl rfl) | exact lf_ints (.inr rfl) | exact .any | exact .tup (lf_cons (wz_lf _) (lf_cons (.val _) lf_nil)) | exact wz_lf _ | exact .tup (lf_cons (lf_ints (.inl rfl)) (lf_cons (.val _) lf_nil)) | exact .agg (qt_lf _) | exact D.flat_lf rfl) : LF d := h
theorem cf10 : CF Tryz.prog 10 := ⟨_, Tryz.func10, by kernel_rfl, by kernel_rfl⟩
theorem cf38 : CF Tryz.prog 38 := ⟨_, Tryz.func38, by kernel_rfl, by kernel_rfl⟩
theorem cf39 : CF Tryz.prog 39 := ⟨_, Tryz.func39, by kernel_rfl, by kernel_rfl⟩
theorem cf40 : CF Tryz.prog 40 := ⟨_, Tryz.func40, by kernel_rfl, by kernel_rfl⟩
theorem fd33_1 : FD Tryz.prog 33 1 3 1 := ⟨_, _, Tryz.underlying33, rfl, rfl, rfl⟩
theorem ti3 : TI Tryz.prog 3 1 false := ⟨by kernel_rfl, by kernel_rfl⟩
theorem ti33 : TI Tryz.prog 33 24 true := ⟨by kernel_rfl, by kernel_rfl⟩
theorem zi33 : (Tryz.prog.info? 33).map (·.zero) = some (some (.agg #[.int .i64 0, .int .i64 0, .int .i64 0, .int .i64 0, .int .i64 0, .int .i64 0, .bool false, .int .i64 0, .int .i64 0, .int .i64 0, .int .i64 0, .slice none 0 0, .slice none 0 0, .int .i64 0, .int .i64 0, .int .i64 0, .slice none 0 0, .int .i64 0, .slice none 0 0, .int .i64 0, .int .i64 0, .slice none 0 0, .int .i64 0, .slice none 0 0])) := by kernel_rfl

theorem l_check (a : Wr) (ha : a.Sz) : Does Tryz.prog 12 [.agg (wz a)] [] (vi (chkW a)) [] := by
 refine Does.of_body (rvs := [.tmp 2]) Tryz.func12 rfl rfl rfl rfl ?_
 refine AWP.sr ?_
 refine n_box rfl n0WlA rfl rfl n0WlA n0WlA ?_
 refine n_assign rfl n0WlA ?_
 refine AOps.nil ?_
 refine AWP.seq ?_
 refine AWP.sr ?_
 refine n_load rfl ti33 n0WlA n0WlA rfl n0WlA ?_
 refine n_call0B rfl cf38 rfl e1WlA r2WlA (l_bare a) l3WlA ?_
 refine n_move rfl n0WlA ?_
 refine n_extract rfl n0WlA rfl ?_
 refine n_extract rfl n0WlA rfl ?_
 refine n_alloc rfl zi33 rfl n0WlA n0WlA ?_
 refine n_store ti33 n0WlA rfl n0WlA rfl n0WlA rfl rfl rfl n0WlA ?_
 refine n_assign rfl n0WlA ?_
 refine AOps.nil ?_
 refine AWP.sr ?_
 refine n_move rfl n0WlA ?_
 refine n_not rfl n0WlA rfl ?_
 refine n_move rfl n0WlA ?_
 refine AOps.name (u := 12) (fun z => .val (.bool z)) n0WlA (fun b12 hb12 => ?_)
 refine AOps.forget (tm' := (put (put (put empty 1 (.bp 0 0)) 3 (.bp 1 0)) 12 (.val (.bool b12)))) ?_ (FLe.put (FLe.put (FLe.put (FLe.empty _) n0WlA) n0WlA) n0WlA)
 refine n_softF b12 rfl rfl rfl n0WlA (fun h => by
  subst h
  refine n_fieldAddr rfl fd33_1 ti3 rfl n0WlA rfl n0WlA ?_
  exact AOps.nil ⟨rfl, rfl, rfl⟩) ?_
 refine n_softF b12 rfl rfl rfl n0WlA (fun h => by
  subst h
  refine n_load rfl ti3 n0WlA n0WlA rfl n0WlA ?_
  exact AOps.nil ⟨rfl, rfl, rfl⟩) ?_
 refine n_softF b12 rfl rfl rfl n0WlA (fun h => by
  subst h
  refine n_call0B rfl cf39 rfl e1WlA r2WlA (regn a.rg) l3WlA ?_
  exact AOps.nil ⟨rfl, rfl, rfl⟩) ?_
 refine n_softF b12 rfl rfl rfl n0WlA (fun h => by
  subst h
  refine n_not rfl n0WlA rfl ?_
  exact AOps.nil ⟨rfl, rfl, rfl⟩) ?_
 refine n_pick_or rfl n0WlA (fun h => by cases b12 with | true => exact absurd h (by decide) | false => exact n0WlA) ?_
 refine n_move rfl n0WlA ?_
 refine AOps.name (u := 18) (fun z => .val (.bool z)) n0WlA (fun b18 hb18 => ?_)
 refine AOps.forget (tm' := (put (put (put empty 1 (.bp 0 0)) 3 (.bp 1 0)) 18 (.val (.bool b18)))) ?_ (FLe.put (FLe.put (FLe.put (FLe.empty _) n0WlA) n0WlA) n0WlA)
 refine n_softF b18 rfl rfl rfl n0WlA (fun h => by
  subst h
  refine n_load rfl ti33 n0WlA n0WlA rfl n0WlA ?_
  exact AOps.nil ⟨rfl, rfl, rfl⟩) ?_
 refine n_softF b18 rfl rfl rfl n0WlA (fun h => by
  subst h
  refine n_call0B rfl cf40 rfl e1WlA r2WlA (l_fields a ha) l3WlA ?_
  exact AOps.nil ⟨rfl, rfl, rfl⟩) ?_
 refine n_softF b18 rfl rfl rfl n0WlA (fun h => by
  subst h
  refine n_not rfl n0WlA rfl ?_
  exact AOps.nil ⟨rfl, rfl, rfl⟩) ?_
 refine n_pick_or rfl n0WlA (fun h => by cases b18 with | true => exact absurd h (by decide) | false => exact n0WlA) ?_
 refine n_move rfl n0WlA ?_
 refine AOps.name (u := 23) (fun z => .val (.bool z)) n0WlA (fun b23 hb23 => ?_)
 refine AOps.forget (tm' := (put (put (put empty 1 (.bp 0 0)) 3 (.bp 1 0)) 23 (.val (.bool b23)))) ?_ (FLe.put (FLe.put (FLe.put (FLe.empty _) n0WlA) n0WlA) n0WlA)
 refine n_softF b23 rfl rfl rfl n0WlA (fun h => by
  subst h
  refine n_load rfl ti33 n0WlA n0WlA rfl n0WlA ?_
  exact AOps.nil ⟨rfl, rfl, rfl⟩) ?_
 refine n_softF b23 rfl rfl rfl n0WlA (fun h => by
  subst h
  refine n_load rfl ti33 n0WlA n0WlA rfl n0WlA ?_
  exact AOps.nil ⟨rfl, rfl, rfl⟩) ?_
 refine n_softF b23 rfl rfl rfl n0WlA (fun h => by
  subst h
  refine n_call0B rfl cf10 rfl e1WlA r2WlA (e_wr a (bareW a) ha (bareW_sz ha)) l3WlA ?_
  exact AOps.nil ⟨rfl, rfl, rfl⟩) ?_
 refine n_softF b23 rfl rfl rfl n0WlA (fun h => by
  subst h
  refine n_not rfl n0WlA rfl ?_
  exact AOps.nil ⟨rfl, rfl, rfl⟩) ?_
 refine n_pick_or rfl n0WlA (fun h => by cases b23 with | true => exact absurd h (by decide) | false => exact n0WlA) ?_
 subst hb12
 subst hb18
 subst hb23
 refine AOps.nil ?_
 refine AWP.cond n0WlA (fun hc1 => ?_) (fun hc1 => ?_)
 · try simp only [nh] at hc1
   have hr : chkW a = 240 := chkW_no (by revert hc1; cases kindW a <;> cases regB a.rg <;> cases fieldsW a <;> cases sameW a (bareW a) <;> simp)
   rw [hr]
   refine AWP.sr ?_
   refine n_assign rfl n0WlA ?_
   refine AOps.nil ?_
   refine AWP.ret ?_
   refine fin_pure (.cons (rv_tmp n0WlA) .nil) n0WlA ?_
   exact ren_flat rfl rfl
 · try simp only [nh] at hc1
   have hr : chkW a = 0 := chkW_yes (by revert hc1; cases kindW a <;> cases regB a.rg <;> cases fieldsW a <;> cases sameW a (bareW a) <;> simp)
   rw [hr]
   refine AWP.skip ?_
   refine AWP.sr ?_
   refine n_assign rfl n0WlA ?_
   refine AOps.nil ?_
   refine AWP.ret ?_
   refine fin_pure (.cons (rv_tmp n0WlA) .nil) n0WlA ?_
   exact ren_flat rfl rfl

end Go.Proofs.YtanfmpkjcoolmaaGreat.Wl
