/- The fields of messages. -/
import Derived.Test.YtanfmpkjcoolmaaGreatWjA
import Derived.Test.YtanfmpkjcoolmaaGreatPlainA
set_option linter.unusedVariables false
set_option linter.unusedSimpArgs false
namespace Go.Proofs.YtanfmpkjcoolmaaGreat.Wk
open Go Go.Abs Go.Proofs.YtanfmpkjcoolmaaGreat.Pk Wa Wb Wh Wj
attribute [local irreducible] AWP AOps Does

theorem n0WkA {α : Type} {a b : α} (h : a = b := by first|simp only[nf,Nat.beq]<;>rfl|rfl) : a = b := h
theorem e1WkA {α : Type} {a b : α} (h : a = b := by exact Eq.trans (by simp only [nl] <;> rfl) n0WkA) : a = b := h
theorem r2WkA {ρ σ : Nat → Nat → Prop} {a b : List D} (h : RenAll ρ σ a b := by repeat (first | exact .nil | refine .cons ?_ ?_ | exact ren_ints | exact .lf (.val _) | exact .lf (lf_ints (.inl rfl)) | exact .bp ⟨rfl, rfl⟩ | exact .bp (.inl ⟨rfl, rfl⟩) | exact .bp (.inr ⟨rfl, rfl⟩) | exact .agg rfl (RenAll.get (.cons (.lf (.val _)) (.cons (.lf (.val _)) (.cons (ren_map (f := q4) (fun _ => rfl)) .nil)))) | exact ren_mapG qt_lf | exact .lf (.agg (qt_lf _)) | exact .lf (txz_lf _) | exact ren_bys0 rfl | exact .lf lf_fnz | exact ren_map (f := q1) (fun _ => rfl) | exact ren_map (f := q2) (fun _ => rfl) | exact ren_map (f := q4) (fun _ => rfl) | exact .lf (D.flat_lf rfl) | exact ren_lits rfl)) : RenAll ρ σ a b := h
theorem l3WkA {d : D} (h : LF d := by first | exact .val _ | exact lf_ints (.inl rfl) | exact lf_ints (.inr rfl) | exact .any | exact .tup (lf_cons (lf_ints (.inl rfl)) (lf_cons (.val _) lf_nil)) | exact .agg (qt_lf _) | exact D.flat_lf rfl) : LF d := h
theorem cf39 : CF Tryz.prog 39 := ⟨_, Tryz.func39, by kernel_rfl, by kernel_rfl⟩
theorem cf65 : CF Tryz.prog 65 := ⟨_, Tryz.func65, by kernel_rfl, by kernel_rfl⟩
theorem cf66 : CF Tryz.prog 66 := ⟨_, Tryz.func66, by kernel_rfl, by kernel_rfl⟩
theorem cf67 : CF Tryz.prog 67 := ⟨_, Tryz.func67, by kernel_rfl, by kernel_rfl⟩
theorem cf68 : CF Tryz.prog 68 := ⟨_, Tryz.func68, by kernel_rfl, by kernel_rfl⟩
theorem cf69 : CF Tryz.prog 69 := ⟨_, Tryz.func69, by kernel_rfl, by kernel_rfl⟩
theorem cf70 : CF Tryz.prog 70 := ⟨_, Tryz.func70, by kernel_rfl, by kernel_rfl⟩
theorem cf71 : CF Tryz.prog 71 := ⟨_, Tryz.func71, by kernel_rfl, by kernel_rfl⟩
theorem cf72 : CF Tryz.prog 72 := ⟨_, Tryz.func72, by kernel_rfl, by kernel_rfl⟩
theorem fd28_0 : FD Tryz.prog 28 0 2 0 := ⟨_, _, Tryz.underlying28, rfl, rfl, rfl⟩
theorem fd28_1 : FD Tryz.prog 28 1 2 1 := ⟨_, _, Tryz.underlying28, rfl, rfl, rfl⟩
theorem fd33_0 : FD Tryz.prog 33 0 3 0 := ⟨_, _, Tryz.underlying33, rfl, rfl, rfl⟩
theorem fd33_10 : FD Tryz.prog 33 10 2 15 := ⟨_, _, Tryz.underlying33, rfl, rfl, rfl⟩
theorem fd33_11 : FD Tryz.prog 33 11 24 16 := ⟨_, _, Tryz.underlying33, rfl, rfl, rfl⟩
theorem fd33_12 : FD Tryz.prog 33 12 2 17 := ⟨_, _, Tryz.underlying33, rfl, rfl, rfl⟩
theorem fd33_13 : FD Tryz.prog 33 13 29 18 := ⟨_, _, Tryz.underlying33, rfl, rfl, rfl⟩
theorem fd33_14 : FD Tryz.prog 33 14 3 19 := ⟨_, _, Tryz.underlying33, rfl, rfl, rfl⟩
theorem fd33_15 : FD Tryz.prog 33 15 2 20 := ⟨_, _, Tryz.underlying33, rfl, rfl, rfl⟩
theorem fd33_16 : FD Tryz.prog 33 16 30 21 := ⟨_, _, Tryz.underlying33, rfl, rfl, rfl⟩
theorem fd33_17 : FD Tryz.prog 33 17 3 22 := ⟨_, _, Tryz.underlying33, rfl, rfl, rfl⟩
theorem fd33_2 : FD Tryz.prog 33 2 2 2 := ⟨_, _, Tryz.underlying33, rfl, rfl, rfl⟩
theorem fd33_3 : FD Tryz.prog 33 3 2 3 := ⟨_, _, Tryz.underlying33, rfl, rfl, rfl⟩
theorem fd33_4 : FD Tryz.prog 33 4 3 4 := ⟨_, _, Tryz.underlying33, rfl, rfl, rfl⟩
theorem fd33_5 : FD Tryz.prog 33 5 3 5 := ⟨_, _, Tryz.underlying33, rfl, rfl, rfl⟩
theorem fd33_7 : FD Tryz.prog 33 7 22 7 := ⟨_, _, Tryz.underlying33, rfl, rfl, rfl⟩
theorem fd33_8 : FD Tryz.prog 33 8 26 8 := ⟨_, _, Tryz.underlying33, rfl, rfl, rfl⟩
theorem fd33_9 : FD Tryz.prog 33 9 28 13 := ⟨_, _, Tryz.underlying33, rfl, rfl, rfl⟩
theorem si110 : SI Tryz.prog 110 #[(0, 1), (1, 1), (2, 1)] (.agg #[.int .i64 0, .int .i64 0, .slice none 0 0]) := ⟨⟨_, Tryz.underlying110, fun w => by kernel_rfl⟩, by kernel_rfl⟩
theorem ti2 : TI Tryz.prog 2 1 false := ⟨by kernel_rfl, by kernel_rfl⟩
theorem ti22 : TI Tryz.prog 22 1 false := ⟨by kernel_rfl, by kernel_rfl⟩
theorem ti24 : TI Tryz.prog 24 1 false := ⟨by kernel_rfl, by kernel_rfl⟩
theorem ti26 : TI Tryz.prog 26 5 true := ⟨by kernel_rfl, by kernel_rfl⟩
theorem ti28 : TI Tryz.prog 28 2 true := ⟨by kernel_rfl, by kernel_rfl⟩
theorem ti29 : TI Tryz.prog 29 1 false := ⟨by kernel_rfl, by kernel_rfl⟩
theorem ti3 : TI Tryz.prog 3 1 false := ⟨by kernel_rfl, by kernel_rfl⟩
theorem ti30 : TI Tryz.prog 30 1 false := ⟨by kernel_rfl, by kernel_rfl⟩
theorem zi2 : (Tryz.prog.info? 2).map (·.zero) = some (some (.int .i64 0)) := by kernel_rfl

set_option maxHeartbeats 2000000 in
theorem l_fields (a : Wr) (ha : a.Sz) : Does Tryz.prog 40 [.agg (wz a)] [] (vb (fieldsW a)) [] := by
 refine Does.of_body (rvs := [.tmp 2]) Tryz.func40 rfl rfl rfl rfl ?_
 refine AWP.sr ?_
 refine n_box rfl n0WkA rfl rfl n0WkA n0WkA ?_
 refine n_assign rfl n0WkA ?_
 refine AOps.nil ?_
 refine AWP.seq ?_
 refine AWP.sr ?_
 refine n_fieldAddr rfl fd33_0 ti3 rfl n0WkA rfl n0WkA ?_
 refine n_load rfl ti3 n0WkA n0WkA rfl n0WkA ?_
 refine AOps.nil ?_
 refine AWP.block ?_
 refine AWP.seq ?_
 refine AWP.sr ?_
 refine n_ibin rfl n0WkA n0WkA rfl ?_
 refine n_assign rfl n0WkA ?_
 refine AOps.nil ?_
 refine AWP.cond n0WkA (fun hc1 => ?_) (fun hc1 => ?_)
 · try simp only [nh] at hc1
   rw [fields_0 (w := a) (by omega)]
   refine AWP.skip ?_
   refine AWP.condT n0WkA (by simp [hc1]) ?_
   refine AWP.sr ?_
   refine n_fieldAddr rfl fd33_2 ti2 rfl n0WkA rfl n0WkA ?_
   refine n_load rfl ti2 n0WkA n0WkA rfl n0WkA ?_
   refine n_lit rfl Tryz.underlying24 ti2 zi2 rfl rfl e1WkA rfl n0WkA ?_
   refine n_call0B rfl cf65 rfl e1WkA r2WkA (P1 a.rq) l3WkA ?_
   refine n_assign rfl n0WkA ?_
   refine AOps.nil ?_
   refine AWP.ret ?_
   refine fin_pure (.cons (rv_tmp n0WkA) .nil) n0WkA ?_
   refine ren_flat rfl (congrArg vb ?_)
   all_goals first | rfl | (simp only [ge_iff_le, Bool.and_assoc, Bool.and_true]; done) | (simp [Bool.and_assoc]; done) | grind
 · try simp only [nh] at hc1
   refine AWP.region ?_
   refine n_ibin rfl n0WkA n0WkA rfl ?_
   refine n_assign rfl n0WkA ?_
   refine AOps.nil ?_
   refine AWP.cond n0WkA (fun hc3 => ?_) (fun hc3 => ?_)
   · try simp only [nh] at hc3
     rw [fields_0 (w := a) (by omega)]
     refine AWP.sr ?_
     refine n_fieldAddr rfl fd33_2 ti2 rfl n0WkA rfl n0WkA ?_
     refine n_load rfl ti2 n0WkA n0WkA rfl n0WkA ?_
     refine n_lit rfl Tryz.underlying24 ti2 zi2 rfl rfl e1WkA rfl n0WkA ?_
     refine n_call0B rfl cf65 rfl e1WkA r2WkA (P1 a.rq) l3WkA ?_
     refine n_assign rfl n0WkA ?_
     refine AOps.nil ?_
     refine AWP.ret ?_
     refine fin_pure (.cons (rv_tmp n0WkA) .nil) n0WkA ?_
     refine ren_flat rfl (congrArg vb ?_)
     all_goals first | rfl | (simp only [ge_iff_le, Bool.and_assoc, Bool.and_true]; done) | (simp [Bool.and_assoc]; done) | grind
   · try simp only [nh] at hc3
     refine AWP.seq ?_
     refine AWP.sr ?_
     refine n_ibin rfl n0WkA n0WkA rfl ?_
     refine n_assign rfl n0WkA ?_
     refine AOps.nil ?_
     refine AWP.cond n0WkA (fun hc4 => ?_) (fun hc4 => ?_)
     · try simp only [nh] at hc4
       rw [fields_1 (w := a) (by omega)]
       refine AWP.skip ?_
       refine AWP.condT n0WkA (by simp [hc4]) ?_
       refine AWP.sr ?_
       refine n_fieldAddr rfl fd33_2 ti2 rfl n0WkA rfl n0WkA ?_
       refine n_load rfl ti2 n0WkA n0WkA rfl n0WkA ?_
       refine n_fieldAddr rfl fd33_3 ti2 rfl n0WkA rfl n0WkA ?_
       refine n_load rfl ti2 n0WkA n0WkA rfl n0WkA ?_
       refine n_lit rfl Tryz.underlying24 ti2 zi2 rfl rfl e1WkA rfl n0WkA ?_
       refine n_call0B rfl cf65 rfl e1WkA r2WkA (P2 a.rq a.ep) l3WkA ?_
       refine n_assign rfl n0WkA ?_
       refine AOps.nil ?_
       refine AWP.ret ?_
       refine fin_pure (.cons (rv_tmp n0WkA) .nil) n0WkA ?_
       refine ren_flat rfl (congrArg vb ?_)
       all_goals first | rfl | (simp only [ge_iff_le, Bool.and_assoc, Bool.and_true]; done) | (simp [Bool.and_assoc]; done) | grind
     · try simp only [nh] at hc4
       refine AWP.sr ?_
       refine n_ibin rfl n0WkA n0WkA rfl ?_
       refine n_assign rfl n0WkA ?_
       refine AOps.nil ?_
       refine AWP.cond n0WkA (fun hc6 => ?_) (fun hc6 => ?_)
       · try simp only [nh] at hc6
         rw [fields_1 (w := a) (by omega)]
         refine AWP.skip ?_
         refine AWP.condT n0WkA (by simp [hc6]) ?_
         refine AWP.sr ?_
         refine n_fieldAddr rfl fd33_2 ti2 rfl n0WkA rfl n0WkA ?_
         refine n_load rfl ti2 n0WkA n0WkA rfl n0WkA ?_
         refine n_fieldAddr rfl fd33_3 ti2 rfl n0WkA rfl n0WkA ?_
         refine n_load rfl ti2 n0WkA n0WkA rfl n0WkA ?_
         refine n_lit rfl Tryz.underlying24 ti2 zi2 rfl rfl e1WkA rfl n0WkA ?_
         refine n_call0B rfl cf65 rfl e1WkA r2WkA (P2 a.rq a.ep) l3WkA ?_
         refine n_assign rfl n0WkA ?_
         refine AOps.nil ?_
         refine AWP.ret ?_
         refine fin_pure (.cons (rv_tmp n0WkA) .nil) n0WkA ?_
         refine ren_flat rfl (congrArg vb ?_)
         all_goals first | rfl | (simp only [ge_iff_le, Bool.and_assoc, Bool.and_true]; done) | (simp [Bool.and_assoc]; done) | grind
       · try simp only [nh] at hc6
         refine AWP.sr ?_
         refine n_ibin rfl n0WkA n0WkA rfl ?_
         refine n_assign rfl n0WkA ?_
         refine AOps.nil ?_
         refine AWP.cond n0WkA (fun hc8 => ?_) (fun hc8 => ?_)
         · try simp only [nh] at hc8
           rw [fields_3 (w := a) (by omega)]
           refine AWP.skip ?_
           refine AWP.condT n0WkA (by simp [hc8]) ?_
           refine AWP.sr ?_
           refine n_fieldAddr rfl fd33_2 ti2 rfl n0WkA rfl n0WkA ?_
           refine n_load rfl ti2 n0WkA n0WkA rfl n0WkA ?_
           refine n_fieldAddr rfl fd33_3 ti2 rfl n0WkA rfl n0WkA ?_
           refine n_load rfl ti2 n0WkA n0WkA rfl n0WkA ?_
           refine n_lit rfl Tryz.underlying24 ti2 zi2 rfl rfl e1WkA rfl n0WkA ?_
           refine n_call0B rfl cf65 rfl e1WkA r2WkA (P2 a.rq a.ep) l3WkA ?_
           refine n_assign rfl n0WkA ?_
           refine AOps.nil ?_
           refine AWP.ret ?_
           refine fin_pure (.cons (rv_tmp n0WkA) .nil) n0WkA ?_
           refine ren_flat rfl (congrArg vb ?_)
           all_goals first | rfl | (simp only [ge_iff_le, Bool.and_assoc, Bool.and_true]; done) | (simp [Bool.and_assoc]; done) | grind
         · try simp only [nh] at hc8
           refine AWP.region ?_
           refine n_ibin rfl n0WkA n0WkA rfl ?_
           refine n_assign rfl n0WkA ?_
           refine AOps.nil ?_
           refine AWP.cond n0WkA (fun hc10 => ?_) (fun hc10 => ?_)
           · try simp only [nh] at hc10
             rw [fields_1 (w := a) (by omega)]
             refine AWP.sr ?_
             refine n_fieldAddr rfl fd33_2 ti2 rfl n0WkA rfl n0WkA ?_
             refine n_load rfl ti2 n0WkA n0WkA rfl n0WkA ?_
             refine n_fieldAddr rfl fd33_3 ti2 rfl n0WkA rfl n0WkA ?_
             refine n_load rfl ti2 n0WkA n0WkA rfl n0WkA ?_
             refine n_lit rfl Tryz.underlying24 ti2 zi2 rfl rfl e1WkA rfl n0WkA ?_
             refine n_call0B rfl cf65 rfl e1WkA r2WkA (P2 a.rq a.ep) l3WkA ?_
             refine n_assign rfl n0WkA ?_
             refine AOps.nil ?_
             refine AWP.ret ?_
             refine fin_pure (.cons (rv_tmp n0WkA) .nil) n0WkA ?_
             refine ren_flat rfl (congrArg vb ?_)
             all_goals first | rfl | (simp only [ge_iff_le, Bool.and_assoc, Bool.and_true]; done) | (simp [Bool.and_assoc]; done) | grind
           · try simp only [nh] at hc10
             refine AWP.sr ?_
             refine n_ibin rfl n0WkA n0WkA rfl ?_
             refine n_assign rfl n0WkA ?_
             refine AOps.nil ?_
             refine AWP.cond n0WkA (fun hc11 => ?_) (fun hc11 => ?_)
             · try simp only [nh] at hc11
               rw [fields_2 (w := a) (by omega)]
               refine AWP.sr ?_
               refine n_fieldAddr rfl fd33_2 ti2 rfl n0WkA rfl n0WkA ?_
               refine n_load rfl ti2 n0WkA n0WkA rfl n0WkA ?_
               refine n_fieldAddr rfl fd33_3 ti2 rfl n0WkA rfl n0WkA ?_
               refine n_load rfl ti2 n0WkA n0WkA rfl n0WkA ?_
               refine n_lit rfl Tryz.underlying24 ti2 zi2 rfl rfl e1WkA rfl n0WkA ?_
               refine n_call0B rfl cf65 rfl e1WkA r2WkA (P2 a.rq a.ep) l3WkA ?_
               refine n_move rfl n0WkA ?_
               refine AOps.name (u := 31) (fun z => .val (.bool z)) n0WkA (fun b31 hb31 => ?_)
               refine n_softT b31 rfl rfl rfl n0WkA (fun h => by
                subst h
                refine n_fieldAddr rfl fd33_4 ti3 rfl n0WkA rfl n0WkA ?_
                exact AOps.nil ⟨rfl, rfl, rfl⟩) ?_
               refine n_softT b31 rfl rfl rfl n0WkA (fun h => by
                subst h
                refine n_load rfl ti3 n0WkA n0WkA rfl n0WkA ?_
                exact AOps.nil ⟨rfl, rfl, rfl⟩) ?_
               refine n_softT b31 rfl rfl rfl n0WkA (fun h => by
                subst h
                refine n_call0B rfl cf39 rfl e1WkA r2WkA (regn a.to) l3WkA ?_
                exact AOps.nil ⟨rfl, rfl, rfl⟩) ?_
               refine n_pick_and rfl n0WkA (fun h => by cases b31 with | false => exact absurd h (by decide) | true => exact n0WkA) ?_
               refine n_assign rfl n0WkA ?_
               refine AOps.nil ?_
               refine AWP.ret ?_
               refine fin_pure (.cons (rv_tmp n0WkA) .nil) n0WkA ?_
               refine ren_flat rfl (congrArg vb ?_)
               subst hb31
               all_goals first | rfl | (simp only [ge_iff_le, Bool.and_assoc, Bool.and_true]; done) | (simp [Bool.and_assoc]; done) | grind
             · try simp only [nh] at hc11
               refine AWP.sr ?_
               refine n_ibin rfl n0WkA n0WkA rfl ?_
               refine n_assign rfl n0WkA ?_
               refine AOps.nil ?_
               refine AWP.cond n0WkA (fun hc12 => ?_) (fun hc12 => ?_)
               · try simp only [nh] at hc12
                 rw [fields_4 (w := a) (by omega)]
                 refine AWP.sr ?_
                 refine n_fieldAddr rfl fd33_2 ti2 rfl n0WkA rfl n0WkA ?_
                 refine n_load rfl ti2 n0WkA n0WkA rfl n0WkA ?_
                 refine n_lit rfl Tryz.underlying24 ti2 zi2 rfl rfl e1WkA rfl n0WkA ?_
                 refine n_call0B rfl cf65 rfl e1WkA r2WkA (P1 a.rq) l3WkA ?_
                 refine n_move rfl n0WkA ?_
                 refine AOps.name (u := 42) (fun z => .val (.bool z)) n0WkA (fun b42 hb42 => ?_)
                 refine n_softT b42 rfl rfl rfl n0WkA (fun h => by
                  subst h
                  refine n_fieldAddr rfl fd33_5 ti3 rfl n0WkA rfl n0WkA ?_
                  exact AOps.nil ⟨rfl, rfl, rfl⟩) ?_
                 refine n_softT b42 rfl rfl rfl n0WkA (fun h => by
                  subst h
                  refine n_load rfl ti3 n0WkA n0WkA rfl n0WkA ?_
                  exact AOps.nil ⟨rfl, rfl, rfl⟩) ?_
                 refine n_softT b42 rfl rfl rfl n0WkA (fun h => by
                  subst h
                  refine n_ibin rfl n0WkA n0WkA rfl ?_
                  exact AOps.nil ⟨rfl, rfl, rfl⟩) ?_
                 refine n_pick_and rfl n0WkA (fun h => by cases b42 with | false => exact absurd h (by decide) | true => exact n0WkA) ?_
                 refine n_move rfl n0WkA ?_
                 refine AOps.name (u := 47) (fun z => .val (.bool z)) n0WkA (fun b47 hb47 => ?_)
                 refine n_softT b47 rfl rfl rfl n0WkA (fun h => by
                  subst h
                  refine n_fieldAddr rfl fd33_5 ti3 rfl n0WkA rfl n0WkA ?_
                  exact AOps.nil ⟨rfl, rfl, rfl⟩) ?_
                 refine n_softT b47 rfl rfl rfl n0WkA (fun h => by
                  subst h
                  refine n_load rfl ti3 n0WkA n0WkA rfl n0WkA ?_
                  exact AOps.nil ⟨rfl, rfl, rfl⟩) ?_
                 refine n_softT b47 rfl rfl rfl n0WkA (fun h => by
                  subst h
                  refine n_ibin rfl n0WkA n0WkA rfl ?_
                  exact AOps.nil ⟨rfl, rfl, rfl⟩) ?_
                 refine n_pick_and rfl n0WkA (fun h => by cases b47 with | false => exact absurd h (by decide) | true => exact n0WkA) ?_
                 refine n_move rfl n0WkA ?_
                 refine AOps.name (u := 52) (fun z => .val (.bool z)) n0WkA (fun b52 hb52 => ?_)
                 refine n_softT b52 rfl rfl rfl n0WkA (fun h => by
                  subst h
                  refine n_fieldAddr rfl fd33_3 ti2 rfl n0WkA rfl n0WkA ?_
                  exact AOps.nil ⟨rfl, rfl, rfl⟩) ?_
                 refine n_softT b52 rfl rfl rfl n0WkA (fun h => by
                  subst h
                  refine n_load rfl ti2 n0WkA n0WkA rfl n0WkA ?_
                  exact AOps.nil ⟨rfl, rfl, rfl⟩) ?_
                 refine n_softT b52 rfl rfl rfl n0WkA (fun h => by
                  subst h
                  refine n_lit rfl Tryz.underlying24 ti2 zi2 rfl rfl e1WkA rfl n0WkA ?_
                  exact AOps.nil ⟨rfl, rfl, rfl⟩) ?_
                 refine n_softT b52 rfl rfl rfl n0WkA (fun h => by
                  subst h
                  refine n_call0B rfl cf66 rfl e1WkA r2WkA (N1 a.ep) l3WkA ?_
                  exact AOps.nil ⟨rfl, rfl, rfl⟩) ?_
                 refine n_pick_and rfl n0WkA (fun h => by cases b52 with | false => exact absurd h (by decide) | true => exact n0WkA) ?_
                 refine n_move rfl n0WkA ?_
                 refine AOps.name (u := 58) (fun z => .val (.bool z)) n0WkA (fun b58 hb58 => ?_)
                 refine n_softT b58 rfl rfl rfl n0WkA (fun h => by
                  subst h
                  refine n_fieldAddr rfl fd33_7 ti22 rfl n0WkA rfl n0WkA ?_
                  exact AOps.nil ⟨rfl, rfl, rfl⟩) ?_
                 refine n_softT b58 rfl rfl rfl n0WkA (fun h => by
                  subst h
                  refine n_load rfl ti22 n0WkA n0WkA rfl n0WkA ?_
                  exact AOps.nil ⟨rfl, rfl, rfl⟩) ?_
                 refine n_softT b58 rfl rfl rfl n0WkA (fun h => by
                  subst h
                  refine n_call0B rfl cf67 rfl e1WkA r2WkA (errn a.er) l3WkA ?_
                  exact AOps.nil ⟨rfl, rfl, rfl⟩) ?_
                 refine n_pick_and rfl n0WkA (fun h => by cases b58 with | false => exact absurd h (by decide) | true => exact n0WkA) ?_
                 refine n_assign rfl n0WkA ?_
                 refine AOps.nil ?_
                 refine AWP.ret ?_
                 refine fin_pure (.cons (rv_tmp n0WkA) .nil) n0WkA ?_
                 refine ren_flat rfl (congrArg vb ?_)
                 subst hb42
                 subst hb47
                 subst hb52
                 subst hb58
                 all_goals first | rfl | (simp only [ge_iff_le, Bool.and_assoc, Bool.and_true]; done) | (simp [Bool.and_assoc]; done) | grind
               · try simp only [nh] at hc12
                 refine AWP.sr ?_
                 refine n_ibin rfl n0WkA n0WkA rfl ?_
                 refine n_assign rfl n0WkA ?_
                 refine AOps.nil ?_
                 refine AWP.cond n0WkA (fun hc13 => ?_) (fun hc13 => ?_)
                 · try simp only [nh] at hc13
                   rw [fields_5 (w := a) (by omega)]
                   refine AWP.sr ?_
                   refine n_fieldAddr rfl fd33_2 ti2 rfl n0WkA rfl n0WkA ?_
                   refine n_load rfl ti2 n0WkA n0WkA rfl n0WkA ?_
                   refine n_lit rfl Tryz.underlying24 ti2 zi2 rfl rfl e1WkA rfl n0WkA ?_
                   refine n_call0B rfl cf65 rfl e1WkA r2WkA (P1 a.rq) l3WkA ?_
                   refine n_move rfl n0WkA ?_
                   refine AOps.name (u := 69) (fun z => .val (.bool z)) n0WkA (fun b69 hb69 => ?_)
                   refine n_softT b69 rfl rfl rfl n0WkA (fun h => by
                    subst h
                    refine n_fieldAddr rfl fd33_8 ti26 rfl n0WkA rfl n0WkA ?_
                    exact AOps.nil ⟨rfl, rfl, rfl⟩) ?_
                   refine n_softT b69 rfl rfl rfl n0WkA (fun h => by
                    subst h
                    refine n_load rfl ti26 n0WkA n0WkA rfl n0WkA ?_
                    exact AOps.nil ⟨rfl, rfl, rfl⟩) ?_
                   refine n_softT b69 rfl rfl rfl n0WkA (fun h => by
                    subst h
                    refine n_call0B rfl cf68 rfl e1WkA r2WkA (txnb a.tx ha.r ha.v) l3WkA ?_
                    exact AOps.nil ⟨rfl, rfl, rfl⟩) ?_
                   refine n_pick_and rfl n0WkA (fun h => by cases b69 with | false => exact absurd h (by decide) | true => exact n0WkA) ?_
                   refine n_assign rfl n0WkA ?_
                   refine AOps.nil ?_
                   refine AWP.ret ?_
                   refine fin_pure (.cons (rv_tmp n0WkA) .nil) n0WkA ?_
                   refine ren_flat rfl (congrArg vb ?_)
                   subst hb69
                   all_goals first | rfl | (simp only [ge_iff_le, Bool.and_assoc, Bool.and_true]; done) | (simp [Bool.and_assoc]; done) | grind
                 · try simp only [nh] at hc13
                   refine AWP.seq ?_
                   refine AWP.sr ?_
                   refine n_ibin rfl n0WkA n0WkA rfl ?_
                   refine n_assign rfl n0WkA ?_
                   refine AOps.nil ?_
                   refine AWP.cond n0WkA (fun hc14 => ?_) (fun hc14 => ?_)
                   · try simp only [nh] at hc14
                     rw [fields_6 (w := a) (by omega)]
                     refine AWP.skip ?_
                     refine AWP.condT n0WkA (by simp [hc14]) ?_
                     refine AWP.sr ?_
                     refine n_fieldAddr rfl fd33_2 ti2 rfl n0WkA rfl n0WkA ?_
                     refine n_load rfl ti2 n0WkA n0WkA rfl n0WkA ?_
                     refine n_lit rfl Tryz.underlying24 ti2 zi2 rfl rfl e1WkA rfl n0WkA ?_
                     refine n_call0B rfl cf65 rfl e1WkA r2WkA (P1 a.rq) l3WkA ?_
                     refine n_move rfl n0WkA ?_
                     refine AOps.name (u := 81) (fun z => .val (.bool z)) n0WkA (fun b81 hb81 => ?_)
                     refine n_softT b81 rfl rfl rfl n0WkA (fun h => by
                      subst h
                      refine n_fieldAddr rfl fd33_9 ti28 rfl n0WkA rfl n0WkA ?_
                      exact AOps.nil ⟨rfl, rfl, rfl⟩) ?_
                     refine n_softT b81 rfl rfl rfl n0WkA (fun h => by
                      subst h
                      refine n_load rfl ti28 n0WkA n0WkA rfl n0WkA ?_
                      exact AOps.nil ⟨rfl, rfl, rfl⟩) ?_
                     refine n_softT b81 rfl rfl rfl n0WkA (fun h => by
                      subst h
                      refine n_call0B rfl cf69 rfl e1WkA r2WkA (keyb a.ke a.ki) l3WkA ?_
                      exact AOps.nil ⟨rfl, rfl, rfl⟩) ?_
                     refine n_pick_and rfl n0WkA (fun h => by cases b81 with | false => exact absurd h (by decide) | true => exact n0WkA) ?_
                     refine n_assign rfl n0WkA ?_
                     refine AOps.nil ?_
                     refine AWP.ret ?_
                     refine fin_pure (.cons (rv_tmp n0WkA) .nil) n0WkA ?_
                     refine ren_flat rfl (congrArg vb ?_)
                     subst hb81
                     all_goals first | rfl | (simp only [ge_iff_le, Bool.and_assoc, Bool.and_true]; done) | (simp [Bool.and_assoc]; done) | grind
                   · try simp only [nh] at hc14
                     refine AWP.region ?_
                     refine n_ibin rfl n0WkA n0WkA rfl ?_
                     refine n_assign rfl n0WkA ?_
                     refine AOps.nil ?_
                     refine AWP.cond n0WkA (fun hc16 => ?_) (fun hc16 => ?_)
                     · try simp only [nh] at hc16
                       rw [fields_6 (w := a) (by omega)]
                       refine AWP.sr ?_
                       refine n_fieldAddr rfl fd33_2 ti2 rfl n0WkA rfl n0WkA ?_
                       refine n_load rfl ti2 n0WkA n0WkA rfl n0WkA ?_
                       refine n_lit rfl Tryz.underlying24 ti2 zi2 rfl rfl e1WkA rfl n0WkA ?_
                       refine n_call0B rfl cf65 rfl e1WkA r2WkA (P1 a.rq) l3WkA ?_
                       refine n_move rfl n0WkA ?_
                       refine AOps.name (u := 81) (fun z => .val (.bool z)) n0WkA (fun b81 hb81 => ?_)
                       refine n_softT b81 rfl rfl rfl n0WkA (fun h => by
                        subst h
                        refine n_fieldAddr rfl fd33_9 ti28 rfl n0WkA rfl n0WkA ?_
                        exact AOps.nil ⟨rfl, rfl, rfl⟩) ?_
                       refine n_softT b81 rfl rfl rfl n0WkA (fun h => by
                        subst h
                        refine n_load rfl ti28 n0WkA n0WkA rfl n0WkA ?_
                        exact AOps.nil ⟨rfl, rfl, rfl⟩) ?_
                       refine n_softT b81 rfl rfl rfl n0WkA (fun h => by
                        subst h
                        refine n_call0B rfl cf69 rfl e1WkA r2WkA (keyb a.ke a.ki) l3WkA ?_
                        exact AOps.nil ⟨rfl, rfl, rfl⟩) ?_
                       refine n_pick_and rfl n0WkA (fun h => by cases b81 with | false => exact absurd h (by decide) | true => exact n0WkA) ?_
                       refine n_assign rfl n0WkA ?_
                       refine AOps.nil ?_
                       refine AWP.ret ?_
                       refine fin_pure (.cons (rv_tmp n0WkA) .nil) n0WkA ?_
                       refine ren_flat rfl (congrArg vb ?_)
                       subst hb81
                       all_goals first | rfl | (simp only [ge_iff_le, Bool.and_assoc, Bool.and_true]; done) | (simp [Bool.and_assoc]; done) | grind
                     · try simp only [nh] at hc16
                       refine AWP.sr ?_
                       refine n_ibin rfl n0WkA n0WkA rfl ?_
                       refine n_assign rfl n0WkA ?_
                       refine AOps.nil ?_
                       refine AWP.cond n0WkA (fun hc17 => ?_) (fun hc17 => ?_)
                       · try simp only [nh] at hc17
                         rw [fields_7 (w := a) (by omega)]
                         refine AWP.sr ?_
                         refine n_fieldAddr rfl fd33_2 ti2 rfl n0WkA rfl n0WkA ?_
                         refine n_load rfl ti2 n0WkA n0WkA rfl n0WkA ?_
                         refine n_lit rfl Tryz.underlying24 ti2 zi2 rfl rfl e1WkA rfl n0WkA ?_
                         refine n_call0B rfl cf65 rfl e1WkA r2WkA (P1 a.rq) l3WkA ?_
                         refine n_move rfl n0WkA ?_
                         refine AOps.name (u := 92) (fun z => .val (.bool z)) n0WkA (fun b92 hb92 => ?_)
                         refine n_softT b92 rfl rfl rfl n0WkA (fun h => by
                          subst h
                          refine n_fieldAddr rfl fd33_5 ti3 rfl n0WkA rfl n0WkA ?_
                          exact AOps.nil ⟨rfl, rfl, rfl⟩) ?_
                         refine n_softT b92 rfl rfl rfl n0WkA (fun h => by
                          subst h
                          refine n_load rfl ti3 n0WkA n0WkA rfl n0WkA ?_
                          exact AOps.nil ⟨rfl, rfl, rfl⟩) ?_
                         refine n_softT b92 rfl rfl rfl n0WkA (fun h => by
                          subst h
                          refine n_ibin rfl n0WkA n0WkA rfl ?_
                          exact AOps.nil ⟨rfl, rfl, rfl⟩) ?_
                         refine n_pick_and rfl n0WkA (fun h => by cases b92 with | false => exact absurd h (by decide) | true => exact n0WkA) ?_
                         refine n_move rfl n0WkA ?_
                         refine AOps.name (u := 97) (fun z => .val (.bool z)) n0WkA (fun b97 hb97 => ?_)
                         refine n_softT b97 rfl rfl rfl n0WkA (fun h => by
                          subst h
                          refine n_fieldAddr rfl fd33_5 ti3 rfl n0WkA rfl n0WkA ?_
                          exact AOps.nil ⟨rfl, rfl, rfl⟩) ?_
                         refine n_softT b97 rfl rfl rfl n0WkA (fun h => by
                          subst h
                          refine n_load rfl ti3 n0WkA n0WkA rfl n0WkA ?_
                          exact AOps.nil ⟨rfl, rfl, rfl⟩) ?_
                         refine n_softT b97 rfl rfl rfl n0WkA (fun h => by
                          subst h
                          refine n_ibin rfl n0WkA n0WkA rfl ?_
                          exact AOps.nil ⟨rfl, rfl, rfl⟩) ?_
                         refine n_pick_and rfl n0WkA (fun h => by cases b97 with | false => exact absurd h (by decide) | true => exact n0WkA) ?_
                         refine n_move rfl n0WkA ?_
                         refine AOps.name (u := 102) (fun z => .val (.bool z)) n0WkA (fun b102 hb102 => ?_)
                         refine n_softT b102 rfl rfl rfl n0WkA (fun h => by
                          subst h
                          refine n_fieldAddr rfl fd33_9 ti28 rfl n0WkA rfl n0WkA ?_
                          exact AOps.nil ⟨rfl, rfl, rfl⟩) ?_
                         refine n_softT b102 rfl rfl rfl n0WkA (fun h => by
                          subst h
                          refine n_fieldAddr rfl fd28_0 ti2 rfl n0WkA rfl n0WkA ?_
                          exact AOps.nil ⟨rfl, rfl, rfl⟩) ?_
                         refine n_softT b102 rfl rfl rfl n0WkA (fun h => by
                          subst h
                          refine n_load rfl ti2 n0WkA n0WkA rfl n0WkA ?_
                          exact AOps.nil ⟨rfl, rfl, rfl⟩) ?_
                         refine n_softT b102 rfl rfl rfl n0WkA (fun h => by
                          subst h
                          refine n_fieldAddr rfl fd33_9 ti28 rfl n0WkA rfl n0WkA ?_
                          exact AOps.nil ⟨rfl, rfl, rfl⟩) ?_
                         refine n_softT b102 rfl rfl rfl n0WkA (fun h => by
                          subst h
                          refine n_fieldAddr rfl fd28_1 ti2 rfl n0WkA rfl n0WkA ?_
                          exact AOps.nil ⟨rfl, rfl, rfl⟩) ?_
                         refine n_softT b102 rfl rfl rfl n0WkA (fun h => by
                          subst h
                          refine n_load rfl ti2 n0WkA n0WkA rfl n0WkA ?_
                          exact AOps.nil ⟨rfl, rfl, rfl⟩) ?_
                         refine n_softT b102 rfl rfl rfl n0WkA (fun h => by
                          subst h
                          refine n_fieldAddr rfl fd33_3 ti2 rfl n0WkA rfl n0WkA ?_
                          exact AOps.nil ⟨rfl, rfl, rfl⟩) ?_
                         refine n_softT b102 rfl rfl rfl n0WkA (fun h => by
                          subst h
                          refine n_load rfl ti2 n0WkA n0WkA rfl n0WkA ?_
                          exact AOps.nil ⟨rfl, rfl, rfl⟩) ?_
                         refine n_softT b102 rfl rfl rfl n0WkA (fun h => by
                          subst h
                          refine n_fieldAddr rfl fd33_10 ti2 rfl n0WkA rfl n0WkA ?_
                          exact AOps.nil ⟨rfl, rfl, rfl⟩) ?_
                         refine n_softT b102 rfl rfl rfl n0WkA (fun h => by
                          subst h
                          refine n_load rfl ti2 n0WkA n0WkA rfl n0WkA ?_
                          exact AOps.nil ⟨rfl, rfl, rfl⟩) ?_
                         refine n_softT b102 rfl rfl rfl n0WkA (fun h => by
                          subst h
                          refine n_lit rfl Tryz.underlying24 ti2 zi2 rfl rfl e1WkA rfl n0WkA ?_
                          exact AOps.nil ⟨rfl, rfl, rfl⟩) ?_
                         refine n_softT b102 rfl rfl rfl n0WkA (fun h => by
                          subst h
                          refine n_call0B rfl cf66 rfl e1WkA r2WkA (N4 a.ke a.ki a.ep a.ln) l3WkA ?_
                          exact AOps.nil ⟨rfl, rfl, rfl⟩) ?_
                         refine n_pick_and rfl n0WkA (fun h => by cases b102 with | false => exact absurd h (by decide) | true => exact n0WkA) ?_
                         refine n_move rfl n0WkA ?_
                         refine AOps.name (u := 116) (fun z => .val (.bool z)) n0WkA (fun b116 hb116 => ?_)
                         refine n_softT b116 rfl rfl rfl n0WkA (fun h => by
                          subst h
                          refine n_fieldAddr rfl fd33_11 ti24 rfl n0WkA rfl n0WkA ?_
                          exact AOps.nil ⟨rfl, rfl, rfl⟩) ?_
                         refine n_softT b116 rfl rfl rfl n0WkA (fun h => by
                          subst h
                          refine n_load rfl ti24 n0WkA n0WkA rfl n0WkA ?_
                          exact AOps.nil ⟨rfl, rfl, rfl⟩) ?_
                         refine n_softT b116 rfl rfl rfl n0WkA (fun h => by
                          subst h
                          refine n_call0B rfl cf70 rfl e1WkA r2WkA (vect a.vc ha.c) l3WkA ?_
                          exact AOps.nil ⟨rfl, rfl, rfl⟩) ?_
                         refine n_pick_and rfl n0WkA (fun h => by cases b116 with | false => exact absurd h (by decide) | true => exact n0WkA) ?_
                         refine n_move rfl n0WkA ?_
                         refine AOps.name (u := 121) (fun z => .val (.bool z)) n0WkA (fun b121 hb121 => ?_)
                         refine n_softT b121 rfl rfl rfl n0WkA (fun h => by
                          subst h
                          refine n_fieldAddr rfl fd33_7 ti22 rfl n0WkA rfl n0WkA ?_
                          exact AOps.nil ⟨rfl, rfl, rfl⟩) ?_
                         refine n_softT b121 rfl rfl rfl n0WkA (fun h => by
                          subst h
                          refine n_load rfl ti22 n0WkA n0WkA rfl n0WkA ?_
                          exact AOps.nil ⟨rfl, rfl, rfl⟩) ?_
                         refine n_softT b121 rfl rfl rfl n0WkA (fun h => by
                          subst h
                          refine n_call0B rfl cf67 rfl e1WkA r2WkA (errn a.er) l3WkA ?_
                          exact AOps.nil ⟨rfl, rfl, rfl⟩) ?_
                         refine n_pick_and rfl n0WkA (fun h => by cases b121 with | false => exact absurd h (by decide) | true => exact n0WkA) ?_
                         refine n_assign rfl n0WkA ?_
                         refine AOps.nil ?_
                         refine AWP.ret ?_
                         refine fin_pure (.cons (rv_tmp n0WkA) .nil) n0WkA ?_
                         refine ren_flat rfl (congrArg vb ?_)
                         subst hb92
                         subst hb97
                         subst hb102
                         subst hb116
                         subst hb121
                         all_goals first | rfl | (simp only [ge_iff_le, Bool.and_assoc, Bool.and_true]; done) | (simp [Bool.and_assoc]; done) | grind
                       · try simp only [nh] at hc17
                         refine AWP.sr ?_
                         refine n_ibin rfl n0WkA n0WkA rfl ?_
                         refine n_assign rfl n0WkA ?_
                         refine AOps.nil ?_
                         refine AWP.cond n0WkA (fun hc18 => ?_) (fun hc18 => ?_)
                         · try simp only [nh] at hc18
                           rw [fields_x (w := a) (by omega)]
                           refine AWP.sr ?_
                           refine n_fieldAddr rfl fd33_3 ti2 rfl n0WkA rfl n0WkA ?_
                           refine n_load rfl ti2 n0WkA n0WkA rfl n0WkA ?_
                           refine n_lit rfl Tryz.underlying24 ti2 zi2 rfl rfl e1WkA rfl n0WkA ?_
                           refine n_call0B rfl cf65 rfl e1WkA r2WkA (P1 a.ep) l3WkA ?_
                           refine n_assign rfl n0WkA ?_
                           refine AOps.nil ?_
                           refine AWP.ret ?_
                           refine fin_pure (.cons (rv_tmp n0WkA) .nil) n0WkA ?_
                           refine ren_flat rfl (congrArg vb ?_)
                           all_goals first | rfl | (simp only [ge_iff_le, Bool.and_assoc, Bool.and_true]; done) | (simp [Bool.and_assoc]; done) | grind
                         · try simp only [nh] at hc18
                           refine AWP.sr ?_
                           refine n_ibin rfl n0WkA n0WkA rfl ?_
                           refine n_assign rfl n0WkA ?_
                           refine AOps.nil ?_
                           refine AWP.cond n0WkA (fun hc19 => ?_) (fun hc19 => ?_)
                           · try simp only [nh] at hc19
                             rw [fields_8 (w := a) (by omega)]
                             refine AWP.sr ?_
                             refine n_fieldAddr rfl fd33_3 ti2 rfl n0WkA rfl n0WkA ?_
                             refine n_load rfl ti2 n0WkA n0WkA rfl n0WkA ?_
                             refine n_fieldAddr rfl fd33_12 ti2 rfl n0WkA rfl n0WkA ?_
                             refine n_load rfl ti2 n0WkA n0WkA rfl n0WkA ?_
                             refine n_lit rfl Tryz.underlying24 ti2 zi2 rfl rfl e1WkA rfl n0WkA ?_
                             refine n_call0B rfl cf65 rfl e1WkA r2WkA (P2 a.ep a.nm) l3WkA ?_
                             refine n_move rfl n0WkA ?_
                             refine AOps.name (u := 140) (fun z => .val (.bool z)) n0WkA (fun b140 hb140 => ?_)
                             refine n_softT b140 rfl rfl rfl n0WkA (fun h => by
                              subst h
                              refine n_fieldAddr rfl fd33_13 ti29 rfl n0WkA rfl n0WkA ?_
                              exact AOps.nil ⟨rfl, rfl, rfl⟩) ?_
                             refine n_softT b140 rfl rfl rfl n0WkA (fun h => by
                              subst h
                              refine n_load rfl ti29 n0WkA n0WkA rfl n0WkA ?_
                              exact AOps.nil ⟨rfl, rfl, rfl⟩) ?_
                             refine n_softT b140 rfl rfl rfl n0WkA (fun h => by
                              subst h
                              refine n_call0B rfl cf71 rfl e1WkA r2WkA (tabs a.tb ha.t ha.s) l3WkA ?_
                              exact AOps.nil ⟨rfl, rfl, rfl⟩) ?_
                             refine n_pick_and rfl n0WkA (fun h => by cases b140 with | false => exact absurd h (by decide) | true => exact n0WkA) ?_
                             refine n_assign rfl n0WkA ?_
                             refine AOps.nil ?_
                             refine AWP.ret ?_
                             refine fin_pure (.cons (rv_tmp n0WkA) .nil) n0WkA ?_
                             refine ren_flat rfl (congrArg vb ?_)
                             subst hb140
                             all_goals first | rfl | (simp only [ge_iff_le, Bool.and_assoc, Bool.and_true]; done) | (simp [Bool.and_assoc]; done) | grind
                           · try simp only [nh] at hc19
                             refine AWP.sr ?_
                             refine n_ibin rfl n0WkA n0WkA rfl ?_
                             refine n_assign rfl n0WkA ?_
                             refine AOps.nil ?_
                             refine AWP.cond n0WkA (fun hc20 => ?_) (fun hc20 => ?_)
                             · try simp only [nh] at hc20
                               rw [fields_9 (w := a) (by omega)]
                               refine AWP.sr ?_
                               refine n_fieldAddr rfl fd33_3 ti2 rfl n0WkA rfl n0WkA ?_
                               refine n_load rfl ti2 n0WkA n0WkA rfl n0WkA ?_
                               refine n_fieldAddr rfl fd33_12 ti2 rfl n0WkA rfl n0WkA ?_
                               refine n_load rfl ti2 n0WkA n0WkA rfl n0WkA ?_
                               refine n_lit rfl Tryz.underlying24 ti2 zi2 rfl rfl e1WkA rfl n0WkA ?_
                               refine n_call0B rfl cf65 rfl e1WkA r2WkA (P2 a.ep a.nm) l3WkA ?_
                               refine n_move rfl n0WkA ?_
                               refine AOps.name (u := 153) (fun z => .val (.bool z)) n0WkA (fun b153 hb153 => ?_)
                               refine n_softT b153 rfl rfl rfl n0WkA (fun h => by
                                subst h
                                refine n_fieldAddr rfl fd33_11 ti24 rfl n0WkA rfl n0WkA ?_
                                exact AOps.nil ⟨rfl, rfl, rfl⟩) ?_
                               refine n_softT b153 rfl rfl rfl n0WkA (fun h => by
                                subst h
                                refine n_load rfl ti24 n0WkA n0WkA rfl n0WkA ?_
                                exact AOps.nil ⟨rfl, rfl, rfl⟩) ?_
                               refine n_softT b153 rfl rfl rfl n0WkA (fun h => by
                                subst h
                                refine n_call0B rfl cf70 rfl e1WkA r2WkA (vect a.vc ha.c) l3WkA ?_
                                exact AOps.nil ⟨rfl, rfl, rfl⟩) ?_
                               refine n_pick_and rfl n0WkA (fun h => by cases b153 with | false => exact absurd h (by decide) | true => exact n0WkA) ?_
                               refine n_assign rfl n0WkA ?_
                               refine AOps.nil ?_
                               refine AWP.ret ?_
                               refine fin_pure (.cons (rv_tmp n0WkA) .nil) n0WkA ?_
                               refine ren_flat rfl (congrArg vb ?_)
                               subst hb153
                               all_goals first | rfl | (simp only [ge_iff_le, Bool.and_assoc, Bool.and_true]; done) | (simp [Bool.and_assoc]; done) | grind
                             · try simp only [nh] at hc20
                               refine AWP.sr ?_
                               refine n_ibin rfl n0WkA n0WkA rfl ?_
                               refine n_assign rfl n0WkA ?_
                               refine AOps.nil ?_
                               refine AWP.cond n0WkA (fun hc21 => ?_) (fun hc21 => ?_)
                               · try simp only [nh] at hc21
                                 rw [fields_10 (w := a) (by omega)]
                                 refine AWP.sr ?_
                                 refine n_fieldAddr rfl fd33_3 ti2 rfl n0WkA rfl n0WkA ?_
                                 refine n_load rfl ti2 n0WkA n0WkA rfl n0WkA ?_
                                 refine n_lit rfl Tryz.underlying24 ti2 zi2 rfl rfl e1WkA rfl n0WkA ?_
                                 refine n_call0B rfl cf65 rfl e1WkA r2WkA (P1 a.ep) l3WkA ?_
                                 refine n_move rfl n0WkA ?_
                                 refine AOps.name (u := 164) (fun z => .val (.bool z)) n0WkA (fun b164 hb164 => ?_)
                                 refine n_softT b164 rfl rfl rfl n0WkA (fun h => by
                                  subst h
                                  refine n_fieldAddr rfl fd33_11 ti24 rfl n0WkA rfl n0WkA ?_
                                  exact AOps.nil ⟨rfl, rfl, rfl⟩) ?_
                                 refine n_softT b164 rfl rfl rfl n0WkA (fun h => by
                                  subst h
                                  refine n_load rfl ti24 n0WkA n0WkA rfl n0WkA ?_
                                  exact AOps.nil ⟨rfl, rfl, rfl⟩) ?_
                                 refine n_softT b164 rfl rfl rfl n0WkA (fun h => by
                                  subst h
                                  refine n_call0B rfl cf70 rfl e1WkA r2WkA (vect a.vc ha.c) l3WkA ?_
                                  exact AOps.nil ⟨rfl, rfl, rfl⟩) ?_
                                 refine n_pick_and rfl n0WkA (fun h => by cases b164 with | false => exact absurd h (by decide) | true => exact n0WkA) ?_
                                 refine n_assign rfl n0WkA ?_
                                 refine AOps.nil ?_
                                 refine AWP.ret ?_
                                 refine fin_pure (.cons (rv_tmp n0WkA) .nil) n0WkA ?_
                                 refine ren_flat rfl (congrArg vb ?_)
                                 subst hb164
                                 all_goals first | rfl | (simp only [ge_iff_le, Bool.and_assoc, Bool.and_true]; done) | (simp [Bool.and_assoc]; done) | grind
                               · try simp only [nh] at hc21
                                 refine AWP.sr ?_
                                 refine n_ibin rfl n0WkA n0WkA rfl ?_
                                 refine n_assign rfl n0WkA ?_
                                 refine AOps.nil ?_
                                 refine AWP.cond n0WkA (fun hc22 => ?_) (fun hc22 => ?_)
                                 · try simp only [nh] at hc22
                                   rw [fields_11 (w := a) (by omega)]
                                   refine AWP.sr ?_
                                   refine n_fieldAddr rfl fd33_3 ti2 rfl n0WkA rfl n0WkA ?_
                                   refine n_load rfl ti2 n0WkA n0WkA rfl n0WkA ?_
                                   refine n_lit rfl Tryz.underlying24 ti2 zi2 rfl rfl e1WkA rfl n0WkA ?_
                                   refine n_call0B rfl cf65 rfl e1WkA r2WkA (P1 a.ep) l3WkA ?_
                                   refine n_move rfl n0WkA ?_
                                   refine AOps.name (u := 175) (fun z => .val (.bool z)) n0WkA (fun b175 hb175 => ?_)
                                   refine n_softT b175 rfl rfl rfl n0WkA (fun h => by
                                    subst h
                                    refine n_fieldAddr rfl fd33_14 ti3 rfl n0WkA rfl n0WkA ?_
                                    exact AOps.nil ⟨rfl, rfl, rfl⟩) ?_
                                   refine n_softT b175 rfl rfl rfl n0WkA (fun h => by
                                    subst h
                                    refine n_load rfl ti3 n0WkA n0WkA rfl n0WkA ?_
                                    exact AOps.nil ⟨rfl, rfl, rfl⟩) ?_
                                   refine n_softT b175 rfl rfl rfl n0WkA (fun h => by
                                    subst h
                                    refine n_fieldAddr rfl fd33_15 ti2 rfl n0WkA rfl n0WkA ?_
                                    exact AOps.nil ⟨rfl, rfl, rfl⟩) ?_
                                   refine n_softT b175 rfl rfl rfl n0WkA (fun h => by
                                    subst h
                                    refine n_load rfl ti2 n0WkA n0WkA rfl n0WkA ?_
                                    exact AOps.nil ⟨rfl, rfl, rfl⟩) ?_
                                   refine n_softT b175 rfl rfl rfl n0WkA (fun h => by
                                    subst h
                                    refine n_fieldAddr rfl fd33_16 ti30 rfl n0WkA rfl n0WkA ?_
                                    exact AOps.nil ⟨rfl, rfl, rfl⟩) ?_
                                   refine n_softT b175 rfl rfl rfl n0WkA (fun h => by
                                    subst h
                                    refine n_load rfl ti30 n0WkA n0WkA rfl n0WkA ?_
                                    exact AOps.nil ⟨rfl, rfl, rfl⟩) ?_
                                   refine n_softT b175 rfl rfl rfl n0WkA (fun h => by
                                    subst h
                                    refine n_build rfl si110 e1WkA e1WkA rfl ?_
                                    exact AOps.nil ⟨rfl, rfl, rfl⟩) ?_
                                   refine n_softT b175 rfl rfl rfl n0WkA (fun h => by
                                    subst h
                                    refine n_call0B rfl cf72 rfl e1WkA r2WkA (bundle_ a.pt a.ps a.en ha.e) l3WkA ?_
                                    exact AOps.nil ⟨rfl, rfl, rfl⟩) ?_
                                   refine n_softT b175 rfl rfl rfl n0WkA (fun h => by
                                    subst h
                                    refine n_ibin rfl n0WkA n0WkA rfl ?_
                                    exact AOps.nil ⟨rfl, rfl, rfl⟩) ?_
                                   refine n_pick_and rfl n0WkA (fun h => by cases b175 with | false => exact absurd h (by decide) | true => exact n0WkA) ?_
                                   refine n_assign rfl n0WkA ?_
                                   refine AOps.nil ?_
                                   refine AWP.ret ?_
                                   refine fin_pure (.cons (rv_tmp n0WkA) .nil) n0WkA ?_
                                   refine ren_flat rfl (congrArg vb ?_)
                                   subst hb175
                                   all_goals first | rfl | (simp only [ge_iff_le, Bool.and_assoc, Bool.and_true]; done) | (simp [Bool.and_assoc]; done) | grind
                                 · try simp only [nh] at hc22
                                   refine AWP.sr ?_
                                   refine n_ibin rfl n0WkA n0WkA rfl ?_
                                   refine n_assign rfl n0WkA ?_
                                   refine AOps.nil ?_
                                   refine AWP.cond n0WkA (fun hc23 => ?_) (fun hc23 => ?_)
                                   · try simp only [nh] at hc23
                                     rw [fields_12 (w := a) (by omega)]
                                     refine AWP.sr ?_
                                     refine n_fieldAddr rfl fd33_3 ti2 rfl n0WkA rfl n0WkA ?_
                                     refine n_load rfl ti2 n0WkA n0WkA rfl n0WkA ?_
                                     refine n_lit rfl Tryz.underlying24 ti2 zi2 rfl rfl e1WkA rfl n0WkA ?_
                                     refine n_call0B rfl cf65 rfl e1WkA r2WkA (P1 a.ep) l3WkA ?_
                                     refine n_move rfl n0WkA ?_
                                     refine AOps.name (u := 192) (fun z => .val (.bool z)) n0WkA (fun b192 hb192 => ?_)
                                     refine n_softT b192 rfl rfl rfl n0WkA (fun h => by
                                      subst h
                                      refine n_fieldAddr rfl fd33_9 ti28 rfl n0WkA rfl n0WkA ?_
                                      exact AOps.nil ⟨rfl, rfl, rfl⟩) ?_
                                     refine n_softT b192 rfl rfl rfl n0WkA (fun h => by
                                      subst h
                                      refine n_load rfl ti28 n0WkA n0WkA rfl n0WkA ?_
                                      exact AOps.nil ⟨rfl, rfl, rfl⟩) ?_
                                     refine n_softT b192 rfl rfl rfl n0WkA (fun h => by
                                      subst h
                                      refine n_call0B rfl cf69 rfl e1WkA r2WkA (keyb a.ke a.ki) l3WkA ?_
                                      exact AOps.nil ⟨rfl, rfl, rfl⟩) ?_
                                     refine n_pick_and rfl n0WkA (fun h => by cases b192 with | false => exact absurd h (by decide) | true => exact n0WkA) ?_
                                     refine n_move rfl n0WkA ?_
                                     refine AOps.name (u := 197) (fun z => .val (.bool z)) n0WkA (fun b197 hb197 => ?_)
                                     refine n_softT b197 rfl rfl rfl n0WkA (fun h => by
                                      subst h
                                      refine n_fieldAddr rfl fd33_17 ti3 rfl n0WkA rfl n0WkA ?_
                                      exact AOps.nil ⟨rfl, rfl, rfl⟩) ?_
                                     refine n_softT b197 rfl rfl rfl n0WkA (fun h => by
                                      subst h
                                      refine n_load rfl ti3 n0WkA n0WkA rfl n0WkA ?_
                                      exact AOps.nil ⟨rfl, rfl, rfl⟩) ?_
                                     refine n_softT b197 rfl rfl rfl n0WkA (fun h => by
                                      subst h
                                      refine n_lit rfl Tryz.underlying24 ti2 zi2 rfl rfl e1WkA rfl n0WkA ?_
                                      exact AOps.nil ⟨rfl, rfl, rfl⟩) ?_
                                     refine n_softT b197 rfl rfl rfl n0WkA (fun h => by
                                      subst h
                                      refine n_call0B rfl cf66 rfl e1WkA r2WkA (N1 a.ch) l3WkA ?_
                                      exact AOps.nil ⟨rfl, rfl, rfl⟩) ?_
                                     refine n_pick_and rfl n0WkA (fun h => by cases b197 with | false => exact absurd h (by decide) | true => exact n0WkA) ?_
                                     refine n_assign rfl n0WkA ?_
                                     refine AOps.nil ?_
                                     refine AWP.ret ?_
                                     refine fin_pure (.cons (rv_tmp n0WkA) .nil) n0WkA ?_
                                     refine ren_flat rfl (congrArg vb ?_)
                                     subst hb192
                                     subst hb197
                                     all_goals first | rfl | (simp only [ge_iff_le, Bool.and_assoc, Bool.and_true]; done) | (simp [Bool.and_assoc]; done) | grind
                                   · try simp only [nh] at hc23
                                     refine AWP.sr ?_
                                     refine n_ibin rfl n0WkA n0WkA rfl ?_
                                     refine n_assign rfl n0WkA ?_
                                     refine AOps.nil ?_
                                     refine AWP.cond n0WkA (fun hc24 => ?_) (fun hc24 => ?_)
                                     · try simp only [nh] at hc24
                                       rw [fields_13 (w := a) (by omega)]
                                       refine AWP.sr ?_
                                       refine n_fieldAddr rfl fd33_3 ti2 rfl n0WkA rfl n0WkA ?_
                                       refine n_load rfl ti2 n0WkA n0WkA rfl n0WkA ?_
                                       refine n_lit rfl Tryz.underlying24 ti2 zi2 rfl rfl e1WkA rfl n0WkA ?_
                                       refine n_call0B rfl cf65 rfl e1WkA r2WkA (P1 a.ep) l3WkA ?_
                                       refine n_move rfl n0WkA ?_
                                       refine AOps.name (u := 209) (fun z => .val (.bool z)) n0WkA (fun b209 hb209 => ?_)
                                       refine n_softT b209 rfl rfl rfl n0WkA (fun h => by
                                        subst h
                                        refine n_fieldAddr rfl fd33_9 ti28 rfl n0WkA rfl n0WkA ?_
                                        exact AOps.nil ⟨rfl, rfl, rfl⟩) ?_
                                       refine n_softT b209 rfl rfl rfl n0WkA (fun h => by
                                        subst h
                                        refine n_load rfl ti28 n0WkA n0WkA rfl n0WkA ?_
                                        exact AOps.nil ⟨rfl, rfl, rfl⟩) ?_
                                       refine n_softT b209 rfl rfl rfl n0WkA (fun h => by
                                        subst h
                                        refine n_call0B rfl cf69 rfl e1WkA r2WkA (keyb a.ke a.ki) l3WkA ?_
                                        exact AOps.nil ⟨rfl, rfl, rfl⟩) ?_
                                       refine n_pick_and rfl n0WkA (fun h => by cases b209 with | false => exact absurd h (by decide) | true => exact n0WkA) ?_
                                       refine n_move rfl n0WkA ?_
                                       refine AOps.name (u := 214) (fun z => .val (.bool z)) n0WkA (fun b214 hb214 => ?_)
                                       refine n_softT b214 rfl rfl rfl n0WkA (fun h => by
                                        subst h
                                        refine n_fieldAddr rfl fd33_17 ti3 rfl n0WkA rfl n0WkA ?_
                                        exact AOps.nil ⟨rfl, rfl, rfl⟩) ?_
                                       refine n_softT b214 rfl rfl rfl n0WkA (fun h => by
                                        subst h
                                        refine n_load rfl ti3 n0WkA n0WkA rfl n0WkA ?_
                                        exact AOps.nil ⟨rfl, rfl, rfl⟩) ?_
                                       refine n_softT b214 rfl rfl rfl n0WkA (fun h => by
                                        subst h
                                        refine n_ibin rfl n0WkA n0WkA rfl ?_
                                        exact AOps.nil ⟨rfl, rfl, rfl⟩) ?_
                                       refine n_pick_and rfl n0WkA (fun h => by cases b214 with | false => exact absurd h (by decide) | true => exact n0WkA) ?_
                                       refine n_move rfl n0WkA ?_
                                       refine AOps.name (u := 219) (fun z => .val (.bool z)) n0WkA (fun b219 hb219 => ?_)
                                       refine n_softT b219 rfl rfl rfl n0WkA (fun h => by
                                        subst h
                                        refine n_fieldAddr rfl fd33_17 ti3 rfl n0WkA rfl n0WkA ?_
                                        exact AOps.nil ⟨rfl, rfl, rfl⟩) ?_
                                       refine n_softT b219 rfl rfl rfl n0WkA (fun h => by
                                        subst h
                                        refine n_load rfl ti3 n0WkA n0WkA rfl n0WkA ?_
                                        exact AOps.nil ⟨rfl, rfl, rfl⟩) ?_
                                       refine n_softT b219 rfl rfl rfl n0WkA (fun h => by
                                        subst h
                                        refine n_ibin rfl n0WkA n0WkA rfl ?_
                                        exact AOps.nil ⟨rfl, rfl, rfl⟩) ?_
                                       refine n_pick_and rfl n0WkA (fun h => by cases b219 with | false => exact absurd h (by decide) | true => exact n0WkA) ?_
                                       refine n_assign rfl n0WkA ?_
                                       refine AOps.nil ?_
                                       refine AWP.ret ?_
                                       refine fin_pure (.cons (rv_tmp n0WkA) .nil) n0WkA ?_
                                       refine ren_flat rfl (congrArg vb ?_)
                                       subst hb209
                                       subst hb214
                                       subst hb219
                                       all_goals first | rfl | (simp only [ge_iff_le, Bool.and_assoc, Bool.and_true]; done) | (simp [Bool.and_assoc]; done) | grind
                                     · try simp only [nh] at hc24
                                       refine AWP.sr ?_
                                       refine n_ibin rfl n0WkA n0WkA rfl ?_
                                       refine n_assign rfl n0WkA ?_
                                       refine AOps.nil ?_
                                       refine AWP.cond n0WkA (fun hc25 => ?_) (fun hc25 => ?_)
                                       · try simp only [nh] at hc25
                                         rw [fields_14 (w := a) (by omega)]
                                         refine AWP.sr ?_
                                         refine n_fieldAddr rfl fd33_3 ti2 rfl n0WkA rfl n0WkA ?_
                                         refine n_load rfl ti2 n0WkA n0WkA rfl n0WkA ?_
                                         refine n_lit rfl Tryz.underlying24 ti2 zi2 rfl rfl e1WkA rfl n0WkA ?_
                                         refine n_call0B rfl cf65 rfl e1WkA r2WkA (P1 a.ep) l3WkA ?_
                                         refine n_move rfl n0WkA ?_
                                         refine AOps.name (u := 230) (fun z => .val (.bool z)) n0WkA (fun b230 hb230 => ?_)
                                         refine n_softT b230 rfl rfl rfl n0WkA (fun h => by
                                          subst h
                                          refine n_fieldAddr rfl fd33_9 ti28 rfl n0WkA rfl n0WkA ?_
                                          exact AOps.nil ⟨rfl, rfl, rfl⟩) ?_
                                         refine n_softT b230 rfl rfl rfl n0WkA (fun h => by
                                          subst h
                                          refine n_load rfl ti28 n0WkA n0WkA rfl n0WkA ?_
                                          exact AOps.nil ⟨rfl, rfl, rfl⟩) ?_
                                         refine n_softT b230 rfl rfl rfl n0WkA (fun h => by
                                          subst h
                                          refine n_call0B rfl cf69 rfl e1WkA r2WkA (keyb a.ke a.ki) l3WkA ?_
                                          exact AOps.nil ⟨rfl, rfl, rfl⟩) ?_
                                         refine n_pick_and rfl n0WkA (fun h => by cases b230 with | false => exact absurd h (by decide) | true => exact n0WkA) ?_
                                         refine n_assign rfl n0WkA ?_
                                         refine AOps.nil ?_
                                         refine AWP.ret ?_
                                         refine fin_pure (.cons (rv_tmp n0WkA) .nil) n0WkA ?_
                                         refine ren_flat rfl (congrArg vb ?_)
                                         subst hb230
                                         all_goals first | rfl | (simp only [ge_iff_le, Bool.and_assoc, Bool.and_true]; done) | (simp [Bool.and_assoc]; done) | grind
                                       · try simp only [nh] at hc25
                                         rw [fields_y (w := a) (by omega)]
                                         refine AWP.skip ?_
                                         refine AWP.sr ?_
                                         refine n_assign rfl n0WkA ?_
                                         refine AOps.nil ?_
                                         refine AWP.ret ?_
                                         refine fin_pure (.cons (rv_tmp n0WkA) .nil) n0WkA ?_
                                         refine ren_flat rfl (congrArg vb ?_)
                                         all_goals first | rfl | (simp only [ge_iff_le, Bool.and_assoc, Bool.and_true]; done) | (simp [Bool.and_assoc]; done) | grind

end Go.Proofs.YtanfmpkjcoolmaaGreat.Wk
