/- The hello message's bytes, and it is read back. -/
import Derived.Test.YtanfmpkjcoolmaaGreatWcA
set_option linter.unusedVariables false
set_option linter.unusedSimpArgs false
namespace Go.Proofs.YtanfmpkjcoolmaaGreat.Wd
open Go Go.Abs Go.Proofs.YtanfmpkjcoolmaaGreat.Pk Wa Wb Wc
attribute [local irreducible] AWP AOps Does

theorem nrWdA0 {α : Type} {a b : α} (h : a = b := by first|simp only[nf,Nat.beq]<;>rfl|rfl) : a = b := h
theorem lfWdA0 {d : D} (h : LF d := by first | exact .val _ | exact lf_ints (.inl rfl) | exact lf_ints (.inr rfl) | exact .any | exact .tup (lf_cons (lf_ints (.inl rfl)) (lf_cons (.val _) lf_nil)) | exact wz_lf _ | exact .tup (lf_cons (wz_lf _) (lf_cons (.val _) lf_nil)) | exact .agg (qt_lf _) | exact D.flat_lf rfl) : LF d := h
theorem cf12 : CF Tryz.prog 12 := ⟨_, Tryz.func12, by kernel_rfl, by kernel_rfl⟩
theorem cf13 : CF Tryz.prog 13 := ⟨_, Tryz.func13, by kernel_rfl, by kernel_rfl⟩
theorem cf19 : CF Tryz.prog 19 := ⟨_, Tryz.func19, by kernel_rfl, by kernel_rfl⟩
theorem cf20 : CF Tryz.prog 20 := ⟨_, Tryz.func20, by kernel_rfl, by kernel_rfl⟩
theorem cf21 : CF Tryz.prog 21 := ⟨_, Tryz.func21, by kernel_rfl, by kernel_rfl⟩
theorem cf22 : CF Tryz.prog 22 := ⟨_, Tryz.func22, by kernel_rfl, by kernel_rfl⟩
theorem cf50 : CF Tryz.prog 50 := ⟨_, Tryz.func50, by kernel_rfl, by kernel_rfl⟩
theorem cf51 : CF Tryz.prog 51 := ⟨_, Tryz.func51, by kernel_rfl, by kernel_rfl⟩
theorem cf52 : CF Tryz.prog 52 := ⟨_, Tryz.func52, by kernel_rfl, by kernel_rfl⟩
theorem cf6 : CF Tryz.prog 6 := ⟨_, Tryz.func6, by kernel_rfl, by kernel_rfl⟩
theorem cf7 : CF Tryz.prog 7 := ⟨_, Tryz.func7, by kernel_rfl, by kernel_rfl⟩
theorem cf8 : CF Tryz.prog 8 := ⟨_, Tryz.func8, by kernel_rfl, by kernel_rfl⟩
theorem cf9 : CF Tryz.prog 9 := ⟨_, Tryz.func9, by kernel_rfl, by kernel_rfl⟩
theorem fd33_0 : FD Tryz.prog 33 0 3 0 := ⟨_, _, Tryz.underlying33, rfl, rfl, rfl⟩
theorem fd33_1 : FD Tryz.prog 33 1 3 1 := ⟨_, _, Tryz.underlying33, rfl, rfl, rfl⟩
theorem fd33_3 : FD Tryz.prog 33 3 2 3 := ⟨_, _, Tryz.underlying33, rfl, rfl, rfl⟩
theorem fd63_0 : FD Tryz.prog 63 0 60 0 := ⟨_, _, Tryz.underlying63, rfl, rfl, rfl⟩
theorem si33 : SI Tryz.prog 33 #[(0, 1), (1, 1), (2, 1), (3, 1), (4, 1), (5, 1), (6, 1), (7, 1), (8, 5), (13, 2), (15, 1), (16, 1), (17, 1), (18, 1), (19, 1), (20, 1), (21, 1), (22, 1), (23, 1)] (.agg #[.int .i64 0, .int .i64 0, .int .i64 0, .int .i64 0, .int .i64 0, .int .i64 0, .bool false, .int .i64 0, .int .i64 0, .int .i64 0, .int .i64 0, .slice none 0 0, .slice none 0 0, .int .i64 0, .int .i64 0, .int .i64 0, .slice none 0 0, .int .i64 0, .slice none 0 0, .int .i64 0, .int .i64 0, .slice none 0 0, .int .i64 0, .slice none 0 0]) := ⟨⟨_, Tryz.underlying33, fun w => by kernel_rfl⟩, by kernel_rfl⟩
theorem si63 : SI Tryz.prog 63 #[(0, 1)] (.agg #[.pointer none]) := ⟨⟨_, Tryz.underlying63, fun w => by kernel_rfl⟩, by kernel_rfl⟩
theorem ti2 : TI Tryz.prog 2 1 false := ⟨by kernel_rfl, by kernel_rfl⟩
theorem ti3 : TI Tryz.prog 3 1 false := ⟨by kernel_rfl, by kernel_rfl⟩
theorem ti33 : TI Tryz.prog 33 24 true := ⟨by kernel_rfl, by kernel_rfl⟩
theorem ti5 : TI Tryz.prog 5 1 false := ⟨by kernel_rfl, by kernel_rfl⟩
theorem ti60 : TI Tryz.prog 60 1 false := ⟨by kernel_rfl, by kernel_rfl⟩
theorem ti63 : TI Tryz.prog 63 1 true := ⟨by kernel_rfl, by kernel_rfl⟩
theorem zi2 : (Tryz.prog.info? 2).map (·.zero) = some (some (.int .i64 0)) := by kernel_rfl
theorem zi33 : (Tryz.prog.info? 33).map (·.zero) = some (some (.agg #[.int .i64 0, .int .i64 0, .int .i64 0, .int .i64 0, .int .i64 0, .int .i64 0, .bool false, .int .i64 0, .int .i64 0, .int .i64 0, .int .i64 0, .slice none 0 0, .slice none 0 0, .int .i64 0, .int .i64 0, .int .i64 0, .slice none 0 0, .int .i64 0, .slice none 0 0, .int .i64 0, .int .i64 0, .slice none 0 0, .int .i64 0, .slice none 0 0])) := by kernel_rfl
theorem zi5 : (Tryz.prog.info? 5).map (·.zero) = some (some (.int .u8 0)) := by kernel_rfl
theorem zi63 : (Tryz.prog.info? 63).map (·.zero) = some (some (.agg #[.pointer none])) := by kernel_rfl

theorem h_regionals (b : List Int) : Does Tryz.prog 19 [bys b, .agg (wz h0)] [] (bys b) [] := by
  refine Does.of_body (rvs := [.tmp 4]) Tryz.func19 rfl rfl rfl rfl ?_
  refine AWP.seq ?_
  refine AWP.region ?_
  refine n_box rfl nrWdA0 rfl rfl nrWdA0 nrWdA0 ?_
  refine n_assign rfl nrWdA0 ?_
  refine AOps.nil ?_
  refine AWP.seq ?_
  refine AWP.seq ?_
  refine AWP.region ?_
  refine n_fieldAddr rfl fd33_0 ti3 rfl nrWdA0 rfl nrWdA0 ?_
  refine n_load rfl ti3 nrWdA0 nrWdA0 rfl nrWdA0 ?_
  refine AOps.nil ?_
  refine AWP.block ?_
  refine AWP.seq ?_
  refine AWP.region ?_
  refine n_ibin rfl nrWdA0 nrWdA0 rfl ?_
  refine n_assign rfl nrWdA0 ?_
  refine AOps.nil ?_
  refine AWP.cond_false nrWdA0 ?_
  refine AWP.seq ?_
  refine AWP.region ?_
  refine n_ibin rfl nrWdA0 nrWdA0 rfl ?_
  refine n_assign rfl nrWdA0 ?_
  refine AOps.nil ?_
  refine AWP.cond_false nrWdA0 ?_
  refine AWP.seq ?_
  refine AWP.region ?_
  refine n_ibin rfl nrWdA0 nrWdA0 rfl ?_
  refine n_assign rfl nrWdA0 ?_
  refine AOps.nil ?_
  refine AWP.cond_false nrWdA0 ?_
  refine AWP.seq ?_
  refine AWP.region ?_
  refine n_ibin rfl nrWdA0 nrWdA0 rfl ?_
  refine n_assign rfl nrWdA0 ?_
  refine AOps.nil ?_
  refine AWP.cond_false nrWdA0 ?_
  refine AWP.seq ?_
  refine AWP.region ?_
  refine n_ibin rfl nrWdA0 nrWdA0 rfl ?_
  refine n_assign rfl nrWdA0 ?_
  refine AOps.nil ?_
  refine AWP.cond_false nrWdA0 ?_
  refine AWP.seq ?_
  refine AWP.region ?_
  refine n_ibin rfl nrWdA0 nrWdA0 rfl ?_
  refine n_assign rfl nrWdA0 ?_
  refine AOps.nil ?_
  refine AWP.cond_false nrWdA0 ?_
  refine AWP.seq ?_
  refine AWP.region ?_
  refine n_ibin rfl nrWdA0 nrWdA0 rfl ?_
  refine n_assign rfl nrWdA0 ?_
  refine AOps.nil ?_
  refine AWP.cond_false nrWdA0 ?_
  refine AWP.skip ?_
  refine AWP.seq ?_
  refine AWP.region ?_
  refine n_move rfl nrWdA0 ?_
  refine n_assign rfl nrWdA0 ?_
  refine AOps.nil ?_
  refine AWP.ret ?_
  refine fin_pure (.cons (rv_tmp nrWdA0) .nil) nrWdA0 ?_
  exact ren_ints

set_option maxHeartbeats 1000000 in
theorem h_bytes : Does Tryz.prog 6 [.agg (wz h0)] [] (.tup [bys [26, 2, 6], vi 0]) [] := by
  refine Does.of_body (rvs := [.tmp 2, .tmp 3]) Tryz.func6 rfl rfl rfl rfl ?_
  have hp1 := p_int [] [13, 1] (fun n h => by simp at h; rcases h with rfl | rfl <;> exact ⟨by decide, by decide⟩) (by simp)
  obtain ⟨b1, hb1⟩ : ∃ b, b = [] ++ forms [13, 1] := ⟨_, rfl⟩
  rw [← hb1] at hp1
  have hb0 : b1 = [26, 2] := by rw [hb1]; simp [forms, form, formN, natN, hiD_zero]
  have hp2 := p_int b1 [3] (fun n h => by simp at h; subst h; exact ⟨by decide, by decide⟩) (by rw [hb0]; simp)
  obtain ⟨b2, hb2⟩ : ∃ b, b = b1 ++ forms [3] := ⟨_, rfl⟩
  rw [← hb2] at hp2
  have hb3 : b2 = [26, 2, 6] := by rw [hb2, hb1]; exact hello_b
  have hrg := h_regionals b2
  clear hb1 hb2
  refine AWP.seq ?_
  refine AWP.region ?_
  refine n_box rfl nrWdA0 rfl rfl nrWdA0 nrWdA0 ?_
  refine n_assign rfl nrWdA0 ?_
  refine n_assign rfl nrWdA0 ?_
  refine AOps.nil ?_
  refine AWP.seq ?_
  refine AWP.seq ?_
  refine AWP.region ?_
  refine n_load rfl ti33 nrWdA0 nrWdA0 rfl nrWdA0 ?_
  refine n_call0B rfl cf12 rfl (Eq.trans (by simp only [nl] <;> rfl) nrWdA0) (by repeat (first | exact .nil | refine .cons ?_ ?_ | exact ren_ints | exact .lf (.val _) | exact .lf (lf_ints (.inl rfl)) | exact .bp ⟨rfl, rfl⟩ | exact .bp (.inl ⟨rfl, rfl⟩) | exact .bp (.inr ⟨rfl, rfl⟩) | exact .lf (wz_lf _) | exact .agg rfl (RenAll.get (by repeat (first | exact .nil | refine .cons ?_ ?_ | exact .lf (.val _) | exact ren_map (f := q1) (fun _ => rfl) | exact ren_map (f := q2) (fun _ => rfl) | exact ren_map (f := q4) (fun _ => rfl) | exact ren_mapG qt_lf | exact .ro (fun x h => by cases h) | exact ren_ints))) | exact .lf (txz_lf _) | exact ren_mapG qt_lf | exact .lf lf_fnz | exact .lf (.agg (qt_lf _)) | exact .lf lf_fnz | exact ren_map (f := q1) (fun _ => rfl) | exact ren_map (f := q2) (fun _ => rfl) | exact ren_map (f := q4) (fun _ => rfl) | exact .lf (D.flat_lf rfl) | exact ren_lits rfl | exact ren_ints)) (h_check) lfWdA0 ?_
  refine n_assign rfl nrWdA0 ?_
  refine AOps.nil ?_
  refine AWP.seq ?_
  refine AWP.region ?_
  refine n_move rfl nrWdA0 ?_
  refine n_ibin rfl nrWdA0 nrWdA0 rfl ?_
  refine AOps.nil ?_
  refine AWP.cond_false nrWdA0 ?_
  refine AWP.skip ?_
  refine AWP.seq ?_
  refine AWP.region ?_
  refine n_fieldAddr rfl fd33_0 ti3 rfl nrWdA0 rfl nrWdA0 ?_
  refine n_load rfl ti3 nrWdA0 nrWdA0 rfl nrWdA0 ?_
  refine n_fieldAddr rfl fd33_1 ti3 rfl nrWdA0 rfl nrWdA0 ?_
  refine n_load rfl ti3 nrWdA0 nrWdA0 rfl nrWdA0 ?_
  refine n_lit rfl Tryz.underlying24 ti2 zi2 rfl rfl (Eq.trans (by simp only [nl] <;> rfl) nrWdA0) rfl nrWdA0 ?_
  refine n_callOwnB rfl cf13 rfl (Eq.trans (by simp only [nl] <;> rfl) nrWdA0) (by repeat (first | exact .nil | refine .cons ?_ ?_ | exact ren_ints | exact .lf (.val _) | exact .lf (lf_ints (.inl rfl)) | exact .bp ⟨rfl, rfl⟩ | exact .bp (.inl ⟨rfl, rfl⟩) | exact .bp (.inr ⟨rfl, rfl⟩) | exact .lf (wz_lf _) | exact .agg rfl (RenAll.get (by repeat (first | exact .nil | refine .cons ?_ ?_ | exact .lf (.val _) | exact ren_map (f := q1) (fun _ => rfl) | exact ren_map (f := q2) (fun _ => rfl) | exact ren_map (f := q4) (fun _ => rfl) | exact ren_mapG qt_lf | exact .ro (fun x h => by cases h) | exact ren_ints))) | exact .lf (txz_lf _) | exact ren_mapG qt_lf | exact .lf lf_fnz | exact .lf (.agg (qt_lf _)) | exact .lf lf_fnz | exact ren_map (f := q1) (fun _ => rfl) | exact ren_map (f := q2) (fun _ => rfl) | exact ren_map (f := q4) (fun _ => rfl) | exact .lf (D.flat_lf rfl) | exact ren_lits rfl | exact ren_ints)) (hp1) (by first | exact ints_lf _ _) rfl nrWdA0 ?_
  refine n_assign rfl nrWdA0 ?_
  refine AOps.nil ?_
  refine AWP.seq ?_
  refine AWP.seq ?_
  refine AWP.region ?_
  refine n_fieldAddr rfl fd33_0 ti3 rfl nrWdA0 rfl nrWdA0 ?_
  refine n_load rfl ti3 nrWdA0 nrWdA0 rfl nrWdA0 ?_
  refine AOps.nil ?_
  refine AWP.block ?_
  refine AWP.seq ?_
  refine AWP.seq ?_
  refine AWP.region ?_
  refine n_ibin rfl nrWdA0 nrWdA0 rfl ?_
  refine n_assign rfl nrWdA0 ?_
  refine AOps.nil ?_
  refine AWP.cond_false nrWdA0 ?_
  refine AWP.region ?_
  refine n_ibin rfl nrWdA0 nrWdA0 rfl ?_
  refine n_assign rfl nrWdA0 ?_
  refine AOps.nil ?_
  refine AWP.cond_false nrWdA0 ?_
  refine AWP.seq ?_
  refine AWP.seq ?_
  refine AWP.region ?_
  refine n_ibin rfl nrWdA0 nrWdA0 rfl ?_
  refine n_assign rfl nrWdA0 ?_
  refine AOps.nil ?_
  refine AWP.cond_false nrWdA0 ?_
  refine AWP.seq ?_
  refine AWP.region ?_
  refine n_ibin rfl nrWdA0 nrWdA0 rfl ?_
  refine n_assign rfl nrWdA0 ?_
  refine AOps.nil ?_
  refine AWP.cond_false nrWdA0 ?_
  refine AWP.region ?_
  refine n_ibin rfl nrWdA0 nrWdA0 rfl ?_
  refine n_assign rfl nrWdA0 ?_
  refine AOps.nil ?_
  refine AWP.cond_false nrWdA0 ?_
  refine AWP.seq ?_
  refine AWP.region ?_
  refine n_ibin rfl nrWdA0 nrWdA0 rfl ?_
  refine n_assign rfl nrWdA0 ?_
  refine AOps.nil ?_
  refine AWP.cond_false nrWdA0 ?_
  refine AWP.seq ?_
  refine AWP.region ?_
  refine n_ibin rfl nrWdA0 nrWdA0 rfl ?_
  refine n_assign rfl nrWdA0 ?_
  refine AOps.nil ?_
  refine AWP.cond_false nrWdA0 ?_
  refine AWP.seq ?_
  refine AWP.region ?_
  refine n_ibin rfl nrWdA0 nrWdA0 rfl ?_
  refine n_assign rfl nrWdA0 ?_
  refine AOps.nil ?_
  refine AWP.cond_false nrWdA0 ?_
  refine AWP.seq ?_
  refine AWP.region ?_
  refine n_ibin rfl nrWdA0 nrWdA0 rfl ?_
  refine n_assign rfl nrWdA0 ?_
  refine AOps.nil ?_
  refine AWP.cond_false nrWdA0 ?_
  refine AWP.seq ?_
  refine AWP.seq ?_
  refine AWP.region ?_
  refine n_ibin rfl nrWdA0 nrWdA0 rfl ?_
  refine n_assign rfl nrWdA0 ?_
  refine AOps.nil ?_
  refine AWP.cond_false nrWdA0 ?_
  refine AWP.region ?_
  refine n_ibin rfl nrWdA0 nrWdA0 rfl ?_
  refine n_assign rfl nrWdA0 ?_
  refine AOps.nil ?_
  refine AWP.cond_false nrWdA0 ?_
  refine AWP.seq ?_
  refine AWP.region ?_
  refine n_ibin rfl nrWdA0 nrWdA0 rfl ?_
  refine n_assign rfl nrWdA0 ?_
  refine AOps.nil ?_
  refine AWP.cond_false nrWdA0 ?_
  refine AWP.any1 4 [Ob.box (wz h0), Ob.row b1.length 1, Ob.row b2.length 1] (by kernel_rfl) (by kernel_rfl) (by kernel_rfl) ?_
  refine Walk.ahead [4] (by rfl) (by kernel_rfl) (by rfl) (rs := [5]) (by rfl) nrWdA0 (fun base => by
      refine n_move rfl nrWdA0 ?_
      exact AOps.nil ⟨rfl, rfl, rfl⟩) ?_
  refine Walk.ahead [2, 3, 4] (by rfl) (by kernel_rfl) (by rfl) (rs := [1]) (by rfl) nrWdA0 (fun base => by
      refine n_fieldAddr rfl fd33_3 ti2 rfl nrWdA0 rfl nrWdA0 ?_
      exact AOps.nil ⟨rfl, rfl, rfl⟩) ?_
  refine Walk.ahead [3, 4] (by rfl) (by kernel_rfl) (by rfl) (rs := [20]) (by rfl) nrWdA0 (fun base => by
      refine n_load rfl ti2 nrWdA0 nrWdA0 rfl nrWdA0 ?_
      exact AOps.nil ⟨rfl, rfl, rfl⟩) ?_
  refine Walk.ahead [4] (by rfl) (by kernel_rfl) (by rfl) (rs := [21]) (by rfl) nrWdA0 (fun base => by
      refine n_lit rfl Tryz.underlying24 ti2 zi2 rfl rfl (Eq.trans (by simp only [nl] <;> rfl) nrWdA0) rfl nrWdA0 ?_
      exact AOps.nil ⟨rfl, rfl, rfl⟩) ?_
  refine Walk.writes (by rfl) (rs := [19, 22]) (by rfl) nrWdA0 (fun base => by
      refine n_callOwnB rfl cf13 rfl (Eq.trans (by simp only [nl] <;> rfl) nrWdA0) (by repeat (first | exact .nil | refine .cons ?_ ?_ | exact ren_ints | exact .lf (.val _) | exact .lf (lf_ints (.inl rfl)) | exact .bp ⟨rfl, rfl⟩ | exact .bp (.inl ⟨rfl, rfl⟩) | exact .bp (.inr ⟨rfl, rfl⟩) | exact .lf (wz_lf _) | exact .agg rfl (RenAll.get (by repeat (first | exact .nil | refine .cons ?_ ?_ | exact .lf (.val _) | exact ren_map (f := q1) (fun _ => rfl) | exact ren_map (f := q2) (fun _ => rfl) | exact ren_map (f := q4) (fun _ => rfl) | exact ren_mapG qt_lf | exact .ro (fun x h => by cases h) | exact ren_ints))) | exact .lf (txz_lf _) | exact ren_mapG qt_lf | exact .lf lf_fnz | exact .lf (.agg (qt_lf _)) | exact .lf lf_fnz | exact ren_map (f := q1) (fun _ => rfl) | exact ren_map (f := q2) (fun _ => rfl) | exact ren_map (f := q4) (fun _ => rfl) | exact .lf (D.flat_lf rfl) | exact ren_lits rfl | exact ren_ints)) (hp2) (by first | exact ints_lf _ _) rfl nrWdA0 ?_
      exact AOps.nil ⟨rfl, rfl, rfl⟩) ?_
  refine Walk.both (by rfl) (rs := [1]) (by rfl) nrWdA0 (fun base S' hS' => by
      rcases hS' with rfl | rfl
      all_goals
        refine n_load rfl ti33 nrWdA0 nrWdA0 rfl nrWdA0 ?_
        exact AOps.nil ⟨rfl, rfl, rfl⟩) ?_
  refine Walk.behind [6] (by rfl) (by rfl) (by kernel_rfl) (by rfl) (rs := [23, 24]) (by rfl) nrWdA0 (fun base => by
      refine n_call0B rfl cf19 rfl (Eq.trans (by simp only [nl] <;> rfl) nrWdA0) (by repeat (first | exact .nil | refine .cons ?_ ?_ | exact ren_ints | exact .lf (.val _) | exact .lf (lf_ints (.inl rfl)) | exact .bp ⟨rfl, rfl⟩ | exact .bp (.inl ⟨rfl, rfl⟩) | exact .bp (.inr ⟨rfl, rfl⟩) | exact .lf (wz_lf _) | exact .agg rfl (RenAll.get (by repeat (first | exact .nil | refine .cons ?_ ?_ | exact .lf (.val _) | exact ren_map (f := q1) (fun _ => rfl) | exact ren_map (f := q2) (fun _ => rfl) | exact ren_map (f := q4) (fun _ => rfl) | exact ren_mapG qt_lf | exact .ro (fun x h => by cases h) | exact ren_ints))) | exact .lf (txz_lf _) | exact ren_mapG qt_lf | exact .lf lf_fnz | exact .lf (.agg (qt_lf _)) | exact .lf lf_fnz | exact ren_map (f := q1) (fun _ => rfl) | exact ren_map (f := q2) (fun _ => rfl) | exact ren_map (f := q4) (fun _ => rfl) | exact .lf (D.flat_lf rfl) | exact ren_lits rfl | exact ren_ints)) (hrg) lfWdA0 ?_
      exact AOps.nil ⟨rfl, rfl, rfl⟩) ?_
  refine Walk.behind [7] (by rfl) (by rfl) (by kernel_rfl) (by rfl) (rs := [25]) (by rfl) nrWdA0 (fun base => by
      refine n_assign rfl nrWdA0 ?_
      exact AOps.nil ⟨rfl, rfl, rfl⟩) ?_
  refine Walk.done ?_
  refine AWP.seq ?_
  refine AWP.seq ?_
  refine AWP.region ?_
  refine n_move rfl nrWdA0 ?_
  refine n_len rfl Tryz.underlying31 nrWdA0 (n := 3) (by rw [ints_length, hb3]; rfl) ?_
  refine n_ibin rfl nrWdA0 nrWdA0 rfl ?_
  refine AOps.nil ?_
  refine AWP.cond_false nrWdA0 ?_
  refine AWP.skip ?_
  refine AWP.seq ?_
  refine AWP.region ?_
  refine n_move rfl nrWdA0 ?_
  refine n_assign rfl nrWdA0 ?_
  refine n_assign rfl nrWdA0 ?_
  refine AOps.nil ?_
  refine AWP.ret ?_
  refine fin_pure (d := .tup [bys b2, vi 0]) (.cons (rv_tmp nrWdA0) (.cons (rv_tmp nrWdA0) .nil)) nrWdA0 ?_
  rw [hb3]
  exact .tup rfl (RenAll.get (.cons ren_ints (.cons (ren_flat rfl rfl) .nil)))

theorem h_pos (K : D → List Ob → Prop) (hK : K (vi 3) [Ob.box [vi 0, vi 0, vi 0, vi 0, vi 0, vi 0, vb false, vi 0, vi 0, vi 0, vi 0, .sl (some true) [] .full, .sl (some true) [] .full, vi 0, vi 0, vi 0, .sl (some true) [] .full, vi 0, .sl (some true) [] .full, vi 0, vi 0, .sl (some true) [] .full, vi 0, .sl (some true) [] .full], Ob.box (Up.z ⟨[], 0⟩), Ob.box [.bp 1 0], Ob.box [.bp 1 0], Ob.box [vi 0, vi 0, vi 0, vi 0, vi 0, vi 0, vb false, vi 0, vi 0, vi 0, vi 0, .sl (some true) [] .full, .sl (some true) [] .full, vi 0, vi 0, vi 0, .sl (some true) [] .full, vi 0, .sl (some true) [] .full, vi 0, vi 0, .sl (some true) [] .full, vi 0, .sl (some true) [] .full], Ob.box [vi 13, vi 1, vi 0, vi 0, vi 0, vi 0, vb false, vi 0, vi 0, vi 0, vi 0, .sl (some true) [] .full, .sl (some true) [] .full, vi 0, vi 0, vi 0, .sl (some true) [] .full, vi 0, .sl (some true) [] .full, vi 0, vi 0, .sl (some true) [] .full, vi 0, .sl (some true) [] .full], Ob.box [.bp 1 0], Ob.box [.bp 1 0]]) : DoesK Tryz.prog 52 [.agg [.bp 1 0]] [Ob.box [vi 0, vi 0, vi 0, vi 0, vi 0, vi 0, vb false, vi 0, vi 0, vi 0, vi 0, .sl (some true) [] .full, .sl (some true) [] .full, vi 0, vi 0, vi 0, .sl (some true) [] .full, vi 0, .sl (some true) [] .full, vi 0, vi 0, .sl (some true) [] .full, vi 0, .sl (some true) [] .full], Ob.box (Up.z ⟨[6], 0⟩), Ob.box [.bp 1 0], Ob.box [.bp 1 0], Ob.box [vi 0, vi 0, vi 0, vi 0, vi 0, vi 0, vb false, vi 0, vi 0, vi 0, vi 0, .sl (some true) [] .full, .sl (some true) [] .full, vi 0, vi 0, vi 0, .sl (some true) [] .full, vi 0, .sl (some true) [] .full, vi 0, vi 0, .sl (some true) [] .full, vi 0, .sl (some true) [] .full], Ob.box [vi 13, vi 1, vi 0, vi 0, vi 0, vi 0, vb false, vi 0, vi 0, vi 0, vi 0, .sl (some true) [] .full, .sl (some true) [] .full, vi 0, vi 0, vi 0, .sl (some true) [] .full, vi 0, .sl (some true) [] .full, vi 0, vi 0, .sl (some true) [] .full, vi 0, .sl (some true) [] .full], Ob.box [.bp 1 0]] K := by
  refine DoesK.of_body (rvs := [.tmp 2]) Tryz.func52 rfl rfl rfl rfl ?_
  have h3 := u_int [6] 0 1 9007199254740992 (fun x h => by simp at h; rcases h with rfl <;> decide) (by simp [L40])
  rw [hello_3] at h3
  dsimp only at h3
  refine AWP.seq ?_
  refine AWP.region ?_
  refine n_box rfl nrWdA0 rfl rfl nrWdA0 nrWdA0 ?_
  refine n_assign rfl nrWdA0 ?_
  refine AOps.nil ?_
  refine AWP.seq ?_
  refine AWP.region ?_
  refine n_fieldAddr rfl fd63_0 ti60 rfl nrWdA0 rfl nrWdA0 ?_
  refine n_load rfl ti60 nrWdA0 nrWdA0 rfl nrWdA0 ?_
  refine n_callBoxB rfl cf50 rfl (Eq.trans (by simp only [nl] <;> rfl) nrWdA0) (by repeat (first | exact .nil | refine .cons ?_ ?_ | exact ren_ints | exact .lf (.val _) | exact .lf (lf_ints (.inl rfl)) | exact .bp ⟨rfl, rfl⟩ | exact .bp (.inl ⟨rfl, rfl⟩) | exact .bp (.inr ⟨rfl, rfl⟩) | exact .lf (wz_lf _) | exact .agg rfl (RenAll.get (by repeat (first | exact .nil | refine .cons ?_ ?_ | exact .lf (.val _) | exact ren_map (f := q1) (fun _ => rfl) | exact ren_map (f := q2) (fun _ => rfl) | exact ren_map (f := q4) (fun _ => rfl) | exact ren_mapG qt_lf | exact .ro (fun x h => by cases h) | exact ren_ints))) | exact .lf (txz_lf _) | exact ren_mapG qt_lf | exact .lf lf_fnz | exact .lf (.agg (qt_lf _)) | exact .lf lf_fnz | exact ren_map (f := q1) (fun _ => rfl) | exact ren_map (f := q2) (fun _ => rfl) | exact ren_map (f := q4) (fun _ => rfl) | exact .lf (D.flat_lf rfl) | exact ren_lits rfl | exact ren_ints)) (by rfl) (by repeat (first | exact .nil | refine .cons ?_ ?_ | exact ren_ints | exact .lf (.val _) | exact .lf (lf_ints (.inl rfl)) | exact .bp ⟨rfl, rfl⟩ | exact .bp (.inl ⟨rfl, rfl⟩) | exact .bp (.inr ⟨rfl, rfl⟩) | exact .lf (wz_lf _) | exact .agg rfl (RenAll.get (by repeat (first | exact .nil | refine .cons ?_ ?_ | exact .lf (.val _) | exact ren_map (f := q1) (fun _ => rfl) | exact ren_map (f := q2) (fun _ => rfl) | exact ren_map (f := q4) (fun _ => rfl) | exact ren_mapG qt_lf | exact .ro (fun x h => by cases h) | exact ren_ints))) | exact .lf (txz_lf _) | exact ren_mapG qt_lf | exact .lf lf_fnz | exact .lf (.agg (qt_lf _)) | exact .lf lf_fnz | exact ren_map (f := q1) (fun _ => rfl) | exact ren_map (f := q2) (fun _ => rfl) | exact ren_map (f := q4) (fun _ => rfl) | exact .lf (D.flat_lf rfl) | exact ren_lits rfl | exact ren_ints)) (h3) (by repeat (first | exact lf_nil | refine lf_cons ?_ ?_ | exact .val _ | exact lf_ints (.inl rfl))) lfWdA0 nrWdA0 ?_
  refine n_assign rfl nrWdA0 ?_
  refine AOps.nil ?_
  refine AWP.ret ?_
  refine finK_ret (.cons (rv_tmp nrWdA0) .nil) nrWdA0 ?_
  exact hK

theorem h_rregional (K : D → List Ob → Prop) (hK : K (.tup []) [Ob.box [vi 0, vi 0, vi 0, vi 0, vi 0, vi 0, vb false, vi 0, vi 0, vi 0, vi 0, .sl (some true) [] .full, .sl (some true) [] .full, vi 0, vi 0, vi 0, .sl (some true) [] .full, vi 0, .sl (some true) [] .full, vi 0, vi 0, .sl (some true) [] .full, vi 0, .sl (some true) [] .full], Ob.box (Up.z ⟨[], 0⟩), Ob.box [.bp 1 0], Ob.box [.bp 1 0], Ob.box [vi 0, vi 0, vi 0, vi 0, vi 0, vi 0, vb false, vi 0, vi 0, vi 0, vi 0, .sl (some true) [] .full, .sl (some true) [] .full, vi 0, vi 0, vi 0, .sl (some true) [] .full, vi 0, .sl (some true) [] .full, vi 0, vi 0, .sl (some true) [] .full, vi 0, .sl (some true) [] .full], Ob.box [vi 13, vi 1, vi 0, vi 3, vi 0, vi 0, vb false, vi 0, vi 0, vi 0, vi 0, .sl (some true) [] .full, .sl (some true) [] .full, vi 0, vi 0, vi 0, .sl (some true) [] .full, vi 0, .sl (some true) [] .full, vi 0, vi 0, .sl (some true) [] .full, vi 0, .sl (some true) [] .full], Ob.box [.bp 1 0], Ob.box [.bp 1 0]]) : DoesK Tryz.prog 51 [.agg [.bp 1 0], .bp 5 0] [Ob.box [vi 0, vi 0, vi 0, vi 0, vi 0, vi 0, vb false, vi 0, vi 0, vi 0, vi 0, .sl (some true) [] .full, .sl (some true) [] .full, vi 0, vi 0, vi 0, .sl (some true) [] .full, vi 0, .sl (some true) [] .full, vi 0, vi 0, .sl (some true) [] .full, vi 0, .sl (some true) [] .full], Ob.box (Up.z ⟨[6], 0⟩), Ob.box [.bp 1 0], Ob.box [.bp 1 0], Ob.box [vi 0, vi 0, vi 0, vi 0, vi 0, vi 0, vb false, vi 0, vi 0, vi 0, vi 0, .sl (some true) [] .full, .sl (some true) [] .full, vi 0, vi 0, vi 0, .sl (some true) [] .full, vi 0, .sl (some true) [] .full, vi 0, vi 0, .sl (some true) [] .full, vi 0, .sl (some true) [] .full], Ob.box [vi 13, vi 1, vi 0, vi 0, vi 0, vi 0, vb false, vi 0, vi 0, vi 0, vi 0, .sl (some true) [] .full, .sl (some true) [] .full, vi 0, vi 0, vi 0, .sl (some true) [] .full, vi 0, .sl (some true) [] .full, vi 0, vi 0, .sl (some true) [] .full, vi 0, .sl (some true) [] .full]] K := by
  refine DoesK.of_body (rvs := []) Tryz.func51 rfl rfl rfl rfl ?_
  refine AWP.seq ?_
  refine AWP.region ?_
  refine n_box rfl nrWdA0 rfl rfl nrWdA0 nrWdA0 ?_
  refine AOps.nil ?_
  refine AWP.seq ?_
  refine AWP.region ?_
  refine n_move rfl nrWdA0 ?_
  refine n_load rfl ti63 nrWdA0 nrWdA0 rfl nrWdA0 ?_
  refine op_callK (dst := some 6) rfl cf52 rfl (Eq.trans (by simp only [nl] <;> rfl) nrWdA0) (h_pos _ ?_)
  refine n_nilCheck rfl nrWdA0 rfl ?_
  refine n_fieldAddr rfl fd33_3 ti2 rfl nrWdA0 rfl nrWdA0 ?_
  refine n_store ti2 nrWdA0 rfl nrWdA0 rfl nrWdA0 rfl rfl rfl nrWdA0 ?_
  refine AOps.nil ?_
  refine AWP.seq ?_
  refine AWP.region ?_
  refine n_move rfl nrWdA0 ?_
  refine n_nilCheck rfl nrWdA0 rfl ?_
  refine n_fieldAddr rfl fd33_0 ti3 rfl nrWdA0 rfl nrWdA0 ?_
  refine n_load rfl ti3 nrWdA0 nrWdA0 rfl nrWdA0 ?_
  refine AOps.nil ?_
  refine AWP.block ?_
  refine AWP.seq ?_
  refine AWP.region ?_
  refine n_ibin rfl nrWdA0 nrWdA0 rfl ?_
  refine n_assign rfl nrWdA0 ?_
  refine AOps.nil ?_
  refine AWP.cond_false nrWdA0 ?_
  refine AWP.seq ?_
  refine AWP.region ?_
  refine n_ibin rfl nrWdA0 nrWdA0 rfl ?_
  refine n_assign rfl nrWdA0 ?_
  refine AOps.nil ?_
  refine AWP.cond_false nrWdA0 ?_
  refine AWP.seq ?_
  refine AWP.region ?_
  refine n_ibin rfl nrWdA0 nrWdA0 rfl ?_
  refine n_assign rfl nrWdA0 ?_
  refine AOps.nil ?_
  refine AWP.cond_false nrWdA0 ?_
  refine AWP.seq ?_
  refine AWP.region ?_
  refine n_ibin rfl nrWdA0 nrWdA0 rfl ?_
  refine n_assign rfl nrWdA0 ?_
  refine AOps.nil ?_
  refine AWP.cond_false nrWdA0 ?_
  refine AWP.seq ?_
  refine AWP.region ?_
  refine n_ibin rfl nrWdA0 nrWdA0 rfl ?_
  refine n_assign rfl nrWdA0 ?_
  refine AOps.nil ?_
  refine AWP.cond_false nrWdA0 ?_
  refine AWP.seq ?_
  refine AWP.region ?_
  refine n_ibin rfl nrWdA0 nrWdA0 rfl ?_
  refine n_assign rfl nrWdA0 ?_
  refine AOps.nil ?_
  refine AWP.cond_false nrWdA0 ?_
  refine AWP.seq ?_
  refine AWP.region ?_
  refine n_ibin rfl nrWdA0 nrWdA0 rfl ?_
  refine n_assign rfl nrWdA0 ?_
  refine AOps.nil ?_
  refine AWP.cond_false nrWdA0 ?_
  refine AWP.skip ?_
  refine finK_normal .nil nrWdA0 ?_
  exact hK

theorem h_message (K : D → List Ob → Prop) (hK : K (.agg [vi 13, vi 1, vi 0, vi 3, vi 0, vi 0, vb false, vi 0, vi 0, vi 0, vi 0, .sl (some true) [] .full, .sl (some true) [] .full, vi 0, vi 0, vi 0, .sl (some true) [] .full, vi 0, .sl (some true) [] .full, vi 0, vi 0, .sl (some true) [] .full, vi 0, .sl (some true) [] .full]) [Ob.box [vi 0, vi 0, vi 0, vi 0, vi 0, vi 0, vb false, vi 0, vi 0, vi 0, vi 0, .sl (some true) [] .full, .sl (some true) [] .full, vi 0, vi 0, vi 0, .sl (some true) [] .full, vi 0, .sl (some true) [] .full, vi 0, vi 0, .sl (some true) [] .full, vi 0, .sl (some true) [] .full], Ob.box (Up.z ⟨[], 0⟩), Ob.box [.bp 1 0], Ob.box [.bp 1 0], Ob.box [vi 13, vi 1, vi 0, vi 3, vi 0, vi 0, vb false, vi 0, vi 0, vi 0, vi 0, .sl (some true) [] .full, .sl (some true) [] .full, vi 0, vi 0, vi 0, .sl (some true) [] .full, vi 0, .sl (some true) [] .full, vi 0, vi 0, .sl (some true) [] .full, vi 0, .sl (some true) [] .full], Ob.box [vi 13, vi 1, vi 0, vi 3, vi 0, vi 0, vb false, vi 0, vi 0, vi 0, vi 0, .sl (some true) [] .full, .sl (some true) [] .full, vi 0, vi 0, vi 0, .sl (some true) [] .full, vi 0, .sl (some true) [] .full, vi 0, vi 0, .sl (some true) [] .full, vi 0, .sl (some true) [] .full], Ob.box [.bp 1 0], Ob.box [.bp 1 0]]) : DoesK Tryz.prog 21 [.agg [.bp 1 0]] [Ob.box [vi 0, vi 0, vi 0, vi 0, vi 0, vi 0, vb false, vi 0, vi 0, vi 0, vi 0, .sl (some true) [] .full, .sl (some true) [] .full, vi 0, vi 0, vi 0, .sl (some true) [] .full, vi 0, .sl (some true) [] .full, vi 0, vi 0, .sl (some true) [] .full, vi 0, .sl (some true) [] .full], Ob.box (Up.z ⟨[26, 2, 6], 0⟩), Ob.box [.bp 1 0]] K := by
  refine DoesK.of_body (rvs := [.cell 2 33]) Tryz.func21 rfl rfl rfl rfl ?_
  have h1 := u_int [26, 2, 6] 0 1 20 (fun x h => by simp at h; rcases h with rfl | rfl | rfl <;> decide) (by simp [L40])
  rw [hello_1] at h1
  dsimp only at h1
  have h2 := u_int [2, 6] 0 0 1 (fun x h => by simp at h; rcases h with rfl | rfl <;> decide) (by simp [L40])
  rw [hello_2] at h2
  dsimp only at h2
  refine AWP.seq ?_
  refine AWP.region ?_
  refine n_box rfl nrWdA0 rfl rfl nrWdA0 nrWdA0 ?_
  refine n_alloc rfl zi33 rfl nrWdA0 nrWdA0 ?_
  refine AOps.nil ?_
  refine AWP.seq ?_
  refine AWP.region ?_
  refine n_fieldAddr rfl fd63_0 ti60 rfl nrWdA0 rfl nrWdA0 ?_
  refine n_load rfl ti60 nrWdA0 nrWdA0 rfl nrWdA0 ?_
  refine n_callBoxB rfl cf50 rfl (Eq.trans (by simp only [nl] <;> rfl) nrWdA0) (by repeat (first | exact .nil | refine .cons ?_ ?_ | exact ren_ints | exact .lf (.val _) | exact .lf (lf_ints (.inl rfl)) | exact .bp ⟨rfl, rfl⟩ | exact .bp (.inl ⟨rfl, rfl⟩) | exact .bp (.inr ⟨rfl, rfl⟩) | exact .lf (wz_lf _) | exact .agg rfl (RenAll.get (by repeat (first | exact .nil | refine .cons ?_ ?_ | exact .lf (.val _) | exact ren_map (f := q1) (fun _ => rfl) | exact ren_map (f := q2) (fun _ => rfl) | exact ren_map (f := q4) (fun _ => rfl) | exact ren_mapG qt_lf | exact .ro (fun x h => by cases h) | exact ren_ints))) | exact .lf (txz_lf _) | exact ren_mapG qt_lf | exact .lf lf_fnz | exact .lf (.agg (qt_lf _)) | exact .lf lf_fnz | exact ren_map (f := q1) (fun _ => rfl) | exact ren_map (f := q2) (fun _ => rfl) | exact ren_map (f := q4) (fun _ => rfl) | exact .lf (D.flat_lf rfl) | exact ren_lits rfl | exact ren_ints)) (by rfl) (by repeat (first | exact .nil | refine .cons ?_ ?_ | exact ren_ints | exact .lf (.val _) | exact .lf (lf_ints (.inl rfl)) | exact .bp ⟨rfl, rfl⟩ | exact .bp (.inl ⟨rfl, rfl⟩) | exact .bp (.inr ⟨rfl, rfl⟩) | exact .lf (wz_lf _) | exact .agg rfl (RenAll.get (by repeat (first | exact .nil | refine .cons ?_ ?_ | exact .lf (.val _) | exact ren_map (f := q1) (fun _ => rfl) | exact ren_map (f := q2) (fun _ => rfl) | exact ren_map (f := q4) (fun _ => rfl) | exact ren_mapG qt_lf | exact .ro (fun x h => by cases h) | exact ren_ints))) | exact .lf (txz_lf _) | exact ren_mapG qt_lf | exact .lf lf_fnz | exact .lf (.agg (qt_lf _)) | exact .lf lf_fnz | exact ren_map (f := q1) (fun _ => rfl) | exact ren_map (f := q2) (fun _ => rfl) | exact ren_map (f := q4) (fun _ => rfl) | exact .lf (D.flat_lf rfl) | exact ren_lits rfl | exact ren_ints)) (h1) (by repeat (first | exact lf_nil | refine lf_cons ?_ ?_ | exact .val _ | exact lf_ints (.inl rfl))) lfWdA0 nrWdA0 ?_
  refine n_build rfl si33 (Eq.trans (by simp only [nl] <;> rfl) nrWdA0) (Eq.trans (by simp only [nl] <;> rfl) nrWdA0) rfl ?_
  refine n_alloc rfl zi33 rfl nrWdA0 nrWdA0 ?_
  refine n_store ti33 nrWdA0 rfl nrWdA0 rfl nrWdA0 rfl rfl rfl nrWdA0 ?_
  refine AOps.nil ?_
  refine AWP.seq ?_
  refine AWP.region ?_
  refine n_fieldAddr rfl fd63_0 ti60 rfl nrWdA0 rfl nrWdA0 ?_
  refine n_load rfl ti60 nrWdA0 nrWdA0 rfl nrWdA0 ?_
  refine n_callBoxB rfl cf50 rfl (Eq.trans (by simp only [nl] <;> rfl) nrWdA0) (by repeat (first | exact .nil | refine .cons ?_ ?_ | exact ren_ints | exact .lf (.val _) | exact .lf (lf_ints (.inl rfl)) | exact .bp ⟨rfl, rfl⟩ | exact .bp (.inl ⟨rfl, rfl⟩) | exact .bp (.inr ⟨rfl, rfl⟩) | exact .lf (wz_lf _) | exact .agg rfl (RenAll.get (by repeat (first | exact .nil | refine .cons ?_ ?_ | exact .lf (.val _) | exact ren_map (f := q1) (fun _ => rfl) | exact ren_map (f := q2) (fun _ => rfl) | exact ren_map (f := q4) (fun _ => rfl) | exact ren_mapG qt_lf | exact .ro (fun x h => by cases h) | exact ren_ints))) | exact .lf (txz_lf _) | exact ren_mapG qt_lf | exact .lf lf_fnz | exact .lf (.agg (qt_lf _)) | exact .lf lf_fnz | exact ren_map (f := q1) (fun _ => rfl) | exact ren_map (f := q2) (fun _ => rfl) | exact ren_map (f := q4) (fun _ => rfl) | exact .lf (D.flat_lf rfl) | exact ren_lits rfl | exact ren_ints)) (by rfl) (by repeat (first | exact .nil | refine .cons ?_ ?_ | exact ren_ints | exact .lf (.val _) | exact .lf (lf_ints (.inl rfl)) | exact .bp ⟨rfl, rfl⟩ | exact .bp (.inl ⟨rfl, rfl⟩) | exact .bp (.inr ⟨rfl, rfl⟩) | exact .lf (wz_lf _) | exact .agg rfl (RenAll.get (by repeat (first | exact .nil | refine .cons ?_ ?_ | exact .lf (.val _) | exact ren_map (f := q1) (fun _ => rfl) | exact ren_map (f := q2) (fun _ => rfl) | exact ren_map (f := q4) (fun _ => rfl) | exact ren_mapG qt_lf | exact .ro (fun x h => by cases h) | exact ren_ints))) | exact .lf (txz_lf _) | exact ren_mapG qt_lf | exact .lf lf_fnz | exact .lf (.agg (qt_lf _)) | exact .lf lf_fnz | exact ren_map (f := q1) (fun _ => rfl) | exact ren_map (f := q2) (fun _ => rfl) | exact ren_map (f := q4) (fun _ => rfl) | exact .lf (D.flat_lf rfl) | exact ren_lits rfl | exact ren_ints)) (h2) (by repeat (first | exact lf_nil | refine lf_cons ?_ ?_ | exact .val _ | exact lf_ints (.inl rfl))) lfWdA0 nrWdA0 ?_
  refine n_fieldAddr rfl fd33_1 ti3 rfl nrWdA0 rfl nrWdA0 ?_
  refine n_store ti3 nrWdA0 rfl nrWdA0 rfl nrWdA0 rfl rfl rfl nrWdA0 ?_
  refine AOps.nil ?_
  refine AWP.seq ?_
  refine AWP.seq ?_
  refine AWP.region ?_
  refine n_fieldAddr rfl fd33_0 ti3 rfl nrWdA0 rfl nrWdA0 ?_
  refine n_load rfl ti3 nrWdA0 nrWdA0 rfl nrWdA0 ?_
  refine n_ibin rfl nrWdA0 nrWdA0 rfl ?_
  refine AOps.nil ?_
  refine AWP.cond_true nrWdA0 ?_
  refine AWP.seq ?_
  refine AWP.region ?_
  refine n_load rfl ti63 nrWdA0 nrWdA0 rfl nrWdA0 ?_
  refine op_callK (dst := some 16) rfl cf51 rfl (Eq.trans (by simp only [nl] <;> rfl) nrWdA0) (h_rregional _ ?_)
  refine AOps.nil ?_
  refine AWP.seq ?_
  refine AWP.region ?_
  refine n_load rfl ti33 nrWdA0 nrWdA0 rfl nrWdA0 ?_
  refine n_store ti33 nrWdA0 rfl nrWdA0 rfl nrWdA0 rfl rfl rfl nrWdA0 ?_
  refine AOps.nil ?_
  refine AWP.ret ?_
  refine finK_ret (.cons (rv_cell ti33 nrWdA0 nrWdA0 rfl nrWdA0) .nil) nrWdA0 ?_
  exact hK

set_option maxHeartbeats 1000000 in
theorem h_parse : Does Tryz.prog 7 [bys [26, 2, 6]] [] (.tup [.agg (wz h0), vi 0]) [] := by
  refine Does.of_body (rvs := [.cell 2 33, .tmp 3]) Tryz.func7 rfl rfl rfl rfl ?_
  have ho := u_open [26, 2, 6] (by simp [L40])
  have hc := u_close [] 0
  rw [hello_c] at hc
  refine AWP.seq ?_
  refine AWP.region ?_
  refine n_alloc rfl zi33 rfl nrWdA0 nrWdA0 ?_
  refine n_assign rfl nrWdA0 ?_
  refine AOps.nil ?_
  refine AWP.seq ?_
  refine AWP.seq ?_
  refine AWP.region ?_
  refine n_move rfl nrWdA0 ?_
  refine n_len rfl Tryz.underlying31 nrWdA0 (by first | rw [ints_length] | rw [List.length_map] | rfl) ?_
  refine n_ibin rfl nrWdA0 nrWdA0 rfl ?_
  refine AOps.nil ?_
  refine AWP.cond_false nrWdA0 ?_
  refine AWP.skip ?_
  refine AWP.seq ?_
  refine AWP.region ?_
  refine n_move rfl nrWdA0 ?_
  refine n_callNewB rfl cf20 rfl (Eq.trans (by simp only [nl] <;> rfl) nrWdA0) (by repeat (first | exact .nil | refine .cons ?_ ?_ | exact ren_ints | exact .lf (.val _) | exact .lf (lf_ints (.inl rfl)) | exact .bp ⟨rfl, rfl⟩ | exact .bp (.inl ⟨rfl, rfl⟩) | exact .bp (.inr ⟨rfl, rfl⟩) | exact .lf (wz_lf _) | exact .agg rfl (RenAll.get (by repeat (first | exact .nil | refine .cons ?_ ?_ | exact .lf (.val _) | exact ren_map (f := q1) (fun _ => rfl) | exact ren_map (f := q2) (fun _ => rfl) | exact ren_map (f := q4) (fun _ => rfl) | exact ren_mapG qt_lf | exact .ro (fun x h => by cases h) | exact ren_ints))) | exact .lf (txz_lf _) | exact ren_mapG qt_lf | exact .lf lf_fnz | exact .lf (.agg (qt_lf _)) | exact .lf lf_fnz | exact ren_map (f := q1) (fun _ => rfl) | exact ren_map (f := q2) (fun _ => rfl) | exact ren_map (f := q4) (fun _ => rfl) | exact .lf (D.flat_lf rfl) | exact ren_lits rfl | exact ren_ints)) (ho) (by repeat (first | exact lf_nil | refine lf_cons ?_ ?_ | exact .val _ | exact lf_ints (.inl rfl))) rfl nrWdA0 ?_
  refine n_build rfl si63 (Eq.trans (by simp only [nl] <;> rfl) nrWdA0) (Eq.trans (by simp only [nl] <;> rfl) nrWdA0) rfl ?_
  refine n_alloc rfl zi63 rfl nrWdA0 nrWdA0 ?_
  refine n_store ti63 nrWdA0 rfl nrWdA0 rfl nrWdA0 rfl rfl rfl nrWdA0 ?_
  refine AOps.nil ?_
  refine AWP.seq ?_
  refine AWP.region ?_
  refine n_load rfl ti63 nrWdA0 nrWdA0 rfl nrWdA0 ?_
  refine op_callK (dst := some 16) rfl cf21 rfl (Eq.trans (by simp only [nl] <;> rfl) nrWdA0) (h_message _ ?_)
  refine n_alloc rfl zi33 rfl nrWdA0 nrWdA0 ?_
  refine n_store ti33 nrWdA0 rfl nrWdA0 rfl nrWdA0 rfl rfl rfl nrWdA0 ?_
  refine AOps.nil ?_
  refine AWP.seq ?_
  refine AWP.seq ?_
  refine AWP.region ?_
  refine n_fieldAddr rfl fd63_0 ti60 rfl nrWdA0 rfl nrWdA0 ?_
  refine n_load rfl ti60 nrWdA0 nrWdA0 rfl nrWdA0 ?_
  refine n_callBoxB rfl cf22 rfl (Eq.trans (by simp only [nl] <;> rfl) nrWdA0) (by repeat (first | exact .nil | refine .cons ?_ ?_ | exact ren_ints | exact .lf (.val _) | exact .lf (lf_ints (.inl rfl)) | exact .bp ⟨rfl, rfl⟩ | exact .bp (.inl ⟨rfl, rfl⟩) | exact .bp (.inr ⟨rfl, rfl⟩) | exact .lf (wz_lf _) | exact .agg rfl (RenAll.get (by repeat (first | exact .nil | refine .cons ?_ ?_ | exact .lf (.val _) | exact ren_map (f := q1) (fun _ => rfl) | exact ren_map (f := q2) (fun _ => rfl) | exact ren_map (f := q4) (fun _ => rfl) | exact ren_mapG qt_lf | exact .ro (fun x h => by cases h) | exact ren_ints))) | exact .lf (txz_lf _) | exact ren_mapG qt_lf | exact .lf lf_fnz | exact .lf (.agg (qt_lf _)) | exact .lf lf_fnz | exact ren_map (f := q1) (fun _ => rfl) | exact ren_map (f := q2) (fun _ => rfl) | exact ren_map (f := q4) (fun _ => rfl) | exact .lf (D.flat_lf rfl) | exact ren_lits rfl | exact ren_ints)) (by rfl) (by repeat (first | exact .nil | refine .cons ?_ ?_ | exact ren_ints | exact .lf (.val _) | exact .lf (lf_ints (.inl rfl)) | exact .bp ⟨rfl, rfl⟩ | exact .bp (.inl ⟨rfl, rfl⟩) | exact .bp (.inr ⟨rfl, rfl⟩) | exact .lf (wz_lf _) | exact .agg rfl (RenAll.get (by repeat (first | exact .nil | refine .cons ?_ ?_ | exact .lf (.val _) | exact ren_map (f := q1) (fun _ => rfl) | exact ren_map (f := q2) (fun _ => rfl) | exact ren_map (f := q4) (fun _ => rfl) | exact ren_mapG qt_lf | exact .ro (fun x h => by cases h) | exact ren_ints))) | exact .lf (txz_lf _) | exact ren_mapG qt_lf | exact .lf lf_fnz | exact .lf (.agg (qt_lf _)) | exact .lf lf_fnz | exact ren_map (f := q1) (fun _ => rfl) | exact ren_map (f := q2) (fun _ => rfl) | exact ren_map (f := q4) (fun _ => rfl) | exact .lf (D.flat_lf rfl) | exact ren_lits rfl | exact ren_ints)) (hc) (by repeat (first | exact lf_nil | refine lf_cons ?_ ?_ | exact .val _ | exact lf_ints (.inl rfl))) lfWdA0 nrWdA0 ?_
  refine n_assign rfl nrWdA0 ?_
  refine AOps.nil ?_
  refine AWP.seq ?_
  refine AWP.region ?_
  refine n_move rfl nrWdA0 ?_
  refine n_ibin rfl nrWdA0 nrWdA0 rfl ?_
  refine AOps.nil ?_
  refine AWP.cond_false nrWdA0 ?_
  refine AWP.skip ?_
  refine AWP.seq ?_
  refine AWP.seq ?_
  refine AWP.region ?_
  refine n_load rfl ti33 nrWdA0 nrWdA0 rfl nrWdA0 ?_
  refine n_call0B rfl cf12 rfl (Eq.trans (by simp only [nl] <;> rfl) nrWdA0) (by repeat (first | exact .nil | refine .cons ?_ ?_ | exact ren_ints | exact .lf (.val _) | exact .lf (lf_ints (.inl rfl)) | exact .bp ⟨rfl, rfl⟩ | exact .bp (.inl ⟨rfl, rfl⟩) | exact .bp (.inr ⟨rfl, rfl⟩) | exact .lf (wz_lf _) | exact .agg rfl (RenAll.get (by repeat (first | exact .nil | refine .cons ?_ ?_ | exact .lf (.val _) | exact ren_map (f := q1) (fun _ => rfl) | exact ren_map (f := q2) (fun _ => rfl) | exact ren_map (f := q4) (fun _ => rfl) | exact ren_mapG qt_lf | exact .ro (fun x h => by cases h) | exact ren_ints))) | exact .lf (txz_lf _) | exact ren_mapG qt_lf | exact .lf lf_fnz | exact .lf (.agg (qt_lf _)) | exact .lf lf_fnz | exact ren_map (f := q1) (fun _ => rfl) | exact ren_map (f := q2) (fun _ => rfl) | exact ren_map (f := q4) (fun _ => rfl) | exact .lf (D.flat_lf rfl) | exact ren_lits rfl | exact ren_ints)) (h_check) lfWdA0 ?_
  refine n_assign rfl nrWdA0 ?_
  refine AOps.nil ?_
  refine AWP.seq ?_
  refine AWP.region ?_
  refine n_move rfl nrWdA0 ?_
  refine n_ibin rfl nrWdA0 nrWdA0 rfl ?_
  refine AOps.nil ?_
  refine AWP.cond_false nrWdA0 ?_
  refine AWP.skip ?_
  refine AWP.seq ?_
  refine AWP.region ?_
  refine n_load rfl ti33 nrWdA0 nrWdA0 rfl nrWdA0 ?_
  refine n_store ti33 nrWdA0 rfl nrWdA0 rfl nrWdA0 rfl rfl rfl nrWdA0 ?_
  refine n_assign rfl nrWdA0 ?_
  refine AOps.nil ?_
  refine AWP.ret ?_
  refine fin_pure (d := .tup [.agg [vi 13, vi 1, vi 0, vi 3, vi 0, vi 0, vb false, vi 0, vi 0, vi 0, vi 0, .sl (some true) [] .full, .sl (some true) [] .full, vi 0, vi 0, vi 0, .sl (some true) [] .full, vi 0, .sl (some true) [] .full, vi 0, vi 0, .sl (some true) [] .full, vi 0, .sl (some true) [] .full], vi 0]) (.cons (rv_cell ti33 nrWdA0 nrWdA0 rfl nrWdA0) (.cons (rv_tmp nrWdA0) .nil)) nrWdA0 ?_
  exact .tup rfl (RenAll.get (.cons (.agg rfl (RenAll.get (by repeat (first | exact .nil | refine .cons ?_ ?_ | exact .lf (.val _) | exact ren_map (f := q1) (fun _ => rfl) | exact ren_map (f := q2) (fun _ => rfl) | exact ren_map (f := q4) (fun _ => rfl) | exact ren_mapG qt_lf | exact .ro (fun x h => by cases h) | exact ren_ints)))) (.cons (ren_flat rfl rfl) .nil)))

set_option maxHeartbeats 1000000 in
theorem h_begun : Does Tryz.prog 5 [] [] (vb true) [] := by
  refine Does.of_body (rvs := [.tmp 0]) Tryz.func5 rfl rfl rfl rfl ?_
  have hb := b_equal [26, 2, 6] [26, 2, 6] (fun x h => by simp at h; rcases h with rfl | rfl | rfl <;> decide) (fun x h => by simp at h; rcases h with rfl | rfl | rfl <;> decide)
  rw [decide_eq_true rfl] at hb
  have he := r_wr h0 h0 h0_sz h0_sz
  rw [sameW_self] at he
  refine AWP.seq ?_
  refine AWP.region ?_
  refine n_assign rfl nrWdA0 ?_
  refine AOps.nil ?_
  refine AWP.seq ?_
  refine AWP.region ?_
  refine n_build rfl si33 (Eq.trans (by simp only [nl] <;> rfl) nrWdA0) (Eq.trans (by simp only [nl] <;> rfl) nrWdA0) rfl ?_
  refine n_alloc rfl zi33 rfl nrWdA0 nrWdA0 ?_
  refine n_store ti33 nrWdA0 rfl nrWdA0 rfl nrWdA0 rfl rfl rfl nrWdA0 ?_
  refine AOps.nil ?_
  refine AWP.seq ?_
  refine AWP.region ?_
  refine n_load rfl ti33 nrWdA0 nrWdA0 rfl nrWdA0 ?_
  refine n_call0B rfl cf6 rfl (Eq.trans (by simp only [nl] <;> rfl) nrWdA0) (by repeat (first | exact .nil | refine .cons ?_ ?_ | exact ren_ints | exact .lf (.val _) | exact .lf (lf_ints (.inl rfl)) | exact .bp ⟨rfl, rfl⟩ | exact .bp (.inl ⟨rfl, rfl⟩) | exact .bp (.inr ⟨rfl, rfl⟩) | exact .lf (wz_lf _) | exact .agg rfl (RenAll.get (by repeat (first | exact .nil | refine .cons ?_ ?_ | exact .lf (.val _) | exact ren_map (f := q1) (fun _ => rfl) | exact ren_map (f := q2) (fun _ => rfl) | exact ren_map (f := q4) (fun _ => rfl) | exact ren_mapG qt_lf | exact .ro (fun x h => by cases h) | exact ren_ints))) | exact .lf (txz_lf _) | exact ren_mapG qt_lf | exact .lf lf_fnz | exact .lf (.agg (qt_lf _)) | exact .lf lf_fnz | exact ren_map (f := q1) (fun _ => rfl) | exact ren_map (f := q2) (fun _ => rfl) | exact ren_map (f := q4) (fun _ => rfl) | exact .lf (D.flat_lf rfl) | exact ren_lits rfl | exact ren_ints)) (h_bytes) lfWdA0 ?_
  refine n_move rfl nrWdA0 ?_
  refine n_extract rfl nrWdA0 rfl ?_
  refine n_extract rfl nrWdA0 rfl ?_
  refine n_assign rfl nrWdA0 ?_
  refine n_assign rfl nrWdA0 ?_
  refine AOps.nil ?_
  refine AWP.seq ?_
  refine AWP.region ?_
  refine n_move rfl nrWdA0 ?_
  refine n_call0B rfl cf7 rfl (Eq.trans (by simp only [nl] <;> rfl) nrWdA0) (by repeat (first | exact .nil | refine .cons ?_ ?_ | exact ren_ints | exact .lf (.val _) | exact .lf (lf_ints (.inl rfl)) | exact .bp ⟨rfl, rfl⟩ | exact .bp (.inl ⟨rfl, rfl⟩) | exact .bp (.inr ⟨rfl, rfl⟩) | exact .lf (wz_lf _) | exact .agg rfl (RenAll.get (by repeat (first | exact .nil | refine .cons ?_ ?_ | exact .lf (.val _) | exact ren_map (f := q1) (fun _ => rfl) | exact ren_map (f := q2) (fun _ => rfl) | exact ren_map (f := q4) (fun _ => rfl) | exact ren_mapG qt_lf | exact .ro (fun x h => by cases h) | exact ren_ints))) | exact .lf (txz_lf _) | exact ren_mapG qt_lf | exact .lf lf_fnz | exact .lf (.agg (qt_lf _)) | exact .lf lf_fnz | exact ren_map (f := q1) (fun _ => rfl) | exact ren_map (f := q2) (fun _ => rfl) | exact ren_map (f := q4) (fun _ => rfl) | exact .lf (D.flat_lf rfl) | exact ren_lits rfl | exact ren_ints)) (h_parse) lfWdA0 ?_
  refine n_move rfl nrWdA0 ?_
  refine n_extract rfl nrWdA0 rfl ?_
  refine n_extract rfl nrWdA0 rfl ?_
  refine n_alloc rfl zi33 rfl nrWdA0 nrWdA0 ?_
  refine n_store ti33 nrWdA0 rfl nrWdA0 rfl nrWdA0 rfl rfl rfl nrWdA0 ?_
  refine n_assign rfl nrWdA0 ?_
  refine AOps.nil ?_
  refine AWP.seq ?_
  refine AWP.region ?_
  refine n_move rfl nrWdA0 ?_
  refine n_ibin rfl nrWdA0 nrWdA0 rfl ?_
  refine n_move rfl nrWdA0 ?_
  refine n_guard_yes rfl rfl rfl nrWdA0 rfl ?_
  refine n_move rfl nrWdA0 ?_
  refine n_guard_yes rfl rfl rfl nrWdA0 rfl ?_
  refine n_lit rfl Tryz.underlying31 ti5 zi5 rfl rfl (Eq.trans (by simp only [nl] <;> rfl) nrWdA0) rfl nrWdA0 ?_
  refine n_guard_yes rfl rfl rfl nrWdA0 rfl ?_
  refine n_call0B rfl cf9 rfl (Eq.trans (by simp only [nl] <;> rfl) nrWdA0) (by repeat (first | exact .nil | refine .cons ?_ ?_ | exact ren_ints | exact .lf (.val _) | exact .lf (lf_ints (.inl rfl)) | exact .bp ⟨rfl, rfl⟩ | exact .bp (.inl ⟨rfl, rfl⟩) | exact .bp (.inr ⟨rfl, rfl⟩) | exact .lf (wz_lf _) | exact .agg rfl (RenAll.get (by repeat (first | exact .nil | refine .cons ?_ ?_ | exact .lf (.val _) | exact ren_map (f := q1) (fun _ => rfl) | exact ren_map (f := q2) (fun _ => rfl) | exact ren_map (f := q4) (fun _ => rfl) | exact ren_mapG qt_lf | exact .ro (fun x h => by cases h) | exact ren_ints))) | exact .lf (txz_lf _) | exact ren_mapG qt_lf | exact .lf lf_fnz | exact .lf (.agg (qt_lf _)) | exact .lf lf_fnz | exact ren_map (f := q1) (fun _ => rfl) | exact ren_map (f := q2) (fun _ => rfl) | exact ren_map (f := q4) (fun _ => rfl) | exact .lf (D.flat_lf rfl) | exact ren_lits rfl | exact ren_ints)) (hb) lfWdA0 ?_
  refine n_pick rfl nrWdA0 nrWdA0 ?_
  refine n_move rfl nrWdA0 ?_
  refine n_guard_yes rfl rfl rfl nrWdA0 rfl ?_
  refine n_move rfl nrWdA0 ?_
  refine n_guard_yes rfl rfl rfl nrWdA0 rfl ?_
  refine n_ibin rfl nrWdA0 nrWdA0 rfl ?_
  refine n_pick rfl nrWdA0 nrWdA0 ?_
  refine n_move rfl nrWdA0 ?_
  refine n_guard_yes rfl rfl rfl nrWdA0 rfl ?_
  refine n_load rfl ti33 nrWdA0 nrWdA0 rfl nrWdA0 ?_
  refine n_guard_yes rfl rfl rfl nrWdA0 rfl ?_
  refine n_load rfl ti33 nrWdA0 nrWdA0 rfl nrWdA0 ?_
  refine n_guard_yes rfl rfl rfl nrWdA0 rfl ?_
  refine n_call0B rfl cf8 rfl (Eq.trans (by simp only [nl] <;> rfl) nrWdA0) (by repeat (first | exact .nil | refine .cons ?_ ?_ | exact ren_ints | exact .lf (.val _) | exact .lf (lf_ints (.inl rfl)) | exact .bp ⟨rfl, rfl⟩ | exact .bp (.inl ⟨rfl, rfl⟩) | exact .bp (.inr ⟨rfl, rfl⟩) | exact .lf (wz_lf _) | exact .agg rfl (RenAll.get (by repeat (first | exact .nil | refine .cons ?_ ?_ | exact .lf (.val _) | exact ren_map (f := q1) (fun _ => rfl) | exact ren_map (f := q2) (fun _ => rfl) | exact ren_map (f := q4) (fun _ => rfl) | exact ren_mapG qt_lf | exact .ro (fun x h => by cases h) | exact ren_ints))) | exact .lf (txz_lf _) | exact ren_mapG qt_lf | exact .lf lf_fnz | exact .lf (.agg (qt_lf _)) | exact .lf lf_fnz | exact ren_map (f := q1) (fun _ => rfl) | exact ren_map (f := q2) (fun _ => rfl) | exact ren_map (f := q4) (fun _ => rfl) | exact .lf (D.flat_lf rfl) | exact ren_lits rfl | exact ren_ints)) (he) lfWdA0 ?_
  refine n_pick rfl nrWdA0 nrWdA0 ?_
  refine n_assign rfl nrWdA0 ?_
  refine AOps.nil ?_
  refine AWP.ret ?_
  refine fin_pure (.cons (rv_tmp nrWdA0) .nil) nrWdA0 ?_
  exact ren_flat rfl rfl

end Go.Proofs.YtanfmpkjcoolmaaGreat.Wd
