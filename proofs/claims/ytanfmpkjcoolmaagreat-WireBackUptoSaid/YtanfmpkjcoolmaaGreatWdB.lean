/- The hello message. -/
import Derived.Test.YtanfmpkjcoolmaaGreatPlainA
import Derived.Test.YtanfmpkjcoolmaaGreatWoB
import Derived.Test.YtanfmpkjcoolmaaGreatWmA
set_option linter.unusedVariables false
set_option linter.unusedSimpArgs false
namespace Go.Proofs.YtanfmpkjcoolmaaGreat.Wd
open Go Go.Abs Go.Proofs.YtanfmpkjcoolmaaGreat.Pk Wa Wb Wm Wo
attribute [local irreducible] AWP AOps Does

theorem n0WdB {α : Type} {a b : α} (h : a = b := by first|simp only[nf,Nat.beq]<;>rfl|rfl) : a = b := h
theorem e1WdB {α : Type} {a b : α} (h : a = b := by exact Eq.trans (by simp only [nl] <;> rfl) n0WdB) : a = b := h
theorem r2WdB {ρ σ : Nat → Nat → Prop} {a b : List D} (h : RenAll ρ σ a b := by repeat (first | exact .nil | refine .cons ?_ ?_ | exact ren_ints | exact .lf (.val _) | exact .lf (lf_ints (.inl rfl)) | exact .bp ⟨rfl, rfl⟩ | exact .bp (.inl ⟨rfl, rfl⟩) | exact .bp (.inr ⟨rfl, rfl⟩) | exact .agg rfl (RenAll.get (by repeat (first | exact .nil | refine .cons ?_ ?_ | exact .lf (.val _) | exact ren_map (f := q1) (fun _ => rfl) | exact ren_map (f := q2) (fun _ => rfl) | exact ren_map (f := q4) (fun _ => rfl) | exact ren_mapG qt_lf | exact .ro (fun x h => by cases h) | exact ren_ints))) | exact .lf (wz_lf _) | exact .agg rfl (RenAll.get (.cons (.bp ⟨rfl, rfl⟩) .nil)) | exact .agg rfl (RenAll.get (.cons (.bp (.inl ⟨rfl, rfl⟩)) .nil)) | exact .fn rfl rfl (RenAll.get (.cons (.agg rfl (RenAll.get (.cons (.bp ⟨rfl, rfl⟩) .nil))) .nil)) (RenAll.get .nil) | exact .lf (txz_lf _) | exact .lf (.agg (qt_lf _)) | exact ren_bys0 rfl | exact .lf lf_fnz | exact .lf (D.flat_lf rfl) | exact ren_lits rfl)) : RenAll ρ σ a b := h
theorem l3WdB {d : D} (h : LF d := by first | exact .val _ | exact lf_ints (.inl rfl) | exact lf_ints (.inr rfl) | exact .any | exact .tup (lf_cons (lf_ints (.inl rfl)) (lf_cons (.val _) lf_nil)) | exact .tup (lf_cons (wz_lf _) (lf_cons (.val _) lf_nil)) | exact txz_lf _ | exact .agg (qt_lf _) | exact lf_mapG qt_lf (.inl rfl) | exact lf_map (f := q1) (fun _ => rfl) (.inl rfl) | exact lf_map (f := q2) (fun _ => rfl) (.inl rfl) | exact lf_map (f := q4) (fun _ => rfl) (.inl rfl) | exact .tup (lf_cons (txz_lf _) (lf_cons (.val _) lf_nil)) | exact .tup (lf_cons (.agg (qt_lf _)) (lf_cons (.val _) lf_nil)) | exact .tup (lf_cons (.agg (lf_cons (.val _) (lf_cons (.val _) (lf_cons (.val _) (lf_cons (.val _) lf_nil))))) (lf_cons (.val _) lf_nil)) | exact .agg (lf_cons (.val _) (lf_cons (.val _) lf_nil)) | exact .agg (lf_cons (.val _) (lf_cons (.val _) (lf_cons (.val _) (lf_cons (.val _) lf_nil)))) | exact .tup lf_nil | exact D.flat_lf rfl) : LF d := h
theorem cf6 : CF Tryz.prog 6 := ⟨_, Tryz.func6, by kernel_rfl, by kernel_rfl⟩
theorem cf7 : CF Tryz.prog 7 := ⟨_, Tryz.func7, by kernel_rfl, by kernel_rfl⟩
theorem cf8 : CF Tryz.prog 8 := ⟨_, Tryz.func8, by kernel_rfl, by kernel_rfl⟩
theorem cf9 : CF Tryz.prog 9 := ⟨_, Tryz.func9, by kernel_rfl, by kernel_rfl⟩
theorem si33 : SI Tryz.prog 33 #[(0, 1), (1, 1), (2, 1), (3, 1), (4, 1), (5, 1), (6, 1), (7, 1), (8, 5), (13, 2), (15, 1), (16, 1), (17, 1), (18, 1), (19, 1), (20, 1), (21, 1), (22, 1), (23, 1)] (.agg #[.int .i64 0, .int .i64 0, .int .i64 0, .int .i64 0, .int .i64 0, .int .i64 0, .bool false, .int .i64 0, .int .i64 0, .int .i64 0, .int .i64 0, .slice none 0 0, .slice none 0 0, .int .i64 0, .int .i64 0, .int .i64 0, .slice none 0 0, .int .i64 0, .slice none 0 0, .int .i64 0, .int .i64 0, .slice none 0 0, .int .i64 0, .slice none 0 0]) := ⟨⟨_, Tryz.underlying33, fun w => by kernel_rfl⟩, by kernel_rfl⟩
theorem ti33 : TI Tryz.prog 33 24 true := ⟨by kernel_rfl, by kernel_rfl⟩
theorem ti5 : TI Tryz.prog 5 1 false := ⟨by kernel_rfl, by kernel_rfl⟩
theorem zi33 : (Tryz.prog.info? 33).map (·.zero) = some (some (.agg #[.int .i64 0, .int .i64 0, .int .i64 0, .int .i64 0, .int .i64 0, .int .i64 0, .bool false, .int .i64 0, .int .i64 0, .int .i64 0, .int .i64 0, .slice none 0 0, .slice none 0 0, .int .i64 0, .int .i64 0, .int .i64 0, .slice none 0 0, .int .i64 0, .slice none 0 0, .int .i64 0, .int .i64 0, .slice none 0 0, .int .i64 0, .slice none 0 0])) := by kernel_rfl
theorem zi5 : (Tryz.prog.info? 5).map (·.zero) = some (some (.int .u8 0)) := by kernel_rfl

set_option maxHeartbeats 1000000 in
theorem h_begun : Does Tryz.prog 5 [] [] (vb true) [] := by
 refine Does.of_body (rvs := [.tmp 0]) Tryz.func5 rfl rfl rfl rfl ?_
 have hB := Wm.l_bytes h0 h0_in
 rw [h0_byt] at hB
 have hP := Wo.l_parse [26, 2, 6] (fun x h => by simp at h; rcases h with rfl | rfl | rfl <;> decide) (by simp [L40])
 rw [h0_par] at hP
 dsimp only at hB hP
 have hb := b_equal [26, 2, 6] [26, 2, 6] (fun x h => by simp at h; rcases h with rfl | rfl | rfl <;> decide) (fun x h => by simp at h; rcases h with rfl | rfl | rfl <;> decide)
 rw [decide_eq_true rfl] at hb
 have he := r_wr h0 h0 h0_sz h0_sz
 rw [sameW_self] at he
 refine AWP.sr ?_
 refine n_assign rfl n0WdB ?_
 refine AOps.nil ?_
 refine AWP.sr ?_
 refine n_build rfl si33 e1WdB e1WdB rfl ?_
 refine n_alloc rfl zi33 rfl n0WdB n0WdB ?_
 refine n_store ti33 n0WdB rfl n0WdB rfl n0WdB rfl rfl rfl n0WdB ?_
 refine AOps.nil ?_
 refine AWP.sr ?_
 refine n_load rfl ti33 n0WdB n0WdB rfl n0WdB ?_
 refine n_call0B rfl cf6 rfl e1WdB r2WdB (hB) l3WdB ?_
 refine n_move rfl n0WdB ?_
 refine n_extract rfl n0WdB rfl ?_
 refine n_extract rfl n0WdB rfl ?_
 refine n_assign rfl n0WdB ?_
 refine n_assign rfl n0WdB ?_
 refine AOps.nil ?_
 refine AWP.sr ?_
 refine n_move rfl n0WdB ?_
 refine n_call0B rfl cf7 rfl e1WdB r2WdB (hP) l3WdB ?_
 refine n_move rfl n0WdB ?_
 refine n_extract rfl n0WdB rfl ?_
 refine n_extract rfl n0WdB rfl ?_
 refine n_alloc rfl zi33 rfl n0WdB n0WdB ?_
 refine n_store ti33 n0WdB rfl n0WdB rfl n0WdB rfl rfl rfl n0WdB ?_
 refine n_assign rfl n0WdB ?_
 refine AOps.nil ?_
 refine AWP.sr ?_
 refine n_move rfl n0WdB ?_
 refine n_ibin rfl n0WdB n0WdB rfl ?_
 refine n_move rfl n0WdB ?_
 refine n_guard_yes rfl rfl rfl n0WdB rfl ?_
 refine n_move rfl n0WdB ?_
 refine n_guard_yes rfl rfl rfl n0WdB rfl ?_
 refine n_lit rfl Tryz.underlying31 ti5 zi5 rfl rfl e1WdB rfl n0WdB ?_
 refine n_guard_yes rfl rfl rfl n0WdB rfl ?_
 refine n_call0B rfl cf9 rfl e1WdB r2WdB (hb) l3WdB ?_
 refine n_pick rfl n0WdB n0WdB ?_
 refine n_move rfl n0WdB ?_
 refine n_guard_yes rfl rfl rfl n0WdB rfl ?_
 refine n_move rfl n0WdB ?_
 refine n_guard_yes rfl rfl rfl n0WdB rfl ?_
 refine n_ibin rfl n0WdB n0WdB rfl ?_
 refine n_pick rfl n0WdB n0WdB ?_
 refine n_move rfl n0WdB ?_
 refine n_guard_yes rfl rfl rfl n0WdB rfl ?_
 refine n_load rfl ti33 n0WdB n0WdB rfl n0WdB ?_
 refine n_guard_yes rfl rfl rfl n0WdB rfl ?_
 refine n_load rfl ti33 n0WdB n0WdB rfl n0WdB ?_
 refine n_guard_yes rfl rfl rfl n0WdB rfl ?_
 refine n_call0B rfl cf8 rfl e1WdB r2WdB (he) l3WdB ?_
 refine n_pick rfl n0WdB n0WdB ?_
 refine n_assign rfl n0WdB ?_
 refine AOps.nil ?_
 refine AWP.ret ?_
 refine fin_pure (.cons (rv_tmp n0WdB) .nil) n0WdB ?_
 exact ren_flat rfl rfl

end Go.Proofs.YtanfmpkjcoolmaaGreat.Wd
