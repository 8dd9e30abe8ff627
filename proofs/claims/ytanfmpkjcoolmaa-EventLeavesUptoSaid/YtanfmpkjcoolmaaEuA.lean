/- Laws of loops over events. -/
import Derived.Test.YtanfmpkjcoolmaaEzA
import Derived.KernelRfl
set_option linter.unusedVariables false
set_option linter.unusedSimpArgs false
namespace Go.Proofs.Ytanfmpkjcoolmaa.Eu
open Go Go.Abs Go.Proofs.Ytanfmpkjcoolmaa.Pk
attribute [local irreducible] AWP AOps Does

theorem cf37 : CF Try.prog 37 := ⟨_, Try.func37, by kernel_rfl, by kernel_rfl⟩
theorem cf79 : CF Try.prog 79 := ⟨_, Try.func79, by kernel_rfl, by kernel_rfl⟩
theorem cf80 : CF Try.prog 80 := ⟨_, Try.func80, by kernel_rfl, by kernel_rfl⟩
theorem cf81 : CF Try.prog 81 := ⟨_, Try.func81, by kernel_rfl, by kernel_rfl⟩
theorem cf82 : CF Try.prog 82 := ⟨_, Try.func82, by kernel_rfl, by kernel_rfl⟩
theorem ti24 : TI Try.prog 24 2 true := ⟨by kernel_rfl, by kernel_rfl⟩

attribute [local irreducible] Up.int Up.str Up.close Up.rest Up.clr Up.spoil Up.w Up.flag
theorem Leaves_calls (l : List Ev) (n : Int) (hn : l.length ≤ 1048576) (h0 : 0 ≤ n ∧ n ≤ 255) : Does Try.prog 10 [(.sl none (l.map Ev.z) .ro), .val (.int .u8 n)] [] (vb true) [] := by
  refine Does.of_body (rvs := [.tmp 4]) Try.func10 rfl rfl rfl rfl ?_
  obtain ⟨m, rfl⟩ : ∃ m : Nat, n = (m : Int) := ⟨n.toNat, by omega⟩
  have hrl : (recs l).length ≤ 1048576 := Nat.le_trans (recs_len l) hn
  have ht := Ez.told _ _ (recs l) ⟨_, Try.func195, by kernel_rfl, by kernel_rfl⟩ (Ez.recs_it l hn) (lf_rp1 (f := Ev.z) (fun _ => rfl)) hrl
  have hf := Ez.few _ _ (recs l) ⟨_, Try.func195, by kernel_rfl, by kernel_rfl⟩ (Ez.recs_it l hn) (lf_rp1 (f := Ev.z) (fun _ => rfl)) hrl m
  have hq := Ez.eq_rec ((recs l).take m) (by rw [List.length_take]; omega)
  refine AWP.seq ?_
  refine AWP.region ?_
  refine n_assign rfl (by first | (simp only [nf, Nat.beq] <;> rfl) | rfl) ?_
  refine AOps.nil ?_
  refine AWP.seq ?_
  refine AWP.seq ?_
  refine AWP.region ?_
  refine n_call0B rfl cf37 rfl (Eq.trans (by simp only [nl] <;> rfl) (by first | (simp only [nf, Nat.beq] <;> rfl) | rfl)) (by repeat (first | exact .nil | refine .cons ?_ ?_ | exact ren_ints | exact .lf (.val _) | exact .lf (lf_ints (.inl rfl)) | exact .bp ⟨rfl, rfl⟩ | exact .bp (.inl ⟨rfl, rfl⟩) | exact .bp (.inr ⟨rfl, rfl⟩) | exact .lf (D.flat_lf rfl) | exact ren_lits rfl | exact ren_ints | exact ren_map (f := Ev.z) (fun _ => rfl) | exact ren_map (f := rz) (fun _ => rfl) | exact .lf (lf_fnrp (lf_rp1 (f := Ev.z) (fun _ => rfl))) | exact .lf (lf_fnrp hcs))) (Ev.begun) (by first | exact .val _ | exact lf_ints (.inl rfl) | exact lf_ints (.inr rfl) | exact .any | exact D.flat_lf rfl | exact .tup (lf_cons (lf_ints (.inl rfl)) (lf_cons (.val _) lf_nil)) | exact lf_fnrp (lf_rp1 (f := Ev.z) (fun _ => rfl)) | exact lf_map (f := rz) (fun _ => rfl) (.inl rfl) | exact lf_map (f := Ev.z) (fun _ => rfl) (.inl rfl)) ?_
  refine n_not rfl (by first | (simp only [nf, Nat.beq] <;> rfl) | rfl) rfl ?_
  refine AOps.nil ?_
  refine AWP.cond_false (by first | (simp only [nf, Nat.beq] <;> rfl) | rfl) ?_
  refine AWP.skip ?_
  refine AWP.seq ?_
  refine AWP.region ?_
  refine n_move rfl (by first | (simp only [nf, Nat.beq] <;> rfl) | rfl) ?_
  refine n_call0B rfl cf80 rfl (Eq.trans (by simp only [nl] <;> rfl) (by first | (simp only [nf, Nat.beq] <;> rfl) | rfl)) (by repeat (first | exact .nil | refine .cons ?_ ?_ | exact ren_ints | exact .lf (.val _) | exact .lf (lf_ints (.inl rfl)) | exact .bp ⟨rfl, rfl⟩ | exact .bp (.inl ⟨rfl, rfl⟩) | exact .bp (.inr ⟨rfl, rfl⟩) | exact .lf (D.flat_lf rfl) | exact ren_lits rfl | exact ren_ints | exact ren_map (f := Ev.z) (fun _ => rfl) | exact ren_map (f := rz) (fun _ => rfl) | exact .lf (lf_fnrp (lf_rp1 (f := Ev.z) (fun _ => rfl))) | exact .lf (lf_fnrp hcs))) (Ez.l_records _ (by omega)) (by first | exact .val _ | exact lf_ints (.inl rfl) | exact lf_ints (.inr rfl) | exact .any | exact D.flat_lf rfl | exact .tup (lf_cons (lf_ints (.inl rfl)) (lf_cons (.val _) lf_nil)) | exact lf_fnrp (lf_rp1 (f := Ev.z) (fun _ => rfl)) | exact lf_map (f := rz) (fun _ => rfl) (.inl rfl) | exact lf_map (f := Ev.z) (fun _ => rfl) (.inl rfl)) ?_
  refine n_call0B rfl cf79 rfl (Eq.trans (by simp only [nl] <;> rfl) (by first | (simp only [nf, Nat.beq] <;> rfl) | rfl)) (by repeat (first | exact .nil | refine .cons ?_ ?_ | exact ren_ints | exact .lf (.val _) | exact .lf (lf_ints (.inl rfl)) | exact .bp ⟨rfl, rfl⟩ | exact .bp (.inl ⟨rfl, rfl⟩) | exact .bp (.inr ⟨rfl, rfl⟩) | exact .lf (D.flat_lf rfl) | exact ren_lits rfl | exact ren_ints | exact ren_map (f := Ev.z) (fun _ => rfl) | exact ren_map (f := rz) (fun _ => rfl) | exact .lf (lf_fnrp (lf_rp1 (f := Ev.z) (fun _ => rfl))) | exact .lf (lf_fnrp hcs))) (ht) (by first | exact .val _ | exact lf_ints (.inl rfl) | exact lf_ints (.inr rfl) | exact .any | exact D.flat_lf rfl | exact .tup (lf_cons (lf_ints (.inl rfl)) (lf_cons (.val _) lf_nil)) | exact lf_fnrp (lf_rp1 (f := Ev.z) (fun _ => rfl)) | exact lf_map (f := rz) (fun _ => rfl) (.inl rfl) | exact lf_map (f := Ev.z) (fun _ => rfl) (.inl rfl)) ?_
  refine n_assign rfl (by first | (simp only [nf, Nat.beq] <;> rfl) | rfl) ?_
  refine AOps.nil ?_
  refine AWP.seq ?_
  refine AWP.region ?_
  refine n_move rfl (by first | (simp only [nf, Nat.beq] <;> rfl) | rfl) ?_
  refine n_call0B rfl cf80 rfl (Eq.trans (by simp only [nl] <;> rfl) (by first | (simp only [nf, Nat.beq] <;> rfl) | rfl)) (by repeat (first | exact .nil | refine .cons ?_ ?_ | exact ren_ints | exact .lf (.val _) | exact .lf (lf_ints (.inl rfl)) | exact .bp ⟨rfl, rfl⟩ | exact .bp (.inl ⟨rfl, rfl⟩) | exact .bp (.inr ⟨rfl, rfl⟩) | exact .lf (D.flat_lf rfl) | exact ren_lits rfl | exact ren_ints | exact ren_map (f := Ev.z) (fun _ => rfl) | exact ren_map (f := rz) (fun _ => rfl) | exact .lf (lf_fnrp (lf_rp1 (f := Ev.z) (fun _ => rfl))) | exact .lf (lf_fnrp hcs))) (Ez.l_records _ (by omega)) (by first | exact .val _ | exact lf_ints (.inl rfl) | exact lf_ints (.inr rfl) | exact .any | exact D.flat_lf rfl | exact .tup (lf_cons (lf_ints (.inl rfl)) (lf_cons (.val _) lf_nil)) | exact lf_fnrp (lf_rp1 (f := Ev.z) (fun _ => rfl)) | exact lf_map (f := rz) (fun _ => rfl) (.inl rfl) | exact lf_map (f := Ev.z) (fun _ => rfl) (.inl rfl)) ?_
  refine n_move rfl (by first | (simp only [nf, Nat.beq] <;> rfl) | rfl) ?_
  first | refine n_conv rfl (by first | (simp only [nf, Nat.beq] <;> rfl) | rfl) (by rw [Try.underlying5]; rfl) Try.underlying3 (wrap_id (by first | omega | (simp only [loK]; omega)) (by first | omega | (simp only [hiK]; omega))) ?_ | refine n_conv rfl (by first | (simp only [nf, Nat.beq] <;> rfl) | rfl) (by rw [Try.underlying5]; rfl) Try.underlying3 rfl ?_
  refine n_call0B rfl cf81 rfl (Eq.trans (by simp only [nl] <;> rfl) (by first | (simp only [nf, Nat.beq] <;> rfl) | rfl)) (by repeat (first | exact .nil | refine .cons ?_ ?_ | exact ren_ints | exact .lf (.val _) | exact .lf (lf_ints (.inl rfl)) | exact .bp ⟨rfl, rfl⟩ | exact .bp (.inl ⟨rfl, rfl⟩) | exact .bp (.inr ⟨rfl, rfl⟩) | exact .lf (D.flat_lf rfl) | exact ren_lits rfl | exact ren_ints | exact ren_map (f := Ev.z) (fun _ => rfl) | exact ren_map (f := rz) (fun _ => rfl) | exact .lf (lf_fnrp (lf_rp1 (f := Ev.z) (fun _ => rfl))) | exact .lf (lf_fnrp hcs))) (hf) (by first | exact .val _ | exact lf_ints (.inl rfl) | exact lf_ints (.inr rfl) | exact .any | exact D.flat_lf rfl | exact .tup (lf_cons (lf_ints (.inl rfl)) (lf_cons (.val _) lf_nil)) | exact lf_fnrp (lf_rp1 (f := Ev.z) (fun _ => rfl)) | exact lf_map (f := rz) (fun _ => rfl) (.inl rfl) | exact lf_map (f := Ev.z) (fun _ => rfl) (.inl rfl)) ?_
  refine n_assign rfl (by first | (simp only [nf, Nat.beq] <;> rfl) | rfl) ?_
  refine AOps.nil ?_
  refine AWP.seq ?_
  refine AWP.region ?_
  refine n_move rfl (by first | (simp only [nf, Nat.beq] <;> rfl) | rfl) ?_
  refine n_move rfl (by first | (simp only [nf, Nat.beq] <;> rfl) | rfl) ?_
  refine n_move rfl (by first | (simp only [nf, Nat.beq] <;> rfl) | rfl) ?_
  refine n_len rfl Try.underlying84 (by first | (simp only [nf, Nat.beq] <;> rfl) | rfl) (by first | rw [ints_length] | rw [List.length_map] | rfl) ?_
  refine n_move rfl (by first | (simp only [nf, Nat.beq] <;> rfl) | rfl) ?_
  first | refine n_conv rfl (by first | (simp only [nf, Nat.beq] <;> rfl) | rfl) (by rw [Try.underlying5]; rfl) Try.underlying3 (wrap_id (by first | omega | (simp only [loK]; omega)) (by first | omega | (simp only [hiK]; omega))) ?_ | refine n_conv rfl (by first | (simp only [nf, Nat.beq] <;> rfl) | rfl) (by rw [Try.underlying5]; rfl) Try.underlying3 rfl ?_
  refine n_min (T2 := #[]) rfl (by first | (simp only [nf, Nat.beq] <;> rfl) | rfl) (by first | (simp only [nf, Nat.beq] <;> rfl) | rfl) rfl ?_
  refine n_slice (h := min (recs l).length m) (ys := ((recs l).take m).map rz) rfl Try.underlying84 ti24 (by first | (simp only [nf, Nat.beq] <;> rfl) | rfl) (SB.some (by first | (simp only [nf, Nat.beq] <;> rfl) | rfl) (by omega)) SB.none (by omega) (by simp only [List.length_map]; omega) (by exact map_one (f := rz) (fun _ => rfl)) (by rw [List.drop_zero, ← List.map_take]; congr 1; rw [List.take_eq_take_iff]; omega) ?_
  refine n_call0B rfl cf82 rfl (Eq.trans (by simp only [nl] <;> rfl) (by first | (simp only [nf, Nat.beq] <;> rfl) | rfl)) (by repeat (first | exact .nil | refine .cons ?_ ?_ | exact ren_ints | exact .lf (.val _) | exact .lf (lf_ints (.inl rfl)) | exact .bp ⟨rfl, rfl⟩ | exact .bp (.inl ⟨rfl, rfl⟩) | exact .bp (.inr ⟨rfl, rfl⟩) | exact .lf (D.flat_lf rfl) | exact ren_lits rfl | exact ren_ints | exact ren_map (f := Ev.z) (fun _ => rfl) | exact ren_map (f := rz) (fun _ => rfl) | exact .lf (lf_fnrp (lf_rp1 (f := Ev.z) (fun _ => rfl))) | exact .lf (lf_fnrp hcs))) (hq) (by first | exact .val _ | exact lf_ints (.inl rfl) | exact lf_ints (.inr rfl) | exact .any | exact D.flat_lf rfl | exact .tup (lf_cons (lf_ints (.inl rfl)) (lf_cons (.val _) lf_nil)) | exact lf_fnrp (lf_rp1 (f := Ev.z) (fun _ => rfl)) | exact lf_map (f := rz) (fun _ => rfl) (.inl rfl) | exact lf_map (f := Ev.z) (fun _ => rfl) (.inl rfl)) ?_
  refine n_assign rfl (by first | (simp only [nf, Nat.beq] <;> rfl) | rfl) ?_
  refine AOps.nil ?_
  refine AWP.ret ?_
  refine fin_pure (.cons (rv_tmp (by first | (simp only [nf, Nat.beq] <;> rfl) | rfl)) .nil) (by first | (simp only [nf, Nat.beq] <;> rfl) | rfl) ?_
  first | exact ren_flat rfl rfl | exact ren_flat rfl (congrArg vb (by simp))

end Go.Proofs.Ytanfmpkjcoolmaa.Eu
