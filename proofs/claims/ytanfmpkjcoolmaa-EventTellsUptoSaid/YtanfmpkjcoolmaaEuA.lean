/- Laws of loops over events. -/
import Derived.Test.YtanfmpkjcoolmaaEzA
import Derived.KernelRfl
set_option linter.unusedVariables false
set_option linter.unusedSimpArgs false
namespace Go.Proofs.Ytanfmpkjcoolmaa.Eu
open Go Go.Abs Go.Proofs.Ytanfmpkjcoolmaa.Pk
attribute [local irreducible] AWP AOps Does

theorem cf101 : CF Try.prog 101 := ⟨_, Try.func101, by kernel_rfl, by kernel_rfl⟩
theorem cf102 : CF Try.prog 102 := ⟨_, Try.func102, by kernel_rfl, by kernel_rfl⟩
theorem cf116 : CF Try.prog 116 := ⟨_, Try.func116, by kernel_rfl, by kernel_rfl⟩
theorem cf117 : CF Try.prog 117 := ⟨_, Try.func117, by kernel_rfl, by kernel_rfl⟩
theorem cf118 : CF Try.prog 118 := ⟨_, Try.func118, by kernel_rfl, by kernel_rfl⟩
theorem cf119 : CF Try.prog 119 := ⟨_, Try.func119, by kernel_rfl, by kernel_rfl⟩
theorem cf120 : CF Try.prog 120 := ⟨_, Try.func120, by kernel_rfl, by kernel_rfl⟩
theorem cf37 : CF Try.prog 37 := ⟨_, Try.func37, by kernel_rfl, by kernel_rfl⟩
theorem cf79 : CF Try.prog 79 := ⟨_, Try.func79, by kernel_rfl, by kernel_rfl⟩
theorem cf80 : CF Try.prog 80 := ⟨_, Try.func80, by kernel_rfl, by kernel_rfl⟩
theorem cf81 : CF Try.prog 81 := ⟨_, Try.func81, by kernel_rfl, by kernel_rfl⟩
theorem cf82 : CF Try.prog 82 := ⟨_, Try.func82, by kernel_rfl, by kernel_rfl⟩
theorem ei24 : EI Try.prog 24 2 16 (.agg #[.int .i64 0, .int .i64 0]) := EI.of (by kernel_rfl) rfl rfl
theorem fd132_1 : FD Try.prog 132 1 84 1 := ⟨_, _, Try.underlying132, rfl, rfl, rfl⟩
theorem ti132 : TI Try.prog 132 2 true := ⟨by kernel_rfl, by kernel_rfl⟩
theorem ti24 : TI Try.prog 24 2 true := ⟨by kernel_rfl, by kernel_rfl⟩
theorem ti84 : TI Try.prog 84 1 false := ⟨by kernel_rfl, by kernel_rfl⟩
theorem zi132 : (Try.prog.info? 132).map (·.zero) = some (some (.agg #[.int .i64 0, .slice none 0 0])) := by kernel_rfl

attribute [local irreducible] Up.int Up.str Up.close Up.rest Up.clr Up.spoil Up.w Up.flag
theorem Leaves_calls (l : List Ev) (n : Int) (hn : l.length ≤ 1048576) (h0 : 0 ≤ n ∧ n ≤ 255) : Does Try.prog 10 [(.sl none (l.map Ev.z) .ro), .val (.int .u8 n)] [] (vb true) [] := by
  refine Does.of_body (rvs := [.tmp 4]) Try.func10 rfl rfl rfl rfl ?_
  obtain ⟨m, rfl⟩ : ∃ m : Nat, n = (m : Int) := ⟨n.toNat, by omega⟩
  have hrl : (recs l).length ≤ 1048576 := Nat.le_trans (recs_len l) hn
  have ht := Ez.told _ _ (recs l) ⟨_, Try.func195, by kernel_rfl, by kernel_rfl⟩ (Ez.recs_it l hn) (lf_rp1 (f := Ev.z) (fun _ => rfl)) hrl
  have hf := Ez.few _ _ (recs l) ⟨_, Try.func195, by kernel_rfl, by kernel_rfl⟩ (Ez.recs_it l hn) (lf_rp1 (f := Ev.z) (fun _ => rfl)) hrl m
  have hq := Ez.eq_rec ((recs l).take m) (by rw [List.length_take]; omega)
  refine AWP.seq ?_
  refine AWP.region ?_
  refine n_assign rfl (by first | (simp only [nf, Nat.beq] <;> rfl) | rfl) ?_
  refine AOps.nil ?_
  refine AWP.seq ?_
  refine AWP.seq ?_
  refine AWP.region ?_
  refine n_call0B rfl cf37 rfl (Eq.trans (by simp only [nl] <;> rfl) (by first | (simp only [nf, Nat.beq] <;> rfl) | rfl)) (by repeat (first | exact .nil | refine .cons ?_ ?_ | exact ren_ints | exact .lf (.val _) | exact .lf (lf_ints (.inl rfl)) | exact .bp ⟨rfl, rfl⟩ | exact .bp (.inl ⟨rfl, rfl⟩) | exact .bp (.inr ⟨rfl, rfl⟩) | exact .lf (D.flat_lf rfl) | exact ren_lits rfl | exact ren_ints | exact ren_map (f := Ev.z) (fun _ => rfl) | exact ren_map (f := rz) (fun _ => rfl) | exact .lf (lf_fnrp (lf_rp1 (f := Ev.z) (fun _ => rfl))) | exact .lf (lf_fnrp hcs) | exact .ro (fun x h => by cases h) | exact ren_mapG (f := epz) epz_lf | exact .lf (lf_fnrp (lf_rp1 (f := rz) (fun _ => rfl))) | exact .lf (.agg (epz_lf _)))) (Ev.begun) (by first | exact .val _ | exact lf_ints (.inl rfl) | exact lf_ints (.inr rfl) | exact .any | exact D.flat_lf rfl | exact .tup (lf_cons (lf_ints (.inl rfl)) (lf_cons (.val _) lf_nil)) | exact lf_fnrp (lf_rp1 (f := Ev.z) (fun _ => rfl)) | exact lf_map (f := rz) (fun _ => rfl) (.inl rfl) | exact lf_map (f := Ev.z) (fun _ => rfl) (.inl rfl) | exact lf_fnrp (lf_cons (.sl (fun x h => by cases h) (.inl rfl)) lf_nil) | exact lf_mapG (f := epz) epz_lf (.inl rfl) | exact lf_fnrp (lf_rp1 (f := rz) (fun _ => rfl))) ?_
  refine n_not rfl (by first | (simp only [nf, Nat.beq] <;> rfl) | rfl) rfl ?_
  refine AOps.nil ?_
  refine AWP.cond_false (by first | (simp only [nf, Nat.beq] <;> rfl) | rfl) ?_
  refine AWP.skip ?_
  refine AWP.seq ?_
  refine AWP.region ?_
  refine n_move rfl (by first | (simp only [nf, Nat.beq] <;> rfl) | rfl) ?_
  refine n_call0B rfl cf80 rfl (Eq.trans (by simp only [nl] <;> rfl) (by first | (simp only [nf, Nat.beq] <;> rfl) | rfl)) (by repeat (first | exact .nil | refine .cons ?_ ?_ | exact ren_ints | exact .lf (.val _) | exact .lf (lf_ints (.inl rfl)) | exact .bp ⟨rfl, rfl⟩ | exact .bp (.inl ⟨rfl, rfl⟩) | exact .bp (.inr ⟨rfl, rfl⟩) | exact .lf (D.flat_lf rfl) | exact ren_lits rfl | exact ren_ints | exact ren_map (f := Ev.z) (fun _ => rfl) | exact ren_map (f := rz) (fun _ => rfl) | exact .lf (lf_fnrp (lf_rp1 (f := Ev.z) (fun _ => rfl))) | exact .lf (lf_fnrp hcs) | exact .ro (fun x h => by cases h) | exact ren_mapG (f := epz) epz_lf | exact .lf (lf_fnrp (lf_rp1 (f := rz) (fun _ => rfl))) | exact .lf (.agg (epz_lf _)))) (Ez.l_records _ (by omega)) (by first | exact .val _ | exact lf_ints (.inl rfl) | exact lf_ints (.inr rfl) | exact .any | exact D.flat_lf rfl | exact .tup (lf_cons (lf_ints (.inl rfl)) (lf_cons (.val _) lf_nil)) | exact lf_fnrp (lf_rp1 (f := Ev.z) (fun _ => rfl)) | exact lf_map (f := rz) (fun _ => rfl) (.inl rfl) | exact lf_map (f := Ev.z) (fun _ => rfl) (.inl rfl) | exact lf_fnrp (lf_cons (.sl (fun x h => by cases h) (.inl rfl)) lf_nil) | exact lf_mapG (f := epz) epz_lf (.inl rfl) | exact lf_fnrp (lf_rp1 (f := rz) (fun _ => rfl))) ?_
  refine n_call0B rfl cf79 rfl (Eq.trans (by simp only [nl] <;> rfl) (by first | (simp only [nf, Nat.beq] <;> rfl) | rfl)) (by repeat (first | exact .nil | refine .cons ?_ ?_ | exact ren_ints | exact .lf (.val _) | exact .lf (lf_ints (.inl rfl)) | exact .bp ⟨rfl, rfl⟩ | exact .bp (.inl ⟨rfl, rfl⟩) | exact .bp (.inr ⟨rfl, rfl⟩) | exact .lf (D.flat_lf rfl) | exact ren_lits rfl | exact ren_ints | exact ren_map (f := Ev.z) (fun _ => rfl) | exact ren_map (f := rz) (fun _ => rfl) | exact .lf (lf_fnrp (lf_rp1 (f := Ev.z) (fun _ => rfl))) | exact .lf (lf_fnrp hcs) | exact .ro (fun x h => by cases h) | exact ren_mapG (f := epz) epz_lf | exact .lf (lf_fnrp (lf_rp1 (f := rz) (fun _ => rfl))) | exact .lf (.agg (epz_lf _)))) (ht) (by first | exact .val _ | exact lf_ints (.inl rfl) | exact lf_ints (.inr rfl) | exact .any | exact D.flat_lf rfl | exact .tup (lf_cons (lf_ints (.inl rfl)) (lf_cons (.val _) lf_nil)) | exact lf_fnrp (lf_rp1 (f := Ev.z) (fun _ => rfl)) | exact lf_map (f := rz) (fun _ => rfl) (.inl rfl) | exact lf_map (f := Ev.z) (fun _ => rfl) (.inl rfl) | exact lf_fnrp (lf_cons (.sl (fun x h => by cases h) (.inl rfl)) lf_nil) | exact lf_mapG (f := epz) epz_lf (.inl rfl) | exact lf_fnrp (lf_rp1 (f := rz) (fun _ => rfl))) ?_
  refine n_assign rfl (by first | (simp only [nf, Nat.beq] <;> rfl) | rfl) ?_
  refine AOps.nil ?_
  refine AWP.seq ?_
  refine AWP.region ?_
  refine n_move rfl (by first | (simp only [nf, Nat.beq] <;> rfl) | rfl) ?_
  refine n_call0B rfl cf80 rfl (Eq.trans (by simp only [nl] <;> rfl) (by first | (simp only [nf, Nat.beq] <;> rfl) | rfl)) (by repeat (first | exact .nil | refine .cons ?_ ?_ | exact ren_ints | exact .lf (.val _) | exact .lf (lf_ints (.inl rfl)) | exact .bp ⟨rfl, rfl⟩ | exact .bp (.inl ⟨rfl, rfl⟩) | exact .bp (.inr ⟨rfl, rfl⟩) | exact .lf (D.flat_lf rfl) | exact ren_lits rfl | exact ren_ints | exact ren_map (f := Ev.z) (fun _ => rfl) | exact ren_map (f := rz) (fun _ => rfl) | exact .lf (lf_fnrp (lf_rp1 (f := Ev.z) (fun _ => rfl))) | exact .lf (lf_fnrp hcs) | exact .ro (fun x h => by cases h) | exact ren_mapG (f := epz) epz_lf | exact .lf (lf_fnrp (lf_rp1 (f := rz) (fun _ => rfl))) | exact .lf (.agg (epz_lf _)))) (Ez.l_records _ (by omega)) (by first | exact .val _ | exact lf_ints (.inl rfl) | exact lf_ints (.inr rfl) | exact .any | exact D.flat_lf rfl | exact .tup (lf_cons (lf_ints (.inl rfl)) (lf_cons (.val _) lf_nil)) | exact lf_fnrp (lf_rp1 (f := Ev.z) (fun _ => rfl)) | exact lf_map (f := rz) (fun _ => rfl) (.inl rfl) | exact lf_map (f := Ev.z) (fun _ => rfl) (.inl rfl) | exact lf_fnrp (lf_cons (.sl (fun x h => by cases h) (.inl rfl)) lf_nil) | exact lf_mapG (f := epz) epz_lf (.inl rfl) | exact lf_fnrp (lf_rp1 (f := rz) (fun _ => rfl))) ?_
  refine n_move rfl (by first | (simp only [nf, Nat.beq] <;> rfl) | rfl) ?_
  first | refine n_conv rfl (by first | (simp only [nf, Nat.beq] <;> rfl) | rfl) (by rw [Try.underlying5]; rfl) Try.underlying3 (wrap_id (by first | omega | (simp only [loK]; omega)) (by first | omega | (simp only [hiK]; omega))) ?_ | refine n_conv rfl (by first | (simp only [nf, Nat.beq] <;> rfl) | rfl) (by rw [Try.underlying5]; rfl) Try.underlying3 rfl ?_
  refine n_call0B rfl cf81 rfl (Eq.trans (by simp only [nl] <;> rfl) (by first | (simp only [nf, Nat.beq] <;> rfl) | rfl)) (by repeat (first | exact .nil | refine .cons ?_ ?_ | exact ren_ints | exact .lf (.val _) | exact .lf (lf_ints (.inl rfl)) | exact .bp ⟨rfl, rfl⟩ | exact .bp (.inl ⟨rfl, rfl⟩) | exact .bp (.inr ⟨rfl, rfl⟩) | exact .lf (D.flat_lf rfl) | exact ren_lits rfl | exact ren_ints | exact ren_map (f := Ev.z) (fun _ => rfl) | exact ren_map (f := rz) (fun _ => rfl) | exact .lf (lf_fnrp (lf_rp1 (f := Ev.z) (fun _ => rfl))) | exact .lf (lf_fnrp hcs) | exact .ro (fun x h => by cases h) | exact ren_mapG (f := epz) epz_lf | exact .lf (lf_fnrp (lf_rp1 (f := rz) (fun _ => rfl))) | exact .lf (.agg (epz_lf _)))) (hf) (by first | exact .val _ | exact lf_ints (.inl rfl) | exact lf_ints (.inr rfl) | exact .any | exact D.flat_lf rfl | exact .tup (lf_cons (lf_ints (.inl rfl)) (lf_cons (.val _) lf_nil)) | exact lf_fnrp (lf_rp1 (f := Ev.z) (fun _ => rfl)) | exact lf_map (f := rz) (fun _ => rfl) (.inl rfl) | exact lf_map (f := Ev.z) (fun _ => rfl) (.inl rfl) | exact lf_fnrp (lf_cons (.sl (fun x h => by cases h) (.inl rfl)) lf_nil) | exact lf_mapG (f := epz) epz_lf (.inl rfl) | exact lf_fnrp (lf_rp1 (f := rz) (fun _ => rfl))) ?_
  refine n_assign rfl (by first | (simp only [nf, Nat.beq] <;> rfl) | rfl) ?_
  refine AOps.nil ?_
  refine AWP.seq ?_
  refine AWP.region ?_
  refine n_move rfl (by first | (simp only [nf, Nat.beq] <;> rfl) | rfl) ?_
  refine n_move rfl (by first | (simp only [nf, Nat.beq] <;> rfl) | rfl) ?_
  refine n_move rfl (by first | (simp only [nf, Nat.beq] <;> rfl) | rfl) ?_
  refine n_len rfl Try.underlying84 (by first | (simp only [nf, Nat.beq] <;> rfl) | rfl) (by first | rw [ints_length] | rw [List.length_map] | rfl) ?_
  refine n_move rfl (by first | (simp only [nf, Nat.beq] <;> rfl) | rfl) ?_
  first | refine n_conv rfl (by first | (simp only [nf, Nat.beq] <;> rfl) | rfl) (by rw [Try.underlying5]; rfl) Try.underlying3 (wrap_id (by first | omega | (simp only [loK]; omega)) (by first | omega | (simp only [hiK]; omega))) ?_ | refine n_conv rfl (by first | (simp only [nf, Nat.beq] <;> rfl) | rfl) (by rw [Try.underlying5]; rfl) Try.underlying3 rfl ?_
  refine n_min (T2 := #[]) rfl (by first | (simp only [nf, Nat.beq] <;> rfl) | rfl) (by first | (simp only [nf, Nat.beq] <;> rfl) | rfl) rfl ?_
  refine n_slice (h := min (recs l).length m) (ys := ((recs l).take m).map rz) rfl Try.underlying84 ti24 (by first | (simp only [nf, Nat.beq] <;> rfl) | rfl) (SB.some (by first | (simp only [nf, Nat.beq] <;> rfl) | rfl) (by omega)) SB.none (by omega) (by simp only [List.length_map]; omega) (by exact map_one (f := rz) (fun _ => rfl)) (by rw [List.drop_zero, ← List.map_take]; congr 1; rw [List.take_eq_take_iff]; omega) ?_
  refine n_call0B rfl cf82 rfl (Eq.trans (by simp only [nl] <;> rfl) (by first | (simp only [nf, Nat.beq] <;> rfl) | rfl)) (by repeat (first | exact .nil | refine .cons ?_ ?_ | exact ren_ints | exact .lf (.val _) | exact .lf (lf_ints (.inl rfl)) | exact .bp ⟨rfl, rfl⟩ | exact .bp (.inl ⟨rfl, rfl⟩) | exact .bp (.inr ⟨rfl, rfl⟩) | exact .lf (D.flat_lf rfl) | exact ren_lits rfl | exact ren_ints | exact ren_map (f := Ev.z) (fun _ => rfl) | exact ren_map (f := rz) (fun _ => rfl) | exact .lf (lf_fnrp (lf_rp1 (f := Ev.z) (fun _ => rfl))) | exact .lf (lf_fnrp hcs) | exact .ro (fun x h => by cases h) | exact ren_mapG (f := epz) epz_lf | exact .lf (lf_fnrp (lf_rp1 (f := rz) (fun _ => rfl))) | exact .lf (.agg (epz_lf _)))) (hq) (by first | exact .val _ | exact lf_ints (.inl rfl) | exact lf_ints (.inr rfl) | exact .any | exact D.flat_lf rfl | exact .tup (lf_cons (lf_ints (.inl rfl)) (lf_cons (.val _) lf_nil)) | exact lf_fnrp (lf_rp1 (f := Ev.z) (fun _ => rfl)) | exact lf_map (f := rz) (fun _ => rfl) (.inl rfl) | exact lf_map (f := Ev.z) (fun _ => rfl) (.inl rfl) | exact lf_fnrp (lf_cons (.sl (fun x h => by cases h) (.inl rfl)) lf_nil) | exact lf_mapG (f := epz) epz_lf (.inl rfl) | exact lf_fnrp (lf_rp1 (f := rz) (fun _ => rfl))) ?_
  refine n_assign rfl (by first | (simp only [nf, Nat.beq] <;> rfl) | rfl) ?_
  refine AOps.nil ?_
  refine AWP.ret ?_
  refine fin_pure (.cons (rv_tmp (by first | (simp only [nf, Nat.beq] <;> rfl) | rfl)) .nil) (by first | (simp only [nf, Nat.beq] <;> rfl) | rfl) ?_
  first | exact ren_flat rfl rfl | exact ren_flat rfl (congrArg vb (by simp))

set_option maxHeartbeats 1000000 in
theorem Joins_calls (l : List Ev) (hn : l.length ≤ 1048576) : Does Try.prog 18 [(.sl none (l.map Ev.z) .ro)] [] (vb true) [] := by
  refine Does.of_body (rvs := [.tmp 2]) Try.func18 rfl rfl rfl rfl ?_
  have hrl : (recs l).length ≤ 1048576 := Nat.le_trans (recs_len l) hn
  have hel : (eps l).length ≤ 1048577 := Nat.le_trans (eps_len l) (by omega)
  have ht := Ez.told _ _ (recs l) ⟨_, Try.func195, by kernel_rfl, by kernel_rfl⟩ (Ez.recs_it l hn) (lf_rp1 (f := Ev.z) (fun _ => rfl)) hrl
  have hp := Ez.parted _ _ (eps l) ⟨_, Try.func205, by kernel_rfl, by kernel_rfl⟩ (Ez.epochs_it l hn) (lf_rp1 (f := Ev.z) (fun _ => rfl)) hel (fun e he => Nat.le_trans (eps_part he) hn)
  have hq := Ez.eq_rec (recs l) hrl
  refine AWP.seq ?_
  refine AWP.region ?_
  refine n_assign rfl (by first | (simp only [nf, Nat.beq] <;> rfl) | rfl) ?_
  refine AOps.nil ?_
  refine AWP.seq ?_
  refine AWP.seq ?_
  refine AWP.region ?_
  refine n_call0B rfl cf37 rfl (Eq.trans (by simp only [nl] <;> rfl) (by first | (simp only [nf, Nat.beq] <;> rfl) | rfl)) (by repeat (first | exact .nil | refine .cons ?_ ?_ | exact ren_ints | exact .lf (.val _) | exact .lf (lf_ints (.inl rfl)) | exact .bp ⟨rfl, rfl⟩ | exact .bp (.inl ⟨rfl, rfl⟩) | exact .bp (.inr ⟨rfl, rfl⟩) | exact .lf (D.flat_lf rfl) | exact ren_lits rfl | exact ren_ints | exact ren_map (f := Ev.z) (fun _ => rfl) | exact ren_map (f := rz) (fun _ => rfl) | exact .lf (lf_fnrp (lf_rp1 (f := Ev.z) (fun _ => rfl))) | exact .lf (lf_fnrp hcs) | exact .ro (fun x h => by cases h) | exact ren_mapG (f := epz) epz_lf | exact .lf (lf_fnrp (lf_rp1 (f := rz) (fun _ => rfl))) | exact .lf (.agg (epz_lf _)) | exact .lf (lf_fnrp (lf_rp1 (f := rz) (fun _ => rfl))) | exact .lf (.fn (fun d h => by cases h) (fun d h => by cases h)))) (Ev.begun) (by first | exact .val _ | exact lf_ints (.inl rfl) | exact lf_ints (.inr rfl) | exact .any | exact D.flat_lf rfl | exact .tup (lf_cons (lf_ints (.inl rfl)) (lf_cons (.val _) lf_nil)) | exact lf_fnrp (lf_rp1 (f := Ev.z) (fun _ => rfl)) | exact lf_map (f := rz) (fun _ => rfl) (.inl rfl) | exact lf_map (f := Ev.z) (fun _ => rfl) (.inl rfl) | exact lf_fnrp (lf_cons (.sl (fun x h => by cases h) (.inl rfl)) lf_nil) | exact lf_mapG (f := epz) epz_lf (.inl rfl) | exact lf_fnrp (lf_rp1 (f := rz) (fun _ => rfl))) ?_
  refine n_not rfl (by first | (simp only [nf, Nat.beq] <;> rfl) | rfl) rfl ?_
  refine AOps.nil ?_
  refine AWP.cond_false (by first | (simp only [nf, Nat.beq] <;> rfl) | rfl) ?_
  refine AWP.skip ?_
  refine AWP.seq ?_
  refine AWP.region ?_
  refine n_assign rfl (by first | (simp only [nf, Nat.beq] <;> rfl) | rfl) ?_
  refine AOps.nil ?_
  refine AWP.seq ?_
  refine AWP.seq ?_
  refine AWP.adopt (t := 3) (m := 0) (S' := [.row 0 2]) (by rfl) rfl rfl rfl ?_
  refine AWP.region ?_
  refine n_move rfl (by first | (simp only [nf, Nat.beq] <;> rfl) | rfl) ?_
  refine n_call0B rfl cf102 rfl (Eq.trans (by simp only [nl] <;> rfl) (by first | (simp only [nf, Nat.beq] <;> rfl) | rfl)) (by repeat (first | exact .nil | refine .cons ?_ ?_ | exact ren_ints | exact .lf (.val _) | exact .lf (lf_ints (.inl rfl)) | exact .bp ⟨rfl, rfl⟩ | exact .bp (.inl ⟨rfl, rfl⟩) | exact .bp (.inr ⟨rfl, rfl⟩) | exact .lf (D.flat_lf rfl) | exact ren_lits rfl | exact ren_ints | exact ren_map (f := Ev.z) (fun _ => rfl) | exact ren_map (f := rz) (fun _ => rfl) | exact .lf (lf_fnrp (lf_rp1 (f := Ev.z) (fun _ => rfl))) | exact .lf (lf_fnrp hcs) | exact .ro (fun x h => by cases h) | exact ren_mapG (f := epz) epz_lf | exact .lf (lf_fnrp (lf_rp1 (f := rz) (fun _ => rfl))) | exact .lf (.agg (epz_lf _)) | exact .lf (lf_fnrp (lf_rp1 (f := rz) (fun _ => rfl))) | exact .lf (.fn (fun d h => by cases h) (fun d h => by cases h)))) (Ez.l_epochs _ (by omega)) (by first | exact .val _ | exact lf_ints (.inl rfl) | exact lf_ints (.inr rfl) | exact .any | exact D.flat_lf rfl | exact .tup (lf_cons (lf_ints (.inl rfl)) (lf_cons (.val _) lf_nil)) | exact lf_fnrp (lf_rp1 (f := Ev.z) (fun _ => rfl)) | exact lf_map (f := rz) (fun _ => rfl) (.inl rfl) | exact lf_map (f := Ev.z) (fun _ => rfl) (.inl rfl) | exact lf_fnrp (lf_cons (.sl (fun x h => by cases h) (.inl rfl)) lf_nil) | exact lf_mapG (f := epz) epz_lf (.inl rfl) | exact lf_fnrp (lf_rp1 (f := rz) (fun _ => rfl))) ?_
  refine n_call0B rfl cf101 rfl (Eq.trans (by simp only [nl] <;> rfl) (by first | (simp only [nf, Nat.beq] <;> rfl) | rfl)) (by repeat (first | exact .nil | refine .cons ?_ ?_ | exact ren_ints | exact .lf (.val _) | exact .lf (lf_ints (.inl rfl)) | exact .bp ⟨rfl, rfl⟩ | exact .bp (.inl ⟨rfl, rfl⟩) | exact .bp (.inr ⟨rfl, rfl⟩) | exact .lf (D.flat_lf rfl) | exact ren_lits rfl | exact ren_ints | exact ren_map (f := Ev.z) (fun _ => rfl) | exact ren_map (f := rz) (fun _ => rfl) | exact .lf (lf_fnrp (lf_rp1 (f := Ev.z) (fun _ => rfl))) | exact .lf (lf_fnrp hcs) | exact .ro (fun x h => by cases h) | exact ren_mapG (f := epz) epz_lf | exact .lf (lf_fnrp (lf_rp1 (f := rz) (fun _ => rfl))) | exact .lf (.agg (epz_lf _)) | exact .lf (lf_fnrp (lf_rp1 (f := rz) (fun _ => rfl))) | exact .lf (.fn (fun d h => by cases h) (fun d h => by cases h)))) (hp) (by first | exact .val _ | exact lf_ints (.inl rfl) | exact lf_ints (.inr rfl) | exact .any | exact D.flat_lf rfl | exact .tup (lf_cons (lf_ints (.inl rfl)) (lf_cons (.val _) lf_nil)) | exact lf_fnrp (lf_rp1 (f := Ev.z) (fun _ => rfl)) | exact lf_map (f := rz) (fun _ => rfl) (.inl rfl) | exact lf_map (f := Ev.z) (fun _ => rfl) (.inl rfl) | exact lf_fnrp (lf_cons (.sl (fun x h => by cases h) (.inl rfl)) lf_nil) | exact lf_mapG (f := epz) epz_lf (.inl rfl) | exact lf_fnrp (lf_rp1 (f := rz) (fun _ => rfl))) ?_
  refine n_len rfl Try.underlying126 (by first | (simp only [nf, Nat.beq] <;> rfl) | rfl) (by first | rw [ints_length] | rw [List.length_map] | rfl) ?_
  refine n_move rfl (by first | (simp only [nf, Nat.beq] <;> rfl) | rfl) ?_
  refine AOps.nil ?_
  refine AWP.block ?_
  refine AWP.loopX 1 (α := Nat) (fun i => i ≤ (eps l).length) (fun i => put (put (put (put (put empty 0 (.sl none (l.map Ev.z) .ro)) 3 (.sl none ((((eps l).take i).flatMap (·.2)).map rz) (.own 0))) 10 (.sl none ((eps l).map epz) .ro)) 11 (vi ((eps l).length : Int))) 12 (vi (i : Int))) (fun i => [.row (((eps l).take i).flatMap (·.2)).length 2]) (fun i => (eps l).length - i) 0 ?_ ?_ ?_ ?_ ?_ ?_ ?_
  · exact Nat.zero_le _
  · (repeat (first | exact FLe.empty _ | refine FLe.put ?_ ?_)) <;> first | (simp only [nf, Nat.beq]; done) | rfl | (try simp only [nf, Nat.beq]; first | rfl | (simp only [List.length_map]; done) | (rw [hfl]; done) | (congr 2; omega; done))
  · rfl
  · exact fun _ => rfl
  · intro p hp; (try dsimp only); (repeat' (refine un_put ?_ ?_)) <;> first | exact un_empty | exact .bp (by decide) | exact .lf (D.flat_lf rfl) | exact .lf (lf_ints (.inl rfl)) | exact .lf (lf_map (fun _ => rfl) (.inl rfl)) | exact .lf (lf_mapG epz_lf (.inl rfl)) | exact .sl (fun x hx d hd => by obtain ⟨p, _, rfl⟩ := List.mem_map.1 hx; exact .lf (flats_lf (by rfl) d hd)) (fun l e => by cases e; decide)
  · intro p hp; (try dsimp only); repeat' (first | exact un_nil | refine un_cons ?_ ?_ | exact un_box rfl | exact trivial)
  · intro i hi
    try dsimp only at hi ⊢
    refine AWP.seq ?_
    refine AWP.region ?_
    refine n_ibin rfl (by first | (simp only [nf, Nat.beq] <;> rfl) | rfl) (by first | (simp only [nf, Nat.beq] <;> rfl) | rfl) rfl ?_
    refine AOps.nil ?_
    refine AWP.seq ?_
    refine AWP.cond (by first | (simp only [nf, Nat.beq] <;> rfl) | rfl) (fun hc2 => ?_) (fun hc2 => ?_)
    · try simp only [nh] at hc2
      obtain ⟨e, he⟩ : ∃ e, (eps l)[i]? = some e := ⟨_, List.getElem?_eq_getElem (by omega)⟩
      have hfl : ((eps l).take (i + 1)).flatMap (·.2) = (((eps l).take i).flatMap (·.2)) ++ e.2 := by rw [take_snoc he]; simp
      have hfn := flat_take_len (eps l) (i + 1)
      rw [eps_flat, hfl, List.length_append] at hfn
      refine AWP.skip ?_
      refine AWP.seq ?_
      refine AWP.block ?_
      refine AWP.seq ?_
      refine AWP.region ?_
      refine n_indexAddr rfl Try.underlying126 ti132 rfl (by first | (simp only [nf, Nat.beq] <;> rfl) | rfl) (by first | (simp only [nf, Nat.beq] <;> rfl) | rfl) (by omega) (by first | exact ints_at _ _ _ (by omega) | exact ints_get _ _ _ (by omega) | exact map_at _ (by assumption) | rfl) rfl ?_
      refine n_load rfl ti132 (by first | (simp only [nf, Nat.beq] <;> rfl) | rfl) (by first | (simp only [nf, Nat.beq] <;> rfl) | rfl) rfl (by first | (simp only [nf, Nat.beq] <;> rfl) | rfl) ?_
      refine n_alloc rfl zi132 rfl (by first | (simp only [nf, Nat.beq] <;> rfl) | rfl) (by first | (simp only [nf, Nat.beq] <;> rfl) | rfl) ?_
      refine n_store ti132 (by first | (simp only [nf, Nat.beq] <;> rfl) | rfl) rfl (by first | (simp only [nf, Nat.beq] <;> rfl) | rfl) rfl (by first | (simp only [nf, Nat.beq] <;> rfl) | rfl) rfl rfl rfl (by first | (simp only [nf, Nat.beq] <;> rfl) | rfl) ?_
      refine AOps.nil ?_
      refine AWP.region ?_
      refine n_move rfl (by first | (simp only [nf, Nat.beq] <;> rfl) | rfl) ?_
      refine n_fieldAddr rfl fd132_1 ti84 rfl (by first | (simp only [nf, Nat.beq] <;> rfl) | rfl) rfl (by first | (simp only [nf, Nat.beq] <;> rfl) | rfl) ?_
      refine n_load rfl ti84 (by first | (simp only [nf, Nat.beq] <;> rfl) | rfl) (by first | (simp only [nf, Nat.beq] <;> rfl) | rfl) rfl (by first | (simp only [nf, Nat.beq] <;> rfl) | rfl) ?_
      refine n_append_own (zs := ((((eps l).take i).flatMap (·.2)) ++ e.2).map rz) (m := (((eps l).take i).flatMap (·.2)).length + e.2.length) rfl Try.underlying84 Try.underlying84 ei24 (by first | (simp only [nf, Nat.beq] <;> rfl) | rfl) (by first | (simp only [nf, Nat.beq] <;> rfl) | rfl) (by simp only [List.length_map]) (by first | (simp only [nf, Nat.beq] <;> rfl) | rfl) (by exact map_one (f := rz) (fun _ => rfl)) (by exact map_one (f := rz) (fun _ => rfl)) (by simp) (by simp) (by omega) (by first | (simp only [nf, Nat.beq] <;> rfl) | rfl) ?_
      refine n_assign rfl (by first | (simp only [nf, Nat.beq] <;> rfl) | rfl) ?_
      refine AOps.nil ?_
      refine AWP.region ?_
      first | refine n_iadd rfl (by first | (simp only [nf, Nat.beq] <;> rfl) | rfl) (by first | (simp only [nf, Nat.beq] <;> rfl) | rfl) rfl (by omega) (by omega) ?_ | refine n_ibin rfl (by first | (simp only [nf, Nat.beq] <;> rfl) | rfl) (by first | (simp only [nf, Nat.beq] <;> rfl) | rfl) rfl ?_
      refine n_move rfl (by first | (simp only [nf, Nat.beq] <;> rfl) | rfl) ?_
      refine AOps.nil ?_
      refine ⟨i + 1, [.box (epz e)], by omega, ?_, ?_, by omega⟩
      · (repeat (first | exact FLe.empty _ | refine FLe.put ?_ ?_)) <;> first | (simp only [nf, Nat.beq]; done) | rfl | (try simp only [nf, Nat.beq]; first | rfl | (simp only [List.length_map]; done) | (rw [hfl]; done) | (congr 2; omega; done))
      · rw [hfl] <;> simp
    · try simp only [nh] at hc2
      obtain rfl : i = (eps l).length := by omega
      rw [List.take_length, eps_flat]
      refine AWP.exit ?_
      refine AWP.seq ?_
      refine AWP.region ?_
      refine n_move rfl (by first | (simp only [nf, Nat.beq] <;> rfl) | rfl) ?_
      refine n_move rfl (by first | (simp only [nf, Nat.beq] <;> rfl) | rfl) ?_
      refine n_call0B rfl cf80 rfl (Eq.trans (by simp only [nl] <;> rfl) (by first | (simp only [nf, Nat.beq] <;> rfl) | rfl)) (by repeat (first | exact .nil | refine .cons ?_ ?_ | exact ren_ints | exact .lf (.val _) | exact .lf (lf_ints (.inl rfl)) | exact .bp ⟨rfl, rfl⟩ | exact .bp (.inl ⟨rfl, rfl⟩) | exact .bp (.inr ⟨rfl, rfl⟩) | exact .lf (D.flat_lf rfl) | exact ren_lits rfl | exact ren_ints | exact ren_map (f := Ev.z) (fun _ => rfl) | exact ren_map (f := rz) (fun _ => rfl) | exact .lf (lf_fnrp (lf_rp1 (f := Ev.z) (fun _ => rfl))) | exact .lf (lf_fnrp hcs) | exact .ro (fun x h => by cases h) | exact ren_mapG (f := epz) epz_lf | exact .lf (lf_fnrp (lf_rp1 (f := rz) (fun _ => rfl))) | exact .lf (.agg (epz_lf _)) | exact .lf (lf_fnrp (lf_rp1 (f := rz) (fun _ => rfl))) | exact .lf (.fn (fun d h => by cases h) (fun d h => by cases h)))) (Ez.l_records _ (by omega)) (by first | exact .val _ | exact lf_ints (.inl rfl) | exact lf_ints (.inr rfl) | exact .any | exact D.flat_lf rfl | exact .tup (lf_cons (lf_ints (.inl rfl)) (lf_cons (.val _) lf_nil)) | exact lf_fnrp (lf_rp1 (f := Ev.z) (fun _ => rfl)) | exact lf_map (f := rz) (fun _ => rfl) (.inl rfl) | exact lf_map (f := Ev.z) (fun _ => rfl) (.inl rfl) | exact lf_fnrp (lf_cons (.sl (fun x h => by cases h) (.inl rfl)) lf_nil) | exact lf_mapG (f := epz) epz_lf (.inl rfl) | exact lf_fnrp (lf_rp1 (f := rz) (fun _ => rfl))) ?_
      refine n_call0B rfl cf79 rfl (Eq.trans (by simp only [nl] <;> rfl) (by first | (simp only [nf, Nat.beq] <;> rfl) | rfl)) (by repeat (first | exact .nil | refine .cons ?_ ?_ | exact ren_ints | exact .lf (.val _) | exact .lf (lf_ints (.inl rfl)) | exact .bp ⟨rfl, rfl⟩ | exact .bp (.inl ⟨rfl, rfl⟩) | exact .bp (.inr ⟨rfl, rfl⟩) | exact .lf (D.flat_lf rfl) | exact ren_lits rfl | exact ren_ints | exact ren_map (f := Ev.z) (fun _ => rfl) | exact ren_map (f := rz) (fun _ => rfl) | exact .lf (lf_fnrp (lf_rp1 (f := Ev.z) (fun _ => rfl))) | exact .lf (lf_fnrp hcs) | exact .ro (fun x h => by cases h) | exact ren_mapG (f := epz) epz_lf | exact .lf (lf_fnrp (lf_rp1 (f := rz) (fun _ => rfl))) | exact .lf (.agg (epz_lf _)) | exact .lf (lf_fnrp (lf_rp1 (f := rz) (fun _ => rfl))) | exact .lf (.fn (fun d h => by cases h) (fun d h => by cases h)))) (ht) (by first | exact .val _ | exact lf_ints (.inl rfl) | exact lf_ints (.inr rfl) | exact .any | exact D.flat_lf rfl | exact .tup (lf_cons (lf_ints (.inl rfl)) (lf_cons (.val _) lf_nil)) | exact lf_fnrp (lf_rp1 (f := Ev.z) (fun _ => rfl)) | exact lf_map (f := rz) (fun _ => rfl) (.inl rfl) | exact lf_map (f := Ev.z) (fun _ => rfl) (.inl rfl) | exact lf_fnrp (lf_cons (.sl (fun x h => by cases h) (.inl rfl)) lf_nil) | exact lf_mapG (f := epz) epz_lf (.inl rfl) | exact lf_fnrp (lf_rp1 (f := rz) (fun _ => rfl))) ?_
      refine n_call0B rfl cf82 rfl (Eq.trans (by simp only [nl] <;> rfl) (by first | (simp only [nf, Nat.beq] <;> rfl) | rfl)) (by repeat (first | exact .nil | refine .cons ?_ ?_ | exact ren_ints | exact .lf (.val _) | exact .lf (lf_ints (.inl rfl)) | exact .bp ⟨rfl, rfl⟩ | exact .bp (.inl ⟨rfl, rfl⟩) | exact .bp (.inr ⟨rfl, rfl⟩) | exact .lf (D.flat_lf rfl) | exact ren_lits rfl | exact ren_ints | exact ren_map (f := Ev.z) (fun _ => rfl) | exact ren_map (f := rz) (fun _ => rfl) | exact .lf (lf_fnrp (lf_rp1 (f := Ev.z) (fun _ => rfl))) | exact .lf (lf_fnrp hcs) | exact .ro (fun x h => by cases h) | exact ren_mapG (f := epz) epz_lf | exact .lf (lf_fnrp (lf_rp1 (f := rz) (fun _ => rfl))) | exact .lf (.agg (epz_lf _)) | exact .lf (lf_fnrp (lf_rp1 (f := rz) (fun _ => rfl))) | exact .lf (.fn (fun d h => by cases h) (fun d h => by cases h)))) (hq) (by first | exact .val _ | exact lf_ints (.inl rfl) | exact lf_ints (.inr rfl) | exact .any | exact D.flat_lf rfl | exact .tup (lf_cons (lf_ints (.inl rfl)) (lf_cons (.val _) lf_nil)) | exact lf_fnrp (lf_rp1 (f := Ev.z) (fun _ => rfl)) | exact lf_map (f := rz) (fun _ => rfl) (.inl rfl) | exact lf_map (f := Ev.z) (fun _ => rfl) (.inl rfl) | exact lf_fnrp (lf_cons (.sl (fun x h => by cases h) (.inl rfl)) lf_nil) | exact lf_mapG (f := epz) epz_lf (.inl rfl) | exact lf_fnrp (lf_rp1 (f := rz) (fun _ => rfl))) ?_
      refine n_assign rfl (by first | (simp only [nf, Nat.beq] <;> rfl) | rfl) ?_
      refine AOps.nil ?_
      refine AWP.ret ?_
      refine fin_pure (.cons (rv_tmp (by first | (simp only [nf, Nat.beq] <;> rfl) | rfl)) .nil) (by first | (simp only [nf, Nat.beq] <;> rfl) | rfl) ?_
      first | exact ren_flat rfl rfl | exact ren_flat rfl (congrArg vb (by simp))

set_option maxHeartbeats 1000000 in
theorem Tells_calls (l : List Ev) (hn : l.length ≤ 1048576) : Does Try.prog 23 [(.sl none (l.map Ev.z) .ro)] [] (vb true) [] := by
  refine Does.of_body (rvs := [.tmp 2]) Try.func23 rfl rfl rfl rfl ?_
  have hrl : (recs l).length ≤ 1048576 := Nat.le_trans (recs_len l) hn
  have hel : (eps l).length ≤ 1048577 := Nat.le_trans (eps_len l) (by omega)
  have ht := Ez.told _ _ (recs l) ⟨_, Try.func195, by kernel_rfl, by kernel_rfl⟩ (Ez.recs_it l hn) (lf_rp1 (f := Ev.z) (fun _ => rfl)) hrl
  have hp := Ez.parted _ _ (eps l) ⟨_, Try.func205, by kernel_rfl, by kernel_rfl⟩ (Ez.epochs_it l hn) (lf_rp1 (f := Ev.z) (fun _ => rfl)) hel (fun e he => Nat.le_trans (eps_part he) hn)
  have hq := Ez.eq_rec (recs l) hrl
  have hul : (ups l).length ≤ 1048576 := Nat.le_trans (ups_len l) hn
  have hu := Ez.told _ _ (ups l) ⟨_, Try.func274, by kernel_rfl, by kernel_rfl⟩ (Ez.recsOf_it (ups l) hul) (lf_rp1 (f := rz) (fun _ => rfl)) hul
  have hqu := Ez.eq_rec (ups l) hul
  have hqe := Ez.eqfs (eps l) hel (fun e he => Nat.le_trans (eps_part he) hn)
  refine AWP.seq ?_
  refine AWP.region ?_
  refine n_assign rfl (by first | (simp only [nf, Nat.beq] <;> rfl) | rfl) ?_
  refine AOps.nil ?_
  refine AWP.seq ?_
  refine AWP.region ?_
  refine n_assign rfl (by first | (simp only [nf, Nat.beq] <;> rfl) | rfl) ?_
  refine AOps.nil ?_
  refine AWP.seq ?_
  refine AWP.region ?_
  refine n_call0B rfl cf37 rfl (Eq.trans (by simp only [nl] <;> rfl) (by first | (simp only [nf, Nat.beq] <;> rfl) | rfl)) (by repeat (first | exact .nil | refine .cons ?_ ?_ | exact ren_ints | exact .lf (.val _) | exact .lf (lf_ints (.inl rfl)) | exact .bp ⟨rfl, rfl⟩ | exact .bp (.inl ⟨rfl, rfl⟩) | exact .bp (.inr ⟨rfl, rfl⟩) | exact .lf (D.flat_lf rfl) | exact ren_lits rfl | exact ren_ints | exact ren_map (f := Ev.z) (fun _ => rfl) | exact ren_map (f := rz) (fun _ => rfl) | exact .lf (lf_fnrp (lf_rp1 (f := Ev.z) (fun _ => rfl))) | exact .lf (lf_fnrp hcs) | exact .ro (fun x h => by cases h) | exact ren_mapG (f := epz) epz_lf | exact .lf (lf_fnrp (lf_rp1 (f := rz) (fun _ => rfl))) | exact .lf (.agg (epz_lf _)) | exact .lf (lf_fnrp (lf_rp1 (f := rz) (fun _ => rfl))) | exact .lf (.fn (fun d h => by cases h) (fun d h => by cases h)))) (Ev.begun) (by first | exact .val _ | exact lf_ints (.inl rfl) | exact lf_ints (.inr rfl) | exact .any | exact D.flat_lf rfl | exact .tup (lf_cons (lf_ints (.inl rfl)) (lf_cons (.val _) lf_nil)) | exact lf_fnrp (lf_rp1 (f := Ev.z) (fun _ => rfl)) | exact lf_map (f := rz) (fun _ => rfl) (.inl rfl) | exact lf_map (f := Ev.z) (fun _ => rfl) (.inl rfl) | exact lf_fnrp (lf_cons (.sl (fun x h => by cases h) (.inl rfl)) lf_nil) | exact lf_mapG (f := epz) epz_lf (.inl rfl) | exact lf_fnrp (lf_rp1 (f := rz) (fun _ => rfl))) ?_
  refine n_move rfl (by first | (simp only [nf, Nat.beq] <;> rfl) | rfl) ?_
  refine AOps.name (u := 5) (fun z => .val (.bool z)) (by first | (simp only [nf, Nat.beq] <;> rfl) | rfl) (fun b5 hb5 => ?_)
  refine n_soft (u := 5) (E := .val (.bool b5)) (b5) rfl rfl rfl (by first | (simp only [nf, Nat.beq] <;> rfl) | rfl) (by cases b5 <;> first | (intro _; rfl) | (intro h; exact absurd h (by decide))) (by cases b5 <;> first | (intro h; exact absurd h (by decide)) | (intro _; exact ⟨_, rfl, by first | (intro h; cases h; done) | decide | simp⟩)) (fun h => by
      cases b5 with
      | false => exact absurd h (by first | decide | simp)
      | true =>
        refine n_move rfl (by first | (simp only [nf, Nat.beq] <;> rfl) | rfl) ?_
        exact AOps.nil ⟨rfl, rfl, rfl⟩) ?_
  refine n_soft (u := 5) (E := .val (.bool b5)) (b5) rfl rfl rfl (by first | (simp only [nf, Nat.beq] <;> rfl) | rfl) (by cases b5 <;> first | (intro _; rfl) | (intro h; exact absurd h (by decide))) (by cases b5 <;> first | (intro h; exact absurd h (by decide)) | (intro _; exact ⟨_, rfl, by first | (intro h; cases h; done) | decide | simp⟩)) (fun h => by
      cases b5 with
      | false => exact absurd h (by first | decide | simp)
      | true =>
        refine n_call0B rfl cf80 rfl (Eq.trans (by simp only [nl] <;> rfl) (by first | (simp only [nf, Nat.beq] <;> rfl) | rfl)) (by repeat (first | exact .nil | refine .cons ?_ ?_ | exact ren_ints | exact .lf (.val _) | exact .lf (lf_ints (.inl rfl)) | exact .bp ⟨rfl, rfl⟩ | exact .bp (.inl ⟨rfl, rfl⟩) | exact .bp (.inr ⟨rfl, rfl⟩) | exact .lf (D.flat_lf rfl) | exact ren_lits rfl | exact ren_ints | exact ren_map (f := Ev.z) (fun _ => rfl) | exact ren_map (f := rz) (fun _ => rfl) | exact .lf (lf_fnrp (lf_rp1 (f := Ev.z) (fun _ => rfl))) | exact .lf (lf_fnrp hcs) | exact .ro (fun x h => by cases h) | exact ren_mapG (f := epz) epz_lf | exact .lf (lf_fnrp (lf_rp1 (f := rz) (fun _ => rfl))) | exact .lf (.agg (epz_lf _)) | exact .lf (lf_fnrp (lf_rp1 (f := rz) (fun _ => rfl))) | exact .lf (.fn (fun d h => by cases h) (fun d h => by cases h)))) (Ez.l_records _ (by omega)) (by first | exact .val _ | exact lf_ints (.inl rfl) | exact lf_ints (.inr rfl) | exact .any | exact D.flat_lf rfl | exact .tup (lf_cons (lf_ints (.inl rfl)) (lf_cons (.val _) lf_nil)) | exact lf_fnrp (lf_rp1 (f := Ev.z) (fun _ => rfl)) | exact lf_map (f := rz) (fun _ => rfl) (.inl rfl) | exact lf_map (f := Ev.z) (fun _ => rfl) (.inl rfl) | exact lf_fnrp (lf_cons (.sl (fun x h => by cases h) (.inl rfl)) lf_nil) | exact lf_mapG (f := epz) epz_lf (.inl rfl) | exact lf_fnrp (lf_rp1 (f := rz) (fun _ => rfl))) ?_
        exact AOps.nil ⟨rfl, rfl, rfl⟩) ?_
  refine n_soft (u := 5) (E := .val (.bool b5)) (b5) rfl rfl rfl (by first | (simp only [nf, Nat.beq] <;> rfl) | rfl) (by cases b5 <;> first | (intro _; rfl) | (intro h; exact absurd h (by decide))) (by cases b5 <;> first | (intro h; exact absurd h (by decide)) | (intro _; exact ⟨_, rfl, by first | (intro h; cases h; done) | decide | simp⟩)) (fun h => by
      cases b5 with
      | false => exact absurd h (by first | decide | simp)
      | true =>
        refine n_call0B rfl cf79 rfl (Eq.trans (by simp only [nl] <;> rfl) (by first | (simp only [nf, Nat.beq] <;> rfl) | rfl)) (by repeat (first | exact .nil | refine .cons ?_ ?_ | exact ren_ints | exact .lf (.val _) | exact .lf (lf_ints (.inl rfl)) | exact .bp ⟨rfl, rfl⟩ | exact .bp (.inl ⟨rfl, rfl⟩) | exact .bp (.inr ⟨rfl, rfl⟩) | exact .lf (D.flat_lf rfl) | exact ren_lits rfl | exact ren_ints | exact ren_map (f := Ev.z) (fun _ => rfl) | exact ren_map (f := rz) (fun _ => rfl) | exact .lf (lf_fnrp (lf_rp1 (f := Ev.z) (fun _ => rfl))) | exact .lf (lf_fnrp hcs) | exact .ro (fun x h => by cases h) | exact ren_mapG (f := epz) epz_lf | exact .lf (lf_fnrp (lf_rp1 (f := rz) (fun _ => rfl))) | exact .lf (.agg (epz_lf _)) | exact .lf (lf_fnrp (lf_rp1 (f := rz) (fun _ => rfl))) | exact .lf (.fn (fun d h => by cases h) (fun d h => by cases h)))) (ht) (by first | exact .val _ | exact lf_ints (.inl rfl) | exact lf_ints (.inr rfl) | exact .any | exact D.flat_lf rfl | exact .tup (lf_cons (lf_ints (.inl rfl)) (lf_cons (.val _) lf_nil)) | exact lf_fnrp (lf_rp1 (f := Ev.z) (fun _ => rfl)) | exact lf_map (f := rz) (fun _ => rfl) (.inl rfl) | exact lf_map (f := Ev.z) (fun _ => rfl) (.inl rfl) | exact lf_fnrp (lf_cons (.sl (fun x h => by cases h) (.inl rfl)) lf_nil) | exact lf_mapG (f := epz) epz_lf (.inl rfl) | exact lf_fnrp (lf_rp1 (f := rz) (fun _ => rfl))) ?_
        exact AOps.nil ⟨rfl, rfl, rfl⟩) ?_
  refine n_soft (u := 5) (E := .val (.bool b5)) (b5) rfl rfl rfl (by first | (simp only [nf, Nat.beq] <;> rfl) | rfl) (by cases b5 <;> first | (intro _; rfl) | (intro h; exact absurd h (by decide))) (by cases b5 <;> first | (intro h; exact absurd h (by decide)) | (intro _; exact ⟨_, rfl, by first | (intro h; cases h; done) | decide | simp⟩)) (fun h => by
      cases b5 with
      | false => exact absurd h (by first | decide | simp)
      | true =>
        refine n_move rfl (by first | (simp only [nf, Nat.beq] <;> rfl) | rfl) ?_
        exact AOps.nil ⟨rfl, rfl, rfl⟩) ?_
  refine n_soft (u := 5) (E := .val (.bool b5)) (b5) rfl rfl rfl (by first | (simp only [nf, Nat.beq] <;> rfl) | rfl) (by cases b5 <;> first | (intro _; rfl) | (intro h; exact absurd h (by decide))) (by cases b5 <;> first | (intro h; exact absurd h (by decide)) | (intro _; exact ⟨_, rfl, by first | (intro h; cases h; done) | decide | simp⟩)) (fun h => by
      cases b5 with
      | false => exact absurd h (by first | decide | simp)
      | true =>
        refine n_call0B rfl cf116 rfl (Eq.trans (by simp only [nl] <;> rfl) (by first | (simp only [nf, Nat.beq] <;> rfl) | rfl)) (by repeat (first | exact .nil | refine .cons ?_ ?_ | exact ren_ints | exact .lf (.val _) | exact .lf (lf_ints (.inl rfl)) | exact .bp ⟨rfl, rfl⟩ | exact .bp (.inl ⟨rfl, rfl⟩) | exact .bp (.inr ⟨rfl, rfl⟩) | exact .lf (D.flat_lf rfl) | exact ren_lits rfl | exact ren_ints | exact ren_map (f := Ev.z) (fun _ => rfl) | exact ren_map (f := rz) (fun _ => rfl) | exact .lf (lf_fnrp (lf_rp1 (f := Ev.z) (fun _ => rfl))) | exact .lf (lf_fnrp hcs) | exact .ro (fun x h => by cases h) | exact ren_mapG (f := epz) epz_lf | exact .lf (lf_fnrp (lf_rp1 (f := rz) (fun _ => rfl))) | exact .lf (.agg (epz_lf _)) | exact .lf (lf_fnrp (lf_rp1 (f := rz) (fun _ => rfl))) | exact .lf (.fn (fun d h => by cases h) (fun d h => by cases h)))) (Ez.r_records _ (by omega)) (by first | exact .val _ | exact lf_ints (.inl rfl) | exact lf_ints (.inr rfl) | exact .any | exact D.flat_lf rfl | exact .tup (lf_cons (lf_ints (.inl rfl)) (lf_cons (.val _) lf_nil)) | exact lf_fnrp (lf_rp1 (f := Ev.z) (fun _ => rfl)) | exact lf_map (f := rz) (fun _ => rfl) (.inl rfl) | exact lf_map (f := Ev.z) (fun _ => rfl) (.inl rfl) | exact lf_fnrp (lf_cons (.sl (fun x h => by cases h) (.inl rfl)) lf_nil) | exact lf_mapG (f := epz) epz_lf (.inl rfl) | exact lf_fnrp (lf_rp1 (f := rz) (fun _ => rfl))) ?_
        exact AOps.nil ⟨rfl, rfl, rfl⟩) ?_
  refine n_soft (u := 5) (E := .val (.bool b5)) (b5) rfl rfl rfl (by first | (simp only [nf, Nat.beq] <;> rfl) | rfl) (by cases b5 <;> first | (intro _; rfl) | (intro h; exact absurd h (by decide))) (by cases b5 <;> first | (intro h; exact absurd h (by decide)) | (intro _; exact ⟨_, rfl, by first | (intro h; cases h; done) | decide | simp⟩)) (fun h => by
      cases b5 with
      | false => exact absurd h (by first | decide | simp)
      | true =>
        refine n_call0B rfl cf82 rfl (Eq.trans (by simp only [nl] <;> rfl) (by first | (simp only [nf, Nat.beq] <;> rfl) | rfl)) (by repeat (first | exact .nil | refine .cons ?_ ?_ | exact ren_ints | exact .lf (.val _) | exact .lf (lf_ints (.inl rfl)) | exact .bp ⟨rfl, rfl⟩ | exact .bp (.inl ⟨rfl, rfl⟩) | exact .bp (.inr ⟨rfl, rfl⟩) | exact .lf (D.flat_lf rfl) | exact ren_lits rfl | exact ren_ints | exact ren_map (f := Ev.z) (fun _ => rfl) | exact ren_map (f := rz) (fun _ => rfl) | exact .lf (lf_fnrp (lf_rp1 (f := Ev.z) (fun _ => rfl))) | exact .lf (lf_fnrp hcs) | exact .ro (fun x h => by cases h) | exact ren_mapG (f := epz) epz_lf | exact .lf (lf_fnrp (lf_rp1 (f := rz) (fun _ => rfl))) | exact .lf (.agg (epz_lf _)) | exact .lf (lf_fnrp (lf_rp1 (f := rz) (fun _ => rfl))) | exact .lf (.fn (fun d h => by cases h) (fun d h => by cases h)))) (hq) (by first | exact .val _ | exact lf_ints (.inl rfl) | exact lf_ints (.inr rfl) | exact .any | exact D.flat_lf rfl | exact .tup (lf_cons (lf_ints (.inl rfl)) (lf_cons (.val _) lf_nil)) | exact lf_fnrp (lf_rp1 (f := Ev.z) (fun _ => rfl)) | exact lf_map (f := rz) (fun _ => rfl) (.inl rfl) | exact lf_map (f := Ev.z) (fun _ => rfl) (.inl rfl) | exact lf_fnrp (lf_cons (.sl (fun x h => by cases h) (.inl rfl)) lf_nil) | exact lf_mapG (f := epz) epz_lf (.inl rfl) | exact lf_fnrp (lf_rp1 (f := rz) (fun _ => rfl))) ?_
        exact AOps.nil ⟨rfl, rfl, rfl⟩) ?_
  refine n_pick_and rfl (by first | (simp only [nf, Nat.beq] <;> rfl) | rfl) (fun h => by cases b5 with | false => exact absurd h (by decide) | true => exact (by first | (simp only [nf, Nat.beq] <;> rfl) | rfl)) ?_
  refine n_move rfl (by first | (simp only [nf, Nat.beq] <;> rfl) | rfl) ?_
  refine AOps.name (u := 13) (fun z => .val (.bool z)) (by first | (simp only [nf, Nat.beq] <;> rfl) | rfl) (fun b13 hb13 => ?_)
  refine n_soft (u := 13) (E := .val (.bool b13)) (b13) rfl rfl rfl (by first | (simp only [nf, Nat.beq] <;> rfl) | rfl) (by cases b13 <;> first | (intro _; rfl) | (intro h; exact absurd h (by decide))) (by cases b13 <;> first | (intro h; exact absurd h (by decide)) | (intro _; exact ⟨_, rfl, by first | (intro h; cases h; done) | decide | simp⟩)) (fun h => by
      cases b13 with
      | false => exact absurd h (by first | decide | simp)
      | true =>
        refine n_move rfl (by first | (simp only [nf, Nat.beq] <;> rfl) | rfl) ?_
        exact AOps.nil ⟨rfl, rfl, rfl⟩) ?_
  refine n_soft (u := 13) (E := .val (.bool b13)) (b13) rfl rfl rfl (by first | (simp only [nf, Nat.beq] <;> rfl) | rfl) (by cases b13 <;> first | (intro _; rfl) | (intro h; exact absurd h (by decide))) (by cases b13 <;> first | (intro h; exact absurd h (by decide)) | (intro _; exact ⟨_, rfl, by first | (intro h; cases h; done) | decide | simp⟩)) (fun h => by
      cases b13 with
      | false => exact absurd h (by first | decide | simp)
      | true =>
        refine n_call0B rfl cf117 rfl (Eq.trans (by simp only [nl] <;> rfl) (by first | (simp only [nf, Nat.beq] <;> rfl) | rfl)) (by repeat (first | exact .nil | refine .cons ?_ ?_ | exact ren_ints | exact .lf (.val _) | exact .lf (lf_ints (.inl rfl)) | exact .bp ⟨rfl, rfl⟩ | exact .bp (.inl ⟨rfl, rfl⟩) | exact .bp (.inr ⟨rfl, rfl⟩) | exact .lf (D.flat_lf rfl) | exact ren_lits rfl | exact ren_ints | exact ren_map (f := Ev.z) (fun _ => rfl) | exact ren_map (f := rz) (fun _ => rfl) | exact .lf (lf_fnrp (lf_rp1 (f := Ev.z) (fun _ => rfl))) | exact .lf (lf_fnrp hcs) | exact .ro (fun x h => by cases h) | exact ren_mapG (f := epz) epz_lf | exact .lf (lf_fnrp (lf_rp1 (f := rz) (fun _ => rfl))) | exact .lf (.agg (epz_lf _)) | exact .lf (lf_fnrp (lf_rp1 (f := rz) (fun _ => rfl))) | exact .lf (.fn (fun d h => by cases h) (fun d h => by cases h)))) (Ez.l_upto _ (by omega)) (by first | exact .val _ | exact lf_ints (.inl rfl) | exact lf_ints (.inr rfl) | exact .any | exact D.flat_lf rfl | exact .tup (lf_cons (lf_ints (.inl rfl)) (lf_cons (.val _) lf_nil)) | exact lf_fnrp (lf_rp1 (f := Ev.z) (fun _ => rfl)) | exact lf_map (f := rz) (fun _ => rfl) (.inl rfl) | exact lf_map (f := Ev.z) (fun _ => rfl) (.inl rfl) | exact lf_fnrp (lf_cons (.sl (fun x h => by cases h) (.inl rfl)) lf_nil) | exact lf_mapG (f := epz) epz_lf (.inl rfl) | exact lf_fnrp (lf_rp1 (f := rz) (fun _ => rfl))) ?_
        exact AOps.nil ⟨rfl, rfl, rfl⟩) ?_
  refine n_soft (u := 13) (E := .val (.bool b13)) (b13) rfl rfl rfl (by first | (simp only [nf, Nat.beq] <;> rfl) | rfl) (by cases b13 <;> first | (intro _; rfl) | (intro h; exact absurd h (by decide))) (by cases b13 <;> first | (intro h; exact absurd h (by decide)) | (intro _; exact ⟨_, rfl, by first | (intro h; cases h; done) | decide | simp⟩)) (fun h => by
      cases b13 with
      | false => exact absurd h (by first | decide | simp)
      | true =>
        refine n_call0B rfl cf79 rfl (Eq.trans (by simp only [nl] <;> rfl) (by first | (simp only [nf, Nat.beq] <;> rfl) | rfl)) (by repeat (first | exact .nil | refine .cons ?_ ?_ | exact ren_ints | exact .lf (.val _) | exact .lf (lf_ints (.inl rfl)) | exact .bp ⟨rfl, rfl⟩ | exact .bp (.inl ⟨rfl, rfl⟩) | exact .bp (.inr ⟨rfl, rfl⟩) | exact .lf (D.flat_lf rfl) | exact ren_lits rfl | exact ren_ints | exact ren_map (f := Ev.z) (fun _ => rfl) | exact ren_map (f := rz) (fun _ => rfl) | exact .lf (lf_fnrp (lf_rp1 (f := Ev.z) (fun _ => rfl))) | exact .lf (lf_fnrp hcs) | exact .ro (fun x h => by cases h) | exact ren_mapG (f := epz) epz_lf | exact .lf (lf_fnrp (lf_rp1 (f := rz) (fun _ => rfl))) | exact .lf (.agg (epz_lf _)) | exact .lf (lf_fnrp (lf_rp1 (f := rz) (fun _ => rfl))) | exact .lf (.fn (fun d h => by cases h) (fun d h => by cases h)))) (hu) (by first | exact .val _ | exact lf_ints (.inl rfl) | exact lf_ints (.inr rfl) | exact .any | exact D.flat_lf rfl | exact .tup (lf_cons (lf_ints (.inl rfl)) (lf_cons (.val _) lf_nil)) | exact lf_fnrp (lf_rp1 (f := Ev.z) (fun _ => rfl)) | exact lf_map (f := rz) (fun _ => rfl) (.inl rfl) | exact lf_map (f := Ev.z) (fun _ => rfl) (.inl rfl) | exact lf_fnrp (lf_cons (.sl (fun x h => by cases h) (.inl rfl)) lf_nil) | exact lf_mapG (f := epz) epz_lf (.inl rfl) | exact lf_fnrp (lf_rp1 (f := rz) (fun _ => rfl))) ?_
        exact AOps.nil ⟨rfl, rfl, rfl⟩) ?_
  refine n_soft (u := 13) (E := .val (.bool b13)) (b13) rfl rfl rfl (by first | (simp only [nf, Nat.beq] <;> rfl) | rfl) (by cases b13 <;> first | (intro _; rfl) | (intro h; exact absurd h (by decide))) (by cases b13 <;> first | (intro h; exact absurd h (by decide)) | (intro _; exact ⟨_, rfl, by first | (intro h; cases h; done) | decide | simp⟩)) (fun h => by
      cases b13 with
      | false => exact absurd h (by first | decide | simp)
      | true =>
        refine n_move rfl (by first | (simp only [nf, Nat.beq] <;> rfl) | rfl) ?_
        exact AOps.nil ⟨rfl, rfl, rfl⟩) ?_
  refine n_soft (u := 13) (E := .val (.bool b13)) (b13) rfl rfl rfl (by first | (simp only [nf, Nat.beq] <;> rfl) | rfl) (by cases b13 <;> first | (intro _; rfl) | (intro h; exact absurd h (by decide))) (by cases b13 <;> first | (intro h; exact absurd h (by decide)) | (intro _; exact ⟨_, rfl, by first | (intro h; cases h; done) | decide | simp⟩)) (fun h => by
      cases b13 with
      | false => exact absurd h (by first | decide | simp)
      | true =>
        refine n_call0B rfl cf118 rfl (Eq.trans (by simp only [nl] <;> rfl) (by first | (simp only [nf, Nat.beq] <;> rfl) | rfl)) (by repeat (first | exact .nil | refine .cons ?_ ?_ | exact ren_ints | exact .lf (.val _) | exact .lf (lf_ints (.inl rfl)) | exact .bp ⟨rfl, rfl⟩ | exact .bp (.inl ⟨rfl, rfl⟩) | exact .bp (.inr ⟨rfl, rfl⟩) | exact .lf (D.flat_lf rfl) | exact ren_lits rfl | exact ren_ints | exact ren_map (f := Ev.z) (fun _ => rfl) | exact ren_map (f := rz) (fun _ => rfl) | exact .lf (lf_fnrp (lf_rp1 (f := Ev.z) (fun _ => rfl))) | exact .lf (lf_fnrp hcs) | exact .ro (fun x h => by cases h) | exact ren_mapG (f := epz) epz_lf | exact .lf (lf_fnrp (lf_rp1 (f := rz) (fun _ => rfl))) | exact .lf (.agg (epz_lf _)) | exact .lf (lf_fnrp (lf_rp1 (f := rz) (fun _ => rfl))) | exact .lf (.fn (fun d h => by cases h) (fun d h => by cases h)))) (Ez.r_upto _ (by omega)) (by first | exact .val _ | exact lf_ints (.inl rfl) | exact lf_ints (.inr rfl) | exact .any | exact D.flat_lf rfl | exact .tup (lf_cons (lf_ints (.inl rfl)) (lf_cons (.val _) lf_nil)) | exact lf_fnrp (lf_rp1 (f := Ev.z) (fun _ => rfl)) | exact lf_map (f := rz) (fun _ => rfl) (.inl rfl) | exact lf_map (f := Ev.z) (fun _ => rfl) (.inl rfl) | exact lf_fnrp (lf_cons (.sl (fun x h => by cases h) (.inl rfl)) lf_nil) | exact lf_mapG (f := epz) epz_lf (.inl rfl) | exact lf_fnrp (lf_rp1 (f := rz) (fun _ => rfl))) ?_
        exact AOps.nil ⟨rfl, rfl, rfl⟩) ?_
  refine n_soft (u := 13) (E := .val (.bool b13)) (b13) rfl rfl rfl (by first | (simp only [nf, Nat.beq] <;> rfl) | rfl) (by cases b13 <;> first | (intro _; rfl) | (intro h; exact absurd h (by decide))) (by cases b13 <;> first | (intro h; exact absurd h (by decide)) | (intro _; exact ⟨_, rfl, by first | (intro h; cases h; done) | decide | simp⟩)) (fun h => by
      cases b13 with
      | false => exact absurd h (by first | decide | simp)
      | true =>
        refine n_call0B rfl cf82 rfl (Eq.trans (by simp only [nl] <;> rfl) (by first | (simp only [nf, Nat.beq] <;> rfl) | rfl)) (by repeat (first | exact .nil | refine .cons ?_ ?_ | exact ren_ints | exact .lf (.val _) | exact .lf (lf_ints (.inl rfl)) | exact .bp ⟨rfl, rfl⟩ | exact .bp (.inl ⟨rfl, rfl⟩) | exact .bp (.inr ⟨rfl, rfl⟩) | exact .lf (D.flat_lf rfl) | exact ren_lits rfl | exact ren_ints | exact ren_map (f := Ev.z) (fun _ => rfl) | exact ren_map (f := rz) (fun _ => rfl) | exact .lf (lf_fnrp (lf_rp1 (f := Ev.z) (fun _ => rfl))) | exact .lf (lf_fnrp hcs) | exact .ro (fun x h => by cases h) | exact ren_mapG (f := epz) epz_lf | exact .lf (lf_fnrp (lf_rp1 (f := rz) (fun _ => rfl))) | exact .lf (.agg (epz_lf _)) | exact .lf (lf_fnrp (lf_rp1 (f := rz) (fun _ => rfl))) | exact .lf (.fn (fun d h => by cases h) (fun d h => by cases h)))) (hqu) (by first | exact .val _ | exact lf_ints (.inl rfl) | exact lf_ints (.inr rfl) | exact .any | exact D.flat_lf rfl | exact .tup (lf_cons (lf_ints (.inl rfl)) (lf_cons (.val _) lf_nil)) | exact lf_fnrp (lf_rp1 (f := Ev.z) (fun _ => rfl)) | exact lf_map (f := rz) (fun _ => rfl) (.inl rfl) | exact lf_map (f := Ev.z) (fun _ => rfl) (.inl rfl) | exact lf_fnrp (lf_cons (.sl (fun x h => by cases h) (.inl rfl)) lf_nil) | exact lf_mapG (f := epz) epz_lf (.inl rfl) | exact lf_fnrp (lf_rp1 (f := rz) (fun _ => rfl))) ?_
        exact AOps.nil ⟨rfl, rfl, rfl⟩) ?_
  refine n_pick_and rfl (by first | (simp only [nf, Nat.beq] <;> rfl) | rfl) (fun h => by cases b13 with | false => exact absurd h (by decide) | true => exact (by first | (simp only [nf, Nat.beq] <;> rfl) | rfl)) ?_
  refine n_move rfl (by first | (simp only [nf, Nat.beq] <;> rfl) | rfl) ?_
  refine AOps.name (u := 21) (fun z => .val (.bool z)) (by first | (simp only [nf, Nat.beq] <;> rfl) | rfl) (fun b21 hb21 => ?_)
  refine n_soft (u := 21) (E := .val (.bool b21)) (b21) rfl rfl rfl (by first | (simp only [nf, Nat.beq] <;> rfl) | rfl) (by cases b21 <;> first | (intro _; rfl) | (intro h; exact absurd h (by decide))) (by cases b21 <;> first | (intro h; exact absurd h (by decide)) | (intro _; exact ⟨_, rfl, by first | (intro h; cases h; done) | decide | simp⟩)) (fun h => by
      cases b21 with
      | false => exact absurd h (by first | decide | simp)
      | true =>
        refine n_move rfl (by first | (simp only [nf, Nat.beq] <;> rfl) | rfl) ?_
        exact AOps.nil ⟨rfl, rfl, rfl⟩) ?_
  refine n_soft (u := 21) (E := .val (.bool b21)) (b21) rfl rfl rfl (by first | (simp only [nf, Nat.beq] <;> rfl) | rfl) (by cases b21 <;> first | (intro _; rfl) | (intro h; exact absurd h (by decide))) (by cases b21 <;> first | (intro h; exact absurd h (by decide)) | (intro _; exact ⟨_, rfl, by first | (intro h; cases h; done) | decide | simp⟩)) (fun h => by
      cases b21 with
      | false => exact absurd h (by first | decide | simp)
      | true =>
        refine n_call0B rfl cf102 rfl (Eq.trans (by simp only [nl] <;> rfl) (by first | (simp only [nf, Nat.beq] <;> rfl) | rfl)) (by repeat (first | exact .nil | refine .cons ?_ ?_ | exact ren_ints | exact .lf (.val _) | exact .lf (lf_ints (.inl rfl)) | exact .bp ⟨rfl, rfl⟩ | exact .bp (.inl ⟨rfl, rfl⟩) | exact .bp (.inr ⟨rfl, rfl⟩) | exact .lf (D.flat_lf rfl) | exact ren_lits rfl | exact ren_ints | exact ren_map (f := Ev.z) (fun _ => rfl) | exact ren_map (f := rz) (fun _ => rfl) | exact .lf (lf_fnrp (lf_rp1 (f := Ev.z) (fun _ => rfl))) | exact .lf (lf_fnrp hcs) | exact .ro (fun x h => by cases h) | exact ren_mapG (f := epz) epz_lf | exact .lf (lf_fnrp (lf_rp1 (f := rz) (fun _ => rfl))) | exact .lf (.agg (epz_lf _)) | exact .lf (lf_fnrp (lf_rp1 (f := rz) (fun _ => rfl))) | exact .lf (.fn (fun d h => by cases h) (fun d h => by cases h)))) (Ez.l_epochs _ (by omega)) (by first | exact .val _ | exact lf_ints (.inl rfl) | exact lf_ints (.inr rfl) | exact .any | exact D.flat_lf rfl | exact .tup (lf_cons (lf_ints (.inl rfl)) (lf_cons (.val _) lf_nil)) | exact lf_fnrp (lf_rp1 (f := Ev.z) (fun _ => rfl)) | exact lf_map (f := rz) (fun _ => rfl) (.inl rfl) | exact lf_map (f := Ev.z) (fun _ => rfl) (.inl rfl) | exact lf_fnrp (lf_cons (.sl (fun x h => by cases h) (.inl rfl)) lf_nil) | exact lf_mapG (f := epz) epz_lf (.inl rfl) | exact lf_fnrp (lf_rp1 (f := rz) (fun _ => rfl))) ?_
        exact AOps.nil ⟨rfl, rfl, rfl⟩) ?_
  refine n_soft (u := 21) (E := .val (.bool b21)) (b21) rfl rfl rfl (by first | (simp only [nf, Nat.beq] <;> rfl) | rfl) (by cases b21 <;> first | (intro _; rfl) | (intro h; exact absurd h (by decide))) (by cases b21 <;> first | (intro h; exact absurd h (by decide)) | (intro _; exact ⟨_, rfl, by first | (intro h; cases h; done) | decide | simp⟩)) (fun h => by
      cases b21 with
      | false => exact absurd h (by first | decide | simp)
      | true =>
        refine n_call0B rfl cf101 rfl (Eq.trans (by simp only [nl] <;> rfl) (by first | (simp only [nf, Nat.beq] <;> rfl) | rfl)) (by repeat (first | exact .nil | refine .cons ?_ ?_ | exact ren_ints | exact .lf (.val _) | exact .lf (lf_ints (.inl rfl)) | exact .bp ⟨rfl, rfl⟩ | exact .bp (.inl ⟨rfl, rfl⟩) | exact .bp (.inr ⟨rfl, rfl⟩) | exact .lf (D.flat_lf rfl) | exact ren_lits rfl | exact ren_ints | exact ren_map (f := Ev.z) (fun _ => rfl) | exact ren_map (f := rz) (fun _ => rfl) | exact .lf (lf_fnrp (lf_rp1 (f := Ev.z) (fun _ => rfl))) | exact .lf (lf_fnrp hcs) | exact .ro (fun x h => by cases h) | exact ren_mapG (f := epz) epz_lf | exact .lf (lf_fnrp (lf_rp1 (f := rz) (fun _ => rfl))) | exact .lf (.agg (epz_lf _)) | exact .lf (lf_fnrp (lf_rp1 (f := rz) (fun _ => rfl))) | exact .lf (.fn (fun d h => by cases h) (fun d h => by cases h)))) (hp) (by first | exact .val _ | exact lf_ints (.inl rfl) | exact lf_ints (.inr rfl) | exact .any | exact D.flat_lf rfl | exact .tup (lf_cons (lf_ints (.inl rfl)) (lf_cons (.val _) lf_nil)) | exact lf_fnrp (lf_rp1 (f := Ev.z) (fun _ => rfl)) | exact lf_map (f := rz) (fun _ => rfl) (.inl rfl) | exact lf_map (f := Ev.z) (fun _ => rfl) (.inl rfl) | exact lf_fnrp (lf_cons (.sl (fun x h => by cases h) (.inl rfl)) lf_nil) | exact lf_mapG (f := epz) epz_lf (.inl rfl) | exact lf_fnrp (lf_rp1 (f := rz) (fun _ => rfl))) ?_
        exact AOps.nil ⟨rfl, rfl, rfl⟩) ?_
  refine n_soft (u := 21) (E := .val (.bool b21)) (b21) rfl rfl rfl (by first | (simp only [nf, Nat.beq] <;> rfl) | rfl) (by cases b21 <;> first | (intro _; rfl) | (intro h; exact absurd h (by decide))) (by cases b21 <;> first | (intro h; exact absurd h (by decide)) | (intro _; exact ⟨_, rfl, by first | (intro h; cases h; done) | decide | simp⟩)) (fun h => by
      cases b21 with
      | false => exact absurd h (by first | decide | simp)
      | true =>
        refine n_move rfl (by first | (simp only [nf, Nat.beq] <;> rfl) | rfl) ?_
        exact AOps.nil ⟨rfl, rfl, rfl⟩) ?_
  refine n_soft (u := 21) (E := .val (.bool b21)) (b21) rfl rfl rfl (by first | (simp only [nf, Nat.beq] <;> rfl) | rfl) (by cases b21 <;> first | (intro _; rfl) | (intro h; exact absurd h (by decide))) (by cases b21 <;> first | (intro h; exact absurd h (by decide)) | (intro _; exact ⟨_, rfl, by first | (intro h; cases h; done) | decide | simp⟩)) (fun h => by
      cases b21 with
      | false => exact absurd h (by first | decide | simp)
      | true =>
        refine n_call0B rfl cf120 rfl (Eq.trans (by simp only [nl] <;> rfl) (by first | (simp only [nf, Nat.beq] <;> rfl) | rfl)) (by repeat (first | exact .nil | refine .cons ?_ ?_ | exact ren_ints | exact .lf (.val _) | exact .lf (lf_ints (.inl rfl)) | exact .bp ⟨rfl, rfl⟩ | exact .bp (.inl ⟨rfl, rfl⟩) | exact .bp (.inr ⟨rfl, rfl⟩) | exact .lf (D.flat_lf rfl) | exact ren_lits rfl | exact ren_ints | exact ren_map (f := Ev.z) (fun _ => rfl) | exact ren_map (f := rz) (fun _ => rfl) | exact .lf (lf_fnrp (lf_rp1 (f := Ev.z) (fun _ => rfl))) | exact .lf (lf_fnrp hcs) | exact .ro (fun x h => by cases h) | exact ren_mapG (f := epz) epz_lf | exact .lf (lf_fnrp (lf_rp1 (f := rz) (fun _ => rfl))) | exact .lf (.agg (epz_lf _)) | exact .lf (lf_fnrp (lf_rp1 (f := rz) (fun _ => rfl))) | exact .lf (.fn (fun d h => by cases h) (fun d h => by cases h)))) (Ez.r_epochs _ (by omega)) (by first | exact .val _ | exact lf_ints (.inl rfl) | exact lf_ints (.inr rfl) | exact .any | exact D.flat_lf rfl | exact .tup (lf_cons (lf_ints (.inl rfl)) (lf_cons (.val _) lf_nil)) | exact lf_fnrp (lf_rp1 (f := Ev.z) (fun _ => rfl)) | exact lf_map (f := rz) (fun _ => rfl) (.inl rfl) | exact lf_map (f := Ev.z) (fun _ => rfl) (.inl rfl) | exact lf_fnrp (lf_cons (.sl (fun x h => by cases h) (.inl rfl)) lf_nil) | exact lf_mapG (f := epz) epz_lf (.inl rfl) | exact lf_fnrp (lf_rp1 (f := rz) (fun _ => rfl))) ?_
        exact AOps.nil ⟨rfl, rfl, rfl⟩) ?_
  refine n_soft (u := 21) (E := .val (.bool b21)) (b21) rfl rfl rfl (by first | (simp only [nf, Nat.beq] <;> rfl) | rfl) (by cases b21 <;> first | (intro _; rfl) | (intro h; exact absurd h (by decide))) (by cases b21 <;> first | (intro h; exact absurd h (by decide)) | (intro _; exact ⟨_, rfl, by first | (intro h; cases h; done) | decide | simp⟩)) (fun h => by
      cases b21 with
      | false => exact absurd h (by first | decide | simp)
      | true =>
        refine n_move rfl (by first | (simp only [nf, Nat.beq] <;> rfl) | rfl) ?_
        exact AOps.nil ⟨rfl, rfl, rfl⟩) ?_
  refine n_soft (u := 21) (E := .val (.bool b21)) (b21) rfl rfl rfl (by first | (simp only [nf, Nat.beq] <;> rfl) | rfl) (by cases b21 <;> first | (intro _; rfl) | (intro h; exact absurd h (by decide))) (by cases b21 <;> first | (intro h; exact absurd h (by decide)) | (intro _; exact ⟨_, rfl, by first | (intro h; cases h; done) | decide | simp⟩)) (fun h => by
      cases b21 with
      | false => exact absurd h (by first | decide | simp)
      | true =>
        refine n_call0B rfl cf119 rfl (Eq.trans (by simp only [nl] <;> rfl) (by first | (simp only [nf, Nat.beq] <;> rfl) | rfl)) (by repeat (first | exact .nil | refine .cons ?_ ?_ | exact ren_ints | exact .lf (.val _) | exact .lf (lf_ints (.inl rfl)) | exact .bp ⟨rfl, rfl⟩ | exact .bp (.inl ⟨rfl, rfl⟩) | exact .bp (.inr ⟨rfl, rfl⟩) | exact .lf (D.flat_lf rfl) | exact ren_lits rfl | exact ren_ints | exact ren_map (f := Ev.z) (fun _ => rfl) | exact ren_map (f := rz) (fun _ => rfl) | exact .lf (lf_fnrp (lf_rp1 (f := Ev.z) (fun _ => rfl))) | exact .lf (lf_fnrp hcs) | exact .ro (fun x h => by cases h) | exact ren_mapG (f := epz) epz_lf | exact .lf (lf_fnrp (lf_rp1 (f := rz) (fun _ => rfl))) | exact .lf (.agg (epz_lf _)) | exact .lf (lf_fnrp (lf_rp1 (f := rz) (fun _ => rfl))) | exact .lf (.fn (fun d h => by cases h) (fun d h => by cases h)))) (hqe) (by first | exact .val _ | exact lf_ints (.inl rfl) | exact lf_ints (.inr rfl) | exact .any | exact D.flat_lf rfl | exact .tup (lf_cons (lf_ints (.inl rfl)) (lf_cons (.val _) lf_nil)) | exact lf_fnrp (lf_rp1 (f := Ev.z) (fun _ => rfl)) | exact lf_map (f := rz) (fun _ => rfl) (.inl rfl) | exact lf_map (f := Ev.z) (fun _ => rfl) (.inl rfl) | exact lf_fnrp (lf_cons (.sl (fun x h => by cases h) (.inl rfl)) lf_nil) | exact lf_mapG (f := epz) epz_lf (.inl rfl) | exact lf_fnrp (lf_rp1 (f := rz) (fun _ => rfl))) ?_
        exact AOps.nil ⟨rfl, rfl, rfl⟩) ?_
  refine n_pick_and rfl (by first | (simp only [nf, Nat.beq] <;> rfl) | rfl) (fun h => by cases b21 with | false => exact absurd h (by decide) | true => exact (by first | (simp only [nf, Nat.beq] <;> rfl) | rfl)) ?_
  refine n_assign rfl (by first | (simp only [nf, Nat.beq] <;> rfl) | rfl) ?_
  subst hb5
  subst hb13
  subst hb21
  refine AOps.nil ?_
  refine AWP.ret ?_
  refine fin_pure (.cons (rv_tmp (by first | (simp only [nf, Nat.beq] <;> rfl) | rfl)) .nil) (by first | (simp only [nf, Nat.beq] <;> rfl) | rfl) ?_
  first | exact ren_flat rfl rfl | exact ren_flat rfl (congrArg vb (by simp))

end Go.Proofs.Ytanfmpkjcoolmaa.Eu
