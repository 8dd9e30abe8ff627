/- The bytes of packets. -/
import Derived.Test.YtanfmpkjcoolmaaSbA
import Derived.Test.YtanfmpkjcoolmaaAbsZm
set_option linter.unusedVariables false
set_option linter.unusedSimpArgs false
namespace Go.Proofs.Ytanfmpkjcoolmaa.Sc
open Go Go.Abs Go.Proofs.Ytanfmpkjcoolmaa.Pk Sb
attribute [local irreducible] AWP AOps Does

theorem cf108 : CF Try.prog 108 := ⟨_, Try.func108, by kernel_rfl, by kernel_rfl⟩
theorem cf109 : CF Try.prog 109 := ⟨_, Try.func109, by kernel_rfl, by kernel_rfl⟩
theorem cf112 : CF Try.prog 112 := ⟨_, Try.func112, by kernel_rfl, by kernel_rfl⟩
theorem cf114 : CF Try.prog 114 := ⟨_, Try.func114, by kernel_rfl, by kernel_rfl⟩
theorem cf149 : CF Try.prog 149 := ⟨_, Try.func149, by kernel_rfl, by kernel_rfl⟩
theorem cf150 : CF Try.prog 150 := ⟨_, Try.func150, by kernel_rfl, by kernel_rfl⟩
theorem cf151 : CF Try.prog 151 := ⟨_, Try.func151, by kernel_rfl, by kernel_rfl⟩
theorem cf152 : CF Try.prog 152 := ⟨_, Try.func152, by kernel_rfl, by kernel_rfl⟩
theorem cf153 : CF Try.prog 153 := ⟨_, Try.func153, by kernel_rfl, by kernel_rfl⟩
theorem cf154 : CF Try.prog 154 := ⟨_, Try.func154, by kernel_rfl, by kernel_rfl⟩
theorem cf155 : CF Try.prog 155 := ⟨_, Try.func155, by kernel_rfl, by kernel_rfl⟩
theorem cf156 : CF Try.prog 156 := ⟨_, Try.func156, by kernel_rfl, by kernel_rfl⟩
theorem cf157 : CF Try.prog 157 := ⟨_, Try.func157, by kernel_rfl, by kernel_rfl⟩
theorem cf198 : CF Try.prog 198 := ⟨_, Try.func198, by kernel_rfl, by kernel_rfl⟩
theorem cf199 : CF Try.prog 199 := ⟨_, Try.func199, by kernel_rfl, by kernel_rfl⟩
theorem cf208 : CF Try.prog 208 := ⟨_, Try.func208, by kernel_rfl, by kernel_rfl⟩
theorem cf209 : CF Try.prog 209 := ⟨_, Try.func209, by kernel_rfl, by kernel_rfl⟩
theorem cf238 : CF Try.prog 238 := ⟨_, Try.func238, by kernel_rfl, by kernel_rfl⟩
theorem cf239 : CF Try.prog 239 := ⟨_, Try.func239, by kernel_rfl, by kernel_rfl⟩
theorem cf40 : CF Try.prog 40 := ⟨_, Try.func40, by kernel_rfl, by kernel_rfl⟩
theorem cf75 : CF Try.prog 75 := ⟨_, Try.func75, by kernel_rfl, by kernel_rfl⟩
theorem cf76 : CF Try.prog 76 := ⟨_, Try.func76, by kernel_rfl, by kernel_rfl⟩
theorem cf77 : CF Try.prog 77 := ⟨_, Try.func77, by kernel_rfl, by kernel_rfl⟩
theorem cf78 : CF Try.prog 78 := ⟨_, Try.func78, by kernel_rfl, by kernel_rfl⟩
theorem cf84 : CF Try.prog 84 := ⟨_, Try.func84, by kernel_rfl, by kernel_rfl⟩
theorem cf85 : CF Try.prog 85 := ⟨_, Try.func85, by kernel_rfl, by kernel_rfl⟩
theorem cf87 : CF Try.prog 87 := ⟨_, Try.func87, by kernel_rfl, by kernel_rfl⟩
theorem cf89 : CF Try.prog 89 := ⟨_, Try.func89, by kernel_rfl, by kernel_rfl⟩
theorem cf91 : CF Try.prog 91 := ⟨_, Try.func91, by kernel_rfl, by kernel_rfl⟩
theorem cf92 : CF Try.prog 92 := ⟨_, Try.func92, by kernel_rfl, by kernel_rfl⟩
theorem ei5 : EI Try.prog 5 1 1 (.int .u8 0) := EI.of (by kernel_rfl) rfl rfl
theorem fd141_0 : FD Try.prog 141 0 2 0 := ⟨_, _, Try.underlying141, rfl, rfl, rfl⟩
theorem fd141_1 : FD Try.prog 141 1 2 1 := ⟨_, _, Try.underlying141, rfl, rfl, rfl⟩
theorem fd141_2 : FD Try.prog 141 2 2 2 := ⟨_, _, Try.underlying141, rfl, rfl, rfl⟩
theorem fd141_3 : FD Try.prog 141 3 2 3 := ⟨_, _, Try.underlying141, rfl, rfl, rfl⟩
theorem fd141_4 : FD Try.prog 141 4 2 4 := ⟨_, _, Try.underlying141, rfl, rfl, rfl⟩
theorem fd141_5 : FD Try.prog 141 5 139 5 := ⟨_, _, Try.underlying141, rfl, rfl, rfl⟩
theorem fd157_0 : FD Try.prog 157 0 2 0 := ⟨_, _, Try.underlying157, rfl, rfl, rfl⟩
theorem fd157_1 : FD Try.prog 157 1 2 1 := ⟨_, _, Try.underlying157, rfl, rfl, rfl⟩
theorem fd157_2 : FD Try.prog 157 2 2 2 := ⟨_, _, Try.underlying157, rfl, rfl, rfl⟩
theorem fd157_3 : FD Try.prog 157 3 2 3 := ⟨_, _, Try.underlying157, rfl, rfl, rfl⟩
theorem fd157_4 : FD Try.prog 157 4 22 4 := ⟨_, _, Try.underlying157, rfl, rfl, rfl⟩
theorem si157 : SI Try.prog 157 #[(0, 1), (1, 1), (2, 1), (3, 1), (4, 1)] (.agg #[.int .i64 0, .int .i64 0, .int .i64 0, .int .i64 0, .slice none 0 0]) := ⟨⟨_, Try.underlying157, fun w => by kernel_rfl⟩, by kernel_rfl⟩
theorem ti139 : TI Try.prog 139 1 false := ⟨by kernel_rfl, by kernel_rfl⟩
theorem ti141 : TI Try.prog 141 6 true := ⟨by kernel_rfl, by kernel_rfl⟩
theorem ti157 : TI Try.prog 157 5 true := ⟨by kernel_rfl, by kernel_rfl⟩
theorem ti2 : TI Try.prog 2 1 false := ⟨by kernel_rfl, by kernel_rfl⟩
theorem ti22 : TI Try.prog 22 1 false := ⟨by kernel_rfl, by kernel_rfl⟩
theorem ti94 : TI Try.prog 94 1 false := ⟨by kernel_rfl, by kernel_rfl⟩
theorem zi141 : (Try.prog.info? 141).map (·.zero) = some (some (.agg #[.int .i64 0, .int .i64 0, .int .i64 0, .int .i64 0, .int .i64 0, .slice none 0 0])) := by kernel_rfl
theorem zi157 : (Try.prog.info? 157).map (·.zero) = some (some (.agg #[.int .i64 0, .int .i64 0, .int .i64 0, .int .i64 0, .slice none 0 0])) := by kernel_rfl
theorem zi2 : (Try.prog.info? 2).map (·.zero) = some (some (.int .i64 0)) := by kernel_rfl
theorem zi94 : (Try.prog.info? 94).map (·.zero) = some (some (.pointer none)) := by kernel_rfl

attribute [local irreducible] Up.int Up.str Up.close Up.rest Up.clr Up.spoil Up.w Up.flag Ss.chk Pq.chk Ss.take Ss.answer Pq.bytes Pq.parse
theorem l_any (u : Up) (hu : u.ok) : Does Try.prog 238 [.bp 0 0] [.box [.bp 1 0], .box (Up.z u)] (vi u.w.1) [.box [.bp 1 0], .box (Up.z u.w.2)] := by
  refine Does.of_body (rvs := [.tmp 1]) Try.func238 rfl rfl rfl rfl ?_
  refine AWP.seq ?_
  refine AWP.region ?_
  refine n_assign rfl (by first|simp only[nf,Nat.beq]<;>rfl|rfl) ?_
  refine AOps.nil ?_
  refine AWP.seq ?_
  refine AWP.region ?_
  refine n_load rfl ti94 (by first|simp only[nf,Nat.beq]<;>rfl|rfl) (by first|simp only[nf,Nat.beq]<;>rfl|rfl) rfl (by first|simp only[nf,Nat.beq]<;>rfl|rfl) ?_
  refine n_callBoxB rfl cf85 rfl (Eq.trans (by simp only [nl] <;> rfl) (by first|simp only[nf,Nat.beq]<;>rfl|rfl)) (by repeat (first | exact .nil | refine .cons ?_ ?_ | exact ren_ints | exact .lf (.val _) | exact .lf (lf_ints (.inl rfl)) | exact .bp ⟨rfl, rfl⟩ | exact .bp (.inl ⟨rfl, rfl⟩) | exact .bp (.inr ⟨rfl, rfl⟩) | exact ren_bys0 rfl | exact .lf (D.flat_lf rfl) | exact ren_lits rfl | exact .lf (lf_ssz _) | exact .lf (lf_pqz _) | exact ren_q0 rfl | exact ren_pq rfl | exact ren_nl0 | exact ren_sq | exact .lf (.fn (fun d h => by cases h) (fun d h => by cases h)))) (by rfl) (by repeat (first | exact .nil | refine .cons ?_ ?_ | exact ren_ints | exact .lf (.val _) | exact .lf (lf_ints (.inl rfl)) | exact .bp ⟨rfl, rfl⟩ | exact .bp (.inl ⟨rfl, rfl⟩) | exact .bp (.inr ⟨rfl, rfl⟩) | exact ren_bys0 rfl | exact .lf (D.flat_lf rfl) | exact ren_lits rfl | exact .lf (lf_ssz _) | exact .lf (lf_pqz _) | exact ren_q0 rfl | exact ren_pq rfl | exact ren_nl0 | exact ren_sq | exact .lf (.fn (fun d h => by cases h) (fun d h => by cases h)))) (Rd.U_w u hu) (by repeat (first | exact lf_nil | refine lf_cons ?_ ?_ | exact .val _ | exact lf_ints (.inl rfl))) (by first | exact .val _ | exact lf_ints (.inl rfl) | exact lf_ints (.inr rfl) | exact .any | exact D.flat_lf rfl | exact lf_ssz _ | exact lf_pqz _ | exact lf_nl0 | exact .tup (lf_cons (lf_ssz _) (lf_cons (.val _) lf_nil)) | exact .tup (lf_cons (lf_pqz _) (lf_cons (.val _) lf_nil)) | exact .tup (lf_cons (lf_ints (.inl rfl)) (lf_cons (.val _) lf_nil)) | exact .tup (lf_cons (lf_ssz _) (lf_cons (lf_ints (.inl rfl)) (lf_cons (.val _) lf_nil))) | exact .tup (lf_cons (lf_ssz _) (lf_cons (lf_ssz _) (lf_cons (.val _) lf_nil))) | exact lf_sent) (by first|simp only[nf,Nat.beq]<;>rfl|rfl) ?_
  refine n_assign rfl (by first|simp only[nf,Nat.beq]<;>rfl|rfl) ?_
  refine AOps.nil ?_
  refine AWP.ret ?_
  refine fin_box2 (.cons (rv_tmp (by first|simp only[nf,Nat.beq]<;>rfl|rfl)) .nil) (by first|simp only[nf,Nat.beq]<;>rfl|rfl) ?_ rfl rfl ?_ ?_
  · exact ren_flat rfl rfl
  · exact .cons (.bp ⟨rfl, rfl⟩) .nil
  · exact renU rfl rfl

theorem l_wide (u : Up) (hu : u.ok) : Does Try.prog 239 [.bp 0 0] [.box (Up.rz u.clr)] (vi u.w.1) [.box (Up.rz u.w.2.clr)] := by
  refine Does.of_body (rvs := [.tmp 2]) Try.func239 rfl rfl rfl rfl ?_
  refine AWP.seq ?_
  refine AWP.region ?_
  refine n_assign rfl (by first|simp only[nf,Nat.beq]<;>rfl|rfl) ?_
  refine AOps.nil ?_
  refine AWP.seq ?_
  refine AWP.region ?_
  refine n_move rfl (by first|simp only[nf,Nat.beq]<;>rfl|rfl) ?_
  refine n_callBoxB rfl cf198 rfl (Eq.trans (by simp only [nl] <;> rfl) (by first|simp only[nf,Nat.beq]<;>rfl|rfl)) (by repeat (first | exact .nil | refine .cons ?_ ?_ | exact ren_ints | exact .lf (.val _) | exact .lf (lf_ints (.inl rfl)) | exact .bp ⟨rfl, rfl⟩ | exact .bp (.inl ⟨rfl, rfl⟩) | exact .bp (.inr ⟨rfl, rfl⟩) | exact ren_bys0 rfl | exact .lf (D.flat_lf rfl) | exact ren_lits rfl | exact .lf (lf_ssz _) | exact .lf (lf_pqz _) | exact ren_q0 rfl | exact ren_pq rfl | exact ren_nl0 | exact ren_sq | exact .lf (.fn (fun d h => by cases h) (fun d h => by cases h)))) (by rfl) (by repeat (first | exact .nil | refine .cons ?_ ?_ | exact ren_ints | exact .lf (.val _) | exact .lf (lf_ints (.inl rfl)) | exact .bp ⟨rfl, rfl⟩ | exact .bp (.inl ⟨rfl, rfl⟩) | exact .bp (.inr ⟨rfl, rfl⟩) | exact ren_bys0 rfl | exact .lf (D.flat_lf rfl) | exact ren_lits rfl | exact .lf (lf_ssz _) | exact .lf (lf_pqz _) | exact ren_q0 rfl | exact ren_pq rfl | exact ren_nl0 | exact ren_sq | exact .lf (.fn (fun d h => by cases h) (fun d h => by cases h)))) (Rd.R_w u hu) (by repeat (first | exact lf_nil | refine lf_cons ?_ ?_ | exact .val _ | exact lf_ints (.inl rfl))) (by first | exact .val _ | exact lf_ints (.inl rfl) | exact lf_ints (.inr rfl) | exact .any | exact D.flat_lf rfl | exact lf_ssz _ | exact lf_pqz _ | exact lf_nl0 | exact .tup (lf_cons (lf_ssz _) (lf_cons (.val _) lf_nil)) | exact .tup (lf_cons (lf_pqz _) (lf_cons (.val _) lf_nil)) | exact .tup (lf_cons (lf_ints (.inl rfl)) (lf_cons (.val _) lf_nil)) | exact .tup (lf_cons (lf_ssz _) (lf_cons (lf_ints (.inl rfl)) (lf_cons (.val _) lf_nil))) | exact .tup (lf_cons (lf_ssz _) (lf_cons (lf_ssz _) (lf_cons (.val _) lf_nil))) | exact lf_sent) (by first|simp only[nf,Nat.beq]<;>rfl|rfl) ?_
  refine n_assign rfl (by first|simp only[nf,Nat.beq]<;>rfl|rfl) ?_
  refine AOps.nil ?_
  refine AWP.ret ?_
  refine fin_box (.cons (rv_tmp (by first|simp only[nf,Nat.beq]<;>rfl|rfl)) .nil) (by first|simp only[nf,Nat.beq]<;>rfl|rfl) ?_ rfl ?_
  · exact ren_flat rfl rfl
  · exact renR rfl rfl

set_option maxHeartbeats 2000000 in
theorem pair : Does Try.prog 109 [] [] (.tup [.agg (ssz ⟨5, 7, 0, 0, 1⟩), .agg (ssz ⟨7, 5, 0, 0, 1⟩), vb true]) [] := by
  refine Does.of_body (rvs := [.cell 0 141, .cell 1 141, .tmp 2]) Try.func109 rfl rfl rfl rfl ?_
  obtain ⟨⟨n5, n7⟩, ⟨a1, t1⟩, ⟨a2, t2⟩, _, _⟩ := live_facts
  have h5 := l_new 5
  rw [n5, if_pos (by decide)] at h5
  have h7 := l_new 7
  rw [n7, if_pos (by decide)] at h7
  have k1 := l_answer ⟨5, 0, 0, 0, 1⟩
  rw [a1] at k1
  have k2 := l_take ⟨7, 0, 0, 0, 1⟩ ⟨5, 0, 0, 0, []⟩ (by simp [L40])
  rw [t1] at k2
  have k3 := l_answer ⟨7, 5, 0, 0, 1⟩
  rw [a2] at k3
  have k4 := l_take ⟨5, 0, 0, 0, 1⟩ ⟨7, 5, 0, 0, []⟩ (by simp [L40])
  rw [t2] at k4
  refine AWP.seq ?_
  refine AWP.region ?_
  refine n_alloc rfl zi141 rfl (by first|simp only[nf,Nat.beq]<;>rfl|rfl) (by first|simp only[nf,Nat.beq]<;>rfl|rfl) ?_
  refine n_alloc rfl zi141 rfl (by first|simp only[nf,Nat.beq]<;>rfl|rfl) (by first|simp only[nf,Nat.beq]<;>rfl|rfl) ?_
  refine n_assign rfl (by first|simp only[nf,Nat.beq]<;>rfl|rfl) ?_
  refine AOps.nil ?_
  refine AWP.seq ?_
  refine AWP.region ?_
  refine n_call0B rfl cf114 rfl (Eq.trans (by simp only [nl] <;> rfl) (by first|simp only[nf,Nat.beq]<;>rfl|rfl)) (by repeat (first | exact .nil | refine .cons ?_ ?_ | exact ren_ints | exact .lf (.val _) | exact .lf (lf_ints (.inl rfl)) | exact .bp ⟨rfl, rfl⟩ | exact .bp (.inl ⟨rfl, rfl⟩) | exact .bp (.inr ⟨rfl, rfl⟩) | exact ren_bys0 rfl | exact .lf (D.flat_lf rfl) | exact ren_lits rfl | exact .lf (lf_ssz _) | exact .lf (lf_pqz _) | exact ren_q0 rfl | exact ren_pq rfl | exact ren_nl0 | exact ren_sq | exact .lf (.fn (fun d h => by cases h) (fun d h => by cases h)))) (h5) (by first | exact .val _ | exact lf_ints (.inl rfl) | exact lf_ints (.inr rfl) | exact .any | exact D.flat_lf rfl | exact lf_ssz _ | exact lf_pqz _ | exact lf_nl0 | exact .tup (lf_cons (lf_ssz _) (lf_cons (.val _) lf_nil)) | exact .tup (lf_cons (lf_pqz _) (lf_cons (.val _) lf_nil)) | exact .tup (lf_cons (lf_ints (.inl rfl)) (lf_cons (.val _) lf_nil)) | exact .tup (lf_cons (lf_ssz _) (lf_cons (lf_ints (.inl rfl)) (lf_cons (.val _) lf_nil))) | exact .tup (lf_cons (lf_ssz _) (lf_cons (lf_ssz _) (lf_cons (.val _) lf_nil))) | exact lf_sent) ?_
  refine n_move rfl (by first|simp only[nf,Nat.beq]<;>rfl|rfl) ?_
  refine n_extract rfl (by first|simp only[nf,Nat.beq]<;>rfl|rfl) rfl ?_
  refine n_extract rfl (by first|simp only[nf,Nat.beq]<;>rfl|rfl) rfl ?_
  refine n_alloc rfl zi141 rfl (by first|simp only[nf,Nat.beq]<;>rfl|rfl) (by first|simp only[nf,Nat.beq]<;>rfl|rfl) ?_
  refine n_store ti141 (by first|simp only[nf,Nat.beq]<;>rfl|rfl) rfl (by first|simp only[nf,Nat.beq]<;>rfl|rfl) rfl (by first|simp only[nf,Nat.beq]<;>rfl|rfl) rfl rfl rfl (by first|simp only[nf,Nat.beq]<;>rfl|rfl) ?_
  refine n_assign rfl (by first|simp only[nf,Nat.beq]<;>rfl|rfl) ?_
  refine AOps.nil ?_
  refine AWP.seq ?_
  refine AWP.region ?_
  refine n_call0B rfl cf114 rfl (Eq.trans (by simp only [nl] <;> rfl) (by first|simp only[nf,Nat.beq]<;>rfl|rfl)) (by repeat (first | exact .nil | refine .cons ?_ ?_ | exact ren_ints | exact .lf (.val _) | exact .lf (lf_ints (.inl rfl)) | exact .bp ⟨rfl, rfl⟩ | exact .bp (.inl ⟨rfl, rfl⟩) | exact .bp (.inr ⟨rfl, rfl⟩) | exact ren_bys0 rfl | exact .lf (D.flat_lf rfl) | exact ren_lits rfl | exact .lf (lf_ssz _) | exact .lf (lf_pqz _) | exact ren_q0 rfl | exact ren_pq rfl | exact ren_nl0 | exact ren_sq | exact .lf (.fn (fun d h => by cases h) (fun d h => by cases h)))) (h7) (by first | exact .val _ | exact lf_ints (.inl rfl) | exact lf_ints (.inr rfl) | exact .any | exact D.flat_lf rfl | exact lf_ssz _ | exact lf_pqz _ | exact lf_nl0 | exact .tup (lf_cons (lf_ssz _) (lf_cons (.val _) lf_nil)) | exact .tup (lf_cons (lf_pqz _) (lf_cons (.val _) lf_nil)) | exact .tup (lf_cons (lf_ints (.inl rfl)) (lf_cons (.val _) lf_nil)) | exact .tup (lf_cons (lf_ssz _) (lf_cons (lf_ints (.inl rfl)) (lf_cons (.val _) lf_nil))) | exact .tup (lf_cons (lf_ssz _) (lf_cons (lf_ssz _) (lf_cons (.val _) lf_nil))) | exact lf_sent) ?_
  refine n_move rfl (by first|simp only[nf,Nat.beq]<;>rfl|rfl) ?_
  refine n_extract rfl (by first|simp only[nf,Nat.beq]<;>rfl|rfl) rfl ?_
  refine n_extract rfl (by first|simp only[nf,Nat.beq]<;>rfl|rfl) rfl ?_
  refine n_alloc rfl zi141 rfl (by first|simp only[nf,Nat.beq]<;>rfl|rfl) (by first|simp only[nf,Nat.beq]<;>rfl|rfl) ?_
  refine n_store ti141 (by first|simp only[nf,Nat.beq]<;>rfl|rfl) rfl (by first|simp only[nf,Nat.beq]<;>rfl|rfl) rfl (by first|simp only[nf,Nat.beq]<;>rfl|rfl) rfl rfl rfl (by first|simp only[nf,Nat.beq]<;>rfl|rfl) ?_
  refine n_assign rfl (by first|simp only[nf,Nat.beq]<;>rfl|rfl) ?_
  refine AOps.nil ?_
  refine AWP.seq ?_
  refine AWP.any1 8 [.box [vi 0, vi 0, vi 0, vi 0, vi 0, .sl (some true) [] .full], .box [vi 0, vi 0, vi 0, vi 0, vi 0, .sl (some true) [] .full], .box [vi 5, vi 0, vi 0, vi 0, vi 1, .sl none [] .ro], .box [vi 7, vi 5, vi 0, vi 0, vi 1, .sl none [] .ro]] (by kernel_rfl) (by kernel_rfl) (by kernel_rfl) ?_
  refine Walk.ahead [8] (by rfl) (by kernel_rfl) (by rfl) (rs := [5]) (by rfl) (by first|simp only[nf,Nat.beq]<;>rfl|rfl) (fun base => by
      refine n_load rfl ti141 (by first|simp only[nf,Nat.beq]<;>rfl|rfl) (by first|simp only[nf,Nat.beq]<;>rfl|rfl) rfl (by first|simp only[nf,Nat.beq]<;>rfl|rfl) ?_
      exact AOps.nil ⟨rfl, rfl, rfl⟩) ?_
  refine Walk.ahead [8] (by rfl) (by kernel_rfl) (by rfl) (rs := [3]) (by rfl) (by first|simp only[nf,Nat.beq]<;>rfl|rfl) (fun base => by
      refine n_load rfl ti141 (by first|simp only[nf,Nat.beq]<;>rfl|rfl) (by first|simp only[nf,Nat.beq]<;>rfl|rfl) rfl (by first|simp only[nf,Nat.beq]<;>rfl|rfl) ?_
      exact AOps.nil ⟨rfl, rfl, rfl⟩) ?_
  refine Walk.ahead [8] (by rfl) (by kernel_rfl) (by rfl) (rs := [17]) (by rfl) (by first|simp only[nf,Nat.beq]<;>rfl|rfl) (fun base => by
      refine n_call0B rfl cf112 rfl (Eq.trans (by simp only [nl] <;> rfl) (by first|simp only[nf,Nat.beq]<;>rfl|rfl)) (by repeat (first | exact .nil | refine .cons ?_ ?_ | exact ren_ints | exact .lf (.val _) | exact .lf (lf_ints (.inl rfl)) | exact .bp ⟨rfl, rfl⟩ | exact .bp (.inl ⟨rfl, rfl⟩) | exact .bp (.inr ⟨rfl, rfl⟩) | exact ren_bys0 rfl | exact .lf (D.flat_lf rfl) | exact ren_lits rfl | exact .lf (lf_ssz _) | exact .lf (lf_pqz _) | exact ren_q0 rfl | exact ren_pq rfl | exact ren_nl0 | exact ren_sq | exact .lf (.fn (fun d h => by cases h) (fun d h => by cases h)))) (k1) (by first | exact .val _ | exact lf_ints (.inl rfl) | exact lf_ints (.inr rfl) | exact .any | exact D.flat_lf rfl | exact lf_ssz _ | exact lf_pqz _ | exact lf_nl0 | exact .tup (lf_cons (lf_ssz _) (lf_cons (.val _) lf_nil)) | exact .tup (lf_cons (lf_pqz _) (lf_cons (.val _) lf_nil)) | exact .tup (lf_cons (lf_ints (.inl rfl)) (lf_cons (.val _) lf_nil)) | exact .tup (lf_cons (lf_ssz _) (lf_cons (lf_ints (.inl rfl)) (lf_cons (.val _) lf_nil))) | exact .tup (lf_cons (lf_ssz _) (lf_cons (lf_ssz _) (lf_cons (.val _) lf_nil))) | exact lf_sent) ?_
      exact AOps.nil ⟨rfl, rfl, rfl⟩) ?_
  refine Walk.ahead [8] (by rfl) (by kernel_rfl) (by rfl) (rs := [16, 18]) (by rfl) (by first|simp only[nf,Nat.beq]<;>rfl|rfl) (fun base => by
      refine n_call0B rfl cf209 rfl (Eq.trans (by simp only [nl] <;> rfl) (by first|simp only[nf,Nat.beq]<;>rfl|rfl)) (by repeat (first | exact .nil | refine .cons ?_ ?_ | exact ren_ints | exact .lf (.val _) | exact .lf (lf_ints (.inl rfl)) | exact .bp ⟨rfl, rfl⟩ | exact .bp (.inl ⟨rfl, rfl⟩) | exact .bp (.inr ⟨rfl, rfl⟩) | exact ren_bys0 rfl | exact .lf (D.flat_lf rfl) | exact ren_lits rfl | exact .lf (lf_ssz _) | exact .lf (lf_pqz _) | exact ren_q0 rfl | exact ren_pq rfl | exact ren_nl0 | exact ren_sq | exact .lf (.fn (fun d h => by cases h) (fun d h => by cases h)))) (k2) (by first | exact .val _ | exact lf_ints (.inl rfl) | exact lf_ints (.inr rfl) | exact .any | exact D.flat_lf rfl | exact lf_ssz _ | exact lf_pqz _ | exact lf_nl0 | exact .tup (lf_cons (lf_ssz _) (lf_cons (.val _) lf_nil)) | exact .tup (lf_cons (lf_pqz _) (lf_cons (.val _) lf_nil)) | exact .tup (lf_cons (lf_ints (.inl rfl)) (lf_cons (.val _) lf_nil)) | exact .tup (lf_cons (lf_ssz _) (lf_cons (lf_ints (.inl rfl)) (lf_cons (.val _) lf_nil))) | exact .tup (lf_cons (lf_ssz _) (lf_cons (lf_ssz _) (lf_cons (.val _) lf_nil))) | exact lf_sent) ?_
      exact AOps.nil ⟨rfl, rfl, rfl⟩) ?_
  refine Walk.ahead [8] (by rfl) (by kernel_rfl) (by rfl) (rs := [19]) (by rfl) (by first|simp only[nf,Nat.beq]<;>rfl|rfl) (fun base => by
      refine n_move rfl (by first|simp only[nf,Nat.beq]<;>rfl|rfl) ?_
      exact AOps.nil ⟨rfl, rfl, rfl⟩) ?_
  refine Walk.ahead [8] (by rfl) (by kernel_rfl) (by rfl) (rs := [15]) (by rfl) (by first|simp only[nf,Nat.beq]<;>rfl|rfl) (fun base => by
      refine n_extract rfl (by first|simp only[nf,Nat.beq]<;>rfl|rfl) rfl ?_
      exact AOps.nil ⟨rfl, rfl, rfl⟩) ?_
  refine Walk.both (by rfl) (rs := [15]) (by rfl) (by first|simp only[nf,Nat.beq]<;>rfl|rfl) (fun base S' hS' => by
      rcases hS' with rfl | rfl
      all_goals
        refine n_extract rfl (by first|simp only[nf,Nat.beq]<;>rfl|rfl) rfl ?_
        exact AOps.nil ⟨rfl, rfl, rfl⟩) ?_
  refine Walk.both (by rfl) (rs := [15]) (by rfl) (by first|simp only[nf,Nat.beq]<;>rfl|rfl) (fun base S' hS' => by
      rcases hS' with rfl | rfl
      all_goals
        refine n_extract rfl (by first|simp only[nf,Nat.beq]<;>rfl|rfl) rfl ?_
        exact AOps.nil ⟨rfl, rfl, rfl⟩) ?_
  refine Walk.writes (d := .any) (by rfl) (rs := [5, 20]) (by rfl) (by first|simp only[nf,Nat.beq]<;>rfl|rfl) (fun base => by
      refine n_store ti141 (by first|simp only[nf,Nat.beq]<;>rfl|rfl) rfl (by first|simp only[nf,Nat.beq]<;>rfl|rfl) rfl (by first|simp only[nf,Nat.beq]<;>rfl|rfl) rfl rfl rfl (by first|simp only[nf,Nat.beq]<;>rfl|rfl) ?_
      exact AOps.nil ⟨rfl, rfl, rfl⟩) ?_
  refine Walk.done ?_
  refine AWP.seq ?_
  refine AWP.any1 8 [.box [vi 0, vi 0, vi 0, vi 0, vi 0, .sl (some true) [] .full], .box [vi 0, vi 0, vi 0, vi 0, vi 0, .sl (some true) [] .full], .box [vi 5, vi 7, vi 0, vi 0, vi 1, .sl none [] .ro], .box [vi 7, vi 5, vi 0, vi 0, vi 1, .sl none [] .ro]] (by kernel_rfl) (by kernel_rfl) (by kernel_rfl) ?_
  refine Walk.ahead [8] (by rfl) (by kernel_rfl) (by rfl) (rs := [3]) (by rfl) (by first|simp only[nf,Nat.beq]<;>rfl|rfl) (fun base => by
      refine n_load rfl ti141 (by first|simp only[nf,Nat.beq]<;>rfl|rfl) (by first|simp only[nf,Nat.beq]<;>rfl|rfl) rfl (by first|simp only[nf,Nat.beq]<;>rfl|rfl) ?_
      exact AOps.nil ⟨rfl, rfl, rfl⟩) ?_
  refine Walk.ahead [8] (by rfl) (by kernel_rfl) (by rfl) (rs := [5]) (by rfl) (by first|simp only[nf,Nat.beq]<;>rfl|rfl) (fun base => by
      refine n_load rfl ti141 (by first|simp only[nf,Nat.beq]<;>rfl|rfl) (by first|simp only[nf,Nat.beq]<;>rfl|rfl) rfl (by first|simp only[nf,Nat.beq]<;>rfl|rfl) ?_
      exact AOps.nil ⟨rfl, rfl, rfl⟩) ?_
  refine Walk.ahead [8] (by rfl) (by kernel_rfl) (by rfl) (rs := [25]) (by rfl) (by first|simp only[nf,Nat.beq]<;>rfl|rfl) (fun base => by
      refine n_call0B rfl cf112 rfl (Eq.trans (by simp only [nl] <;> rfl) (by first|simp only[nf,Nat.beq]<;>rfl|rfl)) (by repeat (first | exact .nil | refine .cons ?_ ?_ | exact ren_ints | exact .lf (.val _) | exact .lf (lf_ints (.inl rfl)) | exact .bp ⟨rfl, rfl⟩ | exact .bp (.inl ⟨rfl, rfl⟩) | exact .bp (.inr ⟨rfl, rfl⟩) | exact ren_bys0 rfl | exact .lf (D.flat_lf rfl) | exact ren_lits rfl | exact .lf (lf_ssz _) | exact .lf (lf_pqz _) | exact ren_q0 rfl | exact ren_pq rfl | exact ren_nl0 | exact ren_sq | exact .lf (.fn (fun d h => by cases h) (fun d h => by cases h)))) (k3) (by first | exact .val _ | exact lf_ints (.inl rfl) | exact lf_ints (.inr rfl) | exact .any | exact D.flat_lf rfl | exact lf_ssz _ | exact lf_pqz _ | exact lf_nl0 | exact .tup (lf_cons (lf_ssz _) (lf_cons (.val _) lf_nil)) | exact .tup (lf_cons (lf_pqz _) (lf_cons (.val _) lf_nil)) | exact .tup (lf_cons (lf_ints (.inl rfl)) (lf_cons (.val _) lf_nil)) | exact .tup (lf_cons (lf_ssz _) (lf_cons (lf_ints (.inl rfl)) (lf_cons (.val _) lf_nil))) | exact .tup (lf_cons (lf_ssz _) (lf_cons (lf_ssz _) (lf_cons (.val _) lf_nil))) | exact lf_sent) ?_
      exact AOps.nil ⟨rfl, rfl, rfl⟩) ?_
  refine Walk.ahead [8] (by rfl) (by kernel_rfl) (by rfl) (rs := [24, 26]) (by rfl) (by first|simp only[nf,Nat.beq]<;>rfl|rfl) (fun base => by
      refine n_call0B rfl cf209 rfl (Eq.trans (by simp only [nl] <;> rfl) (by first|simp only[nf,Nat.beq]<;>rfl|rfl)) (by repeat (first | exact .nil | refine .cons ?_ ?_ | exact ren_ints | exact .lf (.val _) | exact .lf (lf_ints (.inl rfl)) | exact .bp ⟨rfl, rfl⟩ | exact .bp (.inl ⟨rfl, rfl⟩) | exact .bp (.inr ⟨rfl, rfl⟩) | exact ren_bys0 rfl | exact .lf (D.flat_lf rfl) | exact ren_lits rfl | exact .lf (lf_ssz _) | exact .lf (lf_pqz _) | exact ren_q0 rfl | exact ren_pq rfl | exact ren_nl0 | exact ren_sq | exact .lf (.fn (fun d h => by cases h) (fun d h => by cases h)))) (k4) (by first | exact .val _ | exact lf_ints (.inl rfl) | exact lf_ints (.inr rfl) | exact .any | exact D.flat_lf rfl | exact lf_ssz _ | exact lf_pqz _ | exact lf_nl0 | exact .tup (lf_cons (lf_ssz _) (lf_cons (.val _) lf_nil)) | exact .tup (lf_cons (lf_pqz _) (lf_cons (.val _) lf_nil)) | exact .tup (lf_cons (lf_ints (.inl rfl)) (lf_cons (.val _) lf_nil)) | exact .tup (lf_cons (lf_ssz _) (lf_cons (lf_ints (.inl rfl)) (lf_cons (.val _) lf_nil))) | exact .tup (lf_cons (lf_ssz _) (lf_cons (lf_ssz _) (lf_cons (.val _) lf_nil))) | exact lf_sent) ?_
      exact AOps.nil ⟨rfl, rfl, rfl⟩) ?_
  refine Walk.ahead [8] (by rfl) (by kernel_rfl) (by rfl) (rs := [27]) (by rfl) (by first|simp only[nf,Nat.beq]<;>rfl|rfl) (fun base => by
      refine n_move rfl (by first|simp only[nf,Nat.beq]<;>rfl|rfl) ?_
      exact AOps.nil ⟨rfl, rfl, rfl⟩) ?_
  refine Walk.ahead [8] (by rfl) (by kernel_rfl) (by rfl) (rs := [23]) (by rfl) (by first|simp only[nf,Nat.beq]<;>rfl|rfl) (fun base => by
      refine n_extract rfl (by first|simp only[nf,Nat.beq]<;>rfl|rfl) rfl ?_
      exact AOps.nil ⟨rfl, rfl, rfl⟩) ?_
  refine Walk.both (by rfl) (rs := [23]) (by rfl) (by first|simp only[nf,Nat.beq]<;>rfl|rfl) (fun base S' hS' => by
      rcases hS' with rfl | rfl
      all_goals
        refine n_extract rfl (by first|simp only[nf,Nat.beq]<;>rfl|rfl) rfl ?_
        exact AOps.nil ⟨rfl, rfl, rfl⟩) ?_
  refine Walk.both (by rfl) (rs := [23]) (by rfl) (by first|simp only[nf,Nat.beq]<;>rfl|rfl) (fun base S' hS' => by
      rcases hS' with rfl | rfl
      all_goals
        refine n_extract rfl (by first|simp only[nf,Nat.beq]<;>rfl|rfl) rfl ?_
        exact AOps.nil ⟨rfl, rfl, rfl⟩) ?_
  refine Walk.writes (d := .any) (by rfl) (rs := [3, 28]) (by rfl) (by first|simp only[nf,Nat.beq]<;>rfl|rfl) (fun base => by
      refine n_store ti141 (by first|simp only[nf,Nat.beq]<;>rfl|rfl) rfl (by first|simp only[nf,Nat.beq]<;>rfl|rfl) rfl (by first|simp only[nf,Nat.beq]<;>rfl|rfl) rfl rfl rfl (by first|simp only[nf,Nat.beq]<;>rfl|rfl) ?_
      exact AOps.nil ⟨rfl, rfl, rfl⟩) ?_
  refine Walk.done ?_
  refine AWP.seq ?_
  refine AWP.anyT [18, 19] (fun p => match p with | [false, false] => [.box [vi 0, vi 0, vi 0, vi 0, vi 0, .sl (some true) [] .full], .box [vi 0, vi 0, vi 0, vi 0, vi 0, .sl (some true) [] .full], .box [vi 5, vi 7, vi 0, vi 0, vi 1, .sl none [] .ro], .box [vi 7, vi 5, vi 0, vi 0, vi 1, .sl none [] .ro]] | [true, false] => [.box [vi 5, vi 7, vi 0, vi 0, vi 1, .sl none [] .ro], .box [vi 0, vi 0, vi 0, vi 0, vi 0, .sl (some true) [] .full], .box [vi 5, vi 7, vi 0, vi 0, vi 1, .sl none [] .ro], .box [vi 7, vi 5, vi 0, vi 0, vi 1, .sl none [] .ro]] | [false, true] => [.box [vi 0, vi 0, vi 0, vi 0, vi 0, .sl (some true) [] .full], .box [vi 7, vi 5, vi 0, vi 0, vi 1, .sl none [] .ro], .box [vi 5, vi 7, vi 0, vi 0, vi 1, .sl none [] .ro], .box [vi 7, vi 5, vi 0, vi 0, vi 1, .sl none [] .ro]] | [true, true] => [.box [vi 5, vi 7, vi 0, vi 0, vi 1, .sl none [] .ro], .box [vi 7, vi 5, vi 0, vi 0, vi 1, .sl none [] .ro], .box [vi 5, vi 7, vi 0, vi 0, vi 1, .sl none [] .ro], .box [vi 7, vi 5, vi 0, vi 0, vi 1, .sl none [] .ro]] | _ => []) (by kernel_rfl) (by kernel_rfl) rfl rfl ?_
  refine Walk.cases [([false, false], [.box [vi 0, vi 0, vi 0, vi 0, vi 0, .sl (some true) [] .full], .box [vi 0, vi 0, vi 0, vi 0, vi 0, .sl (some true) [] .full], .box [vi 5, vi 7, vi 0, vi 0, vi 1, .sl none [] .ro], .box [vi 7, vi 5, vi 0, vi 0, vi 1, .sl none [] .ro]], [.box [vi 0, vi 0, vi 0, vi 0, vi 0, .sl (some true) [] .full], .box [vi 0, vi 0, vi 0, vi 0, vi 0, .sl (some true) [] .full], .box [vi 5, vi 7, vi 0, vi 0, vi 1, .sl none [] .ro], .box [vi 7, vi 5, vi 0, vi 0, vi 1, .sl none [] .ro]])] (by rfl) (by kernel_rfl) (rs := [3]) (by rfl) (by first|simp only[nf,Nat.beq]<;>rfl|rfl) (fun base => ⟨
      ⟨rfl, rfl, by
        refine n_load rfl ti141 (by first|simp only[nf,Nat.beq]<;>rfl|rfl) (by first|simp only[nf,Nat.beq]<;>rfl|rfl) rfl (by first|simp only[nf,Nat.beq]<;>rfl|rfl) ?_
        exact AOps.nil ⟨rfl, rfl, rfl⟩⟩,
      trivial⟩) ?_
  refine Walk.cases [([false, false], [.box [vi 0, vi 0, vi 0, vi 0, vi 0, .sl (some true) [] .full], .box [vi 0, vi 0, vi 0, vi 0, vi 0, .sl (some true) [] .full], .box [vi 5, vi 7, vi 0, vi 0, vi 1, .sl none [] .ro], .box [vi 7, vi 5, vi 0, vi 0, vi 1, .sl none [] .ro]], [.box [vi 0, vi 0, vi 0, vi 0, vi 0, .sl (some true) [] .full], .box [vi 0, vi 0, vi 0, vi 0, vi 0, .sl (some true) [] .full], .box [vi 5, vi 7, vi 0, vi 0, vi 1, .sl none [] .ro], .box [vi 7, vi 5, vi 0, vi 0, vi 1, .sl none [] .ro]]), ([true, false], [.box [vi 5, vi 7, vi 0, vi 0, vi 1, .sl none [] .ro], .box [vi 0, vi 0, vi 0, vi 0, vi 0, .sl (some true) [] .full], .box [vi 5, vi 7, vi 0, vi 0, vi 1, .sl none [] .ro], .box [vi 7, vi 5, vi 0, vi 0, vi 1, .sl none [] .ro]], [.box [vi 5, vi 7, vi 0, vi 0, vi 1, .sl none [] .ro], .box [vi 0, vi 0, vi 0, vi 0, vi 0, .sl (some true) [] .full], .box [vi 5, vi 7, vi 0, vi 0, vi 1, .sl none [] .ro], .box [vi 7, vi 5, vi 0, vi 0, vi 1, .sl none [] .ro]])] (by rfl) (by kernel_rfl) (rs := [5]) (by rfl) (by first|simp only[nf,Nat.beq]<;>rfl|rfl) (fun base => ⟨
      ⟨rfl, rfl, by
        refine n_load rfl ti141 (by first|simp only[nf,Nat.beq]<;>rfl|rfl) (by first|simp only[nf,Nat.beq]<;>rfl|rfl) rfl (by first|simp only[nf,Nat.beq]<;>rfl|rfl) ?_
        exact AOps.nil ⟨rfl, rfl, rfl⟩⟩,
      ⟨rfl, rfl, by
        refine n_load rfl ti141 (by first|simp only[nf,Nat.beq]<;>rfl|rfl) (by first|simp only[nf,Nat.beq]<;>rfl|rfl) rfl (by first|simp only[nf,Nat.beq]<;>rfl|rfl) ?_
        exact AOps.nil ⟨rfl, rfl, rfl⟩⟩,
      trivial⟩) ?_
  refine Walk.cases [([false, false], [.box [vi 0, vi 0, vi 0, vi 0, vi 0, .sl (some true) [] .full], .box [vi 0, vi 0, vi 0, vi 0, vi 0, .sl (some true) [] .full], .box [vi 5, vi 7, vi 0, vi 0, vi 1, .sl none [] .ro], .box [vi 7, vi 5, vi 0, vi 0, vi 1, .sl none [] .ro]], [.box [vi 0, vi 0, vi 0, vi 0, vi 0, .sl (some true) [] .full], .box [vi 0, vi 0, vi 0, vi 0, vi 0, .sl (some true) [] .full], .box [vi 5, vi 7, vi 0, vi 0, vi 1, .sl none [] .ro], .box [vi 7, vi 5, vi 0, vi 0, vi 1, .sl none [] .ro]])] (by rfl) (by kernel_rfl) (rs := [4]) (by rfl) (by first|simp only[nf,Nat.beq]<;>rfl|rfl) (fun base => ⟨
      ⟨rfl, rfl, by
        refine n_move rfl (by first|simp only[nf,Nat.beq]<;>rfl|rfl) ?_
        exact AOps.nil ⟨rfl, rfl, rfl⟩⟩,
      trivial⟩) ?_
  refine Walk.cases [([false, false], [.box [vi 0, vi 0, vi 0, vi 0, vi 0, .sl (some true) [] .full], .box [vi 0, vi 0, vi 0, vi 0, vi 0, .sl (some true) [] .full], .box [vi 5, vi 7, vi 0, vi 0, vi 1, .sl none [] .ro], .box [vi 7, vi 5, vi 0, vi 0, vi 1, .sl none [] .ro]], [.box [vi 0, vi 0, vi 0, vi 0, vi 0, .sl (some true) [] .full], .box [vi 0, vi 0, vi 0, vi 0, vi 0, .sl (some true) [] .full], .box [vi 5, vi 7, vi 0, vi 0, vi 1, .sl none [] .ro], .box [vi 7, vi 5, vi 0, vi 0, vi 1, .sl none [] .ro]])] (by rfl) (by kernel_rfl) (rs := [33]) (by rfl) (by first|simp only[nf,Nat.beq]<;>rfl|rfl) (fun base => ⟨
      ⟨rfl, rfl, by
        refine n_ibin rfl (by first|simp only[nf,Nat.beq]<;>rfl|rfl) (by first|simp only[nf,Nat.beq]<;>rfl|rfl) rfl ?_
        exact AOps.nil ⟨rfl, rfl, rfl⟩⟩,
      trivial⟩) ?_
  refine Walk.cases [([false, false], [.box [vi 0, vi 0, vi 0, vi 0, vi 0, .sl (some true) [] .full], .box [vi 0, vi 0, vi 0, vi 0, vi 0, .sl (some true) [] .full], .box [vi 5, vi 7, vi 0, vi 0, vi 1, .sl none [] .ro], .box [vi 7, vi 5, vi 0, vi 0, vi 1, .sl none [] .ro]], [.box [vi 0, vi 0, vi 0, vi 0, vi 0, .sl (some true) [] .full], .box [vi 0, vi 0, vi 0, vi 0, vi 0, .sl (some true) [] .full], .box [vi 5, vi 7, vi 0, vi 0, vi 1, .sl none [] .ro], .box [vi 7, vi 5, vi 0, vi 0, vi 1, .sl none [] .ro]])] (by rfl) (by kernel_rfl) (rs := [34]) (by rfl) (by first|simp only[nf,Nat.beq]<;>rfl|rfl) (fun base => ⟨
      ⟨rfl, rfl, by
        refine n_move rfl (by first|simp only[nf,Nat.beq]<;>rfl|rfl) ?_
        exact AOps.nil ⟨rfl, rfl, rfl⟩⟩,
      trivial⟩) ?_
  refine Walk.cases [([false, false], [.box [vi 0, vi 0, vi 0, vi 0, vi 0, .sl (some true) [] .full], .box [vi 0, vi 0, vi 0, vi 0, vi 0, .sl (some true) [] .full], .box [vi 5, vi 7, vi 0, vi 0, vi 1, .sl none [] .ro], .box [vi 7, vi 5, vi 0, vi 0, vi 1, .sl none [] .ro]], [.box [vi 0, vi 0, vi 0, vi 0, vi 0, .sl (some true) [] .full], .box [vi 0, vi 0, vi 0, vi 0, vi 0, .sl (some true) [] .full], .box [vi 5, vi 7, vi 0, vi 0, vi 1, .sl none [] .ro], .box [vi 7, vi 5, vi 0, vi 0, vi 1, .sl none [] .ro]])] (by rfl) (by kernel_rfl) (rs := [6, 35]) (by rfl) (by first|simp only[nf,Nat.beq]<;>rfl|rfl) (fun base => ⟨
      ⟨rfl, rfl, by
        refine n_guard_yes rfl rfl rfl (by first|simp only[nf,Nat.beq]<;>rfl|rfl) rfl ?_
        refine n_move rfl (by first|simp only[nf,Nat.beq]<;>rfl|rfl) ?_
        exact AOps.nil ⟨rfl, rfl, rfl⟩⟩,
      trivial⟩) ?_
  refine Walk.cases [([false, false], [.box [vi 0, vi 0, vi 0, vi 0, vi 0, .sl (some true) [] .full], .box [vi 0, vi 0, vi 0, vi 0, vi 0, .sl (some true) [] .full], .box [vi 5, vi 7, vi 0, vi 0, vi 1, .sl none [] .ro], .box [vi 7, vi 5, vi 0, vi 0, vi 1, .sl none [] .ro]], [.box [vi 0, vi 0, vi 0, vi 0, vi 0, .sl (some true) [] .full], .box [vi 0, vi 0, vi 0, vi 0, vi 0, .sl (some true) [] .full], .box [vi 5, vi 7, vi 0, vi 0, vi 1, .sl none [] .ro], .box [vi 7, vi 5, vi 0, vi 0, vi 1, .sl none [] .ro]])] (by rfl) (by kernel_rfl) (rs := [36, 35]) (by rfl) (by first|simp only[nf,Nat.beq]<;>rfl|rfl) (fun base => ⟨
      ⟨rfl, rfl, by
        refine n_guard_yes rfl rfl rfl (by first|simp only[nf,Nat.beq]<;>rfl|rfl) rfl ?_
        refine n_ibin rfl (by first|simp only[nf,Nat.beq]<;>rfl|rfl) (by first|simp only[nf,Nat.beq]<;>rfl|rfl) rfl ?_
        exact AOps.nil ⟨rfl, rfl, rfl⟩⟩,
      trivial⟩) ?_
  refine Walk.cases [([false, false], [.box [vi 0, vi 0, vi 0, vi 0, vi 0, .sl (some true) [] .full], .box [vi 0, vi 0, vi 0, vi 0, vi 0, .sl (some true) [] .full], .box [vi 5, vi 7, vi 0, vi 0, vi 1, .sl none [] .ro], .box [vi 7, vi 5, vi 0, vi 0, vi 1, .sl none [] .ro]], [.box [vi 0, vi 0, vi 0, vi 0, vi 0, .sl (some true) [] .full], .box [vi 0, vi 0, vi 0, vi 0, vi 0, .sl (some true) [] .full], .box [vi 5, vi 7, vi 0, vi 0, vi 1, .sl none [] .ro], .box [vi 7, vi 5, vi 0, vi 0, vi 1, .sl none [] .ro]])] (by rfl) (by kernel_rfl) (rs := [35, 37]) (by rfl) (by first|simp only[nf,Nat.beq]<;>rfl|rfl) (fun base => ⟨
      ⟨rfl, rfl, by
        refine n_pick rfl (by first|simp only[nf,Nat.beq]<;>rfl|rfl) (by first|simp only[nf,Nat.beq]<;>rfl|rfl) ?_
        exact AOps.nil ⟨rfl, rfl, rfl⟩⟩,
      trivial⟩) ?_
  refine Walk.cases [([false, false], [.box [vi 0, vi 0, vi 0, vi 0, vi 0, .sl (some true) [] .full], .box [vi 0, vi 0, vi 0, vi 0, vi 0, .sl (some true) [] .full], .box [vi 5, vi 7, vi 0, vi 0, vi 1, .sl none [] .ro], .box [vi 7, vi 5, vi 0, vi 0, vi 1, .sl none [] .ro]], [.box [vi 0, vi 0, vi 0, vi 0, vi 0, .sl (some true) [] .full], .box [vi 0, vi 0, vi 0, vi 0, vi 0, .sl (some true) [] .full], .box [vi 5, vi 7, vi 0, vi 0, vi 1, .sl none [] .ro], .box [vi 7, vi 5, vi 0, vi 0, vi 1, .sl none [] .ro]])] (by rfl) (by kernel_rfl) (rs := [38]) (by rfl) (by first|simp only[nf,Nat.beq]<;>rfl|rfl) (fun base => ⟨
      ⟨rfl, rfl, by
        refine n_move rfl (by first|simp only[nf,Nat.beq]<;>rfl|rfl) ?_
        exact AOps.nil ⟨rfl, rfl, rfl⟩⟩,
      trivial⟩) ?_
  refine Walk.cases [([false, false], [.box [vi 0, vi 0, vi 0, vi 0, vi 0, .sl (some true) [] .full], .box [vi 0, vi 0, vi 0, vi 0, vi 0, .sl (some true) [] .full], .box [vi 5, vi 7, vi 0, vi 0, vi 1, .sl none [] .ro], .box [vi 7, vi 5, vi 0, vi 0, vi 1, .sl none [] .ro]], [.box [vi 0, vi 0, vi 0, vi 0, vi 0, .sl (some true) [] .full], .box [vi 0, vi 0, vi 0, vi 0, vi 0, .sl (some true) [] .full], .box [vi 5, vi 7, vi 0, vi 0, vi 1, .sl none [] .ro], .box [vi 7, vi 5, vi 0, vi 0, vi 1, .sl none [] .ro]])] (by rfl) (by kernel_rfl) (rs := [3, 39]) (by rfl) (by first|simp only[nf,Nat.beq]<;>rfl|rfl) (fun base => ⟨
      ⟨rfl, rfl, by
        refine n_guard_yes rfl rfl rfl (by first|simp only[nf,Nat.beq]<;>rfl|rfl) rfl ?_
        refine n_fieldAddr rfl fd141_1 ti2 rfl (by first|simp only[nf,Nat.beq]<;>rfl|rfl) rfl (by first|simp only[nf,Nat.beq]<;>rfl|rfl) ?_
        exact AOps.nil ⟨rfl, rfl, rfl⟩⟩,
      trivial⟩) ?_
  refine Walk.cases [([false, false], [.box [vi 0, vi 0, vi 0, vi 0, vi 0, .sl (some true) [] .full], .box [vi 0, vi 0, vi 0, vi 0, vi 0, .sl (some true) [] .full], .box [vi 5, vi 7, vi 0, vi 0, vi 1, .sl none [] .ro], .box [vi 7, vi 5, vi 0, vi 0, vi 1, .sl none [] .ro]], [.box [vi 0, vi 0, vi 0, vi 0, vi 0, .sl (some true) [] .full], .box [vi 0, vi 0, vi 0, vi 0, vi 0, .sl (some true) [] .full], .box [vi 5, vi 7, vi 0, vi 0, vi 1, .sl none [] .ro], .box [vi 7, vi 5, vi 0, vi 0, vi 1, .sl none [] .ro]])] (by rfl) (by kernel_rfl) (rs := [40, 39]) (by rfl) (by first|simp only[nf,Nat.beq]<;>rfl|rfl) (fun base => ⟨
      ⟨rfl, rfl, by
        refine n_guard_yes rfl rfl rfl (by first|simp only[nf,Nat.beq]<;>rfl|rfl) rfl ?_
        refine n_load rfl ti2 (by first|simp only[nf,Nat.beq]<;>rfl|rfl) (by first|simp only[nf,Nat.beq]<;>rfl|rfl) rfl (by first|simp only[nf,Nat.beq]<;>rfl|rfl) ?_
        exact AOps.nil ⟨rfl, rfl, rfl⟩⟩,
      trivial⟩) ?_
  refine Walk.cases [([false, false], [.box [vi 0, vi 0, vi 0, vi 0, vi 0, .sl (some true) [] .full], .box [vi 0, vi 0, vi 0, vi 0, vi 0, .sl (some true) [] .full], .box [vi 5, vi 7, vi 0, vi 0, vi 1, .sl none [] .ro], .box [vi 7, vi 5, vi 0, vi 0, vi 1, .sl none [] .ro]], [.box [vi 0, vi 0, vi 0, vi 0, vi 0, .sl (some true) [] .full], .box [vi 0, vi 0, vi 0, vi 0, vi 0, .sl (some true) [] .full], .box [vi 5, vi 7, vi 0, vi 0, vi 1, .sl none [] .ro], .box [vi 7, vi 5, vi 0, vi 0, vi 1, .sl none [] .ro]])] (by rfl) (by kernel_rfl) (rs := [41, 39]) (by rfl) (by first|simp only[nf,Nat.beq]<;>rfl|rfl) (fun base => ⟨
      ⟨rfl, rfl, by
        refine n_guard_yes rfl rfl rfl (by first|simp only[nf,Nat.beq]<;>rfl|rfl) rfl ?_
        refine n_ibin rfl (by first|simp only[nf,Nat.beq]<;>rfl|rfl) (by first|simp only[nf,Nat.beq]<;>rfl|rfl) rfl ?_
        exact AOps.nil ⟨rfl, rfl, rfl⟩⟩,
      trivial⟩) ?_
  refine Walk.cases [([false, false], [.box [vi 0, vi 0, vi 0, vi 0, vi 0, .sl (some true) [] .full], .box [vi 0, vi 0, vi 0, vi 0, vi 0, .sl (some true) [] .full], .box [vi 5, vi 7, vi 0, vi 0, vi 1, .sl none [] .ro], .box [vi 7, vi 5, vi 0, vi 0, vi 1, .sl none [] .ro]], [.box [vi 0, vi 0, vi 0, vi 0, vi 0, .sl (some true) [] .full], .box [vi 0, vi 0, vi 0, vi 0, vi 0, .sl (some true) [] .full], .box [vi 5, vi 7, vi 0, vi 0, vi 1, .sl none [] .ro], .box [vi 7, vi 5, vi 0, vi 0, vi 1, .sl none [] .ro]])] (by rfl) (by kernel_rfl) (rs := [39, 42]) (by rfl) (by first|simp only[nf,Nat.beq]<;>rfl|rfl) (fun base => ⟨
      ⟨rfl, rfl, by
        refine n_pick rfl (by first|simp only[nf,Nat.beq]<;>rfl|rfl) (by first|simp only[nf,Nat.beq]<;>rfl|rfl) ?_
        exact AOps.nil ⟨rfl, rfl, rfl⟩⟩,
      trivial⟩) ?_
  refine Walk.cases [([false, false], [.box [vi 0, vi 0, vi 0, vi 0, vi 0, .sl (some true) [] .full], .box [vi 0, vi 0, vi 0, vi 0, vi 0, .sl (some true) [] .full], .box [vi 5, vi 7, vi 0, vi 0, vi 1, .sl none [] .ro], .box [vi 7, vi 5, vi 0, vi 0, vi 1, .sl none [] .ro]], [.box [vi 0, vi 0, vi 0, vi 0, vi 0, .sl (some true) [] .full], .box [vi 0, vi 0, vi 0, vi 0, vi 0, .sl (some true) [] .full], .box [vi 5, vi 7, vi 0, vi 0, vi 1, .sl none [] .ro], .box [vi 7, vi 5, vi 0, vi 0, vi 1, .sl none [] .ro]])] (by rfl) (by kernel_rfl) (rs := [43]) (by rfl) (by first|simp only[nf,Nat.beq]<;>rfl|rfl) (fun base => ⟨
      ⟨rfl, rfl, by
        refine n_move rfl (by first|simp only[nf,Nat.beq]<;>rfl|rfl) ?_
        exact AOps.nil ⟨rfl, rfl, rfl⟩⟩,
      trivial⟩) ?_
  refine Walk.cases [([false, false], [.box [vi 0, vi 0, vi 0, vi 0, vi 0, .sl (some true) [] .full], .box [vi 0, vi 0, vi 0, vi 0, vi 0, .sl (some true) [] .full], .box [vi 5, vi 7, vi 0, vi 0, vi 1, .sl none [] .ro], .box [vi 7, vi 5, vi 0, vi 0, vi 1, .sl none [] .ro]], [.box [vi 0, vi 0, vi 0, vi 0, vi 0, .sl (some true) [] .full], .box [vi 0, vi 0, vi 0, vi 0, vi 0, .sl (some true) [] .full], .box [vi 5, vi 7, vi 0, vi 0, vi 1, .sl none [] .ro], .box [vi 7, vi 5, vi 0, vi 0, vi 1, .sl none [] .ro]]), ([true, false], [.box [vi 5, vi 7, vi 0, vi 0, vi 1, .sl none [] .ro], .box [vi 0, vi 0, vi 0, vi 0, vi 0, .sl (some true) [] .full], .box [vi 5, vi 7, vi 0, vi 0, vi 1, .sl none [] .ro], .box [vi 7, vi 5, vi 0, vi 0, vi 1, .sl none [] .ro]], [.box [vi 5, vi 7, vi 0, vi 0, vi 1, .sl none [] .ro], .box [vi 0, vi 0, vi 0, vi 0, vi 0, .sl (some true) [] .full], .box [vi 5, vi 7, vi 0, vi 0, vi 1, .sl none [] .ro], .box [vi 7, vi 5, vi 0, vi 0, vi 1, .sl none [] .ro]]), ([true, true], [.box [vi 5, vi 7, vi 0, vi 0, vi 1, .sl none [] .ro], .box [vi 7, vi 5, vi 0, vi 0, vi 1, .sl none [] .ro], .box [vi 5, vi 7, vi 0, vi 0, vi 1, .sl none [] .ro], .box [vi 7, vi 5, vi 0, vi 0, vi 1, .sl none [] .ro]], [.box [vi 5, vi 7, vi 0, vi 0, vi 1, .sl none [] .ro], .box [vi 7, vi 5, vi 0, vi 0, vi 1, .sl none [] .ro], .box [vi 5, vi 7, vi 0, vi 0, vi 1, .sl none [] .ro], .box [vi 7, vi 5, vi 0, vi 0, vi 1, .sl none [] .ro]])] (by rfl) (by kernel_rfl) (rs := [5, 44]) (by rfl) (by first|simp only[nf,Nat.beq]<;>rfl|rfl) (fun base => ⟨
      ⟨rfl, rfl, by
        refine n_guard_yes rfl rfl rfl (by first|simp only[nf,Nat.beq]<;>rfl|rfl) rfl ?_
        refine n_fieldAddr rfl fd141_1 ti2 rfl (by first|simp only[nf,Nat.beq]<;>rfl|rfl) rfl (by first|simp only[nf,Nat.beq]<;>rfl|rfl) ?_
        exact AOps.nil ⟨rfl, rfl, rfl⟩⟩,
      ⟨rfl, rfl, by
        refine n_guard_yes rfl rfl rfl (by first|simp only[nf,Nat.beq]<;>rfl|rfl) rfl ?_
        refine n_fieldAddr rfl fd141_1 ti2 rfl (by first|simp only[nf,Nat.beq]<;>rfl|rfl) rfl (by first|simp only[nf,Nat.beq]<;>rfl|rfl) ?_
        exact AOps.nil ⟨rfl, rfl, rfl⟩⟩,
      ⟨rfl, rfl, by
        refine n_guard_yes rfl rfl rfl (by first|simp only[nf,Nat.beq]<;>rfl|rfl) rfl ?_
        refine n_fieldAddr rfl fd141_1 ti2 rfl (by first|simp only[nf,Nat.beq]<;>rfl|rfl) rfl (by first|simp only[nf,Nat.beq]<;>rfl|rfl) ?_
        exact AOps.nil ⟨rfl, rfl, rfl⟩⟩,
      trivial⟩) ?_
  refine Walk.cases [([false, false], [.box [vi 0, vi 0, vi 0, vi 0, vi 0, .sl (some true) [] .full], .box [vi 0, vi 0, vi 0, vi 0, vi 0, .sl (some true) [] .full], .box [vi 5, vi 7, vi 0, vi 0, vi 1, .sl none [] .ro], .box [vi 7, vi 5, vi 0, vi 0, vi 1, .sl none [] .ro]], [.box [vi 0, vi 0, vi 0, vi 0, vi 0, .sl (some true) [] .full], .box [vi 0, vi 0, vi 0, vi 0, vi 0, .sl (some true) [] .full], .box [vi 5, vi 7, vi 0, vi 0, vi 1, .sl none [] .ro], .box [vi 7, vi 5, vi 0, vi 0, vi 1, .sl none [] .ro]]), ([true, false], [.box [vi 5, vi 7, vi 0, vi 0, vi 1, .sl none [] .ro], .box [vi 0, vi 0, vi 0, vi 0, vi 0, .sl (some true) [] .full], .box [vi 5, vi 7, vi 0, vi 0, vi 1, .sl none [] .ro], .box [vi 7, vi 5, vi 0, vi 0, vi 1, .sl none [] .ro]], [.box [vi 5, vi 7, vi 0, vi 0, vi 1, .sl none [] .ro], .box [vi 0, vi 0, vi 0, vi 0, vi 0, .sl (some true) [] .full], .box [vi 5, vi 7, vi 0, vi 0, vi 1, .sl none [] .ro], .box [vi 7, vi 5, vi 0, vi 0, vi 1, .sl none [] .ro]]), ([true, true], [.box [vi 5, vi 7, vi 0, vi 0, vi 1, .sl none [] .ro], .box [vi 7, vi 5, vi 0, vi 0, vi 1, .sl none [] .ro], .box [vi 5, vi 7, vi 0, vi 0, vi 1, .sl none [] .ro], .box [vi 7, vi 5, vi 0, vi 0, vi 1, .sl none [] .ro]], [.box [vi 5, vi 7, vi 0, vi 0, vi 1, .sl none [] .ro], .box [vi 7, vi 5, vi 0, vi 0, vi 1, .sl none [] .ro], .box [vi 5, vi 7, vi 0, vi 0, vi 1, .sl none [] .ro], .box [vi 7, vi 5, vi 0, vi 0, vi 1, .sl none [] .ro]])] (by rfl) (by kernel_rfl) (rs := [45, 44]) (by rfl) (by first|simp only[nf,Nat.beq]<;>rfl|rfl) (fun base => ⟨
      ⟨rfl, rfl, by
        refine n_guard_yes rfl rfl rfl (by first|simp only[nf,Nat.beq]<;>rfl|rfl) rfl ?_
        refine n_load rfl ti2 (by first|simp only[nf,Nat.beq]<;>rfl|rfl) (by first|simp only[nf,Nat.beq]<;>rfl|rfl) rfl (by first|simp only[nf,Nat.beq]<;>rfl|rfl) ?_
        exact AOps.nil ⟨rfl, rfl, rfl⟩⟩,
      ⟨rfl, rfl, by
        refine n_guard_yes rfl rfl rfl (by first|simp only[nf,Nat.beq]<;>rfl|rfl) rfl ?_
        refine n_load rfl ti2 (by first|simp only[nf,Nat.beq]<;>rfl|rfl) (by first|simp only[nf,Nat.beq]<;>rfl|rfl) rfl (by first|simp only[nf,Nat.beq]<;>rfl|rfl) ?_
        exact AOps.nil ⟨rfl, rfl, rfl⟩⟩,
      ⟨rfl, rfl, by
        refine n_guard_yes rfl rfl rfl (by first|simp only[nf,Nat.beq]<;>rfl|rfl) rfl ?_
        refine n_load rfl ti2 (by first|simp only[nf,Nat.beq]<;>rfl|rfl) (by first|simp only[nf,Nat.beq]<;>rfl|rfl) rfl (by first|simp only[nf,Nat.beq]<;>rfl|rfl) ?_
        exact AOps.nil ⟨rfl, rfl, rfl⟩⟩,
      trivial⟩) ?_
  refine Walk.cases [([false, false], [.box [vi 0, vi 0, vi 0, vi 0, vi 0, .sl (some true) [] .full], .box [vi 0, vi 0, vi 0, vi 0, vi 0, .sl (some true) [] .full], .box [vi 5, vi 7, vi 0, vi 0, vi 1, .sl none [] .ro], .box [vi 7, vi 5, vi 0, vi 0, vi 1, .sl none [] .ro]], [.box [vi 0, vi 0, vi 0, vi 0, vi 0, .sl (some true) [] .full], .box [vi 0, vi 0, vi 0, vi 0, vi 0, .sl (some true) [] .full], .box [vi 5, vi 7, vi 0, vi 0, vi 1, .sl none [] .ro], .box [vi 7, vi 5, vi 0, vi 0, vi 1, .sl none [] .ro]]), ([true, false], [.box [vi 5, vi 7, vi 0, vi 0, vi 1, .sl none [] .ro], .box [vi 0, vi 0, vi 0, vi 0, vi 0, .sl (some true) [] .full], .box [vi 5, vi 7, vi 0, vi 0, vi 1, .sl none [] .ro], .box [vi 7, vi 5, vi 0, vi 0, vi 1, .sl none [] .ro]], [.box [vi 5, vi 7, vi 0, vi 0, vi 1, .sl none [] .ro], .box [vi 0, vi 0, vi 0, vi 0, vi 0, .sl (some true) [] .full], .box [vi 5, vi 7, vi 0, vi 0, vi 1, .sl none [] .ro], .box [vi 7, vi 5, vi 0, vi 0, vi 1, .sl none [] .ro]]), ([true, true], [.box [vi 5, vi 7, vi 0, vi 0, vi 1, .sl none [] .ro], .box [vi 7, vi 5, vi 0, vi 0, vi 1, .sl none [] .ro], .box [vi 5, vi 7, vi 0, vi 0, vi 1, .sl none [] .ro], .box [vi 7, vi 5, vi 0, vi 0, vi 1, .sl none [] .ro]], [.box [vi 5, vi 7, vi 0, vi 0, vi 1, .sl none [] .ro], .box [vi 7, vi 5, vi 0, vi 0, vi 1, .sl none [] .ro], .box [vi 5, vi 7, vi 0, vi 0, vi 1, .sl none [] .ro], .box [vi 7, vi 5, vi 0, vi 0, vi 1, .sl none [] .ro]])] (by rfl) (by kernel_rfl) (rs := [46, 44]) (by rfl) (by first|simp only[nf,Nat.beq]<;>rfl|rfl) (fun base => ⟨
      ⟨rfl, rfl, by
        refine n_guard_yes rfl rfl rfl (by first|simp only[nf,Nat.beq]<;>rfl|rfl) rfl ?_
        refine n_ibin rfl (by first|simp only[nf,Nat.beq]<;>rfl|rfl) (by first|simp only[nf,Nat.beq]<;>rfl|rfl) rfl ?_
        exact AOps.nil ⟨rfl, rfl, rfl⟩⟩,
      ⟨rfl, rfl, by
        refine n_guard_yes rfl rfl rfl (by first|simp only[nf,Nat.beq]<;>rfl|rfl) rfl ?_
        refine n_ibin rfl (by first|simp only[nf,Nat.beq]<;>rfl|rfl) (by first|simp only[nf,Nat.beq]<;>rfl|rfl) rfl ?_
        exact AOps.nil ⟨rfl, rfl, rfl⟩⟩,
      ⟨rfl, rfl, by
        refine n_guard_yes rfl rfl rfl (by first|simp only[nf,Nat.beq]<;>rfl|rfl) rfl ?_
        refine n_ibin rfl (by first|simp only[nf,Nat.beq]<;>rfl|rfl) (by first|simp only[nf,Nat.beq]<;>rfl|rfl) rfl ?_
        exact AOps.nil ⟨rfl, rfl, rfl⟩⟩,
      trivial⟩) ?_
  refine Walk.cases [([false, false], [.box [vi 0, vi 0, vi 0, vi 0, vi 0, .sl (some true) [] .full], .box [vi 0, vi 0, vi 0, vi 0, vi 0, .sl (some true) [] .full], .box [vi 5, vi 7, vi 0, vi 0, vi 1, .sl none [] .ro], .box [vi 7, vi 5, vi 0, vi 0, vi 1, .sl none [] .ro]], [.box [vi 0, vi 0, vi 0, vi 0, vi 0, .sl (some true) [] .full], .box [vi 0, vi 0, vi 0, vi 0, vi 0, .sl (some true) [] .full], .box [vi 5, vi 7, vi 0, vi 0, vi 1, .sl none [] .ro], .box [vi 7, vi 5, vi 0, vi 0, vi 1, .sl none [] .ro]]), ([true, false], [.box [vi 5, vi 7, vi 0, vi 0, vi 1, .sl none [] .ro], .box [vi 0, vi 0, vi 0, vi 0, vi 0, .sl (some true) [] .full], .box [vi 5, vi 7, vi 0, vi 0, vi 1, .sl none [] .ro], .box [vi 7, vi 5, vi 0, vi 0, vi 1, .sl none [] .ro]], [.box [vi 5, vi 7, vi 0, vi 0, vi 1, .sl none [] .ro], .box [vi 0, vi 0, vi 0, vi 0, vi 0, .sl (some true) [] .full], .box [vi 5, vi 7, vi 0, vi 0, vi 1, .sl none [] .ro], .box [vi 7, vi 5, vi 0, vi 0, vi 1, .sl none [] .ro]]), ([true, true], [.box [vi 5, vi 7, vi 0, vi 0, vi 1, .sl none [] .ro], .box [vi 7, vi 5, vi 0, vi 0, vi 1, .sl none [] .ro], .box [vi 5, vi 7, vi 0, vi 0, vi 1, .sl none [] .ro], .box [vi 7, vi 5, vi 0, vi 0, vi 1, .sl none [] .ro]], [.box [vi 5, vi 7, vi 0, vi 0, vi 1, .sl none [] .ro], .box [vi 7, vi 5, vi 0, vi 0, vi 1, .sl none [] .ro], .box [vi 5, vi 7, vi 0, vi 0, vi 1, .sl none [] .ro], .box [vi 7, vi 5, vi 0, vi 0, vi 1, .sl none [] .ro]])] (by rfl) (by kernel_rfl) (rs := [44, 47]) (by rfl) (by first|simp only[nf,Nat.beq]<;>rfl|rfl) (fun base => ⟨
      ⟨rfl, rfl, by
        refine n_pick rfl (by first|simp only[nf,Nat.beq]<;>rfl|rfl) (by first|simp only[nf,Nat.beq]<;>rfl|rfl) ?_
        exact AOps.nil ⟨rfl, rfl, rfl⟩⟩,
      ⟨rfl, rfl, by
        refine n_pick rfl (by first|simp only[nf,Nat.beq]<;>rfl|rfl) (by first|simp only[nf,Nat.beq]<;>rfl|rfl) ?_
        exact AOps.nil ⟨rfl, rfl, rfl⟩⟩,
      ⟨rfl, rfl, by
        refine n_pick rfl (by first|simp only[nf,Nat.beq]<;>rfl|rfl) (by first|simp only[nf,Nat.beq]<;>rfl|rfl) ?_
        exact AOps.nil ⟨rfl, rfl, rfl⟩⟩,
      trivial⟩) ?_
  refine Walk.cases (d := .any) [([false, false], [.box [vi 0, vi 0, vi 0, vi 0, vi 0, .sl (some true) [] .full], .box [vi 0, vi 0, vi 0, vi 0, vi 0, .sl (some true) [] .full], .box [vi 5, vi 7, vi 0, vi 0, vi 1, .sl none [] .ro], .box [vi 7, vi 5, vi 0, vi 0, vi 1, .sl none [] .ro]], [.box [vi 5, vi 7, vi 0, vi 0, vi 1, .sl none [] .ro], .box [vi 0, vi 0, vi 0, vi 0, vi 0, .sl (some true) [] .full], .box [vi 5, vi 7, vi 0, vi 0, vi 1, .sl none [] .ro], .box [vi 7, vi 5, vi 0, vi 0, vi 1, .sl none [] .ro]])] (by rfl) (by kernel_rfl) (rs := [0, 31]) (by rfl) (by first|simp only[nf,Nat.beq]<;>rfl|rfl) (fun base => ⟨
      ⟨rfl, rfl, by
        refine n_store ti141 (by first|simp only[nf,Nat.beq]<;>rfl|rfl) rfl (by first|simp only[nf,Nat.beq]<;>rfl|rfl) rfl (by first|simp only[nf,Nat.beq]<;>rfl|rfl) rfl rfl rfl (by first|simp only[nf,Nat.beq]<;>rfl|rfl) ?_
        exact AOps.nil ⟨rfl, rfl, rfl⟩⟩,
      trivial⟩) ?_
  refine Walk.cases (d := .any) [([true, false], [.box [vi 5, vi 7, vi 0, vi 0, vi 1, .sl none [] .ro], .box [vi 0, vi 0, vi 0, vi 0, vi 0, .sl (some true) [] .full], .box [vi 5, vi 7, vi 0, vi 0, vi 1, .sl none [] .ro], .box [vi 7, vi 5, vi 0, vi 0, vi 1, .sl none [] .ro]], [.box [vi 5, vi 7, vi 0, vi 0, vi 1, .sl none [] .ro], .box [vi 7, vi 5, vi 0, vi 0, vi 1, .sl none [] .ro], .box [vi 5, vi 7, vi 0, vi 0, vi 1, .sl none [] .ro], .box [vi 7, vi 5, vi 0, vi 0, vi 1, .sl none [] .ro]])] (by rfl) (by kernel_rfl) (rs := [1, 32]) (by rfl) (by first|simp only[nf,Nat.beq]<;>rfl|rfl) (fun base => ⟨
      ⟨rfl, rfl, by
        refine n_store ti141 (by first|simp only[nf,Nat.beq]<;>rfl|rfl) rfl (by first|simp only[nf,Nat.beq]<;>rfl|rfl) rfl (by first|simp only[nf,Nat.beq]<;>rfl|rfl) rfl rfl rfl (by first|simp only[nf,Nat.beq]<;>rfl|rfl) ?_
        exact AOps.nil ⟨rfl, rfl, rfl⟩⟩,
      trivial⟩) ?_
  refine Walk.cases [([true, true], [.box [vi 5, vi 7, vi 0, vi 0, vi 1, .sl none [] .ro], .box [vi 7, vi 5, vi 0, vi 0, vi 1, .sl none [] .ro], .box [vi 5, vi 7, vi 0, vi 0, vi 1, .sl none [] .ro], .box [vi 7, vi 5, vi 0, vi 0, vi 1, .sl none [] .ro]], [.box [vi 5, vi 7, vi 0, vi 0, vi 1, .sl none [] .ro], .box [vi 7, vi 5, vi 0, vi 0, vi 1, .sl none [] .ro], .box [vi 5, vi 7, vi 0, vi 0, vi 1, .sl none [] .ro], .box [vi 7, vi 5, vi 0, vi 0, vi 1, .sl none [] .ro]])] (by rfl) (by kernel_rfl) (rs := [48]) (by rfl) (by first|simp only[nf,Nat.beq]<;>rfl|rfl) (fun base => ⟨
      ⟨rfl, rfl, by
        refine n_assign rfl (by first|simp only[nf,Nat.beq]<;>rfl|rfl) ?_
        exact AOps.nil ⟨rfl, rfl, rfl⟩⟩,
      trivial⟩) ?_
  refine Walk.done ?_
  refine AWP.ret ?_
  refine fin_pure (.cons (rv_cell ti141 (by first|simp only[nf,Nat.beq]<;>rfl|rfl) (by first|simp only[nf,Nat.beq]<;>rfl|rfl) rfl (by first|simp only[nf,Nat.beq]<;>rfl|rfl)) (.cons (rv_cell ti141 (by first|simp only[nf,Nat.beq]<;>rfl|rfl) (by first|simp only[nf,Nat.beq]<;>rfl|rfl) rfl (by first|simp only[nf,Nat.beq]<;>rfl|rfl)) (.cons (rv_tmp (by first|simp only[nf,Nat.beq]<;>rfl|rfl)) .nil))) (by first|simp only[nf,Nat.beq]<;>rfl|rfl) ?_
  exact .tup rfl (RenAll.get (.cons (ren_q0 rfl) (.cons (ren_q0 rfl) (.cons (ren_flat rfl rfl) .nil))))

set_option maxHeartbeats 2000000 in
theorem live : Does Try.prog 108 [] [] (vb true) [] := by
  refine Does.of_body (rvs := [.tmp 0]) Try.func108 rfl rfl rfl rfl ?_
  obtain ⟨_, _, _, t3, t4⟩ := live_facts
  have k1 := l_send ⟨5, 7, 0, 0, 1⟩ [120] (Ss.chk0.2 (by unfold Ss.may; decide)) (by decide) (by decide)
  have k2 := l_take ⟨7, 5, 0, 0, 1⟩ ⟨5, 7, 1, 0, [120]⟩ (by simp [L40])
  rw [t3] at k2
  have k3 := l_take ⟨7, 5, 0, 0, 2⟩ ⟨5, 7, 1, 0, [120]⟩ (by simp [L40])
  rw [t4] at k3
  have hb : Byt [120] := fun a ha => by simp at ha; subst ha; decide
  have he := b_equal [120] [120] hb hb
  rw [decide_eq_true rfl] at he
  refine AWP.seq ?_
  refine AWP.region ?_
  refine n_assign rfl (by first|simp only[nf,Nat.beq]<;>rfl|rfl) ?_
  refine AOps.nil ?_
  refine AWP.seq ?_
  refine AWP.region ?_
  refine n_call0B rfl cf109 rfl (Eq.trans (by simp only [nl] <;> rfl) (by first|simp only[nf,Nat.beq]<;>rfl|rfl)) (by repeat (first | exact .nil | refine .cons ?_ ?_ | exact ren_ints | exact .lf (.val _) | exact .lf (lf_ints (.inl rfl)) | exact .bp ⟨rfl, rfl⟩ | exact .bp (.inl ⟨rfl, rfl⟩) | exact .bp (.inr ⟨rfl, rfl⟩) | exact ren_bys0 rfl | exact .lf (D.flat_lf rfl) | exact ren_lits rfl | exact .lf (lf_ssz _) | exact .lf (lf_pqz _) | exact ren_q0 rfl | exact ren_pq rfl | exact ren_nl0 | exact ren_sq | exact .lf (.fn (fun d h => by cases h) (fun d h => by cases h)))) (pair) (by first | exact .val _ | exact lf_ints (.inl rfl) | exact lf_ints (.inr rfl) | exact .any | exact D.flat_lf rfl | exact lf_ssz _ | exact lf_pqz _ | exact lf_nl0 | exact .tup (lf_cons (lf_ssz _) (lf_cons (.val _) lf_nil)) | exact .tup (lf_cons (lf_pqz _) (lf_cons (.val _) lf_nil)) | exact .tup (lf_cons (lf_ints (.inl rfl)) (lf_cons (.val _) lf_nil)) | exact .tup (lf_cons (lf_ssz _) (lf_cons (lf_ints (.inl rfl)) (lf_cons (.val _) lf_nil))) | exact .tup (lf_cons (lf_ssz _) (lf_cons (lf_ssz _) (lf_cons (.val _) lf_nil))) | exact lf_sent) ?_
  refine n_move rfl (by first|simp only[nf,Nat.beq]<;>rfl|rfl) ?_
  refine n_extract rfl (by first|simp only[nf,Nat.beq]<;>rfl|rfl) rfl ?_
  refine n_extract rfl (by first|simp only[nf,Nat.beq]<;>rfl|rfl) rfl ?_
  refine n_extract rfl (by first|simp only[nf,Nat.beq]<;>rfl|rfl) rfl ?_
  refine n_alloc rfl zi141 rfl (by first|simp only[nf,Nat.beq]<;>rfl|rfl) (by first|simp only[nf,Nat.beq]<;>rfl|rfl) ?_
  refine n_alloc rfl zi141 rfl (by first|simp only[nf,Nat.beq]<;>rfl|rfl) (by first|simp only[nf,Nat.beq]<;>rfl|rfl) ?_
  refine n_store ti141 (by first|simp only[nf,Nat.beq]<;>rfl|rfl) rfl (by first|simp only[nf,Nat.beq]<;>rfl|rfl) rfl (by first|simp only[nf,Nat.beq]<;>rfl|rfl) rfl rfl rfl (by first|simp only[nf,Nat.beq]<;>rfl|rfl) ?_
  refine n_store ti141 (by first|simp only[nf,Nat.beq]<;>rfl|rfl) rfl (by first|simp only[nf,Nat.beq]<;>rfl|rfl) rfl (by first|simp only[nf,Nat.beq]<;>rfl|rfl) rfl rfl rfl (by first|simp only[nf,Nat.beq]<;>rfl|rfl) ?_
  refine n_assign rfl (by first|simp only[nf,Nat.beq]<;>rfl|rfl) ?_
  refine AOps.nil ?_
  refine AWP.seq ?_
  refine AWP.region ?_
  refine n_load rfl ti141 (by first|simp only[nf,Nat.beq]<;>rfl|rfl) (by first|simp only[nf,Nat.beq]<;>rfl|rfl) rfl (by first|simp only[nf,Nat.beq]<;>rfl|rfl) ?_
  refine n_lit1Bs rfl Try.underlying22 ei5 (by first|simp only[nf,Nat.beq]<;>rfl|rfl) rfl (by first|simp only[nf,Nat.beq]<;>rfl|rfl) ?_
  refine n_convBs (xs := ints .u8 [120]) rfl Try.underlying22 Try.underlying5 (by first|simp only[nf,Nat.beq]<;>rfl|rfl)  rfl rfl rfl (ints_one _ _) (by intro x hx d hd; simp only [ints, List.map_cons, List.map_nil, List.mem_cons, List.not_mem_nil, or_false] at hx; subst hx; simp only [List.mem_cons, List.not_mem_nil, or_false] at hd; subst hd; rfl) (by first|simp only[nf,Nat.beq]<;>rfl|rfl) ?_
  refine n_call0B rfl cf208 rfl (Eq.trans (by simp only [nl] <;> rfl) (by first|simp only[nf,Nat.beq]<;>rfl|rfl)) (by repeat (first | exact .nil | refine .cons ?_ ?_ | exact ren_ints | exact .lf (.val _) | exact .lf (lf_ints (.inl rfl)) | exact .bp ⟨rfl, rfl⟩ | exact .bp (.inl ⟨rfl, rfl⟩) | exact .bp (.inr ⟨rfl, rfl⟩) | exact ren_bys0 rfl | exact .lf (D.flat_lf rfl) | exact ren_lits rfl | exact .lf (lf_ssz _) | exact .lf (lf_pqz _) | exact ren_q0 rfl | exact ren_pq rfl | exact ren_nl0 | exact ren_sq | exact .lf (.fn (fun d h => by cases h) (fun d h => by cases h)))) (k1) (by first | exact .val _ | exact lf_ints (.inl rfl) | exact lf_ints (.inr rfl) | exact .any | exact D.flat_lf rfl | exact lf_ssz _ | exact lf_pqz _ | exact lf_nl0 | exact .tup (lf_cons (lf_ssz _) (lf_cons (.val _) lf_nil)) | exact .tup (lf_cons (lf_pqz _) (lf_cons (.val _) lf_nil)) | exact .tup (lf_cons (lf_ints (.inl rfl)) (lf_cons (.val _) lf_nil)) | exact .tup (lf_cons (lf_ssz _) (lf_cons (lf_ints (.inl rfl)) (lf_cons (.val _) lf_nil))) | exact .tup (lf_cons (lf_ssz _) (lf_cons (lf_ssz _) (lf_cons (.val _) lf_nil))) | exact lf_sent) ?_
  refine n_move rfl (by first|simp only[nf,Nat.beq]<;>rfl|rfl) ?_
  refine n_extract rfl (by first|simp only[nf,Nat.beq]<;>rfl|rfl) rfl ?_
  refine n_extract rfl (by first|simp only[nf,Nat.beq]<;>rfl|rfl) rfl ?_
  refine n_extract rfl (by first|simp only[nf,Nat.beq]<;>rfl|rfl) rfl ?_
  refine n_alloc rfl zi141 rfl (by first|simp only[nf,Nat.beq]<;>rfl|rfl) (by first|simp only[nf,Nat.beq]<;>rfl|rfl) ?_
  refine n_alloc rfl zi157 rfl (by first|simp only[nf,Nat.beq]<;>rfl|rfl) (by first|simp only[nf,Nat.beq]<;>rfl|rfl) ?_
  refine n_store ti141 (by first|simp only[nf,Nat.beq]<;>rfl|rfl) rfl (by first|simp only[nf,Nat.beq]<;>rfl|rfl) rfl (by first|simp only[nf,Nat.beq]<;>rfl|rfl) rfl rfl rfl (by first|simp only[nf,Nat.beq]<;>rfl|rfl) ?_
  refine n_store ti157 (by first|simp only[nf,Nat.beq]<;>rfl|rfl) rfl (by first|simp only[nf,Nat.beq]<;>rfl|rfl) rfl (by first|simp only[nf,Nat.beq]<;>rfl|rfl) rfl rfl rfl (by first|simp only[nf,Nat.beq]<;>rfl|rfl) ?_
  refine n_assign rfl (by first|simp only[nf,Nat.beq]<;>rfl|rfl) ?_
  refine AOps.nil ?_
  refine AWP.seq ?_
  refine AWP.region ?_
  refine n_load rfl ti141 (by first|simp only[nf,Nat.beq]<;>rfl|rfl) (by first|simp only[nf,Nat.beq]<;>rfl|rfl) rfl (by first|simp only[nf,Nat.beq]<;>rfl|rfl) ?_
  refine n_load rfl ti157 (by first|simp only[nf,Nat.beq]<;>rfl|rfl) (by first|simp only[nf,Nat.beq]<;>rfl|rfl) rfl (by first|simp only[nf,Nat.beq]<;>rfl|rfl) ?_
  refine n_call0B rfl cf209 rfl (Eq.trans (by simp only [nl] <;> rfl) (by first|simp only[nf,Nat.beq]<;>rfl|rfl)) (by repeat (first | exact .nil | refine .cons ?_ ?_ | exact ren_ints | exact .lf (.val _) | exact .lf (lf_ints (.inl rfl)) | exact .bp ⟨rfl, rfl⟩ | exact .bp (.inl ⟨rfl, rfl⟩) | exact .bp (.inr ⟨rfl, rfl⟩) | exact ren_bys0 rfl | exact .lf (D.flat_lf rfl) | exact ren_lits rfl | exact .lf (lf_ssz _) | exact .lf (lf_pqz _) | exact ren_q0 rfl | exact ren_pq rfl | exact ren_nl0 | exact ren_sq | exact .lf (.fn (fun d h => by cases h) (fun d h => by cases h)))) (k2) (by first | exact .val _ | exact lf_ints (.inl rfl) | exact lf_ints (.inr rfl) | exact .any | exact D.flat_lf rfl | exact lf_ssz _ | exact lf_pqz _ | exact lf_nl0 | exact .tup (lf_cons (lf_ssz _) (lf_cons (.val _) lf_nil)) | exact .tup (lf_cons (lf_pqz _) (lf_cons (.val _) lf_nil)) | exact .tup (lf_cons (lf_ints (.inl rfl)) (lf_cons (.val _) lf_nil)) | exact .tup (lf_cons (lf_ssz _) (lf_cons (lf_ints (.inl rfl)) (lf_cons (.val _) lf_nil))) | exact .tup (lf_cons (lf_ssz _) (lf_cons (lf_ssz _) (lf_cons (.val _) lf_nil))) | exact lf_sent) ?_
  refine n_move rfl (by first|simp only[nf,Nat.beq]<;>rfl|rfl) ?_
  refine n_extract rfl (by first|simp only[nf,Nat.beq]<;>rfl|rfl) rfl ?_
  refine n_extract rfl (by first|simp only[nf,Nat.beq]<;>rfl|rfl) rfl ?_
  refine n_extract rfl (by first|simp only[nf,Nat.beq]<;>rfl|rfl) rfl ?_
  refine n_store ti141 (by first|simp only[nf,Nat.beq]<;>rfl|rfl) rfl (by first|simp only[nf,Nat.beq]<;>rfl|rfl) rfl (by first|simp only[nf,Nat.beq]<;>rfl|rfl) rfl rfl rfl (by first|simp only[nf,Nat.beq]<;>rfl|rfl) ?_
  refine n_assign rfl (by first|simp only[nf,Nat.beq]<;>rfl|rfl) ?_
  refine n_assign rfl (by first|simp only[nf,Nat.beq]<;>rfl|rfl) ?_
  refine AOps.nil ?_
  refine AWP.seq ?_
  refine AWP.region ?_
  refine n_load rfl ti141 (by first|simp only[nf,Nat.beq]<;>rfl|rfl) (by first|simp only[nf,Nat.beq]<;>rfl|rfl) rfl (by first|simp only[nf,Nat.beq]<;>rfl|rfl) ?_
  refine n_load rfl ti157 (by first|simp only[nf,Nat.beq]<;>rfl|rfl) (by first|simp only[nf,Nat.beq]<;>rfl|rfl) rfl (by first|simp only[nf,Nat.beq]<;>rfl|rfl) ?_
  refine n_call0B rfl cf209 rfl (Eq.trans (by simp only [nl] <;> rfl) (by first|simp only[nf,Nat.beq]<;>rfl|rfl)) (by repeat (first | exact .nil | refine .cons ?_ ?_ | exact ren_ints | exact .lf (.val _) | exact .lf (lf_ints (.inl rfl)) | exact .bp ⟨rfl, rfl⟩ | exact .bp (.inl ⟨rfl, rfl⟩) | exact .bp (.inr ⟨rfl, rfl⟩) | exact ren_bys0 rfl | exact .lf (D.flat_lf rfl) | exact ren_lits rfl | exact .lf (lf_ssz _) | exact .lf (lf_pqz _) | exact ren_q0 rfl | exact ren_pq rfl | exact ren_nl0 | exact ren_sq | exact .lf (.fn (fun d h => by cases h) (fun d h => by cases h)))) (k3) (by first | exact .val _ | exact lf_ints (.inl rfl) | exact lf_ints (.inr rfl) | exact .any | exact D.flat_lf rfl | exact lf_ssz _ | exact lf_pqz _ | exact lf_nl0 | exact .tup (lf_cons (lf_ssz _) (lf_cons (.val _) lf_nil)) | exact .tup (lf_cons (lf_pqz _) (lf_cons (.val _) lf_nil)) | exact .tup (lf_cons (lf_ints (.inl rfl)) (lf_cons (.val _) lf_nil)) | exact .tup (lf_cons (lf_ssz _) (lf_cons (lf_ints (.inl rfl)) (lf_cons (.val _) lf_nil))) | exact .tup (lf_cons (lf_ssz _) (lf_cons (lf_ssz _) (lf_cons (.val _) lf_nil))) | exact lf_sent) ?_
  refine n_move rfl (by first|simp only[nf,Nat.beq]<;>rfl|rfl) ?_
  refine n_extract rfl (by first|simp only[nf,Nat.beq]<;>rfl|rfl) rfl ?_
  refine n_extract rfl (by first|simp only[nf,Nat.beq]<;>rfl|rfl) rfl ?_
  refine n_extract rfl (by first|simp only[nf,Nat.beq]<;>rfl|rfl) rfl ?_
  refine n_alloc rfl zi141 rfl (by first|simp only[nf,Nat.beq]<;>rfl|rfl) (by first|simp only[nf,Nat.beq]<;>rfl|rfl) ?_
  refine n_store ti141 (by first|simp only[nf,Nat.beq]<;>rfl|rfl) rfl (by first|simp only[nf,Nat.beq]<;>rfl|rfl) rfl (by first|simp only[nf,Nat.beq]<;>rfl|rfl) rfl rfl rfl (by first|simp only[nf,Nat.beq]<;>rfl|rfl) ?_
  refine n_assign rfl (by first|simp only[nf,Nat.beq]<;>rfl|rfl) ?_
  refine n_assign rfl (by first|simp only[nf,Nat.beq]<;>rfl|rfl) ?_
  refine AOps.nil ?_
  refine AWP.seq ?_
  refine AWP.region ?_
  refine n_move rfl (by first|simp only[nf,Nat.beq]<;>rfl|rfl) ?_
  refine n_move rfl (by first|simp only[nf,Nat.beq]<;>rfl|rfl) ?_
  refine n_guard_yes rfl rfl rfl (by first|simp only[nf,Nat.beq]<;>rfl|rfl) rfl ?_
  refine n_move rfl (by first|simp only[nf,Nat.beq]<;>rfl|rfl) ?_
  refine n_guard_yes rfl rfl rfl (by first|simp only[nf,Nat.beq]<;>rfl|rfl) rfl ?_
  refine n_ibin rfl (by first|simp only[nf,Nat.beq]<;>rfl|rfl) (by first|simp only[nf,Nat.beq]<;>rfl|rfl) rfl ?_
  refine n_pick rfl (by first|simp only[nf,Nat.beq]<;>rfl|rfl) (by first|simp only[nf,Nat.beq]<;>rfl|rfl) ?_
  refine n_move rfl (by first|simp only[nf,Nat.beq]<;>rfl|rfl) ?_
  refine n_guard_yes rfl rfl rfl (by first|simp only[nf,Nat.beq]<;>rfl|rfl) rfl ?_
  refine n_fieldAddr rfl fd157_2 ti2 rfl (by first|simp only[nf,Nat.beq]<;>rfl|rfl) rfl (by first|simp only[nf,Nat.beq]<;>rfl|rfl) ?_
  refine n_guard_yes rfl rfl rfl (by first|simp only[nf,Nat.beq]<;>rfl|rfl) rfl ?_
  refine n_load rfl ti2 (by first|simp only[nf,Nat.beq]<;>rfl|rfl) (by first|simp only[nf,Nat.beq]<;>rfl|rfl) rfl (by first|simp only[nf,Nat.beq]<;>rfl|rfl) ?_
  refine n_guard_yes rfl rfl rfl (by first|simp only[nf,Nat.beq]<;>rfl|rfl) rfl ?_
  refine n_ibin rfl (by first|simp only[nf,Nat.beq]<;>rfl|rfl) (by first|simp only[nf,Nat.beq]<;>rfl|rfl) rfl ?_
  refine n_pick rfl (by first|simp only[nf,Nat.beq]<;>rfl|rfl) (by first|simp only[nf,Nat.beq]<;>rfl|rfl) ?_
  refine n_move rfl (by first|simp only[nf,Nat.beq]<;>rfl|rfl) ?_
  refine n_guard_yes rfl rfl rfl (by first|simp only[nf,Nat.beq]<;>rfl|rfl) rfl ?_
  refine n_move rfl (by first|simp only[nf,Nat.beq]<;>rfl|rfl) ?_
  refine n_pick rfl (by first|simp only[nf,Nat.beq]<;>rfl|rfl) (by first|simp only[nf,Nat.beq]<;>rfl|rfl) ?_
  refine n_move rfl (by first|simp only[nf,Nat.beq]<;>rfl|rfl) ?_
  refine n_guard_yes rfl rfl rfl (by first|simp only[nf,Nat.beq]<;>rfl|rfl) rfl ?_
  refine n_move rfl (by first|simp only[nf,Nat.beq]<;>rfl|rfl) ?_
  refine n_guard_yes rfl rfl rfl (by first|simp only[nf,Nat.beq]<;>rfl|rfl) rfl ?_
  refine n_lit1Bs rfl Try.underlying22 ei5 (by first|simp only[nf,Nat.beq]<;>rfl|rfl) rfl (by first|simp only[nf,Nat.beq]<;>rfl|rfl) ?_
  refine n_guard_yes rfl rfl rfl (by first|simp only[nf,Nat.beq]<;>rfl|rfl) rfl ?_
  refine n_convBs (xs := ints .u8 [120]) rfl Try.underlying22 Try.underlying5 (by first|simp only[nf,Nat.beq]<;>rfl|rfl)  rfl rfl rfl (ints_one _ _) (by intro x hx d hd; simp only [ints, List.map_cons, List.map_nil, List.mem_cons, List.not_mem_nil, or_false] at hx; subst hx; simp only [List.mem_cons, List.not_mem_nil, or_false] at hd; subst hd; rfl) (by first|simp only[nf,Nat.beq]<;>rfl|rfl) ?_
  refine n_guard_yes rfl rfl rfl (by first|simp only[nf,Nat.beq]<;>rfl|rfl) rfl ?_
  refine n_call0B rfl cf40 rfl (Eq.trans (by simp only [nl] <;> rfl) (by first|simp only[nf,Nat.beq]<;>rfl|rfl)) (by repeat (first | exact .nil | refine .cons ?_ ?_ | exact ren_ints | exact .lf (.val _) | exact .lf (lf_ints (.inl rfl)) | exact .bp ⟨rfl, rfl⟩ | exact .bp (.inl ⟨rfl, rfl⟩) | exact .bp (.inr ⟨rfl, rfl⟩) | exact ren_bys0 rfl | exact .lf (D.flat_lf rfl) | exact ren_lits rfl | exact .lf (lf_ssz _) | exact .lf (lf_pqz _) | exact ren_q0 rfl | exact ren_pq rfl | exact ren_nl0 | exact ren_sq | exact .lf (.fn (fun d h => by cases h) (fun d h => by cases h)))) (he) (by first | exact .val _ | exact lf_ints (.inl rfl) | exact lf_ints (.inr rfl) | exact .any | exact D.flat_lf rfl | exact lf_ssz _ | exact lf_pqz _ | exact lf_nl0 | exact .tup (lf_cons (lf_ssz _) (lf_cons (.val _) lf_nil)) | exact .tup (lf_cons (lf_pqz _) (lf_cons (.val _) lf_nil)) | exact .tup (lf_cons (lf_ints (.inl rfl)) (lf_cons (.val _) lf_nil)) | exact .tup (lf_cons (lf_ssz _) (lf_cons (lf_ints (.inl rfl)) (lf_cons (.val _) lf_nil))) | exact .tup (lf_cons (lf_ssz _) (lf_cons (lf_ssz _) (lf_cons (.val _) lf_nil))) | exact lf_sent) ?_
  refine n_pick rfl (by first|simp only[nf,Nat.beq]<;>rfl|rfl) (by first|simp only[nf,Nat.beq]<;>rfl|rfl) ?_
  refine n_move rfl (by first|simp only[nf,Nat.beq]<;>rfl|rfl) ?_
  refine n_guard_yes rfl rfl rfl (by first|simp only[nf,Nat.beq]<;>rfl|rfl) rfl ?_
  refine n_move rfl (by first|simp only[nf,Nat.beq]<;>rfl|rfl) ?_
  refine n_guard_yes rfl rfl rfl (by first|simp only[nf,Nat.beq]<;>rfl|rfl) rfl ?_
  refine n_not rfl (by first|simp only[nf,Nat.beq]<;>rfl|rfl) rfl ?_
  refine n_pick rfl (by first|simp only[nf,Nat.beq]<;>rfl|rfl) (by first|simp only[nf,Nat.beq]<;>rfl|rfl) ?_
  refine n_assign rfl (by first|simp only[nf,Nat.beq]<;>rfl|rfl) ?_
  refine AOps.nil ?_
  refine AWP.ret ?_
  refine fin_pure (.cons (rv_tmp (by first|simp only[nf,Nat.beq]<;>rfl|rfl)) .nil) (by first|simp only[nf,Nat.beq]<;>rfl|rfl) ?_
  exact ren_flat rfl rfl

theorem l_bytes (x : Pq) (hl : L40 x.l) : Does Try.prog 149 [.agg (pqz x)] [] (.tup [bys x.bytes, vi x.chk]) [] := by
  refine Does.of_body (rvs := [.tmp 2, .tmp 3]) Try.func149 rfl rfl rfl rfl ?_
  refine AWP.seq ?_
  refine AWP.region ?_
  refine n_box rfl (by first|simp only[nf,Nat.beq]<;>rfl|rfl) rfl rfl (by first|simp only[nf,Nat.beq]<;>rfl|rfl) (by first|simp only[nf,Nat.beq]<;>rfl|rfl) ?_
  refine n_assign rfl (by first|simp only[nf,Nat.beq]<;>rfl|rfl) ?_
  refine n_assign rfl (by first|simp only[nf,Nat.beq]<;>rfl|rfl) ?_
  refine AOps.nil ?_
  refine AWP.seq ?_
  refine AWP.seq ?_
  refine AWP.region ?_
  refine n_load rfl ti157 (by first|simp only[nf,Nat.beq]<;>rfl|rfl) (by first|simp only[nf,Nat.beq]<;>rfl|rfl) rfl (by first|simp only[nf,Nat.beq]<;>rfl|rfl) ?_
  refine n_call0B rfl cf156 rfl (Eq.trans (by simp only [nl] <;> rfl) (by first|simp only[nf,Nat.beq]<;>rfl|rfl)) (by repeat (first | exact .nil | refine .cons ?_ ?_ | exact ren_ints | exact .lf (.val _) | exact .lf (lf_ints (.inl rfl)) | exact .bp ⟨rfl, rfl⟩ | exact .bp (.inl ⟨rfl, rfl⟩) | exact .bp (.inr ⟨rfl, rfl⟩) | exact ren_bys0 rfl | exact .lf (D.flat_lf rfl) | exact ren_lits rfl | exact .lf (lf_ssz _) | exact .lf (lf_pqz _) | exact ren_q0 rfl | exact ren_pq rfl | exact ren_nl0 | exact ren_sq | exact .lf (.fn (fun d h => by cases h) (fun d h => by cases h)))) (l_cp _ (by first | assumption | omega)) (by first | exact .val _ | exact lf_ints (.inl rfl) | exact lf_ints (.inr rfl) | exact .any | exact D.flat_lf rfl | exact lf_ssz _ | exact lf_pqz _ | exact lf_nl0 | exact .tup (lf_cons (lf_ssz _) (lf_cons (.val _) lf_nil)) | exact .tup (lf_cons (lf_pqz _) (lf_cons (.val _) lf_nil)) | exact .tup (lf_cons (lf_ints (.inl rfl)) (lf_cons (.val _) lf_nil)) | exact .tup (lf_cons (lf_ssz _) (lf_cons (lf_ints (.inl rfl)) (lf_cons (.val _) lf_nil))) | exact .tup (lf_cons (lf_ssz _) (lf_cons (lf_ssz _) (lf_cons (.val _) lf_nil))) | exact lf_sent) ?_
  refine n_assign rfl (by first|simp only[nf,Nat.beq]<;>rfl|rfl) ?_
  refine AOps.nil ?_
  refine AWP.seq ?_
  refine AWP.region ?_
  refine n_move rfl (by first|simp only[nf,Nat.beq]<;>rfl|rfl) ?_
  refine n_ibin rfl (by first|simp only[nf,Nat.beq]<;>rfl|rfl) (by first|simp only[nf,Nat.beq]<;>rfl|rfl) rfl ?_
  refine AOps.nil ?_
  refine AWP.cond (by first|simp only[nf,Nat.beq]<;>rfl|rfl) (fun hc1 => ?_) (fun hc1 => ?_)
  · try simp only [nh] at hc1
    have hz : x.bytes = [] := by unfold Pq.bytes; rw [if_pos hc1]
    have hz2 := hc1
    refine AWP.seq ?_
    refine AWP.region ?_
    refine n_move rfl (by first|simp only[nf,Nat.beq]<;>rfl|rfl) ?_
    refine n_assign rfl (by first|simp only[nf,Nat.beq]<;>rfl|rfl) ?_
    refine n_assign rfl (by first|simp only[nf,Nat.beq]<;>rfl|rfl) ?_
    refine AOps.nil ?_
    refine AWP.ret ?_
    refine fin_pure (.cons (rv_tmp (by first|simp only[nf,Nat.beq]<;>rfl|rfl)) (.cons (rv_tmp (by first|simp only[nf,Nat.beq]<;>rfl|rfl)) .nil)) (by first|simp only[nf,Nat.beq]<;>rfl|rfl) ?_
    refine .tup rfl (ren_two (by first | exact ren_bys0 hz | exact ren_bys rfl) (ren_flat rfl (by first | rfl | rw [hz2])))
  · try simp only [nh] at hc1
    have hc0 : x.chk = 0 := by simpa using hc1
    have hI := p_int [] x.four (Pq.four_i64 hc0) (by simp [Pq.four])
    rw [List.nil_append] at hI
    have h4 : (forms x.four).length ≤ 40 := forms_len' x.four (Pq.four_i64 hc0)
    have hS := p_str (forms x.four) x.l (by omega) hl
    have hz : x.bytes = forms x.four ++ forms [(x.l.length : Int)] ++ x.l := by unfold Pq.bytes; rw [if_neg (by simp [hc0])]
    have hz2 := hc0
    rw [← hz] at hS
    refine AWP.skip ?_
    refine AWP.seq ?_
    refine AWP.anyT [9, 12] (fun p => match p with | [false, false] => [.box (pqz x)] | [true, false] => [.box (pqz x), .row (forms x.four).length 1] | [true, true] => [.box (pqz x), .row (forms x.four).length 1, .row x.bytes.length 1] | _ => []) (by kernel_rfl) (by kernel_rfl) rfl rfl ?_
    refine Walk.cases [([false, false], [.box (pqz x)], [.box (pqz x)])] (by rfl) (by kernel_rfl) (rs := [1]) (by rfl) (by first|simp only[nf,Nat.beq]<;>rfl|rfl) (fun base => ⟨
        ⟨rfl, rfl, by
          refine n_fieldAddr rfl fd157_0 ti2 rfl (by first|simp only[nf,Nat.beq]<;>rfl|rfl) rfl (by first|simp only[nf,Nat.beq]<;>rfl|rfl) ?_
          exact AOps.nil ⟨rfl, rfl, rfl⟩⟩,
        trivial⟩) ?_
    refine Walk.cases [([false, false], [.box (pqz x)], [.box (pqz x)])] (by rfl) (by kernel_rfl) (rs := [10]) (by rfl) (by first|simp only[nf,Nat.beq]<;>rfl|rfl) (fun base => ⟨
        ⟨rfl, rfl, by
          refine n_load rfl ti2 (by first|simp only[nf,Nat.beq]<;>rfl|rfl) (by first|simp only[nf,Nat.beq]<;>rfl|rfl) rfl (by first|simp only[nf,Nat.beq]<;>rfl|rfl) ?_
          exact AOps.nil ⟨rfl, rfl, rfl⟩⟩,
        trivial⟩) ?_
    refine Walk.cases [([false, false], [.box (pqz x)], [.box (pqz x)])] (by rfl) (by kernel_rfl) (rs := [1]) (by rfl) (by first|simp only[nf,Nat.beq]<;>rfl|rfl) (fun base => ⟨
        ⟨rfl, rfl, by
          refine n_fieldAddr rfl fd157_1 ti2 rfl (by first|simp only[nf,Nat.beq]<;>rfl|rfl) rfl (by first|simp only[nf,Nat.beq]<;>rfl|rfl) ?_
          exact AOps.nil ⟨rfl, rfl, rfl⟩⟩,
        trivial⟩) ?_
    refine Walk.cases [([false, false], [.box (pqz x)], [.box (pqz x)])] (by rfl) (by kernel_rfl) (rs := [12]) (by rfl) (by first|simp only[nf,Nat.beq]<;>rfl|rfl) (fun base => ⟨
        ⟨rfl, rfl, by
          refine n_load rfl ti2 (by first|simp only[nf,Nat.beq]<;>rfl|rfl) (by first|simp only[nf,Nat.beq]<;>rfl|rfl) rfl (by first|simp only[nf,Nat.beq]<;>rfl|rfl) ?_
          exact AOps.nil ⟨rfl, rfl, rfl⟩⟩,
        trivial⟩) ?_
    refine Walk.cases [([false, false], [.box (pqz x)], [.box (pqz x)])] (by rfl) (by kernel_rfl) (rs := [1]) (by rfl) (by first|simp only[nf,Nat.beq]<;>rfl|rfl) (fun base => ⟨
        ⟨rfl, rfl, by
          refine n_fieldAddr rfl fd157_2 ti2 rfl (by first|simp only[nf,Nat.beq]<;>rfl|rfl) rfl (by first|simp only[nf,Nat.beq]<;>rfl|rfl) ?_
          exact AOps.nil ⟨rfl, rfl, rfl⟩⟩,
        trivial⟩) ?_
    refine Walk.cases [([false, false], [.box (pqz x)], [.box (pqz x)])] (by rfl) (by kernel_rfl) (rs := [14]) (by rfl) (by first|simp only[nf,Nat.beq]<;>rfl|rfl) (fun base => ⟨
        ⟨rfl, rfl, by
          refine n_load rfl ti2 (by first|simp only[nf,Nat.beq]<;>rfl|rfl) (by first|simp only[nf,Nat.beq]<;>rfl|rfl) rfl (by first|simp only[nf,Nat.beq]<;>rfl|rfl) ?_
          exact AOps.nil ⟨rfl, rfl, rfl⟩⟩,
        trivial⟩) ?_
    refine Walk.cases [([false, false], [.box (pqz x)], [.box (pqz x)])] (by rfl) (by kernel_rfl) (rs := [1]) (by rfl) (by first|simp only[nf,Nat.beq]<;>rfl|rfl) (fun base => ⟨
        ⟨rfl, rfl, by
          refine n_fieldAddr rfl fd157_3 ti2 rfl (by first|simp only[nf,Nat.beq]<;>rfl|rfl) rfl (by first|simp only[nf,Nat.beq]<;>rfl|rfl) ?_
          exact AOps.nil ⟨rfl, rfl, rfl⟩⟩,
        trivial⟩) ?_
    refine Walk.cases [([false, false], [.box (pqz x)], [.box (pqz x)])] (by rfl) (by kernel_rfl) (rs := [16]) (by rfl) (by first|simp only[nf,Nat.beq]<;>rfl|rfl) (fun base => ⟨
        ⟨rfl, rfl, by
          refine n_load rfl ti2 (by first|simp only[nf,Nat.beq]<;>rfl|rfl) (by first|simp only[nf,Nat.beq]<;>rfl|rfl) rfl (by first|simp only[nf,Nat.beq]<;>rfl|rfl) ?_
          exact AOps.nil ⟨rfl, rfl, rfl⟩⟩,
        trivial⟩) ?_
    refine Walk.cases [([false, false], [.box (pqz x)], [.box (pqz x)])] (by rfl) (by kernel_rfl) (rs := [11, 13, 15, 17]) (by rfl) (by first|simp only[nf,Nat.beq]<;>rfl|rfl) (fun base => ⟨
        ⟨rfl, rfl, by
          refine n_lit rfl Try.underlying77 ti2 zi2 rfl rfl (Eq.trans (by simp only [nl] <;> rfl) (by first|simp only[nf,Nat.beq]<;>rfl|rfl)) rfl (by first|simp only[nf,Nat.beq]<;>rfl|rfl) ?_
          exact AOps.nil ⟨rfl, rfl, rfl⟩⟩,
        trivial⟩) ?_
    refine Walk.cases [([false, false], [.box (pqz x)], [.box (pqz x), .row (forms x.four).length 1])] (by rfl) (by kernel_rfl) (rs := [18]) (by rfl) (by first|simp only[nf,Nat.beq]<;>rfl|rfl) (fun base => ⟨
        ⟨rfl, rfl, by
          refine n_callOwnB rfl cf75 rfl (Eq.trans (by simp only [nl] <;> rfl) (by first|simp only[nf,Nat.beq]<;>rfl|rfl)) (by repeat (first | exact .nil | refine .cons ?_ ?_ | exact ren_ints | exact .lf (.val _) | exact .lf (lf_ints (.inl rfl)) | exact .bp ⟨rfl, rfl⟩ | exact .bp (.inl ⟨rfl, rfl⟩) | exact .bp (.inr ⟨rfl, rfl⟩) | exact ren_bys0 rfl | exact .lf (D.flat_lf rfl) | exact ren_lits rfl | exact .lf (lf_ssz _) | exact .lf (lf_pqz _) | exact ren_q0 rfl | exact ren_pq rfl | exact ren_nl0 | exact ren_sq | exact .lf (.fn (fun d h => by cases h) (fun d h => by cases h)))) (hI) (by first | exact ints_lf _ _) rfl (by first|simp only[nf,Nat.beq]<;>rfl|rfl) ?_
          exact AOps.nil ⟨rfl, rfl, rfl⟩⟩,
        trivial⟩) ?_
    refine Walk.cases [([false, false], [.box (pqz x)], [.box (pqz x)]), ([true, false], [.box (pqz x), .row (forms x.four).length 1], [.box (pqz x), .row (forms x.four).length 1])] (by rfl) (by kernel_rfl) (rs := [1]) (by rfl) (by first|simp only[nf,Nat.beq]<;>rfl|rfl) (fun base => ⟨
        ⟨rfl, rfl, by
          refine n_fieldAddr rfl fd157_4 ti22 rfl (by first|simp only[nf,Nat.beq]<;>rfl|rfl) rfl (by first|simp only[nf,Nat.beq]<;>rfl|rfl) ?_
          exact AOps.nil ⟨rfl, rfl, rfl⟩⟩,
        ⟨rfl, rfl, by
          refine n_fieldAddr rfl fd157_4 ti22 rfl (by first|simp only[nf,Nat.beq]<;>rfl|rfl) rfl (by first|simp only[nf,Nat.beq]<;>rfl|rfl) ?_
          exact AOps.nil ⟨rfl, rfl, rfl⟩⟩,
        trivial⟩) ?_
    refine Walk.cases [([false, false], [.box (pqz x)], [.box (pqz x)]), ([true, false], [.box (pqz x), .row (forms x.four).length 1], [.box (pqz x), .row (forms x.four).length 1])] (by rfl) (by kernel_rfl) (rs := [20]) (by rfl) (by first|simp only[nf,Nat.beq]<;>rfl|rfl) (fun base => ⟨
        ⟨rfl, rfl, by
          refine n_load rfl ti22 (by first|simp only[nf,Nat.beq]<;>rfl|rfl) (by first|simp only[nf,Nat.beq]<;>rfl|rfl) rfl (by first|simp only[nf,Nat.beq]<;>rfl|rfl) ?_
          exact AOps.nil ⟨rfl, rfl, rfl⟩⟩,
        ⟨rfl, rfl, by
          refine n_load rfl ti22 (by first|simp only[nf,Nat.beq]<;>rfl|rfl) (by first|simp only[nf,Nat.beq]<;>rfl|rfl) rfl (by first|simp only[nf,Nat.beq]<;>rfl|rfl) ?_
          exact AOps.nil ⟨rfl, rfl, rfl⟩⟩,
        trivial⟩) ?_
    refine Walk.cases [([true, false], [.box (pqz x), .row (forms x.four).length 1], [.box (pqz x), .row (forms x.four).length 1, .row x.bytes.length 1])] (by rfl) (by kernel_rfl) (rs := [19, 21]) (by rfl) (by first|simp only[nf,Nat.beq]<;>rfl|rfl) (fun base => ⟨
        ⟨rfl, rfl, by
          refine n_callOwnB rfl cf77 rfl (Eq.trans (by simp only [nl] <;> rfl) (by first|simp only[nf,Nat.beq]<;>rfl|rfl)) (by repeat (first | exact .nil | refine .cons ?_ ?_ | exact ren_ints | exact .lf (.val _) | exact .lf (lf_ints (.inl rfl)) | exact .bp ⟨rfl, rfl⟩ | exact .bp (.inl ⟨rfl, rfl⟩) | exact .bp (.inr ⟨rfl, rfl⟩) | exact ren_bys0 rfl | exact .lf (D.flat_lf rfl) | exact ren_lits rfl | exact .lf (lf_ssz _) | exact .lf (lf_pqz _) | exact ren_q0 rfl | exact ren_pq rfl | exact ren_nl0 | exact ren_sq | exact .lf (.fn (fun d h => by cases h) (fun d h => by cases h)))) (hS) (by first | exact ints_lf _ _) rfl (by first|simp only[nf,Nat.beq]<;>rfl|rfl) ?_
          exact AOps.nil ⟨rfl, rfl, rfl⟩⟩,
        trivial⟩) ?_
    refine Walk.cases [([true, true], [.box (pqz x), .row (forms x.four).length 1, .row x.bytes.length 1], [.box (pqz x), .row (forms x.four).length 1, .row x.bytes.length 1])] (by rfl) (by kernel_rfl) (rs := [22]) (by rfl) (by first|simp only[nf,Nat.beq]<;>rfl|rfl) (fun base => ⟨
        ⟨rfl, rfl, by
          refine n_assign rfl (by first|simp only[nf,Nat.beq]<;>rfl|rfl) ?_
          exact AOps.nil ⟨rfl, rfl, rfl⟩⟩,
        trivial⟩) ?_
    refine Walk.cases [([true, true], [.box (pqz x), .row (forms x.four).length 1, .row x.bytes.length 1], [.box (pqz x), .row (forms x.four).length 1, .row x.bytes.length 1])] (by rfl) (by kernel_rfl) (rs := []) (by rfl) (by first|simp only[nf,Nat.beq]<;>rfl|rfl) (fun base => ⟨
        ⟨rfl, rfl, by
          refine n_assign rfl (by first|simp only[nf,Nat.beq]<;>rfl|rfl) ?_
          exact AOps.nil ⟨rfl, rfl, rfl⟩⟩,
        trivial⟩) ?_
    refine Walk.done ?_
    refine AWP.ret ?_
    refine fin_pure (.cons (rv_tmp (by first|simp only[nf,Nat.beq]<;>rfl|rfl)) (.cons (rv_tmp (by first|simp only[nf,Nat.beq]<;>rfl|rfl)) .nil)) (by first|simp only[nf,Nat.beq]<;>rfl|rfl) ?_
    refine .tup rfl (ren_two (by first | exact ren_bys0 hz | exact ren_bys rfl) (ren_flat rfl (by first | rfl | rw [hz2])))

theorem r_bytes (x : Pq) (hl : L40 x.l) : Does Try.prog 150 [.agg (pqz x)] [] (.tup [bys x.bytes, vi x.chk]) [] := by
  refine Does.of_body (rvs := [.tmp 2, .tmp 3]) Try.func150 rfl rfl rfl rfl ?_
  refine AWP.seq ?_
  refine AWP.region ?_
  refine n_box rfl (by first|simp only[nf,Nat.beq]<;>rfl|rfl) rfl rfl (by first|simp only[nf,Nat.beq]<;>rfl|rfl) (by first|simp only[nf,Nat.beq]<;>rfl|rfl) ?_
  refine n_assign rfl (by first|simp only[nf,Nat.beq]<;>rfl|rfl) ?_
  refine n_assign rfl (by first|simp only[nf,Nat.beq]<;>rfl|rfl) ?_
  refine AOps.nil ?_
  refine AWP.seq ?_
  refine AWP.seq ?_
  refine AWP.region ?_
  refine n_load rfl ti157 (by first|simp only[nf,Nat.beq]<;>rfl|rfl) (by first|simp only[nf,Nat.beq]<;>rfl|rfl) rfl (by first|simp only[nf,Nat.beq]<;>rfl|rfl) ?_
  refine n_call0B rfl cf157 rfl (Eq.trans (by simp only [nl] <;> rfl) (by first|simp only[nf,Nat.beq]<;>rfl|rfl)) (by repeat (first | exact .nil | refine .cons ?_ ?_ | exact ren_ints | exact .lf (.val _) | exact .lf (lf_ints (.inl rfl)) | exact .bp ⟨rfl, rfl⟩ | exact .bp (.inl ⟨rfl, rfl⟩) | exact .bp (.inr ⟨rfl, rfl⟩) | exact ren_bys0 rfl | exact .lf (D.flat_lf rfl) | exact ren_lits rfl | exact .lf (lf_ssz _) | exact .lf (lf_pqz _) | exact ren_q0 rfl | exact ren_pq rfl | exact ren_nl0 | exact ren_sq | exact .lf (.fn (fun d h => by cases h) (fun d h => by cases h)))) (r_cp _ (by first | assumption | omega)) (by first | exact .val _ | exact lf_ints (.inl rfl) | exact lf_ints (.inr rfl) | exact .any | exact D.flat_lf rfl | exact lf_ssz _ | exact lf_pqz _ | exact lf_nl0 | exact .tup (lf_cons (lf_ssz _) (lf_cons (.val _) lf_nil)) | exact .tup (lf_cons (lf_pqz _) (lf_cons (.val _) lf_nil)) | exact .tup (lf_cons (lf_ints (.inl rfl)) (lf_cons (.val _) lf_nil)) | exact .tup (lf_cons (lf_ssz _) (lf_cons (lf_ints (.inl rfl)) (lf_cons (.val _) lf_nil))) | exact .tup (lf_cons (lf_ssz _) (lf_cons (lf_ssz _) (lf_cons (.val _) lf_nil))) | exact lf_sent) ?_
  refine n_assign rfl (by first|simp only[nf,Nat.beq]<;>rfl|rfl) ?_
  refine AOps.nil ?_
  refine AWP.seq ?_
  refine AWP.region ?_
  refine n_move rfl (by first|simp only[nf,Nat.beq]<;>rfl|rfl) ?_
  refine n_ibin rfl (by first|simp only[nf,Nat.beq]<;>rfl|rfl) (by first|simp only[nf,Nat.beq]<;>rfl|rfl) rfl ?_
  refine AOps.nil ?_
  refine AWP.cond (by first|simp only[nf,Nat.beq]<;>rfl|rfl) (fun hc1 => ?_) (fun hc1 => ?_)
  · try simp only [nh] at hc1
    have hz : x.bytes = [] := by unfold Pq.bytes; rw [if_pos hc1]
    have hz2 := hc1
    refine AWP.seq ?_
    refine AWP.region ?_
    refine n_move rfl (by first|simp only[nf,Nat.beq]<;>rfl|rfl) ?_
    refine n_assign rfl (by first|simp only[nf,Nat.beq]<;>rfl|rfl) ?_
    refine n_assign rfl (by first|simp only[nf,Nat.beq]<;>rfl|rfl) ?_
    refine AOps.nil ?_
    refine AWP.ret ?_
    refine fin_pure (.cons (rv_tmp (by first|simp only[nf,Nat.beq]<;>rfl|rfl)) (.cons (rv_tmp (by first|simp only[nf,Nat.beq]<;>rfl|rfl)) .nil)) (by first|simp only[nf,Nat.beq]<;>rfl|rfl) ?_
    refine .tup rfl (ren_two (by first | exact ren_bys0 hz | exact ren_bys rfl) (ren_flat rfl (by first | rfl | rw [hz2])))
  · try simp only [nh] at hc1
    have hc0 : x.chk = 0 := by simpa using hc1
    have hI := r_int [] x.four (Pq.four_i64 hc0) (by simp [Pq.four])
    rw [List.nil_append] at hI
    have h4 : (forms x.four).length ≤ 40 := forms_len' x.four (Pq.four_i64 hc0)
    have hS := r_str (forms x.four) x.l (by omega) hl
    have hz : x.bytes = forms x.four ++ forms [(x.l.length : Int)] ++ x.l := by unfold Pq.bytes; rw [if_neg (by simp [hc0])]
    have hz2 := hc0
    rw [← hz] at hS
    refine AWP.skip ?_
    refine AWP.seq ?_
    refine AWP.anyT [9, 12] (fun p => match p with | [false, false] => [.box (pqz x)] | [true, false] => [.box (pqz x), .row (forms x.four).length 1] | [true, true] => [.box (pqz x), .row (forms x.four).length 1, .row x.bytes.length 1] | _ => []) (by kernel_rfl) (by kernel_rfl) rfl rfl ?_
    refine Walk.cases [([false, false], [.box (pqz x)], [.box (pqz x)])] (by rfl) (by kernel_rfl) (rs := [1]) (by rfl) (by first|simp only[nf,Nat.beq]<;>rfl|rfl) (fun base => ⟨
        ⟨rfl, rfl, by
          refine n_fieldAddr rfl fd157_0 ti2 rfl (by first|simp only[nf,Nat.beq]<;>rfl|rfl) rfl (by first|simp only[nf,Nat.beq]<;>rfl|rfl) ?_
          exact AOps.nil ⟨rfl, rfl, rfl⟩⟩,
        trivial⟩) ?_
    refine Walk.cases [([false, false], [.box (pqz x)], [.box (pqz x)])] (by rfl) (by kernel_rfl) (rs := [10]) (by rfl) (by first|simp only[nf,Nat.beq]<;>rfl|rfl) (fun base => ⟨
        ⟨rfl, rfl, by
          refine n_load rfl ti2 (by first|simp only[nf,Nat.beq]<;>rfl|rfl) (by first|simp only[nf,Nat.beq]<;>rfl|rfl) rfl (by first|simp only[nf,Nat.beq]<;>rfl|rfl) ?_
          exact AOps.nil ⟨rfl, rfl, rfl⟩⟩,
        trivial⟩) ?_
    refine Walk.cases [([false, false], [.box (pqz x)], [.box (pqz x)])] (by rfl) (by kernel_rfl) (rs := [1]) (by rfl) (by first|simp only[nf,Nat.beq]<;>rfl|rfl) (fun base => ⟨
        ⟨rfl, rfl, by
          refine n_fieldAddr rfl fd157_1 ti2 rfl (by first|simp only[nf,Nat.beq]<;>rfl|rfl) rfl (by first|simp only[nf,Nat.beq]<;>rfl|rfl) ?_
          exact AOps.nil ⟨rfl, rfl, rfl⟩⟩,
        trivial⟩) ?_
    refine Walk.cases [([false, false], [.box (pqz x)], [.box (pqz x)])] (by rfl) (by kernel_rfl) (rs := [12]) (by rfl) (by first|simp only[nf,Nat.beq]<;>rfl|rfl) (fun base => ⟨
        ⟨rfl, rfl, by
          refine n_load rfl ti2 (by first|simp only[nf,Nat.beq]<;>rfl|rfl) (by first|simp only[nf,Nat.beq]<;>rfl|rfl) rfl (by first|simp only[nf,Nat.beq]<;>rfl|rfl) ?_
          exact AOps.nil ⟨rfl, rfl, rfl⟩⟩,
        trivial⟩) ?_
    refine Walk.cases [([false, false], [.box (pqz x)], [.box (pqz x)])] (by rfl) (by kernel_rfl) (rs := [1]) (by rfl) (by first|simp only[nf,Nat.beq]<;>rfl|rfl) (fun base => ⟨
        ⟨rfl, rfl, by
          refine n_fieldAddr rfl fd157_2 ti2 rfl (by first|simp only[nf,Nat.beq]<;>rfl|rfl) rfl (by first|simp only[nf,Nat.beq]<;>rfl|rfl) ?_
          exact AOps.nil ⟨rfl, rfl, rfl⟩⟩,
        trivial⟩) ?_
    refine Walk.cases [([false, false], [.box (pqz x)], [.box (pqz x)])] (by rfl) (by kernel_rfl) (rs := [14]) (by rfl) (by first|simp only[nf,Nat.beq]<;>rfl|rfl) (fun base => ⟨
        ⟨rfl, rfl, by
          refine n_load rfl ti2 (by first|simp only[nf,Nat.beq]<;>rfl|rfl) (by first|simp only[nf,Nat.beq]<;>rfl|rfl) rfl (by first|simp only[nf,Nat.beq]<;>rfl|rfl) ?_
          exact AOps.nil ⟨rfl, rfl, rfl⟩⟩,
        trivial⟩) ?_
    refine Walk.cases [([false, false], [.box (pqz x)], [.box (pqz x)])] (by rfl) (by kernel_rfl) (rs := [1]) (by rfl) (by first|simp only[nf,Nat.beq]<;>rfl|rfl) (fun base => ⟨
        ⟨rfl, rfl, by
          refine n_fieldAddr rfl fd157_3 ti2 rfl (by first|simp only[nf,Nat.beq]<;>rfl|rfl) rfl (by first|simp only[nf,Nat.beq]<;>rfl|rfl) ?_
          exact AOps.nil ⟨rfl, rfl, rfl⟩⟩,
        trivial⟩) ?_
    refine Walk.cases [([false, false], [.box (pqz x)], [.box (pqz x)])] (by rfl) (by kernel_rfl) (rs := [16]) (by rfl) (by first|simp only[nf,Nat.beq]<;>rfl|rfl) (fun base => ⟨
        ⟨rfl, rfl, by
          refine n_load rfl ti2 (by first|simp only[nf,Nat.beq]<;>rfl|rfl) (by first|simp only[nf,Nat.beq]<;>rfl|rfl) rfl (by first|simp only[nf,Nat.beq]<;>rfl|rfl) ?_
          exact AOps.nil ⟨rfl, rfl, rfl⟩⟩,
        trivial⟩) ?_
    refine Walk.cases [([false, false], [.box (pqz x)], [.box (pqz x)])] (by rfl) (by kernel_rfl) (rs := [11, 13, 15, 17]) (by rfl) (by first|simp only[nf,Nat.beq]<;>rfl|rfl) (fun base => ⟨
        ⟨rfl, rfl, by
          refine n_lit rfl Try.underlying77 ti2 zi2 rfl rfl (Eq.trans (by simp only [nl] <;> rfl) (by first|simp only[nf,Nat.beq]<;>rfl|rfl)) rfl (by first|simp only[nf,Nat.beq]<;>rfl|rfl) ?_
          exact AOps.nil ⟨rfl, rfl, rfl⟩⟩,
        trivial⟩) ?_
    refine Walk.cases [([false, false], [.box (pqz x)], [.box (pqz x), .row (forms x.four).length 1])] (by rfl) (by kernel_rfl) (rs := [18]) (by rfl) (by first|simp only[nf,Nat.beq]<;>rfl|rfl) (fun base => ⟨
        ⟨rfl, rfl, by
          refine n_callOwnB rfl cf76 rfl (Eq.trans (by simp only [nl] <;> rfl) (by first|simp only[nf,Nat.beq]<;>rfl|rfl)) (by repeat (first | exact .nil | refine .cons ?_ ?_ | exact ren_ints | exact .lf (.val _) | exact .lf (lf_ints (.inl rfl)) | exact .bp ⟨rfl, rfl⟩ | exact .bp (.inl ⟨rfl, rfl⟩) | exact .bp (.inr ⟨rfl, rfl⟩) | exact ren_bys0 rfl | exact .lf (D.flat_lf rfl) | exact ren_lits rfl | exact .lf (lf_ssz _) | exact .lf (lf_pqz _) | exact ren_q0 rfl | exact ren_pq rfl | exact ren_nl0 | exact ren_sq | exact .lf (.fn (fun d h => by cases h) (fun d h => by cases h)))) (hI) (by first | exact ints_lf _ _) rfl (by first|simp only[nf,Nat.beq]<;>rfl|rfl) ?_
          exact AOps.nil ⟨rfl, rfl, rfl⟩⟩,
        trivial⟩) ?_
    refine Walk.cases [([false, false], [.box (pqz x)], [.box (pqz x)]), ([true, false], [.box (pqz x), .row (forms x.four).length 1], [.box (pqz x), .row (forms x.four).length 1])] (by rfl) (by kernel_rfl) (rs := [1]) (by rfl) (by first|simp only[nf,Nat.beq]<;>rfl|rfl) (fun base => ⟨
        ⟨rfl, rfl, by
          refine n_fieldAddr rfl fd157_4 ti22 rfl (by first|simp only[nf,Nat.beq]<;>rfl|rfl) rfl (by first|simp only[nf,Nat.beq]<;>rfl|rfl) ?_
          exact AOps.nil ⟨rfl, rfl, rfl⟩⟩,
        ⟨rfl, rfl, by
          refine n_fieldAddr rfl fd157_4 ti22 rfl (by first|simp only[nf,Nat.beq]<;>rfl|rfl) rfl (by first|simp only[nf,Nat.beq]<;>rfl|rfl) ?_
          exact AOps.nil ⟨rfl, rfl, rfl⟩⟩,
        trivial⟩) ?_
    refine Walk.cases [([false, false], [.box (pqz x)], [.box (pqz x)]), ([true, false], [.box (pqz x), .row (forms x.four).length 1], [.box (pqz x), .row (forms x.four).length 1])] (by rfl) (by kernel_rfl) (rs := [20]) (by rfl) (by first|simp only[nf,Nat.beq]<;>rfl|rfl) (fun base => ⟨
        ⟨rfl, rfl, by
          refine n_load rfl ti22 (by first|simp only[nf,Nat.beq]<;>rfl|rfl) (by first|simp only[nf,Nat.beq]<;>rfl|rfl) rfl (by first|simp only[nf,Nat.beq]<;>rfl|rfl) ?_
          exact AOps.nil ⟨rfl, rfl, rfl⟩⟩,
        ⟨rfl, rfl, by
          refine n_load rfl ti22 (by first|simp only[nf,Nat.beq]<;>rfl|rfl) (by first|simp only[nf,Nat.beq]<;>rfl|rfl) rfl (by first|simp only[nf,Nat.beq]<;>rfl|rfl) ?_
          exact AOps.nil ⟨rfl, rfl, rfl⟩⟩,
        trivial⟩) ?_
    refine Walk.cases [([true, false], [.box (pqz x), .row (forms x.four).length 1], [.box (pqz x), .row (forms x.four).length 1, .row x.bytes.length 1])] (by rfl) (by kernel_rfl) (rs := [19, 21]) (by rfl) (by first|simp only[nf,Nat.beq]<;>rfl|rfl) (fun base => ⟨
        ⟨rfl, rfl, by
          refine n_callOwnB rfl cf78 rfl (Eq.trans (by simp only [nl] <;> rfl) (by first|simp only[nf,Nat.beq]<;>rfl|rfl)) (by repeat (first | exact .nil | refine .cons ?_ ?_ | exact ren_ints | exact .lf (.val _) | exact .lf (lf_ints (.inl rfl)) | exact .bp ⟨rfl, rfl⟩ | exact .bp (.inl ⟨rfl, rfl⟩) | exact .bp (.inr ⟨rfl, rfl⟩) | exact ren_bys0 rfl | exact .lf (D.flat_lf rfl) | exact ren_lits rfl | exact .lf (lf_ssz _) | exact .lf (lf_pqz _) | exact ren_q0 rfl | exact ren_pq rfl | exact ren_nl0 | exact ren_sq | exact .lf (.fn (fun d h => by cases h) (fun d h => by cases h)))) (hS) (by first | exact ints_lf _ _) rfl (by first|simp only[nf,Nat.beq]<;>rfl|rfl) ?_
          exact AOps.nil ⟨rfl, rfl, rfl⟩⟩,
        trivial⟩) ?_
    refine Walk.cases [([true, true], [.box (pqz x), .row (forms x.four).length 1, .row x.bytes.length 1], [.box (pqz x), .row (forms x.four).length 1, .row x.bytes.length 1])] (by rfl) (by kernel_rfl) (rs := [22]) (by rfl) (by first|simp only[nf,Nat.beq]<;>rfl|rfl) (fun base => ⟨
        ⟨rfl, rfl, by
          refine n_assign rfl (by first|simp only[nf,Nat.beq]<;>rfl|rfl) ?_
          exact AOps.nil ⟨rfl, rfl, rfl⟩⟩,
        trivial⟩) ?_
    refine Walk.cases [([true, true], [.box (pqz x), .row (forms x.four).length 1, .row x.bytes.length 1], [.box (pqz x), .row (forms x.four).length 1, .row x.bytes.length 1])] (by rfl) (by kernel_rfl) (rs := []) (by rfl) (by first|simp only[nf,Nat.beq]<;>rfl|rfl) (fun base => ⟨
        ⟨rfl, rfl, by
          refine n_assign rfl (by first|simp only[nf,Nat.beq]<;>rfl|rfl) ?_
          exact AOps.nil ⟨rfl, rfl, rfl⟩⟩,
        trivial⟩) ?_
    refine Walk.done ?_
    refine AWP.ret ?_
    refine fin_pure (.cons (rv_tmp (by first|simp only[nf,Nat.beq]<;>rfl|rfl)) (.cons (rv_tmp (by first|simp only[nf,Nat.beq]<;>rfl|rfl)) .nil)) (by first|simp only[nf,Nat.beq]<;>rfl|rfl) ?_
    refine .tup rfl (ren_two (by first | exact ren_bys0 hz | exact ren_bys rfl) (ren_flat rfl (by first | rfl | rw [hz2])))

theorem l_parse (b : List Int) (hb : Byt b) (hl : L40 b) : Does Try.prog 151 [bys b] [] (.tup [.agg (pqz (Pq.parse b).1), vi (Pq.parse b).2]) [] := by
  refine Does.of_body (rvs := [.cell 2 157, .tmp 3]) Try.func151 rfl rfl rfl rfl ?_
  obtain ⟨r1, hr1⟩ : ∃ r, r = (⟨b, 0⟩ : Up).w := ⟨_, rfl⟩
  have ok1 : r1.2.ok := by rw [hr1]; exact Up.w_ok ⟨hb, hl⟩
  obtain ⟨r2, hr2⟩ : ∃ r, r = r1.2.w := ⟨_, rfl⟩
  have ok2 : r2.2.ok := by rw [hr2]; exact Up.w_ok ok1
  obtain ⟨r3, hr3⟩ : ∃ r, r = r2.2.w := ⟨_, rfl⟩
  have ok3 : r3.2.ok := by rw [hr3]; exact Up.w_ok ok2
  obtain ⟨r4, hr4⟩ : ∃ r, r = r3.2.w := ⟨_, rfl⟩
  have ok4 : r4.2.ok := by rw [hr4]; exact Up.w_ok ok3
  obtain ⟨r5, hr5⟩ : ∃ r, r = r4.2.str 131072 := ⟨_, rfl⟩
  have ok5 : r5.2.ok := by rw [hr5]; exact (Up.str_ok ok4 _).1
  have c1 := l_any ⟨b, 0⟩ ⟨hb, hl⟩
  rw [← hr1] at c1
  have c2 := l_any r1.2 ok1
  rw [← hr2] at c2
  have c3 := l_any r2.2 ok2
  rw [← hr3] at c3
  have c4 := l_any r3.2 ok3
  rw [← hr4] at c4
  have c5 := Rd.U_str r4.2 ok4 131072 (by omega)
  rw [← hr5] at c5
  have c7 := Rd.U_close r5.2
  have hp : Pq.parse b = if r5.2.close ≠ 0 then (Pq.z, r5.2.close) else if (⟨r1.1, r2.1, r3.1, r4.1, r5.1⟩ : Pq).chk ≠ 0 then (Pq.z, (⟨r1.1, r2.1, r3.1, r4.1, r5.1⟩ : Pq).chk) else ((⟨r1.1, r2.1, r3.1, r4.1, r5.1⟩ : Pq), 0) := by rw [hr5, hr4, hr3, hr2, hr1]; unfold Pq.parse; rfl
  have hl5 : L40 r5.1 := by rw [hr5]; exact (Up.str_ok ok4 _).2.2
  refine AWP.seq ?_
  refine AWP.region ?_
  refine n_alloc rfl zi157 rfl (by first|simp only[nf,Nat.beq]<;>rfl|rfl) (by first|simp only[nf,Nat.beq]<;>rfl|rfl) ?_
  refine n_assign rfl (by first|simp only[nf,Nat.beq]<;>rfl|rfl) ?_
  refine AOps.nil ?_
  refine AWP.seq ?_
  refine AWP.region ?_
  refine n_move rfl (by first|simp only[nf,Nat.beq]<;>rfl|rfl) ?_
  refine n_callNewB rfl cf84 rfl (Eq.trans (by simp only [nl] <;> rfl) (by first|simp only[nf,Nat.beq]<;>rfl|rfl)) (by repeat (first | exact .nil | refine .cons ?_ ?_ | exact ren_ints | exact .lf (.val _) | exact .lf (lf_ints (.inl rfl)) | exact .bp ⟨rfl, rfl⟩ | exact .bp (.inl ⟨rfl, rfl⟩) | exact .bp (.inr ⟨rfl, rfl⟩) | exact ren_bys0 rfl | exact .lf (D.flat_lf rfl) | exact ren_lits rfl | exact .lf (lf_ssz _) | exact .lf (lf_pqz _) | exact ren_q0 rfl | exact ren_pq rfl | exact ren_nl0 | exact ren_sq | exact .lf (.fn (fun d h => by cases h) (fun d h => by cases h)))) (u_open b hl) (by repeat (first | exact lf_nil | refine lf_cons ?_ ?_ | exact .val _ | exact lf_ints (.inl rfl))) rfl (by first|simp only[nf,Nat.beq]<;>rfl|rfl) ?_
  refine n_alloc rfl zi94 rfl (by first|simp only[nf,Nat.beq]<;>rfl|rfl) (by first|simp only[nf,Nat.beq]<;>rfl|rfl) ?_
  refine n_store ti94 (by first|simp only[nf,Nat.beq]<;>rfl|rfl) rfl (by first|simp only[nf,Nat.beq]<;>rfl|rfl) rfl (by first|simp only[nf,Nat.beq]<;>rfl|rfl) rfl rfl rfl (by first|simp only[nf,Nat.beq]<;>rfl|rfl) ?_
  refine AOps.nil ?_
  refine AWP.seq ?_
  refine AWP.region ?_
  refine n_makeFunc rfl (Eq.trans (by simp only [nl] <;> rfl) (by first|simp only[nf,Nat.beq]<;>rfl|rfl)) (Eq.trans (by simp only [nl] <;> rfl) (by first|simp only[nf,Nat.beq]<;>rfl|rfl)) ?_
  refine n_assign rfl (by first|simp only[nf,Nat.beq]<;>rfl|rfl) ?_
  refine AOps.nil ?_
  refine AWP.seq ?_
  refine AWP.region ?_
  refine n_alloc rfl zi157 rfl (by first|simp only[nf,Nat.beq]<;>rfl|rfl) (by first|simp only[nf,Nat.beq]<;>rfl|rfl) ?_
  refine AOps.nil ?_
  refine AWP.seq ?_
  refine AWP.region ?_
  refine n_move rfl (by first|simp only[nf,Nat.beq]<;>rfl|rfl) ?_
  refine n_callClo rfl cf238 (by first|simp only[nf,Nat.beq]<;>rfl|rfl) (Eq.trans (by simp only [nl] <;> rfl) (by first|simp only[nf,Nat.beq]<;>rfl|rfl)) (by repeat (first | exact .nil | refine .cons ?_ ?_ | exact ren_ints | exact .lf (.val _) | exact .lf (lf_ints (.inl rfl)) | exact .bp ⟨rfl, rfl⟩ | exact .bp (.inl ⟨rfl, rfl⟩) | exact .bp (.inr ⟨rfl, rfl⟩) | exact ren_bys0 rfl | exact .lf (D.flat_lf rfl) | exact ren_lits rfl | exact .lf (lf_ssz _) | exact .lf (lf_pqz _) | exact ren_q0 rfl | exact ren_pq rfl | exact ren_nl0 | exact ren_sq | exact .lf (.fn (fun d h => by cases h) (fun d h => by cases h)))) (by rfl) (by rfl) (by rfl) (by repeat (first | exact .nil | refine .cons ?_ ?_ | exact ren_ints | exact .lf (.val _) | exact .lf (lf_ints (.inl rfl)) | exact .bp ⟨rfl, rfl⟩ | exact .bp (.inl ⟨rfl, rfl⟩) | exact .bp (.inr ⟨rfl, rfl⟩) | exact ren_bys0 rfl | exact .lf (D.flat_lf rfl) | exact ren_lits rfl | exact .lf (lf_ssz _) | exact .lf (lf_pqz _) | exact ren_q0 rfl | exact ren_pq rfl | exact ren_nl0 | exact ren_sq | exact .lf (.fn (fun d h => by cases h) (fun d h => by cases h)))) (c1) (by repeat (first | exact lf_nil | refine lf_cons ?_ ?_ | exact .val _ | exact lf_ints (.inl rfl))) (by first | exact .val _ | exact lf_ints (.inl rfl) | exact lf_ints (.inr rfl) | exact .any | exact D.flat_lf rfl | exact lf_ssz _ | exact lf_pqz _ | exact lf_nl0 | exact .tup (lf_cons (lf_ssz _) (lf_cons (.val _) lf_nil)) | exact .tup (lf_cons (lf_pqz _) (lf_cons (.val _) lf_nil)) | exact .tup (lf_cons (lf_ints (.inl rfl)) (lf_cons (.val _) lf_nil)) | exact .tup (lf_cons (lf_ssz _) (lf_cons (lf_ints (.inl rfl)) (lf_cons (.val _) lf_nil))) | exact .tup (lf_cons (lf_ssz _) (lf_cons (lf_ssz _) (lf_cons (.val _) lf_nil))) | exact lf_sent) (by first|simp only[nf,Nat.beq]<;>rfl|rfl) ?_
  refine n_fieldAddr rfl fd157_0 ti2 rfl (by first|simp only[nf,Nat.beq]<;>rfl|rfl) rfl (by first|simp only[nf,Nat.beq]<;>rfl|rfl) ?_
  refine n_store ti2 (by first|simp only[nf,Nat.beq]<;>rfl|rfl) rfl (by first|simp only[nf,Nat.beq]<;>rfl|rfl) rfl (by first|simp only[nf,Nat.beq]<;>rfl|rfl) rfl rfl rfl (by first|simp only[nf,Nat.beq]<;>rfl|rfl) ?_
  refine AOps.nil ?_
  refine AWP.seq ?_
  refine AWP.region ?_
  refine n_move rfl (by first|simp only[nf,Nat.beq]<;>rfl|rfl) ?_
  refine n_callClo rfl cf238 (by first|simp only[nf,Nat.beq]<;>rfl|rfl) (Eq.trans (by simp only [nl] <;> rfl) (by first|simp only[nf,Nat.beq]<;>rfl|rfl)) (by repeat (first | exact .nil | refine .cons ?_ ?_ | exact ren_ints | exact .lf (.val _) | exact .lf (lf_ints (.inl rfl)) | exact .bp ⟨rfl, rfl⟩ | exact .bp (.inl ⟨rfl, rfl⟩) | exact .bp (.inr ⟨rfl, rfl⟩) | exact ren_bys0 rfl | exact .lf (D.flat_lf rfl) | exact ren_lits rfl | exact .lf (lf_ssz _) | exact .lf (lf_pqz _) | exact ren_q0 rfl | exact ren_pq rfl | exact ren_nl0 | exact ren_sq | exact .lf (.fn (fun d h => by cases h) (fun d h => by cases h)))) (by rfl) (by rfl) (by rfl) (by repeat (first | exact .nil | refine .cons ?_ ?_ | exact ren_ints | exact .lf (.val _) | exact .lf (lf_ints (.inl rfl)) | exact .bp ⟨rfl, rfl⟩ | exact .bp (.inl ⟨rfl, rfl⟩) | exact .bp (.inr ⟨rfl, rfl⟩) | exact ren_bys0 rfl | exact .lf (D.flat_lf rfl) | exact ren_lits rfl | exact .lf (lf_ssz _) | exact .lf (lf_pqz _) | exact ren_q0 rfl | exact ren_pq rfl | exact ren_nl0 | exact ren_sq | exact .lf (.fn (fun d h => by cases h) (fun d h => by cases h)))) (c2) (by repeat (first | exact lf_nil | refine lf_cons ?_ ?_ | exact .val _ | exact lf_ints (.inl rfl))) (by first | exact .val _ | exact lf_ints (.inl rfl) | exact lf_ints (.inr rfl) | exact .any | exact D.flat_lf rfl | exact lf_ssz _ | exact lf_pqz _ | exact lf_nl0 | exact .tup (lf_cons (lf_ssz _) (lf_cons (.val _) lf_nil)) | exact .tup (lf_cons (lf_pqz _) (lf_cons (.val _) lf_nil)) | exact .tup (lf_cons (lf_ints (.inl rfl)) (lf_cons (.val _) lf_nil)) | exact .tup (lf_cons (lf_ssz _) (lf_cons (lf_ints (.inl rfl)) (lf_cons (.val _) lf_nil))) | exact .tup (lf_cons (lf_ssz _) (lf_cons (lf_ssz _) (lf_cons (.val _) lf_nil))) | exact lf_sent) (by first|simp only[nf,Nat.beq]<;>rfl|rfl) ?_
  refine n_fieldAddr rfl fd157_1 ti2 rfl (by first|simp only[nf,Nat.beq]<;>rfl|rfl) rfl (by first|simp only[nf,Nat.beq]<;>rfl|rfl) ?_
  refine n_store ti2 (by first|simp only[nf,Nat.beq]<;>rfl|rfl) rfl (by first|simp only[nf,Nat.beq]<;>rfl|rfl) rfl (by first|simp only[nf,Nat.beq]<;>rfl|rfl) rfl rfl rfl (by first|simp only[nf,Nat.beq]<;>rfl|rfl) ?_
  refine AOps.nil ?_
  refine AWP.seq ?_
  refine AWP.region ?_
  refine n_move rfl (by first|simp only[nf,Nat.beq]<;>rfl|rfl) ?_
  refine n_callClo rfl cf238 (by first|simp only[nf,Nat.beq]<;>rfl|rfl) (Eq.trans (by simp only [nl] <;> rfl) (by first|simp only[nf,Nat.beq]<;>rfl|rfl)) (by repeat (first | exact .nil | refine .cons ?_ ?_ | exact ren_ints | exact .lf (.val _) | exact .lf (lf_ints (.inl rfl)) | exact .bp ⟨rfl, rfl⟩ | exact .bp (.inl ⟨rfl, rfl⟩) | exact .bp (.inr ⟨rfl, rfl⟩) | exact ren_bys0 rfl | exact .lf (D.flat_lf rfl) | exact ren_lits rfl | exact .lf (lf_ssz _) | exact .lf (lf_pqz _) | exact ren_q0 rfl | exact ren_pq rfl | exact ren_nl0 | exact ren_sq | exact .lf (.fn (fun d h => by cases h) (fun d h => by cases h)))) (by rfl) (by rfl) (by rfl) (by repeat (first | exact .nil | refine .cons ?_ ?_ | exact ren_ints | exact .lf (.val _) | exact .lf (lf_ints (.inl rfl)) | exact .bp ⟨rfl, rfl⟩ | exact .bp (.inl ⟨rfl, rfl⟩) | exact .bp (.inr ⟨rfl, rfl⟩) | exact ren_bys0 rfl | exact .lf (D.flat_lf rfl) | exact ren_lits rfl | exact .lf (lf_ssz _) | exact .lf (lf_pqz _) | exact ren_q0 rfl | exact ren_pq rfl | exact ren_nl0 | exact ren_sq | exact .lf (.fn (fun d h => by cases h) (fun d h => by cases h)))) (c3) (by repeat (first | exact lf_nil | refine lf_cons ?_ ?_ | exact .val _ | exact lf_ints (.inl rfl))) (by first | exact .val _ | exact lf_ints (.inl rfl) | exact lf_ints (.inr rfl) | exact .any | exact D.flat_lf rfl | exact lf_ssz _ | exact lf_pqz _ | exact lf_nl0 | exact .tup (lf_cons (lf_ssz _) (lf_cons (.val _) lf_nil)) | exact .tup (lf_cons (lf_pqz _) (lf_cons (.val _) lf_nil)) | exact .tup (lf_cons (lf_ints (.inl rfl)) (lf_cons (.val _) lf_nil)) | exact .tup (lf_cons (lf_ssz _) (lf_cons (lf_ints (.inl rfl)) (lf_cons (.val _) lf_nil))) | exact .tup (lf_cons (lf_ssz _) (lf_cons (lf_ssz _) (lf_cons (.val _) lf_nil))) | exact lf_sent) (by first|simp only[nf,Nat.beq]<;>rfl|rfl) ?_
  refine n_fieldAddr rfl fd157_2 ti2 rfl (by first|simp only[nf,Nat.beq]<;>rfl|rfl) rfl (by first|simp only[nf,Nat.beq]<;>rfl|rfl) ?_
  refine n_store ti2 (by first|simp only[nf,Nat.beq]<;>rfl|rfl) rfl (by first|simp only[nf,Nat.beq]<;>rfl|rfl) rfl (by first|simp only[nf,Nat.beq]<;>rfl|rfl) rfl rfl rfl (by first|simp only[nf,Nat.beq]<;>rfl|rfl) ?_
  refine AOps.nil ?_
  refine AWP.seq ?_
  refine AWP.region ?_
  refine n_move rfl (by first|simp only[nf,Nat.beq]<;>rfl|rfl) ?_
  refine n_callClo rfl cf238 (by first|simp only[nf,Nat.beq]<;>rfl|rfl) (Eq.trans (by simp only [nl] <;> rfl) (by first|simp only[nf,Nat.beq]<;>rfl|rfl)) (by repeat (first | exact .nil | refine .cons ?_ ?_ | exact ren_ints | exact .lf (.val _) | exact .lf (lf_ints (.inl rfl)) | exact .bp ⟨rfl, rfl⟩ | exact .bp (.inl ⟨rfl, rfl⟩) | exact .bp (.inr ⟨rfl, rfl⟩) | exact ren_bys0 rfl | exact .lf (D.flat_lf rfl) | exact ren_lits rfl | exact .lf (lf_ssz _) | exact .lf (lf_pqz _) | exact ren_q0 rfl | exact ren_pq rfl | exact ren_nl0 | exact ren_sq | exact .lf (.fn (fun d h => by cases h) (fun d h => by cases h)))) (by rfl) (by rfl) (by rfl) (by repeat (first | exact .nil | refine .cons ?_ ?_ | exact ren_ints | exact .lf (.val _) | exact .lf (lf_ints (.inl rfl)) | exact .bp ⟨rfl, rfl⟩ | exact .bp (.inl ⟨rfl, rfl⟩) | exact .bp (.inr ⟨rfl, rfl⟩) | exact ren_bys0 rfl | exact .lf (D.flat_lf rfl) | exact ren_lits rfl | exact .lf (lf_ssz _) | exact .lf (lf_pqz _) | exact ren_q0 rfl | exact ren_pq rfl | exact ren_nl0 | exact ren_sq | exact .lf (.fn (fun d h => by cases h) (fun d h => by cases h)))) (c4) (by repeat (first | exact lf_nil | refine lf_cons ?_ ?_ | exact .val _ | exact lf_ints (.inl rfl))) (by first | exact .val _ | exact lf_ints (.inl rfl) | exact lf_ints (.inr rfl) | exact .any | exact D.flat_lf rfl | exact lf_ssz _ | exact lf_pqz _ | exact lf_nl0 | exact .tup (lf_cons (lf_ssz _) (lf_cons (.val _) lf_nil)) | exact .tup (lf_cons (lf_pqz _) (lf_cons (.val _) lf_nil)) | exact .tup (lf_cons (lf_ints (.inl rfl)) (lf_cons (.val _) lf_nil)) | exact .tup (lf_cons (lf_ssz _) (lf_cons (lf_ints (.inl rfl)) (lf_cons (.val _) lf_nil))) | exact .tup (lf_cons (lf_ssz _) (lf_cons (lf_ssz _) (lf_cons (.val _) lf_nil))) | exact lf_sent) (by first|simp only[nf,Nat.beq]<;>rfl|rfl) ?_
  refine n_fieldAddr rfl fd157_3 ti2 rfl (by first|simp only[nf,Nat.beq]<;>rfl|rfl) rfl (by first|simp only[nf,Nat.beq]<;>rfl|rfl) ?_
  refine n_store ti2 (by first|simp only[nf,Nat.beq]<;>rfl|rfl) rfl (by first|simp only[nf,Nat.beq]<;>rfl|rfl) rfl (by first|simp only[nf,Nat.beq]<;>rfl|rfl) rfl rfl rfl (by first|simp only[nf,Nat.beq]<;>rfl|rfl) ?_
  refine AOps.nil ?_
  refine AWP.seq ?_
  refine AWP.region ?_
  refine n_load rfl ti94 (by first|simp only[nf,Nat.beq]<;>rfl|rfl) (by first|simp only[nf,Nat.beq]<;>rfl|rfl) rfl (by first|simp only[nf,Nat.beq]<;>rfl|rfl) ?_
  refine n_callBoxB rfl cf87 rfl (Eq.trans (by simp only [nl] <;> rfl) (by first|simp only[nf,Nat.beq]<;>rfl|rfl)) (by repeat (first | exact .nil | refine .cons ?_ ?_ | exact ren_ints | exact .lf (.val _) | exact .lf (lf_ints (.inl rfl)) | exact .bp ⟨rfl, rfl⟩ | exact .bp (.inl ⟨rfl, rfl⟩) | exact .bp (.inr ⟨rfl, rfl⟩) | exact ren_bys0 rfl | exact .lf (D.flat_lf rfl) | exact ren_lits rfl | exact .lf (lf_ssz _) | exact .lf (lf_pqz _) | exact ren_q0 rfl | exact ren_pq rfl | exact ren_nl0 | exact ren_sq | exact .lf (.fn (fun d h => by cases h) (fun d h => by cases h)))) (by rfl) (by repeat (first | exact .nil | refine .cons ?_ ?_ | exact ren_ints | exact .lf (.val _) | exact .lf (lf_ints (.inl rfl)) | exact .bp ⟨rfl, rfl⟩ | exact .bp (.inl ⟨rfl, rfl⟩) | exact .bp (.inr ⟨rfl, rfl⟩) | exact ren_bys0 rfl | exact .lf (D.flat_lf rfl) | exact ren_lits rfl | exact .lf (lf_ssz _) | exact .lf (lf_pqz _) | exact ren_q0 rfl | exact ren_pq rfl | exact ren_nl0 | exact ren_sq | exact .lf (.fn (fun d h => by cases h) (fun d h => by cases h)))) (c5) (by repeat (first | exact lf_nil | refine lf_cons ?_ ?_ | exact .val _ | exact lf_ints (.inl rfl))) (by first | exact .val _ | exact lf_ints (.inl rfl) | exact lf_ints (.inr rfl) | exact .any | exact D.flat_lf rfl | exact lf_ssz _ | exact lf_pqz _ | exact lf_nl0 | exact .tup (lf_cons (lf_ssz _) (lf_cons (.val _) lf_nil)) | exact .tup (lf_cons (lf_pqz _) (lf_cons (.val _) lf_nil)) | exact .tup (lf_cons (lf_ints (.inl rfl)) (lf_cons (.val _) lf_nil)) | exact .tup (lf_cons (lf_ssz _) (lf_cons (lf_ints (.inl rfl)) (lf_cons (.val _) lf_nil))) | exact .tup (lf_cons (lf_ssz _) (lf_cons (lf_ssz _) (lf_cons (.val _) lf_nil))) | exact lf_sent) (by first|simp only[nf,Nat.beq]<;>rfl|rfl) ?_
  refine n_fieldAddr rfl fd157_4 ti22 rfl (by first|simp only[nf,Nat.beq]<;>rfl|rfl) rfl (by first|simp only[nf,Nat.beq]<;>rfl|rfl) ?_
  refine n_store ti22 (by first|simp only[nf,Nat.beq]<;>rfl|rfl) rfl (by first|simp only[nf,Nat.beq]<;>rfl|rfl) rfl (by first|simp only[nf,Nat.beq]<;>rfl|rfl) rfl rfl rfl (by first|simp only[nf,Nat.beq]<;>rfl|rfl) ?_
  refine AOps.nil ?_
  refine AWP.seq ?_
  refine AWP.seq ?_
  refine AWP.region ?_
  refine n_load rfl ti94 (by first|simp only[nf,Nat.beq]<;>rfl|rfl) (by first|simp only[nf,Nat.beq]<;>rfl|rfl) rfl (by first|simp only[nf,Nat.beq]<;>rfl|rfl) ?_
  refine n_callBoxB rfl cf91 rfl (Eq.trans (by simp only [nl] <;> rfl) (by first|simp only[nf,Nat.beq]<;>rfl|rfl)) (by repeat (first | exact .nil | refine .cons ?_ ?_ | exact ren_ints | exact .lf (.val _) | exact .lf (lf_ints (.inl rfl)) | exact .bp ⟨rfl, rfl⟩ | exact .bp (.inl ⟨rfl, rfl⟩) | exact .bp (.inr ⟨rfl, rfl⟩) | exact ren_bys0 rfl | exact .lf (D.flat_lf rfl) | exact ren_lits rfl | exact .lf (lf_ssz _) | exact .lf (lf_pqz _) | exact ren_q0 rfl | exact ren_pq rfl | exact ren_nl0 | exact ren_sq | exact .lf (.fn (fun d h => by cases h) (fun d h => by cases h)))) (by rfl) (by repeat (first | exact .nil | refine .cons ?_ ?_ | exact ren_ints | exact .lf (.val _) | exact .lf (lf_ints (.inl rfl)) | exact .bp ⟨rfl, rfl⟩ | exact .bp (.inl ⟨rfl, rfl⟩) | exact .bp (.inr ⟨rfl, rfl⟩) | exact ren_bys0 rfl | exact .lf (D.flat_lf rfl) | exact ren_lits rfl | exact .lf (lf_ssz _) | exact .lf (lf_pqz _) | exact ren_q0 rfl | exact ren_pq rfl | exact ren_nl0 | exact ren_sq | exact .lf (.fn (fun d h => by cases h) (fun d h => by cases h)))) (c7) (by repeat (first | exact lf_nil | refine lf_cons ?_ ?_ | exact .val _ | exact lf_ints (.inl rfl))) (by first | exact .val _ | exact lf_ints (.inl rfl) | exact lf_ints (.inr rfl) | exact .any | exact D.flat_lf rfl | exact lf_ssz _ | exact lf_pqz _ | exact lf_nl0 | exact .tup (lf_cons (lf_ssz _) (lf_cons (.val _) lf_nil)) | exact .tup (lf_cons (lf_pqz _) (lf_cons (.val _) lf_nil)) | exact .tup (lf_cons (lf_ints (.inl rfl)) (lf_cons (.val _) lf_nil)) | exact .tup (lf_cons (lf_ssz _) (lf_cons (lf_ints (.inl rfl)) (lf_cons (.val _) lf_nil))) | exact .tup (lf_cons (lf_ssz _) (lf_cons (lf_ssz _) (lf_cons (.val _) lf_nil))) | exact lf_sent) (by first|simp only[nf,Nat.beq]<;>rfl|rfl) ?_
  refine n_assign rfl (by first|simp only[nf,Nat.beq]<;>rfl|rfl) ?_
  refine AOps.nil ?_
  refine AWP.seq ?_
  refine AWP.region ?_
  refine n_move rfl (by first|simp only[nf,Nat.beq]<;>rfl|rfl) ?_
  refine n_ibin rfl (by first|simp only[nf,Nat.beq]<;>rfl|rfl) (by first|simp only[nf,Nat.beq]<;>rfl|rfl) rfl ?_
  refine AOps.nil ?_
  refine AWP.cond (by first|simp only[nf,Nat.beq]<;>rfl|rfl) (fun hc1 => ?_) (fun hc1 => ?_)
  · try simp only [nh] at hc1
    have h1 := hc1
    refine AWP.seq ?_
    refine AWP.region ?_
    refine n_build rfl si157 (Eq.trans (by simp only [nl] <;> rfl) (by first|simp only[nf,Nat.beq]<;>rfl|rfl)) (Eq.trans (by simp only [nl] <;> rfl) (by first|simp only[nf,Nat.beq]<;>rfl|rfl)) rfl ?_
    refine n_move rfl (by first|simp only[nf,Nat.beq]<;>rfl|rfl) ?_
    refine n_store ti157 (by first|simp only[nf,Nat.beq]<;>rfl|rfl) rfl (by first|simp only[nf,Nat.beq]<;>rfl|rfl) rfl (by first|simp only[nf,Nat.beq]<;>rfl|rfl) rfl rfl rfl (by first|simp only[nf,Nat.beq]<;>rfl|rfl) ?_
    refine n_assign rfl (by first|simp only[nf,Nat.beq]<;>rfl|rfl) ?_
    refine AOps.nil ?_
    refine AWP.ret ?_
    refine fin_pure (.cons (rv_cell ti157 (by first|simp only[nf,Nat.beq]<;>rfl|rfl) (by first|simp only[nf,Nat.beq]<;>rfl|rfl) rfl (by first|simp only[nf,Nat.beq]<;>rfl|rfl)) (.cons (rv_tmp (by first|simp only[nf,Nat.beq]<;>rfl|rfl)) .nil)) (by first|simp only[nf,Nat.beq]<;>rfl|rfl) ?_
    first | (rw [if_pos h1] at hp; rw [hp]; exact .tup rfl (ren_two (ren_pq0 rfl) (ren_flat rfl rfl))) | (rw [if_neg (by simp [h1])] at hp; first | (rw [if_pos h2] at hp; rw [hp]; exact .tup rfl (ren_two (ren_pq0 rfl) (ren_flat rfl rfl))) | (rw [if_neg (by simp [h2])] at hp; rw [hp]; exact .tup rfl (ren_two (ren_pq rfl) (ren_flat rfl rfl))))
  · try simp only [nh] at hc1
    have h1 := hc1
    refine AWP.skip ?_
    refine AWP.seq ?_
    refine AWP.seq ?_
    refine AWP.region ?_
    refine n_load rfl ti157 (by first|simp only[nf,Nat.beq]<;>rfl|rfl) (by first|simp only[nf,Nat.beq]<;>rfl|rfl) rfl (by first|simp only[nf,Nat.beq]<;>rfl|rfl) ?_
    refine n_call0B rfl cf156 rfl (Eq.trans (by simp only [nl] <;> rfl) (by first|simp only[nf,Nat.beq]<;>rfl|rfl)) (by repeat (first | exact .nil | refine .cons ?_ ?_ | exact ren_ints | exact .lf (.val _) | exact .lf (lf_ints (.inl rfl)) | exact .bp ⟨rfl, rfl⟩ | exact .bp (.inl ⟨rfl, rfl⟩) | exact .bp (.inr ⟨rfl, rfl⟩) | exact ren_bys0 rfl | exact .lf (D.flat_lf rfl) | exact ren_lits rfl | exact .lf (lf_ssz _) | exact .lf (lf_pqz _) | exact ren_q0 rfl | exact ren_pq rfl | exact ren_nl0 | exact ren_sq | exact .lf (.fn (fun d h => by cases h) (fun d h => by cases h)))) (l_cp (⟨r1.1, r2.1, r3.1, r4.1, r5.1⟩ : Pq) hl5) (by first | exact .val _ | exact lf_ints (.inl rfl) | exact lf_ints (.inr rfl) | exact .any | exact D.flat_lf rfl | exact lf_ssz _ | exact lf_pqz _ | exact lf_nl0 | exact .tup (lf_cons (lf_ssz _) (lf_cons (.val _) lf_nil)) | exact .tup (lf_cons (lf_pqz _) (lf_cons (.val _) lf_nil)) | exact .tup (lf_cons (lf_ints (.inl rfl)) (lf_cons (.val _) lf_nil)) | exact .tup (lf_cons (lf_ssz _) (lf_cons (lf_ints (.inl rfl)) (lf_cons (.val _) lf_nil))) | exact .tup (lf_cons (lf_ssz _) (lf_cons (lf_ssz _) (lf_cons (.val _) lf_nil))) | exact lf_sent) ?_
    refine n_assign rfl (by first|simp only[nf,Nat.beq]<;>rfl|rfl) ?_
    refine AOps.nil ?_
    refine AWP.seq ?_
    refine AWP.region ?_
    refine n_move rfl (by first|simp only[nf,Nat.beq]<;>rfl|rfl) ?_
    refine n_ibin rfl (by first|simp only[nf,Nat.beq]<;>rfl|rfl) (by first|simp only[nf,Nat.beq]<;>rfl|rfl) rfl ?_
    refine AOps.nil ?_
    refine AWP.cond (by first|simp only[nf,Nat.beq]<;>rfl|rfl) (fun hc2 => ?_) (fun hc2 => ?_)
    · try simp only [nh] at hc2
      have h2 := hc2
      refine AWP.seq ?_
      refine AWP.region ?_
      refine n_build rfl si157 (Eq.trans (by simp only [nl] <;> rfl) (by first|simp only[nf,Nat.beq]<;>rfl|rfl)) (Eq.trans (by simp only [nl] <;> rfl) (by first|simp only[nf,Nat.beq]<;>rfl|rfl)) rfl ?_
      refine n_move rfl (by first|simp only[nf,Nat.beq]<;>rfl|rfl) ?_
      refine n_store ti157 (by first|simp only[nf,Nat.beq]<;>rfl|rfl) rfl (by first|simp only[nf,Nat.beq]<;>rfl|rfl) rfl (by first|simp only[nf,Nat.beq]<;>rfl|rfl) rfl rfl rfl (by first|simp only[nf,Nat.beq]<;>rfl|rfl) ?_
      refine n_assign rfl (by first|simp only[nf,Nat.beq]<;>rfl|rfl) ?_
      refine AOps.nil ?_
      refine AWP.ret ?_
      refine fin_pure (.cons (rv_cell ti157 (by first|simp only[nf,Nat.beq]<;>rfl|rfl) (by first|simp only[nf,Nat.beq]<;>rfl|rfl) rfl (by first|simp only[nf,Nat.beq]<;>rfl|rfl)) (.cons (rv_tmp (by first|simp only[nf,Nat.beq]<;>rfl|rfl)) .nil)) (by first|simp only[nf,Nat.beq]<;>rfl|rfl) ?_
      first | (rw [if_pos h1] at hp; rw [hp]; exact .tup rfl (ren_two (ren_pq0 rfl) (ren_flat rfl rfl))) | (rw [if_neg (by simp [h1])] at hp; first | (rw [if_pos h2] at hp; rw [hp]; exact .tup rfl (ren_two (ren_pq0 rfl) (ren_flat rfl rfl))) | (rw [if_neg (by simp [h2])] at hp; rw [hp]; exact .tup rfl (ren_two (ren_pq rfl) (ren_flat rfl rfl))))
    · try simp only [nh] at hc2
      have h2 := hc2
      refine AWP.skip ?_
      refine AWP.seq ?_
      refine AWP.region ?_
      refine n_load rfl ti157 (by first|simp only[nf,Nat.beq]<;>rfl|rfl) (by first|simp only[nf,Nat.beq]<;>rfl|rfl) rfl (by first|simp only[nf,Nat.beq]<;>rfl|rfl) ?_
      refine n_store ti157 (by first|simp only[nf,Nat.beq]<;>rfl|rfl) rfl (by first|simp only[nf,Nat.beq]<;>rfl|rfl) rfl (by first|simp only[nf,Nat.beq]<;>rfl|rfl) rfl rfl rfl (by first|simp only[nf,Nat.beq]<;>rfl|rfl) ?_
      refine n_assign rfl (by first|simp only[nf,Nat.beq]<;>rfl|rfl) ?_
      refine AOps.nil ?_
      refine AWP.ret ?_
      refine fin_pure (.cons (rv_cell ti157 (by first|simp only[nf,Nat.beq]<;>rfl|rfl) (by first|simp only[nf,Nat.beq]<;>rfl|rfl) rfl (by first|simp only[nf,Nat.beq]<;>rfl|rfl)) (.cons (rv_tmp (by first|simp only[nf,Nat.beq]<;>rfl|rfl)) .nil)) (by first|simp only[nf,Nat.beq]<;>rfl|rfl) ?_
      first | (rw [if_pos h1] at hp; rw [hp]; exact .tup rfl (ren_two (ren_pq0 rfl) (ren_flat rfl rfl))) | (rw [if_neg (by simp [h1])] at hp; first | (rw [if_pos h2] at hp; rw [hp]; exact .tup rfl (ren_two (ren_pq0 rfl) (ren_flat rfl rfl))) | (rw [if_neg (by simp [h2])] at hp; rw [hp]; exact .tup rfl (ren_two (ren_pq rfl) (ren_flat rfl rfl))))

theorem r_parse (b : List Int) (hb : Byt b) (hl : L40 b) : Does Try.prog 152 [bys b] [] (.tup [.agg (pqz (Pq.parse b).1), vi (Pq.parse b).2]) [] := by
  refine Does.of_body (rvs := [.cell 2 157, .tmp 3]) Try.func152 rfl rfl rfl rfl ?_
  obtain ⟨r1, hr1⟩ : ∃ r, r = (⟨b, 0⟩ : Up).w := ⟨_, rfl⟩
  have ok1 : r1.2.ok := by rw [hr1]; exact Up.w_ok ⟨hb, hl⟩
  obtain ⟨r2, hr2⟩ : ∃ r, r = r1.2.w := ⟨_, rfl⟩
  have ok2 : r2.2.ok := by rw [hr2]; exact Up.w_ok ok1
  obtain ⟨r3, hr3⟩ : ∃ r, r = r2.2.w := ⟨_, rfl⟩
  have ok3 : r3.2.ok := by rw [hr3]; exact Up.w_ok ok2
  obtain ⟨r4, hr4⟩ : ∃ r, r = r3.2.w := ⟨_, rfl⟩
  have ok4 : r4.2.ok := by rw [hr4]; exact Up.w_ok ok3
  obtain ⟨r5, hr5⟩ : ∃ r, r = r4.2.str 131072 := ⟨_, rfl⟩
  have ok5 : r5.2.ok := by rw [hr5]; exact (Up.str_ok ok4 _).1
  have c1 := l_wide ⟨b, 0⟩ ⟨hb, hl⟩
  rw [← hr1] at c1
  have c2 := l_wide r1.2 ok1
  rw [← hr2] at c2
  have c3 := l_wide r2.2 ok2
  rw [← hr3] at c3
  have c4 := l_wide r3.2 ok3
  rw [← hr4] at c4
  have c5 := Rd.R_str r4.2 ok4 131072 (by omega)
  rw [← hr5] at c5
  have c7 := Rd.R_close r5.2
  have c0 := Rd.R_open b hl
  have hp : Pq.parse b = if r5.2.close ≠ 0 then (Pq.z, r5.2.close) else if (⟨r1.1, r2.1, r3.1, r4.1, r5.1⟩ : Pq).chk ≠ 0 then (Pq.z, (⟨r1.1, r2.1, r3.1, r4.1, r5.1⟩ : Pq).chk) else ((⟨r1.1, r2.1, r3.1, r4.1, r5.1⟩ : Pq), 0) := by rw [hr5, hr4, hr3, hr2, hr1]; unfold Pq.parse; rfl
  have hl5 : L40 r5.1 := by rw [hr5]; exact (Up.str_ok ok4 _).2.2
  refine AWP.seq ?_
  refine AWP.region ?_
  refine n_alloc rfl zi157 rfl (by first|simp only[nf,Nat.beq]<;>rfl|rfl) (by first|simp only[nf,Nat.beq]<;>rfl|rfl) ?_
  refine n_assign rfl (by first|simp only[nf,Nat.beq]<;>rfl|rfl) ?_
  refine AOps.nil ?_
  refine AWP.seq ?_
  refine AWP.region ?_
  refine n_move rfl (by first|simp only[nf,Nat.beq]<;>rfl|rfl) ?_
  refine n_callNewB rfl cf89 rfl (Eq.trans (by simp only [nl] <;> rfl) (by first|simp only[nf,Nat.beq]<;>rfl|rfl)) (by repeat (first | exact .nil | refine .cons ?_ ?_ | exact ren_ints | exact .lf (.val _) | exact .lf (lf_ints (.inl rfl)) | exact .bp ⟨rfl, rfl⟩ | exact .bp (.inl ⟨rfl, rfl⟩) | exact .bp (.inr ⟨rfl, rfl⟩) | exact ren_bys0 rfl | exact .lf (D.flat_lf rfl) | exact ren_lits rfl | exact .lf (lf_ssz _) | exact .lf (lf_pqz _) | exact ren_q0 rfl | exact ren_pq rfl | exact ren_nl0 | exact ren_sq | exact .lf (.fn (fun d h => by cases h) (fun d h => by cases h)))) (c0) (by repeat (first | exact lf_nil | refine lf_cons ?_ ?_ | exact .val _ | exact lf_ints (.inl rfl))) rfl (by first|simp only[nf,Nat.beq]<;>rfl|rfl) ?_
  refine n_assign rfl (by first|simp only[nf,Nat.beq]<;>rfl|rfl) ?_
  refine AOps.nil ?_
  refine AWP.seq ?_
  refine AWP.region ?_
  refine n_move rfl (by first|simp only[nf,Nat.beq]<;>rfl|rfl) ?_
  refine n_callBoxB rfl cf239 rfl (Eq.trans (by simp only [nl] <;> rfl) (by first|simp only[nf,Nat.beq]<;>rfl|rfl)) (by repeat (first | exact .nil | refine .cons ?_ ?_ | exact ren_ints | exact .lf (.val _) | exact .lf (lf_ints (.inl rfl)) | exact .bp ⟨rfl, rfl⟩ | exact .bp (.inl ⟨rfl, rfl⟩) | exact .bp (.inr ⟨rfl, rfl⟩) | exact ren_bys0 rfl | exact .lf (D.flat_lf rfl) | exact ren_lits rfl | exact .lf (lf_ssz _) | exact .lf (lf_pqz _) | exact ren_q0 rfl | exact ren_pq rfl | exact ren_nl0 | exact ren_sq | exact .lf (.fn (fun d h => by cases h) (fun d h => by cases h)))) (by rfl) (by repeat (first | exact .nil | refine .cons ?_ ?_ | exact ren_ints | exact .lf (.val _) | exact .lf (lf_ints (.inl rfl)) | exact .bp ⟨rfl, rfl⟩ | exact .bp (.inl ⟨rfl, rfl⟩) | exact .bp (.inr ⟨rfl, rfl⟩) | exact ren_bys0 rfl | exact .lf (D.flat_lf rfl) | exact ren_lits rfl | exact .lf (lf_ssz _) | exact .lf (lf_pqz _) | exact ren_q0 rfl | exact ren_pq rfl | exact ren_nl0 | exact ren_sq | exact .lf (.fn (fun d h => by cases h) (fun d h => by cases h)))) (c1) (by repeat (first | exact lf_nil | refine lf_cons ?_ ?_ | exact .val _ | exact lf_ints (.inl rfl))) (by first | exact .val _ | exact lf_ints (.inl rfl) | exact lf_ints (.inr rfl) | exact .any | exact D.flat_lf rfl | exact lf_ssz _ | exact lf_pqz _ | exact lf_nl0 | exact .tup (lf_cons (lf_ssz _) (lf_cons (.val _) lf_nil)) | exact .tup (lf_cons (lf_pqz _) (lf_cons (.val _) lf_nil)) | exact .tup (lf_cons (lf_ints (.inl rfl)) (lf_cons (.val _) lf_nil)) | exact .tup (lf_cons (lf_ssz _) (lf_cons (lf_ints (.inl rfl)) (lf_cons (.val _) lf_nil))) | exact .tup (lf_cons (lf_ssz _) (lf_cons (lf_ssz _) (lf_cons (.val _) lf_nil))) | exact lf_sent) (by first|simp only[nf,Nat.beq]<;>rfl|rfl) ?_
  refine n_build rfl si157 (Eq.trans (by simp only [nl] <;> rfl) (by first|simp only[nf,Nat.beq]<;>rfl|rfl)) (Eq.trans (by simp only [nl] <;> rfl) (by first|simp only[nf,Nat.beq]<;>rfl|rfl)) rfl ?_
  refine n_alloc rfl zi157 rfl (by first|simp only[nf,Nat.beq]<;>rfl|rfl) (by first|simp only[nf,Nat.beq]<;>rfl|rfl) ?_
  refine n_store ti157 (by first|simp only[nf,Nat.beq]<;>rfl|rfl) rfl (by first|simp only[nf,Nat.beq]<;>rfl|rfl) rfl (by first|simp only[nf,Nat.beq]<;>rfl|rfl) rfl rfl rfl (by first|simp only[nf,Nat.beq]<;>rfl|rfl) ?_
  refine AOps.nil ?_
  refine AWP.seq ?_
  refine AWP.region ?_
  refine n_move rfl (by first|simp only[nf,Nat.beq]<;>rfl|rfl) ?_
  refine n_callBoxB rfl cf239 rfl (Eq.trans (by simp only [nl] <;> rfl) (by first|simp only[nf,Nat.beq]<;>rfl|rfl)) (by repeat (first | exact .nil | refine .cons ?_ ?_ | exact ren_ints | exact .lf (.val _) | exact .lf (lf_ints (.inl rfl)) | exact .bp ⟨rfl, rfl⟩ | exact .bp (.inl ⟨rfl, rfl⟩) | exact .bp (.inr ⟨rfl, rfl⟩) | exact ren_bys0 rfl | exact .lf (D.flat_lf rfl) | exact ren_lits rfl | exact .lf (lf_ssz _) | exact .lf (lf_pqz _) | exact ren_q0 rfl | exact ren_pq rfl | exact ren_nl0 | exact ren_sq | exact .lf (.fn (fun d h => by cases h) (fun d h => by cases h)))) (by rfl) (by repeat (first | exact .nil | refine .cons ?_ ?_ | exact ren_ints | exact .lf (.val _) | exact .lf (lf_ints (.inl rfl)) | exact .bp ⟨rfl, rfl⟩ | exact .bp (.inl ⟨rfl, rfl⟩) | exact .bp (.inr ⟨rfl, rfl⟩) | exact ren_bys0 rfl | exact .lf (D.flat_lf rfl) | exact ren_lits rfl | exact .lf (lf_ssz _) | exact .lf (lf_pqz _) | exact ren_q0 rfl | exact ren_pq rfl | exact ren_nl0 | exact ren_sq | exact .lf (.fn (fun d h => by cases h) (fun d h => by cases h)))) (c2) (by repeat (first | exact lf_nil | refine lf_cons ?_ ?_ | exact .val _ | exact lf_ints (.inl rfl))) (by first | exact .val _ | exact lf_ints (.inl rfl) | exact lf_ints (.inr rfl) | exact .any | exact D.flat_lf rfl | exact lf_ssz _ | exact lf_pqz _ | exact lf_nl0 | exact .tup (lf_cons (lf_ssz _) (lf_cons (.val _) lf_nil)) | exact .tup (lf_cons (lf_pqz _) (lf_cons (.val _) lf_nil)) | exact .tup (lf_cons (lf_ints (.inl rfl)) (lf_cons (.val _) lf_nil)) | exact .tup (lf_cons (lf_ssz _) (lf_cons (lf_ints (.inl rfl)) (lf_cons (.val _) lf_nil))) | exact .tup (lf_cons (lf_ssz _) (lf_cons (lf_ssz _) (lf_cons (.val _) lf_nil))) | exact lf_sent) (by first|simp only[nf,Nat.beq]<;>rfl|rfl) ?_
  refine n_fieldAddr rfl fd157_1 ti2 rfl (by first|simp only[nf,Nat.beq]<;>rfl|rfl) rfl (by first|simp only[nf,Nat.beq]<;>rfl|rfl) ?_
  refine n_store ti2 (by first|simp only[nf,Nat.beq]<;>rfl|rfl) rfl (by first|simp only[nf,Nat.beq]<;>rfl|rfl) rfl (by first|simp only[nf,Nat.beq]<;>rfl|rfl) rfl rfl rfl (by first|simp only[nf,Nat.beq]<;>rfl|rfl) ?_
  refine AOps.nil ?_
  refine AWP.seq ?_
  refine AWP.region ?_
  refine n_move rfl (by first|simp only[nf,Nat.beq]<;>rfl|rfl) ?_
  refine n_callBoxB rfl cf239 rfl (Eq.trans (by simp only [nl] <;> rfl) (by first|simp only[nf,Nat.beq]<;>rfl|rfl)) (by repeat (first | exact .nil | refine .cons ?_ ?_ | exact ren_ints | exact .lf (.val _) | exact .lf (lf_ints (.inl rfl)) | exact .bp ⟨rfl, rfl⟩ | exact .bp (.inl ⟨rfl, rfl⟩) | exact .bp (.inr ⟨rfl, rfl⟩) | exact ren_bys0 rfl | exact .lf (D.flat_lf rfl) | exact ren_lits rfl | exact .lf (lf_ssz _) | exact .lf (lf_pqz _) | exact ren_q0 rfl | exact ren_pq rfl | exact ren_nl0 | exact ren_sq | exact .lf (.fn (fun d h => by cases h) (fun d h => by cases h)))) (by rfl) (by repeat (first | exact .nil | refine .cons ?_ ?_ | exact ren_ints | exact .lf (.val _) | exact .lf (lf_ints (.inl rfl)) | exact .bp ⟨rfl, rfl⟩ | exact .bp (.inl ⟨rfl, rfl⟩) | exact .bp (.inr ⟨rfl, rfl⟩) | exact ren_bys0 rfl | exact .lf (D.flat_lf rfl) | exact ren_lits rfl | exact .lf (lf_ssz _) | exact .lf (lf_pqz _) | exact ren_q0 rfl | exact ren_pq rfl | exact ren_nl0 | exact ren_sq | exact .lf (.fn (fun d h => by cases h) (fun d h => by cases h)))) (c3) (by repeat (first | exact lf_nil | refine lf_cons ?_ ?_ | exact .val _ | exact lf_ints (.inl rfl))) (by first | exact .val _ | exact lf_ints (.inl rfl) | exact lf_ints (.inr rfl) | exact .any | exact D.flat_lf rfl | exact lf_ssz _ | exact lf_pqz _ | exact lf_nl0 | exact .tup (lf_cons (lf_ssz _) (lf_cons (.val _) lf_nil)) | exact .tup (lf_cons (lf_pqz _) (lf_cons (.val _) lf_nil)) | exact .tup (lf_cons (lf_ints (.inl rfl)) (lf_cons (.val _) lf_nil)) | exact .tup (lf_cons (lf_ssz _) (lf_cons (lf_ints (.inl rfl)) (lf_cons (.val _) lf_nil))) | exact .tup (lf_cons (lf_ssz _) (lf_cons (lf_ssz _) (lf_cons (.val _) lf_nil))) | exact lf_sent) (by first|simp only[nf,Nat.beq]<;>rfl|rfl) ?_
  refine n_fieldAddr rfl fd157_2 ti2 rfl (by first|simp only[nf,Nat.beq]<;>rfl|rfl) rfl (by first|simp only[nf,Nat.beq]<;>rfl|rfl) ?_
  refine n_store ti2 (by first|simp only[nf,Nat.beq]<;>rfl|rfl) rfl (by first|simp only[nf,Nat.beq]<;>rfl|rfl) rfl (by first|simp only[nf,Nat.beq]<;>rfl|rfl) rfl rfl rfl (by first|simp only[nf,Nat.beq]<;>rfl|rfl) ?_
  refine AOps.nil ?_
  refine AWP.seq ?_
  refine AWP.region ?_
  refine n_move rfl (by first|simp only[nf,Nat.beq]<;>rfl|rfl) ?_
  refine n_callBoxB rfl cf239 rfl (Eq.trans (by simp only [nl] <;> rfl) (by first|simp only[nf,Nat.beq]<;>rfl|rfl)) (by repeat (first | exact .nil | refine .cons ?_ ?_ | exact ren_ints | exact .lf (.val _) | exact .lf (lf_ints (.inl rfl)) | exact .bp ⟨rfl, rfl⟩ | exact .bp (.inl ⟨rfl, rfl⟩) | exact .bp (.inr ⟨rfl, rfl⟩) | exact ren_bys0 rfl | exact .lf (D.flat_lf rfl) | exact ren_lits rfl | exact .lf (lf_ssz _) | exact .lf (lf_pqz _) | exact ren_q0 rfl | exact ren_pq rfl | exact ren_nl0 | exact ren_sq | exact .lf (.fn (fun d h => by cases h) (fun d h => by cases h)))) (by rfl) (by repeat (first | exact .nil | refine .cons ?_ ?_ | exact ren_ints | exact .lf (.val _) | exact .lf (lf_ints (.inl rfl)) | exact .bp ⟨rfl, rfl⟩ | exact .bp (.inl ⟨rfl, rfl⟩) | exact .bp (.inr ⟨rfl, rfl⟩) | exact ren_bys0 rfl | exact .lf (D.flat_lf rfl) | exact ren_lits rfl | exact .lf (lf_ssz _) | exact .lf (lf_pqz _) | exact ren_q0 rfl | exact ren_pq rfl | exact ren_nl0 | exact ren_sq | exact .lf (.fn (fun d h => by cases h) (fun d h => by cases h)))) (c4) (by repeat (first | exact lf_nil | refine lf_cons ?_ ?_ | exact .val _ | exact lf_ints (.inl rfl))) (by first | exact .val _ | exact lf_ints (.inl rfl) | exact lf_ints (.inr rfl) | exact .any | exact D.flat_lf rfl | exact lf_ssz _ | exact lf_pqz _ | exact lf_nl0 | exact .tup (lf_cons (lf_ssz _) (lf_cons (.val _) lf_nil)) | exact .tup (lf_cons (lf_pqz _) (lf_cons (.val _) lf_nil)) | exact .tup (lf_cons (lf_ints (.inl rfl)) (lf_cons (.val _) lf_nil)) | exact .tup (lf_cons (lf_ssz _) (lf_cons (lf_ints (.inl rfl)) (lf_cons (.val _) lf_nil))) | exact .tup (lf_cons (lf_ssz _) (lf_cons (lf_ssz _) (lf_cons (.val _) lf_nil))) | exact lf_sent) (by first|simp only[nf,Nat.beq]<;>rfl|rfl) ?_
  refine n_fieldAddr rfl fd157_3 ti2 rfl (by first|simp only[nf,Nat.beq]<;>rfl|rfl) rfl (by first|simp only[nf,Nat.beq]<;>rfl|rfl) ?_
  refine n_store ti2 (by first|simp only[nf,Nat.beq]<;>rfl|rfl) rfl (by first|simp only[nf,Nat.beq]<;>rfl|rfl) rfl (by first|simp only[nf,Nat.beq]<;>rfl|rfl) rfl rfl rfl (by first|simp only[nf,Nat.beq]<;>rfl|rfl) ?_
  refine AOps.nil ?_
  refine AWP.seq ?_
  refine AWP.region ?_
  refine n_move rfl (by first|simp only[nf,Nat.beq]<;>rfl|rfl) ?_
  refine n_callBoxB rfl cf199 rfl (Eq.trans (by simp only [nl] <;> rfl) (by first|simp only[nf,Nat.beq]<;>rfl|rfl)) (by repeat (first | exact .nil | refine .cons ?_ ?_ | exact ren_ints | exact .lf (.val _) | exact .lf (lf_ints (.inl rfl)) | exact .bp ⟨rfl, rfl⟩ | exact .bp (.inl ⟨rfl, rfl⟩) | exact .bp (.inr ⟨rfl, rfl⟩) | exact ren_bys0 rfl | exact .lf (D.flat_lf rfl) | exact ren_lits rfl | exact .lf (lf_ssz _) | exact .lf (lf_pqz _) | exact ren_q0 rfl | exact ren_pq rfl | exact ren_nl0 | exact ren_sq | exact .lf (.fn (fun d h => by cases h) (fun d h => by cases h)))) (by rfl) (by repeat (first | exact .nil | refine .cons ?_ ?_ | exact ren_ints | exact .lf (.val _) | exact .lf (lf_ints (.inl rfl)) | exact .bp ⟨rfl, rfl⟩ | exact .bp (.inl ⟨rfl, rfl⟩) | exact .bp (.inr ⟨rfl, rfl⟩) | exact ren_bys0 rfl | exact .lf (D.flat_lf rfl) | exact ren_lits rfl | exact .lf (lf_ssz _) | exact .lf (lf_pqz _) | exact ren_q0 rfl | exact ren_pq rfl | exact ren_nl0 | exact ren_sq | exact .lf (.fn (fun d h => by cases h) (fun d h => by cases h)))) (c5) (by repeat (first | exact lf_nil | refine lf_cons ?_ ?_ | exact .val _ | exact lf_ints (.inl rfl))) (by first | exact .val _ | exact lf_ints (.inl rfl) | exact lf_ints (.inr rfl) | exact .any | exact D.flat_lf rfl | exact lf_ssz _ | exact lf_pqz _ | exact lf_nl0 | exact .tup (lf_cons (lf_ssz _) (lf_cons (.val _) lf_nil)) | exact .tup (lf_cons (lf_pqz _) (lf_cons (.val _) lf_nil)) | exact .tup (lf_cons (lf_ints (.inl rfl)) (lf_cons (.val _) lf_nil)) | exact .tup (lf_cons (lf_ssz _) (lf_cons (lf_ints (.inl rfl)) (lf_cons (.val _) lf_nil))) | exact .tup (lf_cons (lf_ssz _) (lf_cons (lf_ssz _) (lf_cons (.val _) lf_nil))) | exact lf_sent) (by first|simp only[nf,Nat.beq]<;>rfl|rfl) ?_
  refine n_fieldAddr rfl fd157_4 ti22 rfl (by first|simp only[nf,Nat.beq]<;>rfl|rfl) rfl (by first|simp only[nf,Nat.beq]<;>rfl|rfl) ?_
  refine n_store ti22 (by first|simp only[nf,Nat.beq]<;>rfl|rfl) rfl (by first|simp only[nf,Nat.beq]<;>rfl|rfl) rfl (by first|simp only[nf,Nat.beq]<;>rfl|rfl) rfl rfl rfl (by first|simp only[nf,Nat.beq]<;>rfl|rfl) ?_
  refine AOps.nil ?_
  refine AWP.seq ?_
  refine AWP.seq ?_
  refine AWP.region ?_
  refine n_move rfl (by first|simp only[nf,Nat.beq]<;>rfl|rfl) ?_
  refine n_callBoxB rfl cf92 rfl (Eq.trans (by simp only [nl] <;> rfl) (by first|simp only[nf,Nat.beq]<;>rfl|rfl)) (by repeat (first | exact .nil | refine .cons ?_ ?_ | exact ren_ints | exact .lf (.val _) | exact .lf (lf_ints (.inl rfl)) | exact .bp ⟨rfl, rfl⟩ | exact .bp (.inl ⟨rfl, rfl⟩) | exact .bp (.inr ⟨rfl, rfl⟩) | exact ren_bys0 rfl | exact .lf (D.flat_lf rfl) | exact ren_lits rfl | exact .lf (lf_ssz _) | exact .lf (lf_pqz _) | exact ren_q0 rfl | exact ren_pq rfl | exact ren_nl0 | exact ren_sq | exact .lf (.fn (fun d h => by cases h) (fun d h => by cases h)))) (by rfl) (by repeat (first | exact .nil | refine .cons ?_ ?_ | exact ren_ints | exact .lf (.val _) | exact .lf (lf_ints (.inl rfl)) | exact .bp ⟨rfl, rfl⟩ | exact .bp (.inl ⟨rfl, rfl⟩) | exact .bp (.inr ⟨rfl, rfl⟩) | exact ren_bys0 rfl | exact .lf (D.flat_lf rfl) | exact ren_lits rfl | exact .lf (lf_ssz _) | exact .lf (lf_pqz _) | exact ren_q0 rfl | exact ren_pq rfl | exact ren_nl0 | exact ren_sq | exact .lf (.fn (fun d h => by cases h) (fun d h => by cases h)))) (c7) (by repeat (first | exact lf_nil | refine lf_cons ?_ ?_ | exact .val _ | exact lf_ints (.inl rfl))) (by first | exact .val _ | exact lf_ints (.inl rfl) | exact lf_ints (.inr rfl) | exact .any | exact D.flat_lf rfl | exact lf_ssz _ | exact lf_pqz _ | exact lf_nl0 | exact .tup (lf_cons (lf_ssz _) (lf_cons (.val _) lf_nil)) | exact .tup (lf_cons (lf_pqz _) (lf_cons (.val _) lf_nil)) | exact .tup (lf_cons (lf_ints (.inl rfl)) (lf_cons (.val _) lf_nil)) | exact .tup (lf_cons (lf_ssz _) (lf_cons (lf_ints (.inl rfl)) (lf_cons (.val _) lf_nil))) | exact .tup (lf_cons (lf_ssz _) (lf_cons (lf_ssz _) (lf_cons (.val _) lf_nil))) | exact lf_sent) (by first|simp only[nf,Nat.beq]<;>rfl|rfl) ?_
  refine n_assign rfl (by first|simp only[nf,Nat.beq]<;>rfl|rfl) ?_
  refine AOps.nil ?_
  refine AWP.seq ?_
  refine AWP.region ?_
  refine n_move rfl (by first|simp only[nf,Nat.beq]<;>rfl|rfl) ?_
  refine n_ibin rfl (by first|simp only[nf,Nat.beq]<;>rfl|rfl) (by first|simp only[nf,Nat.beq]<;>rfl|rfl) rfl ?_
  refine AOps.nil ?_
  refine AWP.cond (by first|simp only[nf,Nat.beq]<;>rfl|rfl) (fun hc1 => ?_) (fun hc1 => ?_)
  · try simp only [nh] at hc1
    have h1 := hc1
    refine AWP.seq ?_
    refine AWP.region ?_
    refine n_build rfl si157 (Eq.trans (by simp only [nl] <;> rfl) (by first|simp only[nf,Nat.beq]<;>rfl|rfl)) (Eq.trans (by simp only [nl] <;> rfl) (by first|simp only[nf,Nat.beq]<;>rfl|rfl)) rfl ?_
    refine n_move rfl (by first|simp only[nf,Nat.beq]<;>rfl|rfl) ?_
    refine n_store ti157 (by first|simp only[nf,Nat.beq]<;>rfl|rfl) rfl (by first|simp only[nf,Nat.beq]<;>rfl|rfl) rfl (by first|simp only[nf,Nat.beq]<;>rfl|rfl) rfl rfl rfl (by first|simp only[nf,Nat.beq]<;>rfl|rfl) ?_
    refine n_assign rfl (by first|simp only[nf,Nat.beq]<;>rfl|rfl) ?_
    refine AOps.nil ?_
    refine AWP.ret ?_
    refine fin_pure (.cons (rv_cell ti157 (by first|simp only[nf,Nat.beq]<;>rfl|rfl) (by first|simp only[nf,Nat.beq]<;>rfl|rfl) rfl (by first|simp only[nf,Nat.beq]<;>rfl|rfl)) (.cons (rv_tmp (by first|simp only[nf,Nat.beq]<;>rfl|rfl)) .nil)) (by first|simp only[nf,Nat.beq]<;>rfl|rfl) ?_
    first | (rw [if_pos h1] at hp; rw [hp]; exact .tup rfl (ren_two (ren_pq0 rfl) (ren_flat rfl rfl))) | (rw [if_neg (by simp [h1])] at hp; first | (rw [if_pos h2] at hp; rw [hp]; exact .tup rfl (ren_two (ren_pq0 rfl) (ren_flat rfl rfl))) | (rw [if_neg (by simp [h2])] at hp; rw [hp]; exact .tup rfl (ren_two (ren_pq rfl) (ren_flat rfl rfl))))
  · try simp only [nh] at hc1
    have h1 := hc1
    refine AWP.skip ?_
    refine AWP.seq ?_
    refine AWP.seq ?_
    refine AWP.region ?_
    refine n_load rfl ti157 (by first|simp only[nf,Nat.beq]<;>rfl|rfl) (by first|simp only[nf,Nat.beq]<;>rfl|rfl) rfl (by first|simp only[nf,Nat.beq]<;>rfl|rfl) ?_
    refine n_call0B rfl cf157 rfl (Eq.trans (by simp only [nl] <;> rfl) (by first|simp only[nf,Nat.beq]<;>rfl|rfl)) (by repeat (first | exact .nil | refine .cons ?_ ?_ | exact ren_ints | exact .lf (.val _) | exact .lf (lf_ints (.inl rfl)) | exact .bp ⟨rfl, rfl⟩ | exact .bp (.inl ⟨rfl, rfl⟩) | exact .bp (.inr ⟨rfl, rfl⟩) | exact ren_bys0 rfl | exact .lf (D.flat_lf rfl) | exact ren_lits rfl | exact .lf (lf_ssz _) | exact .lf (lf_pqz _) | exact ren_q0 rfl | exact ren_pq rfl | exact ren_nl0 | exact ren_sq | exact .lf (.fn (fun d h => by cases h) (fun d h => by cases h)))) (r_cp (⟨r1.1, r2.1, r3.1, r4.1, r5.1⟩ : Pq) hl5) (by first | exact .val _ | exact lf_ints (.inl rfl) | exact lf_ints (.inr rfl) | exact .any | exact D.flat_lf rfl | exact lf_ssz _ | exact lf_pqz _ | exact lf_nl0 | exact .tup (lf_cons (lf_ssz _) (lf_cons (.val _) lf_nil)) | exact .tup (lf_cons (lf_pqz _) (lf_cons (.val _) lf_nil)) | exact .tup (lf_cons (lf_ints (.inl rfl)) (lf_cons (.val _) lf_nil)) | exact .tup (lf_cons (lf_ssz _) (lf_cons (lf_ints (.inl rfl)) (lf_cons (.val _) lf_nil))) | exact .tup (lf_cons (lf_ssz _) (lf_cons (lf_ssz _) (lf_cons (.val _) lf_nil))) | exact lf_sent) ?_
    refine n_assign rfl (by first|simp only[nf,Nat.beq]<;>rfl|rfl) ?_
    refine AOps.nil ?_
    refine AWP.seq ?_
    refine AWP.region ?_
    refine n_move rfl (by first|simp only[nf,Nat.beq]<;>rfl|rfl) ?_
    refine n_ibin rfl (by first|simp only[nf,Nat.beq]<;>rfl|rfl) (by first|simp only[nf,Nat.beq]<;>rfl|rfl) rfl ?_
    refine AOps.nil ?_
    refine AWP.cond (by first|simp only[nf,Nat.beq]<;>rfl|rfl) (fun hc2 => ?_) (fun hc2 => ?_)
    · try simp only [nh] at hc2
      have h2 := hc2
      refine AWP.seq ?_
      refine AWP.region ?_
      refine n_build rfl si157 (Eq.trans (by simp only [nl] <;> rfl) (by first|simp only[nf,Nat.beq]<;>rfl|rfl)) (Eq.trans (by simp only [nl] <;> rfl) (by first|simp only[nf,Nat.beq]<;>rfl|rfl)) rfl ?_
      refine n_move rfl (by first|simp only[nf,Nat.beq]<;>rfl|rfl) ?_
      refine n_store ti157 (by first|simp only[nf,Nat.beq]<;>rfl|rfl) rfl (by first|simp only[nf,Nat.beq]<;>rfl|rfl) rfl (by first|simp only[nf,Nat.beq]<;>rfl|rfl) rfl rfl rfl (by first|simp only[nf,Nat.beq]<;>rfl|rfl) ?_
      refine n_assign rfl (by first|simp only[nf,Nat.beq]<;>rfl|rfl) ?_
      refine AOps.nil ?_
      refine AWP.ret ?_
      refine fin_pure (.cons (rv_cell ti157 (by first|simp only[nf,Nat.beq]<;>rfl|rfl) (by first|simp only[nf,Nat.beq]<;>rfl|rfl) rfl (by first|simp only[nf,Nat.beq]<;>rfl|rfl)) (.cons (rv_tmp (by first|simp only[nf,Nat.beq]<;>rfl|rfl)) .nil)) (by first|simp only[nf,Nat.beq]<;>rfl|rfl) ?_
      first | (rw [if_pos h1] at hp; rw [hp]; exact .tup rfl (ren_two (ren_pq0 rfl) (ren_flat rfl rfl))) | (rw [if_neg (by simp [h1])] at hp; first | (rw [if_pos h2] at hp; rw [hp]; exact .tup rfl (ren_two (ren_pq0 rfl) (ren_flat rfl rfl))) | (rw [if_neg (by simp [h2])] at hp; rw [hp]; exact .tup rfl (ren_two (ren_pq rfl) (ren_flat rfl rfl))))
    · try simp only [nh] at hc2
      have h2 := hc2
      refine AWP.skip ?_
      refine AWP.seq ?_
      refine AWP.region ?_
      refine n_load rfl ti157 (by first|simp only[nf,Nat.beq]<;>rfl|rfl) (by first|simp only[nf,Nat.beq]<;>rfl|rfl) rfl (by first|simp only[nf,Nat.beq]<;>rfl|rfl) ?_
      refine n_store ti157 (by first|simp only[nf,Nat.beq]<;>rfl|rfl) rfl (by first|simp only[nf,Nat.beq]<;>rfl|rfl) rfl (by first|simp only[nf,Nat.beq]<;>rfl|rfl) rfl rfl rfl (by first|simp only[nf,Nat.beq]<;>rfl|rfl) ?_
      refine n_assign rfl (by first|simp only[nf,Nat.beq]<;>rfl|rfl) ?_
      refine AOps.nil ?_
      refine AWP.ret ?_
      refine fin_pure (.cons (rv_cell ti157 (by first|simp only[nf,Nat.beq]<;>rfl|rfl) (by first|simp only[nf,Nat.beq]<;>rfl|rfl) rfl (by first|simp only[nf,Nat.beq]<;>rfl|rfl)) (.cons (rv_tmp (by first|simp only[nf,Nat.beq]<;>rfl|rfl)) .nil)) (by first|simp only[nf,Nat.beq]<;>rfl|rfl) ?_
      first | (rw [if_pos h1] at hp; rw [hp]; exact .tup rfl (ren_two (ren_pq0 rfl) (ren_flat rfl rfl))) | (rw [if_neg (by simp [h1])] at hp; first | (rw [if_pos h2] at hp; rw [hp]; exact .tup rfl (ren_two (ren_pq0 rfl) (ren_flat rfl rfl))) | (rw [if_neg (by simp [h2])] at hp; rw [hp]; exact .tup rfl (ren_two (ren_pq rfl) (ren_flat rfl rfl))))

theorem r_sameP (x : Pq) (hb : Byt x.l) : Does Try.prog 154 [.agg (pqz x), .agg (pqz x)] [] (vb true) [] := by
  refine Does.of_body (rvs := [.tmp 4]) Try.func154 rfl rfl rfl rfl ?_
  refine AWP.seq ?_
  refine AWP.region ?_
  refine n_box rfl (by first|simp only[nf,Nat.beq]<;>rfl|rfl) rfl rfl (by first|simp only[nf,Nat.beq]<;>rfl|rfl) (by first|simp only[nf,Nat.beq]<;>rfl|rfl) ?_
  refine n_box rfl (by first|simp only[nf,Nat.beq]<;>rfl|rfl) rfl rfl (by first|simp only[nf,Nat.beq]<;>rfl|rfl) (by first|simp only[nf,Nat.beq]<;>rfl|rfl) ?_
  refine n_assign rfl (by first|simp only[nf,Nat.beq]<;>rfl|rfl) ?_
  refine AOps.nil ?_
  refine AWP.seq ?_
  refine AWP.region ?_
  refine n_fieldAddr rfl fd157_0 ti2 rfl (by first|simp only[nf,Nat.beq]<;>rfl|rfl) rfl (by first|simp only[nf,Nat.beq]<;>rfl|rfl) ?_
  refine n_load rfl ti2 (by first|simp only[nf,Nat.beq]<;>rfl|rfl) (by first|simp only[nf,Nat.beq]<;>rfl|rfl) rfl (by first|simp only[nf,Nat.beq]<;>rfl|rfl) ?_
  refine n_fieldAddr rfl fd157_0 ti2 rfl (by first|simp only[nf,Nat.beq]<;>rfl|rfl) rfl (by first|simp only[nf,Nat.beq]<;>rfl|rfl) ?_
  refine n_load rfl ti2 (by first|simp only[nf,Nat.beq]<;>rfl|rfl) (by first|simp only[nf,Nat.beq]<;>rfl|rfl) rfl (by first|simp only[nf,Nat.beq]<;>rfl|rfl) ?_
  refine n_ibin rfl (by first|simp only[nf,Nat.beq]<;>rfl|rfl) (by first|simp only[nf,Nat.beq]<;>rfl|rfl) rfl ?_
  refine n_move rfl (by first|simp only[nf,Nat.beq]<;>rfl|rfl) ?_
  refine AOps.name (u := 10) (fun z => .val (.bool z)) (by first|simp only[nf,Nat.beq]<;>rfl|rfl) (fun b10 hb10 => ?_)
  refine n_soft (u := 10) (E := .val (.bool b10)) (b10) rfl rfl rfl (by first|simp only[nf,Nat.beq]<;>rfl|rfl) (by cases b10 <;> first | (intro _; rfl) | (intro h; exact absurd h (by decide))) (by cases b10 <;> first | (intro h; exact absurd h (by decide)) | (intro _; exact ⟨_, rfl, by first | (intro h; cases h; done) | decide | simp⟩)) (fun h => by
      cases b10 with
      | false => exact absurd h (by first | decide | simp)
      | true =>
        refine n_fieldAddr rfl fd157_1 ti2 rfl (by first|simp only[nf,Nat.beq]<;>rfl|rfl) rfl (by first|simp only[nf,Nat.beq]<;>rfl|rfl) ?_
        exact AOps.nil ⟨rfl, rfl, rfl⟩) ?_
  refine n_soft (u := 10) (E := .val (.bool b10)) (b10) rfl rfl rfl (by first|simp only[nf,Nat.beq]<;>rfl|rfl) (by cases b10 <;> first | (intro _; rfl) | (intro h; exact absurd h (by decide))) (by cases b10 <;> first | (intro h; exact absurd h (by decide)) | (intro _; exact ⟨_, rfl, by first | (intro h; cases h; done) | decide | simp⟩)) (fun h => by
      cases b10 with
      | false => exact absurd h (by first | decide | simp)
      | true =>
        refine n_load rfl ti2 (by first|simp only[nf,Nat.beq]<;>rfl|rfl) (by first|simp only[nf,Nat.beq]<;>rfl|rfl) rfl (by first|simp only[nf,Nat.beq]<;>rfl|rfl) ?_
        exact AOps.nil ⟨rfl, rfl, rfl⟩) ?_
  refine n_soft (u := 10) (E := .val (.bool b10)) (b10) rfl rfl rfl (by first|simp only[nf,Nat.beq]<;>rfl|rfl) (by cases b10 <;> first | (intro _; rfl) | (intro h; exact absurd h (by decide))) (by cases b10 <;> first | (intro h; exact absurd h (by decide)) | (intro _; exact ⟨_, rfl, by first | (intro h; cases h; done) | decide | simp⟩)) (fun h => by
      cases b10 with
      | false => exact absurd h (by first | decide | simp)
      | true =>
        refine n_fieldAddr rfl fd157_1 ti2 rfl (by first|simp only[nf,Nat.beq]<;>rfl|rfl) rfl (by first|simp only[nf,Nat.beq]<;>rfl|rfl) ?_
        exact AOps.nil ⟨rfl, rfl, rfl⟩) ?_
  refine n_soft (u := 10) (E := .val (.bool b10)) (b10) rfl rfl rfl (by first|simp only[nf,Nat.beq]<;>rfl|rfl) (by cases b10 <;> first | (intro _; rfl) | (intro h; exact absurd h (by decide))) (by cases b10 <;> first | (intro h; exact absurd h (by decide)) | (intro _; exact ⟨_, rfl, by first | (intro h; cases h; done) | decide | simp⟩)) (fun h => by
      cases b10 with
      | false => exact absurd h (by first | decide | simp)
      | true =>
        refine n_load rfl ti2 (by first|simp only[nf,Nat.beq]<;>rfl|rfl) (by first|simp only[nf,Nat.beq]<;>rfl|rfl) rfl (by first|simp only[nf,Nat.beq]<;>rfl|rfl) ?_
        exact AOps.nil ⟨rfl, rfl, rfl⟩) ?_
  refine n_soft (u := 10) (E := .val (.bool b10)) (b10) rfl rfl rfl (by first|simp only[nf,Nat.beq]<;>rfl|rfl) (by cases b10 <;> first | (intro _; rfl) | (intro h; exact absurd h (by decide))) (by cases b10 <;> first | (intro h; exact absurd h (by decide)) | (intro _; exact ⟨_, rfl, by first | (intro h; cases h; done) | decide | simp⟩)) (fun h => by
      cases b10 with
      | false => exact absurd h (by first | decide | simp)
      | true =>
        refine n_ibin rfl (by first|simp only[nf,Nat.beq]<;>rfl|rfl) (by first|simp only[nf,Nat.beq]<;>rfl|rfl) rfl ?_
        exact AOps.nil ⟨rfl, rfl, rfl⟩) ?_
  refine n_pick_and rfl (by first|simp only[nf,Nat.beq]<;>rfl|rfl) (fun h => by cases b10 with | false => exact absurd h (by decide) | true => exact (by first|simp only[nf,Nat.beq]<;>rfl|rfl)) ?_
  refine n_move rfl (by first|simp only[nf,Nat.beq]<;>rfl|rfl) ?_
  refine AOps.name (u := 17) (fun z => .val (.bool z)) (by first|simp only[nf,Nat.beq]<;>rfl|rfl) (fun b17 hb17 => ?_)
  refine n_soft (u := 17) (E := .val (.bool b17)) (b17) rfl rfl rfl (by first|simp only[nf,Nat.beq]<;>rfl|rfl) (by cases b17 <;> first | (intro _; rfl) | (intro h; exact absurd h (by decide))) (by cases b17 <;> first | (intro h; exact absurd h (by decide)) | (intro _; exact ⟨_, rfl, by first | (intro h; cases h; done) | decide | simp⟩)) (fun h => by
      cases b17 with
      | false => exact absurd h (by first | decide | simp)
      | true =>
        refine n_fieldAddr rfl fd157_2 ti2 rfl (by first|simp only[nf,Nat.beq]<;>rfl|rfl) rfl (by first|simp only[nf,Nat.beq]<;>rfl|rfl) ?_
        exact AOps.nil ⟨rfl, rfl, rfl⟩) ?_
  refine n_soft (u := 17) (E := .val (.bool b17)) (b17) rfl rfl rfl (by first|simp only[nf,Nat.beq]<;>rfl|rfl) (by cases b17 <;> first | (intro _; rfl) | (intro h; exact absurd h (by decide))) (by cases b17 <;> first | (intro h; exact absurd h (by decide)) | (intro _; exact ⟨_, rfl, by first | (intro h; cases h; done) | decide | simp⟩)) (fun h => by
      cases b17 with
      | false => exact absurd h (by first | decide | simp)
      | true =>
        refine n_load rfl ti2 (by first|simp only[nf,Nat.beq]<;>rfl|rfl) (by first|simp only[nf,Nat.beq]<;>rfl|rfl) rfl (by first|simp only[nf,Nat.beq]<;>rfl|rfl) ?_
        exact AOps.nil ⟨rfl, rfl, rfl⟩) ?_
  refine n_soft (u := 17) (E := .val (.bool b17)) (b17) rfl rfl rfl (by first|simp only[nf,Nat.beq]<;>rfl|rfl) (by cases b17 <;> first | (intro _; rfl) | (intro h; exact absurd h (by decide))) (by cases b17 <;> first | (intro h; exact absurd h (by decide)) | (intro _; exact ⟨_, rfl, by first | (intro h; cases h; done) | decide | simp⟩)) (fun h => by
      cases b17 with
      | false => exact absurd h (by first | decide | simp)
      | true =>
        refine n_fieldAddr rfl fd157_2 ti2 rfl (by first|simp only[nf,Nat.beq]<;>rfl|rfl) rfl (by first|simp only[nf,Nat.beq]<;>rfl|rfl) ?_
        exact AOps.nil ⟨rfl, rfl, rfl⟩) ?_
  refine n_soft (u := 17) (E := .val (.bool b17)) (b17) rfl rfl rfl (by first|simp only[nf,Nat.beq]<;>rfl|rfl) (by cases b17 <;> first | (intro _; rfl) | (intro h; exact absurd h (by decide))) (by cases b17 <;> first | (intro h; exact absurd h (by decide)) | (intro _; exact ⟨_, rfl, by first | (intro h; cases h; done) | decide | simp⟩)) (fun h => by
      cases b17 with
      | false => exact absurd h (by first | decide | simp)
      | true =>
        refine n_load rfl ti2 (by first|simp only[nf,Nat.beq]<;>rfl|rfl) (by first|simp only[nf,Nat.beq]<;>rfl|rfl) rfl (by first|simp only[nf,Nat.beq]<;>rfl|rfl) ?_
        exact AOps.nil ⟨rfl, rfl, rfl⟩) ?_
  refine n_soft (u := 17) (E := .val (.bool b17)) (b17) rfl rfl rfl (by first|simp only[nf,Nat.beq]<;>rfl|rfl) (by cases b17 <;> first | (intro _; rfl) | (intro h; exact absurd h (by decide))) (by cases b17 <;> first | (intro h; exact absurd h (by decide)) | (intro _; exact ⟨_, rfl, by first | (intro h; cases h; done) | decide | simp⟩)) (fun h => by
      cases b17 with
      | false => exact absurd h (by first | decide | simp)
      | true =>
        refine n_ibin rfl (by first|simp only[nf,Nat.beq]<;>rfl|rfl) (by first|simp only[nf,Nat.beq]<;>rfl|rfl) rfl ?_
        exact AOps.nil ⟨rfl, rfl, rfl⟩) ?_
  refine n_pick_and rfl (by first|simp only[nf,Nat.beq]<;>rfl|rfl) (fun h => by cases b17 with | false => exact absurd h (by decide) | true => exact (by first|simp only[nf,Nat.beq]<;>rfl|rfl)) ?_
  refine n_move rfl (by first|simp only[nf,Nat.beq]<;>rfl|rfl) ?_
  refine AOps.name (u := 24) (fun z => .val (.bool z)) (by first|simp only[nf,Nat.beq]<;>rfl|rfl) (fun b24 hb24 => ?_)
  refine n_soft (u := 24) (E := .val (.bool b24)) (b24) rfl rfl rfl (by first|simp only[nf,Nat.beq]<;>rfl|rfl) (by cases b24 <;> first | (intro _; rfl) | (intro h; exact absurd h (by decide))) (by cases b24 <;> first | (intro h; exact absurd h (by decide)) | (intro _; exact ⟨_, rfl, by first | (intro h; cases h; done) | decide | simp⟩)) (fun h => by
      cases b24 with
      | false => exact absurd h (by first | decide | simp)
      | true =>
        refine n_fieldAddr rfl fd157_3 ti2 rfl (by first|simp only[nf,Nat.beq]<;>rfl|rfl) rfl (by first|simp only[nf,Nat.beq]<;>rfl|rfl) ?_
        exact AOps.nil ⟨rfl, rfl, rfl⟩) ?_
  refine n_soft (u := 24) (E := .val (.bool b24)) (b24) rfl rfl rfl (by first|simp only[nf,Nat.beq]<;>rfl|rfl) (by cases b24 <;> first | (intro _; rfl) | (intro h; exact absurd h (by decide))) (by cases b24 <;> first | (intro h; exact absurd h (by decide)) | (intro _; exact ⟨_, rfl, by first | (intro h; cases h; done) | decide | simp⟩)) (fun h => by
      cases b24 with
      | false => exact absurd h (by first | decide | simp)
      | true =>
        refine n_load rfl ti2 (by first|simp only[nf,Nat.beq]<;>rfl|rfl) (by first|simp only[nf,Nat.beq]<;>rfl|rfl) rfl (by first|simp only[nf,Nat.beq]<;>rfl|rfl) ?_
        exact AOps.nil ⟨rfl, rfl, rfl⟩) ?_
  refine n_soft (u := 24) (E := .val (.bool b24)) (b24) rfl rfl rfl (by first|simp only[nf,Nat.beq]<;>rfl|rfl) (by cases b24 <;> first | (intro _; rfl) | (intro h; exact absurd h (by decide))) (by cases b24 <;> first | (intro h; exact absurd h (by decide)) | (intro _; exact ⟨_, rfl, by first | (intro h; cases h; done) | decide | simp⟩)) (fun h => by
      cases b24 with
      | false => exact absurd h (by first | decide | simp)
      | true =>
        refine n_fieldAddr rfl fd157_3 ti2 rfl (by first|simp only[nf,Nat.beq]<;>rfl|rfl) rfl (by first|simp only[nf,Nat.beq]<;>rfl|rfl) ?_
        exact AOps.nil ⟨rfl, rfl, rfl⟩) ?_
  refine n_soft (u := 24) (E := .val (.bool b24)) (b24) rfl rfl rfl (by first|simp only[nf,Nat.beq]<;>rfl|rfl) (by cases b24 <;> first | (intro _; rfl) | (intro h; exact absurd h (by decide))) (by cases b24 <;> first | (intro h; exact absurd h (by decide)) | (intro _; exact ⟨_, rfl, by first | (intro h; cases h; done) | decide | simp⟩)) (fun h => by
      cases b24 with
      | false => exact absurd h (by first | decide | simp)
      | true =>
        refine n_load rfl ti2 (by first|simp only[nf,Nat.beq]<;>rfl|rfl) (by first|simp only[nf,Nat.beq]<;>rfl|rfl) rfl (by first|simp only[nf,Nat.beq]<;>rfl|rfl) ?_
        exact AOps.nil ⟨rfl, rfl, rfl⟩) ?_
  refine n_soft (u := 24) (E := .val (.bool b24)) (b24) rfl rfl rfl (by first|simp only[nf,Nat.beq]<;>rfl|rfl) (by cases b24 <;> first | (intro _; rfl) | (intro h; exact absurd h (by decide))) (by cases b24 <;> first | (intro h; exact absurd h (by decide)) | (intro _; exact ⟨_, rfl, by first | (intro h; cases h; done) | decide | simp⟩)) (fun h => by
      cases b24 with
      | false => exact absurd h (by first | decide | simp)
      | true =>
        refine n_ibin rfl (by first|simp only[nf,Nat.beq]<;>rfl|rfl) (by first|simp only[nf,Nat.beq]<;>rfl|rfl) rfl ?_
        exact AOps.nil ⟨rfl, rfl, rfl⟩) ?_
  refine n_pick_and rfl (by first|simp only[nf,Nat.beq]<;>rfl|rfl) (fun h => by cases b24 with | false => exact absurd h (by decide) | true => exact (by first|simp only[nf,Nat.beq]<;>rfl|rfl)) ?_
  refine n_move rfl (by first|simp only[nf,Nat.beq]<;>rfl|rfl) ?_
  refine AOps.name (u := 31) (fun z => .val (.bool z)) (by first|simp only[nf,Nat.beq]<;>rfl|rfl) (fun b31 hb31 => ?_)
  refine n_soft (u := 31) (E := .val (.bool b31)) (b31) rfl rfl rfl (by first|simp only[nf,Nat.beq]<;>rfl|rfl) (by cases b31 <;> first | (intro _; rfl) | (intro h; exact absurd h (by decide))) (by cases b31 <;> first | (intro h; exact absurd h (by decide)) | (intro _; exact ⟨_, rfl, by first | (intro h; cases h; done) | decide | simp⟩)) (fun h => by
      cases b31 with
      | false => exact absurd h (by first | decide | simp)
      | true =>
        refine n_fieldAddr rfl fd157_4 ti22 rfl (by first|simp only[nf,Nat.beq]<;>rfl|rfl) rfl (by first|simp only[nf,Nat.beq]<;>rfl|rfl) ?_
        exact AOps.nil ⟨rfl, rfl, rfl⟩) ?_
  refine n_soft (u := 31) (E := .val (.bool b31)) (b31) rfl rfl rfl (by first|simp only[nf,Nat.beq]<;>rfl|rfl) (by cases b31 <;> first | (intro _; rfl) | (intro h; exact absurd h (by decide))) (by cases b31 <;> first | (intro h; exact absurd h (by decide)) | (intro _; exact ⟨_, rfl, by first | (intro h; cases h; done) | decide | simp⟩)) (fun h => by
      cases b31 with
      | false => exact absurd h (by first | decide | simp)
      | true =>
        refine n_load rfl ti22 (by first|simp only[nf,Nat.beq]<;>rfl|rfl) (by first|simp only[nf,Nat.beq]<;>rfl|rfl) rfl (by first|simp only[nf,Nat.beq]<;>rfl|rfl) ?_
        exact AOps.nil ⟨rfl, rfl, rfl⟩) ?_
  refine n_soft (u := 31) (E := .val (.bool b31)) (b31) rfl rfl rfl (by first|simp only[nf,Nat.beq]<;>rfl|rfl) (by cases b31 <;> first | (intro _; rfl) | (intro h; exact absurd h (by decide))) (by cases b31 <;> first | (intro h; exact absurd h (by decide)) | (intro _; exact ⟨_, rfl, by first | (intro h; cases h; done) | decide | simp⟩)) (fun h => by
      cases b31 with
      | false => exact absurd h (by first | decide | simp)
      | true =>
        refine n_toStr rfl Try.underlying22 Try.underlying5 Try.underlying9 (by first|simp only[nf,Nat.beq]<;>rfl|rfl) ?_
        exact AOps.nil ⟨rfl, rfl, rfl⟩) ?_
  refine n_soft (u := 31) (E := .val (.bool b31)) (b31) rfl rfl rfl (by first|simp only[nf,Nat.beq]<;>rfl|rfl) (by cases b31 <;> first | (intro _; rfl) | (intro h; exact absurd h (by decide))) (by cases b31 <;> first | (intro h; exact absurd h (by decide)) | (intro _; exact ⟨_, rfl, by first | (intro h; cases h; done) | decide | simp⟩)) (fun h => by
      cases b31 with
      | false => exact absurd h (by first | decide | simp)
      | true =>
        refine n_fieldAddr rfl fd157_4 ti22 rfl (by first|simp only[nf,Nat.beq]<;>rfl|rfl) rfl (by first|simp only[nf,Nat.beq]<;>rfl|rfl) ?_
        exact AOps.nil ⟨rfl, rfl, rfl⟩) ?_
  refine n_soft (u := 31) (E := .val (.bool b31)) (b31) rfl rfl rfl (by first|simp only[nf,Nat.beq]<;>rfl|rfl) (by cases b31 <;> first | (intro _; rfl) | (intro h; exact absurd h (by decide))) (by cases b31 <;> first | (intro h; exact absurd h (by decide)) | (intro _; exact ⟨_, rfl, by first | (intro h; cases h; done) | decide | simp⟩)) (fun h => by
      cases b31 with
      | false => exact absurd h (by first | decide | simp)
      | true =>
        refine n_load rfl ti22 (by first|simp only[nf,Nat.beq]<;>rfl|rfl) (by first|simp only[nf,Nat.beq]<;>rfl|rfl) rfl (by first|simp only[nf,Nat.beq]<;>rfl|rfl) ?_
        exact AOps.nil ⟨rfl, rfl, rfl⟩) ?_
  refine n_soft (u := 31) (E := .val (.bool b31)) (b31) rfl rfl rfl (by first|simp only[nf,Nat.beq]<;>rfl|rfl) (by cases b31 <;> first | (intro _; rfl) | (intro h; exact absurd h (by decide))) (by cases b31 <;> first | (intro h; exact absurd h (by decide)) | (intro _; exact ⟨_, rfl, by first | (intro h; cases h; done) | decide | simp⟩)) (fun h => by
      cases b31 with
      | false => exact absurd h (by first | decide | simp)
      | true =>
        refine n_toStr rfl Try.underlying22 Try.underlying5 Try.underlying9 (by first|simp only[nf,Nat.beq]<;>rfl|rfl) ?_
        exact AOps.nil ⟨rfl, rfl, rfl⟩) ?_
  refine n_soft (u := 31) (E := .val (.bool b31)) (b31) rfl rfl rfl (by first|simp only[nf,Nat.beq]<;>rfl|rfl) (by cases b31 <;> first | (intro _; rfl) | (intro h; exact absurd h (by decide))) (by cases b31 <;> first | (intro h; exact absurd h (by decide)) | (intro _; exact ⟨_, rfl, by first | (intro h; cases h; done) | decide | simp⟩)) (fun h => by
      cases b31 with
      | false => exact absurd h (by first | decide | simp)
      | true =>
        refine n_streq rfl (by first|simp only[nf,Nat.beq]<;>rfl|rfl) (by first|simp only[nf,Nat.beq]<;>rfl|rfl) hb hb rfl ?_
        exact AOps.nil ⟨rfl, rfl, rfl⟩) ?_
  refine n_pick_and rfl (by first|simp only[nf,Nat.beq]<;>rfl|rfl) (fun h => by cases b31 with | false => exact absurd h (by decide) | true => exact (by first|simp only[nf,Nat.beq]<;>rfl|rfl)) ?_
  refine n_assign rfl (by first|simp only[nf,Nat.beq]<;>rfl|rfl) ?_
  subst hb10
  subst hb17
  subst hb24
  subst hb31
  refine AOps.nil ?_
  refine AWP.ret ?_
  refine fin_pure (.cons (rv_tmp (by first|simp only[nf,Nat.beq]<;>rfl|rfl)) .nil) (by first|simp only[nf,Nat.beq]<;>rfl|rfl) ?_
  first | exact ren_flat rfl rfl | exact ren_flat rfl (congrArg vb (by simp))

theorem r_same0 (x : Ss) : Does Try.prog 155 [.agg (ssz x), .agg (ssz x)] [] (vb true) [] := by
  refine Does.of_body (rvs := [.tmp 4]) Try.func155 rfl rfl rfl rfl ?_
  refine AWP.seq ?_
  refine AWP.region ?_
  refine n_box rfl (by first|simp only[nf,Nat.beq]<;>rfl|rfl) rfl rfl (by first|simp only[nf,Nat.beq]<;>rfl|rfl) (by first|simp only[nf,Nat.beq]<;>rfl|rfl) ?_
  refine n_box rfl (by first|simp only[nf,Nat.beq]<;>rfl|rfl) rfl rfl (by first|simp only[nf,Nat.beq]<;>rfl|rfl) (by first|simp only[nf,Nat.beq]<;>rfl|rfl) ?_
  refine n_assign rfl (by first|simp only[nf,Nat.beq]<;>rfl|rfl) ?_
  refine AOps.nil ?_
  refine AWP.seq ?_
  refine AWP.seq ?_
  refine AWP.region ?_
  refine n_fieldAddr rfl fd141_0 ti2 rfl (by first|simp only[nf,Nat.beq]<;>rfl|rfl) rfl (by first|simp only[nf,Nat.beq]<;>rfl|rfl) ?_
  refine n_load rfl ti2 (by first|simp only[nf,Nat.beq]<;>rfl|rfl) (by first|simp only[nf,Nat.beq]<;>rfl|rfl) rfl (by first|simp only[nf,Nat.beq]<;>rfl|rfl) ?_
  refine n_fieldAddr rfl fd141_0 ti2 rfl (by first|simp only[nf,Nat.beq]<;>rfl|rfl) rfl (by first|simp only[nf,Nat.beq]<;>rfl|rfl) ?_
  refine n_load rfl ti2 (by first|simp only[nf,Nat.beq]<;>rfl|rfl) (by first|simp only[nf,Nat.beq]<;>rfl|rfl) rfl (by first|simp only[nf,Nat.beq]<;>rfl|rfl) ?_
  refine n_ibin rfl (by first|simp only[nf,Nat.beq]<;>rfl|rfl) (by first|simp only[nf,Nat.beq]<;>rfl|rfl) rfl ?_
  refine n_move rfl (by first|simp only[nf,Nat.beq]<;>rfl|rfl) ?_
  refine AOps.name (u := 11) (fun z => .val (.bool z)) (by first|simp only[nf,Nat.beq]<;>rfl|rfl) (fun b11 hb11 => ?_)
  refine n_soft (u := 11) (E := .val (.bool b11)) (!b11) rfl rfl rfl (by first|simp only[nf,Nat.beq]<;>rfl|rfl) (by cases b11 <;> first | (intro _; rfl) | (intro h; exact absurd h (by decide))) (by cases b11 <;> first | (intro h; exact absurd h (by decide)) | (intro _; exact ⟨_, rfl, by first | (intro h; cases h; done) | decide | simp⟩)) (fun h => by
      cases b11 with
      | true => exact absurd h (by first | decide | simp)
      | false =>
        refine n_fieldAddr rfl fd141_1 ti2 rfl (by first|simp only[nf,Nat.beq]<;>rfl|rfl) rfl (by first|simp only[nf,Nat.beq]<;>rfl|rfl) ?_
        exact AOps.nil ⟨rfl, rfl, rfl⟩) ?_
  refine n_soft (u := 11) (E := .val (.bool b11)) (!b11) rfl rfl rfl (by first|simp only[nf,Nat.beq]<;>rfl|rfl) (by cases b11 <;> first | (intro _; rfl) | (intro h; exact absurd h (by decide))) (by cases b11 <;> first | (intro h; exact absurd h (by decide)) | (intro _; exact ⟨_, rfl, by first | (intro h; cases h; done) | decide | simp⟩)) (fun h => by
      cases b11 with
      | true => exact absurd h (by first | decide | simp)
      | false =>
        refine n_load rfl ti2 (by first|simp only[nf,Nat.beq]<;>rfl|rfl) (by first|simp only[nf,Nat.beq]<;>rfl|rfl) rfl (by first|simp only[nf,Nat.beq]<;>rfl|rfl) ?_
        exact AOps.nil ⟨rfl, rfl, rfl⟩) ?_
  refine n_soft (u := 11) (E := .val (.bool b11)) (!b11) rfl rfl rfl (by first|simp only[nf,Nat.beq]<;>rfl|rfl) (by cases b11 <;> first | (intro _; rfl) | (intro h; exact absurd h (by decide))) (by cases b11 <;> first | (intro h; exact absurd h (by decide)) | (intro _; exact ⟨_, rfl, by first | (intro h; cases h; done) | decide | simp⟩)) (fun h => by
      cases b11 with
      | true => exact absurd h (by first | decide | simp)
      | false =>
        refine n_fieldAddr rfl fd141_1 ti2 rfl (by first|simp only[nf,Nat.beq]<;>rfl|rfl) rfl (by first|simp only[nf,Nat.beq]<;>rfl|rfl) ?_
        exact AOps.nil ⟨rfl, rfl, rfl⟩) ?_
  refine n_soft (u := 11) (E := .val (.bool b11)) (!b11) rfl rfl rfl (by first|simp only[nf,Nat.beq]<;>rfl|rfl) (by cases b11 <;> first | (intro _; rfl) | (intro h; exact absurd h (by decide))) (by cases b11 <;> first | (intro h; exact absurd h (by decide)) | (intro _; exact ⟨_, rfl, by first | (intro h; cases h; done) | decide | simp⟩)) (fun h => by
      cases b11 with
      | true => exact absurd h (by first | decide | simp)
      | false =>
        refine n_load rfl ti2 (by first|simp only[nf,Nat.beq]<;>rfl|rfl) (by first|simp only[nf,Nat.beq]<;>rfl|rfl) rfl (by first|simp only[nf,Nat.beq]<;>rfl|rfl) ?_
        exact AOps.nil ⟨rfl, rfl, rfl⟩) ?_
  refine n_soft (u := 11) (E := .val (.bool b11)) (!b11) rfl rfl rfl (by first|simp only[nf,Nat.beq]<;>rfl|rfl) (by cases b11 <;> first | (intro _; rfl) | (intro h; exact absurd h (by decide))) (by cases b11 <;> first | (intro h; exact absurd h (by decide)) | (intro _; exact ⟨_, rfl, by first | (intro h; cases h; done) | decide | simp⟩)) (fun h => by
      cases b11 with
      | true => exact absurd h (by first | decide | simp)
      | false =>
        refine n_ibin rfl (by first|simp only[nf,Nat.beq]<;>rfl|rfl) (by first|simp only[nf,Nat.beq]<;>rfl|rfl) rfl ?_
        exact AOps.nil ⟨rfl, rfl, rfl⟩) ?_
  refine n_pick_or rfl (by first|simp only[nf,Nat.beq]<;>rfl|rfl) (fun h => by cases b11 with | true => exact absurd h (by decide) | false => exact (by first|simp only[nf,Nat.beq]<;>rfl|rfl)) ?_
  refine n_move rfl (by first|simp only[nf,Nat.beq]<;>rfl|rfl) ?_
  refine AOps.name (u := 18) (fun z => .val (.bool z)) (by first|simp only[nf,Nat.beq]<;>rfl|rfl) (fun b18 hb18 => ?_)
  refine n_soft (u := 18) (E := .val (.bool b18)) (!b18) rfl rfl rfl (by first|simp only[nf,Nat.beq]<;>rfl|rfl) (by cases b18 <;> first | (intro _; rfl) | (intro h; exact absurd h (by decide))) (by cases b18 <;> first | (intro h; exact absurd h (by decide)) | (intro _; exact ⟨_, rfl, by first | (intro h; cases h; done) | decide | simp⟩)) (fun h => by
      cases b18 with
      | true => exact absurd h (by first | decide | simp)
      | false =>
        refine n_fieldAddr rfl fd141_2 ti2 rfl (by first|simp only[nf,Nat.beq]<;>rfl|rfl) rfl (by first|simp only[nf,Nat.beq]<;>rfl|rfl) ?_
        exact AOps.nil ⟨rfl, rfl, rfl⟩) ?_
  refine n_soft (u := 18) (E := .val (.bool b18)) (!b18) rfl rfl rfl (by first|simp only[nf,Nat.beq]<;>rfl|rfl) (by cases b18 <;> first | (intro _; rfl) | (intro h; exact absurd h (by decide))) (by cases b18 <;> first | (intro h; exact absurd h (by decide)) | (intro _; exact ⟨_, rfl, by first | (intro h; cases h; done) | decide | simp⟩)) (fun h => by
      cases b18 with
      | true => exact absurd h (by first | decide | simp)
      | false =>
        refine n_load rfl ti2 (by first|simp only[nf,Nat.beq]<;>rfl|rfl) (by first|simp only[nf,Nat.beq]<;>rfl|rfl) rfl (by first|simp only[nf,Nat.beq]<;>rfl|rfl) ?_
        exact AOps.nil ⟨rfl, rfl, rfl⟩) ?_
  refine n_soft (u := 18) (E := .val (.bool b18)) (!b18) rfl rfl rfl (by first|simp only[nf,Nat.beq]<;>rfl|rfl) (by cases b18 <;> first | (intro _; rfl) | (intro h; exact absurd h (by decide))) (by cases b18 <;> first | (intro h; exact absurd h (by decide)) | (intro _; exact ⟨_, rfl, by first | (intro h; cases h; done) | decide | simp⟩)) (fun h => by
      cases b18 with
      | true => exact absurd h (by first | decide | simp)
      | false =>
        refine n_fieldAddr rfl fd141_2 ti2 rfl (by first|simp only[nf,Nat.beq]<;>rfl|rfl) rfl (by first|simp only[nf,Nat.beq]<;>rfl|rfl) ?_
        exact AOps.nil ⟨rfl, rfl, rfl⟩) ?_
  refine n_soft (u := 18) (E := .val (.bool b18)) (!b18) rfl rfl rfl (by first|simp only[nf,Nat.beq]<;>rfl|rfl) (by cases b18 <;> first | (intro _; rfl) | (intro h; exact absurd h (by decide))) (by cases b18 <;> first | (intro h; exact absurd h (by decide)) | (intro _; exact ⟨_, rfl, by first | (intro h; cases h; done) | decide | simp⟩)) (fun h => by
      cases b18 with
      | true => exact absurd h (by first | decide | simp)
      | false =>
        refine n_load rfl ti2 (by first|simp only[nf,Nat.beq]<;>rfl|rfl) (by first|simp only[nf,Nat.beq]<;>rfl|rfl) rfl (by first|simp only[nf,Nat.beq]<;>rfl|rfl) ?_
        exact AOps.nil ⟨rfl, rfl, rfl⟩) ?_
  refine n_soft (u := 18) (E := .val (.bool b18)) (!b18) rfl rfl rfl (by first|simp only[nf,Nat.beq]<;>rfl|rfl) (by cases b18 <;> first | (intro _; rfl) | (intro h; exact absurd h (by decide))) (by cases b18 <;> first | (intro h; exact absurd h (by decide)) | (intro _; exact ⟨_, rfl, by first | (intro h; cases h; done) | decide | simp⟩)) (fun h => by
      cases b18 with
      | true => exact absurd h (by first | decide | simp)
      | false =>
        refine n_ibin rfl (by first|simp only[nf,Nat.beq]<;>rfl|rfl) (by first|simp only[nf,Nat.beq]<;>rfl|rfl) rfl ?_
        exact AOps.nil ⟨rfl, rfl, rfl⟩) ?_
  refine n_pick_or rfl (by first|simp only[nf,Nat.beq]<;>rfl|rfl) (fun h => by cases b18 with | true => exact absurd h (by decide) | false => exact (by first|simp only[nf,Nat.beq]<;>rfl|rfl)) ?_
  refine n_move rfl (by first|simp only[nf,Nat.beq]<;>rfl|rfl) ?_
  refine AOps.name (u := 25) (fun z => .val (.bool z)) (by first|simp only[nf,Nat.beq]<;>rfl|rfl) (fun b25 hb25 => ?_)
  refine n_soft (u := 25) (E := .val (.bool b25)) (!b25) rfl rfl rfl (by first|simp only[nf,Nat.beq]<;>rfl|rfl) (by cases b25 <;> first | (intro _; rfl) | (intro h; exact absurd h (by decide))) (by cases b25 <;> first | (intro h; exact absurd h (by decide)) | (intro _; exact ⟨_, rfl, by first | (intro h; cases h; done) | decide | simp⟩)) (fun h => by
      cases b25 with
      | true => exact absurd h (by first | decide | simp)
      | false =>
        refine n_fieldAddr rfl fd141_3 ti2 rfl (by first|simp only[nf,Nat.beq]<;>rfl|rfl) rfl (by first|simp only[nf,Nat.beq]<;>rfl|rfl) ?_
        exact AOps.nil ⟨rfl, rfl, rfl⟩) ?_
  refine n_soft (u := 25) (E := .val (.bool b25)) (!b25) rfl rfl rfl (by first|simp only[nf,Nat.beq]<;>rfl|rfl) (by cases b25 <;> first | (intro _; rfl) | (intro h; exact absurd h (by decide))) (by cases b25 <;> first | (intro h; exact absurd h (by decide)) | (intro _; exact ⟨_, rfl, by first | (intro h; cases h; done) | decide | simp⟩)) (fun h => by
      cases b25 with
      | true => exact absurd h (by first | decide | simp)
      | false =>
        refine n_load rfl ti2 (by first|simp only[nf,Nat.beq]<;>rfl|rfl) (by first|simp only[nf,Nat.beq]<;>rfl|rfl) rfl (by first|simp only[nf,Nat.beq]<;>rfl|rfl) ?_
        exact AOps.nil ⟨rfl, rfl, rfl⟩) ?_
  refine n_soft (u := 25) (E := .val (.bool b25)) (!b25) rfl rfl rfl (by first|simp only[nf,Nat.beq]<;>rfl|rfl) (by cases b25 <;> first | (intro _; rfl) | (intro h; exact absurd h (by decide))) (by cases b25 <;> first | (intro h; exact absurd h (by decide)) | (intro _; exact ⟨_, rfl, by first | (intro h; cases h; done) | decide | simp⟩)) (fun h => by
      cases b25 with
      | true => exact absurd h (by first | decide | simp)
      | false =>
        refine n_fieldAddr rfl fd141_3 ti2 rfl (by first|simp only[nf,Nat.beq]<;>rfl|rfl) rfl (by first|simp only[nf,Nat.beq]<;>rfl|rfl) ?_
        exact AOps.nil ⟨rfl, rfl, rfl⟩) ?_
  refine n_soft (u := 25) (E := .val (.bool b25)) (!b25) rfl rfl rfl (by first|simp only[nf,Nat.beq]<;>rfl|rfl) (by cases b25 <;> first | (intro _; rfl) | (intro h; exact absurd h (by decide))) (by cases b25 <;> first | (intro h; exact absurd h (by decide)) | (intro _; exact ⟨_, rfl, by first | (intro h; cases h; done) | decide | simp⟩)) (fun h => by
      cases b25 with
      | true => exact absurd h (by first | decide | simp)
      | false =>
        refine n_load rfl ti2 (by first|simp only[nf,Nat.beq]<;>rfl|rfl) (by first|simp only[nf,Nat.beq]<;>rfl|rfl) rfl (by first|simp only[nf,Nat.beq]<;>rfl|rfl) ?_
        exact AOps.nil ⟨rfl, rfl, rfl⟩) ?_
  refine n_soft (u := 25) (E := .val (.bool b25)) (!b25) rfl rfl rfl (by first|simp only[nf,Nat.beq]<;>rfl|rfl) (by cases b25 <;> first | (intro _; rfl) | (intro h; exact absurd h (by decide))) (by cases b25 <;> first | (intro h; exact absurd h (by decide)) | (intro _; exact ⟨_, rfl, by first | (intro h; cases h; done) | decide | simp⟩)) (fun h => by
      cases b25 with
      | true => exact absurd h (by first | decide | simp)
      | false =>
        refine n_ibin rfl (by first|simp only[nf,Nat.beq]<;>rfl|rfl) (by first|simp only[nf,Nat.beq]<;>rfl|rfl) rfl ?_
        exact AOps.nil ⟨rfl, rfl, rfl⟩) ?_
  refine n_pick_or rfl (by first|simp only[nf,Nat.beq]<;>rfl|rfl) (fun h => by cases b25 with | true => exact absurd h (by decide) | false => exact (by first|simp only[nf,Nat.beq]<;>rfl|rfl)) ?_
  refine n_move rfl (by first|simp only[nf,Nat.beq]<;>rfl|rfl) ?_
  refine AOps.name (u := 32) (fun z => .val (.bool z)) (by first|simp only[nf,Nat.beq]<;>rfl|rfl) (fun b32 hb32 => ?_)
  refine n_soft (u := 32) (E := .val (.bool b32)) (!b32) rfl rfl rfl (by first|simp only[nf,Nat.beq]<;>rfl|rfl) (by cases b32 <;> first | (intro _; rfl) | (intro h; exact absurd h (by decide))) (by cases b32 <;> first | (intro h; exact absurd h (by decide)) | (intro _; exact ⟨_, rfl, by first | (intro h; cases h; done) | decide | simp⟩)) (fun h => by
      cases b32 with
      | true => exact absurd h (by first | decide | simp)
      | false =>
        refine n_fieldAddr rfl fd141_4 ti2 rfl (by first|simp only[nf,Nat.beq]<;>rfl|rfl) rfl (by first|simp only[nf,Nat.beq]<;>rfl|rfl) ?_
        exact AOps.nil ⟨rfl, rfl, rfl⟩) ?_
  refine n_soft (u := 32) (E := .val (.bool b32)) (!b32) rfl rfl rfl (by first|simp only[nf,Nat.beq]<;>rfl|rfl) (by cases b32 <;> first | (intro _; rfl) | (intro h; exact absurd h (by decide))) (by cases b32 <;> first | (intro h; exact absurd h (by decide)) | (intro _; exact ⟨_, rfl, by first | (intro h; cases h; done) | decide | simp⟩)) (fun h => by
      cases b32 with
      | true => exact absurd h (by first | decide | simp)
      | false =>
        refine n_load rfl ti2 (by first|simp only[nf,Nat.beq]<;>rfl|rfl) (by first|simp only[nf,Nat.beq]<;>rfl|rfl) rfl (by first|simp only[nf,Nat.beq]<;>rfl|rfl) ?_
        exact AOps.nil ⟨rfl, rfl, rfl⟩) ?_
  refine n_soft (u := 32) (E := .val (.bool b32)) (!b32) rfl rfl rfl (by first|simp only[nf,Nat.beq]<;>rfl|rfl) (by cases b32 <;> first | (intro _; rfl) | (intro h; exact absurd h (by decide))) (by cases b32 <;> first | (intro h; exact absurd h (by decide)) | (intro _; exact ⟨_, rfl, by first | (intro h; cases h; done) | decide | simp⟩)) (fun h => by
      cases b32 with
      | true => exact absurd h (by first | decide | simp)
      | false =>
        refine n_fieldAddr rfl fd141_4 ti2 rfl (by first|simp only[nf,Nat.beq]<;>rfl|rfl) rfl (by first|simp only[nf,Nat.beq]<;>rfl|rfl) ?_
        exact AOps.nil ⟨rfl, rfl, rfl⟩) ?_
  refine n_soft (u := 32) (E := .val (.bool b32)) (!b32) rfl rfl rfl (by first|simp only[nf,Nat.beq]<;>rfl|rfl) (by cases b32 <;> first | (intro _; rfl) | (intro h; exact absurd h (by decide))) (by cases b32 <;> first | (intro h; exact absurd h (by decide)) | (intro _; exact ⟨_, rfl, by first | (intro h; cases h; done) | decide | simp⟩)) (fun h => by
      cases b32 with
      | true => exact absurd h (by first | decide | simp)
      | false =>
        refine n_load rfl ti2 (by first|simp only[nf,Nat.beq]<;>rfl|rfl) (by first|simp only[nf,Nat.beq]<;>rfl|rfl) rfl (by first|simp only[nf,Nat.beq]<;>rfl|rfl) ?_
        exact AOps.nil ⟨rfl, rfl, rfl⟩) ?_
  refine n_soft (u := 32) (E := .val (.bool b32)) (!b32) rfl rfl rfl (by first|simp only[nf,Nat.beq]<;>rfl|rfl) (by cases b32 <;> first | (intro _; rfl) | (intro h; exact absurd h (by decide))) (by cases b32 <;> first | (intro h; exact absurd h (by decide)) | (intro _; exact ⟨_, rfl, by first | (intro h; cases h; done) | decide | simp⟩)) (fun h => by
      cases b32 with
      | true => exact absurd h (by first | decide | simp)
      | false =>
        refine n_ibin rfl (by first|simp only[nf,Nat.beq]<;>rfl|rfl) (by first|simp only[nf,Nat.beq]<;>rfl|rfl) rfl ?_
        exact AOps.nil ⟨rfl, rfl, rfl⟩) ?_
  refine n_pick_or rfl (by first|simp only[nf,Nat.beq]<;>rfl|rfl) (fun h => by cases b32 with | true => exact absurd h (by decide) | false => exact (by first|simp only[nf,Nat.beq]<;>rfl|rfl)) ?_
  refine n_move rfl (by first|simp only[nf,Nat.beq]<;>rfl|rfl) ?_
  refine AOps.name (u := 39) (fun z => .val (.bool z)) (by first|simp only[nf,Nat.beq]<;>rfl|rfl) (fun b39 hb39 => ?_)
  refine n_soft (u := 39) (E := .val (.bool b39)) (!b39) rfl rfl rfl (by first|simp only[nf,Nat.beq]<;>rfl|rfl) (by cases b39 <;> first | (intro _; rfl) | (intro h; exact absurd h (by decide))) (by cases b39 <;> first | (intro h; exact absurd h (by decide)) | (intro _; exact ⟨_, rfl, by first | (intro h; cases h; done) | decide | simp⟩)) (fun h => by
      cases b39 with
      | true => exact absurd h (by first | decide | simp)
      | false =>
        refine n_fieldAddr rfl fd141_5 ti139 rfl (by first|simp only[nf,Nat.beq]<;>rfl|rfl) rfl (by first|simp only[nf,Nat.beq]<;>rfl|rfl) ?_
        exact AOps.nil ⟨rfl, rfl, rfl⟩) ?_
  refine n_soft (u := 39) (E := .val (.bool b39)) (!b39) rfl rfl rfl (by first|simp only[nf,Nat.beq]<;>rfl|rfl) (by cases b39 <;> first | (intro _; rfl) | (intro h; exact absurd h (by decide))) (by cases b39 <;> first | (intro h; exact absurd h (by decide)) | (intro _; exact ⟨_, rfl, by first | (intro h; cases h; done) | decide | simp⟩)) (fun h => by
      cases b39 with
      | true => exact absurd h (by first | decide | simp)
      | false =>
        refine n_load rfl ti139 (by first|simp only[nf,Nat.beq]<;>rfl|rfl) (by first|simp only[nf,Nat.beq]<;>rfl|rfl) rfl (by first|simp only[nf,Nat.beq]<;>rfl|rfl) ?_
        exact AOps.nil ⟨rfl, rfl, rfl⟩) ?_
  refine n_soft (u := 39) (E := .val (.bool b39)) (!b39) rfl rfl rfl (by first|simp only[nf,Nat.beq]<;>rfl|rfl) (by cases b39 <;> first | (intro _; rfl) | (intro h; exact absurd h (by decide))) (by cases b39 <;> first | (intro h; exact absurd h (by decide)) | (intro _; exact ⟨_, rfl, by first | (intro h; cases h; done) | decide | simp⟩)) (fun h => by
      cases b39 with
      | true => exact absurd h (by first | decide | simp)
      | false =>
        refine n_len rfl Try.underlying139 (by first|simp only[nf,Nat.beq]<;>rfl|rfl) (by first | rw [ints_length] | rw [List.length_map] | rfl) ?_
        exact AOps.nil ⟨rfl, rfl, rfl⟩) ?_
  refine n_soft (u := 39) (E := .val (.bool b39)) (!b39) rfl rfl rfl (by first|simp only[nf,Nat.beq]<;>rfl|rfl) (by cases b39 <;> first | (intro _; rfl) | (intro h; exact absurd h (by decide))) (by cases b39 <;> first | (intro h; exact absurd h (by decide)) | (intro _; exact ⟨_, rfl, by first | (intro h; cases h; done) | decide | simp⟩)) (fun h => by
      cases b39 with
      | true => exact absurd h (by first | decide | simp)
      | false =>
        refine n_fieldAddr rfl fd141_5 ti139 rfl (by first|simp only[nf,Nat.beq]<;>rfl|rfl) rfl (by first|simp only[nf,Nat.beq]<;>rfl|rfl) ?_
        exact AOps.nil ⟨rfl, rfl, rfl⟩) ?_
  refine n_soft (u := 39) (E := .val (.bool b39)) (!b39) rfl rfl rfl (by first|simp only[nf,Nat.beq]<;>rfl|rfl) (by cases b39 <;> first | (intro _; rfl) | (intro h; exact absurd h (by decide))) (by cases b39 <;> first | (intro h; exact absurd h (by decide)) | (intro _; exact ⟨_, rfl, by first | (intro h; cases h; done) | decide | simp⟩)) (fun h => by
      cases b39 with
      | true => exact absurd h (by first | decide | simp)
      | false =>
        refine n_load rfl ti139 (by first|simp only[nf,Nat.beq]<;>rfl|rfl) (by first|simp only[nf,Nat.beq]<;>rfl|rfl) rfl (by first|simp only[nf,Nat.beq]<;>rfl|rfl) ?_
        exact AOps.nil ⟨rfl, rfl, rfl⟩) ?_
  refine n_soft (u := 39) (E := .val (.bool b39)) (!b39) rfl rfl rfl (by first|simp only[nf,Nat.beq]<;>rfl|rfl) (by cases b39 <;> first | (intro _; rfl) | (intro h; exact absurd h (by decide))) (by cases b39 <;> first | (intro h; exact absurd h (by decide)) | (intro _; exact ⟨_, rfl, by first | (intro h; cases h; done) | decide | simp⟩)) (fun h => by
      cases b39 with
      | true => exact absurd h (by first | decide | simp)
      | false =>
        refine n_len rfl Try.underlying139 (by first|simp only[nf,Nat.beq]<;>rfl|rfl) (by first | rw [ints_length] | rw [List.length_map] | rfl) ?_
        exact AOps.nil ⟨rfl, rfl, rfl⟩) ?_
  refine n_soft (u := 39) (E := .val (.bool b39)) (!b39) rfl rfl rfl (by first|simp only[nf,Nat.beq]<;>rfl|rfl) (by cases b39 <;> first | (intro _; rfl) | (intro h; exact absurd h (by decide))) (by cases b39 <;> first | (intro h; exact absurd h (by decide)) | (intro _; exact ⟨_, rfl, by first | (intro h; cases h; done) | decide | simp⟩)) (fun h => by
      cases b39 with
      | true => exact absurd h (by first | decide | simp)
      | false =>
        refine n_ibin rfl (by first|simp only[nf,Nat.beq]<;>rfl|rfl) (by first|simp only[nf,Nat.beq]<;>rfl|rfl) rfl ?_
        exact AOps.nil ⟨rfl, rfl, rfl⟩) ?_
  refine n_pick_or rfl (by first|simp only[nf,Nat.beq]<;>rfl|rfl) (fun h => by cases b39 with | true => exact absurd h (by decide) | false => exact (by first|simp only[nf,Nat.beq]<;>rfl|rfl)) ?_
  subst hb11
  subst hb18
  subst hb25
  subst hb32
  subst hb39
  refine AOps.nil ?_
  refine AWP.cond (by first|simp only[nf,Nat.beq]<;>rfl|rfl) (fun hc1 => ?_) (fun hc1 => ?_)
  · try simp only [nh] at hc1
    exfalso
    simp at hc1
  · try simp only [nh] at hc1
    refine AWP.skip ?_
    refine AWP.seq ?_
    refine AWP.seq ?_
    refine AWP.region ?_
    refine n_assign rfl (by first|simp only[nf,Nat.beq]<;>rfl|rfl) ?_
    refine AOps.nil ?_
    refine AWP.block ?_
    refine AWP.loop (α := Nat) (fun i => i = 0) (fun i => put (put (put empty 2 (.bp 0 0)) 3 (.bp 1 0)) 5 (vi (i : Int))) (fun _ => [.box (ssz x), .box (ssz x)]) (fun i => i) 0 ?_ ?_ ?_ ?_
    · rfl
    · (repeat (first | exact FLe.empty _ | refine FLe.put ?_ ?_)) <;> first | (simp only [nf, Nat.beq]; done) | rfl | ((try simp only [nf, Nat.beq]); first | rfl | (congr 2; omega; done))
    · rfl
    · rintro i rfl
      refine AWP.seq ?_
      refine AWP.seq ?_
      refine AWP.region ?_
      refine n_move rfl (by first|simp only[nf,Nat.beq]<;>rfl|rfl) ?_
      refine n_fieldAddr rfl fd141_5 ti139 rfl (by first|simp only[nf,Nat.beq]<;>rfl|rfl) rfl (by first|simp only[nf,Nat.beq]<;>rfl|rfl) ?_
      refine n_load rfl ti139 (by first|simp only[nf,Nat.beq]<;>rfl|rfl) (by first|simp only[nf,Nat.beq]<;>rfl|rfl) rfl (by first|simp only[nf,Nat.beq]<;>rfl|rfl) ?_
      refine n_len rfl Try.underlying139 (by first|simp only[nf,Nat.beq]<;>rfl|rfl) (by first | rw [ints_length] | rw [List.length_map] | rfl) ?_
      refine n_ibin rfl (by first|simp only[nf,Nat.beq]<;>rfl|rfl) (by first|simp only[nf,Nat.beq]<;>rfl|rfl) rfl ?_
      refine AOps.nil ?_
      refine AWP.cond (by first|simp only[nf,Nat.beq]<;>rfl|rfl) (fun hc2 => ?_) (fun hc2 => ?_)
      · try simp only [nh] at hc2
        exfalso
        simp at hc2
      · try simp only [nh] at hc2
        refine AWP.exit ?_
        refine AWP.seq ?_
        refine AWP.region ?_
        refine n_assign rfl (by first|simp only[nf,Nat.beq]<;>rfl|rfl) ?_
        refine AOps.nil ?_
        refine AWP.ret ?_
        refine fin_pure (.cons (rv_tmp (by first|simp only[nf,Nat.beq]<;>rfl|rfl)) .nil) (by first|simp only[nf,Nat.beq]<;>rfl|rfl) ?_
        exact ren_flat rfl rfl

set_option maxHeartbeats 2000000 in
theorem Bytes_calls (x : Pq) (b : List Int) (n : Int) (hx : Byt x.l) (hl : L40 x.l) (hb : Byt b) (hlb : L40 b) : Does Try.prog 30 [.agg (pqz x), bys b, vi n] [] (vb true) [] := by
  refine Does.of_body (rvs := [.tmp 6]) Try.func30 rfl rfl rfl rfl ?_
  have hB := Pq.bytes_byt hx
  have heq := b_equal x.bytes x.bytes hB hB
  rw [decide_eq_true rfl] at heq
  have hsp := r_sameP (Pq.parse b).1 (Pq.parse_byt hb hlb)
  have hsx := r_sameP x hx
  refine AWP.seq ?_
  refine AWP.region ?_
  refine n_box rfl (by first|simp only[nf,Nat.beq]<;>rfl|rfl) rfl rfl (by first|simp only[nf,Nat.beq]<;>rfl|rfl) (by first|simp only[nf,Nat.beq]<;>rfl|rfl) ?_
  refine n_assign rfl (by first|simp only[nf,Nat.beq]<;>rfl|rfl) ?_
  refine AOps.nil ?_
  refine AWP.seq ?_
  refine AWP.seq ?_
  refine AWP.region ?_
  refine n_call0B rfl cf108 rfl (Eq.trans (by simp only [nl] <;> rfl) (by first|simp only[nf,Nat.beq]<;>rfl|rfl)) (by repeat (first | exact .nil | refine .cons ?_ ?_ | exact ren_ints | exact .lf (.val _) | exact .lf (lf_ints (.inl rfl)) | exact .bp ⟨rfl, rfl⟩ | exact .bp (.inl ⟨rfl, rfl⟩) | exact .bp (.inr ⟨rfl, rfl⟩) | exact ren_bys0 rfl | exact .lf (D.flat_lf rfl) | exact ren_lits rfl | exact .lf (lf_ssz _) | exact .lf (lf_pqz _) | exact ren_q0 rfl | exact ren_pq rfl | exact ren_nl0 | exact ren_sq | exact .lf (.fn (fun d h => by cases h) (fun d h => by cases h)))) (live) (by first | exact .val _ | exact lf_ints (.inl rfl) | exact lf_ints (.inr rfl) | exact .any | exact D.flat_lf rfl | exact lf_ssz _ | exact lf_pqz _ | exact lf_nl0 | exact .tup (lf_cons (lf_ssz _) (lf_cons (.val _) lf_nil)) | exact .tup (lf_cons (lf_pqz _) (lf_cons (.val _) lf_nil)) | exact .tup (lf_cons (lf_ints (.inl rfl)) (lf_cons (.val _) lf_nil)) | exact .tup (lf_cons (lf_ssz _) (lf_cons (lf_ints (.inl rfl)) (lf_cons (.val _) lf_nil))) | exact .tup (lf_cons (lf_ssz _) (lf_cons (lf_ssz _) (lf_cons (.val _) lf_nil))) | exact lf_sent) ?_
  refine n_not rfl (by first|simp only[nf,Nat.beq]<;>rfl|rfl) rfl ?_
  refine AOps.nil ?_
  refine AWP.cond_false (by first|simp only[nf,Nat.beq]<;>rfl|rfl) ?_
  refine AWP.skip ?_
  refine AWP.seq ?_
  refine AWP.region ?_
  refine n_load rfl ti157 (by first|simp only[nf,Nat.beq]<;>rfl|rfl) (by first|simp only[nf,Nat.beq]<;>rfl|rfl) rfl (by first|simp only[nf,Nat.beq]<;>rfl|rfl) ?_
  refine n_call0B rfl cf149 rfl (Eq.trans (by simp only [nl] <;> rfl) (by first|simp only[nf,Nat.beq]<;>rfl|rfl)) (by repeat (first | exact .nil | refine .cons ?_ ?_ | exact ren_ints | exact .lf (.val _) | exact .lf (lf_ints (.inl rfl)) | exact .bp ⟨rfl, rfl⟩ | exact .bp (.inl ⟨rfl, rfl⟩) | exact .bp (.inr ⟨rfl, rfl⟩) | exact ren_bys0 rfl | exact .lf (D.flat_lf rfl) | exact ren_lits rfl | exact .lf (lf_ssz _) | exact .lf (lf_pqz _) | exact ren_q0 rfl | exact ren_pq rfl | exact ren_nl0 | exact ren_sq | exact .lf (.fn (fun d h => by cases h) (fun d h => by cases h)))) (l_bytes x hl) (by first | exact .val _ | exact lf_ints (.inl rfl) | exact lf_ints (.inr rfl) | exact .any | exact D.flat_lf rfl | exact lf_ssz _ | exact lf_pqz _ | exact lf_nl0 | exact .tup (lf_cons (lf_ssz _) (lf_cons (.val _) lf_nil)) | exact .tup (lf_cons (lf_pqz _) (lf_cons (.val _) lf_nil)) | exact .tup (lf_cons (lf_ints (.inl rfl)) (lf_cons (.val _) lf_nil)) | exact .tup (lf_cons (lf_ssz _) (lf_cons (lf_ints (.inl rfl)) (lf_cons (.val _) lf_nil))) | exact .tup (lf_cons (lf_ssz _) (lf_cons (lf_ssz _) (lf_cons (.val _) lf_nil))) | exact lf_sent) ?_
  refine n_move rfl (by first|simp only[nf,Nat.beq]<;>rfl|rfl) ?_
  refine n_extract rfl (by first|simp only[nf,Nat.beq]<;>rfl|rfl) rfl ?_
  refine n_extract rfl (by first|simp only[nf,Nat.beq]<;>rfl|rfl) rfl ?_
  refine n_assign rfl (by first|simp only[nf,Nat.beq]<;>rfl|rfl) ?_
  refine n_assign rfl (by first|simp only[nf,Nat.beq]<;>rfl|rfl) ?_
  refine AOps.nil ?_
  refine AWP.seq ?_
  refine AWP.region ?_
  refine n_load rfl ti157 (by first|simp only[nf,Nat.beq]<;>rfl|rfl) (by first|simp only[nf,Nat.beq]<;>rfl|rfl) rfl (by first|simp only[nf,Nat.beq]<;>rfl|rfl) ?_
  refine n_call0B rfl cf150 rfl (Eq.trans (by simp only [nl] <;> rfl) (by first|simp only[nf,Nat.beq]<;>rfl|rfl)) (by repeat (first | exact .nil | refine .cons ?_ ?_ | exact ren_ints | exact .lf (.val _) | exact .lf (lf_ints (.inl rfl)) | exact .bp ⟨rfl, rfl⟩ | exact .bp (.inl ⟨rfl, rfl⟩) | exact .bp (.inr ⟨rfl, rfl⟩) | exact ren_bys0 rfl | exact .lf (D.flat_lf rfl) | exact ren_lits rfl | exact .lf (lf_ssz _) | exact .lf (lf_pqz _) | exact ren_q0 rfl | exact ren_pq rfl | exact ren_nl0 | exact ren_sq | exact .lf (.fn (fun d h => by cases h) (fun d h => by cases h)))) (r_bytes x hl) (by first | exact .val _ | exact lf_ints (.inl rfl) | exact lf_ints (.inr rfl) | exact .any | exact D.flat_lf rfl | exact lf_ssz _ | exact lf_pqz _ | exact lf_nl0 | exact .tup (lf_cons (lf_ssz _) (lf_cons (.val _) lf_nil)) | exact .tup (lf_cons (lf_pqz _) (lf_cons (.val _) lf_nil)) | exact .tup (lf_cons (lf_ints (.inl rfl)) (lf_cons (.val _) lf_nil)) | exact .tup (lf_cons (lf_ssz _) (lf_cons (lf_ints (.inl rfl)) (lf_cons (.val _) lf_nil))) | exact .tup (lf_cons (lf_ssz _) (lf_cons (lf_ssz _) (lf_cons (.val _) lf_nil))) | exact lf_sent) ?_
  refine n_move rfl (by first|simp only[nf,Nat.beq]<;>rfl|rfl) ?_
  refine n_extract rfl (by first|simp only[nf,Nat.beq]<;>rfl|rfl) rfl ?_
  refine n_extract rfl (by first|simp only[nf,Nat.beq]<;>rfl|rfl) rfl ?_
  refine n_assign rfl (by first|simp only[nf,Nat.beq]<;>rfl|rfl) ?_
  refine n_assign rfl (by first|simp only[nf,Nat.beq]<;>rfl|rfl) ?_
  refine AOps.nil ?_
  refine AWP.seq ?_
  refine AWP.region ?_
  refine n_move rfl (by first|simp only[nf,Nat.beq]<;>rfl|rfl) ?_
  refine n_call0B rfl cf151 rfl (Eq.trans (by simp only [nl] <;> rfl) (by first|simp only[nf,Nat.beq]<;>rfl|rfl)) (by repeat (first | exact .nil | refine .cons ?_ ?_ | exact ren_ints | exact .lf (.val _) | exact .lf (lf_ints (.inl rfl)) | exact .bp ⟨rfl, rfl⟩ | exact .bp (.inl ⟨rfl, rfl⟩) | exact .bp (.inr ⟨rfl, rfl⟩) | exact ren_bys0 rfl | exact .lf (D.flat_lf rfl) | exact ren_lits rfl | exact .lf (lf_ssz _) | exact .lf (lf_pqz _) | exact ren_q0 rfl | exact ren_pq rfl | exact ren_nl0 | exact ren_sq | exact .lf (.fn (fun d h => by cases h) (fun d h => by cases h)))) (l_parse b hb hlb) (by first | exact .val _ | exact lf_ints (.inl rfl) | exact lf_ints (.inr rfl) | exact .any | exact D.flat_lf rfl | exact lf_ssz _ | exact lf_pqz _ | exact lf_nl0 | exact .tup (lf_cons (lf_ssz _) (lf_cons (.val _) lf_nil)) | exact .tup (lf_cons (lf_pqz _) (lf_cons (.val _) lf_nil)) | exact .tup (lf_cons (lf_ints (.inl rfl)) (lf_cons (.val _) lf_nil)) | exact .tup (lf_cons (lf_ssz _) (lf_cons (lf_ints (.inl rfl)) (lf_cons (.val _) lf_nil))) | exact .tup (lf_cons (lf_ssz _) (lf_cons (lf_ssz _) (lf_cons (.val _) lf_nil))) | exact lf_sent) ?_
  refine n_move rfl (by first|simp only[nf,Nat.beq]<;>rfl|rfl) ?_
  refine n_extract rfl (by first|simp only[nf,Nat.beq]<;>rfl|rfl) rfl ?_
  refine n_extract rfl (by first|simp only[nf,Nat.beq]<;>rfl|rfl) rfl ?_
  refine n_alloc rfl zi157 rfl (by first|simp only[nf,Nat.beq]<;>rfl|rfl) (by first|simp only[nf,Nat.beq]<;>rfl|rfl) ?_
  refine n_store ti157 (by first|simp only[nf,Nat.beq]<;>rfl|rfl) rfl (by first|simp only[nf,Nat.beq]<;>rfl|rfl) rfl (by first|simp only[nf,Nat.beq]<;>rfl|rfl) rfl rfl rfl (by first|simp only[nf,Nat.beq]<;>rfl|rfl) ?_
  refine n_assign rfl (by first|simp only[nf,Nat.beq]<;>rfl|rfl) ?_
  refine AOps.nil ?_
  refine AWP.seq ?_
  refine AWP.region ?_
  refine n_move rfl (by first|simp only[nf,Nat.beq]<;>rfl|rfl) ?_
  refine n_call0B rfl cf152 rfl (Eq.trans (by simp only [nl] <;> rfl) (by first|simp only[nf,Nat.beq]<;>rfl|rfl)) (by repeat (first | exact .nil | refine .cons ?_ ?_ | exact ren_ints | exact .lf (.val _) | exact .lf (lf_ints (.inl rfl)) | exact .bp ⟨rfl, rfl⟩ | exact .bp (.inl ⟨rfl, rfl⟩) | exact .bp (.inr ⟨rfl, rfl⟩) | exact ren_bys0 rfl | exact .lf (D.flat_lf rfl) | exact ren_lits rfl | exact .lf (lf_ssz _) | exact .lf (lf_pqz _) | exact ren_q0 rfl | exact ren_pq rfl | exact ren_nl0 | exact ren_sq | exact .lf (.fn (fun d h => by cases h) (fun d h => by cases h)))) (r_parse b hb hlb) (by first | exact .val _ | exact lf_ints (.inl rfl) | exact lf_ints (.inr rfl) | exact .any | exact D.flat_lf rfl | exact lf_ssz _ | exact lf_pqz _ | exact lf_nl0 | exact .tup (lf_cons (lf_ssz _) (lf_cons (.val _) lf_nil)) | exact .tup (lf_cons (lf_pqz _) (lf_cons (.val _) lf_nil)) | exact .tup (lf_cons (lf_ints (.inl rfl)) (lf_cons (.val _) lf_nil)) | exact .tup (lf_cons (lf_ssz _) (lf_cons (lf_ints (.inl rfl)) (lf_cons (.val _) lf_nil))) | exact .tup (lf_cons (lf_ssz _) (lf_cons (lf_ssz _) (lf_cons (.val _) lf_nil))) | exact lf_sent) ?_
  refine n_move rfl (by first|simp only[nf,Nat.beq]<;>rfl|rfl) ?_
  refine n_extract rfl (by first|simp only[nf,Nat.beq]<;>rfl|rfl) rfl ?_
  refine n_extract rfl (by first|simp only[nf,Nat.beq]<;>rfl|rfl) rfl ?_
  refine n_alloc rfl zi157 rfl (by first|simp only[nf,Nat.beq]<;>rfl|rfl) (by first|simp only[nf,Nat.beq]<;>rfl|rfl) ?_
  refine n_store ti157 (by first|simp only[nf,Nat.beq]<;>rfl|rfl) rfl (by first|simp only[nf,Nat.beq]<;>rfl|rfl) rfl (by first|simp only[nf,Nat.beq]<;>rfl|rfl) rfl rfl rfl (by first|simp only[nf,Nat.beq]<;>rfl|rfl) ?_
  refine n_assign rfl (by first|simp only[nf,Nat.beq]<;>rfl|rfl) ?_
  refine AOps.nil ?_
  refine AWP.seq ?_
  refine AWP.region ?_
  refine n_move rfl (by first|simp only[nf,Nat.beq]<;>rfl|rfl) ?_
  refine n_call0B rfl cf114 rfl (Eq.trans (by simp only [nl] <;> rfl) (by first|simp only[nf,Nat.beq]<;>rfl|rfl)) (by repeat (first | exact .nil | refine .cons ?_ ?_ | exact ren_ints | exact .lf (.val _) | exact .lf (lf_ints (.inl rfl)) | exact .bp ⟨rfl, rfl⟩ | exact .bp (.inl ⟨rfl, rfl⟩) | exact .bp (.inr ⟨rfl, rfl⟩) | exact ren_bys0 rfl | exact .lf (D.flat_lf rfl) | exact ren_lits rfl | exact .lf (lf_ssz _) | exact .lf (lf_pqz _) | exact ren_q0 rfl | exact ren_pq rfl | exact ren_nl0 | exact ren_sq | exact .lf (.fn (fun d h => by cases h) (fun d h => by cases h)))) (l_new _) (by first | exact .val _ | exact lf_ints (.inl rfl) | exact lf_ints (.inr rfl) | exact .any | exact D.flat_lf rfl | exact lf_ssz _ | exact lf_pqz _ | exact lf_nl0 | exact .tup (lf_cons (lf_ssz _) (lf_cons (.val _) lf_nil)) | exact .tup (lf_cons (lf_pqz _) (lf_cons (.val _) lf_nil)) | exact .tup (lf_cons (lf_ints (.inl rfl)) (lf_cons (.val _) lf_nil)) | exact .tup (lf_cons (lf_ssz _) (lf_cons (lf_ints (.inl rfl)) (lf_cons (.val _) lf_nil))) | exact .tup (lf_cons (lf_ssz _) (lf_cons (lf_ssz _) (lf_cons (.val _) lf_nil))) | exact lf_sent) ?_
  refine n_move rfl (by first|simp only[nf,Nat.beq]<;>rfl|rfl) ?_
  refine n_extract rfl (by first|simp only[nf,Nat.beq]<;>rfl|rfl) rfl ?_
  refine n_extract rfl (by first|simp only[nf,Nat.beq]<;>rfl|rfl) rfl ?_
  refine n_alloc rfl zi141 rfl (by first|simp only[nf,Nat.beq]<;>rfl|rfl) (by first|simp only[nf,Nat.beq]<;>rfl|rfl) ?_
  refine n_store ti141 (by first|simp only[nf,Nat.beq]<;>rfl|rfl) rfl (by first|simp only[nf,Nat.beq]<;>rfl|rfl) rfl (by first|simp only[nf,Nat.beq]<;>rfl|rfl) rfl rfl rfl (by first|simp only[nf,Nat.beq]<;>rfl|rfl) ?_
  refine n_assign rfl (by first|simp only[nf,Nat.beq]<;>rfl|rfl) ?_
  refine AOps.nil ?_
  refine AWP.seq ?_
  refine AWP.region ?_
  refine n_move rfl (by first|simp only[nf,Nat.beq]<;>rfl|rfl) ?_
  refine n_call0B rfl cf153 rfl (Eq.trans (by simp only [nl] <;> rfl) (by first|simp only[nf,Nat.beq]<;>rfl|rfl)) (by repeat (first | exact .nil | refine .cons ?_ ?_ | exact ren_ints | exact .lf (.val _) | exact .lf (lf_ints (.inl rfl)) | exact .bp ⟨rfl, rfl⟩ | exact .bp (.inl ⟨rfl, rfl⟩) | exact .bp (.inr ⟨rfl, rfl⟩) | exact ren_bys0 rfl | exact .lf (D.flat_lf rfl) | exact ren_lits rfl | exact .lf (lf_ssz _) | exact .lf (lf_pqz _) | exact ren_q0 rfl | exact ren_pq rfl | exact ren_nl0 | exact ren_sq | exact .lf (.fn (fun d h => by cases h) (fun d h => by cases h)))) (r_new _) (by first | exact .val _ | exact lf_ints (.inl rfl) | exact lf_ints (.inr rfl) | exact .any | exact D.flat_lf rfl | exact lf_ssz _ | exact lf_pqz _ | exact lf_nl0 | exact .tup (lf_cons (lf_ssz _) (lf_cons (.val _) lf_nil)) | exact .tup (lf_cons (lf_pqz _) (lf_cons (.val _) lf_nil)) | exact .tup (lf_cons (lf_ints (.inl rfl)) (lf_cons (.val _) lf_nil)) | exact .tup (lf_cons (lf_ssz _) (lf_cons (lf_ints (.inl rfl)) (lf_cons (.val _) lf_nil))) | exact .tup (lf_cons (lf_ssz _) (lf_cons (lf_ssz _) (lf_cons (.val _) lf_nil))) | exact lf_sent) ?_
  refine n_move rfl (by first|simp only[nf,Nat.beq]<;>rfl|rfl) ?_
  refine n_extract rfl (by first|simp only[nf,Nat.beq]<;>rfl|rfl) rfl ?_
  refine n_extract rfl (by first|simp only[nf,Nat.beq]<;>rfl|rfl) rfl ?_
  refine n_alloc rfl zi141 rfl (by first|simp only[nf,Nat.beq]<;>rfl|rfl) (by first|simp only[nf,Nat.beq]<;>rfl|rfl) ?_
  refine n_store ti141 (by first|simp only[nf,Nat.beq]<;>rfl|rfl) rfl (by first|simp only[nf,Nat.beq]<;>rfl|rfl) rfl (by first|simp only[nf,Nat.beq]<;>rfl|rfl) rfl rfl rfl (by first|simp only[nf,Nat.beq]<;>rfl|rfl) ?_
  refine n_assign rfl (by first|simp only[nf,Nat.beq]<;>rfl|rfl) ?_
  refine AOps.nil ?_
  refine AWP.seq ?_
  refine AWP.seq ?_
  refine AWP.region ?_
  refine n_move rfl (by first|simp only[nf,Nat.beq]<;>rfl|rfl) ?_
  refine n_ibin rfl (by first|simp only[nf,Nat.beq]<;>rfl|rfl) (by first|simp only[nf,Nat.beq]<;>rfl|rfl) rfl ?_
  refine AOps.nil ?_
  refine AWP.cond (by first|simp only[nf,Nat.beq]<;>rfl|rfl) (fun hc2 => ?_) (fun hc2 => ?_)
  · try simp only [nh] at hc2
    have hc0 : x.chk = 0 := by simpa using hc2
    have hq := l_parse x.bytes hB Pq.bytes_l40
    rw [Pq.parse_bytes hc0] at hq
    dsimp only at hq
    refine AWP.seq ?_
    refine AWP.region ?_
    refine n_move rfl (by first|simp only[nf,Nat.beq]<;>rfl|rfl) ?_
    refine n_call0B rfl cf151 rfl (Eq.trans (by simp only [nl] <;> rfl) (by first|simp only[nf,Nat.beq]<;>rfl|rfl)) (by repeat (first | exact .nil | refine .cons ?_ ?_ | exact ren_ints | exact .lf (.val _) | exact .lf (lf_ints (.inl rfl)) | exact .bp ⟨rfl, rfl⟩ | exact .bp (.inl ⟨rfl, rfl⟩) | exact .bp (.inr ⟨rfl, rfl⟩) | exact ren_bys0 rfl | exact .lf (D.flat_lf rfl) | exact ren_lits rfl | exact .lf (lf_ssz _) | exact .lf (lf_pqz _) | exact ren_q0 rfl | exact ren_pq rfl | exact ren_nl0 | exact ren_sq | exact .lf (.fn (fun d h => by cases h) (fun d h => by cases h)))) (hq) (by first | exact .val _ | exact lf_ints (.inl rfl) | exact lf_ints (.inr rfl) | exact .any | exact D.flat_lf rfl | exact lf_ssz _ | exact lf_pqz _ | exact lf_nl0 | exact .tup (lf_cons (lf_ssz _) (lf_cons (.val _) lf_nil)) | exact .tup (lf_cons (lf_pqz _) (lf_cons (.val _) lf_nil)) | exact .tup (lf_cons (lf_ints (.inl rfl)) (lf_cons (.val _) lf_nil)) | exact .tup (lf_cons (lf_ssz _) (lf_cons (lf_ints (.inl rfl)) (lf_cons (.val _) lf_nil))) | exact .tup (lf_cons (lf_ssz _) (lf_cons (lf_ssz _) (lf_cons (.val _) lf_nil))) | exact lf_sent) ?_
    refine n_move rfl (by first|simp only[nf,Nat.beq]<;>rfl|rfl) ?_
    refine n_extract rfl (by first|simp only[nf,Nat.beq]<;>rfl|rfl) rfl ?_
    refine n_extract rfl (by first|simp only[nf,Nat.beq]<;>rfl|rfl) rfl ?_
    refine n_alloc rfl zi157 rfl (by first|simp only[nf,Nat.beq]<;>rfl|rfl) (by first|simp only[nf,Nat.beq]<;>rfl|rfl) ?_
    refine n_store ti157 (by first|simp only[nf,Nat.beq]<;>rfl|rfl) rfl (by first|simp only[nf,Nat.beq]<;>rfl|rfl) rfl (by first|simp only[nf,Nat.beq]<;>rfl|rfl) rfl rfl rfl (by first|simp only[nf,Nat.beq]<;>rfl|rfl) ?_
    refine n_assign rfl (by first|simp only[nf,Nat.beq]<;>rfl|rfl) ?_
    refine AOps.nil ?_
    refine AWP.seq ?_
    refine AWP.region ?_
    refine n_move rfl (by first|simp only[nf,Nat.beq]<;>rfl|rfl) ?_
    refine n_ibin rfl (by first|simp only[nf,Nat.beq]<;>rfl|rfl) (by first|simp only[nf,Nat.beq]<;>rfl|rfl) rfl ?_
    refine n_move rfl (by first|simp only[nf,Nat.beq]<;>rfl|rfl) ?_
    refine AOps.name (u := 62) (fun z => .val (.bool z)) (by first|simp only[nf,Nat.beq]<;>rfl|rfl) (fun b62 hb62 => ?_)
    refine n_soft (u := 62) (E := .val (.bool b62)) (!b62) rfl rfl rfl (by first|simp only[nf,Nat.beq]<;>rfl|rfl) (by cases b62 <;> first | (intro _; rfl) | (intro h; exact absurd h (by decide))) (by cases b62 <;> first | (intro h; exact absurd h (by decide)) | (intro _; exact ⟨_, rfl, by first | (intro h; cases h; done) | decide | simp⟩)) (fun h => by
        cases b62 with
        | true => exact absurd h (by first | decide | simp)
        | false =>
          refine n_load rfl ti157 (by first|simp only[nf,Nat.beq]<;>rfl|rfl) (by first|simp only[nf,Nat.beq]<;>rfl|rfl) rfl (by first|simp only[nf,Nat.beq]<;>rfl|rfl) ?_
          exact AOps.nil ⟨rfl, rfl, rfl⟩) ?_
    refine n_soft (u := 62) (E := .val (.bool b62)) (!b62) rfl rfl rfl (by first|simp only[nf,Nat.beq]<;>rfl|rfl) (by cases b62 <;> first | (intro _; rfl) | (intro h; exact absurd h (by decide))) (by cases b62 <;> first | (intro h; exact absurd h (by decide)) | (intro _; exact ⟨_, rfl, by first | (intro h; cases h; done) | decide | simp⟩)) (fun h => by
        cases b62 with
        | true => exact absurd h (by first | decide | simp)
        | false =>
          refine n_load rfl ti157 (by first|simp only[nf,Nat.beq]<;>rfl|rfl) (by first|simp only[nf,Nat.beq]<;>rfl|rfl) rfl (by first|simp only[nf,Nat.beq]<;>rfl|rfl) ?_
          exact AOps.nil ⟨rfl, rfl, rfl⟩) ?_
    refine n_soft (u := 62) (E := .val (.bool b62)) (!b62) rfl rfl rfl (by first|simp only[nf,Nat.beq]<;>rfl|rfl) (by cases b62 <;> first | (intro _; rfl) | (intro h; exact absurd h (by decide))) (by cases b62 <;> first | (intro h; exact absurd h (by decide)) | (intro _; exact ⟨_, rfl, by first | (intro h; cases h; done) | decide | simp⟩)) (fun h => by
        cases b62 with
        | true => exact absurd h (by first | decide | simp)
        | false =>
          refine n_call0B rfl cf154 rfl (Eq.trans (by simp only [nl] <;> rfl) (by first|simp only[nf,Nat.beq]<;>rfl|rfl)) (by repeat (first | exact .nil | refine .cons ?_ ?_ | exact ren_ints | exact .lf (.val _) | exact .lf (lf_ints (.inl rfl)) | exact .bp ⟨rfl, rfl⟩ | exact .bp (.inl ⟨rfl, rfl⟩) | exact .bp (.inr ⟨rfl, rfl⟩) | exact ren_bys0 rfl | exact .lf (D.flat_lf rfl) | exact ren_lits rfl | exact .lf (lf_ssz _) | exact .lf (lf_pqz _) | exact ren_q0 rfl | exact ren_pq rfl | exact ren_nl0 | exact ren_sq | exact .lf (.fn (fun d h => by cases h) (fun d h => by cases h)))) (hsx) (by first | exact .val _ | exact lf_ints (.inl rfl) | exact lf_ints (.inr rfl) | exact .any | exact D.flat_lf rfl | exact lf_ssz _ | exact lf_pqz _ | exact lf_nl0 | exact .tup (lf_cons (lf_ssz _) (lf_cons (.val _) lf_nil)) | exact .tup (lf_cons (lf_pqz _) (lf_cons (.val _) lf_nil)) | exact .tup (lf_cons (lf_ints (.inl rfl)) (lf_cons (.val _) lf_nil)) | exact .tup (lf_cons (lf_ssz _) (lf_cons (lf_ints (.inl rfl)) (lf_cons (.val _) lf_nil))) | exact .tup (lf_cons (lf_ssz _) (lf_cons (lf_ssz _) (lf_cons (.val _) lf_nil))) | exact lf_sent) ?_
          exact AOps.nil ⟨rfl, rfl, rfl⟩) ?_
    refine n_soft (u := 62) (E := .val (.bool b62)) (!b62) rfl rfl rfl (by first|simp only[nf,Nat.beq]<;>rfl|rfl) (by cases b62 <;> first | (intro _; rfl) | (intro h; exact absurd h (by decide))) (by cases b62 <;> first | (intro h; exact absurd h (by decide)) | (intro _; exact ⟨_, rfl, by first | (intro h; cases h; done) | decide | simp⟩)) (fun h => by
        cases b62 with
        | true => exact absurd h (by first | decide | simp)
        | false =>
          refine n_not rfl (by first|simp only[nf,Nat.beq]<;>rfl|rfl) rfl ?_
          exact AOps.nil ⟨rfl, rfl, rfl⟩) ?_
    refine n_pick_or rfl (by first|simp only[nf,Nat.beq]<;>rfl|rfl) (fun h => by cases b62 with | true => exact absurd h (by decide) | false => exact (by first|simp only[nf,Nat.beq]<;>rfl|rfl)) ?_
    subst hb62
    refine AOps.nil ?_
    refine AWP.cond (by first|simp only[nf,Nat.beq]<;>rfl|rfl) (fun hc3 => ?_) (fun hc3 => ?_)
    · try simp only [nh] at hc3
      exfalso
      simp at hc3
    · try simp only [nh] at hc3
      refine AWP.skip ?_
      refine AWP.seq ?_
      refine AWP.anyStill (by kernel_rfl) (by kernel_rfl) ?_
      refine Walk.still (rs := [7]) (by rfl) (by first|simp only[nf,Nat.beq]<;>rfl|rfl) (fun base => by
          refine n_move rfl (by first|simp only[nf,Nat.beq]<;>rfl|rfl) ?_
          exact AOps.nil ⟨rfl, rfl, rfl⟩) ?_
      refine Walk.still (rs := [9]) (by rfl) (by first|simp only[nf,Nat.beq]<;>rfl|rfl) (fun base => by
          refine n_move rfl (by first|simp only[nf,Nat.beq]<;>rfl|rfl) ?_
          exact AOps.nil ⟨rfl, rfl, rfl⟩) ?_
      refine Walk.still (rs := [68, 69]) (by rfl) (by first|simp only[nf,Nat.beq]<;>rfl|rfl) (fun base => by
          refine n_call0B rfl cf40 rfl (Eq.trans (by simp only [nl] <;> rfl) (by first|simp only[nf,Nat.beq]<;>rfl|rfl)) (by repeat (first | exact .nil | refine .cons ?_ ?_ | exact ren_ints | exact .lf (.val _) | exact .lf (lf_ints (.inl rfl)) | exact .bp ⟨rfl, rfl⟩ | exact .bp (.inl ⟨rfl, rfl⟩) | exact .bp (.inr ⟨rfl, rfl⟩) | exact ren_bys0 rfl | exact .lf (D.flat_lf rfl) | exact ren_lits rfl | exact .lf (lf_ssz _) | exact .lf (lf_pqz _) | exact ren_q0 rfl | exact ren_pq rfl | exact ren_nl0 | exact ren_sq | exact .lf (.fn (fun d h => by cases h) (fun d h => by cases h)))) (heq) (by first | exact .val _ | exact lf_ints (.inl rfl) | exact lf_ints (.inr rfl) | exact .any | exact D.flat_lf rfl | exact lf_ssz _ | exact lf_pqz _ | exact lf_nl0 | exact .tup (lf_cons (lf_ssz _) (lf_cons (.val _) lf_nil)) | exact .tup (lf_cons (lf_pqz _) (lf_cons (.val _) lf_nil)) | exact .tup (lf_cons (lf_ints (.inl rfl)) (lf_cons (.val _) lf_nil)) | exact .tup (lf_cons (lf_ssz _) (lf_cons (lf_ints (.inl rfl)) (lf_cons (.val _) lf_nil))) | exact .tup (lf_cons (lf_ssz _) (lf_cons (lf_ssz _) (lf_cons (.val _) lf_nil))) | exact lf_sent) ?_
          exact AOps.nil ⟨rfl, rfl, rfl⟩) ?_
      refine Walk.still (rs := [70]) (by rfl) (by first|simp only[nf,Nat.beq]<;>rfl|rfl) (fun base => by
          refine n_move rfl (by first|simp only[nf,Nat.beq]<;>rfl|rfl) ?_
          exact AOps.nil ⟨rfl, rfl, rfl⟩) ?_
      refine Walk.name (u := 71) (fun z => .val (.bool z)) (by first|simp only[nf,Nat.beq]<;>rfl|rfl) (fun b71 hb71 => ?_)
      refine Walk.still (rs := [8, 71]) (by rfl) (by first|simp only[nf,Nat.beq]<;>rfl|rfl) (fun base => by
          refine n_soft (u := 71) (E := .val (.bool b71)) (b71) rfl rfl rfl (by first|simp only[nf,Nat.beq]<;>rfl|rfl) (by cases b71 <;> first | (intro _; rfl) | (intro h; exact absurd h (by decide))) (by cases b71 <;> first | (intro h; exact absurd h (by decide)) | (intro _; exact ⟨_, rfl, by first | (intro h; cases h; done) | decide | simp⟩)) (fun h => by
              cases b71 with
              | false => exact absurd h (by first | decide | simp)
              | true =>
                refine n_move rfl (by first|simp only[nf,Nat.beq]<;>rfl|rfl) ?_
                exact AOps.nil ⟨rfl, rfl, rfl⟩) (AOps.nil ⟨rfl, rfl, rfl⟩)) ?_
      refine Walk.still (rs := [10, 71]) (by rfl) (by first|simp only[nf,Nat.beq]<;>rfl|rfl) (fun base => by
          refine n_soft (u := 71) (E := .val (.bool b71)) (b71) rfl rfl rfl (by first|simp only[nf,Nat.beq]<;>rfl|rfl) (by cases b71 <;> first | (intro _; rfl) | (intro h; exact absurd h (by decide))) (by cases b71 <;> first | (intro h; exact absurd h (by decide)) | (intro _; exact ⟨_, rfl, by first | (intro h; cases h; done) | decide | simp⟩)) (fun h => by
              cases b71 with
              | false => exact absurd h (by first | decide | simp)
              | true =>
                refine n_move rfl (by first|simp only[nf,Nat.beq]<;>rfl|rfl) ?_
                exact AOps.nil ⟨rfl, rfl, rfl⟩) (AOps.nil ⟨rfl, rfl, rfl⟩)) ?_
      refine Walk.still (rs := [72, 73, 71]) (by rfl) (by first|simp only[nf,Nat.beq]<;>rfl|rfl) (fun base => by
          refine n_soft (u := 71) (E := .val (.bool b71)) (b71) rfl rfl rfl (by first|simp only[nf,Nat.beq]<;>rfl|rfl) (by cases b71 <;> first | (intro _; rfl) | (intro h; exact absurd h (by decide))) (by cases b71 <;> first | (intro h; exact absurd h (by decide)) | (intro _; exact ⟨_, rfl, by first | (intro h; cases h; done) | decide | simp⟩)) (fun h => by
              cases b71 with
              | false => exact absurd h (by first | decide | simp)
              | true =>
                refine n_ibin rfl (by first|simp only[nf,Nat.beq]<;>rfl|rfl) (by first|simp only[nf,Nat.beq]<;>rfl|rfl) rfl ?_
                exact AOps.nil ⟨rfl, rfl, rfl⟩) (AOps.nil ⟨rfl, rfl, rfl⟩)) ?_
      refine Walk.still (rs := [71, 74]) (by rfl) (by first|simp only[nf,Nat.beq]<;>rfl|rfl) (fun base => by
          refine n_pick_and rfl (by first|simp only[nf,Nat.beq]<;>rfl|rfl) (fun h => by cases b71 with | false => exact absurd h (by decide) | true => exact (by first|simp only[nf,Nat.beq]<;>rfl|rfl)) ?_
          exact AOps.nil ⟨rfl, rfl, rfl⟩) ?_
      refine Walk.still (rs := [75]) (by rfl) (by first|simp only[nf,Nat.beq]<;>rfl|rfl) (fun base => by
          refine n_move rfl (by first|simp only[nf,Nat.beq]<;>rfl|rfl) ?_
          exact AOps.nil ⟨rfl, rfl, rfl⟩) ?_
      refine Walk.name (u := 76) (fun z => .val (.bool z)) (by first|simp only[nf,Nat.beq]<;>rfl|rfl) (fun b76 hb76 => ?_)
      refine Walk.still (rs := [11, 76]) (by rfl) (by first|simp only[nf,Nat.beq]<;>rfl|rfl) (fun base => by
          refine n_soft (u := 76) (E := .val (.bool b76)) (b76) rfl rfl rfl (by first|simp only[nf,Nat.beq]<;>rfl|rfl) (by cases b76 <;> first | (intro _; rfl) | (intro h; exact absurd h (by decide))) (by cases b76 <;> first | (intro h; exact absurd h (by decide)) | (intro _; exact ⟨_, rfl, by first | (intro h; cases h; done) | decide | simp⟩)) (fun h => by
              cases b76 with
              | false => exact absurd h (by first | decide | simp)
              | true =>
                refine n_load rfl ti157 (by first|simp only[nf,Nat.beq]<;>rfl|rfl) (by first|simp only[nf,Nat.beq]<;>rfl|rfl) rfl (by first|simp only[nf,Nat.beq]<;>rfl|rfl) ?_
                exact AOps.nil ⟨rfl, rfl, rfl⟩) (AOps.nil ⟨rfl, rfl, rfl⟩)) ?_
      refine Walk.still (rs := [13, 76]) (by rfl) (by first|simp only[nf,Nat.beq]<;>rfl|rfl) (fun base => by
          refine n_soft (u := 76) (E := .val (.bool b76)) (b76) rfl rfl rfl (by first|simp only[nf,Nat.beq]<;>rfl|rfl) (by cases b76 <;> first | (intro _; rfl) | (intro h; exact absurd h (by decide))) (by cases b76 <;> first | (intro h; exact absurd h (by decide)) | (intro _; exact ⟨_, rfl, by first | (intro h; cases h; done) | decide | simp⟩)) (fun h => by
              cases b76 with
              | false => exact absurd h (by first | decide | simp)
              | true =>
                refine n_load rfl ti157 (by first|simp only[nf,Nat.beq]<;>rfl|rfl) (by first|simp only[nf,Nat.beq]<;>rfl|rfl) rfl (by first|simp only[nf,Nat.beq]<;>rfl|rfl) ?_
                exact AOps.nil ⟨rfl, rfl, rfl⟩) (AOps.nil ⟨rfl, rfl, rfl⟩)) ?_
      refine Walk.still (rs := [77, 78, 76]) (by rfl) (by first|simp only[nf,Nat.beq]<;>rfl|rfl) (fun base => by
          refine n_soft (u := 76) (E := .val (.bool b76)) (b76) rfl rfl rfl (by first|simp only[nf,Nat.beq]<;>rfl|rfl) (by cases b76 <;> first | (intro _; rfl) | (intro h; exact absurd h (by decide))) (by cases b76 <;> first | (intro h; exact absurd h (by decide)) | (intro _; exact ⟨_, rfl, by first | (intro h; cases h; done) | decide | simp⟩)) (fun h => by
              cases b76 with
              | false => exact absurd h (by first | decide | simp)
              | true =>
                refine n_call0B rfl cf154 rfl (Eq.trans (by simp only [nl] <;> rfl) (by first|simp only[nf,Nat.beq]<;>rfl|rfl)) (by repeat (first | exact .nil | refine .cons ?_ ?_ | exact ren_ints | exact .lf (.val _) | exact .lf (lf_ints (.inl rfl)) | exact .bp ⟨rfl, rfl⟩ | exact .bp (.inl ⟨rfl, rfl⟩) | exact .bp (.inr ⟨rfl, rfl⟩) | exact ren_bys0 rfl | exact .lf (D.flat_lf rfl) | exact ren_lits rfl | exact .lf (lf_ssz _) | exact .lf (lf_pqz _) | exact ren_q0 rfl | exact ren_pq rfl | exact ren_nl0 | exact ren_sq | exact .lf (.fn (fun d h => by cases h) (fun d h => by cases h)))) (hsp) (by first | exact .val _ | exact lf_ints (.inl rfl) | exact lf_ints (.inr rfl) | exact .any | exact D.flat_lf rfl | exact lf_ssz _ | exact lf_pqz _ | exact lf_nl0 | exact .tup (lf_cons (lf_ssz _) (lf_cons (.val _) lf_nil)) | exact .tup (lf_cons (lf_pqz _) (lf_cons (.val _) lf_nil)) | exact .tup (lf_cons (lf_ints (.inl rfl)) (lf_cons (.val _) lf_nil)) | exact .tup (lf_cons (lf_ssz _) (lf_cons (lf_ints (.inl rfl)) (lf_cons (.val _) lf_nil))) | exact .tup (lf_cons (lf_ssz _) (lf_cons (lf_ssz _) (lf_cons (.val _) lf_nil))) | exact lf_sent) ?_
                exact AOps.nil ⟨rfl, rfl, rfl⟩) (AOps.nil ⟨rfl, rfl, rfl⟩)) ?_
      refine Walk.still (rs := [76, 79]) (by rfl) (by first|simp only[nf,Nat.beq]<;>rfl|rfl) (fun base => by
          refine n_pick_and rfl (by first|simp only[nf,Nat.beq]<;>rfl|rfl) (fun h => by cases b76 with | false => exact absurd h (by decide) | true => exact (by first|simp only[nf,Nat.beq]<;>rfl|rfl)) ?_
          exact AOps.nil ⟨rfl, rfl, rfl⟩) ?_
      refine Walk.still (rs := [80]) (by rfl) (by first|simp only[nf,Nat.beq]<;>rfl|rfl) (fun base => by
          refine n_move rfl (by first|simp only[nf,Nat.beq]<;>rfl|rfl) ?_
          exact AOps.nil ⟨rfl, rfl, rfl⟩) ?_
      refine Walk.name (u := 81) (fun z => .val (.bool z)) (by first|simp only[nf,Nat.beq]<;>rfl|rfl) (fun b81 hb81 => ?_)
      refine Walk.still (rs := [12, 81]) (by rfl) (by first|simp only[nf,Nat.beq]<;>rfl|rfl) (fun base => by
          refine n_soft (u := 81) (E := .val (.bool b81)) (b81) rfl rfl rfl (by first|simp only[nf,Nat.beq]<;>rfl|rfl) (by cases b81 <;> first | (intro _; rfl) | (intro h; exact absurd h (by decide))) (by cases b81 <;> first | (intro h; exact absurd h (by decide)) | (intro _; exact ⟨_, rfl, by first | (intro h; cases h; done) | decide | simp⟩)) (fun h => by
              cases b81 with
              | false => exact absurd h (by first | decide | simp)
              | true =>
                refine n_move rfl (by first|simp only[nf,Nat.beq]<;>rfl|rfl) ?_
                exact AOps.nil ⟨rfl, rfl, rfl⟩) (AOps.nil ⟨rfl, rfl, rfl⟩)) ?_
      refine Walk.still (rs := [14, 81]) (by rfl) (by first|simp only[nf,Nat.beq]<;>rfl|rfl) (fun base => by
          refine n_soft (u := 81) (E := .val (.bool b81)) (b81) rfl rfl rfl (by first|simp only[nf,Nat.beq]<;>rfl|rfl) (by cases b81 <;> first | (intro _; rfl) | (intro h; exact absurd h (by decide))) (by cases b81 <;> first | (intro h; exact absurd h (by decide)) | (intro _; exact ⟨_, rfl, by first | (intro h; cases h; done) | decide | simp⟩)) (fun h => by
              cases b81 with
              | false => exact absurd h (by first | decide | simp)
              | true =>
                refine n_move rfl (by first|simp only[nf,Nat.beq]<;>rfl|rfl) ?_
                exact AOps.nil ⟨rfl, rfl, rfl⟩) (AOps.nil ⟨rfl, rfl, rfl⟩)) ?_
      refine Walk.still (rs := [82, 83, 81]) (by rfl) (by first|simp only[nf,Nat.beq]<;>rfl|rfl) (fun base => by
          refine n_soft (u := 81) (E := .val (.bool b81)) (b81) rfl rfl rfl (by first|simp only[nf,Nat.beq]<;>rfl|rfl) (by cases b81 <;> first | (intro _; rfl) | (intro h; exact absurd h (by decide))) (by cases b81 <;> first | (intro h; exact absurd h (by decide)) | (intro _; exact ⟨_, rfl, by first | (intro h; cases h; done) | decide | simp⟩)) (fun h => by
              cases b81 with
              | false => exact absurd h (by first | decide | simp)
              | true =>
                refine n_ibin rfl (by first|simp only[nf,Nat.beq]<;>rfl|rfl) (by first|simp only[nf,Nat.beq]<;>rfl|rfl) rfl ?_
                exact AOps.nil ⟨rfl, rfl, rfl⟩) (AOps.nil ⟨rfl, rfl, rfl⟩)) ?_
      refine Walk.still (rs := [81, 84]) (by rfl) (by first|simp only[nf,Nat.beq]<;>rfl|rfl) (fun base => by
          refine n_pick_and rfl (by first|simp only[nf,Nat.beq]<;>rfl|rfl) (fun h => by cases b81 with | false => exact absurd h (by decide) | true => exact (by first|simp only[nf,Nat.beq]<;>rfl|rfl)) ?_
          exact AOps.nil ⟨rfl, rfl, rfl⟩) ?_
      refine Walk.still (rs := [85]) (by rfl) (by first|simp only[nf,Nat.beq]<;>rfl|rfl) (fun base => by
          refine n_move rfl (by first|simp only[nf,Nat.beq]<;>rfl|rfl) ?_
          exact AOps.nil ⟨rfl, rfl, rfl⟩) ?_
      refine Walk.name (u := 86) (fun z => .val (.bool z)) (by first|simp only[nf,Nat.beq]<;>rfl|rfl) (fun b86 hb86 => ?_)
      refine Walk.still (rs := [15, 86]) (by rfl) (by first|simp only[nf,Nat.beq]<;>rfl|rfl) (fun base => by
          refine n_soft (u := 86) (E := .val (.bool b86)) (b86) rfl rfl rfl (by first|simp only[nf,Nat.beq]<;>rfl|rfl) (by cases b86 <;> first | (intro _; rfl) | (intro h; exact absurd h (by decide))) (by cases b86 <;> first | (intro h; exact absurd h (by decide)) | (intro _; exact ⟨_, rfl, by first | (intro h; cases h; done) | decide | simp⟩)) (fun h => by
              cases b86 with
              | false => exact absurd h (by first | decide | simp)
              | true =>
                refine n_load rfl ti141 (by first|simp only[nf,Nat.beq]<;>rfl|rfl) (by first|simp only[nf,Nat.beq]<;>rfl|rfl) rfl (by first|simp only[nf,Nat.beq]<;>rfl|rfl) ?_
                exact AOps.nil ⟨rfl, rfl, rfl⟩) (AOps.nil ⟨rfl, rfl, rfl⟩)) ?_
      refine Walk.still (rs := [17, 86]) (by rfl) (by first|simp only[nf,Nat.beq]<;>rfl|rfl) (fun base => by
          refine n_soft (u := 86) (E := .val (.bool b86)) (b86) rfl rfl rfl (by first|simp only[nf,Nat.beq]<;>rfl|rfl) (by cases b86 <;> first | (intro _; rfl) | (intro h; exact absurd h (by decide))) (by cases b86 <;> first | (intro h; exact absurd h (by decide)) | (intro _; exact ⟨_, rfl, by first | (intro h; cases h; done) | decide | simp⟩)) (fun h => by
              cases b86 with
              | false => exact absurd h (by first | decide | simp)
              | true =>
                refine n_load rfl ti141 (by first|simp only[nf,Nat.beq]<;>rfl|rfl) (by first|simp only[nf,Nat.beq]<;>rfl|rfl) rfl (by first|simp only[nf,Nat.beq]<;>rfl|rfl) ?_
                exact AOps.nil ⟨rfl, rfl, rfl⟩) (AOps.nil ⟨rfl, rfl, rfl⟩)) ?_
      refine Walk.still (rs := [87, 88, 86]) (by rfl) (by first|simp only[nf,Nat.beq]<;>rfl|rfl) (fun base => by
          refine n_soft (u := 86) (E := .val (.bool b86)) (b86) rfl rfl rfl (by first|simp only[nf,Nat.beq]<;>rfl|rfl) (by cases b86 <;> first | (intro _; rfl) | (intro h; exact absurd h (by decide))) (by cases b86 <;> first | (intro h; exact absurd h (by decide)) | (intro _; exact ⟨_, rfl, by first | (intro h; cases h; done) | decide | simp⟩)) (fun h => by
              cases b86 with
              | false => exact absurd h (by first | decide | simp)
              | true =>
                refine n_call0B rfl cf155 rfl (Eq.trans (by simp only [nl] <;> rfl) (by first|simp only[nf,Nat.beq]<;>rfl|rfl)) (by repeat (first | exact .nil | refine .cons ?_ ?_ | exact ren_ints | exact .lf (.val _) | exact .lf (lf_ints (.inl rfl)) | exact .bp ⟨rfl, rfl⟩ | exact .bp (.inl ⟨rfl, rfl⟩) | exact .bp (.inr ⟨rfl, rfl⟩) | exact ren_bys0 rfl | exact .lf (D.flat_lf rfl) | exact ren_lits rfl | exact .lf (lf_ssz _) | exact .lf (lf_pqz _) | exact ren_q0 rfl | exact ren_pq rfl | exact ren_nl0 | exact ren_sq | exact .lf (.fn (fun d h => by cases h) (fun d h => by cases h)))) (r_same0 _) (by first | exact .val _ | exact lf_ints (.inl rfl) | exact lf_ints (.inr rfl) | exact .any | exact D.flat_lf rfl | exact lf_ssz _ | exact lf_pqz _ | exact lf_nl0 | exact .tup (lf_cons (lf_ssz _) (lf_cons (.val _) lf_nil)) | exact .tup (lf_cons (lf_pqz _) (lf_cons (.val _) lf_nil)) | exact .tup (lf_cons (lf_ints (.inl rfl)) (lf_cons (.val _) lf_nil)) | exact .tup (lf_cons (lf_ssz _) (lf_cons (lf_ints (.inl rfl)) (lf_cons (.val _) lf_nil))) | exact .tup (lf_cons (lf_ssz _) (lf_cons (lf_ssz _) (lf_cons (.val _) lf_nil))) | exact lf_sent) ?_
                exact AOps.nil ⟨rfl, rfl, rfl⟩) (AOps.nil ⟨rfl, rfl, rfl⟩)) ?_
      refine Walk.still (rs := [86, 89]) (by rfl) (by first|simp only[nf,Nat.beq]<;>rfl|rfl) (fun base => by
          refine n_pick_and rfl (by first|simp only[nf,Nat.beq]<;>rfl|rfl) (fun h => by cases b86 with | false => exact absurd h (by decide) | true => exact (by first|simp only[nf,Nat.beq]<;>rfl|rfl)) ?_
          exact AOps.nil ⟨rfl, rfl, rfl⟩) ?_
      refine Walk.still (rs := [90]) (by rfl) (by first|simp only[nf,Nat.beq]<;>rfl|rfl) (fun base => by
          refine n_move rfl (by first|simp only[nf,Nat.beq]<;>rfl|rfl) ?_
          exact AOps.nil ⟨rfl, rfl, rfl⟩) ?_
      refine Walk.name (u := 91) (fun z => .val (.bool z)) (by first|simp only[nf,Nat.beq]<;>rfl|rfl) (fun b91 hb91 => ?_)
      refine Walk.still (rs := [16, 91]) (by rfl) (by first|simp only[nf,Nat.beq]<;>rfl|rfl) (fun base => by
          refine n_soft (u := 91) (E := .val (.bool b91)) (b91) rfl rfl rfl (by first|simp only[nf,Nat.beq]<;>rfl|rfl) (by cases b91 <;> first | (intro _; rfl) | (intro h; exact absurd h (by decide))) (by cases b91 <;> first | (intro h; exact absurd h (by decide)) | (intro _; exact ⟨_, rfl, by first | (intro h; cases h; done) | decide | simp⟩)) (fun h => by
              cases b91 with
              | false => exact absurd h (by first | decide | simp)
              | true =>
                refine n_move rfl (by first|simp only[nf,Nat.beq]<;>rfl|rfl) ?_
                exact AOps.nil ⟨rfl, rfl, rfl⟩) (AOps.nil ⟨rfl, rfl, rfl⟩)) ?_
      refine Walk.still (rs := [18, 91]) (by rfl) (by first|simp only[nf,Nat.beq]<;>rfl|rfl) (fun base => by
          refine n_soft (u := 91) (E := .val (.bool b91)) (b91) rfl rfl rfl (by first|simp only[nf,Nat.beq]<;>rfl|rfl) (by cases b91 <;> first | (intro _; rfl) | (intro h; exact absurd h (by decide))) (by cases b91 <;> first | (intro h; exact absurd h (by decide)) | (intro _; exact ⟨_, rfl, by first | (intro h; cases h; done) | decide | simp⟩)) (fun h => by
              cases b91 with
              | false => exact absurd h (by first | decide | simp)
              | true =>
                refine n_move rfl (by first|simp only[nf,Nat.beq]<;>rfl|rfl) ?_
                exact AOps.nil ⟨rfl, rfl, rfl⟩) (AOps.nil ⟨rfl, rfl, rfl⟩)) ?_
      refine Walk.still (rs := [92, 93, 91]) (by rfl) (by first|simp only[nf,Nat.beq]<;>rfl|rfl) (fun base => by
          refine n_soft (u := 91) (E := .val (.bool b91)) (b91) rfl rfl rfl (by first|simp only[nf,Nat.beq]<;>rfl|rfl) (by cases b91 <;> first | (intro _; rfl) | (intro h; exact absurd h (by decide))) (by cases b91 <;> first | (intro h; exact absurd h (by decide)) | (intro _; exact ⟨_, rfl, by first | (intro h; cases h; done) | decide | simp⟩)) (fun h => by
              cases b91 with
              | false => exact absurd h (by first | decide | simp)
              | true =>
                refine n_ibin rfl (by first|simp only[nf,Nat.beq]<;>rfl|rfl) (by first|simp only[nf,Nat.beq]<;>rfl|rfl) rfl ?_
                exact AOps.nil ⟨rfl, rfl, rfl⟩) (AOps.nil ⟨rfl, rfl, rfl⟩)) ?_
      refine Walk.still (rs := [91, 94]) (by rfl) (by first|simp only[nf,Nat.beq]<;>rfl|rfl) (fun base => by
          refine n_pick_and rfl (by first|simp only[nf,Nat.beq]<;>rfl|rfl) (fun h => by cases b91 with | false => exact absurd h (by decide) | true => exact (by first|simp only[nf,Nat.beq]<;>rfl|rfl)) ?_
          exact AOps.nil ⟨rfl, rfl, rfl⟩) ?_
      refine Walk.still (rs := [95]) (by rfl) (by first|simp only[nf,Nat.beq]<;>rfl|rfl) (fun base => by
          refine n_move rfl (by first|simp only[nf,Nat.beq]<;>rfl|rfl) ?_
          exact AOps.nil ⟨rfl, rfl, rfl⟩) ?_
      refine Walk.name (u := 96) (fun z => .val (.bool z)) (by first|simp only[nf,Nat.beq]<;>rfl|rfl) (fun b96 hb96 => ?_)
      refine Walk.still (rs := [3, 96]) (by rfl) (by first|simp only[nf,Nat.beq]<;>rfl|rfl) (fun base => by
          refine n_soft (u := 96) (E := .val (.bool b96)) (b96) rfl rfl rfl (by first|simp only[nf,Nat.beq]<;>rfl|rfl) (by cases b96 <;> first | (intro _; rfl) | (intro h; exact absurd h (by decide))) (by cases b96 <;> first | (intro h; exact absurd h (by decide)) | (intro _; exact ⟨_, rfl, by first | (intro h; cases h; done) | decide | simp⟩)) (fun h => by
              cases b96 with
              | false => exact absurd h (by first | decide | simp)
              | true =>
                refine n_load rfl ti157 (by first|simp only[nf,Nat.beq]<;>rfl|rfl) (by first|simp only[nf,Nat.beq]<;>rfl|rfl) rfl (by first|simp only[nf,Nat.beq]<;>rfl|rfl) ?_
                exact AOps.nil ⟨rfl, rfl, rfl⟩) (AOps.nil ⟨rfl, rfl, rfl⟩)) ?_
      refine Walk.still (rs := [97, 96]) (by rfl) (by first|simp only[nf,Nat.beq]<;>rfl|rfl) (fun base => by
          refine n_soft (u := 96) (E := .val (.bool b96)) (b96) rfl rfl rfl (by first|simp only[nf,Nat.beq]<;>rfl|rfl) (by cases b96 <;> first | (intro _; rfl) | (intro h; exact absurd h (by decide))) (by cases b96 <;> first | (intro h; exact absurd h (by decide)) | (intro _; exact ⟨_, rfl, by first | (intro h; cases h; done) | decide | simp⟩)) (fun h => by
              cases b96 with
              | false => exact absurd h (by first | decide | simp)
              | true =>
                refine n_call0B rfl cf156 rfl (Eq.trans (by simp only [nl] <;> rfl) (by first|simp only[nf,Nat.beq]<;>rfl|rfl)) (by repeat (first | exact .nil | refine .cons ?_ ?_ | exact ren_ints | exact .lf (.val _) | exact .lf (lf_ints (.inl rfl)) | exact .bp ⟨rfl, rfl⟩ | exact .bp (.inl ⟨rfl, rfl⟩) | exact .bp (.inr ⟨rfl, rfl⟩) | exact ren_bys0 rfl | exact .lf (D.flat_lf rfl) | exact ren_lits rfl | exact .lf (lf_ssz _) | exact .lf (lf_pqz _) | exact ren_q0 rfl | exact ren_pq rfl | exact ren_nl0 | exact ren_sq | exact .lf (.fn (fun d h => by cases h) (fun d h => by cases h)))) (l_cp x hl) (by first | exact .val _ | exact lf_ints (.inl rfl) | exact lf_ints (.inr rfl) | exact .any | exact D.flat_lf rfl | exact lf_ssz _ | exact lf_pqz _ | exact lf_nl0 | exact .tup (lf_cons (lf_ssz _) (lf_cons (.val _) lf_nil)) | exact .tup (lf_cons (lf_pqz _) (lf_cons (.val _) lf_nil)) | exact .tup (lf_cons (lf_ints (.inl rfl)) (lf_cons (.val _) lf_nil)) | exact .tup (lf_cons (lf_ssz _) (lf_cons (lf_ints (.inl rfl)) (lf_cons (.val _) lf_nil))) | exact .tup (lf_cons (lf_ssz _) (lf_cons (lf_ssz _) (lf_cons (.val _) lf_nil))) | exact lf_sent) ?_
                exact AOps.nil ⟨rfl, rfl, rfl⟩) (AOps.nil ⟨rfl, rfl, rfl⟩)) ?_
      refine Walk.still (rs := [3, 96]) (by rfl) (by first|simp only[nf,Nat.beq]<;>rfl|rfl) (fun base => by
          refine n_soft (u := 96) (E := .val (.bool b96)) (b96) rfl rfl rfl (by first|simp only[nf,Nat.beq]<;>rfl|rfl) (by cases b96 <;> first | (intro _; rfl) | (intro h; exact absurd h (by decide))) (by cases b96 <;> first | (intro h; exact absurd h (by decide)) | (intro _; exact ⟨_, rfl, by first | (intro h; cases h; done) | decide | simp⟩)) (fun h => by
              cases b96 with
              | false => exact absurd h (by first | decide | simp)
              | true =>
                refine n_load rfl ti157 (by first|simp only[nf,Nat.beq]<;>rfl|rfl) (by first|simp only[nf,Nat.beq]<;>rfl|rfl) rfl (by first|simp only[nf,Nat.beq]<;>rfl|rfl) ?_
                exact AOps.nil ⟨rfl, rfl, rfl⟩) (AOps.nil ⟨rfl, rfl, rfl⟩)) ?_
      refine Walk.still (rs := [99, 96]) (by rfl) (by first|simp only[nf,Nat.beq]<;>rfl|rfl) (fun base => by
          refine n_soft (u := 96) (E := .val (.bool b96)) (b96) rfl rfl rfl (by first|simp only[nf,Nat.beq]<;>rfl|rfl) (by cases b96 <;> first | (intro _; rfl) | (intro h; exact absurd h (by decide))) (by cases b96 <;> first | (intro h; exact absurd h (by decide)) | (intro _; exact ⟨_, rfl, by first | (intro h; cases h; done) | decide | simp⟩)) (fun h => by
              cases b96 with
              | false => exact absurd h (by first | decide | simp)
              | true =>
                refine n_call0B rfl cf157 rfl (Eq.trans (by simp only [nl] <;> rfl) (by first|simp only[nf,Nat.beq]<;>rfl|rfl)) (by repeat (first | exact .nil | refine .cons ?_ ?_ | exact ren_ints | exact .lf (.val _) | exact .lf (lf_ints (.inl rfl)) | exact .bp ⟨rfl, rfl⟩ | exact .bp (.inl ⟨rfl, rfl⟩) | exact .bp (.inr ⟨rfl, rfl⟩) | exact ren_bys0 rfl | exact .lf (D.flat_lf rfl) | exact ren_lits rfl | exact .lf (lf_ssz _) | exact .lf (lf_pqz _) | exact ren_q0 rfl | exact ren_pq rfl | exact ren_nl0 | exact ren_sq | exact .lf (.fn (fun d h => by cases h) (fun d h => by cases h)))) (r_cp x hl) (by first | exact .val _ | exact lf_ints (.inl rfl) | exact lf_ints (.inr rfl) | exact .any | exact D.flat_lf rfl | exact lf_ssz _ | exact lf_pqz _ | exact lf_nl0 | exact .tup (lf_cons (lf_ssz _) (lf_cons (.val _) lf_nil)) | exact .tup (lf_cons (lf_pqz _) (lf_cons (.val _) lf_nil)) | exact .tup (lf_cons (lf_ints (.inl rfl)) (lf_cons (.val _) lf_nil)) | exact .tup (lf_cons (lf_ssz _) (lf_cons (lf_ints (.inl rfl)) (lf_cons (.val _) lf_nil))) | exact .tup (lf_cons (lf_ssz _) (lf_cons (lf_ssz _) (lf_cons (.val _) lf_nil))) | exact lf_sent) ?_
                exact AOps.nil ⟨rfl, rfl, rfl⟩) (AOps.nil ⟨rfl, rfl, rfl⟩)) ?_
      refine Walk.still (rs := [98, 100, 96]) (by rfl) (by first|simp only[nf,Nat.beq]<;>rfl|rfl) (fun base => by
          refine n_soft (u := 96) (E := .val (.bool b96)) (b96) rfl rfl rfl (by first|simp only[nf,Nat.beq]<;>rfl|rfl) (by cases b96 <;> first | (intro _; rfl) | (intro h; exact absurd h (by decide))) (by cases b96 <;> first | (intro h; exact absurd h (by decide)) | (intro _; exact ⟨_, rfl, by first | (intro h; cases h; done) | decide | simp⟩)) (fun h => by
              cases b96 with
              | false => exact absurd h (by first | decide | simp)
              | true =>
                refine n_ibin rfl (by first|simp only[nf,Nat.beq]<;>rfl|rfl) (by first|simp only[nf,Nat.beq]<;>rfl|rfl) rfl ?_
                exact AOps.nil ⟨rfl, rfl, rfl⟩) (AOps.nil ⟨rfl, rfl, rfl⟩)) ?_
      refine Walk.still (rs := [96, 101]) (by rfl) (by first|simp only[nf,Nat.beq]<;>rfl|rfl) (fun base => by
          refine n_pick_and rfl (by first|simp only[nf,Nat.beq]<;>rfl|rfl) (fun h => by cases b96 with | false => exact absurd h (by decide) | true => exact (by first|simp only[nf,Nat.beq]<;>rfl|rfl)) ?_
          exact AOps.nil ⟨rfl, rfl, rfl⟩) ?_
      refine Walk.still (rs := [102]) (by rfl) (by first|simp only[nf,Nat.beq]<;>rfl|rfl) (fun base => by
          refine n_assign rfl (by first|simp only[nf,Nat.beq]<;>rfl|rfl) ?_
          exact AOps.nil ⟨rfl, rfl, rfl⟩) ?_
      subst hb71
      subst hb76
      subst hb81
      subst hb86
      subst hb91
      subst hb96
      refine Walk.done ?_
      refine AWP.ret ?_
      refine fin_pure (.cons (rv_tmp (by first|simp only[nf,Nat.beq]<;>rfl|rfl)) .nil) (by first|simp only[nf,Nat.beq]<;>rfl|rfl) ?_
      first | exact ren_flat rfl rfl | exact ren_flat rfl (congrArg vb (by simp))
  · try simp only [nh] at hc2
    refine AWP.skip ?_
    refine AWP.seq ?_
    refine AWP.anyStill (by kernel_rfl) (by kernel_rfl) ?_
    refine Walk.still (rs := [7]) (by rfl) (by first|simp only[nf,Nat.beq]<;>rfl|rfl) (fun base => by
        refine n_move rfl (by first|simp only[nf,Nat.beq]<;>rfl|rfl) ?_
        exact AOps.nil ⟨rfl, rfl, rfl⟩) ?_
    refine Walk.still (rs := [9]) (by rfl) (by first|simp only[nf,Nat.beq]<;>rfl|rfl) (fun base => by
        refine n_move rfl (by first|simp only[nf,Nat.beq]<;>rfl|rfl) ?_
        exact AOps.nil ⟨rfl, rfl, rfl⟩) ?_
    refine Walk.still (rs := [68, 69]) (by rfl) (by first|simp only[nf,Nat.beq]<;>rfl|rfl) (fun base => by
        refine n_call0B rfl cf40 rfl (Eq.trans (by simp only [nl] <;> rfl) (by first|simp only[nf,Nat.beq]<;>rfl|rfl)) (by repeat (first | exact .nil | refine .cons ?_ ?_ | exact ren_ints | exact .lf (.val _) | exact .lf (lf_ints (.inl rfl)) | exact .bp ⟨rfl, rfl⟩ | exact .bp (.inl ⟨rfl, rfl⟩) | exact .bp (.inr ⟨rfl, rfl⟩) | exact ren_bys0 rfl | exact .lf (D.flat_lf rfl) | exact ren_lits rfl | exact .lf (lf_ssz _) | exact .lf (lf_pqz _) | exact ren_q0 rfl | exact ren_pq rfl | exact ren_nl0 | exact ren_sq | exact .lf (.fn (fun d h => by cases h) (fun d h => by cases h)))) (heq) (by first | exact .val _ | exact lf_ints (.inl rfl) | exact lf_ints (.inr rfl) | exact .any | exact D.flat_lf rfl | exact lf_ssz _ | exact lf_pqz _ | exact lf_nl0 | exact .tup (lf_cons (lf_ssz _) (lf_cons (.val _) lf_nil)) | exact .tup (lf_cons (lf_pqz _) (lf_cons (.val _) lf_nil)) | exact .tup (lf_cons (lf_ints (.inl rfl)) (lf_cons (.val _) lf_nil)) | exact .tup (lf_cons (lf_ssz _) (lf_cons (lf_ints (.inl rfl)) (lf_cons (.val _) lf_nil))) | exact .tup (lf_cons (lf_ssz _) (lf_cons (lf_ssz _) (lf_cons (.val _) lf_nil))) | exact lf_sent) ?_
        exact AOps.nil ⟨rfl, rfl, rfl⟩) ?_
    refine Walk.still (rs := [70]) (by rfl) (by first|simp only[nf,Nat.beq]<;>rfl|rfl) (fun base => by
        refine n_move rfl (by first|simp only[nf,Nat.beq]<;>rfl|rfl) ?_
        exact AOps.nil ⟨rfl, rfl, rfl⟩) ?_
    refine Walk.name (u := 71) (fun z => .val (.bool z)) (by first|simp only[nf,Nat.beq]<;>rfl|rfl) (fun b71 hb71 => ?_)
    refine Walk.still (rs := [8, 71]) (by rfl) (by first|simp only[nf,Nat.beq]<;>rfl|rfl) (fun base => by
        refine n_soft (u := 71) (E := .val (.bool b71)) (b71) rfl rfl rfl (by first|simp only[nf,Nat.beq]<;>rfl|rfl) (by cases b71 <;> first | (intro _; rfl) | (intro h; exact absurd h (by decide))) (by cases b71 <;> first | (intro h; exact absurd h (by decide)) | (intro _; exact ⟨_, rfl, by first | (intro h; cases h; done) | decide | simp⟩)) (fun h => by
            cases b71 with
            | false => exact absurd h (by first | decide | simp)
            | true =>
              refine n_move rfl (by first|simp only[nf,Nat.beq]<;>rfl|rfl) ?_
              exact AOps.nil ⟨rfl, rfl, rfl⟩) (AOps.nil ⟨rfl, rfl, rfl⟩)) ?_
    refine Walk.still (rs := [10, 71]) (by rfl) (by first|simp only[nf,Nat.beq]<;>rfl|rfl) (fun base => by
        refine n_soft (u := 71) (E := .val (.bool b71)) (b71) rfl rfl rfl (by first|simp only[nf,Nat.beq]<;>rfl|rfl) (by cases b71 <;> first | (intro _; rfl) | (intro h; exact absurd h (by decide))) (by cases b71 <;> first | (intro h; exact absurd h (by decide)) | (intro _; exact ⟨_, rfl, by first | (intro h; cases h; done) | decide | simp⟩)) (fun h => by
            cases b71 with
            | false => exact absurd h (by first | decide | simp)
            | true =>
              refine n_move rfl (by first|simp only[nf,Nat.beq]<;>rfl|rfl) ?_
              exact AOps.nil ⟨rfl, rfl, rfl⟩) (AOps.nil ⟨rfl, rfl, rfl⟩)) ?_
    refine Walk.still (rs := [72, 73, 71]) (by rfl) (by first|simp only[nf,Nat.beq]<;>rfl|rfl) (fun base => by
        refine n_soft (u := 71) (E := .val (.bool b71)) (b71) rfl rfl rfl (by first|simp only[nf,Nat.beq]<;>rfl|rfl) (by cases b71 <;> first | (intro _; rfl) | (intro h; exact absurd h (by decide))) (by cases b71 <;> first | (intro h; exact absurd h (by decide)) | (intro _; exact ⟨_, rfl, by first | (intro h; cases h; done) | decide | simp⟩)) (fun h => by
            cases b71 with
            | false => exact absurd h (by first | decide | simp)
            | true =>
              refine n_ibin rfl (by first|simp only[nf,Nat.beq]<;>rfl|rfl) (by first|simp only[nf,Nat.beq]<;>rfl|rfl) rfl ?_
              exact AOps.nil ⟨rfl, rfl, rfl⟩) (AOps.nil ⟨rfl, rfl, rfl⟩)) ?_
    refine Walk.still (rs := [71, 74]) (by rfl) (by first|simp only[nf,Nat.beq]<;>rfl|rfl) (fun base => by
        refine n_pick_and rfl (by first|simp only[nf,Nat.beq]<;>rfl|rfl) (fun h => by cases b71 with | false => exact absurd h (by decide) | true => exact (by first|simp only[nf,Nat.beq]<;>rfl|rfl)) ?_
        exact AOps.nil ⟨rfl, rfl, rfl⟩) ?_
    refine Walk.still (rs := [75]) (by rfl) (by first|simp only[nf,Nat.beq]<;>rfl|rfl) (fun base => by
        refine n_move rfl (by first|simp only[nf,Nat.beq]<;>rfl|rfl) ?_
        exact AOps.nil ⟨rfl, rfl, rfl⟩) ?_
    refine Walk.name (u := 76) (fun z => .val (.bool z)) (by first|simp only[nf,Nat.beq]<;>rfl|rfl) (fun b76 hb76 => ?_)
    refine Walk.still (rs := [11, 76]) (by rfl) (by first|simp only[nf,Nat.beq]<;>rfl|rfl) (fun base => by
        refine n_soft (u := 76) (E := .val (.bool b76)) (b76) rfl rfl rfl (by first|simp only[nf,Nat.beq]<;>rfl|rfl) (by cases b76 <;> first | (intro _; rfl) | (intro h; exact absurd h (by decide))) (by cases b76 <;> first | (intro h; exact absurd h (by decide)) | (intro _; exact ⟨_, rfl, by first | (intro h; cases h; done) | decide | simp⟩)) (fun h => by
            cases b76 with
            | false => exact absurd h (by first | decide | simp)
            | true =>
              refine n_load rfl ti157 (by first|simp only[nf,Nat.beq]<;>rfl|rfl) (by first|simp only[nf,Nat.beq]<;>rfl|rfl) rfl (by first|simp only[nf,Nat.beq]<;>rfl|rfl) ?_
              exact AOps.nil ⟨rfl, rfl, rfl⟩) (AOps.nil ⟨rfl, rfl, rfl⟩)) ?_
    refine Walk.still (rs := [13, 76]) (by rfl) (by first|simp only[nf,Nat.beq]<;>rfl|rfl) (fun base => by
        refine n_soft (u := 76) (E := .val (.bool b76)) (b76) rfl rfl rfl (by first|simp only[nf,Nat.beq]<;>rfl|rfl) (by cases b76 <;> first | (intro _; rfl) | (intro h; exact absurd h (by decide))) (by cases b76 <;> first | (intro h; exact absurd h (by decide)) | (intro _; exact ⟨_, rfl, by first | (intro h; cases h; done) | decide | simp⟩)) (fun h => by
            cases b76 with
            | false => exact absurd h (by first | decide | simp)
            | true =>
              refine n_load rfl ti157 (by first|simp only[nf,Nat.beq]<;>rfl|rfl) (by first|simp only[nf,Nat.beq]<;>rfl|rfl) rfl (by first|simp only[nf,Nat.beq]<;>rfl|rfl) ?_
              exact AOps.nil ⟨rfl, rfl, rfl⟩) (AOps.nil ⟨rfl, rfl, rfl⟩)) ?_
    refine Walk.still (rs := [77, 78, 76]) (by rfl) (by first|simp only[nf,Nat.beq]<;>rfl|rfl) (fun base => by
        refine n_soft (u := 76) (E := .val (.bool b76)) (b76) rfl rfl rfl (by first|simp only[nf,Nat.beq]<;>rfl|rfl) (by cases b76 <;> first | (intro _; rfl) | (intro h; exact absurd h (by decide))) (by cases b76 <;> first | (intro h; exact absurd h (by decide)) | (intro _; exact ⟨_, rfl, by first | (intro h; cases h; done) | decide | simp⟩)) (fun h => by
            cases b76 with
            | false => exact absurd h (by first | decide | simp)
            | true =>
              refine n_call0B rfl cf154 rfl (Eq.trans (by simp only [nl] <;> rfl) (by first|simp only[nf,Nat.beq]<;>rfl|rfl)) (by repeat (first | exact .nil | refine .cons ?_ ?_ | exact ren_ints | exact .lf (.val _) | exact .lf (lf_ints (.inl rfl)) | exact .bp ⟨rfl, rfl⟩ | exact .bp (.inl ⟨rfl, rfl⟩) | exact .bp (.inr ⟨rfl, rfl⟩) | exact ren_bys0 rfl | exact .lf (D.flat_lf rfl) | exact ren_lits rfl | exact .lf (lf_ssz _) | exact .lf (lf_pqz _) | exact ren_q0 rfl | exact ren_pq rfl | exact ren_nl0 | exact ren_sq | exact .lf (.fn (fun d h => by cases h) (fun d h => by cases h)))) (hsp) (by first | exact .val _ | exact lf_ints (.inl rfl) | exact lf_ints (.inr rfl) | exact .any | exact D.flat_lf rfl | exact lf_ssz _ | exact lf_pqz _ | exact lf_nl0 | exact .tup (lf_cons (lf_ssz _) (lf_cons (.val _) lf_nil)) | exact .tup (lf_cons (lf_pqz _) (lf_cons (.val _) lf_nil)) | exact .tup (lf_cons (lf_ints (.inl rfl)) (lf_cons (.val _) lf_nil)) | exact .tup (lf_cons (lf_ssz _) (lf_cons (lf_ints (.inl rfl)) (lf_cons (.val _) lf_nil))) | exact .tup (lf_cons (lf_ssz _) (lf_cons (lf_ssz _) (lf_cons (.val _) lf_nil))) | exact lf_sent) ?_
              exact AOps.nil ⟨rfl, rfl, rfl⟩) (AOps.nil ⟨rfl, rfl, rfl⟩)) ?_
    refine Walk.still (rs := [76, 79]) (by rfl) (by first|simp only[nf,Nat.beq]<;>rfl|rfl) (fun base => by
        refine n_pick_and rfl (by first|simp only[nf,Nat.beq]<;>rfl|rfl) (fun h => by cases b76 with | false => exact absurd h (by decide) | true => exact (by first|simp only[nf,Nat.beq]<;>rfl|rfl)) ?_
        exact AOps.nil ⟨rfl, rfl, rfl⟩) ?_
    refine Walk.still (rs := [80]) (by rfl) (by first|simp only[nf,Nat.beq]<;>rfl|rfl) (fun base => by
        refine n_move rfl (by first|simp only[nf,Nat.beq]<;>rfl|rfl) ?_
        exact AOps.nil ⟨rfl, rfl, rfl⟩) ?_
    refine Walk.name (u := 81) (fun z => .val (.bool z)) (by first|simp only[nf,Nat.beq]<;>rfl|rfl) (fun b81 hb81 => ?_)
    refine Walk.still (rs := [12, 81]) (by rfl) (by first|simp only[nf,Nat.beq]<;>rfl|rfl) (fun base => by
        refine n_soft (u := 81) (E := .val (.bool b81)) (b81) rfl rfl rfl (by first|simp only[nf,Nat.beq]<;>rfl|rfl) (by cases b81 <;> first | (intro _; rfl) | (intro h; exact absurd h (by decide))) (by cases b81 <;> first | (intro h; exact absurd h (by decide)) | (intro _; exact ⟨_, rfl, by first | (intro h; cases h; done) | decide | simp⟩)) (fun h => by
            cases b81 with
            | false => exact absurd h (by first | decide | simp)
            | true =>
              refine n_move rfl (by first|simp only[nf,Nat.beq]<;>rfl|rfl) ?_
              exact AOps.nil ⟨rfl, rfl, rfl⟩) (AOps.nil ⟨rfl, rfl, rfl⟩)) ?_
    refine Walk.still (rs := [14, 81]) (by rfl) (by first|simp only[nf,Nat.beq]<;>rfl|rfl) (fun base => by
        refine n_soft (u := 81) (E := .val (.bool b81)) (b81) rfl rfl rfl (by first|simp only[nf,Nat.beq]<;>rfl|rfl) (by cases b81 <;> first | (intro _; rfl) | (intro h; exact absurd h (by decide))) (by cases b81 <;> first | (intro h; exact absurd h (by decide)) | (intro _; exact ⟨_, rfl, by first | (intro h; cases h; done) | decide | simp⟩)) (fun h => by
            cases b81 with
            | false => exact absurd h (by first | decide | simp)
            | true =>
              refine n_move rfl (by first|simp only[nf,Nat.beq]<;>rfl|rfl) ?_
              exact AOps.nil ⟨rfl, rfl, rfl⟩) (AOps.nil ⟨rfl, rfl, rfl⟩)) ?_
    refine Walk.still (rs := [82, 83, 81]) (by rfl) (by first|simp only[nf,Nat.beq]<;>rfl|rfl) (fun base => by
        refine n_soft (u := 81) (E := .val (.bool b81)) (b81) rfl rfl rfl (by first|simp only[nf,Nat.beq]<;>rfl|rfl) (by cases b81 <;> first | (intro _; rfl) | (intro h; exact absurd h (by decide))) (by cases b81 <;> first | (intro h; exact absurd h (by decide)) | (intro _; exact ⟨_, rfl, by first | (intro h; cases h; done) | decide | simp⟩)) (fun h => by
            cases b81 with
            | false => exact absurd h (by first | decide | simp)
            | true =>
              refine n_ibin rfl (by first|simp only[nf,Nat.beq]<;>rfl|rfl) (by first|simp only[nf,Nat.beq]<;>rfl|rfl) rfl ?_
              exact AOps.nil ⟨rfl, rfl, rfl⟩) (AOps.nil ⟨rfl, rfl, rfl⟩)) ?_
    refine Walk.still (rs := [81, 84]) (by rfl) (by first|simp only[nf,Nat.beq]<;>rfl|rfl) (fun base => by
        refine n_pick_and rfl (by first|simp only[nf,Nat.beq]<;>rfl|rfl) (fun h => by cases b81 with | false => exact absurd h (by decide) | true => exact (by first|simp only[nf,Nat.beq]<;>rfl|rfl)) ?_
        exact AOps.nil ⟨rfl, rfl, rfl⟩) ?_
    refine Walk.still (rs := [85]) (by rfl) (by first|simp only[nf,Nat.beq]<;>rfl|rfl) (fun base => by
        refine n_move rfl (by first|simp only[nf,Nat.beq]<;>rfl|rfl) ?_
        exact AOps.nil ⟨rfl, rfl, rfl⟩) ?_
    refine Walk.name (u := 86) (fun z => .val (.bool z)) (by first|simp only[nf,Nat.beq]<;>rfl|rfl) (fun b86 hb86 => ?_)
    refine Walk.still (rs := [15, 86]) (by rfl) (by first|simp only[nf,Nat.beq]<;>rfl|rfl) (fun base => by
        refine n_soft (u := 86) (E := .val (.bool b86)) (b86) rfl rfl rfl (by first|simp only[nf,Nat.beq]<;>rfl|rfl) (by cases b86 <;> first | (intro _; rfl) | (intro h; exact absurd h (by decide))) (by cases b86 <;> first | (intro h; exact absurd h (by decide)) | (intro _; exact ⟨_, rfl, by first | (intro h; cases h; done) | decide | simp⟩)) (fun h => by
            cases b86 with
            | false => exact absurd h (by first | decide | simp)
            | true =>
              refine n_load rfl ti141 (by first|simp only[nf,Nat.beq]<;>rfl|rfl) (by first|simp only[nf,Nat.beq]<;>rfl|rfl) rfl (by first|simp only[nf,Nat.beq]<;>rfl|rfl) ?_
              exact AOps.nil ⟨rfl, rfl, rfl⟩) (AOps.nil ⟨rfl, rfl, rfl⟩)) ?_
    refine Walk.still (rs := [17, 86]) (by rfl) (by first|simp only[nf,Nat.beq]<;>rfl|rfl) (fun base => by
        refine n_soft (u := 86) (E := .val (.bool b86)) (b86) rfl rfl rfl (by first|simp only[nf,Nat.beq]<;>rfl|rfl) (by cases b86 <;> first | (intro _; rfl) | (intro h; exact absurd h (by decide))) (by cases b86 <;> first | (intro h; exact absurd h (by decide)) | (intro _; exact ⟨_, rfl, by first | (intro h; cases h; done) | decide | simp⟩)) (fun h => by
            cases b86 with
            | false => exact absurd h (by first | decide | simp)
            | true =>
              refine n_load rfl ti141 (by first|simp only[nf,Nat.beq]<;>rfl|rfl) (by first|simp only[nf,Nat.beq]<;>rfl|rfl) rfl (by first|simp only[nf,Nat.beq]<;>rfl|rfl) ?_
              exact AOps.nil ⟨rfl, rfl, rfl⟩) (AOps.nil ⟨rfl, rfl, rfl⟩)) ?_
    refine Walk.still (rs := [87, 88, 86]) (by rfl) (by first|simp only[nf,Nat.beq]<;>rfl|rfl) (fun base => by
        refine n_soft (u := 86) (E := .val (.bool b86)) (b86) rfl rfl rfl (by first|simp only[nf,Nat.beq]<;>rfl|rfl) (by cases b86 <;> first | (intro _; rfl) | (intro h; exact absurd h (by decide))) (by cases b86 <;> first | (intro h; exact absurd h (by decide)) | (intro _; exact ⟨_, rfl, by first | (intro h; cases h; done) | decide | simp⟩)) (fun h => by
            cases b86 with
            | false => exact absurd h (by first | decide | simp)
            | true =>
              refine n_call0B rfl cf155 rfl (Eq.trans (by simp only [nl] <;> rfl) (by first|simp only[nf,Nat.beq]<;>rfl|rfl)) (by repeat (first | exact .nil | refine .cons ?_ ?_ | exact ren_ints | exact .lf (.val _) | exact .lf (lf_ints (.inl rfl)) | exact .bp ⟨rfl, rfl⟩ | exact .bp (.inl ⟨rfl, rfl⟩) | exact .bp (.inr ⟨rfl, rfl⟩) | exact ren_bys0 rfl | exact .lf (D.flat_lf rfl) | exact ren_lits rfl | exact .lf (lf_ssz _) | exact .lf (lf_pqz _) | exact ren_q0 rfl | exact ren_pq rfl | exact ren_nl0 | exact ren_sq | exact .lf (.fn (fun d h => by cases h) (fun d h => by cases h)))) (r_same0 _) (by first | exact .val _ | exact lf_ints (.inl rfl) | exact lf_ints (.inr rfl) | exact .any | exact D.flat_lf rfl | exact lf_ssz _ | exact lf_pqz _ | exact lf_nl0 | exact .tup (lf_cons (lf_ssz _) (lf_cons (.val _) lf_nil)) | exact .tup (lf_cons (lf_pqz _) (lf_cons (.val _) lf_nil)) | exact .tup (lf_cons (lf_ints (.inl rfl)) (lf_cons (.val _) lf_nil)) | exact .tup (lf_cons (lf_ssz _) (lf_cons (lf_ints (.inl rfl)) (lf_cons (.val _) lf_nil))) | exact .tup (lf_cons (lf_ssz _) (lf_cons (lf_ssz _) (lf_cons (.val _) lf_nil))) | exact lf_sent) ?_
              exact AOps.nil ⟨rfl, rfl, rfl⟩) (AOps.nil ⟨rfl, rfl, rfl⟩)) ?_
    refine Walk.still (rs := [86, 89]) (by rfl) (by first|simp only[nf,Nat.beq]<;>rfl|rfl) (fun base => by
        refine n_pick_and rfl (by first|simp only[nf,Nat.beq]<;>rfl|rfl) (fun h => by cases b86 with | false => exact absurd h (by decide) | true => exact (by first|simp only[nf,Nat.beq]<;>rfl|rfl)) ?_
        exact AOps.nil ⟨rfl, rfl, rfl⟩) ?_
    refine Walk.still (rs := [90]) (by rfl) (by first|simp only[nf,Nat.beq]<;>rfl|rfl) (fun base => by
        refine n_move rfl (by first|simp only[nf,Nat.beq]<;>rfl|rfl) ?_
        exact AOps.nil ⟨rfl, rfl, rfl⟩) ?_
    refine Walk.name (u := 91) (fun z => .val (.bool z)) (by first|simp only[nf,Nat.beq]<;>rfl|rfl) (fun b91 hb91 => ?_)
    refine Walk.still (rs := [16, 91]) (by rfl) (by first|simp only[nf,Nat.beq]<;>rfl|rfl) (fun base => by
        refine n_soft (u := 91) (E := .val (.bool b91)) (b91) rfl rfl rfl (by first|simp only[nf,Nat.beq]<;>rfl|rfl) (by cases b91 <;> first | (intro _; rfl) | (intro h; exact absurd h (by decide))) (by cases b91 <;> first | (intro h; exact absurd h (by decide)) | (intro _; exact ⟨_, rfl, by first | (intro h; cases h; done) | decide | simp⟩)) (fun h => by
            cases b91 with
            | false => exact absurd h (by first | decide | simp)
            | true =>
              refine n_move rfl (by first|simp only[nf,Nat.beq]<;>rfl|rfl) ?_
              exact AOps.nil ⟨rfl, rfl, rfl⟩) (AOps.nil ⟨rfl, rfl, rfl⟩)) ?_
    refine Walk.still (rs := [18, 91]) (by rfl) (by first|simp only[nf,Nat.beq]<;>rfl|rfl) (fun base => by
        refine n_soft (u := 91) (E := .val (.bool b91)) (b91) rfl rfl rfl (by first|simp only[nf,Nat.beq]<;>rfl|rfl) (by cases b91 <;> first | (intro _; rfl) | (intro h; exact absurd h (by decide))) (by cases b91 <;> first | (intro h; exact absurd h (by decide)) | (intro _; exact ⟨_, rfl, by first | (intro h; cases h; done) | decide | simp⟩)) (fun h => by
            cases b91 with
            | false => exact absurd h (by first | decide | simp)
            | true =>
              refine n_move rfl (by first|simp only[nf,Nat.beq]<;>rfl|rfl) ?_
              exact AOps.nil ⟨rfl, rfl, rfl⟩) (AOps.nil ⟨rfl, rfl, rfl⟩)) ?_
    refine Walk.still (rs := [92, 93, 91]) (by rfl) (by first|simp only[nf,Nat.beq]<;>rfl|rfl) (fun base => by
        refine n_soft (u := 91) (E := .val (.bool b91)) (b91) rfl rfl rfl (by first|simp only[nf,Nat.beq]<;>rfl|rfl) (by cases b91 <;> first | (intro _; rfl) | (intro h; exact absurd h (by decide))) (by cases b91 <;> first | (intro h; exact absurd h (by decide)) | (intro _; exact ⟨_, rfl, by first | (intro h; cases h; done) | decide | simp⟩)) (fun h => by
            cases b91 with
            | false => exact absurd h (by first | decide | simp)
            | true =>
              refine n_ibin rfl (by first|simp only[nf,Nat.beq]<;>rfl|rfl) (by first|simp only[nf,Nat.beq]<;>rfl|rfl) rfl ?_
              exact AOps.nil ⟨rfl, rfl, rfl⟩) (AOps.nil ⟨rfl, rfl, rfl⟩)) ?_
    refine Walk.still (rs := [91, 94]) (by rfl) (by first|simp only[nf,Nat.beq]<;>rfl|rfl) (fun base => by
        refine n_pick_and rfl (by first|simp only[nf,Nat.beq]<;>rfl|rfl) (fun h => by cases b91 with | false => exact absurd h (by decide) | true => exact (by first|simp only[nf,Nat.beq]<;>rfl|rfl)) ?_
        exact AOps.nil ⟨rfl, rfl, rfl⟩) ?_
    refine Walk.still (rs := [95]) (by rfl) (by first|simp only[nf,Nat.beq]<;>rfl|rfl) (fun base => by
        refine n_move rfl (by first|simp only[nf,Nat.beq]<;>rfl|rfl) ?_
        exact AOps.nil ⟨rfl, rfl, rfl⟩) ?_
    refine Walk.name (u := 96) (fun z => .val (.bool z)) (by first|simp only[nf,Nat.beq]<;>rfl|rfl) (fun b96 hb96 => ?_)
    refine Walk.still (rs := [3, 96]) (by rfl) (by first|simp only[nf,Nat.beq]<;>rfl|rfl) (fun base => by
        refine n_soft (u := 96) (E := .val (.bool b96)) (b96) rfl rfl rfl (by first|simp only[nf,Nat.beq]<;>rfl|rfl) (by cases b96 <;> first | (intro _; rfl) | (intro h; exact absurd h (by decide))) (by cases b96 <;> first | (intro h; exact absurd h (by decide)) | (intro _; exact ⟨_, rfl, by first | (intro h; cases h; done) | decide | simp⟩)) (fun h => by
            cases b96 with
            | false => exact absurd h (by first | decide | simp)
            | true =>
              refine n_load rfl ti157 (by first|simp only[nf,Nat.beq]<;>rfl|rfl) (by first|simp only[nf,Nat.beq]<;>rfl|rfl) rfl (by first|simp only[nf,Nat.beq]<;>rfl|rfl) ?_
              exact AOps.nil ⟨rfl, rfl, rfl⟩) (AOps.nil ⟨rfl, rfl, rfl⟩)) ?_
    refine Walk.still (rs := [97, 96]) (by rfl) (by first|simp only[nf,Nat.beq]<;>rfl|rfl) (fun base => by
        refine n_soft (u := 96) (E := .val (.bool b96)) (b96) rfl rfl rfl (by first|simp only[nf,Nat.beq]<;>rfl|rfl) (by cases b96 <;> first | (intro _; rfl) | (intro h; exact absurd h (by decide))) (by cases b96 <;> first | (intro h; exact absurd h (by decide)) | (intro _; exact ⟨_, rfl, by first | (intro h; cases h; done) | decide | simp⟩)) (fun h => by
            cases b96 with
            | false => exact absurd h (by first | decide | simp)
            | true =>
              refine n_call0B rfl cf156 rfl (Eq.trans (by simp only [nl] <;> rfl) (by first|simp only[nf,Nat.beq]<;>rfl|rfl)) (by repeat (first | exact .nil | refine .cons ?_ ?_ | exact ren_ints | exact .lf (.val _) | exact .lf (lf_ints (.inl rfl)) | exact .bp ⟨rfl, rfl⟩ | exact .bp (.inl ⟨rfl, rfl⟩) | exact .bp (.inr ⟨rfl, rfl⟩) | exact ren_bys0 rfl | exact .lf (D.flat_lf rfl) | exact ren_lits rfl | exact .lf (lf_ssz _) | exact .lf (lf_pqz _) | exact ren_q0 rfl | exact ren_pq rfl | exact ren_nl0 | exact ren_sq | exact .lf (.fn (fun d h => by cases h) (fun d h => by cases h)))) (l_cp x hl) (by first | exact .val _ | exact lf_ints (.inl rfl) | exact lf_ints (.inr rfl) | exact .any | exact D.flat_lf rfl | exact lf_ssz _ | exact lf_pqz _ | exact lf_nl0 | exact .tup (lf_cons (lf_ssz _) (lf_cons (.val _) lf_nil)) | exact .tup (lf_cons (lf_pqz _) (lf_cons (.val _) lf_nil)) | exact .tup (lf_cons (lf_ints (.inl rfl)) (lf_cons (.val _) lf_nil)) | exact .tup (lf_cons (lf_ssz _) (lf_cons (lf_ints (.inl rfl)) (lf_cons (.val _) lf_nil))) | exact .tup (lf_cons (lf_ssz _) (lf_cons (lf_ssz _) (lf_cons (.val _) lf_nil))) | exact lf_sent) ?_
              exact AOps.nil ⟨rfl, rfl, rfl⟩) (AOps.nil ⟨rfl, rfl, rfl⟩)) ?_
    refine Walk.still (rs := [3, 96]) (by rfl) (by first|simp only[nf,Nat.beq]<;>rfl|rfl) (fun base => by
        refine n_soft (u := 96) (E := .val (.bool b96)) (b96) rfl rfl rfl (by first|simp only[nf,Nat.beq]<;>rfl|rfl) (by cases b96 <;> first | (intro _; rfl) | (intro h; exact absurd h (by decide))) (by cases b96 <;> first | (intro h; exact absurd h (by decide)) | (intro _; exact ⟨_, rfl, by first | (intro h; cases h; done) | decide | simp⟩)) (fun h => by
            cases b96 with
            | false => exact absurd h (by first | decide | simp)
            | true =>
              refine n_load rfl ti157 (by first|simp only[nf,Nat.beq]<;>rfl|rfl) (by first|simp only[nf,Nat.beq]<;>rfl|rfl) rfl (by first|simp only[nf,Nat.beq]<;>rfl|rfl) ?_
              exact AOps.nil ⟨rfl, rfl, rfl⟩) (AOps.nil ⟨rfl, rfl, rfl⟩)) ?_
    refine Walk.still (rs := [99, 96]) (by rfl) (by first|simp only[nf,Nat.beq]<;>rfl|rfl) (fun base => by
        refine n_soft (u := 96) (E := .val (.bool b96)) (b96) rfl rfl rfl (by first|simp only[nf,Nat.beq]<;>rfl|rfl) (by cases b96 <;> first | (intro _; rfl) | (intro h; exact absurd h (by decide))) (by cases b96 <;> first | (intro h; exact absurd h (by decide)) | (intro _; exact ⟨_, rfl, by first | (intro h; cases h; done) | decide | simp⟩)) (fun h => by
            cases b96 with
            | false => exact absurd h (by first | decide | simp)
            | true =>
              refine n_call0B rfl cf157 rfl (Eq.trans (by simp only [nl] <;> rfl) (by first|simp only[nf,Nat.beq]<;>rfl|rfl)) (by repeat (first | exact .nil | refine .cons ?_ ?_ | exact ren_ints | exact .lf (.val _) | exact .lf (lf_ints (.inl rfl)) | exact .bp ⟨rfl, rfl⟩ | exact .bp (.inl ⟨rfl, rfl⟩) | exact .bp (.inr ⟨rfl, rfl⟩) | exact ren_bys0 rfl | exact .lf (D.flat_lf rfl) | exact ren_lits rfl | exact .lf (lf_ssz _) | exact .lf (lf_pqz _) | exact ren_q0 rfl | exact ren_pq rfl | exact ren_nl0 | exact ren_sq | exact .lf (.fn (fun d h => by cases h) (fun d h => by cases h)))) (r_cp x hl) (by first | exact .val _ | exact lf_ints (.inl rfl) | exact lf_ints (.inr rfl) | exact .any | exact D.flat_lf rfl | exact lf_ssz _ | exact lf_pqz _ | exact lf_nl0 | exact .tup (lf_cons (lf_ssz _) (lf_cons (.val _) lf_nil)) | exact .tup (lf_cons (lf_pqz _) (lf_cons (.val _) lf_nil)) | exact .tup (lf_cons (lf_ints (.inl rfl)) (lf_cons (.val _) lf_nil)) | exact .tup (lf_cons (lf_ssz _) (lf_cons (lf_ints (.inl rfl)) (lf_cons (.val _) lf_nil))) | exact .tup (lf_cons (lf_ssz _) (lf_cons (lf_ssz _) (lf_cons (.val _) lf_nil))) | exact lf_sent) ?_
              exact AOps.nil ⟨rfl, rfl, rfl⟩) (AOps.nil ⟨rfl, rfl, rfl⟩)) ?_
    refine Walk.still (rs := [98, 100, 96]) (by rfl) (by first|simp only[nf,Nat.beq]<;>rfl|rfl) (fun base => by
        refine n_soft (u := 96) (E := .val (.bool b96)) (b96) rfl rfl rfl (by first|simp only[nf,Nat.beq]<;>rfl|rfl) (by cases b96 <;> first | (intro _; rfl) | (intro h; exact absurd h (by decide))) (by cases b96 <;> first | (intro h; exact absurd h (by decide)) | (intro _; exact ⟨_, rfl, by first | (intro h; cases h; done) | decide | simp⟩)) (fun h => by
            cases b96 with
            | false => exact absurd h (by first | decide | simp)
            | true =>
              refine n_ibin rfl (by first|simp only[nf,Nat.beq]<;>rfl|rfl) (by first|simp only[nf,Nat.beq]<;>rfl|rfl) rfl ?_
              exact AOps.nil ⟨rfl, rfl, rfl⟩) (AOps.nil ⟨rfl, rfl, rfl⟩)) ?_
    refine Walk.still (rs := [96, 101]) (by rfl) (by first|simp only[nf,Nat.beq]<;>rfl|rfl) (fun base => by
        refine n_pick_and rfl (by first|simp only[nf,Nat.beq]<;>rfl|rfl) (fun h => by cases b96 with | false => exact absurd h (by decide) | true => exact (by first|simp only[nf,Nat.beq]<;>rfl|rfl)) ?_
        exact AOps.nil ⟨rfl, rfl, rfl⟩) ?_
    refine Walk.still (rs := [102]) (by rfl) (by first|simp only[nf,Nat.beq]<;>rfl|rfl) (fun base => by
        refine n_assign rfl (by first|simp only[nf,Nat.beq]<;>rfl|rfl) ?_
        exact AOps.nil ⟨rfl, rfl, rfl⟩) ?_
    subst hb71
    subst hb76
    subst hb81
    subst hb86
    subst hb91
    subst hb96
    refine Walk.done ?_
    refine AWP.ret ?_
    refine fin_pure (.cons (rv_tmp (by first|simp only[nf,Nat.beq]<;>rfl|rfl)) .nil) (by first|simp only[nf,Nat.beq]<;>rfl|rfl) ?_
    first | exact ren_flat rfl rfl | exact ren_flat rfl (congrArg vb (by simp))

end Go.Proofs.Ytanfmpkjcoolmaa.Sc
