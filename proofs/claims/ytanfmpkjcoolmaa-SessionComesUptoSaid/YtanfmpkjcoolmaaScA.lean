/- The bytes of packets. -/
import Derived.Test.YtanfmpkjcoolmaaSbA
import Derived.Test.YtanfmpkjcoolmaaAbsZm
set_option linter.unusedVariables false
set_option linter.unusedSimpArgs false
namespace Go.Proofs.Ytanfmpkjcoolmaa.Sc
open Go Go.Abs Go.Proofs.Ytanfmpkjcoolmaa.Pk Sb
attribute [local irreducible] AWP AOps Does

theorem nrScA0 {α : Type} {a b : α} (h : a = b := by first|simp only[nf,Nat.beq]<;>rfl|rfl) : a = b := h
theorem lfScA0 {d : D} (h : LF d := by first | exact .val _ | exact lf_ints (.inl rfl) | exact lf_ints (.inr rfl) | exact .any | exact D.flat_lf rfl | exact lf_ssz _ | exact lf_pqz _ | exact lf_nl0 | exact .tup (lf_cons (lf_ssz _) (lf_cons (.val _) lf_nil)) | exact .tup (lf_cons (lf_pqz _) (lf_cons (.val _) lf_nil)) | exact .tup (lf_cons (lf_ints (.inl rfl)) (lf_cons (.val _) lf_nil)) | exact .tup (lf_cons (lf_ssz _) (lf_cons (lf_ints (.inl rfl)) (lf_cons (.val _) lf_nil))) | exact .tup (lf_cons (lf_ssz _) (lf_cons (lf_ssz _) (lf_cons (.val _) lf_nil))) | exact lf_sent) : LF d := h
theorem cf108 : CF Try.prog 108 := ⟨_, Try.func108, by kernel_rfl, by kernel_rfl⟩
theorem cf109 : CF Try.prog 109 := ⟨_, Try.func109, by kernel_rfl, by kernel_rfl⟩
theorem cf112 : CF Try.prog 112 := ⟨_, Try.func112, by kernel_rfl, by kernel_rfl⟩
theorem cf114 : CF Try.prog 114 := ⟨_, Try.func114, by kernel_rfl, by kernel_rfl⟩
theorem cf156 : CF Try.prog 156 := ⟨_, Try.func156, by kernel_rfl, by kernel_rfl⟩
theorem cf198 : CF Try.prog 198 := ⟨_, Try.func198, by kernel_rfl, by kernel_rfl⟩
theorem cf208 : CF Try.prog 208 := ⟨_, Try.func208, by kernel_rfl, by kernel_rfl⟩
theorem cf209 : CF Try.prog 209 := ⟨_, Try.func209, by kernel_rfl, by kernel_rfl⟩
theorem cf40 : CF Try.prog 40 := ⟨_, Try.func40, by kernel_rfl, by kernel_rfl⟩
theorem cf75 : CF Try.prog 75 := ⟨_, Try.func75, by kernel_rfl, by kernel_rfl⟩
theorem cf76 : CF Try.prog 76 := ⟨_, Try.func76, by kernel_rfl, by kernel_rfl⟩
theorem cf85 : CF Try.prog 85 := ⟨_, Try.func85, by kernel_rfl, by kernel_rfl⟩
theorem ei5 : EI Try.prog 5 1 1 (.int .u8 0) := EI.of (by kernel_rfl) rfl rfl
theorem fd141_0 : FD Try.prog 141 0 2 0 := ⟨_, _, Try.underlying141, rfl, rfl, rfl⟩
theorem fd141_1 : FD Try.prog 141 1 2 1 := ⟨_, _, Try.underlying141, rfl, rfl, rfl⟩
theorem fd141_2 : FD Try.prog 141 2 2 2 := ⟨_, _, Try.underlying141, rfl, rfl, rfl⟩
theorem fd141_3 : FD Try.prog 141 3 2 3 := ⟨_, _, Try.underlying141, rfl, rfl, rfl⟩
theorem fd141_4 : FD Try.prog 141 4 2 4 := ⟨_, _, Try.underlying141, rfl, rfl, rfl⟩
theorem fd141_5 : FD Try.prog 141 5 139 5 := ⟨_, _, Try.underlying141, rfl, rfl, rfl⟩
theorem fd157_0 : FD Try.prog 157 0 2 0 := ⟨_, _, Try.underlying157, rfl, rfl, rfl⟩
theorem fd157_1 : FD Try.prog 157 1 2 1 := ⟨_, _, Try.underlying157, rfl, rfl, rfl⟩
theorem fd157_2 : FD Try.prog 157 2 2 2 := ⟨_, _, Try.underlying157, rfl, rfl, rfl⟩
theorem fd157_3 : FD Try.prog 157 3 2 3 := ⟨_, _, Try.underlying157, rfl, rfl, rfl⟩
theorem fd157_4 : FD Try.prog 157 4 22 4 := ⟨_, _, Try.underlying157, rfl, rfl, rfl⟩
theorem si157 : SI Try.prog 157 #[(0, 1), (1, 1), (2, 1), (3, 1), (4, 1)] (.agg #[.int .i64 0, .int .i64 0, .int .i64 0, .int .i64 0, .slice none 0 0]) := ⟨⟨_, Try.underlying157, fun w => by kernel_rfl⟩, by kernel_rfl⟩
theorem ti139 : TI Try.prog 139 1 false := ⟨by kernel_rfl, by kernel_rfl⟩
theorem ti141 : TI Try.prog 141 6 true := ⟨by kernel_rfl, by kernel_rfl⟩
theorem ti157 : TI Try.prog 157 5 true := ⟨by kernel_rfl, by kernel_rfl⟩
theorem ti2 : TI Try.prog 2 1 false := ⟨by kernel_rfl, by kernel_rfl⟩
theorem ti22 : TI Try.prog 22 1 false := ⟨by kernel_rfl, by kernel_rfl⟩
theorem zi141 : (Try.prog.info? 141).map (·.zero) = some (some (.agg #[.int .i64 0, .int .i64 0, .int .i64 0, .int .i64 0, .int .i64 0, .slice none 0 0])) := by kernel_rfl
theorem zi157 : (Try.prog.info? 157).map (·.zero) = some (some (.agg #[.int .i64 0, .int .i64 0, .int .i64 0, .int .i64 0, .slice none 0 0])) := by kernel_rfl
theorem zi2 : (Try.prog.info? 2).map (·.zero) = some (some (.int .i64 0)) := by kernel_rfl
attribute [local irreducible] Up.int Up.str Up.close Up.rest Up.clr Up.spoil Up.w Up.flag Ss.chk Pq.chk Ss.take Ss.answer Pq.bytes Pq.parse
set_option maxHeartbeats 2000000 in
theorem pair : Does Try.prog 109 [] [] (.tup [.agg (ssz ⟨5, 7, 0, 0, 1⟩), .agg (ssz ⟨7, 5, 0, 0, 1⟩), vb true]) [] := by
  refine Does.of_body (rvs := [.cell 0 141, .cell 1 141, .tmp 2]) Try.func109 rfl rfl rfl rfl ?_
  obtain ⟨⟨n5, n7⟩, ⟨a1, t1⟩, ⟨a2, t2⟩, _, _⟩ := live_facts
  have h5 := l_new 5
  rw [n5, if_pos (by decide)] at h5
  have h7 := l_new 7
  rw [n7, if_pos (by decide)] at h7
  have k1 := l_answer ⟨5, 0, 0, 0, 1⟩
  rw [a1] at k1
  have k2 := l_take ⟨7, 0, 0, 0, 1⟩ ⟨5, 0, 0, 0, []⟩ (by simp [L40])
  rw [t1] at k2
  have k3 := l_answer ⟨7, 5, 0, 0, 1⟩
  rw [a2] at k3
  have k4 := l_take ⟨5, 0, 0, 0, 1⟩ ⟨7, 5, 0, 0, []⟩ (by simp [L40])
  rw [t2] at k4
  refine AWP.seq ?_
  refine AWP.region ?_
  refine n_alloc rfl zi141 rfl nrScA0 nrScA0 ?_
  refine n_alloc rfl zi141 rfl nrScA0 nrScA0 ?_
  refine n_assign rfl nrScA0 ?_
  refine AOps.nil ?_
  refine AWP.seq ?_
  refine AWP.region ?_
  refine n_call0B rfl cf114 rfl (Eq.trans (by simp only [nl] <;> rfl) nrScA0) (by repeat (first | exact .nil | refine .cons ?_ ?_ | exact ren_ints | exact .lf (.val _) | exact .lf (lf_ints (.inl rfl)) | exact .bp ⟨rfl, rfl⟩ | exact .bp (.inl ⟨rfl, rfl⟩) | exact .bp (.inr ⟨rfl, rfl⟩) | exact ren_bys0 rfl | exact .lf (D.flat_lf rfl) | exact ren_lits rfl | exact .lf (lf_ssz _) | exact .lf (lf_pqz _) | exact ren_q0 rfl | exact ren_pq rfl | exact ren_nl0 | exact ren_sq | exact .lf (.fn (fun d h => by cases h) (fun d h => by cases h)))) (h5) lfScA0 ?_
  refine n_move rfl nrScA0 ?_
  refine n_extract rfl nrScA0 rfl ?_
  refine n_extract rfl nrScA0 rfl ?_
  refine n_alloc rfl zi141 rfl nrScA0 nrScA0 ?_
  refine n_store ti141 nrScA0 rfl nrScA0 rfl nrScA0 rfl rfl rfl nrScA0 ?_
  refine n_assign rfl nrScA0 ?_
  refine AOps.nil ?_
  refine AWP.seq ?_
  refine AWP.region ?_
  refine n_call0B rfl cf114 rfl (Eq.trans (by simp only [nl] <;> rfl) nrScA0) (by repeat (first | exact .nil | refine .cons ?_ ?_ | exact ren_ints | exact .lf (.val _) | exact .lf (lf_ints (.inl rfl)) | exact .bp ⟨rfl, rfl⟩ | exact .bp (.inl ⟨rfl, rfl⟩) | exact .bp (.inr ⟨rfl, rfl⟩) | exact ren_bys0 rfl | exact .lf (D.flat_lf rfl) | exact ren_lits rfl | exact .lf (lf_ssz _) | exact .lf (lf_pqz _) | exact ren_q0 rfl | exact ren_pq rfl | exact ren_nl0 | exact ren_sq | exact .lf (.fn (fun d h => by cases h) (fun d h => by cases h)))) (h7) lfScA0 ?_
  refine n_move rfl nrScA0 ?_
  refine n_extract rfl nrScA0 rfl ?_
  refine n_extract rfl nrScA0 rfl ?_
  refine n_alloc rfl zi141 rfl nrScA0 nrScA0 ?_
  refine n_store ti141 nrScA0 rfl nrScA0 rfl nrScA0 rfl rfl rfl nrScA0 ?_
  refine n_assign rfl nrScA0 ?_
  refine AOps.nil ?_
  refine AWP.seq ?_
  refine AWP.any1 8 [.box [vi 0, vi 0, vi 0, vi 0, vi 0, .sl (some true) [] .full], .box [vi 0, vi 0, vi 0, vi 0, vi 0, .sl (some true) [] .full], .box [vi 5, vi 0, vi 0, vi 0, vi 1, .sl none [] .ro], .box [vi 7, vi 5, vi 0, vi 0, vi 1, .sl none [] .ro]] (by kernel_rfl) (by kernel_rfl) (by kernel_rfl) ?_
  refine Walk.ahead [8] (by rfl) (by kernel_rfl) (by rfl) (rs := [5]) (by rfl) nrScA0 (fun base => by
      refine n_load rfl ti141 nrScA0 nrScA0 rfl nrScA0 ?_
      exact AOps.nil ⟨rfl, rfl, rfl⟩) ?_
  refine Walk.ahead [8] (by rfl) (by kernel_rfl) (by rfl) (rs := [3]) (by rfl) nrScA0 (fun base => by
      refine n_load rfl ti141 nrScA0 nrScA0 rfl nrScA0 ?_
      exact AOps.nil ⟨rfl, rfl, rfl⟩) ?_
  refine Walk.ahead [8] (by rfl) (by kernel_rfl) (by rfl) (rs := [17]) (by rfl) nrScA0 (fun base => by
      refine n_call0B rfl cf112 rfl (Eq.trans (by simp only [nl] <;> rfl) nrScA0) (by repeat (first | exact .nil | refine .cons ?_ ?_ | exact ren_ints | exact .lf (.val _) | exact .lf (lf_ints (.inl rfl)) | exact .bp ⟨rfl, rfl⟩ | exact .bp (.inl ⟨rfl, rfl⟩) | exact .bp (.inr ⟨rfl, rfl⟩) | exact ren_bys0 rfl | exact .lf (D.flat_lf rfl) | exact ren_lits rfl | exact .lf (lf_ssz _) | exact .lf (lf_pqz _) | exact ren_q0 rfl | exact ren_pq rfl | exact ren_nl0 | exact ren_sq | exact .lf (.fn (fun d h => by cases h) (fun d h => by cases h)))) (k1) lfScA0 ?_
      exact AOps.nil ⟨rfl, rfl, rfl⟩) ?_
  refine Walk.ahead [8] (by rfl) (by kernel_rfl) (by rfl) (rs := [16, 18]) (by rfl) nrScA0 (fun base => by
      refine n_call0B rfl cf209 rfl (Eq.trans (by simp only [nl] <;> rfl) nrScA0) (by repeat (first | exact .nil | refine .cons ?_ ?_ | exact ren_ints | exact .lf (.val _) | exact .lf (lf_ints (.inl rfl)) | exact .bp ⟨rfl, rfl⟩ | exact .bp (.inl ⟨rfl, rfl⟩) | exact .bp (.inr ⟨rfl, rfl⟩) | exact ren_bys0 rfl | exact .lf (D.flat_lf rfl) | exact ren_lits rfl | exact .lf (lf_ssz _) | exact .lf (lf_pqz _) | exact ren_q0 rfl | exact ren_pq rfl | exact ren_nl0 | exact ren_sq | exact .lf (.fn (fun d h => by cases h) (fun d h => by cases h)))) (k2) lfScA0 ?_
      exact AOps.nil ⟨rfl, rfl, rfl⟩) ?_
  refine Walk.ahead [8] (by rfl) (by kernel_rfl) (by rfl) (rs := [19]) (by rfl) nrScA0 (fun base => by
      refine n_move rfl nrScA0 ?_
      exact AOps.nil ⟨rfl, rfl, rfl⟩) ?_
  refine Walk.ahead [8] (by rfl) (by kernel_rfl) (by rfl) (rs := [15]) (by rfl) nrScA0 (fun base => by
      refine n_extract rfl nrScA0 rfl ?_
      exact AOps.nil ⟨rfl, rfl, rfl⟩) ?_
  refine Walk.both (by rfl) (rs := [15]) (by rfl) nrScA0 (fun base S' hS' => by
      rcases hS' with rfl | rfl
      all_goals
        refine n_extract rfl nrScA0 rfl ?_
        exact AOps.nil ⟨rfl, rfl, rfl⟩) ?_
  refine Walk.both (by rfl) (rs := [15]) (by rfl) nrScA0 (fun base S' hS' => by
      rcases hS' with rfl | rfl
      all_goals
        refine n_extract rfl nrScA0 rfl ?_
        exact AOps.nil ⟨rfl, rfl, rfl⟩) ?_
  refine Walk.writes (d := .any) (by rfl) (rs := [5, 20]) (by rfl) nrScA0 (fun base => by
      refine n_store ti141 nrScA0 rfl nrScA0 rfl nrScA0 rfl rfl rfl nrScA0 ?_
      exact AOps.nil ⟨rfl, rfl, rfl⟩) ?_
  refine Walk.done ?_
  refine AWP.seq ?_
  refine AWP.any1 8 [.box [vi 0, vi 0, vi 0, vi 0, vi 0, .sl (some true) [] .full], .box [vi 0, vi 0, vi 0, vi 0, vi 0, .sl (some true) [] .full], .box [vi 5, vi 7, vi 0, vi 0, vi 1, .sl none [] .ro], .box [vi 7, vi 5, vi 0, vi 0, vi 1, .sl none [] .ro]] (by kernel_rfl) (by kernel_rfl) (by kernel_rfl) ?_
  refine Walk.ahead [8] (by rfl) (by kernel_rfl) (by rfl) (rs := [3]) (by rfl) nrScA0 (fun base => by
      refine n_load rfl ti141 nrScA0 nrScA0 rfl nrScA0 ?_
      exact AOps.nil ⟨rfl, rfl, rfl⟩) ?_
  refine Walk.ahead [8] (by rfl) (by kernel_rfl) (by rfl) (rs := [5]) (by rfl) nrScA0 (fun base => by
      refine n_load rfl ti141 nrScA0 nrScA0 rfl nrScA0 ?_
      exact AOps.nil ⟨rfl, rfl, rfl⟩) ?_
  refine Walk.ahead [8] (by rfl) (by kernel_rfl) (by rfl) (rs := [25]) (by rfl) nrScA0 (fun base => by
      refine n_call0B rfl cf112 rfl (Eq.trans (by simp only [nl] <;> rfl) nrScA0) (by repeat (first | exact .nil | refine .cons ?_ ?_ | exact ren_ints | exact .lf (.val _) | exact .lf (lf_ints (.inl rfl)) | exact .bp ⟨rfl, rfl⟩ | exact .bp (.inl ⟨rfl, rfl⟩) | exact .bp (.inr ⟨rfl, rfl⟩) | exact ren_bys0 rfl | exact .lf (D.flat_lf rfl) | exact ren_lits rfl | exact .lf (lf_ssz _) | exact .lf (lf_pqz _) | exact ren_q0 rfl | exact ren_pq rfl | exact ren_nl0 | exact ren_sq | exact .lf (.fn (fun d h => by cases h) (fun d h => by cases h)))) (k3) lfScA0 ?_
      exact AOps.nil ⟨rfl, rfl, rfl⟩) ?_
  refine Walk.ahead [8] (by rfl) (by kernel_rfl) (by rfl) (rs := [24, 26]) (by rfl) nrScA0 (fun base => by
      refine n_call0B rfl cf209 rfl (Eq.trans (by simp only [nl] <;> rfl) nrScA0) (by repeat (first | exact .nil | refine .cons ?_ ?_ | exact ren_ints | exact .lf (.val _) | exact .lf (lf_ints (.inl rfl)) | exact .bp ⟨rfl, rfl⟩ | exact .bp (.inl ⟨rfl, rfl⟩) | exact .bp (.inr ⟨rfl, rfl⟩) | exact ren_bys0 rfl | exact .lf (D.flat_lf rfl) | exact ren_lits rfl | exact .lf (lf_ssz _) | exact .lf (lf_pqz _) | exact ren_q0 rfl | exact ren_pq rfl | exact ren_nl0 | exact ren_sq | exact .lf (.fn (fun d h => by cases h) (fun d h => by cases h)))) (k4) lfScA0 ?_
      exact AOps.nil ⟨rfl, rfl, rfl⟩) ?_
  refine Walk.ahead [8] (by rfl) (by kernel_rfl) (by rfl) (rs := [27]) (by rfl) nrScA0 (fun base => by
      refine n_move rfl nrScA0 ?_
      exact AOps.nil ⟨rfl, rfl, rfl⟩) ?_
  refine Walk.ahead [8] (by rfl) (by kernel_rfl) (by rfl) (rs := [23]) (by rfl) nrScA0 (fun base => by
      refine n_extract rfl nrScA0 rfl ?_
      exact AOps.nil ⟨rfl, rfl, rfl⟩) ?_
  refine Walk.both (by rfl) (rs := [23]) (by rfl) nrScA0 (fun base S' hS' => by
      rcases hS' with rfl | rfl
      all_goals
        refine n_extract rfl nrScA0 rfl ?_
        exact AOps.nil ⟨rfl, rfl, rfl⟩) ?_
  refine Walk.both (by rfl) (rs := [23]) (by rfl) nrScA0 (fun base S' hS' => by
      rcases hS' with rfl | rfl
      all_goals
        refine n_extract rfl nrScA0 rfl ?_
        exact AOps.nil ⟨rfl, rfl, rfl⟩) ?_
  refine Walk.writes (d := .any) (by rfl) (rs := [3, 28]) (by rfl) nrScA0 (fun base => by
      refine n_store ti141 nrScA0 rfl nrScA0 rfl nrScA0 rfl rfl rfl nrScA0 ?_
      exact AOps.nil ⟨rfl, rfl, rfl⟩) ?_
  refine Walk.done ?_
  refine AWP.seq ?_
  refine AWP.anyT [18, 19] (fun p => match p with | [false, false] => [.box [vi 0, vi 0, vi 0, vi 0, vi 0, .sl (some true) [] .full], .box [vi 0, vi 0, vi 0, vi 0, vi 0, .sl (some true) [] .full], .box [vi 5, vi 7, vi 0, vi 0, vi 1, .sl none [] .ro], .box [vi 7, vi 5, vi 0, vi 0, vi 1, .sl none [] .ro]] | [true, false] => [.box [vi 5, vi 7, vi 0, vi 0, vi 1, .sl none [] .ro], .box [vi 0, vi 0, vi 0, vi 0, vi 0, .sl (some true) [] .full], .box [vi 5, vi 7, vi 0, vi 0, vi 1, .sl none [] .ro], .box [vi 7, vi 5, vi 0, vi 0, vi 1, .sl none [] .ro]] | [false, true] => [.box [vi 0, vi 0, vi 0, vi 0, vi 0, .sl (some true) [] .full], .box [vi 7, vi 5, vi 0, vi 0, vi 1, .sl none [] .ro], .box [vi 5, vi 7, vi 0, vi 0, vi 1, .sl none [] .ro], .box [vi 7, vi 5, vi 0, vi 0, vi 1, .sl none [] .ro]] | [true, true] => [.box [vi 5, vi 7, vi 0, vi 0, vi 1, .sl none [] .ro], .box [vi 7, vi 5, vi 0, vi 0, vi 1, .sl none [] .ro], .box [vi 5, vi 7, vi 0, vi 0, vi 1, .sl none [] .ro], .box [vi 7, vi 5, vi 0, vi 0, vi 1, .sl none [] .ro]] | _ => []) (by kernel_rfl) (by kernel_rfl) rfl rfl ?_
  refine Walk.cases [([false, false], [.box [vi 0, vi 0, vi 0, vi 0, vi 0, .sl (some true) [] .full], .box [vi 0, vi 0, vi 0, vi 0, vi 0, .sl (some true) [] .full], .box [vi 5, vi 7, vi 0, vi 0, vi 1, .sl none [] .ro], .box [vi 7, vi 5, vi 0, vi 0, vi 1, .sl none [] .ro]], [.box [vi 0, vi 0, vi 0, vi 0, vi 0, .sl (some true) [] .full], .box [vi 0, vi 0, vi 0, vi 0, vi 0, .sl (some true) [] .full], .box [vi 5, vi 7, vi 0, vi 0, vi 1, .sl none [] .ro], .box [vi 7, vi 5, vi 0, vi 0, vi 1, .sl none [] .ro]])] (by rfl) (by kernel_rfl) (rs := [3]) (by rfl) nrScA0 (fun base => ⟨
      ⟨rfl, rfl, by
        refine n_load rfl ti141 nrScA0 nrScA0 rfl nrScA0 ?_
        exact AOps.nil ⟨rfl, rfl, rfl⟩⟩,
      trivial⟩) ?_
  refine Walk.cases [([false, false], [.box [vi 0, vi 0, vi 0, vi 0, vi 0, .sl (some true) [] .full], .box [vi 0, vi 0, vi 0, vi 0, vi 0, .sl (some true) [] .full], .box [vi 5, vi 7, vi 0, vi 0, vi 1, .sl none [] .ro], .box [vi 7, vi 5, vi 0, vi 0, vi 1, .sl none [] .ro]], [.box [vi 0, vi 0, vi 0, vi 0, vi 0, .sl (some true) [] .full], .box [vi 0, vi 0, vi 0, vi 0, vi 0, .sl (some true) [] .full], .box [vi 5, vi 7, vi 0, vi 0, vi 1, .sl none [] .ro], .box [vi 7, vi 5, vi 0, vi 0, vi 1, .sl none [] .ro]]), ([true, false], [.box [vi 5, vi 7, vi 0, vi 0, vi 1, .sl none [] .ro], .box [vi 0, vi 0, vi 0, vi 0, vi 0, .sl (some true) [] .full], .box [vi 5, vi 7, vi 0, vi 0, vi 1, .sl none [] .ro], .box [vi 7, vi 5, vi 0, vi 0, vi 1, .sl none [] .ro]], [.box [vi 5, vi 7, vi 0, vi 0, vi 1, .sl none [] .ro], .box [vi 0, vi 0, vi 0, vi 0, vi 0, .sl (some true) [] .full], .box [vi 5, vi 7, vi 0, vi 0, vi 1, .sl none [] .ro], .box [vi 7, vi 5, vi 0, vi 0, vi 1, .sl none [] .ro]])] (by rfl) (by kernel_rfl) (rs := [5]) (by rfl) nrScA0 (fun base => ⟨
      ⟨rfl, rfl, by
        refine n_load rfl ti141 nrScA0 nrScA0 rfl nrScA0 ?_
        exact AOps.nil ⟨rfl, rfl, rfl⟩⟩,
      ⟨rfl, rfl, by
        refine n_load rfl ti141 nrScA0 nrScA0 rfl nrScA0 ?_
        exact AOps.nil ⟨rfl, rfl, rfl⟩⟩,
      trivial⟩) ?_
  refine Walk.cases [([false, false], [.box [vi 0, vi 0, vi 0, vi 0, vi 0, .sl (some true) [] .full], .box [vi 0, vi 0, vi 0, vi 0, vi 0, .sl (some true) [] .full], .box [vi 5, vi 7, vi 0, vi 0, vi 1, .sl none [] .ro], .box [vi 7, vi 5, vi 0, vi 0, vi 1, .sl none [] .ro]], [.box [vi 0, vi 0, vi 0, vi 0, vi 0, .sl (some true) [] .full], .box [vi 0, vi 0, vi 0, vi 0, vi 0, .sl (some true) [] .full], .box [vi 5, vi 7, vi 0, vi 0, vi 1, .sl none [] .ro], .box [vi 7, vi 5, vi 0, vi 0, vi 1, .sl none [] .ro]])] (by rfl) (by kernel_rfl) (rs := [4]) (by rfl) nrScA0 (fun base => ⟨
      ⟨rfl, rfl, by
        refine n_move rfl nrScA0 ?_
        exact AOps.nil ⟨rfl, rfl, rfl⟩⟩,
      trivial⟩) ?_
  refine Walk.cases [([false, false], [.box [vi 0, vi 0, vi 0, vi 0, vi 0, .sl (some true) [] .full], .box [vi 0, vi 0, vi 0, vi 0, vi 0, .sl (some true) [] .full], .box [vi 5, vi 7, vi 0, vi 0, vi 1, .sl none [] .ro], .box [vi 7, vi 5, vi 0, vi 0, vi 1, .sl none [] .ro]], [.box [vi 0, vi 0, vi 0, vi 0, vi 0, .sl (some true) [] .full], .box [vi 0, vi 0, vi 0, vi 0, vi 0, .sl (some true) [] .full], .box [vi 5, vi 7, vi 0, vi 0, vi 1, .sl none [] .ro], .box [vi 7, vi 5, vi 0, vi 0, vi 1, .sl none [] .ro]])] (by rfl) (by kernel_rfl) (rs := [33]) (by rfl) nrScA0 (fun base => ⟨
      ⟨rfl, rfl, by
        refine n_ibin rfl nrScA0 nrScA0 rfl ?_
        exact AOps.nil ⟨rfl, rfl, rfl⟩⟩,
      trivial⟩) ?_
  refine Walk.cases [([false, false], [.box [vi 0, vi 0, vi 0, vi 0, vi 0, .sl (some true) [] .full], .box [vi 0, vi 0, vi 0, vi 0, vi 0, .sl (some true) [] .full], .box [vi 5, vi 7, vi 0, vi 0, vi 1, .sl none [] .ro], .box [vi 7, vi 5, vi 0, vi 0, vi 1, .sl none [] .ro]], [.box [vi 0, vi 0, vi 0, vi 0, vi 0, .sl (some true) [] .full], .box [vi 0, vi 0, vi 0, vi 0, vi 0, .sl (some true) [] .full], .box [vi 5, vi 7, vi 0, vi 0, vi 1, .sl none [] .ro], .box [vi 7, vi 5, vi 0, vi 0, vi 1, .sl none [] .ro]])] (by rfl) (by kernel_rfl) (rs := [34]) (by rfl) nrScA0 (fun base => ⟨
      ⟨rfl, rfl, by
        refine n_move rfl nrScA0 ?_
        exact AOps.nil ⟨rfl, rfl, rfl⟩⟩,
      trivial⟩) ?_
  refine Walk.cases [([false, false], [.box [vi 0, vi 0, vi 0, vi 0, vi 0, .sl (some true) [] .full], .box [vi 0, vi 0, vi 0, vi 0, vi 0, .sl (some true) [] .full], .box [vi 5, vi 7, vi 0, vi 0, vi 1, .sl none [] .ro], .box [vi 7, vi 5, vi 0, vi 0, vi 1, .sl none [] .ro]], [.box [vi 0, vi 0, vi 0, vi 0, vi 0, .sl (some true) [] .full], .box [vi 0, vi 0, vi 0, vi 0, vi 0, .sl (some true) [] .full], .box [vi 5, vi 7, vi 0, vi 0, vi 1, .sl none [] .ro], .box [vi 7, vi 5, vi 0, vi 0, vi 1, .sl none [] .ro]])] (by rfl) (by kernel_rfl) (rs := [6, 35]) (by rfl) nrScA0 (fun base => ⟨
      ⟨rfl, rfl, by
        refine n_guard_yes rfl rfl rfl nrScA0 rfl ?_
        refine n_move rfl nrScA0 ?_
        exact AOps.nil ⟨rfl, rfl, rfl⟩⟩,
      trivial⟩) ?_
  refine Walk.cases [([false, false], [.box [vi 0, vi 0, vi 0, vi 0, vi 0, .sl (some true) [] .full], .box [vi 0, vi 0, vi 0, vi 0, vi 0, .sl (some true) [] .full], .box [vi 5, vi 7, vi 0, vi 0, vi 1, .sl none [] .ro], .box [vi 7, vi 5, vi 0, vi 0, vi 1, .sl none [] .ro]], [.box [vi 0, vi 0, vi 0, vi 0, vi 0, .sl (some true) [] .full], .box [vi 0, vi 0, vi 0, vi 0, vi 0, .sl (some true) [] .full], .box [vi 5, vi 7, vi 0, vi 0, vi 1, .sl none [] .ro], .box [vi 7, vi 5, vi 0, vi 0, vi 1, .sl none [] .ro]])] (by rfl) (by kernel_rfl) (rs := [36, 35]) (by rfl) nrScA0 (fun base => ⟨
      ⟨rfl, rfl, by
        refine n_guard_yes rfl rfl rfl nrScA0 rfl ?_
        refine n_ibin rfl nrScA0 nrScA0 rfl ?_
        exact AOps.nil ⟨rfl, rfl, rfl⟩⟩,
      trivial⟩) ?_
  refine Walk.cases [([false, false], [.box [vi 0, vi 0, vi 0, vi 0, vi 0, .sl (some true) [] .full], .box [vi 0, vi 0, vi 0, vi 0, vi 0, .sl (some true) [] .full], .box [vi 5, vi 7, vi 0, vi 0, vi 1, .sl none [] .ro], .box [vi 7, vi 5, vi 0, vi 0, vi 1, .sl none [] .ro]], [.box [vi 0, vi 0, vi 0, vi 0, vi 0, .sl (some true) [] .full], .box [vi 0, vi 0, vi 0, vi 0, vi 0, .sl (some true) [] .full], .box [vi 5, vi 7, vi 0, vi 0, vi 1, .sl none [] .ro], .box [vi 7, vi 5, vi 0, vi 0, vi 1, .sl none [] .ro]])] (by rfl) (by kernel_rfl) (rs := [35, 37]) (by rfl) nrScA0 (fun base => ⟨
      ⟨rfl, rfl, by
        refine n_pick rfl nrScA0 nrScA0 ?_
        exact AOps.nil ⟨rfl, rfl, rfl⟩⟩,
      trivial⟩) ?_
  refine Walk.cases [([false, false], [.box [vi 0, vi 0, vi 0, vi 0, vi 0, .sl (some true) [] .full], .box [vi 0, vi 0, vi 0, vi 0, vi 0, .sl (some true) [] .full], .box [vi 5, vi 7, vi 0, vi 0, vi 1, .sl none [] .ro], .box [vi 7, vi 5, vi 0, vi 0, vi 1, .sl none [] .ro]], [.box [vi 0, vi 0, vi 0, vi 0, vi 0, .sl (some true) [] .full], .box [vi 0, vi 0, vi 0, vi 0, vi 0, .sl (some true) [] .full], .box [vi 5, vi 7, vi 0, vi 0, vi 1, .sl none [] .ro], .box [vi 7, vi 5, vi 0, vi 0, vi 1, .sl none [] .ro]])] (by rfl) (by kernel_rfl) (rs := [38]) (by rfl) nrScA0 (fun base => ⟨
      ⟨rfl, rfl, by
        refine n_move rfl nrScA0 ?_
        exact AOps.nil ⟨rfl, rfl, rfl⟩⟩,
      trivial⟩) ?_
  refine Walk.cases [([false, false], [.box [vi 0, vi 0, vi 0, vi 0, vi 0, .sl (some true) [] .full], .box [vi 0, vi 0, vi 0, vi 0, vi 0, .sl (some true) [] .full], .box [vi 5, vi 7, vi 0, vi 0, vi 1, .sl none [] .ro], .box [vi 7, vi 5, vi 0, vi 0, vi 1, .sl none [] .ro]], [.box [vi 0, vi 0, vi 0, vi 0, vi 0, .sl (some true) [] .full], .box [vi 0, vi 0, vi 0, vi 0, vi 0, .sl (some true) [] .full], .box [vi 5, vi 7, vi 0, vi 0, vi 1, .sl none [] .ro], .box [vi 7, vi 5, vi 0, vi 0, vi 1, .sl none [] .ro]])] (by rfl) (by kernel_rfl) (rs := [3, 39]) (by rfl) nrScA0 (fun base => ⟨
      ⟨rfl, rfl, by
        refine n_guard_yes rfl rfl rfl nrScA0 rfl ?_
        refine n_fieldAddr rfl fd141_1 ti2 rfl nrScA0 rfl nrScA0 ?_
        exact AOps.nil ⟨rfl, rfl, rfl⟩⟩,
      trivial⟩) ?_
  refine Walk.cases [([false, false], [.box [vi 0, vi 0, vi 0, vi 0, vi 0, .sl (some true) [] .full], .box [vi 0, vi 0, vi 0, vi 0, vi 0, .sl (some true) [] .full], .box [vi 5, vi 7, vi 0, vi 0, vi 1, .sl none [] .ro], .box [vi 7, vi 5, vi 0, vi 0, vi 1, .sl none [] .ro]], [.box [vi 0, vi 0, vi 0, vi 0, vi 0, .sl (some true) [] .full], .box [vi 0, vi 0, vi 0, vi 0, vi 0, .sl (some true) [] .full], .box [vi 5, vi 7, vi 0, vi 0, vi 1, .sl none [] .ro], .box [vi 7, vi 5, vi 0, vi 0, vi 1, .sl none [] .ro]])] (by rfl) (by kernel_rfl) (rs := [40, 39]) (by rfl) nrScA0 (fun base => ⟨
      ⟨rfl, rfl, by
        refine n_guard_yes rfl rfl rfl nrScA0 rfl ?_
        refine n_load rfl ti2 nrScA0 nrScA0 rfl nrScA0 ?_
        exact AOps.nil ⟨rfl, rfl, rfl⟩⟩,
      trivial⟩) ?_
  refine Walk.cases [([false, false], [.box [vi 0, vi 0, vi 0, vi 0, vi 0, .sl (some true) [] .full], .box [vi 0, vi 0, vi 0, vi 0, vi 0, .sl (some true) [] .full], .box [vi 5, vi 7, vi 0, vi 0, vi 1, .sl none [] .ro], .box [vi 7, vi 5, vi 0, vi 0, vi 1, .sl none [] .ro]], [.box [vi 0, vi 0, vi 0, vi 0, vi 0, .sl (some true) [] .full], .box [vi 0, vi 0, vi 0, vi 0, vi 0, .sl (some true) [] .full], .box [vi 5, vi 7, vi 0, vi 0, vi 1, .sl none [] .ro], .box [vi 7, vi 5, vi 0, vi 0, vi 1, .sl none [] .ro]])] (by rfl) (by kernel_rfl) (rs := [41, 39]) (by rfl) nrScA0 (fun base => ⟨
      ⟨rfl, rfl, by
        refine n_guard_yes rfl rfl rfl nrScA0 rfl ?_
        refine n_ibin rfl nrScA0 nrScA0 rfl ?_
        exact AOps.nil ⟨rfl, rfl, rfl⟩⟩,
      trivial⟩) ?_
  refine Walk.cases [([false, false], [.box [vi 0, vi 0, vi 0, vi 0, vi 0, .sl (some true) [] .full], .box [vi 0, vi 0, vi 0, vi 0, vi 0, .sl (some true) [] .full], .box [vi 5, vi 7, vi 0, vi 0, vi 1, .sl none [] .ro], .box [vi 7, vi 5, vi 0, vi 0, vi 1, .sl none [] .ro]], [.box [vi 0, vi 0, vi 0, vi 0, vi 0, .sl (some true) [] .full], .box [vi 0, vi 0, vi 0, vi 0, vi 0, .sl (some true) [] .full], .box [vi 5, vi 7, vi 0, vi 0, vi 1, .sl none [] .ro], .box [vi 7, vi 5, vi 0, vi 0, vi 1, .sl none [] .ro]])] (by rfl) (by kernel_rfl) (rs := [39, 42]) (by rfl) nrScA0 (fun base => ⟨
      ⟨rfl, rfl, by
        refine n_pick rfl nrScA0 nrScA0 ?_
        exact AOps.nil ⟨rfl, rfl, rfl⟩⟩,
      trivial⟩) ?_
  refine Walk.cases [([false, false], [.box [vi 0, vi 0, vi 0, vi 0, vi 0, .sl (some true) [] .full], .box [vi 0, vi 0, vi 0, vi 0, vi 0, .sl (some true) [] .full], .box [vi 5, vi 7, vi 0, vi 0, vi 1, .sl none [] .ro], .box [vi 7, vi 5, vi 0, vi 0, vi 1, .sl none [] .ro]], [.box [vi 0, vi 0, vi 0, vi 0, vi 0, .sl (some true) [] .full], .box [vi 0, vi 0, vi 0, vi 0, vi 0, .sl (some true) [] .full], .box [vi 5, vi 7, vi 0, vi 0, vi 1, .sl none [] .ro], .box [vi 7, vi 5, vi 0, vi 0, vi 1, .sl none [] .ro]])] (by rfl) (by kernel_rfl) (rs := [43]) (by rfl) nrScA0 (fun base => ⟨
      ⟨rfl, rfl, by
        refine n_move rfl nrScA0 ?_
        exact AOps.nil ⟨rfl, rfl, rfl⟩⟩,
      trivial⟩) ?_
  refine Walk.cases [([false, false], [.box [vi 0, vi 0, vi 0, vi 0, vi 0, .sl (some true) [] .full], .box [vi 0, vi 0, vi 0, vi 0, vi 0, .sl (some true) [] .full], .box [vi 5, vi 7, vi 0, vi 0, vi 1, .sl none [] .ro], .box [vi 7, vi 5, vi 0, vi 0, vi 1, .sl none [] .ro]], [.box [vi 0, vi 0, vi 0, vi 0, vi 0, .sl (some true) [] .full], .box [vi 0, vi 0, vi 0, vi 0, vi 0, .sl (some true) [] .full], .box [vi 5, vi 7, vi 0, vi 0, vi 1, .sl none [] .ro], .box [vi 7, vi 5, vi 0, vi 0, vi 1, .sl none [] .ro]]), ([true, false], [.box [vi 5, vi 7, vi 0, vi 0, vi 1, .sl none [] .ro], .box [vi 0, vi 0, vi 0, vi 0, vi 0, .sl (some true) [] .full], .box [vi 5, vi 7, vi 0, vi 0, vi 1, .sl none [] .ro], .box [vi 7, vi 5, vi 0, vi 0, vi 1, .sl none [] .ro]], [.box [vi 5, vi 7, vi 0, vi 0, vi 1, .sl none [] .ro], .box [vi 0, vi 0, vi 0, vi 0, vi 0, .sl (some true) [] .full], .box [vi 5, vi 7, vi 0, vi 0, vi 1, .sl none [] .ro], .box [vi 7, vi 5, vi 0, vi 0, vi 1, .sl none [] .ro]]), ([true, true], [.box [vi 5, vi 7, vi 0, vi 0, vi 1, .sl none [] .ro], .box [vi 7, vi 5, vi 0, vi 0, vi 1, .sl none [] .ro], .box [vi 5, vi 7, vi 0, vi 0, vi 1, .sl none [] .ro], .box [vi 7, vi 5, vi 0, vi 0, vi 1, .sl none [] .ro]], [.box [vi 5, vi 7, vi 0, vi 0, vi 1, .sl none [] .ro], .box [vi 7, vi 5, vi 0, vi 0, vi 1, .sl none [] .ro], .box [vi 5, vi 7, vi 0, vi 0, vi 1, .sl none [] .ro], .box [vi 7, vi 5, vi 0, vi 0, vi 1, .sl none [] .ro]])] (by rfl) (by kernel_rfl) (rs := [5, 44]) (by rfl) nrScA0 (fun base => ⟨
      ⟨rfl, rfl, by
        refine n_guard_yes rfl rfl rfl nrScA0 rfl ?_
        refine n_fieldAddr rfl fd141_1 ti2 rfl nrScA0 rfl nrScA0 ?_
        exact AOps.nil ⟨rfl, rfl, rfl⟩⟩,
      ⟨rfl, rfl, by
        refine n_guard_yes rfl rfl rfl nrScA0 rfl ?_
        refine n_fieldAddr rfl fd141_1 ti2 rfl nrScA0 rfl nrScA0 ?_
        exact AOps.nil ⟨rfl, rfl, rfl⟩⟩,
      ⟨rfl, rfl, by
        refine n_guard_yes rfl rfl rfl nrScA0 rfl ?_
        refine n_fieldAddr rfl fd141_1 ti2 rfl nrScA0 rfl nrScA0 ?_
        exact AOps.nil ⟨rfl, rfl, rfl⟩⟩,
      trivial⟩) ?_
  refine Walk.cases [([false, false], [.box [vi 0, vi 0, vi 0, vi 0, vi 0, .sl (some true) [] .full], .box [vi 0, vi 0, vi 0, vi 0, vi 0, .sl (some true) [] .full], .box [vi 5, vi 7, vi 0, vi 0, vi 1, .sl none [] .ro], .box [vi 7, vi 5, vi 0, vi 0, vi 1, .sl none [] .ro]], [.box [vi 0, vi 0, vi 0, vi 0, vi 0, .sl (some true) [] .full], .box [vi 0, vi 0, vi 0, vi 0, vi 0, .sl (some true) [] .full], .box [vi 5, vi 7, vi 0, vi 0, vi 1, .sl none [] .ro], .box [vi 7, vi 5, vi 0, vi 0, vi 1, .sl none [] .ro]]), ([true, false], [.box [vi 5, vi 7, vi 0, vi 0, vi 1, .sl none [] .ro], .box [vi 0, vi 0, vi 0, vi 0, vi 0, .sl (some true) [] .full], .box [vi 5, vi 7, vi 0, vi 0, vi 1, .sl none [] .ro], .box [vi 7, vi 5, vi 0, vi 0, vi 1, .sl none [] .ro]], [.box [vi 5, vi 7, vi 0, vi 0, vi 1, .sl none [] .ro], .box [vi 0, vi 0, vi 0, vi 0, vi 0, .sl (some true) [] .full], .box [vi 5, vi 7, vi 0, vi 0, vi 1, .sl none [] .ro], .box [vi 7, vi 5, vi 0, vi 0, vi 1, .sl none [] .ro]]), ([true, true], [.box [vi 5, vi 7, vi 0, vi 0, vi 1, .sl none [] .ro], .box [vi 7, vi 5, vi 0, vi 0, vi 1, .sl none [] .ro], .box [vi 5, vi 7, vi 0, vi 0, vi 1, .sl none [] .ro], .box [vi 7, vi 5, vi 0, vi 0, vi 1, .sl none [] .ro]], [.box [vi 5, vi 7, vi 0, vi 0, vi 1, .sl none [] .ro], .box [vi 7, vi 5, vi 0, vi 0, vi 1, .sl none [] .ro], .box [vi 5, vi 7, vi 0, vi 0, vi 1, .sl none [] .ro], .box [vi 7, vi 5, vi 0, vi 0, vi 1, .sl none [] .ro]])] (by rfl) (by kernel_rfl) (rs := [45, 44]) (by rfl) nrScA0 (fun base => ⟨
      ⟨rfl, rfl, by
        refine n_guard_yes rfl rfl rfl nrScA0 rfl ?_
        refine n_load rfl ti2 nrScA0 nrScA0 rfl nrScA0 ?_
        exact AOps.nil ⟨rfl, rfl, rfl⟩⟩,
      ⟨rfl, rfl, by
        refine n_guard_yes rfl rfl rfl nrScA0 rfl ?_
        refine n_load rfl ti2 nrScA0 nrScA0 rfl nrScA0 ?_
        exact AOps.nil ⟨rfl, rfl, rfl⟩⟩,
      ⟨rfl, rfl, by
        refine n_guard_yes rfl rfl rfl nrScA0 rfl ?_
        refine n_load rfl ti2 nrScA0 nrScA0 rfl nrScA0 ?_
        exact AOps.nil ⟨rfl, rfl, rfl⟩⟩,
      trivial⟩) ?_
  refine Walk.cases [([false, false], [.box [vi 0, vi 0, vi 0, vi 0, vi 0, .sl (some true) [] .full], .box [vi 0, vi 0, vi 0, vi 0, vi 0, .sl (some true) [] .full], .box [vi 5, vi 7, vi 0, vi 0, vi 1, .sl none [] .ro], .box [vi 7, vi 5, vi 0, vi 0, vi 1, .sl none [] .ro]], [.box [vi 0, vi 0, vi 0, vi 0, vi 0, .sl (some true) [] .full], .box [vi 0, vi 0, vi 0, vi 0, vi 0, .sl (some true) [] .full], .box [vi 5, vi 7, vi 0, vi 0, vi 1, .sl none [] .ro], .box [vi 7, vi 5, vi 0, vi 0, vi 1, .sl none [] .ro]]), ([true, false], [.box [vi 5, vi 7, vi 0, vi 0, vi 1, .sl none [] .ro], .box [vi 0, vi 0, vi 0, vi 0, vi 0, .sl (some true) [] .full], .box [vi 5, vi 7, vi 0, vi 0, vi 1, .sl none [] .ro], .box [vi 7, vi 5, vi 0, vi 0, vi 1, .sl none [] .ro]], [.box [vi 5, vi 7, vi 0, vi 0, vi 1, .sl none [] .ro], .box [vi 0, vi 0, vi 0, vi 0, vi 0, .sl (some true) [] .full], .box [vi 5, vi 7, vi 0, vi 0, vi 1, .sl none [] .ro], .box [vi 7, vi 5, vi 0, vi 0, vi 1, .sl none [] .ro]]), ([true, true], [.box [vi 5, vi 7, vi 0, vi 0, vi 1, .sl none [] .ro], .box [vi 7, vi 5, vi 0, vi 0, vi 1, .sl none [] .ro], .box [vi 5, vi 7, vi 0, vi 0, vi 1, .sl none [] .ro], .box [vi 7, vi 5, vi 0, vi 0, vi 1, .sl none [] .ro]], [.box [vi 5, vi 7, vi 0, vi 0, vi 1, .sl none [] .ro], .box [vi 7, vi 5, vi 0, vi 0, vi 1, .sl none [] .ro], .box [vi 5, vi 7, vi 0, vi 0, vi 1, .sl none [] .ro], .box [vi 7, vi 5, vi 0, vi 0, vi 1, .sl none [] .ro]])] (by rfl) (by kernel_rfl) (rs := [46, 44]) (by rfl) nrScA0 (fun base => ⟨
      ⟨rfl, rfl, by
        refine n_guard_yes rfl rfl rfl nrScA0 rfl ?_
        refine n_ibin rfl nrScA0 nrScA0 rfl ?_
        exact AOps.nil ⟨rfl, rfl, rfl⟩⟩,
      ⟨rfl, rfl, by
        refine n_guard_yes rfl rfl rfl nrScA0 rfl ?_
        refine n_ibin rfl nrScA0 nrScA0 rfl ?_
        exact AOps.nil ⟨rfl, rfl, rfl⟩⟩,
      ⟨rfl, rfl, by
        refine n_guard_yes rfl rfl rfl nrScA0 rfl ?_
        refine n_ibin rfl nrScA0 nrScA0 rfl ?_
        exact AOps.nil ⟨rfl, rfl, rfl⟩⟩,
      trivial⟩) ?_
  refine Walk.cases [([false, false], [.box [vi 0, vi 0, vi 0, vi 0, vi 0, .sl (some true) [] .full], .box [vi 0, vi 0, vi 0, vi 0, vi 0, .sl (some true) [] .full], .box [vi 5, vi 7, vi 0, vi 0, vi 1, .sl none [] .ro], .box [vi 7, vi 5, vi 0, vi 0, vi 1, .sl none [] .ro]], [.box [vi 0, vi 0, vi 0, vi 0, vi 0, .sl (some true) [] .full], .box [vi 0, vi 0, vi 0, vi 0, vi 0, .sl (some true) [] .full], .box [vi 5, vi 7, vi 0, vi 0, vi 1, .sl none [] .ro], .box [vi 7, vi 5, vi 0, vi 0, vi 1, .sl none [] .ro]]), ([true, false], [.box [vi 5, vi 7, vi 0, vi 0, vi 1, .sl none [] .ro], .box [vi 0, vi 0, vi 0, vi 0, vi 0, .sl (some true) [] .full], .box [vi 5, vi 7, vi 0, vi 0, vi 1, .sl none [] .ro], .box [vi 7, vi 5, vi 0, vi 0, vi 1, .sl none [] .ro]], [.box [vi 5, vi 7, vi 0, vi 0, vi 1, .sl none [] .ro], .box [vi 0, vi 0, vi 0, vi 0, vi 0, .sl (some true) [] .full], .box [vi 5, vi 7, vi 0, vi 0, vi 1, .sl none [] .ro], .box [vi 7, vi 5, vi 0, vi 0, vi 1, .sl none [] .ro]]), ([true, true], [.box [vi 5, vi 7, vi 0, vi 0, vi 1, .sl none [] .ro], .box [vi 7, vi 5, vi 0, vi 0, vi 1, .sl none [] .ro], .box [vi 5, vi 7, vi 0, vi 0, vi 1, .sl none [] .ro], .box [vi 7, vi 5, vi 0, vi 0, vi 1, .sl none [] .ro]], [.box [vi 5, vi 7, vi 0, vi 0, vi 1, .sl none [] .ro], .box [vi 7, vi 5, vi 0, vi 0, vi 1, .sl none [] .ro], .box [vi 5, vi 7, vi 0, vi 0, vi 1, .sl none [] .ro], .box [vi 7, vi 5, vi 0, vi 0, vi 1, .sl none [] .ro]])] (by rfl) (by kernel_rfl) (rs := [44, 47]) (by rfl) nrScA0 (fun base => ⟨
      ⟨rfl, rfl, by
        refine n_pick rfl nrScA0 nrScA0 ?_
        exact AOps.nil ⟨rfl, rfl, rfl⟩⟩,
      ⟨rfl, rfl, by
        refine n_pick rfl nrScA0 nrScA0 ?_
        exact AOps.nil ⟨rfl, rfl, rfl⟩⟩,
      ⟨rfl, rfl, by
        refine n_pick rfl nrScA0 nrScA0 ?_
        exact AOps.nil ⟨rfl, rfl, rfl⟩⟩,
      trivial⟩) ?_
  refine Walk.cases (d := .any) [([false, false], [.box [vi 0, vi 0, vi 0, vi 0, vi 0, .sl (some true) [] .full], .box [vi 0, vi 0, vi 0, vi 0, vi 0, .sl (some true) [] .full], .box [vi 5, vi 7, vi 0, vi 0, vi 1, .sl none [] .ro], .box [vi 7, vi 5, vi 0, vi 0, vi 1, .sl none [] .ro]], [.box [vi 5, vi 7, vi 0, vi 0, vi 1, .sl none [] .ro], .box [vi 0, vi 0, vi 0, vi 0, vi 0, .sl (some true) [] .full], .box [vi 5, vi 7, vi 0, vi 0, vi 1, .sl none [] .ro], .box [vi 7, vi 5, vi 0, vi 0, vi 1, .sl none [] .ro]])] (by rfl) (by kernel_rfl) (rs := [0, 31]) (by rfl) nrScA0 (fun base => ⟨
      ⟨rfl, rfl, by
        refine n_store ti141 nrScA0 rfl nrScA0 rfl nrScA0 rfl rfl rfl nrScA0 ?_
        exact AOps.nil ⟨rfl, rfl, rfl⟩⟩,
      trivial⟩) ?_
  refine Walk.cases (d := .any) [([true, false], [.box [vi 5, vi 7, vi 0, vi 0, vi 1, .sl none [] .ro], .box [vi 0, vi 0, vi 0, vi 0, vi 0, .sl (some true) [] .full], .box [vi 5, vi 7, vi 0, vi 0, vi 1, .sl none [] .ro], .box [vi 7, vi 5, vi 0, vi 0, vi 1, .sl none [] .ro]], [.box [vi 5, vi 7, vi 0, vi 0, vi 1, .sl none [] .ro], .box [vi 7, vi 5, vi 0, vi 0, vi 1, .sl none [] .ro], .box [vi 5, vi 7, vi 0, vi 0, vi 1, .sl none [] .ro], .box [vi 7, vi 5, vi 0, vi 0, vi 1, .sl none [] .ro]])] (by rfl) (by kernel_rfl) (rs := [1, 32]) (by rfl) nrScA0 (fun base => ⟨
      ⟨rfl, rfl, by
        refine n_store ti141 nrScA0 rfl nrScA0 rfl nrScA0 rfl rfl rfl nrScA0 ?_
        exact AOps.nil ⟨rfl, rfl, rfl⟩⟩,
      trivial⟩) ?_
  refine Walk.cases [([true, true], [.box [vi 5, vi 7, vi 0, vi 0, vi 1, .sl none [] .ro], .box [vi 7, vi 5, vi 0, vi 0, vi 1, .sl none [] .ro], .box [vi 5, vi 7, vi 0, vi 0, vi 1, .sl none [] .ro], .box [vi 7, vi 5, vi 0, vi 0, vi 1, .sl none [] .ro]], [.box [vi 5, vi 7, vi 0, vi 0, vi 1, .sl none [] .ro], .box [vi 7, vi 5, vi 0, vi 0, vi 1, .sl none [] .ro], .box [vi 5, vi 7, vi 0, vi 0, vi 1, .sl none [] .ro], .box [vi 7, vi 5, vi 0, vi 0, vi 1, .sl none [] .ro]])] (by rfl) (by kernel_rfl) (rs := [48]) (by rfl) nrScA0 (fun base => ⟨
      ⟨rfl, rfl, by
        refine n_assign rfl nrScA0 ?_
        exact AOps.nil ⟨rfl, rfl, rfl⟩⟩,
      trivial⟩) ?_
  refine Walk.done ?_
  refine AWP.ret ?_
  refine fin_pure (.cons (rv_cell ti141 nrScA0 nrScA0 rfl nrScA0) (.cons (rv_cell ti141 nrScA0 nrScA0 rfl nrScA0) (.cons (rv_tmp nrScA0) .nil))) nrScA0 ?_
  exact .tup rfl (RenAll.get (.cons (ren_q0 rfl) (.cons (ren_q0 rfl) (.cons (ren_flat rfl rfl) .nil))))

set_option maxHeartbeats 2000000 in
theorem live : Does Try.prog 108 [] [] (vb true) [] := by
  refine Does.of_body (rvs := [.tmp 0]) Try.func108 rfl rfl rfl rfl ?_
  obtain ⟨_, _, _, t3, t4⟩ := live_facts
  have k1 := l_send ⟨5, 7, 0, 0, 1⟩ [120] (Ss.chk0.2 (by unfold Ss.may; decide)) (by decide) (by decide)
  have k2 := l_take ⟨7, 5, 0, 0, 1⟩ ⟨5, 7, 1, 0, [120]⟩ (by simp [L40])
  rw [t3] at k2
  have k3 := l_take ⟨7, 5, 0, 0, 2⟩ ⟨5, 7, 1, 0, [120]⟩ (by simp [L40])
  rw [t4] at k3
  have hb : Byt [120] := fun a ha => by simp at ha; subst ha; decide
  have he := b_equal [120] [120] hb hb
  rw [decide_eq_true rfl] at he
  refine AWP.seq ?_
  refine AWP.region ?_
  refine n_assign rfl nrScA0 ?_
  refine AOps.nil ?_
  refine AWP.seq ?_
  refine AWP.region ?_
  refine n_call0B rfl cf109 rfl (Eq.trans (by simp only [nl] <;> rfl) nrScA0) (by repeat (first | exact .nil | refine .cons ?_ ?_ | exact ren_ints | exact .lf (.val _) | exact .lf (lf_ints (.inl rfl)) | exact .bp ⟨rfl, rfl⟩ | exact .bp (.inl ⟨rfl, rfl⟩) | exact .bp (.inr ⟨rfl, rfl⟩) | exact ren_bys0 rfl | exact .lf (D.flat_lf rfl) | exact ren_lits rfl | exact .lf (lf_ssz _) | exact .lf (lf_pqz _) | exact ren_q0 rfl | exact ren_pq rfl | exact ren_nl0 | exact ren_sq | exact .lf (.fn (fun d h => by cases h) (fun d h => by cases h)))) (pair) lfScA0 ?_
  refine n_move rfl nrScA0 ?_
  refine n_extract rfl nrScA0 rfl ?_
  refine n_extract rfl nrScA0 rfl ?_
  refine n_extract rfl nrScA0 rfl ?_
  refine n_alloc rfl zi141 rfl nrScA0 nrScA0 ?_
  refine n_alloc rfl zi141 rfl nrScA0 nrScA0 ?_
  refine n_store ti141 nrScA0 rfl nrScA0 rfl nrScA0 rfl rfl rfl nrScA0 ?_
  refine n_store ti141 nrScA0 rfl nrScA0 rfl nrScA0 rfl rfl rfl nrScA0 ?_
  refine n_assign rfl nrScA0 ?_
  refine AOps.nil ?_
  refine AWP.seq ?_
  refine AWP.region ?_
  refine n_load rfl ti141 nrScA0 nrScA0 rfl nrScA0 ?_
  refine n_lit1Bs rfl Try.underlying22 ei5 nrScA0 rfl nrScA0 ?_
  refine n_convBs (xs := ints .u8 [120]) rfl Try.underlying22 Try.underlying5 nrScA0  rfl rfl rfl (ints_one _ _) (by intro x hx d hd; simp only [ints, List.map_cons, List.map_nil, List.mem_cons, List.not_mem_nil, or_false] at hx; subst hx; simp only [List.mem_cons, List.not_mem_nil, or_false] at hd; subst hd; rfl) nrScA0 ?_
  refine n_call0B rfl cf208 rfl (Eq.trans (by simp only [nl] <;> rfl) nrScA0) (by repeat (first | exact .nil | refine .cons ?_ ?_ | exact ren_ints | exact .lf (.val _) | exact .lf (lf_ints (.inl rfl)) | exact .bp ⟨rfl, rfl⟩ | exact .bp (.inl ⟨rfl, rfl⟩) | exact .bp (.inr ⟨rfl, rfl⟩) | exact ren_bys0 rfl | exact .lf (D.flat_lf rfl) | exact ren_lits rfl | exact .lf (lf_ssz _) | exact .lf (lf_pqz _) | exact ren_q0 rfl | exact ren_pq rfl | exact ren_nl0 | exact ren_sq | exact .lf (.fn (fun d h => by cases h) (fun d h => by cases h)))) (k1) lfScA0 ?_
  refine n_move rfl nrScA0 ?_
  refine n_extract rfl nrScA0 rfl ?_
  refine n_extract rfl nrScA0 rfl ?_
  refine n_extract rfl nrScA0 rfl ?_
  refine n_alloc rfl zi141 rfl nrScA0 nrScA0 ?_
  refine n_alloc rfl zi157 rfl nrScA0 nrScA0 ?_
  refine n_store ti141 nrScA0 rfl nrScA0 rfl nrScA0 rfl rfl rfl nrScA0 ?_
  refine n_store ti157 nrScA0 rfl nrScA0 rfl nrScA0 rfl rfl rfl nrScA0 ?_
  refine n_assign rfl nrScA0 ?_
  refine AOps.nil ?_
  refine AWP.seq ?_
  refine AWP.region ?_
  refine n_load rfl ti141 nrScA0 nrScA0 rfl nrScA0 ?_
  refine n_load rfl ti157 nrScA0 nrScA0 rfl nrScA0 ?_
  refine n_call0B rfl cf209 rfl (Eq.trans (by simp only [nl] <;> rfl) nrScA0) (by repeat (first | exact .nil | refine .cons ?_ ?_ | exact ren_ints | exact .lf (.val _) | exact .lf (lf_ints (.inl rfl)) | exact .bp ⟨rfl, rfl⟩ | exact .bp (.inl ⟨rfl, rfl⟩) | exact .bp (.inr ⟨rfl, rfl⟩) | exact ren_bys0 rfl | exact .lf (D.flat_lf rfl) | exact ren_lits rfl | exact .lf (lf_ssz _) | exact .lf (lf_pqz _) | exact ren_q0 rfl | exact ren_pq rfl | exact ren_nl0 | exact ren_sq | exact .lf (.fn (fun d h => by cases h) (fun d h => by cases h)))) (k2) lfScA0 ?_
  refine n_move rfl nrScA0 ?_
  refine n_extract rfl nrScA0 rfl ?_
  refine n_extract rfl nrScA0 rfl ?_
  refine n_extract rfl nrScA0 rfl ?_
  refine n_store ti141 nrScA0 rfl nrScA0 rfl nrScA0 rfl rfl rfl nrScA0 ?_
  refine n_assign rfl nrScA0 ?_
  refine n_assign rfl nrScA0 ?_
  refine AOps.nil ?_
  refine AWP.seq ?_
  refine AWP.region ?_
  refine n_load rfl ti141 nrScA0 nrScA0 rfl nrScA0 ?_
  refine n_load rfl ti157 nrScA0 nrScA0 rfl nrScA0 ?_
  refine n_call0B rfl cf209 rfl (Eq.trans (by simp only [nl] <;> rfl) nrScA0) (by repeat (first | exact .nil | refine .cons ?_ ?_ | exact ren_ints | exact .lf (.val _) | exact .lf (lf_ints (.inl rfl)) | exact .bp ⟨rfl, rfl⟩ | exact .bp (.inl ⟨rfl, rfl⟩) | exact .bp (.inr ⟨rfl, rfl⟩) | exact ren_bys0 rfl | exact .lf (D.flat_lf rfl) | exact ren_lits rfl | exact .lf (lf_ssz _) | exact .lf (lf_pqz _) | exact ren_q0 rfl | exact ren_pq rfl | exact ren_nl0 | exact ren_sq | exact .lf (.fn (fun d h => by cases h) (fun d h => by cases h)))) (k3) lfScA0 ?_
  refine n_move rfl nrScA0 ?_
  refine n_extract rfl nrScA0 rfl ?_
  refine n_extract rfl nrScA0 rfl ?_
  refine n_extract rfl nrScA0 rfl ?_
  refine n_alloc rfl zi141 rfl nrScA0 nrScA0 ?_
  refine n_store ti141 nrScA0 rfl nrScA0 rfl nrScA0 rfl rfl rfl nrScA0 ?_
  refine n_assign rfl nrScA0 ?_
  refine n_assign rfl nrScA0 ?_
  refine AOps.nil ?_
  refine AWP.seq ?_
  refine AWP.region ?_
  refine n_move rfl nrScA0 ?_
  refine n_move rfl nrScA0 ?_
  refine n_guard_yes rfl rfl rfl nrScA0 rfl ?_
  refine n_move rfl nrScA0 ?_
  refine n_guard_yes rfl rfl rfl nrScA0 rfl ?_
  refine n_ibin rfl nrScA0 nrScA0 rfl ?_
  refine n_pick rfl nrScA0 nrScA0 ?_
  refine n_move rfl nrScA0 ?_
  refine n_guard_yes rfl rfl rfl nrScA0 rfl ?_
  refine n_fieldAddr rfl fd157_2 ti2 rfl nrScA0 rfl nrScA0 ?_
  refine n_guard_yes rfl rfl rfl nrScA0 rfl ?_
  refine n_load rfl ti2 nrScA0 nrScA0 rfl nrScA0 ?_
  refine n_guard_yes rfl rfl rfl nrScA0 rfl ?_
  refine n_ibin rfl nrScA0 nrScA0 rfl ?_
  refine n_pick rfl nrScA0 nrScA0 ?_
  refine n_move rfl nrScA0 ?_
  refine n_guard_yes rfl rfl rfl nrScA0 rfl ?_
  refine n_move rfl nrScA0 ?_
  refine n_pick rfl nrScA0 nrScA0 ?_
  refine n_move rfl nrScA0 ?_
  refine n_guard_yes rfl rfl rfl nrScA0 rfl ?_
  refine n_move rfl nrScA0 ?_
  refine n_guard_yes rfl rfl rfl nrScA0 rfl ?_
  refine n_lit1Bs rfl Try.underlying22 ei5 nrScA0 rfl nrScA0 ?_
  refine n_guard_yes rfl rfl rfl nrScA0 rfl ?_
  refine n_convBs (xs := ints .u8 [120]) rfl Try.underlying22 Try.underlying5 nrScA0  rfl rfl rfl (ints_one _ _) (by intro x hx d hd; simp only [ints, List.map_cons, List.map_nil, List.mem_cons, List.not_mem_nil, or_false] at hx; subst hx; simp only [List.mem_cons, List.not_mem_nil, or_false] at hd; subst hd; rfl) nrScA0 ?_
  refine n_guard_yes rfl rfl rfl nrScA0 rfl ?_
  refine n_call0B rfl cf40 rfl (Eq.trans (by simp only [nl] <;> rfl) nrScA0) (by repeat (first | exact .nil | refine .cons ?_ ?_ | exact ren_ints | exact .lf (.val _) | exact .lf (lf_ints (.inl rfl)) | exact .bp ⟨rfl, rfl⟩ | exact .bp (.inl ⟨rfl, rfl⟩) | exact .bp (.inr ⟨rfl, rfl⟩) | exact ren_bys0 rfl | exact .lf (D.flat_lf rfl) | exact ren_lits rfl | exact .lf (lf_ssz _) | exact .lf (lf_pqz _) | exact ren_q0 rfl | exact ren_pq rfl | exact ren_nl0 | exact ren_sq | exact .lf (.fn (fun d h => by cases h) (fun d h => by cases h)))) (he) lfScA0 ?_
  refine n_pick rfl nrScA0 nrScA0 ?_
  refine n_move rfl nrScA0 ?_
  refine n_guard_yes rfl rfl rfl nrScA0 rfl ?_
  refine n_move rfl nrScA0 ?_
  refine n_guard_yes rfl rfl rfl nrScA0 rfl ?_
  refine n_not rfl nrScA0 rfl ?_
  refine n_pick rfl nrScA0 nrScA0 ?_
  refine n_assign rfl nrScA0 ?_
  refine AOps.nil ?_
  refine AWP.ret ?_
  refine fin_pure (.cons (rv_tmp nrScA0) .nil) nrScA0 ?_
  exact ren_flat rfl rfl

end Go.Proofs.Ytanfmpkjcoolmaa.Sc
