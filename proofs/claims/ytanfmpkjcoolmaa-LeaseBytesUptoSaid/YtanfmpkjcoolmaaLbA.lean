/- The bytes of leases. -/
import Derived.Test.YtanfmpkjcoolmaaLsB
import Derived.Test.YtanfmpkjcoolmaaRdA
import Derived.Test.YtanfmpkjcoolmaaLeaseBytesPlain
import Derived.KernelRfl
set_option linter.unusedVariables false
set_option linter.unusedSimpArgs false
namespace Go.Proofs.Ytanfmpkjcoolmaa.Lb
open Go Go.Abs Go.Proofs.Ytanfmpkjcoolmaa.Pk
attribute [local irreducible] AWP AOps Does

theorem cf121 : CF Try.prog 121 := ⟨_, Try.func121, by kernel_rfl, by kernel_rfl⟩
theorem cf122 : CF Try.prog 122 := ⟨_, Try.func122, by kernel_rfl, by kernel_rfl⟩
theorem cf123 : CF Try.prog 123 := ⟨_, Try.func123, by kernel_rfl, by kernel_rfl⟩
theorem cf124 : CF Try.prog 124 := ⟨_, Try.func124, by kernel_rfl, by kernel_rfl⟩
theorem cf198 : CF Try.prog 198 := ⟨_, Try.func198, by kernel_rfl, by kernel_rfl⟩
theorem cf200 : CF Try.prog 200 := ⟨_, Try.func200, by kernel_rfl, by kernel_rfl⟩
theorem cf217 : CF Try.prog 217 := ⟨_, Try.func217, by kernel_rfl, by kernel_rfl⟩
theorem cf218 : CF Try.prog 218 := ⟨_, Try.func218, by kernel_rfl, by kernel_rfl⟩
theorem cf40 : CF Try.prog 40 := ⟨_, Try.func40, by kernel_rfl, by kernel_rfl⟩
theorem cf45 : CF Try.prog 45 := ⟨_, Try.func45, by kernel_rfl, by kernel_rfl⟩
theorem cf50 : CF Try.prog 50 := ⟨_, Try.func50, by kernel_rfl, by kernel_rfl⟩
theorem cf51 : CF Try.prog 51 := ⟨_, Try.func51, by kernel_rfl, by kernel_rfl⟩
theorem cf75 : CF Try.prog 75 := ⟨_, Try.func75, by kernel_rfl, by kernel_rfl⟩
theorem cf76 : CF Try.prog 76 := ⟨_, Try.func76, by kernel_rfl, by kernel_rfl⟩
theorem cf84 : CF Try.prog 84 := ⟨_, Try.func84, by kernel_rfl, by kernel_rfl⟩
theorem cf85 : CF Try.prog 85 := ⟨_, Try.func85, by kernel_rfl, by kernel_rfl⟩
theorem cf89 : CF Try.prog 89 := ⟨_, Try.func89, by kernel_rfl, by kernel_rfl⟩
theorem cf91 : CF Try.prog 91 := ⟨_, Try.func91, by kernel_rfl, by kernel_rfl⟩
theorem cf92 : CF Try.prog 92 := ⟨_, Try.func92, by kernel_rfl, by kernel_rfl⟩
theorem cf94 : CF Try.prog 94 := ⟨_, Try.func94, by kernel_rfl, by kernel_rfl⟩
theorem fd40_0 : FD Try.prog 40 0 3 0 := ⟨_, _, Try.underlying40, rfl, rfl, rfl⟩
theorem fd40_1 : FD Try.prog 40 1 3 1 := ⟨_, _, Try.underlying40, rfl, rfl, rfl⟩
theorem fd40_2 : FD Try.prog 40 2 2 2 := ⟨_, _, Try.underlying40, rfl, rfl, rfl⟩
theorem fd40_3 : FD Try.prog 40 3 2 3 := ⟨_, _, Try.underlying40, rfl, rfl, rfl⟩
theorem fd40_4 : FD Try.prog 40 4 2 4 := ⟨_, _, Try.underlying40, rfl, rfl, rfl⟩
theorem fd40_5 : FD Try.prog 40 5 4 5 := ⟨_, _, Try.underlying40, rfl, rfl, rfl⟩
theorem si40 : SI Try.prog 40 #[(0, 1), (1, 1), (2, 1), (3, 1), (4, 1), (5, 1)] (.agg #[.int .i64 0, .int .i64 0, .int .i64 0, .int .i64 0, .int .i64 0, .bool false]) := ⟨⟨_, Try.underlying40, fun w => by kernel_rfl⟩, by kernel_rfl⟩
theorem ti2 : TI Try.prog 2 1 false := ⟨by kernel_rfl, by kernel_rfl⟩
theorem ti3 : TI Try.prog 3 1 false := ⟨by kernel_rfl, by kernel_rfl⟩
theorem ti4 : TI Try.prog 4 1 false := ⟨by kernel_rfl, by kernel_rfl⟩
theorem ti40 : TI Try.prog 40 6 true := ⟨by kernel_rfl, by kernel_rfl⟩
theorem ti94 : TI Try.prog 94 1 false := ⟨by kernel_rfl, by kernel_rfl⟩
theorem zi2 : (Try.prog.info? 2).map (·.zero) = some (some (.int .i64 0)) := by kernel_rfl
theorem zi40 : (Try.prog.info? 40).map (·.zero) = some (some (.agg #[.int .i64 0, .int .i64 0, .int .i64 0, .int .i64 0, .int .i64 0, .bool false])) := by kernel_rfl
theorem zi94 : (Try.prog.info? 94).map (·.zero) = some (some (.pointer none)) := by kernel_rfl

attribute [local irreducible] Up.int Up.str Up.close Up.rest Up.clr Up.spoil Up.w Up.flag
theorem l_any (u : Up) (hu : u.ok) : Does Try.prog 217 [.bp 0 0] [.box [.bp 1 0], .box (Up.z u)] (vi u.w.1) [.box [.bp 1 0], .box (Up.z u.w.2)] := by
  refine Does.of_body (rvs := [.tmp 1]) Try.func217 rfl rfl rfl rfl ?_
  refine AWP.seq ?_
  refine AWP.region ?_
  refine n_assign rfl (by first | (simp only [nf, Nat.beq] <;> rfl) | rfl) ?_
  refine AOps.nil ?_
  refine AWP.seq ?_
  refine AWP.region ?_
  refine n_load rfl ti94 (by first | (simp only [nf, Nat.beq] <;> rfl) | rfl) (by first | (simp only [nf, Nat.beq] <;> rfl) | rfl) rfl (by first | (simp only [nf, Nat.beq] <;> rfl) | rfl) ?_
  refine n_callBoxB rfl cf85 rfl (Eq.trans (by simp only [nl] <;> rfl) (by first | (simp only [nf, Nat.beq] <;> rfl) | rfl)) (by repeat (first | exact .nil | refine .cons ?_ ?_ | exact ren_ints | exact .lf (.val _) | exact .lf (lf_ints (.inl rfl)) | exact .bp ⟨rfl, rfl⟩ | exact .bp (.inl ⟨rfl, rfl⟩) | exact .bp (.inr ⟨rfl, rfl⟩) | exact .lf (D.flat_lf rfl) | exact ren_lits rfl | exact ren_ints)) (by rfl) (by repeat (first | exact .nil | refine .cons ?_ ?_ | exact ren_ints | exact .lf (.val _) | exact .lf (lf_ints (.inl rfl)) | exact .bp ⟨rfl, rfl⟩ | exact .bp (.inl ⟨rfl, rfl⟩) | exact .bp (.inr ⟨rfl, rfl⟩) | exact .lf (D.flat_lf rfl) | exact ren_lits rfl | exact ren_ints)) (Rd.U_w u hu) (by repeat (first | exact lf_nil | refine lf_cons ?_ ?_ | exact .val _ | exact lf_ints (.inl rfl))) (by first | exact .val _ | exact lf_ints (.inl rfl) | exact lf_ints (.inr rfl) | exact .any | exact D.flat_lf rfl | exact .tup (lf_cons (lf_ints (.inl rfl)) (lf_cons (.val _) lf_nil))) (by first | (simp only [nf, Nat.beq] <;> rfl) | rfl) ?_
  refine n_assign rfl (by first | (simp only [nf, Nat.beq] <;> rfl) | rfl) ?_
  refine AOps.nil ?_
  refine AWP.ret ?_
  refine fin_box2 (.cons (rv_tmp (by first | (simp only [nf, Nat.beq] <;> rfl) | rfl)) .nil) (by first | (simp only [nf, Nat.beq] <;> rfl) | rfl) ?_ rfl rfl ?_ ?_
  · exact ren_flat rfl rfl
  · exact .cons (.bp ⟨rfl, rfl⟩) .nil
  · exact renU rfl rfl

theorem l_wide (u : Up) (hu : u.ok) : Does Try.prog 218 [.bp 0 0] [.box (Up.rz u.clr)] (vi u.w.1) [.box (Up.rz u.w.2.clr)] := by
  refine Does.of_body (rvs := [.tmp 2]) Try.func218 rfl rfl rfl rfl ?_
  refine AWP.seq ?_
  refine AWP.region ?_
  refine n_assign rfl (by first | (simp only [nf, Nat.beq] <;> rfl) | rfl) ?_
  refine AOps.nil ?_
  refine AWP.seq ?_
  refine AWP.region ?_
  refine n_move rfl (by first | (simp only [nf, Nat.beq] <;> rfl) | rfl) ?_
  refine n_callBoxB rfl cf198 rfl (Eq.trans (by simp only [nl] <;> rfl) (by first | (simp only [nf, Nat.beq] <;> rfl) | rfl)) (by repeat (first | exact .nil | refine .cons ?_ ?_ | exact ren_ints | exact .lf (.val _) | exact .lf (lf_ints (.inl rfl)) | exact .bp ⟨rfl, rfl⟩ | exact .bp (.inl ⟨rfl, rfl⟩) | exact .bp (.inr ⟨rfl, rfl⟩) | exact .lf (D.flat_lf rfl) | exact ren_lits rfl | exact ren_ints)) (by rfl) (by repeat (first | exact .nil | refine .cons ?_ ?_ | exact ren_ints | exact .lf (.val _) | exact .lf (lf_ints (.inl rfl)) | exact .bp ⟨rfl, rfl⟩ | exact .bp (.inl ⟨rfl, rfl⟩) | exact .bp (.inr ⟨rfl, rfl⟩) | exact .lf (D.flat_lf rfl) | exact ren_lits rfl | exact ren_ints)) (Rd.R_w u hu) (by repeat (first | exact lf_nil | refine lf_cons ?_ ?_ | exact .val _ | exact lf_ints (.inl rfl))) (by first | exact .val _ | exact lf_ints (.inl rfl) | exact lf_ints (.inr rfl) | exact .any | exact D.flat_lf rfl | exact .tup (lf_cons (lf_ints (.inl rfl)) (lf_cons (.val _) lf_nil))) (by first | (simp only [nf, Nat.beq] <;> rfl) | rfl) ?_
  refine n_assign rfl (by first | (simp only [nf, Nat.beq] <;> rfl) | rfl) ?_
  refine AOps.nil ?_
  refine AWP.ret ?_
  refine fin_box (.cons (rv_tmp (by first | (simp only [nf, Nat.beq] <;> rfl) | rfl)) .nil) (by first | (simp only [nf, Nat.beq] <;> rfl) | rfl) ?_ rfl ?_
  · exact ren_flat rfl rfl
  · exact renR rfl rfl

theorem l_bytes (l : Ls) : Does Try.prog 121 [lz l] [] (.tup [bys l.bytes, vi l.chk]) [] := by
  refine Does.of_body (rvs := [.tmp 2, .tmp 3]) Try.func121 rfl rfl rfl rfl ?_
  refine AWP.seq ?_
  refine AWP.region ?_
  refine n_box rfl (by first | (simp only [nf, Nat.beq] <;> rfl) | rfl) rfl rfl (by first | (simp only [nf, Nat.beq] <;> rfl) | rfl) (by first | (simp only [nf, Nat.beq] <;> rfl) | rfl) ?_
  refine n_assign rfl (by first | (simp only [nf, Nat.beq] <;> rfl) | rfl) ?_
  refine n_assign rfl (by first | (simp only [nf, Nat.beq] <;> rfl) | rfl) ?_
  refine AOps.nil ?_
  refine AWP.seq ?_
  refine AWP.seq ?_
  refine AWP.region ?_
  refine n_load rfl ti40 (by first | (simp only [nf, Nat.beq] <;> rfl) | rfl) (by first | (simp only [nf, Nat.beq] <;> rfl) | rfl) rfl (by first | (simp only [nf, Nat.beq] <;> rfl) | rfl) ?_
  refine n_call0B rfl cf50 rfl (Eq.trans (by simp only [nl] <;> rfl) (by first | (simp only [nf, Nat.beq] <;> rfl) | rfl)) (by repeat (first | exact .nil | refine .cons ?_ ?_ | exact ren_ints | exact .lf (.val _) | exact .lf (lf_ints (.inl rfl)) | exact .bp ⟨rfl, rfl⟩ | exact .bp (.inl ⟨rfl, rfl⟩) | exact .bp (.inr ⟨rfl, rfl⟩) | exact .lf (D.flat_lf rfl) | exact ren_lits rfl | exact ren_ints)) (Le.l_chk _) (by first | exact .val _ | exact lf_ints (.inl rfl) | exact lf_ints (.inr rfl) | exact .any | exact D.flat_lf rfl | exact .tup (lf_cons (lf_ints (.inl rfl)) (lf_cons (.val _) lf_nil))) ?_
  refine n_assign rfl (by first | (simp only [nf, Nat.beq] <;> rfl) | rfl) ?_
  refine AOps.nil ?_
  refine AWP.seq ?_
  refine AWP.region ?_
  refine n_move rfl (by first | (simp only [nf, Nat.beq] <;> rfl) | rfl) ?_
  refine n_ibin rfl (by first | (simp only [nf, Nat.beq] <;> rfl) | rfl) (by first | (simp only [nf, Nat.beq] <;> rfl) | rfl) rfl ?_
  refine AOps.nil ?_
  refine AWP.cond (by first | (simp only [nf, Nat.beq] <;> rfl) | rfl) (fun hc1 => ?_) (fun hc1 => ?_)
  · try simp only [nh] at hc1
    have hz : l.bytes = [] := by unfold Ls.bytes; rw [if_pos hc1]
    have hz2 := hc1
    refine AWP.seq ?_
    refine AWP.region ?_
    refine n_move rfl (by first | (simp only [nf, Nat.beq] <;> rfl) | rfl) ?_
    refine n_assign rfl (by first | (simp only [nf, Nat.beq] <;> rfl) | rfl) ?_
    refine n_assign rfl (by first | (simp only [nf, Nat.beq] <;> rfl) | rfl) ?_
    refine AOps.nil ?_
    refine AWP.ret ?_
    refine fin_pure (.cons (rv_tmp (by first | (simp only [nf, Nat.beq] <;> rfl) | rfl)) (.cons (rv_tmp (by first | (simp only [nf, Nat.beq] <;> rfl) | rfl)) .nil)) (by first | (simp only [nf, Nat.beq] <;> rfl) | rfl) ?_
    refine .tup rfl (ren_two (by first | exact ren_bys0 hz | exact ren_bys hz) (ren_flat rfl (by first | rfl | rw [hz2])))
  · try simp only [nh] at hc1
    have hk := Ls.six_i64 hc1
    have hI := p_int [] l.six hk (by simp [Ls.six])
    have hz : l.bytes = forms l.six := by unfold Ls.bytes; rw [if_neg (by simp [hc1])]
    have hz2 := hc1
    refine AWP.skip ?_
    refine AWP.seq ?_
    refine AWP.region ?_
    refine n_assign rfl (by first | (simp only [nf, Nat.beq] <;> rfl) | rfl) ?_
    refine AOps.nil ?_
    refine AWP.seq ?_
    refine AWP.seq ?_
    refine AWP.region ?_
    refine n_fieldAddr rfl fd40_5 ti4 rfl (by first | (simp only [nf, Nat.beq] <;> rfl) | rfl) rfl (by first | (simp only [nf, Nat.beq] <;> rfl) | rfl) ?_
    refine n_load rfl ti4 (by first | (simp only [nf, Nat.beq] <;> rfl) | rfl) (by first | (simp only [nf, Nat.beq] <;> rfl) | rfl) rfl (by first | (simp only [nf, Nat.beq] <;> rfl) | rfl) ?_
    refine AOps.nil ?_
    refine AWP.cond (by first | (simp only [nf, Nat.beq] <;> rfl) | rfl) (fun hc2 => ?_) (fun hc2 => ?_)
    · try simp only [nh] at hc2
      have h6 : l.six = [l.o, l.la, l.e, l.c, l.u, 1] := by simp [Ls.six, hc2]
      rw [List.nil_append, h6] at hI
      rw [h6] at hz
      refine AWP.region ?_
      refine n_assign rfl (by first | (simp only [nf, Nat.beq] <;> rfl) | rfl) ?_
      refine AOps.nil ?_
      refine AWP.seq ?_
      refine AWP.region ?_
      refine n_fieldAddr rfl fd40_0 ti3 rfl (by first | (simp only [nf, Nat.beq] <;> rfl) | rfl) rfl (by first | (simp only [nf, Nat.beq] <;> rfl) | rfl) ?_
      refine n_load rfl ti3 (by first | (simp only [nf, Nat.beq] <;> rfl) | rfl) (by first | (simp only [nf, Nat.beq] <;> rfl) | rfl) rfl (by first | (simp only [nf, Nat.beq] <;> rfl) | rfl) ?_
      refine n_fieldAddr rfl fd40_1 ti3 rfl (by first | (simp only [nf, Nat.beq] <;> rfl) | rfl) rfl (by first | (simp only [nf, Nat.beq] <;> rfl) | rfl) ?_
      refine n_load rfl ti3 (by first | (simp only [nf, Nat.beq] <;> rfl) | rfl) (by first | (simp only [nf, Nat.beq] <;> rfl) | rfl) rfl (by first | (simp only [nf, Nat.beq] <;> rfl) | rfl) ?_
      refine n_fieldAddr rfl fd40_2 ti2 rfl (by first | (simp only [nf, Nat.beq] <;> rfl) | rfl) rfl (by first | (simp only [nf, Nat.beq] <;> rfl) | rfl) ?_
      refine n_load rfl ti2 (by first | (simp only [nf, Nat.beq] <;> rfl) | rfl) (by first | (simp only [nf, Nat.beq] <;> rfl) | rfl) rfl (by first | (simp only [nf, Nat.beq] <;> rfl) | rfl) ?_
      refine n_fieldAddr rfl fd40_3 ti2 rfl (by first | (simp only [nf, Nat.beq] <;> rfl) | rfl) rfl (by first | (simp only [nf, Nat.beq] <;> rfl) | rfl) ?_
      refine n_load rfl ti2 (by first | (simp only [nf, Nat.beq] <;> rfl) | rfl) (by first | (simp only [nf, Nat.beq] <;> rfl) | rfl) rfl (by first | (simp only [nf, Nat.beq] <;> rfl) | rfl) ?_
      refine n_fieldAddr rfl fd40_4 ti2 rfl (by first | (simp only [nf, Nat.beq] <;> rfl) | rfl) rfl (by first | (simp only [nf, Nat.beq] <;> rfl) | rfl) ?_
      refine n_load rfl ti2 (by first | (simp only [nf, Nat.beq] <;> rfl) | rfl) (by first | (simp only [nf, Nat.beq] <;> rfl) | rfl) rfl (by first | (simp only [nf, Nat.beq] <;> rfl) | rfl) ?_
      refine n_move rfl (by first | (simp only [nf, Nat.beq] <;> rfl) | rfl) ?_
      refine n_lit rfl Try.underlying77 ti2 zi2 rfl rfl (Eq.trans (by simp only [nl] <;> rfl) (by first | (simp only [nf, Nat.beq] <;> rfl) | rfl)) rfl (by first | (simp only [nf, Nat.beq] <;> rfl) | rfl) ?_
      refine n_callOwnB rfl cf75 rfl (Eq.trans (by simp only [nl] <;> rfl) (by first | (simp only [nf, Nat.beq] <;> rfl) | rfl)) (by repeat (first | exact .nil | refine .cons ?_ ?_ | exact ren_ints | exact .lf (.val _) | exact .lf (lf_ints (.inl rfl)) | exact .bp ⟨rfl, rfl⟩ | exact .bp (.inl ⟨rfl, rfl⟩) | exact .bp (.inr ⟨rfl, rfl⟩) | exact .lf (D.flat_lf rfl) | exact ren_lits rfl | exact ren_ints)) (hI) (by first | exact ints_lf _ _) rfl (by first | (simp only [nf, Nat.beq] <;> rfl) | rfl) ?_
      refine n_assign rfl (by first | (simp only [nf, Nat.beq] <;> rfl) | rfl) ?_
      refine n_assign rfl (by first | (simp only [nf, Nat.beq] <;> rfl) | rfl) ?_
      refine AOps.nil ?_
      refine AWP.ret ?_
      refine fin_pure (.cons (rv_tmp (by first | (simp only [nf, Nat.beq] <;> rfl) | rfl)) (.cons (rv_tmp (by first | (simp only [nf, Nat.beq] <;> rfl) | rfl)) .nil)) (by first | (simp only [nf, Nat.beq] <;> rfl) | rfl) ?_
      refine .tup rfl (ren_two (by first | exact ren_bys0 hz | exact ren_bys hz) (ren_flat rfl (by first | rfl | rw [hz2])))
    · try simp only [nh] at hc2
      have h6 : l.six = [l.o, l.la, l.e, l.c, l.u, 0] := by simp [Ls.six, hc2]
      rw [List.nil_append, h6] at hI
      rw [h6] at hz
      refine AWP.skip ?_
      refine AWP.seq ?_
      refine AWP.region ?_
      refine n_fieldAddr rfl fd40_0 ti3 rfl (by first | (simp only [nf, Nat.beq] <;> rfl) | rfl) rfl (by first | (simp only [nf, Nat.beq] <;> rfl) | rfl) ?_
      refine n_load rfl ti3 (by first | (simp only [nf, Nat.beq] <;> rfl) | rfl) (by first | (simp only [nf, Nat.beq] <;> rfl) | rfl) rfl (by first | (simp only [nf, Nat.beq] <;> rfl) | rfl) ?_
      refine n_fieldAddr rfl fd40_1 ti3 rfl (by first | (simp only [nf, Nat.beq] <;> rfl) | rfl) rfl (by first | (simp only [nf, Nat.beq] <;> rfl) | rfl) ?_
      refine n_load rfl ti3 (by first | (simp only [nf, Nat.beq] <;> rfl) | rfl) (by first | (simp only [nf, Nat.beq] <;> rfl) | rfl) rfl (by first | (simp only [nf, Nat.beq] <;> rfl) | rfl) ?_
      refine n_fieldAddr rfl fd40_2 ti2 rfl (by first | (simp only [nf, Nat.beq] <;> rfl) | rfl) rfl (by first | (simp only [nf, Nat.beq] <;> rfl) | rfl) ?_
      refine n_load rfl ti2 (by first | (simp only [nf, Nat.beq] <;> rfl) | rfl) (by first | (simp only [nf, Nat.beq] <;> rfl) | rfl) rfl (by first | (simp only [nf, Nat.beq] <;> rfl) | rfl) ?_
      refine n_fieldAddr rfl fd40_3 ti2 rfl (by first | (simp only [nf, Nat.beq] <;> rfl) | rfl) rfl (by first | (simp only [nf, Nat.beq] <;> rfl) | rfl) ?_
      refine n_load rfl ti2 (by first | (simp only [nf, Nat.beq] <;> rfl) | rfl) (by first | (simp only [nf, Nat.beq] <;> rfl) | rfl) rfl (by first | (simp only [nf, Nat.beq] <;> rfl) | rfl) ?_
      refine n_fieldAddr rfl fd40_4 ti2 rfl (by first | (simp only [nf, Nat.beq] <;> rfl) | rfl) rfl (by first | (simp only [nf, Nat.beq] <;> rfl) | rfl) ?_
      refine n_load rfl ti2 (by first | (simp only [nf, Nat.beq] <;> rfl) | rfl) (by first | (simp only [nf, Nat.beq] <;> rfl) | rfl) rfl (by first | (simp only [nf, Nat.beq] <;> rfl) | rfl) ?_
      refine n_move rfl (by first | (simp only [nf, Nat.beq] <;> rfl) | rfl) ?_
      refine n_lit rfl Try.underlying77 ti2 zi2 rfl rfl (Eq.trans (by simp only [nl] <;> rfl) (by first | (simp only [nf, Nat.beq] <;> rfl) | rfl)) rfl (by first | (simp only [nf, Nat.beq] <;> rfl) | rfl) ?_
      refine n_callOwnB rfl cf75 rfl (Eq.trans (by simp only [nl] <;> rfl) (by first | (simp only [nf, Nat.beq] <;> rfl) | rfl)) (by repeat (first | exact .nil | refine .cons ?_ ?_ | exact ren_ints | exact .lf (.val _) | exact .lf (lf_ints (.inl rfl)) | exact .bp ⟨rfl, rfl⟩ | exact .bp (.inl ⟨rfl, rfl⟩) | exact .bp (.inr ⟨rfl, rfl⟩) | exact .lf (D.flat_lf rfl) | exact ren_lits rfl | exact ren_ints)) (hI) (by first | exact ints_lf _ _) rfl (by first | (simp only [nf, Nat.beq] <;> rfl) | rfl) ?_
      refine n_assign rfl (by first | (simp only [nf, Nat.beq] <;> rfl) | rfl) ?_
      refine n_assign rfl (by first | (simp only [nf, Nat.beq] <;> rfl) | rfl) ?_
      refine AOps.nil ?_
      refine AWP.ret ?_
      refine fin_pure (.cons (rv_tmp (by first | (simp only [nf, Nat.beq] <;> rfl) | rfl)) (.cons (rv_tmp (by first | (simp only [nf, Nat.beq] <;> rfl) | rfl)) .nil)) (by first | (simp only [nf, Nat.beq] <;> rfl) | rfl) ?_
      refine .tup rfl (ren_two (by first | exact ren_bys0 hz | exact ren_bys hz) (ren_flat rfl (by first | rfl | rw [hz2])))

theorem r_bytes (l : Ls) : Does Try.prog 122 [lz l] [] (.tup [bys l.bytes, vi l.chk]) [] := by
  refine Does.of_body (rvs := [.tmp 2, .tmp 3]) Try.func122 rfl rfl rfl rfl ?_
  refine AWP.seq ?_
  refine AWP.region ?_
  refine n_box rfl (by first | (simp only [nf, Nat.beq] <;> rfl) | rfl) rfl rfl (by first | (simp only [nf, Nat.beq] <;> rfl) | rfl) (by first | (simp only [nf, Nat.beq] <;> rfl) | rfl) ?_
  refine n_assign rfl (by first | (simp only [nf, Nat.beq] <;> rfl) | rfl) ?_
  refine n_assign rfl (by first | (simp only [nf, Nat.beq] <;> rfl) | rfl) ?_
  refine AOps.nil ?_
  refine AWP.seq ?_
  refine AWP.seq ?_
  refine AWP.region ?_
  refine n_load rfl ti40 (by first | (simp only [nf, Nat.beq] <;> rfl) | rfl) (by first | (simp only [nf, Nat.beq] <;> rfl) | rfl) rfl (by first | (simp only [nf, Nat.beq] <;> rfl) | rfl) ?_
  refine n_call0B rfl cf51 rfl (Eq.trans (by simp only [nl] <;> rfl) (by first | (simp only [nf, Nat.beq] <;> rfl) | rfl)) (by repeat (first | exact .nil | refine .cons ?_ ?_ | exact ren_ints | exact .lf (.val _) | exact .lf (lf_ints (.inl rfl)) | exact .bp ⟨rfl, rfl⟩ | exact .bp (.inl ⟨rfl, rfl⟩) | exact .bp (.inr ⟨rfl, rfl⟩) | exact .lf (D.flat_lf rfl) | exact ren_lits rfl | exact ren_ints)) (Le.r_chk _) (by first | exact .val _ | exact lf_ints (.inl rfl) | exact lf_ints (.inr rfl) | exact .any | exact D.flat_lf rfl | exact .tup (lf_cons (lf_ints (.inl rfl)) (lf_cons (.val _) lf_nil))) ?_
  refine n_assign rfl (by first | (simp only [nf, Nat.beq] <;> rfl) | rfl) ?_
  refine AOps.nil ?_
  refine AWP.seq ?_
  refine AWP.region ?_
  refine n_move rfl (by first | (simp only [nf, Nat.beq] <;> rfl) | rfl) ?_
  refine n_ibin rfl (by first | (simp only [nf, Nat.beq] <;> rfl) | rfl) (by first | (simp only [nf, Nat.beq] <;> rfl) | rfl) rfl ?_
  refine AOps.nil ?_
  refine AWP.cond (by first | (simp only [nf, Nat.beq] <;> rfl) | rfl) (fun hc1 => ?_) (fun hc1 => ?_)
  · try simp only [nh] at hc1
    have hz : l.bytes = [] := by unfold Ls.bytes; rw [if_pos hc1]
    have hz2 := hc1
    refine AWP.seq ?_
    refine AWP.region ?_
    refine n_move rfl (by first | (simp only [nf, Nat.beq] <;> rfl) | rfl) ?_
    refine n_assign rfl (by first | (simp only [nf, Nat.beq] <;> rfl) | rfl) ?_
    refine n_assign rfl (by first | (simp only [nf, Nat.beq] <;> rfl) | rfl) ?_
    refine AOps.nil ?_
    refine AWP.ret ?_
    refine fin_pure (.cons (rv_tmp (by first | (simp only [nf, Nat.beq] <;> rfl) | rfl)) (.cons (rv_tmp (by first | (simp only [nf, Nat.beq] <;> rfl) | rfl)) .nil)) (by first | (simp only [nf, Nat.beq] <;> rfl) | rfl) ?_
    refine .tup rfl (ren_two (by first | exact ren_bys0 hz | exact ren_bys hz) (ren_flat rfl (by first | rfl | rw [hz2])))
  · try simp only [nh] at hc1
    have hk := Ls.six_i64 hc1
    have hI := r_int [] l.six hk (by simp [Ls.six])
    have hz : l.bytes = forms l.six := by unfold Ls.bytes; rw [if_neg (by simp [hc1])]
    have hz2 := hc1
    refine AWP.skip ?_
    refine AWP.seq ?_
    refine AWP.region ?_
    refine n_assign rfl (by first | (simp only [nf, Nat.beq] <;> rfl) | rfl) ?_
    refine AOps.nil ?_
    refine AWP.seq ?_
    refine AWP.seq ?_
    refine AWP.region ?_
    refine n_fieldAddr rfl fd40_5 ti4 rfl (by first | (simp only [nf, Nat.beq] <;> rfl) | rfl) rfl (by first | (simp only [nf, Nat.beq] <;> rfl) | rfl) ?_
    refine n_load rfl ti4 (by first | (simp only [nf, Nat.beq] <;> rfl) | rfl) (by first | (simp only [nf, Nat.beq] <;> rfl) | rfl) rfl (by first | (simp only [nf, Nat.beq] <;> rfl) | rfl) ?_
    refine AOps.nil ?_
    refine AWP.cond (by first | (simp only [nf, Nat.beq] <;> rfl) | rfl) (fun hc2 => ?_) (fun hc2 => ?_)
    · try simp only [nh] at hc2
      have h6 : l.six = [l.o, l.la, l.e, l.c, l.u, 1] := by simp [Ls.six, hc2]
      rw [List.nil_append, h6] at hI
      rw [h6] at hz
      refine AWP.region ?_
      refine n_assign rfl (by first | (simp only [nf, Nat.beq] <;> rfl) | rfl) ?_
      refine AOps.nil ?_
      refine AWP.seq ?_
      refine AWP.region ?_
      refine n_fieldAddr rfl fd40_0 ti3 rfl (by first | (simp only [nf, Nat.beq] <;> rfl) | rfl) rfl (by first | (simp only [nf, Nat.beq] <;> rfl) | rfl) ?_
      refine n_load rfl ti3 (by first | (simp only [nf, Nat.beq] <;> rfl) | rfl) (by first | (simp only [nf, Nat.beq] <;> rfl) | rfl) rfl (by first | (simp only [nf, Nat.beq] <;> rfl) | rfl) ?_
      refine n_fieldAddr rfl fd40_1 ti3 rfl (by first | (simp only [nf, Nat.beq] <;> rfl) | rfl) rfl (by first | (simp only [nf, Nat.beq] <;> rfl) | rfl) ?_
      refine n_load rfl ti3 (by first | (simp only [nf, Nat.beq] <;> rfl) | rfl) (by first | (simp only [nf, Nat.beq] <;> rfl) | rfl) rfl (by first | (simp only [nf, Nat.beq] <;> rfl) | rfl) ?_
      refine n_fieldAddr rfl fd40_2 ti2 rfl (by first | (simp only [nf, Nat.beq] <;> rfl) | rfl) rfl (by first | (simp only [nf, Nat.beq] <;> rfl) | rfl) ?_
      refine n_load rfl ti2 (by first | (simp only [nf, Nat.beq] <;> rfl) | rfl) (by first | (simp only [nf, Nat.beq] <;> rfl) | rfl) rfl (by first | (simp only [nf, Nat.beq] <;> rfl) | rfl) ?_
      refine n_fieldAddr rfl fd40_3 ti2 rfl (by first | (simp only [nf, Nat.beq] <;> rfl) | rfl) rfl (by first | (simp only [nf, Nat.beq] <;> rfl) | rfl) ?_
      refine n_load rfl ti2 (by first | (simp only [nf, Nat.beq] <;> rfl) | rfl) (by first | (simp only [nf, Nat.beq] <;> rfl) | rfl) rfl (by first | (simp only [nf, Nat.beq] <;> rfl) | rfl) ?_
      refine n_fieldAddr rfl fd40_4 ti2 rfl (by first | (simp only [nf, Nat.beq] <;> rfl) | rfl) rfl (by first | (simp only [nf, Nat.beq] <;> rfl) | rfl) ?_
      refine n_load rfl ti2 (by first | (simp only [nf, Nat.beq] <;> rfl) | rfl) (by first | (simp only [nf, Nat.beq] <;> rfl) | rfl) rfl (by first | (simp only [nf, Nat.beq] <;> rfl) | rfl) ?_
      refine n_move rfl (by first | (simp only [nf, Nat.beq] <;> rfl) | rfl) ?_
      refine n_lit rfl Try.underlying77 ti2 zi2 rfl rfl (Eq.trans (by simp only [nl] <;> rfl) (by first | (simp only [nf, Nat.beq] <;> rfl) | rfl)) rfl (by first | (simp only [nf, Nat.beq] <;> rfl) | rfl) ?_
      refine n_callOwnB rfl cf76 rfl (Eq.trans (by simp only [nl] <;> rfl) (by first | (simp only [nf, Nat.beq] <;> rfl) | rfl)) (by repeat (first | exact .nil | refine .cons ?_ ?_ | exact ren_ints | exact .lf (.val _) | exact .lf (lf_ints (.inl rfl)) | exact .bp ⟨rfl, rfl⟩ | exact .bp (.inl ⟨rfl, rfl⟩) | exact .bp (.inr ⟨rfl, rfl⟩) | exact .lf (D.flat_lf rfl) | exact ren_lits rfl | exact ren_ints)) (hI) (by first | exact ints_lf _ _) rfl (by first | (simp only [nf, Nat.beq] <;> rfl) | rfl) ?_
      refine n_assign rfl (by first | (simp only [nf, Nat.beq] <;> rfl) | rfl) ?_
      refine n_assign rfl (by first | (simp only [nf, Nat.beq] <;> rfl) | rfl) ?_
      refine AOps.nil ?_
      refine AWP.ret ?_
      refine fin_pure (.cons (rv_tmp (by first | (simp only [nf, Nat.beq] <;> rfl) | rfl)) (.cons (rv_tmp (by first | (simp only [nf, Nat.beq] <;> rfl) | rfl)) .nil)) (by first | (simp only [nf, Nat.beq] <;> rfl) | rfl) ?_
      refine .tup rfl (ren_two (by first | exact ren_bys0 hz | exact ren_bys hz) (ren_flat rfl (by first | rfl | rw [hz2])))
    · try simp only [nh] at hc2
      have h6 : l.six = [l.o, l.la, l.e, l.c, l.u, 0] := by simp [Ls.six, hc2]
      rw [List.nil_append, h6] at hI
      rw [h6] at hz
      refine AWP.skip ?_
      refine AWP.seq ?_
      refine AWP.region ?_
      refine n_fieldAddr rfl fd40_0 ti3 rfl (by first | (simp only [nf, Nat.beq] <;> rfl) | rfl) rfl (by first | (simp only [nf, Nat.beq] <;> rfl) | rfl) ?_
      refine n_load rfl ti3 (by first | (simp only [nf, Nat.beq] <;> rfl) | rfl) (by first | (simp only [nf, Nat.beq] <;> rfl) | rfl) rfl (by first | (simp only [nf, Nat.beq] <;> rfl) | rfl) ?_
      refine n_fieldAddr rfl fd40_1 ti3 rfl (by first | (simp only [nf, Nat.beq] <;> rfl) | rfl) rfl (by first | (simp only [nf, Nat.beq] <;> rfl) | rfl) ?_
      refine n_load rfl ti3 (by first | (simp only [nf, Nat.beq] <;> rfl) | rfl) (by first | (simp only [nf, Nat.beq] <;> rfl) | rfl) rfl (by first | (simp only [nf, Nat.beq] <;> rfl) | rfl) ?_
      refine n_fieldAddr rfl fd40_2 ti2 rfl (by first | (simp only [nf, Nat.beq] <;> rfl) | rfl) rfl (by first | (simp only [nf, Nat.beq] <;> rfl) | rfl) ?_
      refine n_load rfl ti2 (by first | (simp only [nf, Nat.beq] <;> rfl) | rfl) (by first | (simp only [nf, Nat.beq] <;> rfl) | rfl) rfl (by first | (simp only [nf, Nat.beq] <;> rfl) | rfl) ?_
      refine n_fieldAddr rfl fd40_3 ti2 rfl (by first | (simp only [nf, Nat.beq] <;> rfl) | rfl) rfl (by first | (simp only [nf, Nat.beq] <;> rfl) | rfl) ?_
      refine n_load rfl ti2 (by first | (simp only [nf, Nat.beq] <;> rfl) | rfl) (by first | (simp only [nf, Nat.beq] <;> rfl) | rfl) rfl (by first | (simp only [nf, Nat.beq] <;> rfl) | rfl) ?_
      refine n_fieldAddr rfl fd40_4 ti2 rfl (by first | (simp only [nf, Nat.beq] <;> rfl) | rfl) rfl (by first | (simp only [nf, Nat.beq] <;> rfl) | rfl) ?_
      refine n_load rfl ti2 (by first | (simp only [nf, Nat.beq] <;> rfl) | rfl) (by first | (simp only [nf, Nat.beq] <;> rfl) | rfl) rfl (by first | (simp only [nf, Nat.beq] <;> rfl) | rfl) ?_
      refine n_move rfl (by first | (simp only [nf, Nat.beq] <;> rfl) | rfl) ?_
      refine n_lit rfl Try.underlying77 ti2 zi2 rfl rfl (Eq.trans (by simp only [nl] <;> rfl) (by first | (simp only [nf, Nat.beq] <;> rfl) | rfl)) rfl (by first | (simp only [nf, Nat.beq] <;> rfl) | rfl) ?_
      refine n_callOwnB rfl cf76 rfl (Eq.trans (by simp only [nl] <;> rfl) (by first | (simp only [nf, Nat.beq] <;> rfl) | rfl)) (by repeat (first | exact .nil | refine .cons ?_ ?_ | exact ren_ints | exact .lf (.val _) | exact .lf (lf_ints (.inl rfl)) | exact .bp ⟨rfl, rfl⟩ | exact .bp (.inl ⟨rfl, rfl⟩) | exact .bp (.inr ⟨rfl, rfl⟩) | exact .lf (D.flat_lf rfl) | exact ren_lits rfl | exact ren_ints)) (hI) (by first | exact ints_lf _ _) rfl (by first | (simp only [nf, Nat.beq] <;> rfl) | rfl) ?_
      refine n_assign rfl (by first | (simp only [nf, Nat.beq] <;> rfl) | rfl) ?_
      refine n_assign rfl (by first | (simp only [nf, Nat.beq] <;> rfl) | rfl) ?_
      refine AOps.nil ?_
      refine AWP.ret ?_
      refine fin_pure (.cons (rv_tmp (by first | (simp only [nf, Nat.beq] <;> rfl) | rfl)) (.cons (rv_tmp (by first | (simp only [nf, Nat.beq] <;> rfl) | rfl)) .nil)) (by first | (simp only [nf, Nat.beq] <;> rfl) | rfl) ?_
      refine .tup rfl (ren_two (by first | exact ren_bys0 hz | exact ren_bys hz) (ren_flat rfl (by first | rfl | rw [hz2])))

theorem l_parse (b : List Int) (hb : Byt b) (hl : L40 b) : Does Try.prog 123 [bys b] [] (.tup [lz (Ls.parse b).1, vi (Ls.parse b).2]) [] := by
  refine Does.of_body (rvs := [.cell 2 40, .tmp 3]) Try.func123 rfl rfl rfl rfl ?_
  obtain ⟨r1, hr1⟩ : ∃ r, r = (⟨b, 0⟩ : Up).w := ⟨_, rfl⟩
  have ok1 : r1.2.ok := by rw [hr1]; exact Up.w_ok ⟨hb, hl⟩
  obtain ⟨r2, hr2⟩ : ∃ r, r = r1.2.w := ⟨_, rfl⟩
  have ok2 : r2.2.ok := by rw [hr2]; exact Up.w_ok ok1
  obtain ⟨r3, hr3⟩ : ∃ r, r = r2.2.w := ⟨_, rfl⟩
  have ok3 : r3.2.ok := by rw [hr3]; exact Up.w_ok ok2
  obtain ⟨r4, hr4⟩ : ∃ r, r = r3.2.w := ⟨_, rfl⟩
  have ok4 : r4.2.ok := by rw [hr4]; exact Up.w_ok ok3
  obtain ⟨r5, hr5⟩ : ∃ r, r = r4.2.w := ⟨_, rfl⟩
  have ok5 : r5.2.ok := by rw [hr5]; exact Up.w_ok ok4
  obtain ⟨r6, hr6⟩ : ∃ r, r = r5.2.flag := ⟨_, rfl⟩
  have ok6 : r6.2.ok := by rw [hr6]; exact Up.flag_ok ok5
  have c1 := l_any ⟨b, 0⟩ ⟨hb, hl⟩
  rw [← hr1] at c1
  have c2 := l_any r1.2 ok1
  rw [← hr2] at c2
  have c3 := l_any r2.2 ok2
  rw [← hr3] at c3
  have c4 := l_any r3.2 ok3
  rw [← hr4] at c4
  have c5 := l_any r4.2 ok4
  rw [← hr5] at c5
  have c6 := Rd.U_flag r5.2 ok5
  rw [← hr6] at c6
  have c7 := Rd.U_close r6.2
  have hp : Ls.parse b = if r6.2.close ≠ 0 then (Ls.z, r6.2.close) else if (⟨r1.1, r2.1, r3.1, r4.1, r5.1, r6.1 == 1⟩ : Ls).chk ≠ 0 then (Ls.z, (⟨r1.1, r2.1, r3.1, r4.1, r5.1, r6.1 == 1⟩ : Ls).chk) else (⟨r1.1, r2.1, r3.1, r4.1, r5.1, r6.1 == 1⟩, 0) := by rw [hr6, hr5, hr4, hr3, hr2, hr1]; rfl
  refine AWP.seq ?_
  refine AWP.region ?_
  refine n_alloc rfl zi40 rfl (by first | (simp only [nf, Nat.beq] <;> rfl) | rfl) (by first | (simp only [nf, Nat.beq] <;> rfl) | rfl) ?_
  refine n_assign rfl (by first | (simp only [nf, Nat.beq] <;> rfl) | rfl) ?_
  refine AOps.nil ?_
  refine AWP.seq ?_
  refine AWP.region ?_
  refine n_move rfl (by first | (simp only [nf, Nat.beq] <;> rfl) | rfl) ?_
  refine n_callNewB rfl cf84 rfl (Eq.trans (by simp only [nl] <;> rfl) (by first | (simp only [nf, Nat.beq] <;> rfl) | rfl)) (by repeat (first | exact .nil | refine .cons ?_ ?_ | exact ren_ints | exact .lf (.val _) | exact .lf (lf_ints (.inl rfl)) | exact .bp ⟨rfl, rfl⟩ | exact .bp (.inl ⟨rfl, rfl⟩) | exact .bp (.inr ⟨rfl, rfl⟩) | exact .lf (D.flat_lf rfl) | exact ren_lits rfl | exact ren_ints)) (u_open _ (by assumption)) (by repeat (first | exact lf_nil | refine lf_cons ?_ ?_ | exact .val _ | exact lf_ints (.inl rfl))) rfl (by first | (simp only [nf, Nat.beq] <;> rfl) | rfl) ?_
  refine n_alloc rfl zi94 rfl (by first | (simp only [nf, Nat.beq] <;> rfl) | rfl) (by first | (simp only [nf, Nat.beq] <;> rfl) | rfl) ?_
  refine n_store ti94 (by first | (simp only [nf, Nat.beq] <;> rfl) | rfl) rfl (by first | (simp only [nf, Nat.beq] <;> rfl) | rfl) rfl (by first | (simp only [nf, Nat.beq] <;> rfl) | rfl) rfl rfl rfl (by first | (simp only [nf, Nat.beq] <;> rfl) | rfl) ?_
  refine AOps.nil ?_
  refine AWP.seq ?_
  refine AWP.region ?_
  refine n_makeFunc rfl (Eq.trans (by simp only [nl] <;> rfl) (by first | (simp only [nf, Nat.beq] <;> rfl) | rfl)) (Eq.trans (by simp only [nl] <;> rfl) (by first | (simp only [nf, Nat.beq] <;> rfl) | rfl)) ?_
  refine n_assign rfl (by first | (simp only [nf, Nat.beq] <;> rfl) | rfl) ?_
  refine AOps.nil ?_
  refine AWP.seq ?_
  refine AWP.region ?_
  refine n_alloc rfl zi40 rfl (by first | (simp only [nf, Nat.beq] <;> rfl) | rfl) (by first | (simp only [nf, Nat.beq] <;> rfl) | rfl) ?_
  refine AOps.nil ?_
  refine AWP.seq ?_
  refine AWP.region ?_
  refine n_move rfl (by first | (simp only [nf, Nat.beq] <;> rfl) | rfl) ?_
  refine n_callClo rfl cf217 (by first | (simp only [nf, Nat.beq] <;> rfl) | rfl) (Eq.trans (by simp only [nl] <;> rfl) (by first | (simp only [nf, Nat.beq] <;> rfl) | rfl)) (by repeat (first | exact .nil | refine .cons ?_ ?_ | exact ren_ints | exact .lf (.val _) | exact .lf (lf_ints (.inl rfl)) | exact .bp ⟨rfl, rfl⟩ | exact .bp (.inl ⟨rfl, rfl⟩) | exact .bp (.inr ⟨rfl, rfl⟩) | exact .lf (D.flat_lf rfl) | exact ren_lits rfl | exact ren_ints)) (by rfl) (by rfl) (by rfl) (by repeat (first | exact .nil | refine .cons ?_ ?_ | exact ren_ints | exact .lf (.val _) | exact .lf (lf_ints (.inl rfl)) | exact .bp ⟨rfl, rfl⟩ | exact .bp (.inl ⟨rfl, rfl⟩) | exact .bp (.inr ⟨rfl, rfl⟩) | exact .lf (D.flat_lf rfl) | exact ren_lits rfl | exact ren_ints)) (c1) (by repeat (first | exact lf_nil | refine lf_cons ?_ ?_ | exact .val _ | exact lf_ints (.inl rfl))) (by first | exact .val _ | exact lf_ints (.inl rfl) | exact lf_ints (.inr rfl) | exact .any | exact D.flat_lf rfl | exact .tup (lf_cons (lf_ints (.inl rfl)) (lf_cons (.val _) lf_nil))) (by first | (simp only [nf, Nat.beq] <;> rfl) | rfl) ?_
  refine n_fieldAddr rfl fd40_0 ti3 rfl (by first | (simp only [nf, Nat.beq] <;> rfl) | rfl) rfl (by first | (simp only [nf, Nat.beq] <;> rfl) | rfl) ?_
  refine n_store ti3 (by first | (simp only [nf, Nat.beq] <;> rfl) | rfl) rfl (by first | (simp only [nf, Nat.beq] <;> rfl) | rfl) rfl (by first | (simp only [nf, Nat.beq] <;> rfl) | rfl) rfl rfl rfl (by first | (simp only [nf, Nat.beq] <;> rfl) | rfl) ?_
  refine AOps.nil ?_
  refine AWP.seq ?_
  refine AWP.region ?_
  refine n_move rfl (by first | (simp only [nf, Nat.beq] <;> rfl) | rfl) ?_
  refine n_callClo rfl cf217 (by first | (simp only [nf, Nat.beq] <;> rfl) | rfl) (Eq.trans (by simp only [nl] <;> rfl) (by first | (simp only [nf, Nat.beq] <;> rfl) | rfl)) (by repeat (first | exact .nil | refine .cons ?_ ?_ | exact ren_ints | exact .lf (.val _) | exact .lf (lf_ints (.inl rfl)) | exact .bp ⟨rfl, rfl⟩ | exact .bp (.inl ⟨rfl, rfl⟩) | exact .bp (.inr ⟨rfl, rfl⟩) | exact .lf (D.flat_lf rfl) | exact ren_lits rfl | exact ren_ints)) (by rfl) (by rfl) (by rfl) (by repeat (first | exact .nil | refine .cons ?_ ?_ | exact ren_ints | exact .lf (.val _) | exact .lf (lf_ints (.inl rfl)) | exact .bp ⟨rfl, rfl⟩ | exact .bp (.inl ⟨rfl, rfl⟩) | exact .bp (.inr ⟨rfl, rfl⟩) | exact .lf (D.flat_lf rfl) | exact ren_lits rfl | exact ren_ints)) (c2) (by repeat (first | exact lf_nil | refine lf_cons ?_ ?_ | exact .val _ | exact lf_ints (.inl rfl))) (by first | exact .val _ | exact lf_ints (.inl rfl) | exact lf_ints (.inr rfl) | exact .any | exact D.flat_lf rfl | exact .tup (lf_cons (lf_ints (.inl rfl)) (lf_cons (.val _) lf_nil))) (by first | (simp only [nf, Nat.beq] <;> rfl) | rfl) ?_
  refine n_fieldAddr rfl fd40_1 ti3 rfl (by first | (simp only [nf, Nat.beq] <;> rfl) | rfl) rfl (by first | (simp only [nf, Nat.beq] <;> rfl) | rfl) ?_
  refine n_store ti3 (by first | (simp only [nf, Nat.beq] <;> rfl) | rfl) rfl (by first | (simp only [nf, Nat.beq] <;> rfl) | rfl) rfl (by first | (simp only [nf, Nat.beq] <;> rfl) | rfl) rfl rfl rfl (by first | (simp only [nf, Nat.beq] <;> rfl) | rfl) ?_
  refine AOps.nil ?_
  refine AWP.seq ?_
  refine AWP.region ?_
  refine n_move rfl (by first | (simp only [nf, Nat.beq] <;> rfl) | rfl) ?_
  refine n_callClo rfl cf217 (by first | (simp only [nf, Nat.beq] <;> rfl) | rfl) (Eq.trans (by simp only [nl] <;> rfl) (by first | (simp only [nf, Nat.beq] <;> rfl) | rfl)) (by repeat (first | exact .nil | refine .cons ?_ ?_ | exact ren_ints | exact .lf (.val _) | exact .lf (lf_ints (.inl rfl)) | exact .bp ⟨rfl, rfl⟩ | exact .bp (.inl ⟨rfl, rfl⟩) | exact .bp (.inr ⟨rfl, rfl⟩) | exact .lf (D.flat_lf rfl) | exact ren_lits rfl | exact ren_ints)) (by rfl) (by rfl) (by rfl) (by repeat (first | exact .nil | refine .cons ?_ ?_ | exact ren_ints | exact .lf (.val _) | exact .lf (lf_ints (.inl rfl)) | exact .bp ⟨rfl, rfl⟩ | exact .bp (.inl ⟨rfl, rfl⟩) | exact .bp (.inr ⟨rfl, rfl⟩) | exact .lf (D.flat_lf rfl) | exact ren_lits rfl | exact ren_ints)) (c3) (by repeat (first | exact lf_nil | refine lf_cons ?_ ?_ | exact .val _ | exact lf_ints (.inl rfl))) (by first | exact .val _ | exact lf_ints (.inl rfl) | exact lf_ints (.inr rfl) | exact .any | exact D.flat_lf rfl | exact .tup (lf_cons (lf_ints (.inl rfl)) (lf_cons (.val _) lf_nil))) (by first | (simp only [nf, Nat.beq] <;> rfl) | rfl) ?_
  refine n_fieldAddr rfl fd40_2 ti2 rfl (by first | (simp only [nf, Nat.beq] <;> rfl) | rfl) rfl (by first | (simp only [nf, Nat.beq] <;> rfl) | rfl) ?_
  refine n_store ti2 (by first | (simp only [nf, Nat.beq] <;> rfl) | rfl) rfl (by first | (simp only [nf, Nat.beq] <;> rfl) | rfl) rfl (by first | (simp only [nf, Nat.beq] <;> rfl) | rfl) rfl rfl rfl (by first | (simp only [nf, Nat.beq] <;> rfl) | rfl) ?_
  refine AOps.nil ?_
  refine AWP.seq ?_
  refine AWP.region ?_
  refine n_move rfl (by first | (simp only [nf, Nat.beq] <;> rfl) | rfl) ?_
  refine n_callClo rfl cf217 (by first | (simp only [nf, Nat.beq] <;> rfl) | rfl) (Eq.trans (by simp only [nl] <;> rfl) (by first | (simp only [nf, Nat.beq] <;> rfl) | rfl)) (by repeat (first | exact .nil | refine .cons ?_ ?_ | exact ren_ints | exact .lf (.val _) | exact .lf (lf_ints (.inl rfl)) | exact .bp ⟨rfl, rfl⟩ | exact .bp (.inl ⟨rfl, rfl⟩) | exact .bp (.inr ⟨rfl, rfl⟩) | exact .lf (D.flat_lf rfl) | exact ren_lits rfl | exact ren_ints)) (by rfl) (by rfl) (by rfl) (by repeat (first | exact .nil | refine .cons ?_ ?_ | exact ren_ints | exact .lf (.val _) | exact .lf (lf_ints (.inl rfl)) | exact .bp ⟨rfl, rfl⟩ | exact .bp (.inl ⟨rfl, rfl⟩) | exact .bp (.inr ⟨rfl, rfl⟩) | exact .lf (D.flat_lf rfl) | exact ren_lits rfl | exact ren_ints)) (c4) (by repeat (first | exact lf_nil | refine lf_cons ?_ ?_ | exact .val _ | exact lf_ints (.inl rfl))) (by first | exact .val _ | exact lf_ints (.inl rfl) | exact lf_ints (.inr rfl) | exact .any | exact D.flat_lf rfl | exact .tup (lf_cons (lf_ints (.inl rfl)) (lf_cons (.val _) lf_nil))) (by first | (simp only [nf, Nat.beq] <;> rfl) | rfl) ?_
  refine n_fieldAddr rfl fd40_3 ti2 rfl (by first | (simp only [nf, Nat.beq] <;> rfl) | rfl) rfl (by first | (simp only [nf, Nat.beq] <;> rfl) | rfl) ?_
  refine n_store ti2 (by first | (simp only [nf, Nat.beq] <;> rfl) | rfl) rfl (by first | (simp only [nf, Nat.beq] <;> rfl) | rfl) rfl (by first | (simp only [nf, Nat.beq] <;> rfl) | rfl) rfl rfl rfl (by first | (simp only [nf, Nat.beq] <;> rfl) | rfl) ?_
  refine AOps.nil ?_
  refine AWP.seq ?_
  refine AWP.region ?_
  refine n_move rfl (by first | (simp only [nf, Nat.beq] <;> rfl) | rfl) ?_
  refine n_callClo rfl cf217 (by first | (simp only [nf, Nat.beq] <;> rfl) | rfl) (Eq.trans (by simp only [nl] <;> rfl) (by first | (simp only [nf, Nat.beq] <;> rfl) | rfl)) (by repeat (first | exact .nil | refine .cons ?_ ?_ | exact ren_ints | exact .lf (.val _) | exact .lf (lf_ints (.inl rfl)) | exact .bp ⟨rfl, rfl⟩ | exact .bp (.inl ⟨rfl, rfl⟩) | exact .bp (.inr ⟨rfl, rfl⟩) | exact .lf (D.flat_lf rfl) | exact ren_lits rfl | exact ren_ints)) (by rfl) (by rfl) (by rfl) (by repeat (first | exact .nil | refine .cons ?_ ?_ | exact ren_ints | exact .lf (.val _) | exact .lf (lf_ints (.inl rfl)) | exact .bp ⟨rfl, rfl⟩ | exact .bp (.inl ⟨rfl, rfl⟩) | exact .bp (.inr ⟨rfl, rfl⟩) | exact .lf (D.flat_lf rfl) | exact ren_lits rfl | exact ren_ints)) (c5) (by repeat (first | exact lf_nil | refine lf_cons ?_ ?_ | exact .val _ | exact lf_ints (.inl rfl))) (by first | exact .val _ | exact lf_ints (.inl rfl) | exact lf_ints (.inr rfl) | exact .any | exact D.flat_lf rfl | exact .tup (lf_cons (lf_ints (.inl rfl)) (lf_cons (.val _) lf_nil))) (by first | (simp only [nf, Nat.beq] <;> rfl) | rfl) ?_
  refine n_fieldAddr rfl fd40_4 ti2 rfl (by first | (simp only [nf, Nat.beq] <;> rfl) | rfl) rfl (by first | (simp only [nf, Nat.beq] <;> rfl) | rfl) ?_
  refine n_store ti2 (by first | (simp only [nf, Nat.beq] <;> rfl) | rfl) rfl (by first | (simp only [nf, Nat.beq] <;> rfl) | rfl) rfl (by first | (simp only [nf, Nat.beq] <;> rfl) | rfl) rfl rfl rfl (by first | (simp only [nf, Nat.beq] <;> rfl) | rfl) ?_
  refine AOps.nil ?_
  refine AWP.seq ?_
  refine AWP.region ?_
  refine n_load rfl ti94 (by first | (simp only [nf, Nat.beq] <;> rfl) | rfl) (by first | (simp only [nf, Nat.beq] <;> rfl) | rfl) rfl (by first | (simp only [nf, Nat.beq] <;> rfl) | rfl) ?_
  refine n_callBoxB rfl cf94 rfl (Eq.trans (by simp only [nl] <;> rfl) (by first | (simp only [nf, Nat.beq] <;> rfl) | rfl)) (by repeat (first | exact .nil | refine .cons ?_ ?_ | exact ren_ints | exact .lf (.val _) | exact .lf (lf_ints (.inl rfl)) | exact .bp ⟨rfl, rfl⟩ | exact .bp (.inl ⟨rfl, rfl⟩) | exact .bp (.inr ⟨rfl, rfl⟩) | exact .lf (D.flat_lf rfl) | exact ren_lits rfl | exact ren_ints)) (by rfl) (by repeat (first | exact .nil | refine .cons ?_ ?_ | exact ren_ints | exact .lf (.val _) | exact .lf (lf_ints (.inl rfl)) | exact .bp ⟨rfl, rfl⟩ | exact .bp (.inl ⟨rfl, rfl⟩) | exact .bp (.inr ⟨rfl, rfl⟩) | exact .lf (D.flat_lf rfl) | exact ren_lits rfl | exact ren_ints)) (c6) (by repeat (first | exact lf_nil | refine lf_cons ?_ ?_ | exact .val _ | exact lf_ints (.inl rfl))) (by first | exact .val _ | exact lf_ints (.inl rfl) | exact lf_ints (.inr rfl) | exact .any | exact D.flat_lf rfl | exact .tup (lf_cons (lf_ints (.inl rfl)) (lf_cons (.val _) lf_nil))) (by first | (simp only [nf, Nat.beq] <;> rfl) | rfl) ?_
  refine n_fieldAddr rfl fd40_5 ti4 rfl (by first | (simp only [nf, Nat.beq] <;> rfl) | rfl) rfl (by first | (simp only [nf, Nat.beq] <;> rfl) | rfl) ?_
  refine n_store ti4 (by first | (simp only [nf, Nat.beq] <;> rfl) | rfl) rfl (by first | (simp only [nf, Nat.beq] <;> rfl) | rfl) rfl (by first | (simp only [nf, Nat.beq] <;> rfl) | rfl) rfl rfl rfl (by first | (simp only [nf, Nat.beq] <;> rfl) | rfl) ?_
  refine AOps.nil ?_
  refine AWP.seq ?_
  refine AWP.seq ?_
  refine AWP.region ?_
  refine n_load rfl ti94 (by first | (simp only [nf, Nat.beq] <;> rfl) | rfl) (by first | (simp only [nf, Nat.beq] <;> rfl) | rfl) rfl (by first | (simp only [nf, Nat.beq] <;> rfl) | rfl) ?_
  refine n_callBoxB rfl cf91 rfl (Eq.trans (by simp only [nl] <;> rfl) (by first | (simp only [nf, Nat.beq] <;> rfl) | rfl)) (by repeat (first | exact .nil | refine .cons ?_ ?_ | exact ren_ints | exact .lf (.val _) | exact .lf (lf_ints (.inl rfl)) | exact .bp ⟨rfl, rfl⟩ | exact .bp (.inl ⟨rfl, rfl⟩) | exact .bp (.inr ⟨rfl, rfl⟩) | exact .lf (D.flat_lf rfl) | exact ren_lits rfl | exact ren_ints)) (by rfl) (by repeat (first | exact .nil | refine .cons ?_ ?_ | exact ren_ints | exact .lf (.val _) | exact .lf (lf_ints (.inl rfl)) | exact .bp ⟨rfl, rfl⟩ | exact .bp (.inl ⟨rfl, rfl⟩) | exact .bp (.inr ⟨rfl, rfl⟩) | exact .lf (D.flat_lf rfl) | exact ren_lits rfl | exact ren_ints)) (c7) (by repeat (first | exact lf_nil | refine lf_cons ?_ ?_ | exact .val _ | exact lf_ints (.inl rfl))) (by first | exact .val _ | exact lf_ints (.inl rfl) | exact lf_ints (.inr rfl) | exact .any | exact D.flat_lf rfl | exact .tup (lf_cons (lf_ints (.inl rfl)) (lf_cons (.val _) lf_nil))) (by first | (simp only [nf, Nat.beq] <;> rfl) | rfl) ?_
  refine n_assign rfl (by first | (simp only [nf, Nat.beq] <;> rfl) | rfl) ?_
  refine AOps.nil ?_
  refine AWP.seq ?_
  refine AWP.region ?_
  refine n_move rfl (by first | (simp only [nf, Nat.beq] <;> rfl) | rfl) ?_
  refine n_ibin rfl (by first | (simp only [nf, Nat.beq] <;> rfl) | rfl) (by first | (simp only [nf, Nat.beq] <;> rfl) | rfl) rfl ?_
  refine AOps.nil ?_
  refine AWP.cond (by first | (simp only [nf, Nat.beq] <;> rfl) | rfl) (fun hc1 => ?_) (fun hc1 => ?_)
  · try simp only [nh] at hc1
    have h1 := hc1
    refine AWP.seq ?_
    refine AWP.region ?_
    refine n_build rfl si40 (Eq.trans (by simp only [nl] <;> rfl) (by first | (simp only [nf, Nat.beq] <;> rfl) | rfl)) (Eq.trans (by simp only [nl] <;> rfl) (by first | (simp only [nf, Nat.beq] <;> rfl) | rfl)) rfl ?_
    refine n_move rfl (by first | (simp only [nf, Nat.beq] <;> rfl) | rfl) ?_
    refine n_store ti40 (by first | (simp only [nf, Nat.beq] <;> rfl) | rfl) rfl (by first | (simp only [nf, Nat.beq] <;> rfl) | rfl) rfl (by first | (simp only [nf, Nat.beq] <;> rfl) | rfl) rfl rfl rfl (by first | (simp only [nf, Nat.beq] <;> rfl) | rfl) ?_
    refine n_assign rfl (by first | (simp only [nf, Nat.beq] <;> rfl) | rfl) ?_
    refine AOps.nil ?_
    refine AWP.ret ?_
    refine fin_pure (.cons (rv_cell ti40 (by first | (simp only [nf, Nat.beq] <;> rfl) | rfl) (by first | (simp only [nf, Nat.beq] <;> rfl) | rfl) rfl (by first | (simp only [nf, Nat.beq] <;> rfl) | rfl)) (.cons (rv_tmp (by first | (simp only [nf, Nat.beq] <;> rfl) | rfl)) .nil)) (by first | (simp only [nf, Nat.beq] <;> rfl) | rfl) ?_
    first | (rw [if_pos h1] at hp; rw [hp]; exact .tup rfl (ren_two (ren_flat rfl rfl) (ren_flat rfl rfl))) | (rw [if_neg (by simp [h1])] at hp; first | (rw [if_pos h2] at hp; rw [hp]; exact .tup rfl (ren_two (ren_flat rfl rfl) (ren_flat rfl rfl))) | (rw [if_neg (by simp [h2])] at hp; rw [hp]; exact .tup rfl (ren_two (ren_flat rfl rfl) (ren_flat rfl rfl))))
  · try simp only [nh] at hc1
    have h1 := hc1
    refine AWP.skip ?_
    refine AWP.seq ?_
    refine AWP.seq ?_
    refine AWP.region ?_
    refine n_load rfl ti40 (by first | (simp only [nf, Nat.beq] <;> rfl) | rfl) (by first | (simp only [nf, Nat.beq] <;> rfl) | rfl) rfl (by first | (simp only [nf, Nat.beq] <;> rfl) | rfl) ?_
    refine n_call0B rfl cf50 rfl (Eq.trans (by simp only [nl] <;> rfl) (by first | (simp only [nf, Nat.beq] <;> rfl) | rfl)) (by repeat (first | exact .nil | refine .cons ?_ ?_ | exact ren_ints | exact .lf (.val _) | exact .lf (lf_ints (.inl rfl)) | exact .bp ⟨rfl, rfl⟩ | exact .bp (.inl ⟨rfl, rfl⟩) | exact .bp (.inr ⟨rfl, rfl⟩) | exact .lf (D.flat_lf rfl) | exact ren_lits rfl | exact ren_ints)) (Le.l_chk (⟨r1.1, r2.1, r3.1, r4.1, r5.1, r6.1 == 1⟩ : Ls)) (by first | exact .val _ | exact lf_ints (.inl rfl) | exact lf_ints (.inr rfl) | exact .any | exact D.flat_lf rfl | exact .tup (lf_cons (lf_ints (.inl rfl)) (lf_cons (.val _) lf_nil))) ?_
    refine n_assign rfl (by first | (simp only [nf, Nat.beq] <;> rfl) | rfl) ?_
    refine AOps.nil ?_
    refine AWP.seq ?_
    refine AWP.region ?_
    refine n_move rfl (by first | (simp only [nf, Nat.beq] <;> rfl) | rfl) ?_
    refine n_ibin rfl (by first | (simp only [nf, Nat.beq] <;> rfl) | rfl) (by first | (simp only [nf, Nat.beq] <;> rfl) | rfl) rfl ?_
    refine AOps.nil ?_
    refine AWP.cond (by first | (simp only [nf, Nat.beq] <;> rfl) | rfl) (fun hc2 => ?_) (fun hc2 => ?_)
    · try simp only [nh] at hc2
      have h2 := hc2
      refine AWP.seq ?_
      refine AWP.region ?_
      refine n_build rfl si40 (Eq.trans (by simp only [nl] <;> rfl) (by first | (simp only [nf, Nat.beq] <;> rfl) | rfl)) (Eq.trans (by simp only [nl] <;> rfl) (by first | (simp only [nf, Nat.beq] <;> rfl) | rfl)) rfl ?_
      refine n_move rfl (by first | (simp only [nf, Nat.beq] <;> rfl) | rfl) ?_
      refine n_store ti40 (by first | (simp only [nf, Nat.beq] <;> rfl) | rfl) rfl (by first | (simp only [nf, Nat.beq] <;> rfl) | rfl) rfl (by first | (simp only [nf, Nat.beq] <;> rfl) | rfl) rfl rfl rfl (by first | (simp only [nf, Nat.beq] <;> rfl) | rfl) ?_
      refine n_assign rfl (by first | (simp only [nf, Nat.beq] <;> rfl) | rfl) ?_
      refine AOps.nil ?_
      refine AWP.ret ?_
      refine fin_pure (.cons (rv_cell ti40 (by first | (simp only [nf, Nat.beq] <;> rfl) | rfl) (by first | (simp only [nf, Nat.beq] <;> rfl) | rfl) rfl (by first | (simp only [nf, Nat.beq] <;> rfl) | rfl)) (.cons (rv_tmp (by first | (simp only [nf, Nat.beq] <;> rfl) | rfl)) .nil)) (by first | (simp only [nf, Nat.beq] <;> rfl) | rfl) ?_
      first | (rw [if_pos h1] at hp; rw [hp]; exact .tup rfl (ren_two (ren_flat rfl rfl) (ren_flat rfl rfl))) | (rw [if_neg (by simp [h1])] at hp; first | (rw [if_pos h2] at hp; rw [hp]; exact .tup rfl (ren_two (ren_flat rfl rfl) (ren_flat rfl rfl))) | (rw [if_neg (by simp [h2])] at hp; rw [hp]; exact .tup rfl (ren_two (ren_flat rfl rfl) (ren_flat rfl rfl))))
    · try simp only [nh] at hc2
      have h2 := hc2
      refine AWP.skip ?_
      refine AWP.seq ?_
      refine AWP.region ?_
      refine n_load rfl ti40 (by first | (simp only [nf, Nat.beq] <;> rfl) | rfl) (by first | (simp only [nf, Nat.beq] <;> rfl) | rfl) rfl (by first | (simp only [nf, Nat.beq] <;> rfl) | rfl) ?_
      refine n_store ti40 (by first | (simp only [nf, Nat.beq] <;> rfl) | rfl) rfl (by first | (simp only [nf, Nat.beq] <;> rfl) | rfl) rfl (by first | (simp only [nf, Nat.beq] <;> rfl) | rfl) rfl rfl rfl (by first | (simp only [nf, Nat.beq] <;> rfl) | rfl) ?_
      refine n_assign rfl (by first | (simp only [nf, Nat.beq] <;> rfl) | rfl) ?_
      refine AOps.nil ?_
      refine AWP.ret ?_
      refine fin_pure (.cons (rv_cell ti40 (by first | (simp only [nf, Nat.beq] <;> rfl) | rfl) (by first | (simp only [nf, Nat.beq] <;> rfl) | rfl) rfl (by first | (simp only [nf, Nat.beq] <;> rfl) | rfl)) (.cons (rv_tmp (by first | (simp only [nf, Nat.beq] <;> rfl) | rfl)) .nil)) (by first | (simp only [nf, Nat.beq] <;> rfl) | rfl) ?_
      first | (rw [if_pos h1] at hp; rw [hp]; exact .tup rfl (ren_two (ren_flat rfl rfl) (ren_flat rfl rfl))) | (rw [if_neg (by simp [h1])] at hp; first | (rw [if_pos h2] at hp; rw [hp]; exact .tup rfl (ren_two (ren_flat rfl rfl) (ren_flat rfl rfl))) | (rw [if_neg (by simp [h2])] at hp; rw [hp]; exact .tup rfl (ren_two (ren_flat rfl rfl) (ren_flat rfl rfl))))

theorem r_parse (b : List Int) (hb : Byt b) (hl : L40 b) : Does Try.prog 124 [bys b] [] (.tup [lz (Ls.parse b).1, vi (Ls.parse b).2]) [] := by
  refine Does.of_body (rvs := [.cell 2 40, .tmp 3]) Try.func124 rfl rfl rfl rfl ?_
  obtain ⟨r1, hr1⟩ : ∃ r, r = (⟨b, 0⟩ : Up).w := ⟨_, rfl⟩
  have ok1 : r1.2.ok := by rw [hr1]; exact Up.w_ok ⟨hb, hl⟩
  obtain ⟨r2, hr2⟩ : ∃ r, r = r1.2.w := ⟨_, rfl⟩
  have ok2 : r2.2.ok := by rw [hr2]; exact Up.w_ok ok1
  obtain ⟨r3, hr3⟩ : ∃ r, r = r2.2.w := ⟨_, rfl⟩
  have ok3 : r3.2.ok := by rw [hr3]; exact Up.w_ok ok2
  obtain ⟨r4, hr4⟩ : ∃ r, r = r3.2.w := ⟨_, rfl⟩
  have ok4 : r4.2.ok := by rw [hr4]; exact Up.w_ok ok3
  obtain ⟨r5, hr5⟩ : ∃ r, r = r4.2.w := ⟨_, rfl⟩
  have ok5 : r5.2.ok := by rw [hr5]; exact Up.w_ok ok4
  obtain ⟨r6, hr6⟩ : ∃ r, r = r5.2.flag := ⟨_, rfl⟩
  have ok6 : r6.2.ok := by rw [hr6]; exact Up.flag_ok ok5
  have c1 := l_wide ⟨b, 0⟩ ⟨hb, hl⟩
  rw [← hr1] at c1
  have c2 := l_wide r1.2 ok1
  rw [← hr2] at c2
  have c3 := l_wide r2.2 ok2
  rw [← hr3] at c3
  have c4 := l_wide r3.2 ok3
  rw [← hr4] at c4
  have c5 := l_wide r4.2 ok4
  rw [← hr5] at c5
  have c6 := Rd.R_flag r5.2 ok5
  rw [← hr6] at c6
  have c7 := Rd.R_close r6.2
  have c0 := Rd.R_open b hl
  have hp : Ls.parse b = if r6.2.close ≠ 0 then (Ls.z, r6.2.close) else if (⟨r1.1, r2.1, r3.1, r4.1, r5.1, r6.1 == 1⟩ : Ls).chk ≠ 0 then (Ls.z, (⟨r1.1, r2.1, r3.1, r4.1, r5.1, r6.1 == 1⟩ : Ls).chk) else (⟨r1.1, r2.1, r3.1, r4.1, r5.1, r6.1 == 1⟩, 0) := by rw [hr6, hr5, hr4, hr3, hr2, hr1]; rfl
  refine AWP.seq ?_
  refine AWP.region ?_
  refine n_alloc rfl zi40 rfl (by first | (simp only [nf, Nat.beq] <;> rfl) | rfl) (by first | (simp only [nf, Nat.beq] <;> rfl) | rfl) ?_
  refine n_assign rfl (by first | (simp only [nf, Nat.beq] <;> rfl) | rfl) ?_
  refine AOps.nil ?_
  refine AWP.seq ?_
  refine AWP.region ?_
  refine n_move rfl (by first | (simp only [nf, Nat.beq] <;> rfl) | rfl) ?_
  refine n_callNewB rfl cf89 rfl (Eq.trans (by simp only [nl] <;> rfl) (by first | (simp only [nf, Nat.beq] <;> rfl) | rfl)) (by repeat (first | exact .nil | refine .cons ?_ ?_ | exact ren_ints | exact .lf (.val _) | exact .lf (lf_ints (.inl rfl)) | exact .bp ⟨rfl, rfl⟩ | exact .bp (.inl ⟨rfl, rfl⟩) | exact .bp (.inr ⟨rfl, rfl⟩) | exact .lf (D.flat_lf rfl) | exact ren_lits rfl | exact ren_ints)) (c0) (by repeat (first | exact lf_nil | refine lf_cons ?_ ?_ | exact .val _ | exact lf_ints (.inl rfl))) rfl (by first | (simp only [nf, Nat.beq] <;> rfl) | rfl) ?_
  refine n_assign rfl (by first | (simp only [nf, Nat.beq] <;> rfl) | rfl) ?_
  refine AOps.nil ?_
  refine AWP.seq ?_
  refine AWP.region ?_
  refine n_move rfl (by first | (simp only [nf, Nat.beq] <;> rfl) | rfl) ?_
  refine n_callBoxB rfl cf218 rfl (Eq.trans (by simp only [nl] <;> rfl) (by first | (simp only [nf, Nat.beq] <;> rfl) | rfl)) (by repeat (first | exact .nil | refine .cons ?_ ?_ | exact ren_ints | exact .lf (.val _) | exact .lf (lf_ints (.inl rfl)) | exact .bp ⟨rfl, rfl⟩ | exact .bp (.inl ⟨rfl, rfl⟩) | exact .bp (.inr ⟨rfl, rfl⟩) | exact .lf (D.flat_lf rfl) | exact ren_lits rfl | exact ren_ints)) (by rfl) (by repeat (first | exact .nil | refine .cons ?_ ?_ | exact ren_ints | exact .lf (.val _) | exact .lf (lf_ints (.inl rfl)) | exact .bp ⟨rfl, rfl⟩ | exact .bp (.inl ⟨rfl, rfl⟩) | exact .bp (.inr ⟨rfl, rfl⟩) | exact .lf (D.flat_lf rfl) | exact ren_lits rfl | exact ren_ints)) (c1) (by repeat (first | exact lf_nil | refine lf_cons ?_ ?_ | exact .val _ | exact lf_ints (.inl rfl))) (by first | exact .val _ | exact lf_ints (.inl rfl) | exact lf_ints (.inr rfl) | exact .any | exact D.flat_lf rfl | exact .tup (lf_cons (lf_ints (.inl rfl)) (lf_cons (.val _) lf_nil))) (by first | (simp only [nf, Nat.beq] <;> rfl) | rfl) ?_
  refine n_build rfl si40 (Eq.trans (by simp only [nl] <;> rfl) (by first | (simp only [nf, Nat.beq] <;> rfl) | rfl)) (Eq.trans (by simp only [nl] <;> rfl) (by first | (simp only [nf, Nat.beq] <;> rfl) | rfl)) rfl ?_
  refine n_alloc rfl zi40 rfl (by first | (simp only [nf, Nat.beq] <;> rfl) | rfl) (by first | (simp only [nf, Nat.beq] <;> rfl) | rfl) ?_
  refine n_store ti40 (by first | (simp only [nf, Nat.beq] <;> rfl) | rfl) rfl (by first | (simp only [nf, Nat.beq] <;> rfl) | rfl) rfl (by first | (simp only [nf, Nat.beq] <;> rfl) | rfl) rfl rfl rfl (by first | (simp only [nf, Nat.beq] <;> rfl) | rfl) ?_
  refine AOps.nil ?_
  refine AWP.seq ?_
  refine AWP.region ?_
  refine n_move rfl (by first | (simp only [nf, Nat.beq] <;> rfl) | rfl) ?_
  refine n_callBoxB rfl cf218 rfl (Eq.trans (by simp only [nl] <;> rfl) (by first | (simp only [nf, Nat.beq] <;> rfl) | rfl)) (by repeat (first | exact .nil | refine .cons ?_ ?_ | exact ren_ints | exact .lf (.val _) | exact .lf (lf_ints (.inl rfl)) | exact .bp ⟨rfl, rfl⟩ | exact .bp (.inl ⟨rfl, rfl⟩) | exact .bp (.inr ⟨rfl, rfl⟩) | exact .lf (D.flat_lf rfl) | exact ren_lits rfl | exact ren_ints)) (by rfl) (by repeat (first | exact .nil | refine .cons ?_ ?_ | exact ren_ints | exact .lf (.val _) | exact .lf (lf_ints (.inl rfl)) | exact .bp ⟨rfl, rfl⟩ | exact .bp (.inl ⟨rfl, rfl⟩) | exact .bp (.inr ⟨rfl, rfl⟩) | exact .lf (D.flat_lf rfl) | exact ren_lits rfl | exact ren_ints)) (c2) (by repeat (first | exact lf_nil | refine lf_cons ?_ ?_ | exact .val _ | exact lf_ints (.inl rfl))) (by first | exact .val _ | exact lf_ints (.inl rfl) | exact lf_ints (.inr rfl) | exact .any | exact D.flat_lf rfl | exact .tup (lf_cons (lf_ints (.inl rfl)) (lf_cons (.val _) lf_nil))) (by first | (simp only [nf, Nat.beq] <;> rfl) | rfl) ?_
  refine n_fieldAddr rfl fd40_1 ti3 rfl (by first | (simp only [nf, Nat.beq] <;> rfl) | rfl) rfl (by first | (simp only [nf, Nat.beq] <;> rfl) | rfl) ?_
  refine n_store ti3 (by first | (simp only [nf, Nat.beq] <;> rfl) | rfl) rfl (by first | (simp only [nf, Nat.beq] <;> rfl) | rfl) rfl (by first | (simp only [nf, Nat.beq] <;> rfl) | rfl) rfl rfl rfl (by first | (simp only [nf, Nat.beq] <;> rfl) | rfl) ?_
  refine AOps.nil ?_
  refine AWP.seq ?_
  refine AWP.region ?_
  refine n_move rfl (by first | (simp only [nf, Nat.beq] <;> rfl) | rfl) ?_
  refine n_callBoxB rfl cf218 rfl (Eq.trans (by simp only [nl] <;> rfl) (by first | (simp only [nf, Nat.beq] <;> rfl) | rfl)) (by repeat (first | exact .nil | refine .cons ?_ ?_ | exact ren_ints | exact .lf (.val _) | exact .lf (lf_ints (.inl rfl)) | exact .bp ⟨rfl, rfl⟩ | exact .bp (.inl ⟨rfl, rfl⟩) | exact .bp (.inr ⟨rfl, rfl⟩) | exact .lf (D.flat_lf rfl) | exact ren_lits rfl | exact ren_ints)) (by rfl) (by repeat (first | exact .nil | refine .cons ?_ ?_ | exact ren_ints | exact .lf (.val _) | exact .lf (lf_ints (.inl rfl)) | exact .bp ⟨rfl, rfl⟩ | exact .bp (.inl ⟨rfl, rfl⟩) | exact .bp (.inr ⟨rfl, rfl⟩) | exact .lf (D.flat_lf rfl) | exact ren_lits rfl | exact ren_ints)) (c3) (by repeat (first | exact lf_nil | refine lf_cons ?_ ?_ | exact .val _ | exact lf_ints (.inl rfl))) (by first | exact .val _ | exact lf_ints (.inl rfl) | exact lf_ints (.inr rfl) | exact .any | exact D.flat_lf rfl | exact .tup (lf_cons (lf_ints (.inl rfl)) (lf_cons (.val _) lf_nil))) (by first | (simp only [nf, Nat.beq] <;> rfl) | rfl) ?_
  refine n_fieldAddr rfl fd40_2 ti2 rfl (by first | (simp only [nf, Nat.beq] <;> rfl) | rfl) rfl (by first | (simp only [nf, Nat.beq] <;> rfl) | rfl) ?_
  refine n_store ti2 (by first | (simp only [nf, Nat.beq] <;> rfl) | rfl) rfl (by first | (simp only [nf, Nat.beq] <;> rfl) | rfl) rfl (by first | (simp only [nf, Nat.beq] <;> rfl) | rfl) rfl rfl rfl (by first | (simp only [nf, Nat.beq] <;> rfl) | rfl) ?_
  refine AOps.nil ?_
  refine AWP.seq ?_
  refine AWP.region ?_
  refine n_move rfl (by first | (simp only [nf, Nat.beq] <;> rfl) | rfl) ?_
  refine n_callBoxB rfl cf218 rfl (Eq.trans (by simp only [nl] <;> rfl) (by first | (simp only [nf, Nat.beq] <;> rfl) | rfl)) (by repeat (first | exact .nil | refine .cons ?_ ?_ | exact ren_ints | exact .lf (.val _) | exact .lf (lf_ints (.inl rfl)) | exact .bp ⟨rfl, rfl⟩ | exact .bp (.inl ⟨rfl, rfl⟩) | exact .bp (.inr ⟨rfl, rfl⟩) | exact .lf (D.flat_lf rfl) | exact ren_lits rfl | exact ren_ints)) (by rfl) (by repeat (first | exact .nil | refine .cons ?_ ?_ | exact ren_ints | exact .lf (.val _) | exact .lf (lf_ints (.inl rfl)) | exact .bp ⟨rfl, rfl⟩ | exact .bp (.inl ⟨rfl, rfl⟩) | exact .bp (.inr ⟨rfl, rfl⟩) | exact .lf (D.flat_lf rfl) | exact ren_lits rfl | exact ren_ints)) (c4) (by repeat (first | exact lf_nil | refine lf_cons ?_ ?_ | exact .val _ | exact lf_ints (.inl rfl))) (by first | exact .val _ | exact lf_ints (.inl rfl) | exact lf_ints (.inr rfl) | exact .any | exact D.flat_lf rfl | exact .tup (lf_cons (lf_ints (.inl rfl)) (lf_cons (.val _) lf_nil))) (by first | (simp only [nf, Nat.beq] <;> rfl) | rfl) ?_
  refine n_fieldAddr rfl fd40_3 ti2 rfl (by first | (simp only [nf, Nat.beq] <;> rfl) | rfl) rfl (by first | (simp only [nf, Nat.beq] <;> rfl) | rfl) ?_
  refine n_store ti2 (by first | (simp only [nf, Nat.beq] <;> rfl) | rfl) rfl (by first | (simp only [nf, Nat.beq] <;> rfl) | rfl) rfl (by first | (simp only [nf, Nat.beq] <;> rfl) | rfl) rfl rfl rfl (by first | (simp only [nf, Nat.beq] <;> rfl) | rfl) ?_
  refine AOps.nil ?_
  refine AWP.seq ?_
  refine AWP.region ?_
  refine n_move rfl (by first | (simp only [nf, Nat.beq] <;> rfl) | rfl) ?_
  refine n_callBoxB rfl cf218 rfl (Eq.trans (by simp only [nl] <;> rfl) (by first | (simp only [nf, Nat.beq] <;> rfl) | rfl)) (by repeat (first | exact .nil | refine .cons ?_ ?_ | exact ren_ints | exact .lf (.val _) | exact .lf (lf_ints (.inl rfl)) | exact .bp ⟨rfl, rfl⟩ | exact .bp (.inl ⟨rfl, rfl⟩) | exact .bp (.inr ⟨rfl, rfl⟩) | exact .lf (D.flat_lf rfl) | exact ren_lits rfl | exact ren_ints)) (by rfl) (by repeat (first | exact .nil | refine .cons ?_ ?_ | exact ren_ints | exact .lf (.val _) | exact .lf (lf_ints (.inl rfl)) | exact .bp ⟨rfl, rfl⟩ | exact .bp (.inl ⟨rfl, rfl⟩) | exact .bp (.inr ⟨rfl, rfl⟩) | exact .lf (D.flat_lf rfl) | exact ren_lits rfl | exact ren_ints)) (c5) (by repeat (first | exact lf_nil | refine lf_cons ?_ ?_ | exact .val _ | exact lf_ints (.inl rfl))) (by first | exact .val _ | exact lf_ints (.inl rfl) | exact lf_ints (.inr rfl) | exact .any | exact D.flat_lf rfl | exact .tup (lf_cons (lf_ints (.inl rfl)) (lf_cons (.val _) lf_nil))) (by first | (simp only [nf, Nat.beq] <;> rfl) | rfl) ?_
  refine n_fieldAddr rfl fd40_4 ti2 rfl (by first | (simp only [nf, Nat.beq] <;> rfl) | rfl) rfl (by first | (simp only [nf, Nat.beq] <;> rfl) | rfl) ?_
  refine n_store ti2 (by first | (simp only [nf, Nat.beq] <;> rfl) | rfl) rfl (by first | (simp only [nf, Nat.beq] <;> rfl) | rfl) rfl (by first | (simp only [nf, Nat.beq] <;> rfl) | rfl) rfl rfl rfl (by first | (simp only [nf, Nat.beq] <;> rfl) | rfl) ?_
  refine AOps.nil ?_
  refine AWP.seq ?_
  refine AWP.region ?_
  refine n_move rfl (by first | (simp only [nf, Nat.beq] <;> rfl) | rfl) ?_
  refine n_callBoxB rfl cf200 rfl (Eq.trans (by simp only [nl] <;> rfl) (by first | (simp only [nf, Nat.beq] <;> rfl) | rfl)) (by repeat (first | exact .nil | refine .cons ?_ ?_ | exact ren_ints | exact .lf (.val _) | exact .lf (lf_ints (.inl rfl)) | exact .bp ⟨rfl, rfl⟩ | exact .bp (.inl ⟨rfl, rfl⟩) | exact .bp (.inr ⟨rfl, rfl⟩) | exact .lf (D.flat_lf rfl) | exact ren_lits rfl | exact ren_ints)) (by rfl) (by repeat (first | exact .nil | refine .cons ?_ ?_ | exact ren_ints | exact .lf (.val _) | exact .lf (lf_ints (.inl rfl)) | exact .bp ⟨rfl, rfl⟩ | exact .bp (.inl ⟨rfl, rfl⟩) | exact .bp (.inr ⟨rfl, rfl⟩) | exact .lf (D.flat_lf rfl) | exact ren_lits rfl | exact ren_ints)) (c6) (by repeat (first | exact lf_nil | refine lf_cons ?_ ?_ | exact .val _ | exact lf_ints (.inl rfl))) (by first | exact .val _ | exact lf_ints (.inl rfl) | exact lf_ints (.inr rfl) | exact .any | exact D.flat_lf rfl | exact .tup (lf_cons (lf_ints (.inl rfl)) (lf_cons (.val _) lf_nil))) (by first | (simp only [nf, Nat.beq] <;> rfl) | rfl) ?_
  refine n_fieldAddr rfl fd40_5 ti4 rfl (by first | (simp only [nf, Nat.beq] <;> rfl) | rfl) rfl (by first | (simp only [nf, Nat.beq] <;> rfl) | rfl) ?_
  refine n_store ti4 (by first | (simp only [nf, Nat.beq] <;> rfl) | rfl) rfl (by first | (simp only [nf, Nat.beq] <;> rfl) | rfl) rfl (by first | (simp only [nf, Nat.beq] <;> rfl) | rfl) rfl rfl rfl (by first | (simp only [nf, Nat.beq] <;> rfl) | rfl) ?_
  refine AOps.nil ?_
  refine AWP.seq ?_
  refine AWP.seq ?_
  refine AWP.region ?_
  refine n_move rfl (by first | (simp only [nf, Nat.beq] <;> rfl) | rfl) ?_
  refine n_callBoxB rfl cf92 rfl (Eq.trans (by simp only [nl] <;> rfl) (by first | (simp only [nf, Nat.beq] <;> rfl) | rfl)) (by repeat (first | exact .nil | refine .cons ?_ ?_ | exact ren_ints | exact .lf (.val _) | exact .lf (lf_ints (.inl rfl)) | exact .bp ⟨rfl, rfl⟩ | exact .bp (.inl ⟨rfl, rfl⟩) | exact .bp (.inr ⟨rfl, rfl⟩) | exact .lf (D.flat_lf rfl) | exact ren_lits rfl | exact ren_ints)) (by rfl) (by repeat (first | exact .nil | refine .cons ?_ ?_ | exact ren_ints | exact .lf (.val _) | exact .lf (lf_ints (.inl rfl)) | exact .bp ⟨rfl, rfl⟩ | exact .bp (.inl ⟨rfl, rfl⟩) | exact .bp (.inr ⟨rfl, rfl⟩) | exact .lf (D.flat_lf rfl) | exact ren_lits rfl | exact ren_ints)) (c7) (by repeat (first | exact lf_nil | refine lf_cons ?_ ?_ | exact .val _ | exact lf_ints (.inl rfl))) (by first | exact .val _ | exact lf_ints (.inl rfl) | exact lf_ints (.inr rfl) | exact .any | exact D.flat_lf rfl | exact .tup (lf_cons (lf_ints (.inl rfl)) (lf_cons (.val _) lf_nil))) (by first | (simp only [nf, Nat.beq] <;> rfl) | rfl) ?_
  refine n_assign rfl (by first | (simp only [nf, Nat.beq] <;> rfl) | rfl) ?_
  refine AOps.nil ?_
  refine AWP.seq ?_
  refine AWP.region ?_
  refine n_move rfl (by first | (simp only [nf, Nat.beq] <;> rfl) | rfl) ?_
  refine n_ibin rfl (by first | (simp only [nf, Nat.beq] <;> rfl) | rfl) (by first | (simp only [nf, Nat.beq] <;> rfl) | rfl) rfl ?_
  refine AOps.nil ?_
  refine AWP.cond (by first | (simp only [nf, Nat.beq] <;> rfl) | rfl) (fun hc1 => ?_) (fun hc1 => ?_)
  · try simp only [nh] at hc1
    have h1 := hc1
    refine AWP.seq ?_
    refine AWP.region ?_
    refine n_build rfl si40 (Eq.trans (by simp only [nl] <;> rfl) (by first | (simp only [nf, Nat.beq] <;> rfl) | rfl)) (Eq.trans (by simp only [nl] <;> rfl) (by first | (simp only [nf, Nat.beq] <;> rfl) | rfl)) rfl ?_
    refine n_move rfl (by first | (simp only [nf, Nat.beq] <;> rfl) | rfl) ?_
    refine n_store ti40 (by first | (simp only [nf, Nat.beq] <;> rfl) | rfl) rfl (by first | (simp only [nf, Nat.beq] <;> rfl) | rfl) rfl (by first | (simp only [nf, Nat.beq] <;> rfl) | rfl) rfl rfl rfl (by first | (simp only [nf, Nat.beq] <;> rfl) | rfl) ?_
    refine n_assign rfl (by first | (simp only [nf, Nat.beq] <;> rfl) | rfl) ?_
    refine AOps.nil ?_
    refine AWP.ret ?_
    refine fin_pure (.cons (rv_cell ti40 (by first | (simp only [nf, Nat.beq] <;> rfl) | rfl) (by first | (simp only [nf, Nat.beq] <;> rfl) | rfl) rfl (by first | (simp only [nf, Nat.beq] <;> rfl) | rfl)) (.cons (rv_tmp (by first | (simp only [nf, Nat.beq] <;> rfl) | rfl)) .nil)) (by first | (simp only [nf, Nat.beq] <;> rfl) | rfl) ?_
    first | (rw [if_pos h1] at hp; rw [hp]; exact .tup rfl (ren_two (ren_flat rfl rfl) (ren_flat rfl rfl))) | (rw [if_neg (by simp [h1])] at hp; first | (rw [if_pos h2] at hp; rw [hp]; exact .tup rfl (ren_two (ren_flat rfl rfl) (ren_flat rfl rfl))) | (rw [if_neg (by simp [h2])] at hp; rw [hp]; exact .tup rfl (ren_two (ren_flat rfl rfl) (ren_flat rfl rfl))))
  · try simp only [nh] at hc1
    have h1 := hc1
    refine AWP.skip ?_
    refine AWP.seq ?_
    refine AWP.seq ?_
    refine AWP.region ?_
    refine n_load rfl ti40 (by first | (simp only [nf, Nat.beq] <;> rfl) | rfl) (by first | (simp only [nf, Nat.beq] <;> rfl) | rfl) rfl (by first | (simp only [nf, Nat.beq] <;> rfl) | rfl) ?_
    refine n_call0B rfl cf51 rfl (Eq.trans (by simp only [nl] <;> rfl) (by first | (simp only [nf, Nat.beq] <;> rfl) | rfl)) (by repeat (first | exact .nil | refine .cons ?_ ?_ | exact ren_ints | exact .lf (.val _) | exact .lf (lf_ints (.inl rfl)) | exact .bp ⟨rfl, rfl⟩ | exact .bp (.inl ⟨rfl, rfl⟩) | exact .bp (.inr ⟨rfl, rfl⟩) | exact .lf (D.flat_lf rfl) | exact ren_lits rfl | exact ren_ints)) (Le.r_chk (⟨r1.1, r2.1, r3.1, r4.1, r5.1, r6.1 == 1⟩ : Ls)) (by first | exact .val _ | exact lf_ints (.inl rfl) | exact lf_ints (.inr rfl) | exact .any | exact D.flat_lf rfl | exact .tup (lf_cons (lf_ints (.inl rfl)) (lf_cons (.val _) lf_nil))) ?_
    refine n_assign rfl (by first | (simp only [nf, Nat.beq] <;> rfl) | rfl) ?_
    refine AOps.nil ?_
    refine AWP.seq ?_
    refine AWP.region ?_
    refine n_move rfl (by first | (simp only [nf, Nat.beq] <;> rfl) | rfl) ?_
    refine n_ibin rfl (by first | (simp only [nf, Nat.beq] <;> rfl) | rfl) (by first | (simp only [nf, Nat.beq] <;> rfl) | rfl) rfl ?_
    refine AOps.nil ?_
    refine AWP.cond (by first | (simp only [nf, Nat.beq] <;> rfl) | rfl) (fun hc2 => ?_) (fun hc2 => ?_)
    · try simp only [nh] at hc2
      have h2 := hc2
      refine AWP.seq ?_
      refine AWP.region ?_
      refine n_build rfl si40 (Eq.trans (by simp only [nl] <;> rfl) (by first | (simp only [nf, Nat.beq] <;> rfl) | rfl)) (Eq.trans (by simp only [nl] <;> rfl) (by first | (simp only [nf, Nat.beq] <;> rfl) | rfl)) rfl ?_
      refine n_move rfl (by first | (simp only [nf, Nat.beq] <;> rfl) | rfl) ?_
      refine n_store ti40 (by first | (simp only [nf, Nat.beq] <;> rfl) | rfl) rfl (by first | (simp only [nf, Nat.beq] <;> rfl) | rfl) rfl (by first | (simp only [nf, Nat.beq] <;> rfl) | rfl) rfl rfl rfl (by first | (simp only [nf, Nat.beq] <;> rfl) | rfl) ?_
      refine n_assign rfl (by first | (simp only [nf, Nat.beq] <;> rfl) | rfl) ?_
      refine AOps.nil ?_
      refine AWP.ret ?_
      refine fin_pure (.cons (rv_cell ti40 (by first | (simp only [nf, Nat.beq] <;> rfl) | rfl) (by first | (simp only [nf, Nat.beq] <;> rfl) | rfl) rfl (by first | (simp only [nf, Nat.beq] <;> rfl) | rfl)) (.cons (rv_tmp (by first | (simp only [nf, Nat.beq] <;> rfl) | rfl)) .nil)) (by first | (simp only [nf, Nat.beq] <;> rfl) | rfl) ?_
      first | (rw [if_pos h1] at hp; rw [hp]; exact .tup rfl (ren_two (ren_flat rfl rfl) (ren_flat rfl rfl))) | (rw [if_neg (by simp [h1])] at hp; first | (rw [if_pos h2] at hp; rw [hp]; exact .tup rfl (ren_two (ren_flat rfl rfl) (ren_flat rfl rfl))) | (rw [if_neg (by simp [h2])] at hp; rw [hp]; exact .tup rfl (ren_two (ren_flat rfl rfl) (ren_flat rfl rfl))))
    · try simp only [nh] at hc2
      have h2 := hc2
      refine AWP.skip ?_
      refine AWP.seq ?_
      refine AWP.region ?_
      refine n_load rfl ti40 (by first | (simp only [nf, Nat.beq] <;> rfl) | rfl) (by first | (simp only [nf, Nat.beq] <;> rfl) | rfl) rfl (by first | (simp only [nf, Nat.beq] <;> rfl) | rfl) ?_
      refine n_store ti40 (by first | (simp only [nf, Nat.beq] <;> rfl) | rfl) rfl (by first | (simp only [nf, Nat.beq] <;> rfl) | rfl) rfl (by first | (simp only [nf, Nat.beq] <;> rfl) | rfl) rfl rfl rfl (by first | (simp only [nf, Nat.beq] <;> rfl) | rfl) ?_
      refine n_assign rfl (by first | (simp only [nf, Nat.beq] <;> rfl) | rfl) ?_
      refine AOps.nil ?_
      refine AWP.ret ?_
      refine fin_pure (.cons (rv_cell ti40 (by first | (simp only [nf, Nat.beq] <;> rfl) | rfl) (by first | (simp only [nf, Nat.beq] <;> rfl) | rfl) rfl (by first | (simp only [nf, Nat.beq] <;> rfl) | rfl)) (.cons (rv_tmp (by first | (simp only [nf, Nat.beq] <;> rfl) | rfl)) .nil)) (by first | (simp only [nf, Nat.beq] <;> rfl) | rfl) ?_
      first | (rw [if_pos h1] at hp; rw [hp]; exact .tup rfl (ren_two (ren_flat rfl rfl) (ren_flat rfl rfl))) | (rw [if_neg (by simp [h1])] at hp; first | (rw [if_pos h2] at hp; rw [hp]; exact .tup rfl (ren_two (ren_flat rfl rfl) (ren_flat rfl rfl))) | (rw [if_neg (by simp [h2])] at hp; rw [hp]; exact .tup rfl (ren_two (ren_flat rfl rfl) (ren_flat rfl rfl))))

theorem Bytes_calls (l : Ls) (b : List Int) (hb : Byt b) (hl : L40 b) : Does Try.prog 24 [lz l, bys b] [] (vb true) [] := by
  refine Does.of_body (rvs := [.tmp 4]) Try.func24 rfl rfl rfl rfl ?_
  have hB := l.bytes_byt
  have heq := b_equal l.bytes l.bytes hB hB
  rw [decide_eq_true rfl] at heq
  refine AWP.seq ?_
  refine AWP.region ?_
  refine n_box rfl (by first | (simp only [nf, Nat.beq] <;> rfl) | rfl) rfl rfl (by first | (simp only [nf, Nat.beq] <;> rfl) | rfl) (by first | (simp only [nf, Nat.beq] <;> rfl) | rfl) ?_
  refine n_assign rfl (by first | (simp only [nf, Nat.beq] <;> rfl) | rfl) ?_
  refine AOps.nil ?_
  refine AWP.seq ?_
  refine AWP.seq ?_
  refine AWP.region ?_
  refine n_call0B rfl cf45 rfl (Eq.trans (by simp only [nl] <;> rfl) (by first | (simp only [nf, Nat.beq] <;> rfl) | rfl)) (by repeat (first | exact .nil | refine .cons ?_ ?_ | exact ren_ints | exact .lf (.val _) | exact .lf (lf_ints (.inl rfl)) | exact .bp ⟨rfl, rfl⟩ | exact .bp (.inl ⟨rfl, rfl⟩) | exact .bp (.inr ⟨rfl, rfl⟩) | exact .lf (D.flat_lf rfl) | exact ren_lits rfl | exact ren_ints)) (Le.live) (by first | exact .val _ | exact lf_ints (.inl rfl) | exact lf_ints (.inr rfl) | exact .any | exact D.flat_lf rfl | exact .tup (lf_cons (lf_ints (.inl rfl)) (lf_cons (.val _) lf_nil))) ?_
  refine n_not rfl (by first | (simp only [nf, Nat.beq] <;> rfl) | rfl) rfl ?_
  refine AOps.nil ?_
  refine AWP.cond_false (by first | (simp only [nf, Nat.beq] <;> rfl) | rfl) ?_
  refine AWP.skip ?_
  refine AWP.seq ?_
  refine AWP.region ?_
  refine n_load rfl ti40 (by first | (simp only [nf, Nat.beq] <;> rfl) | rfl) (by first | (simp only [nf, Nat.beq] <;> rfl) | rfl) rfl (by first | (simp only [nf, Nat.beq] <;> rfl) | rfl) ?_
  refine n_call0B rfl cf121 rfl (Eq.trans (by simp only [nl] <;> rfl) (by first | (simp only [nf, Nat.beq] <;> rfl) | rfl)) (by repeat (first | exact .nil | refine .cons ?_ ?_ | exact ren_ints | exact .lf (.val _) | exact .lf (lf_ints (.inl rfl)) | exact .bp ⟨rfl, rfl⟩ | exact .bp (.inl ⟨rfl, rfl⟩) | exact .bp (.inr ⟨rfl, rfl⟩) | exact .lf (D.flat_lf rfl) | exact ren_lits rfl | exact ren_ints)) (l_bytes l) (by first | exact .val _ | exact lf_ints (.inl rfl) | exact lf_ints (.inr rfl) | exact .any | exact D.flat_lf rfl | exact .tup (lf_cons (lf_ints (.inl rfl)) (lf_cons (.val _) lf_nil))) ?_
  refine n_move rfl (by first | (simp only [nf, Nat.beq] <;> rfl) | rfl) ?_
  refine n_extract rfl (by first | (simp only [nf, Nat.beq] <;> rfl) | rfl) rfl ?_
  refine n_extract rfl (by first | (simp only [nf, Nat.beq] <;> rfl) | rfl) rfl ?_
  refine n_assign rfl (by first | (simp only [nf, Nat.beq] <;> rfl) | rfl) ?_
  refine n_assign rfl (by first | (simp only [nf, Nat.beq] <;> rfl) | rfl) ?_
  refine AOps.nil ?_
  refine AWP.seq ?_
  refine AWP.region ?_
  refine n_load rfl ti40 (by first | (simp only [nf, Nat.beq] <;> rfl) | rfl) (by first | (simp only [nf, Nat.beq] <;> rfl) | rfl) rfl (by first | (simp only [nf, Nat.beq] <;> rfl) | rfl) ?_
  refine n_call0B rfl cf122 rfl (Eq.trans (by simp only [nl] <;> rfl) (by first | (simp only [nf, Nat.beq] <;> rfl) | rfl)) (by repeat (first | exact .nil | refine .cons ?_ ?_ | exact ren_ints | exact .lf (.val _) | exact .lf (lf_ints (.inl rfl)) | exact .bp ⟨rfl, rfl⟩ | exact .bp (.inl ⟨rfl, rfl⟩) | exact .bp (.inr ⟨rfl, rfl⟩) | exact .lf (D.flat_lf rfl) | exact ren_lits rfl | exact ren_ints)) (r_bytes l) (by first | exact .val _ | exact lf_ints (.inl rfl) | exact lf_ints (.inr rfl) | exact .any | exact D.flat_lf rfl | exact .tup (lf_cons (lf_ints (.inl rfl)) (lf_cons (.val _) lf_nil))) ?_
  refine n_move rfl (by first | (simp only [nf, Nat.beq] <;> rfl) | rfl) ?_
  refine n_extract rfl (by first | (simp only [nf, Nat.beq] <;> rfl) | rfl) rfl ?_
  refine n_extract rfl (by first | (simp only [nf, Nat.beq] <;> rfl) | rfl) rfl ?_
  refine n_assign rfl (by first | (simp only [nf, Nat.beq] <;> rfl) | rfl) ?_
  refine n_assign rfl (by first | (simp only [nf, Nat.beq] <;> rfl) | rfl) ?_
  refine AOps.nil ?_
  refine AWP.seq ?_
  refine AWP.region ?_
  refine n_move rfl (by first | (simp only [nf, Nat.beq] <;> rfl) | rfl) ?_
  refine n_call0B rfl cf123 rfl (Eq.trans (by simp only [nl] <;> rfl) (by first | (simp only [nf, Nat.beq] <;> rfl) | rfl)) (by repeat (first | exact .nil | refine .cons ?_ ?_ | exact ren_ints | exact .lf (.val _) | exact .lf (lf_ints (.inl rfl)) | exact .bp ⟨rfl, rfl⟩ | exact .bp (.inl ⟨rfl, rfl⟩) | exact .bp (.inr ⟨rfl, rfl⟩) | exact .lf (D.flat_lf rfl) | exact ren_lits rfl | exact ren_ints)) (l_parse b hb hl) (by first | exact .val _ | exact lf_ints (.inl rfl) | exact lf_ints (.inr rfl) | exact .any | exact D.flat_lf rfl | exact .tup (lf_cons (lf_ints (.inl rfl)) (lf_cons (.val _) lf_nil))) ?_
  refine n_move rfl (by first | (simp only [nf, Nat.beq] <;> rfl) | rfl) ?_
  refine n_extract rfl (by first | (simp only [nf, Nat.beq] <;> rfl) | rfl) rfl ?_
  refine n_extract rfl (by first | (simp only [nf, Nat.beq] <;> rfl) | rfl) rfl ?_
  refine n_alloc rfl zi40 rfl (by first | (simp only [nf, Nat.beq] <;> rfl) | rfl) (by first | (simp only [nf, Nat.beq] <;> rfl) | rfl) ?_
  refine n_store ti40 (by first | (simp only [nf, Nat.beq] <;> rfl) | rfl) rfl (by first | (simp only [nf, Nat.beq] <;> rfl) | rfl) rfl (by first | (simp only [nf, Nat.beq] <;> rfl) | rfl) rfl rfl rfl (by first | (simp only [nf, Nat.beq] <;> rfl) | rfl) ?_
  refine n_assign rfl (by first | (simp only [nf, Nat.beq] <;> rfl) | rfl) ?_
  refine AOps.nil ?_
  refine AWP.seq ?_
  refine AWP.region ?_
  refine n_move rfl (by first | (simp only [nf, Nat.beq] <;> rfl) | rfl) ?_
  refine n_call0B rfl cf124 rfl (Eq.trans (by simp only [nl] <;> rfl) (by first | (simp only [nf, Nat.beq] <;> rfl) | rfl)) (by repeat (first | exact .nil | refine .cons ?_ ?_ | exact ren_ints | exact .lf (.val _) | exact .lf (lf_ints (.inl rfl)) | exact .bp ⟨rfl, rfl⟩ | exact .bp (.inl ⟨rfl, rfl⟩) | exact .bp (.inr ⟨rfl, rfl⟩) | exact .lf (D.flat_lf rfl) | exact ren_lits rfl | exact ren_ints)) (r_parse b hb hl) (by first | exact .val _ | exact lf_ints (.inl rfl) | exact lf_ints (.inr rfl) | exact .any | exact D.flat_lf rfl | exact .tup (lf_cons (lf_ints (.inl rfl)) (lf_cons (.val _) lf_nil))) ?_
  refine n_move rfl (by first | (simp only [nf, Nat.beq] <;> rfl) | rfl) ?_
  refine n_extract rfl (by first | (simp only [nf, Nat.beq] <;> rfl) | rfl) rfl ?_
  refine n_extract rfl (by first | (simp only [nf, Nat.beq] <;> rfl) | rfl) rfl ?_
  refine n_alloc rfl zi40 rfl (by first | (simp only [nf, Nat.beq] <;> rfl) | rfl) (by first | (simp only [nf, Nat.beq] <;> rfl) | rfl) ?_
  refine n_store ti40 (by first | (simp only [nf, Nat.beq] <;> rfl) | rfl) rfl (by first | (simp only [nf, Nat.beq] <;> rfl) | rfl) rfl (by first | (simp only [nf, Nat.beq] <;> rfl) | rfl) rfl rfl rfl (by first | (simp only [nf, Nat.beq] <;> rfl) | rfl) ?_
  refine n_assign rfl (by first | (simp only [nf, Nat.beq] <;> rfl) | rfl) ?_
  refine AOps.nil ?_
  refine AWP.seq ?_
  refine AWP.seq ?_
  refine AWP.region ?_
  refine n_move rfl (by first | (simp only [nf, Nat.beq] <;> rfl) | rfl) ?_
  refine n_move rfl (by first | (simp only [nf, Nat.beq] <;> rfl) | rfl) ?_
  refine n_call0B rfl cf40 rfl (Eq.trans (by simp only [nl] <;> rfl) (by first | (simp only [nf, Nat.beq] <;> rfl) | rfl)) (by repeat (first | exact .nil | refine .cons ?_ ?_ | exact ren_ints | exact .lf (.val _) | exact .lf (lf_ints (.inl rfl)) | exact .bp ⟨rfl, rfl⟩ | exact .bp (.inl ⟨rfl, rfl⟩) | exact .bp (.inr ⟨rfl, rfl⟩) | exact .lf (D.flat_lf rfl) | exact ren_lits rfl | exact ren_ints)) (heq) (by first | exact .val _ | exact lf_ints (.inl rfl) | exact lf_ints (.inr rfl) | exact .any | exact D.flat_lf rfl | exact .tup (lf_cons (lf_ints (.inl rfl)) (lf_cons (.val _) lf_nil))) ?_
  refine n_not rfl (by first | (simp only [nf, Nat.beq] <;> rfl) | rfl) rfl ?_
  refine n_move rfl (by first | (simp only [nf, Nat.beq] <;> rfl) | rfl) ?_
  refine AOps.name (u := 41) (fun z => .val (.bool z)) (by first | (simp only [nf, Nat.beq] <;> rfl) | rfl) (fun b41 hb41 => ?_)
  refine n_soft (u := 41) (E := .val (.bool b41)) (!b41) rfl rfl rfl (by first | (simp only [nf, Nat.beq] <;> rfl) | rfl) (by cases b41 <;> first | (intro _; rfl) | (intro h; exact absurd h (by decide))) (by cases b41 <;> first | (intro h; exact absurd h (by decide)) | (intro _; exact ⟨_, rfl, by first | (intro h; cases h; done) | decide | simp⟩)) (fun h => by
      cases b41 with
      | true => exact absurd h (by first | decide | simp)
      | false =>
        refine n_move rfl (by first | (simp only [nf, Nat.beq] <;> rfl) | rfl) ?_
        exact AOps.nil ⟨rfl, rfl, rfl⟩) ?_
  refine n_soft (u := 41) (E := .val (.bool b41)) (!b41) rfl rfl rfl (by first | (simp only [nf, Nat.beq] <;> rfl) | rfl) (by cases b41 <;> first | (intro _; rfl) | (intro h; exact absurd h (by decide))) (by cases b41 <;> first | (intro h; exact absurd h (by decide)) | (intro _; exact ⟨_, rfl, by first | (intro h; cases h; done) | decide | simp⟩)) (fun h => by
      cases b41 with
      | true => exact absurd h (by first | decide | simp)
      | false =>
        refine n_move rfl (by first | (simp only [nf, Nat.beq] <;> rfl) | rfl) ?_
        exact AOps.nil ⟨rfl, rfl, rfl⟩) ?_
  refine n_soft (u := 41) (E := .val (.bool b41)) (!b41) rfl rfl rfl (by first | (simp only [nf, Nat.beq] <;> rfl) | rfl) (by cases b41 <;> first | (intro _; rfl) | (intro h; exact absurd h (by decide))) (by cases b41 <;> first | (intro h; exact absurd h (by decide)) | (intro _; exact ⟨_, rfl, by first | (intro h; cases h; done) | decide | simp⟩)) (fun h => by
      cases b41 with
      | true => exact absurd h (by first | decide | simp)
      | false =>
        refine n_ibin rfl (by first | (simp only [nf, Nat.beq] <;> rfl) | rfl) (by first | (simp only [nf, Nat.beq] <;> rfl) | rfl) rfl ?_
        exact AOps.nil ⟨rfl, rfl, rfl⟩) ?_
  refine n_pick_or rfl (by first | (simp only [nf, Nat.beq] <;> rfl) | rfl) (fun h => by cases b41 with | true => exact absurd h (by decide) | false => exact (by first | (simp only [nf, Nat.beq] <;> rfl) | rfl)) ?_
  refine n_move rfl (by first | (simp only [nf, Nat.beq] <;> rfl) | rfl) ?_
  refine AOps.name (u := 46) (fun z => .val (.bool z)) (by first | (simp only [nf, Nat.beq] <;> rfl) | rfl) (fun b46 hb46 => ?_)
  refine n_soft (u := 46) (E := .val (.bool b46)) (!b46) rfl rfl rfl (by first | (simp only [nf, Nat.beq] <;> rfl) | rfl) (by cases b46 <;> first | (intro _; rfl) | (intro h; exact absurd h (by decide))) (by cases b46 <;> first | (intro h; exact absurd h (by decide)) | (intro _; exact ⟨_, rfl, by first | (intro h; cases h; done) | decide | simp⟩)) (fun h => by
      cases b46 with
      | true => exact absurd h (by first | decide | simp)
      | false =>
        refine n_load rfl ti40 (by first | (simp only [nf, Nat.beq] <;> rfl) | rfl) (by first | (simp only [nf, Nat.beq] <;> rfl) | rfl) rfl (by first | (simp only [nf, Nat.beq] <;> rfl) | rfl) ?_
        exact AOps.nil ⟨rfl, rfl, rfl⟩) ?_
  refine n_soft (u := 46) (E := .val (.bool b46)) (!b46) rfl rfl rfl (by first | (simp only [nf, Nat.beq] <;> rfl) | rfl) (by cases b46 <;> first | (intro _; rfl) | (intro h; exact absurd h (by decide))) (by cases b46 <;> first | (intro h; exact absurd h (by decide)) | (intro _; exact ⟨_, rfl, by first | (intro h; cases h; done) | decide | simp⟩)) (fun h => by
      cases b46 with
      | true => exact absurd h (by first | decide | simp)
      | false =>
        refine n_load rfl ti40 (by first | (simp only [nf, Nat.beq] <;> rfl) | rfl) (by first | (simp only [nf, Nat.beq] <;> rfl) | rfl) rfl (by first | (simp only [nf, Nat.beq] <;> rfl) | rfl) ?_
        exact AOps.nil ⟨rfl, rfl, rfl⟩) ?_
  refine n_soft (u := 46) (E := .val (.bool b46)) (!b46) rfl rfl rfl (by first | (simp only [nf, Nat.beq] <;> rfl) | rfl) (by cases b46 <;> first | (intro _; rfl) | (intro h; exact absurd h (by decide))) (by cases b46 <;> first | (intro h; exact absurd h (by decide)) | (intro _; exact ⟨_, rfl, by first | (intro h; cases h; done) | decide | simp⟩)) (fun h => by
      cases b46 with
      | true => exact absurd h (by first | decide | simp)
      | false =>
        refine n_stne rfl (by first | (simp only [nf, Nat.beq] <;> rfl) | rfl) (by first | (simp only [nf, Nat.beq] <;> rfl) | rfl) rfl rfl Try.underlying40 (by kernel_rfl) (by kernel_rfl) (.int rfl ti3 Try.underlying3 rfl rfl (.int rfl ti3 Try.underlying3 rfl rfl (.int rfl ti2 Try.underlying2 rfl rfl (.int rfl ti2 Try.underlying2 rfl rfl (.int rfl ti2 Try.underlying2 rfl rfl (.bool rfl ti4 Try.underlying4 rfl rfl .nil)))))) rfl ?_
        exact AOps.nil ⟨rfl, rfl, rfl⟩) ?_
  refine n_pick_or rfl (by first | (simp only [nf, Nat.beq] <;> rfl) | rfl) (fun h => by cases b46 with | true => exact absurd h (by decide) | false => exact (by first | (simp only [nf, Nat.beq] <;> rfl) | rfl)) ?_
  refine n_move rfl (by first | (simp only [nf, Nat.beq] <;> rfl) | rfl) ?_
  refine AOps.name (u := 51) (fun z => .val (.bool z)) (by first | (simp only [nf, Nat.beq] <;> rfl) | rfl) (fun b51 hb51 => ?_)
  refine n_soft (u := 51) (E := .val (.bool b51)) (!b51) rfl rfl rfl (by first | (simp only [nf, Nat.beq] <;> rfl) | rfl) (by cases b51 <;> first | (intro _; rfl) | (intro h; exact absurd h (by decide))) (by cases b51 <;> first | (intro h; exact absurd h (by decide)) | (intro _; exact ⟨_, rfl, by first | (intro h; cases h; done) | decide | simp⟩)) (fun h => by
      cases b51 with
      | true => exact absurd h (by first | decide | simp)
      | false =>
        refine n_move rfl (by first | (simp only [nf, Nat.beq] <;> rfl) | rfl) ?_
        exact AOps.nil ⟨rfl, rfl, rfl⟩) ?_
  refine n_soft (u := 51) (E := .val (.bool b51)) (!b51) rfl rfl rfl (by first | (simp only [nf, Nat.beq] <;> rfl) | rfl) (by cases b51 <;> first | (intro _; rfl) | (intro h; exact absurd h (by decide))) (by cases b51 <;> first | (intro h; exact absurd h (by decide)) | (intro _; exact ⟨_, rfl, by first | (intro h; cases h; done) | decide | simp⟩)) (fun h => by
      cases b51 with
      | true => exact absurd h (by first | decide | simp)
      | false =>
        refine n_move rfl (by first | (simp only [nf, Nat.beq] <;> rfl) | rfl) ?_
        exact AOps.nil ⟨rfl, rfl, rfl⟩) ?_
  refine n_soft (u := 51) (E := .val (.bool b51)) (!b51) rfl rfl rfl (by first | (simp only [nf, Nat.beq] <;> rfl) | rfl) (by cases b51 <;> first | (intro _; rfl) | (intro h; exact absurd h (by decide))) (by cases b51 <;> first | (intro h; exact absurd h (by decide)) | (intro _; exact ⟨_, rfl, by first | (intro h; cases h; done) | decide | simp⟩)) (fun h => by
      cases b51 with
      | true => exact absurd h (by first | decide | simp)
      | false =>
        refine n_ibin rfl (by first | (simp only [nf, Nat.beq] <;> rfl) | rfl) (by first | (simp only [nf, Nat.beq] <;> rfl) | rfl) rfl ?_
        exact AOps.nil ⟨rfl, rfl, rfl⟩) ?_
  refine n_pick_or rfl (by first | (simp only [nf, Nat.beq] <;> rfl) | rfl) (fun h => by cases b51 with | true => exact absurd h (by decide) | false => exact (by first | (simp only [nf, Nat.beq] <;> rfl) | rfl)) ?_
  subst hb41
  subst hb46
  subst hb51
  refine AOps.nil ?_
  refine AWP.cond (by first | (simp only [nf, Nat.beq] <;> rfl) | rfl) (fun hc2 => ?_) (fun hc2 => ?_)
  · try simp only [nh] at hc2
    exfalso
    simp at hc2
  · try simp only [nh] at hc2
    refine AWP.skip ?_
    refine AWP.seq ?_
    refine AWP.seq ?_
    refine AWP.region ?_
    refine n_move rfl (by first | (simp only [nf, Nat.beq] <;> rfl) | rfl) ?_
    refine n_ibin rfl (by first | (simp only [nf, Nat.beq] <;> rfl) | rfl) (by first | (simp only [nf, Nat.beq] <;> rfl) | rfl) rfl ?_
    refine AOps.nil ?_
    refine AWP.cond (by first | (simp only [nf, Nat.beq] <;> rfl) | rfl) (fun hc3 => ?_) (fun hc3 => ?_)
    · try simp only [nh] at hc3
      have hq := l_parse l.bytes hB l.bytes_l40
      rw [Ls.parse_bytes hc3] at hq
      dsimp only at hq
      refine AWP.seq ?_
      refine AWP.region ?_
      refine n_move rfl (by first | (simp only [nf, Nat.beq] <;> rfl) | rfl) ?_
      refine n_call0B rfl cf123 rfl (Eq.trans (by simp only [nl] <;> rfl) (by first | (simp only [nf, Nat.beq] <;> rfl) | rfl)) (by repeat (first | exact .nil | refine .cons ?_ ?_ | exact ren_ints | exact .lf (.val _) | exact .lf (lf_ints (.inl rfl)) | exact .bp ⟨rfl, rfl⟩ | exact .bp (.inl ⟨rfl, rfl⟩) | exact .bp (.inr ⟨rfl, rfl⟩) | exact .lf (D.flat_lf rfl) | exact ren_lits rfl | exact ren_ints)) (hq) (by first | exact .val _ | exact lf_ints (.inl rfl) | exact lf_ints (.inr rfl) | exact .any | exact D.flat_lf rfl | exact .tup (lf_cons (lf_ints (.inl rfl)) (lf_cons (.val _) lf_nil))) ?_
      refine n_move rfl (by first | (simp only [nf, Nat.beq] <;> rfl) | rfl) ?_
      refine n_extract rfl (by first | (simp only [nf, Nat.beq] <;> rfl) | rfl) rfl ?_
      refine n_extract rfl (by first | (simp only [nf, Nat.beq] <;> rfl) | rfl) rfl ?_
      refine n_alloc rfl zi40 rfl (by first | (simp only [nf, Nat.beq] <;> rfl) | rfl) (by first | (simp only [nf, Nat.beq] <;> rfl) | rfl) ?_
      refine n_store ti40 (by first | (simp only [nf, Nat.beq] <;> rfl) | rfl) rfl (by first | (simp only [nf, Nat.beq] <;> rfl) | rfl) rfl (by first | (simp only [nf, Nat.beq] <;> rfl) | rfl) rfl rfl rfl (by first | (simp only [nf, Nat.beq] <;> rfl) | rfl) ?_
      refine n_assign rfl (by first | (simp only [nf, Nat.beq] <;> rfl) | rfl) ?_
      refine AOps.nil ?_
      refine AWP.seq ?_
      refine AWP.region ?_
      refine n_move rfl (by first | (simp only [nf, Nat.beq] <;> rfl) | rfl) ?_
      refine n_ibin rfl (by first | (simp only [nf, Nat.beq] <;> rfl) | rfl) (by first | (simp only [nf, Nat.beq] <;> rfl) | rfl) rfl ?_
      refine n_move rfl (by first | (simp only [nf, Nat.beq] <;> rfl) | rfl) ?_
      refine AOps.name (u := 65) (fun z => .val (.bool z)) (by first | (simp only [nf, Nat.beq] <;> rfl) | rfl) (fun b65 hb65 => ?_)
      refine n_soft (u := 65) (E := .val (.bool b65)) (b65) rfl rfl rfl (by first | (simp only [nf, Nat.beq] <;> rfl) | rfl) (by cases b65 <;> first | (intro _; rfl) | (intro h; exact absurd h (by decide))) (by cases b65 <;> first | (intro h; exact absurd h (by decide)) | (intro _; exact ⟨_, rfl, by first | (intro h; cases h; done) | decide | simp⟩)) (fun h => by
          cases b65 with
          | false => exact absurd h (by first | decide | simp)
          | true =>
            refine n_load rfl ti40 (by first | (simp only [nf, Nat.beq] <;> rfl) | rfl) (by first | (simp only [nf, Nat.beq] <;> rfl) | rfl) rfl (by first | (simp only [nf, Nat.beq] <;> rfl) | rfl) ?_
            exact AOps.nil ⟨rfl, rfl, rfl⟩) ?_
      refine n_soft (u := 65) (E := .val (.bool b65)) (b65) rfl rfl rfl (by first | (simp only [nf, Nat.beq] <;> rfl) | rfl) (by cases b65 <;> first | (intro _; rfl) | (intro h; exact absurd h (by decide))) (by cases b65 <;> first | (intro h; exact absurd h (by decide)) | (intro _; exact ⟨_, rfl, by first | (intro h; cases h; done) | decide | simp⟩)) (fun h => by
          cases b65 with
          | false => exact absurd h (by first | decide | simp)
          | true =>
            refine n_load rfl ti40 (by first | (simp only [nf, Nat.beq] <;> rfl) | rfl) (by first | (simp only [nf, Nat.beq] <;> rfl) | rfl) rfl (by first | (simp only [nf, Nat.beq] <;> rfl) | rfl) ?_
            exact AOps.nil ⟨rfl, rfl, rfl⟩) ?_
      refine n_soft (u := 65) (E := .val (.bool b65)) (b65) rfl rfl rfl (by first | (simp only [nf, Nat.beq] <;> rfl) | rfl) (by cases b65 <;> first | (intro _; rfl) | (intro h; exact absurd h (by decide))) (by cases b65 <;> first | (intro h; exact absurd h (by decide)) | (intro _; exact ⟨_, rfl, by first | (intro h; cases h; done) | decide | simp⟩)) (fun h => by
          cases b65 with
          | false => exact absurd h (by first | decide | simp)
          | true =>
            refine n_steq rfl (by first | (simp only [nf, Nat.beq] <;> rfl) | rfl) (by first | (simp only [nf, Nat.beq] <;> rfl) | rfl) rfl rfl Try.underlying40 (by kernel_rfl) (by kernel_rfl) (.int rfl ti3 Try.underlying3 rfl rfl (.int rfl ti3 Try.underlying3 rfl rfl (.int rfl ti2 Try.underlying2 rfl rfl (.int rfl ti2 Try.underlying2 rfl rfl (.int rfl ti2 Try.underlying2 rfl rfl (.bool rfl ti4 Try.underlying4 rfl rfl .nil)))))) rfl ?_
            exact AOps.nil ⟨rfl, rfl, rfl⟩) ?_
      refine n_pick_and rfl (by first | (simp only [nf, Nat.beq] <;> rfl) | rfl) (fun h => by cases b65 with | false => exact absurd h (by decide) | true => exact (by first | (simp only [nf, Nat.beq] <;> rfl) | rfl)) ?_
      refine n_assign rfl (by first | (simp only [nf, Nat.beq] <;> rfl) | rfl) ?_
      subst hb65
      refine AOps.nil ?_
      refine AWP.ret ?_
      refine fin_pure (.cons (rv_tmp (by first | (simp only [nf, Nat.beq] <;> rfl) | rfl)) .nil) (by first | (simp only [nf, Nat.beq] <;> rfl) | rfl) ?_
      first | exact ren_flat rfl rfl | exact ren_flat rfl (congrArg vb (by simp))
    · try simp only [nh] at hc3
      refine AWP.skip ?_
      refine AWP.seq ?_
      refine AWP.region ?_
      refine n_assign rfl (by first | (simp only [nf, Nat.beq] <;> rfl) | rfl) ?_
      refine AOps.nil ?_
      refine AWP.ret ?_
      refine fin_pure (.cons (rv_tmp (by first | (simp only [nf, Nat.beq] <;> rfl) | rfl)) .nil) (by first | (simp only [nf, Nat.beq] <;> rfl) | rfl) ?_
      first | exact ren_flat rfl rfl | exact ren_flat rfl (congrArg vb (by simp))

end Go.Proofs.Ytanfmpkjcoolmaa.Lb
