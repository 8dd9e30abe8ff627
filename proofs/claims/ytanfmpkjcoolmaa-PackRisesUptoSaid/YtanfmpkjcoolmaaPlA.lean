/- The walks of the laws of chapter 1. -/
import Derived.Test.YtanfmpkjcoolmaaPkA
import Derived.KernelRfl
set_option linter.unusedVariables false
set_option linter.unusedSimpArgs false
namespace Go.Proofs.Ytanfmpkjcoolmaa.Pl
open Go Go.Abs Go.Proofs.Ytanfmpkjcoolmaa.Pk
attribute [local irreducible] AWP AOps Does

theorem cf198 : CF Try.prog 198 := ⟨_, Try.func198, by kernel_rfl, by kernel_rfl⟩
theorem cf199 : CF Try.prog 199 := ⟨_, Try.func199, by kernel_rfl, by kernel_rfl⟩
theorem cf200 : CF Try.prog 200 := ⟨_, Try.func200, by kernel_rfl, by kernel_rfl⟩
theorem cf201 : CF Try.prog 201 := ⟨_, Try.func201, by kernel_rfl, by kernel_rfl⟩
theorem cf40 : CF Try.prog 40 := ⟨_, Try.func40, by kernel_rfl, by kernel_rfl⟩
theorem cf72 : CF Try.prog 72 := ⟨_, Try.func72, by kernel_rfl, by kernel_rfl⟩
theorem cf75 : CF Try.prog 75 := ⟨_, Try.func75, by kernel_rfl, by kernel_rfl⟩
theorem cf77 : CF Try.prog 77 := ⟨_, Try.func77, by kernel_rfl, by kernel_rfl⟩
theorem cf84 : CF Try.prog 84 := ⟨_, Try.func84, by kernel_rfl, by kernel_rfl⟩
theorem cf85 : CF Try.prog 85 := ⟨_, Try.func85, by kernel_rfl, by kernel_rfl⟩
theorem cf86 : CF Try.prog 86 := ⟨_, Try.func86, by kernel_rfl, by kernel_rfl⟩
theorem cf87 : CF Try.prog 87 := ⟨_, Try.func87, by kernel_rfl, by kernel_rfl⟩
theorem cf88 : CF Try.prog 88 := ⟨_, Try.func88, by kernel_rfl, by kernel_rfl⟩
theorem cf89 : CF Try.prog 89 := ⟨_, Try.func89, by kernel_rfl, by kernel_rfl⟩
theorem cf90 : CF Try.prog 90 := ⟨_, Try.func90, by kernel_rfl, by kernel_rfl⟩
theorem cf91 : CF Try.prog 91 := ⟨_, Try.func91, by kernel_rfl, by kernel_rfl⟩
theorem cf92 : CF Try.prog 92 := ⟨_, Try.func92, by kernel_rfl, by kernel_rfl⟩
theorem cf93 : CF Try.prog 93 := ⟨_, Try.func93, by kernel_rfl, by kernel_rfl⟩
theorem cf94 : CF Try.prog 94 := ⟨_, Try.func94, by kernel_rfl, by kernel_rfl⟩
theorem fd105_0 : FD Try.prog 105 0 3 0 := ⟨_, _, Try.underlying105, rfl, rfl, rfl⟩
theorem fd105_1 : FD Try.prog 105 1 2 1 := ⟨_, _, Try.underlying105, rfl, rfl, rfl⟩
theorem fd105_2 : FD Try.prog 105 2 2 2 := ⟨_, _, Try.underlying105, rfl, rfl, rfl⟩
theorem fd105_3 : FD Try.prog 105 3 3 3 := ⟨_, _, Try.underlying105, rfl, rfl, rfl⟩
theorem fd105_4 : FD Try.prog 105 4 28 4 := ⟨_, _, Try.underlying105, rfl, rfl, rfl⟩
theorem fd108_0 : FD Try.prog 108 0 22 0 := ⟨_, _, Try.underlying108, rfl, rfl, rfl⟩
theorem fd108_1 : FD Try.prog 108 1 28 1 := ⟨_, _, Try.underlying108, rfl, rfl, rfl⟩
theorem ti105 : TI Try.prog 105 5 true := ⟨by kernel_rfl, by kernel_rfl⟩
theorem ti2 : TI Try.prog 2 1 false := ⟨by kernel_rfl, by kernel_rfl⟩
theorem ti22 : TI Try.prog 22 1 false := ⟨by kernel_rfl, by kernel_rfl⟩
theorem ti28 : TI Try.prog 28 1 false := ⟨by kernel_rfl, by kernel_rfl⟩
theorem ti3 : TI Try.prog 3 1 false := ⟨by kernel_rfl, by kernel_rfl⟩
theorem ti5 : TI Try.prog 5 1 false := ⟨by kernel_rfl, by kernel_rfl⟩
theorem zi105 : (Try.prog.info? 105).map (·.zero) = some (some (.agg #[.int .i64 0, .int .i64 0, .int .i64 0, .int .i64 0, .int .i64 0])) := by kernel_rfl
theorem zi2 : (Try.prog.info? 2).map (·.zero) = some (some (.int .i64 0)) := by kernel_rfl
theorem zi5 : (Try.prog.info? 5).map (·.zero) = some (some (.int .u8 0)) := by kernel_rfl

theorem hB1 : [] ++ forms [300, -1] = [132, 88, 1] := by simp [forms, form, formN, hiD, natN]
theorem hB2 : [132, 88, 1] ++ forms [(([7, 8] : List Int).length : Int)] ++ [7, 8] = [132, 88, 1, 4, 7, 8] := by simp [forms, form, formN, hiD, natN]
theorem byt_of {b : List Int} (h : (b.all fun x => decide (0 ≤ x) && decide (x ≤ 255)) = true) : Byt b := fun x hx => by
  have := List.all_eq_true.1 h x hx
  simpa using this
theorem i64_of {b : List Int} (h : (b.all fun x => decide (-9223372036854775808 ≤ x) && decide (x ≤ 9223372036854775807)) = true) : ∀ n ∈ b, I64 n := fun x hx => by
  have := List.all_eq_true.1 h x hx
  simpa [I64] using this
theorem live : Does Try.prog 72 [] [] (vb true) [] := by
  refine Does.of_body (rvs := [.tmp 0]) Try.func72 rfl rfl rfl rfl ?_
  have h1 := p_int [] [300, -1] (i64_of rfl) (by decide)
  rw [hB1] at h1
  have h2 := p_str [132, 88, 1] [7, 8] (by decide) (by decide)
  rw [hB2] at h2
  have h3 := b_equal [132, 88, 1, 4, 7, 8] [132, 88, 1, 4, 7, 8] (byt_of rfl) (byt_of rfl)
  rw [decide_eq_true rfl] at h3
  have h4 := u_int [132, 88, 1, 4, 7, 8] 0 0 1000 (byt_of rfl) (by decide)
  rw [show Up.int ⟨[132, 88, 1, 4, 7, 8], 0⟩ 0 1000 = (300, ⟨[1, 4, 7, 8], 0⟩) from rfl] at h4
  have h5 := u_int [1, 4, 7, 8] 0 (-5) 5 (byt_of rfl) (by decide)
  rw [show Up.int ⟨[1, 4, 7, 8], 0⟩ (-5) 5 = (-1, ⟨[4, 7, 8], 0⟩) from rfl] at h5
  have h6 := u_str [4, 7, 8] 0 9 (by omega) (byt_of rfl) (by decide)
  rw [show Up.str ⟨[4, 7, 8], 0⟩ 9 = ([7, 8], ⟨[], 0⟩) from rfl] at h6
  have h7 := b_equal [7, 8] [7, 8] (byt_of rfl) (byt_of rfl)
  rw [decide_eq_true rfl] at h7
  have h8 := u_close [] 0
  rw [show Up.close ⟨[], 0⟩ = 0 from rfl] at h8
  dsimp only at h4 h5 h6
  refine AWP.seq ?_
  refine AWP.region ?_
  refine n_assign rfl (by first | (simp only [nf, Nat.beq] <;> rfl) | rfl) ?_
  refine AOps.nil ?_
  refine AWP.seq ?_
  refine AWP.region ?_
  refine n_lit rfl Try.underlying77 ti2 zi2 rfl rfl (Eq.trans (by simp only [nl] <;> rfl) (by first | (simp only [nf, Nat.beq] <;> rfl) | rfl)) rfl (by first | (simp only [nf, Nat.beq] <;> rfl) | rfl) ?_
  refine n_callOwnB rfl cf75 rfl (Eq.trans (by simp only [nl] <;> rfl) (by first | (simp only [nf, Nat.beq] <;> rfl) | rfl)) (by repeat (first | exact .nil | refine .cons ?_ ?_ | exact ren_ints | exact .lf (.val _) | exact .lf (lf_ints (.inl rfl)) | exact .bp ⟨rfl, rfl⟩ | exact .bp (.inl ⟨rfl, rfl⟩) | exact .bp (.inr ⟨rfl, rfl⟩) | exact .lf (D.flat_lf rfl) | exact ren_lits rfl | exact ren_ints)) (h1) (by first | exact ints_lf _ _) rfl (by first | (simp only [nf, Nat.beq] <;> rfl) | rfl) ?_
  refine n_lit rfl Try.underlying22 ti5 zi5 rfl rfl (Eq.trans (by simp only [nl] <;> rfl) (by first | (simp only [nf, Nat.beq] <;> rfl) | rfl)) rfl (by first | (simp only [nf, Nat.beq] <;> rfl) | rfl) ?_
  refine n_callOwnB rfl cf77 rfl (Eq.trans (by simp only [nl] <;> rfl) (by first | (simp only [nf, Nat.beq] <;> rfl) | rfl)) (by repeat (first | exact .nil | refine .cons ?_ ?_ | exact ren_ints | exact .lf (.val _) | exact .lf (lf_ints (.inl rfl)) | exact .bp ⟨rfl, rfl⟩ | exact .bp (.inl ⟨rfl, rfl⟩) | exact .bp (.inr ⟨rfl, rfl⟩) | exact .lf (D.flat_lf rfl) | exact ren_lits rfl | exact ren_ints)) (h2) (by first | exact ints_lf _ _) rfl (by first | (simp only [nf, Nat.beq] <;> rfl) | rfl) ?_
  refine n_assign rfl (by first | (simp only [nf, Nat.beq] <;> rfl) | rfl) ?_
  refine AOps.nil ?_
  refine AWP.seq ?_
  refine AWP.region ?_
  refine n_move rfl (by first | (simp only [nf, Nat.beq] <;> rfl) | rfl) ?_
  refine n_callNewB rfl cf84 rfl (Eq.trans (by simp only [nl] <;> rfl) (by first | (simp only [nf, Nat.beq] <;> rfl) | rfl)) (by repeat (first | exact .nil | refine .cons ?_ ?_ | exact ren_ints | exact .lf (.val _) | exact .lf (lf_ints (.inl rfl)) | exact .bp ⟨rfl, rfl⟩ | exact .bp (.inl ⟨rfl, rfl⟩) | exact .bp (.inr ⟨rfl, rfl⟩) | exact .lf (D.flat_lf rfl) | exact ren_lits rfl | exact ren_ints)) (u_open [132, 88, 1, 4, 7, 8] (by decide)) (by repeat (first | exact lf_nil | refine lf_cons ?_ ?_ | exact .val _ | exact lf_ints (.inl rfl))) rfl (by first | (simp only [nf, Nat.beq] <;> rfl) | rfl) ?_
  refine n_assign rfl (by first | (simp only [nf, Nat.beq] <;> rfl) | rfl) ?_
  refine AOps.nil ?_
  refine AWP.seq ?_
  refine AWP.region ?_
  refine n_move rfl (by first | (simp only [nf, Nat.beq] <;> rfl) | rfl) ?_
  refine n_lit rfl Try.underlying22 ti5 zi5 rfl rfl (Eq.trans (by simp only [nl] <;> rfl) (by first | (simp only [nf, Nat.beq] <;> rfl) | rfl)) rfl (by first | (simp only [nf, Nat.beq] <;> rfl) | rfl) ?_
  refine n_call0B rfl cf40 rfl (Eq.trans (by simp only [nl] <;> rfl) (by first | (simp only [nf, Nat.beq] <;> rfl) | rfl)) (by repeat (first | exact .nil | refine .cons ?_ ?_ | exact ren_ints | exact .lf (.val _) | exact .lf (lf_ints (.inl rfl)) | exact .bp ⟨rfl, rfl⟩ | exact .bp (.inl ⟨rfl, rfl⟩) | exact .bp (.inr ⟨rfl, rfl⟩) | exact .lf (D.flat_lf rfl) | exact ren_lits rfl | exact ren_ints)) (h3) (by first | exact .val _ | exact lf_ints (.inl rfl) | exact lf_ints (.inr rfl) | exact .any | exact D.flat_lf rfl) ?_
  refine n_move rfl (by first | (simp only [nf, Nat.beq] <;> rfl) | rfl) ?_
  refine n_guard_yes rfl rfl rfl (by first | (simp only [nf, Nat.beq] <;> rfl) | rfl) rfl ?_
  refine n_move rfl (by first | (simp only [nf, Nat.beq] <;> rfl) | rfl) ?_
  refine n_guard_yes rfl rfl rfl (by first | (simp only [nf, Nat.beq] <;> rfl) | rfl) rfl ?_
  refine n_ptrne rfl Try.underlying94 (by first | (simp only [nf, Nat.beq] <;> rfl) | rfl) rfl ?_
  refine n_pick rfl (by first | (simp only [nf, Nat.beq] <;> rfl) | rfl) (by first | (simp only [nf, Nat.beq] <;> rfl) | rfl) ?_
  refine n_move rfl (by first | (simp only [nf, Nat.beq] <;> rfl) | rfl) ?_
  refine n_guard_yes rfl rfl rfl (by first | (simp only [nf, Nat.beq] <;> rfl) | rfl) rfl ?_
  refine n_move rfl (by first | (simp only [nf, Nat.beq] <;> rfl) | rfl) ?_
  refine n_guard_yes rfl rfl rfl (by first | (simp only [nf, Nat.beq] <;> rfl) | rfl) rfl ?_
  refine n_callBoxB rfl cf85 rfl (Eq.trans (by simp only [nl] <;> rfl) (by first | (simp only [nf, Nat.beq] <;> rfl) | rfl)) (by repeat (first | exact .nil | refine .cons ?_ ?_ | exact ren_ints | exact .lf (.val _) | exact .lf (lf_ints (.inl rfl)) | exact .bp ⟨rfl, rfl⟩ | exact .bp (.inl ⟨rfl, rfl⟩) | exact .bp (.inr ⟨rfl, rfl⟩) | exact .lf (D.flat_lf rfl) | exact ren_lits rfl | exact ren_ints)) (by rfl) (by repeat (first | exact .nil | refine .cons ?_ ?_ | exact ren_ints | exact .lf (.val _) | exact .lf (lf_ints (.inl rfl)) | exact .bp ⟨rfl, rfl⟩ | exact .bp (.inl ⟨rfl, rfl⟩) | exact .bp (.inr ⟨rfl, rfl⟩) | exact .lf (D.flat_lf rfl) | exact ren_lits rfl | exact ren_ints)) (h4) (by repeat (first | exact lf_nil | refine lf_cons ?_ ?_ | exact .val _ | exact lf_ints (.inl rfl))) (by first | exact .val _ | exact lf_ints (.inl rfl) | exact lf_ints (.inr rfl) | exact .any | exact D.flat_lf rfl) (by first | (simp only [nf, Nat.beq] <;> rfl) | rfl) ?_
  refine n_guard_yes rfl rfl rfl (by first | (simp only [nf, Nat.beq] <;> rfl) | rfl) rfl ?_
  refine n_ibin rfl (by first | (simp only [nf, Nat.beq] <;> rfl) | rfl) (by first | (simp only [nf, Nat.beq] <;> rfl) | rfl) rfl ?_
  refine n_pick rfl (by first | (simp only [nf, Nat.beq] <;> rfl) | rfl) (by first | (simp only [nf, Nat.beq] <;> rfl) | rfl) ?_
  refine n_move rfl (by first | (simp only [nf, Nat.beq] <;> rfl) | rfl) ?_
  refine n_guard_yes rfl rfl rfl (by first | (simp only [nf, Nat.beq] <;> rfl) | rfl) rfl ?_
  refine n_move rfl (by first | (simp only [nf, Nat.beq] <;> rfl) | rfl) ?_
  refine n_guard_yes rfl rfl rfl (by first | (simp only [nf, Nat.beq] <;> rfl) | rfl) rfl ?_
  refine n_callBoxB rfl cf85 rfl (Eq.trans (by simp only [nl] <;> rfl) (by first | (simp only [nf, Nat.beq] <;> rfl) | rfl)) (by repeat (first | exact .nil | refine .cons ?_ ?_ | exact ren_ints | exact .lf (.val _) | exact .lf (lf_ints (.inl rfl)) | exact .bp ⟨rfl, rfl⟩ | exact .bp (.inl ⟨rfl, rfl⟩) | exact .bp (.inr ⟨rfl, rfl⟩) | exact .lf (D.flat_lf rfl) | exact ren_lits rfl | exact ren_ints)) (by rfl) (by repeat (first | exact .nil | refine .cons ?_ ?_ | exact ren_ints | exact .lf (.val _) | exact .lf (lf_ints (.inl rfl)) | exact .bp ⟨rfl, rfl⟩ | exact .bp (.inl ⟨rfl, rfl⟩) | exact .bp (.inr ⟨rfl, rfl⟩) | exact .lf (D.flat_lf rfl) | exact ren_lits rfl | exact ren_ints)) (h5) (by repeat (first | exact lf_nil | refine lf_cons ?_ ?_ | exact .val _ | exact lf_ints (.inl rfl))) (by first | exact .val _ | exact lf_ints (.inl rfl) | exact lf_ints (.inr rfl) | exact .any | exact D.flat_lf rfl) (by first | (simp only [nf, Nat.beq] <;> rfl) | rfl) ?_
  refine n_guard_yes rfl rfl rfl (by first | (simp only [nf, Nat.beq] <;> rfl) | rfl) rfl ?_
  refine n_ibin rfl (by first | (simp only [nf, Nat.beq] <;> rfl) | rfl) (by first | (simp only [nf, Nat.beq] <;> rfl) | rfl) rfl ?_
  refine n_pick rfl (by first | (simp only [nf, Nat.beq] <;> rfl) | rfl) (by first | (simp only [nf, Nat.beq] <;> rfl) | rfl) ?_
  refine n_move rfl (by first | (simp only [nf, Nat.beq] <;> rfl) | rfl) ?_
  refine n_guard_yes rfl rfl rfl (by first | (simp only [nf, Nat.beq] <;> rfl) | rfl) rfl ?_
  refine n_move rfl (by first | (simp only [nf, Nat.beq] <;> rfl) | rfl) ?_
  refine n_guard_yes rfl rfl rfl (by first | (simp only [nf, Nat.beq] <;> rfl) | rfl) rfl ?_
  refine n_callBoxB rfl cf87 rfl (Eq.trans (by simp only [nl] <;> rfl) (by first | (simp only [nf, Nat.beq] <;> rfl) | rfl)) (by repeat (first | exact .nil | refine .cons ?_ ?_ | exact ren_ints | exact .lf (.val _) | exact .lf (lf_ints (.inl rfl)) | exact .bp ⟨rfl, rfl⟩ | exact .bp (.inl ⟨rfl, rfl⟩) | exact .bp (.inr ⟨rfl, rfl⟩) | exact .lf (D.flat_lf rfl) | exact ren_lits rfl | exact ren_ints)) (by rfl) (by repeat (first | exact .nil | refine .cons ?_ ?_ | exact ren_ints | exact .lf (.val _) | exact .lf (lf_ints (.inl rfl)) | exact .bp ⟨rfl, rfl⟩ | exact .bp (.inl ⟨rfl, rfl⟩) | exact .bp (.inr ⟨rfl, rfl⟩) | exact .lf (D.flat_lf rfl) | exact ren_lits rfl | exact ren_ints)) (h6) (by repeat (first | exact lf_nil | refine lf_cons ?_ ?_ | exact .val _ | exact lf_ints (.inl rfl))) (by first | exact .val _ | exact lf_ints (.inl rfl) | exact lf_ints (.inr rfl) | exact .any | exact D.flat_lf rfl) (by first | (simp only [nf, Nat.beq] <;> rfl) | rfl) ?_
  refine n_guard_yes rfl rfl rfl (by first | (simp only [nf, Nat.beq] <;> rfl) | rfl) rfl ?_
  refine n_lit rfl Try.underlying22 ti5 zi5 rfl rfl (Eq.trans (by simp only [nl] <;> rfl) (by first | (simp only [nf, Nat.beq] <;> rfl) | rfl)) rfl (by first | (simp only [nf, Nat.beq] <;> rfl) | rfl) ?_
  refine n_guard_yes rfl rfl rfl (by first | (simp only [nf, Nat.beq] <;> rfl) | rfl) rfl ?_
  refine n_call0B rfl cf40 rfl (Eq.trans (by simp only [nl] <;> rfl) (by first | (simp only [nf, Nat.beq] <;> rfl) | rfl)) (by repeat (first | exact .nil | refine .cons ?_ ?_ | exact ren_ints | exact .lf (.val _) | exact .lf (lf_ints (.inl rfl)) | exact .bp ⟨rfl, rfl⟩ | exact .bp (.inl ⟨rfl, rfl⟩) | exact .bp (.inr ⟨rfl, rfl⟩) | exact .lf (D.flat_lf rfl) | exact ren_lits rfl | exact ren_ints)) (h7) (by first | exact .val _ | exact lf_ints (.inl rfl) | exact lf_ints (.inr rfl) | exact .any | exact D.flat_lf rfl) ?_
  refine n_pick rfl (by first | (simp only [nf, Nat.beq] <;> rfl) | rfl) (by first | (simp only [nf, Nat.beq] <;> rfl) | rfl) ?_
  refine n_move rfl (by first | (simp only [nf, Nat.beq] <;> rfl) | rfl) ?_
  refine n_guard_yes rfl rfl rfl (by first | (simp only [nf, Nat.beq] <;> rfl) | rfl) rfl ?_
  refine n_move rfl (by first | (simp only [nf, Nat.beq] <;> rfl) | rfl) ?_
  refine n_guard_yes rfl rfl rfl (by first | (simp only [nf, Nat.beq] <;> rfl) | rfl) rfl ?_
  refine n_callBoxB rfl cf91 rfl (Eq.trans (by simp only [nl] <;> rfl) (by first | (simp only [nf, Nat.beq] <;> rfl) | rfl)) (by repeat (first | exact .nil | refine .cons ?_ ?_ | exact ren_ints | exact .lf (.val _) | exact .lf (lf_ints (.inl rfl)) | exact .bp ⟨rfl, rfl⟩ | exact .bp (.inl ⟨rfl, rfl⟩) | exact .bp (.inr ⟨rfl, rfl⟩) | exact .lf (D.flat_lf rfl) | exact ren_lits rfl | exact ren_ints)) (by rfl) (by repeat (first | exact .nil | refine .cons ?_ ?_ | exact ren_ints | exact .lf (.val _) | exact .lf (lf_ints (.inl rfl)) | exact .bp ⟨rfl, rfl⟩ | exact .bp (.inl ⟨rfl, rfl⟩) | exact .bp (.inr ⟨rfl, rfl⟩) | exact .lf (D.flat_lf rfl) | exact ren_lits rfl | exact ren_ints)) (h8) (by repeat (first | exact lf_nil | refine lf_cons ?_ ?_ | exact .val _ | exact lf_ints (.inl rfl))) (by first | exact .val _ | exact lf_ints (.inl rfl) | exact lf_ints (.inr rfl) | exact .any | exact D.flat_lf rfl) (by first | (simp only [nf, Nat.beq] <;> rfl) | rfl) ?_
  refine n_guard_yes rfl rfl rfl (by first | (simp only [nf, Nat.beq] <;> rfl) | rfl) rfl ?_
  refine n_ibin rfl (by first | (simp only [nf, Nat.beq] <;> rfl) | rfl) (by first | (simp only [nf, Nat.beq] <;> rfl) | rfl) rfl ?_
  refine n_pick rfl (by first | (simp only [nf, Nat.beq] <;> rfl) | rfl) (by first | (simp only [nf, Nat.beq] <;> rfl) | rfl) ?_
  refine n_assign rfl (by first | (simp only [nf, Nat.beq] <;> rfl) | rfl) ?_
  refine AOps.nil ?_
  refine AWP.ret ?_
  refine fin_pure (.cons (rv_tmp (by first | (simp only [nf, Nat.beq] <;> rfl) | rfl)) .nil) (by first | (simp only [nf, Nat.beq] <;> rfl) | rfl) ?_
  exact ren_flat rfl rfl

def Ak1.okA (a : Ak1) : Prop := -9223372036854775808 ≤ a.n ∧ a.n ≤ 9223372036854775807
theorem asks (u : Up) (hu : u.ok) (a : Ak1) (ha : Ak1.okA a) : Does Try.prog 90 [.bp 0 0, .bp 1 0, .agg a.z] [.box (Up.z u), .box (Up.rz u.clr)] (vb true) [.box (Up.z ⟨(u.ask a).b, (u.ask a).e⟩), .box (Up.rz ⟨(u.ask a).clr.b, (u.ask a).clr.e⟩)] := by
  refine Does.of_body (rvs := [.tmp 6]) Try.func90 rfl rfl rfl rfl ?_
  have hE : (⟨u.b, u.e⟩ : Up) = u := rfl
  have hE2 : (⟨u.clr.b, u.clr.e⟩ : Up) = u.clr := rfl
  have hI := Up.int_clr u a.lo a.hi
  have hI1 := Up.int_clr u 0 1
  have hS := Up.str_clr u a.n
  have hP := Up.spoil_clr u a.e
  have hc := Up.clr_ok hu
  have hn := Up.clr_nil u
  unfold Ak1.okA at ha
  have hz : ∀ x, (if u.e = 0 then x else u.e) = (u.spoil x).e := fun x => by unfold Up.spoil; split <;> rfl
  have hzb : ∀ x, (u.spoil x).b = u.b := fun x => by unfold Up.spoil; split <;> rfl
  refine AWP.seq ?_
  refine AWP.region ?_
  refine n_box rfl (by first | (simp only [nf, Nat.beq] <;> rfl) | rfl) rfl rfl (by first | (simp only [nf, Nat.beq] <;> rfl) | rfl) (by first | (simp only [nf, Nat.beq] <;> rfl) | rfl) ?_
  refine n_assign rfl (by first | (simp only [nf, Nat.beq] <;> rfl) | rfl) ?_
  refine AOps.nil ?_
  refine AWP.seq ?_
  refine AWP.seq ?_
  refine AWP.region ?_
  refine n_fieldAddr rfl fd105_0 ti3 rfl (by first | (simp only [nf, Nat.beq] <;> rfl) | rfl) rfl (by first | (simp only [nf, Nat.beq] <;> rfl) | rfl) ?_
  refine n_load rfl ti3 (by first | (simp only [nf, Nat.beq] <;> rfl) | rfl) (by first | (simp only [nf, Nat.beq] <;> rfl) | rfl) rfl (by first | (simp only [nf, Nat.beq] <;> rfl) | rfl) ?_
  refine AOps.nil ?_
  refine AWP.block ?_
  refine AWP.seq ?_
  refine AWP.region ?_
  refine n_ibin rfl (by first | (simp only [nf, Nat.beq] <;> rfl) | rfl) (by first | (simp only [nf, Nat.beq] <;> rfl) | rfl) rfl ?_
  refine n_assign rfl (by first | (simp only [nf, Nat.beq] <;> rfl) | rfl) ?_
  refine AOps.nil ?_
  refine AWP.cond (by first | (simp only [nf, Nat.beq] <;> rfl) | rfl) (fun hc1 => ?_) (fun hc1 => ?_)
  · try simp only [nh] at hc1
    refine AWP.seq ?_
    refine AWP.anyT [5, 11] (fun p => match p with | [false, false] => [.box (Up.z u), .box (Up.rz u.clr), .box a.z] | [true, false] => [.box (Up.z (u.int a.lo a.hi).2), .box (Up.rz u.clr), .box a.z] | [false, true] => [.box (Up.z u), .box (Up.rz (u.clr.int a.lo a.hi).2.clr), .box a.z] | [true, true] => [.box (Up.z (u.int a.lo a.hi).2), .box (Up.rz (u.clr.int a.lo a.hi).2.clr), .box a.z] | _ => []) (by kernel_rfl) (by kernel_rfl) rfl rfl ?_
    refine Walk.cases [([false, false], [.box (Up.z u), .box (Up.rz u.clr), .box a.z], [.box (Up.z u), .box (Up.rz u.clr), .box a.z])] (by rfl) (by kernel_rfl) (rs := [0]) (by rfl) (by first | (simp only [nf, Nat.beq] <;> rfl) | rfl) (fun base => ⟨
        ⟨rfl, rfl, by
          refine n_move rfl (by first | (simp only [nf, Nat.beq] <;> rfl) | rfl) ?_
          exact AOps.nil ⟨rfl, rfl, rfl⟩⟩,
        trivial⟩) ?_
    refine Walk.cases [([false, false], [.box (Up.z u), .box (Up.rz u.clr), .box a.z], [.box (Up.z u), .box (Up.rz u.clr), .box a.z])] (by rfl) (by kernel_rfl) (rs := [5]) (by rfl) (by first | (simp only [nf, Nat.beq] <;> rfl) | rfl) (fun base => ⟨
        ⟨rfl, rfl, by
          refine n_fieldAddr rfl fd105_1 ti2 rfl (by first | (simp only [nf, Nat.beq] <;> rfl) | rfl) rfl (by first | (simp only [nf, Nat.beq] <;> rfl) | rfl) ?_
          exact AOps.nil ⟨rfl, rfl, rfl⟩⟩,
        trivial⟩) ?_
    refine Walk.cases [([false, false], [.box (Up.z u), .box (Up.rz u.clr), .box a.z], [.box (Up.z u), .box (Up.rz u.clr), .box a.z])] (by rfl) (by kernel_rfl) (rs := [12]) (by rfl) (by first | (simp only [nf, Nat.beq] <;> rfl) | rfl) (fun base => ⟨
        ⟨rfl, rfl, by
          refine n_load rfl ti2 (by first | (simp only [nf, Nat.beq] <;> rfl) | rfl) (by first | (simp only [nf, Nat.beq] <;> rfl) | rfl) rfl (by first | (simp only [nf, Nat.beq] <;> rfl) | rfl) ?_
          exact AOps.nil ⟨rfl, rfl, rfl⟩⟩,
        trivial⟩) ?_
    refine Walk.cases [([false, false], [.box (Up.z u), .box (Up.rz u.clr), .box a.z], [.box (Up.z u), .box (Up.rz u.clr), .box a.z])] (by rfl) (by kernel_rfl) (rs := [5]) (by rfl) (by first | (simp only [nf, Nat.beq] <;> rfl) | rfl) (fun base => ⟨
        ⟨rfl, rfl, by
          refine n_fieldAddr rfl fd105_2 ti2 rfl (by first | (simp only [nf, Nat.beq] <;> rfl) | rfl) rfl (by first | (simp only [nf, Nat.beq] <;> rfl) | rfl) ?_
          exact AOps.nil ⟨rfl, rfl, rfl⟩⟩,
        trivial⟩) ?_
    refine Walk.cases [([false, false], [.box (Up.z u), .box (Up.rz u.clr), .box a.z], [.box (Up.z u), .box (Up.rz u.clr), .box a.z])] (by rfl) (by kernel_rfl) (rs := [14]) (by rfl) (by first | (simp only [nf, Nat.beq] <;> rfl) | rfl) (fun base => ⟨
        ⟨rfl, rfl, by
          refine n_load rfl ti2 (by first | (simp only [nf, Nat.beq] <;> rfl) | rfl) (by first | (simp only [nf, Nat.beq] <;> rfl) | rfl) rfl (by first | (simp only [nf, Nat.beq] <;> rfl) | rfl) ?_
          exact AOps.nil ⟨rfl, rfl, rfl⟩⟩,
        trivial⟩) ?_
    refine Walk.cases [([false, false], [.box (Up.z u), .box (Up.rz u.clr), .box a.z], [.box (Up.z (u.int a.lo a.hi).2), .box (Up.rz u.clr), .box a.z])] (by rfl) (by kernel_rfl) (rs := [11, 13, 15]) (by rfl) (by first | (simp only [nf, Nat.beq] <;> rfl) | rfl) (fun base => ⟨
        ⟨rfl, rfl, by
          refine n_callBoxB rfl cf85 rfl (Eq.trans (by simp only [nl] <;> rfl) (by first | (simp only [nf, Nat.beq] <;> rfl) | rfl)) (by repeat (first | exact .nil | refine .cons ?_ ?_ | exact ren_ints | exact .lf (.val _) | exact .lf (lf_ints (.inl rfl)) | exact .bp ⟨rfl, rfl⟩ | exact .bp (.inl ⟨rfl, rfl⟩) | exact .bp (.inr ⟨rfl, rfl⟩) | exact .lf (D.flat_lf rfl) | exact ren_lits rfl | exact ren_ints)) (by rfl) (by repeat (first | exact .nil | refine .cons ?_ ?_ | exact ren_ints | exact .lf (.val _) | exact .lf (lf_ints (.inl rfl)) | exact .bp ⟨rfl, rfl⟩ | exact .bp (.inl ⟨rfl, rfl⟩) | exact .bp (.inr ⟨rfl, rfl⟩) | exact .lf (D.flat_lf rfl) | exact ren_lits rfl | exact ren_ints)) (u_int u.b u.e a.lo a.hi hu.1 hu.2) (by repeat (first | exact lf_nil | refine lf_cons ?_ ?_ | exact .val _ | exact lf_ints (.inl rfl))) (by first | exact .val _ | exact lf_ints (.inl rfl) | exact lf_ints (.inr rfl) | exact .any | exact D.flat_lf rfl) (by first | (simp only [nf, Nat.beq] <;> rfl) | rfl) ?_
          exact AOps.nil ⟨rfl, rfl, rfl⟩⟩,
        trivial⟩) ?_
    refine Walk.cases [([false, false], [.box (Up.z u), .box (Up.rz u.clr), .box a.z], [.box (Up.z u), .box (Up.rz u.clr), .box a.z]), ([true, false], [.box (Up.z (u.int a.lo a.hi).2), .box (Up.rz u.clr), .box a.z], [.box (Up.z (u.int a.lo a.hi).2), .box (Up.rz u.clr), .box a.z])] (by rfl) (by kernel_rfl) (rs := [1]) (by rfl) (by first | (simp only [nf, Nat.beq] <;> rfl) | rfl) (fun base => ⟨
        ⟨rfl, rfl, by
          refine n_move rfl (by first | (simp only [nf, Nat.beq] <;> rfl) | rfl) ?_
          exact AOps.nil ⟨rfl, rfl, rfl⟩⟩,
        ⟨rfl, rfl, by
          refine n_move rfl (by first | (simp only [nf, Nat.beq] <;> rfl) | rfl) ?_
          exact AOps.nil ⟨rfl, rfl, rfl⟩⟩,
        trivial⟩) ?_
    refine Walk.cases [([false, false], [.box (Up.z u), .box (Up.rz u.clr), .box a.z], [.box (Up.z u), .box (Up.rz u.clr), .box a.z]), ([true, false], [.box (Up.z (u.int a.lo a.hi).2), .box (Up.rz u.clr), .box a.z], [.box (Up.z (u.int a.lo a.hi).2), .box (Up.rz u.clr), .box a.z])] (by rfl) (by kernel_rfl) (rs := [5]) (by rfl) (by first | (simp only [nf, Nat.beq] <;> rfl) | rfl) (fun base => ⟨
        ⟨rfl, rfl, by
          refine n_fieldAddr rfl fd105_1 ti2 rfl (by first | (simp only [nf, Nat.beq] <;> rfl) | rfl) rfl (by first | (simp only [nf, Nat.beq] <;> rfl) | rfl) ?_
          exact AOps.nil ⟨rfl, rfl, rfl⟩⟩,
        ⟨rfl, rfl, by
          refine n_fieldAddr rfl fd105_1 ti2 rfl (by first | (simp only [nf, Nat.beq] <;> rfl) | rfl) rfl (by first | (simp only [nf, Nat.beq] <;> rfl) | rfl) ?_
          exact AOps.nil ⟨rfl, rfl, rfl⟩⟩,
        trivial⟩) ?_
    refine Walk.cases [([false, false], [.box (Up.z u), .box (Up.rz u.clr), .box a.z], [.box (Up.z u), .box (Up.rz u.clr), .box a.z]), ([true, false], [.box (Up.z (u.int a.lo a.hi).2), .box (Up.rz u.clr), .box a.z], [.box (Up.z (u.int a.lo a.hi).2), .box (Up.rz u.clr), .box a.z])] (by rfl) (by kernel_rfl) (rs := [18]) (by rfl) (by first | (simp only [nf, Nat.beq] <;> rfl) | rfl) (fun base => ⟨
        ⟨rfl, rfl, by
          refine n_load rfl ti2 (by first | (simp only [nf, Nat.beq] <;> rfl) | rfl) (by first | (simp only [nf, Nat.beq] <;> rfl) | rfl) rfl (by first | (simp only [nf, Nat.beq] <;> rfl) | rfl) ?_
          exact AOps.nil ⟨rfl, rfl, rfl⟩⟩,
        ⟨rfl, rfl, by
          refine n_load rfl ti2 (by first | (simp only [nf, Nat.beq] <;> rfl) | rfl) (by first | (simp only [nf, Nat.beq] <;> rfl) | rfl) rfl (by first | (simp only [nf, Nat.beq] <;> rfl) | rfl) ?_
          exact AOps.nil ⟨rfl, rfl, rfl⟩⟩,
        trivial⟩) ?_
    refine Walk.cases [([false, false], [.box (Up.z u), .box (Up.rz u.clr), .box a.z], [.box (Up.z u), .box (Up.rz u.clr), .box a.z]), ([true, false], [.box (Up.z (u.int a.lo a.hi).2), .box (Up.rz u.clr), .box a.z], [.box (Up.z (u.int a.lo a.hi).2), .box (Up.rz u.clr), .box a.z])] (by rfl) (by kernel_rfl) (rs := [5]) (by rfl) (by first | (simp only [nf, Nat.beq] <;> rfl) | rfl) (fun base => ⟨
        ⟨rfl, rfl, by
          refine n_fieldAddr rfl fd105_2 ti2 rfl (by first | (simp only [nf, Nat.beq] <;> rfl) | rfl) rfl (by first | (simp only [nf, Nat.beq] <;> rfl) | rfl) ?_
          exact AOps.nil ⟨rfl, rfl, rfl⟩⟩,
        ⟨rfl, rfl, by
          refine n_fieldAddr rfl fd105_2 ti2 rfl (by first | (simp only [nf, Nat.beq] <;> rfl) | rfl) rfl (by first | (simp only [nf, Nat.beq] <;> rfl) | rfl) ?_
          exact AOps.nil ⟨rfl, rfl, rfl⟩⟩,
        trivial⟩) ?_
    refine Walk.cases [([false, false], [.box (Up.z u), .box (Up.rz u.clr), .box a.z], [.box (Up.z u), .box (Up.rz u.clr), .box a.z]), ([true, false], [.box (Up.z (u.int a.lo a.hi).2), .box (Up.rz u.clr), .box a.z], [.box (Up.z (u.int a.lo a.hi).2), .box (Up.rz u.clr), .box a.z])] (by rfl) (by kernel_rfl) (rs := [20]) (by rfl) (by first | (simp only [nf, Nat.beq] <;> rfl) | rfl) (fun base => ⟨
        ⟨rfl, rfl, by
          refine n_load rfl ti2 (by first | (simp only [nf, Nat.beq] <;> rfl) | rfl) (by first | (simp only [nf, Nat.beq] <;> rfl) | rfl) rfl (by first | (simp only [nf, Nat.beq] <;> rfl) | rfl) ?_
          exact AOps.nil ⟨rfl, rfl, rfl⟩⟩,
        ⟨rfl, rfl, by
          refine n_load rfl ti2 (by first | (simp only [nf, Nat.beq] <;> rfl) | rfl) (by first | (simp only [nf, Nat.beq] <;> rfl) | rfl) rfl (by first | (simp only [nf, Nat.beq] <;> rfl) | rfl) ?_
          exact AOps.nil ⟨rfl, rfl, rfl⟩⟩,
        trivial⟩) ?_
    refine Walk.cases [([true, false], [.box (Up.z (u.int a.lo a.hi).2), .box (Up.rz u.clr), .box a.z], [.box (Up.z (u.int a.lo a.hi).2), .box (Up.rz (u.clr.int a.lo a.hi).2.clr), .box a.z])] (by rfl) (by kernel_rfl) (rs := [17, 19, 21]) (by rfl) (by first | (simp only [nf, Nat.beq] <;> rfl) | rfl) (fun base => ⟨
        ⟨rfl, rfl, by
          refine n_callBoxB rfl cf198 rfl (Eq.trans (by simp only [nl] <;> rfl) (by first | (simp only [nf, Nat.beq] <;> rfl) | rfl)) (by repeat (first | exact .nil | refine .cons ?_ ?_ | exact ren_ints | exact .lf (.val _) | exact .lf (lf_ints (.inl rfl)) | exact .bp ⟨rfl, rfl⟩ | exact .bp (.inl ⟨rfl, rfl⟩) | exact .bp (.inr ⟨rfl, rfl⟩) | exact .lf (D.flat_lf rfl) | exact ren_lits rfl | exact ren_ints)) (by rfl) (by repeat (first | exact .nil | refine .cons ?_ ?_ | exact ren_ints | exact .lf (.val _) | exact .lf (lf_ints (.inl rfl)) | exact .bp ⟨rfl, rfl⟩ | exact .bp (.inl ⟨rfl, rfl⟩) | exact .bp (.inr ⟨rfl, rfl⟩) | exact .lf (D.flat_lf rfl) | exact ren_lits rfl | exact ren_ints)) (ru_int u.clr.b u.clr.e hn a.lo a.hi hc.1 hc.2) (by repeat (first | exact lf_nil | refine lf_cons ?_ ?_ | exact .val _ | exact lf_ints (.inl rfl))) (by first | exact .val _ | exact lf_ints (.inl rfl) | exact lf_ints (.inr rfl) | exact .any | exact D.flat_lf rfl) (by first | (simp only [nf, Nat.beq] <;> rfl) | rfl) ?_
          exact AOps.nil ⟨rfl, rfl, rfl⟩⟩,
        trivial⟩) ?_
    refine Walk.cases [([true, true], [.box (Up.z (u.int a.lo a.hi).2), .box (Up.rz (u.clr.int a.lo a.hi).2.clr), .box a.z], [.box (Up.z (u.int a.lo a.hi).2), .box (Up.rz (u.clr.int a.lo a.hi).2.clr), .box a.z])] (by rfl) (by kernel_rfl) (rs := [16, 22]) (by rfl) (by first | (simp only [nf, Nat.beq] <;> rfl) | rfl) (fun base => ⟨
        ⟨rfl, rfl, by
          refine n_ibin rfl (by first | (simp only [nf, Nat.beq] <;> rfl) | rfl) (by first | (simp only [nf, Nat.beq] <;> rfl) | rfl) rfl ?_
          exact AOps.nil ⟨rfl, rfl, rfl⟩⟩,
        trivial⟩) ?_
    refine Walk.cases [([true, true], [.box (Up.z (u.int a.lo a.hi).2), .box (Up.rz (u.clr.int a.lo a.hi).2.clr), .box a.z], [.box (Up.z (u.int a.lo a.hi).2), .box (Up.rz (u.clr.int a.lo a.hi).2.clr), .box a.z])] (by rfl) (by kernel_rfl) (rs := [23]) (by rfl) (by first | (simp only [nf, Nat.beq] <;> rfl) | rfl) (fun base => ⟨
        ⟨rfl, rfl, by
          refine n_assign rfl (by first | (simp only [nf, Nat.beq] <;> rfl) | rfl) ?_
          exact AOps.nil ⟨rfl, rfl, rfl⟩⟩,
        trivial⟩) ?_
    refine Walk.done ?_
    refine AWP.ret ?_
    refine fin_box2 (.cons (rv_tmp (by first | (simp only [nf, Nat.beq] <;> rfl) | rfl)) .nil) (by first | (simp only [nf, Nat.beq] <;> rfl) | rfl) ?_ rfl rfl ?_ ?_
    · refine ren_flat rfl (congrArg vb ?_); first | rfl | (simp only [hI.1, hI1.1]; simp) | (rw [hS.1]; simp)
    · refine renU ?_ ?_ <;> ((try rw [hE]); (try rw [hE2]); simp only [Up.ask]; grind)
    · refine renR ?_ ?_ <;> ((try rw [hE]); (try rw [hE2]); simp only [Up.ask]; grind)
  · try simp only [nh] at hc1
    refine AWP.seq ?_
    refine AWP.region ?_
    refine n_ibin rfl (by first | (simp only [nf, Nat.beq] <;> rfl) | rfl) (by first | (simp only [nf, Nat.beq] <;> rfl) | rfl) rfl ?_
    refine n_assign rfl (by first | (simp only [nf, Nat.beq] <;> rfl) | rfl) ?_
    refine AOps.nil ?_
    refine AWP.cond (by first | (simp only [nf, Nat.beq] <;> rfl) | rfl) (fun hc2 => ?_) (fun hc2 => ?_)
    · try simp only [nh] at hc2
      refine AWP.seq ?_
      refine AWP.anyT [3, 7] (fun p => match p with | [false, false] => [.box (Up.z u), .box (Up.rz u.clr), .box a.z] | [true, false] => [.box (Up.z (u.str a.n).2), .box (Up.rz u.clr), .box a.z] | [false, true] => [.box (Up.z u), .box (Up.rz (u.clr.str a.n).2.clr), .box a.z] | [true, true] => [.box (Up.z (u.str a.n).2), .box (Up.rz (u.clr.str a.n).2.clr), .box a.z] | _ => []) (by kernel_rfl) (by kernel_rfl) rfl rfl ?_
      refine Walk.cases [([false, false], [.box (Up.z u), .box (Up.rz u.clr), .box a.z], [.box (Up.z u), .box (Up.rz u.clr), .box a.z])] (by rfl) (by kernel_rfl) (rs := [0]) (by rfl) (by first | (simp only [nf, Nat.beq] <;> rfl) | rfl) (fun base => ⟨
          ⟨rfl, rfl, by
            refine n_move rfl (by first | (simp only [nf, Nat.beq] <;> rfl) | rfl) ?_
            exact AOps.nil ⟨rfl, rfl, rfl⟩⟩,
          trivial⟩) ?_
      refine Walk.cases [([false, false], [.box (Up.z u), .box (Up.rz u.clr), .box a.z], [.box (Up.z u), .box (Up.rz u.clr), .box a.z])] (by rfl) (by kernel_rfl) (rs := [5]) (by rfl) (by first | (simp only [nf, Nat.beq] <;> rfl) | rfl) (fun base => ⟨
          ⟨rfl, rfl, by
            refine n_fieldAddr rfl fd105_3 ti3 rfl (by first | (simp only [nf, Nat.beq] <;> rfl) | rfl) rfl (by first | (simp only [nf, Nat.beq] <;> rfl) | rfl) ?_
            exact AOps.nil ⟨rfl, rfl, rfl⟩⟩,
          trivial⟩) ?_
      refine Walk.cases [([false, false], [.box (Up.z u), .box (Up.rz u.clr), .box a.z], [.box (Up.z u), .box (Up.rz u.clr), .box a.z])] (by rfl) (by kernel_rfl) (rs := [27]) (by rfl) (by first | (simp only [nf, Nat.beq] <;> rfl) | rfl) (fun base => ⟨
          ⟨rfl, rfl, by
            refine n_load rfl ti3 (by first | (simp only [nf, Nat.beq] <;> rfl) | rfl) (by first | (simp only [nf, Nat.beq] <;> rfl) | rfl) rfl (by first | (simp only [nf, Nat.beq] <;> rfl) | rfl) ?_
            exact AOps.nil ⟨rfl, rfl, rfl⟩⟩,
          trivial⟩) ?_
      refine Walk.cases [([false, false], [.box (Up.z u), .box (Up.rz u.clr), .box a.z], [.box (Up.z (u.str a.n).2), .box (Up.rz u.clr), .box a.z])] (by rfl) (by kernel_rfl) (rs := [26, 28]) (by rfl) (by first | (simp only [nf, Nat.beq] <;> rfl) | rfl) (fun base => ⟨
          ⟨rfl, rfl, by
            refine n_callBoxB rfl cf87 rfl (Eq.trans (by simp only [nl] <;> rfl) (by first | (simp only [nf, Nat.beq] <;> rfl) | rfl)) (by repeat (first | exact .nil | refine .cons ?_ ?_ | exact ren_ints | exact .lf (.val _) | exact .lf (lf_ints (.inl rfl)) | exact .bp ⟨rfl, rfl⟩ | exact .bp (.inl ⟨rfl, rfl⟩) | exact .bp (.inr ⟨rfl, rfl⟩) | exact .lf (D.flat_lf rfl) | exact ren_lits rfl | exact ren_ints)) (by rfl) (by repeat (first | exact .nil | refine .cons ?_ ?_ | exact ren_ints | exact .lf (.val _) | exact .lf (lf_ints (.inl rfl)) | exact .bp ⟨rfl, rfl⟩ | exact .bp (.inl ⟨rfl, rfl⟩) | exact .bp (.inr ⟨rfl, rfl⟩) | exact .lf (D.flat_lf rfl) | exact ren_lits rfl | exact ren_ints)) (u_str u.b u.e a.n ha hu.1 hu.2) (by repeat (first | exact lf_nil | refine lf_cons ?_ ?_ | exact .val _ | exact lf_ints (.inl rfl))) (by first | exact .val _ | exact lf_ints (.inl rfl) | exact lf_ints (.inr rfl) | exact .any | exact D.flat_lf rfl) (by first | (simp only [nf, Nat.beq] <;> rfl) | rfl) ?_
            exact AOps.nil ⟨rfl, rfl, rfl⟩⟩,
          trivial⟩) ?_
      refine Walk.cases [([false, false], [.box (Up.z u), .box (Up.rz u.clr), .box a.z], [.box (Up.z u), .box (Up.rz u.clr), .box a.z]), ([true, false], [.box (Up.z (u.str a.n).2), .box (Up.rz u.clr), .box a.z], [.box (Up.z (u.str a.n).2), .box (Up.rz u.clr), .box a.z])] (by rfl) (by kernel_rfl) (rs := [1]) (by rfl) (by first | (simp only [nf, Nat.beq] <;> rfl) | rfl) (fun base => ⟨
          ⟨rfl, rfl, by
            refine n_move rfl (by first | (simp only [nf, Nat.beq] <;> rfl) | rfl) ?_
            exact AOps.nil ⟨rfl, rfl, rfl⟩⟩,
          ⟨rfl, rfl, by
            refine n_move rfl (by first | (simp only [nf, Nat.beq] <;> rfl) | rfl) ?_
            exact AOps.nil ⟨rfl, rfl, rfl⟩⟩,
          trivial⟩) ?_
      refine Walk.cases [([false, false], [.box (Up.z u), .box (Up.rz u.clr), .box a.z], [.box (Up.z u), .box (Up.rz u.clr), .box a.z]), ([true, false], [.box (Up.z (u.str a.n).2), .box (Up.rz u.clr), .box a.z], [.box (Up.z (u.str a.n).2), .box (Up.rz u.clr), .box a.z])] (by rfl) (by kernel_rfl) (rs := [5]) (by rfl) (by first | (simp only [nf, Nat.beq] <;> rfl) | rfl) (fun base => ⟨
          ⟨rfl, rfl, by
            refine n_fieldAddr rfl fd105_3 ti3 rfl (by first | (simp only [nf, Nat.beq] <;> rfl) | rfl) rfl (by first | (simp only [nf, Nat.beq] <;> rfl) | rfl) ?_
            exact AOps.nil ⟨rfl, rfl, rfl⟩⟩,
          ⟨rfl, rfl, by
            refine n_fieldAddr rfl fd105_3 ti3 rfl (by first | (simp only [nf, Nat.beq] <;> rfl) | rfl) rfl (by first | (simp only [nf, Nat.beq] <;> rfl) | rfl) ?_
            exact AOps.nil ⟨rfl, rfl, rfl⟩⟩,
          trivial⟩) ?_
      refine Walk.cases [([false, false], [.box (Up.z u), .box (Up.rz u.clr), .box a.z], [.box (Up.z u), .box (Up.rz u.clr), .box a.z]), ([true, false], [.box (Up.z (u.str a.n).2), .box (Up.rz u.clr), .box a.z], [.box (Up.z (u.str a.n).2), .box (Up.rz u.clr), .box a.z])] (by rfl) (by kernel_rfl) (rs := [31]) (by rfl) (by first | (simp only [nf, Nat.beq] <;> rfl) | rfl) (fun base => ⟨
          ⟨rfl, rfl, by
            refine n_load rfl ti3 (by first | (simp only [nf, Nat.beq] <;> rfl) | rfl) (by first | (simp only [nf, Nat.beq] <;> rfl) | rfl) rfl (by first | (simp only [nf, Nat.beq] <;> rfl) | rfl) ?_
            exact AOps.nil ⟨rfl, rfl, rfl⟩⟩,
          ⟨rfl, rfl, by
            refine n_load rfl ti3 (by first | (simp only [nf, Nat.beq] <;> rfl) | rfl) (by first | (simp only [nf, Nat.beq] <;> rfl) | rfl) rfl (by first | (simp only [nf, Nat.beq] <;> rfl) | rfl) ?_
            exact AOps.nil ⟨rfl, rfl, rfl⟩⟩,
          trivial⟩) ?_
      refine Walk.cases [([true, false], [.box (Up.z (u.str a.n).2), .box (Up.rz u.clr), .box a.z], [.box (Up.z (u.str a.n).2), .box (Up.rz (u.clr.str a.n).2.clr), .box a.z])] (by rfl) (by kernel_rfl) (rs := [30, 32]) (by rfl) (by first | (simp only [nf, Nat.beq] <;> rfl) | rfl) (fun base => ⟨
          ⟨rfl, rfl, by
            refine n_callBoxB rfl cf199 rfl (Eq.trans (by simp only [nl] <;> rfl) (by first | (simp only [nf, Nat.beq] <;> rfl) | rfl)) (by repeat (first | exact .nil | refine .cons ?_ ?_ | exact ren_ints | exact .lf (.val _) | exact .lf (lf_ints (.inl rfl)) | exact .bp ⟨rfl, rfl⟩ | exact .bp (.inl ⟨rfl, rfl⟩) | exact .bp (.inr ⟨rfl, rfl⟩) | exact .lf (D.flat_lf rfl) | exact ren_lits rfl | exact ren_ints)) (by rfl) (by repeat (first | exact .nil | refine .cons ?_ ?_ | exact ren_ints | exact .lf (.val _) | exact .lf (lf_ints (.inl rfl)) | exact .bp ⟨rfl, rfl⟩ | exact .bp (.inl ⟨rfl, rfl⟩) | exact .bp (.inr ⟨rfl, rfl⟩) | exact .lf (D.flat_lf rfl) | exact ren_lits rfl | exact ren_ints)) (ru_str u.clr.b u.clr.e hn a.n ha hc.1 hc.2) (by repeat (first | exact lf_nil | refine lf_cons ?_ ?_ | exact .val _ | exact lf_ints (.inl rfl))) (by first | exact .val _ | exact lf_ints (.inl rfl) | exact lf_ints (.inr rfl) | exact .any | exact D.flat_lf rfl) (by first | (simp only [nf, Nat.beq] <;> rfl) | rfl) ?_
            exact AOps.nil ⟨rfl, rfl, rfl⟩⟩,
          trivial⟩) ?_
      refine Walk.cases [([true, true], [.box (Up.z (u.str a.n).2), .box (Up.rz (u.clr.str a.n).2.clr), .box a.z], [.box (Up.z (u.str a.n).2), .box (Up.rz (u.clr.str a.n).2.clr), .box a.z])] (by rfl) (by kernel_rfl) (rs := [29, 33]) (by rfl) (by first | (simp only [nf, Nat.beq] <;> rfl) | rfl) (fun base => ⟨
          ⟨rfl, rfl, by
            refine n_call0B rfl cf40 rfl (Eq.trans (by simp only [nl] <;> rfl) (by first | (simp only [nf, Nat.beq] <;> rfl) | rfl)) (by repeat (first | exact .nil | refine .cons ?_ ?_ | exact ren_ints | exact .lf (.val _) | exact .lf (lf_ints (.inl rfl)) | exact .bp ⟨rfl, rfl⟩ | exact .bp (.inl ⟨rfl, rfl⟩) | exact .bp (.inr ⟨rfl, rfl⟩) | exact .lf (D.flat_lf rfl) | exact ren_lits rfl | exact ren_ints)) (b_equal (u.str a.n).1 (u.clr.str a.n).1 (u.str_ok hu a.n).2.1 (u.clr.str_ok hc a.n).2.1) (by first | exact .val _ | exact lf_ints (.inl rfl) | exact lf_ints (.inr rfl) | exact .any | exact D.flat_lf rfl) ?_
            exact AOps.nil ⟨rfl, rfl, rfl⟩⟩,
          trivial⟩) ?_
      refine Walk.cases [([true, true], [.box (Up.z (u.str a.n).2), .box (Up.rz (u.clr.str a.n).2.clr), .box a.z], [.box (Up.z (u.str a.n).2), .box (Up.rz (u.clr.str a.n).2.clr), .box a.z])] (by rfl) (by kernel_rfl) (rs := [34]) (by rfl) (by first | (simp only [nf, Nat.beq] <;> rfl) | rfl) (fun base => ⟨
          ⟨rfl, rfl, by
            refine n_assign rfl (by first | (simp only [nf, Nat.beq] <;> rfl) | rfl) ?_
            exact AOps.nil ⟨rfl, rfl, rfl⟩⟩,
          trivial⟩) ?_
      refine Walk.done ?_
      refine AWP.ret ?_
      refine fin_box2 (.cons (rv_tmp (by first | (simp only [nf, Nat.beq] <;> rfl) | rfl)) .nil) (by first | (simp only [nf, Nat.beq] <;> rfl) | rfl) ?_ rfl rfl ?_ ?_
      · refine ren_flat rfl (congrArg vb ?_); first | rfl | (simp only [hI.1, hI1.1]; simp) | (rw [hS.1]; simp)
      · refine renU ?_ ?_ <;> ((try rw [hE]); (try rw [hE2]); simp only [Up.ask]; grind)
      · refine renR ?_ ?_ <;> ((try rw [hE]); (try rw [hE2]); simp only [Up.ask]; grind)
    · try simp only [nh] at hc2
      refine AWP.seq ?_
      refine AWP.region ?_
      refine n_ibin rfl (by first | (simp only [nf, Nat.beq] <;> rfl) | rfl) (by first | (simp only [nf, Nat.beq] <;> rfl) | rfl) rfl ?_
      refine n_assign rfl (by first | (simp only [nf, Nat.beq] <;> rfl) | rfl) ?_
      refine AOps.nil ?_
      refine AWP.cond (by first | (simp only [nf, Nat.beq] <;> rfl) | rfl) (fun hc3 => ?_) (fun hc3 => ?_)
      · try simp only [nh] at hc3
        refine AWP.seq ?_
        refine AWP.region ?_
        refine n_move rfl (by first | (simp only [nf, Nat.beq] <;> rfl) | rfl) ?_
        refine n_callBoxB rfl cf94 rfl (Eq.trans (by simp only [nl] <;> rfl) (by first | (simp only [nf, Nat.beq] <;> rfl) | rfl)) (by repeat (first | exact .nil | refine .cons ?_ ?_ | exact ren_ints | exact .lf (.val _) | exact .lf (lf_ints (.inl rfl)) | exact .bp ⟨rfl, rfl⟩ | exact .bp (.inl ⟨rfl, rfl⟩) | exact .bp (.inr ⟨rfl, rfl⟩) | exact .lf (D.flat_lf rfl) | exact ren_lits rfl | exact ren_ints)) (by rfl) (by repeat (first | exact .nil | refine .cons ?_ ?_ | exact ren_ints | exact .lf (.val _) | exact .lf (lf_ints (.inl rfl)) | exact .bp ⟨rfl, rfl⟩ | exact .bp (.inl ⟨rfl, rfl⟩) | exact .bp (.inr ⟨rfl, rfl⟩) | exact .lf (D.flat_lf rfl) | exact ren_lits rfl | exact ren_ints)) (u_flag u.b u.e hu.1 hu.2) (by repeat (first | exact lf_nil | refine lf_cons ?_ ?_ | exact .val _ | exact lf_ints (.inl rfl))) (by first | exact .val _ | exact lf_ints (.inl rfl) | exact lf_ints (.inr rfl) | exact .any | exact D.flat_lf rfl) (by first | (simp only [nf, Nat.beq] <;> rfl) | rfl) ?_
        refine n_move rfl (by first | (simp only [nf, Nat.beq] <;> rfl) | rfl) ?_
        refine n_callBoxB rfl cf200 rfl (Eq.trans (by simp only [nl] <;> rfl) (by first | (simp only [nf, Nat.beq] <;> rfl) | rfl)) (by repeat (first | exact .nil | refine .cons ?_ ?_ | exact ren_ints | exact .lf (.val _) | exact .lf (lf_ints (.inl rfl)) | exact .bp ⟨rfl, rfl⟩ | exact .bp (.inl ⟨rfl, rfl⟩) | exact .bp (.inr ⟨rfl, rfl⟩) | exact .lf (D.flat_lf rfl) | exact ren_lits rfl | exact ren_ints)) (by rfl) (by repeat (first | exact .nil | refine .cons ?_ ?_ | exact ren_ints | exact .lf (.val _) | exact .lf (lf_ints (.inl rfl)) | exact .bp ⟨rfl, rfl⟩ | exact .bp (.inl ⟨rfl, rfl⟩) | exact .bp (.inr ⟨rfl, rfl⟩) | exact .lf (D.flat_lf rfl) | exact ren_lits rfl | exact ren_ints)) (ru_flag u.clr.b u.clr.e hn hc.1 hc.2) (by repeat (first | exact lf_nil | refine lf_cons ?_ ?_ | exact .val _ | exact lf_ints (.inl rfl))) (by first | exact .val _ | exact lf_ints (.inl rfl) | exact lf_ints (.inr rfl) | exact .any | exact D.flat_lf rfl) (by first | (simp only [nf, Nat.beq] <;> rfl) | rfl) ?_
        refine n_beql rfl (by first | (simp only [nf, Nat.beq] <;> rfl) | rfl) (by first | (simp only [nf, Nat.beq] <;> rfl) | rfl) Try.underlying4 rfl ?_
        refine n_assign rfl (by first | (simp only [nf, Nat.beq] <;> rfl) | rfl) ?_
        refine AOps.nil ?_
        refine AWP.ret ?_
        refine fin_box2 (.cons (rv_tmp (by first | (simp only [nf, Nat.beq] <;> rfl) | rfl)) .nil) (by first | (simp only [nf, Nat.beq] <;> rfl) | rfl) ?_ rfl rfl ?_ ?_
        · refine ren_flat rfl (congrArg vb ?_); first | rfl | (simp only [hI.1, hI1.1]; simp) | (rw [hS.1]; simp)
        · refine renU ?_ ?_ <;> ((try rw [hE]); (try rw [hE2]); simp only [Up.ask]; grind)
        · refine renR ?_ ?_ <;> ((try rw [hE]); (try rw [hE2]); simp only [Up.ask]; grind)
      · try simp only [nh] at hc3
        refine AWP.skip ?_
        refine AWP.seq ?_
        refine AWP.region ?_
        refine n_move rfl (by first | (simp only [nf, Nat.beq] <;> rfl) | rfl) ?_
        refine n_fieldAddr rfl fd105_4 ti28 rfl (by first | (simp only [nf, Nat.beq] <;> rfl) | rfl) rfl (by first | (simp only [nf, Nat.beq] <;> rfl) | rfl) ?_
        refine n_load rfl ti28 (by first | (simp only [nf, Nat.beq] <;> rfl) | rfl) (by first | (simp only [nf, Nat.beq] <;> rfl) | rfl) rfl (by first | (simp only [nf, Nat.beq] <;> rfl) | rfl) ?_
        refine n_callBoxB rfl cf93 rfl (Eq.trans (by simp only [nl] <;> rfl) (by first | (simp only [nf, Nat.beq] <;> rfl) | rfl)) (by repeat (first | exact .nil | refine .cons ?_ ?_ | exact ren_ints | exact .lf (.val _) | exact .lf (lf_ints (.inl rfl)) | exact .bp ⟨rfl, rfl⟩ | exact .bp (.inl ⟨rfl, rfl⟩) | exact .bp (.inr ⟨rfl, rfl⟩) | exact .lf (D.flat_lf rfl) | exact ren_lits rfl | exact ren_ints)) (by rfl) (by repeat (first | exact .nil | refine .cons ?_ ?_ | exact ren_ints | exact .lf (.val _) | exact .lf (lf_ints (.inl rfl)) | exact .bp ⟨rfl, rfl⟩ | exact .bp (.inl ⟨rfl, rfl⟩) | exact .bp (.inr ⟨rfl, rfl⟩) | exact .lf (D.flat_lf rfl) | exact ren_lits rfl | exact ren_ints)) (u_spoil u.b u.e a.e) (by repeat (first | exact lf_nil | refine lf_cons ?_ ?_ | exact .val _ | exact lf_ints (.inl rfl))) (by first | exact .val _ | exact lf_ints (.inl rfl) | exact lf_ints (.inr rfl) | exact .any | exact D.flat_lf rfl) (by first | (simp only [nf, Nat.beq] <;> rfl) | rfl) ?_
        refine AOps.nil ?_
        refine AWP.seq ?_
        refine AWP.region ?_
        refine n_move rfl (by first | (simp only [nf, Nat.beq] <;> rfl) | rfl) ?_
        refine n_fieldAddr rfl fd105_4 ti28 rfl (by first | (simp only [nf, Nat.beq] <;> rfl) | rfl) rfl (by first | (simp only [nf, Nat.beq] <;> rfl) | rfl) ?_
        refine n_load rfl ti28 (by first | (simp only [nf, Nat.beq] <;> rfl) | rfl) (by first | (simp only [nf, Nat.beq] <;> rfl) | rfl) rfl (by first | (simp only [nf, Nat.beq] <;> rfl) | rfl) ?_
        refine n_callBoxB rfl cf201 rfl (Eq.trans (by simp only [nl] <;> rfl) (by first | (simp only [nf, Nat.beq] <;> rfl) | rfl)) (by repeat (first | exact .nil | refine .cons ?_ ?_ | exact ren_ints | exact .lf (.val _) | exact .lf (lf_ints (.inl rfl)) | exact .bp ⟨rfl, rfl⟩ | exact .bp (.inl ⟨rfl, rfl⟩) | exact .bp (.inr ⟨rfl, rfl⟩) | exact .lf (D.flat_lf rfl) | exact ren_lits rfl | exact ren_ints)) (by rfl) (by repeat (first | exact .nil | refine .cons ?_ ?_ | exact ren_ints | exact .lf (.val _) | exact .lf (lf_ints (.inl rfl)) | exact .bp ⟨rfl, rfl⟩ | exact .bp (.inl ⟨rfl, rfl⟩) | exact .bp (.inr ⟨rfl, rfl⟩) | exact .lf (D.flat_lf rfl) | exact ren_lits rfl | exact ren_ints)) (ru_spoil u.clr.b u.clr.e hn a.e) (by repeat (first | exact lf_nil | refine lf_cons ?_ ?_ | exact .val _ | exact lf_ints (.inl rfl))) (by first | exact .val _ | exact lf_ints (.inl rfl) | exact lf_ints (.inr rfl) | exact .any | exact D.flat_lf rfl) (by first | (simp only [nf, Nat.beq] <;> rfl) | rfl) ?_
        refine AOps.nil ?_
        refine AWP.seq ?_
        refine AWP.region ?_
        refine n_assign rfl (by first | (simp only [nf, Nat.beq] <;> rfl) | rfl) ?_
        refine AOps.nil ?_
        refine AWP.ret ?_
        refine fin_box2 (.cons (rv_tmp (by first | (simp only [nf, Nat.beq] <;> rfl) | rfl)) .nil) (by first | (simp only [nf, Nat.beq] <;> rfl) | rfl) ?_ rfl rfl ?_ ?_
        · refine ren_flat rfl (congrArg vb ?_); first | rfl | (simp only [hI.1, hI1.1]; simp) | (rw [hS.1]; simp)
        · refine renU ?_ ?_ <;> ((try rw [hE]); (try rw [hE2]); simp only [Up.ask]; grind)
        · refine renR ?_ ?_ <;> ((try rw [hE]); (try rw [hE2]); simp only [Up.ask]; grind)

attribute [local irreducible] Up.ask Up.int Up.str Up.close Up.rest Up.clr Up.spoil
theorem Reads_calls (b : List Int) (hb : Byt b) (hl : L40 b) (ks : List Ak1) (hk : ∀ a ∈ ks, Ak1.okA a) (hn : ks.length ≤ 1048576) : Does Try.prog 13 [bys b, (.sl none (ks.map Ak1.z) .ro)] [] (vb true) [] := by
  refine Does.of_body (rvs := [.tmp 4]) Try.func13 rfl rfl rfl rfl ?_
  refine AWP.seq ?_
  refine AWP.region ?_
  refine n_assign rfl (by first | (simp only [nf, Nat.beq] <;> rfl) | rfl) ?_
  refine AOps.nil ?_
  refine AWP.seq ?_
  refine AWP.seq ?_
  refine AWP.region ?_
  refine n_call0B rfl cf72 rfl (Eq.trans (by simp only [nl] <;> rfl) (by first | (simp only [nf, Nat.beq] <;> rfl) | rfl)) (by repeat (first | exact .nil | refine .cons ?_ ?_ | exact ren_ints | exact .lf (.val _) | exact .lf (lf_ints (.inl rfl)) | exact .bp ⟨rfl, rfl⟩ | exact .bp (.inl ⟨rfl, rfl⟩) | exact .bp (.inr ⟨rfl, rfl⟩) | exact .lf (D.flat_lf rfl) | exact ren_lits rfl | exact ren_ints)) (live) (by first | exact .val _ | exact lf_ints (.inl rfl) | exact lf_ints (.inr rfl) | exact .any | exact D.flat_lf rfl) ?_
  refine n_not rfl (by first | (simp only [nf, Nat.beq] <;> rfl) | rfl) rfl ?_
  refine AOps.nil ?_
  refine AWP.cond_false (by first | (simp only [nf, Nat.beq] <;> rfl) | rfl) ?_
  refine AWP.skip ?_
  refine AWP.seq ?_
  refine AWP.region ?_
  refine n_move rfl (by first | (simp only [nf, Nat.beq] <;> rfl) | rfl) ?_
  refine n_callNewB rfl cf84 rfl (Eq.trans (by simp only [nl] <;> rfl) (by first | (simp only [nf, Nat.beq] <;> rfl) | rfl)) (by repeat (first | exact .nil | refine .cons ?_ ?_ | exact ren_ints | exact .lf (.val _) | exact .lf (lf_ints (.inl rfl)) | exact .bp ⟨rfl, rfl⟩ | exact .bp (.inl ⟨rfl, rfl⟩) | exact .bp (.inr ⟨rfl, rfl⟩) | exact .lf (D.flat_lf rfl) | exact ren_lits rfl | exact ren_ints)) (u_open _ (by assumption)) (by repeat (first | exact lf_nil | refine lf_cons ?_ ?_ | exact .val _ | exact lf_ints (.inl rfl))) rfl (by first | (simp only [nf, Nat.beq] <;> rfl) | rfl) ?_
  refine n_move rfl (by first | (simp only [nf, Nat.beq] <;> rfl) | rfl) ?_
  refine n_callNewB rfl cf89 rfl (Eq.trans (by simp only [nl] <;> rfl) (by first | (simp only [nf, Nat.beq] <;> rfl) | rfl)) (by repeat (first | exact .nil | refine .cons ?_ ?_ | exact ren_ints | exact .lf (.val _) | exact .lf (lf_ints (.inl rfl)) | exact .bp ⟨rfl, rfl⟩ | exact .bp (.inl ⟨rfl, rfl⟩) | exact .bp (.inr ⟨rfl, rfl⟩) | exact .lf (D.flat_lf rfl) | exact ren_lits rfl | exact ren_ints)) (ru_open _ (by assumption)) (by repeat (first | exact lf_nil | refine lf_cons ?_ ?_ | exact .val _ | exact lf_ints (.inl rfl))) rfl (by first | (simp only [nf, Nat.beq] <;> rfl) | rfl) ?_
  refine n_assign rfl (by first | (simp only [nf, Nat.beq] <;> rfl) | rfl) ?_
  refine n_assign rfl (by first | (simp only [nf, Nat.beq] <;> rfl) | rfl) ?_
  refine AOps.nil ?_
  refine AWP.seq ?_
  refine AWP.seq ?_
  refine AWP.region ?_
  refine n_move rfl (by first | (simp only [nf, Nat.beq] <;> rfl) | rfl) ?_
  refine n_len rfl Try.underlying101 (by first | (simp only [nf, Nat.beq] <;> rfl) | rfl) (by first | rw [ints_length] | rfl) ?_
  refine n_move rfl (by first | (simp only [nf, Nat.beq] <;> rfl) | rfl) ?_
  refine AOps.nil ?_
  refine AWP.block ?_
  refine AWP.loopX 2 (α := Nat × Up) (fun p => p.1 ≤ ks.length ∧ p.2.ok) (fun p => put (put (put (put (put empty 5 (.bp 0 0)) 6 (.bp 1 0)) 15 (.sl none (ks.map Ak1.z) .ro)) 16 (vi (ks.length : Int))) 17 (vi (p.1 : Int))) (fun p => [.box (Up.z p.2), .box (Up.rz p.2.clr)]) (fun p => ks.length - p.1) (0, ⟨b, 0⟩) ?_ ?_ ?_ ?_ ?_ ?_ ?_
  · exact ⟨Nat.zero_le _, hb, hl⟩
  · (repeat (first | exact FLe.empty _ | refine FLe.put ?_ ?_)) <;> first | (simp only [nf, Nat.beq]; done) | rfl | (try simp only [nf, Nat.beq]; simp)
  · dsimp only; rw [show Up.clr ⟨b, 0⟩ = ⟨b, 0⟩ from Up.clr_b rfl]
  · exact fun _ => rfl
  · intro p hp; (try dsimp only); (repeat' (refine un_put ?_ ?_)) <;> first | exact un_empty | exact .bp (by decide) | exact .lf (D.flat_lf rfl) | exact .lf (lf_ints (.inl rfl)) | exact .lf (lf_map (fun _ => rfl) (.inl rfl))
  · intro p hp; (try dsimp only); repeat' (first | exact un_nil | refine un_cons ?_ ?_ | exact un_box rfl | exact un_boxL (lf_cons (lf_ints (.inl rfl)) (lf_cons (.val _) (lf_cons (.val _) lf_nil))) | exact un_boxL (lf_cons (lf_ints (.inl rfl)) (lf_cons (.val _) lf_nil)))
  · rintro ⟨i, u⟩ ⟨hi, hu⟩
    try dsimp only at hi hu ⊢
    refine AWP.seq ?_
    refine AWP.region ?_
    refine n_ibin rfl (by first | (simp only [nf, Nat.beq] <;> rfl) | rfl) (by first | (simp only [nf, Nat.beq] <;> rfl) | rfl) rfl ?_
    refine AOps.nil ?_
    refine AWP.seq ?_
    refine AWP.cond (by first | (simp only [nf, Nat.beq] <;> rfl) | rfl) (fun hc2 => ?_) (fun hc2 => ?_)
    · try simp only [nh] at hc2
      obtain ⟨a, hka⟩ : ∃ a, ks[i]? = some a := ⟨_, List.getElem?_eq_getElem (by omega)⟩
      have ha := hk a (List.mem_of_getElem? hka)
      refine AWP.skip ?_
      refine AWP.seq ?_
      refine AWP.block ?_
      refine AWP.seq ?_
      refine AWP.region ?_
      refine n_indexAddr rfl Try.underlying101 ti105 rfl (by first | (simp only [nf, Nat.beq] <;> rfl) | rfl) (by first | (simp only [nf, Nat.beq] <;> rfl) | rfl) (by omega) (by first | exact ints_at _ _ _ (by omega) | exact ints_get _ _ _ (by omega) | exact map_at _ (by assumption) | rfl) rfl ?_
      refine n_load rfl ti105 (by first | (simp only [nf, Nat.beq] <;> rfl) | rfl) (by first | (simp only [nf, Nat.beq] <;> rfl) | rfl) rfl (by first | (simp only [nf, Nat.beq] <;> rfl) | rfl) ?_
      refine n_alloc rfl zi105 rfl (by first | (simp only [nf, Nat.beq] <;> rfl) | rfl) (by first | (simp only [nf, Nat.beq] <;> rfl) | rfl) ?_
      refine n_store ti105 (by first | (simp only [nf, Nat.beq] <;> rfl) | rfl) rfl (by first | (simp only [nf, Nat.beq] <;> rfl) | rfl) rfl (by first | (simp only [nf, Nat.beq] <;> rfl) | rfl) rfl rfl rfl (by first | (simp only [nf, Nat.beq] <;> rfl) | rfl) ?_
      refine AOps.nil ?_
      refine AWP.seq ?_
      refine AWP.any1 3 [.box (Up.z (u.ask a)), .box (Up.rz (u.ask a).clr), .box a.z] (by kernel_rfl) (by kernel_rfl) (by kernel_rfl) ?_
      refine Walk.ahead [3] (by rfl) (by kernel_rfl) (by rfl) (rs := [5]) (by rfl) (by first | (simp only [nf, Nat.beq] <;> rfl) | rfl) (fun base => by
          refine n_move rfl (by first | (simp only [nf, Nat.beq] <;> rfl) | rfl) ?_
          exact AOps.nil ⟨rfl, rfl, rfl⟩) ?_
      refine Walk.ahead [3] (by rfl) (by kernel_rfl) (by rfl) (rs := [6]) (by rfl) (by first | (simp only [nf, Nat.beq] <;> rfl) | rfl) (fun base => by
          refine n_move rfl (by first | (simp only [nf, Nat.beq] <;> rfl) | rfl) ?_
          exact AOps.nil ⟨rfl, rfl, rfl⟩) ?_
      refine Walk.ahead [3] (by rfl) (by kernel_rfl) (by rfl) (rs := [8]) (by rfl) (by first | (simp only [nf, Nat.beq] <;> rfl) | rfl) (fun base => by
          refine n_load rfl ti105 (by first | (simp only [nf, Nat.beq] <;> rfl) | rfl) (by first | (simp only [nf, Nat.beq] <;> rfl) | rfl) rfl (by first | (simp only [nf, Nat.beq] <;> rfl) | rfl) ?_
          exact AOps.nil ⟨rfl, rfl, rfl⟩) ?_
      refine Walk.writes (by rfl) (rs := [21, 22, 23]) (by rfl) (by first | (simp only [nf, Nat.beq] <;> rfl) | rfl) (fun base => by
          refine n_callBoxes rfl cf90 rfl (Eq.trans (by simp only [nl] <;> rfl) (by first | (simp only [nf, Nat.beq] <;> rfl) | rfl)) (by repeat (first | exact .nil | refine .cons ?_ ?_ | exact ren_ints | exact .lf (.val _) | exact .lf (lf_ints (.inl rfl)) | exact .bp ⟨rfl, rfl⟩ | exact .bp (.inl ⟨rfl, rfl⟩) | exact .bp (.inr ⟨rfl, rfl⟩) | exact .lf (D.flat_lf rfl) | exact ren_lits rfl | exact ren_ints)) (by rfl) (by repeat (first | exact .nil | refine .cons ?_ ?_ | exact ren_ints | exact .lf (.val _) | exact .lf (lf_ints (.inl rfl)) | exact .bp ⟨rfl, rfl⟩ | exact .bp (.inl ⟨rfl, rfl⟩) | exact .bp (.inr ⟨rfl, rfl⟩) | exact .lf (D.flat_lf rfl) | exact ren_lits rfl | exact ren_ints)) (by rfl) (by rfl) (by repeat (first | exact .nil | refine .cons ?_ ?_ | exact ren_ints | exact .lf (.val _) | exact .lf (lf_ints (.inl rfl)) | exact .bp ⟨rfl, rfl⟩ | exact .bp (.inl ⟨rfl, rfl⟩) | exact .bp (.inr ⟨rfl, rfl⟩) | exact .lf (D.flat_lf rfl) | exact ren_lits rfl | exact ren_ints)) (asks u hu a ha) (by repeat (first | exact lf_nil | refine lf_cons ?_ ?_ | exact .val _ | exact lf_ints (.inl rfl))) (by repeat (first | exact lf_nil | refine lf_cons ?_ ?_ | exact .val _ | exact lf_ints (.inl rfl))) (by first | exact .val _ | exact lf_ints (.inl rfl) | exact lf_ints (.inr rfl) | exact .any | exact D.flat_lf rfl) (by first | (simp only [nf, Nat.beq] <;> rfl) | rfl) ?_
          exact AOps.nil ⟨rfl, rfl, rfl⟩) ?_
      refine Walk.behind [4] (by rfl) (by rfl) (by kernel_rfl) (by rfl) (rs := [24]) (by rfl) (by first | (simp only [nf, Nat.beq] <;> rfl) | rfl) (fun base => by
          refine n_not rfl (by first | (simp only [nf, Nat.beq] <;> rfl) | rfl) rfl ?_
          exact AOps.nil ⟨rfl, rfl, rfl⟩) ?_
      refine Walk.behind [5] (by rfl) (by rfl) (by kernel_rfl) (by rfl) (rs := [25]) (by rfl) (by first | (simp only [nf, Nat.beq] <;> rfl) | rfl) (fun base => by
          refine n_move rfl (by first | (simp only [nf, Nat.beq] <;> rfl) | rfl) ?_
          exact AOps.nil ⟨rfl, rfl, rfl⟩) ?_
      refine Walk.name (u := 26) (fun z => .val (.bool z)) (by first | (simp only [nf, Nat.beq] <;> rfl) | rfl) (fun b26 hb26 => ?_)
      refine Walk.behind [5, 6] (by rfl) (by rfl) (by kernel_rfl) (by rfl) (rs := [5, 26]) (by rfl) (by first | (simp only [nf, Nat.beq] <;> rfl) | rfl) (fun base => by
          refine n_soft (u := 26) (E := .val (.bool b26)) (!b26) rfl rfl rfl (by first | (simp only [nf, Nat.beq] <;> rfl) | rfl) (by cases b26 <;> first | (intro _; rfl) | (intro h; exact absurd h (by decide))) (by cases b26 <;> first | (intro h; exact absurd h (by decide)) | (intro _; exact ⟨_, rfl, by first | (intro h; cases h; done) | decide | simp⟩)) (fun h => by
              cases b26 with
              | true => exact absurd h (by first | decide | simp)
              | false =>
                refine n_move rfl (by first | (simp only [nf, Nat.beq] <;> rfl) | rfl) ?_
                exact AOps.nil ⟨rfl, rfl, rfl⟩) (AOps.nil ⟨rfl, rfl, rfl⟩)) ?_
      refine Walk.behind [5, 7] (by rfl) (by rfl) (by kernel_rfl) (by rfl) (rs := [27, 26]) (by rfl) (by first | (simp only [nf, Nat.beq] <;> rfl) | rfl) (fun base => by
          refine n_soft (u := 26) (E := .val (.bool b26)) (!b26) rfl rfl rfl (by first | (simp only [nf, Nat.beq] <;> rfl) | rfl) (by cases b26 <;> first | (intro _; rfl) | (intro h; exact absurd h (by decide))) (by cases b26 <;> first | (intro h; exact absurd h (by decide)) | (intro _; exact ⟨_, rfl, by first | (intro h; cases h; done) | decide | simp⟩)) (fun h => by
              cases b26 with
              | true => exact absurd h (by first | decide | simp)
              | false =>
                refine n_callBoxB rfl cf86 rfl (Eq.trans (by simp only [nl] <;> rfl) (by first | (simp only [nf, Nat.beq] <;> rfl) | rfl)) (by repeat (first | exact .nil | refine .cons ?_ ?_ | exact ren_ints | exact .lf (.val _) | exact .lf (lf_ints (.inl rfl)) | exact .bp ⟨rfl, rfl⟩ | exact .bp (.inl ⟨rfl, rfl⟩) | exact .bp (.inr ⟨rfl, rfl⟩) | exact .lf (D.flat_lf rfl) | exact ren_lits rfl | exact ren_ints)) (by rfl) (by repeat (first | exact .nil | refine .cons ?_ ?_ | exact ren_ints | exact .lf (.val _) | exact .lf (lf_ints (.inl rfl)) | exact .bp ⟨rfl, rfl⟩ | exact .bp (.inl ⟨rfl, rfl⟩) | exact .bp (.inr ⟨rfl, rfl⟩) | exact .lf (D.flat_lf rfl) | exact ren_lits rfl | exact ren_ints)) (u_err _ _) (by repeat (first | exact lf_nil | refine lf_cons ?_ ?_ | exact .val _ | exact lf_ints (.inl rfl))) (by first | exact .val _ | exact lf_ints (.inl rfl) | exact lf_ints (.inr rfl) | exact .any | exact D.flat_lf rfl) (by first | (simp only [nf, Nat.beq] <;> rfl) | rfl) ?_
                exact AOps.nil ⟨rfl, rfl, rfl⟩) (AOps.nil ⟨rfl, rfl, rfl⟩)) ?_
      refine Walk.behind [5, 8] (by rfl) (by rfl) (by kernel_rfl) (by rfl) (rs := [6, 26]) (by rfl) (by first | (simp only [nf, Nat.beq] <;> rfl) | rfl) (fun base => by
          refine n_soft (u := 26) (E := .val (.bool b26)) (!b26) rfl rfl rfl (by first | (simp only [nf, Nat.beq] <;> rfl) | rfl) (by cases b26 <;> first | (intro _; rfl) | (intro h; exact absurd h (by decide))) (by cases b26 <;> first | (intro h; exact absurd h (by decide)) | (intro _; exact ⟨_, rfl, by first | (intro h; cases h; done) | decide | simp⟩)) (fun h => by
              cases b26 with
              | true => exact absurd h (by first | decide | simp)
              | false =>
                refine n_move rfl (by first | (simp only [nf, Nat.beq] <;> rfl) | rfl) ?_
                exact AOps.nil ⟨rfl, rfl, rfl⟩) (AOps.nil ⟨rfl, rfl, rfl⟩)) ?_
      refine Walk.behind [5, 9] (by rfl) (by rfl) (by kernel_rfl) (by rfl) (rs := [29, 26]) (by rfl) (by first | (simp only [nf, Nat.beq] <;> rfl) | rfl) (fun base => by
          refine n_soft (u := 26) (E := .val (.bool b26)) (!b26) rfl rfl rfl (by first | (simp only [nf, Nat.beq] <;> rfl) | rfl) (by cases b26 <;> first | (intro _; rfl) | (intro h; exact absurd h (by decide))) (by cases b26 <;> first | (intro h; exact absurd h (by decide)) | (intro _; exact ⟨_, rfl, by first | (intro h; cases h; done) | decide | simp⟩)) (fun h => by
              cases b26 with
              | true => exact absurd h (by first | decide | simp)
              | false =>
                refine n_nilCheck rfl (by first | (simp only [nf, Nat.beq] <;> rfl) | rfl) rfl ?_
                exact AOps.nil ⟨rfl, rfl, rfl⟩) (AOps.nil ⟨rfl, rfl, rfl⟩)) ?_
      refine Walk.behind [5, 10] (by rfl) (by rfl) (by kernel_rfl) (by rfl) (rs := [30, 26]) (by rfl) (by first | (simp only [nf, Nat.beq] <;> rfl) | rfl) (fun base => by
          refine n_soft (u := 26) (E := .val (.bool b26)) (!b26) rfl rfl rfl (by first | (simp only [nf, Nat.beq] <;> rfl) | rfl) (by cases b26 <;> first | (intro _; rfl) | (intro h; exact absurd h (by decide))) (by cases b26 <;> first | (intro h; exact absurd h (by decide)) | (intro _; exact ⟨_, rfl, by first | (intro h; cases h; done) | decide | simp⟩)) (fun h => by
              cases b26 with
              | true => exact absurd h (by first | decide | simp)
              | false =>
                refine n_fieldAddr rfl fd108_1 ti28 rfl (by first | (simp only [nf, Nat.beq] <;> rfl) | rfl) rfl (by first | (simp only [nf, Nat.beq] <;> rfl) | rfl) ?_
                exact AOps.nil ⟨rfl, rfl, rfl⟩) (AOps.nil ⟨rfl, rfl, rfl⟩)) ?_
      refine Walk.behind [5, 11] (by rfl) (by rfl) (by kernel_rfl) (by rfl) (rs := [31, 26]) (by rfl) (by first | (simp only [nf, Nat.beq] <;> rfl) | rfl) (fun base => by
          refine n_soft (u := 26) (E := .val (.bool b26)) (!b26) rfl rfl rfl (by first | (simp only [nf, Nat.beq] <;> rfl) | rfl) (by cases b26 <;> first | (intro _; rfl) | (intro h; exact absurd h (by decide))) (by cases b26 <;> first | (intro h; exact absurd h (by decide)) | (intro _; exact ⟨_, rfl, by first | (intro h; cases h; done) | decide | simp⟩)) (fun h => by
              cases b26 with
              | true => exact absurd h (by first | decide | simp)
              | false =>
                refine n_load rfl ti28 (by first | (simp only [nf, Nat.beq] <;> rfl) | rfl) (by first | (simp only [nf, Nat.beq] <;> rfl) | rfl) rfl (by first | (simp only [nf, Nat.beq] <;> rfl) | rfl) ?_
                exact AOps.nil ⟨rfl, rfl, rfl⟩) (AOps.nil ⟨rfl, rfl, rfl⟩)) ?_
      refine Walk.behind [5, 12] (by rfl) (by rfl) (by kernel_rfl) (by rfl) (rs := [28, 32, 26]) (by rfl) (by first | (simp only [nf, Nat.beq] <;> rfl) | rfl) (fun base => by
          refine n_soft (u := 26) (E := .val (.bool b26)) (!b26) rfl rfl rfl (by first | (simp only [nf, Nat.beq] <;> rfl) | rfl) (by cases b26 <;> first | (intro _; rfl) | (intro h; exact absurd h (by decide))) (by cases b26 <;> first | (intro h; exact absurd h (by decide)) | (intro _; exact ⟨_, rfl, by first | (intro h; cases h; done) | decide | simp⟩)) (fun h => by
              cases b26 with
              | true => exact absurd h (by first | decide | simp)
              | false =>
                refine n_ibin rfl (by first | (simp only [nf, Nat.beq] <;> rfl) | rfl) (by first | (simp only [nf, Nat.beq] <;> rfl) | rfl) rfl ?_
                exact AOps.nil ⟨rfl, rfl, rfl⟩) (AOps.nil ⟨rfl, rfl, rfl⟩)) ?_
      refine Walk.behind [5, 13] (by rfl) (by rfl) (by kernel_rfl) (by rfl) (rs := [26, 33]) (by rfl) (by first | (simp only [nf, Nat.beq] <;> rfl) | rfl) (fun base => by
          refine n_pick_or rfl (by first | (simp only [nf, Nat.beq] <;> rfl) | rfl) (fun h => by cases b26 with | true => exact absurd h (by decide) | false => exact (by first | (simp only [nf, Nat.beq] <;> rfl) | rfl)) ?_
          exact AOps.nil ⟨rfl, rfl, rfl⟩) ?_
      refine Walk.behind [5, 13, 14] (by rfl) (by rfl) (by kernel_rfl) (by rfl) (rs := [34]) (by rfl) (by first | (simp only [nf, Nat.beq] <;> rfl) | rfl) (fun base => by
          refine n_move rfl (by first | (simp only [nf, Nat.beq] <;> rfl) | rfl) ?_
          exact AOps.nil ⟨rfl, rfl, rfl⟩) ?_
      refine Walk.name (u := 35) (fun z => .val (.bool z)) (by first | (simp only [nf, Nat.beq] <;> rfl) | rfl) (fun b35 hb35 => ?_)
      refine Walk.behind [5, 13, 14, 15] (by rfl) (by rfl) (by kernel_rfl) (by rfl) (rs := [5, 35]) (by rfl) (by first | (simp only [nf, Nat.beq] <;> rfl) | rfl) (fun base => by
          refine n_soft (u := 35) (E := .val (.bool b35)) (!b35) rfl rfl rfl (by first | (simp only [nf, Nat.beq] <;> rfl) | rfl) (by cases b35 <;> first | (intro _; rfl) | (intro h; exact absurd h (by decide))) (by cases b35 <;> first | (intro h; exact absurd h (by decide)) | (intro _; exact ⟨_, rfl, by first | (intro h; cases h; done) | decide | simp⟩)) (fun h => by
              cases b35 with
              | true => exact absurd h (by first | decide | simp)
              | false =>
                refine n_move rfl (by first | (simp only [nf, Nat.beq] <;> rfl) | rfl) ?_
                exact AOps.nil ⟨rfl, rfl, rfl⟩) (AOps.nil ⟨rfl, rfl, rfl⟩)) ?_
      refine Walk.behind [5, 13, 14, 16] (by rfl) (by rfl) (by kernel_rfl) (by rfl) (rs := [36, 35]) (by rfl) (by first | (simp only [nf, Nat.beq] <;> rfl) | rfl) (fun base => by
          refine n_soft (u := 35) (E := .val (.bool b35)) (!b35) rfl rfl rfl (by first | (simp only [nf, Nat.beq] <;> rfl) | rfl) (by cases b35 <;> first | (intro _; rfl) | (intro h; exact absurd h (by decide))) (by cases b35 <;> first | (intro h; exact absurd h (by decide)) | (intro _; exact ⟨_, rfl, by first | (intro h; cases h; done) | decide | simp⟩)) (fun h => by
              cases b35 with
              | true => exact absurd h (by first | decide | simp)
              | false =>
                refine n_callBoxB rfl cf88 rfl (Eq.trans (by simp only [nl] <;> rfl) (by first | (simp only [nf, Nat.beq] <;> rfl) | rfl)) (by repeat (first | exact .nil | refine .cons ?_ ?_ | exact ren_ints | exact .lf (.val _) | exact .lf (lf_ints (.inl rfl)) | exact .bp ⟨rfl, rfl⟩ | exact .bp (.inl ⟨rfl, rfl⟩) | exact .bp (.inr ⟨rfl, rfl⟩) | exact .lf (D.flat_lf rfl) | exact ren_lits rfl | exact ren_ints)) (by rfl) (by repeat (first | exact .nil | refine .cons ?_ ?_ | exact ren_ints | exact .lf (.val _) | exact .lf (lf_ints (.inl rfl)) | exact .bp ⟨rfl, rfl⟩ | exact .bp (.inl ⟨rfl, rfl⟩) | exact .bp (.inr ⟨rfl, rfl⟩) | exact .lf (D.flat_lf rfl) | exact ren_lits rfl | exact ren_ints)) (u_rest _ _) (by repeat (first | exact lf_nil | refine lf_cons ?_ ?_ | exact .val _ | exact lf_ints (.inl rfl))) (by first | exact .val _ | exact lf_ints (.inl rfl) | exact lf_ints (.inr rfl) | exact .any | exact D.flat_lf rfl) (by first | (simp only [nf, Nat.beq] <;> rfl) | rfl) ?_
                exact AOps.nil ⟨rfl, rfl, rfl⟩) (AOps.nil ⟨rfl, rfl, rfl⟩)) ?_
      refine Walk.behind [5, 13, 14, 17] (by rfl) (by rfl) (by kernel_rfl) (by rfl) (rs := [6, 35]) (by rfl) (by first | (simp only [nf, Nat.beq] <;> rfl) | rfl) (fun base => by
          refine n_soft (u := 35) (E := .val (.bool b35)) (!b35) rfl rfl rfl (by first | (simp only [nf, Nat.beq] <;> rfl) | rfl) (by cases b35 <;> first | (intro _; rfl) | (intro h; exact absurd h (by decide))) (by cases b35 <;> first | (intro h; exact absurd h (by decide)) | (intro _; exact ⟨_, rfl, by first | (intro h; cases h; done) | decide | simp⟩)) (fun h => by
              cases b35 with
              | true => exact absurd h (by first | decide | simp)
              | false =>
                refine n_move rfl (by first | (simp only [nf, Nat.beq] <;> rfl) | rfl) ?_
                exact AOps.nil ⟨rfl, rfl, rfl⟩) (AOps.nil ⟨rfl, rfl, rfl⟩)) ?_
      refine Walk.behind [5, 13, 14, 18] (by rfl) (by rfl) (by kernel_rfl) (by rfl) (rs := [38, 35]) (by rfl) (by first | (simp only [nf, Nat.beq] <;> rfl) | rfl) (fun base => by
          refine n_soft (u := 35) (E := .val (.bool b35)) (!b35) rfl rfl rfl (by first | (simp only [nf, Nat.beq] <;> rfl) | rfl) (by cases b35 <;> first | (intro _; rfl) | (intro h; exact absurd h (by decide))) (by cases b35 <;> first | (intro h; exact absurd h (by decide)) | (intro _; exact ⟨_, rfl, by first | (intro h; cases h; done) | decide | simp⟩)) (fun h => by
              cases b35 with
              | true => exact absurd h (by first | decide | simp)
              | false =>
                refine n_nilCheck rfl (by first | (simp only [nf, Nat.beq] <;> rfl) | rfl) rfl ?_
                exact AOps.nil ⟨rfl, rfl, rfl⟩) (AOps.nil ⟨rfl, rfl, rfl⟩)) ?_
      refine Walk.behind [5, 13, 14, 19] (by rfl) (by rfl) (by kernel_rfl) (by rfl) (rs := [39, 35]) (by rfl) (by first | (simp only [nf, Nat.beq] <;> rfl) | rfl) (fun base => by
          refine n_soft (u := 35) (E := .val (.bool b35)) (!b35) rfl rfl rfl (by first | (simp only [nf, Nat.beq] <;> rfl) | rfl) (by cases b35 <;> first | (intro _; rfl) | (intro h; exact absurd h (by decide))) (by cases b35 <;> first | (intro h; exact absurd h (by decide)) | (intro _; exact ⟨_, rfl, by first | (intro h; cases h; done) | decide | simp⟩)) (fun h => by
              cases b35 with
              | true => exact absurd h (by first | decide | simp)
              | false =>
                refine n_fieldAddr rfl fd108_0 ti22 rfl (by first | (simp only [nf, Nat.beq] <;> rfl) | rfl) rfl (by first | (simp only [nf, Nat.beq] <;> rfl) | rfl) ?_
                exact AOps.nil ⟨rfl, rfl, rfl⟩) (AOps.nil ⟨rfl, rfl, rfl⟩)) ?_
      refine Walk.behind [5, 13, 14, 20] (by rfl) (by rfl) (by kernel_rfl) (by rfl) (rs := [40, 35]) (by rfl) (by first | (simp only [nf, Nat.beq] <;> rfl) | rfl) (fun base => by
          refine n_soft (u := 35) (E := .val (.bool b35)) (!b35) rfl rfl rfl (by first | (simp only [nf, Nat.beq] <;> rfl) | rfl) (by cases b35 <;> first | (intro _; rfl) | (intro h; exact absurd h (by decide))) (by cases b35 <;> first | (intro h; exact absurd h (by decide)) | (intro _; exact ⟨_, rfl, by first | (intro h; cases h; done) | decide | simp⟩)) (fun h => by
              cases b35 with
              | true => exact absurd h (by first | decide | simp)
              | false =>
                refine n_load rfl ti22 (by first | (simp only [nf, Nat.beq] <;> rfl) | rfl) (by first | (simp only [nf, Nat.beq] <;> rfl) | rfl) rfl (by first | (simp only [nf, Nat.beq] <;> rfl) | rfl) ?_
                exact AOps.nil ⟨rfl, rfl, rfl⟩) (AOps.nil ⟨rfl, rfl, rfl⟩)) ?_
      refine Walk.behind [5, 13, 14, 21] (by rfl) (by rfl) (by kernel_rfl) (by rfl) (rs := [41, 35]) (by rfl) (by first | (simp only [nf, Nat.beq] <;> rfl) | rfl) (fun base => by
          refine n_soft (u := 35) (E := .val (.bool b35)) (!b35) rfl rfl rfl (by first | (simp only [nf, Nat.beq] <;> rfl) | rfl) (by cases b35 <;> first | (intro _; rfl) | (intro h; exact absurd h (by decide))) (by cases b35 <;> first | (intro h; exact absurd h (by decide)) | (intro _; exact ⟨_, rfl, by first | (intro h; cases h; done) | decide | simp⟩)) (fun h => by
              cases b35 with
              | true => exact absurd h (by first | decide | simp)
              | false =>
                refine n_len rfl Try.underlying22 (by first | (simp only [nf, Nat.beq] <;> rfl) | rfl) (by first | rw [ints_length] | rfl) ?_
                exact AOps.nil ⟨rfl, rfl, rfl⟩) (AOps.nil ⟨rfl, rfl, rfl⟩)) ?_
      refine Walk.behind [5, 13, 14, 22] (by rfl) (by rfl) (by kernel_rfl) (by rfl) (rs := [37, 42, 35]) (by rfl) (by first | (simp only [nf, Nat.beq] <;> rfl) | rfl) (fun base => by
          refine n_soft (u := 35) (E := .val (.bool b35)) (!b35) rfl rfl rfl (by first | (simp only [nf, Nat.beq] <;> rfl) | rfl) (by cases b35 <;> first | (intro _; rfl) | (intro h; exact absurd h (by decide))) (by cases b35 <;> first | (intro h; exact absurd h (by decide)) | (intro _; exact ⟨_, rfl, by first | (intro h; cases h; done) | decide | simp⟩)) (fun h => by
              cases b35 with
              | true => exact absurd h (by first | decide | simp)
              | false =>
                refine n_ibin rfl (by first | (simp only [nf, Nat.beq] <;> rfl) | rfl) (by first | (simp only [nf, Nat.beq] <;> rfl) | rfl) rfl ?_
                exact AOps.nil ⟨rfl, rfl, rfl⟩) (AOps.nil ⟨rfl, rfl, rfl⟩)) ?_
      refine Walk.behind [5, 13, 14, 23] (by rfl) (by rfl) (by kernel_rfl) (by rfl) (rs := [35, 43]) (by rfl) (by first | (simp only [nf, Nat.beq] <;> rfl) | rfl) (fun base => by
          refine n_pick_or rfl (by first | (simp only [nf, Nat.beq] <;> rfl) | rfl) (fun h => by cases b35 with | true => exact absurd h (by decide) | false => exact (by first | (simp only [nf, Nat.beq] <;> rfl) | rfl)) ?_
          exact AOps.nil ⟨rfl, rfl, rfl⟩) ?_
      refine Walk.behind [5, 13, 14, 23, 24] (by rfl) (by rfl) (by kernel_rfl) (by rfl) (rs := [44]) (by rfl) (by first | (simp only [nf, Nat.beq] <;> rfl) | rfl) (fun base => by
          refine n_move rfl (by first | (simp only [nf, Nat.beq] <;> rfl) | rfl) ?_
          exact AOps.nil ⟨rfl, rfl, rfl⟩) ?_
      refine Walk.name (u := 45) (fun z => .val (.bool z)) (by first | (simp only [nf, Nat.beq] <;> rfl) | rfl) (fun b45 hb45 => ?_)
      refine Walk.behind [5, 13, 14, 23, 24, 25] (by rfl) (by rfl) (by kernel_rfl) (by rfl) (rs := [5, 45]) (by rfl) (by first | (simp only [nf, Nat.beq] <;> rfl) | rfl) (fun base => by
          refine n_soft (u := 45) (E := .val (.bool b45)) (!b45) rfl rfl rfl (by first | (simp only [nf, Nat.beq] <;> rfl) | rfl) (by cases b45 <;> first | (intro _; rfl) | (intro h; exact absurd h (by decide))) (by cases b45 <;> first | (intro h; exact absurd h (by decide)) | (intro _; exact ⟨_, rfl, by first | (intro h; cases h; done) | decide | simp⟩)) (fun h => by
              cases b45 with
              | true => exact absurd h (by first | decide | simp)
              | false =>
                refine n_move rfl (by first | (simp only [nf, Nat.beq] <;> rfl) | rfl) ?_
                exact AOps.nil ⟨rfl, rfl, rfl⟩) (AOps.nil ⟨rfl, rfl, rfl⟩)) ?_
      refine Walk.behind [5, 13, 14, 23, 24, 26] (by rfl) (by rfl) (by kernel_rfl) (by rfl) (rs := [46, 45]) (by rfl) (by first | (simp only [nf, Nat.beq] <;> rfl) | rfl) (fun base => by
          refine n_soft (u := 45) (E := .val (.bool b45)) (!b45) rfl rfl rfl (by first | (simp only [nf, Nat.beq] <;> rfl) | rfl) (by cases b45 <;> first | (intro _; rfl) | (intro h; exact absurd h (by decide))) (by cases b45 <;> first | (intro h; exact absurd h (by decide)) | (intro _; exact ⟨_, rfl, by first | (intro h; cases h; done) | decide | simp⟩)) (fun h => by
              cases b45 with
              | true => exact absurd h (by first | decide | simp)
              | false =>
                refine n_callBoxB rfl cf91 rfl (Eq.trans (by simp only [nl] <;> rfl) (by first | (simp only [nf, Nat.beq] <;> rfl) | rfl)) (by repeat (first | exact .nil | refine .cons ?_ ?_ | exact ren_ints | exact .lf (.val _) | exact .lf (lf_ints (.inl rfl)) | exact .bp ⟨rfl, rfl⟩ | exact .bp (.inl ⟨rfl, rfl⟩) | exact .bp (.inr ⟨rfl, rfl⟩) | exact .lf (D.flat_lf rfl) | exact ren_lits rfl | exact ren_ints)) (by rfl) (by repeat (first | exact .nil | refine .cons ?_ ?_ | exact ren_ints | exact .lf (.val _) | exact .lf (lf_ints (.inl rfl)) | exact .bp ⟨rfl, rfl⟩ | exact .bp (.inl ⟨rfl, rfl⟩) | exact .bp (.inr ⟨rfl, rfl⟩) | exact .lf (D.flat_lf rfl) | exact ren_lits rfl | exact ren_ints)) (u_close _ _) (by repeat (first | exact lf_nil | refine lf_cons ?_ ?_ | exact .val _ | exact lf_ints (.inl rfl))) (by first | exact .val _ | exact lf_ints (.inl rfl) | exact lf_ints (.inr rfl) | exact .any | exact D.flat_lf rfl) (by first | (simp only [nf, Nat.beq] <;> rfl) | rfl) ?_
                exact AOps.nil ⟨rfl, rfl, rfl⟩) (AOps.nil ⟨rfl, rfl, rfl⟩)) ?_
      refine Walk.behind [5, 13, 14, 23, 24, 27] (by rfl) (by rfl) (by kernel_rfl) (by rfl) (rs := [6, 45]) (by rfl) (by first | (simp only [nf, Nat.beq] <;> rfl) | rfl) (fun base => by
          refine n_soft (u := 45) (E := .val (.bool b45)) (!b45) rfl rfl rfl (by first | (simp only [nf, Nat.beq] <;> rfl) | rfl) (by cases b45 <;> first | (intro _; rfl) | (intro h; exact absurd h (by decide))) (by cases b45 <;> first | (intro h; exact absurd h (by decide)) | (intro _; exact ⟨_, rfl, by first | (intro h; cases h; done) | decide | simp⟩)) (fun h => by
              cases b45 with
              | true => exact absurd h (by first | decide | simp)
              | false =>
                refine n_move rfl (by first | (simp only [nf, Nat.beq] <;> rfl) | rfl) ?_
                exact AOps.nil ⟨rfl, rfl, rfl⟩) (AOps.nil ⟨rfl, rfl, rfl⟩)) ?_
      refine Walk.behind [5, 13, 14, 23, 24, 28] (by rfl) (by rfl) (by kernel_rfl) (by rfl) (rs := [48, 45]) (by rfl) (by first | (simp only [nf, Nat.beq] <;> rfl) | rfl) (fun base => by
          refine n_soft (u := 45) (E := .val (.bool b45)) (!b45) rfl rfl rfl (by first | (simp only [nf, Nat.beq] <;> rfl) | rfl) (by cases b45 <;> first | (intro _; rfl) | (intro h; exact absurd h (by decide))) (by cases b45 <;> first | (intro h; exact absurd h (by decide)) | (intro _; exact ⟨_, rfl, by first | (intro h; cases h; done) | decide | simp⟩)) (fun h => by
              cases b45 with
              | true => exact absurd h (by first | decide | simp)
              | false =>
                refine n_callBoxB rfl cf92 rfl (Eq.trans (by simp only [nl] <;> rfl) (by first | (simp only [nf, Nat.beq] <;> rfl) | rfl)) (by repeat (first | exact .nil | refine .cons ?_ ?_ | exact ren_ints | exact .lf (.val _) | exact .lf (lf_ints (.inl rfl)) | exact .bp ⟨rfl, rfl⟩ | exact .bp (.inl ⟨rfl, rfl⟩) | exact .bp (.inr ⟨rfl, rfl⟩) | exact .lf (D.flat_lf rfl) | exact ren_lits rfl | exact ren_ints)) (by rfl) (by repeat (first | exact .nil | refine .cons ?_ ?_ | exact ren_ints | exact .lf (.val _) | exact .lf (lf_ints (.inl rfl)) | exact .bp ⟨rfl, rfl⟩ | exact .bp (.inl ⟨rfl, rfl⟩) | exact .bp (.inr ⟨rfl, rfl⟩) | exact .lf (D.flat_lf rfl) | exact ren_lits rfl | exact ren_ints)) (ru_close (u.ask a).clr.b (u.ask a).clr.e (Up.clr_nil _)) (by repeat (first | exact lf_nil | refine lf_cons ?_ ?_ | exact .val _ | exact lf_ints (.inl rfl))) (by first | exact .val _ | exact lf_ints (.inl rfl) | exact lf_ints (.inr rfl) | exact .any | exact D.flat_lf rfl) (by first | (simp only [nf, Nat.beq] <;> rfl) | rfl) ?_
                exact AOps.nil ⟨rfl, rfl, rfl⟩) (AOps.nil ⟨rfl, rfl, rfl⟩)) ?_
      refine Walk.behind [5, 13, 14, 23, 24, 29] (by rfl) (by rfl) (by kernel_rfl) (by rfl) (rs := [47, 49, 45]) (by rfl) (by first | (simp only [nf, Nat.beq] <;> rfl) | rfl) (fun base => by
          refine n_soft (u := 45) (E := .val (.bool b45)) (!b45) rfl rfl rfl (by first | (simp only [nf, Nat.beq] <;> rfl) | rfl) (by cases b45 <;> first | (intro _; rfl) | (intro h; exact absurd h (by decide))) (by cases b45 <;> first | (intro h; exact absurd h (by decide)) | (intro _; exact ⟨_, rfl, by first | (intro h; cases h; done) | decide | simp⟩)) (fun h => by
              cases b45 with
              | true => exact absurd h (by first | decide | simp)
              | false =>
                refine n_ibin rfl (by first | (simp only [nf, Nat.beq] <;> rfl) | rfl) (by first | (simp only [nf, Nat.beq] <;> rfl) | rfl) rfl ?_
                exact AOps.nil ⟨rfl, rfl, rfl⟩) (AOps.nil ⟨rfl, rfl, rfl⟩)) ?_
      refine Walk.behind [5, 13, 14, 23, 24, 30] (by rfl) (by rfl) (by kernel_rfl) (by rfl) (rs := [45, 50]) (by rfl) (by first | (simp only [nf, Nat.beq] <;> rfl) | rfl) (fun base => by
          refine n_pick_or rfl (by first | (simp only [nf, Nat.beq] <;> rfl) | rfl) (fun h => by cases b45 with | true => exact absurd h (by decide) | false => exact (by first | (simp only [nf, Nat.beq] <;> rfl) | rfl)) ?_
          exact AOps.nil ⟨rfl, rfl, rfl⟩) ?_
      subst hb26
      subst hb35
      subst hb45
      refine Walk.done ?_
      refine AWP.cond (by first | (simp only [nf, Nat.beq] <;> rfl) | rfl) (fun hc3 => ?_) (fun hc3 => ?_)
      · try simp only [nh] at hc3
        exfalso
        have k3 : Up.close ⟨(u.ask a).clr.b, (u.ask a).clr.e⟩ = Up.close ⟨(u.ask a).b, (u.ask a).e⟩ := Up.clr_close _
        have k2 : ((u.ask a).clr.b.length : Int) = Up.rest ⟨(u.ask a).b, (u.ask a).e⟩ := Up.clr_rest _
        have k1 := Up.clr_e (u.ask a)
        rw [k1] at k3
        simp [k1, k2, k3] at hc3
      · try simp only [nh] at hc3
        refine AWP.skip ?_
        refine AWP.region ?_
        first | refine n_iadd rfl (by first | (simp only [nf, Nat.beq] <;> rfl) | rfl) (by first | (simp only [nf, Nat.beq] <;> rfl) | rfl) rfl (by omega) (by omega) ?_ | refine n_ibin rfl (by first | (simp only [nf, Nat.beq] <;> rfl) | rfl) (by first | (simp only [nf, Nat.beq] <;> rfl) | rfl) rfl ?_
        refine n_move rfl (by first | (simp only [nf, Nat.beq] <;> rfl) | rfl) ?_
        refine AOps.nil ?_
        refine ⟨(i + 1, u.ask a), _, ⟨by dsimp only; omega, Up.ask_ok hu a⟩, ?_, rfl, by dsimp only; omega⟩
        (repeat (first | exact FLe.empty _ | refine FLe.put ?_ ?_)) <;> first | (simp only [nf, Nat.beq]; done) | rfl | (try simp only [nf, Nat.beq]; first | (simp only [List.length_map]; done) | (congr 2; omega))
    · try simp only [nh] at hc2
      refine AWP.exit ?_
      refine AWP.seq ?_
      refine AWP.region ?_
      refine n_move rfl (by first | (simp only [nf, Nat.beq] <;> rfl) | rfl) ?_
      refine n_callBoxB rfl cf91 rfl (Eq.trans (by simp only [nl] <;> rfl) (by first | (simp only [nf, Nat.beq] <;> rfl) | rfl)) (by repeat (first | exact .nil | refine .cons ?_ ?_ | exact ren_ints | exact .lf (.val _) | exact .lf (lf_ints (.inl rfl)) | exact .bp ⟨rfl, rfl⟩ | exact .bp (.inl ⟨rfl, rfl⟩) | exact .bp (.inr ⟨rfl, rfl⟩) | exact .lf (D.flat_lf rfl) | exact ren_lits rfl | exact ren_ints)) (by rfl) (by repeat (first | exact .nil | refine .cons ?_ ?_ | exact ren_ints | exact .lf (.val _) | exact .lf (lf_ints (.inl rfl)) | exact .bp ⟨rfl, rfl⟩ | exact .bp (.inl ⟨rfl, rfl⟩) | exact .bp (.inr ⟨rfl, rfl⟩) | exact .lf (D.flat_lf rfl) | exact ren_lits rfl | exact ren_ints)) (u_close u.b u.e) (by repeat (first | exact lf_nil | refine lf_cons ?_ ?_ | exact .val _ | exact lf_ints (.inl rfl))) (by first | exact .val _ | exact lf_ints (.inl rfl) | exact lf_ints (.inr rfl) | exact .any | exact D.flat_lf rfl) (by first | (simp only [nf, Nat.beq] <;> rfl) | rfl) ?_
      refine n_move rfl (by first | (simp only [nf, Nat.beq] <;> rfl) | rfl) ?_
      refine n_callBoxB rfl cf92 rfl (Eq.trans (by simp only [nl] <;> rfl) (by first | (simp only [nf, Nat.beq] <;> rfl) | rfl)) (by repeat (first | exact .nil | refine .cons ?_ ?_ | exact ren_ints | exact .lf (.val _) | exact .lf (lf_ints (.inl rfl)) | exact .bp ⟨rfl, rfl⟩ | exact .bp (.inl ⟨rfl, rfl⟩) | exact .bp (.inr ⟨rfl, rfl⟩) | exact .lf (D.flat_lf rfl) | exact ren_lits rfl | exact ren_ints)) (by rfl) (by repeat (first | exact .nil | refine .cons ?_ ?_ | exact ren_ints | exact .lf (.val _) | exact .lf (lf_ints (.inl rfl)) | exact .bp ⟨rfl, rfl⟩ | exact .bp (.inl ⟨rfl, rfl⟩) | exact .bp (.inr ⟨rfl, rfl⟩) | exact .lf (D.flat_lf rfl) | exact ren_lits rfl | exact ren_ints)) (ru_close u.clr.b u.clr.e (Up.clr_nil u)) (by repeat (first | exact lf_nil | refine lf_cons ?_ ?_ | exact .val _ | exact lf_ints (.inl rfl))) (by first | exact .val _ | exact lf_ints (.inl rfl) | exact lf_ints (.inr rfl) | exact .any | exact D.flat_lf rfl) (by first | (simp only [nf, Nat.beq] <;> rfl) | rfl) ?_
      refine n_ibin rfl (by first | (simp only [nf, Nat.beq] <;> rfl) | rfl) (by first | (simp only [nf, Nat.beq] <;> rfl) | rfl) rfl ?_
      refine n_assign rfl (by first | (simp only [nf, Nat.beq] <;> rfl) | rfl) ?_
      refine AOps.nil ?_
      refine AWP.ret ?_
      refine fin_pure (.cons (rv_tmp (by first | (simp only [nf, Nat.beq] <;> rfl) | rfl)) .nil) (by first | (simp only [nf, Nat.beq] <;> rfl) | rfl) ?_
      exact ren_flat rfl (congrArg vb (by have := Up.clr_close u; simp only [beq_iff_eq]; exact this.symm))

end Go.Proofs.Ytanfmpkjcoolmaa.Pl
