/- The walks of the laws of chapter 1. -/
import Derived.Test.YtanfmpkjcoolmaaPkA
import Derived.KernelRfl
set_option linter.unusedVariables false
set_option linter.unusedSimpArgs false
namespace Go.Proofs.Ytanfmpkjcoolmaa.Pl
open Go Go.Abs Go.Proofs.Ytanfmpkjcoolmaa.Pk
attribute [local irreducible] AWP AOps Does

theorem cf198 : CF Try.prog 198 := ⟨_, Try.func198, by kernel_rfl, by kernel_rfl⟩
theorem cf201 : CF Try.prog 201 := ⟨_, Try.func201, by kernel_rfl, by kernel_rfl⟩
theorem cf40 : CF Try.prog 40 := ⟨_, Try.func40, by kernel_rfl, by kernel_rfl⟩
theorem cf72 : CF Try.prog 72 := ⟨_, Try.func72, by kernel_rfl, by kernel_rfl⟩
theorem cf75 : CF Try.prog 75 := ⟨_, Try.func75, by kernel_rfl, by kernel_rfl⟩
theorem cf77 : CF Try.prog 77 := ⟨_, Try.func77, by kernel_rfl, by kernel_rfl⟩
theorem cf84 : CF Try.prog 84 := ⟨_, Try.func84, by kernel_rfl, by kernel_rfl⟩
theorem cf85 : CF Try.prog 85 := ⟨_, Try.func85, by kernel_rfl, by kernel_rfl⟩
theorem cf86 : CF Try.prog 86 := ⟨_, Try.func86, by kernel_rfl, by kernel_rfl⟩
theorem cf87 : CF Try.prog 87 := ⟨_, Try.func87, by kernel_rfl, by kernel_rfl⟩
theorem cf88 : CF Try.prog 88 := ⟨_, Try.func88, by kernel_rfl, by kernel_rfl⟩
theorem cf91 : CF Try.prog 91 := ⟨_, Try.func91, by kernel_rfl, by kernel_rfl⟩
theorem cf93 : CF Try.prog 93 := ⟨_, Try.func93, by kernel_rfl, by kernel_rfl⟩
theorem cf94 : CF Try.prog 94 := ⟨_, Try.func94, by kernel_rfl, by kernel_rfl⟩
theorem fd108_0 : FD Try.prog 108 0 22 0 := ⟨_, _, Try.underlying108, rfl, rfl, rfl⟩
theorem fd108_1 : FD Try.prog 108 1 28 1 := ⟨_, _, Try.underlying108, rfl, rfl, rfl⟩
theorem ti2 : TI Try.prog 2 1 false := ⟨by kernel_rfl, by kernel_rfl⟩
theorem ti22 : TI Try.prog 22 1 false := ⟨by kernel_rfl, by kernel_rfl⟩
theorem ti28 : TI Try.prog 28 1 false := ⟨by kernel_rfl, by kernel_rfl⟩
theorem ti5 : TI Try.prog 5 1 false := ⟨by kernel_rfl, by kernel_rfl⟩
theorem zi2 : (Try.prog.info? 2).map (·.zero) = some (some (.int .i64 0)) := by kernel_rfl
theorem zi5 : (Try.prog.info? 5).map (·.zero) = some (some (.int .u8 0)) := by kernel_rfl

theorem hB1 : [] ++ forms [300, -1] = [132, 88, 1] := by simp [forms, form, formN, hiD, natN]
theorem hB2 : [132, 88, 1] ++ forms [(([7, 8] : List Int).length : Int)] ++ [7, 8] = [132, 88, 1, 4, 7, 8] := by simp [forms, form, formN, hiD, natN]
theorem byt_of {b : List Int} (h : (b.all fun x => decide (0 ≤ x) && decide (x ≤ 255)) = true) : Byt b := fun x hx => by
  have := List.all_eq_true.1 h x hx
  simpa using this
theorem i64_of {b : List Int} (h : (b.all fun x => decide (-9223372036854775808 ≤ x) && decide (x ≤ 9223372036854775807)) = true) : ∀ n ∈ b, I64 n := fun x hx => by
  have := List.all_eq_true.1 h x hx
  simpa [I64] using this
theorem live : Does Try.prog 72 [] [] (vb true) [] := by
  refine Does.of_body (rvs := [.tmp 0]) Try.func72 rfl rfl rfl rfl ?_
  have h1 := p_int [] [300, -1] (i64_of rfl) (by decide)
  rw [hB1] at h1
  have h2 := p_str [132, 88, 1] [7, 8] (by decide) (by decide)
  rw [hB2] at h2
  have h3 := b_equal [132, 88, 1, 4, 7, 8] [132, 88, 1, 4, 7, 8] (byt_of rfl) (byt_of rfl)
  rw [decide_eq_true rfl] at h3
  have h4 := u_int [132, 88, 1, 4, 7, 8] 0 0 1000 (byt_of rfl) (by decide)
  rw [show Up.int ⟨[132, 88, 1, 4, 7, 8], 0⟩ 0 1000 = (300, ⟨[1, 4, 7, 8], 0⟩) from rfl] at h4
  have h5 := u_int [1, 4, 7, 8] 0 (-5) 5 (byt_of rfl) (by decide)
  rw [show Up.int ⟨[1, 4, 7, 8], 0⟩ (-5) 5 = (-1, ⟨[4, 7, 8], 0⟩) from rfl] at h5
  have h6 := u_str [4, 7, 8] 0 9 (by omega) (byt_of rfl) (by decide)
  rw [show Up.str ⟨[4, 7, 8], 0⟩ 9 = ([7, 8], ⟨[], 0⟩) from rfl] at h6
  have h7 := b_equal [7, 8] [7, 8] (byt_of rfl) (byt_of rfl)
  rw [decide_eq_true rfl] at h7
  have h8 := u_close [] 0
  rw [show Up.close ⟨[], 0⟩ = 0 from rfl] at h8
  dsimp only at h4 h5 h6
  refine AWP.seq ?_
  refine AWP.region ?_
  refine n_assign rfl (by first|simp only[nf,Nat.beq]<;>rfl|rfl) ?_
  refine AOps.nil ?_
  refine AWP.seq ?_
  refine AWP.region ?_
  refine n_lit rfl Try.underlying77 ti2 zi2 rfl rfl (Eq.trans (by simp only [nl] <;> rfl) (by first|simp only[nf,Nat.beq]<;>rfl|rfl)) rfl (by first|simp only[nf,Nat.beq]<;>rfl|rfl) ?_
  refine n_callOwnB rfl cf75 rfl (Eq.trans (by simp only [nl] <;> rfl) (by first|simp only[nf,Nat.beq]<;>rfl|rfl)) (by repeat (first | exact .nil | refine .cons ?_ ?_ | exact ren_ints | exact .lf (.val _) | exact .lf (lf_ints (.inl rfl)) | exact .bp ⟨rfl, rfl⟩ | exact .bp (.inl ⟨rfl, rfl⟩) | exact .bp (.inr ⟨rfl, rfl⟩) | exact .lf (D.flat_lf rfl) | exact ren_lits rfl)) (h1) (by first | exact ints_lf _ _) rfl (by first|simp only[nf,Nat.beq]<;>rfl|rfl) ?_
  refine n_lit rfl Try.underlying22 ti5 zi5 rfl rfl (Eq.trans (by simp only [nl] <;> rfl) (by first|simp only[nf,Nat.beq]<;>rfl|rfl)) rfl (by first|simp only[nf,Nat.beq]<;>rfl|rfl) ?_
  refine n_callOwnB rfl cf77 rfl (Eq.trans (by simp only [nl] <;> rfl) (by first|simp only[nf,Nat.beq]<;>rfl|rfl)) (by repeat (first | exact .nil | refine .cons ?_ ?_ | exact ren_ints | exact .lf (.val _) | exact .lf (lf_ints (.inl rfl)) | exact .bp ⟨rfl, rfl⟩ | exact .bp (.inl ⟨rfl, rfl⟩) | exact .bp (.inr ⟨rfl, rfl⟩) | exact .lf (D.flat_lf rfl) | exact ren_lits rfl)) (h2) (by first | exact ints_lf _ _) rfl (by first|simp only[nf,Nat.beq]<;>rfl|rfl) ?_
  refine n_assign rfl (by first|simp only[nf,Nat.beq]<;>rfl|rfl) ?_
  refine AOps.nil ?_
  refine AWP.seq ?_
  refine AWP.region ?_
  refine n_move rfl (by first|simp only[nf,Nat.beq]<;>rfl|rfl) ?_
  refine n_callNewB rfl cf84 rfl (Eq.trans (by simp only [nl] <;> rfl) (by first|simp only[nf,Nat.beq]<;>rfl|rfl)) (by repeat (first | exact .nil | refine .cons ?_ ?_ | exact ren_ints | exact .lf (.val _) | exact .lf (lf_ints (.inl rfl)) | exact .bp ⟨rfl, rfl⟩ | exact .bp (.inl ⟨rfl, rfl⟩) | exact .bp (.inr ⟨rfl, rfl⟩) | exact .lf (D.flat_lf rfl) | exact ren_lits rfl)) (u_open [132, 88, 1, 4, 7, 8] (by decide)) (by repeat (first | exact lf_nil | refine lf_cons ?_ ?_ | exact .val _ | exact lf_ints (.inl rfl))) rfl (by first|simp only[nf,Nat.beq]<;>rfl|rfl) ?_
  refine n_assign rfl (by first|simp only[nf,Nat.beq]<;>rfl|rfl) ?_
  refine AOps.nil ?_
  refine AWP.seq ?_
  refine AWP.region ?_
  refine n_move rfl (by first|simp only[nf,Nat.beq]<;>rfl|rfl) ?_
  refine n_lit rfl Try.underlying22 ti5 zi5 rfl rfl (Eq.trans (by simp only [nl] <;> rfl) (by first|simp only[nf,Nat.beq]<;>rfl|rfl)) rfl (by first|simp only[nf,Nat.beq]<;>rfl|rfl) ?_
  refine n_call0B rfl cf40 rfl (Eq.trans (by simp only [nl] <;> rfl) (by first|simp only[nf,Nat.beq]<;>rfl|rfl)) (by repeat (first | exact .nil | refine .cons ?_ ?_ | exact ren_ints | exact .lf (.val _) | exact .lf (lf_ints (.inl rfl)) | exact .bp ⟨rfl, rfl⟩ | exact .bp (.inl ⟨rfl, rfl⟩) | exact .bp (.inr ⟨rfl, rfl⟩) | exact .lf (D.flat_lf rfl) | exact ren_lits rfl)) (h3) (by first | exact .val _ | exact lf_ints (.inl rfl) | exact lf_ints (.inr rfl) | exact .any | exact D.flat_lf rfl) ?_
  refine n_move rfl (by first|simp only[nf,Nat.beq]<;>rfl|rfl) ?_
  refine n_guard_yes rfl rfl rfl (by first|simp only[nf,Nat.beq]<;>rfl|rfl) rfl ?_
  refine n_move rfl (by first|simp only[nf,Nat.beq]<;>rfl|rfl) ?_
  refine n_guard_yes rfl rfl rfl (by first|simp only[nf,Nat.beq]<;>rfl|rfl) rfl ?_
  refine n_ptrne rfl Try.underlying94 (by first|simp only[nf,Nat.beq]<;>rfl|rfl) rfl ?_
  refine n_pick rfl (by first|simp only[nf,Nat.beq]<;>rfl|rfl) (by first|simp only[nf,Nat.beq]<;>rfl|rfl) ?_
  refine n_move rfl (by first|simp only[nf,Nat.beq]<;>rfl|rfl) ?_
  refine n_guard_yes rfl rfl rfl (by first|simp only[nf,Nat.beq]<;>rfl|rfl) rfl ?_
  refine n_move rfl (by first|simp only[nf,Nat.beq]<;>rfl|rfl) ?_
  refine n_guard_yes rfl rfl rfl (by first|simp only[nf,Nat.beq]<;>rfl|rfl) rfl ?_
  refine n_callBoxB rfl cf85 rfl (Eq.trans (by simp only [nl] <;> rfl) (by first|simp only[nf,Nat.beq]<;>rfl|rfl)) (by repeat (first | exact .nil | refine .cons ?_ ?_ | exact ren_ints | exact .lf (.val _) | exact .lf (lf_ints (.inl rfl)) | exact .bp ⟨rfl, rfl⟩ | exact .bp (.inl ⟨rfl, rfl⟩) | exact .bp (.inr ⟨rfl, rfl⟩) | exact .lf (D.flat_lf rfl) | exact ren_lits rfl)) (by rfl) (by repeat (first | exact .nil | refine .cons ?_ ?_ | exact ren_ints | exact .lf (.val _) | exact .lf (lf_ints (.inl rfl)) | exact .bp ⟨rfl, rfl⟩ | exact .bp (.inl ⟨rfl, rfl⟩) | exact .bp (.inr ⟨rfl, rfl⟩) | exact .lf (D.flat_lf rfl) | exact ren_lits rfl)) (h4) (by repeat (first | exact lf_nil | refine lf_cons ?_ ?_ | exact .val _ | exact lf_ints (.inl rfl))) (by first | exact .val _ | exact lf_ints (.inl rfl) | exact lf_ints (.inr rfl) | exact .any | exact D.flat_lf rfl) (by first|simp only[nf,Nat.beq]<;>rfl|rfl) ?_
  refine n_guard_yes rfl rfl rfl (by first|simp only[nf,Nat.beq]<;>rfl|rfl) rfl ?_
  refine n_ibin rfl (by first|simp only[nf,Nat.beq]<;>rfl|rfl) (by first|simp only[nf,Nat.beq]<;>rfl|rfl) rfl ?_
  refine n_pick rfl (by first|simp only[nf,Nat.beq]<;>rfl|rfl) (by first|simp only[nf,Nat.beq]<;>rfl|rfl) ?_
  refine n_move rfl (by first|simp only[nf,Nat.beq]<;>rfl|rfl) ?_
  refine n_guard_yes rfl rfl rfl (by first|simp only[nf,Nat.beq]<;>rfl|rfl) rfl ?_
  refine n_move rfl (by first|simp only[nf,Nat.beq]<;>rfl|rfl) ?_
  refine n_guard_yes rfl rfl rfl (by first|simp only[nf,Nat.beq]<;>rfl|rfl) rfl ?_
  refine n_callBoxB rfl cf85 rfl (Eq.trans (by simp only [nl] <;> rfl) (by first|simp only[nf,Nat.beq]<;>rfl|rfl)) (by repeat (first | exact .nil | refine .cons ?_ ?_ | exact ren_ints | exact .lf (.val _) | exact .lf (lf_ints (.inl rfl)) | exact .bp ⟨rfl, rfl⟩ | exact .bp (.inl ⟨rfl, rfl⟩) | exact .bp (.inr ⟨rfl, rfl⟩) | exact .lf (D.flat_lf rfl) | exact ren_lits rfl)) (by rfl) (by repeat (first | exact .nil | refine .cons ?_ ?_ | exact ren_ints | exact .lf (.val _) | exact .lf (lf_ints (.inl rfl)) | exact .bp ⟨rfl, rfl⟩ | exact .bp (.inl ⟨rfl, rfl⟩) | exact .bp (.inr ⟨rfl, rfl⟩) | exact .lf (D.flat_lf rfl) | exact ren_lits rfl)) (h5) (by repeat (first | exact lf_nil | refine lf_cons ?_ ?_ | exact .val _ | exact lf_ints (.inl rfl))) (by first | exact .val _ | exact lf_ints (.inl rfl) | exact lf_ints (.inr rfl) | exact .any | exact D.flat_lf rfl) (by first|simp only[nf,Nat.beq]<;>rfl|rfl) ?_
  refine n_guard_yes rfl rfl rfl (by first|simp only[nf,Nat.beq]<;>rfl|rfl) rfl ?_
  refine n_ibin rfl (by first|simp only[nf,Nat.beq]<;>rfl|rfl) (by first|simp only[nf,Nat.beq]<;>rfl|rfl) rfl ?_
  refine n_pick rfl (by first|simp only[nf,Nat.beq]<;>rfl|rfl) (by first|simp only[nf,Nat.beq]<;>rfl|rfl) ?_
  refine n_move rfl (by first|simp only[nf,Nat.beq]<;>rfl|rfl) ?_
  refine n_guard_yes rfl rfl rfl (by first|simp only[nf,Nat.beq]<;>rfl|rfl) rfl ?_
  refine n_move rfl (by first|simp only[nf,Nat.beq]<;>rfl|rfl) ?_
  refine n_guard_yes rfl rfl rfl (by first|simp only[nf,Nat.beq]<;>rfl|rfl) rfl ?_
  refine n_callBoxB rfl cf87 rfl (Eq.trans (by simp only [nl] <;> rfl) (by first|simp only[nf,Nat.beq]<;>rfl|rfl)) (by repeat (first | exact .nil | refine .cons ?_ ?_ | exact ren_ints | exact .lf (.val _) | exact .lf (lf_ints (.inl rfl)) | exact .bp ⟨rfl, rfl⟩ | exact .bp (.inl ⟨rfl, rfl⟩) | exact .bp (.inr ⟨rfl, rfl⟩) | exact .lf (D.flat_lf rfl) | exact ren_lits rfl)) (by rfl) (by repeat (first | exact .nil | refine .cons ?_ ?_ | exact ren_ints | exact .lf (.val _) | exact .lf (lf_ints (.inl rfl)) | exact .bp ⟨rfl, rfl⟩ | exact .bp (.inl ⟨rfl, rfl⟩) | exact .bp (.inr ⟨rfl, rfl⟩) | exact .lf (D.flat_lf rfl) | exact ren_lits rfl)) (h6) (by repeat (first | exact lf_nil | refine lf_cons ?_ ?_ | exact .val _ | exact lf_ints (.inl rfl))) (by first | exact .val _ | exact lf_ints (.inl rfl) | exact lf_ints (.inr rfl) | exact .any | exact D.flat_lf rfl) (by first|simp only[nf,Nat.beq]<;>rfl|rfl) ?_
  refine n_guard_yes rfl rfl rfl (by first|simp only[nf,Nat.beq]<;>rfl|rfl) rfl ?_
  refine n_lit rfl Try.underlying22 ti5 zi5 rfl rfl (Eq.trans (by simp only [nl] <;> rfl) (by first|simp only[nf,Nat.beq]<;>rfl|rfl)) rfl (by first|simp only[nf,Nat.beq]<;>rfl|rfl) ?_
  refine n_guard_yes rfl rfl rfl (by first|simp only[nf,Nat.beq]<;>rfl|rfl) rfl ?_
  refine n_call0B rfl cf40 rfl (Eq.trans (by simp only [nl] <;> rfl) (by first|simp only[nf,Nat.beq]<;>rfl|rfl)) (by repeat (first | exact .nil | refine .cons ?_ ?_ | exact ren_ints | exact .lf (.val _) | exact .lf (lf_ints (.inl rfl)) | exact .bp ⟨rfl, rfl⟩ | exact .bp (.inl ⟨rfl, rfl⟩) | exact .bp (.inr ⟨rfl, rfl⟩) | exact .lf (D.flat_lf rfl) | exact ren_lits rfl)) (h7) (by first | exact .val _ | exact lf_ints (.inl rfl) | exact lf_ints (.inr rfl) | exact .any | exact D.flat_lf rfl) ?_
  refine n_pick rfl (by first|simp only[nf,Nat.beq]<;>rfl|rfl) (by first|simp only[nf,Nat.beq]<;>rfl|rfl) ?_
  refine n_move rfl (by first|simp only[nf,Nat.beq]<;>rfl|rfl) ?_
  refine n_guard_yes rfl rfl rfl (by first|simp only[nf,Nat.beq]<;>rfl|rfl) rfl ?_
  refine n_move rfl (by first|simp only[nf,Nat.beq]<;>rfl|rfl) ?_
  refine n_guard_yes rfl rfl rfl (by first|simp only[nf,Nat.beq]<;>rfl|rfl) rfl ?_
  refine n_callBoxB rfl cf91 rfl (Eq.trans (by simp only [nl] <;> rfl) (by first|simp only[nf,Nat.beq]<;>rfl|rfl)) (by repeat (first | exact .nil | refine .cons ?_ ?_ | exact ren_ints | exact .lf (.val _) | exact .lf (lf_ints (.inl rfl)) | exact .bp ⟨rfl, rfl⟩ | exact .bp (.inl ⟨rfl, rfl⟩) | exact .bp (.inr ⟨rfl, rfl⟩) | exact .lf (D.flat_lf rfl) | exact ren_lits rfl)) (by rfl) (by repeat (first | exact .nil | refine .cons ?_ ?_ | exact ren_ints | exact .lf (.val _) | exact .lf (lf_ints (.inl rfl)) | exact .bp ⟨rfl, rfl⟩ | exact .bp (.inl ⟨rfl, rfl⟩) | exact .bp (.inr ⟨rfl, rfl⟩) | exact .lf (D.flat_lf rfl) | exact ren_lits rfl)) (h8) (by repeat (first | exact lf_nil | refine lf_cons ?_ ?_ | exact .val _ | exact lf_ints (.inl rfl))) (by first | exact .val _ | exact lf_ints (.inl rfl) | exact lf_ints (.inr rfl) | exact .any | exact D.flat_lf rfl) (by first|simp only[nf,Nat.beq]<;>rfl|rfl) ?_
  refine n_guard_yes rfl rfl rfl (by first|simp only[nf,Nat.beq]<;>rfl|rfl) rfl ?_
  refine n_ibin rfl (by first|simp only[nf,Nat.beq]<;>rfl|rfl) (by first|simp only[nf,Nat.beq]<;>rfl|rfl) rfl ?_
  refine n_pick rfl (by first|simp only[nf,Nat.beq]<;>rfl|rfl) (by first|simp only[nf,Nat.beq]<;>rfl|rfl) ?_
  refine n_assign rfl (by first|simp only[nf,Nat.beq]<;>rfl|rfl) ?_
  refine AOps.nil ?_
  refine AWP.ret ?_
  refine fin_pure (.cons (rv_tmp (by first|simp only[nf,Nat.beq]<;>rfl|rfl)) .nil) (by first|simp only[nf,Nat.beq]<;>rfl|rfl) ?_
  exact ren_flat rfl rfl

def Ak1.okA (a : Ak1) : Prop := -9223372036854775808 ≤ a.n ∧ a.n ≤ 9223372036854775807
attribute [local irreducible] Up.ask Up.int Up.str Up.close Up.rest Up.clr Up.spoil
end Go.Proofs.Ytanfmpkjcoolmaa.Pl
