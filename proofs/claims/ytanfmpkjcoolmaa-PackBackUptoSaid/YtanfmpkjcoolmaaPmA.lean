/- More walks of the laws of chapter 1. -/
import Derived.Test.YtanfmpkjcoolmaaPlA
import Derived.KernelRfl
set_option linter.unusedVariables false
set_option linter.unusedSimpArgs false
namespace Go.Proofs.Ytanfmpkjcoolmaa.Pm
open Go Go.Abs Go.Proofs.Ytanfmpkjcoolmaa.Pk Go.Proofs.Ytanfmpkjcoolmaa.Pl
attribute [local irreducible] AWP AOps Does

theorem cf40 : CF Try.prog 40 := ⟨_, Try.func40, by kernel_rfl, by kernel_rfl⟩
theorem cf72 : CF Try.prog 72 := ⟨_, Try.func72, by kernel_rfl, by kernel_rfl⟩
theorem cf73 : CF Try.prog 73 := ⟨_, Try.func73, by kernel_rfl, by kernel_rfl⟩
theorem cf74 : CF Try.prog 74 := ⟨_, Try.func74, by kernel_rfl, by kernel_rfl⟩
theorem cf75 : CF Try.prog 75 := ⟨_, Try.func75, by kernel_rfl, by kernel_rfl⟩
theorem cf76 : CF Try.prog 76 := ⟨_, Try.func76, by kernel_rfl, by kernel_rfl⟩
theorem cf77 : CF Try.prog 77 := ⟨_, Try.func77, by kernel_rfl, by kernel_rfl⟩
theorem cf78 : CF Try.prog 78 := ⟨_, Try.func78, by kernel_rfl, by kernel_rfl⟩
theorem cf84 : CF Try.prog 84 := ⟨_, Try.func84, by kernel_rfl, by kernel_rfl⟩
theorem cf85 : CF Try.prog 85 := ⟨_, Try.func85, by kernel_rfl, by kernel_rfl⟩
theorem cf86 : CF Try.prog 86 := ⟨_, Try.func86, by kernel_rfl, by kernel_rfl⟩
theorem cf87 : CF Try.prog 87 := ⟨_, Try.func87, by kernel_rfl, by kernel_rfl⟩
theorem cf88 : CF Try.prog 88 := ⟨_, Try.func88, by kernel_rfl, by kernel_rfl⟩
theorem ei5 : EI Try.prog 5 1 1 (.int .u8 0) := EI.of (by kernel_rfl) rfl rfl
theorem ti2 : TI Try.prog 2 1 false := ⟨by kernel_rfl, by kernel_rfl⟩

attribute [local irreducible] Up.ask Up.int Up.str Up.close Up.rest Up.clr Up.spoil
theorem Puts_calls (b l x : List Int) (hb : Byt b) (hl : ∀ n ∈ l, I64 n) (hx : Byt x) (nb : b.length ≤ 1048576) (nl : l.length ≤ 1048576) (nx : x.length ≤ 1048576) : Does Try.prog 9 [bys b, (.sl none (ints .i64 l) .ro), bys x] [] (vb true) [] := by
  refine Does.of_body (rvs := [.tmp 6]) Try.func9 rfl rfl rfl rfl ?_
  have heq1 := b_equal (b ++ forms l) (b ++ forms l) (hb.append (forms_byt l)) (hb.append (forms_byt l))
  have heq2 := b_equal (b ++ forms [(x.length : Int)] ++ x) (b ++ forms [(x.length : Int)] ++ x) ((hb.append (forms_byt _)).append hx) ((hb.append (forms_byt _)).append hx)
  rw [decide_eq_true rfl] at heq1 heq2
  refine AWP.seq ?_
  refine AWP.region ?_
  refine n_assign rfl (by first | (simp only [nf, Nat.beq] <;> rfl) | rfl) ?_
  refine AOps.nil ?_
  refine AWP.seq ?_
  refine AWP.seq ?_
  refine AWP.region ?_
  refine n_call0B rfl cf72 rfl (Eq.trans (by simp only [nl] <;> rfl) (by first | (simp only [nf, Nat.beq] <;> rfl) | rfl)) (by repeat (first | exact .nil | refine .cons ?_ ?_ | exact ren_ints | exact .lf (.val _) | exact .lf (lf_ints (.inl rfl)) | exact .bp ⟨rfl, rfl⟩ | exact .bp (.inl ⟨rfl, rfl⟩) | exact .bp (.inr ⟨rfl, rfl⟩) | exact .lf (D.flat_lf rfl) | exact ren_lits rfl | exact ren_ints)) (live) (by first | exact .val _ | exact lf_ints (.inl rfl) | exact lf_ints (.inr rfl) | exact .any | exact D.flat_lf rfl) ?_
  refine n_not rfl (by first | (simp only [nf, Nat.beq] <;> rfl) | rfl) rfl ?_
  refine AOps.nil ?_
  refine AWP.cond_false (by first | (simp only [nf, Nat.beq] <;> rfl) | rfl) ?_
  refine AWP.skip ?_
  refine AWP.seq ?_
  refine AWP.seq ?_
  refine AWP.region ?_
  refine n_move rfl (by first | (simp only [nf, Nat.beq] <;> rfl) | rfl) ?_
  refine n_len rfl Try.underlying77 (by first | (simp only [nf, Nat.beq] <;> rfl) | rfl) (by first | rw [ints_length] | rfl) ?_
  refine n_move rfl (by first | (simp only [nf, Nat.beq] <;> rfl) | rfl) ?_
  refine AOps.nil ?_
  refine AWP.block ?_
  refine AWP.loopX 0 (α := Nat) (fun i => i ≤ l.length) (fun i => put (put (put (put (put empty 0 (bys b)) 1 (.sl none (ints .i64 l) .ro)) 2 (bys x)) 11 (.sl none (ints .i64 l) .ro)) 12 (vi (l.length : Int)) |> fun F => put F 13 (vi (i : Int))) (fun _ => []) (fun i => l.length - i) 0 ?_ ?_ ?_ ?_ ?_ ?_ ?_
  · exact Nat.zero_le _
  · (repeat (first | exact FLe.empty _ | refine FLe.put ?_ ?_)) <;> first | (simp only [nf, Nat.beq]; done) | rfl | (try simp only [nf, Nat.beq]; first | rfl | simp only [ints_length])
  · rfl
  · exact fun _ => rfl
  · intro p hp; (try dsimp only); (repeat' (refine un_put ?_ ?_)) <;> first | exact un_empty | exact .bp (by decide) | exact .lf (D.flat_lf rfl) | exact .lf (lf_ints (.inl rfl))
  · intro p hp; (try dsimp only); repeat' (first | exact un_nil | refine un_cons ?_ ?_ | exact un_box rfl)
  · intro i hi
    try dsimp only at hi ⊢
    refine AWP.seq ?_
    refine AWP.region ?_
    refine n_ibin rfl (by first | (simp only [nf, Nat.beq] <;> rfl) | rfl) (by first | (simp only [nf, Nat.beq] <;> rfl) | rfl) rfl ?_
    refine AOps.nil ?_
    refine AWP.seq ?_
    refine AWP.cond (by first | (simp only [nf, Nat.beq] <;> rfl) | rfl) (fun hc2 => ?_) (fun hc2 => ?_)
    · try simp only [nh] at hc2
      have hi2 : i < l.length := by omega
      have hn := at_I64 hl hi2
      have hfl := form_bd hn
      obtain ⟨h0, h1⟩ := hn
      have hn := at_I64 hl hi2
      have hfl2 : (forms [l.getD i 0]).length = sizeN (natN (l.getD i 0)) := by simp only [forms, List.flatMap_cons, List.flatMap_nil, List.append_nil, List.nil_append]; unfold form; exact formN_length _
      refine AWP.skip ?_
      refine AWP.seq ?_
      refine AWP.block ?_
      refine AWP.seq ?_
      refine AWP.region ?_
      refine n_indexAddr rfl Try.underlying77 ti2 rfl (by first | (simp only [nf, Nat.beq] <;> rfl) | rfl) (by first | (simp only [nf, Nat.beq] <;> rfl) | rfl) (by omega) (by first | exact ints_at _ _ _ (by omega) | exact ints_get _ _ _ (by omega) | exact map_at _ (by assumption) | rfl) rfl ?_
      refine n_load rfl ti2 (by first | (simp only [nf, Nat.beq] <;> rfl) | rfl) (by first | (simp only [nf, Nat.beq] <;> rfl) | rfl) rfl (by first | (simp only [nf, Nat.beq] <;> rfl) | rfl) ?_
      refine n_assign rfl (by first | (simp only [nf, Nat.beq] <;> rfl) | rfl) ?_
      refine AOps.nil ?_
      refine AWP.seq ?_
      refine AWP.region ?_
      refine n_move rfl (by first | (simp only [nf, Nat.beq] <;> rfl) | rfl) ?_
      refine n_call0B rfl cf73 rfl (Eq.trans (by simp only [nl] <;> rfl) (by first | (simp only [nf, Nat.beq] <;> rfl) | rfl)) (by repeat (first | exact .nil | refine .cons ?_ ?_ | exact ren_ints | exact .lf (.val _) | exact .lf (lf_ints (.inl rfl)) | exact .bp ⟨rfl, rfl⟩ | exact .bp (.inl ⟨rfl, rfl⟩) | exact .bp (.inr ⟨rfl, rfl⟩) | exact .lf (D.flat_lf rfl) | exact ren_lits rfl | exact ren_ints)) (p_size (l.getD i 0) h0 h1) (by first | exact .val _ | exact lf_ints (.inl rfl) | exact lf_ints (.inr rfl) | exact .any | exact D.flat_lf rfl) ?_
      refine n_move rfl (by first | (simp only [nf, Nat.beq] <;> rfl) | rfl) ?_
      refine n_callOwnB rfl cf74 rfl (Eq.trans (by simp only [nl] <;> rfl) (by first | (simp only [nf, Nat.beq] <;> rfl) | rfl)) (by repeat (first | exact .nil | refine .cons ?_ ?_ | exact ren_ints | exact .lf (.val _) | exact .lf (lf_ints (.inl rfl)) | exact .bp ⟨rfl, rfl⟩ | exact .bp (.inl ⟨rfl, rfl⟩) | exact .bp (.inr ⟨rfl, rfl⟩) | exact .lf (D.flat_lf rfl) | exact ren_lits rfl | exact ren_ints)) (r_one [] (l.getD i 0) hn (by simp)) (by first | exact ints_lf _ _) rfl (by first | (simp only [nf, Nat.beq] <;> rfl) | rfl) ?_
      refine n_len rfl Try.underlying22 (by first | (simp only [nf, Nat.beq] <;> rfl) | rfl) (by first | rw [ints_length] | rfl) ?_
      refine n_ibin rfl (by first | (simp only [nf, Nat.beq] <;> rfl) | rfl) (by first | (simp only [nf, Nat.beq] <;> rfl) | rfl) rfl ?_
      refine AOps.nil ?_
      refine AWP.cond (by first | (simp only [nf, Nat.beq] <;> rfl) | rfl) (fun hc3 => ?_) (fun hc3 => ?_)
      · try simp only [nh] at hc3
        exfalso
        rw [hfl2] at hc3
        exact hc3 rfl
      · try simp only [nh] at hc3
        refine AWP.skip ?_
        refine AWP.region ?_
        first | refine n_iadd rfl (by first | (simp only [nf, Nat.beq] <;> rfl) | rfl) (by first | (simp only [nf, Nat.beq] <;> rfl) | rfl) rfl (by omega) (by omega) ?_ | refine n_ibin rfl (by first | (simp only [nf, Nat.beq] <;> rfl) | rfl) (by first | (simp only [nf, Nat.beq] <;> rfl) | rfl) rfl ?_
        refine n_move rfl (by first | (simp only [nf, Nat.beq] <;> rfl) | rfl) ?_
        refine AOps.nil ?_
        refine ⟨i + 1, _, by omega, ?_, rfl, by omega⟩
        (repeat (first | exact FLe.empty _ | refine FLe.put ?_ ?_)) <;> first | (simp only [nf, Nat.beq]; done) | rfl | (try simp only [nf, Nat.beq]; first | rfl | (congr 2; omega))
    · try simp only [nh] at hc2
      have hi2 : i = l.length := by omega
      refine AWP.exit ?_
      refine AWP.seq ?_
      refine AWP.region ?_
      refine n_move rfl (by first | (simp only [nf, Nat.beq] <;> rfl) | rfl) ?_
      refine n_move rfl (by first | (simp only [nf, Nat.beq] <;> rfl) | rfl) ?_
      refine n_callOwnB rfl cf75 rfl (Eq.trans (by simp only [nl] <;> rfl) (by first | (simp only [nf, Nat.beq] <;> rfl) | rfl)) (by repeat (first | exact .nil | refine .cons ?_ ?_ | exact ren_ints | exact .lf (.val _) | exact .lf (lf_ints (.inl rfl)) | exact .bp ⟨rfl, rfl⟩ | exact .bp (.inl ⟨rfl, rfl⟩) | exact .bp (.inr ⟨rfl, rfl⟩) | exact .lf (D.flat_lf rfl) | exact ren_lits rfl | exact ren_ints)) (p_int b l hl (by omega)) (by first | exact ints_lf _ _) rfl (by first | (simp only [nf, Nat.beq] <;> rfl) | rfl) ?_
      refine n_move rfl (by first | (simp only [nf, Nat.beq] <;> rfl) | rfl) ?_
      refine n_move rfl (by first | (simp only [nf, Nat.beq] <;> rfl) | rfl) ?_
      refine n_callOwnB rfl cf76 rfl (Eq.trans (by simp only [nl] <;> rfl) (by first | (simp only [nf, Nat.beq] <;> rfl) | rfl)) (by repeat (first | exact .nil | refine .cons ?_ ?_ | exact ren_ints | exact .lf (.val _) | exact .lf (lf_ints (.inl rfl)) | exact .bp ⟨rfl, rfl⟩ | exact .bp (.inl ⟨rfl, rfl⟩) | exact .bp (.inr ⟨rfl, rfl⟩) | exact .lf (D.flat_lf rfl) | exact ren_lits rfl | exact ren_ints)) (r_int b l hl (by omega)) (by first | exact ints_lf _ _) rfl (by first | (simp only [nf, Nat.beq] <;> rfl) | rfl) ?_
      refine n_call0B rfl cf40 rfl (Eq.trans (by simp only [nl] <;> rfl) (by first | (simp only [nf, Nat.beq] <;> rfl) | rfl)) (by repeat (first | exact .nil | refine .cons ?_ ?_ | exact ren_ints | exact .lf (.val _) | exact .lf (lf_ints (.inl rfl)) | exact .bp ⟨rfl, rfl⟩ | exact .bp (.inl ⟨rfl, rfl⟩) | exact .bp (.inr ⟨rfl, rfl⟩) | exact .lf (D.flat_lf rfl) | exact ren_lits rfl | exact ren_ints)) (heq1) (by first | exact .val _ | exact lf_ints (.inl rfl) | exact lf_ints (.inr rfl) | exact .any | exact D.flat_lf rfl) ?_
      refine n_move rfl (by first | (simp only [nf, Nat.beq] <;> rfl) | rfl) ?_
      refine n_guard_yes rfl rfl rfl (by first | (simp only [nf, Nat.beq] <;> rfl) | rfl) rfl ?_
      refine n_move rfl (by first | (simp only [nf, Nat.beq] <;> rfl) | rfl) ?_
      refine n_guard_yes rfl rfl rfl (by first | (simp only [nf, Nat.beq] <;> rfl) | rfl) rfl ?_
      refine n_move rfl (by first | (simp only [nf, Nat.beq] <;> rfl) | rfl) ?_
      refine n_guard_yes rfl rfl rfl (by first | (simp only [nf, Nat.beq] <;> rfl) | rfl) rfl ?_
      refine n_callOwnB rfl cf77 rfl (Eq.trans (by simp only [nl] <;> rfl) (by first | (simp only [nf, Nat.beq] <;> rfl) | rfl)) (by repeat (first | exact .nil | refine .cons ?_ ?_ | exact ren_ints | exact .lf (.val _) | exact .lf (lf_ints (.inl rfl)) | exact .bp ⟨rfl, rfl⟩ | exact .bp (.inl ⟨rfl, rfl⟩) | exact .bp (.inr ⟨rfl, rfl⟩) | exact .lf (D.flat_lf rfl) | exact ren_lits rfl | exact ren_ints)) (p_str b x (by omega) (by simp only [L40]; omega)) (by first | exact ints_lf _ _) rfl (by first | (simp only [nf, Nat.beq] <;> rfl) | rfl) ?_
      refine n_guard_yes rfl rfl rfl (by first | (simp only [nf, Nat.beq] <;> rfl) | rfl) rfl ?_
      refine n_move rfl (by first | (simp only [nf, Nat.beq] <;> rfl) | rfl) ?_
      refine n_guard_yes rfl rfl rfl (by first | (simp only [nf, Nat.beq] <;> rfl) | rfl) rfl ?_
      refine n_move rfl (by first | (simp only [nf, Nat.beq] <;> rfl) | rfl) ?_
      refine n_guard_yes rfl rfl rfl (by first | (simp only [nf, Nat.beq] <;> rfl) | rfl) rfl ?_
      refine n_callOwnB rfl cf78 rfl (Eq.trans (by simp only [nl] <;> rfl) (by first | (simp only [nf, Nat.beq] <;> rfl) | rfl)) (by repeat (first | exact .nil | refine .cons ?_ ?_ | exact ren_ints | exact .lf (.val _) | exact .lf (lf_ints (.inl rfl)) | exact .bp ⟨rfl, rfl⟩ | exact .bp (.inl ⟨rfl, rfl⟩) | exact .bp (.inr ⟨rfl, rfl⟩) | exact .lf (D.flat_lf rfl) | exact ren_lits rfl | exact ren_ints)) (r_str b x (by omega) (by simp only [L40]; omega)) (by first | exact ints_lf _ _) rfl (by first | (simp only [nf, Nat.beq] <;> rfl) | rfl) ?_
      refine n_guard_yes rfl rfl rfl (by first | (simp only [nf, Nat.beq] <;> rfl) | rfl) rfl ?_
      refine n_call0B rfl cf40 rfl (Eq.trans (by simp only [nl] <;> rfl) (by first | (simp only [nf, Nat.beq] <;> rfl) | rfl)) (by repeat (first | exact .nil | refine .cons ?_ ?_ | exact ren_ints | exact .lf (.val _) | exact .lf (lf_ints (.inl rfl)) | exact .bp ⟨rfl, rfl⟩ | exact .bp (.inl ⟨rfl, rfl⟩) | exact .bp (.inr ⟨rfl, rfl⟩) | exact .lf (D.flat_lf rfl) | exact ren_lits rfl | exact ren_ints)) (heq2) (by first | exact .val _ | exact lf_ints (.inl rfl) | exact lf_ints (.inr rfl) | exact .any | exact D.flat_lf rfl) ?_
      refine n_pick rfl (by first | (simp only [nf, Nat.beq] <;> rfl) | rfl) (by first | (simp only [nf, Nat.beq] <;> rfl) | rfl) ?_
      refine n_assign rfl (by first | (simp only [nf, Nat.beq] <;> rfl) | rfl) ?_
      refine AOps.nil ?_
      refine AWP.ret ?_
      refine fin_pure (.cons (rv_tmp (by first | (simp only [nf, Nat.beq] <;> rfl) | rfl)) .nil) (by first | (simp only [nf, Nat.beq] <;> rfl) | rfl) ?_
      exact ren_flat rfl rfl

theorem Back_calls (l x r : List Int) (hl : ∀ n ∈ l, I64 n) (hx : Byt x) (hr : Byt r) (nl : l.length ≤ 1048576) (nx : x.length ≤ 1048576) (nr : r.length ≤ 1048576) : Does Try.prog 12 [(.sl none (ints .i64 l) .ro), bys x, bys r] [] (vb true) [] := by
  refine Does.of_body (rvs := [.tmp 6]) Try.func12 rfl rfl rfl rfl ?_
  have hfl := forms_len l hl
  have hX := i64_len (x := x) (by simp only [L40]; omega)
  have h1l := forms1_len (n := (x.length : Int)) (hX _ (by simp))
  have hi1 := p_int [] l hl (by simp only [List.length_nil]; omega)
  rw [List.nil_append] at hi1
  have hs1 := p_str (forms l) x (by omega) (by simp only [L40]; omega)
  have hW : forms l ++ forms [(x.length : Int)] ++ x ++ r = forms l ++ (form (x.length : Int) ++ (x ++ r)) := by rw [forms_one]; simp
  have hlw : (forms l ++ forms [(x.length : Int)] ++ x).length ≤ 10 * l.length + 10 + x.length := by simp only [List.length_append, List.length_nil] at *; omega
  have hop := u_open (forms l ++ forms [(x.length : Int)] ++ x ++ r) (by simp only [L40, List.length_append, List.length_nil] at *; omega)
  rw [show (⟨forms l ++ forms [(x.length : Int)] ++ x ++ r, 0⟩ : Up) = ⟨forms l ++ (form (x.length : Int) ++ (x ++ r)), 0⟩ from by rw [hW]] at hop
  refine AWP.seq ?_
  refine AWP.region ?_
  refine n_assign rfl (by first | (simp only [nf, Nat.beq] <;> rfl) | rfl) ?_
  refine AOps.nil ?_
  refine AWP.seq ?_
  refine AWP.seq ?_
  refine AWP.region ?_
  refine n_call0B rfl cf72 rfl (Eq.trans (by simp only [nl] <;> rfl) (by first | (simp only [nf, Nat.beq] <;> rfl) | rfl)) (by repeat (first | exact .nil | refine .cons ?_ ?_ | exact ren_ints | exact .lf (.val _) | exact .lf (lf_ints (.inl rfl)) | exact .bp ⟨rfl, rfl⟩ | exact .bp (.inl ⟨rfl, rfl⟩) | exact .bp (.inr ⟨rfl, rfl⟩) | exact .lf (D.flat_lf rfl) | exact ren_lits rfl | exact ren_ints)) (live) (by first | exact .val _ | exact lf_ints (.inl rfl) | exact lf_ints (.inr rfl) | exact .any | exact D.flat_lf rfl) ?_
  refine n_not rfl (by first | (simp only [nf, Nat.beq] <;> rfl) | rfl) rfl ?_
  refine AOps.nil ?_
  refine AWP.cond_false (by first | (simp only [nf, Nat.beq] <;> rfl) | rfl) ?_
  refine AWP.skip ?_
  refine AWP.seq ?_
  refine AWP.region ?_
  refine n_move rfl (by first | (simp only [nf, Nat.beq] <;> rfl) | rfl) ?_
  refine n_callOwnB rfl cf75 rfl (Eq.trans (by simp only [nl] <;> rfl) (by first | (simp only [nf, Nat.beq] <;> rfl) | rfl)) (by repeat (first | exact .nil | refine .cons ?_ ?_ | exact ren_ints | exact .lf (.val _) | exact .lf (lf_ints (.inl rfl)) | exact .bp ⟨rfl, rfl⟩ | exact .bp (.inl ⟨rfl, rfl⟩) | exact .bp (.inr ⟨rfl, rfl⟩) | exact .lf (D.flat_lf rfl) | exact ren_lits rfl | exact ren_ints)) (hi1) (by first | exact ints_lf _ _) rfl (by first | (simp only [nf, Nat.beq] <;> rfl) | rfl) ?_
  refine n_move rfl (by first | (simp only [nf, Nat.beq] <;> rfl) | rfl) ?_
  refine n_callOwnB rfl cf77 rfl (Eq.trans (by simp only [nl] <;> rfl) (by first | (simp only [nf, Nat.beq] <;> rfl) | rfl)) (by repeat (first | exact .nil | refine .cons ?_ ?_ | exact ren_ints | exact .lf (.val _) | exact .lf (lf_ints (.inl rfl)) | exact .bp ⟨rfl, rfl⟩ | exact .bp (.inl ⟨rfl, rfl⟩) | exact .bp (.inr ⟨rfl, rfl⟩) | exact .lf (D.flat_lf rfl) | exact ren_lits rfl | exact ren_ints)) (hs1) (by first | exact ints_lf _ _) rfl (by first | (simp only [nf, Nat.beq] <;> rfl) | rfl) ?_
  refine n_move rfl (by first | (simp only [nf, Nat.beq] <;> rfl) | rfl) ?_
  first | refine n_append_own rfl Try.underlying22 Try.underlying22 ei5 (by first | (simp only [nf, Nat.beq] <;> rfl) | rfl) rfl (by first | rfl | rw [ints_length]) (by first | (simp only [nf, Nat.beq] <;> rfl) | rfl) (by first | exact ints_one _ _ | simp) (by first | exact ints_one _ _ | simp) (by first | exact ints_snoc _ _ _ | exact ints_append _ _ _ | rfl) (by simp only [ints_length, List.length_cons, List.length_nil] <;> rfl) (by omega) (by first | (simp only [nf, Nat.beq] <;> rfl) | rfl) ?_ | refine n_append_full rfl Try.underlying22 Try.underlying22 ei5 (by first | (simp only [nf, Nat.beq] <;> rfl) | rfl) (by first | (simp only [nf, Nat.beq] <;> rfl) | rfl) (by first | exact ints_one _ _ | simp) (by first | exact ints_one _ _ | simp) (by first | exact ints_snoc _ _ _ | exact ints_append _ _ _ | rfl) (by simp only [ints_length, List.length_cons, List.length_nil] <;> rfl) (by omega) rfl (by first | (simp only [nf, Nat.beq] <;> rfl) | rfl) ?_
  refine n_callNewB rfl cf84 rfl (Eq.trans (by simp only [nl] <;> rfl) (by first | (simp only [nf, Nat.beq] <;> rfl) | rfl)) (by repeat (first | exact .nil | refine .cons ?_ ?_ | exact ren_ints | exact .lf (.val _) | exact .lf (lf_ints (.inl rfl)) | exact .bp ⟨rfl, rfl⟩ | exact .bp (.inl ⟨rfl, rfl⟩) | exact .bp (.inr ⟨rfl, rfl⟩) | exact .lf (D.flat_lf rfl) | exact ren_lits rfl | exact ren_ints)) (hop) (by repeat (first | exact lf_nil | refine lf_cons ?_ ?_ | exact .val _ | exact lf_ints (.inl rfl))) rfl (by first | (simp only [nf, Nat.beq] <;> rfl) | rfl) ?_
  refine n_assign rfl (by first | (simp only [nf, Nat.beq] <;> rfl) | rfl) ?_
  refine AOps.nil ?_
  refine AWP.seq ?_
  refine AWP.seq ?_
  refine AWP.looser (S' := [.lent, .lent, .box (Up.z ⟨forms l ++ (form (x.length : Int) ++ (x ++ r)), 0⟩)]) (.lent (.lent (.same .nil))) ?_
  refine AWP.region ?_
  refine n_move rfl (by first | (simp only [nf, Nat.beq] <;> rfl) | rfl) ?_
  refine n_len rfl Try.underlying77 (by first | (simp only [nf, Nat.beq] <;> rfl) | rfl) (by first | rw [ints_length] | rfl) ?_
  refine n_move rfl (by first | (simp only [nf, Nat.beq] <;> rfl) | rfl) ?_
  refine AOps.nil ?_
  refine AWP.block ?_
  refine AWP.loopX 3 (α := Nat) (fun i => i ≤ l.length) (fun i => put (put (put (put (put (put empty 1 (bys x)) 2 (bys r)) 7 (.bp 2 0)) 19 (.sl none (ints .i64 l) .ro)) 20 (vi (l.length : Int))) 21 (vi (i : Int))) (fun i => [.lent, .lent, .box (Up.z ⟨forms (l.drop i) ++ (form (x.length : Int) ++ (x ++ r)), 0⟩)]) (fun i => l.length - i) 0 ?_ ?_ ?_ ?_ ?_ ?_ ?_
  · exact Nat.zero_le _
  · (repeat (first | exact FLe.empty _ | refine FLe.put ?_ ?_)) <;> first | (simp only [nf, Nat.beq]; done) | rfl | (try simp only [nf, Nat.beq]; first | rfl | simp only [ints_length])
  · rfl
  · exact fun _ => rfl
  · intro p hp; (try dsimp only); (repeat' (refine un_put ?_ ?_)) <;> first | exact un_empty | exact .bp (by decide) | exact .lf (D.flat_lf rfl) | exact .lf (lf_ints (.inl rfl)) | exact .lf (lf_ints (.inl rfl))
  · intro p hp; (try dsimp only); repeat' (first | exact un_nil | refine un_cons ?_ ?_ | exact un_box rfl | exact trivial | exact un_boxL (lf_cons (lf_ints (.inl rfl)) (lf_cons (.val _) (lf_cons (.val _) lf_nil))))
  · intro i hi
    try dsimp only at hi ⊢
    refine AWP.seq ?_
    refine AWP.region ?_
    refine n_ibin rfl (by first | (simp only [nf, Nat.beq] <;> rfl) | rfl) (by first | (simp only [nf, Nat.beq] <;> rfl) | rfl) rfl ?_
    refine AOps.nil ?_
    refine AWP.seq ?_
    refine AWP.cond (by first | (simp only [nf, Nat.beq] <;> rfl) | rfl) (fun hc2 => ?_) (fun hc2 => ?_)
    · try simp only [nh] at hc2
      have hi2 : i < l.length := by omega
      have hn := at_I64 hl hi2
      have hd : forms (l.drop i) = form (l.getD i 0) ++ forms (l.drop (i + 1)) := by rw [drop_at hi2, forms_cons]
      have hby : Byt (forms (l.drop i) ++ (form (x.length : Int) ++ (x ++ r))) := (forms_byt _).append ((form_byt _).append (hx.append hr))
      have hbl : L40 (forms (l.drop i) ++ (form (x.length : Int) ++ (x ++ r))) := by have h1 := forms_len (l.drop i) (fun n hn => hl n (List.mem_of_mem_drop hn)); have h2 := form_bd (n := (x.length : Int)) (hX _ (by simp)); simp only [L40, List.length_append, List.length_drop] at *; omega
      have hin := u_int (forms (l.drop i) ++ (form (x.length : Int) ++ (x ++ r))) 0 (l.getD i 0) (l.getD i 0) hby hbl
      rw [show Up.int ⟨forms (l.drop i) ++ (form (x.length : Int) ++ (x ++ r)), 0⟩ (l.getD i 0) (l.getD i 0) = (l.getD i 0, ⟨forms (l.drop (i + 1)) ++ (form (x.length : Int) ++ (x ++ r)), 0⟩) from by rw [hd, List.append_assoc]; exact Up.int_form hn.1 hn.2 (Int.le_refl _) (Int.le_refl _) _] at hin
      dsimp only at hin
      refine AWP.skip ?_
      refine AWP.seq ?_
      refine AWP.block ?_
      refine AWP.seq ?_
      refine AWP.region ?_
      refine n_indexAddr rfl Try.underlying77 ti2 rfl (by first | (simp only [nf, Nat.beq] <;> rfl) | rfl) (by first | (simp only [nf, Nat.beq] <;> rfl) | rfl) (by omega) (by first | exact ints_at _ _ _ (by omega) | exact ints_get _ _ _ (by omega) | exact map_at _ (by assumption) | rfl) rfl ?_
      refine n_load rfl ti2 (by first | (simp only [nf, Nat.beq] <;> rfl) | rfl) (by first | (simp only [nf, Nat.beq] <;> rfl) | rfl) rfl (by first | (simp only [nf, Nat.beq] <;> rfl) | rfl) ?_
      refine n_assign rfl (by first | (simp only [nf, Nat.beq] <;> rfl) | rfl) ?_
      refine AOps.nil ?_
      refine AWP.seq ?_
      refine AWP.region ?_
      refine n_move rfl (by first | (simp only [nf, Nat.beq] <;> rfl) | rfl) ?_
      refine n_move rfl (by first | (simp only [nf, Nat.beq] <;> rfl) | rfl) ?_
      refine n_move rfl (by first | (simp only [nf, Nat.beq] <;> rfl) | rfl) ?_
      refine n_callBoxB rfl cf85 rfl (Eq.trans (by simp only [nl] <;> rfl) (by first | (simp only [nf, Nat.beq] <;> rfl) | rfl)) (by repeat (first | exact .nil | refine .cons ?_ ?_ | exact ren_ints | exact .lf (.val _) | exact .lf (lf_ints (.inl rfl)) | exact .bp ⟨rfl, rfl⟩ | exact .bp (.inl ⟨rfl, rfl⟩) | exact .bp (.inr ⟨rfl, rfl⟩) | exact .lf (D.flat_lf rfl) | exact ren_lits rfl | exact ren_ints)) (by rfl) (by repeat (first | exact .nil | refine .cons ?_ ?_ | exact ren_ints | exact .lf (.val _) | exact .lf (lf_ints (.inl rfl)) | exact .bp ⟨rfl, rfl⟩ | exact .bp (.inl ⟨rfl, rfl⟩) | exact .bp (.inr ⟨rfl, rfl⟩) | exact .lf (D.flat_lf rfl) | exact ren_lits rfl | exact ren_ints)) (hin) (by repeat (first | exact lf_nil | refine lf_cons ?_ ?_ | exact .val _ | exact lf_ints (.inl rfl))) (by first | exact .val _ | exact lf_ints (.inl rfl) | exact lf_ints (.inr rfl) | exact .any | exact D.flat_lf rfl) (by first | (simp only [nf, Nat.beq] <;> rfl) | rfl) ?_
      refine n_move rfl (by first | (simp only [nf, Nat.beq] <;> rfl) | rfl) ?_
      refine n_ibin rfl (by first | (simp only [nf, Nat.beq] <;> rfl) | rfl) (by first | (simp only [nf, Nat.beq] <;> rfl) | rfl) rfl ?_
      refine n_move rfl (by first | (simp only [nf, Nat.beq] <;> rfl) | rfl) ?_
      refine AOps.name (u := 31) (fun z => .val (.bool z)) (by first | (simp only [nf, Nat.beq] <;> rfl) | rfl) (fun b31 hb31 => ?_)
      refine n_soft (u := 31) (E := .val (.bool b31)) (!b31) rfl rfl rfl (by first | (simp only [nf, Nat.beq] <;> rfl) | rfl) (by cases b31 <;> first | (intro _; rfl) | (intro h; exact absurd h (by decide))) (by cases b31 <;> first | (intro h; exact absurd h (by decide)) | (intro _; exact ⟨_, rfl, by first | (intro h; cases h; done) | decide | simp⟩)) (fun h => by
          cases b31 with
          | true => exact absurd h (by first | decide | simp)
          | false =>
            refine n_move rfl (by first | (simp only [nf, Nat.beq] <;> rfl) | rfl) ?_
            exact AOps.nil ⟨rfl, rfl, rfl⟩) ?_
      refine n_soft (u := 31) (E := .val (.bool b31)) (!b31) rfl rfl rfl (by first | (simp only [nf, Nat.beq] <;> rfl) | rfl) (by cases b31 <;> first | (intro _; rfl) | (intro h; exact absurd h (by decide))) (by cases b31 <;> first | (intro h; exact absurd h (by decide)) | (intro _; exact ⟨_, rfl, by first | (intro h; cases h; done) | decide | simp⟩)) (fun h => by
          cases b31 with
          | true => exact absurd h (by first | decide | simp)
          | false =>
            refine n_callBoxB rfl cf86 rfl (Eq.trans (by simp only [nl] <;> rfl) (by first | (simp only [nf, Nat.beq] <;> rfl) | rfl)) (by repeat (first | exact .nil | refine .cons ?_ ?_ | exact ren_ints | exact .lf (.val _) | exact .lf (lf_ints (.inl rfl)) | exact .bp ⟨rfl, rfl⟩ | exact .bp (.inl ⟨rfl, rfl⟩) | exact .bp (.inr ⟨rfl, rfl⟩) | exact .lf (D.flat_lf rfl) | exact ren_lits rfl | exact ren_ints)) (by rfl) (by repeat (first | exact .nil | refine .cons ?_ ?_ | exact ren_ints | exact .lf (.val _) | exact .lf (lf_ints (.inl rfl)) | exact .bp ⟨rfl, rfl⟩ | exact .bp (.inl ⟨rfl, rfl⟩) | exact .bp (.inr ⟨rfl, rfl⟩) | exact .lf (D.flat_lf rfl) | exact ren_lits rfl | exact ren_ints)) (u_err (forms (l.drop (i + 1)) ++ (form (x.length : Int) ++ (x ++ r))) 0) (by repeat (first | exact lf_nil | refine lf_cons ?_ ?_ | exact .val _ | exact lf_ints (.inl rfl))) (by first | exact .val _ | exact lf_ints (.inl rfl) | exact lf_ints (.inr rfl) | exact .any | exact D.flat_lf rfl) (by first | (simp only [nf, Nat.beq] <;> rfl) | rfl) ?_
            exact AOps.nil ⟨rfl, rfl, rfl⟩) ?_
      refine n_soft (u := 31) (E := .val (.bool b31)) (!b31) rfl rfl rfl (by first | (simp only [nf, Nat.beq] <;> rfl) | rfl) (by cases b31 <;> first | (intro _; rfl) | (intro h; exact absurd h (by decide))) (by cases b31 <;> first | (intro h; exact absurd h (by decide)) | (intro _; exact ⟨_, rfl, by first | (intro h; cases h; done) | decide | simp⟩)) (fun h => by
          cases b31 with
          | true => exact absurd h (by first | decide | simp)
          | false =>
            refine n_ibin rfl (by first | (simp only [nf, Nat.beq] <;> rfl) | rfl) (by first | (simp only [nf, Nat.beq] <;> rfl) | rfl) rfl ?_
            exact AOps.nil ⟨rfl, rfl, rfl⟩) ?_
      refine n_pick_or rfl (by first | (simp only [nf, Nat.beq] <;> rfl) | rfl) (fun h => by cases b31 with | true => exact absurd h (by decide) | false => exact (by first | (simp only [nf, Nat.beq] <;> rfl) | rfl)) ?_
      subst hb31
      refine AOps.nil ?_
      refine AWP.cond (by first | (simp only [nf, Nat.beq] <;> rfl) | rfl) (fun hc3 => ?_) (fun hc3 => ?_)
      · try simp only [nh] at hc3
        exfalso
        simp at hc3
      · try simp only [nh] at hc3
        refine AWP.skip ?_
        refine AWP.region ?_
        first | refine n_iadd rfl (by first | (simp only [nf, Nat.beq] <;> rfl) | rfl) (by first | (simp only [nf, Nat.beq] <;> rfl) | rfl) rfl (by omega) (by omega) ?_ | refine n_ibin rfl (by first | (simp only [nf, Nat.beq] <;> rfl) | rfl) (by first | (simp only [nf, Nat.beq] <;> rfl) | rfl) rfl ?_
        refine n_move rfl (by first | (simp only [nf, Nat.beq] <;> rfl) | rfl) ?_
        refine AOps.nil ?_
        refine ⟨i + 1, [], by omega, ?_, by rw [List.append_nil], by omega⟩
        (repeat (first | exact FLe.empty _ | refine FLe.put ?_ ?_)) <;> first | (simp only [nf, Nat.beq]; done) | rfl | (try simp only [nf, Nat.beq]; first | rfl | (congr 2; omega))
    · try simp only [nh] at hc2
      obtain rfl : i = l.length := by omega
      have hd : forms (l.drop l.length) ++ (form (x.length : Int) ++ (x ++ r)) = form (x.length : Int) ++ (x ++ r) := by rw [List.drop_length]; rfl
      rw [hd]
      have hby : Byt (form (x.length : Int) ++ (x ++ r)) := (form_byt _).append (hx.append hr)
      have hbl : L40 (form (x.length : Int) ++ (x ++ r)) := by have h2 := form_bd (n := (x.length : Int)) (hX _ (by simp)); simp only [L40, List.length_append] at *; omega
      have hst := u_str (form (x.length : Int) ++ (x ++ r)) 0 (x.length : Int) (by omega) hby hbl
      rw [Up.str_form (by omega) (Int.le_refl _)] at hst
      dsimp only at hst
      have heq := b_equal x x hx hx
      rw [decide_eq_true rfl] at heq
      have hrest := u_rest r 0
      rw [show Up.rest ⟨r, 0⟩ = (r.length : Int) from by unfold Up.rest; rfl] at hrest
      refine AWP.exit ?_
      refine AWP.seq ?_
      refine AWP.region ?_
      refine n_move rfl (by first | (simp only [nf, Nat.beq] <;> rfl) | rfl) ?_
      refine n_move rfl (by first | (simp only [nf, Nat.beq] <;> rfl) | rfl) ?_
      refine n_len rfl Try.underlying22 (by first | (simp only [nf, Nat.beq] <;> rfl) | rfl) (by first | rw [ints_length] | rfl) ?_
      refine n_callBoxB rfl cf87 rfl (Eq.trans (by simp only [nl] <;> rfl) (by first | (simp only [nf, Nat.beq] <;> rfl) | rfl)) (by repeat (first | exact .nil | refine .cons ?_ ?_ | exact ren_ints | exact .lf (.val _) | exact .lf (lf_ints (.inl rfl)) | exact .bp ⟨rfl, rfl⟩ | exact .bp (.inl ⟨rfl, rfl⟩) | exact .bp (.inr ⟨rfl, rfl⟩) | exact .lf (D.flat_lf rfl) | exact ren_lits rfl | exact ren_ints)) (by rfl) (by repeat (first | exact .nil | refine .cons ?_ ?_ | exact ren_ints | exact .lf (.val _) | exact .lf (lf_ints (.inl rfl)) | exact .bp ⟨rfl, rfl⟩ | exact .bp (.inl ⟨rfl, rfl⟩) | exact .bp (.inr ⟨rfl, rfl⟩) | exact .lf (D.flat_lf rfl) | exact ren_lits rfl | exact ren_ints)) (hst) (by repeat (first | exact lf_nil | refine lf_cons ?_ ?_ | exact .val _ | exact lf_ints (.inl rfl))) (by first | exact .val _ | exact lf_ints (.inl rfl) | exact lf_ints (.inr rfl) | exact .any | exact D.flat_lf rfl) (by first | (simp only [nf, Nat.beq] <;> rfl) | rfl) ?_
      refine n_move rfl (by first | (simp only [nf, Nat.beq] <;> rfl) | rfl) ?_
      refine n_call0B rfl cf40 rfl (Eq.trans (by simp only [nl] <;> rfl) (by first | (simp only [nf, Nat.beq] <;> rfl) | rfl)) (by repeat (first | exact .nil | refine .cons ?_ ?_ | exact ren_ints | exact .lf (.val _) | exact .lf (lf_ints (.inl rfl)) | exact .bp ⟨rfl, rfl⟩ | exact .bp (.inl ⟨rfl, rfl⟩) | exact .bp (.inr ⟨rfl, rfl⟩) | exact .lf (D.flat_lf rfl) | exact ren_lits rfl | exact ren_ints)) (heq) (by first | exact .val _ | exact lf_ints (.inl rfl) | exact lf_ints (.inr rfl) | exact .any | exact D.flat_lf rfl) ?_
      refine n_move rfl (by first | (simp only [nf, Nat.beq] <;> rfl) | rfl) ?_
      refine n_guard_yes rfl rfl rfl (by first | (simp only [nf, Nat.beq] <;> rfl) | rfl) rfl ?_
      refine n_move rfl (by first | (simp only [nf, Nat.beq] <;> rfl) | rfl) ?_
      refine n_guard_yes rfl rfl rfl (by first | (simp only [nf, Nat.beq] <;> rfl) | rfl) rfl ?_
      refine n_callBoxB rfl cf88 rfl (Eq.trans (by simp only [nl] <;> rfl) (by first | (simp only [nf, Nat.beq] <;> rfl) | rfl)) (by repeat (first | exact .nil | refine .cons ?_ ?_ | exact ren_ints | exact .lf (.val _) | exact .lf (lf_ints (.inl rfl)) | exact .bp ⟨rfl, rfl⟩ | exact .bp (.inl ⟨rfl, rfl⟩) | exact .bp (.inr ⟨rfl, rfl⟩) | exact .lf (D.flat_lf rfl) | exact ren_lits rfl | exact ren_ints)) (by rfl) (by repeat (first | exact .nil | refine .cons ?_ ?_ | exact ren_ints | exact .lf (.val _) | exact .lf (lf_ints (.inl rfl)) | exact .bp ⟨rfl, rfl⟩ | exact .bp (.inl ⟨rfl, rfl⟩) | exact .bp (.inr ⟨rfl, rfl⟩) | exact .lf (D.flat_lf rfl) | exact ren_lits rfl | exact ren_ints)) (hrest) (by repeat (first | exact lf_nil | refine lf_cons ?_ ?_ | exact .val _ | exact lf_ints (.inl rfl))) (by first | exact .val _ | exact lf_ints (.inl rfl) | exact lf_ints (.inr rfl) | exact .any | exact D.flat_lf rfl) (by first | (simp only [nf, Nat.beq] <;> rfl) | rfl) ?_
      refine n_guard_yes rfl rfl rfl (by first | (simp only [nf, Nat.beq] <;> rfl) | rfl) rfl ?_
      refine n_move rfl (by first | (simp only [nf, Nat.beq] <;> rfl) | rfl) ?_
      refine n_guard_yes rfl rfl rfl (by first | (simp only [nf, Nat.beq] <;> rfl) | rfl) rfl ?_
      refine n_len rfl Try.underlying22 (by first | (simp only [nf, Nat.beq] <;> rfl) | rfl) (by first | rw [ints_length] | rfl) ?_
      refine n_guard_yes rfl rfl rfl (by first | (simp only [nf, Nat.beq] <;> rfl) | rfl) rfl ?_
      refine n_ibin rfl (by first | (simp only [nf, Nat.beq] <;> rfl) | rfl) (by first | (simp only [nf, Nat.beq] <;> rfl) | rfl) (v := .bool true) (by simp [ibin]) ?_
      refine n_pick rfl (by first | (simp only [nf, Nat.beq] <;> rfl) | rfl) (by first | (simp only [nf, Nat.beq] <;> rfl) | rfl) ?_
      refine n_move rfl (by first | (simp only [nf, Nat.beq] <;> rfl) | rfl) ?_
      refine n_guard_yes rfl rfl rfl (by first | (simp only [nf, Nat.beq] <;> rfl) | rfl) rfl ?_
      refine n_move rfl (by first | (simp only [nf, Nat.beq] <;> rfl) | rfl) ?_
      refine n_guard_yes rfl rfl rfl (by first | (simp only [nf, Nat.beq] <;> rfl) | rfl) rfl ?_
      refine n_callBoxB rfl cf86 rfl (Eq.trans (by simp only [nl] <;> rfl) (by first | (simp only [nf, Nat.beq] <;> rfl) | rfl)) (by repeat (first | exact .nil | refine .cons ?_ ?_ | exact ren_ints | exact .lf (.val _) | exact .lf (lf_ints (.inl rfl)) | exact .bp ⟨rfl, rfl⟩ | exact .bp (.inl ⟨rfl, rfl⟩) | exact .bp (.inr ⟨rfl, rfl⟩) | exact .lf (D.flat_lf rfl) | exact ren_lits rfl | exact ren_ints)) (by rfl) (by repeat (first | exact .nil | refine .cons ?_ ?_ | exact ren_ints | exact .lf (.val _) | exact .lf (lf_ints (.inl rfl)) | exact .bp ⟨rfl, rfl⟩ | exact .bp (.inl ⟨rfl, rfl⟩) | exact .bp (.inr ⟨rfl, rfl⟩) | exact .lf (D.flat_lf rfl) | exact ren_lits rfl | exact ren_ints)) (u_err r 0) (by repeat (first | exact lf_nil | refine lf_cons ?_ ?_ | exact .val _ | exact lf_ints (.inl rfl))) (by first | exact .val _ | exact lf_ints (.inl rfl) | exact lf_ints (.inr rfl) | exact .any | exact D.flat_lf rfl) (by first | (simp only [nf, Nat.beq] <;> rfl) | rfl) ?_
      refine n_guard_yes rfl rfl rfl (by first | (simp only [nf, Nat.beq] <;> rfl) | rfl) rfl ?_
      refine n_ibin rfl (by first | (simp only [nf, Nat.beq] <;> rfl) | rfl) (by first | (simp only [nf, Nat.beq] <;> rfl) | rfl) rfl ?_
      refine n_pick rfl (by first | (simp only [nf, Nat.beq] <;> rfl) | rfl) (by first | (simp only [nf, Nat.beq] <;> rfl) | rfl) ?_
      refine n_assign rfl (by first | (simp only [nf, Nat.beq] <;> rfl) | rfl) ?_
      refine AOps.nil ?_
      refine AWP.ret ?_
      refine fin_pure (.cons (rv_tmp (by first | (simp only [nf, Nat.beq] <;> rfl) | rfl)) .nil) (by first | (simp only [nf, Nat.beq] <;> rfl) | rfl) ?_
      exact ren_flat rfl rfl

end Go.Proofs.Ytanfmpkjcoolmaa.Pm
