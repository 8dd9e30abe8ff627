/- Sessions with nothing under way. -/
import Derived.Test.YtanfmpkjcoolmaaRdA
import Derived.Test.YtanfmpkjcoolmaaSessPlain
import Derived.Test.YtanfmpkjcoolmaaAbsZj
import Derived.KernelRfl
set_option linter.unusedVariables false
set_option linter.unusedSimpArgs false
namespace Go.Proofs.Ytanfmpkjcoolmaa.Sb
open Go Go.Abs Go.Proofs.Ytanfmpkjcoolmaa.Pk
attribute [local irreducible] AWP AOps Does

theorem nrSbA0 {α : Type} {a b : α} (h : a = b := by first|simp only[nf,Nat.beq]<;>rfl|rfl) : a = b := h
theorem lfSbA0 {d : D} (h : LF d := by first | exact .val _ | exact lf_ints (.inl rfl) | exact lf_ints (.inr rfl) | exact .any | exact D.flat_lf rfl | exact lf_ssz _ | exact lf_pqz _ | exact lf_nl0 | exact .tup (lf_cons (lf_ssz _) (lf_cons (.val _) lf_nil)) | exact .tup (lf_cons (lf_pqz _) (lf_cons (.val _) lf_nil)) | exact .tup (lf_cons (lf_ints (.inl rfl)) (lf_cons (.val _) lf_nil)) | exact .tup (lf_cons (lf_ssz _) (lf_cons (lf_ints (.inl rfl)) (lf_cons (.val _) lf_nil))) | exact .tup (lf_cons (lf_ssz _) (lf_cons (lf_ssz _) (lf_cons (.val _) lf_nil))) | exact lf_sent) : LF d := h
theorem cf156 : CF Try.prog 156 := ⟨_, Try.func156, by kernel_rfl, by kernel_rfl⟩
theorem cf213 : CF Try.prog 213 := ⟨_, Try.func213, by kernel_rfl, by kernel_rfl⟩
theorem cf214 : CF Try.prog 214 := ⟨_, Try.func214, by kernel_rfl, by kernel_rfl⟩
theorem cf215 : CF Try.prog 215 := ⟨_, Try.func215, by kernel_rfl, by kernel_rfl⟩
theorem cf241 : CF Try.prog 241 := ⟨_, Try.func241, by kernel_rfl, by kernel_rfl⟩
theorem cf269 : CF Try.prog 269 := ⟨_, Try.func269, by kernel_rfl, by kernel_rfl⟩
theorem cf270 : CF Try.prog 270 := ⟨_, Try.func270, by kernel_rfl, by kernel_rfl⟩
theorem cf272 : CF Try.prog 272 := ⟨_, Try.func272, by kernel_rfl, by kernel_rfl⟩
theorem cf285 : CF Try.prog 285 := ⟨_, Try.func285, by kernel_rfl, by kernel_rfl⟩
theorem cf95 : CF Try.prog 95 := ⟨_, Try.func95, by kernel_rfl, by kernel_rfl⟩
theorem ei22 : EI Try.prog 22 1 24 (.slice none 0 0) := EI.of (by kernel_rfl) rfl rfl
theorem fd141_0 : FD Try.prog 141 0 2 0 := ⟨_, _, Try.underlying141, rfl, rfl, rfl⟩
theorem fd141_1 : FD Try.prog 141 1 2 1 := ⟨_, _, Try.underlying141, rfl, rfl, rfl⟩
theorem fd141_2 : FD Try.prog 141 2 2 2 := ⟨_, _, Try.underlying141, rfl, rfl, rfl⟩
theorem fd141_3 : FD Try.prog 141 3 2 3 := ⟨_, _, Try.underlying141, rfl, rfl, rfl⟩
theorem fd141_4 : FD Try.prog 141 4 2 4 := ⟨_, _, Try.underlying141, rfl, rfl, rfl⟩
theorem fd141_5 : FD Try.prog 141 5 139 5 := ⟨_, _, Try.underlying141, rfl, rfl, rfl⟩
theorem fd157_0 : FD Try.prog 157 0 2 0 := ⟨_, _, Try.underlying157, rfl, rfl, rfl⟩
theorem fd157_1 : FD Try.prog 157 1 2 1 := ⟨_, _, Try.underlying157, rfl, rfl, rfl⟩
theorem fd157_2 : FD Try.prog 157 2 2 2 := ⟨_, _, Try.underlying157, rfl, rfl, rfl⟩
theorem fd157_3 : FD Try.prog 157 3 2 3 := ⟨_, _, Try.underlying157, rfl, rfl, rfl⟩
theorem fd157_4 : FD Try.prog 157 4 22 4 := ⟨_, _, Try.underlying157, rfl, rfl, rfl⟩
theorem si141 : SI Try.prog 141 #[(0, 1), (1, 1), (2, 1), (3, 1), (4, 1), (5, 1)] (.agg #[.int .i64 0, .int .i64 0, .int .i64 0, .int .i64 0, .int .i64 0, .slice none 0 0]) := ⟨⟨_, Try.underlying141, fun w => by kernel_rfl⟩, by kernel_rfl⟩
theorem si157 : SI Try.prog 157 #[(0, 1), (1, 1), (2, 1), (3, 1), (4, 1)] (.agg #[.int .i64 0, .int .i64 0, .int .i64 0, .int .i64 0, .slice none 0 0]) := ⟨⟨_, Try.underlying157, fun w => by kernel_rfl⟩, by kernel_rfl⟩
theorem ti139 : TI Try.prog 139 1 false := ⟨by kernel_rfl, by kernel_rfl⟩
theorem ti141 : TI Try.prog 141 6 true := ⟨by kernel_rfl, by kernel_rfl⟩
theorem ti157 : TI Try.prog 157 5 true := ⟨by kernel_rfl, by kernel_rfl⟩
theorem ti2 : TI Try.prog 2 1 false := ⟨by kernel_rfl, by kernel_rfl⟩
theorem ti22 : TI Try.prog 22 1 false := ⟨by kernel_rfl, by kernel_rfl⟩
theorem zi141 : (Try.prog.info? 141).map (·.zero) = some (some (.agg #[.int .i64 0, .int .i64 0, .int .i64 0, .int .i64 0, .int .i64 0, .slice none 0 0])) := by kernel_rfl
theorem zi157 : (Try.prog.info? 157).map (·.zero) = some (some (.agg #[.int .i64 0, .int .i64 0, .int .i64 0, .int .i64 0, .slice none 0 0])) := by kernel_rfl
theorem zi22 : (Try.prog.info? 22).map (·.zero) = some (some (.slice none 0 0)) := by kernel_rfl

theorem ren_nl0 {ρ σ : Nat → Nat → Prop} {nl : Option Bool} {c : Cap} : Ren ρ σ (.sl nl [] c) (.sl none [] .ro) := .ro (fun x h => by cases h)
theorem lf_nl0 {nl : Option Bool} : LF (.sl nl [] .ro) := .sl (fun x h => by cases h) (.inl rfl)
theorem lf_q {x : List Int} : LF (.sl none [[bys x]] .ro) := .sl (fun y hy d hd => by simp only [List.mem_cons, List.not_mem_nil, or_false] at hy; subst hy; simp only [List.mem_cons, List.not_mem_nil, or_false] at hd; subst hd; exact lf_ints (.inl rfl)) (.inl rfl)
theorem ren_sq {ρ σ : Nat → Nat → Prop} {nl : Option Bool} {c : Cap} {b p s a e : Int} {x : List Int} : Ren ρ σ (.agg [vi b, vi p, vi s, vi a, vi e, .sl nl [[bys x]] c]) (.agg [vi b, vi p, vi s, vi a, vi e, .sl none [[bys x]] .ro]) := .agg rfl (RenAll.get (.cons (.lf (.val _)) (.cons (.lf (.val _)) (.cons (.lf (.val _)) (.cons (.lf (.val _)) (.cons (.lf (.val _)) (.cons (.ro (fun y hy d hd => by simp only [List.mem_cons, List.not_mem_nil, or_false] at hy; subst hy; simp only [List.mem_cons, List.not_mem_nil, or_false] at hd; subst hd; exact lf_ints (.inl rfl))) .nil)))))))
theorem lf_sent {b p s a e : Int} {x : List Int} {y : Pq} : LF (.tup [.agg [vi b, vi p, vi s, vi a, vi e, .sl none [[bys x]] .ro], .agg (pqz y), vi 0]) := .tup (lf_cons (.agg (lf_cons (.val _) (lf_cons (.val _) (lf_cons (.val _) (lf_cons (.val _) (lf_cons (.val _) (lf_cons lf_q lf_nil))))))) (lf_cons (lf_pqz _) (lf_cons (.val _) lf_nil)))
attribute [local irreducible] Up.int Up.str Up.close Up.rest Up.clr Up.spoil Up.w Up.flag Ss.chk Pq.chk Ss.take Ss.answer Pq.bytes Pq.parse
theorem l_pos (n : Int) : Does Try.prog 215 [vi n] [] (vb (posN n)) [] := by
  refine Does.of_body (rvs := [.tmp 2]) Try.func215 rfl rfl rfl rfl ?_
  refine AWP.seq ?_
  refine AWP.region ?_
  refine n_assign rfl nrSbA0 ?_
  refine AOps.nil ?_
  refine AWP.seq ?_
  refine AWP.region ?_
  refine n_move rfl nrSbA0 ?_
  refine n_ibin rfl nrSbA0 nrSbA0 rfl ?_
  refine n_move rfl nrSbA0 ?_
  refine AOps.name (u := 5) (fun z => .val (.bool z)) nrSbA0 (fun b5 hb5 => ?_)
  refine n_soft (u := 5) (E := .val (.bool b5)) (b5) rfl rfl rfl nrSbA0 (by cases b5 <;> first | (intro _; rfl) | (intro h; exact absurd h (by decide))) (by cases b5 <;> first | (intro h; exact absurd h (by decide)) | (intro _; exact ⟨_, rfl, by first | (intro h; cases h; done) | decide | simp⟩)) (fun h => by
      cases b5 with
      | false => exact absurd h (by first | decide | simp)
      | true =>
        refine n_move rfl nrSbA0 ?_
        exact AOps.nil ⟨rfl, rfl, rfl⟩) ?_
  refine n_soft (u := 5) (E := .val (.bool b5)) (b5) rfl rfl rfl nrSbA0 (by cases b5 <;> first | (intro _; rfl) | (intro h; exact absurd h (by decide))) (by cases b5 <;> first | (intro h; exact absurd h (by decide)) | (intro _; exact ⟨_, rfl, by first | (intro h; cases h; done) | decide | simp⟩)) (fun h => by
      cases b5 with
      | false => exact absurd h (by first | decide | simp)
      | true =>
        refine n_ibin rfl nrSbA0 nrSbA0 rfl ?_
        exact AOps.nil ⟨rfl, rfl, rfl⟩) ?_
  refine n_pick_and rfl nrSbA0 (fun h => by cases b5 with | false => exact absurd h (by decide) | true => exact nrSbA0) ?_
  refine n_assign rfl nrSbA0 ?_
  subst hb5
  refine AOps.nil ?_
  refine AWP.ret ?_
  refine fin_pure (.cons (rv_tmp nrSbA0) .nil) nrSbA0 ?_
  exact ren_flat rfl (congrArg vb (by simp [posN]))

theorem l_num (n : Int) : Does Try.prog 241 [vi n] [] (vb (numN n)) [] := by
  refine Does.of_body (rvs := [.tmp 2]) Try.func241 rfl rfl rfl rfl ?_
  refine AWP.seq ?_
  refine AWP.region ?_
  refine n_assign rfl nrSbA0 ?_
  refine AOps.nil ?_
  refine AWP.seq ?_
  refine AWP.region ?_
  refine n_move rfl nrSbA0 ?_
  refine n_ibin rfl nrSbA0 nrSbA0 rfl ?_
  refine n_move rfl nrSbA0 ?_
  refine AOps.name (u := 5) (fun z => .val (.bool z)) nrSbA0 (fun b5 hb5 => ?_)
  refine n_soft (u := 5) (E := .val (.bool b5)) (b5) rfl rfl rfl nrSbA0 (by cases b5 <;> first | (intro _; rfl) | (intro h; exact absurd h (by decide))) (by cases b5 <;> first | (intro h; exact absurd h (by decide)) | (intro _; exact ⟨_, rfl, by first | (intro h; cases h; done) | decide | simp⟩)) (fun h => by
      cases b5 with
      | false => exact absurd h (by first | decide | simp)
      | true =>
        refine n_move rfl nrSbA0 ?_
        exact AOps.nil ⟨rfl, rfl, rfl⟩) ?_
  refine n_soft (u := 5) (E := .val (.bool b5)) (b5) rfl rfl rfl nrSbA0 (by cases b5 <;> first | (intro _; rfl) | (intro h; exact absurd h (by decide))) (by cases b5 <;> first | (intro h; exact absurd h (by decide)) | (intro _; exact ⟨_, rfl, by first | (intro h; cases h; done) | decide | simp⟩)) (fun h => by
      cases b5 with
      | false => exact absurd h (by first | decide | simp)
      | true =>
        refine n_ibin rfl nrSbA0 nrSbA0 rfl ?_
        exact AOps.nil ⟨rfl, rfl, rfl⟩) ?_
  refine n_pick_and rfl nrSbA0 (fun h => by cases b5 with | false => exact absurd h (by decide) | true => exact nrSbA0) ?_
  refine n_assign rfl nrSbA0 ?_
  subst hb5
  refine AOps.nil ?_
  refine AWP.ret ?_
  refine fin_pure (.cons (rv_tmp nrSbA0) .nil) nrSbA0 ?_
  exact ren_flat rfl (congrArg vb (by simp [numN]))

theorem l_new (n : Int) : Does Try.prog 114 [vi n] [] (.tup [.agg (ssz (Ss.new n)), vi (if posN n = true then 0 else 1)]) [] := by
  refine Does.of_body (rvs := [.cell 2 141, .tmp 3]) Try.func114 rfl rfl rfl rfl ?_
  refine AWP.seq ?_
  refine AWP.region ?_
  refine n_alloc rfl zi141 rfl nrSbA0 nrSbA0 ?_
  refine n_assign rfl nrSbA0 ?_
  refine AOps.nil ?_
  refine AWP.seq ?_
  refine AWP.seq ?_
  refine AWP.region ?_
  refine n_move rfl nrSbA0 ?_
  refine n_call0B rfl cf215 rfl (Eq.trans (by simp only [nl] <;> rfl) nrSbA0) (by repeat (first | exact .nil | refine .cons ?_ ?_ | exact ren_ints | exact .lf (.val _) | exact .lf (lf_ints (.inl rfl)) | exact .bp ⟨rfl, rfl⟩ | exact .bp (.inl ⟨rfl, rfl⟩) | exact .bp (.inr ⟨rfl, rfl⟩) | exact ren_bys0 rfl | exact .lf (D.flat_lf rfl) | exact ren_lits rfl | exact .lf (lf_ssz _) | exact .lf (lf_pqz _) | exact ren_q0 rfl | exact ren_pq rfl | exact ren_nl0 | exact ren_sq | exact .lf (.fn (fun d h => by cases h) (fun d h => by cases h)))) (l_pos _) lfSbA0 ?_
  refine n_not rfl nrSbA0 rfl ?_
  refine AOps.nil ?_
  refine AWP.cond nrSbA0 (fun hc1 => ?_) (fun hc1 => ?_)
  · try simp only [nh] at hc1
    have hz : posN n = false := by simpa using hc1
    have hn : Ss.new n = ⟨0, 0, 0, 0, 0⟩ := by unfold Ss.new; rw [hz]; rfl
    refine AWP.seq ?_
    refine AWP.region ?_
    refine n_build rfl si141 (Eq.trans (by simp only [nl] <;> rfl) nrSbA0) (Eq.trans (by simp only [nl] <;> rfl) nrSbA0) rfl ?_
    refine n_store ti141 nrSbA0 rfl nrSbA0 rfl nrSbA0 rfl rfl rfl nrSbA0 ?_
    refine n_assign rfl nrSbA0 ?_
    refine AOps.nil ?_
    refine AWP.ret ?_
    refine fin_pure (.cons (rv_cell ti141 nrSbA0 nrSbA0 rfl nrSbA0) (.cons (rv_tmp nrSbA0) .nil)) nrSbA0 ?_
    rw [hz]; exact .tup rfl (RenAll.get (.cons (ren_q0 hn) (.cons (ren_flat rfl rfl) .nil)))
  · try simp only [nh] at hc1
    have hz : posN n = true := by simpa using hc1
    have hn : Ss.new n = ⟨n, 0, 0, 0, 1⟩ := by unfold Ss.new; rw [hz]; rfl
    refine AWP.skip ?_
    refine AWP.seq ?_
    refine AWP.region ?_
    refine n_move rfl nrSbA0 ?_
    refine n_build rfl si141 (Eq.trans (by simp only [nl] <;> rfl) nrSbA0) (Eq.trans (by simp only [nl] <;> rfl) nrSbA0) rfl ?_
    refine n_store ti141 nrSbA0 rfl nrSbA0 rfl nrSbA0 rfl rfl rfl nrSbA0 ?_
    refine n_assign rfl nrSbA0 ?_
    refine AOps.nil ?_
    refine AWP.ret ?_
    refine fin_pure (.cons (rv_cell ti141 nrSbA0 nrSbA0 rfl nrSbA0) (.cons (rv_tmp nrSbA0) .nil)) nrSbA0 ?_
    rw [hz]; exact .tup rfl (RenAll.get (.cons (ren_q0 hn) (.cons (ren_flat rfl rfl) .nil)))

theorem l_cp (x : Pq) (hl : L40 x.l) : Does Try.prog 156 [.agg (pqz x)] [] (vi x.chk) [] := by
  refine Does.of_body (rvs := [.tmp 2]) Try.func156 rfl rfl rfl rfl ?_
  refine AWP.seq ?_
  refine AWP.region ?_
  refine n_box rfl nrSbA0 rfl rfl nrSbA0 nrSbA0 ?_
  refine n_assign rfl nrSbA0 ?_
  refine AOps.nil ?_
  refine AWP.seq ?_
  refine AWP.seq ?_
  refine AWP.region ?_
  refine n_fieldAddr rfl fd157_0 ti2 rfl nrSbA0 rfl nrSbA0 ?_
  refine n_load rfl ti2 nrSbA0 nrSbA0 rfl nrSbA0 ?_
  refine n_call0B rfl cf215 rfl (Eq.trans (by simp only [nl] <;> rfl) nrSbA0) (by repeat (first | exact .nil | refine .cons ?_ ?_ | exact ren_ints | exact .lf (.val _) | exact .lf (lf_ints (.inl rfl)) | exact .bp ⟨rfl, rfl⟩ | exact .bp (.inl ⟨rfl, rfl⟩) | exact .bp (.inr ⟨rfl, rfl⟩) | exact ren_bys0 rfl | exact .lf (D.flat_lf rfl) | exact ren_lits rfl | exact .lf (lf_ssz _) | exact .lf (lf_pqz _) | exact ren_q0 rfl | exact ren_pq rfl | exact ren_nl0 | exact ren_sq | exact .lf (.fn (fun d h => by cases h) (fun d h => by cases h)))) (l_pos _) lfSbA0 ?_
  refine n_not rfl nrSbA0 rfl ?_
  refine n_move rfl nrSbA0 ?_
  refine AOps.name (u := 7) (fun z => .val (.bool z)) nrSbA0 (fun b7 hb7 => ?_)
  refine n_soft (u := 7) (E := .val (.bool b7)) (!b7) rfl rfl rfl nrSbA0 (by cases b7 <;> first | (intro _; rfl) | (intro h; exact absurd h (by decide))) (by cases b7 <;> first | (intro h; exact absurd h (by decide)) | (intro _; exact ⟨_, rfl, by first | (intro h; cases h; done) | decide | simp⟩)) (fun h => by
      cases b7 with
      | true => exact absurd h (by first | decide | simp)
      | false =>
        refine n_fieldAddr rfl fd157_1 ti2 rfl nrSbA0 rfl nrSbA0 ?_
        exact AOps.nil ⟨rfl, rfl, rfl⟩) ?_
  refine n_soft (u := 7) (E := .val (.bool b7)) (!b7) rfl rfl rfl nrSbA0 (by cases b7 <;> first | (intro _; rfl) | (intro h; exact absurd h (by decide))) (by cases b7 <;> first | (intro h; exact absurd h (by decide)) | (intro _; exact ⟨_, rfl, by first | (intro h; cases h; done) | decide | simp⟩)) (fun h => by
      cases b7 with
      | true => exact absurd h (by first | decide | simp)
      | false =>
        refine n_load rfl ti2 nrSbA0 nrSbA0 rfl nrSbA0 ?_
        exact AOps.nil ⟨rfl, rfl, rfl⟩) ?_
  refine n_soft (u := 7) (E := .val (.bool b7)) (!b7) rfl rfl rfl nrSbA0 (by cases b7 <;> first | (intro _; rfl) | (intro h; exact absurd h (by decide))) (by cases b7 <;> first | (intro h; exact absurd h (by decide)) | (intro _; exact ⟨_, rfl, by first | (intro h; cases h; done) | decide | simp⟩)) (fun h => by
      cases b7 with
      | true => exact absurd h (by first | decide | simp)
      | false =>
        refine n_call0B rfl cf241 rfl (Eq.trans (by simp only [nl] <;> rfl) nrSbA0) (by repeat (first | exact .nil | refine .cons ?_ ?_ | exact ren_ints | exact .lf (.val _) | exact .lf (lf_ints (.inl rfl)) | exact .bp ⟨rfl, rfl⟩ | exact .bp (.inl ⟨rfl, rfl⟩) | exact .bp (.inr ⟨rfl, rfl⟩) | exact ren_bys0 rfl | exact .lf (D.flat_lf rfl) | exact ren_lits rfl | exact .lf (lf_ssz _) | exact .lf (lf_pqz _) | exact ren_q0 rfl | exact ren_pq rfl | exact ren_nl0 | exact ren_sq | exact .lf (.fn (fun d h => by cases h) (fun d h => by cases h)))) (l_num _) lfSbA0 ?_
        exact AOps.nil ⟨rfl, rfl, rfl⟩) ?_
  refine n_soft (u := 7) (E := .val (.bool b7)) (!b7) rfl rfl rfl nrSbA0 (by cases b7 <;> first | (intro _; rfl) | (intro h; exact absurd h (by decide))) (by cases b7 <;> first | (intro h; exact absurd h (by decide)) | (intro _; exact ⟨_, rfl, by first | (intro h; cases h; done) | decide | simp⟩)) (fun h => by
      cases b7 with
      | true => exact absurd h (by first | decide | simp)
      | false =>
        refine n_not rfl nrSbA0 rfl ?_
        exact AOps.nil ⟨rfl, rfl, rfl⟩) ?_
  refine n_pick_or rfl nrSbA0 (fun h => by cases b7 with | true => exact absurd h (by decide) | false => exact nrSbA0) ?_
  refine n_move rfl nrSbA0 ?_
  refine AOps.name (u := 13) (fun z => .val (.bool z)) nrSbA0 (fun b13 hb13 => ?_)
  refine n_soft (u := 13) (E := .val (.bool b13)) (!b13) rfl rfl rfl nrSbA0 (by cases b13 <;> first | (intro _; rfl) | (intro h; exact absurd h (by decide))) (by cases b13 <;> first | (intro h; exact absurd h (by decide)) | (intro _; exact ⟨_, rfl, by first | (intro h; cases h; done) | decide | simp⟩)) (fun h => by
      cases b13 with
      | true => exact absurd h (by first | decide | simp)
      | false =>
        refine n_fieldAddr rfl fd157_2 ti2 rfl nrSbA0 rfl nrSbA0 ?_
        exact AOps.nil ⟨rfl, rfl, rfl⟩) ?_
  refine n_soft (u := 13) (E := .val (.bool b13)) (!b13) rfl rfl rfl nrSbA0 (by cases b13 <;> first | (intro _; rfl) | (intro h; exact absurd h (by decide))) (by cases b13 <;> first | (intro h; exact absurd h (by decide)) | (intro _; exact ⟨_, rfl, by first | (intro h; cases h; done) | decide | simp⟩)) (fun h => by
      cases b13 with
      | true => exact absurd h (by first | decide | simp)
      | false =>
        refine n_load rfl ti2 nrSbA0 nrSbA0 rfl nrSbA0 ?_
        exact AOps.nil ⟨rfl, rfl, rfl⟩) ?_
  refine n_soft (u := 13) (E := .val (.bool b13)) (!b13) rfl rfl rfl nrSbA0 (by cases b13 <;> first | (intro _; rfl) | (intro h; exact absurd h (by decide))) (by cases b13 <;> first | (intro h; exact absurd h (by decide)) | (intro _; exact ⟨_, rfl, by first | (intro h; cases h; done) | decide | simp⟩)) (fun h => by
      cases b13 with
      | true => exact absurd h (by first | decide | simp)
      | false =>
        refine n_call0B rfl cf241 rfl (Eq.trans (by simp only [nl] <;> rfl) nrSbA0) (by repeat (first | exact .nil | refine .cons ?_ ?_ | exact ren_ints | exact .lf (.val _) | exact .lf (lf_ints (.inl rfl)) | exact .bp ⟨rfl, rfl⟩ | exact .bp (.inl ⟨rfl, rfl⟩) | exact .bp (.inr ⟨rfl, rfl⟩) | exact ren_bys0 rfl | exact .lf (D.flat_lf rfl) | exact ren_lits rfl | exact .lf (lf_ssz _) | exact .lf (lf_pqz _) | exact ren_q0 rfl | exact ren_pq rfl | exact ren_nl0 | exact ren_sq | exact .lf (.fn (fun d h => by cases h) (fun d h => by cases h)))) (l_num _) lfSbA0 ?_
        exact AOps.nil ⟨rfl, rfl, rfl⟩) ?_
  refine n_soft (u := 13) (E := .val (.bool b13)) (!b13) rfl rfl rfl nrSbA0 (by cases b13 <;> first | (intro _; rfl) | (intro h; exact absurd h (by decide))) (by cases b13 <;> first | (intro h; exact absurd h (by decide)) | (intro _; exact ⟨_, rfl, by first | (intro h; cases h; done) | decide | simp⟩)) (fun h => by
      cases b13 with
      | true => exact absurd h (by first | decide | simp)
      | false =>
        refine n_not rfl nrSbA0 rfl ?_
        exact AOps.nil ⟨rfl, rfl, rfl⟩) ?_
  refine n_pick_or rfl nrSbA0 (fun h => by cases b13 with | true => exact absurd h (by decide) | false => exact nrSbA0) ?_
  refine n_move rfl nrSbA0 ?_
  refine AOps.name (u := 19) (fun z => .val (.bool z)) nrSbA0 (fun b19 hb19 => ?_)
  refine n_soft (u := 19) (E := .val (.bool b19)) (!b19) rfl rfl rfl nrSbA0 (by cases b19 <;> first | (intro _; rfl) | (intro h; exact absurd h (by decide))) (by cases b19 <;> first | (intro h; exact absurd h (by decide)) | (intro _; exact ⟨_, rfl, by first | (intro h; cases h; done) | decide | simp⟩)) (fun h => by
      cases b19 with
      | true => exact absurd h (by first | decide | simp)
      | false =>
        refine n_fieldAddr rfl fd157_3 ti2 rfl nrSbA0 rfl nrSbA0 ?_
        exact AOps.nil ⟨rfl, rfl, rfl⟩) ?_
  refine n_soft (u := 19) (E := .val (.bool b19)) (!b19) rfl rfl rfl nrSbA0 (by cases b19 <;> first | (intro _; rfl) | (intro h; exact absurd h (by decide))) (by cases b19 <;> first | (intro h; exact absurd h (by decide)) | (intro _; exact ⟨_, rfl, by first | (intro h; cases h; done) | decide | simp⟩)) (fun h => by
      cases b19 with
      | true => exact absurd h (by first | decide | simp)
      | false =>
        refine n_load rfl ti2 nrSbA0 nrSbA0 rfl nrSbA0 ?_
        exact AOps.nil ⟨rfl, rfl, rfl⟩) ?_
  refine n_soft (u := 19) (E := .val (.bool b19)) (!b19) rfl rfl rfl nrSbA0 (by cases b19 <;> first | (intro _; rfl) | (intro h; exact absurd h (by decide))) (by cases b19 <;> first | (intro h; exact absurd h (by decide)) | (intro _; exact ⟨_, rfl, by first | (intro h; cases h; done) | decide | simp⟩)) (fun h => by
      cases b19 with
      | true => exact absurd h (by first | decide | simp)
      | false =>
        refine n_call0B rfl cf241 rfl (Eq.trans (by simp only [nl] <;> rfl) nrSbA0) (by repeat (first | exact .nil | refine .cons ?_ ?_ | exact ren_ints | exact .lf (.val _) | exact .lf (lf_ints (.inl rfl)) | exact .bp ⟨rfl, rfl⟩ | exact .bp (.inl ⟨rfl, rfl⟩) | exact .bp (.inr ⟨rfl, rfl⟩) | exact ren_bys0 rfl | exact .lf (D.flat_lf rfl) | exact ren_lits rfl | exact .lf (lf_ssz _) | exact .lf (lf_pqz _) | exact ren_q0 rfl | exact ren_pq rfl | exact ren_nl0 | exact ren_sq | exact .lf (.fn (fun d h => by cases h) (fun d h => by cases h)))) (l_num _) lfSbA0 ?_
        exact AOps.nil ⟨rfl, rfl, rfl⟩) ?_
  refine n_soft (u := 19) (E := .val (.bool b19)) (!b19) rfl rfl rfl nrSbA0 (by cases b19 <;> first | (intro _; rfl) | (intro h; exact absurd h (by decide))) (by cases b19 <;> first | (intro h; exact absurd h (by decide)) | (intro _; exact ⟨_, rfl, by first | (intro h; cases h; done) | decide | simp⟩)) (fun h => by
      cases b19 with
      | true => exact absurd h (by first | decide | simp)
      | false =>
        refine n_not rfl nrSbA0 rfl ?_
        exact AOps.nil ⟨rfl, rfl, rfl⟩) ?_
  refine n_pick_or rfl nrSbA0 (fun h => by cases b19 with | true => exact absurd h (by decide) | false => exact nrSbA0) ?_
  refine n_move rfl nrSbA0 ?_
  refine AOps.name (u := 25) (fun z => .val (.bool z)) nrSbA0 (fun b25 hb25 => ?_)
  refine n_soft (u := 25) (E := .val (.bool b25)) (!b25) rfl rfl rfl nrSbA0 (by cases b25 <;> first | (intro _; rfl) | (intro h; exact absurd h (by decide))) (by cases b25 <;> first | (intro h; exact absurd h (by decide)) | (intro _; exact ⟨_, rfl, by first | (intro h; cases h; done) | decide | simp⟩)) (fun h => by
      cases b25 with
      | true => exact absurd h (by first | decide | simp)
      | false =>
        refine n_fieldAddr rfl fd157_4 ti22 rfl nrSbA0 rfl nrSbA0 ?_
        exact AOps.nil ⟨rfl, rfl, rfl⟩) ?_
  refine n_soft (u := 25) (E := .val (.bool b25)) (!b25) rfl rfl rfl nrSbA0 (by cases b25 <;> first | (intro _; rfl) | (intro h; exact absurd h (by decide))) (by cases b25 <;> first | (intro h; exact absurd h (by decide)) | (intro _; exact ⟨_, rfl, by first | (intro h; cases h; done) | decide | simp⟩)) (fun h => by
      cases b25 with
      | true => exact absurd h (by first | decide | simp)
      | false =>
        refine n_load rfl ti22 nrSbA0 nrSbA0 rfl nrSbA0 ?_
        exact AOps.nil ⟨rfl, rfl, rfl⟩) ?_
  refine n_soft (u := 25) (E := .val (.bool b25)) (!b25) rfl rfl rfl nrSbA0 (by cases b25 <;> first | (intro _; rfl) | (intro h; exact absurd h (by decide))) (by cases b25 <;> first | (intro h; exact absurd h (by decide)) | (intro _; exact ⟨_, rfl, by first | (intro h; cases h; done) | decide | simp⟩)) (fun h => by
      cases b25 with
      | true => exact absurd h (by first | decide | simp)
      | false =>
        refine n_len rfl Try.underlying22 nrSbA0 (by first | rw [ints_length] | rw [List.length_map] | rfl) ?_
        exact AOps.nil ⟨rfl, rfl, rfl⟩) ?_
  refine n_soft (u := 25) (E := .val (.bool b25)) (!b25) rfl rfl rfl nrSbA0 (by cases b25 <;> first | (intro _; rfl) | (intro h; exact absurd h (by decide))) (by cases b25 <;> first | (intro h; exact absurd h (by decide)) | (intro _; exact ⟨_, rfl, by first | (intro h; cases h; done) | decide | simp⟩)) (fun h => by
      cases b25 with
      | true => exact absurd h (by first | decide | simp)
      | false =>
        refine n_ibin rfl nrSbA0 nrSbA0 rfl ?_
        exact AOps.nil ⟨rfl, rfl, rfl⟩) ?_
  refine n_pick_or rfl nrSbA0 (fun h => by cases b25 with | true => exact absurd h (by decide) | false => exact nrSbA0) ?_
  refine n_move rfl nrSbA0 ?_
  refine AOps.name (u := 31) (fun z => .val (.bool z)) nrSbA0 (fun b31 hb31 => ?_)
  refine n_soft (u := 31) (E := .val (.bool b31)) (!b31) rfl rfl rfl nrSbA0 (by cases b31 <;> first | (intro _; rfl) | (intro h; exact absurd h (by decide))) (by cases b31 <;> first | (intro h; exact absurd h (by decide)) | (intro _; exact ⟨_, rfl, by first | (intro h; cases h; done) | decide | simp⟩)) (fun h => by
      cases b31 with
      | true => exact absurd h (by first | decide | simp)
      | false =>
        refine n_fieldAddr rfl fd157_2 ti2 rfl nrSbA0 rfl nrSbA0 ?_
        exact AOps.nil ⟨rfl, rfl, rfl⟩) ?_
  refine n_soft (u := 31) (E := .val (.bool b31)) (!b31) rfl rfl rfl nrSbA0 (by cases b31 <;> first | (intro _; rfl) | (intro h; exact absurd h (by decide))) (by cases b31 <;> first | (intro h; exact absurd h (by decide)) | (intro _; exact ⟨_, rfl, by first | (intro h; cases h; done) | decide | simp⟩)) (fun h => by
      cases b31 with
      | true => exact absurd h (by first | decide | simp)
      | false =>
        refine n_load rfl ti2 nrSbA0 nrSbA0 rfl nrSbA0 ?_
        exact AOps.nil ⟨rfl, rfl, rfl⟩) ?_
  refine n_soft (u := 31) (E := .val (.bool b31)) (!b31) rfl rfl rfl nrSbA0 (by cases b31 <;> first | (intro _; rfl) | (intro h; exact absurd h (by decide))) (by cases b31 <;> first | (intro h; exact absurd h (by decide)) | (intro _; exact ⟨_, rfl, by first | (intro h; cases h; done) | decide | simp⟩)) (fun h => by
      cases b31 with
      | true => exact absurd h (by first | decide | simp)
      | false =>
        refine n_ibin rfl nrSbA0 nrSbA0 rfl ?_
        exact AOps.nil ⟨rfl, rfl, rfl⟩) ?_
  refine n_soft (u := 31) (E := .val (.bool b31)) (!b31) rfl rfl rfl nrSbA0 (by cases b31 <;> first | (intro _; rfl) | (intro h; exact absurd h (by decide))) (by cases b31 <;> first | (intro h; exact absurd h (by decide)) | (intro _; exact ⟨_, rfl, by first | (intro h; cases h; done) | decide | simp⟩)) (fun h => by
      cases b31 with
      | true => exact absurd h (by first | decide | simp)
      | false =>
        refine n_move rfl nrSbA0 ?_
        exact AOps.nil ⟨rfl, rfl, rfl⟩) ?_
  refine AOps.name (u := 35) (fun z => bif (!b31) then .val (.bool z) else .val undef) nrSbA0 (fun b35 hb35 => ?_)
  refine n_soft (u := 35) (E := bif (!b31) then .val (.bool b35) else .val undef) (!b31 && b35) rfl rfl rfl nrSbA0 (by cases b31 <;> cases b35 <;> first | (intro _; rfl) | (intro h; exact absurd h (by decide))) (by cases b31 <;> cases b35 <;> first | (intro h; exact absurd h (by decide)) | (intro _; exact ⟨_, rfl, by first | (intro h; cases h; done) | decide | simp⟩)) (fun h => by
      cases b31 with
      | true => exact absurd h (by first | decide | simp)
      | false =>
        cases b35 with
        | false => exact absurd h (by first | decide | simp)
        | true =>
          refine n_fieldAddr rfl fd157_4 ti22 rfl nrSbA0 rfl nrSbA0 ?_
          exact AOps.nil ⟨rfl, rfl, rfl⟩) ?_
  refine n_soft (u := 35) (E := bif (!b31) then .val (.bool b35) else .val undef) (!b31 && b35) rfl rfl rfl nrSbA0 (by cases b31 <;> cases b35 <;> first | (intro _; rfl) | (intro h; exact absurd h (by decide))) (by cases b31 <;> cases b35 <;> first | (intro h; exact absurd h (by decide)) | (intro _; exact ⟨_, rfl, by first | (intro h; cases h; done) | decide | simp⟩)) (fun h => by
      cases b31 with
      | true => exact absurd h (by first | decide | simp)
      | false =>
        cases b35 with
        | false => exact absurd h (by first | decide | simp)
        | true =>
          refine n_load rfl ti22 nrSbA0 nrSbA0 rfl nrSbA0 ?_
          exact AOps.nil ⟨rfl, rfl, rfl⟩) ?_
  refine n_soft (u := 35) (E := bif (!b31) then .val (.bool b35) else .val undef) (!b31 && b35) rfl rfl rfl nrSbA0 (by cases b31 <;> cases b35 <;> first | (intro _; rfl) | (intro h; exact absurd h (by decide))) (by cases b31 <;> cases b35 <;> first | (intro h; exact absurd h (by decide)) | (intro _; exact ⟨_, rfl, by first | (intro h; cases h; done) | decide | simp⟩)) (fun h => by
      cases b31 with
      | true => exact absurd h (by first | decide | simp)
      | false =>
        cases b35 with
        | false => exact absurd h (by first | decide | simp)
        | true =>
          refine n_len rfl Try.underlying22 nrSbA0 (by first | rw [ints_length] | rw [List.length_map] | rfl) ?_
          exact AOps.nil ⟨rfl, rfl, rfl⟩) ?_
  refine n_soft (u := 35) (E := bif (!b31) then .val (.bool b35) else .val undef) (!b31 && b35) rfl rfl rfl nrSbA0 (by cases b31 <;> cases b35 <;> first | (intro _; rfl) | (intro h; exact absurd h (by decide))) (by cases b31 <;> cases b35 <;> first | (intro h; exact absurd h (by decide)) | (intro _; exact ⟨_, rfl, by first | (intro h; cases h; done) | decide | simp⟩)) (fun h => by
      cases b31 with
      | true => exact absurd h (by first | decide | simp)
      | false =>
        cases b35 with
        | false => exact absurd h (by first | decide | simp)
        | true =>
          refine n_ibin rfl nrSbA0 nrSbA0 rfl ?_
          exact AOps.nil ⟨rfl, rfl, rfl⟩) ?_
  refine n_soft (u := 31) (E := .val (.bool b31)) (!b31) rfl rfl rfl nrSbA0 (by cases b31 <;> first | (intro _; rfl) | (intro h; exact absurd h (by decide))) (by cases b31 <;> first | (intro h; exact absurd h (by decide)) | (intro _; exact ⟨_, rfl, by first | (intro h; cases h; done) | decide | simp⟩)) (fun h => by
      cases b31 with
      | true => exact absurd h (by first | decide | simp)
      | false =>
        refine n_pick_and rfl nrSbA0 (fun h => by cases b35 with | false => exact absurd h (by decide) | true => exact nrSbA0) ?_
        exact AOps.nil ⟨rfl, rfl, rfl⟩) ?_
  refine n_pick_or rfl nrSbA0 (fun h => by cases b31 with | true => exact absurd h (by decide) | false => exact nrSbA0) ?_
  subst hb7
  subst hb13
  subst hb19
  subst hb25
  subst hb31
  subst hb35
  refine AOps.nil ?_
  refine AWP.cond nrSbA0 (fun hc1 => ?_) (fun hc1 => ?_)
  · try simp only [nh] at hc1
    have hz : x.chk = 1 := by unfold Pq.chk; rw [if_neg]; intro hm; have p1 := posN_iff.2 hm.1; have p2 := numN_iff.2 hm.2.1; have p3 := numN_iff.2 hm.2.2.1; have p4 := numN_iff.2 hm.2.2.2.1; simp [p1, p2, p3, p4] at hc1; have h5 := hm.2.2.2.2.1; have h6 := hm.2.2.2.2.2; first | omega | grind
    refine AWP.seq ?_
    refine AWP.region ?_
    refine n_assign rfl nrSbA0 ?_
    refine AOps.nil ?_
    refine AWP.ret ?_
    refine fin_pure (.cons (rv_tmp nrSbA0) .nil) nrSbA0 ?_
    rw [hz]; exact ren_flat rfl rfl
  · try simp only [nh] at hc1
    have hz : x.chk = 0 := by unfold Pq.chk; rw [if_pos]; unfold Pq.may; simp [posN, numN] at hc1; refine ⟨by omega, by omega, by omega, by omega, by omega, ?_⟩; rintro ⟨h8, h9⟩; have h7 := hc1.2; simp [h8] at h7; simp [h7] at h9
    refine AWP.skip ?_
    refine AWP.seq ?_
    refine AWP.region ?_
    refine n_assign rfl nrSbA0 ?_
    refine AOps.nil ?_
    refine AWP.ret ?_
    refine fin_pure (.cons (rv_tmp nrSbA0) .nil) nrSbA0 ?_
    rw [hz]; exact ren_flat rfl rfl

theorem if0 : Does Try.prog 285 [.sl none [] .ro, (.fn (.func 273) [] [])] [] (vi (-1)) [] := by
  refine Does.of_body (rvs := [.tmp 4]) Try.func285 rfl rfl rfl rfl ?_
  refine AWP.seq ?_
  refine AWP.region ?_
  refine n_assign rfl nrSbA0 ?_
  refine AOps.nil ?_
  refine AWP.seq ?_
  refine AWP.seq ?_
  refine AWP.region ?_
  refine n_move rfl nrSbA0 ?_
  refine n_len rfl Try.underlying139 nrSbA0 (by first | rw [ints_length] | rw [List.length_map] | rfl) ?_
  refine n_move rfl nrSbA0 ?_
  refine AOps.nil ?_
  refine AWP.block ?_
  refine AWP.loop (α := Nat) (fun i => i = 0) (fun i => put (put empty 7 (vi 0)) 8 (vi (i : Int))) (fun _ => []) (fun i => i) 0 ?_ ?_ ?_ ?_
  · rfl
  · (repeat (first | exact FLe.empty _ | refine FLe.put ?_ ?_)) <;> first | (simp only [nf, Nat.beq]; done) | rfl | ((try simp only [nf, Nat.beq]); first | rfl | (simp only [List.length_map]; done) | (congr 2; omega; done))
  · rfl
  · rintro i rfl
    refine AWP.seq ?_
    refine AWP.region ?_
    refine n_ibin rfl nrSbA0 nrSbA0 rfl ?_
    refine AOps.nil ?_
    refine AWP.seq ?_
    refine AWP.cond nrSbA0 (fun hc1 => ?_) (fun hc1 => ?_)
    · try simp only [nh] at hc1
      exfalso
      simp at hc1
    · try simp only [nh] at hc1
      refine AWP.exit ?_
      refine AWP.seq ?_
      refine AWP.region ?_
      refine n_assign rfl nrSbA0 ?_
      refine AOps.nil ?_
      refine AWP.ret ?_
      refine fin_pure (.cons (rv_tmp nrSbA0) .nil) nrSbA0 ?_
      exact ren_flat rfl rfl

theorem cf0 : Does Try.prog 272 [.sl none [] .ro, (.fn (.func 273) [] [])] [] (vb false) [] := by
  refine Does.of_body (rvs := [.tmp 4]) Try.func272 rfl rfl rfl rfl ?_
  refine AWP.seq ?_
  refine AWP.region ?_
  refine n_assign rfl nrSbA0 ?_
  refine AOps.nil ?_
  refine AWP.seq ?_
  refine AWP.region ?_
  refine n_move rfl nrSbA0 ?_
  refine n_move rfl nrSbA0 ?_
  refine n_call0B rfl cf285 rfl (Eq.trans (by simp only [nl] <;> rfl) nrSbA0) (by repeat (first | exact .nil | refine .cons ?_ ?_ | exact ren_ints | exact .lf (.val _) | exact .lf (lf_ints (.inl rfl)) | exact .bp ⟨rfl, rfl⟩ | exact .bp (.inl ⟨rfl, rfl⟩) | exact .bp (.inr ⟨rfl, rfl⟩) | exact ren_bys0 rfl | exact .lf (D.flat_lf rfl) | exact ren_lits rfl | exact .lf (lf_ssz _) | exact .lf (lf_pqz _) | exact ren_q0 rfl | exact ren_pq rfl | exact ren_nl0 | exact ren_sq | exact .lf (.fn (fun d h => by cases h) (fun d h => by cases h)))) (if0) lfSbA0 ?_
  refine n_ibin rfl nrSbA0 nrSbA0 rfl ?_
  refine n_assign rfl nrSbA0 ?_
  refine AOps.nil ?_
  refine AWP.ret ?_
  refine fin_pure (.cons (rv_tmp nrSbA0) .nil) nrSbA0 ?_
  exact ren_flat rfl rfl

theorem l_chk (x : Ss) : Does Try.prog 213 [.agg (ssz x)] [] (vi x.chk) [] := by
  refine Does.of_body (rvs := [.tmp 2]) Try.func213 rfl rfl rfl rfl ?_
  refine AWP.seq ?_
  refine AWP.region ?_
  refine n_box rfl nrSbA0 rfl rfl nrSbA0 nrSbA0 ?_
  refine n_assign rfl nrSbA0 ?_
  refine AOps.nil ?_
  refine AWP.seq ?_
  refine AWP.seq ?_
  refine AWP.region ?_
  refine n_fieldAddr rfl fd141_0 ti2 rfl nrSbA0 rfl nrSbA0 ?_
  refine n_load rfl ti2 nrSbA0 nrSbA0 rfl nrSbA0 ?_
  refine n_call0B rfl cf215 rfl (Eq.trans (by simp only [nl] <;> rfl) nrSbA0) (by repeat (first | exact .nil | refine .cons ?_ ?_ | exact ren_ints | exact .lf (.val _) | exact .lf (lf_ints (.inl rfl)) | exact .bp ⟨rfl, rfl⟩ | exact .bp (.inl ⟨rfl, rfl⟩) | exact .bp (.inr ⟨rfl, rfl⟩) | exact ren_bys0 rfl | exact .lf (D.flat_lf rfl) | exact ren_lits rfl | exact .lf (lf_ssz _) | exact .lf (lf_pqz _) | exact ren_q0 rfl | exact ren_pq rfl | exact ren_nl0 | exact ren_sq | exact .lf (.fn (fun d h => by cases h) (fun d h => by cases h)))) (l_pos _) lfSbA0 ?_
  refine n_not rfl nrSbA0 rfl ?_
  refine n_move rfl nrSbA0 ?_
  refine AOps.name (u := 7) (fun z => .val (.bool z)) nrSbA0 (fun b7 hb7 => ?_)
  refine n_soft (u := 7) (E := .val (.bool b7)) (!b7) rfl rfl rfl nrSbA0 (by cases b7 <;> first | (intro _; rfl) | (intro h; exact absurd h (by decide))) (by cases b7 <;> first | (intro h; exact absurd h (by decide)) | (intro _; exact ⟨_, rfl, by first | (intro h; cases h; done) | decide | simp⟩)) (fun h => by
      cases b7 with
      | true => exact absurd h (by first | decide | simp)
      | false =>
        refine n_fieldAddr rfl fd141_1 ti2 rfl nrSbA0 rfl nrSbA0 ?_
        exact AOps.nil ⟨rfl, rfl, rfl⟩) ?_
  refine n_soft (u := 7) (E := .val (.bool b7)) (!b7) rfl rfl rfl nrSbA0 (by cases b7 <;> first | (intro _; rfl) | (intro h; exact absurd h (by decide))) (by cases b7 <;> first | (intro h; exact absurd h (by decide)) | (intro _; exact ⟨_, rfl, by first | (intro h; cases h; done) | decide | simp⟩)) (fun h => by
      cases b7 with
      | true => exact absurd h (by first | decide | simp)
      | false =>
        refine n_load rfl ti2 nrSbA0 nrSbA0 rfl nrSbA0 ?_
        exact AOps.nil ⟨rfl, rfl, rfl⟩) ?_
  refine n_soft (u := 7) (E := .val (.bool b7)) (!b7) rfl rfl rfl nrSbA0 (by cases b7 <;> first | (intro _; rfl) | (intro h; exact absurd h (by decide))) (by cases b7 <;> first | (intro h; exact absurd h (by decide)) | (intro _; exact ⟨_, rfl, by first | (intro h; cases h; done) | decide | simp⟩)) (fun h => by
      cases b7 with
      | true => exact absurd h (by first | decide | simp)
      | false =>
        refine n_call0B rfl cf241 rfl (Eq.trans (by simp only [nl] <;> rfl) nrSbA0) (by repeat (first | exact .nil | refine .cons ?_ ?_ | exact ren_ints | exact .lf (.val _) | exact .lf (lf_ints (.inl rfl)) | exact .bp ⟨rfl, rfl⟩ | exact .bp (.inl ⟨rfl, rfl⟩) | exact .bp (.inr ⟨rfl, rfl⟩) | exact ren_bys0 rfl | exact .lf (D.flat_lf rfl) | exact ren_lits rfl | exact .lf (lf_ssz _) | exact .lf (lf_pqz _) | exact ren_q0 rfl | exact ren_pq rfl | exact ren_nl0 | exact ren_sq | exact .lf (.fn (fun d h => by cases h) (fun d h => by cases h)))) (l_num _) lfSbA0 ?_
        exact AOps.nil ⟨rfl, rfl, rfl⟩) ?_
  refine n_soft (u := 7) (E := .val (.bool b7)) (!b7) rfl rfl rfl nrSbA0 (by cases b7 <;> first | (intro _; rfl) | (intro h; exact absurd h (by decide))) (by cases b7 <;> first | (intro h; exact absurd h (by decide)) | (intro _; exact ⟨_, rfl, by first | (intro h; cases h; done) | decide | simp⟩)) (fun h => by
      cases b7 with
      | true => exact absurd h (by first | decide | simp)
      | false =>
        refine n_not rfl nrSbA0 rfl ?_
        exact AOps.nil ⟨rfl, rfl, rfl⟩) ?_
  refine n_pick_or rfl nrSbA0 (fun h => by cases b7 with | true => exact absurd h (by decide) | false => exact nrSbA0) ?_
  refine n_move rfl nrSbA0 ?_
  refine AOps.name (u := 13) (fun z => .val (.bool z)) nrSbA0 (fun b13 hb13 => ?_)
  refine n_soft (u := 13) (E := .val (.bool b13)) (!b13) rfl rfl rfl nrSbA0 (by cases b13 <;> first | (intro _; rfl) | (intro h; exact absurd h (by decide))) (by cases b13 <;> first | (intro h; exact absurd h (by decide)) | (intro _; exact ⟨_, rfl, by first | (intro h; cases h; done) | decide | simp⟩)) (fun h => by
      cases b13 with
      | true => exact absurd h (by first | decide | simp)
      | false =>
        refine n_fieldAddr rfl fd141_2 ti2 rfl nrSbA0 rfl nrSbA0 ?_
        exact AOps.nil ⟨rfl, rfl, rfl⟩) ?_
  refine n_soft (u := 13) (E := .val (.bool b13)) (!b13) rfl rfl rfl nrSbA0 (by cases b13 <;> first | (intro _; rfl) | (intro h; exact absurd h (by decide))) (by cases b13 <;> first | (intro h; exact absurd h (by decide)) | (intro _; exact ⟨_, rfl, by first | (intro h; cases h; done) | decide | simp⟩)) (fun h => by
      cases b13 with
      | true => exact absurd h (by first | decide | simp)
      | false =>
        refine n_load rfl ti2 nrSbA0 nrSbA0 rfl nrSbA0 ?_
        exact AOps.nil ⟨rfl, rfl, rfl⟩) ?_
  refine n_soft (u := 13) (E := .val (.bool b13)) (!b13) rfl rfl rfl nrSbA0 (by cases b13 <;> first | (intro _; rfl) | (intro h; exact absurd h (by decide))) (by cases b13 <;> first | (intro h; exact absurd h (by decide)) | (intro _; exact ⟨_, rfl, by first | (intro h; cases h; done) | decide | simp⟩)) (fun h => by
      cases b13 with
      | true => exact absurd h (by first | decide | simp)
      | false =>
        refine n_call0B rfl cf241 rfl (Eq.trans (by simp only [nl] <;> rfl) nrSbA0) (by repeat (first | exact .nil | refine .cons ?_ ?_ | exact ren_ints | exact .lf (.val _) | exact .lf (lf_ints (.inl rfl)) | exact .bp ⟨rfl, rfl⟩ | exact .bp (.inl ⟨rfl, rfl⟩) | exact .bp (.inr ⟨rfl, rfl⟩) | exact ren_bys0 rfl | exact .lf (D.flat_lf rfl) | exact ren_lits rfl | exact .lf (lf_ssz _) | exact .lf (lf_pqz _) | exact ren_q0 rfl | exact ren_pq rfl | exact ren_nl0 | exact ren_sq | exact .lf (.fn (fun d h => by cases h) (fun d h => by cases h)))) (l_num _) lfSbA0 ?_
        exact AOps.nil ⟨rfl, rfl, rfl⟩) ?_
  refine n_soft (u := 13) (E := .val (.bool b13)) (!b13) rfl rfl rfl nrSbA0 (by cases b13 <;> first | (intro _; rfl) | (intro h; exact absurd h (by decide))) (by cases b13 <;> first | (intro h; exact absurd h (by decide)) | (intro _; exact ⟨_, rfl, by first | (intro h; cases h; done) | decide | simp⟩)) (fun h => by
      cases b13 with
      | true => exact absurd h (by first | decide | simp)
      | false =>
        refine n_not rfl nrSbA0 rfl ?_
        exact AOps.nil ⟨rfl, rfl, rfl⟩) ?_
  refine n_pick_or rfl nrSbA0 (fun h => by cases b13 with | true => exact absurd h (by decide) | false => exact nrSbA0) ?_
  refine n_move rfl nrSbA0 ?_
  refine AOps.name (u := 19) (fun z => .val (.bool z)) nrSbA0 (fun b19 hb19 => ?_)
  refine n_soft (u := 19) (E := .val (.bool b19)) (!b19) rfl rfl rfl nrSbA0 (by cases b19 <;> first | (intro _; rfl) | (intro h; exact absurd h (by decide))) (by cases b19 <;> first | (intro h; exact absurd h (by decide)) | (intro _; exact ⟨_, rfl, by first | (intro h; cases h; done) | decide | simp⟩)) (fun h => by
      cases b19 with
      | true => exact absurd h (by first | decide | simp)
      | false =>
        refine n_fieldAddr rfl fd141_3 ti2 rfl nrSbA0 rfl nrSbA0 ?_
        exact AOps.nil ⟨rfl, rfl, rfl⟩) ?_
  refine n_soft (u := 19) (E := .val (.bool b19)) (!b19) rfl rfl rfl nrSbA0 (by cases b19 <;> first | (intro _; rfl) | (intro h; exact absurd h (by decide))) (by cases b19 <;> first | (intro h; exact absurd h (by decide)) | (intro _; exact ⟨_, rfl, by first | (intro h; cases h; done) | decide | simp⟩)) (fun h => by
      cases b19 with
      | true => exact absurd h (by first | decide | simp)
      | false =>
        refine n_load rfl ti2 nrSbA0 nrSbA0 rfl nrSbA0 ?_
        exact AOps.nil ⟨rfl, rfl, rfl⟩) ?_
  refine n_soft (u := 19) (E := .val (.bool b19)) (!b19) rfl rfl rfl nrSbA0 (by cases b19 <;> first | (intro _; rfl) | (intro h; exact absurd h (by decide))) (by cases b19 <;> first | (intro h; exact absurd h (by decide)) | (intro _; exact ⟨_, rfl, by first | (intro h; cases h; done) | decide | simp⟩)) (fun h => by
      cases b19 with
      | true => exact absurd h (by first | decide | simp)
      | false =>
        refine n_call0B rfl cf241 rfl (Eq.trans (by simp only [nl] <;> rfl) nrSbA0) (by repeat (first | exact .nil | refine .cons ?_ ?_ | exact ren_ints | exact .lf (.val _) | exact .lf (lf_ints (.inl rfl)) | exact .bp ⟨rfl, rfl⟩ | exact .bp (.inl ⟨rfl, rfl⟩) | exact .bp (.inr ⟨rfl, rfl⟩) | exact ren_bys0 rfl | exact .lf (D.flat_lf rfl) | exact ren_lits rfl | exact .lf (lf_ssz _) | exact .lf (lf_pqz _) | exact ren_q0 rfl | exact ren_pq rfl | exact ren_nl0 | exact ren_sq | exact .lf (.fn (fun d h => by cases h) (fun d h => by cases h)))) (l_num _) lfSbA0 ?_
        exact AOps.nil ⟨rfl, rfl, rfl⟩) ?_
  refine n_soft (u := 19) (E := .val (.bool b19)) (!b19) rfl rfl rfl nrSbA0 (by cases b19 <;> first | (intro _; rfl) | (intro h; exact absurd h (by decide))) (by cases b19 <;> first | (intro h; exact absurd h (by decide)) | (intro _; exact ⟨_, rfl, by first | (intro h; cases h; done) | decide | simp⟩)) (fun h => by
      cases b19 with
      | true => exact absurd h (by first | decide | simp)
      | false =>
        refine n_not rfl nrSbA0 rfl ?_
        exact AOps.nil ⟨rfl, rfl, rfl⟩) ?_
  refine n_pick_or rfl nrSbA0 (fun h => by cases b19 with | true => exact absurd h (by decide) | false => exact nrSbA0) ?_
  refine n_move rfl nrSbA0 ?_
  refine AOps.name (u := 25) (fun z => .val (.bool z)) nrSbA0 (fun b25 hb25 => ?_)
  refine n_soft (u := 25) (E := .val (.bool b25)) (!b25) rfl rfl rfl nrSbA0 (by cases b25 <;> first | (intro _; rfl) | (intro h; exact absurd h (by decide))) (by cases b25 <;> first | (intro h; exact absurd h (by decide)) | (intro _; exact ⟨_, rfl, by first | (intro h; cases h; done) | decide | simp⟩)) (fun h => by
      cases b25 with
      | true => exact absurd h (by first | decide | simp)
      | false =>
        refine n_fieldAddr rfl fd141_4 ti2 rfl nrSbA0 rfl nrSbA0 ?_
        exact AOps.nil ⟨rfl, rfl, rfl⟩) ?_
  refine n_soft (u := 25) (E := .val (.bool b25)) (!b25) rfl rfl rfl nrSbA0 (by cases b25 <;> first | (intro _; rfl) | (intro h; exact absurd h (by decide))) (by cases b25 <;> first | (intro h; exact absurd h (by decide)) | (intro _; exact ⟨_, rfl, by first | (intro h; cases h; done) | decide | simp⟩)) (fun h => by
      cases b25 with
      | true => exact absurd h (by first | decide | simp)
      | false =>
        refine n_load rfl ti2 nrSbA0 nrSbA0 rfl nrSbA0 ?_
        exact AOps.nil ⟨rfl, rfl, rfl⟩) ?_
  refine n_soft (u := 25) (E := .val (.bool b25)) (!b25) rfl rfl rfl nrSbA0 (by cases b25 <;> first | (intro _; rfl) | (intro h; exact absurd h (by decide))) (by cases b25 <;> first | (intro h; exact absurd h (by decide)) | (intro _; exact ⟨_, rfl, by first | (intro h; cases h; done) | decide | simp⟩)) (fun h => by
      cases b25 with
      | true => exact absurd h (by first | decide | simp)
      | false =>
        refine n_call0B rfl cf215 rfl (Eq.trans (by simp only [nl] <;> rfl) nrSbA0) (by repeat (first | exact .nil | refine .cons ?_ ?_ | exact ren_ints | exact .lf (.val _) | exact .lf (lf_ints (.inl rfl)) | exact .bp ⟨rfl, rfl⟩ | exact .bp (.inl ⟨rfl, rfl⟩) | exact .bp (.inr ⟨rfl, rfl⟩) | exact ren_bys0 rfl | exact .lf (D.flat_lf rfl) | exact ren_lits rfl | exact .lf (lf_ssz _) | exact .lf (lf_pqz _) | exact ren_q0 rfl | exact ren_pq rfl | exact ren_nl0 | exact ren_sq | exact .lf (.fn (fun d h => by cases h) (fun d h => by cases h)))) (l_pos _) lfSbA0 ?_
        exact AOps.nil ⟨rfl, rfl, rfl⟩) ?_
  refine n_soft (u := 25) (E := .val (.bool b25)) (!b25) rfl rfl rfl nrSbA0 (by cases b25 <;> first | (intro _; rfl) | (intro h; exact absurd h (by decide))) (by cases b25 <;> first | (intro h; exact absurd h (by decide)) | (intro _; exact ⟨_, rfl, by first | (intro h; cases h; done) | decide | simp⟩)) (fun h => by
      cases b25 with
      | true => exact absurd h (by first | decide | simp)
      | false =>
        refine n_not rfl nrSbA0 rfl ?_
        exact AOps.nil ⟨rfl, rfl, rfl⟩) ?_
  refine n_pick_or rfl nrSbA0 (fun h => by cases b25 with | true => exact absurd h (by decide) | false => exact nrSbA0) ?_
  refine n_move rfl nrSbA0 ?_
  refine AOps.split (u := 31) nrSbA0 (fun hg1 => ?_) (fun hg1 => ?_)
  · try simp only [nh] at hg1
    have hnm : ¬ x.may := by intro hm; have p1 := posN_iff.2 hm.1; have p2 := numN_iff.2 hm.2.1; have p3 := numN_iff.2 hm.2.2.1; have p4 := numN_iff.2 hm.2.2.2.1; have p5 := posN_iff.2 hm.2.2.2.2.1; subst_vars; simp [p1, p2, p3, p4, p5] at hg1
    refine n_guard_no rfl rfl rfl nrSbA0 rfl ?_
    refine n_guard_no rfl rfl rfl nrSbA0 rfl ?_
    refine n_guard_no rfl rfl rfl nrSbA0 rfl ?_
    refine n_guard_no rfl rfl rfl nrSbA0 rfl ?_
    refine n_guard_no rfl rfl rfl nrSbA0 rfl ?_
    refine n_guard_no rfl rfl rfl nrSbA0 rfl ?_
    refine n_guard_no rfl rfl rfl nrSbA0 rfl ?_
    refine n_guard_no rfl rfl rfl nrSbA0 rfl ?_
    refine n_guard_no rfl rfl rfl nrSbA0 rfl ?_
    refine n_pick rfl nrSbA0 nrSbA0 ?_
    refine n_move rfl nrSbA0 ?_
    refine n_guard_no rfl rfl rfl nrSbA0 rfl ?_
    refine n_guard_no rfl rfl rfl nrSbA0 rfl ?_
    refine n_guard_no rfl rfl rfl nrSbA0 rfl ?_
    refine n_guard_no rfl rfl rfl nrSbA0 rfl ?_
    refine n_pick rfl nrSbA0 nrSbA0 ?_
    subst hb7
    subst hb13
    subst hb19
    subst hb25
    refine AOps.nil ?_
    refine AWP.cond nrSbA0 (fun hc2 => ?_) (fun hc2 => ?_)
    · try simp only [nh] at hc2
      have hz : x.chk = 1 := by unfold Ss.chk; rw [if_neg]; first | exact hnm | (intro hm; have h6 := hm.2.2.2.2.2; simp at hc2; omega)
      refine AWP.seq ?_
      refine AWP.region ?_
      refine n_assign rfl nrSbA0 ?_
      refine AOps.nil ?_
      refine AWP.ret ?_
      refine fin_pure (.cons (rv_tmp nrSbA0) .nil) nrSbA0 ?_
      rw [hz]; exact ren_flat rfl rfl
    · try simp only [nh] at hc2
      have hz : x.chk = 0 := by unfold Ss.chk; rw [if_pos]; first | (exfalso; simp at hc2; done) | exact ⟨hgm.1, hgm.2.1, hgm.2.2.1, hgm.2.2.2.1, hgm.2.2.2.2, by simp at hc2; omega⟩
      refine AWP.skip ?_
      refine AWP.seq ?_
      refine AWP.seq ?_
      refine AWP.region ?_
      refine n_fieldAddr rfl fd141_5 ti139 rfl nrSbA0 rfl nrSbA0 ?_
      refine n_load rfl ti139 nrSbA0 nrSbA0 rfl nrSbA0 ?_
      refine n_call0B rfl cf272 rfl (Eq.trans (by simp only [nl] <;> rfl) nrSbA0) (by repeat (first | exact .nil | refine .cons ?_ ?_ | exact ren_ints | exact .lf (.val _) | exact .lf (lf_ints (.inl rfl)) | exact .bp ⟨rfl, rfl⟩ | exact .bp (.inl ⟨rfl, rfl⟩) | exact .bp (.inr ⟨rfl, rfl⟩) | exact ren_bys0 rfl | exact .lf (D.flat_lf rfl) | exact ren_lits rfl | exact .lf (lf_ssz _) | exact .lf (lf_pqz _) | exact ren_q0 rfl | exact ren_pq rfl | exact ren_nl0 | exact ren_sq | exact .lf (.fn (fun d h => by cases h) (fun d h => by cases h)))) (cf0) lfSbA0 ?_
      refine AOps.nil ?_
      refine AWP.cond_false nrSbA0 ?_
      refine AWP.skip ?_
      refine AWP.seq ?_
      refine AWP.region ?_
      refine n_assign rfl nrSbA0 ?_
      refine AOps.nil ?_
      refine AWP.ret ?_
      refine fin_pure (.cons (rv_tmp nrSbA0) .nil) nrSbA0 ?_
      rw [hz]; exact ren_flat rfl rfl
  · try simp only [nh] at hg1
    have hgm : (1 ≤ x.b ∧ x.b ≤ 9007199254740992) ∧ (0 ≤ x.p ∧ x.p ≤ 9007199254740992) ∧ (0 ≤ x.s ∧ x.s ≤ 9007199254740992) ∧ (0 ≤ x.a ∧ x.a ≤ 9007199254740992) ∧ (1 ≤ x.e ∧ x.e ≤ 9007199254740992) := by subst_vars; simp [posN, numN] at hg1; omega
    refine n_guard_yes rfl rfl rfl nrSbA0 rfl ?_
    refine n_fieldAddr rfl fd141_2 ti2 rfl nrSbA0 rfl nrSbA0 ?_
    refine n_guard_yes rfl rfl rfl nrSbA0 rfl ?_
    refine n_load rfl ti2 nrSbA0 nrSbA0 rfl nrSbA0 ?_
    refine n_guard_yes rfl rfl rfl nrSbA0 rfl ?_
    refine n_fieldAddr rfl fd141_3 ti2 rfl nrSbA0 rfl nrSbA0 ?_
    refine n_guard_yes rfl rfl rfl nrSbA0 rfl ?_
    refine n_load rfl ti2 nrSbA0 nrSbA0 rfl nrSbA0 ?_
    refine n_guard_yes rfl rfl rfl nrSbA0 rfl ?_
    first | refine n_isub rfl nrSbA0 nrSbA0 rfl (by omega) (by omega) ?_ | refine n_ibin rfl nrSbA0 nrSbA0 rfl ?_
    refine n_guard_yes rfl rfl rfl nrSbA0 rfl ?_
    refine n_fieldAddr rfl fd141_5 ti139 rfl nrSbA0 rfl nrSbA0 ?_
    refine n_guard_yes rfl rfl rfl nrSbA0 rfl ?_
    refine n_load rfl ti139 nrSbA0 nrSbA0 rfl nrSbA0 ?_
    refine n_guard_yes rfl rfl rfl nrSbA0 rfl ?_
    refine n_len rfl Try.underlying139 nrSbA0 (by first | rw [ints_length] | rw [List.length_map] | rfl) ?_
    refine n_guard_yes rfl rfl rfl nrSbA0 rfl ?_
    refine n_ibin rfl nrSbA0 nrSbA0 rfl ?_
    refine n_pick rfl nrSbA0 nrSbA0 ?_
    refine n_move rfl nrSbA0 ?_
    refine AOps.name (u := 42) (fun z => .val (.bool z)) nrSbA0 (fun b42 hb42 => ?_)
    refine n_soft (u := 42) (E := .val (.bool b42)) (!b42) rfl rfl rfl nrSbA0 (by cases b42 <;> first | (intro _; rfl) | (intro h; exact absurd h (by decide))) (by cases b42 <;> first | (intro h; exact absurd h (by decide)) | (intro _; exact ⟨_, rfl, by first | (intro h; cases h; done) | decide | simp⟩)) (fun h => by
        cases b42 with
        | true => exact absurd h (by first | decide | simp)
        | false =>
          refine n_fieldAddr rfl fd141_5 ti139 rfl nrSbA0 rfl nrSbA0 ?_
          exact AOps.nil ⟨rfl, rfl, rfl⟩) ?_
    refine n_soft (u := 42) (E := .val (.bool b42)) (!b42) rfl rfl rfl nrSbA0 (by cases b42 <;> first | (intro _; rfl) | (intro h; exact absurd h (by decide))) (by cases b42 <;> first | (intro h; exact absurd h (by decide)) | (intro _; exact ⟨_, rfl, by first | (intro h; cases h; done) | decide | simp⟩)) (fun h => by
        cases b42 with
        | true => exact absurd h (by first | decide | simp)
        | false =>
          refine n_load rfl ti139 nrSbA0 nrSbA0 rfl nrSbA0 ?_
          exact AOps.nil ⟨rfl, rfl, rfl⟩) ?_
    refine n_soft (u := 42) (E := .val (.bool b42)) (!b42) rfl rfl rfl nrSbA0 (by cases b42 <;> first | (intro _; rfl) | (intro h; exact absurd h (by decide))) (by cases b42 <;> first | (intro h; exact absurd h (by decide)) | (intro _; exact ⟨_, rfl, by first | (intro h; cases h; done) | decide | simp⟩)) (fun h => by
        cases b42 with
        | true => exact absurd h (by first | decide | simp)
        | false =>
          refine n_len rfl Try.underlying139 nrSbA0 (by first | rw [ints_length] | rw [List.length_map] | rfl) ?_
          exact AOps.nil ⟨rfl, rfl, rfl⟩) ?_
    refine n_soft (u := 42) (E := .val (.bool b42)) (!b42) rfl rfl rfl nrSbA0 (by cases b42 <;> first | (intro _; rfl) | (intro h; exact absurd h (by decide))) (by cases b42 <;> first | (intro h; exact absurd h (by decide)) | (intro _; exact ⟨_, rfl, by first | (intro h; cases h; done) | decide | simp⟩)) (fun h => by
        cases b42 with
        | true => exact absurd h (by first | decide | simp)
        | false =>
          refine n_ibin rfl nrSbA0 nrSbA0 rfl ?_
          exact AOps.nil ⟨rfl, rfl, rfl⟩) ?_
    refine n_pick_or rfl nrSbA0 (fun h => by cases b42 with | true => exact absurd h (by decide) | false => exact nrSbA0) ?_
    subst hb7
    subst hb13
    subst hb19
    subst hb25
    subst hb42
    refine AOps.nil ?_
    refine AWP.cond nrSbA0 (fun hc4 => ?_) (fun hc4 => ?_)
    · try simp only [nh] at hc4
      have hz : x.chk = 1 := by unfold Ss.chk; rw [if_neg]; first | exact hnm | (intro hm; have h6 := hm.2.2.2.2.2; simp at hc4; omega)
      refine AWP.seq ?_
      refine AWP.region ?_
      refine n_assign rfl nrSbA0 ?_
      refine AOps.nil ?_
      refine AWP.ret ?_
      refine fin_pure (.cons (rv_tmp nrSbA0) .nil) nrSbA0 ?_
      rw [hz]; exact ren_flat rfl rfl
    · try simp only [nh] at hc4
      have hz : x.chk = 0 := by unfold Ss.chk; rw [if_pos]; first | (exfalso; simp at hc4; done) | exact ⟨hgm.1, hgm.2.1, hgm.2.2.1, hgm.2.2.2.1, hgm.2.2.2.2, by simp at hc4; omega⟩
      refine AWP.skip ?_
      refine AWP.seq ?_
      refine AWP.seq ?_
      refine AWP.region ?_
      refine n_fieldAddr rfl fd141_5 ti139 rfl nrSbA0 rfl nrSbA0 ?_
      refine n_load rfl ti139 nrSbA0 nrSbA0 rfl nrSbA0 ?_
      refine n_call0B rfl cf272 rfl (Eq.trans (by simp only [nl] <;> rfl) nrSbA0) (by repeat (first | exact .nil | refine .cons ?_ ?_ | exact ren_ints | exact .lf (.val _) | exact .lf (lf_ints (.inl rfl)) | exact .bp ⟨rfl, rfl⟩ | exact .bp (.inl ⟨rfl, rfl⟩) | exact .bp (.inr ⟨rfl, rfl⟩) | exact ren_bys0 rfl | exact .lf (D.flat_lf rfl) | exact ren_lits rfl | exact .lf (lf_ssz _) | exact .lf (lf_pqz _) | exact ren_q0 rfl | exact ren_pq rfl | exact ren_nl0 | exact ren_sq | exact .lf (.fn (fun d h => by cases h) (fun d h => by cases h)))) (cf0) lfSbA0 ?_
      refine AOps.nil ?_
      refine AWP.cond_false nrSbA0 ?_
      refine AWP.skip ?_
      refine AWP.seq ?_
      refine AWP.region ?_
      refine n_assign rfl nrSbA0 ?_
      refine AOps.nil ?_
      refine AWP.ret ?_
      refine fin_pure (.cons (rv_tmp nrSbA0) .nil) nrSbA0 ?_
      rw [hz]; exact ren_flat rfl rfl

theorem q_clone : Does Try.prog 270 [.sl none [] .ro] [] (.sl none [] (.own 0)) [.row 0 1] := by
  refine Does.of_body (rvs := [.tmp 2]) Try.func270 rfl rfl rfl rfl ?_
  refine AWP.seq ?_
  refine AWP.region ?_
  refine n_assign rfl nrSbA0 ?_
  refine AOps.nil ?_
  refine AWP.seq ?_
  refine AWP.seq ?_
  refine AWP.region ?_
  refine n_move rfl nrSbA0 ?_
  refine n_eqnil rfl Try.underlying139 nrSbA0 (fun b1 hb1 he1 => ?_)
  refine AOps.nil ?_
  refine AWP.cond nrSbA0 (fun hc2 => ?_) (fun hc2 => ?_)
  · try simp only [nh] at hc2
    refine AWP.seq ?_
    refine AWP.region ?_
    refine n_assign rfl nrSbA0 ?_
    refine AOps.nil ?_
    refine AWP.adopt (t := 2) (n := 0) (m := 0) (sz := 1) (S' := [.row 0 1]) nrSbA0 rfl rfl rfl ?_
    refine AWP.ret ?_
    refine fin_own (.cons (rv_tmp nrSbA0) .nil) nrSbA0 rfl ?_ ?_ ?_
    · exact fun x h => by cases h
    · rfl
    · rfl
  · try simp only [nh] at hc2
    refine AWP.skip ?_
    refine AWP.seq ?_
    refine AWP.region ?_
    refine n_lit rfl Try.underlying139 ti22 zi22 rfl rfl (Eq.trans (by simp only [nl] <;> rfl) nrSbA0) rfl nrSbA0 ?_
    refine n_move rfl nrSbA0 ?_
    refine n_append_full rfl Try.underlying139 Try.underlying139 ei22 nrSbA0 nrSbA0 (by intro x hx; cases hx) (by intro x hx; cases hx) nrSbA0 rfl (by decide) rfl nrSbA0 ?_
    refine n_assign rfl nrSbA0 ?_
    refine AOps.nil ?_
    refine AWP.ret ?_
    refine fin_own (.cons (rv_tmp nrSbA0) .nil) nrSbA0 rfl ?_ ?_ ?_
    · exact fun x h => by cases h
    · rfl
    · rfl

theorem l_clone (x : Ss) : Does Try.prog 269 [.agg (ssz x)] [] (.agg [vi x.b, vi x.p, vi x.s, vi x.a, vi x.e, .sl none [] (.own 0)]) [.row 0 1] := by
  refine Does.of_body (rvs := [.cell 2 141]) Try.func269 rfl rfl rfl rfl ?_
  refine AWP.seq ?_
  refine AWP.region ?_
  refine n_box rfl nrSbA0 rfl rfl nrSbA0 nrSbA0 ?_
  refine n_alloc rfl zi141 rfl nrSbA0 nrSbA0 ?_
  refine AOps.nil ?_
  refine AWP.seq ?_
  refine AWP.region ?_
  refine n_fieldAddr rfl fd141_5 ti139 rfl nrSbA0 rfl nrSbA0 ?_
  refine n_load rfl ti139 nrSbA0 nrSbA0 rfl nrSbA0 ?_
  refine n_callRowR (r' := .sl none [] (.own 2)) rfl cf270 rfl (Eq.trans (by simp only [nl] <;> rfl) nrSbA0) (by repeat (first | exact .nil | refine .cons ?_ ?_ | exact ren_ints | exact .lf (.val _) | exact .lf (lf_ints (.inl rfl)) | exact .bp ⟨rfl, rfl⟩ | exact .bp (.inl ⟨rfl, rfl⟩) | exact .bp (.inr ⟨rfl, rfl⟩) | exact ren_bys0 rfl | exact .lf (D.flat_lf rfl) | exact ren_lits rfl | exact .lf (lf_ssz _) | exact .lf (lf_pqz _) | exact ren_q0 rfl | exact ren_pq rfl | exact ren_nl0 | exact ren_sq | exact .lf (.fn (fun d h => by cases h) (fun d h => by cases h)))) (q_clone) rfl (by exact .own (fun x h => by cases h) ⟨rfl, rfl⟩) nrSbA0 ?_
  refine n_fieldAddr rfl fd141_5 ti139 rfl nrSbA0 rfl nrSbA0 ?_
  refine n_store ti139 nrSbA0 rfl nrSbA0 rfl nrSbA0 rfl rfl rfl nrSbA0 ?_
  refine AOps.nil ?_
  refine AWP.seq ?_
  refine AWP.seq ?_
  refine AWP.region ?_
  refine n_fieldAddr rfl fd141_5 ti139 rfl nrSbA0 rfl nrSbA0 ?_
  refine n_load rfl ti139 nrSbA0 nrSbA0 rfl nrSbA0 ?_
  refine n_len rfl Try.underlying139 nrSbA0 (by first | rw [ints_length] | rw [List.length_map] | rfl) ?_
  refine n_move rfl nrSbA0 ?_
  refine AOps.nil ?_
  refine AWP.block ?_
  refine AWP.loop (α := Nat) (fun i => i = 0) (fun i => put (put (put (put empty 1 (.bp 0 0)) 2 (.bp 1 0)) 10 (vi 0)) 11 (vi (i : Int))) (fun _ => [.box [vi x.b, vi x.p, vi x.s, vi x.a, vi x.e, .sl none [] (.own 2)], .box [vi 0, vi 0, vi 0, vi 0, vi 0, .sl (some true) [] .full], .row 0 1]) (fun i => i) 0 ?_ ?_ ?_ ?_
  · rfl
  · (repeat (first | exact FLe.empty _ | refine FLe.put ?_ ?_)) <;> first | (simp only [nf, Nat.beq]; done) | rfl | ((try simp only [nf, Nat.beq]); first | rfl | (simp only [List.length_map]; done) | (congr 2; omega; done))
  · rfl
  · rintro i rfl
    refine AWP.seq ?_
    refine AWP.region ?_
    refine n_ibin rfl nrSbA0 nrSbA0 rfl ?_
    refine AOps.nil ?_
    refine AWP.seq ?_
    refine AWP.cond nrSbA0 (fun hc1 => ?_) (fun hc1 => ?_)
    · try simp only [nh] at hc1
      exfalso
      simp at hc1
    · try simp only [nh] at hc1
      refine AWP.exit ?_
      refine AWP.seq ?_
      refine AWP.region ?_
      refine n_load rfl ti141 nrSbA0 nrSbA0 rfl nrSbA0 ?_
      refine n_store ti141 nrSbA0 rfl nrSbA0 rfl nrSbA0 rfl rfl rfl nrSbA0 ?_
      refine AOps.nil ?_
      refine AWP.ret ?_
      refine fin_rowR (l := 2) (.cons (rv_cell ti141 nrSbA0 nrSbA0 rfl nrSbA0) .nil) nrSbA0 ?_ rfl rfl
      exact .agg rfl (RenAll.get (.cons (.lf (.val _)) (.cons (.lf (.val _)) (.cons (.lf (.val _)) (.cons (.lf (.val _)) (.cons (.lf (.val _)) (.cons (.own (fun x h => by cases h) ⟨rfl, rfl⟩) .nil)))))))

theorem l_packet (b p s a e : Int) (q : D) (hq : LF q) (n : Int) (l : List Int) (hl : L40 l) (he : 1 ≤ e ∧ e ≤ 9007199254740992) : Does Try.prog 214 [.agg [vi b, vi p, vi s, vi a, vi e, q], vi n, bys l] [] (.agg (pqz ⟨b, p, n, e - 1, l⟩)) [] := by
  refine Does.of_body (rvs := [.cell 6 157]) Try.func214 rfl rfl rfl rfl ?_
  refine AWP.seq ?_
  refine AWP.region ?_
  refine n_box rfl nrSbA0 rfl rfl nrSbA0 nrSbA0 ?_
  refine n_alloc rfl zi157 rfl nrSbA0 nrSbA0 ?_
  refine AOps.nil ?_
  refine AWP.seq ?_
  refine AWP.any1 11 [.box [vi b, vi p, vi s, vi a, vi e, q], .box [vi b, vi p, vi n, vi (e - 1), bys l]] (by kernel_rfl) (by kernel_rfl) (by kernel_rfl) ?_
  refine Walk.ahead [11] (by rfl) (by kernel_rfl) (by rfl) (rs := [3]) (by rfl) nrSbA0 (fun base => by
      refine n_fieldAddr rfl fd141_0 ti2 rfl nrSbA0 rfl nrSbA0 ?_
      exact AOps.nil ⟨rfl, rfl, rfl⟩) ?_
  refine Walk.ahead [11] (by rfl) (by kernel_rfl) (by rfl) (rs := [7]) (by rfl) nrSbA0 (fun base => by
      refine n_load rfl ti2 nrSbA0 nrSbA0 rfl nrSbA0 ?_
      exact AOps.nil ⟨rfl, rfl, rfl⟩) ?_
  refine Walk.ahead [11] (by rfl) (by kernel_rfl) (by rfl) (rs := [3]) (by rfl) nrSbA0 (fun base => by
      refine n_fieldAddr rfl fd141_1 ti2 rfl nrSbA0 rfl nrSbA0 ?_
      exact AOps.nil ⟨rfl, rfl, rfl⟩) ?_
  refine Walk.ahead [11] (by rfl) (by kernel_rfl) (by rfl) (rs := [9]) (by rfl) nrSbA0 (fun base => by
      refine n_load rfl ti2 nrSbA0 nrSbA0 rfl nrSbA0 ?_
      exact AOps.nil ⟨rfl, rfl, rfl⟩) ?_
  refine Walk.ahead [11] (by rfl) (by kernel_rfl) (by rfl) (rs := [1]) (by rfl) nrSbA0 (fun base => by
      refine n_move rfl nrSbA0 ?_
      exact AOps.nil ⟨rfl, rfl, rfl⟩) ?_
  refine Walk.ahead [11] (by rfl) (by kernel_rfl) (by rfl) (rs := [3]) (by rfl) nrSbA0 (fun base => by
      refine n_fieldAddr rfl fd141_4 ti2 rfl nrSbA0 rfl nrSbA0 ?_
      exact AOps.nil ⟨rfl, rfl, rfl⟩) ?_
  refine Walk.ahead [11] (by rfl) (by kernel_rfl) (by rfl) (rs := [12]) (by rfl) nrSbA0 (fun base => by
      refine n_load rfl ti2 nrSbA0 nrSbA0 rfl nrSbA0 ?_
      exact AOps.nil ⟨rfl, rfl, rfl⟩) ?_
  refine Walk.ahead [11] (by rfl) (by kernel_rfl) (by rfl) (rs := [13]) (by rfl) nrSbA0 (fun base => by
      first | refine n_isub rfl nrSbA0 nrSbA0 rfl (by omega) (by omega) ?_ | refine n_ibin rfl nrSbA0 nrSbA0 rfl ?_
      exact AOps.nil ⟨rfl, rfl, rfl⟩) ?_
  refine Walk.ahead [11] (by rfl) (by kernel_rfl) (by rfl) (rs := [2]) (by rfl) nrSbA0 (fun base => by
      refine n_move rfl nrSbA0 ?_
      exact AOps.nil ⟨rfl, rfl, rfl⟩) ?_
  refine Walk.ahead [11] (by rfl) (by kernel_rfl) (by rfl) (rs := [15]) (by rfl) nrSbA0 (fun base => by
      refine n_call0B rfl cf95 rfl (Eq.trans (by simp only [nl] <;> rfl) nrSbA0) (by repeat (first | exact .nil | refine .cons ?_ ?_ | exact ren_ints | exact .lf (.val _) | exact .lf (lf_ints (.inl rfl)) | exact .bp ⟨rfl, rfl⟩ | exact .bp (.inl ⟨rfl, rfl⟩) | exact .bp (.inr ⟨rfl, rfl⟩) | exact ren_bys0 rfl | exact .lf (D.flat_lf rfl) | exact ren_lits rfl | exact .lf (lf_ssz _) | exact .lf (lf_pqz _) | exact ren_q0 rfl | exact ren_pq rfl | exact ren_nl0 | exact ren_sq | exact .lf (.fn (fun d h => by cases h) (fun d h => by cases h)))) (b_clone l hl) lfSbA0 ?_
      exact AOps.nil ⟨rfl, rfl, rfl⟩) ?_
  refine Walk.ahead [11] (by rfl) (by kernel_rfl) (by rfl) (rs := [8, 10, 11, 14, 16]) (by rfl) nrSbA0 (fun base => by
      refine n_build rfl si157 (Eq.trans (by simp only [nl] <;> rfl) nrSbA0) (Eq.trans (by simp only [nl] <;> rfl) nrSbA0) rfl ?_
      exact AOps.nil ⟨rfl, rfl, rfl⟩) ?_
  refine Walk.writes (d := .any) (by rfl) (rs := [6, 17]) (by rfl) nrSbA0 (fun base => by
      refine n_store ti157 nrSbA0 rfl nrSbA0 rfl nrSbA0 rfl rfl rfl nrSbA0 ?_
      exact AOps.nil ⟨rfl, rfl, rfl⟩) ?_
  refine Walk.done ?_
  refine AWP.ret ?_
  refine fin_pure (.cons (rv_cell ti157 nrSbA0 nrSbA0 rfl nrSbA0) .nil) nrSbA0 ?_
  exact ren_pq rfl

theorem l_answer (x : Ss) : Does Try.prog 112 [.agg (ssz x)] [] (.agg (pqz x.answer)) [] := by
  refine Does.of_body (rvs := [.cell 2 157]) Try.func112 rfl rfl rfl rfl ?_
  refine AWP.seq ?_
  refine AWP.region ?_
  refine n_box rfl nrSbA0 rfl rfl nrSbA0 nrSbA0 ?_
  refine n_alloc rfl zi157 rfl nrSbA0 nrSbA0 ?_
  refine AOps.nil ?_
  refine AWP.seq ?_
  refine AWP.seq ?_
  refine AWP.region ?_
  refine n_load rfl ti141 nrSbA0 nrSbA0 rfl nrSbA0 ?_
  refine n_call0B rfl cf213 rfl (Eq.trans (by simp only [nl] <;> rfl) nrSbA0) (by repeat (first | exact .nil | refine .cons ?_ ?_ | exact ren_ints | exact .lf (.val _) | exact .lf (lf_ints (.inl rfl)) | exact .bp ⟨rfl, rfl⟩ | exact .bp (.inl ⟨rfl, rfl⟩) | exact .bp (.inr ⟨rfl, rfl⟩) | exact ren_bys0 rfl | exact .lf (D.flat_lf rfl) | exact ren_lits rfl | exact .lf (lf_ssz _) | exact .lf (lf_pqz _) | exact ren_q0 rfl | exact ren_pq rfl | exact ren_nl0 | exact ren_sq | exact .lf (.fn (fun d h => by cases h) (fun d h => by cases h)))) (l_chk _) lfSbA0 ?_
  refine n_ibin rfl nrSbA0 nrSbA0 rfl ?_
  refine AOps.nil ?_
  refine AWP.cond nrSbA0 (fun hc1 => ?_) (fun hc1 => ?_)
  · try simp only [nh] at hc1
    have hz : x.answer = ⟨0, 0, 0, 0, []⟩ := by unfold Ss.answer; rw [if_pos (by simpa using hc1)]; rfl
    refine AWP.seq ?_
    refine AWP.region ?_
    refine n_build rfl si157 (Eq.trans (by simp only [nl] <;> rfl) nrSbA0) (Eq.trans (by simp only [nl] <;> rfl) nrSbA0) rfl ?_
    refine n_store ti157 nrSbA0 rfl nrSbA0 rfl nrSbA0 rfl rfl rfl nrSbA0 ?_
    refine AOps.nil ?_
    refine AWP.ret ?_
    refine fin_pure (.cons (rv_cell ti157 nrSbA0 nrSbA0 rfl nrSbA0) .nil) nrSbA0 ?_
    first | exact ren_pq0 hz | exact .lf (lf_pqz _)
  · try simp only [nh] at hc1
    have hc0 : x.chk = 0 := by simpa using hc1
    have hm := Ss.chk0.1 hc0
    have hpk := l_packet x.b x.p x.s x.a x.e (.sl none [] .ro) lf_nl0 0 [] (by simp [L40]) hm.2.2.2.2.1
    have hz : x.answer = ⟨x.b, x.p, 0, x.e - 1, []⟩ := by unfold Ss.answer; rw [if_neg (by simp [hc0])]
    rw [← hz] at hpk
    refine AWP.skip ?_
    refine AWP.seq ?_
    refine AWP.region ?_
    refine n_load rfl ti141 nrSbA0 nrSbA0 rfl nrSbA0 ?_
    refine n_call0B rfl cf214 rfl (Eq.trans (by simp only [nl] <;> rfl) nrSbA0) (by repeat (first | exact .nil | refine .cons ?_ ?_ | exact ren_ints | exact .lf (.val _) | exact .lf (lf_ints (.inl rfl)) | exact .bp ⟨rfl, rfl⟩ | exact .bp (.inl ⟨rfl, rfl⟩) | exact .bp (.inr ⟨rfl, rfl⟩) | exact ren_bys0 rfl | exact .lf (D.flat_lf rfl) | exact ren_lits rfl | exact .lf (lf_ssz _) | exact .lf (lf_pqz _) | exact ren_q0 rfl | exact ren_pq rfl | exact ren_nl0 | exact ren_sq | exact .lf (.fn (fun d h => by cases h) (fun d h => by cases h)))) (hpk) lfSbA0 ?_
    refine n_store ti157 nrSbA0 rfl nrSbA0 rfl nrSbA0 rfl rfl rfl nrSbA0 ?_
    refine AOps.nil ?_
    refine AWP.ret ?_
    refine fin_pure (.cons (rv_cell ti157 nrSbA0 nrSbA0 rfl nrSbA0) .nil) nrSbA0 ?_
    first | exact ren_pq0 hz | exact .lf (lf_pqz _)

set_option maxHeartbeats 2000000 in
theorem l_send (x : Ss) (l : List Int) (hc : x.chk = 0) (hl : l.length ≤ 131072) (hs : x.s ≠ 9007199254740992) : Does Try.prog 208 [.agg (ssz x), bys l] [] (.tup [.agg [vi x.b, vi x.p, vi (x.s + 1), vi x.a, vi x.e, .sl none [[bys l]] .ro], .agg (pqz ⟨x.b, x.p, x.s + 1, x.e - 1, l⟩), vi 0]) [] := by
  refine Does.of_body (rvs := [.cell 4 141, .cell 5 157, .tmp 6]) Try.func208 rfl rfl rfl rfl ?_
  have hm := Ss.chk0.1 hc
  unfold Ss.may at hm
  have hL : L40 l := by simp only [L40]; omega
  have hck := l_chk x
  rw [hc] at hck
  have hpk := l_packet x.b x.p (x.s + 1) x.a x.e (.sl none [[bys l]] .ro) lf_q (x.s + 1) l hL hm.2.2.2.2.1
  refine AWP.seq ?_
  refine AWP.region ?_
  refine n_box rfl nrSbA0 rfl rfl nrSbA0 nrSbA0 ?_
  refine n_alloc rfl zi141 rfl nrSbA0 nrSbA0 ?_
  refine n_alloc rfl zi157 rfl nrSbA0 nrSbA0 ?_
  refine n_assign rfl nrSbA0 ?_
  refine AOps.nil ?_
  refine AWP.seq ?_
  refine AWP.region ?_
  refine n_load rfl ti141 nrSbA0 nrSbA0 rfl nrSbA0 ?_
  refine n_callRowR (r' := .agg [vi x.b, vi x.p, vi x.s, vi x.a, vi x.e, .sl none [] (.own 3)]) rfl cf269 rfl (Eq.trans (by simp only [nl] <;> rfl) nrSbA0) (by repeat (first | exact .nil | refine .cons ?_ ?_ | exact ren_ints | exact .lf (.val _) | exact .lf (lf_ints (.inl rfl)) | exact .bp ⟨rfl, rfl⟩ | exact .bp (.inl ⟨rfl, rfl⟩) | exact .bp (.inr ⟨rfl, rfl⟩) | exact ren_bys0 rfl | exact .lf (D.flat_lf rfl) | exact ren_lits rfl | exact .lf (lf_ssz _) | exact .lf (lf_pqz _) | exact ren_q0 rfl | exact ren_pq rfl | exact ren_nl0 | exact ren_sq | exact .lf (.fn (fun d h => by cases h) (fun d h => by cases h)))) (l_clone x) rfl (by exact .agg rfl (RenAll.get (.cons (.lf (.val _)) (.cons (.lf (.val _)) (.cons (.lf (.val _)) (.cons (.lf (.val _)) (.cons (.lf (.val _)) (.cons (.own (fun x h => by cases h) ⟨rfl, rfl⟩) .nil)))))))) nrSbA0 ?_
  refine n_store ti141 nrSbA0 rfl nrSbA0 rfl nrSbA0 rfl rfl rfl nrSbA0 ?_
  refine AOps.nil ?_
  refine AWP.seq ?_
  refine AWP.region ?_
  refine n_load rfl ti141 nrSbA0 nrSbA0 rfl nrSbA0 ?_
  refine n_call0B rfl cf213 rfl (Eq.trans (by simp only [nl] <;> rfl) nrSbA0) (by repeat (first | exact .nil | refine .cons ?_ ?_ | exact ren_ints | exact .lf (.val _) | exact .lf (lf_ints (.inl rfl)) | exact .bp ⟨rfl, rfl⟩ | exact .bp (.inl ⟨rfl, rfl⟩) | exact .bp (.inr ⟨rfl, rfl⟩) | exact ren_bys0 rfl | exact .lf (D.flat_lf rfl) | exact ren_lits rfl | exact .lf (lf_ssz _) | exact .lf (lf_pqz _) | exact ren_q0 rfl | exact ren_pq rfl | exact ren_nl0 | exact ren_sq | exact .lf (.fn (fun d h => by cases h) (fun d h => by cases h)))) (hck) lfSbA0 ?_
  refine n_assign rfl nrSbA0 ?_
  refine AOps.nil ?_
  refine AWP.seq ?_
  refine AWP.block ?_
  refine AWP.seq ?_
  refine AWP.region ?_
  refine n_move rfl nrSbA0 ?_
  refine n_ibin rfl nrSbA0 nrSbA0 rfl ?_
  refine n_assign rfl nrSbA0 ?_
  refine AOps.nil ?_
  refine AWP.cond_false nrSbA0 ?_
  refine AWP.seq ?_
  refine AWP.region ?_
  refine n_move rfl nrSbA0 ?_
  refine n_len rfl Try.underlying22 nrSbA0 (by first | rw [ints_length] | rw [List.length_map] | rfl) ?_
  refine n_ibin rfl nrSbA0 nrSbA0 rfl ?_
  refine n_assign rfl nrSbA0 ?_
  refine AOps.nil ?_
  refine AWP.cond nrSbA0 (fun hc2 => ?_) (fun hc2 => ?_)
  · try simp only [nh] at hc2
    exfalso
    omega
  · try simp only [nh] at hc2
    refine AWP.seq ?_
    refine AWP.region ?_
    refine n_fieldAddr rfl fd141_5 ti139 rfl nrSbA0 rfl nrSbA0 ?_
    refine n_load rfl ti139 nrSbA0 nrSbA0 rfl nrSbA0 ?_
    refine n_len rfl Try.underlying139 nrSbA0 (by first | rw [ints_length] | rw [List.length_map] | rfl) ?_
    refine n_ibin rfl nrSbA0 nrSbA0 rfl ?_
    refine n_assign rfl nrSbA0 ?_
    refine AOps.nil ?_
    refine AWP.cond nrSbA0 (fun hc3 => ?_) (fun hc3 => ?_)
    · try simp only [nh] at hc3
      exfalso
      simp at hc3
    · try simp only [nh] at hc3
      refine AWP.seq ?_
      refine AWP.region ?_
      refine n_fieldAddr rfl fd141_2 ti2 rfl nrSbA0 rfl nrSbA0 ?_
      refine n_load rfl ti2 nrSbA0 nrSbA0 rfl nrSbA0 ?_
      refine n_ibin rfl nrSbA0 nrSbA0 rfl ?_
      refine n_assign rfl nrSbA0 ?_
      refine AOps.nil ?_
      refine AWP.cond nrSbA0 (fun hc4 => ?_) (fun hc4 => ?_)
      · try simp only [nh] at hc4
        exact absurd hc4 hs
      · try simp only [nh] at hc4
        refine AWP.skip ?_
        refine AWP.seq ?_
        refine AWP.seq ?_
        refine AWP.region ?_
        refine n_move rfl nrSbA0 ?_
        refine n_ibin rfl nrSbA0 nrSbA0 rfl ?_
        refine AOps.nil ?_
        refine AWP.cond_false nrSbA0 ?_
        refine AWP.skip ?_
        refine AWP.seq ?_
        refine AWP.region ?_
        refine n_fieldAddr rfl fd141_2 ti2 rfl nrSbA0 rfl nrSbA0 ?_
        refine n_load rfl ti2 nrSbA0 nrSbA0 rfl nrSbA0 ?_
        first | refine n_iadd rfl nrSbA0 nrSbA0 rfl (by omega) (by omega) ?_ | refine n_ibin rfl nrSbA0 nrSbA0 rfl ?_
        refine n_fieldAddr rfl fd141_2 ti2 rfl nrSbA0 rfl nrSbA0 ?_
        refine n_store ti2 nrSbA0 rfl nrSbA0 rfl nrSbA0 rfl rfl rfl nrSbA0 ?_
        refine AOps.nil ?_
        refine AWP.seq ?_
        refine AWP.anyT [5, 7] (fun p => match p with | [false, false] => [.box [vi x.b, vi x.p, vi (x.s + 1), vi x.a, vi x.e, .sl none [] (.own 3)], .box [vi 0, vi 0, vi 0, vi 0, vi 0, .sl (some true) [] .full], .box [vi 0, vi 0, vi 0, vi 0, .sl (some true) [] .full], .row 0 1] | [true, false] => [.box [vi x.b, vi x.p, vi (x.s + 1), vi x.a, vi x.e, .sl none [] (.own 3)], .box [vi 0, vi 0, vi 0, vi 0, vi 0, .sl (some true) [] .full], .box [vi 0, vi 0, vi 0, vi 0, .sl (some true) [] .full], .row 1 1] | [true, true] => [.box [vi x.b, vi x.p, vi (x.s + 1), vi x.a, vi x.e, .sl none [[bys l]] (.own 3)], .box [vi 0, vi 0, vi 0, vi 0, vi 0, .sl (some true) [] .full], .box [vi 0, vi 0, vi 0, vi 0, .sl (some true) [] .full], .row 1 1] | _ => []) (by kernel_rfl) (by kernel_rfl) rfl rfl ?_
        refine Walk.cases [([false, false], [.box [vi x.b, vi x.p, vi (x.s + 1), vi x.a, vi x.e, .sl none [] (.own 3)], .box [vi 0, vi 0, vi 0, vi 0, vi 0, .sl (some true) [] .full], .box [vi 0, vi 0, vi 0, vi 0, .sl (some true) [] .full], .row 0 1], [.box [vi x.b, vi x.p, vi (x.s + 1), vi x.a, vi x.e, .sl none [] (.own 3)], .box [vi 0, vi 0, vi 0, vi 0, vi 0, .sl (some true) [] .full], .box [vi 0, vi 0, vi 0, vi 0, .sl (some true) [] .full], .row 0 1])] (by rfl) (by kernel_rfl) (rs := [2]) (by rfl) nrSbA0 (fun base => ⟨
            ⟨rfl, rfl, by
              refine n_fieldAddr rfl fd141_5 ti139 rfl nrSbA0 rfl nrSbA0 ?_
              exact AOps.nil ⟨rfl, rfl, rfl⟩⟩,
            trivial⟩) ?_
        refine Walk.cases [([false, false], [.box [vi x.b, vi x.p, vi (x.s + 1), vi x.a, vi x.e, .sl none [] (.own 3)], .box [vi 0, vi 0, vi 0, vi 0, vi 0, .sl (some true) [] .full], .box [vi 0, vi 0, vi 0, vi 0, .sl (some true) [] .full], .row 0 1], [.box [vi x.b, vi x.p, vi (x.s + 1), vi x.a, vi x.e, .sl none [] (.own 3)], .box [vi 0, vi 0, vi 0, vi 0, vi 0, .sl (some true) [] .full], .box [vi 0, vi 0, vi 0, vi 0, .sl (some true) [] .full], .row 0 1])] (by rfl) (by kernel_rfl) (rs := [37]) (by rfl) nrSbA0 (fun base => ⟨
            ⟨rfl, rfl, by
              refine n_load rfl ti139 nrSbA0 nrSbA0 rfl nrSbA0 ?_
              exact AOps.nil ⟨rfl, rfl, rfl⟩⟩,
            trivial⟩) ?_
        refine Walk.cases [([false, false], [.box [vi x.b, vi x.p, vi (x.s + 1), vi x.a, vi x.e, .sl none [] (.own 3)], .box [vi 0, vi 0, vi 0, vi 0, vi 0, .sl (some true) [] .full], .box [vi 0, vi 0, vi 0, vi 0, .sl (some true) [] .full], .row 0 1], [.box [vi x.b, vi x.p, vi (x.s + 1), vi x.a, vi x.e, .sl none [] (.own 3)], .box [vi 0, vi 0, vi 0, vi 0, vi 0, .sl (some true) [] .full], .box [vi 0, vi 0, vi 0, vi 0, .sl (some true) [] .full], .row 0 1])] (by rfl) (by kernel_rfl) (rs := [1]) (by rfl) nrSbA0 (fun base => ⟨
            ⟨rfl, rfl, by
              refine n_move rfl nrSbA0 ?_
              exact AOps.nil ⟨rfl, rfl, rfl⟩⟩,
            trivial⟩) ?_
        refine Walk.cases [([false, false], [.box [vi x.b, vi x.p, vi (x.s + 1), vi x.a, vi x.e, .sl none [] (.own 3)], .box [vi 0, vi 0, vi 0, vi 0, vi 0, .sl (some true) [] .full], .box [vi 0, vi 0, vi 0, vi 0, .sl (some true) [] .full], .row 0 1], [.box [vi x.b, vi x.p, vi (x.s + 1), vi x.a, vi x.e, .sl none [] (.own 3)], .box [vi 0, vi 0, vi 0, vi 0, vi 0, .sl (some true) [] .full], .box [vi 0, vi 0, vi 0, vi 0, .sl (some true) [] .full], .row 0 1])] (by rfl) (by kernel_rfl) (rs := [39]) (by rfl) nrSbA0 (fun base => ⟨
            ⟨rfl, rfl, by
              refine n_call0B rfl cf95 rfl (Eq.trans (by simp only [nl] <;> rfl) nrSbA0) (by repeat (first | exact .nil | refine .cons ?_ ?_ | exact ren_ints | exact .lf (.val _) | exact .lf (lf_ints (.inl rfl)) | exact .bp ⟨rfl, rfl⟩ | exact .bp (.inl ⟨rfl, rfl⟩) | exact .bp (.inr ⟨rfl, rfl⟩) | exact ren_bys0 rfl | exact .lf (D.flat_lf rfl) | exact ren_lits rfl | exact .lf (lf_ssz _) | exact .lf (lf_pqz _) | exact ren_q0 rfl | exact ren_pq rfl | exact ren_nl0 | exact ren_sq | exact .lf (.fn (fun d h => by cases h) (fun d h => by cases h)))) (b_clone l hL) lfSbA0 ?_
              exact AOps.nil ⟨rfl, rfl, rfl⟩⟩,
            trivial⟩) ?_
        refine Walk.cases [([false, false], [.box [vi x.b, vi x.p, vi (x.s + 1), vi x.a, vi x.e, .sl none [] (.own 3)], .box [vi 0, vi 0, vi 0, vi 0, vi 0, .sl (some true) [] .full], .box [vi 0, vi 0, vi 0, vi 0, .sl (some true) [] .full], .row 0 1], [.box [vi x.b, vi x.p, vi (x.s + 1), vi x.a, vi x.e, .sl none [] (.own 3)], .box [vi 0, vi 0, vi 0, vi 0, vi 0, .sl (some true) [] .full], .box [vi 0, vi 0, vi 0, vi 0, .sl (some true) [] .full], .row 0 1])] (by rfl) (by kernel_rfl) (rs := [40]) (by rfl) nrSbA0 (fun base => ⟨
            ⟨rfl, rfl, by
              refine n_lit rfl Try.underlying139 ti22 zi22 rfl rfl (Eq.trans (by simp only [nl] <;> rfl) nrSbA0) rfl nrSbA0 ?_
              exact AOps.nil ⟨rfl, rfl, rfl⟩⟩,
            trivial⟩) ?_
        refine Walk.cases [([false, false], [.box [vi x.b, vi x.p, vi (x.s + 1), vi x.a, vi x.e, .sl none [] (.own 3)], .box [vi 0, vi 0, vi 0, vi 0, vi 0, .sl (some true) [] .full], .box [vi 0, vi 0, vi 0, vi 0, .sl (some true) [] .full], .row 0 1], [.box [vi x.b, vi x.p, vi (x.s + 1), vi x.a, vi x.e, .sl none [] (.own 3)], .box [vi 0, vi 0, vi 0, vi 0, vi 0, .sl (some true) [] .full], .box [vi 0, vi 0, vi 0, vi 0, .sl (some true) [] .full], .row 1 1])] (by rfl) (by kernel_rfl) (rs := [38, 41]) (by rfl) nrSbA0 (fun base => ⟨
            ⟨rfl, rfl, by
              refine n_append_own (zs := [[bys l]]) (m := 1) rfl Try.underlying139 Try.underlying139 ei22 nrSbA0 nrSbA0 rfl nrSbA0 (by intro x hx; cases hx) (by intro y hy; simp only [List.mem_cons, List.not_mem_nil, or_false] at hy; subst hy; rfl) rfl rfl (by decide) nrSbA0 ?_
              exact AOps.nil ⟨rfl, rfl, rfl⟩⟩,
            trivial⟩) ?_
        refine Walk.cases [([true, false], [.box [vi x.b, vi x.p, vi (x.s + 1), vi x.a, vi x.e, .sl none [] (.own 3)], .box [vi 0, vi 0, vi 0, vi 0, vi 0, .sl (some true) [] .full], .box [vi 0, vi 0, vi 0, vi 0, .sl (some true) [] .full], .row 1 1], [.box [vi x.b, vi x.p, vi (x.s + 1), vi x.a, vi x.e, .sl none [] (.own 3)], .box [vi 0, vi 0, vi 0, vi 0, vi 0, .sl (some true) [] .full], .box [vi 0, vi 0, vi 0, vi 0, .sl (some true) [] .full], .row 1 1])] (by rfl) (by kernel_rfl) (rs := [2]) (by rfl) nrSbA0 (fun base => ⟨
            ⟨rfl, rfl, by
              refine n_fieldAddr rfl fd141_5 ti139 rfl nrSbA0 rfl nrSbA0 ?_
              exact AOps.nil ⟨rfl, rfl, rfl⟩⟩,
            trivial⟩) ?_
        refine Walk.cases (d := .any) [([true, false], [.box [vi x.b, vi x.p, vi (x.s + 1), vi x.a, vi x.e, .sl none [] (.own 3)], .box [vi 0, vi 0, vi 0, vi 0, vi 0, .sl (some true) [] .full], .box [vi 0, vi 0, vi 0, vi 0, .sl (some true) [] .full], .row 1 1], [.box [vi x.b, vi x.p, vi (x.s + 1), vi x.a, vi x.e, .sl none [[bys l]] (.own 3)], .box [vi 0, vi 0, vi 0, vi 0, vi 0, .sl (some true) [] .full], .box [vi 0, vi 0, vi 0, vi 0, .sl (some true) [] .full], .row 1 1])] (by rfl) (by kernel_rfl) (rs := [43, 42]) (by rfl) nrSbA0 (fun base => ⟨
            ⟨rfl, rfl, by
              refine n_store ti139 nrSbA0 rfl nrSbA0 rfl nrSbA0 rfl rfl rfl nrSbA0 ?_
              exact AOps.nil ⟨rfl, rfl, rfl⟩⟩,
            trivial⟩) ?_
        refine Walk.done ?_
        refine AWP.seq ?_
        refine AWP.anyT [6, 7] (fun p => match p with | [false, false] => [.box [vi x.b, vi x.p, vi (x.s + 1), vi x.a, vi x.e, .sl none [[bys l]] (.own 3)], .box [vi 0, vi 0, vi 0, vi 0, vi 0, .sl (some true) [] .full], .box [vi 0, vi 0, vi 0, vi 0, .sl (some true) [] .full], .row 1 1] | [true, false] => [.box [vi x.b, vi x.p, vi (x.s + 1), vi x.a, vi x.e, .sl none [[bys l]] (.own 3)], .box [vi x.b, vi x.p, vi (x.s + 1), vi x.a, vi x.e, .sl none [[bys l]] (.own 3)], .box [vi 0, vi 0, vi 0, vi 0, .sl (some true) [] .full], .row 1 1] | [false, true] => [.box [vi x.b, vi x.p, vi (x.s + 1), vi x.a, vi x.e, .sl none [[bys l]] (.own 3)], .box [vi 0, vi 0, vi 0, vi 0, vi 0, .sl (some true) [] .full], .box (pqz ⟨x.b, x.p, x.s + 1, x.e - 1, l⟩), .row 1 1] | [true, true] => [.box [vi x.b, vi x.p, vi (x.s + 1), vi x.a, vi x.e, .sl none [[bys l]] (.own 3)], .box [vi x.b, vi x.p, vi (x.s + 1), vi x.a, vi x.e, .sl none [[bys l]] (.own 3)], .box (pqz ⟨x.b, x.p, x.s + 1, x.e - 1, l⟩), .row 1 1] | _ => []) (by kernel_rfl) (by kernel_rfl) rfl rfl ?_
        refine Walk.cases [([false, false], [.box [vi x.b, vi x.p, vi (x.s + 1), vi x.a, vi x.e, .sl none [[bys l]] (.own 3)], .box [vi 0, vi 0, vi 0, vi 0, vi 0, .sl (some true) [] .full], .box [vi 0, vi 0, vi 0, vi 0, .sl (some true) [] .full], .row 1 1], [.box [vi x.b, vi x.p, vi (x.s + 1), vi x.a, vi x.e, .sl none [[bys l]] (.own 3)], .box [vi 0, vi 0, vi 0, vi 0, vi 0, .sl (some true) [] .full], .box [vi 0, vi 0, vi 0, vi 0, .sl (some true) [] .full], .row 1 1])] (by rfl) (by kernel_rfl) (rs := [2]) (by rfl) nrSbA0 (fun base => ⟨
            ⟨rfl, rfl, by
              refine n_load rfl ti141 nrSbA0 nrSbA0 rfl nrSbA0 ?_
              exact AOps.nil ⟨rfl, rfl, rfl⟩⟩,
            trivial⟩) ?_
        refine Walk.cases [([false, false], [.box [vi x.b, vi x.p, vi (x.s + 1), vi x.a, vi x.e, .sl none [[bys l]] (.own 3)], .box [vi 0, vi 0, vi 0, vi 0, vi 0, .sl (some true) [] .full], .box [vi 0, vi 0, vi 0, vi 0, .sl (some true) [] .full], .row 1 1], [.box [vi x.b, vi x.p, vi (x.s + 1), vi x.a, vi x.e, .sl none [[bys l]] (.own 3)], .box [vi 0, vi 0, vi 0, vi 0, vi 0, .sl (some true) [] .full], .box [vi 0, vi 0, vi 0, vi 0, .sl (some true) [] .full], .row 1 1])] (by rfl) (by kernel_rfl) (rs := [2]) (by rfl) nrSbA0 (fun base => ⟨
            ⟨rfl, rfl, by
              refine n_load rfl ti141 nrSbA0 nrSbA0 rfl nrSbA0 ?_
              exact AOps.nil ⟨rfl, rfl, rfl⟩⟩,
            trivial⟩) ?_
        refine Walk.cases [([false, false], [.box [vi x.b, vi x.p, vi (x.s + 1), vi x.a, vi x.e, .sl none [[bys l]] (.own 3)], .box [vi 0, vi 0, vi 0, vi 0, vi 0, .sl (some true) [] .full], .box [vi 0, vi 0, vi 0, vi 0, .sl (some true) [] .full], .row 1 1], [.box [vi x.b, vi x.p, vi (x.s + 1), vi x.a, vi x.e, .sl none [[bys l]] (.own 3)], .box [vi 0, vi 0, vi 0, vi 0, vi 0, .sl (some true) [] .full], .box [vi 0, vi 0, vi 0, vi 0, .sl (some true) [] .full], .row 1 1])] (by rfl) (by kernel_rfl) (rs := [2]) (by rfl) nrSbA0 (fun base => ⟨
            ⟨rfl, rfl, by
              refine n_fieldAddr rfl fd141_2 ti2 rfl nrSbA0 rfl nrSbA0 ?_
              exact AOps.nil ⟨rfl, rfl, rfl⟩⟩,
            trivial⟩) ?_
        refine Walk.cases [([false, false], [.box [vi x.b, vi x.p, vi (x.s + 1), vi x.a, vi x.e, .sl none [[bys l]] (.own 3)], .box [vi 0, vi 0, vi 0, vi 0, vi 0, .sl (some true) [] .full], .box [vi 0, vi 0, vi 0, vi 0, .sl (some true) [] .full], .row 1 1], [.box [vi x.b, vi x.p, vi (x.s + 1), vi x.a, vi x.e, .sl none [[bys l]] (.own 3)], .box [vi 0, vi 0, vi 0, vi 0, vi 0, .sl (some true) [] .full], .box [vi 0, vi 0, vi 0, vi 0, .sl (some true) [] .full], .row 1 1])] (by rfl) (by kernel_rfl) (rs := [46]) (by rfl) nrSbA0 (fun base => ⟨
            ⟨rfl, rfl, by
              refine n_load rfl ti2 nrSbA0 nrSbA0 rfl nrSbA0 ?_
              exact AOps.nil ⟨rfl, rfl, rfl⟩⟩,
            trivial⟩) ?_
        refine Walk.cases [([false, false], [.box [vi x.b, vi x.p, vi (x.s + 1), vi x.a, vi x.e, .sl none [[bys l]] (.own 3)], .box [vi 0, vi 0, vi 0, vi 0, vi 0, .sl (some true) [] .full], .box [vi 0, vi 0, vi 0, vi 0, .sl (some true) [] .full], .row 1 1], [.box [vi x.b, vi x.p, vi (x.s + 1), vi x.a, vi x.e, .sl none [[bys l]] (.own 3)], .box [vi 0, vi 0, vi 0, vi 0, vi 0, .sl (some true) [] .full], .box [vi 0, vi 0, vi 0, vi 0, .sl (some true) [] .full], .row 1 1])] (by rfl) (by kernel_rfl) (rs := [1]) (by rfl) nrSbA0 (fun base => ⟨
            ⟨rfl, rfl, by
              refine n_move rfl nrSbA0 ?_
              exact AOps.nil ⟨rfl, rfl, rfl⟩⟩,
            trivial⟩) ?_
        refine Walk.cases [([false, false], [.box [vi x.b, vi x.p, vi (x.s + 1), vi x.a, vi x.e, .sl none [[bys l]] (.own 3)], .box [vi 0, vi 0, vi 0, vi 0, vi 0, .sl (some true) [] .full], .box [vi 0, vi 0, vi 0, vi 0, .sl (some true) [] .full], .row 1 1], [.box [vi x.b, vi x.p, vi (x.s + 1), vi x.a, vi x.e, .sl none [[bys l]] (.own 3)], .box [vi 0, vi 0, vi 0, vi 0, vi 0, .sl (some true) [] .full], .box [vi 0, vi 0, vi 0, vi 0, .sl (some true) [] .full], .row 1 1])] (by rfl) (by kernel_rfl) (rs := [45, 47, 48]) (by rfl) nrSbA0 (fun base => ⟨
            ⟨rfl, rfl, by
              refine n_call0B rfl cf214 rfl (Eq.trans (by simp only [nl] <;> rfl) nrSbA0) (by repeat (first | exact .nil | refine .cons ?_ ?_ | exact ren_ints | exact .lf (.val _) | exact .lf (lf_ints (.inl rfl)) | exact .bp ⟨rfl, rfl⟩ | exact .bp (.inl ⟨rfl, rfl⟩) | exact .bp (.inr ⟨rfl, rfl⟩) | exact ren_bys0 rfl | exact .lf (D.flat_lf rfl) | exact ren_lits rfl | exact .lf (lf_ssz _) | exact .lf (lf_pqz _) | exact ren_q0 rfl | exact ren_pq rfl | exact ren_nl0 | exact ren_sq | exact .lf (.fn (fun d h => by cases h) (fun d h => by cases h)))) (hpk) lfSbA0 ?_
              exact AOps.nil ⟨rfl, rfl, rfl⟩⟩,
            trivial⟩) ?_
        refine Walk.cases (d := .any) [([false, false], [.box [vi x.b, vi x.p, vi (x.s + 1), vi x.a, vi x.e, .sl none [[bys l]] (.own 3)], .box [vi 0, vi 0, vi 0, vi 0, vi 0, .sl (some true) [] .full], .box [vi 0, vi 0, vi 0, vi 0, .sl (some true) [] .full], .row 1 1], [.box [vi x.b, vi x.p, vi (x.s + 1), vi x.a, vi x.e, .sl none [[bys l]] (.own 3)], .box [vi x.b, vi x.p, vi (x.s + 1), vi x.a, vi x.e, .sl none [[bys l]] (.own 3)], .box [vi 0, vi 0, vi 0, vi 0, .sl (some true) [] .full], .row 1 1])] (by rfl) (by kernel_rfl) (rs := [4, 44]) (by rfl) nrSbA0 (fun base => ⟨
            ⟨rfl, rfl, by
              refine n_store ti141 nrSbA0 rfl nrSbA0 rfl nrSbA0 rfl rfl rfl nrSbA0 ?_
              exact AOps.nil ⟨rfl, rfl, rfl⟩⟩,
            trivial⟩) ?_
        refine Walk.cases (d := .any) [([true, false], [.box [vi x.b, vi x.p, vi (x.s + 1), vi x.a, vi x.e, .sl none [[bys l]] (.own 3)], .box [vi x.b, vi x.p, vi (x.s + 1), vi x.a, vi x.e, .sl none [[bys l]] (.own 3)], .box [vi 0, vi 0, vi 0, vi 0, .sl (some true) [] .full], .row 1 1], [.box [vi x.b, vi x.p, vi (x.s + 1), vi x.a, vi x.e, .sl none [[bys l]] (.own 3)], .box [vi x.b, vi x.p, vi (x.s + 1), vi x.a, vi x.e, .sl none [[bys l]] (.own 3)], .box (pqz ⟨x.b, x.p, x.s + 1, x.e - 1, l⟩), .row 1 1])] (by rfl) (by kernel_rfl) (rs := [5, 49]) (by rfl) nrSbA0 (fun base => ⟨
            ⟨rfl, rfl, by
              refine n_store ti157 nrSbA0 rfl nrSbA0 rfl nrSbA0 rfl rfl rfl nrSbA0 ?_
              exact AOps.nil ⟨rfl, rfl, rfl⟩⟩,
            trivial⟩) ?_
        refine Walk.cases [([true, true], [.box [vi x.b, vi x.p, vi (x.s + 1), vi x.a, vi x.e, .sl none [[bys l]] (.own 3)], .box [vi x.b, vi x.p, vi (x.s + 1), vi x.a, vi x.e, .sl none [[bys l]] (.own 3)], .box (pqz ⟨x.b, x.p, x.s + 1, x.e - 1, l⟩), .row 1 1], [.box [vi x.b, vi x.p, vi (x.s + 1), vi x.a, vi x.e, .sl none [[bys l]] (.own 3)], .box [vi x.b, vi x.p, vi (x.s + 1), vi x.a, vi x.e, .sl none [[bys l]] (.own 3)], .box (pqz ⟨x.b, x.p, x.s + 1, x.e - 1, l⟩), .row 1 1])] (by rfl) (by kernel_rfl) (rs := []) (by rfl) nrSbA0 (fun base => ⟨
            ⟨rfl, rfl, by
              refine n_assign rfl nrSbA0 ?_
              exact AOps.nil ⟨rfl, rfl, rfl⟩⟩,
            trivial⟩) ?_
        refine Walk.done ?_
        refine AWP.ret ?_
        refine fin_pure (.cons (rv_cell ti141 nrSbA0 nrSbA0 rfl nrSbA0) (.cons (rv_cell ti157 nrSbA0 nrSbA0 rfl nrSbA0) (.cons (rv_tmp nrSbA0) .nil))) nrSbA0 ?_
        exact .tup rfl (RenAll.get (.cons ren_sq (.cons (.lf (lf_pqz ⟨x.b, x.p, x.s + 1, x.e - 1, l⟩)) (.cons (ren_flat rfl rfl) .nil))))

set_option maxHeartbeats 4000000 in
theorem l_take (x : Ss) (y : Pq) (hl : L40 y.l) : Does Try.prog 209 [.agg (ssz x), .agg (pqz y)] [] (.tup [.agg (ssz (x.take y).1), bys (x.take y).2.1, vb (x.take y).2.2]) [] := by
  refine Does.of_body (rvs := [.cell 4 141, .tmp 5, .tmp 6]) Try.func209 rfl rfl rfl rfl ?_
  refine AWP.seq ?_
  refine AWP.region ?_
  refine n_box rfl nrSbA0 rfl rfl nrSbA0 nrSbA0 ?_
  refine n_box rfl nrSbA0 rfl rfl nrSbA0 nrSbA0 ?_
  refine n_alloc rfl zi141 rfl nrSbA0 nrSbA0 ?_
  refine n_assign rfl nrSbA0 ?_
  refine n_assign rfl nrSbA0 ?_
  refine AOps.nil ?_
  refine AWP.seq ?_
  refine AWP.region ?_
  refine n_load rfl ti141 nrSbA0 nrSbA0 rfl nrSbA0 ?_
  refine n_callRowR (r' := .agg [vi x.b, vi x.p, vi x.s, vi x.a, vi x.e, .sl none [] (.own 3)]) rfl cf269 rfl (Eq.trans (by simp only [nl] <;> rfl) nrSbA0) (by repeat (first | exact .nil | refine .cons ?_ ?_ | exact ren_ints | exact .lf (.val _) | exact .lf (lf_ints (.inl rfl)) | exact .bp ⟨rfl, rfl⟩ | exact .bp (.inl ⟨rfl, rfl⟩) | exact .bp (.inr ⟨rfl, rfl⟩) | exact ren_bys0 rfl | exact .lf (D.flat_lf rfl) | exact ren_lits rfl | exact .lf (lf_ssz _) | exact .lf (lf_pqz _) | exact ren_q0 rfl | exact ren_pq rfl | exact ren_nl0 | exact ren_sq | exact .lf (.fn (fun d h => by cases h) (fun d h => by cases h)))) (l_clone x) rfl (by exact .agg rfl (RenAll.get (.cons (.lf (.val _)) (.cons (.lf (.val _)) (.cons (.lf (.val _)) (.cons (.lf (.val _)) (.cons (.lf (.val _)) (.cons (.own (fun x h => by cases h) ⟨rfl, rfl⟩) .nil)))))))) nrSbA0 ?_
  refine n_store ti141 nrSbA0 rfl nrSbA0 rfl nrSbA0 rfl rfl rfl nrSbA0 ?_
  refine AOps.nil ?_
  refine AWP.seq ?_
  refine AWP.seq ?_
  refine AWP.region ?_
  refine n_load rfl ti141 nrSbA0 nrSbA0 rfl nrSbA0 ?_
  refine n_call0B rfl cf213 rfl (Eq.trans (by simp only [nl] <;> rfl) nrSbA0) (by repeat (first | exact .nil | refine .cons ?_ ?_ | exact ren_ints | exact .lf (.val _) | exact .lf (lf_ints (.inl rfl)) | exact .bp ⟨rfl, rfl⟩ | exact .bp (.inl ⟨rfl, rfl⟩) | exact .bp (.inr ⟨rfl, rfl⟩) | exact ren_bys0 rfl | exact .lf (D.flat_lf rfl) | exact ren_lits rfl | exact .lf (lf_ssz _) | exact .lf (lf_pqz _) | exact ren_q0 rfl | exact ren_pq rfl | exact ren_nl0 | exact ren_sq | exact .lf (.fn (fun d h => by cases h) (fun d h => by cases h)))) (l_chk x) lfSbA0 ?_
  refine n_ibin rfl nrSbA0 nrSbA0 rfl ?_
  refine n_move rfl nrSbA0 ?_
  refine AOps.name (u := 12) (fun z => .val (.bool z)) nrSbA0 (fun b12 hb12 => ?_)
  refine n_soft (u := 12) (E := .val (.bool b12)) (!b12) rfl rfl rfl nrSbA0 (by cases b12 <;> first | (intro _; rfl) | (intro h; exact absurd h (by decide))) (by cases b12 <;> first | (intro h; exact absurd h (by decide)) | (intro _; exact ⟨_, rfl, by first | (intro h; cases h; done) | decide | simp⟩)) (fun h => by
      cases b12 with
      | true => exact absurd h (by first | decide | simp)
      | false =>
        refine n_load rfl ti157 nrSbA0 nrSbA0 rfl nrSbA0 ?_
        exact AOps.nil ⟨rfl, rfl, rfl⟩) ?_
  refine n_soft (u := 12) (E := .val (.bool b12)) (!b12) rfl rfl rfl nrSbA0 (by cases b12 <;> first | (intro _; rfl) | (intro h; exact absurd h (by decide))) (by cases b12 <;> first | (intro h; exact absurd h (by decide)) | (intro _; exact ⟨_, rfl, by first | (intro h; cases h; done) | decide | simp⟩)) (fun h => by
      cases b12 with
      | true => exact absurd h (by first | decide | simp)
      | false =>
        refine n_call0B rfl cf156 rfl (Eq.trans (by simp only [nl] <;> rfl) nrSbA0) (by repeat (first | exact .nil | refine .cons ?_ ?_ | exact ren_ints | exact .lf (.val _) | exact .lf (lf_ints (.inl rfl)) | exact .bp ⟨rfl, rfl⟩ | exact .bp (.inl ⟨rfl, rfl⟩) | exact .bp (.inr ⟨rfl, rfl⟩) | exact ren_bys0 rfl | exact .lf (D.flat_lf rfl) | exact ren_lits rfl | exact .lf (lf_ssz _) | exact .lf (lf_pqz _) | exact ren_q0 rfl | exact ren_pq rfl | exact ren_nl0 | exact ren_sq | exact .lf (.fn (fun d h => by cases h) (fun d h => by cases h)))) (l_cp y hl) lfSbA0 ?_
        exact AOps.nil ⟨rfl, rfl, rfl⟩) ?_
  refine n_soft (u := 12) (E := .val (.bool b12)) (!b12) rfl rfl rfl nrSbA0 (by cases b12 <;> first | (intro _; rfl) | (intro h; exact absurd h (by decide))) (by cases b12 <;> first | (intro h; exact absurd h (by decide)) | (intro _; exact ⟨_, rfl, by first | (intro h; cases h; done) | decide | simp⟩)) (fun h => by
      cases b12 with
      | true => exact absurd h (by first | decide | simp)
      | false =>
        refine n_ibin rfl nrSbA0 nrSbA0 rfl ?_
        exact AOps.nil ⟨rfl, rfl, rfl⟩) ?_
  refine n_pick_or rfl nrSbA0 (fun h => by cases b12 with | true => exact absurd h (by decide) | false => exact nrSbA0) ?_
  refine n_move rfl nrSbA0 ?_
  refine AOps.name (u := 17) (fun z => .val (.bool z)) nrSbA0 (fun b17 hb17 => ?_)
  refine n_soft (u := 17) (E := .val (.bool b17)) (!b17) rfl rfl rfl nrSbA0 (by cases b17 <;> first | (intro _; rfl) | (intro h; exact absurd h (by decide))) (by cases b17 <;> first | (intro h; exact absurd h (by decide)) | (intro _; exact ⟨_, rfl, by first | (intro h; cases h; done) | decide | simp⟩)) (fun h => by
      cases b17 with
      | true => exact absurd h (by first | decide | simp)
      | false =>
        refine n_fieldAddr rfl fd157_0 ti2 rfl nrSbA0 rfl nrSbA0 ?_
        exact AOps.nil ⟨rfl, rfl, rfl⟩) ?_
  refine n_soft (u := 17) (E := .val (.bool b17)) (!b17) rfl rfl rfl nrSbA0 (by cases b17 <;> first | (intro _; rfl) | (intro h; exact absurd h (by decide))) (by cases b17 <;> first | (intro h; exact absurd h (by decide)) | (intro _; exact ⟨_, rfl, by first | (intro h; cases h; done) | decide | simp⟩)) (fun h => by
      cases b17 with
      | true => exact absurd h (by first | decide | simp)
      | false =>
        refine n_load rfl ti2 nrSbA0 nrSbA0 rfl nrSbA0 ?_
        exact AOps.nil ⟨rfl, rfl, rfl⟩) ?_
  refine n_soft (u := 17) (E := .val (.bool b17)) (!b17) rfl rfl rfl nrSbA0 (by cases b17 <;> first | (intro _; rfl) | (intro h; exact absurd h (by decide))) (by cases b17 <;> first | (intro h; exact absurd h (by decide)) | (intro _; exact ⟨_, rfl, by first | (intro h; cases h; done) | decide | simp⟩)) (fun h => by
      cases b17 with
      | true => exact absurd h (by first | decide | simp)
      | false =>
        refine n_fieldAddr rfl fd141_1 ti2 rfl nrSbA0 rfl nrSbA0 ?_
        exact AOps.nil ⟨rfl, rfl, rfl⟩) ?_
  refine n_soft (u := 17) (E := .val (.bool b17)) (!b17) rfl rfl rfl nrSbA0 (by cases b17 <;> first | (intro _; rfl) | (intro h; exact absurd h (by decide))) (by cases b17 <;> first | (intro h; exact absurd h (by decide)) | (intro _; exact ⟨_, rfl, by first | (intro h; cases h; done) | decide | simp⟩)) (fun h => by
      cases b17 with
      | true => exact absurd h (by first | decide | simp)
      | false =>
        refine n_load rfl ti2 nrSbA0 nrSbA0 rfl nrSbA0 ?_
        exact AOps.nil ⟨rfl, rfl, rfl⟩) ?_
  refine n_soft (u := 17) (E := .val (.bool b17)) (!b17) rfl rfl rfl nrSbA0 (by cases b17 <;> first | (intro _; rfl) | (intro h; exact absurd h (by decide))) (by cases b17 <;> first | (intro h; exact absurd h (by decide)) | (intro _; exact ⟨_, rfl, by first | (intro h; cases h; done) | decide | simp⟩)) (fun h => by
      cases b17 with
      | true => exact absurd h (by first | decide | simp)
      | false =>
        refine n_ibin rfl nrSbA0 nrSbA0 rfl ?_
        exact AOps.nil ⟨rfl, rfl, rfl⟩) ?_
  refine n_pick_or rfl nrSbA0 (fun h => by cases b17 with | true => exact absurd h (by decide) | false => exact nrSbA0) ?_
  subst hb12
  subst hb17
  refine AOps.nil ?_
  refine AWP.cond nrSbA0 (fun hc1 => ?_) (fun hc1 => ?_)
  · try simp only [nh] at hc1
    have hz : x.take y = (x, [], false) := by unfold Ss.take; rw [if_pos (by simp at hc1; grind)]
    refine AWP.seq ?_
    refine AWP.region ?_
    refine n_load rfl ti141 nrSbA0 nrSbA0 rfl nrSbA0 ?_
    refine n_store ti141 nrSbA0 rfl nrSbA0 rfl nrSbA0 rfl rfl rfl nrSbA0 ?_
    refine n_assign rfl nrSbA0 ?_
    refine n_assign rfl nrSbA0 ?_
    refine AOps.nil ?_
    refine AWP.ret ?_
    refine fin_pure (.cons (rv_cell ti141 nrSbA0 nrSbA0 rfl nrSbA0) (.cons (rv_tmp nrSbA0) (.cons (rv_tmp nrSbA0) .nil))) nrSbA0 ?_
    rw [hz]; exact .tup rfl (RenAll.get (.cons (ren_q0 rfl) (.cons (by first | exact ren_bys0 rfl | exact ren_ints) (.cons (ren_flat rfl rfl) .nil))))
  · try simp only [nh] at hc1
    have hg1 : ¬ (x.chk ≠ 0 ∨ y.chk ≠ 0 ∨ y.b < x.p) := by simp at hc1; grind
    have hm := Ss.chk0.1 (show x.chk = 0 by simp at hg1; exact hg1.1)
    have hn := Pq.chk0.1 (show y.chk = 0 by simp at hg1; exact hg1.2.1)
    unfold Ss.may at hm
    unfold Pq.may at hn
    refine AWP.skip ?_
    refine AWP.seq ?_
    refine AWP.seq ?_
    refine AWP.region ?_
    refine n_fieldAddr rfl fd157_0 ti2 rfl nrSbA0 rfl nrSbA0 ?_
    refine n_load rfl ti2 nrSbA0 nrSbA0 rfl nrSbA0 ?_
    refine n_fieldAddr rfl fd141_1 ti2 rfl nrSbA0 rfl nrSbA0 ?_
    refine n_load rfl ti2 nrSbA0 nrSbA0 rfl nrSbA0 ?_
    refine n_ibin rfl nrSbA0 nrSbA0 rfl ?_
    refine AOps.nil ?_
    refine AWP.cond nrSbA0 (fun hc2 => ?_) (fun hc2 => ?_)
    · try simp only [nh] at hc2
      have hme : x.meet y = ⟨x.b, y.b, 0, 0, 1⟩ := by unfold Ss.meet; rw [if_pos hc2]
      refine AWP.region ?_
      refine n_fieldAddr rfl fd157_0 ti2 rfl nrSbA0 rfl nrSbA0 ?_
      refine n_load rfl ti2 nrSbA0 nrSbA0 rfl nrSbA0 ?_
      refine n_fieldAddr rfl fd141_1 ti2 rfl nrSbA0 rfl nrSbA0 ?_
      refine n_store ti2 nrSbA0 rfl nrSbA0 rfl nrSbA0 rfl rfl rfl nrSbA0 ?_
      refine n_fieldAddr rfl fd141_2 ti2 rfl nrSbA0 rfl nrSbA0 ?_
      refine n_store ti2 nrSbA0 rfl nrSbA0 rfl nrSbA0 rfl rfl rfl nrSbA0 ?_
      refine n_fieldAddr rfl fd141_3 ti2 rfl nrSbA0 rfl nrSbA0 ?_
      refine n_store ti2 nrSbA0 rfl nrSbA0 rfl nrSbA0 rfl rfl rfl nrSbA0 ?_
      refine n_fieldAddr rfl fd141_4 ti2 rfl nrSbA0 rfl nrSbA0 ?_
      refine n_store ti2 nrSbA0 rfl nrSbA0 rfl nrSbA0 rfl rfl rfl nrSbA0 ?_
      refine n_fieldAddr rfl fd141_5 ti139 rfl nrSbA0 rfl nrSbA0 ?_
      refine n_store ti139 nrSbA0 rfl nrSbA0 rfl nrSbA0 rfl rfl rfl nrSbA0 ?_
      refine AOps.nil ?_
      refine AWP.seq ?_
      refine AWP.seq ?_
      refine AWP.region ?_
      refine n_fieldAddr rfl fd157_1 ti2 rfl nrSbA0 rfl nrSbA0 ?_
      refine n_load rfl ti2 nrSbA0 nrSbA0 rfl nrSbA0 ?_
      refine n_fieldAddr rfl fd141_0 ti2 rfl nrSbA0 rfl nrSbA0 ?_
      refine n_load rfl ti2 nrSbA0 nrSbA0 rfl nrSbA0 ?_
      refine n_ibin rfl nrSbA0 nrSbA0 rfl ?_
      refine AOps.nil ?_
      refine AWP.cond nrSbA0 (fun hc3 => ?_) (fun hc3 => ?_)
      · try simp only [nh] at hc3
        have hz : x.take y = (x.meet y, [], false) := by unfold Ss.take; rw [if_neg hg1, if_pos (by rw [hme]; exact hc3)]
        rw [hme] at hz
        refine AWP.seq ?_
        refine AWP.region ?_
        refine n_load rfl ti141 nrSbA0 nrSbA0 rfl nrSbA0 ?_
        refine n_store ti141 nrSbA0 rfl nrSbA0 rfl nrSbA0 rfl rfl rfl nrSbA0 ?_
        refine n_assign rfl nrSbA0 ?_
        refine n_assign rfl nrSbA0 ?_
        refine AOps.nil ?_
        refine AWP.ret ?_
        refine fin_pure (.cons (rv_cell ti141 nrSbA0 nrSbA0 rfl nrSbA0) (.cons (rv_tmp nrSbA0) (.cons (rv_tmp nrSbA0) .nil))) nrSbA0 ?_
        rw [hz]; exact .tup rfl (RenAll.get (.cons (ren_q0 rfl) (.cons (by first | exact ren_bys0 rfl | exact ren_ints) (.cons (ren_flat rfl rfl) .nil))))
      · try simp only [nh] at hc3
        have hg2 : ¬ y.p ≠ (x.meet y).b := by rw [hme]; simpa using hc3
        refine AWP.skip ?_
        refine AWP.seq ?_
        refine AWP.seq ?_
        refine AWP.region ?_
        refine n_fieldAddr rfl fd157_3 ti2 rfl nrSbA0 rfl nrSbA0 ?_
        refine n_load rfl ti2 nrSbA0 nrSbA0 rfl nrSbA0 ?_
        refine n_fieldAddr rfl fd141_3 ti2 rfl nrSbA0 rfl nrSbA0 ?_
        refine n_load rfl ti2 nrSbA0 nrSbA0 rfl nrSbA0 ?_
        refine n_ibin rfl nrSbA0 nrSbA0 rfl ?_
        refine n_move rfl nrSbA0 ?_
        refine AOps.name (u := 48) (fun z => .val (.bool z)) nrSbA0 (fun b48 hb48 => ?_)
        refine n_soft (u := 48) (E := .val (.bool b48)) (b48) rfl rfl rfl nrSbA0 (by cases b48 <;> first | (intro _; rfl) | (intro h; exact absurd h (by decide))) (by cases b48 <;> first | (intro h; exact absurd h (by decide)) | (intro _; exact ⟨_, rfl, by first | (intro h; cases h; done) | decide | simp⟩)) (fun h => by
            cases b48 with
            | false => exact absurd h (by first | decide | simp)
            | true =>
              refine n_fieldAddr rfl fd157_3 ti2 rfl nrSbA0 rfl nrSbA0 ?_
              exact AOps.nil ⟨rfl, rfl, rfl⟩) ?_
        refine n_soft (u := 48) (E := .val (.bool b48)) (b48) rfl rfl rfl nrSbA0 (by cases b48 <;> first | (intro _; rfl) | (intro h; exact absurd h (by decide))) (by cases b48 <;> first | (intro h; exact absurd h (by decide)) | (intro _; exact ⟨_, rfl, by first | (intro h; cases h; done) | decide | simp⟩)) (fun h => by
            cases b48 with
            | false => exact absurd h (by first | decide | simp)
            | true =>
              refine n_load rfl ti2 nrSbA0 nrSbA0 rfl nrSbA0 ?_
              exact AOps.nil ⟨rfl, rfl, rfl⟩) ?_
        refine n_soft (u := 48) (E := .val (.bool b48)) (b48) rfl rfl rfl nrSbA0 (by cases b48 <;> first | (intro _; rfl) | (intro h; exact absurd h (by decide))) (by cases b48 <;> first | (intro h; exact absurd h (by decide)) | (intro _; exact ⟨_, rfl, by first | (intro h; cases h; done) | decide | simp⟩)) (fun h => by
            cases b48 with
            | false => exact absurd h (by first | decide | simp)
            | true =>
              refine n_fieldAddr rfl fd141_2 ti2 rfl nrSbA0 rfl nrSbA0 ?_
              exact AOps.nil ⟨rfl, rfl, rfl⟩) ?_
        refine n_soft (u := 48) (E := .val (.bool b48)) (b48) rfl rfl rfl nrSbA0 (by cases b48 <;> first | (intro _; rfl) | (intro h; exact absurd h (by decide))) (by cases b48 <;> first | (intro h; exact absurd h (by decide)) | (intro _; exact ⟨_, rfl, by first | (intro h; cases h; done) | decide | simp⟩)) (fun h => by
            cases b48 with
            | false => exact absurd h (by first | decide | simp)
            | true =>
              refine n_load rfl ti2 nrSbA0 nrSbA0 rfl nrSbA0 ?_
              exact AOps.nil ⟨rfl, rfl, rfl⟩) ?_
        refine n_soft (u := 48) (E := .val (.bool b48)) (b48) rfl rfl rfl nrSbA0 (by cases b48 <;> first | (intro _; rfl) | (intro h; exact absurd h (by decide))) (by cases b48 <;> first | (intro h; exact absurd h (by decide)) | (intro _; exact ⟨_, rfl, by first | (intro h; cases h; done) | decide | simp⟩)) (fun h => by
            cases b48 with
            | false => exact absurd h (by first | decide | simp)
            | true =>
              refine n_ibin rfl nrSbA0 nrSbA0 rfl ?_
              exact AOps.nil ⟨rfl, rfl, rfl⟩) ?_
        refine n_pick_and rfl nrSbA0 (fun h => by cases b48 with | false => exact absurd h (by decide) | true => exact nrSbA0) ?_
        subst hb48
        refine AOps.nil ?_
        refine AWP.cond nrSbA0 (fun hc4 => ?_) (fun hc4 => ?_)
        · try simp only [nh] at hc4
          exfalso
          simp at hc4
          omega
        · try simp only [nh] at hc4
          refine AWP.skip ?_
          refine AWP.seq ?_
          refine AWP.seq ?_
          refine AWP.region ?_
          refine n_fieldAddr rfl fd157_2 ti2 rfl nrSbA0 rfl nrSbA0 ?_
          refine n_load rfl ti2 nrSbA0 nrSbA0 rfl nrSbA0 ?_
          refine n_fieldAddr rfl fd141_4 ti2 rfl nrSbA0 rfl nrSbA0 ?_
          refine n_load rfl ti2 nrSbA0 nrSbA0 rfl nrSbA0 ?_
          refine n_ibin rfl nrSbA0 nrSbA0 rfl ?_
          refine n_move rfl nrSbA0 ?_
          refine AOps.name (u := 73) (fun z => .val (.bool z)) nrSbA0 (fun b73 hb73 => ?_)
          refine n_soft (u := 73) (E := .val (.bool b73)) (!b73) rfl rfl rfl nrSbA0 (by cases b73 <;> first | (intro _; rfl) | (intro h; exact absurd h (by decide))) (by cases b73 <;> first | (intro h; exact absurd h (by decide)) | (intro _; exact ⟨_, rfl, by first | (intro h; cases h; done) | decide | simp⟩)) (fun h => by
              cases b73 with
              | true => exact absurd h (by first | decide | simp)
              | false =>
                refine n_fieldAddr rfl fd141_4 ti2 rfl nrSbA0 rfl nrSbA0 ?_
                exact AOps.nil ⟨rfl, rfl, rfl⟩) ?_
          refine n_soft (u := 73) (E := .val (.bool b73)) (!b73) rfl rfl rfl nrSbA0 (by cases b73 <;> first | (intro _; rfl) | (intro h; exact absurd h (by decide))) (by cases b73 <;> first | (intro h; exact absurd h (by decide)) | (intro _; exact ⟨_, rfl, by first | (intro h; cases h; done) | decide | simp⟩)) (fun h => by
              cases b73 with
              | true => exact absurd h (by first | decide | simp)
              | false =>
                refine n_load rfl ti2 nrSbA0 nrSbA0 rfl nrSbA0 ?_
                exact AOps.nil ⟨rfl, rfl, rfl⟩) ?_
          refine n_soft (u := 73) (E := .val (.bool b73)) (!b73) rfl rfl rfl nrSbA0 (by cases b73 <;> first | (intro _; rfl) | (intro h; exact absurd h (by decide))) (by cases b73 <;> first | (intro h; exact absurd h (by decide)) | (intro _; exact ⟨_, rfl, by first | (intro h; cases h; done) | decide | simp⟩)) (fun h => by
              cases b73 with
              | true => exact absurd h (by first | decide | simp)
              | false =>
                refine n_ibin rfl nrSbA0 nrSbA0 rfl ?_
                exact AOps.nil ⟨rfl, rfl, rfl⟩) ?_
          refine n_pick_or rfl nrSbA0 (fun h => by cases b73 with | true => exact absurd h (by decide) | false => exact nrSbA0) ?_
          subst hb73
          refine AOps.nil ?_
          refine AWP.cond nrSbA0 (fun hc5 => ?_) (fun hc5 => ?_)
          · try simp only [nh] at hc5
            have hz : x.take y = (x.meet y, [], false) := by unfold Ss.take; rw [if_neg hg1, if_neg hg2, if_pos (by rw [hme]; simp at hc5; grind)]
            rw [hme] at hz
            refine AWP.seq ?_
            refine AWP.region ?_
            refine n_load rfl ti141 nrSbA0 nrSbA0 rfl nrSbA0 ?_
            refine n_store ti141 nrSbA0 rfl nrSbA0 rfl nrSbA0 rfl rfl rfl nrSbA0 ?_
            refine n_assign rfl nrSbA0 ?_
            refine n_assign rfl nrSbA0 ?_
            refine AOps.nil ?_
            refine AWP.ret ?_
            refine fin_pure (.cons (rv_cell ti141 nrSbA0 nrSbA0 rfl nrSbA0) (.cons (rv_tmp nrSbA0) (.cons (rv_tmp nrSbA0) .nil))) nrSbA0 ?_
            rw [hz]; exact .tup rfl (RenAll.get (.cons (ren_q0 rfl) (.cons (by first | exact ren_bys0 rfl | exact ren_ints) (.cons (ren_flat rfl rfl) .nil))))
          · try simp only [nh] at hc5
            have hg3 : ¬ (y.s ≠ (x.meet y).e ∨ (x.meet y).e ≥ 9007199254740992) := by rw [hme]; simp at hc5 ⊢; grind
            have hz : x.take y = (⟨(x.meet y).b, (x.meet y).p, (x.meet y).s, (x.meet y).a, (x.meet y).e + 1⟩, y.l, true) := by unfold Ss.take; rw [if_neg hg1, if_neg hg2, if_neg hg3]
            rw [hme] at hz
            refine AWP.skip ?_
            refine AWP.seq ?_
            refine AWP.region ?_
            refine n_fieldAddr rfl fd141_4 ti2 rfl nrSbA0 rfl nrSbA0 ?_
            refine n_load rfl ti2 nrSbA0 nrSbA0 rfl nrSbA0 ?_
            first | refine n_iadd rfl nrSbA0 nrSbA0 rfl (by omega) (by omega) ?_ | refine n_ibin rfl nrSbA0 nrSbA0 rfl ?_
            refine n_fieldAddr rfl fd141_4 ti2 rfl nrSbA0 rfl nrSbA0 ?_
            refine n_store ti2 nrSbA0 rfl nrSbA0 rfl nrSbA0 rfl rfl rfl nrSbA0 ?_
            refine AOps.nil ?_
            refine AWP.seq ?_
            refine AWP.any1 4 [.box [vi x.b, vi y.b, vi 0, vi 0, vi 2, .sl (some true) [] .full], .box (pqz y), .box [vi x.b, vi y.b, vi 0, vi 0, vi 2, .sl (some true) [] .full], .row 0 1] (by kernel_rfl) (by kernel_rfl) (by kernel_rfl) ?_
            refine Walk.ahead [4] (by rfl) (by kernel_rfl) (by rfl) (rs := [2]) (by rfl) nrSbA0 (fun base => by
                refine n_load rfl ti141 nrSbA0 nrSbA0 rfl nrSbA0 ?_
                exact AOps.nil ⟨rfl, rfl, rfl⟩) ?_
            refine Walk.ahead [2, 3, 4] (by rfl) (by kernel_rfl) (by rfl) (rs := [3]) (by rfl) nrSbA0 (fun base => by
                refine n_fieldAddr rfl fd157_4 ti22 rfl nrSbA0 rfl nrSbA0 ?_
                exact AOps.nil ⟨rfl, rfl, rfl⟩) ?_
            refine Walk.ahead [3, 4] (by rfl) (by kernel_rfl) (by rfl) (rs := [84]) (by rfl) nrSbA0 (fun base => by
                refine n_load rfl ti22 nrSbA0 nrSbA0 rfl nrSbA0 ?_
                exact AOps.nil ⟨rfl, rfl, rfl⟩) ?_
            refine Walk.ahead [4] (by rfl) (by kernel_rfl) (by rfl) (rs := [85]) (by rfl) nrSbA0 (fun base => by
                refine n_call0B rfl cf95 rfl (Eq.trans (by simp only [nl] <;> rfl) nrSbA0) (by repeat (first | exact .nil | refine .cons ?_ ?_ | exact ren_ints | exact .lf (.val _) | exact .lf (lf_ints (.inl rfl)) | exact .bp ⟨rfl, rfl⟩ | exact .bp (.inl ⟨rfl, rfl⟩) | exact .bp (.inr ⟨rfl, rfl⟩) | exact ren_bys0 rfl | exact .lf (D.flat_lf rfl) | exact ren_lits rfl | exact .lf (lf_ssz _) | exact .lf (lf_pqz _) | exact ren_q0 rfl | exact ren_pq rfl | exact ren_nl0 | exact ren_sq | exact .lf (.fn (fun d h => by cases h) (fun d h => by cases h)))) (b_clone y.l hl) lfSbA0 ?_
                exact AOps.nil ⟨rfl, rfl, rfl⟩) ?_
            refine Walk.writes (d := .any) (by rfl) (rs := [4, 83]) (by rfl) nrSbA0 (fun base => by
                refine n_store ti141 nrSbA0 rfl nrSbA0 rfl nrSbA0 rfl rfl rfl nrSbA0 ?_
                exact AOps.nil ⟨rfl, rfl, rfl⟩) ?_
            refine Walk.behind [5] (by rfl) (by rfl) (by kernel_rfl) (by rfl) (rs := [86]) (by rfl) nrSbA0 (fun base => by
                refine n_assign rfl nrSbA0 ?_
                exact AOps.nil ⟨rfl, rfl, rfl⟩) ?_
            refine Walk.behind [6] (by rfl) (by rfl) (by kernel_rfl) (by rfl) (rs := []) (by rfl) nrSbA0 (fun base => by
                refine n_assign rfl nrSbA0 ?_
                exact AOps.nil ⟨rfl, rfl, rfl⟩) ?_
            refine Walk.done ?_
            refine AWP.ret ?_
            refine fin_pure (.cons (rv_cell ti141 nrSbA0 nrSbA0 rfl nrSbA0) (.cons (rv_tmp nrSbA0) (.cons (rv_tmp nrSbA0) .nil))) nrSbA0 ?_
            rw [hz]; exact .tup rfl (RenAll.get (.cons (ren_q0 rfl) (.cons (by first | exact ren_bys0 rfl | exact ren_ints) (.cons (ren_flat rfl rfl) .nil))))
    · try simp only [nh] at hc2
      have hme : x.meet y = x := by unfold Ss.meet; rw [if_neg hc2]
      refine AWP.skip ?_
      refine AWP.seq ?_
      refine AWP.seq ?_
      refine AWP.region ?_
      refine n_fieldAddr rfl fd157_1 ti2 rfl nrSbA0 rfl nrSbA0 ?_
      refine n_load rfl ti2 nrSbA0 nrSbA0 rfl nrSbA0 ?_
      refine n_fieldAddr rfl fd141_0 ti2 rfl nrSbA0 rfl nrSbA0 ?_
      refine n_load rfl ti2 nrSbA0 nrSbA0 rfl nrSbA0 ?_
      refine n_ibin rfl nrSbA0 nrSbA0 rfl ?_
      refine AOps.nil ?_
      refine AWP.cond nrSbA0 (fun hc6 => ?_) (fun hc6 => ?_)
      · try simp only [nh] at hc6
        have hz : x.take y = (x.meet y, [], false) := by unfold Ss.take; rw [if_neg hg1, if_pos (by rw [hme]; exact hc6)]
        rw [hme] at hz
        refine AWP.seq ?_
        refine AWP.region ?_
        refine n_load rfl ti141 nrSbA0 nrSbA0 rfl nrSbA0 ?_
        refine n_store ti141 nrSbA0 rfl nrSbA0 rfl nrSbA0 rfl rfl rfl nrSbA0 ?_
        refine n_assign rfl nrSbA0 ?_
        refine n_assign rfl nrSbA0 ?_
        refine AOps.nil ?_
        refine AWP.ret ?_
        refine fin_pure (.cons (rv_cell ti141 nrSbA0 nrSbA0 rfl nrSbA0) (.cons (rv_tmp nrSbA0) (.cons (rv_tmp nrSbA0) .nil))) nrSbA0 ?_
        rw [hz]; exact .tup rfl (RenAll.get (.cons (ren_q0 rfl) (.cons (by first | exact ren_bys0 rfl | exact ren_ints) (.cons (ren_flat rfl rfl) .nil))))
      · try simp only [nh] at hc6
        have hg2 : ¬ y.p ≠ (x.meet y).b := by rw [hme]; simpa using hc6
        refine AWP.skip ?_
        refine AWP.seq ?_
        refine AWP.seq ?_
        refine AWP.region ?_
        refine n_fieldAddr rfl fd157_3 ti2 rfl nrSbA0 rfl nrSbA0 ?_
        refine n_load rfl ti2 nrSbA0 nrSbA0 rfl nrSbA0 ?_
        refine n_fieldAddr rfl fd141_3 ti2 rfl nrSbA0 rfl nrSbA0 ?_
        refine n_load rfl ti2 nrSbA0 nrSbA0 rfl nrSbA0 ?_
        refine n_ibin rfl nrSbA0 nrSbA0 rfl ?_
        refine n_move rfl nrSbA0 ?_
        refine AOps.name (u := 48) (fun z => .val (.bool z)) nrSbA0 (fun b48 hb48 => ?_)
        refine n_soft (u := 48) (E := .val (.bool b48)) (b48) rfl rfl rfl nrSbA0 (by cases b48 <;> first | (intro _; rfl) | (intro h; exact absurd h (by decide))) (by cases b48 <;> first | (intro h; exact absurd h (by decide)) | (intro _; exact ⟨_, rfl, by first | (intro h; cases h; done) | decide | simp⟩)) (fun h => by
            cases b48 with
            | false => exact absurd h (by first | decide | simp)
            | true =>
              refine n_fieldAddr rfl fd157_3 ti2 rfl nrSbA0 rfl nrSbA0 ?_
              exact AOps.nil ⟨rfl, rfl, rfl⟩) ?_
        refine n_soft (u := 48) (E := .val (.bool b48)) (b48) rfl rfl rfl nrSbA0 (by cases b48 <;> first | (intro _; rfl) | (intro h; exact absurd h (by decide))) (by cases b48 <;> first | (intro h; exact absurd h (by decide)) | (intro _; exact ⟨_, rfl, by first | (intro h; cases h; done) | decide | simp⟩)) (fun h => by
            cases b48 with
            | false => exact absurd h (by first | decide | simp)
            | true =>
              refine n_load rfl ti2 nrSbA0 nrSbA0 rfl nrSbA0 ?_
              exact AOps.nil ⟨rfl, rfl, rfl⟩) ?_
        refine n_soft (u := 48) (E := .val (.bool b48)) (b48) rfl rfl rfl nrSbA0 (by cases b48 <;> first | (intro _; rfl) | (intro h; exact absurd h (by decide))) (by cases b48 <;> first | (intro h; exact absurd h (by decide)) | (intro _; exact ⟨_, rfl, by first | (intro h; cases h; done) | decide | simp⟩)) (fun h => by
            cases b48 with
            | false => exact absurd h (by first | decide | simp)
            | true =>
              refine n_fieldAddr rfl fd141_2 ti2 rfl nrSbA0 rfl nrSbA0 ?_
              exact AOps.nil ⟨rfl, rfl, rfl⟩) ?_
        refine n_soft (u := 48) (E := .val (.bool b48)) (b48) rfl rfl rfl nrSbA0 (by cases b48 <;> first | (intro _; rfl) | (intro h; exact absurd h (by decide))) (by cases b48 <;> first | (intro h; exact absurd h (by decide)) | (intro _; exact ⟨_, rfl, by first | (intro h; cases h; done) | decide | simp⟩)) (fun h => by
            cases b48 with
            | false => exact absurd h (by first | decide | simp)
            | true =>
              refine n_load rfl ti2 nrSbA0 nrSbA0 rfl nrSbA0 ?_
              exact AOps.nil ⟨rfl, rfl, rfl⟩) ?_
        refine n_soft (u := 48) (E := .val (.bool b48)) (b48) rfl rfl rfl nrSbA0 (by cases b48 <;> first | (intro _; rfl) | (intro h; exact absurd h (by decide))) (by cases b48 <;> first | (intro h; exact absurd h (by decide)) | (intro _; exact ⟨_, rfl, by first | (intro h; cases h; done) | decide | simp⟩)) (fun h => by
            cases b48 with
            | false => exact absurd h (by first | decide | simp)
            | true =>
              refine n_ibin rfl nrSbA0 nrSbA0 rfl ?_
              exact AOps.nil ⟨rfl, rfl, rfl⟩) ?_
        refine n_pick_and rfl nrSbA0 (fun h => by cases b48 with | false => exact absurd h (by decide) | true => exact nrSbA0) ?_
        subst hb48
        refine AOps.nil ?_
        refine AWP.cond nrSbA0 (fun hc7 => ?_) (fun hc7 => ?_)
        · try simp only [nh] at hc7
          exfalso
          simp at hc7
          omega
        · try simp only [nh] at hc7
          refine AWP.skip ?_
          refine AWP.seq ?_
          refine AWP.seq ?_
          refine AWP.region ?_
          refine n_fieldAddr rfl fd157_2 ti2 rfl nrSbA0 rfl nrSbA0 ?_
          refine n_load rfl ti2 nrSbA0 nrSbA0 rfl nrSbA0 ?_
          refine n_fieldAddr rfl fd141_4 ti2 rfl nrSbA0 rfl nrSbA0 ?_
          refine n_load rfl ti2 nrSbA0 nrSbA0 rfl nrSbA0 ?_
          refine n_ibin rfl nrSbA0 nrSbA0 rfl ?_
          refine n_move rfl nrSbA0 ?_
          refine AOps.name (u := 73) (fun z => .val (.bool z)) nrSbA0 (fun b73 hb73 => ?_)
          refine n_soft (u := 73) (E := .val (.bool b73)) (!b73) rfl rfl rfl nrSbA0 (by cases b73 <;> first | (intro _; rfl) | (intro h; exact absurd h (by decide))) (by cases b73 <;> first | (intro h; exact absurd h (by decide)) | (intro _; exact ⟨_, rfl, by first | (intro h; cases h; done) | decide | simp⟩)) (fun h => by
              cases b73 with
              | true => exact absurd h (by first | decide | simp)
              | false =>
                refine n_fieldAddr rfl fd141_4 ti2 rfl nrSbA0 rfl nrSbA0 ?_
                exact AOps.nil ⟨rfl, rfl, rfl⟩) ?_
          refine n_soft (u := 73) (E := .val (.bool b73)) (!b73) rfl rfl rfl nrSbA0 (by cases b73 <;> first | (intro _; rfl) | (intro h; exact absurd h (by decide))) (by cases b73 <;> first | (intro h; exact absurd h (by decide)) | (intro _; exact ⟨_, rfl, by first | (intro h; cases h; done) | decide | simp⟩)) (fun h => by
              cases b73 with
              | true => exact absurd h (by first | decide | simp)
              | false =>
                refine n_load rfl ti2 nrSbA0 nrSbA0 rfl nrSbA0 ?_
                exact AOps.nil ⟨rfl, rfl, rfl⟩) ?_
          refine n_soft (u := 73) (E := .val (.bool b73)) (!b73) rfl rfl rfl nrSbA0 (by cases b73 <;> first | (intro _; rfl) | (intro h; exact absurd h (by decide))) (by cases b73 <;> first | (intro h; exact absurd h (by decide)) | (intro _; exact ⟨_, rfl, by first | (intro h; cases h; done) | decide | simp⟩)) (fun h => by
              cases b73 with
              | true => exact absurd h (by first | decide | simp)
              | false =>
                refine n_ibin rfl nrSbA0 nrSbA0 rfl ?_
                exact AOps.nil ⟨rfl, rfl, rfl⟩) ?_
          refine n_pick_or rfl nrSbA0 (fun h => by cases b73 with | true => exact absurd h (by decide) | false => exact nrSbA0) ?_
          subst hb73
          refine AOps.nil ?_
          refine AWP.cond nrSbA0 (fun hc8 => ?_) (fun hc8 => ?_)
          · try simp only [nh] at hc8
            have hz : x.take y = (x.meet y, [], false) := by unfold Ss.take; rw [if_neg hg1, if_neg hg2, if_pos (by rw [hme]; simp at hc8; grind)]
            rw [hme] at hz
            refine AWP.seq ?_
            refine AWP.region ?_
            refine n_load rfl ti141 nrSbA0 nrSbA0 rfl nrSbA0 ?_
            refine n_store ti141 nrSbA0 rfl nrSbA0 rfl nrSbA0 rfl rfl rfl nrSbA0 ?_
            refine n_assign rfl nrSbA0 ?_
            refine n_assign rfl nrSbA0 ?_
            refine AOps.nil ?_
            refine AWP.ret ?_
            refine fin_pure (.cons (rv_cell ti141 nrSbA0 nrSbA0 rfl nrSbA0) (.cons (rv_tmp nrSbA0) (.cons (rv_tmp nrSbA0) .nil))) nrSbA0 ?_
            rw [hz]; exact .tup rfl (RenAll.get (.cons (ren_q0 rfl) (.cons (by first | exact ren_bys0 rfl | exact ren_ints) (.cons (ren_flat rfl rfl) .nil))))
          · try simp only [nh] at hc8
            have hg3 : ¬ (y.s ≠ (x.meet y).e ∨ (x.meet y).e ≥ 9007199254740992) := by rw [hme]; simp at hc8 ⊢; grind
            have hz : x.take y = (⟨(x.meet y).b, (x.meet y).p, (x.meet y).s, (x.meet y).a, (x.meet y).e + 1⟩, y.l, true) := by unfold Ss.take; rw [if_neg hg1, if_neg hg2, if_neg hg3]
            rw [hme] at hz
            refine AWP.skip ?_
            refine AWP.seq ?_
            refine AWP.region ?_
            refine n_fieldAddr rfl fd141_4 ti2 rfl nrSbA0 rfl nrSbA0 ?_
            refine n_load rfl ti2 nrSbA0 nrSbA0 rfl nrSbA0 ?_
            first | refine n_iadd rfl nrSbA0 nrSbA0 rfl (by omega) (by omega) ?_ | refine n_ibin rfl nrSbA0 nrSbA0 rfl ?_
            refine n_fieldAddr rfl fd141_4 ti2 rfl nrSbA0 rfl nrSbA0 ?_
            refine n_store ti2 nrSbA0 rfl nrSbA0 rfl nrSbA0 rfl rfl rfl nrSbA0 ?_
            refine AOps.nil ?_
            refine AWP.seq ?_
            refine AWP.any1 4 [.box [vi x.b, vi x.p, vi x.s, vi x.a, vi (x.e + 1), .sl none [] (.own 3)], .box (pqz y), .box [vi x.b, vi x.p, vi x.s, vi x.a, vi (x.e + 1), .sl none [] (.own 3)], .row 0 1] (by kernel_rfl) (by kernel_rfl) (by kernel_rfl) ?_
            refine Walk.ahead [4] (by rfl) (by kernel_rfl) (by rfl) (rs := [2]) (by rfl) nrSbA0 (fun base => by
                refine n_load rfl ti141 nrSbA0 nrSbA0 rfl nrSbA0 ?_
                exact AOps.nil ⟨rfl, rfl, rfl⟩) ?_
            refine Walk.ahead [2, 3, 4] (by rfl) (by kernel_rfl) (by rfl) (rs := [3]) (by rfl) nrSbA0 (fun base => by
                refine n_fieldAddr rfl fd157_4 ti22 rfl nrSbA0 rfl nrSbA0 ?_
                exact AOps.nil ⟨rfl, rfl, rfl⟩) ?_
            refine Walk.ahead [3, 4] (by rfl) (by kernel_rfl) (by rfl) (rs := [84]) (by rfl) nrSbA0 (fun base => by
                refine n_load rfl ti22 nrSbA0 nrSbA0 rfl nrSbA0 ?_
                exact AOps.nil ⟨rfl, rfl, rfl⟩) ?_
            refine Walk.ahead [4] (by rfl) (by kernel_rfl) (by rfl) (rs := [85]) (by rfl) nrSbA0 (fun base => by
                refine n_call0B rfl cf95 rfl (Eq.trans (by simp only [nl] <;> rfl) nrSbA0) (by repeat (first | exact .nil | refine .cons ?_ ?_ | exact ren_ints | exact .lf (.val _) | exact .lf (lf_ints (.inl rfl)) | exact .bp ⟨rfl, rfl⟩ | exact .bp (.inl ⟨rfl, rfl⟩) | exact .bp (.inr ⟨rfl, rfl⟩) | exact ren_bys0 rfl | exact .lf (D.flat_lf rfl) | exact ren_lits rfl | exact .lf (lf_ssz _) | exact .lf (lf_pqz _) | exact ren_q0 rfl | exact ren_pq rfl | exact ren_nl0 | exact ren_sq | exact .lf (.fn (fun d h => by cases h) (fun d h => by cases h)))) (b_clone y.l hl) lfSbA0 ?_
                exact AOps.nil ⟨rfl, rfl, rfl⟩) ?_
            refine Walk.writes (d := .any) (by rfl) (rs := [4, 83]) (by rfl) nrSbA0 (fun base => by
                refine n_store ti141 nrSbA0 rfl nrSbA0 rfl nrSbA0 rfl rfl rfl nrSbA0 ?_
                exact AOps.nil ⟨rfl, rfl, rfl⟩) ?_
            refine Walk.behind [5] (by rfl) (by rfl) (by kernel_rfl) (by rfl) (rs := [86]) (by rfl) nrSbA0 (fun base => by
                refine n_assign rfl nrSbA0 ?_
                exact AOps.nil ⟨rfl, rfl, rfl⟩) ?_
            refine Walk.behind [6] (by rfl) (by rfl) (by kernel_rfl) (by rfl) (rs := []) (by rfl) nrSbA0 (fun base => by
                refine n_assign rfl nrSbA0 ?_
                exact AOps.nil ⟨rfl, rfl, rfl⟩) ?_
            refine Walk.done ?_
            refine AWP.ret ?_
            refine fin_pure (.cons (rv_cell ti141 nrSbA0 nrSbA0 rfl nrSbA0) (.cons (rv_tmp nrSbA0) (.cons (rv_tmp nrSbA0) .nil))) nrSbA0 ?_
            rw [hz]; exact .tup rfl (RenAll.get (.cons (ren_q0 rfl) (.cons (by first | exact ren_bys0 rfl | exact ren_ints) (.cons (ren_flat rfl rfl) .nil))))

end Go.Proofs.Ytanfmpkjcoolmaa.Sb
