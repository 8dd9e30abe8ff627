/- Sessions with what is under way. -/
import Derived.Test.YtanfmpkjcoolmaaScA
import Derived.Test.YtanfmpkjcoolmaaSessQPlain
set_option linter.unusedVariables false
set_option linter.unusedSimpArgs false
namespace Go.Proofs.Ytanfmpkjcoolmaa.Sd
open Go Go.Abs Go.Proofs.Ytanfmpkjcoolmaa.Pk Sb Sc
attribute [local irreducible] AWP AOps Does

theorem nrSdA0 {α : Type} {a b : α} (h : a = b := by first|simp only[nf,nfS,Nat.beq]<;>rfl|rfl) : a = b := h
theorem lfSdA0 {d : D} (h : LF d := by first | exact .val _ | exact lf_ints (.inl rfl) | exact lf_ints (.inr rfl) | exact .any | exact lf_sqz _ | exact lf_qe (.inl rfl) | exact .agg (lf_cons (.val _) (lf_cons (.val _) (lf_cons (.val _) (lf_cons (.val _) (lf_cons (.val _) (lf_cons (lf_qe (.inl rfl)) lf_nil)))))) | exact D.flat_lf rfl | exact lf_ssz _ | exact lf_pqz _ | exact lf_nl0 | exact .tup (lf_cons (lf_ssz _) (lf_cons (.val _) lf_nil)) | exact .tup (lf_cons (lf_pqz _) (lf_cons (.val _) lf_nil)) | exact .tup (lf_cons (lf_ints (.inl rfl)) (lf_cons (.val _) lf_nil)) | exact .tup (lf_cons (lf_ssz _) (lf_cons (lf_ints (.inl rfl)) (lf_cons (.val _) lf_nil))) | exact .tup (lf_cons (lf_ssz _) (lf_cons (lf_ssz _) (lf_cons (.val _) lf_nil))) | exact lf_sent) : LF d := h
theorem lfSdA1 {d : D} (h : LF d := by first | exact .val _ | exact lf_ints (.inl rfl) | exact lf_ints (.inr rfl) | exact .any | exact lf_fnrp (sqz_lf _) | exact lf_sqz _ | exact lf_qe (.inl rfl) | exact .agg (lf_cons (.val _) (lf_cons (.val _) (lf_cons (.val _) (lf_cons (.val _) (lf_cons (.val _) (lf_cons (lf_qe (.inl rfl)) lf_nil)))))) | exact D.flat_lf rfl | exact lf_ssz _ | exact lf_pqz _ | exact lf_nl0 | exact .tup (lf_cons (lf_ssz _) (lf_cons (.val _) lf_nil)) | exact .tup (lf_cons (lf_pqz _) (lf_cons (.val _) lf_nil)) | exact .tup (lf_cons (lf_ints (.inl rfl)) (lf_cons (.val _) lf_nil)) | exact .tup (lf_cons (lf_ssz _) (lf_cons (lf_ints (.inl rfl)) (lf_cons (.val _) lf_nil))) | exact .tup (lf_cons (lf_ssz _) (lf_cons (lf_ssz _) (lf_cons (.val _) lf_nil))) | exact lf_sent) : LF d := h
theorem cf156 : CF Try.prog 156 := ⟨_, Try.func156, by kernel_rfl, by kernel_rfl⟩
theorem cf212 : CF Try.prog 212 := ⟨_, Try.func212, by kernel_rfl, by kernel_rfl⟩
theorem cf213 : CF Try.prog 213 := ⟨_, Try.func213, by kernel_rfl, by kernel_rfl⟩
theorem cf214 : CF Try.prog 214 := ⟨_, Try.func214, by kernel_rfl, by kernel_rfl⟩
theorem cf215 : CF Try.prog 215 := ⟨_, Try.func215, by kernel_rfl, by kernel_rfl⟩
theorem cf241 : CF Try.prog 241 := ⟨_, Try.func241, by kernel_rfl, by kernel_rfl⟩
theorem cf269 : CF Try.prog 269 := ⟨_, Try.func269, by kernel_rfl, by kernel_rfl⟩
theorem cf270 : CF Try.prog 270 := ⟨_, Try.func270, by kernel_rfl, by kernel_rfl⟩
theorem cf271 : CF Try.prog 271 := ⟨_, Try.func271, by kernel_rfl, by kernel_rfl⟩
theorem cf272 : CF Try.prog 272 := ⟨_, Try.func272, by kernel_rfl, by kernel_rfl⟩
theorem cf273 : CF Try.prog 273 := ⟨_, Try.func273, by kernel_rfl, by kernel_rfl⟩
theorem cf285 : CF Try.prog 285 := ⟨_, Try.func285, by kernel_rfl, by kernel_rfl⟩
theorem cf95 : CF Try.prog 95 := ⟨_, Try.func95, by kernel_rfl, by kernel_rfl⟩
theorem ei157 : EI Try.prog 157 5 56 (.agg #[.int .i64 0, .int .i64 0, .int .i64 0, .int .i64 0, .slice none 0 0]) := EI.of (by kernel_rfl) rfl rfl
theorem ei22 : EI Try.prog 22 1 24 (.slice none 0 0) := EI.of (by kernel_rfl) rfl rfl
theorem fd141_0 : FD Try.prog 141 0 2 0 := ⟨_, _, Try.underlying141, rfl, rfl, rfl⟩
theorem fd141_1 : FD Try.prog 141 1 2 1 := ⟨_, _, Try.underlying141, rfl, rfl, rfl⟩
theorem fd141_2 : FD Try.prog 141 2 2 2 := ⟨_, _, Try.underlying141, rfl, rfl, rfl⟩
theorem fd141_3 : FD Try.prog 141 3 2 3 := ⟨_, _, Try.underlying141, rfl, rfl, rfl⟩
theorem fd141_4 : FD Try.prog 141 4 2 4 := ⟨_, _, Try.underlying141, rfl, rfl, rfl⟩
theorem fd141_5 : FD Try.prog 141 5 139 5 := ⟨_, _, Try.underlying141, rfl, rfl, rfl⟩
theorem fd157_0 : FD Try.prog 157 0 2 0 := ⟨_, _, Try.underlying157, rfl, rfl, rfl⟩
theorem fd157_1 : FD Try.prog 157 1 2 1 := ⟨_, _, Try.underlying157, rfl, rfl, rfl⟩
theorem fd157_2 : FD Try.prog 157 2 2 2 := ⟨_, _, Try.underlying157, rfl, rfl, rfl⟩
theorem fd157_3 : FD Try.prog 157 3 2 3 := ⟨_, _, Try.underlying157, rfl, rfl, rfl⟩
theorem fd157_4 : FD Try.prog 157 4 22 4 := ⟨_, _, Try.underlying157, rfl, rfl, rfl⟩
theorem si157 : SI Try.prog 157 #[(0, 1), (1, 1), (2, 1), (3, 1), (4, 1)] (.agg #[.int .i64 0, .int .i64 0, .int .i64 0, .int .i64 0, .slice none 0 0]) := ⟨⟨_, Try.underlying157, fun w => by kernel_rfl⟩, by kernel_rfl⟩
theorem ti139 : TI Try.prog 139 1 false := ⟨by kernel_rfl, by kernel_rfl⟩
theorem ti141 : TI Try.prog 141 6 true := ⟨by kernel_rfl, by kernel_rfl⟩
theorem ti154 : TI Try.prog 154 1 false := ⟨by kernel_rfl, by kernel_rfl⟩
theorem ti157 : TI Try.prog 157 5 true := ⟨by kernel_rfl, by kernel_rfl⟩
theorem ti2 : TI Try.prog 2 1 false := ⟨by kernel_rfl, by kernel_rfl⟩
theorem ti22 : TI Try.prog 22 1 false := ⟨by kernel_rfl, by kernel_rfl⟩
theorem zi141 : (Try.prog.info? 141).map (·.zero) = some (some (.agg #[.int .i64 0, .int .i64 0, .int .i64 0, .int .i64 0, .int .i64 0, .slice none 0 0])) := by kernel_rfl
theorem zi154 : (Try.prog.info? 154).map (·.zero) = some (some (.slice none 0 0)) := by kernel_rfl
theorem zi157 : (Try.prog.info? 157).map (·.zero) = some (some (.agg #[.int .i64 0, .int .i64 0, .int .i64 0, .int .i64 0, .slice none 0 0])) := by kernel_rfl
theorem zi22 : (Try.prog.info? 22).map (·.zero) = some (some (.slice none 0 0)) := by kernel_rfl

attribute [local irreducible] Up.int Up.str Up.close Up.rest Up.clr Up.spoil Up.w Up.flag Ss.chk Pq.chk Ss.take Ss.answer Pq.bytes Pq.parse Sq.take Sq.meet Sq.ack Sq.again
theorem c1 (y : List Int) (hy : y.length ≤ 131072) : Does Try.prog 273 [bys y] [] (vb false) [] := by
  refine Does.of_body (rvs := [.tmp 2]) Try.func273 rfl rfl rfl rfl ?_
  refine AWP.seq ?_
  refine AWP.region ?_
  refine n_assign rfl nrSdA0 ?_
  refine AOps.nil ?_
  refine AWP.seq ?_
  refine AWP.region ?_
  refine n_move rfl nrSdA0 ?_
  refine n_len rfl Try.underlying22 nrSdA0 (by first | rw [ints_length] | rw [List.length_map] | rfl) ?_
  refine n_ibin rfl nrSdA0 nrSdA0 rfl ?_
  refine n_assign rfl nrSdA0 ?_
  refine AOps.nil ?_
  refine AWP.ret ?_
  refine fin_pure (.cons (rv_tmp nrSdA0) .nil) nrSdA0 ?_
  exact ren_flat rfl (congrArg vb (by simp; omega))

theorem ifq (q : List (List Int)) (hl : q.length ≤ 16) (hq : ∀ y ∈ q, y.length ≤ 131072) : Does Try.prog 285 [(.sl none (q.map qe) .ro), (.fn (.func 273) [] [])] [] (vi (-1)) [] := by
  refine Does.of_body (rvs := [.tmp 4]) Try.func285 rfl rfl rfl rfl ?_
  refine AWP.seq ?_
  refine AWP.region ?_
  refine n_assign rfl nrSdA0 ?_
  refine AOps.nil ?_
  refine AWP.seq ?_
  refine AWP.seq ?_
  refine AWP.region ?_
  refine n_move rfl nrSdA0 ?_
  refine n_len rfl Try.underlying139 nrSdA0 (by first | rw [ints_length] | rw [List.length_map] | rfl) ?_
  refine n_move rfl nrSdA0 ?_
  refine AOps.nil ?_
  refine AWP.block ?_
  refine AWP.loop (α := Nat) (fun i => i ≤ q.length) (fun i => put (put (put (put empty 0 (.sl none (q.map qe) .ro)) 1 (.fn (.func 273) [] [])) 7 (vi (q.length : Int))) 8 (vi (i : Int))) (fun _ => []) (fun i => q.length - i) 0 ?_ ?_ ?_ ?_
  · exact Nat.zero_le _
  · (repeat (first | exact FLe.empty _ | refine FLe.put ?_ ?_)) <;> first | (simp only [nf, nfS, Nat.beq]; done) | rfl | ((try simp only [nf, nfS, Nat.beq]); first | rfl | (simp only [List.length_map]; done) | (congr 2; omega; done))
  · rfl
  · intro i hi
    try dsimp only at hi ⊢
    refine AWP.seq ?_
    refine AWP.region ?_
    refine n_ibin rfl nrSdA0 nrSdA0 rfl ?_
    refine AOps.nil ?_
    refine AWP.seq ?_
    refine AWP.cond nrSdA0 (fun hc1 => ?_) (fun hc1 => ?_)
    · try simp only [nh] at hc1
      obtain ⟨y, hy⟩ : ∃ y, q[i]? = some y := ⟨_, List.getElem?_eq_getElem (by omega)⟩
      have hy1 := map_at qe hy
      have hyl := hq y (List.mem_of_getElem? hy)
      refine AWP.skip ?_
      refine AWP.seq ?_
      refine AWP.block ?_
      refine AWP.seq ?_
      refine AWP.region ?_
      refine n_move rfl nrSdA0 ?_
      refine n_assign rfl nrSdA0 ?_
      refine AOps.nil ?_
      refine AWP.seq ?_
      refine AWP.region ?_
      refine n_move rfl nrSdA0 ?_
      refine n_move rfl nrSdA0 ?_
      refine n_move rfl nrSdA0 ?_
      refine n_indexAddr rfl Try.underlying139 ti22 rfl nrSdA0 nrSdA0 (by omega) (by exact hy1) rfl ?_
      refine n_load rfl ti22 nrSdA0 nrSdA0 rfl nrSdA0 ?_
      refine n_call0B rfl cf273 rfl (Eq.trans (by simp only [nl] <;> rfl) nrSdA0) (by repeat (first | exact .nil | refine .cons ?_ ?_ | exact ren_ints | exact .lf (.val _) | exact .lf (lf_ints (.inl rfl)) | exact .bp ⟨rfl, rfl⟩ | exact .bp (.inl ⟨rfl, rfl⟩) | exact .bp (.inr ⟨rfl, rfl⟩) | exact ren_qe | exact .lf (lf_sqz _) | exact .lf (lf_qe (.inl rfl)) | exact ren_sqz rfl | exact ren_sqz0 rfl | exact ren_bys0 rfl | exact .lf (D.flat_lf rfl) | exact ren_lits rfl | exact .lf (lf_ssz _) | exact .lf (lf_pqz _) | exact ren_q0 rfl | exact ren_pq rfl | exact ren_nl0 | exact ren_sq | exact .lf (.fn (fun d h => by cases h) (fun d h => by cases h)))) (c1 y hyl) lfSdA0 ?_
      refine AOps.nil ?_
      refine AWP.cond_false nrSdA0 ?_
      refine AWP.skip ?_
      refine AWP.region ?_
      first | refine n_iadd rfl nrSdA0 nrSdA0 rfl (by omega) (by omega) ?_ | refine n_ibin rfl nrSdA0 nrSdA0 rfl ?_
      refine n_move rfl nrSdA0 ?_
      refine AOps.nil ?_
      refine ⟨i + 1, by omega, ?_, rfl, by omega⟩
      (repeat (first | exact FLe.empty _ | refine FLe.put ?_ ?_)) <;> first | (simp only [nf, nfS, Nat.beq]; done) | rfl | ((try simp only [nf, nfS, Nat.beq]); first | rfl | (simp only [List.length_map]; done) | (congr 2; omega; done))
    · try simp only [nh] at hc1
      refine AWP.exit ?_
      refine AWP.seq ?_
      refine AWP.region ?_
      refine n_assign rfl nrSdA0 ?_
      refine AOps.nil ?_
      refine AWP.ret ?_
      refine fin_pure (.cons (rv_tmp nrSdA0) .nil) nrSdA0 ?_
      exact ren_flat rfl rfl

theorem cfq (q : List (List Int)) (hl : q.length ≤ 16) (hq : ∀ y ∈ q, y.length ≤ 131072) : Does Try.prog 272 [(.sl none (q.map qe) .ro), (.fn (.func 273) [] [])] [] (vb false) [] := by
  refine Does.of_body (rvs := [.tmp 4]) Try.func272 rfl rfl rfl rfl ?_
  refine AWP.seq ?_
  refine AWP.region ?_
  refine n_assign rfl nrSdA0 ?_
  refine AOps.nil ?_
  refine AWP.seq ?_
  refine AWP.region ?_
  refine n_move rfl nrSdA0 ?_
  refine n_move rfl nrSdA0 ?_
  refine n_call0B rfl cf285 rfl (Eq.trans (by simp only [nl] <;> rfl) nrSdA0) (by repeat (first | exact .nil | refine .cons ?_ ?_ | exact ren_ints | exact .lf (.val _) | exact .lf (lf_ints (.inl rfl)) | exact .bp ⟨rfl, rfl⟩ | exact .bp (.inl ⟨rfl, rfl⟩) | exact .bp (.inr ⟨rfl, rfl⟩) | exact ren_qe | exact .lf (lf_sqz _) | exact .lf (lf_qe (.inl rfl)) | exact ren_sqz rfl | exact ren_sqz0 rfl | exact ren_bys0 rfl | exact .lf (D.flat_lf rfl) | exact ren_lits rfl | exact .lf (lf_ssz _) | exact .lf (lf_pqz _) | exact ren_q0 rfl | exact ren_pq rfl | exact ren_nl0 | exact ren_sq | exact .lf (.fn (fun d h => by cases h) (fun d h => by cases h)))) (ifq q hl hq) lfSdA0 ?_
  refine n_ibin rfl nrSdA0 nrSdA0 rfl ?_
  refine n_assign rfl nrSdA0 ?_
  refine AOps.nil ?_
  refine AWP.ret ?_
  refine fin_pure (.cons (rv_tmp nrSdA0) .nil) nrSdA0 ?_
  exact ren_flat rfl rfl

theorem l_chkQ (x : Sq) (hx : x.Ok) : Does Try.prog 213 [.agg (sqz x)] [] (vi 0) [] := by
  refine Does.of_body (rvs := [.tmp 2]) Try.func213 rfl rfl rfl rfl ?_
  have p1 := posN_iff.2 hx.b
  have p2 := numN_iff.2 hx.p
  have p3 := numN_iff.2 hx.s
  have p4 := numN_iff.2 hx.a
  have p5 := posN_iff.2 hx.e
  have hd := hx.d
  have hm := hx.m
  have h1 : 0 ≤ x.s ∧ x.s ≤ 9007199254740992 := hx.s
  have h2 : 0 ≤ x.a ∧ x.a ≤ 9007199254740992 := hx.a
  have hcf := cfq x.q hx.m hx.l
  refine AWP.seq ?_
  refine AWP.region ?_
  refine n_box rfl nrSdA0 rfl rfl nrSdA0 nrSdA0 ?_
  refine n_assign rfl nrSdA0 ?_
  refine AOps.nil ?_
  refine AWP.seq ?_
  refine AWP.seq ?_
  refine AWP.region ?_
  refine n_fieldAddr rfl fd141_0 ti2 rfl nrSdA0 rfl nrSdA0 ?_
  refine n_load rfl ti2 nrSdA0 nrSdA0 rfl nrSdA0 ?_
  refine n_call0B rfl cf215 rfl (Eq.trans (by simp only [nl] <;> rfl) nrSdA0) (by repeat (first | exact .nil | refine .cons ?_ ?_ | exact ren_ints | exact .lf (.val _) | exact .lf (lf_ints (.inl rfl)) | exact .bp ⟨rfl, rfl⟩ | exact .bp (.inl ⟨rfl, rfl⟩) | exact .bp (.inr ⟨rfl, rfl⟩) | exact ren_qe | exact .lf (lf_sqz _) | exact .lf (lf_qe (.inl rfl)) | exact ren_sqz rfl | exact ren_sqz0 rfl | exact ren_bys0 rfl | exact .lf (D.flat_lf rfl) | exact ren_lits rfl | exact .lf (lf_ssz _) | exact .lf (lf_pqz _) | exact ren_q0 rfl | exact ren_pq rfl | exact ren_nl0 | exact ren_sq | exact .lf (.fn (fun d h => by cases h) (fun d h => by cases h)))) (l_pos _) lfSdA0 ?_
  refine n_not rfl nrSdA0 rfl ?_
  refine n_move rfl nrSdA0 ?_
  refine AOps.name (u := 7) (fun z => .val (.bool z)) nrSdA0 (fun b7 hb7 => ?_)
  refine n_soft (u := 7) (E := .val (.bool b7)) (!b7) rfl rfl rfl nrSdA0 (by cases b7 <;> first | (intro _; rfl) | (intro h; exact absurd h (by decide))) (by cases b7 <;> first | (intro h; exact absurd h (by decide)) | (intro _; exact ⟨_, rfl, by first | (intro h; cases h; done) | decide | simp⟩)) (fun h => by
      cases b7 with
      | true => exact absurd h (by first | decide | simp)
      | false =>
        refine n_fieldAddr rfl fd141_1 ti2 rfl nrSdA0 rfl nrSdA0 ?_
        exact AOps.nil ⟨rfl, rfl, rfl⟩) ?_
  refine n_soft (u := 7) (E := .val (.bool b7)) (!b7) rfl rfl rfl nrSdA0 (by cases b7 <;> first | (intro _; rfl) | (intro h; exact absurd h (by decide))) (by cases b7 <;> first | (intro h; exact absurd h (by decide)) | (intro _; exact ⟨_, rfl, by first | (intro h; cases h; done) | decide | simp⟩)) (fun h => by
      cases b7 with
      | true => exact absurd h (by first | decide | simp)
      | false =>
        refine n_load rfl ti2 nrSdA0 nrSdA0 rfl nrSdA0 ?_
        exact AOps.nil ⟨rfl, rfl, rfl⟩) ?_
  refine n_soft (u := 7) (E := .val (.bool b7)) (!b7) rfl rfl rfl nrSdA0 (by cases b7 <;> first | (intro _; rfl) | (intro h; exact absurd h (by decide))) (by cases b7 <;> first | (intro h; exact absurd h (by decide)) | (intro _; exact ⟨_, rfl, by first | (intro h; cases h; done) | decide | simp⟩)) (fun h => by
      cases b7 with
      | true => exact absurd h (by first | decide | simp)
      | false =>
        refine n_call0B rfl cf241 rfl (Eq.trans (by simp only [nl] <;> rfl) nrSdA0) (by repeat (first | exact .nil | refine .cons ?_ ?_ | exact ren_ints | exact .lf (.val _) | exact .lf (lf_ints (.inl rfl)) | exact .bp ⟨rfl, rfl⟩ | exact .bp (.inl ⟨rfl, rfl⟩) | exact .bp (.inr ⟨rfl, rfl⟩) | exact ren_qe | exact .lf (lf_sqz _) | exact .lf (lf_qe (.inl rfl)) | exact ren_sqz rfl | exact ren_sqz0 rfl | exact ren_bys0 rfl | exact .lf (D.flat_lf rfl) | exact ren_lits rfl | exact .lf (lf_ssz _) | exact .lf (lf_pqz _) | exact ren_q0 rfl | exact ren_pq rfl | exact ren_nl0 | exact ren_sq | exact .lf (.fn (fun d h => by cases h) (fun d h => by cases h)))) (l_num _) lfSdA0 ?_
        exact AOps.nil ⟨rfl, rfl, rfl⟩) ?_
  refine n_soft (u := 7) (E := .val (.bool b7)) (!b7) rfl rfl rfl nrSdA0 (by cases b7 <;> first | (intro _; rfl) | (intro h; exact absurd h (by decide))) (by cases b7 <;> first | (intro h; exact absurd h (by decide)) | (intro _; exact ⟨_, rfl, by first | (intro h; cases h; done) | decide | simp⟩)) (fun h => by
      cases b7 with
      | true => exact absurd h (by first | decide | simp)
      | false =>
        refine n_not rfl nrSdA0 rfl ?_
        exact AOps.nil ⟨rfl, rfl, rfl⟩) ?_
  refine n_pick_or rfl nrSdA0 (fun h => by cases b7 with | true => exact absurd h (by decide) | false => exact nrSdA0) ?_
  refine n_move rfl nrSdA0 ?_
  refine AOps.name (u := 13) (fun z => .val (.bool z)) nrSdA0 (fun b13 hb13 => ?_)
  refine n_soft (u := 13) (E := .val (.bool b13)) (!b13) rfl rfl rfl nrSdA0 (by cases b13 <;> first | (intro _; rfl) | (intro h; exact absurd h (by decide))) (by cases b13 <;> first | (intro h; exact absurd h (by decide)) | (intro _; exact ⟨_, rfl, by first | (intro h; cases h; done) | decide | simp⟩)) (fun h => by
      cases b13 with
      | true => exact absurd h (by first | decide | simp)
      | false =>
        refine n_fieldAddr rfl fd141_2 ti2 rfl nrSdA0 rfl nrSdA0 ?_
        exact AOps.nil ⟨rfl, rfl, rfl⟩) ?_
  refine n_soft (u := 13) (E := .val (.bool b13)) (!b13) rfl rfl rfl nrSdA0 (by cases b13 <;> first | (intro _; rfl) | (intro h; exact absurd h (by decide))) (by cases b13 <;> first | (intro h; exact absurd h (by decide)) | (intro _; exact ⟨_, rfl, by first | (intro h; cases h; done) | decide | simp⟩)) (fun h => by
      cases b13 with
      | true => exact absurd h (by first | decide | simp)
      | false =>
        refine n_load rfl ti2 nrSdA0 nrSdA0 rfl nrSdA0 ?_
        exact AOps.nil ⟨rfl, rfl, rfl⟩) ?_
  refine n_soft (u := 13) (E := .val (.bool b13)) (!b13) rfl rfl rfl nrSdA0 (by cases b13 <;> first | (intro _; rfl) | (intro h; exact absurd h (by decide))) (by cases b13 <;> first | (intro h; exact absurd h (by decide)) | (intro _; exact ⟨_, rfl, by first | (intro h; cases h; done) | decide | simp⟩)) (fun h => by
      cases b13 with
      | true => exact absurd h (by first | decide | simp)
      | false =>
        refine n_call0B rfl cf241 rfl (Eq.trans (by simp only [nl] <;> rfl) nrSdA0) (by repeat (first | exact .nil | refine .cons ?_ ?_ | exact ren_ints | exact .lf (.val _) | exact .lf (lf_ints (.inl rfl)) | exact .bp ⟨rfl, rfl⟩ | exact .bp (.inl ⟨rfl, rfl⟩) | exact .bp (.inr ⟨rfl, rfl⟩) | exact ren_qe | exact .lf (lf_sqz _) | exact .lf (lf_qe (.inl rfl)) | exact ren_sqz rfl | exact ren_sqz0 rfl | exact ren_bys0 rfl | exact .lf (D.flat_lf rfl) | exact ren_lits rfl | exact .lf (lf_ssz _) | exact .lf (lf_pqz _) | exact ren_q0 rfl | exact ren_pq rfl | exact ren_nl0 | exact ren_sq | exact .lf (.fn (fun d h => by cases h) (fun d h => by cases h)))) (l_num _) lfSdA0 ?_
        exact AOps.nil ⟨rfl, rfl, rfl⟩) ?_
  refine n_soft (u := 13) (E := .val (.bool b13)) (!b13) rfl rfl rfl nrSdA0 (by cases b13 <;> first | (intro _; rfl) | (intro h; exact absurd h (by decide))) (by cases b13 <;> first | (intro h; exact absurd h (by decide)) | (intro _; exact ⟨_, rfl, by first | (intro h; cases h; done) | decide | simp⟩)) (fun h => by
      cases b13 with
      | true => exact absurd h (by first | decide | simp)
      | false =>
        refine n_not rfl nrSdA0 rfl ?_
        exact AOps.nil ⟨rfl, rfl, rfl⟩) ?_
  refine n_pick_or rfl nrSdA0 (fun h => by cases b13 with | true => exact absurd h (by decide) | false => exact nrSdA0) ?_
  refine n_move rfl nrSdA0 ?_
  refine AOps.name (u := 19) (fun z => .val (.bool z)) nrSdA0 (fun b19 hb19 => ?_)
  refine n_soft (u := 19) (E := .val (.bool b19)) (!b19) rfl rfl rfl nrSdA0 (by cases b19 <;> first | (intro _; rfl) | (intro h; exact absurd h (by decide))) (by cases b19 <;> first | (intro h; exact absurd h (by decide)) | (intro _; exact ⟨_, rfl, by first | (intro h; cases h; done) | decide | simp⟩)) (fun h => by
      cases b19 with
      | true => exact absurd h (by first | decide | simp)
      | false =>
        refine n_fieldAddr rfl fd141_3 ti2 rfl nrSdA0 rfl nrSdA0 ?_
        exact AOps.nil ⟨rfl, rfl, rfl⟩) ?_
  refine n_soft (u := 19) (E := .val (.bool b19)) (!b19) rfl rfl rfl nrSdA0 (by cases b19 <;> first | (intro _; rfl) | (intro h; exact absurd h (by decide))) (by cases b19 <;> first | (intro h; exact absurd h (by decide)) | (intro _; exact ⟨_, rfl, by first | (intro h; cases h; done) | decide | simp⟩)) (fun h => by
      cases b19 with
      | true => exact absurd h (by first | decide | simp)
      | false =>
        refine n_load rfl ti2 nrSdA0 nrSdA0 rfl nrSdA0 ?_
        exact AOps.nil ⟨rfl, rfl, rfl⟩) ?_
  refine n_soft (u := 19) (E := .val (.bool b19)) (!b19) rfl rfl rfl nrSdA0 (by cases b19 <;> first | (intro _; rfl) | (intro h; exact absurd h (by decide))) (by cases b19 <;> first | (intro h; exact absurd h (by decide)) | (intro _; exact ⟨_, rfl, by first | (intro h; cases h; done) | decide | simp⟩)) (fun h => by
      cases b19 with
      | true => exact absurd h (by first | decide | simp)
      | false =>
        refine n_call0B rfl cf241 rfl (Eq.trans (by simp only [nl] <;> rfl) nrSdA0) (by repeat (first | exact .nil | refine .cons ?_ ?_ | exact ren_ints | exact .lf (.val _) | exact .lf (lf_ints (.inl rfl)) | exact .bp ⟨rfl, rfl⟩ | exact .bp (.inl ⟨rfl, rfl⟩) | exact .bp (.inr ⟨rfl, rfl⟩) | exact ren_qe | exact .lf (lf_sqz _) | exact .lf (lf_qe (.inl rfl)) | exact ren_sqz rfl | exact ren_sqz0 rfl | exact ren_bys0 rfl | exact .lf (D.flat_lf rfl) | exact ren_lits rfl | exact .lf (lf_ssz _) | exact .lf (lf_pqz _) | exact ren_q0 rfl | exact ren_pq rfl | exact ren_nl0 | exact ren_sq | exact .lf (.fn (fun d h => by cases h) (fun d h => by cases h)))) (l_num _) lfSdA0 ?_
        exact AOps.nil ⟨rfl, rfl, rfl⟩) ?_
  refine n_soft (u := 19) (E := .val (.bool b19)) (!b19) rfl rfl rfl nrSdA0 (by cases b19 <;> first | (intro _; rfl) | (intro h; exact absurd h (by decide))) (by cases b19 <;> first | (intro h; exact absurd h (by decide)) | (intro _; exact ⟨_, rfl, by first | (intro h; cases h; done) | decide | simp⟩)) (fun h => by
      cases b19 with
      | true => exact absurd h (by first | decide | simp)
      | false =>
        refine n_not rfl nrSdA0 rfl ?_
        exact AOps.nil ⟨rfl, rfl, rfl⟩) ?_
  refine n_pick_or rfl nrSdA0 (fun h => by cases b19 with | true => exact absurd h (by decide) | false => exact nrSdA0) ?_
  refine n_move rfl nrSdA0 ?_
  refine AOps.name (u := 25) (fun z => .val (.bool z)) nrSdA0 (fun b25 hb25 => ?_)
  refine n_soft (u := 25) (E := .val (.bool b25)) (!b25) rfl rfl rfl nrSdA0 (by cases b25 <;> first | (intro _; rfl) | (intro h; exact absurd h (by decide))) (by cases b25 <;> first | (intro h; exact absurd h (by decide)) | (intro _; exact ⟨_, rfl, by first | (intro h; cases h; done) | decide | simp⟩)) (fun h => by
      cases b25 with
      | true => exact absurd h (by first | decide | simp)
      | false =>
        refine n_fieldAddr rfl fd141_4 ti2 rfl nrSdA0 rfl nrSdA0 ?_
        exact AOps.nil ⟨rfl, rfl, rfl⟩) ?_
  refine n_soft (u := 25) (E := .val (.bool b25)) (!b25) rfl rfl rfl nrSdA0 (by cases b25 <;> first | (intro _; rfl) | (intro h; exact absurd h (by decide))) (by cases b25 <;> first | (intro h; exact absurd h (by decide)) | (intro _; exact ⟨_, rfl, by first | (intro h; cases h; done) | decide | simp⟩)) (fun h => by
      cases b25 with
      | true => exact absurd h (by first | decide | simp)
      | false =>
        refine n_load rfl ti2 nrSdA0 nrSdA0 rfl nrSdA0 ?_
        exact AOps.nil ⟨rfl, rfl, rfl⟩) ?_
  refine n_soft (u := 25) (E := .val (.bool b25)) (!b25) rfl rfl rfl nrSdA0 (by cases b25 <;> first | (intro _; rfl) | (intro h; exact absurd h (by decide))) (by cases b25 <;> first | (intro h; exact absurd h (by decide)) | (intro _; exact ⟨_, rfl, by first | (intro h; cases h; done) | decide | simp⟩)) (fun h => by
      cases b25 with
      | true => exact absurd h (by first | decide | simp)
      | false =>
        refine n_call0B rfl cf215 rfl (Eq.trans (by simp only [nl] <;> rfl) nrSdA0) (by repeat (first | exact .nil | refine .cons ?_ ?_ | exact ren_ints | exact .lf (.val _) | exact .lf (lf_ints (.inl rfl)) | exact .bp ⟨rfl, rfl⟩ | exact .bp (.inl ⟨rfl, rfl⟩) | exact .bp (.inr ⟨rfl, rfl⟩) | exact ren_qe | exact .lf (lf_sqz _) | exact .lf (lf_qe (.inl rfl)) | exact ren_sqz rfl | exact ren_sqz0 rfl | exact ren_bys0 rfl | exact .lf (D.flat_lf rfl) | exact ren_lits rfl | exact .lf (lf_ssz _) | exact .lf (lf_pqz _) | exact ren_q0 rfl | exact ren_pq rfl | exact ren_nl0 | exact ren_sq | exact .lf (.fn (fun d h => by cases h) (fun d h => by cases h)))) (l_pos _) lfSdA0 ?_
        exact AOps.nil ⟨rfl, rfl, rfl⟩) ?_
  refine n_soft (u := 25) (E := .val (.bool b25)) (!b25) rfl rfl rfl nrSdA0 (by cases b25 <;> first | (intro _; rfl) | (intro h; exact absurd h (by decide))) (by cases b25 <;> first | (intro h; exact absurd h (by decide)) | (intro _; exact ⟨_, rfl, by first | (intro h; cases h; done) | decide | simp⟩)) (fun h => by
      cases b25 with
      | true => exact absurd h (by first | decide | simp)
      | false =>
        refine n_not rfl nrSdA0 rfl ?_
        exact AOps.nil ⟨rfl, rfl, rfl⟩) ?_
  refine n_pick_or rfl nrSdA0 (fun h => by cases b25 with | true => exact absurd h (by decide) | false => exact nrSdA0) ?_
  refine n_move rfl nrSdA0 ?_
  refine AOps.name (u := 31) (fun z => .val (.bool z)) nrSdA0 (fun b31 hb31 => ?_)
  refine n_soft (u := 31) (E := .val (.bool b31)) (!b31) rfl rfl rfl nrSdA0 (by cases b31 <;> first | (intro _; rfl) | (intro h; exact absurd h (by decide))) (by cases b31 <;> first | (intro h; exact absurd h (by decide)) | (intro _; exact ⟨_, rfl, by first | (intro h; cases h; done) | decide | simp⟩)) (fun h => by
      cases b31 with
      | true => exact absurd h (by first | decide | simp)
      | false =>
        refine n_fieldAddr rfl fd141_2 ti2 rfl nrSdA0 rfl nrSdA0 ?_
        exact AOps.nil ⟨rfl, rfl, rfl⟩) ?_
  refine n_soft (u := 31) (E := .val (.bool b31)) (!b31) rfl rfl rfl nrSdA0 (by cases b31 <;> first | (intro _; rfl) | (intro h; exact absurd h (by decide))) (by cases b31 <;> first | (intro h; exact absurd h (by decide)) | (intro _; exact ⟨_, rfl, by first | (intro h; cases h; done) | decide | simp⟩)) (fun h => by
      cases b31 with
      | true => exact absurd h (by first | decide | simp)
      | false =>
        refine n_load rfl ti2 nrSdA0 nrSdA0 rfl nrSdA0 ?_
        exact AOps.nil ⟨rfl, rfl, rfl⟩) ?_
  refine n_soft (u := 31) (E := .val (.bool b31)) (!b31) rfl rfl rfl nrSdA0 (by cases b31 <;> first | (intro _; rfl) | (intro h; exact absurd h (by decide))) (by cases b31 <;> first | (intro h; exact absurd h (by decide)) | (intro _; exact ⟨_, rfl, by first | (intro h; cases h; done) | decide | simp⟩)) (fun h => by
      cases b31 with
      | true => exact absurd h (by first | decide | simp)
      | false =>
        refine n_fieldAddr rfl fd141_3 ti2 rfl nrSdA0 rfl nrSdA0 ?_
        exact AOps.nil ⟨rfl, rfl, rfl⟩) ?_
  refine n_soft (u := 31) (E := .val (.bool b31)) (!b31) rfl rfl rfl nrSdA0 (by cases b31 <;> first | (intro _; rfl) | (intro h; exact absurd h (by decide))) (by cases b31 <;> first | (intro h; exact absurd h (by decide)) | (intro _; exact ⟨_, rfl, by first | (intro h; cases h; done) | decide | simp⟩)) (fun h => by
      cases b31 with
      | true => exact absurd h (by first | decide | simp)
      | false =>
        refine n_load rfl ti2 nrSdA0 nrSdA0 rfl nrSdA0 ?_
        exact AOps.nil ⟨rfl, rfl, rfl⟩) ?_
  refine n_soft (u := 31) (E := .val (.bool b31)) (!b31) rfl rfl rfl nrSdA0 (by cases b31 <;> first | (intro _; rfl) | (intro h; exact absurd h (by decide))) (by cases b31 <;> first | (intro h; exact absurd h (by decide)) | (intro _; exact ⟨_, rfl, by first | (intro h; cases h; done) | decide | simp⟩)) (fun h => by
      cases b31 with
      | true => exact absurd h (by first | decide | simp)
      | false =>
        first | refine n_isub rfl nrSdA0 nrSdA0 rfl (by omega) (by omega) ?_ | refine n_ibin rfl nrSdA0 nrSdA0 rfl ?_
        exact AOps.nil ⟨rfl, rfl, rfl⟩) ?_
  refine n_soft (u := 31) (E := .val (.bool b31)) (!b31) rfl rfl rfl nrSdA0 (by cases b31 <;> first | (intro _; rfl) | (intro h; exact absurd h (by decide))) (by cases b31 <;> first | (intro h; exact absurd h (by decide)) | (intro _; exact ⟨_, rfl, by first | (intro h; cases h; done) | decide | simp⟩)) (fun h => by
      cases b31 with
      | true => exact absurd h (by first | decide | simp)
      | false =>
        refine n_fieldAddr rfl fd141_5 ti139 rfl nrSdA0 rfl nrSdA0 ?_
        exact AOps.nil ⟨rfl, rfl, rfl⟩) ?_
  refine n_soft (u := 31) (E := .val (.bool b31)) (!b31) rfl rfl rfl nrSdA0 (by cases b31 <;> first | (intro _; rfl) | (intro h; exact absurd h (by decide))) (by cases b31 <;> first | (intro h; exact absurd h (by decide)) | (intro _; exact ⟨_, rfl, by first | (intro h; cases h; done) | decide | simp⟩)) (fun h => by
      cases b31 with
      | true => exact absurd h (by first | decide | simp)
      | false =>
        refine n_load rfl ti139 nrSdA0 nrSdA0 rfl nrSdA0 ?_
        exact AOps.nil ⟨rfl, rfl, rfl⟩) ?_
  refine n_soft (u := 31) (E := .val (.bool b31)) (!b31) rfl rfl rfl nrSdA0 (by cases b31 <;> first | (intro _; rfl) | (intro h; exact absurd h (by decide))) (by cases b31 <;> first | (intro h; exact absurd h (by decide)) | (intro _; exact ⟨_, rfl, by first | (intro h; cases h; done) | decide | simp⟩)) (fun h => by
      cases b31 with
      | true => exact absurd h (by first | decide | simp)
      | false =>
        refine n_len rfl Try.underlying139 nrSdA0 (by first | rw [ints_length] | rw [List.length_map] | rfl) ?_
        exact AOps.nil ⟨rfl, rfl, rfl⟩) ?_
  refine n_soft (u := 31) (E := .val (.bool b31)) (!b31) rfl rfl rfl nrSdA0 (by cases b31 <;> first | (intro _; rfl) | (intro h; exact absurd h (by decide))) (by cases b31 <;> first | (intro h; exact absurd h (by decide)) | (intro _; exact ⟨_, rfl, by first | (intro h; cases h; done) | decide | simp⟩)) (fun h => by
      cases b31 with
      | true => exact absurd h (by first | decide | simp)
      | false =>
        refine n_ibin rfl nrSdA0 nrSdA0 rfl ?_
        exact AOps.nil ⟨rfl, rfl, rfl⟩) ?_
  refine n_pick_or rfl nrSdA0 (fun h => by cases b31 with | true => exact absurd h (by decide) | false => exact nrSdA0) ?_
  refine n_move rfl nrSdA0 ?_
  refine AOps.name (u := 42) (fun z => .val (.bool z)) nrSdA0 (fun b42 hb42 => ?_)
  refine n_soft (u := 42) (E := .val (.bool b42)) (!b42) rfl rfl rfl nrSdA0 (by cases b42 <;> first | (intro _; rfl) | (intro h; exact absurd h (by decide))) (by cases b42 <;> first | (intro h; exact absurd h (by decide)) | (intro _; exact ⟨_, rfl, by first | (intro h; cases h; done) | decide | simp⟩)) (fun h => by
      cases b42 with
      | true => exact absurd h (by first | decide | simp)
      | false =>
        refine n_fieldAddr rfl fd141_5 ti139 rfl nrSdA0 rfl nrSdA0 ?_
        exact AOps.nil ⟨rfl, rfl, rfl⟩) ?_
  refine n_soft (u := 42) (E := .val (.bool b42)) (!b42) rfl rfl rfl nrSdA0 (by cases b42 <;> first | (intro _; rfl) | (intro h; exact absurd h (by decide))) (by cases b42 <;> first | (intro h; exact absurd h (by decide)) | (intro _; exact ⟨_, rfl, by first | (intro h; cases h; done) | decide | simp⟩)) (fun h => by
      cases b42 with
      | true => exact absurd h (by first | decide | simp)
      | false =>
        refine n_load rfl ti139 nrSdA0 nrSdA0 rfl nrSdA0 ?_
        exact AOps.nil ⟨rfl, rfl, rfl⟩) ?_
  refine n_soft (u := 42) (E := .val (.bool b42)) (!b42) rfl rfl rfl nrSdA0 (by cases b42 <;> first | (intro _; rfl) | (intro h; exact absurd h (by decide))) (by cases b42 <;> first | (intro h; exact absurd h (by decide)) | (intro _; exact ⟨_, rfl, by first | (intro h; cases h; done) | decide | simp⟩)) (fun h => by
      cases b42 with
      | true => exact absurd h (by first | decide | simp)
      | false =>
        refine n_len rfl Try.underlying139 nrSdA0 (by first | rw [ints_length] | rw [List.length_map] | rfl) ?_
        exact AOps.nil ⟨rfl, rfl, rfl⟩) ?_
  refine n_soft (u := 42) (E := .val (.bool b42)) (!b42) rfl rfl rfl nrSdA0 (by cases b42 <;> first | (intro _; rfl) | (intro h; exact absurd h (by decide))) (by cases b42 <;> first | (intro h; exact absurd h (by decide)) | (intro _; exact ⟨_, rfl, by first | (intro h; cases h; done) | decide | simp⟩)) (fun h => by
      cases b42 with
      | true => exact absurd h (by first | decide | simp)
      | false =>
        refine n_ibin rfl nrSdA0 nrSdA0 rfl ?_
        exact AOps.nil ⟨rfl, rfl, rfl⟩) ?_
  refine n_pick_or rfl nrSdA0 (fun h => by cases b42 with | true => exact absurd h (by decide) | false => exact nrSdA0) ?_
  subst hb7
  subst hb13
  subst hb19
  subst hb25
  subst hb31
  subst hb42
  refine AOps.nil ?_
  refine AWP.cond nrSdA0 (fun hc1 => ?_) (fun hc1 => ?_)
  · try simp only [nh] at hc1
    exfalso
    simp [p1, p2, p3, p4, p5] at hc1
    omega
  · try simp only [nh] at hc1
    refine AWP.skip ?_
    refine AWP.seq ?_
    refine AWP.seq ?_
    refine AWP.region ?_
    refine n_fieldAddr rfl fd141_5 ti139 rfl nrSdA0 rfl nrSdA0 ?_
    refine n_load rfl ti139 nrSdA0 nrSdA0 rfl nrSdA0 ?_
    refine n_call0B rfl cf272 rfl (Eq.trans (by simp only [nl] <;> rfl) nrSdA0) (by repeat (first | exact .nil | refine .cons ?_ ?_ | exact ren_ints | exact .lf (.val _) | exact .lf (lf_ints (.inl rfl)) | exact .bp ⟨rfl, rfl⟩ | exact .bp (.inl ⟨rfl, rfl⟩) | exact .bp (.inr ⟨rfl, rfl⟩) | exact ren_qe | exact .lf (lf_sqz _) | exact .lf (lf_qe (.inl rfl)) | exact ren_sqz rfl | exact ren_sqz0 rfl | exact ren_bys0 rfl | exact .lf (D.flat_lf rfl) | exact ren_lits rfl | exact .lf (lf_ssz _) | exact .lf (lf_pqz _) | exact ren_q0 rfl | exact ren_pq rfl | exact ren_nl0 | exact ren_sq | exact .lf (.fn (fun d h => by cases h) (fun d h => by cases h)))) (hcf) lfSdA0 ?_
    refine AOps.nil ?_
    refine AWP.cond_false nrSdA0 ?_
    refine AWP.skip ?_
    refine AWP.seq ?_
    refine AWP.region ?_
    refine n_assign rfl nrSdA0 ?_
    refine AOps.nil ?_
    refine AWP.ret ?_
    refine fin_pure (.cons (rv_tmp nrSdA0) .nil) nrSdA0 ?_
    exact ren_flat rfl rfl

theorem q_cloneK (q : List (List Int)) (h0 : 0 < q.length) (hl : q.length ≤ 16) (S : List Ob) (K : D → List Ob → Prop) (hK : ∀ cap, q.length ≤ cap → K (.bq S.length 0 q.length cap) (S ++ [.box (q.map bys ++ List.replicate ((cap - q.length) * 1) D.any)])) : DoesK Try.prog 270 [(.sl none (q.map qe) .ro)] S K := by
  refine DoesK.of_body (rvs := [.tmp 2]) Try.func270 rfl rfl rfl rfl ?_
  refine AWP.seq ?_
  refine AWP.region ?_
  refine n_assign rfl nrSdA0 ?_
  refine AOps.nil ?_
  refine AWP.seq ?_
  refine AWP.seq ?_
  refine AWP.region ?_
  refine n_move rfl nrSdA0 ?_
  refine n_eqnil rfl Try.underlying139 nrSdA0 (fun b1 hb1 he1 => ?_)
  refine AOps.nil ?_
  refine AWP.cond nrSdA0 (fun hc2 => ?_) (fun hc2 => ?_)
  · try simp only [nh] at hc2
    exfalso
    have hnl := he1 hc2
    have hnl := congrArg List.length hnl
    simp at hnl
    simp [hnl] at h0
  · try simp only [nh] at hc2
    refine AWP.skip ?_
    refine AWP.seq ?_
    refine AWP.region ?_
    refine n_lit rfl Try.underlying139 ti22 zi22 rfl rfl (Eq.trans (by simp only [nl] <;> rfl) nrSdA0) rfl nrSdA0 ?_
    refine n_move rfl nrSdA0 ?_
    refine n_append_bq (m := q.length) (fs := q.map bys) rfl Try.underlying139 Try.underlying139 ei22 nrSdA0 nrSdA0 (by intro x hx; cases hx) (by exact map_one (f := qe) (fun _ => rfl)) (by simp only [List.length_map, List.length_nil]; omega) (by rw [List.length_map]; exact h0) (by simp) rfl (by rw [List.nil_append, qe_flat]) (fun cap hcap => ?_)
    refine n_assign rfl nrSdA0 ?_
    refine AOps.nil ?_
    refine AWP.ret ?_
    refine finK_ret (.cons (rv_tmp nrSdA0) .nil) nrSdA0 ?_
    exact hK cap hcap

set_option maxHeartbeats 1000000 in
theorem l_cloneQ1 (x : Sq) (h0 : 0 < x.q.length) (hl : x.q.length ≤ 16) (hq : ∀ y ∈ x.q, y.length ≤ 131072) : Does Try.prog 269 [.agg (sqz x)] [] (.agg (sqc x (.own 0))) [.row x.q.length 1] := by
  refine Does.of_body (rvs := [.cell 2 141]) Try.func269 rfl rfl rfl rfl ?_
  refine AWP.seq ?_
  refine AWP.region ?_
  refine n_box rfl nrSdA0 rfl rfl nrSdA0 nrSdA0 ?_
  refine n_alloc rfl zi141 rfl nrSdA0 nrSdA0 ?_
  refine AOps.nil ?_
  refine AWP.seq ?_
  refine AWP.region ?_
  refine n_fieldAddr rfl fd141_5 ti139 rfl nrSdA0 rfl nrSdA0 ?_
  refine n_load rfl ti139 nrSdA0 nrSdA0 rfl nrSdA0 ?_
  refine op_callK (dst := some 6) rfl cf270 rfl (Eq.trans (by simp only [nl] <;> rfl) nrSdA0) (q_cloneK x.q h0 hl _ _ (fun cap hcap => ?_))
  refine n_fieldAddr rfl fd141_5 ti139 rfl nrSdA0 rfl nrSdA0 ?_
  refine n_store ti139 nrSdA0 nrSdA0 nrSdA0 rfl nrSdA0 rfl rfl rfl nrSdA0 ?_
  refine AOps.nil ?_
  refine AWP.seq ?_
  refine AWP.seq ?_
  refine AWP.region ?_
  refine n_fieldAddr rfl fd141_5 ti139 rfl nrSdA0 rfl nrSdA0 ?_
  refine n_load rfl ti139 nrSdA0 nrSdA0 rfl nrSdA0 ?_
  refine n_bqLen rfl Try.underlying139 nrSdA0 rfl ?_
  refine n_move rfl nrSdA0 ?_
  refine AOps.nil ?_
  refine AWP.block ?_
  refine AWP.loop (α := Nat) (fun i => i ≤ x.q.length) (fun i => put (put (put (put empty 1 (.bp 0 0)) 2 (.bp 1 0)) 10 (vi (x.q.length : Int))) 11 (vi (i : Int))) (fun _ => [Ob.box [vi x.b, vi x.p, vi x.s, vi x.a, vi x.e, .bq 2 0 x.q.length cap], Ob.box [vi 0, vi 0, vi 0, vi 0, vi 0, .sl (some true) [] .full], Ob.box (x.q.map bys ++ List.replicate ((cap - x.q.length) * 1) D.any)]) (fun i => x.q.length - i) 0 ?_ ?_ ?_ ?_
  · exact Nat.zero_le _
  · (repeat (first | exact FLe.empty _ | refine FLe.put ?_ ?_)) <;> first | (simp only [nf, nfS, Nat.beq]; done) | rfl | ((try simp only [nf, nfS, Nat.beq]); first | rfl | (simp only [List.length_map]; done) | (congr 2; omega; done))
  · rfl
  · intro i hi
    try dsimp only at hi ⊢
    refine AWP.seq ?_
    refine AWP.region ?_
    refine n_ibin rfl nrSdA0 nrSdA0 rfl ?_
    refine AOps.nil ?_
    refine AWP.seq ?_
    refine AWP.cond nrSdA0 (fun hc1 => ?_) (fun hc1 => ?_)
    · try simp only [nh] at hc1
      obtain ⟨y, hy⟩ : ∃ y, x.q[i]? = some y := ⟨_, List.getElem?_eq_getElem (by omega)⟩
      have hyl := hq y (List.mem_of_getElem? hy)
      have hyL : L40 y := by simp only [L40]; omega
      refine AWP.skip ?_
      refine AWP.seq ?_
      refine AWP.block ?_
      refine AWP.seq ?_
      refine AWP.region ?_
      refine n_move rfl nrSdA0 ?_
      refine n_assign rfl nrSdA0 ?_
      refine AOps.nil ?_
      refine AWP.any1 10 [Ob.box [vi x.b, vi x.p, vi x.s, vi x.a, vi x.e, .bq 2 0 x.q.length cap], Ob.box [vi 0, vi 0, vi 0, vi 0, vi 0, .sl (some true) [] .full], Ob.box (x.q.map bys ++ List.replicate ((cap - x.q.length) * 1) D.any)] (by kernel_rfl) (by kernel_rfl) (by kernel_rfl) ?_
      refine Walk.ahead [10] (by rfl) (by kernel_rfl) (by rfl) (rs := [1]) (by rfl) nrSdA0 (fun base => by
          refine n_fieldAddr rfl fd141_5 ti139 rfl nrSdA0 rfl nrSdA0 ?_
          exact AOps.nil ⟨rfl, rfl, rfl⟩) ?_
      refine Walk.ahead [10] (by rfl) (by kernel_rfl) (by rfl) (rs := [14]) (by rfl) nrSdA0 (fun base => by
          refine n_load rfl ti139 nrSdA0 nrSdA0 rfl nrSdA0 ?_
          exact AOps.nil ⟨rfl, rfl, rfl⟩) ?_
      refine Walk.ahead [10] (by rfl) (by kernel_rfl) (by rfl) (rs := [3]) (by rfl) nrSdA0 (fun base => by
          refine n_move rfl nrSdA0 ?_
          exact AOps.nil ⟨rfl, rfl, rfl⟩) ?_
      refine Walk.ahead [10] (by rfl) (by kernel_rfl) (by rfl) (rs := [1]) (by rfl) nrSdA0 (fun base => by
          refine n_fieldAddr rfl fd141_5 ti139 rfl nrSdA0 rfl nrSdA0 ?_
          exact AOps.nil ⟨rfl, rfl, rfl⟩) ?_
      refine Walk.ahead [10] (by rfl) (by kernel_rfl) (by rfl) (rs := [17]) (by rfl) nrSdA0 (fun base => by
          refine n_load rfl ti139 nrSdA0 nrSdA0 rfl nrSdA0 ?_
          exact AOps.nil ⟨rfl, rfl, rfl⟩) ?_
      refine Walk.ahead [10] (by rfl) (by kernel_rfl) (by rfl) (rs := [3]) (by rfl) nrSdA0 (fun base => by
          refine n_move rfl nrSdA0 ?_
          exact AOps.nil ⟨rfl, rfl, rfl⟩) ?_
      refine Walk.ahead [10] (by rfl) (by kernel_rfl) (by rfl) (rs := [18, 19]) (by rfl) nrSdA0 (fun base => by
          refine n_bqIndexAddr (q := i) rfl Try.underlying139 ti22 nrSdA0 nrSdA0 (by omega) (by omega) (by omega) ?_
          exact AOps.nil ⟨rfl, rfl, rfl⟩) ?_
      refine Walk.ahead [10] (by rfl) (by kernel_rfl) (by rfl) (rs := [20]) (by rfl) nrSdA0 (fun base => by
          refine n_load (cs := (x.q.map bys ++ List.replicate ((cap - x.q.length) * 1) D.any).drop i) (d := bys y) rfl ti22 nrSdA0 rfl (by rw [List.length_drop, List.length_append, List.length_map]; exact Nat.ble_eq_true_of_le (by show 1 ≤ _; omega)) (by show List.headD _ _ = _; exact q_drop hy) ?_
          exact AOps.nil ⟨rfl, rfl, rfl⟩) ?_
      refine Walk.ahead [10] (by rfl) (by kernel_rfl) (by rfl) (rs := [21]) (by rfl) nrSdA0 (fun base => by
          refine n_call0B rfl cf95 rfl (Eq.trans (by simp only [nl] <;> rfl) nrSdA0) (by repeat (first | exact .nil | refine .cons ?_ ?_ | exact ren_ints | exact .lf (.val _) | exact .lf (lf_ints (.inl rfl)) | exact .bp ⟨rfl, rfl⟩ | exact .bp (.inl ⟨rfl, rfl⟩) | exact .bp (.inr ⟨rfl, rfl⟩) | exact ren_qe | exact .lf (lf_sqz _) | exact .lf (lf_qe (.inl rfl)) | exact ren_sqz rfl | exact ren_sqz0 rfl | exact ren_bys0 rfl | exact .lf (D.flat_lf rfl) | exact ren_lits rfl | exact .lf (lf_ssz _) | exact .lf (lf_pqz _) | exact ren_q0 rfl | exact ren_pq rfl | exact ren_nl0 | exact ren_sq | exact .lf (.fn (fun d h => by cases h) (fun d h => by cases h)))) (b_clone y hyL) lfSdA0 ?_
          exact AOps.nil ⟨rfl, rfl, rfl⟩) ?_
      refine Walk.ahead [10] (by rfl) (by kernel_rfl) (by rfl) (rs := [15, 16]) (by rfl) nrSdA0 (fun base => by
          refine n_bqIndexAddr (q := i) rfl Try.underlying139 ti22 nrSdA0 nrSdA0 (by omega) (by omega) (by omega) ?_
          exact AOps.nil ⟨rfl, rfl, rfl⟩) ?_
      refine Walk.writes (d := .any) (by rfl) (rs := [23, 22]) (by rfl) nrSdA0 (fun base => by
          refine n_store (off := i) (l0 := 2) (ds := x.q.map bys ++ List.replicate ((cap - x.q.length) * 1) D.any) (cs := [bys y]) (S' := [Ob.box [vi x.b, vi x.p, vi x.s, vi x.a, vi x.e, .bq 2 0 x.q.length cap], Ob.box [vi 0, vi 0, vi 0, vi 0, vi 0, .sl (some true) [] .full], Ob.box (x.q.map bys ++ List.replicate ((cap - x.q.length) * 1) D.any)]) ti22 nrSdA0 rfl nrSdA0 rfl rfl rfl rfl (by rw [List.length_append, List.length_map]; exact Nat.ble_eq_true_of_le (by omega)) (by rw [splice_same (q_at hy)]; rfl) ?_
          exact AOps.nil ⟨rfl, rfl, rfl⟩) ?_
      refine Walk.done ?_
      refine AWP.region ?_
      first | refine n_iadd rfl nrSdA0 nrSdA0 rfl (by omega) (by omega) ?_ | refine n_ibin rfl nrSdA0 nrSdA0 rfl ?_
      refine n_move rfl nrSdA0 ?_
      refine AOps.nil ?_
      refine ⟨i + 1, by omega, ?_, rfl, by omega⟩
      (repeat (first | exact FLe.empty _ | refine FLe.put ?_ ?_)) <;> first | (simp only [nf, nfS, Nat.beq]; done) | rfl | ((try simp only [nf, nfS, Nat.beq]); first | rfl | (simp only [List.length_map]; done) | (congr 2; omega; done))
    · try simp only [nh] at hc1
      refine AWP.exit ?_
      refine AWP.seq ?_
      refine AWP.region ?_
      refine n_load rfl ti141 nrSdA0 nrSdA0 rfl nrSdA0 ?_
      refine n_store ti141 nrSdA0 nrSdA0 nrSdA0 rfl nrSdA0 rfl rfl rfl nrSdA0 ?_
      refine AOps.nil ?_
      refine AWP.rowBq (j := 2) (j' := 1) (i := 5) (n := x.q.length) (cap := cap) (sz := 1) (xs := x.q.map qe) (b := List.replicate ((cap - x.q.length) * 1) D.any) (S' := [Ob.box [vi x.b, vi x.p, vi x.s, vi x.a, vi x.e, .bq 2 0 x.q.length cap], .box (sqc x (.own 2)), .row x.q.length 1]) rfl rfl rfl rfl (by rw [qe_flat]) (by rw [List.length_map]) (by rw [List.length_append, List.length_map, List.length_replicate]; omega) (map_one (f := qe) (fun _ => rfl)) (fun z hz d hd => by obtain ⟨y, _, rfl⟩ := List.mem_map.1 hz; simp only [qe, List.mem_cons, List.not_mem_nil, or_false] at hd; subst hd; rfl) rfl ?_
      refine AWP.ret ?_
      refine fin_rowR (l := 2) (.cons (rv_cell ti141 nrSdA0 nrSdA0 rfl nrSdA0) .nil) nrSdA0 ?_ rfl rfl
      exact .agg rfl (RenAll.get (.cons (.lf (.val _)) (.cons (.lf (.val _)) (.cons (.lf (.val _)) (.cons (.lf (.val _)) (.cons (.lf (.val _)) (.cons (.own (fun z hz d hd => by obtain ⟨y, _, rfl⟩ := List.mem_map.1 hz; exact qe_lf y d hd) ⟨rfl, rfl⟩) .nil)))))))

theorem l_cloneQ (x : Sq) (hl : x.q.length ≤ 16) (hq : ∀ y ∈ x.q, y.length ≤ 131072) : Does Try.prog 269 [.agg (sqz x)] [] (.agg (sqc x (.own 0))) [.row x.q.length 1] := by
  rcases Nat.eq_zero_or_pos x.q.length with h | h
  · obtain ⟨b, p, s, a, e, q⟩ := x
    obtain rfl : q = [] := List.eq_nil_of_length_eq_zero h
    exact l_clone ⟨b, p, s, a, e⟩
  · exact l_cloneQ1 x h hl hq
theorem l_cloneR (x : Sq) (hx : x.Ok) : Does Try.prog 269 [.agg (sqz x)] [] (.agg (sqz x)) [] := (l_cloneQ x hx.m hx.l).toRo sq_asRo (lf_sqz x)
theorem l_answerQ (x : Sq) (hx : x.Ok) : Does Try.prog 112 [.agg (sqz x)] [] (.agg (pqz (x.pk 0 []))) [] := by
  refine Does.of_body (rvs := [.cell 2 157]) Try.func112 rfl rfl rfl rfl ?_
  have hpk := l_packet x.b x.p x.s x.a x.e (.sl none (x.q.map qe) .ro) (lf_qe (.inl rfl)) 0 [] (by simp [L40]) hx.e
  refine AWP.seq ?_
  refine AWP.region ?_
  refine n_box rfl nrSdA0 rfl rfl nrSdA0 nrSdA0 ?_
  refine n_alloc rfl zi157 rfl nrSdA0 nrSdA0 ?_
  refine AOps.nil ?_
  refine AWP.seq ?_
  refine AWP.seq ?_
  refine AWP.region ?_
  refine n_load rfl ti141 nrSdA0 nrSdA0 rfl nrSdA0 ?_
  refine n_call0B rfl cf213 rfl (Eq.trans (by simp only [nl] <;> rfl) nrSdA0) (by repeat (first | exact .nil | refine .cons ?_ ?_ | exact ren_ints | exact .lf (.val _) | exact .lf (lf_ints (.inl rfl)) | exact .bp ⟨rfl, rfl⟩ | exact .bp (.inl ⟨rfl, rfl⟩) | exact .bp (.inr ⟨rfl, rfl⟩) | exact ren_qe | exact .lf (lf_sqz _) | exact .lf (lf_qe (.inl rfl)) | exact ren_sqz rfl | exact ren_sqz0 rfl | exact ren_bys0 rfl | exact .lf (D.flat_lf rfl) | exact ren_lits rfl | exact .lf (lf_ssz _) | exact .lf (lf_pqz _) | exact ren_q0 rfl | exact ren_pq rfl | exact ren_nl0 | exact ren_sq | exact .lf (.fn (fun d h => by cases h) (fun d h => by cases h)))) (l_chkQ _ (by assumption)) lfSdA0 ?_
  refine n_ibin rfl nrSdA0 nrSdA0 rfl ?_
  refine AOps.nil ?_
  refine AWP.cond_false nrSdA0 ?_
  refine AWP.skip ?_
  refine AWP.seq ?_
  refine AWP.region ?_
  refine n_load rfl ti141 nrSdA0 nrSdA0 rfl nrSdA0 ?_
  refine n_call0B rfl cf214 rfl (Eq.trans (by simp only [nl] <;> rfl) nrSdA0) (by repeat (first | exact .nil | refine .cons ?_ ?_ | exact ren_ints | exact .lf (.val _) | exact .lf (lf_ints (.inl rfl)) | exact .bp ⟨rfl, rfl⟩ | exact .bp (.inl ⟨rfl, rfl⟩) | exact .bp (.inr ⟨rfl, rfl⟩) | exact ren_qe | exact .lf (lf_sqz _) | exact .lf (lf_qe (.inl rfl)) | exact ren_sqz rfl | exact ren_sqz0 rfl | exact ren_bys0 rfl | exact .lf (D.flat_lf rfl) | exact ren_lits rfl | exact .lf (lf_ssz _) | exact .lf (lf_pqz _) | exact ren_q0 rfl | exact ren_pq rfl | exact ren_nl0 | exact ren_sq | exact .lf (.fn (fun d h => by cases h) (fun d h => by cases h)))) (hpk) lfSdA0 ?_
  refine n_store ti157 nrSdA0 nrSdA0 nrSdA0 rfl nrSdA0 rfl rfl rfl nrSdA0 ?_
  refine AOps.nil ?_
  refine AWP.ret ?_
  refine fin_pure (.cons (rv_cell ti157 nrSdA0 nrSdA0 rfl nrSdA0) .nil) nrSdA0 ?_
  exact .lf (lf_pqz (x.pk 0 []))

set_option maxHeartbeats 2000000 in
theorem l_sendF (x : Sq) (hx : x.Ok) (l : List Int) (hl : l.length ≤ 131072) (h16 : ¬ x.q.length < 16) : Does Try.prog 208 [.agg (sqz x), bys l] [] (.tup [.agg (sqz x), .agg (pqz Pq.z), vi 230]) [] := by
  refine Does.of_body (rvs := [.cell 4 141, .cell 5 157, .tmp 6]) Try.func208 rfl rfl rfl rfl ?_
  have hL : L40 l := by simp only [L40]; omega
  have h1 : 0 ≤ x.s ∧ x.s ≤ 9007199254740992 := hx.s
  have hm := hx.m
  have hpk := l_packet x.b x.p (x.s + 1) x.a x.e (.sl none ((x.q ++ [l]).map qe) .ro) (lf_qe (.inl rfl)) (x.s + 1) l hL hx.e
  refine AWP.seq ?_
  refine AWP.region ?_
  refine n_box rfl nrSdA0 rfl rfl nrSdA0 nrSdA0 ?_
  refine n_alloc rfl zi141 rfl nrSdA0 nrSdA0 ?_
  refine n_alloc rfl zi157 rfl nrSdA0 nrSdA0 ?_
  refine n_assign rfl nrSdA0 ?_
  refine AOps.nil ?_
  refine AWP.seq ?_
  refine AWP.region ?_
  refine n_load rfl ti141 nrSdA0 nrSdA0 rfl nrSdA0 ?_
  refine n_callRowR (r' := .agg (sqc x (.own 3))) rfl cf269 rfl (Eq.trans (by simp only [nl] <;> rfl) nrSdA0) (by repeat (first | exact .nil | refine .cons ?_ ?_ | exact ren_ints | exact .lf (.val _) | exact .lf (lf_ints (.inl rfl)) | exact .bp ⟨rfl, rfl⟩ | exact .bp (.inl ⟨rfl, rfl⟩) | exact .bp (.inr ⟨rfl, rfl⟩) | exact ren_qe | exact .lf (lf_sqz _) | exact .lf (lf_qe (.inl rfl)) | exact ren_sqz rfl | exact ren_sqz0 rfl | exact ren_bys0 rfl | exact .lf (D.flat_lf rfl) | exact ren_lits rfl | exact .lf (lf_ssz _) | exact .lf (lf_pqz _) | exact ren_q0 rfl | exact ren_pq rfl | exact ren_nl0 | exact ren_sq | exact .lf (.fn (fun d h => by cases h) (fun d h => by cases h)))) (l_cloneQ x hx.m hx.l) rfl (by exact .agg rfl (RenAll.get (.cons (.lf (.val _)) (.cons (.lf (.val _)) (.cons (.lf (.val _)) (.cons (.lf (.val _)) (.cons (.lf (.val _)) (.cons (.own (fun z hz d hd => by obtain ⟨y, _, rfl⟩ := List.mem_map.1 hz; exact qe_lf y d hd) ⟨rfl, rfl⟩) .nil)))))))) nrSdA0 ?_
  refine n_store ti141 nrSdA0 nrSdA0 nrSdA0 rfl nrSdA0 rfl rfl rfl nrSdA0 ?_
  refine AOps.nil ?_
  refine AWP.seq ?_
  refine AWP.region ?_
  refine n_load rfl ti141 nrSdA0 nrSdA0 rfl nrSdA0 ?_
  refine n_call0B rfl cf213 rfl (Eq.trans (by simp only [nl] <;> rfl) nrSdA0) (by repeat (first | exact .nil | refine .cons ?_ ?_ | exact ren_ints | exact .lf (.val _) | exact .lf (lf_ints (.inl rfl)) | exact .bp ⟨rfl, rfl⟩ | exact .bp (.inl ⟨rfl, rfl⟩) | exact .bp (.inr ⟨rfl, rfl⟩) | exact ren_qe | exact .lf (lf_sqz _) | exact .lf (lf_qe (.inl rfl)) | exact ren_sqz rfl | exact ren_sqz0 rfl | exact ren_bys0 rfl | exact .lf (D.flat_lf rfl) | exact ren_lits rfl | exact .lf (lf_ssz _) | exact .lf (lf_pqz _) | exact ren_q0 rfl | exact ren_pq rfl | exact ren_nl0 | exact ren_sq | exact .lf (.fn (fun d h => by cases h) (fun d h => by cases h)))) (l_chkQ _ (by assumption)) lfSdA0 ?_
  refine n_assign rfl nrSdA0 ?_
  refine AOps.nil ?_
  refine AWP.seq ?_
  refine AWP.block ?_
  refine AWP.seq ?_
  refine AWP.region ?_
  refine n_move rfl nrSdA0 ?_
  refine n_ibin rfl nrSdA0 nrSdA0 rfl ?_
  refine n_assign rfl nrSdA0 ?_
  refine AOps.nil ?_
  refine AWP.cond_false nrSdA0 ?_
  refine AWP.seq ?_
  refine AWP.region ?_
  refine n_move rfl nrSdA0 ?_
  refine n_len rfl Try.underlying22 nrSdA0 (by first | rw [ints_length] | rw [List.length_map] | rfl) ?_
  refine n_ibin rfl nrSdA0 nrSdA0 rfl ?_
  refine n_assign rfl nrSdA0 ?_
  refine AOps.nil ?_
  refine AWP.cond nrSdA0 (fun hc2 => ?_) (fun hc2 => ?_)
  · try simp only [nh] at hc2
    exfalso
    omega
  · try simp only [nh] at hc2
    refine AWP.seq ?_
    refine AWP.region ?_
    refine n_fieldAddr rfl fd141_5 ti139 rfl nrSdA0 rfl nrSdA0 ?_
    refine n_load rfl ti139 nrSdA0 nrSdA0 rfl nrSdA0 ?_
    refine n_len rfl Try.underlying139 nrSdA0 (by first | rw [ints_length] | rw [List.length_map] | rfl) ?_
    refine n_ibin rfl nrSdA0 nrSdA0 rfl ?_
    refine n_assign rfl nrSdA0 ?_
    refine AOps.nil ?_
    refine AWP.cond nrSdA0 (fun hc3 => ?_) (fun hc3 => ?_)
    · try simp only [nh] at hc3
      refine AWP.region ?_
      refine n_assign rfl nrSdA0 ?_
      refine AOps.nil ?_
      refine AWP.seq ?_
      refine AWP.seq ?_
      refine AWP.region ?_
      refine n_move rfl nrSdA0 ?_
      refine n_ibin rfl nrSdA0 nrSdA0 rfl ?_
      refine AOps.nil ?_
      refine AWP.cond_true nrSdA0 ?_
      refine AWP.seq ?_
      refine AWP.region ?_
      refine n_load rfl ti141 nrSdA0 nrSdA0 rfl nrSdA0 ?_
      refine n_build rfl si157 (Eq.trans (by simp only [nl] <;> rfl) nrSdA0) (Eq.trans (by simp only [nl] <;> rfl) nrSdA0) rfl ?_
      refine n_move rfl nrSdA0 ?_
      refine n_store ti141 nrSdA0 nrSdA0 nrSdA0 rfl nrSdA0 rfl rfl rfl nrSdA0 ?_
      refine n_store ti157 nrSdA0 nrSdA0 nrSdA0 rfl nrSdA0 rfl rfl rfl nrSdA0 ?_
      refine n_assign rfl nrSdA0 ?_
      refine AOps.nil ?_
      refine AWP.ret ?_
      refine fin_pure (.cons (rv_cell ti141 nrSdA0 nrSdA0 rfl nrSdA0) (.cons (rv_cell ti157 nrSdA0 nrSdA0 rfl nrSdA0) (.cons (rv_tmp nrSdA0) .nil))) nrSdA0 ?_
      exact .tup rfl (RenAll.get (.cons (ren_sqz rfl) (.cons (ren_pq0 rfl) (.cons (ren_flat rfl rfl) .nil))))
    · try simp only [nh] at hc3
      exfalso
      simp at hc3
      omega

set_option maxHeartbeats 2000000 in
theorem l_sendQ (x : Sq) (hx : x.Ok) (l : List Int) (hl : l.length ≤ 131072) (h16 : x.q.length < 16) (hs : x.s < 9007199254740992) : Does Try.prog 208 [.agg (sqz x), bys l] [] (.tup [.agg (sqz (x.send l)), .agg (pqz (x.pk (x.s + 1) l)), vi 0]) [] := by
  refine Does.of_body (rvs := [.cell 4 141, .cell 5 157, .tmp 6]) Try.func208 rfl rfl rfl rfl ?_
  have hL : L40 l := by simp only [L40]; omega
  have h1 : 0 ≤ x.s ∧ x.s ≤ 9007199254740992 := hx.s
  have hm := hx.m
  have hpk := l_packet x.b x.p (x.s + 1) x.a x.e (.sl none ((x.q ++ [l]).map qe) .ro) (lf_qe (.inl rfl)) (x.s + 1) l hL hx.e
  refine AWP.seq ?_
  refine AWP.region ?_
  refine n_box rfl nrSdA0 rfl rfl nrSdA0 nrSdA0 ?_
  refine n_alloc rfl zi141 rfl nrSdA0 nrSdA0 ?_
  refine n_alloc rfl zi157 rfl nrSdA0 nrSdA0 ?_
  refine n_assign rfl nrSdA0 ?_
  refine AOps.nil ?_
  refine AWP.seq ?_
  refine AWP.region ?_
  refine n_load rfl ti141 nrSdA0 nrSdA0 rfl nrSdA0 ?_
  refine n_callRowR (r' := .agg (sqc x (.own 3))) rfl cf269 rfl (Eq.trans (by simp only [nl] <;> rfl) nrSdA0) (by repeat (first | exact .nil | refine .cons ?_ ?_ | exact ren_ints | exact .lf (.val _) | exact .lf (lf_ints (.inl rfl)) | exact .bp ⟨rfl, rfl⟩ | exact .bp (.inl ⟨rfl, rfl⟩) | exact .bp (.inr ⟨rfl, rfl⟩) | exact ren_qe | exact .lf (lf_sqz _) | exact .lf (lf_qe (.inl rfl)) | exact ren_sqz rfl | exact ren_sqz0 rfl | exact ren_bys0 rfl | exact .lf (D.flat_lf rfl) | exact ren_lits rfl | exact .lf (lf_ssz _) | exact .lf (lf_pqz _) | exact ren_q0 rfl | exact ren_pq rfl | exact ren_nl0 | exact ren_sq | exact .lf (.fn (fun d h => by cases h) (fun d h => by cases h)))) (l_cloneQ x hx.m hx.l) rfl (by exact .agg rfl (RenAll.get (.cons (.lf (.val _)) (.cons (.lf (.val _)) (.cons (.lf (.val _)) (.cons (.lf (.val _)) (.cons (.lf (.val _)) (.cons (.own (fun z hz d hd => by obtain ⟨y, _, rfl⟩ := List.mem_map.1 hz; exact qe_lf y d hd) ⟨rfl, rfl⟩) .nil)))))))) nrSdA0 ?_
  refine n_store ti141 nrSdA0 nrSdA0 nrSdA0 rfl nrSdA0 rfl rfl rfl nrSdA0 ?_
  refine AOps.nil ?_
  refine AWP.seq ?_
  refine AWP.region ?_
  refine n_load rfl ti141 nrSdA0 nrSdA0 rfl nrSdA0 ?_
  refine n_call0B rfl cf213 rfl (Eq.trans (by simp only [nl] <;> rfl) nrSdA0) (by repeat (first | exact .nil | refine .cons ?_ ?_ | exact ren_ints | exact .lf (.val _) | exact .lf (lf_ints (.inl rfl)) | exact .bp ⟨rfl, rfl⟩ | exact .bp (.inl ⟨rfl, rfl⟩) | exact .bp (.inr ⟨rfl, rfl⟩) | exact ren_qe | exact .lf (lf_sqz _) | exact .lf (lf_qe (.inl rfl)) | exact ren_sqz rfl | exact ren_sqz0 rfl | exact ren_bys0 rfl | exact .lf (D.flat_lf rfl) | exact ren_lits rfl | exact .lf (lf_ssz _) | exact .lf (lf_pqz _) | exact ren_q0 rfl | exact ren_pq rfl | exact ren_nl0 | exact ren_sq | exact .lf (.fn (fun d h => by cases h) (fun d h => by cases h)))) (l_chkQ _ (by assumption)) lfSdA0 ?_
  refine n_assign rfl nrSdA0 ?_
  refine AOps.nil ?_
  refine AWP.seq ?_
  refine AWP.block ?_
  refine AWP.seq ?_
  refine AWP.region ?_
  refine n_move rfl nrSdA0 ?_
  refine n_ibin rfl nrSdA0 nrSdA0 rfl ?_
  refine n_assign rfl nrSdA0 ?_
  refine AOps.nil ?_
  refine AWP.cond_false nrSdA0 ?_
  refine AWP.seq ?_
  refine AWP.region ?_
  refine n_move rfl nrSdA0 ?_
  refine n_len rfl Try.underlying22 nrSdA0 (by first | rw [ints_length] | rw [List.length_map] | rfl) ?_
  refine n_ibin rfl nrSdA0 nrSdA0 rfl ?_
  refine n_assign rfl nrSdA0 ?_
  refine AOps.nil ?_
  refine AWP.cond nrSdA0 (fun hc2 => ?_) (fun hc2 => ?_)
  · try simp only [nh] at hc2
    exfalso
    omega
  · try simp only [nh] at hc2
    refine AWP.seq ?_
    refine AWP.region ?_
    refine n_fieldAddr rfl fd141_5 ti139 rfl nrSdA0 rfl nrSdA0 ?_
    refine n_load rfl ti139 nrSdA0 nrSdA0 rfl nrSdA0 ?_
    refine n_len rfl Try.underlying139 nrSdA0 (by first | rw [ints_length] | rw [List.length_map] | rfl) ?_
    refine n_ibin rfl nrSdA0 nrSdA0 rfl ?_
    refine n_assign rfl nrSdA0 ?_
    refine AOps.nil ?_
    refine AWP.cond nrSdA0 (fun hc3 => ?_) (fun hc3 => ?_)
    · try simp only [nh] at hc3
      exfalso
      simp at hc3
      omega
    · try simp only [nh] at hc3
      refine AWP.seq ?_
      refine AWP.region ?_
      refine n_fieldAddr rfl fd141_2 ti2 rfl nrSdA0 rfl nrSdA0 ?_
      refine n_load rfl ti2 nrSdA0 nrSdA0 rfl nrSdA0 ?_
      refine n_ibin rfl nrSdA0 nrSdA0 rfl ?_
      refine n_assign rfl nrSdA0 ?_
      refine AOps.nil ?_
      refine AWP.cond nrSdA0 (fun hc4 => ?_) (fun hc4 => ?_)
      · try simp only [nh] at hc4
        exfalso
        omega
      · try simp only [nh] at hc4
        refine AWP.skip ?_
        refine AWP.seq ?_
        refine AWP.seq ?_
        refine AWP.region ?_
        refine n_move rfl nrSdA0 ?_
        refine n_ibin rfl nrSdA0 nrSdA0 rfl ?_
        refine AOps.nil ?_
        refine AWP.cond_false nrSdA0 ?_
        refine AWP.skip ?_
        refine AWP.seq ?_
        refine AWP.region ?_
        refine n_fieldAddr rfl fd141_2 ti2 rfl nrSdA0 rfl nrSdA0 ?_
        refine n_load rfl ti2 nrSdA0 nrSdA0 rfl nrSdA0 ?_
        first | refine n_iadd rfl nrSdA0 nrSdA0 rfl (by omega) (by omega) ?_ | refine n_ibin rfl nrSdA0 nrSdA0 rfl ?_
        refine n_fieldAddr rfl fd141_2 ti2 rfl nrSdA0 rfl nrSdA0 ?_
        refine n_store ti2 nrSdA0 nrSdA0 nrSdA0 rfl nrSdA0 rfl rfl rfl nrSdA0 ?_
        refine AOps.nil ?_
        refine AWP.seq ?_
        refine AWP.anyT [5, 7] (fun p => match p with | [false, false] => [Ob.box [vi x.b, vi x.p, vi (x.s + 1), vi x.a, vi x.e, .sl none (x.q.map qe) (.own 3)], Ob.box [vi 0, vi 0, vi 0, vi 0, vi 0, .sl (some true) [] .full], Ob.box [vi 0, vi 0, vi 0, vi 0, .sl (some true) [] .full], Ob.row x.q.length 1] | [true, false] => [Ob.box [vi x.b, vi x.p, vi (x.s + 1), vi x.a, vi x.e, .sl none (x.q.map qe) (.own 3)], Ob.box [vi 0, vi 0, vi 0, vi 0, vi 0, .sl (some true) [] .full], Ob.box [vi 0, vi 0, vi 0, vi 0, .sl (some true) [] .full], Ob.row (x.q.length + 1) 1] | [true, true] => [Ob.box [vi x.b, vi x.p, vi (x.s + 1), vi x.a, vi x.e, .sl none ((x.q ++ [l]).map qe) (.own 3)], Ob.box [vi 0, vi 0, vi 0, vi 0, vi 0, .sl (some true) [] .full], Ob.box [vi 0, vi 0, vi 0, vi 0, .sl (some true) [] .full], Ob.row (x.q.length + 1) 1] | _ => []) (by kernel_rfl) (by kernel_rfl) rfl rfl ?_
        refine Walk.cases [([false, false], [Ob.box [vi x.b, vi x.p, vi (x.s + 1), vi x.a, vi x.e, .sl none (x.q.map qe) (.own 3)], Ob.box [vi 0, vi 0, vi 0, vi 0, vi 0, .sl (some true) [] .full], Ob.box [vi 0, vi 0, vi 0, vi 0, .sl (some true) [] .full], Ob.row x.q.length 1], [Ob.box [vi x.b, vi x.p, vi (x.s + 1), vi x.a, vi x.e, .sl none (x.q.map qe) (.own 3)], Ob.box [vi 0, vi 0, vi 0, vi 0, vi 0, .sl (some true) [] .full], Ob.box [vi 0, vi 0, vi 0, vi 0, .sl (some true) [] .full], Ob.row x.q.length 1])] (by rfl) (by kernel_rfl) (rs := [2]) (by rfl) nrSdA0 (fun base => ⟨
            ⟨rfl, rfl, by
              refine n_fieldAddr rfl fd141_5 ti139 rfl nrSdA0 rfl nrSdA0 ?_
              exact AOps.nil ⟨rfl, rfl, rfl⟩⟩,
            trivial⟩) ?_
        refine Walk.cases [([false, false], [Ob.box [vi x.b, vi x.p, vi (x.s + 1), vi x.a, vi x.e, .sl none (x.q.map qe) (.own 3)], Ob.box [vi 0, vi 0, vi 0, vi 0, vi 0, .sl (some true) [] .full], Ob.box [vi 0, vi 0, vi 0, vi 0, .sl (some true) [] .full], Ob.row x.q.length 1], [Ob.box [vi x.b, vi x.p, vi (x.s + 1), vi x.a, vi x.e, .sl none (x.q.map qe) (.own 3)], Ob.box [vi 0, vi 0, vi 0, vi 0, vi 0, .sl (some true) [] .full], Ob.box [vi 0, vi 0, vi 0, vi 0, .sl (some true) [] .full], Ob.row x.q.length 1])] (by rfl) (by kernel_rfl) (rs := [37]) (by rfl) nrSdA0 (fun base => ⟨
            ⟨rfl, rfl, by
              refine n_load rfl ti139 nrSdA0 nrSdA0 rfl nrSdA0 ?_
              exact AOps.nil ⟨rfl, rfl, rfl⟩⟩,
            trivial⟩) ?_
        refine Walk.cases [([false, false], [Ob.box [vi x.b, vi x.p, vi (x.s + 1), vi x.a, vi x.e, .sl none (x.q.map qe) (.own 3)], Ob.box [vi 0, vi 0, vi 0, vi 0, vi 0, .sl (some true) [] .full], Ob.box [vi 0, vi 0, vi 0, vi 0, .sl (some true) [] .full], Ob.row x.q.length 1], [Ob.box [vi x.b, vi x.p, vi (x.s + 1), vi x.a, vi x.e, .sl none (x.q.map qe) (.own 3)], Ob.box [vi 0, vi 0, vi 0, vi 0, vi 0, .sl (some true) [] .full], Ob.box [vi 0, vi 0, vi 0, vi 0, .sl (some true) [] .full], Ob.row x.q.length 1])] (by rfl) (by kernel_rfl) (rs := [1]) (by rfl) nrSdA0 (fun base => ⟨
            ⟨rfl, rfl, by
              refine n_move rfl nrSdA0 ?_
              exact AOps.nil ⟨rfl, rfl, rfl⟩⟩,
            trivial⟩) ?_
        refine Walk.cases [([false, false], [Ob.box [vi x.b, vi x.p, vi (x.s + 1), vi x.a, vi x.e, .sl none (x.q.map qe) (.own 3)], Ob.box [vi 0, vi 0, vi 0, vi 0, vi 0, .sl (some true) [] .full], Ob.box [vi 0, vi 0, vi 0, vi 0, .sl (some true) [] .full], Ob.row x.q.length 1], [Ob.box [vi x.b, vi x.p, vi (x.s + 1), vi x.a, vi x.e, .sl none (x.q.map qe) (.own 3)], Ob.box [vi 0, vi 0, vi 0, vi 0, vi 0, .sl (some true) [] .full], Ob.box [vi 0, vi 0, vi 0, vi 0, .sl (some true) [] .full], Ob.row x.q.length 1])] (by rfl) (by kernel_rfl) (rs := [39]) (by rfl) nrSdA0 (fun base => ⟨
            ⟨rfl, rfl, by
              refine n_call0B rfl cf95 rfl (Eq.trans (by simp only [nl] <;> rfl) nrSdA0) (by repeat (first | exact .nil | refine .cons ?_ ?_ | exact ren_ints | exact .lf (.val _) | exact .lf (lf_ints (.inl rfl)) | exact .bp ⟨rfl, rfl⟩ | exact .bp (.inl ⟨rfl, rfl⟩) | exact .bp (.inr ⟨rfl, rfl⟩) | exact ren_qe | exact .lf (lf_sqz _) | exact .lf (lf_qe (.inl rfl)) | exact ren_sqz rfl | exact ren_sqz0 rfl | exact ren_bys0 rfl | exact .lf (D.flat_lf rfl) | exact ren_lits rfl | exact .lf (lf_ssz _) | exact .lf (lf_pqz _) | exact ren_q0 rfl | exact ren_pq rfl | exact ren_nl0 | exact ren_sq | exact .lf (.fn (fun d h => by cases h) (fun d h => by cases h)))) (b_clone l hL) lfSdA0 ?_
              exact AOps.nil ⟨rfl, rfl, rfl⟩⟩,
            trivial⟩) ?_
        refine Walk.cases [([false, false], [Ob.box [vi x.b, vi x.p, vi (x.s + 1), vi x.a, vi x.e, .sl none (x.q.map qe) (.own 3)], Ob.box [vi 0, vi 0, vi 0, vi 0, vi 0, .sl (some true) [] .full], Ob.box [vi 0, vi 0, vi 0, vi 0, .sl (some true) [] .full], Ob.row x.q.length 1], [Ob.box [vi x.b, vi x.p, vi (x.s + 1), vi x.a, vi x.e, .sl none (x.q.map qe) (.own 3)], Ob.box [vi 0, vi 0, vi 0, vi 0, vi 0, .sl (some true) [] .full], Ob.box [vi 0, vi 0, vi 0, vi 0, .sl (some true) [] .full], Ob.row x.q.length 1])] (by rfl) (by kernel_rfl) (rs := [40]) (by rfl) nrSdA0 (fun base => ⟨
            ⟨rfl, rfl, by
              refine n_lit rfl Try.underlying139 ti22 zi22 rfl rfl (Eq.trans (by simp only [nl] <;> rfl) nrSdA0) rfl nrSdA0 ?_
              exact AOps.nil ⟨rfl, rfl, rfl⟩⟩,
            trivial⟩) ?_
        refine Walk.cases [([false, false], [Ob.box [vi x.b, vi x.p, vi (x.s + 1), vi x.a, vi x.e, .sl none (x.q.map qe) (.own 3)], Ob.box [vi 0, vi 0, vi 0, vi 0, vi 0, .sl (some true) [] .full], Ob.box [vi 0, vi 0, vi 0, vi 0, .sl (some true) [] .full], Ob.row x.q.length 1], [Ob.box [vi x.b, vi x.p, vi (x.s + 1), vi x.a, vi x.e, .sl none (x.q.map qe) (.own 3)], Ob.box [vi 0, vi 0, vi 0, vi 0, vi 0, .sl (some true) [] .full], Ob.box [vi 0, vi 0, vi 0, vi 0, .sl (some true) [] .full], Ob.row (x.q.length + 1) 1])] (by rfl) (by kernel_rfl) (rs := [38, 41]) (by rfl) nrSdA0 (fun base => ⟨
            ⟨rfl, rfl, by
              refine n_append_own (zs := (x.q ++ [l]).map qe) (m := x.q.length + 1) rfl Try.underlying139 Try.underlying139 ei22 nrSdA0 nrSdA0 (by rw [List.length_map]) nrSdA0 (by exact map_one (f := qe) (fun _ => rfl)) (by exact one_one rfl) (by simp) (by simp) (by omega) nrSdA0 ?_
              exact AOps.nil ⟨rfl, rfl, rfl⟩⟩,
            trivial⟩) ?_
        refine Walk.cases [([true, false], [Ob.box [vi x.b, vi x.p, vi (x.s + 1), vi x.a, vi x.e, .sl none (x.q.map qe) (.own 3)], Ob.box [vi 0, vi 0, vi 0, vi 0, vi 0, .sl (some true) [] .full], Ob.box [vi 0, vi 0, vi 0, vi 0, .sl (some true) [] .full], Ob.row (x.q.length + 1) 1], [Ob.box [vi x.b, vi x.p, vi (x.s + 1), vi x.a, vi x.e, .sl none (x.q.map qe) (.own 3)], Ob.box [vi 0, vi 0, vi 0, vi 0, vi 0, .sl (some true) [] .full], Ob.box [vi 0, vi 0, vi 0, vi 0, .sl (some true) [] .full], Ob.row (x.q.length + 1) 1])] (by rfl) (by kernel_rfl) (rs := [2]) (by rfl) nrSdA0 (fun base => ⟨
            ⟨rfl, rfl, by
              refine n_fieldAddr rfl fd141_5 ti139 rfl nrSdA0 rfl nrSdA0 ?_
              exact AOps.nil ⟨rfl, rfl, rfl⟩⟩,
            trivial⟩) ?_
        refine Walk.cases (d := .any) [([true, false], [Ob.box [vi x.b, vi x.p, vi (x.s + 1), vi x.a, vi x.e, .sl none (x.q.map qe) (.own 3)], Ob.box [vi 0, vi 0, vi 0, vi 0, vi 0, .sl (some true) [] .full], Ob.box [vi 0, vi 0, vi 0, vi 0, .sl (some true) [] .full], Ob.row (x.q.length + 1) 1], [Ob.box [vi x.b, vi x.p, vi (x.s + 1), vi x.a, vi x.e, .sl none ((x.q ++ [l]).map qe) (.own 3)], Ob.box [vi 0, vi 0, vi 0, vi 0, vi 0, .sl (some true) [] .full], Ob.box [vi 0, vi 0, vi 0, vi 0, .sl (some true) [] .full], Ob.row (x.q.length + 1) 1])] (by rfl) (by kernel_rfl) (rs := [43, 42]) (by rfl) nrSdA0 (fun base => ⟨
            ⟨rfl, rfl, by
              refine n_store ti139 nrSdA0 nrSdA0 nrSdA0 rfl nrSdA0 rfl rfl rfl nrSdA0 ?_
              exact AOps.nil ⟨rfl, rfl, rfl⟩⟩,
            trivial⟩) ?_
        refine Walk.done ?_
        refine AWP.seq ?_
        refine AWP.anyT [6, 7] (fun p => match p with | [false, false] => [Ob.box [vi x.b, vi x.p, vi (x.s + 1), vi x.a, vi x.e, .sl none ((x.q ++ [l]).map qe) (.own 3)], Ob.box [vi 0, vi 0, vi 0, vi 0, vi 0, .sl (some true) [] .full], Ob.box [vi 0, vi 0, vi 0, vi 0, .sl (some true) [] .full], Ob.row (x.q.length + 1) 1] | [true, false] => [Ob.box [vi x.b, vi x.p, vi (x.s + 1), vi x.a, vi x.e, .sl none ((x.q ++ [l]).map qe) (.own 3)], Ob.box [vi x.b, vi x.p, vi (x.s + 1), vi x.a, vi x.e, .sl none ((x.q ++ [l]).map qe) (.own 3)], Ob.box [vi 0, vi 0, vi 0, vi 0, .sl (some true) [] .full], Ob.row (x.q.length + 1) 1] | [false, true] => [Ob.box [vi x.b, vi x.p, vi (x.s + 1), vi x.a, vi x.e, .sl none ((x.q ++ [l]).map qe) (.own 3)], Ob.box [vi 0, vi 0, vi 0, vi 0, vi 0, .sl (some true) [] .full], Ob.box (pqz ⟨x.b, x.p, x.s + 1, x.e - 1, l⟩), Ob.row (x.q.length + 1) 1] | [true, true] => [Ob.box [vi x.b, vi x.p, vi (x.s + 1), vi x.a, vi x.e, .sl none ((x.q ++ [l]).map qe) (.own 3)], Ob.box [vi x.b, vi x.p, vi (x.s + 1), vi x.a, vi x.e, .sl none ((x.q ++ [l]).map qe) (.own 3)], Ob.box (pqz ⟨x.b, x.p, x.s + 1, x.e - 1, l⟩), Ob.row (x.q.length + 1) 1] | _ => []) (by kernel_rfl) (by kernel_rfl) rfl rfl ?_
        refine Walk.cases [([false, false], [Ob.box [vi x.b, vi x.p, vi (x.s + 1), vi x.a, vi x.e, .sl none ((x.q ++ [l]).map qe) (.own 3)], Ob.box [vi 0, vi 0, vi 0, vi 0, vi 0, .sl (some true) [] .full], Ob.box [vi 0, vi 0, vi 0, vi 0, .sl (some true) [] .full], Ob.row (x.q.length + 1) 1], [Ob.box [vi x.b, vi x.p, vi (x.s + 1), vi x.a, vi x.e, .sl none ((x.q ++ [l]).map qe) (.own 3)], Ob.box [vi 0, vi 0, vi 0, vi 0, vi 0, .sl (some true) [] .full], Ob.box [vi 0, vi 0, vi 0, vi 0, .sl (some true) [] .full], Ob.row (x.q.length + 1) 1])] (by rfl) (by kernel_rfl) (rs := [2]) (by rfl) nrSdA0 (fun base => ⟨
            ⟨rfl, rfl, by
              refine n_load rfl ti141 nrSdA0 nrSdA0 rfl nrSdA0 ?_
              exact AOps.nil ⟨rfl, rfl, rfl⟩⟩,
            trivial⟩) ?_
        refine Walk.cases [([false, false], [Ob.box [vi x.b, vi x.p, vi (x.s + 1), vi x.a, vi x.e, .sl none ((x.q ++ [l]).map qe) (.own 3)], Ob.box [vi 0, vi 0, vi 0, vi 0, vi 0, .sl (some true) [] .full], Ob.box [vi 0, vi 0, vi 0, vi 0, .sl (some true) [] .full], Ob.row (x.q.length + 1) 1], [Ob.box [vi x.b, vi x.p, vi (x.s + 1), vi x.a, vi x.e, .sl none ((x.q ++ [l]).map qe) (.own 3)], Ob.box [vi 0, vi 0, vi 0, vi 0, vi 0, .sl (some true) [] .full], Ob.box [vi 0, vi 0, vi 0, vi 0, .sl (some true) [] .full], Ob.row (x.q.length + 1) 1])] (by rfl) (by kernel_rfl) (rs := [2]) (by rfl) nrSdA0 (fun base => ⟨
            ⟨rfl, rfl, by
              refine n_load rfl ti141 nrSdA0 nrSdA0 rfl nrSdA0 ?_
              exact AOps.nil ⟨rfl, rfl, rfl⟩⟩,
            trivial⟩) ?_
        refine Walk.cases [([false, false], [Ob.box [vi x.b, vi x.p, vi (x.s + 1), vi x.a, vi x.e, .sl none ((x.q ++ [l]).map qe) (.own 3)], Ob.box [vi 0, vi 0, vi 0, vi 0, vi 0, .sl (some true) [] .full], Ob.box [vi 0, vi 0, vi 0, vi 0, .sl (some true) [] .full], Ob.row (x.q.length + 1) 1], [Ob.box [vi x.b, vi x.p, vi (x.s + 1), vi x.a, vi x.e, .sl none ((x.q ++ [l]).map qe) (.own 3)], Ob.box [vi 0, vi 0, vi 0, vi 0, vi 0, .sl (some true) [] .full], Ob.box [vi 0, vi 0, vi 0, vi 0, .sl (some true) [] .full], Ob.row (x.q.length + 1) 1])] (by rfl) (by kernel_rfl) (rs := [2]) (by rfl) nrSdA0 (fun base => ⟨
            ⟨rfl, rfl, by
              refine n_fieldAddr rfl fd141_2 ti2 rfl nrSdA0 rfl nrSdA0 ?_
              exact AOps.nil ⟨rfl, rfl, rfl⟩⟩,
            trivial⟩) ?_
        refine Walk.cases [([false, false], [Ob.box [vi x.b, vi x.p, vi (x.s + 1), vi x.a, vi x.e, .sl none ((x.q ++ [l]).map qe) (.own 3)], Ob.box [vi 0, vi 0, vi 0, vi 0, vi 0, .sl (some true) [] .full], Ob.box [vi 0, vi 0, vi 0, vi 0, .sl (some true) [] .full], Ob.row (x.q.length + 1) 1], [Ob.box [vi x.b, vi x.p, vi (x.s + 1), vi x.a, vi x.e, .sl none ((x.q ++ [l]).map qe) (.own 3)], Ob.box [vi 0, vi 0, vi 0, vi 0, vi 0, .sl (some true) [] .full], Ob.box [vi 0, vi 0, vi 0, vi 0, .sl (some true) [] .full], Ob.row (x.q.length + 1) 1])] (by rfl) (by kernel_rfl) (rs := [46]) (by rfl) nrSdA0 (fun base => ⟨
            ⟨rfl, rfl, by
              refine n_load rfl ti2 nrSdA0 nrSdA0 rfl nrSdA0 ?_
              exact AOps.nil ⟨rfl, rfl, rfl⟩⟩,
            trivial⟩) ?_
        refine Walk.cases [([false, false], [Ob.box [vi x.b, vi x.p, vi (x.s + 1), vi x.a, vi x.e, .sl none ((x.q ++ [l]).map qe) (.own 3)], Ob.box [vi 0, vi 0, vi 0, vi 0, vi 0, .sl (some true) [] .full], Ob.box [vi 0, vi 0, vi 0, vi 0, .sl (some true) [] .full], Ob.row (x.q.length + 1) 1], [Ob.box [vi x.b, vi x.p, vi (x.s + 1), vi x.a, vi x.e, .sl none ((x.q ++ [l]).map qe) (.own 3)], Ob.box [vi 0, vi 0, vi 0, vi 0, vi 0, .sl (some true) [] .full], Ob.box [vi 0, vi 0, vi 0, vi 0, .sl (some true) [] .full], Ob.row (x.q.length + 1) 1])] (by rfl) (by kernel_rfl) (rs := [1]) (by rfl) nrSdA0 (fun base => ⟨
            ⟨rfl, rfl, by
              refine n_move rfl nrSdA0 ?_
              exact AOps.nil ⟨rfl, rfl, rfl⟩⟩,
            trivial⟩) ?_
        refine Walk.cases [([false, false], [Ob.box [vi x.b, vi x.p, vi (x.s + 1), vi x.a, vi x.e, .sl none ((x.q ++ [l]).map qe) (.own 3)], Ob.box [vi 0, vi 0, vi 0, vi 0, vi 0, .sl (some true) [] .full], Ob.box [vi 0, vi 0, vi 0, vi 0, .sl (some true) [] .full], Ob.row (x.q.length + 1) 1], [Ob.box [vi x.b, vi x.p, vi (x.s + 1), vi x.a, vi x.e, .sl none ((x.q ++ [l]).map qe) (.own 3)], Ob.box [vi 0, vi 0, vi 0, vi 0, vi 0, .sl (some true) [] .full], Ob.box [vi 0, vi 0, vi 0, vi 0, .sl (some true) [] .full], Ob.row (x.q.length + 1) 1])] (by rfl) (by kernel_rfl) (rs := [45, 47, 48]) (by rfl) nrSdA0 (fun base => ⟨
            ⟨rfl, rfl, by
              refine n_call0B rfl cf214 rfl (Eq.trans (by simp only [nl] <;> rfl) nrSdA0) (by repeat (first | exact .nil | refine .cons ?_ ?_ | exact ren_ints | exact .lf (.val _) | exact .lf (lf_ints (.inl rfl)) | exact .bp ⟨rfl, rfl⟩ | exact .bp (.inl ⟨rfl, rfl⟩) | exact .bp (.inr ⟨rfl, rfl⟩) | exact ren_qe | exact .lf (lf_sqz _) | exact .lf (lf_qe (.inl rfl)) | exact ren_sqz rfl | exact ren_sqz0 rfl | exact ren_bys0 rfl | exact .lf (D.flat_lf rfl) | exact ren_lits rfl | exact .lf (lf_ssz _) | exact .lf (lf_pqz _) | exact ren_q0 rfl | exact ren_pq rfl | exact ren_nl0 | exact ren_sq | exact .lf (.fn (fun d h => by cases h) (fun d h => by cases h)))) (hpk) lfSdA0 ?_
              exact AOps.nil ⟨rfl, rfl, rfl⟩⟩,
            trivial⟩) ?_
        refine Walk.cases (d := .any) [([false, false], [Ob.box [vi x.b, vi x.p, vi (x.s + 1), vi x.a, vi x.e, .sl none ((x.q ++ [l]).map qe) (.own 3)], Ob.box [vi 0, vi 0, vi 0, vi 0, vi 0, .sl (some true) [] .full], Ob.box [vi 0, vi 0, vi 0, vi 0, .sl (some true) [] .full], Ob.row (x.q.length + 1) 1], [Ob.box [vi x.b, vi x.p, vi (x.s + 1), vi x.a, vi x.e, .sl none ((x.q ++ [l]).map qe) (.own 3)], Ob.box [vi x.b, vi x.p, vi (x.s + 1), vi x.a, vi x.e, .sl none ((x.q ++ [l]).map qe) (.own 3)], Ob.box [vi 0, vi 0, vi 0, vi 0, .sl (some true) [] .full], Ob.row (x.q.length + 1) 1])] (by rfl) (by kernel_rfl) (rs := [4, 44]) (by rfl) nrSdA0 (fun base => ⟨
            ⟨rfl, rfl, by
              refine n_store ti141 nrSdA0 nrSdA0 nrSdA0 rfl nrSdA0 rfl rfl rfl nrSdA0 ?_
              exact AOps.nil ⟨rfl, rfl, rfl⟩⟩,
            trivial⟩) ?_
        refine Walk.cases (d := .any) [([true, false], [Ob.box [vi x.b, vi x.p, vi (x.s + 1), vi x.a, vi x.e, .sl none ((x.q ++ [l]).map qe) (.own 3)], Ob.box [vi x.b, vi x.p, vi (x.s + 1), vi x.a, vi x.e, .sl none ((x.q ++ [l]).map qe) (.own 3)], Ob.box [vi 0, vi 0, vi 0, vi 0, .sl (some true) [] .full], Ob.row (x.q.length + 1) 1], [Ob.box [vi x.b, vi x.p, vi (x.s + 1), vi x.a, vi x.e, .sl none ((x.q ++ [l]).map qe) (.own 3)], Ob.box [vi x.b, vi x.p, vi (x.s + 1), vi x.a, vi x.e, .sl none ((x.q ++ [l]).map qe) (.own 3)], Ob.box (pqz ⟨x.b, x.p, x.s + 1, x.e - 1, l⟩), Ob.row (x.q.length + 1) 1])] (by rfl) (by kernel_rfl) (rs := [5, 49]) (by rfl) nrSdA0 (fun base => ⟨
            ⟨rfl, rfl, by
              refine n_store ti157 nrSdA0 nrSdA0 nrSdA0 rfl nrSdA0 rfl rfl rfl nrSdA0 ?_
              exact AOps.nil ⟨rfl, rfl, rfl⟩⟩,
            trivial⟩) ?_
        refine Walk.cases [([true, true], [Ob.box [vi x.b, vi x.p, vi (x.s + 1), vi x.a, vi x.e, .sl none ((x.q ++ [l]).map qe) (.own 3)], Ob.box [vi x.b, vi x.p, vi (x.s + 1), vi x.a, vi x.e, .sl none ((x.q ++ [l]).map qe) (.own 3)], Ob.box (pqz ⟨x.b, x.p, x.s + 1, x.e - 1, l⟩), Ob.row (x.q.length + 1) 1], [Ob.box [vi x.b, vi x.p, vi (x.s + 1), vi x.a, vi x.e, .sl none ((x.q ++ [l]).map qe) (.own 3)], Ob.box [vi x.b, vi x.p, vi (x.s + 1), vi x.a, vi x.e, .sl none ((x.q ++ [l]).map qe) (.own 3)], Ob.box (pqz ⟨x.b, x.p, x.s + 1, x.e - 1, l⟩), Ob.row (x.q.length + 1) 1])] (by rfl) (by kernel_rfl) (rs := []) (by rfl) nrSdA0 (fun base => ⟨
            ⟨rfl, rfl, by
              refine n_assign rfl nrSdA0 ?_
              exact AOps.nil ⟨rfl, rfl, rfl⟩⟩,
            trivial⟩) ?_
        refine Walk.done ?_
        refine AWP.ret ?_
        refine fin_pure (.cons (rv_cell ti141 nrSdA0 nrSdA0 rfl nrSdA0) (.cons (rv_cell ti157 nrSdA0 nrSdA0 rfl nrSdA0) (.cons (rv_tmp nrSdA0) .nil))) nrSdA0 ?_
        exact .tup rfl (RenAll.get (.cons (ren_sqz rfl) (.cons (.lf (lf_pqz ⟨x.b, x.p, x.s + 1, x.e - 1, l⟩)) (.cons (ren_flat rfl rfl) .nil))))

theorem q_cloneR (q : List (List Int)) (hl : q.length ≤ 16) : Does Try.prog 270 [(.sl none (q.map qe) .ro)] [] (.sl none (q.map qe) .ro) [] := by
  refine Does.of_body (rvs := [.tmp 2]) Try.func270 rfl rfl rfl rfl ?_
  refine AWP.seq ?_
  refine AWP.region ?_
  refine n_assign rfl nrSdA0 ?_
  refine AOps.nil ?_
  refine AWP.seq ?_
  refine AWP.seq ?_
  refine AWP.region ?_
  refine n_move rfl nrSdA0 ?_
  refine n_eqnil rfl Try.underlying139 nrSdA0 (fun b1 hb1 he1 => ?_)
  refine AOps.nil ?_
  refine AWP.cond nrSdA0 (fun hc2 => ?_) (fun hc2 => ?_)
  · try simp only [nh] at hc2
    refine AWP.seq ?_
    refine AWP.region ?_
    refine n_assign rfl nrSdA0 ?_
    refine AOps.nil ?_
    refine AWP.ret ?_
    refine fin_pure (.cons (rv_tmp nrSdA0) .nil) nrSdA0 ?_
    first | (rw [he1 (by assumption)]; exact .ro (fun x hx => by cases hx)) | exact ren_qe
  · try simp only [nh] at hc2
    refine AWP.skip ?_
    refine AWP.seq ?_
    refine AWP.region ?_
    refine n_lit rfl Try.underlying139 ti22 zi22 rfl rfl (Eq.trans (by simp only [nl] <;> rfl) nrSdA0) rfl nrSdA0 ?_
    refine n_move rfl nrSdA0 ?_
    refine n_append_full rfl Try.underlying139 Try.underlying139 ei22 nrSdA0 nrSdA0 (by intro x hx; cases hx) (by exact map_one (f := qe) (fun _ => rfl)) nrSdA0 rfl (by simp only [List.length_map, List.length_nil]; omega) rfl nrSdA0 ?_
    refine n_assign rfl nrSdA0 ?_
    refine AOps.nil ?_
    refine AWP.ret ?_
    refine fin_pure (.cons (rv_tmp nrSdA0) .nil) nrSdA0 ?_
    first | (rw [he1 (by assumption)]; exact .ro (fun x hx => by cases hx)) | exact ren_qe

set_option maxHeartbeats 4000000 in
theorem l_takeQ (x : Sq) (hx : x.Ok) (y : Pq) (hy : y.chk = 0) : Does Try.prog 209 [.agg (sqz x), .agg (pqz y)] [] (.tup [.agg (sqz (x.take y).1), bys (x.take y).2.1, vb (x.take y).2.2]) [] := by
  refine Does.of_body (rvs := [.cell 4 141, .tmp 5, .tmp 6]) Try.func209 rfl rfl rfl rfl ?_
  have hn := Pq.chk0.1 hy
  unfold Pq.may at hn
  have hl : L40 y.l := by simp only [L40]; omega
  have hcp := l_cp y hl
  rw [hy] at hcp
  have h1 : 0 ≤ x.s ∧ x.s ≤ 9007199254740992 := hx.s
  have h2 : 0 ≤ x.a ∧ x.a ≤ 9007199254740992 := hx.a
  have h3 := hx.d
  have h4 := hx.m
  have h5 : 1 ≤ x.e ∧ x.e ≤ 9007199254740992 := hx.e
  refine AWP.seq ?_
  refine AWP.region ?_
  refine n_box rfl nrSdA0 rfl rfl nrSdA0 nrSdA0 ?_
  refine n_box rfl nrSdA0 rfl rfl nrSdA0 nrSdA0 ?_
  refine n_alloc rfl zi141 rfl nrSdA0 nrSdA0 ?_
  refine n_assign rfl nrSdA0 ?_
  refine n_assign rfl nrSdA0 ?_
  refine AOps.nil ?_
  refine AWP.seq ?_
  refine AWP.region ?_
  refine n_load rfl ti141 nrSdA0 nrSdA0 rfl nrSdA0 ?_
  refine n_call0B rfl cf269 rfl (Eq.trans (by simp only [nl] <;> rfl) nrSdA0) (by repeat (first | exact .nil | refine .cons ?_ ?_ | exact ren_ints | exact .lf (.val _) | exact .lf (lf_ints (.inl rfl)) | exact .bp ⟨rfl, rfl⟩ | exact .bp (.inl ⟨rfl, rfl⟩) | exact .bp (.inr ⟨rfl, rfl⟩) | exact ren_qe | exact .lf (lf_sqz _) | exact .lf (lf_qe (.inl rfl)) | exact ren_sqz rfl | exact ren_sqz0 rfl | exact ren_bys0 rfl | exact .lf (D.flat_lf rfl) | exact ren_lits rfl | exact .lf (lf_ssz _) | exact .lf (lf_pqz _) | exact ren_q0 rfl | exact ren_pq rfl | exact ren_nl0 | exact ren_sq | exact .lf (.fn (fun d h => by cases h) (fun d h => by cases h)))) (l_cloneR x hx) lfSdA0 ?_
  refine n_store ti141 nrSdA0 nrSdA0 nrSdA0 rfl nrSdA0 rfl rfl rfl nrSdA0 ?_
  refine AOps.nil ?_
  refine AWP.seq ?_
  refine AWP.seq ?_
  refine AWP.region ?_
  refine n_load rfl ti141 nrSdA0 nrSdA0 rfl nrSdA0 ?_
  refine n_call0B rfl cf213 rfl (Eq.trans (by simp only [nl] <;> rfl) nrSdA0) (by repeat (first | exact .nil | refine .cons ?_ ?_ | exact ren_ints | exact .lf (.val _) | exact .lf (lf_ints (.inl rfl)) | exact .bp ⟨rfl, rfl⟩ | exact .bp (.inl ⟨rfl, rfl⟩) | exact .bp (.inr ⟨rfl, rfl⟩) | exact ren_qe | exact .lf (lf_sqz _) | exact .lf (lf_qe (.inl rfl)) | exact ren_sqz rfl | exact ren_sqz0 rfl | exact ren_bys0 rfl | exact .lf (D.flat_lf rfl) | exact ren_lits rfl | exact .lf (lf_ssz _) | exact .lf (lf_pqz _) | exact ren_q0 rfl | exact ren_pq rfl | exact ren_nl0 | exact ren_sq | exact .lf (.fn (fun d h => by cases h) (fun d h => by cases h)))) (l_chkQ _ (by assumption)) lfSdA0 ?_
  refine n_ibin rfl nrSdA0 nrSdA0 rfl ?_
  refine n_move rfl nrSdA0 ?_
  refine AOps.name (u := 12) (fun z => .val (.bool z)) nrSdA0 (fun b12 hb12 => ?_)
  refine n_soft (u := 12) (E := .val (.bool b12)) (!b12) rfl rfl rfl nrSdA0 (by cases b12 <;> first | (intro _; rfl) | (intro h; exact absurd h (by decide))) (by cases b12 <;> first | (intro h; exact absurd h (by decide)) | (intro _; exact ⟨_, rfl, by first | (intro h; cases h; done) | decide | simp⟩)) (fun h => by
      cases b12 with
      | true => exact absurd h (by first | decide | simp)
      | false =>
        refine n_load rfl ti157 nrSdA0 nrSdA0 rfl nrSdA0 ?_
        exact AOps.nil ⟨rfl, rfl, rfl⟩) ?_
  refine n_soft (u := 12) (E := .val (.bool b12)) (!b12) rfl rfl rfl nrSdA0 (by cases b12 <;> first | (intro _; rfl) | (intro h; exact absurd h (by decide))) (by cases b12 <;> first | (intro h; exact absurd h (by decide)) | (intro _; exact ⟨_, rfl, by first | (intro h; cases h; done) | decide | simp⟩)) (fun h => by
      cases b12 with
      | true => exact absurd h (by first | decide | simp)
      | false =>
        refine n_call0B rfl cf156 rfl (Eq.trans (by simp only [nl] <;> rfl) nrSdA0) (by repeat (first | exact .nil | refine .cons ?_ ?_ | exact ren_ints | exact .lf (.val _) | exact .lf (lf_ints (.inl rfl)) | exact .bp ⟨rfl, rfl⟩ | exact .bp (.inl ⟨rfl, rfl⟩) | exact .bp (.inr ⟨rfl, rfl⟩) | exact ren_qe | exact .lf (lf_sqz _) | exact .lf (lf_qe (.inl rfl)) | exact ren_sqz rfl | exact ren_sqz0 rfl | exact ren_bys0 rfl | exact .lf (D.flat_lf rfl) | exact ren_lits rfl | exact .lf (lf_ssz _) | exact .lf (lf_pqz _) | exact ren_q0 rfl | exact ren_pq rfl | exact ren_nl0 | exact ren_sq | exact .lf (.fn (fun d h => by cases h) (fun d h => by cases h)))) (hcp) lfSdA0 ?_
        exact AOps.nil ⟨rfl, rfl, rfl⟩) ?_
  refine n_soft (u := 12) (E := .val (.bool b12)) (!b12) rfl rfl rfl nrSdA0 (by cases b12 <;> first | (intro _; rfl) | (intro h; exact absurd h (by decide))) (by cases b12 <;> first | (intro h; exact absurd h (by decide)) | (intro _; exact ⟨_, rfl, by first | (intro h; cases h; done) | decide | simp⟩)) (fun h => by
      cases b12 with
      | true => exact absurd h (by first | decide | simp)
      | false =>
        refine n_ibin rfl nrSdA0 nrSdA0 rfl ?_
        exact AOps.nil ⟨rfl, rfl, rfl⟩) ?_
  refine n_pick_or rfl nrSdA0 (fun h => by cases b12 with | true => exact absurd h (by decide) | false => exact nrSdA0) ?_
  refine n_move rfl nrSdA0 ?_
  refine AOps.name (u := 17) (fun z => .val (.bool z)) nrSdA0 (fun b17 hb17 => ?_)
  refine n_soft (u := 17) (E := .val (.bool b17)) (!b17) rfl rfl rfl nrSdA0 (by cases b17 <;> first | (intro _; rfl) | (intro h; exact absurd h (by decide))) (by cases b17 <;> first | (intro h; exact absurd h (by decide)) | (intro _; exact ⟨_, rfl, by first | (intro h; cases h; done) | decide | simp⟩)) (fun h => by
      cases b17 with
      | true => exact absurd h (by first | decide | simp)
      | false =>
        refine n_fieldAddr rfl fd157_0 ti2 rfl nrSdA0 rfl nrSdA0 ?_
        exact AOps.nil ⟨rfl, rfl, rfl⟩) ?_
  refine n_soft (u := 17) (E := .val (.bool b17)) (!b17) rfl rfl rfl nrSdA0 (by cases b17 <;> first | (intro _; rfl) | (intro h; exact absurd h (by decide))) (by cases b17 <;> first | (intro h; exact absurd h (by decide)) | (intro _; exact ⟨_, rfl, by first | (intro h; cases h; done) | decide | simp⟩)) (fun h => by
      cases b17 with
      | true => exact absurd h (by first | decide | simp)
      | false =>
        refine n_load rfl ti2 nrSdA0 nrSdA0 rfl nrSdA0 ?_
        exact AOps.nil ⟨rfl, rfl, rfl⟩) ?_
  refine n_soft (u := 17) (E := .val (.bool b17)) (!b17) rfl rfl rfl nrSdA0 (by cases b17 <;> first | (intro _; rfl) | (intro h; exact absurd h (by decide))) (by cases b17 <;> first | (intro h; exact absurd h (by decide)) | (intro _; exact ⟨_, rfl, by first | (intro h; cases h; done) | decide | simp⟩)) (fun h => by
      cases b17 with
      | true => exact absurd h (by first | decide | simp)
      | false =>
        refine n_fieldAddr rfl fd141_1 ti2 rfl nrSdA0 rfl nrSdA0 ?_
        exact AOps.nil ⟨rfl, rfl, rfl⟩) ?_
  refine n_soft (u := 17) (E := .val (.bool b17)) (!b17) rfl rfl rfl nrSdA0 (by cases b17 <;> first | (intro _; rfl) | (intro h; exact absurd h (by decide))) (by cases b17 <;> first | (intro h; exact absurd h (by decide)) | (intro _; exact ⟨_, rfl, by first | (intro h; cases h; done) | decide | simp⟩)) (fun h => by
      cases b17 with
      | true => exact absurd h (by first | decide | simp)
      | false =>
        refine n_load rfl ti2 nrSdA0 nrSdA0 rfl nrSdA0 ?_
        exact AOps.nil ⟨rfl, rfl, rfl⟩) ?_
  refine n_soft (u := 17) (E := .val (.bool b17)) (!b17) rfl rfl rfl nrSdA0 (by cases b17 <;> first | (intro _; rfl) | (intro h; exact absurd h (by decide))) (by cases b17 <;> first | (intro h; exact absurd h (by decide)) | (intro _; exact ⟨_, rfl, by first | (intro h; cases h; done) | decide | simp⟩)) (fun h => by
      cases b17 with
      | true => exact absurd h (by first | decide | simp)
      | false =>
        refine n_ibin rfl nrSdA0 nrSdA0 rfl ?_
        exact AOps.nil ⟨rfl, rfl, rfl⟩) ?_
  refine n_pick_or rfl nrSdA0 (fun h => by cases b17 with | true => exact absurd h (by decide) | false => exact nrSdA0) ?_
  subst hb12
  subst hb17
  refine AOps.nil ?_
  refine AWP.cond nrSdA0 (fun hc1 => ?_) (fun hc1 => ?_)
  · try simp only [nh] at hc1
    have hz : x.take y = (x, [], false) := by unfold Sq.take; rw [if_pos (by simpa using hc1)]
    refine AWP.seq ?_
    refine AWP.region ?_
    refine n_load rfl ti141 nrSdA0 nrSdA0 rfl nrSdA0 ?_
    refine n_store ti141 nrSdA0 nrSdA0 nrSdA0 rfl nrSdA0 rfl rfl rfl nrSdA0 ?_
    refine n_assign rfl nrSdA0 ?_
    refine n_assign rfl nrSdA0 ?_
    refine AOps.nil ?_
    refine AWP.ret ?_
    refine fin_pure (.cons (rv_cell ti141 nrSdA0 nrSdA0 rfl nrSdA0) (.cons (rv_tmp nrSdA0) (.cons (rv_tmp nrSdA0) .nil))) nrSdA0 ?_
    rw [hz]; exact .tup rfl (RenAll.get (.cons (by first | exact ren_sqz rfl | exact ren_sqz0 rfl) (.cons (by first | exact ren_bys0 rfl | exact ren_ints) (.cons (ren_flat rfl rfl) .nil))))
  · try simp only [nh] at hc1
    have hg1 : ¬ y.b < x.p := by simpa using hc1
    refine AWP.skip ?_
    refine AWP.seq ?_
    refine AWP.seq ?_
    refine AWP.region ?_
    refine n_fieldAddr rfl fd157_0 ti2 rfl nrSdA0 rfl nrSdA0 ?_
    refine n_load rfl ti2 nrSdA0 nrSdA0 rfl nrSdA0 ?_
    refine n_fieldAddr rfl fd141_1 ti2 rfl nrSdA0 rfl nrSdA0 ?_
    refine n_load rfl ti2 nrSdA0 nrSdA0 rfl nrSdA0 ?_
    refine n_ibin rfl nrSdA0 nrSdA0 rfl ?_
    refine AOps.nil ?_
    refine AWP.cond nrSdA0 (fun hc2 => ?_) (fun hc2 => ?_)
    · try simp only [nh] at hc2
      have hme : x.meet y = ⟨x.b, y.b, 0, 0, 1, []⟩ := by unfold Sq.meet; rw [if_pos hc2]
      have hgt := hc2
      refine AWP.region ?_
      refine n_fieldAddr rfl fd157_0 ti2 rfl nrSdA0 rfl nrSdA0 ?_
      refine n_load rfl ti2 nrSdA0 nrSdA0 rfl nrSdA0 ?_
      refine n_fieldAddr rfl fd141_1 ti2 rfl nrSdA0 rfl nrSdA0 ?_
      refine n_store ti2 nrSdA0 nrSdA0 nrSdA0 rfl nrSdA0 rfl rfl rfl nrSdA0 ?_
      refine n_fieldAddr rfl fd141_2 ti2 rfl nrSdA0 rfl nrSdA0 ?_
      refine n_store ti2 nrSdA0 nrSdA0 nrSdA0 rfl nrSdA0 rfl rfl rfl nrSdA0 ?_
      refine n_fieldAddr rfl fd141_3 ti2 rfl nrSdA0 rfl nrSdA0 ?_
      refine n_store ti2 nrSdA0 nrSdA0 nrSdA0 rfl nrSdA0 rfl rfl rfl nrSdA0 ?_
      refine n_fieldAddr rfl fd141_4 ti2 rfl nrSdA0 rfl nrSdA0 ?_
      refine n_store ti2 nrSdA0 nrSdA0 nrSdA0 rfl nrSdA0 rfl rfl rfl nrSdA0 ?_
      refine n_fieldAddr rfl fd141_5 ti139 rfl nrSdA0 rfl nrSdA0 ?_
      refine n_store ti139 nrSdA0 nrSdA0 nrSdA0 rfl nrSdA0 rfl rfl rfl nrSdA0 ?_
      refine AOps.nil ?_
      refine AWP.seq ?_
      refine AWP.seq ?_
      refine AWP.region ?_
      refine n_fieldAddr rfl fd157_1 ti2 rfl nrSdA0 rfl nrSdA0 ?_
      refine n_load rfl ti2 nrSdA0 nrSdA0 rfl nrSdA0 ?_
      refine n_fieldAddr rfl fd141_0 ti2 rfl nrSdA0 rfl nrSdA0 ?_
      refine n_load rfl ti2 nrSdA0 nrSdA0 rfl nrSdA0 ?_
      refine n_ibin rfl nrSdA0 nrSdA0 rfl ?_
      refine AOps.nil ?_
      refine AWP.cond nrSdA0 (fun hc3 => ?_) (fun hc3 => ?_)
      · try simp only [nh] at hc3
        have hz : x.take y = (x.meet y, [], false) := by unfold Sq.take; rw [if_neg hg1, if_pos (by rw [hme]; exact hc3)]
        rw [hme] at hz
        refine AWP.seq ?_
        refine AWP.region ?_
        refine n_load rfl ti141 nrSdA0 nrSdA0 rfl nrSdA0 ?_
        refine n_store ti141 nrSdA0 nrSdA0 nrSdA0 rfl nrSdA0 rfl rfl rfl nrSdA0 ?_
        refine n_assign rfl nrSdA0 ?_
        refine n_assign rfl nrSdA0 ?_
        refine AOps.nil ?_
        refine AWP.ret ?_
        refine fin_pure (.cons (rv_cell ti141 nrSdA0 nrSdA0 rfl nrSdA0) (.cons (rv_tmp nrSdA0) (.cons (rv_tmp nrSdA0) .nil))) nrSdA0 ?_
        rw [hz]; exact .tup rfl (RenAll.get (.cons (by first | exact ren_sqz rfl | exact ren_sqz0 rfl) (.cons (by first | exact ren_bys0 rfl | exact ren_ints) (.cons (ren_flat rfl rfl) .nil))))
      · try simp only [nh] at hc3
        have hg2 : ¬ y.p ≠ (x.meet y).b := by rw [hme]; simpa using hc3
        refine AWP.skip ?_
        refine AWP.seq ?_
        refine AWP.seq ?_
        refine AWP.region ?_
        refine n_fieldAddr rfl fd157_3 ti2 rfl nrSdA0 rfl nrSdA0 ?_
        refine n_load rfl ti2 nrSdA0 nrSdA0 rfl nrSdA0 ?_
        refine n_fieldAddr rfl fd141_3 ti2 rfl nrSdA0 rfl nrSdA0 ?_
        refine n_load rfl ti2 nrSdA0 nrSdA0 rfl nrSdA0 ?_
        refine n_ibin rfl nrSdA0 nrSdA0 rfl ?_
        refine n_move rfl nrSdA0 ?_
        refine AOps.name (u := 48) (fun z => .val (.bool z)) nrSdA0 (fun b48 hb48 => ?_)
        refine n_soft (u := 48) (E := .val (.bool b48)) (b48) rfl rfl rfl nrSdA0 (by cases b48 <;> first | (intro _; rfl) | (intro h; exact absurd h (by decide))) (by cases b48 <;> first | (intro h; exact absurd h (by decide)) | (intro _; exact ⟨_, rfl, by first | (intro h; cases h; done) | decide | simp⟩)) (fun h => by
            cases b48 with
            | false => exact absurd h (by first | decide | simp)
            | true =>
              refine n_fieldAddr rfl fd157_3 ti2 rfl nrSdA0 rfl nrSdA0 ?_
              exact AOps.nil ⟨rfl, rfl, rfl⟩) ?_
        refine n_soft (u := 48) (E := .val (.bool b48)) (b48) rfl rfl rfl nrSdA0 (by cases b48 <;> first | (intro _; rfl) | (intro h; exact absurd h (by decide))) (by cases b48 <;> first | (intro h; exact absurd h (by decide)) | (intro _; exact ⟨_, rfl, by first | (intro h; cases h; done) | decide | simp⟩)) (fun h => by
            cases b48 with
            | false => exact absurd h (by first | decide | simp)
            | true =>
              refine n_load rfl ti2 nrSdA0 nrSdA0 rfl nrSdA0 ?_
              exact AOps.nil ⟨rfl, rfl, rfl⟩) ?_
        refine n_soft (u := 48) (E := .val (.bool b48)) (b48) rfl rfl rfl nrSdA0 (by cases b48 <;> first | (intro _; rfl) | (intro h; exact absurd h (by decide))) (by cases b48 <;> first | (intro h; exact absurd h (by decide)) | (intro _; exact ⟨_, rfl, by first | (intro h; cases h; done) | decide | simp⟩)) (fun h => by
            cases b48 with
            | false => exact absurd h (by first | decide | simp)
            | true =>
              refine n_fieldAddr rfl fd141_2 ti2 rfl nrSdA0 rfl nrSdA0 ?_
              exact AOps.nil ⟨rfl, rfl, rfl⟩) ?_
        refine n_soft (u := 48) (E := .val (.bool b48)) (b48) rfl rfl rfl nrSdA0 (by cases b48 <;> first | (intro _; rfl) | (intro h; exact absurd h (by decide))) (by cases b48 <;> first | (intro h; exact absurd h (by decide)) | (intro _; exact ⟨_, rfl, by first | (intro h; cases h; done) | decide | simp⟩)) (fun h => by
            cases b48 with
            | false => exact absurd h (by first | decide | simp)
            | true =>
              refine n_load rfl ti2 nrSdA0 nrSdA0 rfl nrSdA0 ?_
              exact AOps.nil ⟨rfl, rfl, rfl⟩) ?_
        refine n_soft (u := 48) (E := .val (.bool b48)) (b48) rfl rfl rfl nrSdA0 (by cases b48 <;> first | (intro _; rfl) | (intro h; exact absurd h (by decide))) (by cases b48 <;> first | (intro h; exact absurd h (by decide)) | (intro _; exact ⟨_, rfl, by first | (intro h; cases h; done) | decide | simp⟩)) (fun h => by
            cases b48 with
            | false => exact absurd h (by first | decide | simp)
            | true =>
              refine n_ibin rfl nrSdA0 nrSdA0 rfl ?_
              exact AOps.nil ⟨rfl, rfl, rfl⟩) ?_
        refine n_pick_and rfl nrSdA0 (fun h => by cases b48 with | false => exact absurd h (by decide) | true => exact nrSdA0) ?_
        subst hb48
        refine AOps.nil ?_
        refine AWP.cond nrSdA0 (fun hc4 => ?_) (fun hc4 => ?_)
        · try simp only [nh] at hc4
          exfalso
          simp at hc4
          omega
        · try simp only [nh] at hc4
          have hak : (x.meet y).ack y = x.meet y := by rw [hme]; unfold Sq.ack; rw [if_neg (by (try dsimp only); first | (simp at hc4; omega) | omega)]
          replace hak := hak.trans hme
          refine AWP.skip ?_
          refine AWP.seq ?_
          refine AWP.seq ?_
          refine AWP.region ?_
          refine n_fieldAddr rfl fd157_2 ti2 rfl nrSdA0 rfl nrSdA0 ?_
          refine n_load rfl ti2 nrSdA0 nrSdA0 rfl nrSdA0 ?_
          refine n_fieldAddr rfl fd141_4 ti2 rfl nrSdA0 rfl nrSdA0 ?_
          refine n_load rfl ti2 nrSdA0 nrSdA0 rfl nrSdA0 ?_
          refine n_ibin rfl nrSdA0 nrSdA0 rfl ?_
          refine n_move rfl nrSdA0 ?_
          refine AOps.name (u := 73) (fun z => .val (.bool z)) nrSdA0 (fun b73 hb73 => ?_)
          refine n_soft (u := 73) (E := .val (.bool b73)) (!b73) rfl rfl rfl nrSdA0 (by cases b73 <;> first | (intro _; rfl) | (intro h; exact absurd h (by decide))) (by cases b73 <;> first | (intro h; exact absurd h (by decide)) | (intro _; exact ⟨_, rfl, by first | (intro h; cases h; done) | decide | simp⟩)) (fun h => by
              cases b73 with
              | true => exact absurd h (by first | decide | simp)
              | false =>
                refine n_fieldAddr rfl fd141_4 ti2 rfl nrSdA0 rfl nrSdA0 ?_
                exact AOps.nil ⟨rfl, rfl, rfl⟩) ?_
          refine n_soft (u := 73) (E := .val (.bool b73)) (!b73) rfl rfl rfl nrSdA0 (by cases b73 <;> first | (intro _; rfl) | (intro h; exact absurd h (by decide))) (by cases b73 <;> first | (intro h; exact absurd h (by decide)) | (intro _; exact ⟨_, rfl, by first | (intro h; cases h; done) | decide | simp⟩)) (fun h => by
              cases b73 with
              | true => exact absurd h (by first | decide | simp)
              | false =>
                refine n_load rfl ti2 nrSdA0 nrSdA0 rfl nrSdA0 ?_
                exact AOps.nil ⟨rfl, rfl, rfl⟩) ?_
          refine n_soft (u := 73) (E := .val (.bool b73)) (!b73) rfl rfl rfl nrSdA0 (by cases b73 <;> first | (intro _; rfl) | (intro h; exact absurd h (by decide))) (by cases b73 <;> first | (intro h; exact absurd h (by decide)) | (intro _; exact ⟨_, rfl, by first | (intro h; cases h; done) | decide | simp⟩)) (fun h => by
              cases b73 with
              | true => exact absurd h (by first | decide | simp)
              | false =>
                refine n_ibin rfl nrSdA0 nrSdA0 rfl ?_
                exact AOps.nil ⟨rfl, rfl, rfl⟩) ?_
          refine n_pick_or rfl nrSdA0 (fun h => by cases b73 with | true => exact absurd h (by decide) | false => exact nrSdA0) ?_
          subst hb73
          refine AOps.nil ?_
          refine AWP.cond nrSdA0 (fun hc5 => ?_) (fun hc5 => ?_)
          · try simp only [nh] at hc5
            have hz : x.take y = ((x.meet y).ack y, [], false) := by unfold Sq.take; rw [if_neg hg1, if_neg hg2, if_pos (by rw [hak]; simp at hc5 ⊢; grind)]
            rw [hak] at hz
            refine AWP.seq ?_
            refine AWP.region ?_
            refine n_load rfl ti141 nrSdA0 nrSdA0 rfl nrSdA0 ?_
            refine n_store ti141 nrSdA0 nrSdA0 nrSdA0 rfl nrSdA0 rfl rfl rfl nrSdA0 ?_
            refine n_assign rfl nrSdA0 ?_
            refine n_assign rfl nrSdA0 ?_
            refine AOps.nil ?_
            refine AWP.ret ?_
            refine fin_pure (.cons (rv_cell ti141 nrSdA0 nrSdA0 rfl nrSdA0) (.cons (rv_tmp nrSdA0) (.cons (rv_tmp nrSdA0) .nil))) nrSdA0 ?_
            rw [hz]; exact .tup rfl (RenAll.get (.cons (by first | exact ren_sqz rfl | exact ren_sqz0 rfl) (.cons (by first | exact ren_bys0 rfl | exact ren_ints) (.cons (ren_flat rfl rfl) .nil))))
          · try simp only [nh] at hc5
            have hg3 : ¬ (y.s ≠ ((x.meet y).ack y).e ∨ ((x.meet y).ack y).e ≥ MX) := by rw [hak]; simp at hc5 ⊢; grind
            have hz : x.take y = ({ (x.meet y).ack y with e := ((x.meet y).ack y).e + 1 }, y.l, true) := by unfold Sq.take; rw [if_neg hg1, if_neg hg2, if_neg hg3]
            rw [hak] at hz
            refine AWP.skip ?_
            refine AWP.seq ?_
            refine AWP.region ?_
            refine n_fieldAddr rfl fd141_4 ti2 rfl nrSdA0 rfl nrSdA0 ?_
            refine n_load rfl ti2 nrSdA0 nrSdA0 rfl nrSdA0 ?_
            first | refine n_iadd rfl nrSdA0 nrSdA0 rfl (by omega) (by omega) ?_ | refine n_ibin rfl nrSdA0 nrSdA0 rfl ?_
            refine n_fieldAddr rfl fd141_4 ti2 rfl nrSdA0 rfl nrSdA0 ?_
            refine n_store ti2 nrSdA0 nrSdA0 nrSdA0 rfl nrSdA0 rfl rfl rfl nrSdA0 ?_
            refine AOps.nil ?_
            refine AWP.seq ?_
            refine AWP.any1 4 [Ob.box [vi x.b, vi y.b, vi 0, vi 0, vi 2, .sl (some true) [] .full], Ob.box (pqz y), Ob.box [vi x.b, vi y.b, vi 0, vi 0, vi 2, .sl (some true) [] .full]] (by kernel_rfl) (by kernel_rfl) (by kernel_rfl) ?_
            refine Walk.ahead [4] (by rfl) (by kernel_rfl) (by rfl) (rs := [2]) (by rfl) nrSdA0 (fun base => by
                refine n_load rfl ti141 nrSdA0 nrSdA0 rfl nrSdA0 ?_
                exact AOps.nil ⟨rfl, rfl, rfl⟩) ?_
            refine Walk.ahead [2, 3, 4] (by rfl) (by kernel_rfl) (by rfl) (rs := [3]) (by rfl) nrSdA0 (fun base => by
                refine n_fieldAddr rfl fd157_4 ti22 rfl nrSdA0 rfl nrSdA0 ?_
                exact AOps.nil ⟨rfl, rfl, rfl⟩) ?_
            refine Walk.ahead [3, 4] (by rfl) (by kernel_rfl) (by rfl) (rs := [84]) (by rfl) nrSdA0 (fun base => by
                refine n_load rfl ti22 nrSdA0 nrSdA0 rfl nrSdA0 ?_
                exact AOps.nil ⟨rfl, rfl, rfl⟩) ?_
            refine Walk.ahead [4] (by rfl) (by kernel_rfl) (by rfl) (rs := [85]) (by rfl) nrSdA0 (fun base => by
                refine n_call0B rfl cf95 rfl (Eq.trans (by simp only [nl] <;> rfl) nrSdA0) (by repeat (first | exact .nil | refine .cons ?_ ?_ | exact ren_ints | exact .lf (.val _) | exact .lf (lf_ints (.inl rfl)) | exact .bp ⟨rfl, rfl⟩ | exact .bp (.inl ⟨rfl, rfl⟩) | exact .bp (.inr ⟨rfl, rfl⟩) | exact ren_qe | exact .lf (lf_sqz _) | exact .lf (lf_qe (.inl rfl)) | exact ren_sqz rfl | exact ren_sqz0 rfl | exact ren_bys0 rfl | exact .lf (D.flat_lf rfl) | exact ren_lits rfl | exact .lf (lf_ssz _) | exact .lf (lf_pqz _) | exact ren_q0 rfl | exact ren_pq rfl | exact ren_nl0 | exact ren_sq | exact .lf (.fn (fun d h => by cases h) (fun d h => by cases h)))) (b_clone y.l hl) lfSdA0 ?_
                exact AOps.nil ⟨rfl, rfl, rfl⟩) ?_
            refine Walk.writes (d := .any) (by rfl) (rs := [4, 83]) (by rfl) nrSdA0 (fun base => by
                refine n_store ti141 nrSdA0 nrSdA0 nrSdA0 rfl nrSdA0 rfl rfl rfl nrSdA0 ?_
                exact AOps.nil ⟨rfl, rfl, rfl⟩) ?_
            refine Walk.behind [5] (by rfl) (by rfl) (by kernel_rfl) (by rfl) (rs := [86]) (by rfl) nrSdA0 (fun base => by
                refine n_assign rfl nrSdA0 ?_
                exact AOps.nil ⟨rfl, rfl, rfl⟩) ?_
            refine Walk.behind [6] (by rfl) (by rfl) (by kernel_rfl) (by rfl) (rs := []) (by rfl) nrSdA0 (fun base => by
                refine n_assign rfl nrSdA0 ?_
                exact AOps.nil ⟨rfl, rfl, rfl⟩) ?_
            refine Walk.done ?_
            refine AWP.ret ?_
            refine fin_pure (.cons (rv_cell ti141 nrSdA0 nrSdA0 rfl nrSdA0) (.cons (rv_tmp nrSdA0) (.cons (rv_tmp nrSdA0) .nil))) nrSdA0 ?_
            rw [hz]; exact .tup rfl (RenAll.get (.cons (by first | exact ren_sqz rfl | exact ren_sqz0 rfl) (.cons (by first | exact ren_bys0 rfl | exact ren_ints) (.cons (ren_flat rfl rfl) .nil))))
    · try simp only [nh] at hc2
      have hme : x.meet y = x := by unfold Sq.meet; rw [if_neg hc2]
      refine AWP.skip ?_
      refine AWP.seq ?_
      refine AWP.seq ?_
      refine AWP.region ?_
      refine n_fieldAddr rfl fd157_1 ti2 rfl nrSdA0 rfl nrSdA0 ?_
      refine n_load rfl ti2 nrSdA0 nrSdA0 rfl nrSdA0 ?_
      refine n_fieldAddr rfl fd141_0 ti2 rfl nrSdA0 rfl nrSdA0 ?_
      refine n_load rfl ti2 nrSdA0 nrSdA0 rfl nrSdA0 ?_
      refine n_ibin rfl nrSdA0 nrSdA0 rfl ?_
      refine AOps.nil ?_
      refine AWP.cond nrSdA0 (fun hc6 => ?_) (fun hc6 => ?_)
      · try simp only [nh] at hc6
        have hz : x.take y = (x.meet y, [], false) := by unfold Sq.take; rw [if_neg hg1, if_pos (by rw [hme]; exact hc6)]
        rw [hme] at hz
        refine AWP.seq ?_
        refine AWP.region ?_
        refine n_load rfl ti141 nrSdA0 nrSdA0 rfl nrSdA0 ?_
        refine n_store ti141 nrSdA0 nrSdA0 nrSdA0 rfl nrSdA0 rfl rfl rfl nrSdA0 ?_
        refine n_assign rfl nrSdA0 ?_
        refine n_assign rfl nrSdA0 ?_
        refine AOps.nil ?_
        refine AWP.ret ?_
        refine fin_pure (.cons (rv_cell ti141 nrSdA0 nrSdA0 rfl nrSdA0) (.cons (rv_tmp nrSdA0) (.cons (rv_tmp nrSdA0) .nil))) nrSdA0 ?_
        rw [hz]; exact .tup rfl (RenAll.get (.cons (by first | exact ren_sqz rfl | exact ren_sqz0 rfl) (.cons (by first | exact ren_bys0 rfl | exact ren_ints) (.cons (ren_flat rfl rfl) .nil))))
      · try simp only [nh] at hc6
        have hg2 : ¬ y.p ≠ (x.meet y).b := by rw [hme]; simpa using hc6
        refine AWP.skip ?_
        refine AWP.seq ?_
        refine AWP.seq ?_
        refine AWP.region ?_
        refine n_fieldAddr rfl fd157_3 ti2 rfl nrSdA0 rfl nrSdA0 ?_
        refine n_load rfl ti2 nrSdA0 nrSdA0 rfl nrSdA0 ?_
        refine n_fieldAddr rfl fd141_3 ti2 rfl nrSdA0 rfl nrSdA0 ?_
        refine n_load rfl ti2 nrSdA0 nrSdA0 rfl nrSdA0 ?_
        refine n_ibin rfl nrSdA0 nrSdA0 rfl ?_
        refine n_move rfl nrSdA0 ?_
        refine AOps.name (u := 48) (fun z => .val (.bool z)) nrSdA0 (fun b48 hb48 => ?_)
        refine n_soft (u := 48) (E := .val (.bool b48)) (b48) rfl rfl rfl nrSdA0 (by cases b48 <;> first | (intro _; rfl) | (intro h; exact absurd h (by decide))) (by cases b48 <;> first | (intro h; exact absurd h (by decide)) | (intro _; exact ⟨_, rfl, by first | (intro h; cases h; done) | decide | simp⟩)) (fun h => by
            cases b48 with
            | false => exact absurd h (by first | decide | simp)
            | true =>
              refine n_fieldAddr rfl fd157_3 ti2 rfl nrSdA0 rfl nrSdA0 ?_
              exact AOps.nil ⟨rfl, rfl, rfl⟩) ?_
        refine n_soft (u := 48) (E := .val (.bool b48)) (b48) rfl rfl rfl nrSdA0 (by cases b48 <;> first | (intro _; rfl) | (intro h; exact absurd h (by decide))) (by cases b48 <;> first | (intro h; exact absurd h (by decide)) | (intro _; exact ⟨_, rfl, by first | (intro h; cases h; done) | decide | simp⟩)) (fun h => by
            cases b48 with
            | false => exact absurd h (by first | decide | simp)
            | true =>
              refine n_load rfl ti2 nrSdA0 nrSdA0 rfl nrSdA0 ?_
              exact AOps.nil ⟨rfl, rfl, rfl⟩) ?_
        refine n_soft (u := 48) (E := .val (.bool b48)) (b48) rfl rfl rfl nrSdA0 (by cases b48 <;> first | (intro _; rfl) | (intro h; exact absurd h (by decide))) (by cases b48 <;> first | (intro h; exact absurd h (by decide)) | (intro _; exact ⟨_, rfl, by first | (intro h; cases h; done) | decide | simp⟩)) (fun h => by
            cases b48 with
            | false => exact absurd h (by first | decide | simp)
            | true =>
              refine n_fieldAddr rfl fd141_2 ti2 rfl nrSdA0 rfl nrSdA0 ?_
              exact AOps.nil ⟨rfl, rfl, rfl⟩) ?_
        refine n_soft (u := 48) (E := .val (.bool b48)) (b48) rfl rfl rfl nrSdA0 (by cases b48 <;> first | (intro _; rfl) | (intro h; exact absurd h (by decide))) (by cases b48 <;> first | (intro h; exact absurd h (by decide)) | (intro _; exact ⟨_, rfl, by first | (intro h; cases h; done) | decide | simp⟩)) (fun h => by
            cases b48 with
            | false => exact absurd h (by first | decide | simp)
            | true =>
              refine n_load rfl ti2 nrSdA0 nrSdA0 rfl nrSdA0 ?_
              exact AOps.nil ⟨rfl, rfl, rfl⟩) ?_
        refine n_soft (u := 48) (E := .val (.bool b48)) (b48) rfl rfl rfl nrSdA0 (by cases b48 <;> first | (intro _; rfl) | (intro h; exact absurd h (by decide))) (by cases b48 <;> first | (intro h; exact absurd h (by decide)) | (intro _; exact ⟨_, rfl, by first | (intro h; cases h; done) | decide | simp⟩)) (fun h => by
            cases b48 with
            | false => exact absurd h (by first | decide | simp)
            | true =>
              refine n_ibin rfl nrSdA0 nrSdA0 rfl ?_
              exact AOps.nil ⟨rfl, rfl, rfl⟩) ?_
        refine n_pick_and rfl nrSdA0 (fun h => by cases b48 with | false => exact absurd h (by decide) | true => exact nrSdA0) ?_
        subst hb48
        refine AOps.nil ?_
        refine AWP.cond nrSdA0 (fun hc7 => ?_) (fun hc7 => ?_)
        · try simp only [nh] at hc7
          have hac : y.a > x.a ∧ y.a ≤ x.s := by simpa using hc7
          have hak : (x.meet y).ack y = ⟨x.b, x.p, x.s, y.a, x.e, x.q.drop (y.a - x.a).toNat⟩ := by rw [hme]; unfold Sq.ack; rw [if_pos hac]
          refine AWP.seq ?_
          refine AWP.region ?_
          refine n_fieldAddr rfl fd141_5 ti139 rfl nrSdA0 rfl nrSdA0 ?_
          refine n_load rfl ti139 nrSdA0 nrSdA0 rfl nrSdA0 ?_
          refine n_fieldAddr rfl fd157_3 ti2 rfl nrSdA0 rfl nrSdA0 ?_
          refine n_load rfl ti2 nrSdA0 nrSdA0 rfl nrSdA0 ?_
          refine n_fieldAddr rfl fd141_3 ti2 rfl nrSdA0 rfl nrSdA0 ?_
          refine n_load rfl ti2 nrSdA0 nrSdA0 rfl nrSdA0 ?_
          first | refine n_isub rfl nrSdA0 nrSdA0 rfl (by omega) (by omega) ?_ | refine n_ibin rfl nrSdA0 nrSdA0 rfl ?_
          refine n_slice (k := (y.a - x.a).toNat) (h := x.q.length) (ys := (x.q.drop (y.a - x.a).toNat).map qe) rfl Try.underlying139 ti22 nrSdA0 (by show x.q.length = _; rw [List.length_map]) (SB.some nrSdA0 (by first | rfl | omega)) (by omega) (by rw [List.length_map]; omega) (by exact map_one (f := qe) (fun _ => rfl)) (by rw [← List.map_take, List.take_length, ← List.map_drop]) ?_
          refine n_call0B rfl cf270 rfl (Eq.trans (by simp only [nl] <;> rfl) nrSdA0) (by repeat (first | exact .nil | refine .cons ?_ ?_ | exact ren_ints | exact .lf (.val _) | exact .lf (lf_ints (.inl rfl)) | exact .bp ⟨rfl, rfl⟩ | exact .bp (.inl ⟨rfl, rfl⟩) | exact .bp (.inr ⟨rfl, rfl⟩) | exact ren_qe | exact .lf (lf_sqz _) | exact .lf (lf_qe (.inl rfl)) | exact ren_sqz rfl | exact ren_sqz0 rfl | exact ren_bys0 rfl | exact .lf (D.flat_lf rfl) | exact ren_lits rfl | exact .lf (lf_ssz _) | exact .lf (lf_pqz _) | exact ren_q0 rfl | exact ren_pq rfl | exact ren_nl0 | exact ren_sq | exact .lf (.fn (fun d h => by cases h) (fun d h => by cases h)))) (q_cloneR (x.q.drop (y.a - x.a).toNat) (by rw [List.length_drop]; omega)) lfSdA0 ?_
          refine n_fieldAddr rfl fd141_5 ti139 rfl nrSdA0 rfl nrSdA0 ?_
          refine n_store ti139 nrSdA0 nrSdA0 nrSdA0 rfl nrSdA0 rfl rfl rfl nrSdA0 ?_
          refine AOps.nil ?_
          refine AWP.region ?_
          refine n_fieldAddr rfl fd157_3 ti2 rfl nrSdA0 rfl nrSdA0 ?_
          refine n_load rfl ti2 nrSdA0 nrSdA0 rfl nrSdA0 ?_
          refine n_fieldAddr rfl fd141_3 ti2 rfl nrSdA0 rfl nrSdA0 ?_
          refine n_store ti2 nrSdA0 nrSdA0 nrSdA0 rfl nrSdA0 rfl rfl rfl nrSdA0 ?_
          refine AOps.nil ?_
          refine AWP.seq ?_
          refine AWP.seq ?_
          refine AWP.region ?_
          refine n_fieldAddr rfl fd157_2 ti2 rfl nrSdA0 rfl nrSdA0 ?_
          refine n_load rfl ti2 nrSdA0 nrSdA0 rfl nrSdA0 ?_
          refine n_fieldAddr rfl fd141_4 ti2 rfl nrSdA0 rfl nrSdA0 ?_
          refine n_load rfl ti2 nrSdA0 nrSdA0 rfl nrSdA0 ?_
          refine n_ibin rfl nrSdA0 nrSdA0 rfl ?_
          refine n_move rfl nrSdA0 ?_
          refine AOps.name (u := 73) (fun z => .val (.bool z)) nrSdA0 (fun b73 hb73 => ?_)
          refine n_soft (u := 73) (E := .val (.bool b73)) (!b73) rfl rfl rfl nrSdA0 (by cases b73 <;> first | (intro _; rfl) | (intro h; exact absurd h (by decide))) (by cases b73 <;> first | (intro h; exact absurd h (by decide)) | (intro _; exact ⟨_, rfl, by first | (intro h; cases h; done) | decide | simp⟩)) (fun h => by
              cases b73 with
              | true => exact absurd h (by first | decide | simp)
              | false =>
                refine n_fieldAddr rfl fd141_4 ti2 rfl nrSdA0 rfl nrSdA0 ?_
                exact AOps.nil ⟨rfl, rfl, rfl⟩) ?_
          refine n_soft (u := 73) (E := .val (.bool b73)) (!b73) rfl rfl rfl nrSdA0 (by cases b73 <;> first | (intro _; rfl) | (intro h; exact absurd h (by decide))) (by cases b73 <;> first | (intro h; exact absurd h (by decide)) | (intro _; exact ⟨_, rfl, by first | (intro h; cases h; done) | decide | simp⟩)) (fun h => by
              cases b73 with
              | true => exact absurd h (by first | decide | simp)
              | false =>
                refine n_load rfl ti2 nrSdA0 nrSdA0 rfl nrSdA0 ?_
                exact AOps.nil ⟨rfl, rfl, rfl⟩) ?_
          refine n_soft (u := 73) (E := .val (.bool b73)) (!b73) rfl rfl rfl nrSdA0 (by cases b73 <;> first | (intro _; rfl) | (intro h; exact absurd h (by decide))) (by cases b73 <;> first | (intro h; exact absurd h (by decide)) | (intro _; exact ⟨_, rfl, by first | (intro h; cases h; done) | decide | simp⟩)) (fun h => by
              cases b73 with
              | true => exact absurd h (by first | decide | simp)
              | false =>
                refine n_ibin rfl nrSdA0 nrSdA0 rfl ?_
                exact AOps.nil ⟨rfl, rfl, rfl⟩) ?_
          refine n_pick_or rfl nrSdA0 (fun h => by cases b73 with | true => exact absurd h (by decide) | false => exact nrSdA0) ?_
          subst hb73
          refine AOps.nil ?_
          refine AWP.cond nrSdA0 (fun hc8 => ?_) (fun hc8 => ?_)
          · try simp only [nh] at hc8
            have hz : x.take y = ((x.meet y).ack y, [], false) := by unfold Sq.take; rw [if_neg hg1, if_neg hg2, if_pos (by rw [hak]; simp at hc8 ⊢; grind)]
            rw [hak] at hz
            refine AWP.seq ?_
            refine AWP.region ?_
            refine n_load rfl ti141 nrSdA0 nrSdA0 rfl nrSdA0 ?_
            refine n_store ti141 nrSdA0 nrSdA0 nrSdA0 rfl nrSdA0 rfl rfl rfl nrSdA0 ?_
            refine n_assign rfl nrSdA0 ?_
            refine n_assign rfl nrSdA0 ?_
            refine AOps.nil ?_
            refine AWP.ret ?_
            refine fin_pure (.cons (rv_cell ti141 nrSdA0 nrSdA0 rfl nrSdA0) (.cons (rv_tmp nrSdA0) (.cons (rv_tmp nrSdA0) .nil))) nrSdA0 ?_
            rw [hz]; exact .tup rfl (RenAll.get (.cons (by first | exact ren_sqz rfl | exact ren_sqz0 rfl) (.cons (by first | exact ren_bys0 rfl | exact ren_ints) (.cons (ren_flat rfl rfl) .nil))))
          · try simp only [nh] at hc8
            have hg3 : ¬ (y.s ≠ ((x.meet y).ack y).e ∨ ((x.meet y).ack y).e ≥ MX) := by rw [hak]; simp at hc8 ⊢; grind
            have hz : x.take y = ({ (x.meet y).ack y with e := ((x.meet y).ack y).e + 1 }, y.l, true) := by unfold Sq.take; rw [if_neg hg1, if_neg hg2, if_neg hg3]
            rw [hak] at hz
            refine AWP.skip ?_
            refine AWP.seq ?_
            refine AWP.region ?_
            refine n_fieldAddr rfl fd141_4 ti2 rfl nrSdA0 rfl nrSdA0 ?_
            refine n_load rfl ti2 nrSdA0 nrSdA0 rfl nrSdA0 ?_
            first | refine n_iadd rfl nrSdA0 nrSdA0 rfl (by omega) (by omega) ?_ | refine n_ibin rfl nrSdA0 nrSdA0 rfl ?_
            refine n_fieldAddr rfl fd141_4 ti2 rfl nrSdA0 rfl nrSdA0 ?_
            refine n_store ti2 nrSdA0 nrSdA0 nrSdA0 rfl nrSdA0 rfl rfl rfl nrSdA0 ?_
            refine AOps.nil ?_
            refine AWP.seq ?_
            refine AWP.any1 4 [Ob.box [vi x.b, vi x.p, vi x.s, vi y.a, vi (x.e + 1), .sl none ((x.q.drop (y.a - x.a).toNat).map qe) .ro], Ob.box (pqz y), Ob.box [vi x.b, vi x.p, vi x.s, vi y.a, vi (x.e + 1), .sl none ((x.q.drop (y.a - x.a).toNat).map qe) .ro]] (by kernel_rfl) (by kernel_rfl) (by kernel_rfl) ?_
            refine Walk.ahead [4] (by rfl) (by kernel_rfl) (by rfl) (rs := [2]) (by rfl) nrSdA0 (fun base => by
                refine n_load rfl ti141 nrSdA0 nrSdA0 rfl nrSdA0 ?_
                exact AOps.nil ⟨rfl, rfl, rfl⟩) ?_
            refine Walk.ahead [2, 3, 4] (by rfl) (by kernel_rfl) (by rfl) (rs := [3]) (by rfl) nrSdA0 (fun base => by
                refine n_fieldAddr rfl fd157_4 ti22 rfl nrSdA0 rfl nrSdA0 ?_
                exact AOps.nil ⟨rfl, rfl, rfl⟩) ?_
            refine Walk.ahead [3, 4] (by rfl) (by kernel_rfl) (by rfl) (rs := [84]) (by rfl) nrSdA0 (fun base => by
                refine n_load rfl ti22 nrSdA0 nrSdA0 rfl nrSdA0 ?_
                exact AOps.nil ⟨rfl, rfl, rfl⟩) ?_
            refine Walk.ahead [4] (by rfl) (by kernel_rfl) (by rfl) (rs := [85]) (by rfl) nrSdA0 (fun base => by
                refine n_call0B rfl cf95 rfl (Eq.trans (by simp only [nl] <;> rfl) nrSdA0) (by repeat (first | exact .nil | refine .cons ?_ ?_ | exact ren_ints | exact .lf (.val _) | exact .lf (lf_ints (.inl rfl)) | exact .bp ⟨rfl, rfl⟩ | exact .bp (.inl ⟨rfl, rfl⟩) | exact .bp (.inr ⟨rfl, rfl⟩) | exact ren_qe | exact .lf (lf_sqz _) | exact .lf (lf_qe (.inl rfl)) | exact ren_sqz rfl | exact ren_sqz0 rfl | exact ren_bys0 rfl | exact .lf (D.flat_lf rfl) | exact ren_lits rfl | exact .lf (lf_ssz _) | exact .lf (lf_pqz _) | exact ren_q0 rfl | exact ren_pq rfl | exact ren_nl0 | exact ren_sq | exact .lf (.fn (fun d h => by cases h) (fun d h => by cases h)))) (b_clone y.l hl) lfSdA0 ?_
                exact AOps.nil ⟨rfl, rfl, rfl⟩) ?_
            refine Walk.writes (d := .any) (by rfl) (rs := [4, 83]) (by rfl) nrSdA0 (fun base => by
                refine n_store ti141 nrSdA0 nrSdA0 nrSdA0 rfl nrSdA0 rfl rfl rfl nrSdA0 ?_
                exact AOps.nil ⟨rfl, rfl, rfl⟩) ?_
            refine Walk.behind [5] (by rfl) (by rfl) (by kernel_rfl) (by rfl) (rs := [86]) (by rfl) nrSdA0 (fun base => by
                refine n_assign rfl nrSdA0 ?_
                exact AOps.nil ⟨rfl, rfl, rfl⟩) ?_
            refine Walk.behind [6] (by rfl) (by rfl) (by kernel_rfl) (by rfl) (rs := []) (by rfl) nrSdA0 (fun base => by
                refine n_assign rfl nrSdA0 ?_
                exact AOps.nil ⟨rfl, rfl, rfl⟩) ?_
            refine Walk.done ?_
            refine AWP.ret ?_
            refine fin_pure (.cons (rv_cell ti141 nrSdA0 nrSdA0 rfl nrSdA0) (.cons (rv_tmp nrSdA0) (.cons (rv_tmp nrSdA0) .nil))) nrSdA0 ?_
            rw [hz]; exact .tup rfl (RenAll.get (.cons (by first | exact ren_sqz rfl | exact ren_sqz0 rfl) (.cons (by first | exact ren_bys0 rfl | exact ren_ints) (.cons (ren_flat rfl rfl) .nil))))
        · try simp only [nh] at hc7
          have hak : (x.meet y).ack y = x.meet y := by rw [hme]; unfold Sq.ack; rw [if_neg (by (try dsimp only); first | (simp at hc7; omega) | omega)]
          replace hak := hak.trans hme
          refine AWP.skip ?_
          refine AWP.seq ?_
          refine AWP.seq ?_
          refine AWP.region ?_
          refine n_fieldAddr rfl fd157_2 ti2 rfl nrSdA0 rfl nrSdA0 ?_
          refine n_load rfl ti2 nrSdA0 nrSdA0 rfl nrSdA0 ?_
          refine n_fieldAddr rfl fd141_4 ti2 rfl nrSdA0 rfl nrSdA0 ?_
          refine n_load rfl ti2 nrSdA0 nrSdA0 rfl nrSdA0 ?_
          refine n_ibin rfl nrSdA0 nrSdA0 rfl ?_
          refine n_move rfl nrSdA0 ?_
          refine AOps.name (u := 73) (fun z => .val (.bool z)) nrSdA0 (fun b73 hb73 => ?_)
          refine n_soft (u := 73) (E := .val (.bool b73)) (!b73) rfl rfl rfl nrSdA0 (by cases b73 <;> first | (intro _; rfl) | (intro h; exact absurd h (by decide))) (by cases b73 <;> first | (intro h; exact absurd h (by decide)) | (intro _; exact ⟨_, rfl, by first | (intro h; cases h; done) | decide | simp⟩)) (fun h => by
              cases b73 with
              | true => exact absurd h (by first | decide | simp)
              | false =>
                refine n_fieldAddr rfl fd141_4 ti2 rfl nrSdA0 rfl nrSdA0 ?_
                exact AOps.nil ⟨rfl, rfl, rfl⟩) ?_
          refine n_soft (u := 73) (E := .val (.bool b73)) (!b73) rfl rfl rfl nrSdA0 (by cases b73 <;> first | (intro _; rfl) | (intro h; exact absurd h (by decide))) (by cases b73 <;> first | (intro h; exact absurd h (by decide)) | (intro _; exact ⟨_, rfl, by first | (intro h; cases h; done) | decide | simp⟩)) (fun h => by
              cases b73 with
              | true => exact absurd h (by first | decide | simp)
              | false =>
                refine n_load rfl ti2 nrSdA0 nrSdA0 rfl nrSdA0 ?_
                exact AOps.nil ⟨rfl, rfl, rfl⟩) ?_
          refine n_soft (u := 73) (E := .val (.bool b73)) (!b73) rfl rfl rfl nrSdA0 (by cases b73 <;> first | (intro _; rfl) | (intro h; exact absurd h (by decide))) (by cases b73 <;> first | (intro h; exact absurd h (by decide)) | (intro _; exact ⟨_, rfl, by first | (intro h; cases h; done) | decide | simp⟩)) (fun h => by
              cases b73 with
              | true => exact absurd h (by first | decide | simp)
              | false =>
                refine n_ibin rfl nrSdA0 nrSdA0 rfl ?_
                exact AOps.nil ⟨rfl, rfl, rfl⟩) ?_
          refine n_pick_or rfl nrSdA0 (fun h => by cases b73 with | true => exact absurd h (by decide) | false => exact nrSdA0) ?_
          subst hb73
          refine AOps.nil ?_
          refine AWP.cond nrSdA0 (fun hc9 => ?_) (fun hc9 => ?_)
          · try simp only [nh] at hc9
            have hz : x.take y = ((x.meet y).ack y, [], false) := by unfold Sq.take; rw [if_neg hg1, if_neg hg2, if_pos (by rw [hak]; simp at hc9 ⊢; grind)]
            rw [hak] at hz
            refine AWP.seq ?_
            refine AWP.region ?_
            refine n_load rfl ti141 nrSdA0 nrSdA0 rfl nrSdA0 ?_
            refine n_store ti141 nrSdA0 nrSdA0 nrSdA0 rfl nrSdA0 rfl rfl rfl nrSdA0 ?_
            refine n_assign rfl nrSdA0 ?_
            refine n_assign rfl nrSdA0 ?_
            refine AOps.nil ?_
            refine AWP.ret ?_
            refine fin_pure (.cons (rv_cell ti141 nrSdA0 nrSdA0 rfl nrSdA0) (.cons (rv_tmp nrSdA0) (.cons (rv_tmp nrSdA0) .nil))) nrSdA0 ?_
            rw [hz]; exact .tup rfl (RenAll.get (.cons (by first | exact ren_sqz rfl | exact ren_sqz0 rfl) (.cons (by first | exact ren_bys0 rfl | exact ren_ints) (.cons (ren_flat rfl rfl) .nil))))
          · try simp only [nh] at hc9
            have hg3 : ¬ (y.s ≠ ((x.meet y).ack y).e ∨ ((x.meet y).ack y).e ≥ MX) := by rw [hak]; simp at hc9 ⊢; grind
            have hz : x.take y = ({ (x.meet y).ack y with e := ((x.meet y).ack y).e + 1 }, y.l, true) := by unfold Sq.take; rw [if_neg hg1, if_neg hg2, if_neg hg3]
            rw [hak] at hz
            refine AWP.skip ?_
            refine AWP.seq ?_
            refine AWP.region ?_
            refine n_fieldAddr rfl fd141_4 ti2 rfl nrSdA0 rfl nrSdA0 ?_
            refine n_load rfl ti2 nrSdA0 nrSdA0 rfl nrSdA0 ?_
            first | refine n_iadd rfl nrSdA0 nrSdA0 rfl (by omega) (by omega) ?_ | refine n_ibin rfl nrSdA0 nrSdA0 rfl ?_
            refine n_fieldAddr rfl fd141_4 ti2 rfl nrSdA0 rfl nrSdA0 ?_
            refine n_store ti2 nrSdA0 nrSdA0 nrSdA0 rfl nrSdA0 rfl rfl rfl nrSdA0 ?_
            refine AOps.nil ?_
            refine AWP.seq ?_
            refine AWP.any1 4 [Ob.box [vi x.b, vi x.p, vi x.s, vi x.a, vi (x.e + 1), .sl none (x.q.map qe) .ro], Ob.box (pqz y), Ob.box [vi x.b, vi x.p, vi x.s, vi x.a, vi (x.e + 1), .sl none (x.q.map qe) .ro]] (by kernel_rfl) (by kernel_rfl) (by kernel_rfl) ?_
            refine Walk.ahead [4] (by rfl) (by kernel_rfl) (by rfl) (rs := [2]) (by rfl) nrSdA0 (fun base => by
                refine n_load rfl ti141 nrSdA0 nrSdA0 rfl nrSdA0 ?_
                exact AOps.nil ⟨rfl, rfl, rfl⟩) ?_
            refine Walk.ahead [2, 3, 4] (by rfl) (by kernel_rfl) (by rfl) (rs := [3]) (by rfl) nrSdA0 (fun base => by
                refine n_fieldAddr rfl fd157_4 ti22 rfl nrSdA0 rfl nrSdA0 ?_
                exact AOps.nil ⟨rfl, rfl, rfl⟩) ?_
            refine Walk.ahead [3, 4] (by rfl) (by kernel_rfl) (by rfl) (rs := [84]) (by rfl) nrSdA0 (fun base => by
                refine n_load rfl ti22 nrSdA0 nrSdA0 rfl nrSdA0 ?_
                exact AOps.nil ⟨rfl, rfl, rfl⟩) ?_
            refine Walk.ahead [4] (by rfl) (by kernel_rfl) (by rfl) (rs := [85]) (by rfl) nrSdA0 (fun base => by
                refine n_call0B rfl cf95 rfl (Eq.trans (by simp only [nl] <;> rfl) nrSdA0) (by repeat (first | exact .nil | refine .cons ?_ ?_ | exact ren_ints | exact .lf (.val _) | exact .lf (lf_ints (.inl rfl)) | exact .bp ⟨rfl, rfl⟩ | exact .bp (.inl ⟨rfl, rfl⟩) | exact .bp (.inr ⟨rfl, rfl⟩) | exact ren_qe | exact .lf (lf_sqz _) | exact .lf (lf_qe (.inl rfl)) | exact ren_sqz rfl | exact ren_sqz0 rfl | exact ren_bys0 rfl | exact .lf (D.flat_lf rfl) | exact ren_lits rfl | exact .lf (lf_ssz _) | exact .lf (lf_pqz _) | exact ren_q0 rfl | exact ren_pq rfl | exact ren_nl0 | exact ren_sq | exact .lf (.fn (fun d h => by cases h) (fun d h => by cases h)))) (b_clone y.l hl) lfSdA0 ?_
                exact AOps.nil ⟨rfl, rfl, rfl⟩) ?_
            refine Walk.writes (d := .any) (by rfl) (rs := [4, 83]) (by rfl) nrSdA0 (fun base => by
                refine n_store ti141 nrSdA0 nrSdA0 nrSdA0 rfl nrSdA0 rfl rfl rfl nrSdA0 ?_
                exact AOps.nil ⟨rfl, rfl, rfl⟩) ?_
            refine Walk.behind [5] (by rfl) (by rfl) (by kernel_rfl) (by rfl) (rs := [86]) (by rfl) nrSdA0 (fun base => by
                refine n_assign rfl nrSdA0 ?_
                exact AOps.nil ⟨rfl, rfl, rfl⟩) ?_
            refine Walk.behind [6] (by rfl) (by rfl) (by kernel_rfl) (by rfl) (rs := []) (by rfl) nrSdA0 (fun base => by
                refine n_assign rfl nrSdA0 ?_
                exact AOps.nil ⟨rfl, rfl, rfl⟩) ?_
            refine Walk.done ?_
            refine AWP.ret ?_
            refine fin_pure (.cons (rv_cell ti141 nrSdA0 nrSdA0 rfl nrSdA0) (.cons (rv_tmp nrSdA0) (.cons (rv_tmp nrSdA0) .nil))) nrSdA0 ?_
            rw [hz]; exact .tup rfl (RenAll.get (.cons (by first | exact ren_sqz rfl | exact ren_sqz0 rfl) (.cons (by first | exact ren_bys0 rfl | exact ren_ints) (.cons (ren_flat rfl rfl) .nil))))

theorem resend_it (x : Sq) (hx : x.Ok) : Iter Try.prog 271 [.rp (sqz x)] [] (x.again.map fun p => [.agg (pqz p)]) := by
  refine Iter.of_body (rvs := []) Try.func271 rfl rfl rfl rfl (fun yl J hY => ?_)
  have h2 : 0 ≤ x.a ∧ x.a ≤ 9007199254740992 := hx.a
  have h3 := hx.d
  have h1 : 0 ≤ x.s ∧ x.s ≤ 9007199254740992 := hx.s
  have hm := hx.m
  have hal := x.again_len
  refine AWP.scope ?_
  refine AWP.seq ?_
  refine AWP.seq ?_
  refine AWP.region ?_
  refine n_load rfl ti141 nrSdA0 nrSdA0 rfl nrSdA0 ?_
  refine n_call0B rfl cf213 rfl (Eq.trans (by simp only [nl] <;> rfl) nrSdA0) (by repeat (first | exact .nil | refine .cons ?_ ?_ | exact ren_ints | exact .lf (.val _) | exact .lf (lf_ints (.inl rfl)) | exact .bp ⟨rfl, rfl⟩ | exact .bp (.inl ⟨rfl, rfl⟩) | exact .bp (.inr ⟨rfl, rfl⟩) | exact .lf (lf_fnrp (sqz_lf _)) | exact .lf (.rp (sqz_lf _)) | exact ren_qe | exact .lf (lf_sqz _) | exact .lf (lf_qe (.inl rfl)) | exact ren_sqz rfl | exact ren_sqz0 rfl | exact ren_bys0 rfl | exact .lf (D.flat_lf rfl) | exact ren_lits rfl | exact .lf (lf_ssz _) | exact .lf (lf_pqz _) | exact ren_q0 rfl | exact ren_pq rfl | exact ren_nl0 | exact ren_sq | exact .lf (.fn (fun d h => by cases h) (fun d h => by cases h)))) (l_chkQ _ (by assumption)) lfSdA1 ?_
  refine n_ibin rfl nrSdA0 nrSdA0 rfl ?_
  refine AOps.nil ?_
  refine AWP.cond_false nrSdA0 ?_
  refine AWP.skip ?_
  refine AWP.seq ?_
  refine AWP.label ?_
  refine AWP.seq ?_
  refine AWP.region ?_
  refine n_fieldAddr rfl fd141_5 ti139 rfl nrSdA0 rfl nrSdA0 ?_
  refine n_load rfl ti139 nrSdA0 nrSdA0 rfl nrSdA0 ?_
  refine n_len rfl Try.underlying139 nrSdA0 (by first | rw [ints_length] | rw [List.length_map] | rfl) ?_
  refine n_move rfl nrSdA0 ?_
  refine AOps.nil ?_
  refine AWP.block ?_
  refine AWP.loop (α := Nat) (fun i => i ≤ x.q.length) (fun i => put (put (put (put (put empty 0 (.val (.func (.yield yl) #[] #[]))) 1 (.rp (sqz x))) 9 (.sl none (x.q.map qe) .ro)) 10 (vi (x.q.length : Int))) 11 (vi (i : Int))) (fun i => [.seen J (some i)]) (fun i => x.q.length - i) 0 ?_ ?_ ?_ ?_
  · exact Nat.zero_le _
  · (repeat (first | exact FLe.empty _ | refine FLe.put ?_ ?_)) <;> first | (simp only [nf, nfS, Nat.beq]; done) | rfl | ((try simp only [nf, nfS, Nat.beq]); first | rfl | (simp only [List.length_map]; done) | (congr 2; omega; done))
  · rfl
  · intro i hi
    try dsimp only at hi ⊢
    refine AWP.seq ?_
    refine AWP.region ?_
    refine n_ibin rfl nrSdA0 nrSdA0 rfl ?_
    refine AOps.nil ?_
    refine AWP.seq ?_
    refine AWP.cond nrSdA0 (fun hc2 => ?_) (fun hc2 => ?_)
    · try simp only [nh] at hc2
      obtain ⟨y, hy⟩ : ∃ y, x.q[i]? = some y := ⟨_, List.getElem?_eq_getElem (by omega)⟩
      have hy1 := map_at qe hy
      have hyl := hx.l y (List.mem_of_getElem? hy)
      have hyL : L40 y := by simp only [L40]; omega
      have hxy : (x.again.map fun p => [D.agg (pqz p)])[i]? = some [.agg (pqz (x.pk (x.a + (i : Int) + 1) y))] := by rw [List.getElem?_map, Sq.again_at hy]; rfl
      have hpk := l_packet x.b x.p x.s x.a x.e (.sl none (x.q.map qe) .ro) (lf_qe (.inl rfl)) (x.a + (i : Int) + 1) y hyL hx.e
      refine AWP.skip ?_
      refine AWP.seq ?_
      refine AWP.block ?_
      refine AWP.seq ?_
      refine AWP.region ?_
      refine n_move rfl nrSdA0 ?_
      refine n_indexAddr rfl Try.underlying139 ti22 rfl nrSdA0 nrSdA0 (by omega) (by exact hy1) rfl ?_
      refine n_load rfl ti22 nrSdA0 nrSdA0 rfl nrSdA0 ?_
      refine n_assign rfl nrSdA0 ?_
      refine n_assign rfl nrSdA0 ?_
      refine AOps.nil ?_
      refine AWP.seq ?_
      refine AWP.region ?_
      refine n_move rfl nrSdA0 ?_
      refine n_load rfl ti141 nrSdA0 nrSdA0 rfl nrSdA0 ?_
      refine n_fieldAddr rfl fd141_3 ti2 rfl nrSdA0 rfl nrSdA0 ?_
      refine n_load rfl ti2 nrSdA0 nrSdA0 rfl nrSdA0 ?_
      refine n_move rfl nrSdA0 ?_
      first | refine n_iadd rfl nrSdA0 nrSdA0 rfl (by omega) (by omega) ?_ | refine n_ibin rfl nrSdA0 nrSdA0 rfl ?_
      first | refine n_iadd rfl nrSdA0 nrSdA0 rfl (by omega) (by omega) ?_ | refine n_ibin rfl nrSdA0 nrSdA0 rfl ?_
      refine n_move rfl nrSdA0 ?_
      refine n_call0B rfl cf214 rfl (Eq.trans (by simp only [nl] <;> rfl) nrSdA0) (by repeat (first | exact .nil | refine .cons ?_ ?_ | exact ren_ints | exact .lf (.val _) | exact .lf (lf_ints (.inl rfl)) | exact .bp ⟨rfl, rfl⟩ | exact .bp (.inl ⟨rfl, rfl⟩) | exact .bp (.inr ⟨rfl, rfl⟩) | exact .lf (lf_fnrp (sqz_lf _)) | exact .lf (.rp (sqz_lf _)) | exact ren_qe | exact .lf (lf_sqz _) | exact .lf (lf_qe (.inl rfl)) | exact ren_sqz rfl | exact ren_sqz0 rfl | exact ren_bys0 rfl | exact .lf (D.flat_lf rfl) | exact ren_lits rfl | exact .lf (lf_ssz _) | exact .lf (lf_pqz _) | exact ren_q0 rfl | exact ren_pq rfl | exact ren_nl0 | exact ren_sq | exact .lf (.fn (fun d h => by cases h) (fun d h => by cases h)))) (hpk) lfSdA1 ?_
      refine n_yield (l0 := 0) rfl nrSdA0 rfl hY hxy (Eq.trans (by simp only [nl] <;> rfl) nrSdA0) (by repeat (first | exact .nil | refine .cons ?_ ?_ | exact ren_ints | exact .lf (.val _) | exact .lf (lf_ints (.inl rfl)) | exact .bp ⟨rfl, rfl⟩ | exact .bp (.inl ⟨rfl, rfl⟩) | exact .bp (.inr ⟨rfl, rfl⟩) | exact .lf (lf_fnrp (sqz_lf _)) | exact .lf (.rp (sqz_lf _)) | exact ren_qe | exact .lf (lf_sqz _) | exact .lf (lf_qe (.inl rfl)) | exact ren_sqz rfl | exact ren_sqz0 rfl | exact ren_bys0 rfl | exact .lf (D.flat_lf rfl) | exact ren_lits rfl | exact .lf (lf_ssz _) | exact .lf (lf_pqz _) | exact ren_q0 rfl | exact ren_pq rfl | exact ren_nl0 | exact ren_sq | exact .lf (.fn (fun d h => by cases h) (fun d h => by cases h)))) rfl rfl ?_ ?_
      · refine n_not rfl nrSdA0 rfl ?_
        refine AOps.nil ?_
        refine AWP.cond_false nrSdA0 ?_
        refine AWP.skip ?_
        refine AWP.region ?_
        first | refine n_iadd rfl nrSdA0 nrSdA0 rfl (by omega) (by omega) ?_ | refine n_ibin rfl nrSdA0 nrSdA0 rfl ?_
        refine n_move rfl nrSdA0 ?_
        refine AOps.nil ?_
        refine ⟨i + 1, by omega, ?_, rfl, by omega⟩
        (repeat (first | exact FLe.empty _ | refine FLe.put ?_ ?_)) <;> first | (simp only [nf, nfS, Nat.beq]; done) | rfl | ((try simp only [nf, nfS, Nat.beq]); first | rfl | (simp only [List.length_map]; done) | (congr 2; omega; done))
      · refine n_not rfl nrSdA0 rfl ?_
        refine AOps.nil ?_
        refine AWP.cond_true nrSdA0 ?_
        refine AWP.exit ?_
        first | exact ⟨.inl rfl, [], _, .nil, .inr rfl, rfl⟩ | exact ⟨.inl rfl, [], _, .nil, .inl (by simp [hal]), rfl⟩
    · try simp only [nh] at hc2
      obtain rfl : i = x.q.length := by omega
      refine AWP.exit ?_
      first | exact ⟨.inl rfl, [], _, .nil, .inr rfl, rfl⟩ | exact ⟨.inl rfl, [], _, .nil, .inl (by simp [hal]), rfl⟩

theorem l_resend (x : Sq) (hx : x.Ok) : Does Try.prog 212 [.agg (sqz x)] [] (.fn (.func 271) [] [.rp (sqz x)]) [] := by
  refine Does.of_body (rvs := [.tmp 2]) Try.func212 rfl rfl rfl rfl ?_
  refine AWP.seq ?_
  refine AWP.region ?_
  refine n_box rfl nrSdA0 rfl rfl nrSdA0 nrSdA0 ?_
  refine n_assign rfl nrSdA0 ?_
  refine AOps.nil ?_
  refine AWP.seq ?_
  refine AWP.region ?_
  refine n_load rfl ti141 nrSdA0 nrSdA0 rfl nrSdA0 ?_
  refine n_call0B rfl cf269 rfl (Eq.trans (by simp only [nl] <;> rfl) nrSdA0) (by repeat (first | exact .nil | refine .cons ?_ ?_ | exact ren_ints | exact .lf (.val _) | exact .lf (lf_ints (.inl rfl)) | exact .bp ⟨rfl, rfl⟩ | exact .bp (.inl ⟨rfl, rfl⟩) | exact .bp (.inr ⟨rfl, rfl⟩) | exact .lf (lf_fnrp (sqz_lf _)) | exact .lf (.rp (sqz_lf _)) | exact ren_qe | exact .lf (lf_sqz _) | exact .lf (lf_qe (.inl rfl)) | exact ren_sqz rfl | exact ren_sqz0 rfl | exact ren_bys0 rfl | exact .lf (D.flat_lf rfl) | exact ren_lits rfl | exact .lf (lf_ssz _) | exact .lf (lf_pqz _) | exact ren_q0 rfl | exact ren_pq rfl | exact ren_nl0 | exact ren_sq | exact .lf (.fn (fun d h => by cases h) (fun d h => by cases h)))) (l_cloneR x hx) lfSdA1 ?_
  refine n_store ti141 nrSdA0 nrSdA0 nrSdA0 rfl nrSdA0 rfl rfl rfl nrSdA0 ?_
  refine AOps.nil ?_
  refine AWP.seq ?_
  refine AWP.freeze (t := 1) (S' := [.lent]) (by rfl) rfl rfl rfl ?_
  refine AWP.region ?_
  refine n_makeFunc rfl (Eq.trans (by simp only [nl] <;> rfl) nrSdA0) (Eq.trans (by simp only [nl] <;> rfl) nrSdA0) ?_
  refine n_assign rfl nrSdA0 ?_
  refine AOps.nil ?_
  refine AWP.ret ?_
  refine fin_pure (.cons (rv_tmp nrSdA0) .nil) nrSdA0 ?_
  exact .lf (lf_fnrp (sqz_lf _))

theorem resent (x : Sq) (hx : x.Ok) : Does Try.prog 111 [.agg (sqz x)] [] (.sl none (x.again.map pqz) .ro) [] := by
  refine Does.of_body (rvs := [.tmp 2]) Try.func111 rfl rfl rfl rfl ?_
  have hal := x.again_len
  have hm := hx.m
  refine AWP.seq ?_
  refine AWP.region ?_
  refine n_box rfl nrSdA0 rfl rfl nrSdA0 nrSdA0 ?_
  refine n_assign rfl nrSdA0 ?_
  refine AOps.nil ?_
  refine AWP.seq ?_
  refine AWP.region ?_
  refine n_alloc rfl zi154 rfl nrSdA0 nrSdA0 ?_
  refine AOps.nil ?_
  refine AWP.seq ?_
  refine AWP.seq ?_
  refine AWP.adoptBox (j := 1) (i := 0) (m := 0) (sz := 5) (S' := [.box (sqz x), .box [.sl none [] (.own 2)], .row 0 5]) rfl rfl rfl rfl rfl ?_
  refine AWP.region ?_
  refine n_load rfl ti141 nrSdA0 nrSdA0 rfl nrSdA0 ?_
  refine n_call0B rfl cf212 rfl (Eq.trans (by simp only [nl] <;> rfl) nrSdA0) (by repeat (first | exact .nil | refine .cons ?_ ?_ | exact ren_ints | exact .lf (.val _) | exact .lf (lf_ints (.inl rfl)) | exact .bp ⟨rfl, rfl⟩ | exact .bp (.inl ⟨rfl, rfl⟩) | exact .bp (.inr ⟨rfl, rfl⟩) | exact .lf (lf_fnrp (sqz_lf _)) | exact .lf (.rp (sqz_lf _)) | exact ren_qe | exact .lf (lf_sqz _) | exact .lf (lf_qe (.inl rfl)) | exact ren_sqz rfl | exact ren_sqz0 rfl | exact ren_bys0 rfl | exact .lf (D.flat_lf rfl) | exact ren_lits rfl | exact .lf (lf_ssz _) | exact .lf (lf_pqz _) | exact ren_q0 rfl | exact ren_pq rfl | exact ren_nl0 | exact ren_sq | exact .lf (.fn (fun d h => by cases h) (fun d h => by cases h)))) (l_resend x hx) lfSdA1 ?_
  refine AOps.nil ?_
  refine AWP.block ?_
  refine AWP.rangeFunc [] (fun k => [.box (sqz x), .box [.sl none ((x.again.take k).map pqz) (.own 2)], .row (x.again.take k).length 5]) (fun _ _ => False) nrSdA0 cf271 (resend_it x hx) List.nodup_nil rfl (fun j ob h => by simp at h) (.cons (.lf (.rp (sqz_lf x))) .nil) rfl (by intro x hx; obtain ⟨p, _, rfl⟩ := List.mem_map.1 hx; rfl) (by intro x hx d hd; obtain ⟨p, _, rfl⟩ := List.mem_map.1 hx; simp only [List.mem_cons, List.not_mem_nil, or_false] at hd; subst hd; exact lf_pqz p) (by decide) (fun _ => rfl) (fun k => un_cons (un_boxL (sqz_lf x)) (un_cons (fun d hd => by simp only [List.mem_cons, List.not_mem_nil, or_false] at hd; subst hd; exact .sl (fun x hx d hd => by obtain ⟨p, _, rfl⟩ := List.mem_map.1 hx; exact .lf (pqz_lf p d hd)) (fun l e => by cases e; simp)) (un_cons trivial un_nil))) rfl rfl ?_ ?_ ?_
  · intro k y hxk
    obtain ⟨p, hp, rfl⟩ := map_some hxk
    have hkl := (List.getElem?_eq_some_iff.1 hp).1
    dsimp only [putPs]
    refine AWP.region ?_
    refine n_alloc rfl zi157 rfl nrSdA0 nrSdA0 ?_
    refine n_store ti157 nrSdA0 nrSdA0 nrSdA0 rfl nrSdA0 rfl rfl rfl nrSdA0 ?_
    refine AOps.nil ?_
    refine AWP.block ?_
    refine AWP.region ?_
    refine n_load rfl ti154 nrSdA0 nrSdA0 rfl nrSdA0 ?_
    refine n_load rfl ti157 nrSdA0 nrSdA0 rfl nrSdA0 ?_
    refine n_lit rfl Try.underlying154 ti157 zi157 rfl rfl (Eq.trans (by simp only [nl] <;> rfl) nrSdA0) rfl nrSdA0 ?_
    refine n_append_own (zs := (x.again.take (k + 1)).map pqz) (m := (x.again.take (k + 1)).length) rfl Try.underlying154 Try.underlying154 ei157 nrSdA0 nrSdA0 (by simp only [List.length_map]) nrSdA0 (by exact map_one (f := pqz) (fun _ => rfl)) (by exact one_one rfl) (by rw [take_snoc hp]; simp) (by rw [take_snoc hp]; simp) (by simp only [List.length_take]; omega) nrSdA0 ?_
    refine n_store ti154 nrSdA0 nrSdA0 nrSdA0 rfl nrSdA0 rfl rfl rfl nrSdA0 ?_
    refine AOps.nil ?_
    exact ⟨[.box (pqz p)], rfl⟩
  · rw [List.length_map]
    try dsimp only
    rw [List.take_length]
    refine AWP.seq ?_
    refine AWP.region ?_
    refine n_load rfl ti154 nrSdA0 nrSdA0 rfl nrSdA0 ?_
    refine n_assign rfl nrSdA0 ?_
    refine AOps.nil ?_
    refine AWP.ret ?_
    refine fin_pure (.cons (rv_tmp nrSdA0) .nil) nrSdA0 ?_
    exact ren_pqs
  · intro c S' h
    exact h.elim

end Go.Proofs.Ytanfmpkjcoolmaa.Sd
