/- It comes. -/
import Derived.Test.YtanfmpkjcoolmaaSfA
import Derived.Test.YtanfmpkjcoolmaaSessComePlain
set_option linter.unusedVariables false
set_option linter.unusedSimpArgs false
namespace Go.Proofs.Ytanfmpkjcoolmaa.Sg
open Go Go.Abs Go.Abs.Tb Go.Proofs.Ytanfmpkjcoolmaa.Pk Sb Sc Sd Se Go.Abs.Se
attribute [local irreducible] AWP AOps Does

theorem nrSgA0 {α : Type} {a b : α} (h : a = b := by first|simp only[nf,nfV,Nat.beq]<;>rfl|rfl) : a = b := h
theorem lfSgA0 {d : D} (h : LF d := by first | exact .val _ | exact lf_ints (.inl rfl) | exact lf_ints (.inr rfl) | exact .any | exact lf_taken | exact lf_sentQ | exact lf_mapG pqz_lf (.inl rfl) | exact lf_fnrp (sqz_lf _) | exact lf_sqz _ | exact lf_qe (.inl rfl) | exact .agg (lf_cons (.val _) (lf_cons (.val _) (lf_cons (.val _) (lf_cons (.val _) (lf_cons (.val _) (lf_cons (lf_qe (.inl rfl)) lf_nil)))))) | exact D.flat_lf rfl | exact lf_ssz _ | exact lf_pqz _ | exact lf_nl0 | exact .tup (lf_cons (lf_ssz _) (lf_cons (.val _) lf_nil)) | exact .tup (lf_cons (lf_pqz _) (lf_cons (.val _) lf_nil)) | exact .tup (lf_cons (lf_ints (.inl rfl)) (lf_cons (.val _) lf_nil)) | exact .tup (lf_cons (lf_ssz _) (lf_cons (lf_ints (.inl rfl)) (lf_cons (.val _) lf_nil))) | exact .tup (lf_cons (lf_ssz _) (lf_cons (lf_ssz _) (lf_cons (.val _) lf_nil))) | exact lf_sent) : LF d := h
theorem cf108 : CF Try.prog 108 := ⟨_, Try.func108, by kernel_rfl, by kernel_rfl⟩
theorem cf109 : CF Try.prog 109 := ⟨_, Try.func109, by kernel_rfl, by kernel_rfl⟩
theorem cf110 : CF Try.prog 110 := ⟨_, Try.func110, by kernel_rfl, by kernel_rfl⟩
theorem cf111 : CF Try.prog 111 := ⟨_, Try.func111, by kernel_rfl, by kernel_rfl⟩
theorem cf112 : CF Try.prog 112 := ⟨_, Try.func112, by kernel_rfl, by kernel_rfl⟩
theorem cf113 : CF Try.prog 113 := ⟨_, Try.func113, by kernel_rfl, by kernel_rfl⟩
theorem cf212 : CF Try.prog 212 := ⟨_, Try.func212, by kernel_rfl, by kernel_rfl⟩
theorem cf271 : CF Try.prog 271 := ⟨_, Try.func271, by kernel_rfl, by kernel_rfl⟩
theorem cf40 : CF Try.prog 40 := ⟨_, Try.func40, by kernel_rfl, by kernel_rfl⟩
theorem ei157 : EI Try.prog 157 5 56 (.agg #[.int .i64 0, .int .i64 0, .int .i64 0, .int .i64 0, .slice none 0 0]) := EI.of (by kernel_rfl) rfl rfl
theorem fd141_5 : FD Try.prog 141 5 139 5 := ⟨_, _, Try.underlying141, rfl, rfl, rfl⟩
theorem fd149_0 : FD Try.prog 149 0 145 0 := ⟨_, _, Try.underlying149, rfl, rfl, rfl⟩
theorem fd149_2 : FD Try.prog 149 2 147 13 := ⟨_, _, Try.underlying149, rfl, rfl, rfl⟩
theorem fd149_3 : FD Try.prog 149 3 147 15 := ⟨_, _, Try.underlying149, rfl, rfl, rfl⟩
theorem si149 : SI Try.prog 149 #[(0, 12), (12, 1), (13, 2), (15, 2)] (.agg #[.int .i64 0, .int .i64 0, .int .i64 0, .int .i64 0, .int .i64 0, .slice none 0 0, .int .i64 0, .int .i64 0, .int .i64 0, .int .i64 0, .int .i64 0, .slice none 0 0, .slice none 0 0, .slice none 0 0, .slice none 0 0, .slice none 0 0, .slice none 0 0]) := ⟨⟨_, Try.underlying149, fun w => by kernel_rfl⟩, by kernel_rfl⟩
theorem si161 : SI Try.prog 161 #[(0, 1), (1, 5)] (.agg #[.int .i64 0, .int .i64 0, .int .i64 0, .int .i64 0, .int .i64 0, .slice none 0 0]) := ⟨⟨_, Try.underlying161, fun w => by kernel_rfl⟩, by kernel_rfl⟩
theorem ti139 : TI Try.prog 139 1 false := ⟨by kernel_rfl, by kernel_rfl⟩
theorem ti141 : TI Try.prog 141 6 true := ⟨by kernel_rfl, by kernel_rfl⟩
theorem ti145 : TI Try.prog 145 12 true := ⟨by kernel_rfl, by kernel_rfl⟩
theorem ti147 : TI Try.prog 147 2 true := ⟨by kernel_rfl, by kernel_rfl⟩
theorem ti151 : TI Try.prog 151 4 true := ⟨by kernel_rfl, by kernel_rfl⟩
theorem ti154 : TI Try.prog 154 1 false := ⟨by kernel_rfl, by kernel_rfl⟩
theorem ti157 : TI Try.prog 157 5 true := ⟨by kernel_rfl, by kernel_rfl⟩
theorem ti22 : TI Try.prog 22 1 false := ⟨by kernel_rfl, by kernel_rfl⟩
theorem zi141 : (Try.prog.info? 141).map (·.zero) = some (some (.agg #[.int .i64 0, .int .i64 0, .int .i64 0, .int .i64 0, .int .i64 0, .slice none 0 0])) := by kernel_rfl
theorem zi145 : (Try.prog.info? 145).map (·.zero) = some (some (.agg #[.int .i64 0, .int .i64 0, .int .i64 0, .int .i64 0, .int .i64 0, .slice none 0 0, .int .i64 0, .int .i64 0, .int .i64 0, .int .i64 0, .int .i64 0, .slice none 0 0])) := by kernel_rfl
theorem zi151 : (Try.prog.info? 151).map (·.zero) = some (some (.agg #[.int .i64 0, .bool false, .int .u16 0, .int .u8 0])) := by kernel_rfl
theorem zi154 : (Try.prog.info? 154).map (·.zero) = some (some (.slice none 0 0)) := by kernel_rfl
theorem zi157 : (Try.prog.info? 157).map (·.zero) = some (some (.agg #[.int .i64 0, .int .i64 0, .int .i64 0, .int .i64 0, .slice none 0 0])) := by kernel_rfl

attribute [local irreducible] Up.int Up.str Up.close Up.rest Up.clr Up.spoil Up.w Up.flag Ss.chk Pq.chk Ss.take Ss.answer Pq.bytes Pq.parse Sq.take Sq.meet Sq.ack Sq.again Sq.send Ln.does Ln.takes
open Sf
attribute [local irreducible] all half rnd ansr seg ps flush rounds answers
theorem resentR (x : Sq) (hx : x.Ok) : Does Try.prog 111 [.agg (sqz x)] [] (.sl none (x.again.map pqz) (.own 0)) [.row x.again.length 5] := by
  refine Does.of_body (rvs := [.tmp 2]) Try.func111 rfl rfl rfl rfl ?_
  have hal := x.again_len
  have hm := hx.m
  refine AWP.seq ?_
  refine AWP.region ?_
  refine n_box rfl nrSgA0 rfl rfl nrSgA0 nrSgA0 ?_
  refine n_assign rfl nrSgA0 ?_
  refine AOps.nil ?_
  refine AWP.seq ?_
  refine AWP.region ?_
  refine n_alloc rfl zi154 rfl nrSgA0 nrSgA0 ?_
  refine AOps.nil ?_
  refine AWP.seq ?_
  refine AWP.seq ?_
  refine AWP.adoptBox (j := 1) (i := 0) (m := 0) (sz := 5) (S' := [.box (sqz x), .box [.sl none [] (.own 2)], .row 0 5]) rfl rfl rfl rfl rfl ?_
  refine AWP.region ?_
  refine n_load rfl ti141 nrSgA0 nrSgA0 rfl nrSgA0 ?_
  refine n_call0B rfl cf212 rfl (Eq.trans (by simp only [nl] <;> rfl) nrSgA0) (by repeat (first | exact .nil | refine .cons ?_ ?_ | exact ren_ints | exact .lf (.val _) | exact .lf (lf_ints (.inl rfl)) | exact .bp ⟨rfl, rfl⟩ | exact .bp (.inl ⟨rfl, rfl⟩) | exact .bp (.inr ⟨rfl, rfl⟩) | exact .lf (lf_fnrp (sqz_lf _)) | exact .lf (.rp (sqz_lf _)) | exact ren_qe | exact .lf (lf_sqz _) | exact .lf (lf_qe (.inl rfl)) | exact ren_sqz rfl | exact ren_sqz0 rfl | exact ren_bys0 rfl | exact .lf (D.flat_lf rfl) | exact ren_lits rfl | exact .lf (lf_ssz _) | exact .lf (lf_pqz _) | exact ren_q0 rfl | exact ren_pq rfl | exact ren_nl0 | exact ren_sq | exact .lf (.fn (fun d h => by cases h) (fun d h => by cases h)))) (l_resend x hx) lfSgA0 ?_
  refine AOps.nil ?_
  refine AWP.block ?_
  refine AWP.rangeFunc [] (fun k => [.box (sqz x), .box [.sl none ((x.again.take k).map pqz) (.own 2)], .row (x.again.take k).length 5]) (fun _ _ => False) nrSgA0 cf271 (resend_it x hx) List.nodup_nil rfl (fun j ob h => by simp at h) (.cons (.lf (.rp (sqz_lf x))) .nil) rfl (by intro x hx; obtain ⟨p, _, rfl⟩ := List.mem_map.1 hx; rfl) (by intro x hx d hd; obtain ⟨p, _, rfl⟩ := List.mem_map.1 hx; simp only [List.mem_cons, List.not_mem_nil, or_false] at hd; subst hd; exact lf_pqz p) (by decide) (fun _ => rfl) (fun k => un_cons (un_boxL (sqz_lf x)) (un_cons (fun d hd => by simp only [List.mem_cons, List.not_mem_nil, or_false] at hd; subst hd; exact .sl (fun x hx d hd => by obtain ⟨p, _, rfl⟩ := List.mem_map.1 hx; exact .lf (pqz_lf p d hd)) (fun l e => by cases e; simp)) (un_cons trivial un_nil))) rfl rfl ?_ ?_ ?_
  · intro k y hxk
    obtain ⟨p, hp, rfl⟩ := map_some hxk
    have hkl := (List.getElem?_eq_some_iff.1 hp).1
    dsimp only [putPs]
    refine AWP.region ?_
    refine n_alloc rfl zi157 rfl nrSgA0 nrSgA0 ?_
    refine n_store ti157 nrSgA0 nrSgA0 nrSgA0 rfl nrSgA0 rfl rfl rfl nrSgA0 ?_
    refine AOps.nil ?_
    refine AWP.block ?_
    refine AWP.region ?_
    refine n_load rfl ti154 nrSgA0 nrSgA0 rfl nrSgA0 ?_
    refine n_load rfl ti157 nrSgA0 nrSgA0 rfl nrSgA0 ?_
    refine n_lit rfl Try.underlying154 ti157 zi157 rfl rfl (Eq.trans (by simp only [nl] <;> rfl) nrSgA0) rfl nrSgA0 ?_
    refine n_append_own (zs := (x.again.take (k + 1)).map pqz) (m := (x.again.take (k + 1)).length) rfl Try.underlying154 Try.underlying154 ei157 nrSgA0 nrSgA0 (by simp only [List.length_map]) nrSgA0 (by exact map_one (f := pqz) (fun _ => rfl)) (by exact one_one rfl) (by rw [take_snoc hp]; simp) (by rw [take_snoc hp]; simp) (by simp only [List.length_take]; omega) nrSgA0 ?_
    refine n_store ti154 nrSgA0 nrSgA0 nrSgA0 rfl nrSgA0 rfl rfl rfl nrSgA0 ?_
    refine AOps.nil ?_
    exact ⟨[.box (pqz p)], rfl⟩
  · rw [List.length_map]
    try dsimp only
    rw [List.take_length]
    refine AWP.seq ?_
    refine AWP.region ?_
    refine n_load rfl ti154 nrSgA0 nrSgA0 rfl nrSgA0 ?_
    refine n_assign rfl nrSgA0 ?_
    refine AOps.nil ?_
    refine AWP.ret ?_
    refine fin_rowR (l := 2) (.cons (rv_tmp nrSgA0) .nil) nrSgA0 ?_ rfl rfl
    exact .own (fun z hz d hd => by obtain ⟨p, _, rfl⟩ := List.mem_map.1 hz; exact pqz_lf p d hd) ⟨rfl, rfl⟩
  · intro c S' h
    exact h.elim

set_option maxHeartbeats 4000000 in
theorem Comes_calls (ns : List Nt) (hok : ∀ n ∈ ns, n.Ok) (hn : ns.length ≤ 1048576) : Does Try.prog 21 [.sl none (ns.map ntz) .ro] [] (vb true) [] := by
  refine Does.of_body (rvs := [.tmp 2]) Try.func21 rfl rfl rfl rfl ?_
  refine AWP.seq ?_
  refine AWP.reserve _ nrSgA0 ?_
  refine AWP.region ?_
  refine n_assign rfl nrSgA0 ?_
  refine AOps.nil ?_
  refine AWP.seq ?_
  refine AWP.seq ?_
  refine AWP.region ?_
  refine n_call0B rfl cf108 rfl (Eq.trans (by simp only [nl] <;> rfl) nrSgA0) (by repeat (first | exact .nil | refine .cons ?_ ?_ | exact ren_ints | exact .lf (.val _) | exact .lf (lf_ints (.inl rfl)) | exact .bp ⟨rfl, rfl⟩ | exact .bp (.inl ⟨rfl, rfl⟩) | exact .bp (.inr ⟨rfl, rfl⟩) | exact .lf (lf_fnrp (sqz_lf _)) | exact .lf (.rp (sqz_lf _)) | exact ren_qe | exact .lf (lf_sqz _) | exact .lf (lf_qe (.inl rfl)) | exact ren_sqz rfl | exact ren_sqz0 rfl | exact ren_bys0 rfl | exact .lf (D.flat_lf rfl) | exact ren_lits rfl | exact .lf (lf_ssz _) | exact .lf (lf_pqz _) | exact ren_q0 rfl | exact ren_pq rfl | exact ren_nl0 | exact ren_sq | exact .lf (.fn (fun d h => by cases h) (fun d h => by cases h)))) (live) lfSgA0 ?_
  refine n_not rfl nrSgA0 rfl ?_
  refine AOps.nil ?_
  refine AWP.cond_false nrSgA0 ?_
  refine AWP.skip ?_
  refine AWP.seq ?_
  refine AWP.region ?_
  refine n_call0B rfl cf109 rfl (Eq.trans (by simp only [nl] <;> rfl) nrSgA0) (by repeat (first | exact .nil | refine .cons ?_ ?_ | exact ren_ints | exact .lf (.val _) | exact .lf (lf_ints (.inl rfl)) | exact .bp ⟨rfl, rfl⟩ | exact .bp (.inl ⟨rfl, rfl⟩) | exact .bp (.inr ⟨rfl, rfl⟩) | exact .lf (lf_fnrp (sqz_lf _)) | exact .lf (.rp (sqz_lf _)) | exact ren_qe | exact .lf (lf_sqz _) | exact .lf (lf_qe (.inl rfl)) | exact ren_sqz rfl | exact ren_sqz0 rfl | exact ren_bys0 rfl | exact .lf (D.flat_lf rfl) | exact ren_lits rfl | exact .lf (lf_ssz _) | exact .lf (lf_pqz _) | exact ren_q0 rfl | exact ren_pq rfl | exact ren_nl0 | exact ren_sq | exact .lf (.fn (fun d h => by cases h) (fun d h => by cases h)))) (pair) lfSgA0 ?_
  refine n_move rfl nrSgA0 ?_
  refine n_extract rfl nrSgA0 rfl ?_
  refine n_extract rfl nrSgA0 rfl ?_
  refine n_extract rfl nrSgA0 rfl ?_
  refine n_alloc rfl zi141 rfl nrSgA0 nrSgA0 ?_
  refine n_alloc rfl zi141 rfl nrSgA0 nrSgA0 ?_
  refine n_store ti141 nrSgA0 nrSgA0 nrSgA0 rfl nrSgA0 rfl rfl rfl nrSgA0 ?_
  refine n_store ti141 nrSgA0 nrSgA0 nrSgA0 rfl nrSgA0 rfl rfl rfl nrSgA0 ?_
  refine n_assign rfl nrSgA0 ?_
  refine AOps.nil ?_
  refine AWP.seq ?_
  refine AWP.seq ?_
  refine AWP.region ?_
  refine n_move rfl nrSgA0 ?_
  refine n_not rfl nrSgA0 rfl ?_
  refine AOps.nil ?_
  refine AWP.cond_false nrSgA0 ?_
  refine AWP.skip ?_
  refine AWP.seq ?_
  refine AWP.region ?_
  refine n_load rfl ti141 nrSgA0 nrSgA0 rfl nrSgA0 ?_
  refine n_load rfl ti141 nrSgA0 nrSgA0 rfl nrSgA0 ?_
  refine n_build2 rfl Try.underlying145 ti141 zi145 rfl nrSgA0 nrSgA0 rfl ?_
  refine n_build rfl si149 (Eq.trans (by simp only [nl] <;> rfl) nrSgA0) (Eq.trans (by simp only [nl] <;> rfl) nrSgA0) rfl ?_
  refine n_boxAt 0 rfl nrSgA0 rfl nrSgA0 rfl nrSgA0 ?_
  refine n_assign rfl nrSgA0 ?_
  refine AOps.nil ?_
  refine AWP.seq ?_
  refine AWP.seq ?_
  refine AWP.adoptBox (j := 0) (i := 12) (m := 0) (sz := 6) (S' := [Ob.box [vi 5, vi 7, vi 0, vi 0, vi 1, .sl none [] .ro, vi 7, vi 5, vi 0, vi 0, vi 1, .sl none [] .ro, .sl none [] (.own 3), .sl (some true) [] .full, .sl (some true) [] .full, .sl (some true) [] .full, .sl (some true) [] .full], Ob.box (ssz ⟨5, 7, 0, 0, 1⟩), Ob.box (ssz ⟨7, 5, 0, 0, 1⟩), Ob.row 0 6]) rfl rfl rfl rfl rfl ?_
  refine AWP.adoptBox (j := 0) (i := 13) (m := 0) (sz := 1) (S' := [Ob.box [vi 5, vi 7, vi 0, vi 0, vi 1, .sl none [] .ro, vi 7, vi 5, vi 0, vi 0, vi 1, .sl none [] .ro, .sl none [] (.own 3), .sl none [] (.own 4), .sl (some true) [] .full, .sl (some true) [] .full, .sl (some true) [] .full], Ob.box (ssz ⟨5, 7, 0, 0, 1⟩), Ob.box (ssz ⟨7, 5, 0, 0, 1⟩), Ob.row 0 6, Ob.row 0 1]) rfl rfl rfl rfl rfl ?_
  refine AWP.adoptBox (j := 0) (i := 14) (m := 0) (sz := 1) (S' := [Ob.box [vi 5, vi 7, vi 0, vi 0, vi 1, .sl none [] .ro, vi 7, vi 5, vi 0, vi 0, vi 1, .sl none [] .ro, .sl none [] (.own 3), .sl none [] (.own 4), .sl none [] (.own 5), .sl (some true) [] .full, .sl (some true) [] .full], Ob.box (ssz ⟨5, 7, 0, 0, 1⟩), Ob.box (ssz ⟨7, 5, 0, 0, 1⟩), Ob.row 0 6, Ob.row 0 1, Ob.row 0 1]) rfl rfl rfl rfl rfl ?_
  refine AWP.adoptBox (j := 0) (i := 15) (m := 0) (sz := 1) (S' := [Ob.box [vi 5, vi 7, vi 0, vi 0, vi 1, .sl none [] .ro, vi 7, vi 5, vi 0, vi 0, vi 1, .sl none [] .ro, .sl none [] (.own 3), .sl none [] (.own 4), .sl none [] (.own 5), .sl none [] (.own 6), .sl (some true) [] .full], Ob.box (ssz ⟨5, 7, 0, 0, 1⟩), Ob.box (ssz ⟨7, 5, 0, 0, 1⟩), Ob.row 0 6, Ob.row 0 1, Ob.row 0 1, Ob.row 0 1]) rfl rfl rfl rfl rfl ?_
  refine AWP.adoptBox (j := 0) (i := 16) (m := 0) (sz := 1) (S' := [Ob.box [vi 5, vi 7, vi 0, vi 0, vi 1, .sl none [] .ro, vi 7, vi 5, vi 0, vi 0, vi 1, .sl none [] .ro, .sl none [] (.own 3), .sl none [] (.own 4), .sl none [] (.own 5), .sl none [] (.own 6), .sl none [] (.own 7)], Ob.box (ssz ⟨5, 7, 0, 0, 1⟩), Ob.box (ssz ⟨7, 5, 0, 0, 1⟩), Ob.row 0 6, Ob.row 0 1, Ob.row 0 1, Ob.row 0 1, Ob.row 0 1]) rfl rfl rfl rfl rfl ?_
  refine AWP.region ?_
  refine n_move rfl nrSgA0 ?_
  refine n_move rfl nrSgA0 ?_
  refine n_len rfl Try.underlying138 nrSgA0 (by first | rw [ints_length] | rw [List.length_map] | rfl) ?_
  refine n_min (T2 := #[]) (c := ((min ns.length 200 : Nat) : Int)) rfl nrSgA0 nrSgA0 (by split <;> omega) ?_
  refine n_slice (k := 0) (h := min ns.length 200) (ys := (ns.take (min ns.length 200)).map ntz) rfl Try.underlying138 ti151 nrSgA0 (SB.some nrSgA0 (by first | rfl | omega)) SB.none (by omega) (by rw [List.length_map]; omega) (by exact map_one (f := ntz) (fun _ => rfl)) (by rw [List.drop_zero, List.map_take]) ?_
  refine n_len rfl Try.underlying138 nrSgA0 (n := ((min ns.length 200 : Nat) : Int)) (by rw [List.length_map, List.length_take]; omega) ?_
  refine n_move rfl nrSgA0 ?_
  refine AOps.nil ?_
  refine AWP.block ?_
  refine AWP.loop (α := Nat × Ln × (Nat → Nat) × List Ob) (fun q => q.1 ≤ min ns.length 200 ∧ Inv B0 [] q.2.1 q.1 ∧ Rw q.2.1 q.2.2.1 q.2.2.2 ∧ ∀ c, Byt (q.2.1.sent c)) (fun q => put (put (put (put empty 6 (.bp 0 0)) 31 (.sl none ((ns.take (min ns.length 200)).map ntz) .ro)) 32 (vi ((min ns.length 200 : Nat) : Int))) 33 (vi (q.1 : Int))) (fun q => .box (lbx q.2.1 q.2.2.1) :: q.2.2.2) (fun q => min ns.length 200 - q.1) (0, l0, (fun k => k + 2), [Ob.box (ssz ⟨5, 7, 0, 0, 1⟩), Ob.box (ssz ⟨7, 5, 0, 0, 1⟩), Ob.row 0 6, Ob.row 0 1, Ob.row 0 1, Ob.row 0 1, Ob.row 0 1]) ?_ ?_ ?_ ?_
  · exact ⟨Nat.zero_le _, inv0, rw0 _ _ rfl (fun _ => rfl) (fun _ => rfl), fun c a h => by cases h⟩
  · (repeat (first | exact FLe.empty _ | refine FLe.put ?_ ?_)) <;> first | (simp only [nf, nfV, Nat.beq]; done) | rfl | ((try simp only [nf, nfV, Nat.beq]); first | rfl | (simp only [List.length_map]; done) | (congr 2; omega; done))
  · rfl
  · rintro ⟨i, l, r, S1⟩ ⟨hi, hI, hr, hB⟩
    dsimp only at hi hI hr hB ⊢
    refine AWP.seq ?_
    refine AWP.region ?_
    refine n_ibin rfl nrSgA0 nrSgA0 rfl ?_
    refine AOps.nil ?_
    refine AWP.seq ?_
    refine AWP.cond nrSgA0 (fun hc3 => ?_) (fun hc3 => ?_)
    · try simp only [nh] at hc3
      obtain ⟨n, hn0⟩ : ∃ n, (ns.take (min ns.length 200))[i]? = some n := ⟨_, List.getElem?_eq_getElem (by rw [List.length_take]; omega)⟩
      have hxn := map_at ntz hn0
      have hnk : n.Ok := hok n (List.mem_of_mem_take (List.mem_of_getElem? hn0))
      refine AWP.skip ?_
      refine AWP.seq ?_
      refine AWP.block ?_
      refine AWP.seq ?_
      refine AWP.region ?_
      refine n_indexAddr rfl Try.underlying138 ti151 rfl nrSgA0 nrSgA0 (by omega) (by exact hxn) rfl ?_
      refine n_load rfl ti151 nrSgA0 nrSgA0 rfl nrSgA0 ?_
      refine n_alloc rfl zi151 rfl nrSgA0 nrSgA0 ?_
      refine n_store ti151 nrSgA0 nrSgA0 nrSgA0 rfl nrSgA0 rfl rfl rfl nrSgA0 ?_
      refine AOps.nil ?_
      refine AWP.region ?_
      refine n_move rfl nrSgA0 ?_
      refine n_load rfl ti151 nrSgA0 nrSgA0 rfl nrSgA0 ?_
      refine op_callK (dst := some 39) rfl cf110 rfl (Eq.trans (by simp only [nl] <;> rfl) nrSgA0) (does_any l r _ hr.app (hI.gd (by omega)) n hnk _ (fun r2 S2 h2 => ?_))
      refine AOps.nil ?_
      refine AWP.region ?_
      first | refine n_iadd rfl nrSgA0 nrSgA0 rfl (by omega) (by omega) ?_ | refine n_ibin rfl nrSgA0 nrSgA0 rfl ?_
      refine n_move rfl nrSgA0 ?_
      refine AOps.nil ?_
      refine ⟨(i + 1, l.does n, r2, S2), ⟨by omega, does_inv hI (by omega) n, h2, does_byt hnk hB⟩, ?_, rfl, by omega⟩
      (repeat (first | exact FLe.empty _ | refine FLe.put ?_ ?_)) <;> first | (simp only [nf, nfV, Nat.beq]; done) | rfl | ((try simp only [nf, nfV, Nat.beq]); first | rfl | (simp only [List.length_map]; done) | (congr 2; omega; done))
    · try simp only [nh] at hc3
      have hI0 := more_n hI (m := 200) (by omega)
      clear hI
      refine AWP.exit ?_
      refine AWP.seq ?_
      refine AWP.seq ?_
      refine AWP.region ?_
      refine n_move rfl nrSgA0 ?_
      refine AOps.nil ?_
      refine AWP.block ?_
      refine AWP.loop (α := Nat × (Nat → Nat) × List Ob) (fun q => q.1 ≤ 2 ∧ Rw (rnd l q.1) q.2.1 q.2.2) (fun q => put (put empty 6 (.bp 0 0)) 41 (vi (q.1 : Int))) (fun q => .box (lbx (rnd l q.1) q.2.1) :: q.2.2) (fun q => 2 - q.1) (0, r, S1) ?_ ?_ ?_ ?_
      · exact ⟨Nat.zero_le _, by unfold rnd; exact hr⟩
      · (repeat (first | exact FLe.empty _ | refine FLe.put ?_ ?_)) <;> first | (simp only [nf, nfV, Nat.beq]; done) | rfl | ((try simp only [nf, nfV, Nat.beq]); first | rfl | (simp only [List.length_map]; done) | (congr 2; omega; done))
      · unfold rnd; rfl
      · rintro ⟨j, r2, S2⟩ ⟨hj, hs2⟩
        dsimp only at hj hs2 ⊢
        refine AWP.seq ?_
        refine AWP.region ?_
        refine n_ibin rfl nrSgA0 nrSgA0 rfl ?_
        refine AOps.nil ?_
        refine AWP.seq ?_
        refine AWP.cond nrSgA0 (fun hc4 => ?_) (fun hc4 => ?_)
        · try simp only [nh] at hc4
          refine AWP.skip ?_
          refine AWP.seq ?_
          refine AWP.block ?_
          refine AWP.seq ?_
          refine AWP.region ?_
          refine n_move rfl nrSgA0 ?_
          refine AOps.nil ?_
          refine AWP.block ?_
          refine AWP.loop (α := Nat × (Nat → Nat) × List Ob) (fun q => q.1 ≤ 2 ∧ Rw (half (rnd l j) q.1) q.2.1 q.2.2) (fun q => put (put (put empty 6 (.bp 0 0)) 41 (vi (j : Int))) 43 (vi (q.1 : Int))) (fun q => .box (lbx (half (rnd l j) q.1) q.2.1) :: q.2.2) (fun q => 2 - q.1) (0, r2, S2) ?_ ?_ ?_ ?_
          · exact ⟨Nat.zero_le _, by unfold half; exact hs2⟩
          · (repeat (first | exact FLe.empty _ | refine FLe.put ?_ ?_)) <;> first | (simp only [nf, nfV, Nat.beq]; done) | rfl | ((try simp only [nf, nfV, Nat.beq]); first | rfl | (simp only [List.length_map]; done) | (congr 2; omega; done))
          · unfold half; rfl
          · rintro ⟨q, r3, S3⟩ ⟨hq, hs⟩
            dsimp only at hq hs ⊢
            obtain rfl | rfl | rfl : q = 0 ∨ q = 1 ∨ q = 2 := by omega
            · have hX := half_inv (by decide) (rnd_inv (by decide) hI0 j) 0
              generalize hXe : half (rnd l j) 0 = X at hs hX ⊢
              have hok := hX.ok (by decide) false
              have hans := l_answerQ (X.x false) hok
              have hps : ps X false = (X.x false).again ++ [(X.x false).pk 0 []] := by unfold ps; rfl
              have hm16 := hok.m
              have hal := (X.x false).again_len
              have hpl := ps_len X false
              refine AWP.seq ?_
              refine AWP.region ?_
              refine n_ibin rfl nrSgA0 nrSgA0 rfl ?_
              refine AOps.nil ?_
              refine AWP.seq ?_
              refine AWP.cond_true nrSgA0 ?_
              refine AWP.skip ?_
              refine AWP.seq ?_
              refine AWP.block ?_
              refine AWP.seq ?_
              refine AWP.region ?_
              refine n_move rfl nrSgA0 ?_
              refine n_assign rfl nrSgA0 ?_
              refine AOps.nil ?_
              refine AWP.seq ?_
              refine AWP.anyT [6, 15] (fun p => match p with | [false, false] => Ob.box (lbx X r3) :: S3 | [true, false] => Ob.box (lbx X r3) :: (S3 ++ [Ob.row (X.x false).again.length 5]) | [true, true] => Ob.box (lbx X r3) :: (S3 ++ [Ob.row (ps X false).length 5]) | _ => []) (by kernel_rfl) (by kernel_rfl) rfl rfl ?_
              refine Walk.cases [([false, false], Ob.box (lbx X r3) :: S3, Ob.box (lbx X r3) :: S3)] (by rfl) (by kernel_rfl) (rs := [6]) (by rfl) nrSgA0 (fun base => ⟨
                  ⟨rfl, rfl, by
                    refine n_move rfl nrSgA0 ?_
                    exact AOps.nil ⟨rfl, rfl, rfl⟩⟩,
                  trivial⟩) ?_
              refine Walk.cases [([false, false], Ob.box (lbx X r3) :: S3, Ob.box (lbx X r3) :: S3)] (by rfl) (by kernel_rfl) (rs := [9]) (by rfl) nrSgA0 (fun base => ⟨
                  ⟨rfl, rfl, by
                    refine n_move rfl nrSgA0 ?_
                    exact AOps.nil ⟨rfl, rfl, rfl⟩⟩,
                  trivial⟩) ?_
              refine Walk.cases [([false, false], Ob.box (lbx X r3) :: S3, Ob.box (lbx X r3) :: S3)] (by rfl) (by kernel_rfl) (rs := [46]) (by rfl) nrSgA0 (fun base => ⟨
                  ⟨rfl, rfl, by
                    refine n_nilCheck rfl nrSgA0 rfl ?_
                    exact AOps.nil ⟨rfl, rfl, rfl⟩⟩,
                  trivial⟩) ?_
              refine Walk.cases [([false, false], Ob.box (lbx X r3) :: S3, Ob.box (lbx X r3) :: S3)] (by rfl) (by kernel_rfl) (rs := [48]) (by rfl) nrSgA0 (fun base => ⟨
                  ⟨rfl, rfl, by
                    refine n_fieldAddr rfl fd149_0 ti145 rfl nrSgA0 rfl nrSgA0 ?_
                    exact AOps.nil ⟨rfl, rfl, rfl⟩⟩,
                  trivial⟩) ?_
              refine Walk.cases [([false, false], Ob.box (lbx X r3) :: S3, Ob.box (lbx X r3) :: S3)] (by rfl) (by kernel_rfl) (rs := [49, 47]) (by rfl) nrSgA0 (fun base => ⟨
                  ⟨rfl, rfl, by
                    refine n_arrAddr (q := 0) rfl Try.underlying145 ti141 nrSgA0 nrSgA0 (by decide) (by decide) rfl ?_
                    exact AOps.nil ⟨rfl, rfl, rfl⟩⟩,
                  trivial⟩) ?_
              refine Walk.cases [([false, false], Ob.box (lbx X r3) :: S3, Ob.box (lbx X r3) :: S3)] (by rfl) (by kernel_rfl) (rs := [50]) (by rfl) nrSgA0 (fun base => ⟨
                  ⟨rfl, rfl, by
                    refine n_load rfl ti141 nrSgA0 nrSgA0 rfl nrSgA0 ?_
                    exact AOps.nil ⟨rfl, rfl, rfl⟩⟩,
                  trivial⟩) ?_
              refine Walk.cases [([false, false], Ob.box (lbx X r3) :: S3, Ob.box (lbx X r3) :: (S3 ++ [Ob.row (X.x false).again.length 5]))] (by rfl) (by kernel_rfl) (rs := [51]) (by rfl) nrSgA0 (fun base => ⟨
                  ⟨rfl, rfl, by
                    refine n_callRowR (r' := .sl none ((X.x false).again.map pqz) (.own (S3.length + 1))) rfl cf111 rfl (Eq.trans (by simp only [nl] <;> rfl) nrSgA0) (by repeat (first | exact .nil | refine .cons ?_ ?_ | exact ren_ints | exact .lf (.val _) | exact .lf (lf_ints (.inl rfl)) | exact .bp ⟨rfl, rfl⟩ | exact .bp (.inl ⟨rfl, rfl⟩) | exact .bp (.inr ⟨rfl, rfl⟩) | exact .lf (lf_fnrp (sqz_lf _)) | exact .lf (.rp (sqz_lf _)) | exact ren_qe | exact .lf (lf_sqz _) | exact .lf (lf_qe (.inl rfl)) | exact ren_sqz rfl | exact ren_sqz0 rfl | exact ren_bys0 rfl | exact .lf (D.flat_lf rfl) | exact ren_lits rfl | exact .lf (lf_ssz _) | exact .lf (lf_pqz _) | exact ren_q0 rfl | exact ren_pq rfl | exact ren_nl0 | exact ren_sq | exact .lf (.fn (fun d h => by cases h) (fun d h => by cases h)))) (resentR (X.x false) hok) rfl (by exact .own (fun z hz d hd => by obtain ⟨y, _, rfl⟩ := List.mem_map.1 hz; exact pqz_lf y d hd) ⟨rfl, rfl⟩) nrSgA0 ?_
                    exact AOps.nil ⟨rfl, rfl, rfl⟩⟩,
                  trivial⟩) ?_
              refine Walk.cases [([false, false], Ob.box (lbx X r3) :: S3, Ob.box (lbx X r3) :: S3), ([true, false], Ob.box (lbx X r3) :: (S3 ++ [Ob.row (X.x false).again.length 5]), Ob.box (lbx X r3) :: (S3 ++ [Ob.row (X.x false).again.length 5]))] (by rfl) (by kernel_rfl) (rs := [6]) (by rfl) nrSgA0 (fun base => ⟨
                  ⟨rfl, rfl, by
                    refine n_move rfl nrSgA0 ?_
                    exact AOps.nil ⟨rfl, rfl, rfl⟩⟩,
                  ⟨rfl, rfl, by
                    refine n_move rfl nrSgA0 ?_
                    exact AOps.nil ⟨rfl, rfl, rfl⟩⟩,
                  trivial⟩) ?_
              refine Walk.cases [([false, false], Ob.box (lbx X r3) :: S3, Ob.box (lbx X r3) :: S3), ([true, false], Ob.box (lbx X r3) :: (S3 ++ [Ob.row (X.x false).again.length 5]), Ob.box (lbx X r3) :: (S3 ++ [Ob.row (X.x false).again.length 5]))] (by rfl) (by kernel_rfl) (rs := [9]) (by rfl) nrSgA0 (fun base => ⟨
                  ⟨rfl, rfl, by
                    refine n_move rfl nrSgA0 ?_
                    exact AOps.nil ⟨rfl, rfl, rfl⟩⟩,
                  ⟨rfl, rfl, by
                    refine n_move rfl nrSgA0 ?_
                    exact AOps.nil ⟨rfl, rfl, rfl⟩⟩,
                  trivial⟩) ?_
              refine Walk.cases [([false, false], Ob.box (lbx X r3) :: S3, Ob.box (lbx X r3) :: S3), ([true, false], Ob.box (lbx X r3) :: (S3 ++ [Ob.row (X.x false).again.length 5]), Ob.box (lbx X r3) :: (S3 ++ [Ob.row (X.x false).again.length 5]))] (by rfl) (by kernel_rfl) (rs := [53]) (by rfl) nrSgA0 (fun base => ⟨
                  ⟨rfl, rfl, by
                    refine n_nilCheck rfl nrSgA0 rfl ?_
                    exact AOps.nil ⟨rfl, rfl, rfl⟩⟩,
                  ⟨rfl, rfl, by
                    refine n_nilCheck rfl nrSgA0 rfl ?_
                    exact AOps.nil ⟨rfl, rfl, rfl⟩⟩,
                  trivial⟩) ?_
              refine Walk.cases [([false, false], Ob.box (lbx X r3) :: S3, Ob.box (lbx X r3) :: S3), ([true, false], Ob.box (lbx X r3) :: (S3 ++ [Ob.row (X.x false).again.length 5]), Ob.box (lbx X r3) :: (S3 ++ [Ob.row (X.x false).again.length 5]))] (by rfl) (by kernel_rfl) (rs := [55]) (by rfl) nrSgA0 (fun base => ⟨
                  ⟨rfl, rfl, by
                    refine n_fieldAddr rfl fd149_0 ti145 rfl nrSgA0 rfl nrSgA0 ?_
                    exact AOps.nil ⟨rfl, rfl, rfl⟩⟩,
                  ⟨rfl, rfl, by
                    refine n_fieldAddr rfl fd149_0 ti145 rfl nrSgA0 rfl nrSgA0 ?_
                    exact AOps.nil ⟨rfl, rfl, rfl⟩⟩,
                  trivial⟩) ?_
              refine Walk.cases [([false, false], Ob.box (lbx X r3) :: S3, Ob.box (lbx X r3) :: S3), ([true, false], Ob.box (lbx X r3) :: (S3 ++ [Ob.row (X.x false).again.length 5]), Ob.box (lbx X r3) :: (S3 ++ [Ob.row (X.x false).again.length 5]))] (by rfl) (by kernel_rfl) (rs := [56, 54]) (by rfl) nrSgA0 (fun base => ⟨
                  ⟨rfl, rfl, by
                    refine n_arrAddr (q := 0) rfl Try.underlying145 ti141 nrSgA0 nrSgA0 (by decide) (by decide) rfl ?_
                    exact AOps.nil ⟨rfl, rfl, rfl⟩⟩,
                  ⟨rfl, rfl, by
                    refine n_arrAddr (q := 0) rfl Try.underlying145 ti141 nrSgA0 nrSgA0 (by decide) (by decide) rfl ?_
                    exact AOps.nil ⟨rfl, rfl, rfl⟩⟩,
                  trivial⟩) ?_
              refine Walk.cases [([false, false], Ob.box (lbx X r3) :: S3, Ob.box (lbx X r3) :: S3), ([true, false], Ob.box (lbx X r3) :: (S3 ++ [Ob.row (X.x false).again.length 5]), Ob.box (lbx X r3) :: (S3 ++ [Ob.row (X.x false).again.length 5]))] (by rfl) (by kernel_rfl) (rs := [57]) (by rfl) nrSgA0 (fun base => ⟨
                  ⟨rfl, rfl, by
                    refine n_load rfl ti141 nrSgA0 nrSgA0 rfl nrSgA0 ?_
                    exact AOps.nil ⟨rfl, rfl, rfl⟩⟩,
                  ⟨rfl, rfl, by
                    refine n_load rfl ti141 nrSgA0 nrSgA0 rfl nrSgA0 ?_
                    exact AOps.nil ⟨rfl, rfl, rfl⟩⟩,
                  trivial⟩) ?_
              refine Walk.cases [([true, false], Ob.box (lbx X r3) :: (S3 ++ [Ob.row (X.x false).again.length 5]), Ob.box (lbx X r3) :: (S3 ++ [Ob.row (X.x false).again.length 5]))] (by rfl) (by kernel_rfl) (rs := [58]) (by rfl) nrSgA0 (fun base => ⟨
                  ⟨rfl, rfl, by
                    refine n_call0B rfl cf112 rfl (Eq.trans (by simp only [nl] <;> rfl) nrSgA0) (by repeat (first | exact .nil | refine .cons ?_ ?_ | exact ren_ints | exact .lf (.val _) | exact .lf (lf_ints (.inl rfl)) | exact .bp ⟨rfl, rfl⟩ | exact .bp (.inl ⟨rfl, rfl⟩) | exact .bp (.inr ⟨rfl, rfl⟩) | exact .lf (lf_fnrp (sqz_lf _)) | exact .lf (.rp (sqz_lf _)) | exact ren_qe | exact .lf (lf_sqz _) | exact .lf (lf_qe (.inl rfl)) | exact ren_sqz rfl | exact ren_sqz0 rfl | exact ren_bys0 rfl | exact .lf (D.flat_lf rfl) | exact ren_lits rfl | exact .lf (lf_ssz _) | exact .lf (lf_pqz _) | exact ren_q0 rfl | exact ren_pq rfl | exact ren_nl0 | exact ren_sq | exact .lf (.fn (fun d h => by cases h) (fun d h => by cases h)))) (hans) lfSgA0 ?_
                    exact AOps.nil ⟨rfl, rfl, rfl⟩⟩,
                  trivial⟩) ?_
              refine Walk.cases [([true, false], Ob.box (lbx X r3) :: (S3 ++ [Ob.row (X.x false).again.length 5]), Ob.box (lbx X r3) :: (S3 ++ [Ob.row (X.x false).again.length 5]))] (by rfl) (by kernel_rfl) (rs := [59]) (by rfl) nrSgA0 (fun base => ⟨
                  ⟨rfl, rfl, by
                    refine n_lit rfl Try.underlying154 ti157 zi157 rfl rfl (Eq.trans (by simp only [nl] <;> rfl) nrSgA0) rfl nrSgA0 ?_
                    exact AOps.nil ⟨rfl, rfl, rfl⟩⟩,
                  trivial⟩) ?_
              refine Walk.cases [([true, false], Ob.box (lbx X r3) :: (S3 ++ [Ob.row (X.x false).again.length 5]), Ob.box (lbx X r3) :: (S3 ++ [Ob.row (ps X false).length 5]))] (by rfl) (by kernel_rfl) (rs := [52, 60]) (by rfl) nrSgA0 (fun base => ⟨
                  ⟨rfl, rfl, by
                    refine n_append_own (zs := ((ps X false).map pqz)) (m := (ps X false).length) (S' := Ob.box (lbx X r3) :: (S3 ++ [Ob.row (ps X false).length 5])) rfl Try.underlying154 Try.underlying154 ei157 nrSgA0 nrSgA0 (by rw [List.length_map]) nrSgA0 (by exact map_one (f := pqz) (fun _ => rfl)) (by exact one_one rfl) (by rw [hps, List.map_append]; rfl) (by rw [hps, List.length_map, List.length_append]; rfl) (by have := ps_len X false; omega) nrSgA0 ?_
                    exact AOps.nil ⟨rfl, rfl, rfl⟩⟩,
                  trivial⟩) ?_
              refine Walk.cases [([true, true], Ob.box (lbx X r3) :: (S3 ++ [Ob.row (ps X false).length 5]), Ob.box (lbx X r3) :: (S3 ++ [Ob.row (ps X false).length 5]))] (by rfl) (by kernel_rfl) (rs := [61]) (by rfl) nrSgA0 (fun base => ⟨
                  ⟨rfl, rfl, by
                    refine n_len rfl Try.underlying154 nrSgA0 (n := ((ps X false).length : Int)) (by rw [List.length_map]) ?_
                    exact AOps.nil ⟨rfl, rfl, rfl⟩⟩,
                  trivial⟩) ?_
              refine Walk.cases [([false, false], Ob.box (lbx X r3) :: S3, Ob.box (lbx X r3) :: S3), ([true, false], Ob.box (lbx X r3) :: (S3 ++ [Ob.row (X.x false).again.length 5]), Ob.box (lbx X r3) :: (S3 ++ [Ob.row (X.x false).again.length 5])), ([true, true], Ob.box (lbx X r3) :: (S3 ++ [Ob.row (ps X false).length 5]), Ob.box (lbx X r3) :: (S3 ++ [Ob.row (ps X false).length 5]))] (by rfl) (by kernel_rfl) (rs := []) (by rfl) nrSgA0 (fun base => ⟨
                  ⟨rfl, rfl, by
                    refine n_move rfl nrSgA0 ?_
                    exact AOps.nil ⟨rfl, rfl, rfl⟩⟩,
                  ⟨rfl, rfl, by
                    refine n_move rfl nrSgA0 ?_
                    exact AOps.nil ⟨rfl, rfl, rfl⟩⟩,
                  ⟨rfl, rfl, by
                    refine n_move rfl nrSgA0 ?_
                    exact AOps.nil ⟨rfl, rfl, rfl⟩⟩,
                  trivial⟩) ?_
              refine Walk.done ?_
              refine AWP.block ?_
              refine AWP.asRo (t := 61) nrSgA0 ?_
              refine AWP.loop (α := Nat × (Nat → Nat) × List Ob) (fun q => q.1 ≤ (ps X false).length ∧ Rw (seg X false q.1) q.2.1 q.2.2) (fun q => put (put (put (put (put (put empty 6 (.bp 0 0)) 9 (vi 0)) 41 (vi (j : Int))) 43 (vi 0)) 61 (.sl none ((ps X false).map pqz) .ro)) 62 (vi ((ps X false).length : Int)) |> (put · 63 (vi (q.1 : Int)))) (fun q => .box (lbx (seg X false q.1) q.2.1) :: q.2.2) (fun q => (ps X false).length - q.1) (0, r3, S3 ++ [Ob.row (ps X false).length 5]) ?_ ?_ ?_ ?_
              · exact ⟨Nat.zero_le _, by rw [seg_zero]; exact hs.app⟩
              · (repeat (first | exact FLe.empty _ | refine FLe.put ?_ ?_)) <;> first | (simp only [nf, nfV, Nat.beq]; done) | rfl | ((try simp only [nf, nfV, Nat.beq]); first | rfl | (simp only [List.length_map]; done) | (congr 2; omega; done))
              · (dsimp only; rw [seg_zero]; rfl)
              · rintro ⟨i, r4, S4⟩ ⟨hi, hs4⟩
                dsimp only at hi hs4 ⊢
                refine AWP.seq ?_
                refine AWP.region ?_
                refine n_ibin rfl nrSgA0 nrSgA0 rfl ?_
                refine AOps.nil ?_
                refine AWP.seq ?_
                refine AWP.cond nrSgA0 (fun hc6 => ?_) (fun hc6 => ?_)
                · try simp only [nh] at hc6
                  obtain ⟨y, hy0⟩ : ∃ y, (ps X false)[i]? = some y := ⟨_, List.getElem?_eq_getElem (by omega)⟩
                  have hyx := map_at pqz hy0
                  have hP := seg_good (by decide) hX false i
                  refine AWP.skip ?_
                  refine AWP.seq ?_
                  refine AWP.block ?_
                  refine AWP.seq ?_
                  refine AWP.region ?_
                  refine n_indexAddr rfl Try.underlying154 ti157 rfl nrSgA0 nrSgA0 (by omega) (by exact hyx) rfl ?_
                  refine n_load rfl ti157 nrSgA0 nrSgA0 rfl nrSgA0 ?_
                  refine n_alloc rfl zi157 rfl nrSgA0 nrSgA0 ?_
                  refine n_store ti157 nrSgA0 nrSgA0 nrSgA0 rfl nrSgA0 rfl rfl rfl nrSgA0 ?_
                  refine AOps.nil ?_
                  refine AWP.region ?_
                  refine n_move rfl nrSgA0 ?_
                  refine n_move rfl nrSgA0 ?_
                  refine n_isub (c := 1) rfl nrSgA0 nrSgA0 (by decide) (by decide) (by decide) ?_
                  refine n_load rfl ti157 nrSgA0 nrSgA0 rfl nrSgA0 ?_
                  refine n_build rfl si161 (Eq.trans (by simp only [nl] <;> rfl) nrSgA0) (Eq.trans (by simp only [nl] <;> rfl) nrSgA0) rfl ?_
                  refine op_callK (dst := some 72) rfl cf113 rfl (Eq.trans (by simp only [nl] <;> rfl) nrSgA0) (takes_any (seg X false i) r4 _ hs4.app (hP.1.gd (by decide)) ⟨true, y⟩ (hP.2 y (List.mem_of_getElem? hy0)) _ (fun r5 S5 h5 => ?_))
                  refine AOps.nil ?_
                  refine AWP.region ?_
                  first | refine n_iadd rfl nrSgA0 nrSgA0 rfl (by omega) (by omega) ?_ | refine n_ibin rfl nrSgA0 nrSgA0 rfl ?_
                  refine n_move rfl nrSgA0 ?_
                  refine AOps.nil ?_
                  refine ⟨(i + 1, r5, S5), ⟨by omega, by rw [seg_succ hy0]; exact h5⟩, ?_, by dsimp only; rw [seg_succ hy0]; rfl, by omega⟩
                  (repeat (first | exact FLe.empty _ | refine FLe.put ?_ ?_)) <;> first | (simp only [nf, nfV, Nat.beq]; done) | rfl | ((try simp only [nf, nfV, Nat.beq]); first | rfl | (simp only [List.length_map]; done) | (congr 2; omega; done))
                · try simp only [nh] at hc6
                  obtain rfl : i = (ps X false).length := by omega
                  rw [seg_end] at *
                  refine AWP.exit ?_
                  refine AWP.region ?_
                  first | refine n_iadd rfl nrSgA0 nrSgA0 rfl (by omega) (by omega) ?_ | refine n_ibin rfl nrSgA0 nrSgA0 rfl ?_
                  refine n_move rfl nrSgA0 ?_
                  refine AOps.nil ?_
                  refine ⟨(1, r4, S4), ⟨by omega, by rw [half_one hXe]; exact hs4⟩, ?_, by dsimp only; rw [half_one hXe], by omega⟩
                  (repeat (first | exact FLe.empty _ | refine FLe.put ?_ ?_)) <;> first | (simp only [nf, nfV, Nat.beq]; done) | rfl | ((try simp only [nf, nfV, Nat.beq]); first | rfl | (simp only [List.length_map]; done) | (congr 2; omega; done))
            · have hX := half_inv (by decide) (rnd_inv (by decide) hI0 j) 1
              generalize hXe : half (rnd l j) 1 = X at hs hX ⊢
              have hok := hX.ok (by decide) true
              have hans := l_answerQ (X.x true) hok
              have hps : ps X true = (X.x true).again ++ [(X.x true).pk 0 []] := by unfold ps; rfl
              have hm16 := hok.m
              have hal := (X.x true).again_len
              have hpl := ps_len X true
              refine AWP.seq ?_
              refine AWP.region ?_
              refine n_ibin rfl nrSgA0 nrSgA0 rfl ?_
              refine AOps.nil ?_
              refine AWP.seq ?_
              refine AWP.cond_true nrSgA0 ?_
              refine AWP.skip ?_
              refine AWP.seq ?_
              refine AWP.block ?_
              refine AWP.seq ?_
              refine AWP.region ?_
              refine n_move rfl nrSgA0 ?_
              refine n_assign rfl nrSgA0 ?_
              refine AOps.nil ?_
              refine AWP.seq ?_
              refine AWP.anyT [6, 15] (fun p => match p with | [false, false] => Ob.box (lbx X r3) :: S3 | [true, false] => Ob.box (lbx X r3) :: (S3 ++ [Ob.row (X.x true).again.length 5]) | [true, true] => Ob.box (lbx X r3) :: (S3 ++ [Ob.row (ps X true).length 5]) | _ => []) (by kernel_rfl) (by kernel_rfl) rfl rfl ?_
              refine Walk.cases [([false, false], Ob.box (lbx X r3) :: S3, Ob.box (lbx X r3) :: S3)] (by rfl) (by kernel_rfl) (rs := [6]) (by rfl) nrSgA0 (fun base => ⟨
                  ⟨rfl, rfl, by
                    refine n_move rfl nrSgA0 ?_
                    exact AOps.nil ⟨rfl, rfl, rfl⟩⟩,
                  trivial⟩) ?_
              refine Walk.cases [([false, false], Ob.box (lbx X r3) :: S3, Ob.box (lbx X r3) :: S3)] (by rfl) (by kernel_rfl) (rs := [9]) (by rfl) nrSgA0 (fun base => ⟨
                  ⟨rfl, rfl, by
                    refine n_move rfl nrSgA0 ?_
                    exact AOps.nil ⟨rfl, rfl, rfl⟩⟩,
                  trivial⟩) ?_
              refine Walk.cases [([false, false], Ob.box (lbx X r3) :: S3, Ob.box (lbx X r3) :: S3)] (by rfl) (by kernel_rfl) (rs := [46]) (by rfl) nrSgA0 (fun base => ⟨
                  ⟨rfl, rfl, by
                    refine n_nilCheck rfl nrSgA0 rfl ?_
                    exact AOps.nil ⟨rfl, rfl, rfl⟩⟩,
                  trivial⟩) ?_
              refine Walk.cases [([false, false], Ob.box (lbx X r3) :: S3, Ob.box (lbx X r3) :: S3)] (by rfl) (by kernel_rfl) (rs := [48]) (by rfl) nrSgA0 (fun base => ⟨
                  ⟨rfl, rfl, by
                    refine n_fieldAddr rfl fd149_0 ti145 rfl nrSgA0 rfl nrSgA0 ?_
                    exact AOps.nil ⟨rfl, rfl, rfl⟩⟩,
                  trivial⟩) ?_
              refine Walk.cases [([false, false], Ob.box (lbx X r3) :: S3, Ob.box (lbx X r3) :: S3)] (by rfl) (by kernel_rfl) (rs := [49, 47]) (by rfl) nrSgA0 (fun base => ⟨
                  ⟨rfl, rfl, by
                    refine n_arrAddr (q := 6) rfl Try.underlying145 ti141 nrSgA0 nrSgA0 (by decide) (by decide) rfl ?_
                    exact AOps.nil ⟨rfl, rfl, rfl⟩⟩,
                  trivial⟩) ?_
              refine Walk.cases [([false, false], Ob.box (lbx X r3) :: S3, Ob.box (lbx X r3) :: S3)] (by rfl) (by kernel_rfl) (rs := [50]) (by rfl) nrSgA0 (fun base => ⟨
                  ⟨rfl, rfl, by
                    refine n_load rfl ti141 nrSgA0 nrSgA0 rfl nrSgA0 ?_
                    exact AOps.nil ⟨rfl, rfl, rfl⟩⟩,
                  trivial⟩) ?_
              refine Walk.cases [([false, false], Ob.box (lbx X r3) :: S3, Ob.box (lbx X r3) :: (S3 ++ [Ob.row (X.x true).again.length 5]))] (by rfl) (by kernel_rfl) (rs := [51]) (by rfl) nrSgA0 (fun base => ⟨
                  ⟨rfl, rfl, by
                    refine n_callRowR (r' := .sl none ((X.x true).again.map pqz) (.own (S3.length + 1))) rfl cf111 rfl (Eq.trans (by simp only [nl] <;> rfl) nrSgA0) (by repeat (first | exact .nil | refine .cons ?_ ?_ | exact ren_ints | exact .lf (.val _) | exact .lf (lf_ints (.inl rfl)) | exact .bp ⟨rfl, rfl⟩ | exact .bp (.inl ⟨rfl, rfl⟩) | exact .bp (.inr ⟨rfl, rfl⟩) | exact .lf (lf_fnrp (sqz_lf _)) | exact .lf (.rp (sqz_lf _)) | exact ren_qe | exact .lf (lf_sqz _) | exact .lf (lf_qe (.inl rfl)) | exact ren_sqz rfl | exact ren_sqz0 rfl | exact ren_bys0 rfl | exact .lf (D.flat_lf rfl) | exact ren_lits rfl | exact .lf (lf_ssz _) | exact .lf (lf_pqz _) | exact ren_q0 rfl | exact ren_pq rfl | exact ren_nl0 | exact ren_sq | exact .lf (.fn (fun d h => by cases h) (fun d h => by cases h)))) (resentR (X.x true) hok) rfl (by exact .own (fun z hz d hd => by obtain ⟨y, _, rfl⟩ := List.mem_map.1 hz; exact pqz_lf y d hd) ⟨rfl, rfl⟩) nrSgA0 ?_
                    exact AOps.nil ⟨rfl, rfl, rfl⟩⟩,
                  trivial⟩) ?_
              refine Walk.cases [([false, false], Ob.box (lbx X r3) :: S3, Ob.box (lbx X r3) :: S3), ([true, false], Ob.box (lbx X r3) :: (S3 ++ [Ob.row (X.x true).again.length 5]), Ob.box (lbx X r3) :: (S3 ++ [Ob.row (X.x true).again.length 5]))] (by rfl) (by kernel_rfl) (rs := [6]) (by rfl) nrSgA0 (fun base => ⟨
                  ⟨rfl, rfl, by
                    refine n_move rfl nrSgA0 ?_
                    exact AOps.nil ⟨rfl, rfl, rfl⟩⟩,
                  ⟨rfl, rfl, by
                    refine n_move rfl nrSgA0 ?_
                    exact AOps.nil ⟨rfl, rfl, rfl⟩⟩,
                  trivial⟩) ?_
              refine Walk.cases [([false, false], Ob.box (lbx X r3) :: S3, Ob.box (lbx X r3) :: S3), ([true, false], Ob.box (lbx X r3) :: (S3 ++ [Ob.row (X.x true).again.length 5]), Ob.box (lbx X r3) :: (S3 ++ [Ob.row (X.x true).again.length 5]))] (by rfl) (by kernel_rfl) (rs := [9]) (by rfl) nrSgA0 (fun base => ⟨
                  ⟨rfl, rfl, by
                    refine n_move rfl nrSgA0 ?_
                    exact AOps.nil ⟨rfl, rfl, rfl⟩⟩,
                  ⟨rfl, rfl, by
                    refine n_move rfl nrSgA0 ?_
                    exact AOps.nil ⟨rfl, rfl, rfl⟩⟩,
                  trivial⟩) ?_
              refine Walk.cases [([false, false], Ob.box (lbx X r3) :: S3, Ob.box (lbx X r3) :: S3), ([true, false], Ob.box (lbx X r3) :: (S3 ++ [Ob.row (X.x true).again.length 5]), Ob.box (lbx X r3) :: (S3 ++ [Ob.row (X.x true).again.length 5]))] (by rfl) (by kernel_rfl) (rs := [53]) (by rfl) nrSgA0 (fun base => ⟨
                  ⟨rfl, rfl, by
                    refine n_nilCheck rfl nrSgA0 rfl ?_
                    exact AOps.nil ⟨rfl, rfl, rfl⟩⟩,
                  ⟨rfl, rfl, by
                    refine n_nilCheck rfl nrSgA0 rfl ?_
                    exact AOps.nil ⟨rfl, rfl, rfl⟩⟩,
                  trivial⟩) ?_
              refine Walk.cases [([false, false], Ob.box (lbx X r3) :: S3, Ob.box (lbx X r3) :: S3), ([true, false], Ob.box (lbx X r3) :: (S3 ++ [Ob.row (X.x true).again.length 5]), Ob.box (lbx X r3) :: (S3 ++ [Ob.row (X.x true).again.length 5]))] (by rfl) (by kernel_rfl) (rs := [55]) (by rfl) nrSgA0 (fun base => ⟨
                  ⟨rfl, rfl, by
                    refine n_fieldAddr rfl fd149_0 ti145 rfl nrSgA0 rfl nrSgA0 ?_
                    exact AOps.nil ⟨rfl, rfl, rfl⟩⟩,
                  ⟨rfl, rfl, by
                    refine n_fieldAddr rfl fd149_0 ti145 rfl nrSgA0 rfl nrSgA0 ?_
                    exact AOps.nil ⟨rfl, rfl, rfl⟩⟩,
                  trivial⟩) ?_
              refine Walk.cases [([false, false], Ob.box (lbx X r3) :: S3, Ob.box (lbx X r3) :: S3), ([true, false], Ob.box (lbx X r3) :: (S3 ++ [Ob.row (X.x true).again.length 5]), Ob.box (lbx X r3) :: (S3 ++ [Ob.row (X.x true).again.length 5]))] (by rfl) (by kernel_rfl) (rs := [56, 54]) (by rfl) nrSgA0 (fun base => ⟨
                  ⟨rfl, rfl, by
                    refine n_arrAddr (q := 6) rfl Try.underlying145 ti141 nrSgA0 nrSgA0 (by decide) (by decide) rfl ?_
                    exact AOps.nil ⟨rfl, rfl, rfl⟩⟩,
                  ⟨rfl, rfl, by
                    refine n_arrAddr (q := 6) rfl Try.underlying145 ti141 nrSgA0 nrSgA0 (by decide) (by decide) rfl ?_
                    exact AOps.nil ⟨rfl, rfl, rfl⟩⟩,
                  trivial⟩) ?_
              refine Walk.cases [([false, false], Ob.box (lbx X r3) :: S3, Ob.box (lbx X r3) :: S3), ([true, false], Ob.box (lbx X r3) :: (S3 ++ [Ob.row (X.x true).again.length 5]), Ob.box (lbx X r3) :: (S3 ++ [Ob.row (X.x true).again.length 5]))] (by rfl) (by kernel_rfl) (rs := [57]) (by rfl) nrSgA0 (fun base => ⟨
                  ⟨rfl, rfl, by
                    refine n_load rfl ti141 nrSgA0 nrSgA0 rfl nrSgA0 ?_
                    exact AOps.nil ⟨rfl, rfl, rfl⟩⟩,
                  ⟨rfl, rfl, by
                    refine n_load rfl ti141 nrSgA0 nrSgA0 rfl nrSgA0 ?_
                    exact AOps.nil ⟨rfl, rfl, rfl⟩⟩,
                  trivial⟩) ?_
              refine Walk.cases [([true, false], Ob.box (lbx X r3) :: (S3 ++ [Ob.row (X.x true).again.length 5]), Ob.box (lbx X r3) :: (S3 ++ [Ob.row (X.x true).again.length 5]))] (by rfl) (by kernel_rfl) (rs := [58]) (by rfl) nrSgA0 (fun base => ⟨
                  ⟨rfl, rfl, by
                    refine n_call0B rfl cf112 rfl (Eq.trans (by simp only [nl] <;> rfl) nrSgA0) (by repeat (first | exact .nil | refine .cons ?_ ?_ | exact ren_ints | exact .lf (.val _) | exact .lf (lf_ints (.inl rfl)) | exact .bp ⟨rfl, rfl⟩ | exact .bp (.inl ⟨rfl, rfl⟩) | exact .bp (.inr ⟨rfl, rfl⟩) | exact .lf (lf_fnrp (sqz_lf _)) | exact .lf (.rp (sqz_lf _)) | exact ren_qe | exact .lf (lf_sqz _) | exact .lf (lf_qe (.inl rfl)) | exact ren_sqz rfl | exact ren_sqz0 rfl | exact ren_bys0 rfl | exact .lf (D.flat_lf rfl) | exact ren_lits rfl | exact .lf (lf_ssz _) | exact .lf (lf_pqz _) | exact ren_q0 rfl | exact ren_pq rfl | exact ren_nl0 | exact ren_sq | exact .lf (.fn (fun d h => by cases h) (fun d h => by cases h)))) (hans) lfSgA0 ?_
                    exact AOps.nil ⟨rfl, rfl, rfl⟩⟩,
                  trivial⟩) ?_
              refine Walk.cases [([true, false], Ob.box (lbx X r3) :: (S3 ++ [Ob.row (X.x true).again.length 5]), Ob.box (lbx X r3) :: (S3 ++ [Ob.row (X.x true).again.length 5]))] (by rfl) (by kernel_rfl) (rs := [59]) (by rfl) nrSgA0 (fun base => ⟨
                  ⟨rfl, rfl, by
                    refine n_lit rfl Try.underlying154 ti157 zi157 rfl rfl (Eq.trans (by simp only [nl] <;> rfl) nrSgA0) rfl nrSgA0 ?_
                    exact AOps.nil ⟨rfl, rfl, rfl⟩⟩,
                  trivial⟩) ?_
              refine Walk.cases [([true, false], Ob.box (lbx X r3) :: (S3 ++ [Ob.row (X.x true).again.length 5]), Ob.box (lbx X r3) :: (S3 ++ [Ob.row (ps X true).length 5]))] (by rfl) (by kernel_rfl) (rs := [52, 60]) (by rfl) nrSgA0 (fun base => ⟨
                  ⟨rfl, rfl, by
                    refine n_append_own (zs := ((ps X true).map pqz)) (m := (ps X true).length) (S' := Ob.box (lbx X r3) :: (S3 ++ [Ob.row (ps X true).length 5])) rfl Try.underlying154 Try.underlying154 ei157 nrSgA0 nrSgA0 (by rw [List.length_map]) nrSgA0 (by exact map_one (f := pqz) (fun _ => rfl)) (by exact one_one rfl) (by rw [hps, List.map_append]; rfl) (by rw [hps, List.length_map, List.length_append]; rfl) (by have := ps_len X true; omega) nrSgA0 ?_
                    exact AOps.nil ⟨rfl, rfl, rfl⟩⟩,
                  trivial⟩) ?_
              refine Walk.cases [([true, true], Ob.box (lbx X r3) :: (S3 ++ [Ob.row (ps X true).length 5]), Ob.box (lbx X r3) :: (S3 ++ [Ob.row (ps X true).length 5]))] (by rfl) (by kernel_rfl) (rs := [61]) (by rfl) nrSgA0 (fun base => ⟨
                  ⟨rfl, rfl, by
                    refine n_len rfl Try.underlying154 nrSgA0 (n := ((ps X true).length : Int)) (by rw [List.length_map]) ?_
                    exact AOps.nil ⟨rfl, rfl, rfl⟩⟩,
                  trivial⟩) ?_
              refine Walk.cases [([false, false], Ob.box (lbx X r3) :: S3, Ob.box (lbx X r3) :: S3), ([true, false], Ob.box (lbx X r3) :: (S3 ++ [Ob.row (X.x true).again.length 5]), Ob.box (lbx X r3) :: (S3 ++ [Ob.row (X.x true).again.length 5])), ([true, true], Ob.box (lbx X r3) :: (S3 ++ [Ob.row (ps X true).length 5]), Ob.box (lbx X r3) :: (S3 ++ [Ob.row (ps X true).length 5]))] (by rfl) (by kernel_rfl) (rs := []) (by rfl) nrSgA0 (fun base => ⟨
                  ⟨rfl, rfl, by
                    refine n_move rfl nrSgA0 ?_
                    exact AOps.nil ⟨rfl, rfl, rfl⟩⟩,
                  ⟨rfl, rfl, by
                    refine n_move rfl nrSgA0 ?_
                    exact AOps.nil ⟨rfl, rfl, rfl⟩⟩,
                  ⟨rfl, rfl, by
                    refine n_move rfl nrSgA0 ?_
                    exact AOps.nil ⟨rfl, rfl, rfl⟩⟩,
                  trivial⟩) ?_
              refine Walk.done ?_
              refine AWP.block ?_
              refine AWP.asRo (t := 61) nrSgA0 ?_
              refine AWP.loop (α := Nat × (Nat → Nat) × List Ob) (fun q => q.1 ≤ (ps X true).length ∧ Rw (seg X true q.1) q.2.1 q.2.2) (fun q => put (put (put (put (put (put empty 6 (.bp 0 0)) 9 (vi 1)) 41 (vi (j : Int))) 43 (vi 1)) 61 (.sl none ((ps X true).map pqz) .ro)) 62 (vi ((ps X true).length : Int)) |> (put · 63 (vi (q.1 : Int)))) (fun q => .box (lbx (seg X true q.1) q.2.1) :: q.2.2) (fun q => (ps X true).length - q.1) (0, r3, S3 ++ [Ob.row (ps X true).length 5]) ?_ ?_ ?_ ?_
              · exact ⟨Nat.zero_le _, by rw [seg_zero]; exact hs.app⟩
              · (repeat (first | exact FLe.empty _ | refine FLe.put ?_ ?_)) <;> first | (simp only [nf, nfV, Nat.beq]; done) | rfl | ((try simp only [nf, nfV, Nat.beq]); first | rfl | (simp only [List.length_map]; done) | (congr 2; omega; done))
              · (dsimp only; rw [seg_zero]; rfl)
              · rintro ⟨i, r4, S4⟩ ⟨hi, hs4⟩
                dsimp only at hi hs4 ⊢
                refine AWP.seq ?_
                refine AWP.region ?_
                refine n_ibin rfl nrSgA0 nrSgA0 rfl ?_
                refine AOps.nil ?_
                refine AWP.seq ?_
                refine AWP.cond nrSgA0 (fun hc8 => ?_) (fun hc8 => ?_)
                · try simp only [nh] at hc8
                  obtain ⟨y, hy0⟩ : ∃ y, (ps X true)[i]? = some y := ⟨_, List.getElem?_eq_getElem (by omega)⟩
                  have hyx := map_at pqz hy0
                  have hP := seg_good (by decide) hX true i
                  refine AWP.skip ?_
                  refine AWP.seq ?_
                  refine AWP.block ?_
                  refine AWP.seq ?_
                  refine AWP.region ?_
                  refine n_indexAddr rfl Try.underlying154 ti157 rfl nrSgA0 nrSgA0 (by omega) (by exact hyx) rfl ?_
                  refine n_load rfl ti157 nrSgA0 nrSgA0 rfl nrSgA0 ?_
                  refine n_alloc rfl zi157 rfl nrSgA0 nrSgA0 ?_
                  refine n_store ti157 nrSgA0 nrSgA0 nrSgA0 rfl nrSgA0 rfl rfl rfl nrSgA0 ?_
                  refine AOps.nil ?_
                  refine AWP.region ?_
                  refine n_move rfl nrSgA0 ?_
                  refine n_move rfl nrSgA0 ?_
                  refine n_isub (c := 0) rfl nrSgA0 nrSgA0 (by decide) (by decide) (by decide) ?_
                  refine n_load rfl ti157 nrSgA0 nrSgA0 rfl nrSgA0 ?_
                  refine n_build rfl si161 (Eq.trans (by simp only [nl] <;> rfl) nrSgA0) (Eq.trans (by simp only [nl] <;> rfl) nrSgA0) rfl ?_
                  refine op_callK (dst := some 72) rfl cf113 rfl (Eq.trans (by simp only [nl] <;> rfl) nrSgA0) (takes_any (seg X true i) r4 _ hs4.app (hP.1.gd (by decide)) ⟨false, y⟩ (hP.2 y (List.mem_of_getElem? hy0)) _ (fun r5 S5 h5 => ?_))
                  refine AOps.nil ?_
                  refine AWP.region ?_
                  first | refine n_iadd rfl nrSgA0 nrSgA0 rfl (by omega) (by omega) ?_ | refine n_ibin rfl nrSgA0 nrSgA0 rfl ?_
                  refine n_move rfl nrSgA0 ?_
                  refine AOps.nil ?_
                  refine ⟨(i + 1, r5, S5), ⟨by omega, by rw [seg_succ hy0]; exact h5⟩, ?_, by dsimp only; rw [seg_succ hy0]; rfl, by omega⟩
                  (repeat (first | exact FLe.empty _ | refine FLe.put ?_ ?_)) <;> first | (simp only [nf, nfV, Nat.beq]; done) | rfl | ((try simp only [nf, nfV, Nat.beq]); first | rfl | (simp only [List.length_map]; done) | (congr 2; omega; done))
                · try simp only [nh] at hc8
                  obtain rfl : i = (ps X true).length := by omega
                  rw [seg_end] at *
                  refine AWP.exit ?_
                  refine AWP.region ?_
                  first | refine n_iadd rfl nrSgA0 nrSgA0 rfl (by omega) (by omega) ?_ | refine n_ibin rfl nrSgA0 nrSgA0 rfl ?_
                  refine n_move rfl nrSgA0 ?_
                  refine AOps.nil ?_
                  refine ⟨(2, r4, S4), ⟨by omega, by rw [half_two hXe]; exact hs4⟩, ?_, by dsimp only; rw [half_two hXe], by omega⟩
                  (repeat (first | exact FLe.empty _ | refine FLe.put ?_ ?_)) <;> first | (simp only [nf, nfV, Nat.beq]; done) | rfl | ((try simp only [nf, nfV, Nat.beq]); first | rfl | (simp only [List.length_map]; done) | (congr 2; omega; done))
            · refine AWP.seq ?_
              refine AWP.region ?_
              refine n_ibin rfl nrSgA0 nrSgA0 rfl ?_
              refine AOps.nil ?_
              refine AWP.seq ?_
              refine AWP.cond_false nrSgA0 ?_
              refine AWP.exit ?_
              refine AWP.region ?_
              first | refine n_iadd rfl nrSgA0 nrSgA0 rfl (by omega) (by omega) ?_ | refine n_ibin rfl nrSgA0 nrSgA0 rfl ?_
              refine n_move rfl nrSgA0 ?_
              refine AOps.nil ?_
              refine ⟨(j + 1, r3, S3), ⟨by omega, by rw [rnd_succ]; exact hs⟩, ?_, by dsimp only; rw [rnd_succ], by omega⟩
              (repeat (first | exact FLe.empty _ | refine FLe.put ?_ ?_)) <;> first | (simp only [nf, nfV, Nat.beq]; done) | rfl | ((try simp only [nf, nfV, Nat.beq]); first | rfl | (simp only [List.length_map]; done) | (congr 2; omega; done))
        · try simp only [nh] at hc4
          obtain rfl : j = 2 := by omega
          refine AWP.exit ?_
          refine AWP.seq ?_
          refine AWP.seq ?_
          refine AWP.region ?_
          refine n_move rfl nrSgA0 ?_
          refine AOps.nil ?_
          refine AWP.block ?_
          refine AWP.loop (α := Nat × (Nat → Nat) × List Ob) (fun q => q.1 ≤ 2 ∧ Rw (ansr (rnd l 2) q.1) q.2.1 q.2.2) (fun q => put (put empty 6 (.bp 0 0)) 76 (vi (q.1 : Int))) (fun q => .box (lbx (ansr (rnd l 2) q.1) q.2.1) :: q.2.2) (fun q => 2 - q.1) (0, r2, S2) ?_ ?_ ?_ ?_
          · exact ⟨Nat.zero_le _, by unfold ansr; exact hs2⟩
          · (repeat (first | exact FLe.empty _ | refine FLe.put ?_ ?_)) <;> first | (simp only [nf, nfV, Nat.beq]; done) | rfl | ((try simp only [nf, nfV, Nat.beq]); first | rfl | (simp only [List.length_map]; done) | (congr 2; omega; done))
          · unfold ansr; rfl
          · rintro ⟨q, r3, S3⟩ ⟨hq, hs⟩
            dsimp only at hq hs ⊢
            obtain rfl | rfl | rfl : q = 0 ∨ q = 1 ∨ q = 2 := by omega
            · have hX := ansr_inv (by decide) (rnd_inv (by decide) hI0 2) 0
              generalize hXe : ansr (rnd l 2) 0 = X at hs hX ⊢
              have hok := hX.ok (by decide) false
              have hans := l_answerQ (X.x false) hok
              have hps : ps X false = (X.x false).again ++ [(X.x false).pk 0 []] := by unfold ps; rfl
              have hm16 := hok.m
              have hal := (X.x false).again_len
              have hpl := ps_len X false
              refine AWP.seq ?_
              refine AWP.region ?_
              refine n_ibin rfl nrSgA0 nrSgA0 rfl ?_
              refine AOps.nil ?_
              refine AWP.seq ?_
              refine AWP.cond_true nrSgA0 ?_
              refine AWP.skip ?_
              refine AWP.seq ?_
              refine AWP.block ?_
              refine AWP.seq ?_
              refine AWP.region ?_
              refine n_move rfl nrSgA0 ?_
              refine n_assign rfl nrSgA0 ?_
              refine AOps.nil ?_
              refine AWP.region ?_
              refine n_move rfl nrSgA0 ?_
              refine n_move rfl nrSgA0 ?_
              refine n_isub (c := 1) rfl nrSgA0 nrSgA0 (by decide) (by decide) (by decide) ?_
              refine n_move rfl nrSgA0 ?_
              refine n_move rfl nrSgA0 ?_
              refine n_nilCheck rfl nrSgA0 rfl ?_
              refine n_fieldAddr rfl fd149_0 ti145 rfl nrSgA0 rfl nrSgA0 ?_
              refine n_arrAddr (q := 0) rfl Try.underlying145 ti141 nrSgA0 nrSgA0 (by decide) (by decide) rfl ?_
              refine n_load rfl ti141 nrSgA0 nrSgA0 rfl nrSgA0 ?_
              refine n_call0B rfl cf112 rfl (Eq.trans (by simp only [nl] <;> rfl) nrSgA0) (by repeat (first | exact .nil | refine .cons ?_ ?_ | exact ren_ints | exact .lf (.val _) | exact .lf (lf_ints (.inl rfl)) | exact .bp ⟨rfl, rfl⟩ | exact .bp (.inl ⟨rfl, rfl⟩) | exact .bp (.inr ⟨rfl, rfl⟩) | exact .lf (lf_fnrp (sqz_lf _)) | exact .lf (.rp (sqz_lf _)) | exact ren_qe | exact .lf (lf_sqz _) | exact .lf (lf_qe (.inl rfl)) | exact ren_sqz rfl | exact ren_sqz0 rfl | exact ren_bys0 rfl | exact .lf (D.flat_lf rfl) | exact ren_lits rfl | exact .lf (lf_ssz _) | exact .lf (lf_pqz _) | exact ren_q0 rfl | exact ren_pq rfl | exact ren_nl0 | exact ren_sq | exact .lf (.fn (fun d h => by cases h) (fun d h => by cases h)))) (hans) lfSgA0 ?_
              refine n_build rfl si161 (Eq.trans (by simp only [nl] <;> rfl) nrSgA0) (Eq.trans (by simp only [nl] <;> rfl) nrSgA0) rfl ?_
              refine op_callK (dst := some 90) rfl cf113 rfl (Eq.trans (by simp only [nl] <;> rfl) nrSgA0) (takes_any X r3 _ hs (hX.gd (by decide)) ⟨true, (X.x false).pk 0 []⟩ (answer_chk (by decide) hX false) _ (fun r5 S5 h5 => ?_))
              refine AOps.nil ?_
              refine AWP.region ?_
              first | refine n_iadd rfl nrSgA0 nrSgA0 rfl (by omega) (by omega) ?_ | refine n_ibin rfl nrSgA0 nrSgA0 rfl ?_
              refine n_move rfl nrSgA0 ?_
              refine AOps.nil ?_
              refine ⟨(1, r5, S5), ⟨by omega, by rw [ansr_one hXe]; exact h5⟩, ?_, by dsimp only; rw [ansr_one hXe], by omega⟩
              (repeat (first | exact FLe.empty _ | refine FLe.put ?_ ?_)) <;> first | (simp only [nf, nfV, Nat.beq]; done) | rfl | ((try simp only [nf, nfV, Nat.beq]); first | rfl | (simp only [List.length_map]; done) | (congr 2; omega; done))
            · have hX := ansr_inv (by decide) (rnd_inv (by decide) hI0 2) 1
              generalize hXe : ansr (rnd l 2) 1 = X at hs hX ⊢
              have hok := hX.ok (by decide) true
              have hans := l_answerQ (X.x true) hok
              have hps : ps X true = (X.x true).again ++ [(X.x true).pk 0 []] := by unfold ps; rfl
              have hm16 := hok.m
              have hal := (X.x true).again_len
              have hpl := ps_len X true
              refine AWP.seq ?_
              refine AWP.region ?_
              refine n_ibin rfl nrSgA0 nrSgA0 rfl ?_
              refine AOps.nil ?_
              refine AWP.seq ?_
              refine AWP.cond_true nrSgA0 ?_
              refine AWP.skip ?_
              refine AWP.seq ?_
              refine AWP.block ?_
              refine AWP.seq ?_
              refine AWP.region ?_
              refine n_move rfl nrSgA0 ?_
              refine n_assign rfl nrSgA0 ?_
              refine AOps.nil ?_
              refine AWP.region ?_
              refine n_move rfl nrSgA0 ?_
              refine n_move rfl nrSgA0 ?_
              refine n_isub (c := 0) rfl nrSgA0 nrSgA0 (by decide) (by decide) (by decide) ?_
              refine n_move rfl nrSgA0 ?_
              refine n_move rfl nrSgA0 ?_
              refine n_nilCheck rfl nrSgA0 rfl ?_
              refine n_fieldAddr rfl fd149_0 ti145 rfl nrSgA0 rfl nrSgA0 ?_
              refine n_arrAddr (q := 6) rfl Try.underlying145 ti141 nrSgA0 nrSgA0 (by decide) (by decide) rfl ?_
              refine n_load rfl ti141 nrSgA0 nrSgA0 rfl nrSgA0 ?_
              refine n_call0B rfl cf112 rfl (Eq.trans (by simp only [nl] <;> rfl) nrSgA0) (by repeat (first | exact .nil | refine .cons ?_ ?_ | exact ren_ints | exact .lf (.val _) | exact .lf (lf_ints (.inl rfl)) | exact .bp ⟨rfl, rfl⟩ | exact .bp (.inl ⟨rfl, rfl⟩) | exact .bp (.inr ⟨rfl, rfl⟩) | exact .lf (lf_fnrp (sqz_lf _)) | exact .lf (.rp (sqz_lf _)) | exact ren_qe | exact .lf (lf_sqz _) | exact .lf (lf_qe (.inl rfl)) | exact ren_sqz rfl | exact ren_sqz0 rfl | exact ren_bys0 rfl | exact .lf (D.flat_lf rfl) | exact ren_lits rfl | exact .lf (lf_ssz _) | exact .lf (lf_pqz _) | exact ren_q0 rfl | exact ren_pq rfl | exact ren_nl0 | exact ren_sq | exact .lf (.fn (fun d h => by cases h) (fun d h => by cases h)))) (hans) lfSgA0 ?_
              refine n_build rfl si161 (Eq.trans (by simp only [nl] <;> rfl) nrSgA0) (Eq.trans (by simp only [nl] <;> rfl) nrSgA0) rfl ?_
              refine op_callK (dst := some 90) rfl cf113 rfl (Eq.trans (by simp only [nl] <;> rfl) nrSgA0) (takes_any X r3 _ hs (hX.gd (by decide)) ⟨false, (X.x true).pk 0 []⟩ (answer_chk (by decide) hX true) _ (fun r5 S5 h5 => ?_))
              refine AOps.nil ?_
              refine AWP.region ?_
              first | refine n_iadd rfl nrSgA0 nrSgA0 rfl (by omega) (by omega) ?_ | refine n_ibin rfl nrSgA0 nrSgA0 rfl ?_
              refine n_move rfl nrSgA0 ?_
              refine AOps.nil ?_
              refine ⟨(2, r5, S5), ⟨by omega, by rw [ansr_two hXe]; exact h5⟩, ?_, by dsimp only; rw [ansr_two hXe], by omega⟩
              (repeat (first | exact FLe.empty _ | refine FLe.put ?_ ?_)) <;> first | (simp only [nf, nfV, Nat.beq]; done) | rfl | ((try simp only [nf, nfV, Nat.beq]); first | rfl | (simp only [List.length_map]; done) | (congr 2; omega; done))
            · have hX := ansr_inv (by decide) (rnd_inv (by decide) hI0 2) 2
              obtain ⟨hc0, hq0⟩ := comes_end (by decide) hI0 false
              obtain ⟨hc1, hq1⟩ := comes_end (by decide) hI0 true
              have hBs := comes_byt (by decide) hI0 hB
              generalize ansr (rnd l 2) 2 = X at hs hX hc0 hc1 hq0 hq1 hBs ⊢
              have hb0 := b_equal _ _ (hX.byt hBs false) (hBs false)
              have hb1 := b_equal _ _ (hX.byt hBs true) (hBs true)
              rw [decide_eq_true hc0] at hb0
              rw [decide_eq_true hc1] at hb1
              refine AWP.seq ?_
              refine AWP.region ?_
              refine n_ibin rfl nrSgA0 nrSgA0 rfl ?_
              refine AOps.nil ?_
              refine AWP.seq ?_
              refine AWP.cond_false nrSgA0 ?_
              refine AWP.exit ?_
              refine AWP.seq ?_
              refine AWP.anyStill (by kernel_rfl) (by kernel_rfl) ?_
              refine Walk.still (rs := [6]) (by rfl) nrSgA0 (fun base => by
                  refine n_move rfl nrSgA0 ?_
                  exact AOps.nil ⟨rfl, rfl, rfl⟩) ?_
              refine Walk.still (rs := [92]) (by rfl) nrSgA0 (fun base => by
                  refine n_nilCheck rfl nrSgA0 rfl ?_
                  exact AOps.nil ⟨rfl, rfl, rfl⟩) ?_
              refine Walk.still (rs := [93]) (by rfl) nrSgA0 (fun base => by
                  refine n_fieldAddr rfl fd149_3 ti147 rfl nrSgA0 rfl nrSgA0 ?_
                  exact AOps.nil ⟨rfl, rfl, rfl⟩) ?_
              refine Walk.still (rs := [94]) (by rfl) nrSgA0 (fun base => by
                  refine n_arrAddr (q := 15) rfl Try.underlying147 ti22 nrSgA0 nrSgA0 (by decide) (by decide) rfl ?_
                  exact AOps.nil ⟨rfl, rfl, rfl⟩) ?_
              refine Walk.still (rs := [95]) (by rfl) nrSgA0 (fun base => by
                  refine n_load rfl ti22 nrSgA0 nrSgA0 rfl nrSgA0 ?_
                  exact AOps.nil ⟨rfl, rfl, rfl⟩) ?_
              refine Walk.still (rs := [6]) (by rfl) nrSgA0 (fun base => by
                  refine n_move rfl nrSgA0 ?_
                  exact AOps.nil ⟨rfl, rfl, rfl⟩) ?_
              refine Walk.still (rs := [97]) (by rfl) nrSgA0 (fun base => by
                  refine n_nilCheck rfl nrSgA0 rfl ?_
                  exact AOps.nil ⟨rfl, rfl, rfl⟩) ?_
              refine Walk.still (rs := [98]) (by rfl) nrSgA0 (fun base => by
                  refine n_fieldAddr rfl fd149_2 ti147 rfl nrSgA0 rfl nrSgA0 ?_
                  exact AOps.nil ⟨rfl, rfl, rfl⟩) ?_
              refine Walk.still (rs := [99]) (by rfl) nrSgA0 (fun base => by
                  refine n_arrAddr (q := 13) rfl Try.underlying147 ti22 nrSgA0 nrSgA0 (by decide) (by decide) rfl ?_
                  exact AOps.nil ⟨rfl, rfl, rfl⟩) ?_
              refine Walk.still (rs := [100]) (by rfl) nrSgA0 (fun base => by
                  refine n_load rfl ti22 nrSgA0 nrSgA0 rfl nrSgA0 ?_
                  exact AOps.nil ⟨rfl, rfl, rfl⟩) ?_
              refine Walk.still (rs := [96, 101]) (by rfl) nrSgA0 (fun base => by
                  refine n_call0B rfl cf40 rfl (Eq.trans (by simp only [nl] <;> rfl) nrSgA0) (by repeat (first | exact .nil | refine .cons ?_ ?_ | exact ren_ints | exact .lf (.val _) | exact .lf (lf_ints (.inl rfl)) | exact .bp ⟨rfl, rfl⟩ | exact .bp (.inl ⟨rfl, rfl⟩) | exact .bp (.inr ⟨rfl, rfl⟩) | exact .lf (lf_fnrp (sqz_lf _)) | exact .lf (.rp (sqz_lf _)) | exact ren_qe | exact .lf (lf_sqz _) | exact .lf (lf_qe (.inl rfl)) | exact ren_sqz rfl | exact ren_sqz0 rfl | exact ren_bys0 rfl | exact .lf (D.flat_lf rfl) | exact ren_lits rfl | exact .lf (lf_ssz _) | exact .lf (lf_pqz _) | exact ren_q0 rfl | exact ren_pq rfl | exact ren_nl0 | exact ren_sq | exact .lf (.fn (fun d h => by cases h) (fun d h => by cases h)))) (hb0) lfSgA0 ?_
                  exact AOps.nil ⟨rfl, rfl, rfl⟩) ?_
              refine Walk.still (rs := [102]) (by rfl) nrSgA0 (fun base => by
                  refine n_move rfl nrSgA0 ?_
                  exact AOps.nil ⟨rfl, rfl, rfl⟩) ?_
              refine Walk.still (rs := [6, 103]) (by rfl) nrSgA0 (fun base => by
                  refine n_guard_yes rfl rfl rfl nrSgA0 rfl ?_
                  refine n_move rfl nrSgA0 ?_
                  exact AOps.nil ⟨rfl, rfl, rfl⟩) ?_
              refine Walk.still (rs := [104, 103]) (by rfl) nrSgA0 (fun base => by
                  refine n_guard_yes rfl rfl rfl nrSgA0 rfl ?_
                  refine n_nilCheck rfl nrSgA0 rfl ?_
                  exact AOps.nil ⟨rfl, rfl, rfl⟩) ?_
              refine Walk.still (rs := [105, 103]) (by rfl) nrSgA0 (fun base => by
                  refine n_guard_yes rfl rfl rfl nrSgA0 rfl ?_
                  refine n_fieldAddr rfl fd149_3 ti147 rfl nrSgA0 rfl nrSgA0 ?_
                  exact AOps.nil ⟨rfl, rfl, rfl⟩) ?_
              refine Walk.still (rs := [106, 103]) (by rfl) nrSgA0 (fun base => by
                  refine n_guard_yes rfl rfl rfl nrSgA0 rfl ?_
                  refine n_arrAddr (q := 16) rfl Try.underlying147 ti22 nrSgA0 nrSgA0 (by decide) (by decide) rfl ?_
                  exact AOps.nil ⟨rfl, rfl, rfl⟩) ?_
              refine Walk.still (rs := [107, 103]) (by rfl) nrSgA0 (fun base => by
                  refine n_guard_yes rfl rfl rfl nrSgA0 rfl ?_
                  refine n_load rfl ti22 nrSgA0 nrSgA0 rfl nrSgA0 ?_
                  exact AOps.nil ⟨rfl, rfl, rfl⟩) ?_
              refine Walk.still (rs := [6, 103]) (by rfl) nrSgA0 (fun base => by
                  refine n_guard_yes rfl rfl rfl nrSgA0 rfl ?_
                  refine n_move rfl nrSgA0 ?_
                  exact AOps.nil ⟨rfl, rfl, rfl⟩) ?_
              refine Walk.still (rs := [109, 103]) (by rfl) nrSgA0 (fun base => by
                  refine n_guard_yes rfl rfl rfl nrSgA0 rfl ?_
                  refine n_nilCheck rfl nrSgA0 rfl ?_
                  exact AOps.nil ⟨rfl, rfl, rfl⟩) ?_
              refine Walk.still (rs := [110, 103]) (by rfl) nrSgA0 (fun base => by
                  refine n_guard_yes rfl rfl rfl nrSgA0 rfl ?_
                  refine n_fieldAddr rfl fd149_2 ti147 rfl nrSgA0 rfl nrSgA0 ?_
                  exact AOps.nil ⟨rfl, rfl, rfl⟩) ?_
              refine Walk.still (rs := [111, 103]) (by rfl) nrSgA0 (fun base => by
                  refine n_guard_yes rfl rfl rfl nrSgA0 rfl ?_
                  refine n_arrAddr (q := 14) rfl Try.underlying147 ti22 nrSgA0 nrSgA0 (by decide) (by decide) rfl ?_
                  exact AOps.nil ⟨rfl, rfl, rfl⟩) ?_
              refine Walk.still (rs := [112, 103]) (by rfl) nrSgA0 (fun base => by
                  refine n_guard_yes rfl rfl rfl nrSgA0 rfl ?_
                  refine n_load rfl ti22 nrSgA0 nrSgA0 rfl nrSgA0 ?_
                  exact AOps.nil ⟨rfl, rfl, rfl⟩) ?_
              refine Walk.still (rs := [108, 113, 103]) (by rfl) nrSgA0 (fun base => by
                  refine n_guard_yes rfl rfl rfl nrSgA0 rfl ?_
                  refine n_call0B rfl cf40 rfl (Eq.trans (by simp only [nl] <;> rfl) nrSgA0) (by repeat (first | exact .nil | refine .cons ?_ ?_ | exact ren_ints | exact .lf (.val _) | exact .lf (lf_ints (.inl rfl)) | exact .bp ⟨rfl, rfl⟩ | exact .bp (.inl ⟨rfl, rfl⟩) | exact .bp (.inr ⟨rfl, rfl⟩) | exact .lf (lf_fnrp (sqz_lf _)) | exact .lf (.rp (sqz_lf _)) | exact ren_qe | exact .lf (lf_sqz _) | exact .lf (lf_qe (.inl rfl)) | exact ren_sqz rfl | exact ren_sqz0 rfl | exact ren_bys0 rfl | exact .lf (D.flat_lf rfl) | exact ren_lits rfl | exact .lf (lf_ssz _) | exact .lf (lf_pqz _) | exact ren_q0 rfl | exact ren_pq rfl | exact ren_nl0 | exact ren_sq | exact .lf (.fn (fun d h => by cases h) (fun d h => by cases h)))) (hb1) lfSgA0 ?_
                  exact AOps.nil ⟨rfl, rfl, rfl⟩) ?_
              refine Walk.still (rs := [103, 114]) (by rfl) nrSgA0 (fun base => by
                  refine n_pick rfl nrSgA0 nrSgA0 ?_
                  exact AOps.nil ⟨rfl, rfl, rfl⟩) ?_
              refine Walk.still (rs := [115]) (by rfl) nrSgA0 (fun base => by
                  refine n_move rfl nrSgA0 ?_
                  exact AOps.nil ⟨rfl, rfl, rfl⟩) ?_
              refine Walk.still (rs := [6, 116]) (by rfl) nrSgA0 (fun base => by
                  refine n_guard_yes rfl rfl rfl nrSgA0 rfl ?_
                  refine n_move rfl nrSgA0 ?_
                  exact AOps.nil ⟨rfl, rfl, rfl⟩) ?_
              refine Walk.still (rs := [117, 116]) (by rfl) nrSgA0 (fun base => by
                  refine n_guard_yes rfl rfl rfl nrSgA0 rfl ?_
                  refine n_nilCheck rfl nrSgA0 rfl ?_
                  exact AOps.nil ⟨rfl, rfl, rfl⟩) ?_
              refine Walk.still (rs := [118, 116]) (by rfl) nrSgA0 (fun base => by
                  refine n_guard_yes rfl rfl rfl nrSgA0 rfl ?_
                  refine n_fieldAddr rfl fd149_0 ti145 rfl nrSgA0 rfl nrSgA0 ?_
                  exact AOps.nil ⟨rfl, rfl, rfl⟩) ?_
              refine Walk.still (rs := [119, 116]) (by rfl) nrSgA0 (fun base => by
                  refine n_guard_yes rfl rfl rfl nrSgA0 rfl ?_
                  refine n_arrAddr (q := 0) rfl Try.underlying145 ti141 nrSgA0 nrSgA0 (by decide) (by decide) rfl ?_
                  exact AOps.nil ⟨rfl, rfl, rfl⟩) ?_
              refine Walk.still (rs := [120, 116]) (by rfl) nrSgA0 (fun base => by
                  refine n_guard_yes rfl rfl rfl nrSgA0 rfl ?_
                  refine n_fieldAddr rfl fd141_5 ti139 rfl nrSgA0 rfl nrSgA0 ?_
                  exact AOps.nil ⟨rfl, rfl, rfl⟩) ?_
              refine Walk.still (rs := [121, 116]) (by rfl) nrSgA0 (fun base => by
                  refine n_guard_yes rfl rfl rfl nrSgA0 rfl ?_
                  refine n_load rfl ti139 nrSgA0 nrSgA0 rfl nrSgA0 ?_
                  exact AOps.nil ⟨rfl, rfl, rfl⟩) ?_
              refine Walk.still (rs := [122, 116]) (by rfl) nrSgA0 (fun base => by
                  refine n_guard_yes rfl rfl rfl nrSgA0 rfl ?_
                  refine n_len rfl Try.underlying139 nrSgA0 (n := 0) (by rw [hq0]; rfl) ?_
                  exact AOps.nil ⟨rfl, rfl, rfl⟩) ?_
              refine Walk.still (rs := [123, 116]) (by rfl) nrSgA0 (fun base => by
                  refine n_guard_yes rfl rfl rfl nrSgA0 rfl ?_
                  refine n_ibin rfl nrSgA0 nrSgA0 rfl ?_
                  exact AOps.nil ⟨rfl, rfl, rfl⟩) ?_
              refine Walk.still (rs := [116, 124]) (by rfl) nrSgA0 (fun base => by
                  refine n_pick rfl nrSgA0 nrSgA0 ?_
                  exact AOps.nil ⟨rfl, rfl, rfl⟩) ?_
              refine Walk.still (rs := [125]) (by rfl) nrSgA0 (fun base => by
                  refine n_move rfl nrSgA0 ?_
                  exact AOps.nil ⟨rfl, rfl, rfl⟩) ?_
              refine Walk.still (rs := [6, 126]) (by rfl) nrSgA0 (fun base => by
                  refine n_guard_yes rfl rfl rfl nrSgA0 rfl ?_
                  refine n_move rfl nrSgA0 ?_
                  exact AOps.nil ⟨rfl, rfl, rfl⟩) ?_
              refine Walk.still (rs := [127, 126]) (by rfl) nrSgA0 (fun base => by
                  refine n_guard_yes rfl rfl rfl nrSgA0 rfl ?_
                  refine n_nilCheck rfl nrSgA0 rfl ?_
                  exact AOps.nil ⟨rfl, rfl, rfl⟩) ?_
              refine Walk.still (rs := [128, 126]) (by rfl) nrSgA0 (fun base => by
                  refine n_guard_yes rfl rfl rfl nrSgA0 rfl ?_
                  refine n_fieldAddr rfl fd149_0 ti145 rfl nrSgA0 rfl nrSgA0 ?_
                  exact AOps.nil ⟨rfl, rfl, rfl⟩) ?_
              refine Walk.still (rs := [129, 126]) (by rfl) nrSgA0 (fun base => by
                  refine n_guard_yes rfl rfl rfl nrSgA0 rfl ?_
                  refine n_arrAddr (q := 6) rfl Try.underlying145 ti141 nrSgA0 nrSgA0 (by decide) (by decide) rfl ?_
                  exact AOps.nil ⟨rfl, rfl, rfl⟩) ?_
              refine Walk.still (rs := [130, 126]) (by rfl) nrSgA0 (fun base => by
                  refine n_guard_yes rfl rfl rfl nrSgA0 rfl ?_
                  refine n_fieldAddr rfl fd141_5 ti139 rfl nrSgA0 rfl nrSgA0 ?_
                  exact AOps.nil ⟨rfl, rfl, rfl⟩) ?_
              refine Walk.still (rs := [131, 126]) (by rfl) nrSgA0 (fun base => by
                  refine n_guard_yes rfl rfl rfl nrSgA0 rfl ?_
                  refine n_load rfl ti139 nrSgA0 nrSgA0 rfl nrSgA0 ?_
                  exact AOps.nil ⟨rfl, rfl, rfl⟩) ?_
              refine Walk.still (rs := [132, 126]) (by rfl) nrSgA0 (fun base => by
                  refine n_guard_yes rfl rfl rfl nrSgA0 rfl ?_
                  refine n_len rfl Try.underlying139 nrSgA0 (n := 0) (by rw [hq1]; rfl) ?_
                  exact AOps.nil ⟨rfl, rfl, rfl⟩) ?_
              refine Walk.still (rs := [133, 126]) (by rfl) nrSgA0 (fun base => by
                  refine n_guard_yes rfl rfl rfl nrSgA0 rfl ?_
                  refine n_ibin rfl nrSgA0 nrSgA0 rfl ?_
                  exact AOps.nil ⟨rfl, rfl, rfl⟩) ?_
              refine Walk.still (rs := [126, 134]) (by rfl) nrSgA0 (fun base => by
                  refine n_pick rfl nrSgA0 nrSgA0 ?_
                  exact AOps.nil ⟨rfl, rfl, rfl⟩) ?_
              refine Walk.still (rs := [135]) (by rfl) nrSgA0 (fun base => by
                  refine n_assign rfl nrSgA0 ?_
                  exact AOps.nil ⟨rfl, rfl, rfl⟩) ?_
              refine Walk.done ?_
              refine AWP.ret ?_
              refine fin_pure (.cons (rv_tmp nrSgA0) .nil) nrSgA0 ?_
              first | exact ren_flat rfl rfl | exact ren_flat rfl (congrArg vb (by simp))

end Go.Proofs.Ytanfmpkjcoolmaa.Sg
