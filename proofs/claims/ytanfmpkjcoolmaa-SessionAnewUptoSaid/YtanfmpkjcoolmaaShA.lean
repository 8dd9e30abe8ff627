/- Started anew. -/
import Derived.Test.YtanfmpkjcoolmaaSfA
import Derived.Test.YtanfmpkjcoolmaaAbsZu
set_option linter.unusedVariables false
set_option linter.unusedSimpArgs false
namespace Go.Proofs.Ytanfmpkjcoolmaa.Sh
open Go Go.Abs Go.Abs.Tb Go.Proofs.Ytanfmpkjcoolmaa.Pk Sb Sc Sd Se Go.Abs.Se
attribute [local irreducible] AWP AOps Does

theorem nrShA0 {α : Type} {a b : α} (h : a = b := by first|simp only[nf,nfV,Nat.beq]<;>rfl|rfl) : a = b := h
theorem lfShA0 {d : D} (h : LF d := by first | exact .val _ | exact lf_ints (.inl rfl) | exact lf_ints (.inr rfl) | exact .any | exact lf_taken | exact lf_sentQ | exact lf_mapG pqz_lf (.inl rfl) | exact lf_fnrp (sqz_lf _) | exact lf_sqz _ | exact lf_qe (.inl rfl) | exact .agg (lf_cons (.val _) (lf_cons (.val _) (lf_cons (.val _) (lf_cons (.val _) (lf_cons (.val _) (lf_cons (lf_qe (.inl rfl)) lf_nil)))))) | exact D.flat_lf rfl | exact lf_ssz _ | exact lf_pqz _ | exact lf_nl0 | exact .tup (lf_cons (lf_ssz _) (lf_cons (.val _) lf_nil)) | exact .tup (lf_cons (lf_pqz _) (lf_cons (.val _) lf_nil)) | exact .tup (lf_cons (lf_ints (.inl rfl)) (lf_cons (.val _) lf_nil)) | exact .tup (lf_cons (lf_ssz _) (lf_cons (lf_ints (.inl rfl)) (lf_cons (.val _) lf_nil))) | exact .tup (lf_cons (lf_ssz _) (lf_cons (lf_ssz _) (lf_cons (.val _) lf_nil))) | exact lf_sent) : LF d := h
theorem cf108 : CF Try.prog 108 := ⟨_, Try.func108, by kernel_rfl, by kernel_rfl⟩
theorem cf109 : CF Try.prog 109 := ⟨_, Try.func109, by kernel_rfl, by kernel_rfl⟩
theorem cf110 : CF Try.prog 110 := ⟨_, Try.func110, by kernel_rfl, by kernel_rfl⟩
theorem cf112 : CF Try.prog 112 := ⟨_, Try.func112, by kernel_rfl, by kernel_rfl⟩
theorem cf113 : CF Try.prog 113 := ⟨_, Try.func113, by kernel_rfl, by kernel_rfl⟩
theorem cf114 : CF Try.prog 114 := ⟨_, Try.func114, by kernel_rfl, by kernel_rfl⟩
theorem cf40 : CF Try.prog 40 := ⟨_, Try.func40, by kernel_rfl, by kernel_rfl⟩
theorem fd149_0 : FD Try.prog 149 0 145 0 := ⟨_, _, Try.underlying149, rfl, rfl, rfl⟩
theorem fd149_1 : FD Try.prog 149 1 146 12 := ⟨_, _, Try.underlying149, rfl, rfl, rfl⟩
theorem fd149_2 : FD Try.prog 149 2 147 13 := ⟨_, _, Try.underlying149, rfl, rfl, rfl⟩
theorem fd149_3 : FD Try.prog 149 3 147 15 := ⟨_, _, Try.underlying149, rfl, rfl, rfl⟩
theorem si149 : SI Try.prog 149 #[(0, 12), (12, 1), (13, 2), (15, 2)] (.agg #[.int .i64 0, .int .i64 0, .int .i64 0, .int .i64 0, .int .i64 0, .slice none 0 0, .int .i64 0, .int .i64 0, .int .i64 0, .int .i64 0, .int .i64 0, .slice none 0 0, .slice none 0 0, .slice none 0 0, .slice none 0 0, .slice none 0 0, .slice none 0 0]) := ⟨⟨_, Try.underlying149, fun w => by kernel_rfl⟩, by kernel_rfl⟩
theorem si161 : SI Try.prog 161 #[(0, 1), (1, 5)] (.agg #[.int .i64 0, .int .i64 0, .int .i64 0, .int .i64 0, .int .i64 0, .slice none 0 0]) := ⟨⟨_, Try.underlying161, fun w => by kernel_rfl⟩, by kernel_rfl⟩
theorem ti141 : TI Try.prog 141 6 true := ⟨by kernel_rfl, by kernel_rfl⟩
theorem ti145 : TI Try.prog 145 12 true := ⟨by kernel_rfl, by kernel_rfl⟩
theorem ti146 : TI Try.prog 146 1 false := ⟨by kernel_rfl, by kernel_rfl⟩
theorem ti147 : TI Try.prog 147 2 true := ⟨by kernel_rfl, by kernel_rfl⟩
theorem ti151 : TI Try.prog 151 4 true := ⟨by kernel_rfl, by kernel_rfl⟩
theorem ti161 : TI Try.prog 161 6 true := ⟨by kernel_rfl, by kernel_rfl⟩
theorem ti22 : TI Try.prog 22 1 false := ⟨by kernel_rfl, by kernel_rfl⟩
theorem ti5 : TI Try.prog 5 1 false := ⟨by kernel_rfl, by kernel_rfl⟩
theorem zi141 : (Try.prog.info? 141).map (·.zero) = some (some (.agg #[.int .i64 0, .int .i64 0, .int .i64 0, .int .i64 0, .int .i64 0, .slice none 0 0])) := by kernel_rfl
theorem zi145 : (Try.prog.info? 145).map (·.zero) = some (some (.agg #[.int .i64 0, .int .i64 0, .int .i64 0, .int .i64 0, .int .i64 0, .slice none 0 0, .int .i64 0, .int .i64 0, .int .i64 0, .int .i64 0, .int .i64 0, .slice none 0 0])) := by kernel_rfl
theorem zi147 : (Try.prog.info? 147).map (·.zero) = some (some (.agg #[.slice none 0 0, .slice none 0 0])) := by kernel_rfl
theorem zi151 : (Try.prog.info? 151).map (·.zero) = some (some (.agg #[.int .i64 0, .bool false, .int .u16 0, .int .u8 0])) := by kernel_rfl
theorem zi161 : (Try.prog.info? 161).map (·.zero) = some (some (.agg #[.int .i64 0, .int .i64 0, .int .i64 0, .int .i64 0, .int .i64 0, .slice none 0 0])) := by kernel_rfl

attribute [local irreducible] Up.int Up.str Up.close Up.rest Up.clr Up.spoil Up.w Up.flag Ss.chk Pq.chk Ss.take Ss.answer Pq.bytes Pq.parse Sq.take Sq.meet Sq.ack Sq.again Sq.send Ln.does Ln.takes
open Sf
theorem takes_eq {l l' : Ln} {w : Wy} (e : l.takes w = l') (r : Nat → Nat) (S1 : List Ob) (hr : Rw l r S1) (hg : Gd l) (hy : w.p.chk = 0) (K : D → List Ob → Prop) (hK : ∀ r S2, Rw l' r S2 → K (.tup []) (.box (lbx l' r) :: S2)) : DoesK Try.prog 113 [.bp 0 0, .agg (wyz w)] (.box (lbx l r) :: S1) K := by
  subst e
  exact takes_any l r S1 hr hg w hy K hK
set_option maxHeartbeats 4000000 in
theorem Anew_0 (ns ms : List Nt) (hok : ∀ n ∈ ns, n.Ok) (hn : ns.length ≤ 1048576) (hok2 : ∀ n ∈ ms, n.Ok) (hm : ms.length ≤ 1048576) : Does Try.prog 22 [.sl none (ns.map ntz) .ro, (.sl none (ms.map ntz) .ro), vb false] [] (vb true) [] := by
  refine Does.of_body (rvs := [.tmp 6]) Try.func22 rfl rfl rfl rfl ?_
  have hnew := l_new 9
  rw [show posN 9 = true from by decide, if_pos rfl, show Ss.new 9 = ⟨9, 0, 0, 0, 1⟩ from rfl] at hnew
  refine AWP.seq ?_
  refine AWP.reserve _ nrShA0 ?_
  refine AWP.region ?_
  refine n_assign rfl nrShA0 ?_
  refine AOps.nil ?_
  refine AWP.seq ?_
  refine AWP.seq ?_
  refine AWP.region ?_
  refine n_call0B rfl cf108 rfl (Eq.trans (by simp only [nl] <;> rfl) nrShA0) (by repeat (first | exact .nil | refine .cons ?_ ?_ | exact ren_ints | exact .lf (.val _) | exact .lf (lf_ints (.inl rfl)) | exact .bp ⟨rfl, rfl⟩ | exact .bp (.inl ⟨rfl, rfl⟩) | exact .bp (.inr ⟨rfl, rfl⟩) | exact .lf (lf_fnrp (sqz_lf _)) | exact .lf (.rp (sqz_lf _)) | exact ren_qe | exact .lf (lf_sqz _) | exact .lf (lf_qe (.inl rfl)) | exact ren_sqz rfl | exact ren_sqz0 rfl | exact ren_bys0 rfl | exact .lf (D.flat_lf rfl) | exact ren_lits rfl | exact .lf (lf_ssz _) | exact .lf (lf_pqz _) | exact ren_q0 rfl | exact ren_pq rfl | exact ren_nl0 | exact ren_sq | exact .lf (.fn (fun d h => by cases h) (fun d h => by cases h)))) (live) lfShA0 ?_
  refine n_not rfl nrShA0 rfl ?_
  refine AOps.nil ?_
  refine AWP.cond_false nrShA0 ?_
  refine AWP.skip ?_
  refine AWP.seq ?_
  refine AWP.region ?_
  refine n_call0B rfl cf109 rfl (Eq.trans (by simp only [nl] <;> rfl) nrShA0) (by repeat (first | exact .nil | refine .cons ?_ ?_ | exact ren_ints | exact .lf (.val _) | exact .lf (lf_ints (.inl rfl)) | exact .bp ⟨rfl, rfl⟩ | exact .bp (.inl ⟨rfl, rfl⟩) | exact .bp (.inr ⟨rfl, rfl⟩) | exact .lf (lf_fnrp (sqz_lf _)) | exact .lf (.rp (sqz_lf _)) | exact ren_qe | exact .lf (lf_sqz _) | exact .lf (lf_qe (.inl rfl)) | exact ren_sqz rfl | exact ren_sqz0 rfl | exact ren_bys0 rfl | exact .lf (D.flat_lf rfl) | exact ren_lits rfl | exact .lf (lf_ssz _) | exact .lf (lf_pqz _) | exact ren_q0 rfl | exact ren_pq rfl | exact ren_nl0 | exact ren_sq | exact .lf (.fn (fun d h => by cases h) (fun d h => by cases h)))) (pair) lfShA0 ?_
  refine n_move rfl nrShA0 ?_
  refine n_extract rfl nrShA0 rfl ?_
  refine n_extract rfl nrShA0 rfl ?_
  refine n_extract rfl nrShA0 rfl ?_
  refine n_alloc rfl zi141 rfl nrShA0 nrShA0 ?_
  refine n_alloc rfl zi141 rfl nrShA0 nrShA0 ?_
  refine n_store ti141 nrShA0 nrShA0 nrShA0 rfl nrShA0 rfl rfl rfl nrShA0 ?_
  refine n_store ti141 nrShA0 nrShA0 nrShA0 rfl nrShA0 rfl rfl rfl nrShA0 ?_
  refine n_assign rfl nrShA0 ?_
  refine AOps.nil ?_
  refine AWP.seq ?_
  refine AWP.seq ?_
  refine AWP.region ?_
  refine n_move rfl nrShA0 ?_
  refine n_not rfl nrShA0 rfl ?_
  refine AOps.nil ?_
  refine AWP.cond_false nrShA0 ?_
  refine AWP.skip ?_
  refine AWP.seq ?_
  refine AWP.region ?_
  refine n_load rfl ti141 nrShA0 nrShA0 rfl nrShA0 ?_
  refine n_load rfl ti141 nrShA0 nrShA0 rfl nrShA0 ?_
  refine n_build2 rfl Try.underlying145 ti141 zi145 rfl nrShA0 nrShA0 rfl ?_
  refine n_build rfl si149 (Eq.trans (by simp only [nl] <;> rfl) nrShA0) (Eq.trans (by simp only [nl] <;> rfl) nrShA0) rfl ?_
  refine n_boxAt 0 rfl nrShA0 rfl nrShA0 rfl nrShA0 ?_
  refine n_assign rfl nrShA0 ?_
  refine AOps.nil ?_
  refine AWP.seq ?_
  refine AWP.seq ?_
  refine AWP.adoptBox (j := 0) (i := 12) (m := 0) (sz := 6) (S' := [Ob.box [vi 5, vi 7, vi 0, vi 0, vi 1, .sl none [] .ro, vi 7, vi 5, vi 0, vi 0, vi 1, .sl none [] .ro, .sl none [] (.own 3), .sl (some true) [] .full, .sl (some true) [] .full, .sl (some true) [] .full, .sl (some true) [] .full], Ob.box (ssz ⟨5, 7, 0, 0, 1⟩), Ob.box (ssz ⟨7, 5, 0, 0, 1⟩), Ob.row 0 6]) rfl rfl rfl rfl rfl ?_
  refine AWP.adoptBox (j := 0) (i := 13) (m := 0) (sz := 1) (S' := [Ob.box [vi 5, vi 7, vi 0, vi 0, vi 1, .sl none [] .ro, vi 7, vi 5, vi 0, vi 0, vi 1, .sl none [] .ro, .sl none [] (.own 3), .sl none [] (.own 4), .sl (some true) [] .full, .sl (some true) [] .full, .sl (some true) [] .full], Ob.box (ssz ⟨5, 7, 0, 0, 1⟩), Ob.box (ssz ⟨7, 5, 0, 0, 1⟩), Ob.row 0 6, Ob.row 0 1]) rfl rfl rfl rfl rfl ?_
  refine AWP.adoptBox (j := 0) (i := 14) (m := 0) (sz := 1) (S' := [Ob.box [vi 5, vi 7, vi 0, vi 0, vi 1, .sl none [] .ro, vi 7, vi 5, vi 0, vi 0, vi 1, .sl none [] .ro, .sl none [] (.own 3), .sl none [] (.own 4), .sl none [] (.own 5), .sl (some true) [] .full, .sl (some true) [] .full], Ob.box (ssz ⟨5, 7, 0, 0, 1⟩), Ob.box (ssz ⟨7, 5, 0, 0, 1⟩), Ob.row 0 6, Ob.row 0 1, Ob.row 0 1]) rfl rfl rfl rfl rfl ?_
  refine AWP.adoptBox (j := 0) (i := 15) (m := 0) (sz := 1) (S' := [Ob.box [vi 5, vi 7, vi 0, vi 0, vi 1, .sl none [] .ro, vi 7, vi 5, vi 0, vi 0, vi 1, .sl none [] .ro, .sl none [] (.own 3), .sl none [] (.own 4), .sl none [] (.own 5), .sl none [] (.own 6), .sl (some true) [] .full], Ob.box (ssz ⟨5, 7, 0, 0, 1⟩), Ob.box (ssz ⟨7, 5, 0, 0, 1⟩), Ob.row 0 6, Ob.row 0 1, Ob.row 0 1, Ob.row 0 1]) rfl rfl rfl rfl rfl ?_
  refine AWP.adoptBox (j := 0) (i := 16) (m := 0) (sz := 1) (S' := [Ob.box [vi 5, vi 7, vi 0, vi 0, vi 1, .sl none [] .ro, vi 7, vi 5, vi 0, vi 0, vi 1, .sl none [] .ro, .sl none [] (.own 3), .sl none [] (.own 4), .sl none [] (.own 5), .sl none [] (.own 6), .sl none [] (.own 7)], Ob.box (ssz ⟨5, 7, 0, 0, 1⟩), Ob.box (ssz ⟨7, 5, 0, 0, 1⟩), Ob.row 0 6, Ob.row 0 1, Ob.row 0 1, Ob.row 0 1, Ob.row 0 1]) rfl rfl rfl rfl rfl ?_
  refine AWP.region ?_
  refine n_move rfl nrShA0 ?_
  refine n_move rfl nrShA0 ?_
  refine n_len rfl Try.underlying138 nrShA0 (by first | rw [ints_length] | rw [List.length_map] | rfl) ?_
  refine n_min (T2 := #[]) (c := ((min ns.length 200 : Nat) : Int)) rfl nrShA0 nrShA0 (by split <;> omega) ?_
  refine n_slice (k := 0) (h := min ns.length 200) (ys := (ns.take (min ns.length 200)).map ntz) rfl Try.underlying138 ti151 nrShA0 (SB.some nrShA0 (by first | rfl | omega)) SB.none (by omega) (by rw [List.length_map]; omega) (by exact map_one (f := ntz) (fun _ => rfl)) (by rw [List.drop_zero, List.map_take]) ?_
  refine n_len rfl Try.underlying138 nrShA0 (n := ((min ns.length 200 : Nat) : Int)) (by rw [List.length_map, List.length_take]; omega) ?_
  refine n_move rfl nrShA0 ?_
  refine AOps.nil ?_
  refine AWP.block ?_
  refine AWP.loop (α := Nat × Ln × (Nat → Nat) × List Ob) (fun q => q.1 ≤ min ns.length 200 ∧ Inv B0 [] q.2.1 q.1 ∧ Rw q.2.1 q.2.2.1 q.2.2.2) (fun q => put (put (put (put (put (put empty 1 (.sl none (ms.map ntz) .ro)) 2 (vb false)) 10 (.bp 0 0)) 40 (.sl none ((ns.take (min ns.length 200)).map ntz) .ro)) 41 (vi ((min ns.length 200 : Nat) : Int))) 42 (vi (q.1 : Int))) (fun q => .box (lbx q.2.1 q.2.2.1) :: q.2.2.2) (fun q => min ns.length 200 - q.1) (0, l0, (fun k => k + 2), [Ob.box (ssz ⟨5, 7, 0, 0, 1⟩), Ob.box (ssz ⟨7, 5, 0, 0, 1⟩), Ob.row 0 6, Ob.row 0 1, Ob.row 0 1, Ob.row 0 1, Ob.row 0 1]) ?_ ?_ ?_ ?_
  · exact ⟨Nat.zero_le _, inv0, rw0 _ _ rfl (fun _ => rfl) (fun _ => rfl)⟩
  · (repeat (first | exact FLe.empty _ | refine FLe.put ?_ ?_)) <;> first | (simp only [nf, nfV, Nat.beq]; done) | rfl | ((try simp only [nf, nfV, Nat.beq]); first | rfl | (simp only [List.length_map]; done) | (congr 2; omega; done))
  · rfl
  · rintro ⟨i, l, r, S1⟩ ⟨hi, hI, hr⟩
    dsimp only at hi hI hr ⊢
    refine AWP.seq ?_
    refine AWP.region ?_
    refine n_ibin rfl nrShA0 nrShA0 rfl ?_
    refine AOps.nil ?_
    refine AWP.seq ?_
    refine AWP.cond nrShA0 (fun hc3 => ?_) (fun hc3 => ?_)
    · try simp only [nh] at hc3
      obtain ⟨n, hn0⟩ : ∃ n, (ns.take (min ns.length 200))[i]? = some n := ⟨_, List.getElem?_eq_getElem (by rw [List.length_take]; omega)⟩
      have hxn := map_at ntz hn0
      have hnk : n.Ok := hok n (List.mem_of_mem_take (List.mem_of_getElem? hn0))
      refine AWP.skip ?_
      refine AWP.seq ?_
      refine AWP.block ?_
      refine AWP.seq ?_
      refine AWP.region ?_
      refine n_indexAddr rfl Try.underlying138 ti151 rfl nrShA0 nrShA0 (by omega) (by exact hxn) rfl ?_
      refine n_load rfl ti151 nrShA0 nrShA0 rfl nrShA0 ?_
      refine n_alloc rfl zi151 rfl nrShA0 nrShA0 ?_
      refine n_store ti151 nrShA0 nrShA0 nrShA0 rfl nrShA0 rfl rfl rfl nrShA0 ?_
      refine AOps.nil ?_
      refine AWP.region ?_
      refine n_move rfl nrShA0 ?_
      refine n_load rfl ti151 nrShA0 nrShA0 rfl nrShA0 ?_
      refine op_callK (dst := some 48) rfl cf110 rfl (Eq.trans (by simp only [nl] <;> rfl) nrShA0) (does_any l r _ hr.app (hI.gd (by omega)) n hnk _ (fun r2 S2 h2 => ?_))
      refine AOps.nil ?_
      refine AWP.region ?_
      first | refine n_iadd rfl nrShA0 nrShA0 rfl (by omega) (by omega) ?_ | refine n_ibin rfl nrShA0 nrShA0 rfl ?_
      refine n_move rfl nrShA0 ?_
      refine AOps.nil ?_
      refine ⟨(i + 1, l.does n, r2, S2), ⟨by omega, does_inv hI (by omega) n, h2⟩, ?_, rfl, by omega⟩
      (repeat (first | exact FLe.empty _ | refine FLe.put ?_ ?_)) <;> first | (simp only [nf, nfV, Nat.beq]; done) | rfl | ((try simp only [nf, nfV, Nat.beq]); first | rfl | (simp only [List.length_map]; done) | (congr 2; omega; done))
    · try simp only [nh] at hc3
      have hI0 := more_n hI (m := 200) (by omega)
      clear hI
      have hbl := hI0.bl
      refine AWP.exit ?_
      refine AWP.seq ?_
      refine AWP.region ?_
      refine n_assign rfl nrShA0 ?_
      refine AOps.nil ?_
      refine AWP.seq ?_
      refine AWP.seq ?_
      refine AWP.region ?_
      refine n_move rfl nrShA0 ?_
      refine AOps.nil ?_
      refine AWP.cond_false nrShA0 ?_
      refine AWP.skip ?_
      refine AWP.seq ?_
      refine AWP.region ?_
      refine n_move rfl nrShA0 ?_
      refine n_nilCheck rfl nrShA0 rfl ?_
      refine n_fieldAddr rfl fd149_1 ti146 rfl nrShA0 rfl nrShA0 ?_
      refine n_load rfl ti146 nrShA0 nrShA0 rfl nrShA0 ?_
      refine n_assign rfl nrShA0 ?_
      refine AOps.nil ?_
      refine AWP.seq ?_
      refine AWP.region ?_
      refine n_call0B rfl cf114 rfl (Eq.trans (by simp only [nl] <;> rfl) nrShA0) (by repeat (first | exact .nil | refine .cons ?_ ?_ | exact ren_ints | exact .lf (.val _) | exact .lf (lf_ints (.inl rfl)) | exact .bp ⟨rfl, rfl⟩ | exact .bp (.inl ⟨rfl, rfl⟩) | exact .bp (.inr ⟨rfl, rfl⟩) | exact .lf (lf_fnrp (sqz_lf _)) | exact .lf (.rp (sqz_lf _)) | exact ren_qe | exact .lf (lf_sqz _) | exact .lf (lf_qe (.inl rfl)) | exact ren_sqz rfl | exact ren_sqz0 rfl | exact ren_bys0 rfl | exact .lf (D.flat_lf rfl) | exact ren_lits rfl | exact .lf (lf_ssz _) | exact .lf (lf_pqz _) | exact ren_q0 rfl | exact ren_pq rfl | exact ren_nl0 | exact ren_sq | exact .lf (.fn (fun d h => by cases h) (fun d h => by cases h)))) (hnew) lfShA0 ?_
      refine n_move rfl nrShA0 ?_
      refine n_extract rfl nrShA0 rfl ?_
      refine n_extract rfl nrShA0 rfl ?_
      refine n_alloc rfl zi141 rfl nrShA0 nrShA0 ?_
      refine n_store ti141 nrShA0 nrShA0 nrShA0 rfl nrShA0 rfl rfl rfl nrShA0 ?_
      refine n_assign rfl nrShA0 ?_
      refine AOps.nil ?_
      refine AWP.seq ?_
      refine AWP.seq ?_
      refine AWP.region ?_
      refine n_move rfl nrShA0 ?_
      refine n_ibin rfl nrShA0 nrShA0 rfl ?_
      refine AOps.nil ?_
      refine AWP.cond_false nrShA0 ?_
      refine AWP.skip ?_
      refine AWP.seq ?_
      refine AWP.any1 6 (Ob.box (lbx { l with x := at2 l.x false (⟨9, 0, 0, 0, 1, []⟩ : Sq) } r) :: (S1 ++ [Ob.box (ssz ⟨9, 0, 0, 0, 1⟩)])) (by kernel_rfl) (by kernel_rfl) (by kernel_rfl) ?_
      refine Walk.ahead [6] (by rfl) (by kernel_rfl) (by rfl) (rs := [10]) (by rfl) nrShA0 (fun base => by
          refine n_move rfl nrShA0 ?_
          exact AOps.nil ⟨rfl, rfl, rfl⟩) ?_
      refine Walk.ahead [6] (by rfl) (by kernel_rfl) (by rfl) (rs := [13]) (by rfl) nrShA0 (fun base => by
          refine n_move rfl nrShA0 ?_
          exact AOps.nil ⟨rfl, rfl, rfl⟩) ?_
      refine Walk.ahead [6] (by rfl) (by kernel_rfl) (by rfl) (rs := [15]) (by rfl) nrShA0 (fun base => by
          refine n_load rfl ti141 nrShA0 nrShA0 rfl nrShA0 ?_
          exact AOps.nil ⟨rfl, rfl, rfl⟩) ?_
      refine Walk.ahead [4, 5, 6] (by rfl) (by kernel_rfl) (by rfl) (rs := [61]) (by rfl) nrShA0 (fun base => by
          refine n_nilCheck rfl nrShA0 rfl ?_
          exact AOps.nil ⟨rfl, rfl, rfl⟩) ?_
      refine Walk.ahead [5, 6] (by rfl) (by kernel_rfl) (by rfl) (rs := [64]) (by rfl) nrShA0 (fun base => by
          refine n_fieldAddr rfl fd149_0 ti145 rfl nrShA0 rfl nrShA0 ?_
          exact AOps.nil ⟨rfl, rfl, rfl⟩) ?_
      refine Walk.ahead [6] (by rfl) (by kernel_rfl) (by rfl) (rs := [65, 62]) (by rfl) nrShA0 (fun base => by
          refine n_arrAddr (q := 0) rfl Try.underlying145 ti141 nrShA0 nrShA0 (by decide) (by decide) rfl ?_
          exact AOps.nil ⟨rfl, rfl, rfl⟩) ?_
      refine Walk.writes (d := .any) (by rfl) (rs := [66, 63]) (by rfl) nrShA0 (fun base => by
          refine n_store ti141 nrShA0 nrShA0 nrShA0 rfl nrShA0 rfl rfl rfl nrShA0 ?_
          exact AOps.nil ⟨rfl, rfl, rfl⟩) ?_
      refine Walk.done ?_
      refine AWP.seq ?_
      refine AWP.region ?_
      refine n_move rfl nrShA0 ?_
      refine n_move rfl nrShA0 ?_
      refine n_isub (c := 1) rfl nrShA0 nrShA0 (by decide) (by decide) (by decide) ?_
      refine n_load rfl ti141 nrShA0 nrShA0 rfl nrShA0 ?_
      refine n_call0B rfl cf112 rfl (Eq.trans (by simp only [nl] <;> rfl) nrShA0) (by repeat (first | exact .nil | refine .cons ?_ ?_ | exact ren_ints | exact .lf (.val _) | exact .lf (lf_ints (.inl rfl)) | exact .bp ⟨rfl, rfl⟩ | exact .bp (.inl ⟨rfl, rfl⟩) | exact .bp (.inr ⟨rfl, rfl⟩) | exact .lf (lf_fnrp (sqz_lf _)) | exact .lf (.rp (sqz_lf _)) | exact ren_qe | exact .lf (lf_sqz _) | exact .lf (lf_qe (.inl rfl)) | exact ren_sqz rfl | exact ren_sqz0 rfl | exact ren_bys0 rfl | exact .lf (D.flat_lf rfl) | exact ren_lits rfl | exact .lf (lf_ssz _) | exact .lf (lf_pqz _) | exact ren_q0 rfl | exact ren_pq rfl | exact ren_nl0 | exact ren_sq | exact .lf (.fn (fun d h => by cases h) (fun d h => by cases h)))) (l_answerQ ⟨9, 0, 0, 0, 1, []⟩ (ok_new (by decide) (by decide))) lfShA0 ?_
      refine n_build rfl si161 (Eq.trans (by simp only [nl] <;> rfl) nrShA0) (Eq.trans (by simp only [nl] <;> rfl) nrShA0) rfl ?_
      refine op_callK (dst := some 73) rfl cf113 rfl (Eq.trans (by simp only [nl] <;> rfl) nrShA0) (takes_eq (l := anew l false) (l' := met1 l false) (w := ⟨true, (⟨9, 0, 0, 0, 1, []⟩ : Sq).pk 0 []⟩) (met_1 hI0 false) r _ (Rw.same (Rw.app hr) (fun j hj => by rcases j with _ | _ | _ | _ | _ | j <;> rfl)) (gd_anew (hI0.gd (by decide)) false) chk_9 _ (fun r2 S2 h2 => ?_))
      refine AOps.nil ?_
      refine AWP.seq ?_
      refine AWP.region ?_
      refine n_move rfl nrShA0 ?_
      refine n_move rfl nrShA0 ?_
      refine n_move rfl nrShA0 ?_
      refine n_move rfl nrShA0 ?_
      refine n_isub (c := 1) rfl nrShA0 nrShA0 (by decide) (by decide) (by decide) ?_
      refine n_nilCheck rfl nrShA0 rfl ?_
      refine n_fieldAddr rfl fd149_0 ti145 rfl nrShA0 rfl nrShA0 ?_
      refine n_arrAddr (q := 6) rfl Try.underlying145 ti141 nrShA0 nrShA0 (by decide) (by decide) rfl ?_
      refine n_load rfl ti141 nrShA0 nrShA0 rfl nrShA0 ?_
      refine n_call0B rfl cf112 rfl (Eq.trans (by simp only [nl] <;> rfl) nrShA0) (by repeat (first | exact .nil | refine .cons ?_ ?_ | exact ren_ints | exact .lf (.val _) | exact .lf (lf_ints (.inl rfl)) | exact .bp ⟨rfl, rfl⟩ | exact .bp (.inl ⟨rfl, rfl⟩) | exact .bp (.inr ⟨rfl, rfl⟩) | exact .lf (lf_fnrp (sqz_lf _)) | exact .lf (.rp (sqz_lf _)) | exact ren_qe | exact .lf (lf_sqz _) | exact .lf (lf_qe (.inl rfl)) | exact ren_sqz rfl | exact ren_sqz0 rfl | exact ren_bys0 rfl | exact .lf (D.flat_lf rfl) | exact ren_lits rfl | exact .lf (lf_ssz _) | exact .lf (lf_pqz _) | exact ren_q0 rfl | exact ren_pq rfl | exact ren_nl0 | exact ren_sq | exact .lf (.fn (fun d h => by cases h) (fun d h => by cases h)))) (l_answerQ ((met1 l false).x true) ((gd_met1 (hI0.gd (by decide)) false).ok true)) lfShA0 ?_
      refine n_build rfl si161 (Eq.trans (by simp only [nl] <;> rfl) nrShA0) (Eq.trans (by simp only [nl] <;> rfl) nrShA0) rfl ?_
      refine op_callK (dst := some 85) rfl cf113 rfl (Eq.trans (by simp only [nl] <;> rfl) nrShA0) (takes_eq (l := met1 l false) (l' := met l false) (w := ⟨false, ((met1 l false).x true).pk 0 []⟩) (met_2 hI0 false) r2 _ h2 (gd_met1 (hI0.gd (by decide)) false) (chk_b true) _ (fun r3 S3 h3 => ?_))
      refine AOps.nil ?_
      refine AWP.seq ?_
      refine AWP.region ?_
      refine n_move rfl nrShA0 ?_
      refine n_move rfl nrShA0 ?_
      refine n_build0 rfl Try.underlying147 ti22 zi147 rfl ?_
      refine n_build0 rfl Try.underlying147 ti22 zi147 rfl ?_
      refine n_nilCheck rfl nrShA0 rfl ?_
      refine n_fieldAddr rfl fd149_2 ti147 rfl nrShA0 rfl nrShA0 ?_
      refine n_store ti147 nrShA0 nrShA0 nrShA0 rfl nrShA0 rfl rfl rfl nrShA0 ?_
      refine n_nilCheck rfl nrShA0 rfl ?_
      refine n_fieldAddr rfl fd149_3 ti147 rfl nrShA0 rfl nrShA0 ?_
      refine n_store ti147 nrShA0 nrShA0 nrShA0 rfl nrShA0 rfl rfl rfl nrShA0 ?_
      refine AOps.nil ?_
      refine AWP.seq ?_
      refine AWP.seq ?_
      refine AWP.adoptBox (j := 0) (i := 13) (n := S3.length + 1) (m := 0) (sz := 1) (S' := Ob.box [vi ((met l false).x false).b, vi ((met l false).x false).p, vi ((met l false).x false).s, vi ((met l false).x false).a, vi ((met l false).x false).e, .sl none (((met l false).x false).q.map qe) .ro, vi ((met l false).x true).b, vi ((met l false).x true).p, vi ((met l false).x true).s, vi ((met l false).x true).a, vi ((met l false).x true).e, .sl none (((met l false).x true).q.map qe) .ro, .sl none (l.bag.map wyz) (.own (r3 0 + 1)), .sl none [] (.own (S3.length + 1)), .sl (some true) [] .full, .sl (some true) [] .full, .sl (some true) [] .full] :: (S3 ++ [Ob.row 0 1])) rfl rfl (by simp) rfl nrShA0 ?_
      refine AWP.adoptBox (j := 0) (i := 14) (n := S3.length + 2) (m := 0) (sz := 1) (S' := Ob.box [vi ((met l false).x false).b, vi ((met l false).x false).p, vi ((met l false).x false).s, vi ((met l false).x false).a, vi ((met l false).x false).e, .sl none (((met l false).x false).q.map qe) .ro, vi ((met l false).x true).b, vi ((met l false).x true).p, vi ((met l false).x true).s, vi ((met l false).x true).a, vi ((met l false).x true).e, .sl none (((met l false).x true).q.map qe) .ro, .sl none (l.bag.map wyz) (.own (r3 0 + 1)), .sl none [] (.own (S3.length + 1)), .sl none [] (.own (S3.length + 2)), .sl (some true) [] .full, .sl (some true) [] .full] :: (S3 ++ [Ob.row 0 1, Ob.row 0 1])) rfl rfl (by simp) rfl nrShA0 ?_
      refine AWP.adoptBox (j := 0) (i := 15) (n := S3.length + 3) (m := 0) (sz := 1) (S' := Ob.box [vi ((met l false).x false).b, vi ((met l false).x false).p, vi ((met l false).x false).s, vi ((met l false).x false).a, vi ((met l false).x false).e, .sl none (((met l false).x false).q.map qe) .ro, vi ((met l false).x true).b, vi ((met l false).x true).p, vi ((met l false).x true).s, vi ((met l false).x true).a, vi ((met l false).x true).e, .sl none (((met l false).x true).q.map qe) .ro, .sl none (l.bag.map wyz) (.own (r3 0 + 1)), .sl none [] (.own (S3.length + 1)), .sl none [] (.own (S3.length + 2)), .sl none [] (.own (S3.length + 3)), .sl (some true) [] .full] :: (S3 ++ [Ob.row 0 1, Ob.row 0 1, Ob.row 0 1])) rfl rfl (by simp) rfl nrShA0 ?_
      refine AWP.adoptBox (j := 0) (i := 16) (n := S3.length + 4) (m := 0) (sz := 1) (S' := Ob.box [vi ((met l false).x false).b, vi ((met l false).x false).p, vi ((met l false).x false).s, vi ((met l false).x false).a, vi ((met l false).x false).e, .sl none (((met l false).x false).q.map qe) .ro, vi ((met l false).x true).b, vi ((met l false).x true).p, vi ((met l false).x true).s, vi ((met l false).x true).a, vi ((met l false).x true).e, .sl none (((met l false).x true).q.map qe) .ro, .sl none (l.bag.map wyz) (.own (r3 0 + 1)), .sl none [] (.own (S3.length + 1)), .sl none [] (.own (S3.length + 2)), .sl none [] (.own (S3.length + 3)), .sl none [] (.own (S3.length + 4))] :: (S3 ++ [Ob.row 0 1, Ob.row 0 1, Ob.row 0 1, Ob.row 0 1])) rfl rfl (by simp) rfl nrShA0 ?_
      refine AWP.region ?_
      refine n_move rfl nrShA0 ?_
      refine n_len rfl Try.underlying146 nrShA0 (by first | rw [ints_length] | rw [List.length_map] | rfl) ?_
      refine n_move rfl nrShA0 ?_
      refine AOps.nil ?_
      refine AWP.block ?_
      refine AWP.asRo (t := 94) nrShA0 ?_
      refine AWP.loop (α := Nat × (Nat → Nat) × List Ob) (fun q => q.1 ≤ l.bag.length ∧ Rw (fresh (met l false)) q.2.1 q.2.2) (fun q => put (put (put (put (put empty 1 (.sl none (ms.map ntz) .ro)) 10 (.bp 0 0)) 94 (.sl none (l.bag.map wyz) .ro)) 95 (vi (l.bag.length : Int))) 96 (vi (q.1 : Int))) (fun q => .box (lbx (fresh (met l false)) q.2.1) :: q.2.2) (fun q => l.bag.length - q.1) (0, (fun j => if j = 0 then r3 0 else S3.length + (j - 1)), S3 ++ [Ob.row 0 1, Ob.row 0 1, Ob.row 0 1, Ob.row 0 1]) ?_ ?_ ?_ ?_
      · exact ⟨Nat.zero_le _, rw_fresh h3 rfl (fun _ => rfl) (fun _ => rfl)⟩
      · (repeat (first | exact FLe.empty _ | refine FLe.put ?_ ?_)) <;> first | (simp only [nf, nfV, Nat.beq]; done) | rfl | ((try simp only [nf, nfV, Nat.beq]); first | rfl | (simp only [List.length_map]; done) | (congr 2; omega; done))
      · rfl
      · rintro ⟨i2, r4, S4⟩ ⟨hi2, h4⟩
        dsimp only at hi2 h4 ⊢
        refine AWP.seq ?_
        refine AWP.region ?_
        refine n_ibin rfl nrShA0 nrShA0 rfl ?_
        refine AOps.nil ?_
        refine AWP.seq ?_
        refine AWP.cond nrShA0 (fun hc6 => ?_) (fun hc6 => ?_)
        · try simp only [nh] at hc6
          obtain ⟨w, hw0⟩ : ∃ w, l.bag[i2]? = some w := ⟨_, List.getElem?_eq_getElem (by omega)⟩
          have hxw := map_at wyz hw0
          have hwm := List.mem_of_getElem? hw0
          refine AWP.skip ?_
          refine AWP.seq ?_
          refine AWP.block ?_
          refine AWP.seq ?_
          refine AWP.region ?_
          refine n_indexAddr rfl Try.underlying146 ti161 rfl nrShA0 nrShA0 (by omega) (by exact hxw) rfl ?_
          refine n_load rfl ti161 nrShA0 nrShA0 rfl nrShA0 ?_
          refine n_alloc rfl zi161 rfl nrShA0 nrShA0 ?_
          refine n_store ti161 nrShA0 nrShA0 nrShA0 rfl nrShA0 rfl rfl rfl nrShA0 ?_
          refine AOps.nil ?_
          refine AWP.region ?_
          refine n_move rfl nrShA0 ?_
          refine n_load rfl ti161 nrShA0 nrShA0 rfl nrShA0 ?_
          refine op_callK (dst := some 102) rfl cf113 rfl (Eq.trans (by simp only [nl] <;> rfl) nrShA0) (takes_eq (l := (fresh (met l false))) (l' := (fresh (met l false))) (w := w) (old_dead hI0 false hwm) r4 _ h4.app ((inv1 hI0 false).gd (by decide)) (hI0.bag w hwm).1 _ (fun r5 S5 h5 => ?_))
          refine AOps.nil ?_
          refine AWP.region ?_
          first | refine n_iadd rfl nrShA0 nrShA0 rfl (by omega) (by omega) ?_ | refine n_ibin rfl nrShA0 nrShA0 rfl ?_
          refine n_move rfl nrShA0 ?_
          refine AOps.nil ?_
          refine ⟨(i2 + 1, r5, S5), ⟨by omega, h5⟩, ?_, rfl, by omega⟩
          (repeat (first | exact FLe.empty _ | refine FLe.put ?_ ?_)) <;> first | (simp only [nf, nfV, Nat.beq]; done) | rfl | ((try simp only [nf, nfV, Nat.beq]); first | rfl | (simp only [List.length_map]; done) | (congr 2; omega; done))
        · try simp only [nh] at hc6
          refine AWP.exit ?_
          refine AWP.seq ?_
          refine AWP.seq ?_
          refine AWP.anyStill (by kernel_rfl) (by kernel_rfl) ?_
          refine Walk.still (rs := [10]) (by rfl) nrShA0 (fun base => by
              refine n_move rfl nrShA0 ?_
              exact AOps.nil ⟨rfl, rfl, rfl⟩) ?_
          refine Walk.still (rs := [104]) (by rfl) nrShA0 (fun base => by
              refine n_nilCheck rfl nrShA0 rfl ?_
              exact AOps.nil ⟨rfl, rfl, rfl⟩) ?_
          refine Walk.still (rs := [105]) (by rfl) nrShA0 (fun base => by
              refine n_fieldAddr rfl fd149_3 ti147 rfl nrShA0 rfl nrShA0 ?_
              exact AOps.nil ⟨rfl, rfl, rfl⟩) ?_
          refine Walk.still (rs := [106]) (by rfl) nrShA0 (fun base => by
              refine n_arrAddr (q := 15) rfl Try.underlying147 ti22 nrShA0 nrShA0 (by decide) (by decide) rfl ?_
              exact AOps.nil ⟨rfl, rfl, rfl⟩) ?_
          refine Walk.still (rs := [107]) (by rfl) nrShA0 (fun base => by
              refine n_load rfl ti22 nrShA0 nrShA0 rfl nrShA0 ?_
              exact AOps.nil ⟨rfl, rfl, rfl⟩) ?_
          refine Walk.still (rs := [108]) (by rfl) nrShA0 (fun base => by
              refine n_len rfl Try.underlying22 nrShA0 (n := 0) rfl ?_
              exact AOps.nil ⟨rfl, rfl, rfl⟩) ?_
          refine Walk.still (rs := [10]) (by rfl) nrShA0 (fun base => by
              refine n_move rfl nrShA0 ?_
              exact AOps.nil ⟨rfl, rfl, rfl⟩) ?_
          refine Walk.still (rs := [110]) (by rfl) nrShA0 (fun base => by
              refine n_nilCheck rfl nrShA0 rfl ?_
              exact AOps.nil ⟨rfl, rfl, rfl⟩) ?_
          refine Walk.still (rs := [111]) (by rfl) nrShA0 (fun base => by
              refine n_fieldAddr rfl fd149_3 ti147 rfl nrShA0 rfl nrShA0 ?_
              exact AOps.nil ⟨rfl, rfl, rfl⟩) ?_
          refine Walk.still (rs := [112]) (by rfl) nrShA0 (fun base => by
              refine n_arrAddr (q := 16) rfl Try.underlying147 ti22 nrShA0 nrShA0 (by decide) (by decide) rfl ?_
              exact AOps.nil ⟨rfl, rfl, rfl⟩) ?_
          refine Walk.still (rs := [113]) (by rfl) nrShA0 (fun base => by
              refine n_load rfl ti22 nrShA0 nrShA0 rfl nrShA0 ?_
              exact AOps.nil ⟨rfl, rfl, rfl⟩) ?_
          refine Walk.still (rs := [114]) (by rfl) nrShA0 (fun base => by
              refine n_len rfl Try.underlying22 nrShA0 (n := 0) rfl ?_
              exact AOps.nil ⟨rfl, rfl, rfl⟩) ?_
          refine Walk.still (rs := [109, 115]) (by rfl) nrShA0 (fun base => by
              first | refine n_iadd rfl nrShA0 nrShA0 rfl (by omega) (by omega) ?_ | refine n_ibin rfl nrShA0 nrShA0 rfl ?_
              exact AOps.nil ⟨rfl, rfl, rfl⟩) ?_
          refine Walk.still (rs := [116]) (by rfl) nrShA0 (fun base => by
              refine n_ibin rfl nrShA0 nrShA0 rfl ?_
              exact AOps.nil ⟨rfl, rfl, rfl⟩) ?_
          refine Walk.done ?_
          refine AWP.cond_false nrShA0 ?_
          refine AWP.skip ?_
          refine AWP.seq ?_
          refine AWP.seq ?_
          refine AWP.region ?_
          refine n_move rfl nrShA0 ?_
          refine n_move rfl nrShA0 ?_
          refine n_len rfl Try.underlying138 nrShA0 (by first | rw [ints_length] | rw [List.length_map] | rfl) ?_
          refine n_min (T2 := #[]) (c := ((min ms.length 200 : Nat) : Int)) rfl nrShA0 nrShA0 (by split <;> omega) ?_
          refine n_slice (k := 0) (h := min ms.length 200) (ys := (ms.take (min ms.length 200)).map ntz) rfl Try.underlying138 ti151 nrShA0 (SB.some nrShA0 (by first | rfl | omega)) SB.none (by omega) (by rw [List.length_map]; omega) (by exact map_one (f := ntz) (fun _ => rfl)) (by rw [List.drop_zero, List.map_take]) ?_
          refine n_len rfl Try.underlying138 nrShA0 (n := ((min ms.length 200 : Nat) : Int)) (by rw [List.length_map, List.length_take]; omega) ?_
          refine n_move rfl nrShA0 ?_
          refine AOps.nil ?_
          refine AWP.block ?_
          refine AWP.loop (α := Nat × Ln × (Nat → Nat) × List Ob) (fun q => q.1 ≤ min ms.length 200 ∧ Inv (B1 false) l.bag q.2.1 (200 + q.1) ∧ Rw q.2.1 q.2.2.1 q.2.2.2 ∧ ∀ c, Byt (q.2.1.sent c)) (fun q => put (put (put (put empty 10 (.bp 0 0)) 122 (.sl none ((ms.take (min ms.length 200)).map ntz) .ro)) 123 (vi ((min ms.length 200 : Nat) : Int))) 124 (vi (q.1 : Int))) (fun q => .box (lbx q.2.1 q.2.2.1) :: q.2.2.2) (fun q => min ms.length 200 - q.1) (0, (fresh (met l false)), r4, S4) ?_ ?_ ?_ ?_
          · exact ⟨Nat.zero_le _, inv1 hI0 false, h4, fun c a h => by cases h⟩
          · (repeat (first | exact FLe.empty _ | refine FLe.put ?_ ?_)) <;> first | (simp only [nf, nfV, Nat.beq]; done) | rfl | ((try simp only [nf, nfV, Nat.beq]); first | rfl | (simp only [List.length_map]; done) | (congr 2; omega; done))
          · rfl
          · rintro ⟨i3, l2, r4, S4⟩ ⟨hi3, hJ, hr2, hB3⟩
            dsimp only at hi3 hJ hr2 hB3 ⊢
            refine AWP.seq ?_
            refine AWP.region ?_
            refine n_ibin rfl nrShA0 nrShA0 rfl ?_
            refine AOps.nil ?_
            refine AWP.seq ?_
            refine AWP.cond nrShA0 (fun hc8 => ?_) (fun hc8 => ?_)
            · try simp only [nh] at hc8
              obtain ⟨n2, hn2⟩ : ∃ n2, (ms.take (min ms.length 200))[i3]? = some n2 := ⟨_, List.getElem?_eq_getElem (by rw [List.length_take]; omega)⟩
              have hxn2 := map_at ntz hn2
              have hnk2 : n2.Ok := hok2 n2 (List.mem_of_mem_take (List.mem_of_getElem? hn2))
              have hI2 := does_inv hJ (by omega) n2
              have hB2 := does_byt hnk2 hB3
              have hE0 := hI2.eq false
              have hE1 := hI2.eq true
              have hbb0 := b_equal _ _ (hI2.byt hB2 false) (hI2.byt hB2 false)
              have hbb1 := b_equal _ _ (hI2.byt hB2 true) (hI2.byt hB2 true)
              rw [decide_eq_true rfl] at hbb0 hbb1
              refine AWP.skip ?_
              refine AWP.seq ?_
              refine AWP.block ?_
              refine AWP.seq ?_
              refine AWP.region ?_
              refine n_indexAddr rfl Try.underlying138 ti151 rfl nrShA0 nrShA0 (by omega) (by exact hxn2) rfl ?_
              refine n_load rfl ti151 nrShA0 nrShA0 rfl nrShA0 ?_
              refine n_alloc rfl zi151 rfl nrShA0 nrShA0 ?_
              refine n_store ti151 nrShA0 nrShA0 nrShA0 rfl nrShA0 rfl rfl rfl nrShA0 ?_
              refine AOps.nil ?_
              refine AWP.seq ?_
              refine AWP.region ?_
              refine n_move rfl nrShA0 ?_
              refine n_load rfl ti151 nrShA0 nrShA0 rfl nrShA0 ?_
              refine op_callK (dst := some 130) rfl cf110 rfl (Eq.trans (by simp only [nl] <;> rfl) nrShA0) (does_any l2 r4 _ hr2.app (hJ.gd (by omega)) n2 hnk2 _ (fun r5 S5 h5 => ?_))
              refine AOps.nil ?_
              refine AWP.seq ?_
              refine AWP.region ?_
              refine n_move rfl nrShA0 ?_
              refine AOps.nil ?_
              refine AWP.block ?_
              refine AWP.loop (α := Nat) (fun q => q ≤ 2) (fun q => put (put (put (put (put empty 10 (.bp 0 0)) 122 (.sl none ((ms.take (min ms.length 200)).map ntz) .ro)) 123 (vi ((min ms.length 200 : Nat) : Int))) 124 (vi (i3 : Int))) 131 (vi (q : Int))) (fun _ => .box (lbx (l2.does n2) r5) :: S5) (fun q => 2 - q) 0 ?_ ?_ ?_ ?_
              · exact Nat.zero_le _
              · (repeat (first | exact FLe.empty _ | refine FLe.put ?_ ?_)) <;> first | (simp only [nf, nfV, Nat.beq]; done) | rfl | ((try simp only [nf, nfV, Nat.beq]); first | rfl | (simp only [List.length_map]; done) | (congr 2; omega; done))
              · rfl
              · intro q hq
                obtain rfl | rfl | rfl : q = 0 ∨ q = 1 ∨ q = 2 := by omega
                · refine AWP.seq ?_
                  refine AWP.region ?_
                  refine n_ibin rfl nrShA0 nrShA0 rfl ?_
                  refine AOps.nil ?_
                  refine AWP.seq ?_
                  refine AWP.cond_true nrShA0 ?_
                  refine AWP.skip ?_
                  refine AWP.seq ?_
                  refine AWP.block ?_
                  refine AWP.seq ?_
                  refine AWP.region ?_
                  refine n_move rfl nrShA0 ?_
                  refine n_assign rfl nrShA0 ?_
                  refine AOps.nil ?_
                  refine AWP.seq ?_
                  refine AWP.anyStill (by kernel_rfl) (by kernel_rfl) ?_
                  refine Walk.still (rs := [10]) (by rfl) nrShA0 (fun base => by
                      refine n_move rfl nrShA0 ?_
                      exact AOps.nil ⟨rfl, rfl, rfl⟩) ?_
                  refine Walk.still (rs := [21]) (by rfl) nrShA0 (fun base => by
                      refine n_move rfl nrShA0 ?_
                      exact AOps.nil ⟨rfl, rfl, rfl⟩) ?_
                  refine Walk.still (rs := [134]) (by rfl) nrShA0 (fun base => by
                      refine n_nilCheck rfl nrShA0 rfl ?_
                      exact AOps.nil ⟨rfl, rfl, rfl⟩) ?_
                  refine Walk.still (rs := [136]) (by rfl) nrShA0 (fun base => by
                      refine n_fieldAddr rfl fd149_3 ti147 rfl nrShA0 rfl nrShA0 ?_
                      exact AOps.nil ⟨rfl, rfl, rfl⟩) ?_
                  refine Walk.still (rs := [137, 135]) (by rfl) nrShA0 (fun base => by
                      refine n_arrAddr (q := 15) rfl Try.underlying147 ti22 nrShA0 nrShA0 (by decide) (by decide) rfl ?_
                      exact AOps.nil ⟨rfl, rfl, rfl⟩) ?_
                  refine Walk.still (rs := [138]) (by rfl) nrShA0 (fun base => by
                      refine n_load rfl ti22 nrShA0 nrShA0 rfl nrShA0 ?_
                      exact AOps.nil ⟨rfl, rfl, rfl⟩) ?_
                  refine Walk.still (rs := [139]) (by rfl) nrShA0 (fun base => by
                      refine n_len rfl Try.underlying22 nrShA0 (by first | rw [ints_length] | rw [List.length_map] | rfl) ?_
                      exact AOps.nil ⟨rfl, rfl, rfl⟩) ?_
                  refine Walk.still (rs := [10]) (by rfl) nrShA0 (fun base => by
                      refine n_move rfl nrShA0 ?_
                      exact AOps.nil ⟨rfl, rfl, rfl⟩) ?_
                  refine Walk.still (rs := [21]) (by rfl) nrShA0 (fun base => by
                      refine n_move rfl nrShA0 ?_
                      exact AOps.nil ⟨rfl, rfl, rfl⟩) ?_
                  refine Walk.still (rs := [141]) (by rfl) nrShA0 (fun base => by
                      refine n_nilCheck rfl nrShA0 rfl ?_
                      exact AOps.nil ⟨rfl, rfl, rfl⟩) ?_
                  refine Walk.still (rs := [143]) (by rfl) nrShA0 (fun base => by
                      refine n_fieldAddr rfl fd149_2 ti147 rfl nrShA0 rfl nrShA0 ?_
                      exact AOps.nil ⟨rfl, rfl, rfl⟩) ?_
                  refine Walk.still (rs := [144, 142]) (by rfl) nrShA0 (fun base => by
                      refine n_arrAddr (q := 13) rfl Try.underlying147 ti22 nrShA0 nrShA0 (by decide) (by decide) rfl ?_
                      exact AOps.nil ⟨rfl, rfl, rfl⟩) ?_
                  refine Walk.still (rs := [145]) (by rfl) nrShA0 (fun base => by
                      refine n_load rfl ti22 nrShA0 nrShA0 rfl nrShA0 ?_
                      exact AOps.nil ⟨rfl, rfl, rfl⟩) ?_
                  refine Walk.still (rs := [146]) (by rfl) nrShA0 (fun base => by
                      refine n_len rfl Try.underlying22 nrShA0 (by first | rw [ints_length] | rw [List.length_map] | rfl) ?_
                      exact AOps.nil ⟨rfl, rfl, rfl⟩) ?_
                  refine Walk.still (rs := [140, 147]) (by rfl) nrShA0 (fun base => by
                      refine n_ibin (v := .bool false) rfl nrShA0 nrShA0 (by show some (Value.bool (decide _)) = _; rw [decide_eq_false (by omega)]) ?_
                      exact AOps.nil ⟨rfl, rfl, rfl⟩) ?_
                  refine Walk.still (rs := [148]) (by rfl) nrShA0 (fun base => by
                      refine n_move rfl nrShA0 ?_
                      exact AOps.nil ⟨rfl, rfl, rfl⟩) ?_
                  refine Walk.still (rs := [10, 149]) (by rfl) nrShA0 (fun base => by
                      refine n_guard_yes rfl rfl rfl nrShA0 rfl ?_
                      refine n_move rfl nrShA0 ?_
                      exact AOps.nil ⟨rfl, rfl, rfl⟩) ?_
                  refine Walk.still (rs := [21, 149]) (by rfl) nrShA0 (fun base => by
                      refine n_guard_yes rfl rfl rfl nrShA0 rfl ?_
                      refine n_move rfl nrShA0 ?_
                      exact AOps.nil ⟨rfl, rfl, rfl⟩) ?_
                  refine Walk.still (rs := [150, 149]) (by rfl) nrShA0 (fun base => by
                      refine n_guard_yes rfl rfl rfl nrShA0 rfl ?_
                      refine n_nilCheck rfl nrShA0 rfl ?_
                      exact AOps.nil ⟨rfl, rfl, rfl⟩) ?_
                  refine Walk.still (rs := [152, 149]) (by rfl) nrShA0 (fun base => by
                      refine n_guard_yes rfl rfl rfl nrShA0 rfl ?_
                      refine n_fieldAddr rfl fd149_3 ti147 rfl nrShA0 rfl nrShA0 ?_
                      exact AOps.nil ⟨rfl, rfl, rfl⟩) ?_
                  refine Walk.still (rs := [153, 151, 149]) (by rfl) nrShA0 (fun base => by
                      refine n_guard_yes rfl rfl rfl nrShA0 rfl ?_
                      refine n_arrAddr (q := 15) rfl Try.underlying147 ti22 nrShA0 nrShA0 (by decide) (by decide) rfl ?_
                      exact AOps.nil ⟨rfl, rfl, rfl⟩) ?_
                  refine Walk.still (rs := [154, 149]) (by rfl) nrShA0 (fun base => by
                      refine n_guard_yes rfl rfl rfl nrShA0 rfl ?_
                      refine n_load rfl ti22 nrShA0 nrShA0 rfl nrShA0 ?_
                      exact AOps.nil ⟨rfl, rfl, rfl⟩) ?_
                  refine Walk.still (rs := [10, 149]) (by rfl) nrShA0 (fun base => by
                      refine n_guard_yes rfl rfl rfl nrShA0 rfl ?_
                      refine n_move rfl nrShA0 ?_
                      exact AOps.nil ⟨rfl, rfl, rfl⟩) ?_
                  refine Walk.still (rs := [21, 149]) (by rfl) nrShA0 (fun base => by
                      refine n_guard_yes rfl rfl rfl nrShA0 rfl ?_
                      refine n_move rfl nrShA0 ?_
                      exact AOps.nil ⟨rfl, rfl, rfl⟩) ?_
                  refine Walk.still (rs := [156, 149]) (by rfl) nrShA0 (fun base => by
                      refine n_guard_yes rfl rfl rfl nrShA0 rfl ?_
                      refine n_nilCheck rfl nrShA0 rfl ?_
                      exact AOps.nil ⟨rfl, rfl, rfl⟩) ?_
                  refine Walk.still (rs := [158, 149]) (by rfl) nrShA0 (fun base => by
                      refine n_guard_yes rfl rfl rfl nrShA0 rfl ?_
                      refine n_fieldAddr rfl fd149_2 ti147 rfl nrShA0 rfl nrShA0 ?_
                      exact AOps.nil ⟨rfl, rfl, rfl⟩) ?_
                  refine Walk.still (rs := [159, 157, 149]) (by rfl) nrShA0 (fun base => by
                      refine n_guard_yes rfl rfl rfl nrShA0 rfl ?_
                      refine n_arrAddr (q := 13) rfl Try.underlying147 ti22 nrShA0 nrShA0 (by decide) (by decide) rfl ?_
                      exact AOps.nil ⟨rfl, rfl, rfl⟩) ?_
                  refine Walk.still (rs := [160, 149]) (by rfl) nrShA0 (fun base => by
                      refine n_guard_yes rfl rfl rfl nrShA0 rfl ?_
                      refine n_load rfl ti22 nrShA0 nrShA0 rfl nrShA0 ?_
                      exact AOps.nil ⟨rfl, rfl, rfl⟩) ?_
                  refine Walk.still (rs := [10, 149]) (by rfl) nrShA0 (fun base => by
                      refine n_guard_yes rfl rfl rfl nrShA0 rfl ?_
                      refine n_move rfl nrShA0 ?_
                      exact AOps.nil ⟨rfl, rfl, rfl⟩) ?_
                  refine Walk.still (rs := [21, 149]) (by rfl) nrShA0 (fun base => by
                      refine n_guard_yes rfl rfl rfl nrShA0 rfl ?_
                      refine n_move rfl nrShA0 ?_
                      exact AOps.nil ⟨rfl, rfl, rfl⟩) ?_
                  refine Walk.still (rs := [162, 149]) (by rfl) nrShA0 (fun base => by
                      refine n_guard_yes rfl rfl rfl nrShA0 rfl ?_
                      refine n_nilCheck rfl nrShA0 rfl ?_
                      exact AOps.nil ⟨rfl, rfl, rfl⟩) ?_
                  refine Walk.still (rs := [164, 149]) (by rfl) nrShA0 (fun base => by
                      refine n_guard_yes rfl rfl rfl nrShA0 rfl ?_
                      refine n_fieldAddr rfl fd149_3 ti147 rfl nrShA0 rfl nrShA0 ?_
                      exact AOps.nil ⟨rfl, rfl, rfl⟩) ?_
                  refine Walk.still (rs := [165, 163, 149]) (by rfl) nrShA0 (fun base => by
                      refine n_guard_yes rfl rfl rfl nrShA0 rfl ?_
                      refine n_arrAddr (q := 15) rfl Try.underlying147 ti22 nrShA0 nrShA0 (by decide) (by decide) rfl ?_
                      exact AOps.nil ⟨rfl, rfl, rfl⟩) ?_
                  refine Walk.still (rs := [166, 149]) (by rfl) nrShA0 (fun base => by
                      refine n_guard_yes rfl rfl rfl nrShA0 rfl ?_
                      refine n_load rfl ti22 nrShA0 nrShA0 rfl nrShA0 ?_
                      exact AOps.nil ⟨rfl, rfl, rfl⟩) ?_
                  refine Walk.still (rs := [167, 149]) (by rfl) nrShA0 (fun base => by
                      refine n_guard_yes rfl rfl rfl nrShA0 rfl ?_
                      refine n_len rfl Try.underlying22 nrShA0 (by first | rw [ints_length] | rw [List.length_map] | rfl) ?_
                      exact AOps.nil ⟨rfl, rfl, rfl⟩) ?_
                  refine Walk.still (rs := [161, 168, 149]) (by rfl) nrShA0 (fun base => by
                      refine n_guard_yes rfl rfl rfl nrShA0 rfl ?_
                      refine n_slice (k := 0) (h := ((l2.does n2).came false).length) (ys := ints .u8 ((l2.does n2).came false)) rfl Try.underlying22 ti5 nrShA0 (SB.some nrShA0 (by first | rfl | omega)) SB.none (by omega) (by rw [ints_length]; exact hE0.1) (ints_one _ _) (by rw [List.drop_zero, ints_take, hE0.2]) ?_
                      exact AOps.nil ⟨rfl, rfl, rfl⟩) ?_
                  refine Walk.still (rs := [155, 169, 149]) (by rfl) nrShA0 (fun base => by
                      refine n_guard_yes rfl rfl rfl nrShA0 rfl ?_
                      refine n_call0B rfl cf40 rfl (Eq.trans (by simp only [nl] <;> rfl) nrShA0) (by repeat (first | exact .nil | refine .cons ?_ ?_ | exact ren_ints | exact .lf (.val _) | exact .lf (lf_ints (.inl rfl)) | exact .bp ⟨rfl, rfl⟩ | exact .bp (.inl ⟨rfl, rfl⟩) | exact .bp (.inr ⟨rfl, rfl⟩) | exact .lf (lf_fnrp (sqz_lf _)) | exact .lf (.rp (sqz_lf _)) | exact ren_qe | exact .lf (lf_sqz _) | exact .lf (lf_qe (.inl rfl)) | exact ren_sqz rfl | exact ren_sqz0 rfl | exact ren_bys0 rfl | exact .lf (D.flat_lf rfl) | exact ren_lits rfl | exact .lf (lf_ssz _) | exact .lf (lf_pqz _) | exact ren_q0 rfl | exact ren_pq rfl | exact ren_nl0 | exact ren_sq | exact .lf (.fn (fun d h => by cases h) (fun d h => by cases h)))) (hbb0) lfShA0 ?_
                      exact AOps.nil ⟨rfl, rfl, rfl⟩) ?_
                  refine Walk.still (rs := [170, 149]) (by rfl) nrShA0 (fun base => by
                      refine n_guard_yes rfl rfl rfl nrShA0 rfl ?_
                      refine n_not rfl nrShA0 rfl ?_
                      exact AOps.nil ⟨rfl, rfl, rfl⟩) ?_
                  refine Walk.still (rs := [149, 171]) (by rfl) nrShA0 (fun base => by
                      refine n_pick rfl nrShA0 nrShA0 ?_
                      exact AOps.nil ⟨rfl, rfl, rfl⟩) ?_
                  refine Walk.done ?_
                  refine AWP.cond_false nrShA0 ?_
                  refine AWP.skip ?_
                  refine AWP.region ?_
                  first | refine n_iadd rfl nrShA0 nrShA0 rfl (by omega) (by omega) ?_ | refine n_ibin rfl nrShA0 nrShA0 rfl ?_
                  refine n_move rfl nrShA0 ?_
                  refine AOps.nil ?_
                  refine ⟨1, by omega, ?_, rfl, by omega⟩
                  (repeat (first | exact FLe.empty _ | refine FLe.put ?_ ?_)) <;> first | (simp only [nf, nfV, Nat.beq]; done) | rfl | ((try simp only [nf, nfV, Nat.beq]); first | rfl | (simp only [List.length_map]; done) | (congr 2; omega; done))
                · refine AWP.seq ?_
                  refine AWP.region ?_
                  refine n_ibin rfl nrShA0 nrShA0 rfl ?_
                  refine AOps.nil ?_
                  refine AWP.seq ?_
                  refine AWP.cond_true nrShA0 ?_
                  refine AWP.skip ?_
                  refine AWP.seq ?_
                  refine AWP.block ?_
                  refine AWP.seq ?_
                  refine AWP.region ?_
                  refine n_move rfl nrShA0 ?_
                  refine n_assign rfl nrShA0 ?_
                  refine AOps.nil ?_
                  refine AWP.seq ?_
                  refine AWP.anyStill (by kernel_rfl) (by kernel_rfl) ?_
                  refine Walk.still (rs := [10]) (by rfl) nrShA0 (fun base => by
                      refine n_move rfl nrShA0 ?_
                      exact AOps.nil ⟨rfl, rfl, rfl⟩) ?_
                  refine Walk.still (rs := [21]) (by rfl) nrShA0 (fun base => by
                      refine n_move rfl nrShA0 ?_
                      exact AOps.nil ⟨rfl, rfl, rfl⟩) ?_
                  refine Walk.still (rs := [134]) (by rfl) nrShA0 (fun base => by
                      refine n_nilCheck rfl nrShA0 rfl ?_
                      exact AOps.nil ⟨rfl, rfl, rfl⟩) ?_
                  refine Walk.still (rs := [136]) (by rfl) nrShA0 (fun base => by
                      refine n_fieldAddr rfl fd149_3 ti147 rfl nrShA0 rfl nrShA0 ?_
                      exact AOps.nil ⟨rfl, rfl, rfl⟩) ?_
                  refine Walk.still (rs := [137, 135]) (by rfl) nrShA0 (fun base => by
                      refine n_arrAddr (q := 16) rfl Try.underlying147 ti22 nrShA0 nrShA0 (by decide) (by decide) rfl ?_
                      exact AOps.nil ⟨rfl, rfl, rfl⟩) ?_
                  refine Walk.still (rs := [138]) (by rfl) nrShA0 (fun base => by
                      refine n_load rfl ti22 nrShA0 nrShA0 rfl nrShA0 ?_
                      exact AOps.nil ⟨rfl, rfl, rfl⟩) ?_
                  refine Walk.still (rs := [139]) (by rfl) nrShA0 (fun base => by
                      refine n_len rfl Try.underlying22 nrShA0 (by first | rw [ints_length] | rw [List.length_map] | rfl) ?_
                      exact AOps.nil ⟨rfl, rfl, rfl⟩) ?_
                  refine Walk.still (rs := [10]) (by rfl) nrShA0 (fun base => by
                      refine n_move rfl nrShA0 ?_
                      exact AOps.nil ⟨rfl, rfl, rfl⟩) ?_
                  refine Walk.still (rs := [21]) (by rfl) nrShA0 (fun base => by
                      refine n_move rfl nrShA0 ?_
                      exact AOps.nil ⟨rfl, rfl, rfl⟩) ?_
                  refine Walk.still (rs := [141]) (by rfl) nrShA0 (fun base => by
                      refine n_nilCheck rfl nrShA0 rfl ?_
                      exact AOps.nil ⟨rfl, rfl, rfl⟩) ?_
                  refine Walk.still (rs := [143]) (by rfl) nrShA0 (fun base => by
                      refine n_fieldAddr rfl fd149_2 ti147 rfl nrShA0 rfl nrShA0 ?_
                      exact AOps.nil ⟨rfl, rfl, rfl⟩) ?_
                  refine Walk.still (rs := [144, 142]) (by rfl) nrShA0 (fun base => by
                      refine n_arrAddr (q := 14) rfl Try.underlying147 ti22 nrShA0 nrShA0 (by decide) (by decide) rfl ?_
                      exact AOps.nil ⟨rfl, rfl, rfl⟩) ?_
                  refine Walk.still (rs := [145]) (by rfl) nrShA0 (fun base => by
                      refine n_load rfl ti22 nrShA0 nrShA0 rfl nrShA0 ?_
                      exact AOps.nil ⟨rfl, rfl, rfl⟩) ?_
                  refine Walk.still (rs := [146]) (by rfl) nrShA0 (fun base => by
                      refine n_len rfl Try.underlying22 nrShA0 (by first | rw [ints_length] | rw [List.length_map] | rfl) ?_
                      exact AOps.nil ⟨rfl, rfl, rfl⟩) ?_
                  refine Walk.still (rs := [140, 147]) (by rfl) nrShA0 (fun base => by
                      refine n_ibin (v := .bool false) rfl nrShA0 nrShA0 (by show some (Value.bool (decide _)) = _; rw [decide_eq_false (by omega)]) ?_
                      exact AOps.nil ⟨rfl, rfl, rfl⟩) ?_
                  refine Walk.still (rs := [148]) (by rfl) nrShA0 (fun base => by
                      refine n_move rfl nrShA0 ?_
                      exact AOps.nil ⟨rfl, rfl, rfl⟩) ?_
                  refine Walk.still (rs := [10, 149]) (by rfl) nrShA0 (fun base => by
                      refine n_guard_yes rfl rfl rfl nrShA0 rfl ?_
                      refine n_move rfl nrShA0 ?_
                      exact AOps.nil ⟨rfl, rfl, rfl⟩) ?_
                  refine Walk.still (rs := [21, 149]) (by rfl) nrShA0 (fun base => by
                      refine n_guard_yes rfl rfl rfl nrShA0 rfl ?_
                      refine n_move rfl nrShA0 ?_
                      exact AOps.nil ⟨rfl, rfl, rfl⟩) ?_
                  refine Walk.still (rs := [150, 149]) (by rfl) nrShA0 (fun base => by
                      refine n_guard_yes rfl rfl rfl nrShA0 rfl ?_
                      refine n_nilCheck rfl nrShA0 rfl ?_
                      exact AOps.nil ⟨rfl, rfl, rfl⟩) ?_
                  refine Walk.still (rs := [152, 149]) (by rfl) nrShA0 (fun base => by
                      refine n_guard_yes rfl rfl rfl nrShA0 rfl ?_
                      refine n_fieldAddr rfl fd149_3 ti147 rfl nrShA0 rfl nrShA0 ?_
                      exact AOps.nil ⟨rfl, rfl, rfl⟩) ?_
                  refine Walk.still (rs := [153, 151, 149]) (by rfl) nrShA0 (fun base => by
                      refine n_guard_yes rfl rfl rfl nrShA0 rfl ?_
                      refine n_arrAddr (q := 16) rfl Try.underlying147 ti22 nrShA0 nrShA0 (by decide) (by decide) rfl ?_
                      exact AOps.nil ⟨rfl, rfl, rfl⟩) ?_
                  refine Walk.still (rs := [154, 149]) (by rfl) nrShA0 (fun base => by
                      refine n_guard_yes rfl rfl rfl nrShA0 rfl ?_
                      refine n_load rfl ti22 nrShA0 nrShA0 rfl nrShA0 ?_
                      exact AOps.nil ⟨rfl, rfl, rfl⟩) ?_
                  refine Walk.still (rs := [10, 149]) (by rfl) nrShA0 (fun base => by
                      refine n_guard_yes rfl rfl rfl nrShA0 rfl ?_
                      refine n_move rfl nrShA0 ?_
                      exact AOps.nil ⟨rfl, rfl, rfl⟩) ?_
                  refine Walk.still (rs := [21, 149]) (by rfl) nrShA0 (fun base => by
                      refine n_guard_yes rfl rfl rfl nrShA0 rfl ?_
                      refine n_move rfl nrShA0 ?_
                      exact AOps.nil ⟨rfl, rfl, rfl⟩) ?_
                  refine Walk.still (rs := [156, 149]) (by rfl) nrShA0 (fun base => by
                      refine n_guard_yes rfl rfl rfl nrShA0 rfl ?_
                      refine n_nilCheck rfl nrShA0 rfl ?_
                      exact AOps.nil ⟨rfl, rfl, rfl⟩) ?_
                  refine Walk.still (rs := [158, 149]) (by rfl) nrShA0 (fun base => by
                      refine n_guard_yes rfl rfl rfl nrShA0 rfl ?_
                      refine n_fieldAddr rfl fd149_2 ti147 rfl nrShA0 rfl nrShA0 ?_
                      exact AOps.nil ⟨rfl, rfl, rfl⟩) ?_
                  refine Walk.still (rs := [159, 157, 149]) (by rfl) nrShA0 (fun base => by
                      refine n_guard_yes rfl rfl rfl nrShA0 rfl ?_
                      refine n_arrAddr (q := 14) rfl Try.underlying147 ti22 nrShA0 nrShA0 (by decide) (by decide) rfl ?_
                      exact AOps.nil ⟨rfl, rfl, rfl⟩) ?_
                  refine Walk.still (rs := [160, 149]) (by rfl) nrShA0 (fun base => by
                      refine n_guard_yes rfl rfl rfl nrShA0 rfl ?_
                      refine n_load rfl ti22 nrShA0 nrShA0 rfl nrShA0 ?_
                      exact AOps.nil ⟨rfl, rfl, rfl⟩) ?_
                  refine Walk.still (rs := [10, 149]) (by rfl) nrShA0 (fun base => by
                      refine n_guard_yes rfl rfl rfl nrShA0 rfl ?_
                      refine n_move rfl nrShA0 ?_
                      exact AOps.nil ⟨rfl, rfl, rfl⟩) ?_
                  refine Walk.still (rs := [21, 149]) (by rfl) nrShA0 (fun base => by
                      refine n_guard_yes rfl rfl rfl nrShA0 rfl ?_
                      refine n_move rfl nrShA0 ?_
                      exact AOps.nil ⟨rfl, rfl, rfl⟩) ?_
                  refine Walk.still (rs := [162, 149]) (by rfl) nrShA0 (fun base => by
                      refine n_guard_yes rfl rfl rfl nrShA0 rfl ?_
                      refine n_nilCheck rfl nrShA0 rfl ?_
                      exact AOps.nil ⟨rfl, rfl, rfl⟩) ?_
                  refine Walk.still (rs := [164, 149]) (by rfl) nrShA0 (fun base => by
                      refine n_guard_yes rfl rfl rfl nrShA0 rfl ?_
                      refine n_fieldAddr rfl fd149_3 ti147 rfl nrShA0 rfl nrShA0 ?_
                      exact AOps.nil ⟨rfl, rfl, rfl⟩) ?_
                  refine Walk.still (rs := [165, 163, 149]) (by rfl) nrShA0 (fun base => by
                      refine n_guard_yes rfl rfl rfl nrShA0 rfl ?_
                      refine n_arrAddr (q := 16) rfl Try.underlying147 ti22 nrShA0 nrShA0 (by decide) (by decide) rfl ?_
                      exact AOps.nil ⟨rfl, rfl, rfl⟩) ?_
                  refine Walk.still (rs := [166, 149]) (by rfl) nrShA0 (fun base => by
                      refine n_guard_yes rfl rfl rfl nrShA0 rfl ?_
                      refine n_load rfl ti22 nrShA0 nrShA0 rfl nrShA0 ?_
                      exact AOps.nil ⟨rfl, rfl, rfl⟩) ?_
                  refine Walk.still (rs := [167, 149]) (by rfl) nrShA0 (fun base => by
                      refine n_guard_yes rfl rfl rfl nrShA0 rfl ?_
                      refine n_len rfl Try.underlying22 nrShA0 (by first | rw [ints_length] | rw [List.length_map] | rfl) ?_
                      exact AOps.nil ⟨rfl, rfl, rfl⟩) ?_
                  refine Walk.still (rs := [161, 168, 149]) (by rfl) nrShA0 (fun base => by
                      refine n_guard_yes rfl rfl rfl nrShA0 rfl ?_
                      refine n_slice (k := 0) (h := ((l2.does n2).came true).length) (ys := ints .u8 ((l2.does n2).came true)) rfl Try.underlying22 ti5 nrShA0 (SB.some nrShA0 (by first | rfl | omega)) SB.none (by omega) (by rw [ints_length]; exact hE1.1) (ints_one _ _) (by rw [List.drop_zero, ints_take, hE1.2]) ?_
                      exact AOps.nil ⟨rfl, rfl, rfl⟩) ?_
                  refine Walk.still (rs := [155, 169, 149]) (by rfl) nrShA0 (fun base => by
                      refine n_guard_yes rfl rfl rfl nrShA0 rfl ?_
                      refine n_call0B rfl cf40 rfl (Eq.trans (by simp only [nl] <;> rfl) nrShA0) (by repeat (first | exact .nil | refine .cons ?_ ?_ | exact ren_ints | exact .lf (.val _) | exact .lf (lf_ints (.inl rfl)) | exact .bp ⟨rfl, rfl⟩ | exact .bp (.inl ⟨rfl, rfl⟩) | exact .bp (.inr ⟨rfl, rfl⟩) | exact .lf (lf_fnrp (sqz_lf _)) | exact .lf (.rp (sqz_lf _)) | exact ren_qe | exact .lf (lf_sqz _) | exact .lf (lf_qe (.inl rfl)) | exact ren_sqz rfl | exact ren_sqz0 rfl | exact ren_bys0 rfl | exact .lf (D.flat_lf rfl) | exact ren_lits rfl | exact .lf (lf_ssz _) | exact .lf (lf_pqz _) | exact ren_q0 rfl | exact ren_pq rfl | exact ren_nl0 | exact ren_sq | exact .lf (.fn (fun d h => by cases h) (fun d h => by cases h)))) (hbb1) lfShA0 ?_
                      exact AOps.nil ⟨rfl, rfl, rfl⟩) ?_
                  refine Walk.still (rs := [170, 149]) (by rfl) nrShA0 (fun base => by
                      refine n_guard_yes rfl rfl rfl nrShA0 rfl ?_
                      refine n_not rfl nrShA0 rfl ?_
                      exact AOps.nil ⟨rfl, rfl, rfl⟩) ?_
                  refine Walk.still (rs := [149, 171]) (by rfl) nrShA0 (fun base => by
                      refine n_pick rfl nrShA0 nrShA0 ?_
                      exact AOps.nil ⟨rfl, rfl, rfl⟩) ?_
                  refine Walk.done ?_
                  refine AWP.cond_false nrShA0 ?_
                  refine AWP.skip ?_
                  refine AWP.region ?_
                  first | refine n_iadd rfl nrShA0 nrShA0 rfl (by omega) (by omega) ?_ | refine n_ibin rfl nrShA0 nrShA0 rfl ?_
                  refine n_move rfl nrShA0 ?_
                  refine AOps.nil ?_
                  refine ⟨2, by omega, ?_, rfl, by omega⟩
                  (repeat (first | exact FLe.empty _ | refine FLe.put ?_ ?_)) <;> first | (simp only [nf, nfV, Nat.beq]; done) | rfl | ((try simp only [nf, nfV, Nat.beq]); first | rfl | (simp only [List.length_map]; done) | (congr 2; omega; done))
                · refine AWP.seq ?_
                  refine AWP.region ?_
                  refine n_ibin rfl nrShA0 nrShA0 rfl ?_
                  refine AOps.nil ?_
                  refine AWP.seq ?_
                  refine AWP.cond_false nrShA0 ?_
                  refine AWP.exit ?_
                  refine AWP.region ?_
                  first | refine n_iadd rfl nrShA0 nrShA0 rfl (by omega) (by omega) ?_ | refine n_ibin rfl nrShA0 nrShA0 rfl ?_
                  refine n_move rfl nrShA0 ?_
                  refine AOps.nil ?_
                  refine ⟨(i3 + 1, l2.does n2, r5, S5), ⟨by omega, hI2, h5, hB2⟩, ?_, rfl, by omega⟩
                  (repeat (first | exact FLe.empty _ | refine FLe.put ?_ ?_)) <;> first | (simp only [nf, nfV, Nat.beq]; done) | rfl | ((try simp only [nf, nfV, Nat.beq]); first | rfl | (simp only [List.length_map]; done) | (congr 2; omega; done))
            · try simp only [nh] at hc8
              refine AWP.exit ?_
              refine AWP.seq ?_
              refine AWP.region ?_
              refine n_assign rfl nrShA0 ?_
              refine AOps.nil ?_
              refine AWP.ret ?_
              refine fin_pure (.cons (rv_tmp nrShA0) .nil) nrShA0 ?_
              first | exact ren_flat rfl rfl | exact ren_flat rfl (congrArg vb (by simp))

set_option maxHeartbeats 4000000 in
theorem Anew_1 (ns ms : List Nt) (hok : ∀ n ∈ ns, n.Ok) (hn : ns.length ≤ 1048576) (hok2 : ∀ n ∈ ms, n.Ok) (hm : ms.length ≤ 1048576) : Does Try.prog 22 [.sl none (ns.map ntz) .ro, (.sl none (ms.map ntz) .ro), vb true] [] (vb true) [] := by
  refine Does.of_body (rvs := [.tmp 6]) Try.func22 rfl rfl rfl rfl ?_
  have hnew := l_new 9
  rw [show posN 9 = true from by decide, if_pos rfl, show Ss.new 9 = ⟨9, 0, 0, 0, 1⟩ from rfl] at hnew
  refine AWP.seq ?_
  refine AWP.reserve _ nrShA0 ?_
  refine AWP.region ?_
  refine n_assign rfl nrShA0 ?_
  refine AOps.nil ?_
  refine AWP.seq ?_
  refine AWP.seq ?_
  refine AWP.region ?_
  refine n_call0B rfl cf108 rfl (Eq.trans (by simp only [nl] <;> rfl) nrShA0) (by repeat (first | exact .nil | refine .cons ?_ ?_ | exact ren_ints | exact .lf (.val _) | exact .lf (lf_ints (.inl rfl)) | exact .bp ⟨rfl, rfl⟩ | exact .bp (.inl ⟨rfl, rfl⟩) | exact .bp (.inr ⟨rfl, rfl⟩) | exact .lf (lf_fnrp (sqz_lf _)) | exact .lf (.rp (sqz_lf _)) | exact ren_qe | exact .lf (lf_sqz _) | exact .lf (lf_qe (.inl rfl)) | exact ren_sqz rfl | exact ren_sqz0 rfl | exact ren_bys0 rfl | exact .lf (D.flat_lf rfl) | exact ren_lits rfl | exact .lf (lf_ssz _) | exact .lf (lf_pqz _) | exact ren_q0 rfl | exact ren_pq rfl | exact ren_nl0 | exact ren_sq | exact .lf (.fn (fun d h => by cases h) (fun d h => by cases h)))) (live) lfShA0 ?_
  refine n_not rfl nrShA0 rfl ?_
  refine AOps.nil ?_
  refine AWP.cond_false nrShA0 ?_
  refine AWP.skip ?_
  refine AWP.seq ?_
  refine AWP.region ?_
  refine n_call0B rfl cf109 rfl (Eq.trans (by simp only [nl] <;> rfl) nrShA0) (by repeat (first | exact .nil | refine .cons ?_ ?_ | exact ren_ints | exact .lf (.val _) | exact .lf (lf_ints (.inl rfl)) | exact .bp ⟨rfl, rfl⟩ | exact .bp (.inl ⟨rfl, rfl⟩) | exact .bp (.inr ⟨rfl, rfl⟩) | exact .lf (lf_fnrp (sqz_lf _)) | exact .lf (.rp (sqz_lf _)) | exact ren_qe | exact .lf (lf_sqz _) | exact .lf (lf_qe (.inl rfl)) | exact ren_sqz rfl | exact ren_sqz0 rfl | exact ren_bys0 rfl | exact .lf (D.flat_lf rfl) | exact ren_lits rfl | exact .lf (lf_ssz _) | exact .lf (lf_pqz _) | exact ren_q0 rfl | exact ren_pq rfl | exact ren_nl0 | exact ren_sq | exact .lf (.fn (fun d h => by cases h) (fun d h => by cases h)))) (pair) lfShA0 ?_
  refine n_move rfl nrShA0 ?_
  refine n_extract rfl nrShA0 rfl ?_
  refine n_extract rfl nrShA0 rfl ?_
  refine n_extract rfl nrShA0 rfl ?_
  refine n_alloc rfl zi141 rfl nrShA0 nrShA0 ?_
  refine n_alloc rfl zi141 rfl nrShA0 nrShA0 ?_
  refine n_store ti141 nrShA0 nrShA0 nrShA0 rfl nrShA0 rfl rfl rfl nrShA0 ?_
  refine n_store ti141 nrShA0 nrShA0 nrShA0 rfl nrShA0 rfl rfl rfl nrShA0 ?_
  refine n_assign rfl nrShA0 ?_
  refine AOps.nil ?_
  refine AWP.seq ?_
  refine AWP.seq ?_
  refine AWP.region ?_
  refine n_move rfl nrShA0 ?_
  refine n_not rfl nrShA0 rfl ?_
  refine AOps.nil ?_
  refine AWP.cond_false nrShA0 ?_
  refine AWP.skip ?_
  refine AWP.seq ?_
  refine AWP.region ?_
  refine n_load rfl ti141 nrShA0 nrShA0 rfl nrShA0 ?_
  refine n_load rfl ti141 nrShA0 nrShA0 rfl nrShA0 ?_
  refine n_build2 rfl Try.underlying145 ti141 zi145 rfl nrShA0 nrShA0 rfl ?_
  refine n_build rfl si149 (Eq.trans (by simp only [nl] <;> rfl) nrShA0) (Eq.trans (by simp only [nl] <;> rfl) nrShA0) rfl ?_
  refine n_boxAt 0 rfl nrShA0 rfl nrShA0 rfl nrShA0 ?_
  refine n_assign rfl nrShA0 ?_
  refine AOps.nil ?_
  refine AWP.seq ?_
  refine AWP.seq ?_
  refine AWP.adoptBox (j := 0) (i := 12) (m := 0) (sz := 6) (S' := [Ob.box [vi 5, vi 7, vi 0, vi 0, vi 1, .sl none [] .ro, vi 7, vi 5, vi 0, vi 0, vi 1, .sl none [] .ro, .sl none [] (.own 3), .sl (some true) [] .full, .sl (some true) [] .full, .sl (some true) [] .full, .sl (some true) [] .full], Ob.box (ssz ⟨5, 7, 0, 0, 1⟩), Ob.box (ssz ⟨7, 5, 0, 0, 1⟩), Ob.row 0 6]) rfl rfl rfl rfl rfl ?_
  refine AWP.adoptBox (j := 0) (i := 13) (m := 0) (sz := 1) (S' := [Ob.box [vi 5, vi 7, vi 0, vi 0, vi 1, .sl none [] .ro, vi 7, vi 5, vi 0, vi 0, vi 1, .sl none [] .ro, .sl none [] (.own 3), .sl none [] (.own 4), .sl (some true) [] .full, .sl (some true) [] .full, .sl (some true) [] .full], Ob.box (ssz ⟨5, 7, 0, 0, 1⟩), Ob.box (ssz ⟨7, 5, 0, 0, 1⟩), Ob.row 0 6, Ob.row 0 1]) rfl rfl rfl rfl rfl ?_
  refine AWP.adoptBox (j := 0) (i := 14) (m := 0) (sz := 1) (S' := [Ob.box [vi 5, vi 7, vi 0, vi 0, vi 1, .sl none [] .ro, vi 7, vi 5, vi 0, vi 0, vi 1, .sl none [] .ro, .sl none [] (.own 3), .sl none [] (.own 4), .sl none [] (.own 5), .sl (some true) [] .full, .sl (some true) [] .full], Ob.box (ssz ⟨5, 7, 0, 0, 1⟩), Ob.box (ssz ⟨7, 5, 0, 0, 1⟩), Ob.row 0 6, Ob.row 0 1, Ob.row 0 1]) rfl rfl rfl rfl rfl ?_
  refine AWP.adoptBox (j := 0) (i := 15) (m := 0) (sz := 1) (S' := [Ob.box [vi 5, vi 7, vi 0, vi 0, vi 1, .sl none [] .ro, vi 7, vi 5, vi 0, vi 0, vi 1, .sl none [] .ro, .sl none [] (.own 3), .sl none [] (.own 4), .sl none [] (.own 5), .sl none [] (.own 6), .sl (some true) [] .full], Ob.box (ssz ⟨5, 7, 0, 0, 1⟩), Ob.box (ssz ⟨7, 5, 0, 0, 1⟩), Ob.row 0 6, Ob.row 0 1, Ob.row 0 1, Ob.row 0 1]) rfl rfl rfl rfl rfl ?_
  refine AWP.adoptBox (j := 0) (i := 16) (m := 0) (sz := 1) (S' := [Ob.box [vi 5, vi 7, vi 0, vi 0, vi 1, .sl none [] .ro, vi 7, vi 5, vi 0, vi 0, vi 1, .sl none [] .ro, .sl none [] (.own 3), .sl none [] (.own 4), .sl none [] (.own 5), .sl none [] (.own 6), .sl none [] (.own 7)], Ob.box (ssz ⟨5, 7, 0, 0, 1⟩), Ob.box (ssz ⟨7, 5, 0, 0, 1⟩), Ob.row 0 6, Ob.row 0 1, Ob.row 0 1, Ob.row 0 1, Ob.row 0 1]) rfl rfl rfl rfl rfl ?_
  refine AWP.region ?_
  refine n_move rfl nrShA0 ?_
  refine n_move rfl nrShA0 ?_
  refine n_len rfl Try.underlying138 nrShA0 (by first | rw [ints_length] | rw [List.length_map] | rfl) ?_
  refine n_min (T2 := #[]) (c := ((min ns.length 200 : Nat) : Int)) rfl nrShA0 nrShA0 (by split <;> omega) ?_
  refine n_slice (k := 0) (h := min ns.length 200) (ys := (ns.take (min ns.length 200)).map ntz) rfl Try.underlying138 ti151 nrShA0 (SB.some nrShA0 (by first | rfl | omega)) SB.none (by omega) (by rw [List.length_map]; omega) (by exact map_one (f := ntz) (fun _ => rfl)) (by rw [List.drop_zero, List.map_take]) ?_
  refine n_len rfl Try.underlying138 nrShA0 (n := ((min ns.length 200 : Nat) : Int)) (by rw [List.length_map, List.length_take]; omega) ?_
  refine n_move rfl nrShA0 ?_
  refine AOps.nil ?_
  refine AWP.block ?_
  refine AWP.loop (α := Nat × Ln × (Nat → Nat) × List Ob) (fun q => q.1 ≤ min ns.length 200 ∧ Inv B0 [] q.2.1 q.1 ∧ Rw q.2.1 q.2.2.1 q.2.2.2) (fun q => put (put (put (put (put (put empty 1 (.sl none (ms.map ntz) .ro)) 2 (vb true)) 10 (.bp 0 0)) 40 (.sl none ((ns.take (min ns.length 200)).map ntz) .ro)) 41 (vi ((min ns.length 200 : Nat) : Int))) 42 (vi (q.1 : Int))) (fun q => .box (lbx q.2.1 q.2.2.1) :: q.2.2.2) (fun q => min ns.length 200 - q.1) (0, l0, (fun k => k + 2), [Ob.box (ssz ⟨5, 7, 0, 0, 1⟩), Ob.box (ssz ⟨7, 5, 0, 0, 1⟩), Ob.row 0 6, Ob.row 0 1, Ob.row 0 1, Ob.row 0 1, Ob.row 0 1]) ?_ ?_ ?_ ?_
  · exact ⟨Nat.zero_le _, inv0, rw0 _ _ rfl (fun _ => rfl) (fun _ => rfl)⟩
  · (repeat (first | exact FLe.empty _ | refine FLe.put ?_ ?_)) <;> first | (simp only [nf, nfV, Nat.beq]; done) | rfl | ((try simp only [nf, nfV, Nat.beq]); first | rfl | (simp only [List.length_map]; done) | (congr 2; omega; done))
  · rfl
  · rintro ⟨i, l, r, S1⟩ ⟨hi, hI, hr⟩
    dsimp only at hi hI hr ⊢
    refine AWP.seq ?_
    refine AWP.region ?_
    refine n_ibin rfl nrShA0 nrShA0 rfl ?_
    refine AOps.nil ?_
    refine AWP.seq ?_
    refine AWP.cond nrShA0 (fun hc3 => ?_) (fun hc3 => ?_)
    · try simp only [nh] at hc3
      obtain ⟨n, hn0⟩ : ∃ n, (ns.take (min ns.length 200))[i]? = some n := ⟨_, List.getElem?_eq_getElem (by rw [List.length_take]; omega)⟩
      have hxn := map_at ntz hn0
      have hnk : n.Ok := hok n (List.mem_of_mem_take (List.mem_of_getElem? hn0))
      refine AWP.skip ?_
      refine AWP.seq ?_
      refine AWP.block ?_
      refine AWP.seq ?_
      refine AWP.region ?_
      refine n_indexAddr rfl Try.underlying138 ti151 rfl nrShA0 nrShA0 (by omega) (by exact hxn) rfl ?_
      refine n_load rfl ti151 nrShA0 nrShA0 rfl nrShA0 ?_
      refine n_alloc rfl zi151 rfl nrShA0 nrShA0 ?_
      refine n_store ti151 nrShA0 nrShA0 nrShA0 rfl nrShA0 rfl rfl rfl nrShA0 ?_
      refine AOps.nil ?_
      refine AWP.region ?_
      refine n_move rfl nrShA0 ?_
      refine n_load rfl ti151 nrShA0 nrShA0 rfl nrShA0 ?_
      refine op_callK (dst := some 48) rfl cf110 rfl (Eq.trans (by simp only [nl] <;> rfl) nrShA0) (does_any l r _ hr.app (hI.gd (by omega)) n hnk _ (fun r2 S2 h2 => ?_))
      refine AOps.nil ?_
      refine AWP.region ?_
      first | refine n_iadd rfl nrShA0 nrShA0 rfl (by omega) (by omega) ?_ | refine n_ibin rfl nrShA0 nrShA0 rfl ?_
      refine n_move rfl nrShA0 ?_
      refine AOps.nil ?_
      refine ⟨(i + 1, l.does n, r2, S2), ⟨by omega, does_inv hI (by omega) n, h2⟩, ?_, rfl, by omega⟩
      (repeat (first | exact FLe.empty _ | refine FLe.put ?_ ?_)) <;> first | (simp only [nf, nfV, Nat.beq]; done) | rfl | ((try simp only [nf, nfV, Nat.beq]); first | rfl | (simp only [List.length_map]; done) | (congr 2; omega; done))
    · try simp only [nh] at hc3
      have hI0 := more_n hI (m := 200) (by omega)
      clear hI
      have hbl := hI0.bl
      refine AWP.exit ?_
      refine AWP.seq ?_
      refine AWP.region ?_
      refine n_assign rfl nrShA0 ?_
      refine AOps.nil ?_
      refine AWP.seq ?_
      refine AWP.seq ?_
      refine AWP.region ?_
      refine n_move rfl nrShA0 ?_
      refine AOps.nil ?_
      refine AWP.cond_true nrShA0 ?_
      refine AWP.region ?_
      refine n_assign rfl nrShA0 ?_
      refine AOps.nil ?_
      refine AWP.seq ?_
      refine AWP.region ?_
      refine n_move rfl nrShA0 ?_
      refine n_nilCheck rfl nrShA0 rfl ?_
      refine n_fieldAddr rfl fd149_1 ti146 rfl nrShA0 rfl nrShA0 ?_
      refine n_load rfl ti146 nrShA0 nrShA0 rfl nrShA0 ?_
      refine n_assign rfl nrShA0 ?_
      refine AOps.nil ?_
      refine AWP.seq ?_
      refine AWP.region ?_
      refine n_call0B rfl cf114 rfl (Eq.trans (by simp only [nl] <;> rfl) nrShA0) (by repeat (first | exact .nil | refine .cons ?_ ?_ | exact ren_ints | exact .lf (.val _) | exact .lf (lf_ints (.inl rfl)) | exact .bp ⟨rfl, rfl⟩ | exact .bp (.inl ⟨rfl, rfl⟩) | exact .bp (.inr ⟨rfl, rfl⟩) | exact .lf (lf_fnrp (sqz_lf _)) | exact .lf (.rp (sqz_lf _)) | exact ren_qe | exact .lf (lf_sqz _) | exact .lf (lf_qe (.inl rfl)) | exact ren_sqz rfl | exact ren_sqz0 rfl | exact ren_bys0 rfl | exact .lf (D.flat_lf rfl) | exact ren_lits rfl | exact .lf (lf_ssz _) | exact .lf (lf_pqz _) | exact ren_q0 rfl | exact ren_pq rfl | exact ren_nl0 | exact ren_sq | exact .lf (.fn (fun d h => by cases h) (fun d h => by cases h)))) (hnew) lfShA0 ?_
      refine n_move rfl nrShA0 ?_
      refine n_extract rfl nrShA0 rfl ?_
      refine n_extract rfl nrShA0 rfl ?_
      refine n_alloc rfl zi141 rfl nrShA0 nrShA0 ?_
      refine n_store ti141 nrShA0 nrShA0 nrShA0 rfl nrShA0 rfl rfl rfl nrShA0 ?_
      refine n_assign rfl nrShA0 ?_
      refine AOps.nil ?_
      refine AWP.seq ?_
      refine AWP.seq ?_
      refine AWP.region ?_
      refine n_move rfl nrShA0 ?_
      refine n_ibin rfl nrShA0 nrShA0 rfl ?_
      refine AOps.nil ?_
      refine AWP.cond_false nrShA0 ?_
      refine AWP.skip ?_
      refine AWP.seq ?_
      refine AWP.any1 6 (Ob.box (lbx { l with x := at2 l.x true (⟨9, 0, 0, 0, 1, []⟩ : Sq) } r) :: (S1 ++ [Ob.box (ssz ⟨9, 0, 0, 0, 1⟩)])) (by kernel_rfl) (by kernel_rfl) (by kernel_rfl) ?_
      refine Walk.ahead [6] (by rfl) (by kernel_rfl) (by rfl) (rs := [10]) (by rfl) nrShA0 (fun base => by
          refine n_move rfl nrShA0 ?_
          exact AOps.nil ⟨rfl, rfl, rfl⟩) ?_
      refine Walk.ahead [6] (by rfl) (by kernel_rfl) (by rfl) (rs := [13]) (by rfl) nrShA0 (fun base => by
          refine n_move rfl nrShA0 ?_
          exact AOps.nil ⟨rfl, rfl, rfl⟩) ?_
      refine Walk.ahead [6] (by rfl) (by kernel_rfl) (by rfl) (rs := [15]) (by rfl) nrShA0 (fun base => by
          refine n_load rfl ti141 nrShA0 nrShA0 rfl nrShA0 ?_
          exact AOps.nil ⟨rfl, rfl, rfl⟩) ?_
      refine Walk.ahead [4, 5, 6] (by rfl) (by kernel_rfl) (by rfl) (rs := [61]) (by rfl) nrShA0 (fun base => by
          refine n_nilCheck rfl nrShA0 rfl ?_
          exact AOps.nil ⟨rfl, rfl, rfl⟩) ?_
      refine Walk.ahead [5, 6] (by rfl) (by kernel_rfl) (by rfl) (rs := [64]) (by rfl) nrShA0 (fun base => by
          refine n_fieldAddr rfl fd149_0 ti145 rfl nrShA0 rfl nrShA0 ?_
          exact AOps.nil ⟨rfl, rfl, rfl⟩) ?_
      refine Walk.ahead [6] (by rfl) (by kernel_rfl) (by rfl) (rs := [65, 62]) (by rfl) nrShA0 (fun base => by
          refine n_arrAddr (q := 6) rfl Try.underlying145 ti141 nrShA0 nrShA0 (by decide) (by decide) rfl ?_
          exact AOps.nil ⟨rfl, rfl, rfl⟩) ?_
      refine Walk.writes (d := .any) (by rfl) (rs := [66, 63]) (by rfl) nrShA0 (fun base => by
          refine n_store ti141 nrShA0 nrShA0 nrShA0 rfl nrShA0 rfl rfl rfl nrShA0 ?_
          exact AOps.nil ⟨rfl, rfl, rfl⟩) ?_
      refine Walk.done ?_
      refine AWP.seq ?_
      refine AWP.region ?_
      refine n_move rfl nrShA0 ?_
      refine n_move rfl nrShA0 ?_
      refine n_isub (c := 0) rfl nrShA0 nrShA0 (by decide) (by decide) (by decide) ?_
      refine n_load rfl ti141 nrShA0 nrShA0 rfl nrShA0 ?_
      refine n_call0B rfl cf112 rfl (Eq.trans (by simp only [nl] <;> rfl) nrShA0) (by repeat (first | exact .nil | refine .cons ?_ ?_ | exact ren_ints | exact .lf (.val _) | exact .lf (lf_ints (.inl rfl)) | exact .bp ⟨rfl, rfl⟩ | exact .bp (.inl ⟨rfl, rfl⟩) | exact .bp (.inr ⟨rfl, rfl⟩) | exact .lf (lf_fnrp (sqz_lf _)) | exact .lf (.rp (sqz_lf _)) | exact ren_qe | exact .lf (lf_sqz _) | exact .lf (lf_qe (.inl rfl)) | exact ren_sqz rfl | exact ren_sqz0 rfl | exact ren_bys0 rfl | exact .lf (D.flat_lf rfl) | exact ren_lits rfl | exact .lf (lf_ssz _) | exact .lf (lf_pqz _) | exact ren_q0 rfl | exact ren_pq rfl | exact ren_nl0 | exact ren_sq | exact .lf (.fn (fun d h => by cases h) (fun d h => by cases h)))) (l_answerQ ⟨9, 0, 0, 0, 1, []⟩ (ok_new (by decide) (by decide))) lfShA0 ?_
      refine n_build rfl si161 (Eq.trans (by simp only [nl] <;> rfl) nrShA0) (Eq.trans (by simp only [nl] <;> rfl) nrShA0) rfl ?_
      refine op_callK (dst := some 73) rfl cf113 rfl (Eq.trans (by simp only [nl] <;> rfl) nrShA0) (takes_eq (l := anew l true) (l' := met1 l true) (w := ⟨false, (⟨9, 0, 0, 0, 1, []⟩ : Sq).pk 0 []⟩) (met_1 hI0 true) r _ (Rw.same (Rw.app hr) (fun j hj => by rcases j with _ | _ | _ | _ | _ | j <;> rfl)) (gd_anew (hI0.gd (by decide)) true) chk_9 _ (fun r2 S2 h2 => ?_))
      refine AOps.nil ?_
      refine AWP.seq ?_
      refine AWP.region ?_
      refine n_move rfl nrShA0 ?_
      refine n_move rfl nrShA0 ?_
      refine n_move rfl nrShA0 ?_
      refine n_move rfl nrShA0 ?_
      refine n_isub (c := 0) rfl nrShA0 nrShA0 (by decide) (by decide) (by decide) ?_
      refine n_nilCheck rfl nrShA0 rfl ?_
      refine n_fieldAddr rfl fd149_0 ti145 rfl nrShA0 rfl nrShA0 ?_
      refine n_arrAddr (q := 0) rfl Try.underlying145 ti141 nrShA0 nrShA0 (by decide) (by decide) rfl ?_
      refine n_load rfl ti141 nrShA0 nrShA0 rfl nrShA0 ?_
      refine n_call0B rfl cf112 rfl (Eq.trans (by simp only [nl] <;> rfl) nrShA0) (by repeat (first | exact .nil | refine .cons ?_ ?_ | exact ren_ints | exact .lf (.val _) | exact .lf (lf_ints (.inl rfl)) | exact .bp ⟨rfl, rfl⟩ | exact .bp (.inl ⟨rfl, rfl⟩) | exact .bp (.inr ⟨rfl, rfl⟩) | exact .lf (lf_fnrp (sqz_lf _)) | exact .lf (.rp (sqz_lf _)) | exact ren_qe | exact .lf (lf_sqz _) | exact .lf (lf_qe (.inl rfl)) | exact ren_sqz rfl | exact ren_sqz0 rfl | exact ren_bys0 rfl | exact .lf (D.flat_lf rfl) | exact ren_lits rfl | exact .lf (lf_ssz _) | exact .lf (lf_pqz _) | exact ren_q0 rfl | exact ren_pq rfl | exact ren_nl0 | exact ren_sq | exact .lf (.fn (fun d h => by cases h) (fun d h => by cases h)))) (l_answerQ ((met1 l true).x false) ((gd_met1 (hI0.gd (by decide)) true).ok false)) lfShA0 ?_
      refine n_build rfl si161 (Eq.trans (by simp only [nl] <;> rfl) nrShA0) (Eq.trans (by simp only [nl] <;> rfl) nrShA0) rfl ?_
      refine op_callK (dst := some 85) rfl cf113 rfl (Eq.trans (by simp only [nl] <;> rfl) nrShA0) (takes_eq (l := met1 l true) (l' := met l true) (w := ⟨true, ((met1 l true).x false).pk 0 []⟩) (met_2 hI0 true) r2 _ h2 (gd_met1 (hI0.gd (by decide)) true) (chk_b false) _ (fun r3 S3 h3 => ?_))
      refine AOps.nil ?_
      refine AWP.seq ?_
      refine AWP.region ?_
      refine n_move rfl nrShA0 ?_
      refine n_move rfl nrShA0 ?_
      refine n_build0 rfl Try.underlying147 ti22 zi147 rfl ?_
      refine n_build0 rfl Try.underlying147 ti22 zi147 rfl ?_
      refine n_nilCheck rfl nrShA0 rfl ?_
      refine n_fieldAddr rfl fd149_2 ti147 rfl nrShA0 rfl nrShA0 ?_
      refine n_store ti147 nrShA0 nrShA0 nrShA0 rfl nrShA0 rfl rfl rfl nrShA0 ?_
      refine n_nilCheck rfl nrShA0 rfl ?_
      refine n_fieldAddr rfl fd149_3 ti147 rfl nrShA0 rfl nrShA0 ?_
      refine n_store ti147 nrShA0 nrShA0 nrShA0 rfl nrShA0 rfl rfl rfl nrShA0 ?_
      refine AOps.nil ?_
      refine AWP.seq ?_
      refine AWP.seq ?_
      refine AWP.adoptBox (j := 0) (i := 13) (n := S3.length + 1) (m := 0) (sz := 1) (S' := Ob.box [vi ((met l true).x false).b, vi ((met l true).x false).p, vi ((met l true).x false).s, vi ((met l true).x false).a, vi ((met l true).x false).e, .sl none (((met l true).x false).q.map qe) .ro, vi ((met l true).x true).b, vi ((met l true).x true).p, vi ((met l true).x true).s, vi ((met l true).x true).a, vi ((met l true).x true).e, .sl none (((met l true).x true).q.map qe) .ro, .sl none (l.bag.map wyz) (.own (r3 0 + 1)), .sl none [] (.own (S3.length + 1)), .sl (some true) [] .full, .sl (some true) [] .full, .sl (some true) [] .full] :: (S3 ++ [Ob.row 0 1])) rfl rfl (by simp) rfl nrShA0 ?_
      refine AWP.adoptBox (j := 0) (i := 14) (n := S3.length + 2) (m := 0) (sz := 1) (S' := Ob.box [vi ((met l true).x false).b, vi ((met l true).x false).p, vi ((met l true).x false).s, vi ((met l true).x false).a, vi ((met l true).x false).e, .sl none (((met l true).x false).q.map qe) .ro, vi ((met l true).x true).b, vi ((met l true).x true).p, vi ((met l true).x true).s, vi ((met l true).x true).a, vi ((met l true).x true).e, .sl none (((met l true).x true).q.map qe) .ro, .sl none (l.bag.map wyz) (.own (r3 0 + 1)), .sl none [] (.own (S3.length + 1)), .sl none [] (.own (S3.length + 2)), .sl (some true) [] .full, .sl (some true) [] .full] :: (S3 ++ [Ob.row 0 1, Ob.row 0 1])) rfl rfl (by simp) rfl nrShA0 ?_
      refine AWP.adoptBox (j := 0) (i := 15) (n := S3.length + 3) (m := 0) (sz := 1) (S' := Ob.box [vi ((met l true).x false).b, vi ((met l true).x false).p, vi ((met l true).x false).s, vi ((met l true).x false).a, vi ((met l true).x false).e, .sl none (((met l true).x false).q.map qe) .ro, vi ((met l true).x true).b, vi ((met l true).x true).p, vi ((met l true).x true).s, vi ((met l true).x true).a, vi ((met l true).x true).e, .sl none (((met l true).x true).q.map qe) .ro, .sl none (l.bag.map wyz) (.own (r3 0 + 1)), .sl none [] (.own (S3.length + 1)), .sl none [] (.own (S3.length + 2)), .sl none [] (.own (S3.length + 3)), .sl (some true) [] .full] :: (S3 ++ [Ob.row 0 1, Ob.row 0 1, Ob.row 0 1])) rfl rfl (by simp) rfl nrShA0 ?_
      refine AWP.adoptBox (j := 0) (i := 16) (n := S3.length + 4) (m := 0) (sz := 1) (S' := Ob.box [vi ((met l true).x false).b, vi ((met l true).x false).p, vi ((met l true).x false).s, vi ((met l true).x false).a, vi ((met l true).x false).e, .sl none (((met l true).x false).q.map qe) .ro, vi ((met l true).x true).b, vi ((met l true).x true).p, vi ((met l true).x true).s, vi ((met l true).x true).a, vi ((met l true).x true).e, .sl none (((met l true).x true).q.map qe) .ro, .sl none (l.bag.map wyz) (.own (r3 0 + 1)), .sl none [] (.own (S3.length + 1)), .sl none [] (.own (S3.length + 2)), .sl none [] (.own (S3.length + 3)), .sl none [] (.own (S3.length + 4))] :: (S3 ++ [Ob.row 0 1, Ob.row 0 1, Ob.row 0 1, Ob.row 0 1])) rfl rfl (by simp) rfl nrShA0 ?_
      refine AWP.region ?_
      refine n_move rfl nrShA0 ?_
      refine n_len rfl Try.underlying146 nrShA0 (by first | rw [ints_length] | rw [List.length_map] | rfl) ?_
      refine n_move rfl nrShA0 ?_
      refine AOps.nil ?_
      refine AWP.block ?_
      refine AWP.asRo (t := 94) nrShA0 ?_
      refine AWP.loop (α := Nat × (Nat → Nat) × List Ob) (fun q => q.1 ≤ l.bag.length ∧ Rw (fresh (met l true)) q.2.1 q.2.2) (fun q => put (put (put (put (put empty 1 (.sl none (ms.map ntz) .ro)) 10 (.bp 0 0)) 94 (.sl none (l.bag.map wyz) .ro)) 95 (vi (l.bag.length : Int))) 96 (vi (q.1 : Int))) (fun q => .box (lbx (fresh (met l true)) q.2.1) :: q.2.2) (fun q => l.bag.length - q.1) (0, (fun j => if j = 0 then r3 0 else S3.length + (j - 1)), S3 ++ [Ob.row 0 1, Ob.row 0 1, Ob.row 0 1, Ob.row 0 1]) ?_ ?_ ?_ ?_
      · exact ⟨Nat.zero_le _, rw_fresh h3 rfl (fun _ => rfl) (fun _ => rfl)⟩
      · (repeat (first | exact FLe.empty _ | refine FLe.put ?_ ?_)) <;> first | (simp only [nf, nfV, Nat.beq]; done) | rfl | ((try simp only [nf, nfV, Nat.beq]); first | rfl | (simp only [List.length_map]; done) | (congr 2; omega; done))
      · rfl
      · rintro ⟨i2, r4, S4⟩ ⟨hi2, h4⟩
        dsimp only at hi2 h4 ⊢
        refine AWP.seq ?_
        refine AWP.region ?_
        refine n_ibin rfl nrShA0 nrShA0 rfl ?_
        refine AOps.nil ?_
        refine AWP.seq ?_
        refine AWP.cond nrShA0 (fun hc6 => ?_) (fun hc6 => ?_)
        · try simp only [nh] at hc6
          obtain ⟨w, hw0⟩ : ∃ w, l.bag[i2]? = some w := ⟨_, List.getElem?_eq_getElem (by omega)⟩
          have hxw := map_at wyz hw0
          have hwm := List.mem_of_getElem? hw0
          refine AWP.skip ?_
          refine AWP.seq ?_
          refine AWP.block ?_
          refine AWP.seq ?_
          refine AWP.region ?_
          refine n_indexAddr rfl Try.underlying146 ti161 rfl nrShA0 nrShA0 (by omega) (by exact hxw) rfl ?_
          refine n_load rfl ti161 nrShA0 nrShA0 rfl nrShA0 ?_
          refine n_alloc rfl zi161 rfl nrShA0 nrShA0 ?_
          refine n_store ti161 nrShA0 nrShA0 nrShA0 rfl nrShA0 rfl rfl rfl nrShA0 ?_
          refine AOps.nil ?_
          refine AWP.region ?_
          refine n_move rfl nrShA0 ?_
          refine n_load rfl ti161 nrShA0 nrShA0 rfl nrShA0 ?_
          refine op_callK (dst := some 102) rfl cf113 rfl (Eq.trans (by simp only [nl] <;> rfl) nrShA0) (takes_eq (l := (fresh (met l true))) (l' := (fresh (met l true))) (w := w) (old_dead hI0 true hwm) r4 _ h4.app ((inv1 hI0 true).gd (by decide)) (hI0.bag w hwm).1 _ (fun r5 S5 h5 => ?_))
          refine AOps.nil ?_
          refine AWP.region ?_
          first | refine n_iadd rfl nrShA0 nrShA0 rfl (by omega) (by omega) ?_ | refine n_ibin rfl nrShA0 nrShA0 rfl ?_
          refine n_move rfl nrShA0 ?_
          refine AOps.nil ?_
          refine ⟨(i2 + 1, r5, S5), ⟨by omega, h5⟩, ?_, rfl, by omega⟩
          (repeat (first | exact FLe.empty _ | refine FLe.put ?_ ?_)) <;> first | (simp only [nf, nfV, Nat.beq]; done) | rfl | ((try simp only [nf, nfV, Nat.beq]); first | rfl | (simp only [List.length_map]; done) | (congr 2; omega; done))
        · try simp only [nh] at hc6
          refine AWP.exit ?_
          refine AWP.seq ?_
          refine AWP.seq ?_
          refine AWP.anyStill (by kernel_rfl) (by kernel_rfl) ?_
          refine Walk.still (rs := [10]) (by rfl) nrShA0 (fun base => by
              refine n_move rfl nrShA0 ?_
              exact AOps.nil ⟨rfl, rfl, rfl⟩) ?_
          refine Walk.still (rs := [104]) (by rfl) nrShA0 (fun base => by
              refine n_nilCheck rfl nrShA0 rfl ?_
              exact AOps.nil ⟨rfl, rfl, rfl⟩) ?_
          refine Walk.still (rs := [105]) (by rfl) nrShA0 (fun base => by
              refine n_fieldAddr rfl fd149_3 ti147 rfl nrShA0 rfl nrShA0 ?_
              exact AOps.nil ⟨rfl, rfl, rfl⟩) ?_
          refine Walk.still (rs := [106]) (by rfl) nrShA0 (fun base => by
              refine n_arrAddr (q := 15) rfl Try.underlying147 ti22 nrShA0 nrShA0 (by decide) (by decide) rfl ?_
              exact AOps.nil ⟨rfl, rfl, rfl⟩) ?_
          refine Walk.still (rs := [107]) (by rfl) nrShA0 (fun base => by
              refine n_load rfl ti22 nrShA0 nrShA0 rfl nrShA0 ?_
              exact AOps.nil ⟨rfl, rfl, rfl⟩) ?_
          refine Walk.still (rs := [108]) (by rfl) nrShA0 (fun base => by
              refine n_len rfl Try.underlying22 nrShA0 (n := 0) rfl ?_
              exact AOps.nil ⟨rfl, rfl, rfl⟩) ?_
          refine Walk.still (rs := [10]) (by rfl) nrShA0 (fun base => by
              refine n_move rfl nrShA0 ?_
              exact AOps.nil ⟨rfl, rfl, rfl⟩) ?_
          refine Walk.still (rs := [110]) (by rfl) nrShA0 (fun base => by
              refine n_nilCheck rfl nrShA0 rfl ?_
              exact AOps.nil ⟨rfl, rfl, rfl⟩) ?_
          refine Walk.still (rs := [111]) (by rfl) nrShA0 (fun base => by
              refine n_fieldAddr rfl fd149_3 ti147 rfl nrShA0 rfl nrShA0 ?_
              exact AOps.nil ⟨rfl, rfl, rfl⟩) ?_
          refine Walk.still (rs := [112]) (by rfl) nrShA0 (fun base => by
              refine n_arrAddr (q := 16) rfl Try.underlying147 ti22 nrShA0 nrShA0 (by decide) (by decide) rfl ?_
              exact AOps.nil ⟨rfl, rfl, rfl⟩) ?_
          refine Walk.still (rs := [113]) (by rfl) nrShA0 (fun base => by
              refine n_load rfl ti22 nrShA0 nrShA0 rfl nrShA0 ?_
              exact AOps.nil ⟨rfl, rfl, rfl⟩) ?_
          refine Walk.still (rs := [114]) (by rfl) nrShA0 (fun base => by
              refine n_len rfl Try.underlying22 nrShA0 (n := 0) rfl ?_
              exact AOps.nil ⟨rfl, rfl, rfl⟩) ?_
          refine Walk.still (rs := [109, 115]) (by rfl) nrShA0 (fun base => by
              first | refine n_iadd rfl nrShA0 nrShA0 rfl (by omega) (by omega) ?_ | refine n_ibin rfl nrShA0 nrShA0 rfl ?_
              exact AOps.nil ⟨rfl, rfl, rfl⟩) ?_
          refine Walk.still (rs := [116]) (by rfl) nrShA0 (fun base => by
              refine n_ibin rfl nrShA0 nrShA0 rfl ?_
              exact AOps.nil ⟨rfl, rfl, rfl⟩) ?_
          refine Walk.done ?_
          refine AWP.cond_false nrShA0 ?_
          refine AWP.skip ?_
          refine AWP.seq ?_
          refine AWP.seq ?_
          refine AWP.region ?_
          refine n_move rfl nrShA0 ?_
          refine n_move rfl nrShA0 ?_
          refine n_len rfl Try.underlying138 nrShA0 (by first | rw [ints_length] | rw [List.length_map] | rfl) ?_
          refine n_min (T2 := #[]) (c := ((min ms.length 200 : Nat) : Int)) rfl nrShA0 nrShA0 (by split <;> omega) ?_
          refine n_slice (k := 0) (h := min ms.length 200) (ys := (ms.take (min ms.length 200)).map ntz) rfl Try.underlying138 ti151 nrShA0 (SB.some nrShA0 (by first | rfl | omega)) SB.none (by omega) (by rw [List.length_map]; omega) (by exact map_one (f := ntz) (fun _ => rfl)) (by rw [List.drop_zero, List.map_take]) ?_
          refine n_len rfl Try.underlying138 nrShA0 (n := ((min ms.length 200 : Nat) : Int)) (by rw [List.length_map, List.length_take]; omega) ?_
          refine n_move rfl nrShA0 ?_
          refine AOps.nil ?_
          refine AWP.block ?_
          refine AWP.loop (α := Nat × Ln × (Nat → Nat) × List Ob) (fun q => q.1 ≤ min ms.length 200 ∧ Inv (B1 true) l.bag q.2.1 (200 + q.1) ∧ Rw q.2.1 q.2.2.1 q.2.2.2 ∧ ∀ c, Byt (q.2.1.sent c)) (fun q => put (put (put (put empty 10 (.bp 0 0)) 122 (.sl none ((ms.take (min ms.length 200)).map ntz) .ro)) 123 (vi ((min ms.length 200 : Nat) : Int))) 124 (vi (q.1 : Int))) (fun q => .box (lbx q.2.1 q.2.2.1) :: q.2.2.2) (fun q => min ms.length 200 - q.1) (0, (fresh (met l true)), r4, S4) ?_ ?_ ?_ ?_
          · exact ⟨Nat.zero_le _, inv1 hI0 true, h4, fun c a h => by cases h⟩
          · (repeat (first | exact FLe.empty _ | refine FLe.put ?_ ?_)) <;> first | (simp only [nf, nfV, Nat.beq]; done) | rfl | ((try simp only [nf, nfV, Nat.beq]); first | rfl | (simp only [List.length_map]; done) | (congr 2; omega; done))
          · rfl
          · rintro ⟨i3, l2, r4, S4⟩ ⟨hi3, hJ, hr2, hB3⟩
            dsimp only at hi3 hJ hr2 hB3 ⊢
            refine AWP.seq ?_
            refine AWP.region ?_
            refine n_ibin rfl nrShA0 nrShA0 rfl ?_
            refine AOps.nil ?_
            refine AWP.seq ?_
            refine AWP.cond nrShA0 (fun hc8 => ?_) (fun hc8 => ?_)
            · try simp only [nh] at hc8
              obtain ⟨n2, hn2⟩ : ∃ n2, (ms.take (min ms.length 200))[i3]? = some n2 := ⟨_, List.getElem?_eq_getElem (by rw [List.length_take]; omega)⟩
              have hxn2 := map_at ntz hn2
              have hnk2 : n2.Ok := hok2 n2 (List.mem_of_mem_take (List.mem_of_getElem? hn2))
              have hI2 := does_inv hJ (by omega) n2
              have hB2 := does_byt hnk2 hB3
              have hE0 := hI2.eq false
              have hE1 := hI2.eq true
              have hbb0 := b_equal _ _ (hI2.byt hB2 false) (hI2.byt hB2 false)
              have hbb1 := b_equal _ _ (hI2.byt hB2 true) (hI2.byt hB2 true)
              rw [decide_eq_true rfl] at hbb0 hbb1
              refine AWP.skip ?_
              refine AWP.seq ?_
              refine AWP.block ?_
              refine AWP.seq ?_
              refine AWP.region ?_
              refine n_indexAddr rfl Try.underlying138 ti151 rfl nrShA0 nrShA0 (by omega) (by exact hxn2) rfl ?_
              refine n_load rfl ti151 nrShA0 nrShA0 rfl nrShA0 ?_
              refine n_alloc rfl zi151 rfl nrShA0 nrShA0 ?_
              refine n_store ti151 nrShA0 nrShA0 nrShA0 rfl nrShA0 rfl rfl rfl nrShA0 ?_
              refine AOps.nil ?_
              refine AWP.seq ?_
              refine AWP.region ?_
              refine n_move rfl nrShA0 ?_
              refine n_load rfl ti151 nrShA0 nrShA0 rfl nrShA0 ?_
              refine op_callK (dst := some 130) rfl cf110 rfl (Eq.trans (by simp only [nl] <;> rfl) nrShA0) (does_any l2 r4 _ hr2.app (hJ.gd (by omega)) n2 hnk2 _ (fun r5 S5 h5 => ?_))
              refine AOps.nil ?_
              refine AWP.seq ?_
              refine AWP.region ?_
              refine n_move rfl nrShA0 ?_
              refine AOps.nil ?_
              refine AWP.block ?_
              refine AWP.loop (α := Nat) (fun q => q ≤ 2) (fun q => put (put (put (put (put empty 10 (.bp 0 0)) 122 (.sl none ((ms.take (min ms.length 200)).map ntz) .ro)) 123 (vi ((min ms.length 200 : Nat) : Int))) 124 (vi (i3 : Int))) 131 (vi (q : Int))) (fun _ => .box (lbx (l2.does n2) r5) :: S5) (fun q => 2 - q) 0 ?_ ?_ ?_ ?_
              · exact Nat.zero_le _
              · (repeat (first | exact FLe.empty _ | refine FLe.put ?_ ?_)) <;> first | (simp only [nf, nfV, Nat.beq]; done) | rfl | ((try simp only [nf, nfV, Nat.beq]); first | rfl | (simp only [List.length_map]; done) | (congr 2; omega; done))
              · rfl
              · intro q hq
                obtain rfl | rfl | rfl : q = 0 ∨ q = 1 ∨ q = 2 := by omega
                · refine AWP.seq ?_
                  refine AWP.region ?_
                  refine n_ibin rfl nrShA0 nrShA0 rfl ?_
                  refine AOps.nil ?_
                  refine AWP.seq ?_
                  refine AWP.cond_true nrShA0 ?_
                  refine AWP.skip ?_
                  refine AWP.seq ?_
                  refine AWP.block ?_
                  refine AWP.seq ?_
                  refine AWP.region ?_
                  refine n_move rfl nrShA0 ?_
                  refine n_assign rfl nrShA0 ?_
                  refine AOps.nil ?_
                  refine AWP.seq ?_
                  refine AWP.anyStill (by kernel_rfl) (by kernel_rfl) ?_
                  refine Walk.still (rs := [10]) (by rfl) nrShA0 (fun base => by
                      refine n_move rfl nrShA0 ?_
                      exact AOps.nil ⟨rfl, rfl, rfl⟩) ?_
                  refine Walk.still (rs := [21]) (by rfl) nrShA0 (fun base => by
                      refine n_move rfl nrShA0 ?_
                      exact AOps.nil ⟨rfl, rfl, rfl⟩) ?_
                  refine Walk.still (rs := [134]) (by rfl) nrShA0 (fun base => by
                      refine n_nilCheck rfl nrShA0 rfl ?_
                      exact AOps.nil ⟨rfl, rfl, rfl⟩) ?_
                  refine Walk.still (rs := [136]) (by rfl) nrShA0 (fun base => by
                      refine n_fieldAddr rfl fd149_3 ti147 rfl nrShA0 rfl nrShA0 ?_
                      exact AOps.nil ⟨rfl, rfl, rfl⟩) ?_
                  refine Walk.still (rs := [137, 135]) (by rfl) nrShA0 (fun base => by
                      refine n_arrAddr (q := 15) rfl Try.underlying147 ti22 nrShA0 nrShA0 (by decide) (by decide) rfl ?_
                      exact AOps.nil ⟨rfl, rfl, rfl⟩) ?_
                  refine Walk.still (rs := [138]) (by rfl) nrShA0 (fun base => by
                      refine n_load rfl ti22 nrShA0 nrShA0 rfl nrShA0 ?_
                      exact AOps.nil ⟨rfl, rfl, rfl⟩) ?_
                  refine Walk.still (rs := [139]) (by rfl) nrShA0 (fun base => by
                      refine n_len rfl Try.underlying22 nrShA0 (by first | rw [ints_length] | rw [List.length_map] | rfl) ?_
                      exact AOps.nil ⟨rfl, rfl, rfl⟩) ?_
                  refine Walk.still (rs := [10]) (by rfl) nrShA0 (fun base => by
                      refine n_move rfl nrShA0 ?_
                      exact AOps.nil ⟨rfl, rfl, rfl⟩) ?_
                  refine Walk.still (rs := [21]) (by rfl) nrShA0 (fun base => by
                      refine n_move rfl nrShA0 ?_
                      exact AOps.nil ⟨rfl, rfl, rfl⟩) ?_
                  refine Walk.still (rs := [141]) (by rfl) nrShA0 (fun base => by
                      refine n_nilCheck rfl nrShA0 rfl ?_
                      exact AOps.nil ⟨rfl, rfl, rfl⟩) ?_
                  refine Walk.still (rs := [143]) (by rfl) nrShA0 (fun base => by
                      refine n_fieldAddr rfl fd149_2 ti147 rfl nrShA0 rfl nrShA0 ?_
                      exact AOps.nil ⟨rfl, rfl, rfl⟩) ?_
                  refine Walk.still (rs := [144, 142]) (by rfl) nrShA0 (fun base => by
                      refine n_arrAddr (q := 13) rfl Try.underlying147 ti22 nrShA0 nrShA0 (by decide) (by decide) rfl ?_
                      exact AOps.nil ⟨rfl, rfl, rfl⟩) ?_
                  refine Walk.still (rs := [145]) (by rfl) nrShA0 (fun base => by
                      refine n_load rfl ti22 nrShA0 nrShA0 rfl nrShA0 ?_
                      exact AOps.nil ⟨rfl, rfl, rfl⟩) ?_
                  refine Walk.still (rs := [146]) (by rfl) nrShA0 (fun base => by
                      refine n_len rfl Try.underlying22 nrShA0 (by first | rw [ints_length] | rw [List.length_map] | rfl) ?_
                      exact AOps.nil ⟨rfl, rfl, rfl⟩) ?_
                  refine Walk.still (rs := [140, 147]) (by rfl) nrShA0 (fun base => by
                      refine n_ibin (v := .bool false) rfl nrShA0 nrShA0 (by show some (Value.bool (decide _)) = _; rw [decide_eq_false (by omega)]) ?_
                      exact AOps.nil ⟨rfl, rfl, rfl⟩) ?_
                  refine Walk.still (rs := [148]) (by rfl) nrShA0 (fun base => by
                      refine n_move rfl nrShA0 ?_
                      exact AOps.nil ⟨rfl, rfl, rfl⟩) ?_
                  refine Walk.still (rs := [10, 149]) (by rfl) nrShA0 (fun base => by
                      refine n_guard_yes rfl rfl rfl nrShA0 rfl ?_
                      refine n_move rfl nrShA0 ?_
                      exact AOps.nil ⟨rfl, rfl, rfl⟩) ?_
                  refine Walk.still (rs := [21, 149]) (by rfl) nrShA0 (fun base => by
                      refine n_guard_yes rfl rfl rfl nrShA0 rfl ?_
                      refine n_move rfl nrShA0 ?_
                      exact AOps.nil ⟨rfl, rfl, rfl⟩) ?_
                  refine Walk.still (rs := [150, 149]) (by rfl) nrShA0 (fun base => by
                      refine n_guard_yes rfl rfl rfl nrShA0 rfl ?_
                      refine n_nilCheck rfl nrShA0 rfl ?_
                      exact AOps.nil ⟨rfl, rfl, rfl⟩) ?_
                  refine Walk.still (rs := [152, 149]) (by rfl) nrShA0 (fun base => by
                      refine n_guard_yes rfl rfl rfl nrShA0 rfl ?_
                      refine n_fieldAddr rfl fd149_3 ti147 rfl nrShA0 rfl nrShA0 ?_
                      exact AOps.nil ⟨rfl, rfl, rfl⟩) ?_
                  refine Walk.still (rs := [153, 151, 149]) (by rfl) nrShA0 (fun base => by
                      refine n_guard_yes rfl rfl rfl nrShA0 rfl ?_
                      refine n_arrAddr (q := 15) rfl Try.underlying147 ti22 nrShA0 nrShA0 (by decide) (by decide) rfl ?_
                      exact AOps.nil ⟨rfl, rfl, rfl⟩) ?_
                  refine Walk.still (rs := [154, 149]) (by rfl) nrShA0 (fun base => by
                      refine n_guard_yes rfl rfl rfl nrShA0 rfl ?_
                      refine n_load rfl ti22 nrShA0 nrShA0 rfl nrShA0 ?_
                      exact AOps.nil ⟨rfl, rfl, rfl⟩) ?_
                  refine Walk.still (rs := [10, 149]) (by rfl) nrShA0 (fun base => by
                      refine n_guard_yes rfl rfl rfl nrShA0 rfl ?_
                      refine n_move rfl nrShA0 ?_
                      exact AOps.nil ⟨rfl, rfl, rfl⟩) ?_
                  refine Walk.still (rs := [21, 149]) (by rfl) nrShA0 (fun base => by
                      refine n_guard_yes rfl rfl rfl nrShA0 rfl ?_
                      refine n_move rfl nrShA0 ?_
                      exact AOps.nil ⟨rfl, rfl, rfl⟩) ?_
                  refine Walk.still (rs := [156, 149]) (by rfl) nrShA0 (fun base => by
                      refine n_guard_yes rfl rfl rfl nrShA0 rfl ?_
                      refine n_nilCheck rfl nrShA0 rfl ?_
                      exact AOps.nil ⟨rfl, rfl, rfl⟩) ?_
                  refine Walk.still (rs := [158, 149]) (by rfl) nrShA0 (fun base => by
                      refine n_guard_yes rfl rfl rfl nrShA0 rfl ?_
                      refine n_fieldAddr rfl fd149_2 ti147 rfl nrShA0 rfl nrShA0 ?_
                      exact AOps.nil ⟨rfl, rfl, rfl⟩) ?_
                  refine Walk.still (rs := [159, 157, 149]) (by rfl) nrShA0 (fun base => by
                      refine n_guard_yes rfl rfl rfl nrShA0 rfl ?_
                      refine n_arrAddr (q := 13) rfl Try.underlying147 ti22 nrShA0 nrShA0 (by decide) (by decide) rfl ?_
                      exact AOps.nil ⟨rfl, rfl, rfl⟩) ?_
                  refine Walk.still (rs := [160, 149]) (by rfl) nrShA0 (fun base => by
                      refine n_guard_yes rfl rfl rfl nrShA0 rfl ?_
                      refine n_load rfl ti22 nrShA0 nrShA0 rfl nrShA0 ?_
                      exact AOps.nil ⟨rfl, rfl, rfl⟩) ?_
                  refine Walk.still (rs := [10, 149]) (by rfl) nrShA0 (fun base => by
                      refine n_guard_yes rfl rfl rfl nrShA0 rfl ?_
                      refine n_move rfl nrShA0 ?_
                      exact AOps.nil ⟨rfl, rfl, rfl⟩) ?_
                  refine Walk.still (rs := [21, 149]) (by rfl) nrShA0 (fun base => by
                      refine n_guard_yes rfl rfl rfl nrShA0 rfl ?_
                      refine n_move rfl nrShA0 ?_
                      exact AOps.nil ⟨rfl, rfl, rfl⟩) ?_
                  refine Walk.still (rs := [162, 149]) (by rfl) nrShA0 (fun base => by
                      refine n_guard_yes rfl rfl rfl nrShA0 rfl ?_
                      refine n_nilCheck rfl nrShA0 rfl ?_
                      exact AOps.nil ⟨rfl, rfl, rfl⟩) ?_
                  refine Walk.still (rs := [164, 149]) (by rfl) nrShA0 (fun base => by
                      refine n_guard_yes rfl rfl rfl nrShA0 rfl ?_
                      refine n_fieldAddr rfl fd149_3 ti147 rfl nrShA0 rfl nrShA0 ?_
                      exact AOps.nil ⟨rfl, rfl, rfl⟩) ?_
                  refine Walk.still (rs := [165, 163, 149]) (by rfl) nrShA0 (fun base => by
                      refine n_guard_yes rfl rfl rfl nrShA0 rfl ?_
                      refine n_arrAddr (q := 15) rfl Try.underlying147 ti22 nrShA0 nrShA0 (by decide) (by decide) rfl ?_
                      exact AOps.nil ⟨rfl, rfl, rfl⟩) ?_
                  refine Walk.still (rs := [166, 149]) (by rfl) nrShA0 (fun base => by
                      refine n_guard_yes rfl rfl rfl nrShA0 rfl ?_
                      refine n_load rfl ti22 nrShA0 nrShA0 rfl nrShA0 ?_
                      exact AOps.nil ⟨rfl, rfl, rfl⟩) ?_
                  refine Walk.still (rs := [167, 149]) (by rfl) nrShA0 (fun base => by
                      refine n_guard_yes rfl rfl rfl nrShA0 rfl ?_
                      refine n_len rfl Try.underlying22 nrShA0 (by first | rw [ints_length] | rw [List.length_map] | rfl) ?_
                      exact AOps.nil ⟨rfl, rfl, rfl⟩) ?_
                  refine Walk.still (rs := [161, 168, 149]) (by rfl) nrShA0 (fun base => by
                      refine n_guard_yes rfl rfl rfl nrShA0 rfl ?_
                      refine n_slice (k := 0) (h := ((l2.does n2).came false).length) (ys := ints .u8 ((l2.does n2).came false)) rfl Try.underlying22 ti5 nrShA0 (SB.some nrShA0 (by first | rfl | omega)) SB.none (by omega) (by rw [ints_length]; exact hE0.1) (ints_one _ _) (by rw [List.drop_zero, ints_take, hE0.2]) ?_
                      exact AOps.nil ⟨rfl, rfl, rfl⟩) ?_
                  refine Walk.still (rs := [155, 169, 149]) (by rfl) nrShA0 (fun base => by
                      refine n_guard_yes rfl rfl rfl nrShA0 rfl ?_
                      refine n_call0B rfl cf40 rfl (Eq.trans (by simp only [nl] <;> rfl) nrShA0) (by repeat (first | exact .nil | refine .cons ?_ ?_ | exact ren_ints | exact .lf (.val _) | exact .lf (lf_ints (.inl rfl)) | exact .bp ⟨rfl, rfl⟩ | exact .bp (.inl ⟨rfl, rfl⟩) | exact .bp (.inr ⟨rfl, rfl⟩) | exact .lf (lf_fnrp (sqz_lf _)) | exact .lf (.rp (sqz_lf _)) | exact ren_qe | exact .lf (lf_sqz _) | exact .lf (lf_qe (.inl rfl)) | exact ren_sqz rfl | exact ren_sqz0 rfl | exact ren_bys0 rfl | exact .lf (D.flat_lf rfl) | exact ren_lits rfl | exact .lf (lf_ssz _) | exact .lf (lf_pqz _) | exact ren_q0 rfl | exact ren_pq rfl | exact ren_nl0 | exact ren_sq | exact .lf (.fn (fun d h => by cases h) (fun d h => by cases h)))) (hbb0) lfShA0 ?_
                      exact AOps.nil ⟨rfl, rfl, rfl⟩) ?_
                  refine Walk.still (rs := [170, 149]) (by rfl) nrShA0 (fun base => by
                      refine n_guard_yes rfl rfl rfl nrShA0 rfl ?_
                      refine n_not rfl nrShA0 rfl ?_
                      exact AOps.nil ⟨rfl, rfl, rfl⟩) ?_
                  refine Walk.still (rs := [149, 171]) (by rfl) nrShA0 (fun base => by
                      refine n_pick rfl nrShA0 nrShA0 ?_
                      exact AOps.nil ⟨rfl, rfl, rfl⟩) ?_
                  refine Walk.done ?_
                  refine AWP.cond_false nrShA0 ?_
                  refine AWP.skip ?_
                  refine AWP.region ?_
                  first | refine n_iadd rfl nrShA0 nrShA0 rfl (by omega) (by omega) ?_ | refine n_ibin rfl nrShA0 nrShA0 rfl ?_
                  refine n_move rfl nrShA0 ?_
                  refine AOps.nil ?_
                  refine ⟨1, by omega, ?_, rfl, by omega⟩
                  (repeat (first | exact FLe.empty _ | refine FLe.put ?_ ?_)) <;> first | (simp only [nf, nfV, Nat.beq]; done) | rfl | ((try simp only [nf, nfV, Nat.beq]); first | rfl | (simp only [List.length_map]; done) | (congr 2; omega; done))
                · refine AWP.seq ?_
                  refine AWP.region ?_
                  refine n_ibin rfl nrShA0 nrShA0 rfl ?_
                  refine AOps.nil ?_
                  refine AWP.seq ?_
                  refine AWP.cond_true nrShA0 ?_
                  refine AWP.skip ?_
                  refine AWP.seq ?_
                  refine AWP.block ?_
                  refine AWP.seq ?_
                  refine AWP.region ?_
                  refine n_move rfl nrShA0 ?_
                  refine n_assign rfl nrShA0 ?_
                  refine AOps.nil ?_
                  refine AWP.seq ?_
                  refine AWP.anyStill (by kernel_rfl) (by kernel_rfl) ?_
                  refine Walk.still (rs := [10]) (by rfl) nrShA0 (fun base => by
                      refine n_move rfl nrShA0 ?_
                      exact AOps.nil ⟨rfl, rfl, rfl⟩) ?_
                  refine Walk.still (rs := [21]) (by rfl) nrShA0 (fun base => by
                      refine n_move rfl nrShA0 ?_
                      exact AOps.nil ⟨rfl, rfl, rfl⟩) ?_
                  refine Walk.still (rs := [134]) (by rfl) nrShA0 (fun base => by
                      refine n_nilCheck rfl nrShA0 rfl ?_
                      exact AOps.nil ⟨rfl, rfl, rfl⟩) ?_
                  refine Walk.still (rs := [136]) (by rfl) nrShA0 (fun base => by
                      refine n_fieldAddr rfl fd149_3 ti147 rfl nrShA0 rfl nrShA0 ?_
                      exact AOps.nil ⟨rfl, rfl, rfl⟩) ?_
                  refine Walk.still (rs := [137, 135]) (by rfl) nrShA0 (fun base => by
                      refine n_arrAddr (q := 16) rfl Try.underlying147 ti22 nrShA0 nrShA0 (by decide) (by decide) rfl ?_
                      exact AOps.nil ⟨rfl, rfl, rfl⟩) ?_
                  refine Walk.still (rs := [138]) (by rfl) nrShA0 (fun base => by
                      refine n_load rfl ti22 nrShA0 nrShA0 rfl nrShA0 ?_
                      exact AOps.nil ⟨rfl, rfl, rfl⟩) ?_
                  refine Walk.still (rs := [139]) (by rfl) nrShA0 (fun base => by
                      refine n_len rfl Try.underlying22 nrShA0 (by first | rw [ints_length] | rw [List.length_map] | rfl) ?_
                      exact AOps.nil ⟨rfl, rfl, rfl⟩) ?_
                  refine Walk.still (rs := [10]) (by rfl) nrShA0 (fun base => by
                      refine n_move rfl nrShA0 ?_
                      exact AOps.nil ⟨rfl, rfl, rfl⟩) ?_
                  refine Walk.still (rs := [21]) (by rfl) nrShA0 (fun base => by
                      refine n_move rfl nrShA0 ?_
                      exact AOps.nil ⟨rfl, rfl, rfl⟩) ?_
                  refine Walk.still (rs := [141]) (by rfl) nrShA0 (fun base => by
                      refine n_nilCheck rfl nrShA0 rfl ?_
                      exact AOps.nil ⟨rfl, rfl, rfl⟩) ?_
                  refine Walk.still (rs := [143]) (by rfl) nrShA0 (fun base => by
                      refine n_fieldAddr rfl fd149_2 ti147 rfl nrShA0 rfl nrShA0 ?_
                      exact AOps.nil ⟨rfl, rfl, rfl⟩) ?_
                  refine Walk.still (rs := [144, 142]) (by rfl) nrShA0 (fun base => by
                      refine n_arrAddr (q := 14) rfl Try.underlying147 ti22 nrShA0 nrShA0 (by decide) (by decide) rfl ?_
                      exact AOps.nil ⟨rfl, rfl, rfl⟩) ?_
                  refine Walk.still (rs := [145]) (by rfl) nrShA0 (fun base => by
                      refine n_load rfl ti22 nrShA0 nrShA0 rfl nrShA0 ?_
                      exact AOps.nil ⟨rfl, rfl, rfl⟩) ?_
                  refine Walk.still (rs := [146]) (by rfl) nrShA0 (fun base => by
                      refine n_len rfl Try.underlying22 nrShA0 (by first | rw [ints_length] | rw [List.length_map] | rfl) ?_
                      exact AOps.nil ⟨rfl, rfl, rfl⟩) ?_
                  refine Walk.still (rs := [140, 147]) (by rfl) nrShA0 (fun base => by
                      refine n_ibin (v := .bool false) rfl nrShA0 nrShA0 (by show some (Value.bool (decide _)) = _; rw [decide_eq_false (by omega)]) ?_
                      exact AOps.nil ⟨rfl, rfl, rfl⟩) ?_
                  refine Walk.still (rs := [148]) (by rfl) nrShA0 (fun base => by
                      refine n_move rfl nrShA0 ?_
                      exact AOps.nil ⟨rfl, rfl, rfl⟩) ?_
                  refine Walk.still (rs := [10, 149]) (by rfl) nrShA0 (fun base => by
                      refine n_guard_yes rfl rfl rfl nrShA0 rfl ?_
                      refine n_move rfl nrShA0 ?_
                      exact AOps.nil ⟨rfl, rfl, rfl⟩) ?_
                  refine Walk.still (rs := [21, 149]) (by rfl) nrShA0 (fun base => by
                      refine n_guard_yes rfl rfl rfl nrShA0 rfl ?_
                      refine n_move rfl nrShA0 ?_
                      exact AOps.nil ⟨rfl, rfl, rfl⟩) ?_
                  refine Walk.still (rs := [150, 149]) (by rfl) nrShA0 (fun base => by
                      refine n_guard_yes rfl rfl rfl nrShA0 rfl ?_
                      refine n_nilCheck rfl nrShA0 rfl ?_
                      exact AOps.nil ⟨rfl, rfl, rfl⟩) ?_
                  refine Walk.still (rs := [152, 149]) (by rfl) nrShA0 (fun base => by
                      refine n_guard_yes rfl rfl rfl nrShA0 rfl ?_
                      refine n_fieldAddr rfl fd149_3 ti147 rfl nrShA0 rfl nrShA0 ?_
                      exact AOps.nil ⟨rfl, rfl, rfl⟩) ?_
                  refine Walk.still (rs := [153, 151, 149]) (by rfl) nrShA0 (fun base => by
                      refine n_guard_yes rfl rfl rfl nrShA0 rfl ?_
                      refine n_arrAddr (q := 16) rfl Try.underlying147 ti22 nrShA0 nrShA0 (by decide) (by decide) rfl ?_
                      exact AOps.nil ⟨rfl, rfl, rfl⟩) ?_
                  refine Walk.still (rs := [154, 149]) (by rfl) nrShA0 (fun base => by
                      refine n_guard_yes rfl rfl rfl nrShA0 rfl ?_
                      refine n_load rfl ti22 nrShA0 nrShA0 rfl nrShA0 ?_
                      exact AOps.nil ⟨rfl, rfl, rfl⟩) ?_
                  refine Walk.still (rs := [10, 149]) (by rfl) nrShA0 (fun base => by
                      refine n_guard_yes rfl rfl rfl nrShA0 rfl ?_
                      refine n_move rfl nrShA0 ?_
                      exact AOps.nil ⟨rfl, rfl, rfl⟩) ?_
                  refine Walk.still (rs := [21, 149]) (by rfl) nrShA0 (fun base => by
                      refine n_guard_yes rfl rfl rfl nrShA0 rfl ?_
                      refine n_move rfl nrShA0 ?_
                      exact AOps.nil ⟨rfl, rfl, rfl⟩) ?_
                  refine Walk.still (rs := [156, 149]) (by rfl) nrShA0 (fun base => by
                      refine n_guard_yes rfl rfl rfl nrShA0 rfl ?_
                      refine n_nilCheck rfl nrShA0 rfl ?_
                      exact AOps.nil ⟨rfl, rfl, rfl⟩) ?_
                  refine Walk.still (rs := [158, 149]) (by rfl) nrShA0 (fun base => by
                      refine n_guard_yes rfl rfl rfl nrShA0 rfl ?_
                      refine n_fieldAddr rfl fd149_2 ti147 rfl nrShA0 rfl nrShA0 ?_
                      exact AOps.nil ⟨rfl, rfl, rfl⟩) ?_
                  refine Walk.still (rs := [159, 157, 149]) (by rfl) nrShA0 (fun base => by
                      refine n_guard_yes rfl rfl rfl nrShA0 rfl ?_
                      refine n_arrAddr (q := 14) rfl Try.underlying147 ti22 nrShA0 nrShA0 (by decide) (by decide) rfl ?_
                      exact AOps.nil ⟨rfl, rfl, rfl⟩) ?_
                  refine Walk.still (rs := [160, 149]) (by rfl) nrShA0 (fun base => by
                      refine n_guard_yes rfl rfl rfl nrShA0 rfl ?_
                      refine n_load rfl ti22 nrShA0 nrShA0 rfl nrShA0 ?_
                      exact AOps.nil ⟨rfl, rfl, rfl⟩) ?_
                  refine Walk.still (rs := [10, 149]) (by rfl) nrShA0 (fun base => by
                      refine n_guard_yes rfl rfl rfl nrShA0 rfl ?_
                      refine n_move rfl nrShA0 ?_
                      exact AOps.nil ⟨rfl, rfl, rfl⟩) ?_
                  refine Walk.still (rs := [21, 149]) (by rfl) nrShA0 (fun base => by
                      refine n_guard_yes rfl rfl rfl nrShA0 rfl ?_
                      refine n_move rfl nrShA0 ?_
                      exact AOps.nil ⟨rfl, rfl, rfl⟩) ?_
                  refine Walk.still (rs := [162, 149]) (by rfl) nrShA0 (fun base => by
                      refine n_guard_yes rfl rfl rfl nrShA0 rfl ?_
                      refine n_nilCheck rfl nrShA0 rfl ?_
                      exact AOps.nil ⟨rfl, rfl, rfl⟩) ?_
                  refine Walk.still (rs := [164, 149]) (by rfl) nrShA0 (fun base => by
                      refine n_guard_yes rfl rfl rfl nrShA0 rfl ?_
                      refine n_fieldAddr rfl fd149_3 ti147 rfl nrShA0 rfl nrShA0 ?_
                      exact AOps.nil ⟨rfl, rfl, rfl⟩) ?_
                  refine Walk.still (rs := [165, 163, 149]) (by rfl) nrShA0 (fun base => by
                      refine n_guard_yes rfl rfl rfl nrShA0 rfl ?_
                      refine n_arrAddr (q := 16) rfl Try.underlying147 ti22 nrShA0 nrShA0 (by decide) (by decide) rfl ?_
                      exact AOps.nil ⟨rfl, rfl, rfl⟩) ?_
                  refine Walk.still (rs := [166, 149]) (by rfl) nrShA0 (fun base => by
                      refine n_guard_yes rfl rfl rfl nrShA0 rfl ?_
                      refine n_load rfl ti22 nrShA0 nrShA0 rfl nrShA0 ?_
                      exact AOps.nil ⟨rfl, rfl, rfl⟩) ?_
                  refine Walk.still (rs := [167, 149]) (by rfl) nrShA0 (fun base => by
                      refine n_guard_yes rfl rfl rfl nrShA0 rfl ?_
                      refine n_len rfl Try.underlying22 nrShA0 (by first | rw [ints_length] | rw [List.length_map] | rfl) ?_
                      exact AOps.nil ⟨rfl, rfl, rfl⟩) ?_
                  refine Walk.still (rs := [161, 168, 149]) (by rfl) nrShA0 (fun base => by
                      refine n_guard_yes rfl rfl rfl nrShA0 rfl ?_
                      refine n_slice (k := 0) (h := ((l2.does n2).came true).length) (ys := ints .u8 ((l2.does n2).came true)) rfl Try.underlying22 ti5 nrShA0 (SB.some nrShA0 (by first | rfl | omega)) SB.none (by omega) (by rw [ints_length]; exact hE1.1) (ints_one _ _) (by rw [List.drop_zero, ints_take, hE1.2]) ?_
                      exact AOps.nil ⟨rfl, rfl, rfl⟩) ?_
                  refine Walk.still (rs := [155, 169, 149]) (by rfl) nrShA0 (fun base => by
                      refine n_guard_yes rfl rfl rfl nrShA0 rfl ?_
                      refine n_call0B rfl cf40 rfl (Eq.trans (by simp only [nl] <;> rfl) nrShA0) (by repeat (first | exact .nil | refine .cons ?_ ?_ | exact ren_ints | exact .lf (.val _) | exact .lf (lf_ints (.inl rfl)) | exact .bp ⟨rfl, rfl⟩ | exact .bp (.inl ⟨rfl, rfl⟩) | exact .bp (.inr ⟨rfl, rfl⟩) | exact .lf (lf_fnrp (sqz_lf _)) | exact .lf (.rp (sqz_lf _)) | exact ren_qe | exact .lf (lf_sqz _) | exact .lf (lf_qe (.inl rfl)) | exact ren_sqz rfl | exact ren_sqz0 rfl | exact ren_bys0 rfl | exact .lf (D.flat_lf rfl) | exact ren_lits rfl | exact .lf (lf_ssz _) | exact .lf (lf_pqz _) | exact ren_q0 rfl | exact ren_pq rfl | exact ren_nl0 | exact ren_sq | exact .lf (.fn (fun d h => by cases h) (fun d h => by cases h)))) (hbb1) lfShA0 ?_
                      exact AOps.nil ⟨rfl, rfl, rfl⟩) ?_
                  refine Walk.still (rs := [170, 149]) (by rfl) nrShA0 (fun base => by
                      refine n_guard_yes rfl rfl rfl nrShA0 rfl ?_
                      refine n_not rfl nrShA0 rfl ?_
                      exact AOps.nil ⟨rfl, rfl, rfl⟩) ?_
                  refine Walk.still (rs := [149, 171]) (by rfl) nrShA0 (fun base => by
                      refine n_pick rfl nrShA0 nrShA0 ?_
                      exact AOps.nil ⟨rfl, rfl, rfl⟩) ?_
                  refine Walk.done ?_
                  refine AWP.cond_false nrShA0 ?_
                  refine AWP.skip ?_
                  refine AWP.region ?_
                  first | refine n_iadd rfl nrShA0 nrShA0 rfl (by omega) (by omega) ?_ | refine n_ibin rfl nrShA0 nrShA0 rfl ?_
                  refine n_move rfl nrShA0 ?_
                  refine AOps.nil ?_
                  refine ⟨2, by omega, ?_, rfl, by omega⟩
                  (repeat (first | exact FLe.empty _ | refine FLe.put ?_ ?_)) <;> first | (simp only [nf, nfV, Nat.beq]; done) | rfl | ((try simp only [nf, nfV, Nat.beq]); first | rfl | (simp only [List.length_map]; done) | (congr 2; omega; done))
                · refine AWP.seq ?_
                  refine AWP.region ?_
                  refine n_ibin rfl nrShA0 nrShA0 rfl ?_
                  refine AOps.nil ?_
                  refine AWP.seq ?_
                  refine AWP.cond_false nrShA0 ?_
                  refine AWP.exit ?_
                  refine AWP.region ?_
                  first | refine n_iadd rfl nrShA0 nrShA0 rfl (by omega) (by omega) ?_ | refine n_ibin rfl nrShA0 nrShA0 rfl ?_
                  refine n_move rfl nrShA0 ?_
                  refine AOps.nil ?_
                  refine ⟨(i3 + 1, l2.does n2, r5, S5), ⟨by omega, hI2, h5, hB2⟩, ?_, rfl, by omega⟩
                  (repeat (first | exact FLe.empty _ | refine FLe.put ?_ ?_)) <;> first | (simp only [nf, nfV, Nat.beq]; done) | rfl | ((try simp only [nf, nfV, Nat.beq]); first | rfl | (simp only [List.length_map]; done) | (congr 2; omega; done))
            · try simp only [nh] at hc8
              refine AWP.exit ?_
              refine AWP.seq ?_
              refine AWP.region ?_
              refine n_assign rfl nrShA0 ?_
              refine AOps.nil ?_
              refine AWP.ret ?_
              refine fin_pure (.cons (rv_tmp nrShA0) .nil) nrShA0 ?_
              first | exact ren_flat rfl rfl | exact ren_flat rfl (congrArg vb (by simp))

theorem Anew_calls (ns ms : List Nt) (hok : ∀ n ∈ ns, n.Ok) (hn : ns.length ≤ 1048576) (hok2 : ∀ n ∈ ms, n.Ok) (hm : ms.length ≤ 1048576) (who : Bool) : Does Try.prog 22 [.sl none (ns.map ntz) .ro, .sl none (ms.map ntz) .ro, vb who] [] (vb true) [] := by
  cases who
  · exact Anew_0 ns ms hok hn hok2 hm
  · exact Anew_1 ns ms hok hn hok2 hm
end Go.Proofs.Ytanfmpkjcoolmaa.Sh
