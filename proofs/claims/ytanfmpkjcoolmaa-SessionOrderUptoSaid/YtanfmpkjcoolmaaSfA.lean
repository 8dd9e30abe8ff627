/- In order, none twice. -/
import Derived.Test.YtanfmpkjcoolmaaSeB
import Derived.Test.YtanfmpkjcoolmaaAbsZt
import Derived.Test.YtanfmpkjcoolmaaSessOrderPlain
set_option linter.unusedVariables false
set_option linter.unusedSimpArgs false
namespace Go.Proofs.Ytanfmpkjcoolmaa.Sf
open Go Go.Abs Go.Abs.Tb Go.Proofs.Ytanfmpkjcoolmaa.Pk Sb Sc Sd Se Go.Abs.Se
attribute [local irreducible] AWP AOps Does

theorem cf108 : CF Try.prog 108 := ⟨_, Try.func108, by kernel_rfl, by kernel_rfl⟩
theorem cf109 : CF Try.prog 109 := ⟨_, Try.func109, by kernel_rfl, by kernel_rfl⟩
theorem cf110 : CF Try.prog 110 := ⟨_, Try.func110, by kernel_rfl, by kernel_rfl⟩
theorem cf40 : CF Try.prog 40 := ⟨_, Try.func40, by kernel_rfl, by kernel_rfl⟩
theorem fd149_2 : FD Try.prog 149 2 147 13 := ⟨_, _, Try.underlying149, rfl, rfl, rfl⟩
theorem fd149_3 : FD Try.prog 149 3 147 15 := ⟨_, _, Try.underlying149, rfl, rfl, rfl⟩
theorem si149 : SI Try.prog 149 #[(0, 12), (12, 1), (13, 2), (15, 2)] (.agg #[.int .i64 0, .int .i64 0, .int .i64 0, .int .i64 0, .int .i64 0, .slice none 0 0, .int .i64 0, .int .i64 0, .int .i64 0, .int .i64 0, .int .i64 0, .slice none 0 0, .slice none 0 0, .slice none 0 0, .slice none 0 0, .slice none 0 0, .slice none 0 0]) := ⟨⟨_, Try.underlying149, fun w => by kernel_rfl⟩, by kernel_rfl⟩
theorem ti141 : TI Try.prog 141 6 true := ⟨by kernel_rfl, by kernel_rfl⟩
theorem ti147 : TI Try.prog 147 2 true := ⟨by kernel_rfl, by kernel_rfl⟩
theorem ti151 : TI Try.prog 151 4 true := ⟨by kernel_rfl, by kernel_rfl⟩
theorem ti22 : TI Try.prog 22 1 false := ⟨by kernel_rfl, by kernel_rfl⟩
theorem ti5 : TI Try.prog 5 1 false := ⟨by kernel_rfl, by kernel_rfl⟩
theorem zi141 : (Try.prog.info? 141).map (·.zero) = some (some (.agg #[.int .i64 0, .int .i64 0, .int .i64 0, .int .i64 0, .int .i64 0, .slice none 0 0])) := by kernel_rfl
theorem zi145 : (Try.prog.info? 145).map (·.zero) = some (some (.agg #[.int .i64 0, .int .i64 0, .int .i64 0, .int .i64 0, .int .i64 0, .slice none 0 0, .int .i64 0, .int .i64 0, .int .i64 0, .int .i64 0, .int .i64 0, .slice none 0 0])) := by kernel_rfl
theorem zi151 : (Try.prog.info? 151).map (·.zero) = some (some (.agg #[.int .i64 0, .bool false, .int .u16 0, .int .u8 0])) := by kernel_rfl

attribute [local irreducible] Up.int Up.str Up.close Up.rest Up.clr Up.spoil Up.w Up.flag Ss.chk Pq.chk Ss.take Ss.answer Pq.bytes Pq.parse Sq.take Sq.meet Sq.ack Sq.again Sq.send Ln.does Ln.takes
theorem does_any (l : Ln) (r : Nat → Nat) (S1 : List Ob) (hr : Rw l r S1) (hg : Gd l) (n : Nt) (hn : n.Ok) (K : D → List Ob → Prop) (hK : ∀ r S2, Rw (l.does n) r S2 → K (.tup []) (.box (lbx (l.does n) r) :: S2)) : DoesK Try.prog 110 [.bp 0 0, .agg (ntz n)] (.box (lbx l r) :: S1) K := by
  rcases n with ⟨d, w, m, v⟩
  cases w
  · exact does_0 l r S1 hr hg d m v hn K hK
  · exact does_1 l r S1 hr hg d m v hn K hK
set_option maxHeartbeats 4000000 in
theorem Order_calls (ns : List Nt) (hok : ∀ n ∈ ns, n.Ok) (hn : ns.length ≤ 1048576) : Does Try.prog 20 [.sl none (ns.map ntz) .ro] [] (vb true) [] := by
  refine Does.of_body (rvs := [.tmp 2]) Try.func20 rfl rfl rfl rfl ?_
  refine AWP.seq ?_
  refine AWP.reserve _ (by first|simp only[nf,nfV,Nat.beq]<;>rfl|rfl) ?_
  refine AWP.region ?_
  refine n_assign rfl (by first|simp only[nf,nfV,Nat.beq]<;>rfl|rfl) ?_
  refine AOps.nil ?_
  refine AWP.seq ?_
  refine AWP.seq ?_
  refine AWP.region ?_
  refine n_call0B rfl cf108 rfl (Eq.trans (by simp only [nl] <;> rfl) (by first|simp only[nf,nfV,Nat.beq]<;>rfl|rfl)) (by repeat (first | exact .nil | refine .cons ?_ ?_ | exact ren_ints | exact .lf (.val _) | exact .lf (lf_ints (.inl rfl)) | exact .bp ⟨rfl, rfl⟩ | exact .bp (.inl ⟨rfl, rfl⟩) | exact .bp (.inr ⟨rfl, rfl⟩) | exact .lf (lf_fnrp (sqz_lf _)) | exact .lf (.rp (sqz_lf _)) | exact ren_qe | exact .lf (lf_sqz _) | exact .lf (lf_qe (.inl rfl)) | exact ren_sqz rfl | exact ren_sqz0 rfl | exact ren_bys0 rfl | exact .lf (D.flat_lf rfl) | exact ren_lits rfl | exact .lf (lf_ssz _) | exact .lf (lf_pqz _) | exact ren_q0 rfl | exact ren_pq rfl | exact ren_nl0 | exact ren_sq | exact .lf (.fn (fun d h => by cases h) (fun d h => by cases h)))) (live) (by first | exact .val _ | exact lf_ints (.inl rfl) | exact lf_ints (.inr rfl) | exact .any | exact lf_taken | exact lf_sentQ | exact lf_mapG pqz_lf (.inl rfl) | exact lf_fnrp (sqz_lf _) | exact lf_sqz _ | exact lf_qe (.inl rfl) | exact .agg (lf_cons (.val _) (lf_cons (.val _) (lf_cons (.val _) (lf_cons (.val _) (lf_cons (.val _) (lf_cons (lf_qe (.inl rfl)) lf_nil)))))) | exact D.flat_lf rfl | exact lf_ssz _ | exact lf_pqz _ | exact lf_nl0 | exact .tup (lf_cons (lf_ssz _) (lf_cons (.val _) lf_nil)) | exact .tup (lf_cons (lf_pqz _) (lf_cons (.val _) lf_nil)) | exact .tup (lf_cons (lf_ints (.inl rfl)) (lf_cons (.val _) lf_nil)) | exact .tup (lf_cons (lf_ssz _) (lf_cons (lf_ints (.inl rfl)) (lf_cons (.val _) lf_nil))) | exact .tup (lf_cons (lf_ssz _) (lf_cons (lf_ssz _) (lf_cons (.val _) lf_nil))) | exact lf_sent) ?_
  refine n_not rfl (by first|simp only[nf,nfV,Nat.beq]<;>rfl|rfl) rfl ?_
  refine AOps.nil ?_
  refine AWP.cond_false (by first|simp only[nf,nfV,Nat.beq]<;>rfl|rfl) ?_
  refine AWP.skip ?_
  refine AWP.seq ?_
  refine AWP.region ?_
  refine n_call0B rfl cf109 rfl (Eq.trans (by simp only [nl] <;> rfl) (by first|simp only[nf,nfV,Nat.beq]<;>rfl|rfl)) (by repeat (first | exact .nil | refine .cons ?_ ?_ | exact ren_ints | exact .lf (.val _) | exact .lf (lf_ints (.inl rfl)) | exact .bp ⟨rfl, rfl⟩ | exact .bp (.inl ⟨rfl, rfl⟩) | exact .bp (.inr ⟨rfl, rfl⟩) | exact .lf (lf_fnrp (sqz_lf _)) | exact .lf (.rp (sqz_lf _)) | exact ren_qe | exact .lf (lf_sqz _) | exact .lf (lf_qe (.inl rfl)) | exact ren_sqz rfl | exact ren_sqz0 rfl | exact ren_bys0 rfl | exact .lf (D.flat_lf rfl) | exact ren_lits rfl | exact .lf (lf_ssz _) | exact .lf (lf_pqz _) | exact ren_q0 rfl | exact ren_pq rfl | exact ren_nl0 | exact ren_sq | exact .lf (.fn (fun d h => by cases h) (fun d h => by cases h)))) (pair) (by first | exact .val _ | exact lf_ints (.inl rfl) | exact lf_ints (.inr rfl) | exact .any | exact lf_taken | exact lf_sentQ | exact lf_mapG pqz_lf (.inl rfl) | exact lf_fnrp (sqz_lf _) | exact lf_sqz _ | exact lf_qe (.inl rfl) | exact .agg (lf_cons (.val _) (lf_cons (.val _) (lf_cons (.val _) (lf_cons (.val _) (lf_cons (.val _) (lf_cons (lf_qe (.inl rfl)) lf_nil)))))) | exact D.flat_lf rfl | exact lf_ssz _ | exact lf_pqz _ | exact lf_nl0 | exact .tup (lf_cons (lf_ssz _) (lf_cons (.val _) lf_nil)) | exact .tup (lf_cons (lf_pqz _) (lf_cons (.val _) lf_nil)) | exact .tup (lf_cons (lf_ints (.inl rfl)) (lf_cons (.val _) lf_nil)) | exact .tup (lf_cons (lf_ssz _) (lf_cons (lf_ints (.inl rfl)) (lf_cons (.val _) lf_nil))) | exact .tup (lf_cons (lf_ssz _) (lf_cons (lf_ssz _) (lf_cons (.val _) lf_nil))) | exact lf_sent) ?_
  refine n_move rfl (by first|simp only[nf,nfV,Nat.beq]<;>rfl|rfl) ?_
  refine n_extract rfl (by first|simp only[nf,nfV,Nat.beq]<;>rfl|rfl) rfl ?_
  refine n_extract rfl (by first|simp only[nf,nfV,Nat.beq]<;>rfl|rfl) rfl ?_
  refine n_extract rfl (by first|simp only[nf,nfV,Nat.beq]<;>rfl|rfl) rfl ?_
  refine n_alloc rfl zi141 rfl (by first|simp only[nf,nfV,Nat.beq]<;>rfl|rfl) (by first|simp only[nf,nfV,Nat.beq]<;>rfl|rfl) ?_
  refine n_alloc rfl zi141 rfl (by first|simp only[nf,nfV,Nat.beq]<;>rfl|rfl) (by first|simp only[nf,nfV,Nat.beq]<;>rfl|rfl) ?_
  refine n_store ti141 (by first|simp only[nf,nfV,Nat.beq]<;>rfl|rfl) (by first|simp only[nf,nfV,Nat.beq]<;>rfl|rfl) (by first|simp only[nf,nfV,Nat.beq]<;>rfl|rfl) rfl (by first|simp only[nf,nfV,Nat.beq]<;>rfl|rfl) rfl rfl rfl (by first|simp only[nf,nfV,Nat.beq]<;>rfl|rfl) ?_
  refine n_store ti141 (by first|simp only[nf,nfV,Nat.beq]<;>rfl|rfl) (by first|simp only[nf,nfV,Nat.beq]<;>rfl|rfl) (by first|simp only[nf,nfV,Nat.beq]<;>rfl|rfl) rfl (by first|simp only[nf,nfV,Nat.beq]<;>rfl|rfl) rfl rfl rfl (by first|simp only[nf,nfV,Nat.beq]<;>rfl|rfl) ?_
  refine n_assign rfl (by first|simp only[nf,nfV,Nat.beq]<;>rfl|rfl) ?_
  refine AOps.nil ?_
  refine AWP.seq ?_
  refine AWP.seq ?_
  refine AWP.region ?_
  refine n_move rfl (by first|simp only[nf,nfV,Nat.beq]<;>rfl|rfl) ?_
  refine n_not rfl (by first|simp only[nf,nfV,Nat.beq]<;>rfl|rfl) rfl ?_
  refine AOps.nil ?_
  refine AWP.cond_false (by first|simp only[nf,nfV,Nat.beq]<;>rfl|rfl) ?_
  refine AWP.skip ?_
  refine AWP.seq ?_
  refine AWP.region ?_
  refine n_load rfl ti141 (by first|simp only[nf,nfV,Nat.beq]<;>rfl|rfl) (by first|simp only[nf,nfV,Nat.beq]<;>rfl|rfl) rfl (by first|simp only[nf,nfV,Nat.beq]<;>rfl|rfl) ?_
  refine n_load rfl ti141 (by first|simp only[nf,nfV,Nat.beq]<;>rfl|rfl) (by first|simp only[nf,nfV,Nat.beq]<;>rfl|rfl) rfl (by first|simp only[nf,nfV,Nat.beq]<;>rfl|rfl) ?_
  refine n_build2 rfl Try.underlying145 ti141 zi145 rfl (by first|simp only[nf,nfV,Nat.beq]<;>rfl|rfl) (by first|simp only[nf,nfV,Nat.beq]<;>rfl|rfl) rfl ?_
  refine n_build rfl si149 (Eq.trans (by simp only [nl] <;> rfl) (by first|simp only[nf,nfV,Nat.beq]<;>rfl|rfl)) (Eq.trans (by simp only [nl] <;> rfl) (by first|simp only[nf,nfV,Nat.beq]<;>rfl|rfl)) rfl ?_
  refine n_boxAt 0 rfl (by first|simp only[nf,nfV,Nat.beq]<;>rfl|rfl) rfl (by first|simp only[nf,nfV,Nat.beq]<;>rfl|rfl) rfl (by first|simp only[nf,nfV,Nat.beq]<;>rfl|rfl) ?_
  refine n_assign rfl (by first|simp only[nf,nfV,Nat.beq]<;>rfl|rfl) ?_
  refine AOps.nil ?_
  refine AWP.seq ?_
  refine AWP.seq ?_
  refine AWP.adoptBox (j := 0) (i := 12) (m := 0) (sz := 6) (S' := [Ob.box [vi 5, vi 7, vi 0, vi 0, vi 1, .sl none [] .ro, vi 7, vi 5, vi 0, vi 0, vi 1, .sl none [] .ro, .sl none [] (.own 3), .sl (some true) [] .full, .sl (some true) [] .full, .sl (some true) [] .full, .sl (some true) [] .full], Ob.box (ssz ⟨5, 7, 0, 0, 1⟩), Ob.box (ssz ⟨7, 5, 0, 0, 1⟩), Ob.row 0 6]) rfl rfl rfl rfl rfl ?_
  refine AWP.adoptBox (j := 0) (i := 13) (m := 0) (sz := 1) (S' := [Ob.box [vi 5, vi 7, vi 0, vi 0, vi 1, .sl none [] .ro, vi 7, vi 5, vi 0, vi 0, vi 1, .sl none [] .ro, .sl none [] (.own 3), .sl none [] (.own 4), .sl (some true) [] .full, .sl (some true) [] .full, .sl (some true) [] .full], Ob.box (ssz ⟨5, 7, 0, 0, 1⟩), Ob.box (ssz ⟨7, 5, 0, 0, 1⟩), Ob.row 0 6, Ob.row 0 1]) rfl rfl rfl rfl rfl ?_
  refine AWP.adoptBox (j := 0) (i := 14) (m := 0) (sz := 1) (S' := [Ob.box [vi 5, vi 7, vi 0, vi 0, vi 1, .sl none [] .ro, vi 7, vi 5, vi 0, vi 0, vi 1, .sl none [] .ro, .sl none [] (.own 3), .sl none [] (.own 4), .sl none [] (.own 5), .sl (some true) [] .full, .sl (some true) [] .full], Ob.box (ssz ⟨5, 7, 0, 0, 1⟩), Ob.box (ssz ⟨7, 5, 0, 0, 1⟩), Ob.row 0 6, Ob.row 0 1, Ob.row 0 1]) rfl rfl rfl rfl rfl ?_
  refine AWP.adoptBox (j := 0) (i := 15) (m := 0) (sz := 1) (S' := [Ob.box [vi 5, vi 7, vi 0, vi 0, vi 1, .sl none [] .ro, vi 7, vi 5, vi 0, vi 0, vi 1, .sl none [] .ro, .sl none [] (.own 3), .sl none [] (.own 4), .sl none [] (.own 5), .sl none [] (.own 6), .sl (some true) [] .full], Ob.box (ssz ⟨5, 7, 0, 0, 1⟩), Ob.box (ssz ⟨7, 5, 0, 0, 1⟩), Ob.row 0 6, Ob.row 0 1, Ob.row 0 1, Ob.row 0 1]) rfl rfl rfl rfl rfl ?_
  refine AWP.adoptBox (j := 0) (i := 16) (m := 0) (sz := 1) (S' := [Ob.box [vi 5, vi 7, vi 0, vi 0, vi 1, .sl none [] .ro, vi 7, vi 5, vi 0, vi 0, vi 1, .sl none [] .ro, .sl none [] (.own 3), .sl none [] (.own 4), .sl none [] (.own 5), .sl none [] (.own 6), .sl none [] (.own 7)], Ob.box (ssz ⟨5, 7, 0, 0, 1⟩), Ob.box (ssz ⟨7, 5, 0, 0, 1⟩), Ob.row 0 6, Ob.row 0 1, Ob.row 0 1, Ob.row 0 1, Ob.row 0 1]) rfl rfl rfl rfl rfl ?_
  refine AWP.region ?_
  refine n_move rfl (by first|simp only[nf,nfV,Nat.beq]<;>rfl|rfl) ?_
  refine n_move rfl (by first|simp only[nf,nfV,Nat.beq]<;>rfl|rfl) ?_
  refine n_len rfl Try.underlying138 (by first|simp only[nf,nfV,Nat.beq]<;>rfl|rfl) (by first | rw [ints_length] | rw [List.length_map] | rfl) ?_
  refine n_min (T2 := #[]) (c := ((min ns.length 200 : Nat) : Int)) rfl (by first|simp only[nf,nfV,Nat.beq]<;>rfl|rfl) (by first|simp only[nf,nfV,Nat.beq]<;>rfl|rfl) (by split <;> omega) ?_
  refine n_slice (k := 0) (h := min ns.length 200) (ys := (ns.take (min ns.length 200)).map ntz) rfl Try.underlying138 ti151 (by first|simp only[nf,nfV,Nat.beq]<;>rfl|rfl) (SB.some (by first|simp only[nf,nfV,Nat.beq]<;>rfl|rfl) (by first | rfl | omega)) SB.none (by omega) (by rw [List.length_map]; omega) (by exact map_one (f := ntz) (fun _ => rfl)) (by rw [List.drop_zero, List.map_take]) ?_
  refine n_len rfl Try.underlying138 (by first|simp only[nf,nfV,Nat.beq]<;>rfl|rfl) (n := ((min ns.length 200 : Nat) : Int)) (by rw [List.length_map, List.length_take]; omega) ?_
  refine n_move rfl (by first|simp only[nf,nfV,Nat.beq]<;>rfl|rfl) ?_
  refine AOps.nil ?_
  refine AWP.block ?_
  refine AWP.loop (α := Nat × Ln × (Nat → Nat) × List Ob) (fun q => q.1 ≤ min ns.length 200 ∧ Inv B0 [] q.2.1 q.1 ∧ Rw q.2.1 q.2.2.1 q.2.2.2 ∧ ∀ c, Byt (q.2.1.sent c)) (fun q => put (put (put (put empty 6 (.bp 0 0)) 28 (.sl none ((ns.take (min ns.length 200)).map ntz) .ro)) 29 (vi ((min ns.length 200 : Nat) : Int))) 30 (vi (q.1 : Int))) (fun q => .box (lbx q.2.1 q.2.2.1) :: q.2.2.2) (fun q => min ns.length 200 - q.1) (0, l0, (fun k => k + 2), [Ob.box (ssz ⟨5, 7, 0, 0, 1⟩), Ob.box (ssz ⟨7, 5, 0, 0, 1⟩), Ob.row 0 6, Ob.row 0 1, Ob.row 0 1, Ob.row 0 1, Ob.row 0 1]) ?_ ?_ ?_ ?_
  · exact ⟨Nat.zero_le _, inv0, rw0 _ _ rfl (fun _ => rfl) (fun _ => rfl), fun c a h => by cases h⟩
  · (repeat (first | exact FLe.empty _ | refine FLe.put ?_ ?_)) <;> first | (simp only [nf, nfV, Nat.beq]; done) | rfl | ((try simp only [nf, nfV, Nat.beq]); first | rfl | (simp only [List.length_map]; done) | (congr 2; omega; done))
  · rfl
  · rintro ⟨i, l, r, S1⟩ ⟨hi, hI, hr, hB⟩
    dsimp only at hi hI hr hB ⊢
    refine AWP.seq ?_
    refine AWP.region ?_
    refine n_ibin rfl (by first|simp only[nf,nfV,Nat.beq]<;>rfl|rfl) (by first|simp only[nf,nfV,Nat.beq]<;>rfl|rfl) rfl ?_
    refine AOps.nil ?_
    refine AWP.seq ?_
    refine AWP.cond (by first|simp only[nf,nfV,Nat.beq]<;>rfl|rfl) (fun hc3 => ?_) (fun hc3 => ?_)
    · try simp only [nh] at hc3
      obtain ⟨n, hn0⟩ : ∃ n, (ns.take (min ns.length 200))[i]? = some n := ⟨_, List.getElem?_eq_getElem (by rw [List.length_take]; omega)⟩
      have hxn := map_at ntz hn0
      have hnk : n.Ok := hok n (List.mem_of_mem_take (List.mem_of_getElem? hn0))
      have hI2 := does_inv hI (by omega) n
      have hB2 := does_byt hnk hB
      have hE0 := hI2.eq false
      have hE1 := hI2.eq true
      have hbb0 := b_equal _ _ (hI2.byt hB2 false) (hI2.byt hB2 false)
      have hbb1 := b_equal _ _ (hI2.byt hB2 true) (hI2.byt hB2 true)
      rw [decide_eq_true rfl] at hbb0 hbb1
      refine AWP.skip ?_
      refine AWP.seq ?_
      refine AWP.block ?_
      refine AWP.seq ?_
      refine AWP.region ?_
      refine n_indexAddr rfl Try.underlying138 ti151 rfl (by first|simp only[nf,nfV,Nat.beq]<;>rfl|rfl) (by first|simp only[nf,nfV,Nat.beq]<;>rfl|rfl) (by omega) (by exact hxn) rfl ?_
      refine n_load rfl ti151 (by first|simp only[nf,nfV,Nat.beq]<;>rfl|rfl) (by first|simp only[nf,nfV,Nat.beq]<;>rfl|rfl) rfl (by first|simp only[nf,nfV,Nat.beq]<;>rfl|rfl) ?_
      refine n_alloc rfl zi151 rfl (by first|simp only[nf,nfV,Nat.beq]<;>rfl|rfl) (by first|simp only[nf,nfV,Nat.beq]<;>rfl|rfl) ?_
      refine n_store ti151 (by first|simp only[nf,nfV,Nat.beq]<;>rfl|rfl) (by first|simp only[nf,nfV,Nat.beq]<;>rfl|rfl) (by first|simp only[nf,nfV,Nat.beq]<;>rfl|rfl) rfl (by first|simp only[nf,nfV,Nat.beq]<;>rfl|rfl) rfl rfl rfl (by first|simp only[nf,nfV,Nat.beq]<;>rfl|rfl) ?_
      refine AOps.nil ?_
      refine AWP.seq ?_
      refine AWP.region ?_
      refine n_move rfl (by first|simp only[nf,nfV,Nat.beq]<;>rfl|rfl) ?_
      refine n_load rfl ti151 (by first|simp only[nf,nfV,Nat.beq]<;>rfl|rfl) (by first|simp only[nf,nfV,Nat.beq]<;>rfl|rfl) rfl (by first|simp only[nf,nfV,Nat.beq]<;>rfl|rfl) ?_
      refine op_callK (dst := some 36) rfl cf110 rfl (Eq.trans (by simp only [nl] <;> rfl) (by first|simp only[nf,nfV,Nat.beq]<;>rfl|rfl)) (does_any l r _ hr.app (hI.gd (by omega)) n hnk _ (fun r2 S2 h2 => ?_))
      refine AOps.nil ?_
      refine AWP.seq ?_
      refine AWP.region ?_
      refine n_move rfl (by first|simp only[nf,nfV,Nat.beq]<;>rfl|rfl) ?_
      refine AOps.nil ?_
      refine AWP.block ?_
      refine AWP.loop (α := Nat) (fun q => q ≤ 2) (fun q => put (put (put (put (put empty 6 (.bp 0 0)) 28 (.sl none ((ns.take (min ns.length 200)).map ntz) .ro)) 29 (vi ((min ns.length 200 : Nat) : Int))) 30 (vi (i : Int))) 37 (vi (q : Int))) (fun _ => .box (lbx (l.does n) r2) :: S2) (fun q => 2 - q) 0 ?_ ?_ ?_ ?_
      · exact Nat.zero_le _
      · (repeat (first | exact FLe.empty _ | refine FLe.put ?_ ?_)) <;> first | (simp only [nf, nfV, Nat.beq]; done) | rfl | ((try simp only [nf, nfV, Nat.beq]); first | rfl | (simp only [List.length_map]; done) | (congr 2; omega; done))
      · rfl
      · intro q hq
        obtain rfl | rfl | rfl : q = 0 ∨ q = 1 ∨ q = 2 := by omega
        · refine AWP.seq ?_
          refine AWP.region ?_
          refine n_ibin rfl (by first|simp only[nf,nfV,Nat.beq]<;>rfl|rfl) (by first|simp only[nf,nfV,Nat.beq]<;>rfl|rfl) rfl ?_
          refine AOps.nil ?_
          refine AWP.seq ?_
          refine AWP.cond_true (by first|simp only[nf,nfV,Nat.beq]<;>rfl|rfl) ?_
          refine AWP.skip ?_
          refine AWP.seq ?_
          refine AWP.block ?_
          refine AWP.seq ?_
          refine AWP.region ?_
          refine n_move rfl (by first|simp only[nf,nfV,Nat.beq]<;>rfl|rfl) ?_
          refine n_assign rfl (by first|simp only[nf,nfV,Nat.beq]<;>rfl|rfl) ?_
          refine AOps.nil ?_
          refine AWP.seq ?_
          refine AWP.anyStill (by kernel_rfl) (by kernel_rfl) ?_
          refine Walk.still (rs := [6]) (by rfl) (by first|simp only[nf,nfV,Nat.beq]<;>rfl|rfl) (fun base => by
              refine n_move rfl (by first|simp only[nf,nfV,Nat.beq]<;>rfl|rfl) ?_
              exact AOps.nil ⟨rfl, rfl, rfl⟩) ?_
          refine Walk.still (rs := [9]) (by rfl) (by first|simp only[nf,nfV,Nat.beq]<;>rfl|rfl) (fun base => by
              refine n_move rfl (by first|simp only[nf,nfV,Nat.beq]<;>rfl|rfl) ?_
              exact AOps.nil ⟨rfl, rfl, rfl⟩) ?_
          refine Walk.still (rs := [40]) (by rfl) (by first|simp only[nf,nfV,Nat.beq]<;>rfl|rfl) (fun base => by
              refine n_nilCheck rfl (by first|simp only[nf,nfV,Nat.beq]<;>rfl|rfl) rfl ?_
              exact AOps.nil ⟨rfl, rfl, rfl⟩) ?_
          refine Walk.still (rs := [42]) (by rfl) (by first|simp only[nf,nfV,Nat.beq]<;>rfl|rfl) (fun base => by
              refine n_fieldAddr rfl fd149_3 ti147 rfl (by first|simp only[nf,nfV,Nat.beq]<;>rfl|rfl) rfl (by first|simp only[nf,nfV,Nat.beq]<;>rfl|rfl) ?_
              exact AOps.nil ⟨rfl, rfl, rfl⟩) ?_
          refine Walk.still (rs := [43, 41]) (by rfl) (by first|simp only[nf,nfV,Nat.beq]<;>rfl|rfl) (fun base => by
              refine n_arrAddr (q := 15) rfl Try.underlying147 ti22 (by first|simp only[nf,nfV,Nat.beq]<;>rfl|rfl) (by first|simp only[nf,nfV,Nat.beq]<;>rfl|rfl) (by decide) (by decide) rfl ?_
              exact AOps.nil ⟨rfl, rfl, rfl⟩) ?_
          refine Walk.still (rs := [44]) (by rfl) (by first|simp only[nf,nfV,Nat.beq]<;>rfl|rfl) (fun base => by
              refine n_load rfl ti22 (by first|simp only[nf,nfV,Nat.beq]<;>rfl|rfl) (by first|simp only[nf,nfV,Nat.beq]<;>rfl|rfl) rfl (by first|simp only[nf,nfV,Nat.beq]<;>rfl|rfl) ?_
              exact AOps.nil ⟨rfl, rfl, rfl⟩) ?_
          refine Walk.still (rs := [45]) (by rfl) (by first|simp only[nf,nfV,Nat.beq]<;>rfl|rfl) (fun base => by
              refine n_len rfl Try.underlying22 (by first|simp only[nf,nfV,Nat.beq]<;>rfl|rfl) (by first | rw [ints_length] | rw [List.length_map] | rfl) ?_
              exact AOps.nil ⟨rfl, rfl, rfl⟩) ?_
          refine Walk.still (rs := [6]) (by rfl) (by first|simp only[nf,nfV,Nat.beq]<;>rfl|rfl) (fun base => by
              refine n_move rfl (by first|simp only[nf,nfV,Nat.beq]<;>rfl|rfl) ?_
              exact AOps.nil ⟨rfl, rfl, rfl⟩) ?_
          refine Walk.still (rs := [9]) (by rfl) (by first|simp only[nf,nfV,Nat.beq]<;>rfl|rfl) (fun base => by
              refine n_move rfl (by first|simp only[nf,nfV,Nat.beq]<;>rfl|rfl) ?_
              exact AOps.nil ⟨rfl, rfl, rfl⟩) ?_
          refine Walk.still (rs := [47]) (by rfl) (by first|simp only[nf,nfV,Nat.beq]<;>rfl|rfl) (fun base => by
              refine n_nilCheck rfl (by first|simp only[nf,nfV,Nat.beq]<;>rfl|rfl) rfl ?_
              exact AOps.nil ⟨rfl, rfl, rfl⟩) ?_
          refine Walk.still (rs := [49]) (by rfl) (by first|simp only[nf,nfV,Nat.beq]<;>rfl|rfl) (fun base => by
              refine n_fieldAddr rfl fd149_2 ti147 rfl (by first|simp only[nf,nfV,Nat.beq]<;>rfl|rfl) rfl (by first|simp only[nf,nfV,Nat.beq]<;>rfl|rfl) ?_
              exact AOps.nil ⟨rfl, rfl, rfl⟩) ?_
          refine Walk.still (rs := [50, 48]) (by rfl) (by first|simp only[nf,nfV,Nat.beq]<;>rfl|rfl) (fun base => by
              refine n_arrAddr (q := 13) rfl Try.underlying147 ti22 (by first|simp only[nf,nfV,Nat.beq]<;>rfl|rfl) (by first|simp only[nf,nfV,Nat.beq]<;>rfl|rfl) (by decide) (by decide) rfl ?_
              exact AOps.nil ⟨rfl, rfl, rfl⟩) ?_
          refine Walk.still (rs := [51]) (by rfl) (by first|simp only[nf,nfV,Nat.beq]<;>rfl|rfl) (fun base => by
              refine n_load rfl ti22 (by first|simp only[nf,nfV,Nat.beq]<;>rfl|rfl) (by first|simp only[nf,nfV,Nat.beq]<;>rfl|rfl) rfl (by first|simp only[nf,nfV,Nat.beq]<;>rfl|rfl) ?_
              exact AOps.nil ⟨rfl, rfl, rfl⟩) ?_
          refine Walk.still (rs := [52]) (by rfl) (by first|simp only[nf,nfV,Nat.beq]<;>rfl|rfl) (fun base => by
              refine n_len rfl Try.underlying22 (by first|simp only[nf,nfV,Nat.beq]<;>rfl|rfl) (by first | rw [ints_length] | rw [List.length_map] | rfl) ?_
              exact AOps.nil ⟨rfl, rfl, rfl⟩) ?_
          refine Walk.still (rs := [46, 53]) (by rfl) (by first|simp only[nf,nfV,Nat.beq]<;>rfl|rfl) (fun base => by
              refine n_ibin (v := .bool false) rfl (by first|simp only[nf,nfV,Nat.beq]<;>rfl|rfl) (by first|simp only[nf,nfV,Nat.beq]<;>rfl|rfl) (by show some (Value.bool (decide _)) = _; rw [decide_eq_false (by omega)]) ?_
              exact AOps.nil ⟨rfl, rfl, rfl⟩) ?_
          refine Walk.still (rs := [54]) (by rfl) (by first|simp only[nf,nfV,Nat.beq]<;>rfl|rfl) (fun base => by
              refine n_move rfl (by first|simp only[nf,nfV,Nat.beq]<;>rfl|rfl) ?_
              exact AOps.nil ⟨rfl, rfl, rfl⟩) ?_
          refine Walk.still (rs := [6, 55]) (by rfl) (by first|simp only[nf,nfV,Nat.beq]<;>rfl|rfl) (fun base => by
              refine n_guard_yes rfl rfl rfl (by first|simp only[nf,nfV,Nat.beq]<;>rfl|rfl) rfl ?_
              refine n_move rfl (by first|simp only[nf,nfV,Nat.beq]<;>rfl|rfl) ?_
              exact AOps.nil ⟨rfl, rfl, rfl⟩) ?_
          refine Walk.still (rs := [9, 55]) (by rfl) (by first|simp only[nf,nfV,Nat.beq]<;>rfl|rfl) (fun base => by
              refine n_guard_yes rfl rfl rfl (by first|simp only[nf,nfV,Nat.beq]<;>rfl|rfl) rfl ?_
              refine n_move rfl (by first|simp only[nf,nfV,Nat.beq]<;>rfl|rfl) ?_
              exact AOps.nil ⟨rfl, rfl, rfl⟩) ?_
          refine Walk.still (rs := [56, 55]) (by rfl) (by first|simp only[nf,nfV,Nat.beq]<;>rfl|rfl) (fun base => by
              refine n_guard_yes rfl rfl rfl (by first|simp only[nf,nfV,Nat.beq]<;>rfl|rfl) rfl ?_
              refine n_nilCheck rfl (by first|simp only[nf,nfV,Nat.beq]<;>rfl|rfl) rfl ?_
              exact AOps.nil ⟨rfl, rfl, rfl⟩) ?_
          refine Walk.still (rs := [58, 55]) (by rfl) (by first|simp only[nf,nfV,Nat.beq]<;>rfl|rfl) (fun base => by
              refine n_guard_yes rfl rfl rfl (by first|simp only[nf,nfV,Nat.beq]<;>rfl|rfl) rfl ?_
              refine n_fieldAddr rfl fd149_3 ti147 rfl (by first|simp only[nf,nfV,Nat.beq]<;>rfl|rfl) rfl (by first|simp only[nf,nfV,Nat.beq]<;>rfl|rfl) ?_
              exact AOps.nil ⟨rfl, rfl, rfl⟩) ?_
          refine Walk.still (rs := [59, 57, 55]) (by rfl) (by first|simp only[nf,nfV,Nat.beq]<;>rfl|rfl) (fun base => by
              refine n_guard_yes rfl rfl rfl (by first|simp only[nf,nfV,Nat.beq]<;>rfl|rfl) rfl ?_
              refine n_arrAddr (q := 15) rfl Try.underlying147 ti22 (by first|simp only[nf,nfV,Nat.beq]<;>rfl|rfl) (by first|simp only[nf,nfV,Nat.beq]<;>rfl|rfl) (by decide) (by decide) rfl ?_
              exact AOps.nil ⟨rfl, rfl, rfl⟩) ?_
          refine Walk.still (rs := [60, 55]) (by rfl) (by first|simp only[nf,nfV,Nat.beq]<;>rfl|rfl) (fun base => by
              refine n_guard_yes rfl rfl rfl (by first|simp only[nf,nfV,Nat.beq]<;>rfl|rfl) rfl ?_
              refine n_load rfl ti22 (by first|simp only[nf,nfV,Nat.beq]<;>rfl|rfl) (by first|simp only[nf,nfV,Nat.beq]<;>rfl|rfl) rfl (by first|simp only[nf,nfV,Nat.beq]<;>rfl|rfl) ?_
              exact AOps.nil ⟨rfl, rfl, rfl⟩) ?_
          refine Walk.still (rs := [6, 55]) (by rfl) (by first|simp only[nf,nfV,Nat.beq]<;>rfl|rfl) (fun base => by
              refine n_guard_yes rfl rfl rfl (by first|simp only[nf,nfV,Nat.beq]<;>rfl|rfl) rfl ?_
              refine n_move rfl (by first|simp only[nf,nfV,Nat.beq]<;>rfl|rfl) ?_
              exact AOps.nil ⟨rfl, rfl, rfl⟩) ?_
          refine Walk.still (rs := [9, 55]) (by rfl) (by first|simp only[nf,nfV,Nat.beq]<;>rfl|rfl) (fun base => by
              refine n_guard_yes rfl rfl rfl (by first|simp only[nf,nfV,Nat.beq]<;>rfl|rfl) rfl ?_
              refine n_move rfl (by first|simp only[nf,nfV,Nat.beq]<;>rfl|rfl) ?_
              exact AOps.nil ⟨rfl, rfl, rfl⟩) ?_
          refine Walk.still (rs := [62, 55]) (by rfl) (by first|simp only[nf,nfV,Nat.beq]<;>rfl|rfl) (fun base => by
              refine n_guard_yes rfl rfl rfl (by first|simp only[nf,nfV,Nat.beq]<;>rfl|rfl) rfl ?_
              refine n_nilCheck rfl (by first|simp only[nf,nfV,Nat.beq]<;>rfl|rfl) rfl ?_
              exact AOps.nil ⟨rfl, rfl, rfl⟩) ?_
          refine Walk.still (rs := [64, 55]) (by rfl) (by first|simp only[nf,nfV,Nat.beq]<;>rfl|rfl) (fun base => by
              refine n_guard_yes rfl rfl rfl (by first|simp only[nf,nfV,Nat.beq]<;>rfl|rfl) rfl ?_
              refine n_fieldAddr rfl fd149_2 ti147 rfl (by first|simp only[nf,nfV,Nat.beq]<;>rfl|rfl) rfl (by first|simp only[nf,nfV,Nat.beq]<;>rfl|rfl) ?_
              exact AOps.nil ⟨rfl, rfl, rfl⟩) ?_
          refine Walk.still (rs := [65, 63, 55]) (by rfl) (by first|simp only[nf,nfV,Nat.beq]<;>rfl|rfl) (fun base => by
              refine n_guard_yes rfl rfl rfl (by first|simp only[nf,nfV,Nat.beq]<;>rfl|rfl) rfl ?_
              refine n_arrAddr (q := 13) rfl Try.underlying147 ti22 (by first|simp only[nf,nfV,Nat.beq]<;>rfl|rfl) (by first|simp only[nf,nfV,Nat.beq]<;>rfl|rfl) (by decide) (by decide) rfl ?_
              exact AOps.nil ⟨rfl, rfl, rfl⟩) ?_
          refine Walk.still (rs := [66, 55]) (by rfl) (by first|simp only[nf,nfV,Nat.beq]<;>rfl|rfl) (fun base => by
              refine n_guard_yes rfl rfl rfl (by first|simp only[nf,nfV,Nat.beq]<;>rfl|rfl) rfl ?_
              refine n_load rfl ti22 (by first|simp only[nf,nfV,Nat.beq]<;>rfl|rfl) (by first|simp only[nf,nfV,Nat.beq]<;>rfl|rfl) rfl (by first|simp only[nf,nfV,Nat.beq]<;>rfl|rfl) ?_
              exact AOps.nil ⟨rfl, rfl, rfl⟩) ?_
          refine Walk.still (rs := [6, 55]) (by rfl) (by first|simp only[nf,nfV,Nat.beq]<;>rfl|rfl) (fun base => by
              refine n_guard_yes rfl rfl rfl (by first|simp only[nf,nfV,Nat.beq]<;>rfl|rfl) rfl ?_
              refine n_move rfl (by first|simp only[nf,nfV,Nat.beq]<;>rfl|rfl) ?_
              exact AOps.nil ⟨rfl, rfl, rfl⟩) ?_
          refine Walk.still (rs := [9, 55]) (by rfl) (by first|simp only[nf,nfV,Nat.beq]<;>rfl|rfl) (fun base => by
              refine n_guard_yes rfl rfl rfl (by first|simp only[nf,nfV,Nat.beq]<;>rfl|rfl) rfl ?_
              refine n_move rfl (by first|simp only[nf,nfV,Nat.beq]<;>rfl|rfl) ?_
              exact AOps.nil ⟨rfl, rfl, rfl⟩) ?_
          refine Walk.still (rs := [68, 55]) (by rfl) (by first|simp only[nf,nfV,Nat.beq]<;>rfl|rfl) (fun base => by
              refine n_guard_yes rfl rfl rfl (by first|simp only[nf,nfV,Nat.beq]<;>rfl|rfl) rfl ?_
              refine n_nilCheck rfl (by first|simp only[nf,nfV,Nat.beq]<;>rfl|rfl) rfl ?_
              exact AOps.nil ⟨rfl, rfl, rfl⟩) ?_
          refine Walk.still (rs := [70, 55]) (by rfl) (by first|simp only[nf,nfV,Nat.beq]<;>rfl|rfl) (fun base => by
              refine n_guard_yes rfl rfl rfl (by first|simp only[nf,nfV,Nat.beq]<;>rfl|rfl) rfl ?_
              refine n_fieldAddr rfl fd149_3 ti147 rfl (by first|simp only[nf,nfV,Nat.beq]<;>rfl|rfl) rfl (by first|simp only[nf,nfV,Nat.beq]<;>rfl|rfl) ?_
              exact AOps.nil ⟨rfl, rfl, rfl⟩) ?_
          refine Walk.still (rs := [71, 69, 55]) (by rfl) (by first|simp only[nf,nfV,Nat.beq]<;>rfl|rfl) (fun base => by
              refine n_guard_yes rfl rfl rfl (by first|simp only[nf,nfV,Nat.beq]<;>rfl|rfl) rfl ?_
              refine n_arrAddr (q := 15) rfl Try.underlying147 ti22 (by first|simp only[nf,nfV,Nat.beq]<;>rfl|rfl) (by first|simp only[nf,nfV,Nat.beq]<;>rfl|rfl) (by decide) (by decide) rfl ?_
              exact AOps.nil ⟨rfl, rfl, rfl⟩) ?_
          refine Walk.still (rs := [72, 55]) (by rfl) (by first|simp only[nf,nfV,Nat.beq]<;>rfl|rfl) (fun base => by
              refine n_guard_yes rfl rfl rfl (by first|simp only[nf,nfV,Nat.beq]<;>rfl|rfl) rfl ?_
              refine n_load rfl ti22 (by first|simp only[nf,nfV,Nat.beq]<;>rfl|rfl) (by first|simp only[nf,nfV,Nat.beq]<;>rfl|rfl) rfl (by first|simp only[nf,nfV,Nat.beq]<;>rfl|rfl) ?_
              exact AOps.nil ⟨rfl, rfl, rfl⟩) ?_
          refine Walk.still (rs := [73, 55]) (by rfl) (by first|simp only[nf,nfV,Nat.beq]<;>rfl|rfl) (fun base => by
              refine n_guard_yes rfl rfl rfl (by first|simp only[nf,nfV,Nat.beq]<;>rfl|rfl) rfl ?_
              refine n_len rfl Try.underlying22 (by first|simp only[nf,nfV,Nat.beq]<;>rfl|rfl) (by first | rw [ints_length] | rw [List.length_map] | rfl) ?_
              exact AOps.nil ⟨rfl, rfl, rfl⟩) ?_
          refine Walk.still (rs := [67, 74, 55]) (by rfl) (by first|simp only[nf,nfV,Nat.beq]<;>rfl|rfl) (fun base => by
              refine n_guard_yes rfl rfl rfl (by first|simp only[nf,nfV,Nat.beq]<;>rfl|rfl) rfl ?_
              refine n_slice (k := 0) (h := ((l.does n).came false).length) (ys := ints .u8 ((l.does n).came false)) rfl Try.underlying22 ti5 (by first|simp only[nf,nfV,Nat.beq]<;>rfl|rfl) (SB.some (by first|simp only[nf,nfV,Nat.beq]<;>rfl|rfl) (by first | rfl | omega)) SB.none (by omega) (by rw [ints_length]; exact hE0.1) (ints_one _ _) (by rw [List.drop_zero, ints_take, hE0.2]) ?_
              exact AOps.nil ⟨rfl, rfl, rfl⟩) ?_
          refine Walk.still (rs := [61, 75, 55]) (by rfl) (by first|simp only[nf,nfV,Nat.beq]<;>rfl|rfl) (fun base => by
              refine n_guard_yes rfl rfl rfl (by first|simp only[nf,nfV,Nat.beq]<;>rfl|rfl) rfl ?_
              refine n_call0B rfl cf40 rfl (Eq.trans (by simp only [nl] <;> rfl) (by first|simp only[nf,nfV,Nat.beq]<;>rfl|rfl)) (by repeat (first | exact .nil | refine .cons ?_ ?_ | exact ren_ints | exact .lf (.val _) | exact .lf (lf_ints (.inl rfl)) | exact .bp ⟨rfl, rfl⟩ | exact .bp (.inl ⟨rfl, rfl⟩) | exact .bp (.inr ⟨rfl, rfl⟩) | exact .lf (lf_fnrp (sqz_lf _)) | exact .lf (.rp (sqz_lf _)) | exact ren_qe | exact .lf (lf_sqz _) | exact .lf (lf_qe (.inl rfl)) | exact ren_sqz rfl | exact ren_sqz0 rfl | exact ren_bys0 rfl | exact .lf (D.flat_lf rfl) | exact ren_lits rfl | exact .lf (lf_ssz _) | exact .lf (lf_pqz _) | exact ren_q0 rfl | exact ren_pq rfl | exact ren_nl0 | exact ren_sq | exact .lf (.fn (fun d h => by cases h) (fun d h => by cases h)))) (hbb0) (by first | exact .val _ | exact lf_ints (.inl rfl) | exact lf_ints (.inr rfl) | exact .any | exact lf_taken | exact lf_sentQ | exact lf_mapG pqz_lf (.inl rfl) | exact lf_fnrp (sqz_lf _) | exact lf_sqz _ | exact lf_qe (.inl rfl) | exact .agg (lf_cons (.val _) (lf_cons (.val _) (lf_cons (.val _) (lf_cons (.val _) (lf_cons (.val _) (lf_cons (lf_qe (.inl rfl)) lf_nil)))))) | exact D.flat_lf rfl | exact lf_ssz _ | exact lf_pqz _ | exact lf_nl0 | exact .tup (lf_cons (lf_ssz _) (lf_cons (.val _) lf_nil)) | exact .tup (lf_cons (lf_pqz _) (lf_cons (.val _) lf_nil)) | exact .tup (lf_cons (lf_ints (.inl rfl)) (lf_cons (.val _) lf_nil)) | exact .tup (lf_cons (lf_ssz _) (lf_cons (lf_ints (.inl rfl)) (lf_cons (.val _) lf_nil))) | exact .tup (lf_cons (lf_ssz _) (lf_cons (lf_ssz _) (lf_cons (.val _) lf_nil))) | exact lf_sent) ?_
              exact AOps.nil ⟨rfl, rfl, rfl⟩) ?_
          refine Walk.still (rs := [76, 55]) (by rfl) (by first|simp only[nf,nfV,Nat.beq]<;>rfl|rfl) (fun base => by
              refine n_guard_yes rfl rfl rfl (by first|simp only[nf,nfV,Nat.beq]<;>rfl|rfl) rfl ?_
              refine n_not rfl (by first|simp only[nf,nfV,Nat.beq]<;>rfl|rfl) rfl ?_
              exact AOps.nil ⟨rfl, rfl, rfl⟩) ?_
          refine Walk.still (rs := [55, 77]) (by rfl) (by first|simp only[nf,nfV,Nat.beq]<;>rfl|rfl) (fun base => by
              refine n_pick rfl (by first|simp only[nf,nfV,Nat.beq]<;>rfl|rfl) (by first|simp only[nf,nfV,Nat.beq]<;>rfl|rfl) ?_
              exact AOps.nil ⟨rfl, rfl, rfl⟩) ?_
          refine Walk.done ?_
          refine AWP.cond_false (by first|simp only[nf,nfV,Nat.beq]<;>rfl|rfl) ?_
          refine AWP.skip ?_
          refine AWP.region ?_
          first | refine n_iadd rfl (by first|simp only[nf,nfV,Nat.beq]<;>rfl|rfl) (by first|simp only[nf,nfV,Nat.beq]<;>rfl|rfl) rfl (by omega) (by omega) ?_ | refine n_ibin rfl (by first|simp only[nf,nfV,Nat.beq]<;>rfl|rfl) (by first|simp only[nf,nfV,Nat.beq]<;>rfl|rfl) rfl ?_
          refine n_move rfl (by first|simp only[nf,nfV,Nat.beq]<;>rfl|rfl) ?_
          refine AOps.nil ?_
          refine ⟨1, by omega, ?_, rfl, by omega⟩
          (repeat (first | exact FLe.empty _ | refine FLe.put ?_ ?_)) <;> first | (simp only [nf, nfV, Nat.beq]; done) | rfl | ((try simp only [nf, nfV, Nat.beq]); first | rfl | (simp only [List.length_map]; done) | (congr 2; omega; done))
        · refine AWP.seq ?_
          refine AWP.region ?_
          refine n_ibin rfl (by first|simp only[nf,nfV,Nat.beq]<;>rfl|rfl) (by first|simp only[nf,nfV,Nat.beq]<;>rfl|rfl) rfl ?_
          refine AOps.nil ?_
          refine AWP.seq ?_
          refine AWP.cond_true (by first|simp only[nf,nfV,Nat.beq]<;>rfl|rfl) ?_
          refine AWP.skip ?_
          refine AWP.seq ?_
          refine AWP.block ?_
          refine AWP.seq ?_
          refine AWP.region ?_
          refine n_move rfl (by first|simp only[nf,nfV,Nat.beq]<;>rfl|rfl) ?_
          refine n_assign rfl (by first|simp only[nf,nfV,Nat.beq]<;>rfl|rfl) ?_
          refine AOps.nil ?_
          refine AWP.seq ?_
          refine AWP.anyStill (by kernel_rfl) (by kernel_rfl) ?_
          refine Walk.still (rs := [6]) (by rfl) (by first|simp only[nf,nfV,Nat.beq]<;>rfl|rfl) (fun base => by
              refine n_move rfl (by first|simp only[nf,nfV,Nat.beq]<;>rfl|rfl) ?_
              exact AOps.nil ⟨rfl, rfl, rfl⟩) ?_
          refine Walk.still (rs := [9]) (by rfl) (by first|simp only[nf,nfV,Nat.beq]<;>rfl|rfl) (fun base => by
              refine n_move rfl (by first|simp only[nf,nfV,Nat.beq]<;>rfl|rfl) ?_
              exact AOps.nil ⟨rfl, rfl, rfl⟩) ?_
          refine Walk.still (rs := [40]) (by rfl) (by first|simp only[nf,nfV,Nat.beq]<;>rfl|rfl) (fun base => by
              refine n_nilCheck rfl (by first|simp only[nf,nfV,Nat.beq]<;>rfl|rfl) rfl ?_
              exact AOps.nil ⟨rfl, rfl, rfl⟩) ?_
          refine Walk.still (rs := [42]) (by rfl) (by first|simp only[nf,nfV,Nat.beq]<;>rfl|rfl) (fun base => by
              refine n_fieldAddr rfl fd149_3 ti147 rfl (by first|simp only[nf,nfV,Nat.beq]<;>rfl|rfl) rfl (by first|simp only[nf,nfV,Nat.beq]<;>rfl|rfl) ?_
              exact AOps.nil ⟨rfl, rfl, rfl⟩) ?_
          refine Walk.still (rs := [43, 41]) (by rfl) (by first|simp only[nf,nfV,Nat.beq]<;>rfl|rfl) (fun base => by
              refine n_arrAddr (q := 16) rfl Try.underlying147 ti22 (by first|simp only[nf,nfV,Nat.beq]<;>rfl|rfl) (by first|simp only[nf,nfV,Nat.beq]<;>rfl|rfl) (by decide) (by decide) rfl ?_
              exact AOps.nil ⟨rfl, rfl, rfl⟩) ?_
          refine Walk.still (rs := [44]) (by rfl) (by first|simp only[nf,nfV,Nat.beq]<;>rfl|rfl) (fun base => by
              refine n_load rfl ti22 (by first|simp only[nf,nfV,Nat.beq]<;>rfl|rfl) (by first|simp only[nf,nfV,Nat.beq]<;>rfl|rfl) rfl (by first|simp only[nf,nfV,Nat.beq]<;>rfl|rfl) ?_
              exact AOps.nil ⟨rfl, rfl, rfl⟩) ?_
          refine Walk.still (rs := [45]) (by rfl) (by first|simp only[nf,nfV,Nat.beq]<;>rfl|rfl) (fun base => by
              refine n_len rfl Try.underlying22 (by first|simp only[nf,nfV,Nat.beq]<;>rfl|rfl) (by first | rw [ints_length] | rw [List.length_map] | rfl) ?_
              exact AOps.nil ⟨rfl, rfl, rfl⟩) ?_
          refine Walk.still (rs := [6]) (by rfl) (by first|simp only[nf,nfV,Nat.beq]<;>rfl|rfl) (fun base => by
              refine n_move rfl (by first|simp only[nf,nfV,Nat.beq]<;>rfl|rfl) ?_
              exact AOps.nil ⟨rfl, rfl, rfl⟩) ?_
          refine Walk.still (rs := [9]) (by rfl) (by first|simp only[nf,nfV,Nat.beq]<;>rfl|rfl) (fun base => by
              refine n_move rfl (by first|simp only[nf,nfV,Nat.beq]<;>rfl|rfl) ?_
              exact AOps.nil ⟨rfl, rfl, rfl⟩) ?_
          refine Walk.still (rs := [47]) (by rfl) (by first|simp only[nf,nfV,Nat.beq]<;>rfl|rfl) (fun base => by
              refine n_nilCheck rfl (by first|simp only[nf,nfV,Nat.beq]<;>rfl|rfl) rfl ?_
              exact AOps.nil ⟨rfl, rfl, rfl⟩) ?_
          refine Walk.still (rs := [49]) (by rfl) (by first|simp only[nf,nfV,Nat.beq]<;>rfl|rfl) (fun base => by
              refine n_fieldAddr rfl fd149_2 ti147 rfl (by first|simp only[nf,nfV,Nat.beq]<;>rfl|rfl) rfl (by first|simp only[nf,nfV,Nat.beq]<;>rfl|rfl) ?_
              exact AOps.nil ⟨rfl, rfl, rfl⟩) ?_
          refine Walk.still (rs := [50, 48]) (by rfl) (by first|simp only[nf,nfV,Nat.beq]<;>rfl|rfl) (fun base => by
              refine n_arrAddr (q := 14) rfl Try.underlying147 ti22 (by first|simp only[nf,nfV,Nat.beq]<;>rfl|rfl) (by first|simp only[nf,nfV,Nat.beq]<;>rfl|rfl) (by decide) (by decide) rfl ?_
              exact AOps.nil ⟨rfl, rfl, rfl⟩) ?_
          refine Walk.still (rs := [51]) (by rfl) (by first|simp only[nf,nfV,Nat.beq]<;>rfl|rfl) (fun base => by
              refine n_load rfl ti22 (by first|simp only[nf,nfV,Nat.beq]<;>rfl|rfl) (by first|simp only[nf,nfV,Nat.beq]<;>rfl|rfl) rfl (by first|simp only[nf,nfV,Nat.beq]<;>rfl|rfl) ?_
              exact AOps.nil ⟨rfl, rfl, rfl⟩) ?_
          refine Walk.still (rs := [52]) (by rfl) (by first|simp only[nf,nfV,Nat.beq]<;>rfl|rfl) (fun base => by
              refine n_len rfl Try.underlying22 (by first|simp only[nf,nfV,Nat.beq]<;>rfl|rfl) (by first | rw [ints_length] | rw [List.length_map] | rfl) ?_
              exact AOps.nil ⟨rfl, rfl, rfl⟩) ?_
          refine Walk.still (rs := [46, 53]) (by rfl) (by first|simp only[nf,nfV,Nat.beq]<;>rfl|rfl) (fun base => by
              refine n_ibin (v := .bool false) rfl (by first|simp only[nf,nfV,Nat.beq]<;>rfl|rfl) (by first|simp only[nf,nfV,Nat.beq]<;>rfl|rfl) (by show some (Value.bool (decide _)) = _; rw [decide_eq_false (by omega)]) ?_
              exact AOps.nil ⟨rfl, rfl, rfl⟩) ?_
          refine Walk.still (rs := [54]) (by rfl) (by first|simp only[nf,nfV,Nat.beq]<;>rfl|rfl) (fun base => by
              refine n_move rfl (by first|simp only[nf,nfV,Nat.beq]<;>rfl|rfl) ?_
              exact AOps.nil ⟨rfl, rfl, rfl⟩) ?_
          refine Walk.still (rs := [6, 55]) (by rfl) (by first|simp only[nf,nfV,Nat.beq]<;>rfl|rfl) (fun base => by
              refine n_guard_yes rfl rfl rfl (by first|simp only[nf,nfV,Nat.beq]<;>rfl|rfl) rfl ?_
              refine n_move rfl (by first|simp only[nf,nfV,Nat.beq]<;>rfl|rfl) ?_
              exact AOps.nil ⟨rfl, rfl, rfl⟩) ?_
          refine Walk.still (rs := [9, 55]) (by rfl) (by first|simp only[nf,nfV,Nat.beq]<;>rfl|rfl) (fun base => by
              refine n_guard_yes rfl rfl rfl (by first|simp only[nf,nfV,Nat.beq]<;>rfl|rfl) rfl ?_
              refine n_move rfl (by first|simp only[nf,nfV,Nat.beq]<;>rfl|rfl) ?_
              exact AOps.nil ⟨rfl, rfl, rfl⟩) ?_
          refine Walk.still (rs := [56, 55]) (by rfl) (by first|simp only[nf,nfV,Nat.beq]<;>rfl|rfl) (fun base => by
              refine n_guard_yes rfl rfl rfl (by first|simp only[nf,nfV,Nat.beq]<;>rfl|rfl) rfl ?_
              refine n_nilCheck rfl (by first|simp only[nf,nfV,Nat.beq]<;>rfl|rfl) rfl ?_
              exact AOps.nil ⟨rfl, rfl, rfl⟩) ?_
          refine Walk.still (rs := [58, 55]) (by rfl) (by first|simp only[nf,nfV,Nat.beq]<;>rfl|rfl) (fun base => by
              refine n_guard_yes rfl rfl rfl (by first|simp only[nf,nfV,Nat.beq]<;>rfl|rfl) rfl ?_
              refine n_fieldAddr rfl fd149_3 ti147 rfl (by first|simp only[nf,nfV,Nat.beq]<;>rfl|rfl) rfl (by first|simp only[nf,nfV,Nat.beq]<;>rfl|rfl) ?_
              exact AOps.nil ⟨rfl, rfl, rfl⟩) ?_
          refine Walk.still (rs := [59, 57, 55]) (by rfl) (by first|simp only[nf,nfV,Nat.beq]<;>rfl|rfl) (fun base => by
              refine n_guard_yes rfl rfl rfl (by first|simp only[nf,nfV,Nat.beq]<;>rfl|rfl) rfl ?_
              refine n_arrAddr (q := 16) rfl Try.underlying147 ti22 (by first|simp only[nf,nfV,Nat.beq]<;>rfl|rfl) (by first|simp only[nf,nfV,Nat.beq]<;>rfl|rfl) (by decide) (by decide) rfl ?_
              exact AOps.nil ⟨rfl, rfl, rfl⟩) ?_
          refine Walk.still (rs := [60, 55]) (by rfl) (by first|simp only[nf,nfV,Nat.beq]<;>rfl|rfl) (fun base => by
              refine n_guard_yes rfl rfl rfl (by first|simp only[nf,nfV,Nat.beq]<;>rfl|rfl) rfl ?_
              refine n_load rfl ti22 (by first|simp only[nf,nfV,Nat.beq]<;>rfl|rfl) (by first|simp only[nf,nfV,Nat.beq]<;>rfl|rfl) rfl (by first|simp only[nf,nfV,Nat.beq]<;>rfl|rfl) ?_
              exact AOps.nil ⟨rfl, rfl, rfl⟩) ?_
          refine Walk.still (rs := [6, 55]) (by rfl) (by first|simp only[nf,nfV,Nat.beq]<;>rfl|rfl) (fun base => by
              refine n_guard_yes rfl rfl rfl (by first|simp only[nf,nfV,Nat.beq]<;>rfl|rfl) rfl ?_
              refine n_move rfl (by first|simp only[nf,nfV,Nat.beq]<;>rfl|rfl) ?_
              exact AOps.nil ⟨rfl, rfl, rfl⟩) ?_
          refine Walk.still (rs := [9, 55]) (by rfl) (by first|simp only[nf,nfV,Nat.beq]<;>rfl|rfl) (fun base => by
              refine n_guard_yes rfl rfl rfl (by first|simp only[nf,nfV,Nat.beq]<;>rfl|rfl) rfl ?_
              refine n_move rfl (by first|simp only[nf,nfV,Nat.beq]<;>rfl|rfl) ?_
              exact AOps.nil ⟨rfl, rfl, rfl⟩) ?_
          refine Walk.still (rs := [62, 55]) (by rfl) (by first|simp only[nf,nfV,Nat.beq]<;>rfl|rfl) (fun base => by
              refine n_guard_yes rfl rfl rfl (by first|simp only[nf,nfV,Nat.beq]<;>rfl|rfl) rfl ?_
              refine n_nilCheck rfl (by first|simp only[nf,nfV,Nat.beq]<;>rfl|rfl) rfl ?_
              exact AOps.nil ⟨rfl, rfl, rfl⟩) ?_
          refine Walk.still (rs := [64, 55]) (by rfl) (by first|simp only[nf,nfV,Nat.beq]<;>rfl|rfl) (fun base => by
              refine n_guard_yes rfl rfl rfl (by first|simp only[nf,nfV,Nat.beq]<;>rfl|rfl) rfl ?_
              refine n_fieldAddr rfl fd149_2 ti147 rfl (by first|simp only[nf,nfV,Nat.beq]<;>rfl|rfl) rfl (by first|simp only[nf,nfV,Nat.beq]<;>rfl|rfl) ?_
              exact AOps.nil ⟨rfl, rfl, rfl⟩) ?_
          refine Walk.still (rs := [65, 63, 55]) (by rfl) (by first|simp only[nf,nfV,Nat.beq]<;>rfl|rfl) (fun base => by
              refine n_guard_yes rfl rfl rfl (by first|simp only[nf,nfV,Nat.beq]<;>rfl|rfl) rfl ?_
              refine n_arrAddr (q := 14) rfl Try.underlying147 ti22 (by first|simp only[nf,nfV,Nat.beq]<;>rfl|rfl) (by first|simp only[nf,nfV,Nat.beq]<;>rfl|rfl) (by decide) (by decide) rfl ?_
              exact AOps.nil ⟨rfl, rfl, rfl⟩) ?_
          refine Walk.still (rs := [66, 55]) (by rfl) (by first|simp only[nf,nfV,Nat.beq]<;>rfl|rfl) (fun base => by
              refine n_guard_yes rfl rfl rfl (by first|simp only[nf,nfV,Nat.beq]<;>rfl|rfl) rfl ?_
              refine n_load rfl ti22 (by first|simp only[nf,nfV,Nat.beq]<;>rfl|rfl) (by first|simp only[nf,nfV,Nat.beq]<;>rfl|rfl) rfl (by first|simp only[nf,nfV,Nat.beq]<;>rfl|rfl) ?_
              exact AOps.nil ⟨rfl, rfl, rfl⟩) ?_
          refine Walk.still (rs := [6, 55]) (by rfl) (by first|simp only[nf,nfV,Nat.beq]<;>rfl|rfl) (fun base => by
              refine n_guard_yes rfl rfl rfl (by first|simp only[nf,nfV,Nat.beq]<;>rfl|rfl) rfl ?_
              refine n_move rfl (by first|simp only[nf,nfV,Nat.beq]<;>rfl|rfl) ?_
              exact AOps.nil ⟨rfl, rfl, rfl⟩) ?_
          refine Walk.still (rs := [9, 55]) (by rfl) (by first|simp only[nf,nfV,Nat.beq]<;>rfl|rfl) (fun base => by
              refine n_guard_yes rfl rfl rfl (by first|simp only[nf,nfV,Nat.beq]<;>rfl|rfl) rfl ?_
              refine n_move rfl (by first|simp only[nf,nfV,Nat.beq]<;>rfl|rfl) ?_
              exact AOps.nil ⟨rfl, rfl, rfl⟩) ?_
          refine Walk.still (rs := [68, 55]) (by rfl) (by first|simp only[nf,nfV,Nat.beq]<;>rfl|rfl) (fun base => by
              refine n_guard_yes rfl rfl rfl (by first|simp only[nf,nfV,Nat.beq]<;>rfl|rfl) rfl ?_
              refine n_nilCheck rfl (by first|simp only[nf,nfV,Nat.beq]<;>rfl|rfl) rfl ?_
              exact AOps.nil ⟨rfl, rfl, rfl⟩) ?_
          refine Walk.still (rs := [70, 55]) (by rfl) (by first|simp only[nf,nfV,Nat.beq]<;>rfl|rfl) (fun base => by
              refine n_guard_yes rfl rfl rfl (by first|simp only[nf,nfV,Nat.beq]<;>rfl|rfl) rfl ?_
              refine n_fieldAddr rfl fd149_3 ti147 rfl (by first|simp only[nf,nfV,Nat.beq]<;>rfl|rfl) rfl (by first|simp only[nf,nfV,Nat.beq]<;>rfl|rfl) ?_
              exact AOps.nil ⟨rfl, rfl, rfl⟩) ?_
          refine Walk.still (rs := [71, 69, 55]) (by rfl) (by first|simp only[nf,nfV,Nat.beq]<;>rfl|rfl) (fun base => by
              refine n_guard_yes rfl rfl rfl (by first|simp only[nf,nfV,Nat.beq]<;>rfl|rfl) rfl ?_
              refine n_arrAddr (q := 16) rfl Try.underlying147 ti22 (by first|simp only[nf,nfV,Nat.beq]<;>rfl|rfl) (by first|simp only[nf,nfV,Nat.beq]<;>rfl|rfl) (by decide) (by decide) rfl ?_
              exact AOps.nil ⟨rfl, rfl, rfl⟩) ?_
          refine Walk.still (rs := [72, 55]) (by rfl) (by first|simp only[nf,nfV,Nat.beq]<;>rfl|rfl) (fun base => by
              refine n_guard_yes rfl rfl rfl (by first|simp only[nf,nfV,Nat.beq]<;>rfl|rfl) rfl ?_
              refine n_load rfl ti22 (by first|simp only[nf,nfV,Nat.beq]<;>rfl|rfl) (by first|simp only[nf,nfV,Nat.beq]<;>rfl|rfl) rfl (by first|simp only[nf,nfV,Nat.beq]<;>rfl|rfl) ?_
              exact AOps.nil ⟨rfl, rfl, rfl⟩) ?_
          refine Walk.still (rs := [73, 55]) (by rfl) (by first|simp only[nf,nfV,Nat.beq]<;>rfl|rfl) (fun base => by
              refine n_guard_yes rfl rfl rfl (by first|simp only[nf,nfV,Nat.beq]<;>rfl|rfl) rfl ?_
              refine n_len rfl Try.underlying22 (by first|simp only[nf,nfV,Nat.beq]<;>rfl|rfl) (by first | rw [ints_length] | rw [List.length_map] | rfl) ?_
              exact AOps.nil ⟨rfl, rfl, rfl⟩) ?_
          refine Walk.still (rs := [67, 74, 55]) (by rfl) (by first|simp only[nf,nfV,Nat.beq]<;>rfl|rfl) (fun base => by
              refine n_guard_yes rfl rfl rfl (by first|simp only[nf,nfV,Nat.beq]<;>rfl|rfl) rfl ?_
              refine n_slice (k := 0) (h := ((l.does n).came true).length) (ys := ints .u8 ((l.does n).came true)) rfl Try.underlying22 ti5 (by first|simp only[nf,nfV,Nat.beq]<;>rfl|rfl) (SB.some (by first|simp only[nf,nfV,Nat.beq]<;>rfl|rfl) (by first | rfl | omega)) SB.none (by omega) (by rw [ints_length]; exact hE1.1) (ints_one _ _) (by rw [List.drop_zero, ints_take, hE1.2]) ?_
              exact AOps.nil ⟨rfl, rfl, rfl⟩) ?_
          refine Walk.still (rs := [61, 75, 55]) (by rfl) (by first|simp only[nf,nfV,Nat.beq]<;>rfl|rfl) (fun base => by
              refine n_guard_yes rfl rfl rfl (by first|simp only[nf,nfV,Nat.beq]<;>rfl|rfl) rfl ?_
              refine n_call0B rfl cf40 rfl (Eq.trans (by simp only [nl] <;> rfl) (by first|simp only[nf,nfV,Nat.beq]<;>rfl|rfl)) (by repeat (first | exact .nil | refine .cons ?_ ?_ | exact ren_ints | exact .lf (.val _) | exact .lf (lf_ints (.inl rfl)) | exact .bp ⟨rfl, rfl⟩ | exact .bp (.inl ⟨rfl, rfl⟩) | exact .bp (.inr ⟨rfl, rfl⟩) | exact .lf (lf_fnrp (sqz_lf _)) | exact .lf (.rp (sqz_lf _)) | exact ren_qe | exact .lf (lf_sqz _) | exact .lf (lf_qe (.inl rfl)) | exact ren_sqz rfl | exact ren_sqz0 rfl | exact ren_bys0 rfl | exact .lf (D.flat_lf rfl) | exact ren_lits rfl | exact .lf (lf_ssz _) | exact .lf (lf_pqz _) | exact ren_q0 rfl | exact ren_pq rfl | exact ren_nl0 | exact ren_sq | exact .lf (.fn (fun d h => by cases h) (fun d h => by cases h)))) (hbb1) (by first | exact .val _ | exact lf_ints (.inl rfl) | exact lf_ints (.inr rfl) | exact .any | exact lf_taken | exact lf_sentQ | exact lf_mapG pqz_lf (.inl rfl) | exact lf_fnrp (sqz_lf _) | exact lf_sqz _ | exact lf_qe (.inl rfl) | exact .agg (lf_cons (.val _) (lf_cons (.val _) (lf_cons (.val _) (lf_cons (.val _) (lf_cons (.val _) (lf_cons (lf_qe (.inl rfl)) lf_nil)))))) | exact D.flat_lf rfl | exact lf_ssz _ | exact lf_pqz _ | exact lf_nl0 | exact .tup (lf_cons (lf_ssz _) (lf_cons (.val _) lf_nil)) | exact .tup (lf_cons (lf_pqz _) (lf_cons (.val _) lf_nil)) | exact .tup (lf_cons (lf_ints (.inl rfl)) (lf_cons (.val _) lf_nil)) | exact .tup (lf_cons (lf_ssz _) (lf_cons (lf_ints (.inl rfl)) (lf_cons (.val _) lf_nil))) | exact .tup (lf_cons (lf_ssz _) (lf_cons (lf_ssz _) (lf_cons (.val _) lf_nil))) | exact lf_sent) ?_
              exact AOps.nil ⟨rfl, rfl, rfl⟩) ?_
          refine Walk.still (rs := [76, 55]) (by rfl) (by first|simp only[nf,nfV,Nat.beq]<;>rfl|rfl) (fun base => by
              refine n_guard_yes rfl rfl rfl (by first|simp only[nf,nfV,Nat.beq]<;>rfl|rfl) rfl ?_
              refine n_not rfl (by first|simp only[nf,nfV,Nat.beq]<;>rfl|rfl) rfl ?_
              exact AOps.nil ⟨rfl, rfl, rfl⟩) ?_
          refine Walk.still (rs := [55, 77]) (by rfl) (by first|simp only[nf,nfV,Nat.beq]<;>rfl|rfl) (fun base => by
              refine n_pick rfl (by first|simp only[nf,nfV,Nat.beq]<;>rfl|rfl) (by first|simp only[nf,nfV,Nat.beq]<;>rfl|rfl) ?_
              exact AOps.nil ⟨rfl, rfl, rfl⟩) ?_
          refine Walk.done ?_
          refine AWP.cond_false (by first|simp only[nf,nfV,Nat.beq]<;>rfl|rfl) ?_
          refine AWP.skip ?_
          refine AWP.region ?_
          first | refine n_iadd rfl (by first|simp only[nf,nfV,Nat.beq]<;>rfl|rfl) (by first|simp only[nf,nfV,Nat.beq]<;>rfl|rfl) rfl (by omega) (by omega) ?_ | refine n_ibin rfl (by first|simp only[nf,nfV,Nat.beq]<;>rfl|rfl) (by first|simp only[nf,nfV,Nat.beq]<;>rfl|rfl) rfl ?_
          refine n_move rfl (by first|simp only[nf,nfV,Nat.beq]<;>rfl|rfl) ?_
          refine AOps.nil ?_
          refine ⟨2, by omega, ?_, rfl, by omega⟩
          (repeat (first | exact FLe.empty _ | refine FLe.put ?_ ?_)) <;> first | (simp only [nf, nfV, Nat.beq]; done) | rfl | ((try simp only [nf, nfV, Nat.beq]); first | rfl | (simp only [List.length_map]; done) | (congr 2; omega; done))
        · refine AWP.seq ?_
          refine AWP.region ?_
          refine n_ibin rfl (by first|simp only[nf,nfV,Nat.beq]<;>rfl|rfl) (by first|simp only[nf,nfV,Nat.beq]<;>rfl|rfl) rfl ?_
          refine AOps.nil ?_
          refine AWP.seq ?_
          refine AWP.cond_false (by first|simp only[nf,nfV,Nat.beq]<;>rfl|rfl) ?_
          refine AWP.exit ?_
          refine AWP.region ?_
          first | refine n_iadd rfl (by first|simp only[nf,nfV,Nat.beq]<;>rfl|rfl) (by first|simp only[nf,nfV,Nat.beq]<;>rfl|rfl) rfl (by omega) (by omega) ?_ | refine n_ibin rfl (by first|simp only[nf,nfV,Nat.beq]<;>rfl|rfl) (by first|simp only[nf,nfV,Nat.beq]<;>rfl|rfl) rfl ?_
          refine n_move rfl (by first|simp only[nf,nfV,Nat.beq]<;>rfl|rfl) ?_
          refine AOps.nil ?_
          refine ⟨(i + 1, l.does n, r2, S2), ⟨by omega, hI2, h2, hB2⟩, ?_, rfl, by omega⟩
          (repeat (first | exact FLe.empty _ | refine FLe.put ?_ ?_)) <;> first | (simp only [nf, nfV, Nat.beq]; done) | rfl | ((try simp only [nf, nfV, Nat.beq]); first | rfl | (simp only [List.length_map]; done) | (congr 2; omega; done))
    · try simp only [nh] at hc3
      refine AWP.exit ?_
      refine AWP.seq ?_
      refine AWP.region ?_
      refine n_assign rfl (by first|simp only[nf,nfV,Nat.beq]<;>rfl|rfl) ?_
      refine AOps.nil ?_
      refine AWP.ret ?_
      refine fin_pure (.cons (rv_tmp (by first|simp only[nf,nfV,Nat.beq]<;>rfl|rfl)) .nil) (by first|simp only[nf,nfV,Nat.beq]<;>rfl|rfl) ?_
      first | exact ren_flat rfl rfl | exact ren_flat rfl (congrArg vb (by simp))

end Go.Proofs.Ytanfmpkjcoolmaa.Sf
