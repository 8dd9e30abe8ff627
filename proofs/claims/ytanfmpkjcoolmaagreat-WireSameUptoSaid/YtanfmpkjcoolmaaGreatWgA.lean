/- Which messages are the same; a clone is the same, and its own. -/
import Derived.Test.YtanfmpkjcoolmaaGreatWfB
set_option linter.unusedVariables false
set_option linter.unusedSimpArgs false
namespace Go.Proofs.YtanfmpkjcoolmaaGreat.Wg
open Go Go.Abs Go.Proofs.YtanfmpkjcoolmaaGreat.Pk Wa Wb Wc Wd We Wf
attribute [local irreducible] AWP AOps Does

theorem nrWgA0 {α : Type} {a b : α} (h : a = b := by first|simp only[nf,Nat.beq]<;>rfl|rfl) : a = b := h
theorem lfWgA0 {d : D} (h : LF d := by first | exact .val _ | exact lf_ints (.inl rfl) | exact lf_ints (.inr rfl) | exact .any | exact .tup (lf_cons (lf_ints (.inl rfl)) (lf_cons (.val _) lf_nil)) | exact wz_lf _ | exact .tup (lf_cons (wz_lf _) (lf_cons (.val _) lf_nil)) | exact .agg (qt_lf _) | exact D.flat_lf rfl) : LF d := h
theorem cf10 : CF Tryz.prog 10 := ⟨_, Tryz.func10, by kernel_rfl, by kernel_rfl⟩
theorem cf11 : CF Tryz.prog 11 := ⟨_, Tryz.func11, by kernel_rfl, by kernel_rfl⟩
theorem cf5 : CF Tryz.prog 5 := ⟨_, Tryz.func5, by kernel_rfl, by kernel_rfl⟩
theorem cf8 : CF Tryz.prog 8 := ⟨_, Tryz.func8, by kernel_rfl, by kernel_rfl⟩
theorem fd26_3 : FD Tryz.prog 26 3 23 3 := ⟨_, _, Tryz.underlying26, rfl, rfl, rfl⟩
theorem fd33_11 : FD Tryz.prog 33 11 24 16 := ⟨_, _, Tryz.underlying33, rfl, rfl, rfl⟩
theorem fd33_13 : FD Tryz.prog 33 13 29 18 := ⟨_, _, Tryz.underlying33, rfl, rfl, rfl⟩
theorem fd33_16 : FD Tryz.prog 33 16 30 21 := ⟨_, _, Tryz.underlying33, rfl, rfl, rfl⟩
theorem fd33_18 : FD Tryz.prog 33 18 31 23 := ⟨_, _, Tryz.underlying33, rfl, rfl, rfl⟩
theorem fd33_8 : FD Tryz.prog 33 8 26 8 := ⟨_, _, Tryz.underlying33, rfl, rfl, rfl⟩
theorem fd44_1 : FD Tryz.prog 44 1 2 1 := ⟨_, _, Tryz.underlying44, rfl, rfl, rfl⟩
theorem fd46_0 : FD Tryz.prog 46 0 2 0 := ⟨_, _, Tryz.underlying46, rfl, rfl, rfl⟩
theorem fd49_0 : FD Tryz.prog 49 0 47 0 := ⟨_, _, Tryz.underlying49, rfl, rfl, rfl⟩
theorem fd51_2 : FD Tryz.prog 51 2 2 2 := ⟨_, _, Tryz.underlying51, rfl, rfl, rfl⟩
theorem ti2 : TI Tryz.prog 2 1 false := ⟨by kernel_rfl, by kernel_rfl⟩
theorem ti23 : TI Tryz.prog 23 1 false := ⟨by kernel_rfl, by kernel_rfl⟩
theorem ti24 : TI Tryz.prog 24 1 false := ⟨by kernel_rfl, by kernel_rfl⟩
theorem ti26 : TI Tryz.prog 26 5 true := ⟨by kernel_rfl, by kernel_rfl⟩
theorem ti29 : TI Tryz.prog 29 1 false := ⟨by kernel_rfl, by kernel_rfl⟩
theorem ti30 : TI Tryz.prog 30 1 false := ⟨by kernel_rfl, by kernel_rfl⟩
theorem ti31 : TI Tryz.prog 31 1 false := ⟨by kernel_rfl, by kernel_rfl⟩
theorem ti33 : TI Tryz.prog 33 24 true := ⟨by kernel_rfl, by kernel_rfl⟩
theorem ti44 : TI Tryz.prog 44 2 true := ⟨by kernel_rfl, by kernel_rfl⟩
theorem ti46 : TI Tryz.prog 46 4 true := ⟨by kernel_rfl, by kernel_rfl⟩
theorem ti47 : TI Tryz.prog 47 1 false := ⟨by kernel_rfl, by kernel_rfl⟩
theorem ti49 : TI Tryz.prog 49 2 true := ⟨by kernel_rfl, by kernel_rfl⟩
theorem ti5 : TI Tryz.prog 5 1 false := ⟨by kernel_rfl, by kernel_rfl⟩
theorem ti51 : TI Tryz.prog 51 4 true := ⟨by kernel_rfl, by kernel_rfl⟩
theorem zi33 : (Tryz.prog.info? 33).map (·.zero) = some (some (.agg #[.int .i64 0, .int .i64 0, .int .i64 0, .int .i64 0, .int .i64 0, .int .i64 0, .bool false, .int .i64 0, .int .i64 0, .int .i64 0, .int .i64 0, .slice none 0 0, .slice none 0 0, .int .i64 0, .int .i64 0, .int .i64 0, .slice none 0 0, .int .i64 0, .slice none 0 0, .int .i64 0, .int .i64 0, .slice none 0 0, .int .i64 0, .slice none 0 0])) := by kernel_rfl

theorem at_box {S : List Ob} {l o : Nat} {ds : List D} (h : S[l]? = some (.box ds)) : D.at S (.bp l o) = some (ds.drop o) := by
  show (match S[l]? with | some (.box ds) => some (ds.drop o) | _ => none) = _
  rw [h]
set_option maxHeartbeats 4000000 in
theorem Same_calls (a b : Wr) (ha : a.Sz) (hb : b.Sz) : Does Tryz.prog 4 [.agg (wz a), .agg (wz b)] [] (vb true) [] := by
  refine Does.of_body (rvs := [.tmp 4]) Tryz.func4 rfl rfl rfl rfl ?_
  have hes := e_wr a a ha ha
  rw [sameW_self] at hes
  have hrs := r_wr a a ha ha
  rw [sameW_self] at hrs
  have hat := ha.t
  have hac := ha.c
  have hae := ha.e
  have har := ha.r
  have ham := ha.m
  refine AWP.seq ?_
  refine AWP.region ?_
  refine n_box rfl nrWgA0 rfl rfl nrWgA0 nrWgA0 ?_
  refine n_box rfl nrWgA0 rfl rfl nrWgA0 nrWgA0 ?_
  refine n_assign rfl nrWgA0 ?_
  refine AOps.nil ?_
  refine AWP.seq ?_
  refine AWP.seq ?_
  refine AWP.anyStill (by kernel_rfl) (by kernel_rfl) ?_
  refine Walk.still (rs := []) (by rfl) nrWgA0 (fun base => by
      refine n_call0B rfl cf5 rfl (Eq.trans (by simp only [nl] <;> rfl) nrWgA0) (by repeat (first | exact .nil | refine .cons ?_ ?_ | exact ren_ints | exact .lf (.val _) | exact .lf (lf_ints (.inl rfl)) | exact .bp ⟨rfl, rfl⟩ | exact .bp (.inl ⟨rfl, rfl⟩) | exact .bp (.inr ⟨rfl, rfl⟩) | exact .lf (wz_lf _) | exact .agg rfl (RenAll.get (by repeat (first | exact .nil | refine .cons ?_ ?_ | exact .lf (.val _) | exact ren_map (f := q1) (fun _ => rfl) | exact ren_map (f := q2) (fun _ => rfl) | exact ren_map (f := q4) (fun _ => rfl) | exact ren_mapG qt_lf | exact .ro (fun x h => by cases h) | exact ren_ints))) | exact .lf (txz_lf _) | exact ren_mapG qt_lf | exact .lf lf_fnz | exact .lf (.agg (qt_lf _)) | exact .lf lf_fnz | exact ren_map (f := q1) (fun _ => rfl) | exact ren_map (f := q2) (fun _ => rfl) | exact ren_map (f := q4) (fun _ => rfl) | exact .lf (D.flat_lf rfl) | exact ren_lits rfl | exact ren_ints)) (h_begun) lfWgA0 ?_
      exact AOps.nil ⟨rfl, rfl, rfl⟩) ?_
  refine Walk.still (rs := [12]) (by rfl) nrWgA0 (fun base => by
      refine n_not rfl nrWgA0 rfl ?_
      exact AOps.nil ⟨rfl, rfl, rfl⟩) ?_
  refine Walk.still (rs := [13]) (by rfl) nrWgA0 (fun base => by
      refine n_move rfl nrWgA0 ?_
      exact AOps.nil ⟨rfl, rfl, rfl⟩) ?_
  refine Walk.still (rs := [2, 14]) (by rfl) nrWgA0 (fun base => by
      refine n_guard_yes rfl rfl rfl nrWgA0 rfl ?_
      refine n_load rfl ti33 nrWgA0 nrWgA0 rfl nrWgA0 ?_
      exact AOps.nil ⟨rfl, rfl, rfl⟩) ?_
  refine Walk.still (rs := [3, 14]) (by rfl) nrWgA0 (fun base => by
      refine n_guard_yes rfl rfl rfl nrWgA0 rfl ?_
      refine n_load rfl ti33 nrWgA0 nrWgA0 rfl nrWgA0 ?_
      exact AOps.nil ⟨rfl, rfl, rfl⟩) ?_
  refine Walk.still (rs := [15, 16, 14]) (by rfl) nrWgA0 (fun base => by
      refine n_guard_yes rfl rfl rfl nrWgA0 rfl ?_
      refine n_call0B rfl cf10 rfl (Eq.trans (by simp only [nl] <;> rfl) nrWgA0) (by repeat (first | exact .nil | refine .cons ?_ ?_ | exact ren_ints | exact .lf (.val _) | exact .lf (lf_ints (.inl rfl)) | exact .bp ⟨rfl, rfl⟩ | exact .bp (.inl ⟨rfl, rfl⟩) | exact .bp (.inr ⟨rfl, rfl⟩) | exact .lf (wz_lf _) | exact .agg rfl (RenAll.get (by repeat (first | exact .nil | refine .cons ?_ ?_ | exact .lf (.val _) | exact ren_map (f := q1) (fun _ => rfl) | exact ren_map (f := q2) (fun _ => rfl) | exact ren_map (f := q4) (fun _ => rfl) | exact ren_mapG qt_lf | exact .ro (fun x h => by cases h) | exact ren_ints))) | exact .lf (txz_lf _) | exact ren_mapG qt_lf | exact .lf lf_fnz | exact .lf (.agg (qt_lf _)) | exact .lf lf_fnz | exact ren_map (f := q1) (fun _ => rfl) | exact ren_map (f := q2) (fun _ => rfl) | exact ren_map (f := q4) (fun _ => rfl) | exact .lf (D.flat_lf rfl) | exact ren_lits rfl | exact ren_ints)) (e_wr a b ha hb) lfWgA0 ?_
      exact AOps.nil ⟨rfl, rfl, rfl⟩) ?_
  refine Walk.still (rs := [2, 14]) (by rfl) nrWgA0 (fun base => by
      refine n_guard_yes rfl rfl rfl nrWgA0 rfl ?_
      refine n_load rfl ti33 nrWgA0 nrWgA0 rfl nrWgA0 ?_
      exact AOps.nil ⟨rfl, rfl, rfl⟩) ?_
  refine Walk.still (rs := [3, 14]) (by rfl) nrWgA0 (fun base => by
      refine n_guard_yes rfl rfl rfl nrWgA0 rfl ?_
      refine n_load rfl ti33 nrWgA0 nrWgA0 rfl nrWgA0 ?_
      exact AOps.nil ⟨rfl, rfl, rfl⟩) ?_
  refine Walk.still (rs := [18, 19, 14]) (by rfl) nrWgA0 (fun base => by
      refine n_guard_yes rfl rfl rfl nrWgA0 rfl ?_
      refine n_call0B rfl cf8 rfl (Eq.trans (by simp only [nl] <;> rfl) nrWgA0) (by repeat (first | exact .nil | refine .cons ?_ ?_ | exact ren_ints | exact .lf (.val _) | exact .lf (lf_ints (.inl rfl)) | exact .bp ⟨rfl, rfl⟩ | exact .bp (.inl ⟨rfl, rfl⟩) | exact .bp (.inr ⟨rfl, rfl⟩) | exact .lf (wz_lf _) | exact .agg rfl (RenAll.get (by repeat (first | exact .nil | refine .cons ?_ ?_ | exact .lf (.val _) | exact ren_map (f := q1) (fun _ => rfl) | exact ren_map (f := q2) (fun _ => rfl) | exact ren_map (f := q4) (fun _ => rfl) | exact ren_mapG qt_lf | exact .ro (fun x h => by cases h) | exact ren_ints))) | exact .lf (txz_lf _) | exact ren_mapG qt_lf | exact .lf lf_fnz | exact .lf (.agg (qt_lf _)) | exact .lf lf_fnz | exact ren_map (f := q1) (fun _ => rfl) | exact ren_map (f := q2) (fun _ => rfl) | exact ren_map (f := q4) (fun _ => rfl) | exact .lf (D.flat_lf rfl) | exact ren_lits rfl | exact ren_ints)) (r_wr a b ha hb) lfWgA0 ?_
      exact AOps.nil ⟨rfl, rfl, rfl⟩) ?_
  refine Walk.still (rs := [17, 20, 14]) (by rfl) nrWgA0 (fun base => by
      refine n_guard_yes rfl rfl rfl nrWgA0 rfl ?_
      refine n_bneq (a := sameW a b) (b := sameW a b) (c := false) rfl nrWgA0 nrWgA0 Tryz.underlying4 (by rw [bne_self_eq_false]) ?_
      exact AOps.nil ⟨rfl, rfl, rfl⟩) ?_
  refine Walk.still (rs := [14, 21]) (by rfl) nrWgA0 (fun base => by
      refine n_pick rfl nrWgA0 nrWgA0 ?_
      exact AOps.nil ⟨rfl, rfl, rfl⟩) ?_
  refine Walk.still (rs := [22]) (by rfl) nrWgA0 (fun base => by
      refine n_move rfl nrWgA0 ?_
      exact AOps.nil ⟨rfl, rfl, rfl⟩) ?_
  refine Walk.still (rs := [2, 23]) (by rfl) nrWgA0 (fun base => by
      refine n_guard_yes rfl rfl rfl nrWgA0 rfl ?_
      refine n_load rfl ti33 nrWgA0 nrWgA0 rfl nrWgA0 ?_
      exact AOps.nil ⟨rfl, rfl, rfl⟩) ?_
  refine Walk.still (rs := [2, 23]) (by rfl) nrWgA0 (fun base => by
      refine n_guard_yes rfl rfl rfl nrWgA0 rfl ?_
      refine n_load rfl ti33 nrWgA0 nrWgA0 rfl nrWgA0 ?_
      exact AOps.nil ⟨rfl, rfl, rfl⟩) ?_
  refine Walk.still (rs := [24, 25, 23]) (by rfl) nrWgA0 (fun base => by
      refine n_guard_yes rfl rfl rfl nrWgA0 rfl ?_
      refine n_call0B rfl cf10 rfl (Eq.trans (by simp only [nl] <;> rfl) nrWgA0) (by repeat (first | exact .nil | refine .cons ?_ ?_ | exact ren_ints | exact .lf (.val _) | exact .lf (lf_ints (.inl rfl)) | exact .bp ⟨rfl, rfl⟩ | exact .bp (.inl ⟨rfl, rfl⟩) | exact .bp (.inr ⟨rfl, rfl⟩) | exact .lf (wz_lf _) | exact .agg rfl (RenAll.get (by repeat (first | exact .nil | refine .cons ?_ ?_ | exact .lf (.val _) | exact ren_map (f := q1) (fun _ => rfl) | exact ren_map (f := q2) (fun _ => rfl) | exact ren_map (f := q4) (fun _ => rfl) | exact ren_mapG qt_lf | exact .ro (fun x h => by cases h) | exact ren_ints))) | exact .lf (txz_lf _) | exact ren_mapG qt_lf | exact .lf lf_fnz | exact .lf (.agg (qt_lf _)) | exact .lf lf_fnz | exact ren_map (f := q1) (fun _ => rfl) | exact ren_map (f := q2) (fun _ => rfl) | exact ren_map (f := q4) (fun _ => rfl) | exact .lf (D.flat_lf rfl) | exact ren_lits rfl | exact ren_ints)) (hes) lfWgA0 ?_
      exact AOps.nil ⟨rfl, rfl, rfl⟩) ?_
  refine Walk.still (rs := [26, 23]) (by rfl) nrWgA0 (fun base => by
      refine n_guard_yes rfl rfl rfl nrWgA0 rfl ?_
      refine n_not rfl nrWgA0 rfl ?_
      exact AOps.nil ⟨rfl, rfl, rfl⟩) ?_
  refine Walk.still (rs := [23, 27]) (by rfl) nrWgA0 (fun base => by
      refine n_pick rfl nrWgA0 nrWgA0 ?_
      exact AOps.nil ⟨rfl, rfl, rfl⟩) ?_
  refine Walk.done ?_
  refine AWP.cond_false nrWgA0 ?_
  refine AWP.skip ?_
  refine AWP.seq ?_
  refine AWP.reserve _ nrWgA0 ?_
  refine AWP.region ?_
  refine n_load rfl ti33 nrWgA0 nrWgA0 rfl nrWgA0 ?_
  refine op_callK (dst := some 30) rfl cf11 rfl (Eq.trans (by simp only [nl] <;> rfl) nrWgA0) (cl3 a ha b _ ?_)
  refine n_allocAt 2 rfl zi33 rfl rfl rfl ?_
  refine n_store (cs := cwz 3 a) (S' := Ob.box (wz a) :: Ob.box (wz b) :: Ob.box (cwz 3 a) :: Ob.box (cwz 3 a) :: Ob.box (cwz 3 a) :: co (a.tx.r.map q2) :: co (a.tx.v.map q1) :: co (a.vc.map q1) :: co (a.en.map q4) :: co (ints .u8 a.by_) :: co (tc 11 a.tb.length a.tb) :: (a.tb.map cspan)) ti33 nrWgA0 rfl nrWgA0 rfl rfl (by simp only [List.all_cons, List.all_nil, cd_one]; rfl) rfl rfl rfl ?_
  refine AOps.nil ?_
  refine AWP.seq ?_
  refine AWP.seq ?_
  refine AWP.region ?_
  refine n_load rfl ti33 nrWgA0 nrWgA0 rfl nrWgA0 ?_
  refine n_load rfl ti33 nrWgA0 nrWgA0 rfl nrWgA0 ?_
  refine n_callPeekM (ds := [.agg (wz a), .agg (wz a)]) rfl cf8 rfl (Eq.trans (by simp only [nl] <;> rfl) nrWgA0) (by rfl) (PeekAllM.get (.cons (.ren (.lf (wz_lf a))) (.cons (peek_clone (n := 3) rfl rfl rfl rfl rfl rfl (fun i t h => by rw [show 3 + 8 + i = i + 11 by omega]; show (a.tb.map cspan)[i]? = _; rw [List.getElem?_map, h]; rfl)) .nil))) hrs (by rfl) ?_
  refine n_not rfl nrWgA0 rfl ?_
  refine AOps.nil ?_
  refine AWP.cond_false nrWgA0 ?_
  refine AWP.skip ?_
  refine AWP.seq ?_
  refine AWP.seq ?_
  refine AWP.region ?_
  refine n_fieldAddr rfl fd33_11 ti24 rfl nrWgA0 rfl nrWgA0 ?_
  refine n_load rfl ti24 nrWgA0 nrWgA0 rfl nrWgA0 ?_
  refine n_cdLen rfl Tryz.underlying24 nrWgA0 ?_
  refine n_move rfl nrWgA0 ?_
  refine AOps.nil ?_
  refine AWP.block ?_
  refine AWP.loop (α := Nat × List Int) (fun p => p.1 ≤ a.vc.length ∧ p.2.length = a.vc.length) (fun p => put (put (put (put empty 2 (.bp 0 0)) 5 (.bp 2 0)) 37 (vi (a.vc.length : Int))) 38 (vi (p.1 : Int))) (fun p => Ob.box (wz a) :: Ob.box (wz b) :: Ob.box (cwz 3 a) :: Ob.box (cwz 3 a) :: Ob.box (cwz 3 a) :: co (a.tx.r.map q2) :: co (a.tx.v.map q1) :: co (p.2.map q1) :: co (a.en.map q4) :: co (ints .u8 a.by_) :: co (tc 11 a.tb.length a.tb) :: (a.tb.map cspan)) (fun p => a.vc.length - p.1) (0, a.vc) ?_ ?_ ?_ ?_
  · exact ⟨Nat.zero_le _, rfl⟩
  · (repeat (first | exact FLe.empty _ | refine FLe.put ?_ ?_)) <;> first | (simp only [nf, Nat.beq]; done) | rfl | ((try simp only [nf, Nat.beq]); first | rfl | (simp only [List.length_map]; done) | (congr 2; omega; done))
  · rfl
  · rintro ⟨i, l1⟩ ⟨hi, hl1⟩
    dsimp only at hi hl1 ⊢
    refine AWP.seq ?_
    refine AWP.region ?_
    refine n_ibin rfl nrWgA0 nrWgA0 rfl ?_
    refine AOps.nil ?_
    refine AWP.seq ?_
    refine AWP.cond nrWgA0 (fun hc3 => ?_) (fun hc3 => ?_)
    · try simp only [nh] at hc3
      obtain ⟨x, hx0⟩ : ∃ x, l1[i]? = some x := ⟨_, List.getElem?_eq_getElem (by omega)⟩
      have hh : ((l1.map q1).flatten.drop (i * 1 + 0)).headD .any = vi x ∧ i * 1 + 0 < (l1.map q1).flatten.length := map_head (f := q1) (sz := 1) (o := 0) (d := vi x) (fun _ => rfl) hx0 rfl
      rw [Nat.add_zero] at hh
      rw [co_box (xs := (l1.map q1)) (by rw [List.length_map]; omega)]
      refine AWP.skip ?_
      refine AWP.seq ?_
      refine AWP.block ?_
      refine AWP.seq ?_
      refine AWP.region ?_
      refine n_move rfl nrWgA0 ?_
      refine n_assign rfl nrWgA0 ?_
      refine AOps.nil ?_
      refine AWP.region ?_
      refine n_fieldAddr rfl fd33_11 ti24 rfl nrWgA0 rfl nrWgA0 ?_
      refine n_load rfl ti24 nrWgA0 nrWgA0 rfl nrWgA0 ?_
      refine n_move rfl nrWgA0 ?_
      refine n_cdIndexAddr (q := i * 1) rfl Tryz.underlying24 ti2 nrWgA0 nrWgA0 (by omega) (by omega) (by rw [Int.toNat_natCast]) ?_
      refine n_load (cs := ((l1.map q1).flatten.drop (i * 1))) (d := vi x) rfl ti2 nrWgA0 rfl (by rw [List.length_drop]; exact Nat.ble_eq_true_of_le (by have := hh.2; show 1 ≤ _; omega)) (by show List.headD _ _ = _; exact hh.1) ?_
      first | refine n_iadd rfl nrWgA0 nrWgA0 rfl (by omega) (by omega) ?_ | refine n_ibin rfl nrWgA0 nrWgA0 rfl ?_
      refine n_cdIndexAddr (q := i * 1) rfl Tryz.underlying24 ti2 nrWgA0 nrWgA0 (by omega) (by omega) (by rw [Int.toNat_natCast]) ?_
      refine n_store (off := i * 1) (l0 := 7) (ds := (l1.map q1).flatten) (S' := Ob.box (wz a) :: Ob.box (wz b) :: Ob.box (cwz 3 a) :: Ob.box (cwz 3 a) :: Ob.box (cwz 3 a) :: co (a.tx.r.map q2) :: co (a.tx.v.map q1) :: Ob.box ((l1.set i (IntKind.i64.wrap (x + 1))).map q1).flatten :: co (a.en.map q4) :: co (ints .u8 a.by_) :: co (tc 11 a.tb.length a.tb) :: (a.tb.map cspan)) ti2 nrWgA0 rfl nrWgA0 rfl rfl rfl rfl (Nat.ble_eq_true_of_le (by have := hh.2; omega)) (by have e := splice_at (f := q1) (sz := 1) (o := 0) (y := IntKind.i64.wrap (x + 1)) (fun _ => rfl) hx0 (by decide) rfl; rw [Nat.add_zero] at e; exact congrArg (fun z => Ob.box (wz a) :: Ob.box (wz b) :: Ob.box (cwz 3 a) :: Ob.box (cwz 3 a) :: Ob.box (cwz 3 a) :: co (a.tx.r.map q2) :: co (a.tx.v.map q1) :: Ob.box z :: co (a.en.map q4) :: co (ints .u8 a.by_) :: co (tc 11 a.tb.length a.tb) :: (a.tb.map cspan)) e) ?_
      refine AOps.nil ?_
      refine AWP.region ?_
      first | refine n_iadd rfl nrWgA0 nrWgA0 rfl (by omega) (by omega) ?_ | refine n_ibin rfl nrWgA0 nrWgA0 rfl ?_
      refine n_move rfl nrWgA0 ?_
      refine AOps.nil ?_
      refine ⟨(i + 1, l1.set i (IntKind.i64.wrap (x + 1))), ⟨by omega, by rw [List.length_set]; exact hl1⟩, ?_, by dsimp only; rw [co_box (xs := ((l1.set i (IntKind.i64.wrap (x + 1))).map q1)) (by rw [List.length_map, List.length_set]; omega)], by omega⟩
      (repeat (first | exact FLe.empty _ | refine FLe.put ?_ ?_)) <;> first | (simp only [nf, Nat.beq]; done) | rfl | ((try simp only [nf, Nat.beq]); first | rfl | (simp only [List.length_map]; done) | (congr 2; omega; done))
    · try simp only [nh] at hc3
      refine AWP.exit ?_
      refine AWP.seq ?_
      refine AWP.seq ?_
      refine AWP.region ?_
      refine n_fieldAddr rfl fd33_16 ti30 rfl nrWgA0 rfl nrWgA0 ?_
      refine n_load rfl ti30 nrWgA0 nrWgA0 rfl nrWgA0 ?_
      refine n_cdLen rfl Tryz.underlying30 nrWgA0 ?_
      refine n_move rfl nrWgA0 ?_
      refine AOps.nil ?_
      refine AWP.block ?_
      refine AWP.loop (α := Nat × List Q4) (fun p => p.1 ≤ a.en.length ∧ p.2.length = a.en.length) (fun p => put (put (put (put empty 2 (.bp 0 0)) 5 (.bp 2 0)) 51 (vi (a.en.length : Int))) 52 (vi (p.1 : Int))) (fun p => Ob.box (wz a) :: Ob.box (wz b) :: Ob.box (cwz 3 a) :: Ob.box (cwz 3 a) :: Ob.box (cwz 3 a) :: co (a.tx.r.map q2) :: co (a.tx.v.map q1) :: co (l1.map q1) :: co (p.2.map q4) :: co (ints .u8 a.by_) :: co (tc 11 a.tb.length a.tb) :: (a.tb.map cspan)) (fun p => a.en.length - p.1) (0, a.en) ?_ ?_ ?_ ?_
      · exact ⟨Nat.zero_le _, rfl⟩
      · (repeat (first | exact FLe.empty _ | refine FLe.put ?_ ?_)) <;> first | (simp only [nf, Nat.beq]; done) | rfl | ((try simp only [nf, Nat.beq]); first | rfl | (simp only [List.length_map]; done) | (congr 2; omega; done))
      · rfl
      · rintro ⟨i, l2⟩ ⟨hi, hl2⟩
        dsimp only at hi hl2 ⊢
        refine AWP.seq ?_
        refine AWP.region ?_
        refine n_ibin rfl nrWgA0 nrWgA0 rfl ?_
        refine AOps.nil ?_
        refine AWP.seq ?_
        refine AWP.cond nrWgA0 (fun hc4 => ?_) (fun hc4 => ?_)
        · try simp only [nh] at hc4
          obtain ⟨x, hx0⟩ : ∃ x, l2[i]? = some x := ⟨_, List.getElem?_eq_getElem (by omega)⟩
          have hh : ((l2.map q4).flatten.drop (i * 4 + 0)).headD .any = vi x.1 ∧ i * 4 + 0 < (l2.map q4).flatten.length := map_head (f := q4) (sz := 4) (o := 0) (d := vi x.1) (fun _ => rfl) hx0 rfl
          rw [co_box (xs := (l2.map q4)) (by rw [List.length_map]; omega)]
          refine AWP.skip ?_
          refine AWP.seq ?_
          refine AWP.block ?_
          refine AWP.seq ?_
          refine AWP.region ?_
          refine n_move rfl nrWgA0 ?_
          refine n_assign rfl nrWgA0 ?_
          refine AOps.nil ?_
          refine AWP.region ?_
          refine n_fieldAddr rfl fd33_16 ti30 rfl nrWgA0 rfl nrWgA0 ?_
          refine n_load rfl ti30 nrWgA0 nrWgA0 rfl nrWgA0 ?_
          refine n_move rfl nrWgA0 ?_
          refine n_cdIndexAddr (q := i * 4) rfl Tryz.underlying30 ti46 nrWgA0 nrWgA0 (by omega) (by omega) (by rw [Int.toNat_natCast]) ?_
          refine n_fieldAddr rfl fd46_0 ti2 rfl nrWgA0 rfl nrWgA0 ?_
          refine n_load (cs := ((l2.map q4).flatten.drop (i * 4 + 0))) (d := vi x.1) rfl ti2 nrWgA0 rfl (by rw [List.length_drop]; exact Nat.ble_eq_true_of_le (by have := hh.2; show 1 ≤ _; omega)) (by show List.headD _ _ = _; exact hh.1) ?_
          first | refine n_iadd rfl nrWgA0 nrWgA0 rfl (by omega) (by omega) ?_ | refine n_ibin rfl nrWgA0 nrWgA0 rfl ?_
          refine n_cdIndexAddr (q := i * 4) rfl Tryz.underlying30 ti46 nrWgA0 nrWgA0 (by omega) (by omega) (by rw [Int.toNat_natCast]) ?_
          refine n_fieldAddr rfl fd46_0 ti2 rfl nrWgA0 rfl nrWgA0 ?_
          refine n_store (off := i * 4 + 0) (l0 := 8) (ds := (l2.map q4).flatten) (S' := Ob.box (wz a) :: Ob.box (wz b) :: Ob.box (cwz 3 a) :: Ob.box (cwz 3 a) :: Ob.box (cwz 3 a) :: co (a.tx.r.map q2) :: co (a.tx.v.map q1) :: co (l1.map q1) :: Ob.box ((l2.set i ((IntKind.i64.wrap (x.1 + 1), x.2))).map q4).flatten :: co (ints .u8 a.by_) :: co (tc 11 a.tb.length a.tb) :: (a.tb.map cspan)) ti2 nrWgA0 rfl nrWgA0 rfl rfl rfl rfl (Nat.ble_eq_true_of_le (by have := hh.2; omega)) (by have e := splice_at (f := q4) (sz := 4) (o := 0) (y := (IntKind.i64.wrap (x.1 + 1), x.2)) (fun _ => rfl) hx0 (by decide) rfl; exact congrArg (fun z => Ob.box (wz a) :: Ob.box (wz b) :: Ob.box (cwz 3 a) :: Ob.box (cwz 3 a) :: Ob.box (cwz 3 a) :: co (a.tx.r.map q2) :: co (a.tx.v.map q1) :: co (l1.map q1) :: Ob.box z :: co (ints .u8 a.by_) :: co (tc 11 a.tb.length a.tb) :: (a.tb.map cspan)) e) ?_
          refine AOps.nil ?_
          refine AWP.region ?_
          first | refine n_iadd rfl nrWgA0 nrWgA0 rfl (by omega) (by omega) ?_ | refine n_ibin rfl nrWgA0 nrWgA0 rfl ?_
          refine n_move rfl nrWgA0 ?_
          refine AOps.nil ?_
          refine ⟨(i + 1, l2.set i ((IntKind.i64.wrap (x.1 + 1), x.2))), ⟨by omega, by rw [List.length_set]; exact hl2⟩, ?_, by dsimp only; rw [co_box (xs := ((l2.set i ((IntKind.i64.wrap (x.1 + 1), x.2))).map q4)) (by rw [List.length_map, List.length_set]; omega)], by omega⟩
          (repeat (first | exact FLe.empty _ | refine FLe.put ?_ ?_)) <;> first | (simp only [nf, Nat.beq]; done) | rfl | ((try simp only [nf, Nat.beq]); first | rfl | (simp only [List.length_map]; done) | (congr 2; omega; done))
        · try simp only [nh] at hc4
          refine AWP.exit ?_
          refine AWP.seq ?_
          refine AWP.seq ?_
          refine AWP.region ?_
          refine n_fieldAddr rfl fd33_18 ti31 rfl nrWgA0 rfl nrWgA0 ?_
          refine n_load rfl ti31 nrWgA0 nrWgA0 rfl nrWgA0 ?_
          refine n_cdLen rfl Tryz.underlying31 nrWgA0 ?_
          refine n_move rfl nrWgA0 ?_
          refine AOps.nil ?_
          refine AWP.block ?_
          refine AWP.loop (α := Nat × List Int) (fun p => p.1 ≤ a.by_.length ∧ p.2.length = a.by_.length) (fun p => put (put (put (put empty 2 (.bp 0 0)) 5 (.bp 2 0)) 67 (vi (a.by_.length : Int))) 68 (vi (p.1 : Int))) (fun p => Ob.box (wz a) :: Ob.box (wz b) :: Ob.box (cwz 3 a) :: Ob.box (cwz 3 a) :: Ob.box (cwz 3 a) :: co (a.tx.r.map q2) :: co (a.tx.v.map q1) :: co (l1.map q1) :: co (l2.map q4) :: co (ints .u8 p.2) :: co (tc 11 a.tb.length a.tb) :: (a.tb.map cspan)) (fun p => a.by_.length - p.1) (0, a.by_) ?_ ?_ ?_ ?_
          · exact ⟨Nat.zero_le _, rfl⟩
          · (repeat (first | exact FLe.empty _ | refine FLe.put ?_ ?_)) <;> first | (simp only [nf, Nat.beq]; done) | rfl | ((try simp only [nf, Nat.beq]); first | rfl | (simp only [List.length_map]; done) | (congr 2; omega; done))
          · rfl
          · rintro ⟨i, l3⟩ ⟨hi, hl3⟩
            dsimp only at hi hl3 ⊢
            refine AWP.seq ?_
            refine AWP.region ?_
            refine n_ibin rfl nrWgA0 nrWgA0 rfl ?_
            refine AOps.nil ?_
            refine AWP.seq ?_
            refine AWP.cond nrWgA0 (fun hc5 => ?_) (fun hc5 => ?_)
            · try simp only [nh] at hc5
              obtain ⟨x, hx0⟩ : ∃ x, l3[i]? = some x := ⟨_, List.getElem?_eq_getElem (by omega)⟩
              have hh : ((ints .u8 l3).flatten.drop (i * 1 + 0)).headD .any = D.val (.int .u8 x) ∧ i * 1 + 0 < (ints .u8 l3).flatten.length := map_head (f := (fun x => [D.val (.int .u8 x)])) (sz := 1) (o := 0) (d := D.val (.int .u8 x)) (fun _ => rfl) hx0 rfl
              rw [Nat.add_zero] at hh
              rw [co_box (xs := (ints .u8 l3)) (by rw [ints_length]; omega)]
              refine AWP.skip ?_
              refine AWP.seq ?_
              refine AWP.block ?_
              refine AWP.seq ?_
              refine AWP.region ?_
              refine n_move rfl nrWgA0 ?_
              refine n_assign rfl nrWgA0 ?_
              refine AOps.nil ?_
              refine AWP.region ?_
              refine n_fieldAddr rfl fd33_18 ti31 rfl nrWgA0 rfl nrWgA0 ?_
              refine n_load rfl ti31 nrWgA0 nrWgA0 rfl nrWgA0 ?_
              refine n_move rfl nrWgA0 ?_
              refine n_cdIndexAddr (q := i * 1) rfl Tryz.underlying31 ti5 nrWgA0 nrWgA0 (by omega) (by omega) (by rw [Int.toNat_natCast]) ?_
              refine n_load (cs := ((ints .u8 l3).flatten.drop (i * 1))) (d := D.val (.int .u8 x)) rfl ti5 nrWgA0 rfl (by rw [List.length_drop]; exact Nat.ble_eq_true_of_le (by have := hh.2; show 1 ≤ _; omega)) (by show List.headD _ _ = _; exact hh.1) ?_
              refine n_ibin rfl nrWgA0 nrWgA0 rfl ?_
              refine n_cdIndexAddr (q := i * 1) rfl Tryz.underlying31 ti5 nrWgA0 nrWgA0 (by omega) (by omega) (by rw [Int.toNat_natCast]) ?_
              refine n_store (off := i * 1) (l0 := 9) (ds := (ints .u8 l3).flatten) (S' := Ob.box (wz a) :: Ob.box (wz b) :: Ob.box (cwz 3 a) :: Ob.box (cwz 3 a) :: Ob.box (cwz 3 a) :: co (a.tx.r.map q2) :: co (a.tx.v.map q1) :: co (l1.map q1) :: co (l2.map q4) :: Ob.box (ints .u8 (l3.set i (IntKind.u8.wrap (x + 1)))).flatten :: co (tc 11 a.tb.length a.tb) :: (a.tb.map cspan)) ti5 nrWgA0 rfl nrWgA0 rfl rfl rfl rfl (Nat.ble_eq_true_of_le (by have := hh.2; omega)) (by have e := splice_at (f := (fun x => [D.val (.int .u8 x)])) (sz := 1) (o := 0) (y := IntKind.u8.wrap (x + 1)) (fun _ => rfl) hx0 (by decide) rfl; rw [Nat.add_zero] at e; exact congrArg (fun z => Ob.box (wz a) :: Ob.box (wz b) :: Ob.box (cwz 3 a) :: Ob.box (cwz 3 a) :: Ob.box (cwz 3 a) :: co (a.tx.r.map q2) :: co (a.tx.v.map q1) :: co (l1.map q1) :: co (l2.map q4) :: Ob.box z :: co (tc 11 a.tb.length a.tb) :: (a.tb.map cspan)) e) ?_
              refine AOps.nil ?_
              refine AWP.region ?_
              first | refine n_iadd rfl nrWgA0 nrWgA0 rfl (by omega) (by omega) ?_ | refine n_ibin rfl nrWgA0 nrWgA0 rfl ?_
              refine n_move rfl nrWgA0 ?_
              refine AOps.nil ?_
              refine ⟨(i + 1, l3.set i (IntKind.u8.wrap (x + 1))), ⟨by omega, by rw [List.length_set]; exact hl3⟩, ?_, by dsimp only; rw [co_box (xs := (ints .u8 (l3.set i (IntKind.u8.wrap (x + 1))))) (by rw [ints_length, List.length_set]; omega)], by omega⟩
              (repeat (first | exact FLe.empty _ | refine FLe.put ?_ ?_)) <;> first | (simp only [nf, Nat.beq]; done) | rfl | ((try simp only [nf, Nat.beq]); first | rfl | (simp only [List.length_map]; done) | (congr 2; omega; done))
            · try simp only [nh] at hc5
              refine AWP.exit ?_
              refine AWP.seq ?_
              refine AWP.seq ?_
              refine AWP.region ?_
              refine n_fieldAddr rfl fd33_8 ti26 rfl nrWgA0 rfl nrWgA0 ?_
              refine n_fieldAddr rfl fd26_3 ti23 rfl nrWgA0 rfl nrWgA0 ?_
              refine n_load rfl ti23 nrWgA0 nrWgA0 rfl nrWgA0 ?_
              refine n_cdLen rfl Tryz.underlying23 nrWgA0 ?_
              refine n_move rfl nrWgA0 ?_
              refine AOps.nil ?_
              refine AWP.block ?_
              refine AWP.loop (α := Nat × List (Int × Int)) (fun p => p.1 ≤ a.tx.r.length ∧ p.2.length = a.tx.r.length) (fun p => put (put (put (put empty 2 (.bp 0 0)) 5 (.bp 2 0)) 82 (vi (a.tx.r.length : Int))) 83 (vi (p.1 : Int))) (fun p => Ob.box (wz a) :: Ob.box (wz b) :: Ob.box (cwz 3 a) :: Ob.box (cwz 3 a) :: Ob.box (cwz 3 a) :: co (p.2.map q2) :: co (a.tx.v.map q1) :: co (l1.map q1) :: co (l2.map q4) :: co (ints .u8 l3) :: co (tc 11 a.tb.length a.tb) :: (a.tb.map cspan)) (fun p => a.tx.r.length - p.1) (0, a.tx.r) ?_ ?_ ?_ ?_
              · exact ⟨Nat.zero_le _, rfl⟩
              · (repeat (first | exact FLe.empty _ | refine FLe.put ?_ ?_)) <;> first | (simp only [nf, Nat.beq]; done) | rfl | ((try simp only [nf, Nat.beq]); first | rfl | (simp only [List.length_map]; done) | (congr 2; omega; done))
              · rfl
              · rintro ⟨i, l4⟩ ⟨hi, hl4⟩
                dsimp only at hi hl4 ⊢
                refine AWP.seq ?_
                refine AWP.region ?_
                refine n_ibin rfl nrWgA0 nrWgA0 rfl ?_
                refine AOps.nil ?_
                refine AWP.seq ?_
                refine AWP.cond nrWgA0 (fun hc6 => ?_) (fun hc6 => ?_)
                · try simp only [nh] at hc6
                  obtain ⟨x, hx0⟩ : ∃ x, l4[i]? = some x := ⟨_, List.getElem?_eq_getElem (by omega)⟩
                  have hh : ((l4.map q2).flatten.drop (i * 2 + 1)).headD .any = vi x.2 ∧ i * 2 + 1 < (l4.map q2).flatten.length := map_head (f := q2) (sz := 2) (o := 1) (d := vi x.2) (fun _ => rfl) hx0 rfl
                  rw [co_box (xs := (l4.map q2)) (by rw [List.length_map]; omega)]
                  refine AWP.skip ?_
                  refine AWP.seq ?_
                  refine AWP.block ?_
                  refine AWP.seq ?_
                  refine AWP.region ?_
                  refine n_move rfl nrWgA0 ?_
                  refine n_assign rfl nrWgA0 ?_
                  refine AOps.nil ?_
                  refine AWP.region ?_
                  refine n_fieldAddr rfl fd33_8 ti26 rfl nrWgA0 rfl nrWgA0 ?_
                  refine n_fieldAddr rfl fd26_3 ti23 rfl nrWgA0 rfl nrWgA0 ?_
                  refine n_load rfl ti23 nrWgA0 nrWgA0 rfl nrWgA0 ?_
                  refine n_move rfl nrWgA0 ?_
                  refine n_cdIndexAddr (q := i * 2) rfl Tryz.underlying23 ti44 nrWgA0 nrWgA0 (by omega) (by omega) (by rw [Int.toNat_natCast]) ?_
                  refine n_fieldAddr rfl fd44_1 ti2 rfl nrWgA0 rfl nrWgA0 ?_
                  refine n_load (cs := ((l4.map q2).flatten.drop (i * 2 + 1))) (d := vi x.2) rfl ti2 nrWgA0 rfl (by rw [List.length_drop]; exact Nat.ble_eq_true_of_le (by have := hh.2; show 1 ≤ _; omega)) (by show List.headD _ _ = _; exact hh.1) ?_
                  first | refine n_iadd rfl nrWgA0 nrWgA0 rfl (by omega) (by omega) ?_ | refine n_ibin rfl nrWgA0 nrWgA0 rfl ?_
                  refine n_cdIndexAddr (q := i * 2) rfl Tryz.underlying23 ti44 nrWgA0 nrWgA0 (by omega) (by omega) (by rw [Int.toNat_natCast]) ?_
                  refine n_fieldAddr rfl fd44_1 ti2 rfl nrWgA0 rfl nrWgA0 ?_
                  refine n_store (off := i * 2 + 1) (l0 := 5) (ds := (l4.map q2).flatten) (S' := Ob.box (wz a) :: Ob.box (wz b) :: Ob.box (cwz 3 a) :: Ob.box (cwz 3 a) :: Ob.box (cwz 3 a) :: Ob.box ((l4.set i ((x.1, IntKind.i64.wrap (x.2 + 1)))).map q2).flatten :: co (a.tx.v.map q1) :: co (l1.map q1) :: co (l2.map q4) :: co (ints .u8 l3) :: co (tc 11 a.tb.length a.tb) :: (a.tb.map cspan)) ti2 nrWgA0 rfl nrWgA0 rfl rfl rfl rfl (Nat.ble_eq_true_of_le (by have := hh.2; omega)) (by have e := splice_at (f := q2) (sz := 2) (o := 1) (y := (x.1, IntKind.i64.wrap (x.2 + 1))) (fun _ => rfl) hx0 (by decide) rfl; exact congrArg (fun z => Ob.box (wz a) :: Ob.box (wz b) :: Ob.box (cwz 3 a) :: Ob.box (cwz 3 a) :: Ob.box (cwz 3 a) :: Ob.box z :: co (a.tx.v.map q1) :: co (l1.map q1) :: co (l2.map q4) :: co (ints .u8 l3) :: co (tc 11 a.tb.length a.tb) :: (a.tb.map cspan)) e) ?_
                  refine AOps.nil ?_
                  refine AWP.region ?_
                  first | refine n_iadd rfl nrWgA0 nrWgA0 rfl (by omega) (by omega) ?_ | refine n_ibin rfl nrWgA0 nrWgA0 rfl ?_
                  refine n_move rfl nrWgA0 ?_
                  refine AOps.nil ?_
                  refine ⟨(i + 1, l4.set i ((x.1, IntKind.i64.wrap (x.2 + 1)))), ⟨by omega, by rw [List.length_set]; exact hl4⟩, ?_, by dsimp only; rw [co_box (xs := ((l4.set i ((x.1, IntKind.i64.wrap (x.2 + 1)))).map q2)) (by rw [List.length_map, List.length_set]; omega)], by omega⟩
                  (repeat (first | exact FLe.empty _ | refine FLe.put ?_ ?_)) <;> first | (simp only [nf, Nat.beq]; done) | rfl | ((try simp only [nf, Nat.beq]); first | rfl | (simp only [List.length_map]; done) | (congr 2; omega; done))
                · try simp only [nh] at hc6
                  refine AWP.exit ?_
                  refine AWP.seq ?_
                  refine AWP.seq ?_
                  refine AWP.region ?_
                  refine n_fieldAddr rfl fd33_13 ti29 rfl nrWgA0 rfl nrWgA0 ?_
                  refine n_load rfl ti29 nrWgA0 nrWgA0 rfl nrWgA0 ?_
                  refine n_cdLen rfl Tryz.underlying29 nrWgA0 ?_
                  refine n_move rfl nrWgA0 ?_
                  refine AOps.nil ?_
                  refine AWP.block ?_
                  refine AWP.loop (α := Nat × List (List Q4)) (fun p => p.1 ≤ a.tb.length ∧ Fits a.tb p.2) (fun p => put (put (put (put empty 2 (.bp 0 0)) 5 (.bp 2 0)) 99 (vi (a.tb.length : Int))) 100 (vi (p.1 : Int))) (fun p => Ob.box (wz a) :: Ob.box (wz b) :: Ob.box (cwz 3 a) :: Ob.box (cwz 3 a) :: Ob.box (cwz 3 a) :: co (l4.map q2) :: co (a.tx.v.map q1) :: co (l1.map q1) :: co (l2.map q4) :: co (ints .u8 l3) :: co (tc 11 a.tb.length a.tb) :: (p.2.map cs4)) (fun p => a.tb.length - p.1) (0, a.tb.map (·.1)) ?_ ?_ ?_ ?_
                  · exact ⟨Nat.zero_le _, fits0 _⟩
                  · (repeat (first | exact FLe.empty _ | refine FLe.put ?_ ?_)) <;> first | (simp only [nf, Nat.beq]; done) | rfl | ((try simp only [nf, Nat.beq]); first | rfl | (simp only [List.length_map]; done) | (congr 2; omega; done))
                  · (rw [fits0_ob])
                  · rintro ⟨i, q0⟩ ⟨hi, hq0⟩
                    dsimp only at hi hq0 ⊢
                    refine AWP.seq ?_
                    refine AWP.region ?_
                    refine n_ibin rfl nrWgA0 nrWgA0 rfl ?_
                    refine AOps.nil ?_
                    refine AWP.seq ?_
                    refine AWP.cond nrWgA0 (fun hc7 => ?_) (fun hc7 => ?_)
                    · try simp only [nh] at hc7
                      obtain ⟨x, hx0⟩ : ∃ x, a.tb[i]? = some x := ⟨_, List.getElem?_eq_getElem (by omega)⟩
                      have hth := tcd_head (base := 11) hx0 (show i < a.tb.length by omega)
                      have hxl := ha.s x (List.mem_of_getElem? hx0)
                      rw [co_box (xs := tc 11 a.tb.length a.tb) (by rw [tc_len]; omega)]
                      refine AWP.skip ?_
                      refine AWP.seq ?_
                      refine AWP.block ?_
                      refine AWP.seq ?_
                      refine AWP.region ?_
                      refine n_move rfl nrWgA0 ?_
                      refine n_assign rfl nrWgA0 ?_
                      refine AOps.nil ?_
                      refine AWP.seq ?_
                      refine AWP.region ?_
                      refine n_fieldAddr rfl fd33_13 ti29 rfl nrWgA0 rfl nrWgA0 ?_
                      refine n_load rfl ti29 nrWgA0 nrWgA0 rfl nrWgA0 ?_
                      refine n_move rfl nrWgA0 ?_
                      refine n_cdIndexAddr (q := i * 2) rfl Tryz.underlying29 ti49 nrWgA0 nrWgA0 (by omega) (by omega) (by rw [Int.toNat_natCast]) ?_
                      refine n_fieldAddr rfl fd49_0 ti47 rfl nrWgA0 rfl nrWgA0 ?_
                      refine n_load (cs := ((tc 11 a.tb.length a.tb).flatten.drop (i * 2))) (d := (cd (11 + i) x.1.length)) rfl ti47 nrWgA0 rfl (by rw [List.length_drop]; exact Nat.ble_eq_true_of_le (by have := hth.2; show 1 ≤ _; omega)) (by show List.headD _ _ = _; exact hth.1) ?_
                      refine n_cdLen rfl Tryz.underlying47 nrWgA0 ?_
                      refine n_move rfl nrWgA0 ?_
                      refine AOps.nil ?_
                      refine AWP.block ?_
                      refine AWP.loop (α := Nat × List (List Q4)) (fun p => p.1 ≤ x.1.length ∧ Fits a.tb p.2) (fun p => put (put (put (put (put (put (put empty 2 (.bp 0 0)) 5 (.bp 2 0)) 99 (vi (a.tb.length : Int))) 100 (vi (i : Int))) 10 (vi (i : Int))) 109 (vi (x.1.length : Int))) 110 (vi (p.1 : Int))) (fun p => Ob.box (wz a) :: Ob.box (wz b) :: Ob.box (cwz 3 a) :: Ob.box (cwz 3 a) :: Ob.box (cwz 3 a) :: co (l4.map q2) :: co (a.tx.v.map q1) :: co (l1.map q1) :: co (l2.map q4) :: co (ints .u8 l3) :: Ob.box (tc 11 a.tb.length a.tb).flatten :: (p.2.map cs4)) (fun p => x.1.length - p.1) (0, q0) ?_ ?_ ?_ ?_
                      · exact ⟨Nat.zero_le _, hq0⟩
                      · (repeat (first | exact FLe.empty _ | refine FLe.put ?_ ?_)) <;> first | (simp only [nf, Nat.beq]; done) | rfl | ((try simp only [nf, Nat.beq]); first | rfl | (simp only [List.length_map]; done) | (congr 2; omega; done))
                      · rfl
                      · rintro ⟨k, q⟩ ⟨hk, hq⟩
                        dsimp only at hk hq ⊢
                        refine AWP.seq ?_
                        refine AWP.region ?_
                        refine n_ibin rfl nrWgA0 nrWgA0 rfl ?_
                        refine AOps.nil ?_
                        refine AWP.seq ?_
                        refine AWP.cond nrWgA0 (fun hc8 => ?_) (fun hc8 => ?_)
                        · try simp only [nh] at hc8
                          obtain ⟨s, hs0, hsl⟩ := fits_at hq hx0
                          obtain ⟨z, hz0⟩ : ∃ z, s[k]? = some z := ⟨_, List.getElem?_eq_getElem (by omega)⟩
                          have hzh := map_head (f := q4) (sz := 4) (o := 2) (d := vi z.2.2.1) (fun _ => rfl) hz0 rfl
                          have hsb : (Ob.box (wz a) :: Ob.box (wz b) :: Ob.box (cwz 3 a) :: Ob.box (cwz 3 a) :: Ob.box (cwz 3 a) :: co (l4.map q2) :: co (a.tx.v.map q1) :: co (l1.map q1) :: co (l2.map q4) :: co (ints .u8 l3) :: Ob.box (tc 11 a.tb.length a.tb).flatten :: (q.map cs4))[i + 11]? = some (.box (s.map q4).flatten) := by show (q.map cs4)[i]? = _; rw [List.getElem?_map, hs0]; exact congrArg some (co_box (xs := s.map q4) (by rw [List.length_map]; omega))
                          refine AWP.skip ?_
                          refine AWP.seq ?_
                          refine AWP.block ?_
                          refine AWP.seq ?_
                          refine AWP.region ?_
                          refine n_move rfl nrWgA0 ?_
                          refine n_assign rfl nrWgA0 ?_
                          refine AOps.nil ?_
                          refine AWP.region ?_
                          refine n_fieldAddr rfl fd33_13 ti29 rfl nrWgA0 rfl nrWgA0 ?_
                          refine n_load rfl ti29 nrWgA0 nrWgA0 rfl nrWgA0 ?_
                          refine n_move rfl nrWgA0 ?_
                          refine n_cdIndexAddr (q := i * 2) rfl Tryz.underlying29 ti49 nrWgA0 nrWgA0 (by omega) (by omega) (by rw [Int.toNat_natCast]) ?_
                          refine n_fieldAddr rfl fd49_0 ti47 rfl nrWgA0 rfl nrWgA0 ?_
                          refine n_load (cs := ((tc 11 a.tb.length a.tb).flatten.drop (i * 2))) (d := (cd (11 + i) x.1.length)) rfl ti47 nrWgA0 rfl (by rw [List.length_drop]; exact Nat.ble_eq_true_of_le (by have := hth.2; show 1 ≤ _; omega)) (by show List.headD _ _ = _; exact hth.1) ?_
                          refine n_move rfl nrWgA0 ?_
                          refine n_cdIndexAddr (q := k * 4) rfl Tryz.underlying47 ti51 nrWgA0 nrWgA0 (by omega) (by omega) (by rw [Int.toNat_natCast]) ?_
                          refine n_fieldAddr rfl fd51_2 ti2 rfl nrWgA0 rfl nrWgA0 ?_
                          refine n_load (cs := ((s.map q4).flatten.drop (k * 4 + 2))) (d := vi z.2.2.1) rfl ti2 nrWgA0 (at_box (by rw [Nat.add_comm]; exact hsb)) (by rw [List.length_drop]; exact Nat.ble_eq_true_of_le (by have := hzh.2; show 1 ≤ _; omega)) (by show List.headD _ _ = _; exact hzh.1) ?_
                          first | refine n_iadd rfl nrWgA0 nrWgA0 rfl (by omega) (by omega) ?_ | refine n_ibin rfl nrWgA0 nrWgA0 rfl ?_
                          refine n_cdIndexAddr (q := k * 4) rfl Tryz.underlying47 ti51 nrWgA0 nrWgA0 (by omega) (by omega) (by rw [Int.toNat_natCast]) ?_
                          refine n_fieldAddr rfl fd51_2 ti2 rfl nrWgA0 rfl nrWgA0 ?_
                          refine n_store (cs := [vi (IntKind.i64.wrap (z.2.2.1 + 1))]) (off := k * 4 + 2) (l0 := 11 + i) (ds := (s.map q4).flatten) (S' := Ob.box (wz a) :: Ob.box (wz b) :: Ob.box (cwz 3 a) :: Ob.box (cwz 3 a) :: Ob.box (cwz 3 a) :: co (l4.map q2) :: co (a.tx.v.map q1) :: co (l1.map q1) :: co (l2.map q4) :: co (ints .u8 l3) :: Ob.box (tc 11 a.tb.length a.tb).flatten :: ((q.set i (s.set k (z.1, z.2.1, IntKind.i64.wrap (z.2.2.1 + 1), z.2.2.2))).map cs4)) ti2 nrWgA0 (by rw [Nat.add_comm]; exact hsb) nrWgA0 rfl rfl rfl rfl (Nat.ble_eq_true_of_le (by have := hzh.2; omega)) (by rw [splice_at (f := q4) (sz := 4) (o := 2) (y := (z.1, z.2.1, IntKind.i64.wrap (z.2.2.1 + 1), z.2.2.2)) (d := vi (IntKind.i64.wrap (z.2.2.1 + 1))) (fun _ => rfl) hz0 (by decide) rfl, Nat.add_comm 11 i, ← co_box (xs := (s.set k (z.1, z.2.1, IntKind.i64.wrap (z.2.2.1 + 1), z.2.2.2)).map q4) (by rw [List.length_map, List.length_set]; omega)]; show _ :: _ = _; simp only [List.set_cons_succ, List.map_set (f := cs4)]; done) ?_
                          refine AOps.nil ?_
                          refine AWP.region ?_
                          first | refine n_iadd rfl nrWgA0 nrWgA0 rfl (by omega) (by omega) ?_ | refine n_ibin rfl nrWgA0 nrWgA0 rfl ?_
                          refine n_move rfl nrWgA0 ?_
                          refine AOps.nil ?_
                          refine ⟨(k + 1, _), ⟨by omega, fits_set hq hs0 (by rw [List.length_set])⟩, ?_, rfl, by omega⟩
                          (repeat (first | exact FLe.empty _ | refine FLe.put ?_ ?_)) <;> first | (simp only [nf, Nat.beq]; done) | rfl | ((try simp only [nf, Nat.beq]); first | rfl | (simp only [List.length_map]; done) | (congr 2; omega; done))
                        · try simp only [nh] at hc8
                          obtain rfl : k = x.1.length := by omega
                          refine AWP.exit ?_
                          refine AWP.region ?_
                          first | refine n_iadd rfl nrWgA0 nrWgA0 rfl (by omega) (by omega) ?_ | refine n_ibin rfl nrWgA0 nrWgA0 rfl ?_
                          refine n_move rfl nrWgA0 ?_
                          refine AOps.nil ?_
                          refine ⟨(i + 1, q), ⟨by omega, hq⟩, ?_, (by first | rfl | (dsimp only; rw [co_box (xs := tc 11 a.tb.length a.tb) (by rw [tc_len]; omega)])), by omega⟩
                          (repeat (first | exact FLe.empty _ | refine FLe.put ?_ ?_)) <;> first | (simp only [nf, Nat.beq]; done) | rfl | ((try simp only [nf, Nat.beq]); first | rfl | (simp only [List.length_map]; done) | (congr 2; omega; done))
                    · try simp only [nh] at hc7
                      refine AWP.exit ?_
                      refine AWP.seq ?_
                      refine AWP.anyStill (by kernel_rfl) (by kernel_rfl) ?_
                      refine Walk.still (rs := [2]) (by rfl) nrWgA0 (fun base => by
                          refine n_load rfl ti33 nrWgA0 nrWgA0 rfl nrWgA0 ?_
                          exact AOps.nil ⟨rfl, rfl, rfl⟩) ?_
                      refine Walk.still (rs := [2]) (by rfl) nrWgA0 (fun base => by
                          refine n_load rfl ti33 nrWgA0 nrWgA0 rfl nrWgA0 ?_
                          exact AOps.nil ⟨rfl, rfl, rfl⟩) ?_
                      refine Walk.still (rs := [129]) (by rfl) nrWgA0 (fun base => by
                          refine n_call0B rfl cf11 rfl (Eq.trans (by simp only [nl] <;> rfl) nrWgA0) (by repeat (first | exact .nil | refine .cons ?_ ?_ | exact ren_ints | exact .lf (.val _) | exact .lf (lf_ints (.inl rfl)) | exact .bp ⟨rfl, rfl⟩ | exact .bp (.inl ⟨rfl, rfl⟩) | exact .bp (.inr ⟨rfl, rfl⟩) | exact .lf (wz_lf _) | exact .agg rfl (RenAll.get (by repeat (first | exact .nil | refine .cons ?_ ?_ | exact .lf (.val _) | exact ren_map (f := q1) (fun _ => rfl) | exact ren_map (f := q2) (fun _ => rfl) | exact ren_map (f := q4) (fun _ => rfl) | exact ren_mapG qt_lf | exact .ro (fun x h => by cases h) | exact ren_ints))) | exact .lf (txz_lf _) | exact ren_mapG qt_lf | exact .lf lf_fnz | exact .lf (.agg (qt_lf _)) | exact .lf lf_fnz | exact ren_map (f := q1) (fun _ => rfl) | exact ren_map (f := q2) (fun _ => rfl) | exact ren_map (f := q4) (fun _ => rfl) | exact .lf (D.flat_lf rfl) | exact ren_lits rfl | exact ren_ints)) (clone_ro a ha) lfWgA0 ?_
                          exact AOps.nil ⟨rfl, rfl, rfl⟩) ?_
                      refine Walk.still (rs := [128, 130]) (by rfl) nrWgA0 (fun base => by
                          refine n_call0B rfl cf8 rfl (Eq.trans (by simp only [nl] <;> rfl) nrWgA0) (by repeat (first | exact .nil | refine .cons ?_ ?_ | exact ren_ints | exact .lf (.val _) | exact .lf (lf_ints (.inl rfl)) | exact .bp ⟨rfl, rfl⟩ | exact .bp (.inl ⟨rfl, rfl⟩) | exact .bp (.inr ⟨rfl, rfl⟩) | exact .lf (wz_lf _) | exact .agg rfl (RenAll.get (by repeat (first | exact .nil | refine .cons ?_ ?_ | exact .lf (.val _) | exact ren_map (f := q1) (fun _ => rfl) | exact ren_map (f := q2) (fun _ => rfl) | exact ren_map (f := q4) (fun _ => rfl) | exact ren_mapG qt_lf | exact .ro (fun x h => by cases h) | exact ren_ints))) | exact .lf (txz_lf _) | exact ren_mapG qt_lf | exact .lf lf_fnz | exact .lf (.agg (qt_lf _)) | exact .lf lf_fnz | exact ren_map (f := q1) (fun _ => rfl) | exact ren_map (f := q2) (fun _ => rfl) | exact ren_map (f := q4) (fun _ => rfl) | exact .lf (D.flat_lf rfl) | exact ren_lits rfl | exact ren_ints)) (hrs) lfWgA0 ?_
                          exact AOps.nil ⟨rfl, rfl, rfl⟩) ?_
                      refine Walk.still (rs := [131]) (by rfl) nrWgA0 (fun base => by
                          refine n_assign rfl nrWgA0 ?_
                          exact AOps.nil ⟨rfl, rfl, rfl⟩) ?_
                      refine Walk.done ?_
                      refine AWP.ret ?_
                      refine fin_pure (.cons (rv_tmp nrWgA0) .nil) nrWgA0 ?_
                      exact ren_flat rfl rfl

end Go.Proofs.YtanfmpkjcoolmaaGreat.Wg
