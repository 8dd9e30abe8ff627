/- A message is read as it was; unlike messages have unlike bytes. -/
import Derived.Test.YtanfmpkjcoolmaaGreatPlainA
import Derived.Test.YtanfmpkjcoolmaaGreatWoB
import Derived.Test.YtanfmpkjcoolmaaGreatWmA
import Derived.Test.YtanfmpkjcoolmaaGreatWdB
set_option linter.unusedVariables false
set_option linter.unusedSimpArgs false
namespace Go.Proofs.YtanfmpkjcoolmaaGreat.Wp
open Go Go.Abs Go.Proofs.YtanfmpkjcoolmaaGreat.Pk Wa Wb Wd Wm Wo
attribute [local irreducible] AWP AOps Does

theorem n0WpA {α : Type} {a b : α} (h : a = b := by first|simp only[nf,Nat.beq]<;>rfl|rfl) : a = b := h
theorem e1WpA {α : Type} {a b : α} (h : a = b := by exact Eq.trans (by simp only [nl] <;> rfl) n0WpA) : a = b := h
theorem r2WpA {ρ σ : Nat → Nat → Prop} {a b : List D} (h : RenAll ρ σ a b := by repeat (first | exact .nil | refine .cons ?_ ?_ | exact ren_ints | exact .lf (.val _) | exact .lf (lf_ints (.inl rfl)) | exact .bp ⟨rfl, rfl⟩ | exact .bp (.inl ⟨rfl, rfl⟩) | exact .bp (.inr ⟨rfl, rfl⟩) | exact .agg rfl (RenAll.get (.cons (.bp ⟨rfl, rfl⟩) .nil)) | exact .agg rfl (RenAll.get (.cons (.bp (.inl ⟨rfl, rfl⟩)) .nil)) | exact .fn rfl rfl (RenAll.get (.cons (.agg rfl (RenAll.get (.cons (.bp ⟨rfl, rfl⟩) .nil))) .nil)) (RenAll.get .nil) | exact .lf (txz_lf _) | exact .lf (.agg (qt_lf _)) | exact .agg rfl (RenAll.get (by repeat (first | exact .nil | refine .cons ?_ ?_ | exact .lf (.val _) | exact ren_map (f := q1) (fun _ => rfl) | exact ren_map (f := q2) (fun _ => rfl) | exact ren_map (f := q4) (fun _ => rfl) | exact ren_mapG qt_lf | exact .ro (fun x h => by cases h) | exact ren_ints))) | exact ren_bys0 rfl | exact .lf lf_fnz | exact .lf (D.flat_lf rfl) | exact ren_lits rfl)) : RenAll ρ σ a b := h
theorem l3WpA {d : D} (h : LF d := by first | exact .val _ | exact lf_ints (.inl rfl) | exact lf_ints (.inr rfl) | exact .any | exact .tup (lf_cons (lf_ints (.inl rfl)) (lf_cons (.val _) lf_nil)) | exact .tup (lf_cons (wz_lf _) (lf_cons (.val _) lf_nil)) | exact txz_lf _ | exact .agg (qt_lf _) | exact lf_mapG qt_lf (.inl rfl) | exact lf_map (f := q1) (fun _ => rfl) (.inl rfl) | exact lf_map (f := q2) (fun _ => rfl) (.inl rfl) | exact lf_map (f := q4) (fun _ => rfl) (.inl rfl) | exact .tup (lf_cons (txz_lf _) (lf_cons (.val _) lf_nil)) | exact .tup (lf_cons (.agg (qt_lf _)) (lf_cons (.val _) lf_nil)) | exact .tup (lf_cons (.agg (lf_cons (.val _) (lf_cons (.val _) (lf_cons (.val _) (lf_cons (.val _) lf_nil))))) (lf_cons (.val _) lf_nil)) | exact .agg (lf_cons (.val _) (lf_cons (.val _) lf_nil)) | exact .agg (lf_cons (.val _) (lf_cons (.val _) (lf_cons (.val _) (lf_cons (.val _) lf_nil)))) | exact .tup lf_nil | exact D.flat_lf rfl) : LF d := h
theorem cf5 : CF Tryz.prog 5 := ⟨_, Tryz.func5, by kernel_rfl, by kernel_rfl⟩
theorem cf6 : CF Tryz.prog 6 := ⟨_, Tryz.func6, by kernel_rfl, by kernel_rfl⟩
theorem cf7 : CF Tryz.prog 7 := ⟨_, Tryz.func7, by kernel_rfl, by kernel_rfl⟩
theorem cf8 : CF Tryz.prog 8 := ⟨_, Tryz.func8, by kernel_rfl, by kernel_rfl⟩
theorem cf9 : CF Tryz.prog 9 := ⟨_, Tryz.func9, by kernel_rfl, by kernel_rfl⟩
theorem ti33 : TI Tryz.prog 33 24 true := ⟨by kernel_rfl, by kernel_rfl⟩
theorem zi33 : (Tryz.prog.info? 33).map (·.zero) = some (some (.agg #[.int .i64 0, .int .i64 0, .int .i64 0, .int .i64 0, .int .i64 0, .int .i64 0, .bool false, .int .i64 0, .int .i64 0, .int .i64 0, .int .i64 0, .slice none 0 0, .slice none 0 0, .int .i64 0, .int .i64 0, .int .i64 0, .slice none 0 0, .int .i64 0, .slice none 0 0, .int .i64 0, .int .i64 0, .slice none 0 0, .int .i64 0, .slice none 0 0])) := by kernel_rfl

set_option maxHeartbeats 2000000 in
theorem Back_calls (a b : Wr) (pb : List Int) (ha : a.In) (hb : b.In) (hp : Byt pb) (hl : L40 pb) : Does Tryz.prog 3 [.agg (wz a), .agg (wz b), bys pb] [] (vb true) [] := by
 refine Does.of_body (rvs := [.tmp 6]) Tryz.func3 rfl rfl rfl rfl ?_
 have hba := bytW_byt ha
 have hbb := bytW_byt hb
 have hla := bytW_len a
 have c1 := Wm.l_bytes a ha
 have c2 := Wm.l_bytes b hb
 have hfw := back_fwd ha
 have hsm := back_same ha hb
 obtain ⟨xa, hxa⟩ : ∃ q, q = bytW a := ⟨_, rfl⟩
 obtain ⟨xb, hxb⟩ : ∃ q, q = bytW b := ⟨_, rfl⟩
 rw [← hxa] at c1 hba hla hfw hsm
 rw [← hxb] at c2 hbb hsm
 have c3 := Wo.l_parse xa.1 hba (by show xa.1.length ≤ _; omega)
 have hrs := r_wr a a ha.toSz ha.toSz
 rw [sameW_self] at hrs
 have heq := b_equal xa.1 xb.1 hba hbb
 have c4 := Wo.l_parse pb hp hl
 have hbw := back_bwd hp
 obtain ⟨yp, hyp⟩ : ∃ q, q = parW pb := ⟨_, rfl⟩
 rw [← hyp] at c4 hbw
 have hpp := b_equal pb pb hp hp
 rw [decide_eq_true rfl] at hpp
 refine AWP.sr ?_
 refine n_box rfl n0WpA rfl rfl n0WpA n0WpA ?_
 refine n_box rfl n0WpA rfl rfl n0WpA n0WpA ?_
 refine n_assign rfl n0WpA ?_
 refine AOps.nil ?_
 refine AWP.seq ?_
 refine AWP.sr ?_
 refine n_call0B rfl cf5 rfl e1WpA r2WpA (h_begun) l3WpA ?_
 refine n_not rfl n0WpA rfl ?_
 refine AOps.nil ?_
 refine AWP.cond_false n0WpA ?_
 refine AWP.skip ?_
 refine AWP.sr ?_
 refine n_load rfl ti33 n0WpA n0WpA rfl n0WpA ?_
 refine n_call0B rfl cf6 rfl e1WpA r2WpA (c1) l3WpA ?_
 refine n_move rfl n0WpA ?_
 refine n_extract rfl n0WpA rfl ?_
 refine n_extract rfl n0WpA rfl ?_
 refine n_assign rfl n0WpA ?_
 refine n_assign rfl n0WpA ?_
 refine AOps.nil ?_
 refine AWP.seq ?_
 refine AWP.sr ?_
 refine n_move rfl n0WpA ?_
 refine n_ibin rfl n0WpA n0WpA rfl ?_
 refine AOps.nil ?_
 refine AWP.cond n0WpA (fun hc2 => ?_) (fun hc2 => ?_)
 · try simp only [nh] at hc2
   have hf0 := hfw hc2
   rw [hf0] at c3
   dsimp only at c3
   refine AWP.sr ?_
   refine n_move rfl n0WpA ?_
   refine n_call0B rfl cf7 rfl e1WpA r2WpA (c3) l3WpA ?_
   refine n_move rfl n0WpA ?_
   refine n_extract rfl n0WpA rfl ?_
   refine n_extract rfl n0WpA rfl ?_
   refine n_alloc rfl zi33 rfl n0WpA n0WpA ?_
   refine n_store ti33 n0WpA rfl n0WpA rfl n0WpA rfl rfl rfl n0WpA ?_
   refine n_assign rfl n0WpA ?_
   refine AOps.nil ?_
   refine AWP.seq ?_
   refine AWP.sr ?_
   refine n_move rfl n0WpA ?_
   refine n_ibin rfl n0WpA n0WpA rfl ?_
   refine n_move rfl n0WpA ?_
   refine n_guard_yes rfl rfl rfl n0WpA rfl ?_
   refine n_load rfl ti33 n0WpA n0WpA rfl n0WpA ?_
   refine n_guard_yes rfl rfl rfl n0WpA rfl ?_
   refine n_load rfl ti33 n0WpA n0WpA rfl n0WpA ?_
   refine n_guard_yes rfl rfl rfl n0WpA rfl ?_
   refine n_call0B rfl cf8 rfl e1WpA r2WpA (hrs) l3WpA ?_
   refine n_guard_yes rfl rfl rfl n0WpA rfl ?_
   refine n_not rfl n0WpA rfl ?_
   refine n_pick rfl n0WpA n0WpA ?_
   refine AOps.nil ?_
   refine AWP.cond_false n0WpA ?_
   refine AWP.skip ?_
   refine AWP.sr ?_
   refine n_load rfl ti33 n0WpA n0WpA rfl n0WpA ?_
   refine n_call0B rfl cf6 rfl e1WpA r2WpA (c2) l3WpA ?_
   refine n_move rfl n0WpA ?_
   refine n_extract rfl n0WpA rfl ?_
   refine n_extract rfl n0WpA rfl ?_
   refine n_assign rfl n0WpA ?_
   refine n_assign rfl n0WpA ?_
   refine AOps.nil ?_
   refine AWP.seq ?_
   refine AWP.anyStill (by kernel_rfl) (by kernel_rfl) ?_
   refine Walk.still (rs := [12]) (by rfl) n0WpA (fun base => by
    refine n_move rfl n0WpA ?_
    exact AOps.nil ⟨rfl, rfl, rfl⟩) ?_
   refine Walk.still (rs := [44]) (by rfl) n0WpA (fun base => by
    refine n_ibin rfl n0WpA n0WpA rfl ?_
    exact AOps.nil ⟨rfl, rfl, rfl⟩) ?_
   refine Walk.still (rs := [45]) (by rfl) n0WpA (fun base => by
    refine n_move rfl n0WpA ?_
    exact AOps.nil ⟨rfl, rfl, rfl⟩) ?_
   refine Walk.name (u := 46) (fun z => .val (.bool z)) n0WpA (fun b46 hb46 => ?_)
   refine Walk.still (rs := [7, 46]) (by rfl) n0WpA (fun base => by
    refine n_softT b46 rfl rfl rfl n0WpA (fun h => by
     subst h
     refine n_move rfl n0WpA ?_
     exact AOps.nil ⟨rfl, rfl, rfl⟩) (AOps.nil ⟨rfl, rfl, rfl⟩)) ?_
   refine Walk.still (rs := [11, 46]) (by rfl) n0WpA (fun base => by
    refine n_softT b46 rfl rfl rfl n0WpA (fun h => by
     subst h
     refine n_move rfl n0WpA ?_
     exact AOps.nil ⟨rfl, rfl, rfl⟩) (AOps.nil ⟨rfl, rfl, rfl⟩)) ?_
   refine Walk.still (rs := [47, 48, 46]) (by rfl) n0WpA (fun base => by
    refine n_softT b46 rfl rfl rfl n0WpA (fun h => by
     subst h
     refine n_call0B rfl cf9 rfl e1WpA r2WpA (heq) l3WpA ?_
     exact AOps.nil ⟨rfl, rfl, rfl⟩) (AOps.nil ⟨rfl, rfl, rfl⟩)) ?_
   refine Walk.still (rs := [3, 46]) (by rfl) n0WpA (fun base => by
    refine n_softT b46 rfl rfl rfl n0WpA (fun h => by
     subst h
     refine n_load rfl ti33 n0WpA n0WpA rfl n0WpA ?_
     exact AOps.nil ⟨rfl, rfl, rfl⟩) (AOps.nil ⟨rfl, rfl, rfl⟩)) ?_
   refine Walk.still (rs := [4, 46]) (by rfl) n0WpA (fun base => by
    refine n_softT b46 rfl rfl rfl n0WpA (fun h => by
     subst h
     refine n_load rfl ti33 n0WpA n0WpA rfl n0WpA ?_
     exact AOps.nil ⟨rfl, rfl, rfl⟩) (AOps.nil ⟨rfl, rfl, rfl⟩)) ?_
   refine Walk.still (rs := [50, 51, 46]) (by rfl) n0WpA (fun base => by
    refine n_softT b46 rfl rfl rfl n0WpA (fun h => by
     subst h
     refine n_call0B rfl cf8 rfl e1WpA r2WpA (r_wr a b ha.toSz hb.toSz) l3WpA ?_
     exact AOps.nil ⟨rfl, rfl, rfl⟩) (AOps.nil ⟨rfl, rfl, rfl⟩)) ?_
   refine Walk.still (rs := [49, 52, 46]) (by rfl) n0WpA (fun base => by
    refine n_softT b46 rfl rfl rfl n0WpA (fun h => by
     subst h
     refine n_bneq (a := decide (xa.1 = xb.1)) (b := sameW a b) (c := (decide (xa.1 = xb.1) != sameW a b)) rfl n0WpA n0WpA Tryz.underlying4 rfl ?_
     exact AOps.nil ⟨rfl, rfl, rfl⟩) (AOps.nil ⟨rfl, rfl, rfl⟩)) ?_
   refine Walk.still (rs := [46, 53]) (by rfl) n0WpA (fun base => by
    refine n_pick_and rfl n0WpA (fun h => by cases b46 with | false => exact absurd h (by decide) | true => exact n0WpA) ?_
    exact AOps.nil ⟨rfl, rfl, rfl⟩) ?_
   subst hb46
   refine Walk.done ?_
   refine AWP.cond n0WpA (fun hc4 => ?_) (fun hc4 => ?_)
   · try simp only [nh] at hc4
     exfalso
     simp at hc4
     have hs0 := hsm (by assumption) hc4.1
     exact hc4.2 hs0
   try simp only [nh] at hc4
   refine AWP.skip ?_
   refine AWP.sr ?_
   refine n_move rfl n0WpA ?_
   refine n_call0B rfl cf7 rfl e1WpA r2WpA (c4) l3WpA ?_
   refine n_move rfl n0WpA ?_
   refine n_extract rfl n0WpA rfl ?_
   refine n_extract rfl n0WpA rfl ?_
   refine n_alloc rfl zi33 rfl n0WpA n0WpA ?_
   refine n_store ti33 n0WpA rfl n0WpA rfl n0WpA rfl rfl rfl n0WpA ?_
   refine n_assign rfl n0WpA ?_
   refine AOps.nil ?_
   refine AWP.seq ?_
   refine AWP.sr ?_
   refine n_move rfl n0WpA ?_
   refine n_ibin rfl n0WpA n0WpA rfl ?_
   refine AOps.nil ?_
   refine AWP.cond n0WpA (fun hc5 => ?_) (fun hc5 => ?_)
   · try simp only [nh] at hc5
     refine AWP.sr ?_
     refine n_assign rfl n0WpA ?_
     refine AOps.nil ?_
     refine AWP.ret ?_
     refine fin_pure (.cons (rv_tmp n0WpA) .nil) n0WpA ?_
     exact ren_flat rfl rfl
   try simp only [nh] at hc5
   obtain ⟨hin, hbe⟩ := hbw hc5
   have c5 := Wm.l_bytes yp.1 hin
   rw [hbe] at c5
   dsimp only at c5
   refine AWP.skip ?_
   refine AWP.sr ?_
   refine n_load rfl ti33 n0WpA n0WpA rfl n0WpA ?_
   refine n_call0B rfl cf6 rfl e1WpA r2WpA (c5) l3WpA ?_
   refine n_move rfl n0WpA ?_
   refine n_extract rfl n0WpA rfl ?_
   refine n_extract rfl n0WpA rfl ?_
   refine n_assign rfl n0WpA ?_
   refine n_assign rfl n0WpA ?_
   refine AOps.nil ?_
   refine AWP.sr ?_
   refine n_move rfl n0WpA ?_
   refine n_ibin rfl n0WpA n0WpA rfl ?_
   refine n_move rfl n0WpA ?_
   refine n_guard_yes rfl rfl rfl n0WpA rfl ?_
   refine n_move rfl n0WpA ?_
   refine n_guard_yes rfl rfl rfl n0WpA rfl ?_
   refine n_move rfl n0WpA ?_
   refine n_guard_yes rfl rfl rfl n0WpA rfl ?_
   refine n_call0B rfl cf9 rfl e1WpA r2WpA (hpp) l3WpA ?_
   refine n_pick rfl n0WpA n0WpA ?_
   refine n_assign rfl n0WpA ?_
   refine AOps.nil ?_
   refine AWP.ret ?_
   refine fin_pure (.cons (rv_tmp n0WpA) .nil) n0WpA ?_
   exact ren_flat rfl rfl
 · try simp only [nh] at hc2
   refine AWP.skip ?_
   refine AWP.sr ?_
   refine n_move rfl n0WpA ?_
   refine n_call0B rfl cf7 rfl e1WpA r2WpA (c4) l3WpA ?_
   refine n_move rfl n0WpA ?_
   refine n_extract rfl n0WpA rfl ?_
   refine n_extract rfl n0WpA rfl ?_
   refine n_alloc rfl zi33 rfl n0WpA n0WpA ?_
   refine n_store ti33 n0WpA rfl n0WpA rfl n0WpA rfl rfl rfl n0WpA ?_
   refine n_assign rfl n0WpA ?_
   refine AOps.nil ?_
   refine AWP.seq ?_
   refine AWP.sr ?_
   refine n_move rfl n0WpA ?_
   refine n_ibin rfl n0WpA n0WpA rfl ?_
   refine AOps.nil ?_
   refine AWP.cond n0WpA (fun hc6 => ?_) (fun hc6 => ?_)
   · try simp only [nh] at hc6
     refine AWP.sr ?_
     refine n_assign rfl n0WpA ?_
     refine AOps.nil ?_
     refine AWP.ret ?_
     refine fin_pure (.cons (rv_tmp n0WpA) .nil) n0WpA ?_
     exact ren_flat rfl rfl
   · try simp only [nh] at hc6
     obtain ⟨hin, hbe⟩ := hbw hc6
     have c5 := Wm.l_bytes yp.1 hin
     rw [hbe] at c5
     dsimp only at c5
     refine AWP.skip ?_
     refine AWP.sr ?_
     refine n_load rfl ti33 n0WpA n0WpA rfl n0WpA ?_
     refine n_call0B rfl cf6 rfl e1WpA r2WpA (c5) l3WpA ?_
     refine n_move rfl n0WpA ?_
     refine n_extract rfl n0WpA rfl ?_
     refine n_extract rfl n0WpA rfl ?_
     refine n_assign rfl n0WpA ?_
     refine n_assign rfl n0WpA ?_
     refine AOps.nil ?_
     refine AWP.sr ?_
     refine n_move rfl n0WpA ?_
     refine n_ibin rfl n0WpA n0WpA rfl ?_
     refine n_move rfl n0WpA ?_
     refine n_guard_yes rfl rfl rfl n0WpA rfl ?_
     refine n_move rfl n0WpA ?_
     refine n_guard_yes rfl rfl rfl n0WpA rfl ?_
     refine n_move rfl n0WpA ?_
     refine n_guard_yes rfl rfl rfl n0WpA rfl ?_
     refine n_call0B rfl cf9 rfl e1WpA r2WpA (hpp) l3WpA ?_
     refine n_pick rfl n0WpA n0WpA ?_
     refine n_assign rfl n0WpA ?_
     refine AOps.nil ?_
     refine AWP.ret ?_
     refine fin_pure (.cons (rv_tmp n0WpA) .nil) n0WpA ?_
     exact ren_flat rfl rfl

end Go.Proofs.YtanfmpkjcoolmaaGreat.Wp
