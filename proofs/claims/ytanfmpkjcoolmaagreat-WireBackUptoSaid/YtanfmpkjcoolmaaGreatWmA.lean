/- Bytes of messages. -/
import Derived.Test.YtanfmpkjcoolmaaGreatPlainA
import Derived.Test.YtanfmpkjcoolmaaGreatWlA
set_option linter.unusedVariables false
set_option linter.unusedSimpArgs false
namespace Go.Proofs.YtanfmpkjcoolmaaGreat.Wm
open Go Go.Abs Go.Proofs.YtanfmpkjcoolmaaGreat.Pk Wa Wb Wh Wi Wj Wk Wl
attribute [local irreducible] AWP AOps Does

theorem n0WmA {α : Type} {a b : α} (h : a = b := by first|simp only[nf,Nat.beq]<;>rfl|rfl) : a = b := h
theorem e1WmA {α : Type} {a b : α} (h : a = b := by exact Eq.trans (by simp only [nl] <;> rfl) n0WmA) : a = b := h
theorem r2WmA {ρ σ : Nat → Nat → Prop} {a b : List D} (h : RenAll ρ σ a b := by repeat (first | exact .nil | refine .cons ?_ ?_ | exact ren_ints | exact .lf (.val _) | exact .lf (lf_ints (.inl rfl)) | exact .bp ⟨rfl, rfl⟩ | exact .bp (.inl ⟨rfl, rfl⟩) | exact .bp (.inr ⟨rfl, rfl⟩) | exact .lf (wz_lf _) | exact .agg rfl (RenAll.get (by repeat (first | exact .nil | refine .cons ?_ ?_ | exact .lf (.val _) | exact ren_map (f := q1) (fun _ => rfl) | exact ren_map (f := q2) (fun _ => rfl) | exact ren_map (f := q4) (fun _ => rfl) | exact ren_mapG qt_lf | exact .ro (fun x h => by cases h) | exact ren_ints))) | exact .agg rfl (RenAll.get (.cons (.lf (.val _)) (.cons (.lf (.val _)) (.cons (ren_map (f := q4) (fun _ => rfl)) .nil)))) | exact ren_mapG qt_lf | exact .lf (.agg (qt_lf _)) | exact .lf (txz_lf _) | exact ren_bys0 rfl | exact .lf lf_fnz | exact ren_map (f := q1) (fun _ => rfl) | exact ren_map (f := q2) (fun _ => rfl) | exact ren_map (f := q4) (fun _ => rfl) | exact .lf (D.flat_lf rfl) | exact ren_lits rfl)) : RenAll ρ σ a b := h
theorem l3WmA {d : D} (h : LF d := by first | exact .val _ | exact lf_ints (.inl rfl) | exact lf_ints (.inr rfl) | exact .any | exact .tup (lf_cons (lf_ints (.inl rfl)) (lf_cons (.val _) lf_nil)) | exact .tup (lf_cons (wz_lf _) (lf_cons (.val _) lf_nil)) | exact wz_lf _ | exact .agg (qt_lf _) | exact D.flat_lf rfl) : LF d := h
theorem cf12 : CF Tryz.prog 12 := ⟨_, Tryz.func12, by kernel_rfl, by kernel_rfl⟩
theorem cf13 : CF Tryz.prog 13 := ⟨_, Tryz.func13, by kernel_rfl, by kernel_rfl⟩
theorem cf14 : CF Tryz.prog 14 := ⟨_, Tryz.func14, by kernel_rfl, by kernel_rfl⟩
theorem cf15 : CF Tryz.prog 15 := ⟨_, Tryz.func15, by kernel_rfl, by kernel_rfl⟩
theorem cf16 : CF Tryz.prog 16 := ⟨_, Tryz.func16, by kernel_rfl, by kernel_rfl⟩
theorem cf17 : CF Tryz.prog 17 := ⟨_, Tryz.func17, by kernel_rfl, by kernel_rfl⟩
theorem cf19 : CF Tryz.prog 19 := ⟨_, Tryz.func19, by kernel_rfl, by kernel_rfl⟩
theorem cf45 : CF Tryz.prog 45 := ⟨_, Tryz.func45, by kernel_rfl, by kernel_rfl⟩
theorem cf47 : CF Tryz.prog 47 := ⟨_, Tryz.func47, by kernel_rfl, by kernel_rfl⟩
theorem fd28_0 : FD Tryz.prog 28 0 2 0 := ⟨_, _, Tryz.underlying28, rfl, rfl, rfl⟩
theorem fd28_1 : FD Tryz.prog 28 1 2 1 := ⟨_, _, Tryz.underlying28, rfl, rfl, rfl⟩
theorem fd33_0 : FD Tryz.prog 33 0 3 0 := ⟨_, _, Tryz.underlying33, rfl, rfl, rfl⟩
theorem fd33_1 : FD Tryz.prog 33 1 3 1 := ⟨_, _, Tryz.underlying33, rfl, rfl, rfl⟩
theorem fd33_10 : FD Tryz.prog 33 10 2 15 := ⟨_, _, Tryz.underlying33, rfl, rfl, rfl⟩
theorem fd33_11 : FD Tryz.prog 33 11 24 16 := ⟨_, _, Tryz.underlying33, rfl, rfl, rfl⟩
theorem fd33_12 : FD Tryz.prog 33 12 2 17 := ⟨_, _, Tryz.underlying33, rfl, rfl, rfl⟩
theorem fd33_13 : FD Tryz.prog 33 13 29 18 := ⟨_, _, Tryz.underlying33, rfl, rfl, rfl⟩
theorem fd33_14 : FD Tryz.prog 33 14 3 19 := ⟨_, _, Tryz.underlying33, rfl, rfl, rfl⟩
theorem fd33_15 : FD Tryz.prog 33 15 2 20 := ⟨_, _, Tryz.underlying33, rfl, rfl, rfl⟩
theorem fd33_16 : FD Tryz.prog 33 16 30 21 := ⟨_, _, Tryz.underlying33, rfl, rfl, rfl⟩
theorem fd33_17 : FD Tryz.prog 33 17 3 22 := ⟨_, _, Tryz.underlying33, rfl, rfl, rfl⟩
theorem fd33_18 : FD Tryz.prog 33 18 31 23 := ⟨_, _, Tryz.underlying33, rfl, rfl, rfl⟩
theorem fd33_2 : FD Tryz.prog 33 2 2 2 := ⟨_, _, Tryz.underlying33, rfl, rfl, rfl⟩
theorem fd33_3 : FD Tryz.prog 33 3 2 3 := ⟨_, _, Tryz.underlying33, rfl, rfl, rfl⟩
theorem fd33_4 : FD Tryz.prog 33 4 3 4 := ⟨_, _, Tryz.underlying33, rfl, rfl, rfl⟩
theorem fd33_5 : FD Tryz.prog 33 5 3 5 := ⟨_, _, Tryz.underlying33, rfl, rfl, rfl⟩
theorem fd33_6 : FD Tryz.prog 33 6 4 6 := ⟨_, _, Tryz.underlying33, rfl, rfl, rfl⟩
theorem fd33_7 : FD Tryz.prog 33 7 22 7 := ⟨_, _, Tryz.underlying33, rfl, rfl, rfl⟩
theorem fd33_8 : FD Tryz.prog 33 8 26 8 := ⟨_, _, Tryz.underlying33, rfl, rfl, rfl⟩
theorem fd33_9 : FD Tryz.prog 33 9 28 13 := ⟨_, _, Tryz.underlying33, rfl, rfl, rfl⟩
theorem ti2 : TI Tryz.prog 2 1 false := ⟨by kernel_rfl, by kernel_rfl⟩
theorem ti22 : TI Tryz.prog 22 1 false := ⟨by kernel_rfl, by kernel_rfl⟩
theorem ti24 : TI Tryz.prog 24 1 false := ⟨by kernel_rfl, by kernel_rfl⟩
theorem ti26 : TI Tryz.prog 26 5 true := ⟨by kernel_rfl, by kernel_rfl⟩
theorem ti28 : TI Tryz.prog 28 2 true := ⟨by kernel_rfl, by kernel_rfl⟩
theorem ti29 : TI Tryz.prog 29 1 false := ⟨by kernel_rfl, by kernel_rfl⟩
theorem ti3 : TI Tryz.prog 3 1 false := ⟨by kernel_rfl, by kernel_rfl⟩
theorem ti30 : TI Tryz.prog 30 1 false := ⟨by kernel_rfl, by kernel_rfl⟩
theorem ti31 : TI Tryz.prog 31 1 false := ⟨by kernel_rfl, by kernel_rfl⟩
theorem ti33 : TI Tryz.prog 33 24 true := ⟨by kernel_rfl, by kernel_rfl⟩
theorem ti4 : TI Tryz.prog 4 1 false := ⟨by kernel_rfl, by kernel_rfl⟩
theorem zi2 : (Tryz.prog.info? 2).map (·.zero) = some (some (.int .i64 0)) := by kernel_rfl

theorem l_flag (b : Bool) : Does Tryz.prog 14 [vb b] [] (vi (if b then 1 else 0)) [] := by
 refine Does.of_body (rvs := [.tmp 2]) Tryz.func14 rfl rfl rfl rfl ?_
 refine AWP.sr ?_
 refine n_assign rfl n0WmA ?_
 refine AOps.nil ?_
 refine AWP.seq ?_
 refine AWP.sr ?_
 refine n_move rfl n0WmA ?_
 refine AOps.nil ?_
 refine AWP.cond n0WmA (fun hc1 => ?_) (fun hc1 => ?_)
 · try simp only [nh] at hc1
   have hr : (if b then 1 else 0 : Int) = 1 := by rw [if_pos hc1]
   rw [hr]
   refine AWP.sr ?_
   refine n_assign rfl n0WmA ?_
   refine AOps.nil ?_
   refine AWP.ret ?_
   refine fin_pure (.cons (rv_tmp n0WmA) .nil) n0WmA ?_
   exact ren_flat rfl rfl
 · try simp only [nh] at hc1
   have hr : (if b then 1 else 0 : Int) = 0 := by rw [if_neg (by (try simp at hc1); simp [hc1])]
   rw [hr]
   refine AWP.skip ?_
   refine AWP.sr ?_
   refine n_assign rfl n0WmA ?_
   refine AOps.nil ?_
   refine AWP.ret ?_
   refine fin_pure (.cons (rv_tmp n0WmA) .nil) n0WmA ?_
   exact ren_flat rfl rfl

set_option maxHeartbeats 2000000 in
theorem l_regionals (a : Wr) (ha : a.In) (hk : 13 ≤ a.kd ∧ a.kd ≤ 20) (hf : fieldsW a = true) (b : List Int) (hb : b.length ≤ 1000) : Does Tryz.prog 19 [bys b, .agg (wz a)] [] (bys (b ++ restW a)) [] := by
 refine Does.of_body (rvs := [.tmp 4]) Tryz.func19 rfl rfl rfl rfl ?_
 refine AWP.sr ?_
 refine n_box rfl n0WmA rfl rfl n0WmA n0WmA ?_
 refine n_assign rfl n0WmA ?_
 refine AOps.nil ?_
 refine AWP.seq ?_
 refine AWP.sr ?_
 refine n_fieldAddr rfl fd33_0 ti3 rfl n0WmA rfl n0WmA ?_
 refine n_load rfl ti3 n0WmA n0WmA rfl n0WmA ?_
 refine AOps.nil ?_
 refine AWP.block ?_
 refine AWP.sr ?_
 refine n_ibin rfl n0WmA n0WmA rfl ?_
 refine n_assign rfl n0WmA ?_
 refine AOps.nil ?_
 refine AWP.cond n0WmA (fun hc1 => ?_) (fun hc1 => ?_)
 · try simp only [nh] at hc1
   obtain ⟨i1, i2⟩ := nums_8 (by omega) hf
   have c1 := p_intR b [a.nm] (i6_cons i2 i6_nil) (by simp only [List.length_cons, List.length_nil]; omega)
   obtain ⟨y1, hy1⟩ : ∃ x, x = b ++ forms [a.nm] := ⟨_, rfl⟩
   rw [← hy1] at c1
   have hl1 : y1.length ≤ 1010 := by { have e := forms_len' [a.nm] (i6_cons i2 i6_nil); rw [hy1, List.length_append]; simp only [List.length_cons, List.length_nil] at e; (try simp only [List.length_nil]); omega }
   have c2 := listTab y1 a.tb (by omega) ha.s ha.t
   obtain ⟨y2, hy2⟩ : ∃ x, x = y1 ++ form (a.tb.length : Int) ++ a.tb.flatMap tabC.put := ⟨_, rfl⟩
   rw [← hy2] at c2
   have hfin : y2 = b ++ restW a := by { rw [rest_8 (by omega), hy2, hy1]; simp only [forms, List.flatMap_cons, List.flatMap_nil, List.append_nil, List.nil_append, List.append_assoc] }
   rw [← hfin]
   refine AWP.seq ?_
   refine AWP.anyStill (by kernel_rfl) (by kernel_rfl) ?_
   refine Walk.still (rs := [0]) (by rfl) n0WmA (fun base => by
    refine n_move rfl n0WmA ?_
    exact AOps.nil ⟨rfl, rfl, rfl⟩) ?_
   refine Walk.still (rs := [3]) (by rfl) n0WmA (fun base => by
    refine n_fieldAddr rfl fd33_12 ti2 rfl n0WmA rfl n0WmA ?_
    exact AOps.nil ⟨rfl, rfl, rfl⟩) ?_
   refine Walk.still (rs := [10]) (by rfl) n0WmA (fun base => by
    refine n_load rfl ti2 n0WmA n0WmA rfl n0WmA ?_
    exact AOps.nil ⟨rfl, rfl, rfl⟩) ?_
   refine Walk.still (rs := [11]) (by rfl) n0WmA (fun base => by
    refine n_lit rfl Tryz.underlying24 ti2 zi2 rfl rfl e1WmA rfl n0WmA ?_
    exact AOps.nil ⟨rfl, rfl, rfl⟩) ?_
   refine Walk.still (rs := [9, 12]) (by rfl) n0WmA (fun base => by
    refine n_call0B rfl cf13 rfl e1WmA r2WmA (c1) l3WmA ?_
    exact AOps.nil ⟨rfl, rfl, rfl⟩) ?_
   refine Walk.still (rs := [3]) (by rfl) n0WmA (fun base => by
    refine n_fieldAddr rfl fd33_13 ti29 rfl n0WmA rfl n0WmA ?_
    exact AOps.nil ⟨rfl, rfl, rfl⟩) ?_
   refine Walk.still (rs := [14]) (by rfl) n0WmA (fun base => by
    refine n_load rfl ti29 n0WmA n0WmA rfl n0WmA ?_
    exact AOps.nil ⟨rfl, rfl, rfl⟩) ?_
   refine Walk.still (rs := [13, 15]) (by rfl) n0WmA (fun base => by
    refine n_call0B rfl cf45 rfl e1WmA r2WmA (c2) l3WmA ?_
    exact AOps.nil ⟨rfl, rfl, rfl⟩) ?_
   refine Walk.still (rs := [16]) (by rfl) n0WmA (fun base => by
    refine n_assign rfl n0WmA ?_
    exact AOps.nil ⟨rfl, rfl, rfl⟩) ?_
   refine Walk.done ?_
   refine AWP.ret ?_
   refine fin_pure (.cons (rv_tmp n0WmA) .nil) n0WmA ?_
   exact ren_ints
 · try simp only [nh] at hc1
   refine AWP.sr ?_
   refine n_ibin rfl n0WmA n0WmA rfl ?_
   refine n_assign rfl n0WmA ?_
   refine AOps.nil ?_
   refine AWP.cond n0WmA (fun hc2 => ?_) (fun hc2 => ?_)
   · try simp only [nh] at hc2
     obtain ⟨i1, i2, iv⟩ := nums_9 (by omega) hf
     have c1 := p_intR b [a.nm] (i6_cons i2 i6_nil) (by simp only [List.length_cons, List.length_nil]; omega)
     obtain ⟨y1, hy1⟩ : ∃ x, x = b ++ forms [a.nm] := ⟨_, rfl⟩
     rw [← hy1] at c1
     have hl1 : y1.length ≤ 1010 := by { have e := forms_len' [a.nm] (i6_cons i2 i6_nil); rw [hy1, List.length_append]; simp only [List.length_cons, List.length_nil] at e; (try simp only [List.length_nil]); omega }
     have c2 := listNum y1 a.vc (by omega) iv ha.c
     obtain ⟨y2, hy2⟩ : ∃ x, x = y1 ++ form (a.vc.length : Int) ++ a.vc.flatMap form := ⟨_, rfl⟩
     rw [← hy2] at c2
     have hfin : y2 = b ++ restW a := by { rw [rest_9 (by omega), hy2, hy1]; simp only [forms, List.flatMap_cons, List.flatMap_nil, List.append_nil, List.nil_append, List.append_assoc] }
     rw [← hfin]
     refine AWP.seq ?_
     refine AWP.anyStill (by kernel_rfl) (by kernel_rfl) ?_
     refine Walk.still (rs := [0]) (by rfl) n0WmA (fun base => by
      refine n_move rfl n0WmA ?_
      exact AOps.nil ⟨rfl, rfl, rfl⟩) ?_
     refine Walk.still (rs := [3]) (by rfl) n0WmA (fun base => by
      refine n_fieldAddr rfl fd33_12 ti2 rfl n0WmA rfl n0WmA ?_
      exact AOps.nil ⟨rfl, rfl, rfl⟩) ?_
     refine Walk.still (rs := [20]) (by rfl) n0WmA (fun base => by
      refine n_load rfl ti2 n0WmA n0WmA rfl n0WmA ?_
      exact AOps.nil ⟨rfl, rfl, rfl⟩) ?_
     refine Walk.still (rs := [21]) (by rfl) n0WmA (fun base => by
      refine n_lit rfl Tryz.underlying24 ti2 zi2 rfl rfl e1WmA rfl n0WmA ?_
      exact AOps.nil ⟨rfl, rfl, rfl⟩) ?_
     refine Walk.still (rs := [19, 22]) (by rfl) n0WmA (fun base => by
      refine n_call0B rfl cf13 rfl e1WmA r2WmA (c1) l3WmA ?_
      exact AOps.nil ⟨rfl, rfl, rfl⟩) ?_
     refine Walk.still (rs := [3]) (by rfl) n0WmA (fun base => by
      refine n_fieldAddr rfl fd33_11 ti24 rfl n0WmA rfl n0WmA ?_
      exact AOps.nil ⟨rfl, rfl, rfl⟩) ?_
     refine Walk.still (rs := [24]) (by rfl) n0WmA (fun base => by
      refine n_load rfl ti24 n0WmA n0WmA rfl n0WmA ?_
      exact AOps.nil ⟨rfl, rfl, rfl⟩) ?_
     refine Walk.still (rs := [23, 25]) (by rfl) n0WmA (fun base => by
      refine n_call0B rfl cf17 rfl e1WmA r2WmA (c2) l3WmA ?_
      exact AOps.nil ⟨rfl, rfl, rfl⟩) ?_
     refine Walk.still (rs := [26]) (by rfl) n0WmA (fun base => by
      refine n_assign rfl n0WmA ?_
      exact AOps.nil ⟨rfl, rfl, rfl⟩) ?_
     refine Walk.done ?_
     refine AWP.ret ?_
     refine fin_pure (.cons (rv_tmp n0WmA) .nil) n0WmA ?_
     exact ren_ints
   · try simp only [nh] at hc2
     refine AWP.sr ?_
     refine n_ibin rfl n0WmA n0WmA rfl ?_
     refine n_assign rfl n0WmA ?_
     refine AOps.nil ?_
     refine AWP.cond n0WmA (fun hc3 => ?_) (fun hc3 => ?_)
     · try simp only [nh] at hc3
       obtain ⟨i1, iv⟩ := nums_10 (by omega) hf
       have c2 := listNum b a.vc (by omega) iv ha.c
       obtain ⟨y1, hy1⟩ : ∃ x, x = b ++ form (a.vc.length : Int) ++ a.vc.flatMap form := ⟨_, rfl⟩
       rw [← hy1] at c2
       have hfin : y1 = b ++ restW a := by { rw [rest_10 (by omega), hy1]; simp only [forms, List.flatMap_cons, List.flatMap_nil, List.append_nil, List.nil_append, List.append_assoc] }
       rw [← hfin]
       refine AWP.sr ?_
       refine n_move rfl n0WmA ?_
       refine n_fieldAddr rfl fd33_11 ti24 rfl n0WmA rfl n0WmA ?_
       refine n_load rfl ti24 n0WmA n0WmA rfl n0WmA ?_
       refine n_call0B rfl cf17 rfl e1WmA r2WmA (c2) l3WmA ?_
       refine n_assign rfl n0WmA ?_
       refine AOps.nil ?_
       refine AWP.ret ?_
       refine fin_pure (.cons (rv_tmp n0WmA) .nil) n0WmA ?_
       exact ren_ints
     · try simp only [nh] at hc3
       refine AWP.sr ?_
       refine n_ibin rfl n0WmA n0WmA rfl ?_
       refine n_assign rfl n0WmA ?_
       refine AOps.nil ?_
       refine AWP.cond n0WmA (fun hc4 => ?_) (fun hc4 => ?_)
       · try simp only [nh] at hc4
         obtain ⟨i1, i2, i3⟩ := nums_11 (by omega) hf
         have c1 := p_intR b [a.pt, a.ps] (i6_cons i2 (i6_cons i3 i6_nil)) (by simp only [List.length_cons, List.length_nil]; omega)
         obtain ⟨y1, hy1⟩ : ∃ x, x = b ++ forms [a.pt, a.ps] := ⟨_, rfl⟩
         rw [← hy1] at c1
         have hl1 : y1.length ≤ 1020 := by { have e := forms_len' [a.pt, a.ps] (i6_cons i2 (i6_cons i3 i6_nil)); rw [hy1, List.length_append]; simp only [List.length_cons, List.length_nil] at e; (try simp only [List.length_nil]); omega }
         have c2 := listEnt y1 a.en (by omega) ha.eI ha.e
         obtain ⟨y2, hy2⟩ : ∃ x, x = y1 ++ form (a.en.length : Int) ++ a.en.flatMap entC.put := ⟨_, rfl⟩
         rw [← hy2] at c2
         have hfin : y2 = b ++ restW a := by { rw [rest_11 (by omega), hy2, hy1]; simp only [forms, List.flatMap_cons, List.flatMap_nil, List.append_nil, List.nil_append, List.append_assoc] }
         rw [← hfin]
         refine AWP.seq ?_
         refine AWP.anyStill (by kernel_rfl) (by kernel_rfl) ?_
         refine Walk.still (rs := [0]) (by rfl) n0WmA (fun base => by
          refine n_move rfl n0WmA ?_
          exact AOps.nil ⟨rfl, rfl, rfl⟩) ?_
         refine Walk.still (rs := [3]) (by rfl) n0WmA (fun base => by
          refine n_fieldAddr rfl fd33_14 ti3 rfl n0WmA rfl n0WmA ?_
          exact AOps.nil ⟨rfl, rfl, rfl⟩) ?_
         refine Walk.still (rs := [36]) (by rfl) n0WmA (fun base => by
          refine n_load rfl ti3 n0WmA n0WmA rfl n0WmA ?_
          exact AOps.nil ⟨rfl, rfl, rfl⟩) ?_
         refine Walk.still (rs := [3]) (by rfl) n0WmA (fun base => by
          refine n_fieldAddr rfl fd33_15 ti2 rfl n0WmA rfl n0WmA ?_
          exact AOps.nil ⟨rfl, rfl, rfl⟩) ?_
         refine Walk.still (rs := [38]) (by rfl) n0WmA (fun base => by
          refine n_load rfl ti2 n0WmA n0WmA rfl n0WmA ?_
          exact AOps.nil ⟨rfl, rfl, rfl⟩) ?_
         refine Walk.still (rs := [37, 39]) (by rfl) n0WmA (fun base => by
          refine n_lit rfl Tryz.underlying24 ti2 zi2 rfl rfl e1WmA rfl n0WmA ?_
          exact AOps.nil ⟨rfl, rfl, rfl⟩) ?_
         refine Walk.still (rs := [35, 40]) (by rfl) n0WmA (fun base => by
          refine n_call0B rfl cf13 rfl e1WmA r2WmA (c1) l3WmA ?_
          exact AOps.nil ⟨rfl, rfl, rfl⟩) ?_
         refine Walk.still (rs := [3]) (by rfl) n0WmA (fun base => by
          refine n_fieldAddr rfl fd33_16 ti30 rfl n0WmA rfl n0WmA ?_
          exact AOps.nil ⟨rfl, rfl, rfl⟩) ?_
         refine Walk.still (rs := [42]) (by rfl) n0WmA (fun base => by
          refine n_load rfl ti30 n0WmA n0WmA rfl n0WmA ?_
          exact AOps.nil ⟨rfl, rfl, rfl⟩) ?_
         refine Walk.still (rs := [41, 43]) (by rfl) n0WmA (fun base => by
          refine n_call0B rfl cf47 rfl e1WmA r2WmA (c2) l3WmA ?_
          exact AOps.nil ⟨rfl, rfl, rfl⟩) ?_
         refine Walk.still (rs := [44]) (by rfl) n0WmA (fun base => by
          refine n_assign rfl n0WmA ?_
          exact AOps.nil ⟨rfl, rfl, rfl⟩) ?_
         refine Walk.done ?_
         refine AWP.ret ?_
         refine fin_pure (.cons (rv_tmp n0WmA) .nil) n0WmA ?_
         exact ren_ints
       · try simp only [nh] at hc4
         refine AWP.sr ?_
         refine n_ibin rfl n0WmA n0WmA rfl ?_
         refine n_assign rfl n0WmA ?_
         refine AOps.nil ?_
         refine AWP.cond n0WmA (fun hc5 => ?_) (fun hc5 => ?_)
         · try simp only [nh] at hc5
           obtain ⟨i1, i2, i3, i4⟩ := nums_12 (by omega) hf
           have c1 := p_intR b [a.ke, a.ki, a.ch] (i6_cons i2 (i6_cons i3 (i6_cons i4 i6_nil))) (by simp only [List.length_cons, List.length_nil]; omega)
           obtain ⟨y1, hy1⟩ : ∃ x, x = b ++ forms [a.ke, a.ki, a.ch] := ⟨_, rfl⟩
           rw [← hy1] at c1
           have hl1 : y1.length ≤ 1030 := by { have e := forms_len' [a.ke, a.ki, a.ch] (i6_cons i2 (i6_cons i3 (i6_cons i4 i6_nil))); rw [hy1, List.length_append]; simp only [List.length_cons, List.length_nil] at e; (try simp only [List.length_nil]); omega }
           have c2 := p_strR y1 a.by_ (by omega) ha.l
           obtain ⟨y2, hy2⟩ : ∃ x, x = y1 ++ (form (a.by_.length : Int) ++ a.by_) := ⟨_, rfl⟩
           rw [← hy2] at c2
           have hfin : y2 = b ++ restW a := by { rw [rest_12 (by omega), hy2, hy1]; simp only [forms, List.flatMap_cons, List.flatMap_nil, List.append_nil, List.nil_append, List.append_assoc] }
           rw [← hfin]
           refine AWP.seq ?_
           refine AWP.anyStill (by kernel_rfl) (by kernel_rfl) ?_
           refine Walk.still (rs := [0]) (by rfl) n0WmA (fun base => by
            refine n_move rfl n0WmA ?_
            exact AOps.nil ⟨rfl, rfl, rfl⟩) ?_
           refine Walk.still (rs := [3]) (by rfl) n0WmA (fun base => by
            refine n_fieldAddr rfl fd33_9 ti28 rfl n0WmA rfl n0WmA ?_
            exact AOps.nil ⟨rfl, rfl, rfl⟩) ?_
           refine Walk.still (rs := [48]) (by rfl) n0WmA (fun base => by
            refine n_fieldAddr rfl fd28_0 ti2 rfl n0WmA rfl n0WmA ?_
            exact AOps.nil ⟨rfl, rfl, rfl⟩) ?_
           refine Walk.still (rs := [49]) (by rfl) n0WmA (fun base => by
            refine n_load rfl ti2 n0WmA n0WmA rfl n0WmA ?_
            exact AOps.nil ⟨rfl, rfl, rfl⟩) ?_
           refine Walk.still (rs := [3]) (by rfl) n0WmA (fun base => by
            refine n_fieldAddr rfl fd33_9 ti28 rfl n0WmA rfl n0WmA ?_
            exact AOps.nil ⟨rfl, rfl, rfl⟩) ?_
           refine Walk.still (rs := [51]) (by rfl) n0WmA (fun base => by
            refine n_fieldAddr rfl fd28_1 ti2 rfl n0WmA rfl n0WmA ?_
            exact AOps.nil ⟨rfl, rfl, rfl⟩) ?_
           refine Walk.still (rs := [52]) (by rfl) n0WmA (fun base => by
            refine n_load rfl ti2 n0WmA n0WmA rfl n0WmA ?_
            exact AOps.nil ⟨rfl, rfl, rfl⟩) ?_
           refine Walk.still (rs := [3]) (by rfl) n0WmA (fun base => by
            refine n_fieldAddr rfl fd33_17 ti3 rfl n0WmA rfl n0WmA ?_
            exact AOps.nil ⟨rfl, rfl, rfl⟩) ?_
           refine Walk.still (rs := [54]) (by rfl) n0WmA (fun base => by
            refine n_load rfl ti3 n0WmA n0WmA rfl n0WmA ?_
            exact AOps.nil ⟨rfl, rfl, rfl⟩) ?_
           refine Walk.still (rs := [50, 53, 55]) (by rfl) n0WmA (fun base => by
            refine n_lit rfl Tryz.underlying24 ti2 zi2 rfl rfl e1WmA rfl n0WmA ?_
            exact AOps.nil ⟨rfl, rfl, rfl⟩) ?_
           refine Walk.still (rs := [47, 56]) (by rfl) n0WmA (fun base => by
            refine n_call0B rfl cf13 rfl e1WmA r2WmA (c1) l3WmA ?_
            exact AOps.nil ⟨rfl, rfl, rfl⟩) ?_
           refine Walk.still (rs := [3]) (by rfl) n0WmA (fun base => by
            refine n_fieldAddr rfl fd33_18 ti31 rfl n0WmA rfl n0WmA ?_
            exact AOps.nil ⟨rfl, rfl, rfl⟩) ?_
           refine Walk.still (rs := [58]) (by rfl) n0WmA (fun base => by
            refine n_load rfl ti31 n0WmA n0WmA rfl n0WmA ?_
            exact AOps.nil ⟨rfl, rfl, rfl⟩) ?_
           refine Walk.still (rs := [57, 59]) (by rfl) n0WmA (fun base => by
            refine n_call0B rfl cf15 rfl e1WmA r2WmA (c2) l3WmA ?_
            exact AOps.nil ⟨rfl, rfl, rfl⟩) ?_
           refine Walk.still (rs := [60]) (by rfl) n0WmA (fun base => by
            refine n_assign rfl n0WmA ?_
            exact AOps.nil ⟨rfl, rfl, rfl⟩) ?_
           refine Walk.done ?_
           refine AWP.ret ?_
           refine fin_pure (.cons (rv_tmp n0WmA) .nil) n0WmA ?_
           exact ren_ints
         · try simp only [nh] at hc5
           refine AWP.sr ?_
           refine n_ibin rfl n0WmA n0WmA rfl ?_
           refine n_assign rfl n0WmA ?_
           refine AOps.nil ?_
           refine AWP.cond n0WmA (fun hc6 => ?_) (fun hc6 => ?_)
           · try simp only [nh] at hc6
             obtain ⟨i1, i2, i3, i4⟩ := nums_13 (by omega) hf
             have c1 := p_intR b [a.ke, a.ki, a.ch] (i6_cons i2 (i6_cons i3 (i6_cons i4 i6_nil))) (by simp only [List.length_cons, List.length_nil]; omega)
             obtain ⟨y1, hy1⟩ : ∃ x, x = b ++ forms [a.ke, a.ki, a.ch] := ⟨_, rfl⟩
             rw [← hy1] at c1
             have hl1 : y1.length ≤ 1030 := by { have e := forms_len' [a.ke, a.ki, a.ch] (i6_cons i2 (i6_cons i3 (i6_cons i4 i6_nil))); rw [hy1, List.length_append]; simp only [List.length_cons, List.length_nil] at e; (try simp only [List.length_nil]); omega }
             have hfin : y1 = b ++ restW a := by { rw [rest_13 (by omega), hy1]; simp only [forms, List.flatMap_cons, List.flatMap_nil, List.append_nil, List.nil_append, List.append_assoc] }
             rw [← hfin]
             refine AWP.sr ?_
             refine n_move rfl n0WmA ?_
             refine n_fieldAddr rfl fd33_9 ti28 rfl n0WmA rfl n0WmA ?_
             refine n_fieldAddr rfl fd28_0 ti2 rfl n0WmA rfl n0WmA ?_
             refine n_load rfl ti2 n0WmA n0WmA rfl n0WmA ?_
             refine n_fieldAddr rfl fd33_9 ti28 rfl n0WmA rfl n0WmA ?_
             refine n_fieldAddr rfl fd28_1 ti2 rfl n0WmA rfl n0WmA ?_
             refine n_load rfl ti2 n0WmA n0WmA rfl n0WmA ?_
             refine n_fieldAddr rfl fd33_17 ti3 rfl n0WmA rfl n0WmA ?_
             refine n_load rfl ti3 n0WmA n0WmA rfl n0WmA ?_
             refine n_lit rfl Tryz.underlying24 ti2 zi2 rfl rfl e1WmA rfl n0WmA ?_
             refine n_call0B rfl cf13 rfl e1WmA r2WmA (c1) l3WmA ?_
             refine n_assign rfl n0WmA ?_
             refine AOps.nil ?_
             refine AWP.ret ?_
             refine fin_pure (.cons (rv_tmp n0WmA) .nil) n0WmA ?_
             exact ren_ints
           · try simp only [nh] at hc6
             refine AWP.sr ?_
             refine n_ibin rfl n0WmA n0WmA rfl ?_
             refine n_assign rfl n0WmA ?_
             refine AOps.nil ?_
             refine AWP.cond n0WmA (fun hc7 => ?_) (fun hc7 => ?_)
             · try simp only [nh] at hc7
               obtain ⟨i1, i2, i3⟩ := nums_14 (by omega) hf
               have c1 := p_intR b [a.ke, a.ki] (i6_cons i2 (i6_cons i3 i6_nil)) (by simp only [List.length_cons, List.length_nil]; omega)
               obtain ⟨y1, hy1⟩ : ∃ x, x = b ++ forms [a.ke, a.ki] := ⟨_, rfl⟩
               rw [← hy1] at c1
               have hl1 : y1.length ≤ 1020 := by { have e := forms_len' [a.ke, a.ki] (i6_cons i2 (i6_cons i3 i6_nil)); rw [hy1, List.length_append]; simp only [List.length_cons, List.length_nil] at e; (try simp only [List.length_nil]); omega }
               have hfin : y1 = b ++ restW a := by { rw [rest_14 (by omega), hy1]; simp only [forms, List.flatMap_cons, List.flatMap_nil, List.append_nil, List.nil_append, List.append_assoc] }
               rw [← hfin]
               refine AWP.sr ?_
               refine n_move rfl n0WmA ?_
               refine n_fieldAddr rfl fd33_9 ti28 rfl n0WmA rfl n0WmA ?_
               refine n_fieldAddr rfl fd28_0 ti2 rfl n0WmA rfl n0WmA ?_
               refine n_load rfl ti2 n0WmA n0WmA rfl n0WmA ?_
               refine n_fieldAddr rfl fd33_9 ti28 rfl n0WmA rfl n0WmA ?_
               refine n_fieldAddr rfl fd28_1 ti2 rfl n0WmA rfl n0WmA ?_
               refine n_load rfl ti2 n0WmA n0WmA rfl n0WmA ?_
               refine n_lit rfl Tryz.underlying24 ti2 zi2 rfl rfl e1WmA rfl n0WmA ?_
               refine n_call0B rfl cf13 rfl e1WmA r2WmA (c1) l3WmA ?_
               refine n_assign rfl n0WmA ?_
               refine AOps.nil ?_
               refine AWP.ret ?_
               refine fin_pure (.cons (rv_tmp n0WmA) .nil) n0WmA ?_
               exact ren_ints
             · try simp only [nh] at hc7
               have hfin : b = b ++ restW a := by { rw [rest_x (by omega), List.append_nil] }
               rw [← hfin]
               refine AWP.skip ?_
               refine AWP.sr ?_
               refine n_move rfl n0WmA ?_
               refine n_assign rfl n0WmA ?_
               refine AOps.nil ?_
               refine AWP.ret ?_
               refine fin_pure (.cons (rv_tmp n0WmA) .nil) n0WmA ?_
               exact ren_ints

set_option maxHeartbeats 4000000 in
theorem l_bytes (a : Wr) (ha : a.In) : Does Tryz.prog 6 [.agg (wz a)] [] (.tup [bys (bytW a).1, vi (bytW a).2]) [] := by
 refine Does.of_body (rvs := [.tmp 2, .tmp 3]) Tryz.func6 rfl rfl rfl rfl ?_
 refine AWP.sr ?_
 refine n_box rfl n0WmA rfl rfl n0WmA n0WmA ?_
 refine n_assign rfl n0WmA ?_
 refine n_assign rfl n0WmA ?_
 refine AOps.nil ?_
 refine AWP.seq ?_
 refine AWP.sr ?_
 refine n_load rfl ti33 n0WmA n0WmA rfl n0WmA ?_
 refine n_call0B rfl cf12 rfl e1WmA r2WmA (l_check a ha.toSz) l3WmA ?_
 refine n_assign rfl n0WmA ?_
 refine AOps.nil ?_
 refine AWP.sr ?_
 refine n_move rfl n0WmA ?_
 refine n_ibin rfl n0WmA n0WmA rfl ?_
 refine AOps.nil ?_
 refine AWP.cond n0WmA (fun hc1 => ?_) (fun hc1 => ?_)
 · try simp only [nh] at hc1
   have hr := bytW_no hc1
   rw [hr]
   refine AWP.sr ?_
   refine n_move rfl n0WmA ?_
   refine n_assign rfl n0WmA ?_
   refine n_assign rfl n0WmA ?_
   refine AOps.nil ?_
   refine AWP.ret ?_
   refine fin_pure (.cons (rv_tmp n0WmA) (.cons (rv_tmp n0WmA) .nil)) n0WmA ?_
   exact .tup rfl (ren_two (by first | exact ren_bys0 rfl | exact ren_ints) (ren_flat rfl rfl))
 · try simp only [nh] at hc1
   have hc : chkW a = 0 := by simpa using hc1
   have hkd := kd_in hc
   obtain ⟨k1, k2, hf⟩ := kI hc
   have d0 := p_intR [] [a.kd, a.rg] (i6_cons k1 (i6_cons k2 i6_nil)) (by simp only [List.length_cons, List.length_nil]; omega)
   obtain ⟨y1, hy1⟩ : ∃ x, x = [] ++ forms [a.kd, a.rg] := ⟨_, rfl⟩
   rw [← hy1] at d0
   have hl1 : y1.length ≤ 20 := by { have e := forms_len' [a.kd, a.rg] (i6_cons k1 (i6_cons k2 i6_nil)); rw [hy1, List.length_append]; simp only [List.length_cons, List.length_nil] at e; (try simp only [List.length_nil]); omega }
   refine AWP.skip ?_
   refine AWP.sr ?_
   refine n_fieldAddr rfl fd33_0 ti3 rfl n0WmA rfl n0WmA ?_
   refine n_load rfl ti3 n0WmA n0WmA rfl n0WmA ?_
   refine n_fieldAddr rfl fd33_1 ti3 rfl n0WmA rfl n0WmA ?_
   refine n_load rfl ti3 n0WmA n0WmA rfl n0WmA ?_
   refine n_lit rfl Tryz.underlying24 ti2 zi2 rfl rfl e1WmA rfl n0WmA ?_
   refine n_call0B rfl cf13 rfl e1WmA r2WmA (d0) l3WmA ?_
   refine n_assign rfl n0WmA ?_
   refine AOps.nil ?_
   refine AWP.seq ?_
   refine AWP.sr ?_
   refine n_fieldAddr rfl fd33_0 ti3 rfl n0WmA rfl n0WmA ?_
   refine n_load rfl ti3 n0WmA n0WmA rfl n0WmA ?_
   refine AOps.nil ?_
   refine AWP.block ?_
   refine AWP.seq ?_
   refine AWP.sr ?_
   refine n_ibin rfl n0WmA n0WmA rfl ?_
   refine n_assign rfl n0WmA ?_
   refine AOps.nil ?_
   refine AWP.cond n0WmA (fun hc2 => ?_) (fun hc2 => ?_)
   · try simp only [nh] at hc2
     have i1 := nums_0 (by omega) hf
     have d1 := p_intR y1 [a.rq] (i6_cons i1 i6_nil) (by simp only [List.length_cons, List.length_nil]; omega)
     obtain ⟨y2, hy2⟩ : ∃ x, x = y1 ++ forms [a.rq] := ⟨_, rfl⟩
     rw [← hy2] at d1
     have hl2 : y2.length ≤ 30 := by { have e := forms_len' [a.rq] (i6_cons i1 i6_nil); rw [hy2, List.length_append]; simp only [List.length_cons, List.length_nil] at e; (try simp only [List.length_nil]); omega }
     have hfin : y2 = msgC.put a := by { rw [put_0 (by omega), hy2, hy1]; simp only [forms, List.flatMap_cons, List.flatMap_nil, List.append_nil, List.nil_append, List.append_assoc] }
     refine AWP.skip ?_
     refine AWP.condT n0WmA (by simp [hc2]) ?_
     refine AWP.region ?_
     refine n_move rfl n0WmA ?_
     refine n_fieldAddr rfl fd33_2 ti2 rfl n0WmA rfl n0WmA ?_
     refine n_load rfl ti2 n0WmA n0WmA rfl n0WmA ?_
     refine n_lit rfl Tryz.underlying24 ti2 zi2 rfl rfl e1WmA rfl n0WmA ?_
     refine n_call0B rfl cf13 rfl e1WmA r2WmA (d1) l3WmA ?_
     refine n_assign rfl n0WmA ?_
     refine AOps.nil ?_
     refine AWP.seq ?_
     refine AWP.sr ?_
     refine n_move rfl n0WmA ?_
     refine n_len rfl Tryz.underlying31 n0WmA (by first | rw [ints_length] | rw [List.length_map] | rfl) ?_
     refine n_ibin rfl n0WmA n0WmA rfl ?_
     refine AOps.nil ?_
     refine AWP.cond n0WmA (fun hc4 => ?_) (fun hc4 => ?_)
     · try simp only [nh] at hc4
       have hr := bytW_long hc hfin hc4
       rw [hr]
       refine AWP.sr ?_
       refine n_assign rfl n0WmA ?_
       refine n_assign rfl n0WmA ?_
       refine AOps.nil ?_
       refine AWP.ret ?_
       refine fin_pure (.cons (rv_tmp n0WmA) (.cons (rv_tmp n0WmA) .nil)) n0WmA ?_
       exact .tup rfl (ren_two (by first | exact ren_bys0 rfl | exact ren_ints) (ren_flat rfl rfl))
     try simp only [nh] at hc4
     have hr := bytW_yes hc hfin hc4
     rw [hr]
     refine AWP.skip ?_
     refine AWP.sr ?_
     refine n_move rfl n0WmA ?_
     refine n_assign rfl n0WmA ?_
     refine n_assign rfl n0WmA ?_
     refine AOps.nil ?_
     refine AWP.ret ?_
     refine fin_pure (.cons (rv_tmp n0WmA) (.cons (rv_tmp n0WmA) .nil)) n0WmA ?_
     exact .tup rfl (ren_two (by first | exact ren_bys0 rfl | exact ren_ints) (ren_flat rfl rfl))
   · try simp only [nh] at hc2
     refine AWP.region ?_
     refine n_ibin rfl n0WmA n0WmA rfl ?_
     refine n_assign rfl n0WmA ?_
     refine AOps.nil ?_
     refine AWP.cond n0WmA (fun hc5 => ?_) (fun hc5 => ?_)
     · try simp only [nh] at hc5
       have i1 := nums_0 (by omega) hf
       have d1 := p_intR y1 [a.rq] (i6_cons i1 i6_nil) (by simp only [List.length_cons, List.length_nil]; omega)
       obtain ⟨y2, hy2⟩ : ∃ x, x = y1 ++ forms [a.rq] := ⟨_, rfl⟩
       rw [← hy2] at d1
       have hl2 : y2.length ≤ 30 := by { have e := forms_len' [a.rq] (i6_cons i1 i6_nil); rw [hy2, List.length_append]; simp only [List.length_cons, List.length_nil] at e; (try simp only [List.length_nil]); omega }
       have hfin : y2 = msgC.put a := by { rw [put_0 (by omega), hy2, hy1]; simp only [forms, List.flatMap_cons, List.flatMap_nil, List.append_nil, List.nil_append, List.append_assoc] }
       refine AWP.region ?_
       refine n_move rfl n0WmA ?_
       refine n_fieldAddr rfl fd33_2 ti2 rfl n0WmA rfl n0WmA ?_
       refine n_load rfl ti2 n0WmA n0WmA rfl n0WmA ?_
       refine n_lit rfl Tryz.underlying24 ti2 zi2 rfl rfl e1WmA rfl n0WmA ?_
       refine n_call0B rfl cf13 rfl e1WmA r2WmA (d1) l3WmA ?_
       refine n_assign rfl n0WmA ?_
       refine AOps.nil ?_
       refine AWP.seq ?_
       refine AWP.sr ?_
       refine n_move rfl n0WmA ?_
       refine n_len rfl Tryz.underlying31 n0WmA (by first | rw [ints_length] | rw [List.length_map] | rfl) ?_
       refine n_ibin rfl n0WmA n0WmA rfl ?_
       refine AOps.nil ?_
       refine AWP.cond n0WmA (fun hc6 => ?_) (fun hc6 => ?_)
       · try simp only [nh] at hc6
         have hr := bytW_long hc hfin hc6
         rw [hr]
         refine AWP.sr ?_
         refine n_assign rfl n0WmA ?_
         refine n_assign rfl n0WmA ?_
         refine AOps.nil ?_
         refine AWP.ret ?_
         refine fin_pure (.cons (rv_tmp n0WmA) (.cons (rv_tmp n0WmA) .nil)) n0WmA ?_
         exact .tup rfl (ren_two (by first | exact ren_bys0 rfl | exact ren_ints) (ren_flat rfl rfl))
       try simp only [nh] at hc6
       have hr := bytW_yes hc hfin hc6
       rw [hr]
       refine AWP.skip ?_
       refine AWP.sr ?_
       refine n_move rfl n0WmA ?_
       refine n_assign rfl n0WmA ?_
       refine n_assign rfl n0WmA ?_
       refine AOps.nil ?_
       refine AWP.ret ?_
       refine fin_pure (.cons (rv_tmp n0WmA) (.cons (rv_tmp n0WmA) .nil)) n0WmA ?_
       exact .tup rfl (ren_two (by first | exact ren_bys0 rfl | exact ren_ints) (ren_flat rfl rfl))
     · try simp only [nh] at hc5
       refine AWP.seq ?_
       refine AWP.sr ?_
       refine n_ibin rfl n0WmA n0WmA rfl ?_
       refine n_assign rfl n0WmA ?_
       refine AOps.nil ?_
       refine AWP.cond n0WmA (fun hc7 => ?_) (fun hc7 => ?_)
       · try simp only [nh] at hc7
         obtain ⟨i1, i2⟩ := nums_1 (by omega) hf
         have d1 := p_intR y1 [a.rq, a.ep] (i6_cons i1 (i6_cons i2 i6_nil)) (by simp only [List.length_cons, List.length_nil]; omega)
         obtain ⟨y2, hy2⟩ : ∃ x, x = y1 ++ forms [a.rq, a.ep] := ⟨_, rfl⟩
         rw [← hy2] at d1
         have hl2 : y2.length ≤ 40 := by { have e := forms_len' [a.rq, a.ep] (i6_cons i1 (i6_cons i2 i6_nil)); rw [hy2, List.length_append]; simp only [List.length_cons, List.length_nil] at e; (try simp only [List.length_nil]); omega }
         have hfin : y2 = msgC.put a := by { rw [put_1 (by omega), hy2, hy1]; simp only [forms, List.flatMap_cons, List.flatMap_nil, List.append_nil, List.nil_append, List.append_assoc] }
         refine AWP.skip ?_
         refine AWP.condT n0WmA (by simp [hc7]) ?_
         refine AWP.region ?_
         refine n_move rfl n0WmA ?_
         refine n_fieldAddr rfl fd33_2 ti2 rfl n0WmA rfl n0WmA ?_
         refine n_load rfl ti2 n0WmA n0WmA rfl n0WmA ?_
         refine n_fieldAddr rfl fd33_3 ti2 rfl n0WmA rfl n0WmA ?_
         refine n_load rfl ti2 n0WmA n0WmA rfl n0WmA ?_
         refine n_lit rfl Tryz.underlying24 ti2 zi2 rfl rfl e1WmA rfl n0WmA ?_
         refine n_call0B rfl cf13 rfl e1WmA r2WmA (d1) l3WmA ?_
         refine n_assign rfl n0WmA ?_
         refine AOps.nil ?_
         refine AWP.seq ?_
         refine AWP.sr ?_
         refine n_move rfl n0WmA ?_
         refine n_len rfl Tryz.underlying31 n0WmA (by first | rw [ints_length] | rw [List.length_map] | rfl) ?_
         refine n_ibin rfl n0WmA n0WmA rfl ?_
         refine AOps.nil ?_
         refine AWP.cond n0WmA (fun hc9 => ?_) (fun hc9 => ?_)
         · try simp only [nh] at hc9
           have hr := bytW_long hc hfin hc9
           rw [hr]
           refine AWP.sr ?_
           refine n_assign rfl n0WmA ?_
           refine n_assign rfl n0WmA ?_
           refine AOps.nil ?_
           refine AWP.ret ?_
           refine fin_pure (.cons (rv_tmp n0WmA) (.cons (rv_tmp n0WmA) .nil)) n0WmA ?_
           exact .tup rfl (ren_two (by first | exact ren_bys0 rfl | exact ren_ints) (ren_flat rfl rfl))
         try simp only [nh] at hc9
         have hr := bytW_yes hc hfin hc9
         rw [hr]
         refine AWP.skip ?_
         refine AWP.sr ?_
         refine n_move rfl n0WmA ?_
         refine n_assign rfl n0WmA ?_
         refine n_assign rfl n0WmA ?_
         refine AOps.nil ?_
         refine AWP.ret ?_
         refine fin_pure (.cons (rv_tmp n0WmA) (.cons (rv_tmp n0WmA) .nil)) n0WmA ?_
         exact .tup rfl (ren_two (by first | exact ren_bys0 rfl | exact ren_ints) (ren_flat rfl rfl))
       · try simp only [nh] at hc7
         refine AWP.sr ?_
         refine n_ibin rfl n0WmA n0WmA rfl ?_
         refine n_assign rfl n0WmA ?_
         refine AOps.nil ?_
         refine AWP.cond n0WmA (fun hc10 => ?_) (fun hc10 => ?_)
         · try simp only [nh] at hc10
           obtain ⟨i1, i2⟩ := nums_1 (by omega) hf
           have d1 := p_intR y1 [a.rq, a.ep] (i6_cons i1 (i6_cons i2 i6_nil)) (by simp only [List.length_cons, List.length_nil]; omega)
           obtain ⟨y2, hy2⟩ : ∃ x, x = y1 ++ forms [a.rq, a.ep] := ⟨_, rfl⟩
           rw [← hy2] at d1
           have hl2 : y2.length ≤ 40 := by { have e := forms_len' [a.rq, a.ep] (i6_cons i1 (i6_cons i2 i6_nil)); rw [hy2, List.length_append]; simp only [List.length_cons, List.length_nil] at e; (try simp only [List.length_nil]); omega }
           have hfin : y2 = msgC.put a := by { rw [put_1 (by omega), hy2, hy1]; simp only [forms, List.flatMap_cons, List.flatMap_nil, List.append_nil, List.nil_append, List.append_assoc] }
           refine AWP.skip ?_
           refine AWP.condT n0WmA (by simp [hc10]) ?_
           refine AWP.region ?_
           refine n_move rfl n0WmA ?_
           refine n_fieldAddr rfl fd33_2 ti2 rfl n0WmA rfl n0WmA ?_
           refine n_load rfl ti2 n0WmA n0WmA rfl n0WmA ?_
           refine n_fieldAddr rfl fd33_3 ti2 rfl n0WmA rfl n0WmA ?_
           refine n_load rfl ti2 n0WmA n0WmA rfl n0WmA ?_
           refine n_lit rfl Tryz.underlying24 ti2 zi2 rfl rfl e1WmA rfl n0WmA ?_
           refine n_call0B rfl cf13 rfl e1WmA r2WmA (d1) l3WmA ?_
           refine n_assign rfl n0WmA ?_
           refine AOps.nil ?_
           refine AWP.seq ?_
           refine AWP.sr ?_
           refine n_move rfl n0WmA ?_
           refine n_len rfl Tryz.underlying31 n0WmA (by first | rw [ints_length] | rw [List.length_map] | rfl) ?_
           refine n_ibin rfl n0WmA n0WmA rfl ?_
           refine AOps.nil ?_
           refine AWP.cond n0WmA (fun hc12 => ?_) (fun hc12 => ?_)
           · try simp only [nh] at hc12
             have hr := bytW_long hc hfin hc12
             rw [hr]
             refine AWP.sr ?_
             refine n_assign rfl n0WmA ?_
             refine n_assign rfl n0WmA ?_
             refine AOps.nil ?_
             refine AWP.ret ?_
             refine fin_pure (.cons (rv_tmp n0WmA) (.cons (rv_tmp n0WmA) .nil)) n0WmA ?_
             exact .tup rfl (ren_two (by first | exact ren_bys0 rfl | exact ren_ints) (ren_flat rfl rfl))
           try simp only [nh] at hc12
           have hr := bytW_yes hc hfin hc12
           rw [hr]
           refine AWP.skip ?_
           refine AWP.sr ?_
           refine n_move rfl n0WmA ?_
           refine n_assign rfl n0WmA ?_
           refine n_assign rfl n0WmA ?_
           refine AOps.nil ?_
           refine AWP.ret ?_
           refine fin_pure (.cons (rv_tmp n0WmA) (.cons (rv_tmp n0WmA) .nil)) n0WmA ?_
           exact .tup rfl (ren_two (by first | exact ren_bys0 rfl | exact ren_ints) (ren_flat rfl rfl))
         · try simp only [nh] at hc10
           refine AWP.region ?_
           refine n_ibin rfl n0WmA n0WmA rfl ?_
           refine n_assign rfl n0WmA ?_
           refine AOps.nil ?_
           refine AWP.cond n0WmA (fun hc13 => ?_) (fun hc13 => ?_)
           · try simp only [nh] at hc13
             obtain ⟨i1, i2⟩ := nums_1 (by omega) hf
             have d1 := p_intR y1 [a.rq, a.ep] (i6_cons i1 (i6_cons i2 i6_nil)) (by simp only [List.length_cons, List.length_nil]; omega)
             obtain ⟨y2, hy2⟩ : ∃ x, x = y1 ++ forms [a.rq, a.ep] := ⟨_, rfl⟩
             rw [← hy2] at d1
             have hl2 : y2.length ≤ 40 := by { have e := forms_len' [a.rq, a.ep] (i6_cons i1 (i6_cons i2 i6_nil)); rw [hy2, List.length_append]; simp only [List.length_cons, List.length_nil] at e; (try simp only [List.length_nil]); omega }
             have hfin : y2 = msgC.put a := by { rw [put_1 (by omega), hy2, hy1]; simp only [forms, List.flatMap_cons, List.flatMap_nil, List.append_nil, List.nil_append, List.append_assoc] }
             refine AWP.region ?_
             refine n_move rfl n0WmA ?_
             refine n_fieldAddr rfl fd33_2 ti2 rfl n0WmA rfl n0WmA ?_
             refine n_load rfl ti2 n0WmA n0WmA rfl n0WmA ?_
             refine n_fieldAddr rfl fd33_3 ti2 rfl n0WmA rfl n0WmA ?_
             refine n_load rfl ti2 n0WmA n0WmA rfl n0WmA ?_
             refine n_lit rfl Tryz.underlying24 ti2 zi2 rfl rfl e1WmA rfl n0WmA ?_
             refine n_call0B rfl cf13 rfl e1WmA r2WmA (d1) l3WmA ?_
             refine n_assign rfl n0WmA ?_
             refine AOps.nil ?_
             refine AWP.seq ?_
             refine AWP.sr ?_
             refine n_move rfl n0WmA ?_
             refine n_len rfl Tryz.underlying31 n0WmA (by first | rw [ints_length] | rw [List.length_map] | rfl) ?_
             refine n_ibin rfl n0WmA n0WmA rfl ?_
             refine AOps.nil ?_
             refine AWP.cond n0WmA (fun hc14 => ?_) (fun hc14 => ?_)
             · try simp only [nh] at hc14
               have hr := bytW_long hc hfin hc14
               rw [hr]
               refine AWP.sr ?_
               refine n_assign rfl n0WmA ?_
               refine n_assign rfl n0WmA ?_
               refine AOps.nil ?_
               refine AWP.ret ?_
               refine fin_pure (.cons (rv_tmp n0WmA) (.cons (rv_tmp n0WmA) .nil)) n0WmA ?_
               exact .tup rfl (ren_two (by first | exact ren_bys0 rfl | exact ren_ints) (ren_flat rfl rfl))
             try simp only [nh] at hc14
             have hr := bytW_yes hc hfin hc14
             rw [hr]
             refine AWP.skip ?_
             refine AWP.sr ?_
             refine n_move rfl n0WmA ?_
             refine n_assign rfl n0WmA ?_
             refine n_assign rfl n0WmA ?_
             refine AOps.nil ?_
             refine AWP.ret ?_
             refine fin_pure (.cons (rv_tmp n0WmA) (.cons (rv_tmp n0WmA) .nil)) n0WmA ?_
             exact .tup rfl (ren_two (by first | exact ren_bys0 rfl | exact ren_ints) (ren_flat rfl rfl))
           · try simp only [nh] at hc13
             refine AWP.sr ?_
             refine n_ibin rfl n0WmA n0WmA rfl ?_
             refine n_assign rfl n0WmA ?_
             refine AOps.nil ?_
             refine AWP.cond n0WmA (fun hc15 => ?_) (fun hc15 => ?_)
             · try simp only [nh] at hc15
               obtain ⟨i1, i2, i3⟩ := nums_2 (by omega) hf
               have d1 := p_intR y1 [a.rq, a.ep, a.to] (i6_cons i1 (i6_cons i2 (i6_cons i3 i6_nil))) (by simp only [List.length_cons, List.length_nil]; omega)
               obtain ⟨y2, hy2⟩ : ∃ x, x = y1 ++ forms [a.rq, a.ep, a.to] := ⟨_, rfl⟩
               rw [← hy2] at d1
               have hl2 : y2.length ≤ 50 := by { have e := forms_len' [a.rq, a.ep, a.to] (i6_cons i1 (i6_cons i2 (i6_cons i3 i6_nil))); rw [hy2, List.length_append]; simp only [List.length_cons, List.length_nil] at e; (try simp only [List.length_nil]); omega }
               have hfin : y2 = msgC.put a := by { rw [put_2 (by omega), hy2, hy1]; simp only [forms, List.flatMap_cons, List.flatMap_nil, List.append_nil, List.nil_append, List.append_assoc] }
               refine AWP.region ?_
               refine n_move rfl n0WmA ?_
               refine n_fieldAddr rfl fd33_2 ti2 rfl n0WmA rfl n0WmA ?_
               refine n_load rfl ti2 n0WmA n0WmA rfl n0WmA ?_
               refine n_fieldAddr rfl fd33_3 ti2 rfl n0WmA rfl n0WmA ?_
               refine n_load rfl ti2 n0WmA n0WmA rfl n0WmA ?_
               refine n_fieldAddr rfl fd33_4 ti3 rfl n0WmA rfl n0WmA ?_
               refine n_load rfl ti3 n0WmA n0WmA rfl n0WmA ?_
               refine n_lit rfl Tryz.underlying24 ti2 zi2 rfl rfl e1WmA rfl n0WmA ?_
               refine n_call0B rfl cf13 rfl e1WmA r2WmA (d1) l3WmA ?_
               refine n_assign rfl n0WmA ?_
               refine AOps.nil ?_
               refine AWP.seq ?_
               refine AWP.sr ?_
               refine n_move rfl n0WmA ?_
               refine n_len rfl Tryz.underlying31 n0WmA (by first | rw [ints_length] | rw [List.length_map] | rfl) ?_
               refine n_ibin rfl n0WmA n0WmA rfl ?_
               refine AOps.nil ?_
               refine AWP.cond n0WmA (fun hc16 => ?_) (fun hc16 => ?_)
               · try simp only [nh] at hc16
                 have hr := bytW_long hc hfin hc16
                 rw [hr]
                 refine AWP.sr ?_
                 refine n_assign rfl n0WmA ?_
                 refine n_assign rfl n0WmA ?_
                 refine AOps.nil ?_
                 refine AWP.ret ?_
                 refine fin_pure (.cons (rv_tmp n0WmA) (.cons (rv_tmp n0WmA) .nil)) n0WmA ?_
                 exact .tup rfl (ren_two (by first | exact ren_bys0 rfl | exact ren_ints) (ren_flat rfl rfl))
               try simp only [nh] at hc16
               have hr := bytW_yes hc hfin hc16
               rw [hr]
               refine AWP.skip ?_
               refine AWP.sr ?_
               refine n_move rfl n0WmA ?_
               refine n_assign rfl n0WmA ?_
               refine n_assign rfl n0WmA ?_
               refine AOps.nil ?_
               refine AWP.ret ?_
               refine fin_pure (.cons (rv_tmp n0WmA) (.cons (rv_tmp n0WmA) .nil)) n0WmA ?_
               exact .tup rfl (ren_two (by first | exact ren_bys0 rfl | exact ren_ints) (ren_flat rfl rfl))
             · try simp only [nh] at hc15
               refine AWP.sr ?_
               refine n_ibin rfl n0WmA n0WmA rfl ?_
               refine n_assign rfl n0WmA ?_
               refine AOps.nil ?_
               refine AWP.cond n0WmA (fun hc17 => ?_) (fun hc17 => ?_)
               · try simp only [nh] at hc17
                 obtain ⟨i1, i2⟩ := nums_3 (by omega) hf
                 have d1 := p_intR y1 [a.rq, a.ep, (if a.fl then 1 else 0)] (i6_cons i1 (i6_cons i2 (i6_cons (fI a.fl) i6_nil))) (by simp only [List.length_cons, List.length_nil]; omega)
                 obtain ⟨y2, hy2⟩ : ∃ x, x = y1 ++ forms [a.rq, a.ep, (if a.fl then 1 else 0)] := ⟨_, rfl⟩
                 rw [← hy2] at d1
                 have hl2 : y2.length ≤ 50 := by { have e := forms_len' [a.rq, a.ep, (if a.fl then 1 else 0)] (i6_cons i1 (i6_cons i2 (i6_cons (fI a.fl) i6_nil))); rw [hy2, List.length_append]; simp only [List.length_cons, List.length_nil] at e; (try simp only [List.length_nil]); omega }
                 have hfin : y2 = msgC.put a := by { rw [put_3 (by omega), hy2, hy1]; simp only [forms, List.flatMap_cons, List.flatMap_nil, List.append_nil, List.nil_append, List.append_assoc] }
                 refine AWP.anyStill (by kernel_rfl) (by kernel_rfl) ?_
                 refine Walk.still (rs := [5]) (by rfl) n0WmA (fun base => by
                  refine n_move rfl n0WmA ?_
                  exact AOps.nil ⟨rfl, rfl, rfl⟩) ?_
                 refine Walk.still (rs := [1]) (by rfl) n0WmA (fun base => by
                  refine n_fieldAddr rfl fd33_2 ti2 rfl n0WmA rfl n0WmA ?_
                  exact AOps.nil ⟨rfl, rfl, rfl⟩) ?_
                 refine Walk.still (rs := [59]) (by rfl) n0WmA (fun base => by
                  refine n_load rfl ti2 n0WmA n0WmA rfl n0WmA ?_
                  exact AOps.nil ⟨rfl, rfl, rfl⟩) ?_
                 refine Walk.still (rs := [1]) (by rfl) n0WmA (fun base => by
                  refine n_fieldAddr rfl fd33_3 ti2 rfl n0WmA rfl n0WmA ?_
                  exact AOps.nil ⟨rfl, rfl, rfl⟩) ?_
                 refine Walk.still (rs := [61]) (by rfl) n0WmA (fun base => by
                  refine n_load rfl ti2 n0WmA n0WmA rfl n0WmA ?_
                  exact AOps.nil ⟨rfl, rfl, rfl⟩) ?_
                 refine Walk.still (rs := [1]) (by rfl) n0WmA (fun base => by
                  refine n_fieldAddr rfl fd33_6 ti4 rfl n0WmA rfl n0WmA ?_
                  exact AOps.nil ⟨rfl, rfl, rfl⟩) ?_
                 refine Walk.still (rs := [63]) (by rfl) n0WmA (fun base => by
                  refine n_load rfl ti4 n0WmA n0WmA rfl n0WmA ?_
                  exact AOps.nil ⟨rfl, rfl, rfl⟩) ?_
                 refine Walk.still (rs := [64]) (by rfl) n0WmA (fun base => by
                  refine n_call0B rfl cf14 rfl e1WmA r2WmA (l_flag a.fl) l3WmA ?_
                  exact AOps.nil ⟨rfl, rfl, rfl⟩) ?_
                 refine Walk.still (rs := [60, 62, 65]) (by rfl) n0WmA (fun base => by
                  refine n_lit rfl Tryz.underlying24 ti2 zi2 rfl rfl e1WmA rfl n0WmA ?_
                  exact AOps.nil ⟨rfl, rfl, rfl⟩) ?_
                 refine Walk.still (rs := [58, 66]) (by rfl) n0WmA (fun base => by
                  refine n_call0B rfl cf13 rfl e1WmA r2WmA (d1) l3WmA ?_
                  exact AOps.nil ⟨rfl, rfl, rfl⟩) ?_
                 refine Walk.still (rs := [67]) (by rfl) n0WmA (fun base => by
                  refine n_assign rfl n0WmA ?_
                  exact AOps.nil ⟨rfl, rfl, rfl⟩) ?_
                 refine Walk.done ?_
                 refine AWP.seq ?_
                 refine AWP.sr ?_
                 refine n_move rfl n0WmA ?_
                 refine n_len rfl Tryz.underlying31 n0WmA (by first | rw [ints_length] | rw [List.length_map] | rfl) ?_
                 refine n_ibin rfl n0WmA n0WmA rfl ?_
                 refine AOps.nil ?_
                 refine AWP.cond n0WmA (fun hc18 => ?_) (fun hc18 => ?_)
                 · try simp only [nh] at hc18
                   have hr := bytW_long hc hfin hc18
                   rw [hr]
                   refine AWP.sr ?_
                   refine n_assign rfl n0WmA ?_
                   refine n_assign rfl n0WmA ?_
                   refine AOps.nil ?_
                   refine AWP.ret ?_
                   refine fin_pure (.cons (rv_tmp n0WmA) (.cons (rv_tmp n0WmA) .nil)) n0WmA ?_
                   exact .tup rfl (ren_two (by first | exact ren_bys0 rfl | exact ren_ints) (ren_flat rfl rfl))
                 try simp only [nh] at hc18
                 have hr := bytW_yes hc hfin hc18
                 rw [hr]
                 refine AWP.skip ?_
                 refine AWP.sr ?_
                 refine n_move rfl n0WmA ?_
                 refine n_assign rfl n0WmA ?_
                 refine n_assign rfl n0WmA ?_
                 refine AOps.nil ?_
                 refine AWP.ret ?_
                 refine fin_pure (.cons (rv_tmp n0WmA) (.cons (rv_tmp n0WmA) .nil)) n0WmA ?_
                 exact .tup rfl (ren_two (by first | exact ren_bys0 rfl | exact ren_ints) (ren_flat rfl rfl))
               · try simp only [nh] at hc17
                 refine AWP.sr ?_
                 refine n_ibin rfl n0WmA n0WmA rfl ?_
                 refine n_assign rfl n0WmA ?_
                 refine AOps.nil ?_
                 refine AWP.cond n0WmA (fun hc19 => ?_) (fun hc19 => ?_)
                 · try simp only [nh] at hc19
                   obtain ⟨i1, i2, i3, i4⟩ := nums_4 (by omega) hf
                   have d1 := p_intR y1 [a.rq, a.dd, a.ep, (if a.fl then 1 else 0), a.er] (i6_cons i1 (i6_cons i2 (i6_cons i3 (i6_cons (fI a.fl) (i6_cons i4 i6_nil))))) (by simp only [List.length_cons, List.length_nil]; omega)
                   obtain ⟨y2, hy2⟩ : ∃ x, x = y1 ++ forms [a.rq, a.dd, a.ep, (if a.fl then 1 else 0), a.er] := ⟨_, rfl⟩
                   rw [← hy2] at d1
                   have hl2 : y2.length ≤ 70 := by { have e := forms_len' [a.rq, a.dd, a.ep, (if a.fl then 1 else 0), a.er] (i6_cons i1 (i6_cons i2 (i6_cons i3 (i6_cons (fI a.fl) (i6_cons i4 i6_nil))))); rw [hy2, List.length_append]; simp only [List.length_cons, List.length_nil] at e; (try simp only [List.length_nil]); omega }
                   have hfin : y2 = msgC.put a := by { rw [put_4 (by omega), hy2, hy1]; simp only [forms, List.flatMap_cons, List.flatMap_nil, List.append_nil, List.nil_append, List.append_assoc] }
                   refine AWP.anyStill (by kernel_rfl) (by kernel_rfl) ?_
                   refine Walk.still (rs := [5]) (by rfl) n0WmA (fun base => by
                    refine n_move rfl n0WmA ?_
                    exact AOps.nil ⟨rfl, rfl, rfl⟩) ?_
                   refine Walk.still (rs := [1]) (by rfl) n0WmA (fun base => by
                    refine n_fieldAddr rfl fd33_2 ti2 rfl n0WmA rfl n0WmA ?_
                    exact AOps.nil ⟨rfl, rfl, rfl⟩) ?_
                   refine Walk.still (rs := [71]) (by rfl) n0WmA (fun base => by
                    refine n_load rfl ti2 n0WmA n0WmA rfl n0WmA ?_
                    exact AOps.nil ⟨rfl, rfl, rfl⟩) ?_
                   refine Walk.still (rs := [1]) (by rfl) n0WmA (fun base => by
                    refine n_fieldAddr rfl fd33_5 ti3 rfl n0WmA rfl n0WmA ?_
                    exact AOps.nil ⟨rfl, rfl, rfl⟩) ?_
                   refine Walk.still (rs := [73]) (by rfl) n0WmA (fun base => by
                    refine n_load rfl ti3 n0WmA n0WmA rfl n0WmA ?_
                    exact AOps.nil ⟨rfl, rfl, rfl⟩) ?_
                   refine Walk.still (rs := [1]) (by rfl) n0WmA (fun base => by
                    refine n_fieldAddr rfl fd33_3 ti2 rfl n0WmA rfl n0WmA ?_
                    exact AOps.nil ⟨rfl, rfl, rfl⟩) ?_
                   refine Walk.still (rs := [75]) (by rfl) n0WmA (fun base => by
                    refine n_load rfl ti2 n0WmA n0WmA rfl n0WmA ?_
                    exact AOps.nil ⟨rfl, rfl, rfl⟩) ?_
                   refine Walk.still (rs := [1]) (by rfl) n0WmA (fun base => by
                    refine n_fieldAddr rfl fd33_6 ti4 rfl n0WmA rfl n0WmA ?_
                    exact AOps.nil ⟨rfl, rfl, rfl⟩) ?_
                   refine Walk.still (rs := [77]) (by rfl) n0WmA (fun base => by
                    refine n_load rfl ti4 n0WmA n0WmA rfl n0WmA ?_
                    exact AOps.nil ⟨rfl, rfl, rfl⟩) ?_
                   refine Walk.still (rs := [78]) (by rfl) n0WmA (fun base => by
                    refine n_call0B rfl cf14 rfl e1WmA r2WmA (l_flag a.fl) l3WmA ?_
                    exact AOps.nil ⟨rfl, rfl, rfl⟩) ?_
                   refine Walk.still (rs := [1]) (by rfl) n0WmA (fun base => by
                    refine n_fieldAddr rfl fd33_7 ti22 rfl n0WmA rfl n0WmA ?_
                    exact AOps.nil ⟨rfl, rfl, rfl⟩) ?_
                   refine Walk.still (rs := [80]) (by rfl) n0WmA (fun base => by
                    refine n_load rfl ti22 n0WmA n0WmA rfl n0WmA ?_
                    exact AOps.nil ⟨rfl, rfl, rfl⟩) ?_
                   refine Walk.still (rs := [72, 74, 76, 79, 81]) (by rfl) n0WmA (fun base => by
                    refine n_lit rfl Tryz.underlying24 ti2 zi2 rfl rfl e1WmA rfl n0WmA ?_
                    exact AOps.nil ⟨rfl, rfl, rfl⟩) ?_
                   refine Walk.still (rs := [70, 82]) (by rfl) n0WmA (fun base => by
                    refine n_call0B rfl cf13 rfl e1WmA r2WmA (d1) l3WmA ?_
                    exact AOps.nil ⟨rfl, rfl, rfl⟩) ?_
                   refine Walk.still (rs := [83]) (by rfl) n0WmA (fun base => by
                    refine n_assign rfl n0WmA ?_
                    exact AOps.nil ⟨rfl, rfl, rfl⟩) ?_
                   refine Walk.done ?_
                   refine AWP.seq ?_
                   refine AWP.sr ?_
                   refine n_move rfl n0WmA ?_
                   refine n_len rfl Tryz.underlying31 n0WmA (by first | rw [ints_length] | rw [List.length_map] | rfl) ?_
                   refine n_ibin rfl n0WmA n0WmA rfl ?_
                   refine AOps.nil ?_
                   refine AWP.cond n0WmA (fun hc20 => ?_) (fun hc20 => ?_)
                   · try simp only [nh] at hc20
                     have hr := bytW_long hc hfin hc20
                     rw [hr]
                     refine AWP.sr ?_
                     refine n_assign rfl n0WmA ?_
                     refine n_assign rfl n0WmA ?_
                     refine AOps.nil ?_
                     refine AWP.ret ?_
                     refine fin_pure (.cons (rv_tmp n0WmA) (.cons (rv_tmp n0WmA) .nil)) n0WmA ?_
                     exact .tup rfl (ren_two (by first | exact ren_bys0 rfl | exact ren_ints) (ren_flat rfl rfl))
                   try simp only [nh] at hc20
                   have hr := bytW_yes hc hfin hc20
                   rw [hr]
                   refine AWP.skip ?_
                   refine AWP.sr ?_
                   refine n_move rfl n0WmA ?_
                   refine n_assign rfl n0WmA ?_
                   refine n_assign rfl n0WmA ?_
                   refine AOps.nil ?_
                   refine AWP.ret ?_
                   refine fin_pure (.cons (rv_tmp n0WmA) (.cons (rv_tmp n0WmA) .nil)) n0WmA ?_
                   exact .tup rfl (ren_two (by first | exact ren_bys0 rfl | exact ren_ints) (ren_flat rfl rfl))
                 · try simp only [nh] at hc19
                   refine AWP.sr ?_
                   refine n_ibin rfl n0WmA n0WmA rfl ?_
                   refine n_assign rfl n0WmA ?_
                   refine AOps.nil ?_
                   refine AWP.cond n0WmA (fun hc21 => ?_) (fun hc21 => ?_)
                   · try simp only [nh] at hc21
                     obtain ⟨i1, ⟨t1, t2⟩⟩ := nums_5 (by omega) hf
                     have d1 := p_intR y1 [a.rq] (i6_cons i1 i6_nil) (by simp only [List.length_cons, List.length_nil]; omega)
                     obtain ⟨y2, hy2⟩ : ∃ x, x = y1 ++ forms [a.rq] := ⟨_, rfl⟩
                     rw [← hy2] at d1
                     have hl2 : y2.length ≤ 30 := by { have e := forms_len' [a.rq] (i6_cons i1 i6_nil); rw [hy2, List.length_append]; simp only [List.length_cons, List.length_nil] at e; (try simp only [List.length_nil]); omega }
                     have d2 := p_strR y2 (txI.put a.tx) (by omega) (txI_l40 t1 ha.rI t2 ha.r ha.v)
                     obtain ⟨y3, hy3⟩ : ∃ x, x = y2 ++ (form (((txI.put a.tx).length : Nat) : Int) ++ txI.put a.tx) := ⟨_, rfl⟩
                     rw [← hy3] at d2
                     have hfin : y3 = msgC.put a := by { rw [put_5 (by omega), hy3, hy2, hy1]; simp only [forms, List.flatMap_cons, List.flatMap_nil, List.append_nil, List.nil_append, List.append_assoc] }
                     refine AWP.anyStill (by kernel_rfl) (by kernel_rfl) ?_
                     refine Walk.still (rs := [5]) (by rfl) n0WmA (fun base => by
                      refine n_move rfl n0WmA ?_
                      exact AOps.nil ⟨rfl, rfl, rfl⟩) ?_
                     refine Walk.still (rs := [1]) (by rfl) n0WmA (fun base => by
                      refine n_fieldAddr rfl fd33_2 ti2 rfl n0WmA rfl n0WmA ?_
                      exact AOps.nil ⟨rfl, rfl, rfl⟩) ?_
                     refine Walk.still (rs := [87]) (by rfl) n0WmA (fun base => by
                      refine n_load rfl ti2 n0WmA n0WmA rfl n0WmA ?_
                      exact AOps.nil ⟨rfl, rfl, rfl⟩) ?_
                     refine Walk.still (rs := [88]) (by rfl) n0WmA (fun base => by
                      refine n_lit rfl Tryz.underlying24 ti2 zi2 rfl rfl e1WmA rfl n0WmA ?_
                      exact AOps.nil ⟨rfl, rfl, rfl⟩) ?_
                     refine Walk.still (rs := [86, 89]) (by rfl) n0WmA (fun base => by
                      refine n_call0B rfl cf13 rfl e1WmA r2WmA (d1) l3WmA ?_
                      exact AOps.nil ⟨rfl, rfl, rfl⟩) ?_
                     refine Walk.still (rs := [1]) (by rfl) n0WmA (fun base => by
                      refine n_fieldAddr rfl fd33_8 ti26 rfl n0WmA rfl n0WmA ?_
                      exact AOps.nil ⟨rfl, rfl, rfl⟩) ?_
                     refine Walk.still (rs := [91]) (by rfl) n0WmA (fun base => by
                      refine n_load rfl ti26 n0WmA n0WmA rfl n0WmA ?_
                      exact AOps.nil ⟨rfl, rfl, rfl⟩) ?_
                     refine Walk.still (rs := [92]) (by rfl) n0WmA (fun base => by
                      refine n_call0B rfl cf16 rfl e1WmA r2WmA (txnBytes a.tx t1 ha.rI t2 ha.r ha.v) l3WmA ?_
                      exact AOps.nil ⟨rfl, rfl, rfl⟩) ?_
                     refine Walk.still (rs := [90, 93]) (by rfl) n0WmA (fun base => by
                      refine n_call0B rfl cf15 rfl e1WmA r2WmA (d2) l3WmA ?_
                      exact AOps.nil ⟨rfl, rfl, rfl⟩) ?_
                     refine Walk.still (rs := [94]) (by rfl) n0WmA (fun base => by
                      refine n_assign rfl n0WmA ?_
                      exact AOps.nil ⟨rfl, rfl, rfl⟩) ?_
                     refine Walk.done ?_
                     refine AWP.seq ?_
                     refine AWP.sr ?_
                     refine n_move rfl n0WmA ?_
                     refine n_len rfl Tryz.underlying31 n0WmA (by first | rw [ints_length] | rw [List.length_map] | rfl) ?_
                     refine n_ibin rfl n0WmA n0WmA rfl ?_
                     refine AOps.nil ?_
                     refine AWP.cond n0WmA (fun hc22 => ?_) (fun hc22 => ?_)
                     · try simp only [nh] at hc22
                       have hr := bytW_long hc hfin hc22
                       rw [hr]
                       refine AWP.sr ?_
                       refine n_assign rfl n0WmA ?_
                       refine n_assign rfl n0WmA ?_
                       refine AOps.nil ?_
                       refine AWP.ret ?_
                       refine fin_pure (.cons (rv_tmp n0WmA) (.cons (rv_tmp n0WmA) .nil)) n0WmA ?_
                       exact .tup rfl (ren_two (by first | exact ren_bys0 rfl | exact ren_ints) (ren_flat rfl rfl))
                     try simp only [nh] at hc22
                     have hr := bytW_yes hc hfin hc22
                     rw [hr]
                     refine AWP.skip ?_
                     refine AWP.sr ?_
                     refine n_move rfl n0WmA ?_
                     refine n_assign rfl n0WmA ?_
                     refine n_assign rfl n0WmA ?_
                     refine AOps.nil ?_
                     refine AWP.ret ?_
                     refine fin_pure (.cons (rv_tmp n0WmA) (.cons (rv_tmp n0WmA) .nil)) n0WmA ?_
                     exact .tup rfl (ren_two (by first | exact ren_bys0 rfl | exact ren_ints) (ren_flat rfl rfl))
                   · try simp only [nh] at hc21
                     refine AWP.seq ?_
                     refine AWP.sr ?_
                     refine n_ibin rfl n0WmA n0WmA rfl ?_
                     refine n_assign rfl n0WmA ?_
                     refine AOps.nil ?_
                     refine AWP.cond n0WmA (fun hc23 => ?_) (fun hc23 => ?_)
                     · try simp only [nh] at hc23
                       obtain ⟨i1, i2, i3⟩ := nums_6 (by omega) hf
                       have d1 := p_intR y1 [a.rq, a.ke, a.ki] (i6_cons i1 (i6_cons i2 (i6_cons i3 i6_nil))) (by simp only [List.length_cons, List.length_nil]; omega)
                       obtain ⟨y2, hy2⟩ : ∃ x, x = y1 ++ forms [a.rq, a.ke, a.ki] := ⟨_, rfl⟩
                       rw [← hy2] at d1
                       have hl2 : y2.length ≤ 50 := by { have e := forms_len' [a.rq, a.ke, a.ki] (i6_cons i1 (i6_cons i2 (i6_cons i3 i6_nil))); rw [hy2, List.length_append]; simp only [List.length_cons, List.length_nil] at e; (try simp only [List.length_nil]); omega }
                       have hfin : y2 = msgC.put a := by { rw [put_6 (by omega), hy2, hy1]; simp only [forms, List.flatMap_cons, List.flatMap_nil, List.append_nil, List.nil_append, List.append_assoc] }
                       refine AWP.skip ?_
                       refine AWP.condT n0WmA (by simp [hc23]) ?_
                       refine AWP.region ?_
                       refine n_move rfl n0WmA ?_
                       refine n_fieldAddr rfl fd33_2 ti2 rfl n0WmA rfl n0WmA ?_
                       refine n_load rfl ti2 n0WmA n0WmA rfl n0WmA ?_
                       refine n_fieldAddr rfl fd33_9 ti28 rfl n0WmA rfl n0WmA ?_
                       refine n_fieldAddr rfl fd28_0 ti2 rfl n0WmA rfl n0WmA ?_
                       refine n_load rfl ti2 n0WmA n0WmA rfl n0WmA ?_
                       refine n_fieldAddr rfl fd33_9 ti28 rfl n0WmA rfl n0WmA ?_
                       refine n_fieldAddr rfl fd28_1 ti2 rfl n0WmA rfl n0WmA ?_
                       refine n_load rfl ti2 n0WmA n0WmA rfl n0WmA ?_
                       refine n_lit rfl Tryz.underlying24 ti2 zi2 rfl rfl e1WmA rfl n0WmA ?_
                       refine n_call0B rfl cf13 rfl e1WmA r2WmA (d1) l3WmA ?_
                       refine n_assign rfl n0WmA ?_
                       refine AOps.nil ?_
                       refine AWP.seq ?_
                       refine AWP.sr ?_
                       refine n_move rfl n0WmA ?_
                       refine n_len rfl Tryz.underlying31 n0WmA (by first | rw [ints_length] | rw [List.length_map] | rfl) ?_
                       refine n_ibin rfl n0WmA n0WmA rfl ?_
                       refine AOps.nil ?_
                       refine AWP.cond n0WmA (fun hc25 => ?_) (fun hc25 => ?_)
                       · try simp only [nh] at hc25
                         have hr := bytW_long hc hfin hc25
                         rw [hr]
                         refine AWP.sr ?_
                         refine n_assign rfl n0WmA ?_
                         refine n_assign rfl n0WmA ?_
                         refine AOps.nil ?_
                         refine AWP.ret ?_
                         refine fin_pure (.cons (rv_tmp n0WmA) (.cons (rv_tmp n0WmA) .nil)) n0WmA ?_
                         exact .tup rfl (ren_two (by first | exact ren_bys0 rfl | exact ren_ints) (ren_flat rfl rfl))
                       try simp only [nh] at hc25
                       have hr := bytW_yes hc hfin hc25
                       rw [hr]
                       refine AWP.skip ?_
                       refine AWP.sr ?_
                       refine n_move rfl n0WmA ?_
                       refine n_assign rfl n0WmA ?_
                       refine n_assign rfl n0WmA ?_
                       refine AOps.nil ?_
                       refine AWP.ret ?_
                       refine fin_pure (.cons (rv_tmp n0WmA) (.cons (rv_tmp n0WmA) .nil)) n0WmA ?_
                       exact .tup rfl (ren_two (by first | exact ren_bys0 rfl | exact ren_ints) (ren_flat rfl rfl))
                     · try simp only [nh] at hc23
                       refine AWP.region ?_
                       refine n_ibin rfl n0WmA n0WmA rfl ?_
                       refine n_assign rfl n0WmA ?_
                       refine AOps.nil ?_
                       refine AWP.cond n0WmA (fun hc26 => ?_) (fun hc26 => ?_)
                       · try simp only [nh] at hc26
                         obtain ⟨i1, i2, i3⟩ := nums_6 (by omega) hf
                         have d1 := p_intR y1 [a.rq, a.ke, a.ki] (i6_cons i1 (i6_cons i2 (i6_cons i3 i6_nil))) (by simp only [List.length_cons, List.length_nil]; omega)
                         obtain ⟨y2, hy2⟩ : ∃ x, x = y1 ++ forms [a.rq, a.ke, a.ki] := ⟨_, rfl⟩
                         rw [← hy2] at d1
                         have hl2 : y2.length ≤ 50 := by { have e := forms_len' [a.rq, a.ke, a.ki] (i6_cons i1 (i6_cons i2 (i6_cons i3 i6_nil))); rw [hy2, List.length_append]; simp only [List.length_cons, List.length_nil] at e; (try simp only [List.length_nil]); omega }
                         have hfin : y2 = msgC.put a := by { rw [put_6 (by omega), hy2, hy1]; simp only [forms, List.flatMap_cons, List.flatMap_nil, List.append_nil, List.nil_append, List.append_assoc] }
                         refine AWP.region ?_
                         refine n_move rfl n0WmA ?_
                         refine n_fieldAddr rfl fd33_2 ti2 rfl n0WmA rfl n0WmA ?_
                         refine n_load rfl ti2 n0WmA n0WmA rfl n0WmA ?_
                         refine n_fieldAddr rfl fd33_9 ti28 rfl n0WmA rfl n0WmA ?_
                         refine n_fieldAddr rfl fd28_0 ti2 rfl n0WmA rfl n0WmA ?_
                         refine n_load rfl ti2 n0WmA n0WmA rfl n0WmA ?_
                         refine n_fieldAddr rfl fd33_9 ti28 rfl n0WmA rfl n0WmA ?_
                         refine n_fieldAddr rfl fd28_1 ti2 rfl n0WmA rfl n0WmA ?_
                         refine n_load rfl ti2 n0WmA n0WmA rfl n0WmA ?_
                         refine n_lit rfl Tryz.underlying24 ti2 zi2 rfl rfl e1WmA rfl n0WmA ?_
                         refine n_call0B rfl cf13 rfl e1WmA r2WmA (d1) l3WmA ?_
                         refine n_assign rfl n0WmA ?_
                         refine AOps.nil ?_
                         refine AWP.seq ?_
                         refine AWP.sr ?_
                         refine n_move rfl n0WmA ?_
                         refine n_len rfl Tryz.underlying31 n0WmA (by first | rw [ints_length] | rw [List.length_map] | rfl) ?_
                         refine n_ibin rfl n0WmA n0WmA rfl ?_
                         refine AOps.nil ?_
                         refine AWP.cond n0WmA (fun hc27 => ?_) (fun hc27 => ?_)
                         · try simp only [nh] at hc27
                           have hr := bytW_long hc hfin hc27
                           rw [hr]
                           refine AWP.sr ?_
                           refine n_assign rfl n0WmA ?_
                           refine n_assign rfl n0WmA ?_
                           refine AOps.nil ?_
                           refine AWP.ret ?_
                           refine fin_pure (.cons (rv_tmp n0WmA) (.cons (rv_tmp n0WmA) .nil)) n0WmA ?_
                           exact .tup rfl (ren_two (by first | exact ren_bys0 rfl | exact ren_ints) (ren_flat rfl rfl))
                         try simp only [nh] at hc27
                         have hr := bytW_yes hc hfin hc27
                         rw [hr]
                         refine AWP.skip ?_
                         refine AWP.sr ?_
                         refine n_move rfl n0WmA ?_
                         refine n_assign rfl n0WmA ?_
                         refine n_assign rfl n0WmA ?_
                         refine AOps.nil ?_
                         refine AWP.ret ?_
                         refine fin_pure (.cons (rv_tmp n0WmA) (.cons (rv_tmp n0WmA) .nil)) n0WmA ?_
                         exact .tup rfl (ren_two (by first | exact ren_bys0 rfl | exact ren_ints) (ren_flat rfl rfl))
                       · try simp only [nh] at hc26
                         refine AWP.sr ?_
                         refine n_ibin rfl n0WmA n0WmA rfl ?_
                         refine n_assign rfl n0WmA ?_
                         refine AOps.nil ?_
                         refine AWP.cond n0WmA (fun hc28 => ?_) (fun hc28 => ?_)
                         · try simp only [nh] at hc28
                           obtain ⟨i1, i2, i3, i4, i5, i6, iv, i7⟩ := nums_7 (by omega) hf
                           have d1 := p_intR y1 [a.rq, a.dd, a.ke, a.ki, a.ep, a.ln] (i6_cons i1 (i6_cons i2 (i6_cons i3 (i6_cons i4 (i6_cons i5 (i6_cons i6 i6_nil)))))) (by simp only [List.length_cons, List.length_nil]; omega)
                           obtain ⟨y2, hy2⟩ : ∃ x, x = y1 ++ forms [a.rq, a.dd, a.ke, a.ki, a.ep, a.ln] := ⟨_, rfl⟩
                           rw [← hy2] at d1
                           have hl2 : y2.length ≤ 80 := by { have e := forms_len' [a.rq, a.dd, a.ke, a.ki, a.ep, a.ln] (i6_cons i1 (i6_cons i2 (i6_cons i3 (i6_cons i4 (i6_cons i5 (i6_cons i6 i6_nil)))))); rw [hy2, List.length_append]; simp only [List.length_cons, List.length_nil] at e; (try simp only [List.length_nil]); omega }
                           have d2 := listNum y2 a.vc (by omega) iv ha.c
                           obtain ⟨y3, hy3⟩ : ∃ x, x = y2 ++ form (a.vc.length : Int) ++ a.vc.flatMap form := ⟨_, rfl⟩
                           rw [← hy3] at d2
                           have hl3 : y3.length ≤ 100000000 := by { have e2 := ha.c; have e3 : y2.length ≤ 80 := hl2; have e4 : (a.vc.flatMap form).length ≤ 10 * a.vc.length := flatL_len (fun m h => form_le (iv m h)); rw [hy3, List.length_append, List.length_append]; have e5 := form_le (n := (a.vc.length : Int)) ⟨by omega, by omega⟩; omega }
                           have d3 := p_intR y3 [a.er] (i6_cons i7 i6_nil) (by simp only [List.length_cons, List.length_nil]; omega)
                           obtain ⟨y4, hy4⟩ : ∃ x, x = y3 ++ forms [a.er] := ⟨_, rfl⟩
                           rw [← hy4] at d3
                           have hl4 : y4.length ≤ 100000010 := by { have e := forms_len' [a.er] (i6_cons i7 i6_nil); rw [hy4, List.length_append]; simp only [List.length_cons, List.length_nil] at e; (try simp only [List.length_nil]); omega }
                           have hfin : y4 = msgC.put a := by { rw [put_7 (by omega), hy4, hy3, hy2, hy1]; simp only [forms, List.flatMap_cons, List.flatMap_nil, List.append_nil, List.nil_append, List.append_assoc] }
                           refine AWP.seq ?_
                           refine AWP.anyStill (by kernel_rfl) (by kernel_rfl) ?_
                           refine Walk.still (rs := [5]) (by rfl) n0WmA (fun base => by
                            refine n_move rfl n0WmA ?_
                            exact AOps.nil ⟨rfl, rfl, rfl⟩) ?_
                           refine Walk.still (rs := [1]) (by rfl) n0WmA (fun base => by
                            refine n_fieldAddr rfl fd33_2 ti2 rfl n0WmA rfl n0WmA ?_
                            exact AOps.nil ⟨rfl, rfl, rfl⟩) ?_
                           refine Walk.still (rs := [112]) (by rfl) n0WmA (fun base => by
                            refine n_load rfl ti2 n0WmA n0WmA rfl n0WmA ?_
                            exact AOps.nil ⟨rfl, rfl, rfl⟩) ?_
                           refine Walk.still (rs := [1]) (by rfl) n0WmA (fun base => by
                            refine n_fieldAddr rfl fd33_5 ti3 rfl n0WmA rfl n0WmA ?_
                            exact AOps.nil ⟨rfl, rfl, rfl⟩) ?_
                           refine Walk.still (rs := [114]) (by rfl) n0WmA (fun base => by
                            refine n_load rfl ti3 n0WmA n0WmA rfl n0WmA ?_
                            exact AOps.nil ⟨rfl, rfl, rfl⟩) ?_
                           refine Walk.still (rs := [1]) (by rfl) n0WmA (fun base => by
                            refine n_fieldAddr rfl fd33_9 ti28 rfl n0WmA rfl n0WmA ?_
                            exact AOps.nil ⟨rfl, rfl, rfl⟩) ?_
                           refine Walk.still (rs := [116]) (by rfl) n0WmA (fun base => by
                            refine n_fieldAddr rfl fd28_0 ti2 rfl n0WmA rfl n0WmA ?_
                            exact AOps.nil ⟨rfl, rfl, rfl⟩) ?_
                           refine Walk.still (rs := [117]) (by rfl) n0WmA (fun base => by
                            refine n_load rfl ti2 n0WmA n0WmA rfl n0WmA ?_
                            exact AOps.nil ⟨rfl, rfl, rfl⟩) ?_
                           refine Walk.still (rs := [1]) (by rfl) n0WmA (fun base => by
                            refine n_fieldAddr rfl fd33_9 ti28 rfl n0WmA rfl n0WmA ?_
                            exact AOps.nil ⟨rfl, rfl, rfl⟩) ?_
                           refine Walk.still (rs := [119]) (by rfl) n0WmA (fun base => by
                            refine n_fieldAddr rfl fd28_1 ti2 rfl n0WmA rfl n0WmA ?_
                            exact AOps.nil ⟨rfl, rfl, rfl⟩) ?_
                           refine Walk.still (rs := [120]) (by rfl) n0WmA (fun base => by
                            refine n_load rfl ti2 n0WmA n0WmA rfl n0WmA ?_
                            exact AOps.nil ⟨rfl, rfl, rfl⟩) ?_
                           refine Walk.still (rs := [1]) (by rfl) n0WmA (fun base => by
                            refine n_fieldAddr rfl fd33_3 ti2 rfl n0WmA rfl n0WmA ?_
                            exact AOps.nil ⟨rfl, rfl, rfl⟩) ?_
                           refine Walk.still (rs := [122]) (by rfl) n0WmA (fun base => by
                            refine n_load rfl ti2 n0WmA n0WmA rfl n0WmA ?_
                            exact AOps.nil ⟨rfl, rfl, rfl⟩) ?_
                           refine Walk.still (rs := [1]) (by rfl) n0WmA (fun base => by
                            refine n_fieldAddr rfl fd33_10 ti2 rfl n0WmA rfl n0WmA ?_
                            exact AOps.nil ⟨rfl, rfl, rfl⟩) ?_
                           refine Walk.still (rs := [124]) (by rfl) n0WmA (fun base => by
                            refine n_load rfl ti2 n0WmA n0WmA rfl n0WmA ?_
                            exact AOps.nil ⟨rfl, rfl, rfl⟩) ?_
                           refine Walk.still (rs := [113, 115, 118, 121, 123, 125]) (by rfl) n0WmA (fun base => by
                            refine n_lit rfl Tryz.underlying24 ti2 zi2 rfl rfl e1WmA rfl n0WmA ?_
                            exact AOps.nil ⟨rfl, rfl, rfl⟩) ?_
                           refine Walk.still (rs := [111, 126]) (by rfl) n0WmA (fun base => by
                            refine n_call0B rfl cf13 rfl e1WmA r2WmA (d1) l3WmA ?_
                            exact AOps.nil ⟨rfl, rfl, rfl⟩) ?_
                           refine Walk.still (rs := [1]) (by rfl) n0WmA (fun base => by
                            refine n_fieldAddr rfl fd33_11 ti24 rfl n0WmA rfl n0WmA ?_
                            exact AOps.nil ⟨rfl, rfl, rfl⟩) ?_
                           refine Walk.still (rs := [128]) (by rfl) n0WmA (fun base => by
                            refine n_load rfl ti24 n0WmA n0WmA rfl n0WmA ?_
                            exact AOps.nil ⟨rfl, rfl, rfl⟩) ?_
                           refine Walk.still (rs := [127, 129]) (by rfl) n0WmA (fun base => by
                            refine n_call0B rfl cf17 rfl e1WmA r2WmA (d2) l3WmA ?_
                            exact AOps.nil ⟨rfl, rfl, rfl⟩) ?_
                           refine Walk.still (rs := [130]) (by rfl) n0WmA (fun base => by
                            refine n_assign rfl n0WmA ?_
                            exact AOps.nil ⟨rfl, rfl, rfl⟩) ?_
                           refine Walk.done ?_
                           refine AWP.region ?_
                           refine n_move rfl n0WmA ?_
                           refine n_fieldAddr rfl fd33_7 ti22 rfl n0WmA rfl n0WmA ?_
                           refine n_load rfl ti22 n0WmA n0WmA rfl n0WmA ?_
                           refine n_lit rfl Tryz.underlying24 ti2 zi2 rfl rfl e1WmA rfl n0WmA ?_
                           refine n_call0B rfl cf13 rfl e1WmA r2WmA (d3) l3WmA ?_
                           refine n_assign rfl n0WmA ?_
                           refine AOps.nil ?_
                           refine AWP.seq ?_
                           refine AWP.sr ?_
                           refine n_move rfl n0WmA ?_
                           refine n_len rfl Tryz.underlying31 n0WmA (by first | rw [ints_length] | rw [List.length_map] | rfl) ?_
                           refine n_ibin rfl n0WmA n0WmA rfl ?_
                           refine AOps.nil ?_
                           refine AWP.cond n0WmA (fun hc29 => ?_) (fun hc29 => ?_)
                           · try simp only [nh] at hc29
                             have hr := bytW_long hc hfin hc29
                             rw [hr]
                             refine AWP.sr ?_
                             refine n_assign rfl n0WmA ?_
                             refine n_assign rfl n0WmA ?_
                             refine AOps.nil ?_
                             refine AWP.ret ?_
                             refine fin_pure (.cons (rv_tmp n0WmA) (.cons (rv_tmp n0WmA) .nil)) n0WmA ?_
                             exact .tup rfl (ren_two (by first | exact ren_bys0 rfl | exact ren_ints) (ren_flat rfl rfl))
                           try simp only [nh] at hc29
                           have hr := bytW_yes hc hfin hc29
                           rw [hr]
                           refine AWP.skip ?_
                           refine AWP.sr ?_
                           refine n_move rfl n0WmA ?_
                           refine n_assign rfl n0WmA ?_
                           refine n_assign rfl n0WmA ?_
                           refine AOps.nil ?_
                           refine AWP.ret ?_
                           refine fin_pure (.cons (rv_tmp n0WmA) (.cons (rv_tmp n0WmA) .nil)) n0WmA ?_
                           exact .tup rfl (ren_two (by first | exact ren_bys0 rfl | exact ren_ints) (ren_flat rfl rfl))
                         · try simp only [nh] at hc28
                           have i1 := ep_r (w := a) (by omega) hf
                           have d1 := p_intR y1 [a.ep] (i6_cons i1 i6_nil) (by simp only [List.length_cons, List.length_nil]; omega)
                           obtain ⟨y2, hy2⟩ : ∃ x, x = y1 ++ forms [a.ep] := ⟨_, rfl⟩
                           rw [← hy2] at d1
                           have hl2 : y2.length ≤ 30 := by { have e := forms_len' [a.ep] (i6_cons i1 i6_nil); rw [hy2, List.length_append]; simp only [List.length_cons, List.length_nil] at e; (try simp only [List.length_nil]); omega }
                           have d2 := l_regionals a ha (by omega) hf y2 (by omega)
                           obtain ⟨y3, hy3⟩ : ∃ x, x = y2 ++ restW a := ⟨_, rfl⟩
                           rw [← hy3] at d2
                           have hfin : y3 = msgC.put a := by { rw [put_r (by omega), hy3, hy2, hy1]; simp only [forms, List.flatMap_cons, List.flatMap_nil, List.append_nil, List.nil_append, List.append_assoc] }
                           refine AWP.anyStill (by kernel_rfl) (by kernel_rfl) ?_
                           refine Walk.still (rs := [5]) (by rfl) n0WmA (fun base => by
                            refine n_move rfl n0WmA ?_
                            exact AOps.nil ⟨rfl, rfl, rfl⟩) ?_
                           refine Walk.still (rs := [1]) (by rfl) n0WmA (fun base => by
                            refine n_fieldAddr rfl fd33_3 ti2 rfl n0WmA rfl n0WmA ?_
                            exact AOps.nil ⟨rfl, rfl, rfl⟩) ?_
                           refine Walk.still (rs := [20]) (by rfl) n0WmA (fun base => by
                            refine n_load rfl ti2 n0WmA n0WmA rfl n0WmA ?_
                            exact AOps.nil ⟨rfl, rfl, rfl⟩) ?_
                           refine Walk.still (rs := [21]) (by rfl) n0WmA (fun base => by
                            refine n_lit rfl Tryz.underlying24 ti2 zi2 rfl rfl e1WmA rfl n0WmA ?_
                            exact AOps.nil ⟨rfl, rfl, rfl⟩) ?_
                           refine Walk.still (rs := [19, 22]) (by rfl) n0WmA (fun base => by
                            refine n_call0B rfl cf13 rfl e1WmA r2WmA (d1) l3WmA ?_
                            exact AOps.nil ⟨rfl, rfl, rfl⟩) ?_
                           refine Walk.still (rs := [1]) (by rfl) n0WmA (fun base => by
                            refine n_load rfl ti33 n0WmA n0WmA rfl n0WmA ?_
                            exact AOps.nil ⟨rfl, rfl, rfl⟩) ?_
                           refine Walk.still (rs := [23, 24]) (by rfl) n0WmA (fun base => by
                            refine n_call0B rfl cf19 rfl e1WmA r2WmA (d2) l3WmA ?_
                            exact AOps.nil ⟨rfl, rfl, rfl⟩) ?_
                           refine Walk.still (rs := [25]) (by rfl) n0WmA (fun base => by
                            refine n_assign rfl n0WmA ?_
                            exact AOps.nil ⟨rfl, rfl, rfl⟩) ?_
                           refine Walk.done ?_
                           refine AWP.seq ?_
                           refine AWP.sr ?_
                           refine n_move rfl n0WmA ?_
                           refine n_len rfl Tryz.underlying31 n0WmA (by first | rw [ints_length] | rw [List.length_map] | rfl) ?_
                           refine n_ibin rfl n0WmA n0WmA rfl ?_
                           refine AOps.nil ?_
                           refine AWP.cond n0WmA (fun hc30 => ?_) (fun hc30 => ?_)
                           · try simp only [nh] at hc30
                             have hr := bytW_long hc hfin hc30
                             rw [hr]
                             refine AWP.sr ?_
                             refine n_assign rfl n0WmA ?_
                             refine n_assign rfl n0WmA ?_
                             refine AOps.nil ?_
                             refine AWP.ret ?_
                             refine fin_pure (.cons (rv_tmp n0WmA) (.cons (rv_tmp n0WmA) .nil)) n0WmA ?_
                             exact .tup rfl (ren_two (by first | exact ren_bys0 rfl | exact ren_ints) (ren_flat rfl rfl))
                           · try simp only [nh] at hc30
                             have hr := bytW_yes hc hfin hc30
                             rw [hr]
                             refine AWP.skip ?_
                             refine AWP.sr ?_
                             refine n_move rfl n0WmA ?_
                             refine n_assign rfl n0WmA ?_
                             refine n_assign rfl n0WmA ?_
                             refine AOps.nil ?_
                             refine AWP.ret ?_
                             refine fin_pure (.cons (rv_tmp n0WmA) (.cons (rv_tmp n0WmA) .nil)) n0WmA ?_
                             exact .tup rfl (ren_two (by first | exact ren_bys0 rfl | exact ren_ints) (ren_flat rfl rfl))

end Go.Proofs.YtanfmpkjcoolmaaGreat.Wm
