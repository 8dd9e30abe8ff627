/- Messages read. -/
import Derived.Test.YtanfmpkjcoolmaaGreatWnA
import Derived.Test.YtanfmpkjcoolmaaGreatWlA
import Derived.Test.YtanfmpkjcoolmaaGreatPlainA
set_option linter.unusedVariables false
set_option linter.unusedSimpArgs false
namespace Go.Proofs.YtanfmpkjcoolmaaGreat.Wo
open Go Go.Abs Go.Proofs.YtanfmpkjcoolmaaGreat.Pk Wa Wb Wh Wl Wn Codec
attribute [local irreducible] AWP AOps Does

theorem n0WoA {α : Type} {a b : α} (h : a = b := by first|simp only[nf,Nat.beq]<;>rfl|rfl) : a = b := h
theorem e1WoA {α : Type} {a b : α} (h : a = b := by exact Eq.trans (by simp only [nl] <;> rfl) n0WoA) : a = b := h
theorem r2WoA {ρ σ : Nat → Nat → Prop} {a b : List D} (h : RenAll ρ σ a b := by repeat (first | exact .nil | refine .cons ?_ ?_ | exact ren_ints | exact .lf (.val _) | exact .lf (lf_ints (.inl rfl)) | exact .bp ⟨rfl, rfl⟩ | exact .bp (.inl ⟨rfl, rfl⟩) | exact .bp (.inr ⟨rfl, rfl⟩) | exact .agg rfl (RenAll.get (.cons (.bp ⟨rfl, rfl⟩) .nil)) | exact .agg rfl (RenAll.get (.cons (.bp (.inl ⟨rfl, rfl⟩)) .nil)) | exact .fn rfl rfl (RenAll.get (.cons (.agg rfl (RenAll.get (.cons (.bp ⟨rfl, rfl⟩) .nil))) .nil)) (RenAll.get .nil) | exact .lf (wz_lf _) | exact .agg rfl (RenAll.get (by repeat (first | exact .nil | refine .cons ?_ ?_ | exact .lf (.val _) | exact ren_map (f := q1) (fun _ => rfl) | exact ren_map (f := q2) (fun _ => rfl) | exact ren_map (f := q4) (fun _ => rfl) | exact ren_mapG qt_lf | exact .ro (fun x h => by cases h) | exact ren_ints))) | exact .lf (txz_lf _) | exact .lf (.agg (qt_lf _)) | exact ren_bys0 rfl | exact .lf lf_fnz | exact .lf (D.flat_lf rfl) | exact ren_lits rfl)) : RenAll ρ σ a b := h
theorem x3WoA {a : List D} (h : ∀ d ∈ a, LF d := by repeat (first | exact lf_nil | refine lf_cons ?_ ?_ | exact .val _ | exact lf_ints (.inl rfl))) : ∀ d ∈ a, LF d := h
theorem l4WoA {d : D} (h : LF d := by first | exact .val _ | exact lf_ints (.inl rfl) | exact lf_ints (.inr rfl) | exact .any | exact wz_lf _ | exact txz_lf _ | exact .agg (qt_lf _) | exact lf_mapG qt_lf (.inl rfl) | exact lf_map (f := q1) (fun _ => rfl) (.inl rfl) | exact lf_map (f := q2) (fun _ => rfl) (.inl rfl) | exact lf_map (f := q4) (fun _ => rfl) (.inl rfl) | exact .tup (lf_cons (txz_lf _) (lf_cons (.val _) lf_nil)) | exact .tup (lf_cons (.agg (qt_lf _)) (lf_cons (.val _) lf_nil)) | exact .tup (lf_cons (.agg (lf_cons (.val _) (lf_cons (.val _) (lf_cons (.val _) (lf_cons (.val _) lf_nil))))) (lf_cons (.val _) lf_nil)) | exact .agg (lf_cons (.val _) (lf_cons (.val _) lf_nil)) | exact .agg (lf_cons (.val _) (lf_cons (.val _) (lf_cons (.val _) (lf_cons (.val _) lf_nil)))) | exact .tup lf_nil | exact .tup (lf_cons (lf_ints (.inl rfl)) (lf_cons (.val _) lf_nil)) | exact D.flat_lf rfl) : LF d := h
theorem cf12 : CF Tryz.prog 12 := ⟨_, Tryz.func12, by kernel_rfl, by kernel_rfl⟩
theorem cf20 : CF Tryz.prog 20 := ⟨_, Tryz.func20, by kernel_rfl, by kernel_rfl⟩
theorem cf21 : CF Tryz.prog 21 := ⟨_, Tryz.func21, by kernel_rfl, by kernel_rfl⟩
theorem cf22 : CF Tryz.prog 22 := ⟨_, Tryz.func22, by kernel_rfl, by kernel_rfl⟩
theorem cf50 : CF Tryz.prog 50 := ⟨_, Tryz.func50, by kernel_rfl, by kernel_rfl⟩
theorem cf51 : CF Tryz.prog 51 := ⟨_, Tryz.func51, by kernel_rfl, by kernel_rfl⟩
theorem cf52 : CF Tryz.prog 52 := ⟨_, Tryz.func52, by kernel_rfl, by kernel_rfl⟩
theorem cf53 : CF Tryz.prog 53 := ⟨_, Tryz.func53, by kernel_rfl, by kernel_rfl⟩
theorem cf54 : CF Tryz.prog 54 := ⟨_, Tryz.func54, by kernel_rfl, by kernel_rfl⟩
theorem cf55 : CF Tryz.prog 55 := ⟨_, Tryz.func55, by kernel_rfl, by kernel_rfl⟩
theorem cf56 : CF Tryz.prog 56 := ⟨_, Tryz.func56, by kernel_rfl, by kernel_rfl⟩
theorem cf58 : CF Tryz.prog 58 := ⟨_, Tryz.func58, by kernel_rfl, by kernel_rfl⟩
theorem cf59 : CF Tryz.prog 59 := ⟨_, Tryz.func59, by kernel_rfl, by kernel_rfl⟩
theorem cf80 : CF Tryz.prog 80 := ⟨_, Tryz.func80, by kernel_rfl, by kernel_rfl⟩
theorem cf82 : CF Tryz.prog 82 := ⟨_, Tryz.func82, by kernel_rfl, by kernel_rfl⟩
theorem cf84 : CF Tryz.prog 84 := ⟨_, Tryz.func84, by kernel_rfl, by kernel_rfl⟩
theorem fd28_0 : FD Tryz.prog 28 0 2 0 := ⟨_, _, Tryz.underlying28, rfl, rfl, rfl⟩
theorem fd28_1 : FD Tryz.prog 28 1 2 1 := ⟨_, _, Tryz.underlying28, rfl, rfl, rfl⟩
theorem fd33_0 : FD Tryz.prog 33 0 3 0 := ⟨_, _, Tryz.underlying33, rfl, rfl, rfl⟩
theorem fd33_1 : FD Tryz.prog 33 1 3 1 := ⟨_, _, Tryz.underlying33, rfl, rfl, rfl⟩
theorem fd33_10 : FD Tryz.prog 33 10 2 15 := ⟨_, _, Tryz.underlying33, rfl, rfl, rfl⟩
theorem fd33_11 : FD Tryz.prog 33 11 24 16 := ⟨_, _, Tryz.underlying33, rfl, rfl, rfl⟩
theorem fd33_12 : FD Tryz.prog 33 12 2 17 := ⟨_, _, Tryz.underlying33, rfl, rfl, rfl⟩
theorem fd33_13 : FD Tryz.prog 33 13 29 18 := ⟨_, _, Tryz.underlying33, rfl, rfl, rfl⟩
theorem fd33_14 : FD Tryz.prog 33 14 3 19 := ⟨_, _, Tryz.underlying33, rfl, rfl, rfl⟩
theorem fd33_15 : FD Tryz.prog 33 15 2 20 := ⟨_, _, Tryz.underlying33, rfl, rfl, rfl⟩
theorem fd33_16 : FD Tryz.prog 33 16 30 21 := ⟨_, _, Tryz.underlying33, rfl, rfl, rfl⟩
theorem fd33_17 : FD Tryz.prog 33 17 3 22 := ⟨_, _, Tryz.underlying33, rfl, rfl, rfl⟩
theorem fd33_18 : FD Tryz.prog 33 18 31 23 := ⟨_, _, Tryz.underlying33, rfl, rfl, rfl⟩
theorem fd33_2 : FD Tryz.prog 33 2 2 2 := ⟨_, _, Tryz.underlying33, rfl, rfl, rfl⟩
theorem fd33_3 : FD Tryz.prog 33 3 2 3 := ⟨_, _, Tryz.underlying33, rfl, rfl, rfl⟩
theorem fd33_4 : FD Tryz.prog 33 4 3 4 := ⟨_, _, Tryz.underlying33, rfl, rfl, rfl⟩
theorem fd33_5 : FD Tryz.prog 33 5 3 5 := ⟨_, _, Tryz.underlying33, rfl, rfl, rfl⟩
theorem fd33_6 : FD Tryz.prog 33 6 4 6 := ⟨_, _, Tryz.underlying33, rfl, rfl, rfl⟩
theorem fd33_7 : FD Tryz.prog 33 7 22 7 := ⟨_, _, Tryz.underlying33, rfl, rfl, rfl⟩
theorem fd33_8 : FD Tryz.prog 33 8 26 8 := ⟨_, _, Tryz.underlying33, rfl, rfl, rfl⟩
theorem fd33_9 : FD Tryz.prog 33 9 28 13 := ⟨_, _, Tryz.underlying33, rfl, rfl, rfl⟩
theorem fd63_0 : FD Tryz.prog 63 0 60 0 := ⟨_, _, Tryz.underlying63, rfl, rfl, rfl⟩
theorem si33 : SI Tryz.prog 33 #[(0, 1), (1, 1), (2, 1), (3, 1), (4, 1), (5, 1), (6, 1), (7, 1), (8, 5), (13, 2), (15, 1), (16, 1), (17, 1), (18, 1), (19, 1), (20, 1), (21, 1), (22, 1), (23, 1)] (.agg #[.int .i64 0, .int .i64 0, .int .i64 0, .int .i64 0, .int .i64 0, .int .i64 0, .bool false, .int .i64 0, .int .i64 0, .int .i64 0, .int .i64 0, .slice none 0 0, .slice none 0 0, .int .i64 0, .int .i64 0, .int .i64 0, .slice none 0 0, .int .i64 0, .slice none 0 0, .int .i64 0, .int .i64 0, .slice none 0 0, .int .i64 0, .slice none 0 0]) := ⟨⟨_, Tryz.underlying33, fun w => by kernel_rfl⟩, by kernel_rfl⟩
theorem si63 : SI Tryz.prog 63 #[(0, 1)] (.agg #[.pointer none]) := ⟨⟨_, Tryz.underlying63, fun w => by kernel_rfl⟩, by kernel_rfl⟩
theorem ti2 : TI Tryz.prog 2 1 false := ⟨by kernel_rfl, by kernel_rfl⟩
theorem ti22 : TI Tryz.prog 22 1 false := ⟨by kernel_rfl, by kernel_rfl⟩
theorem ti24 : TI Tryz.prog 24 1 false := ⟨by kernel_rfl, by kernel_rfl⟩
theorem ti26 : TI Tryz.prog 26 5 true := ⟨by kernel_rfl, by kernel_rfl⟩
theorem ti28 : TI Tryz.prog 28 2 true := ⟨by kernel_rfl, by kernel_rfl⟩
theorem ti29 : TI Tryz.prog 29 1 false := ⟨by kernel_rfl, by kernel_rfl⟩
theorem ti3 : TI Tryz.prog 3 1 false := ⟨by kernel_rfl, by kernel_rfl⟩
theorem ti30 : TI Tryz.prog 30 1 false := ⟨by kernel_rfl, by kernel_rfl⟩
theorem ti31 : TI Tryz.prog 31 1 false := ⟨by kernel_rfl, by kernel_rfl⟩
theorem ti33 : TI Tryz.prog 33 24 true := ⟨by kernel_rfl, by kernel_rfl⟩
theorem ti4 : TI Tryz.prog 4 1 false := ⟨by kernel_rfl, by kernel_rfl⟩
theorem ti60 : TI Tryz.prog 60 1 false := ⟨by kernel_rfl, by kernel_rfl⟩
theorem ti63 : TI Tryz.prog 63 1 true := ⟨by kernel_rfl, by kernel_rfl⟩
theorem zi33 : (Tryz.prog.info? 33).map (·.zero) = some (some (.agg #[.int .i64 0, .int .i64 0, .int .i64 0, .int .i64 0, .int .i64 0, .int .i64 0, .bool false, .int .i64 0, .int .i64 0, .int .i64 0, .int .i64 0, .slice none 0 0, .slice none 0 0, .int .i64 0, .int .i64 0, .int .i64 0, .slice none 0 0, .int .i64 0, .slice none 0 0, .int .i64 0, .int .i64 0, .slice none 0 0, .int .i64 0, .slice none 0 0])) := by kernel_rfl
theorem zi63 : (Tryz.prog.info? 63).map (·.zero) = some (some (.agg #[.pointer none])) := by kernel_rfl

theorem wz_lfx (w : Wr) : ∀ d ∈ wz w, LF d := by have h := wz_lf w; cases h with | agg h => exact h
theorem U_F (u : Up) (hu : u.ok) : Does Tryz.prog 53 [.bp 0 0] [.box (Up.z u)] (vb (Codec.get flagC u).1) [.box (Up.z (Codec.get flagC u).2)] := Rd.U_flag u hu
attribute [local irreducible] Up.int Up.str Up.close Up.rest Up.clr Up.spoil Up.w Up.flag Tb.parse En.parse Codec.rdl
set_option maxHeartbeats 4000000 in
theorem l_reg (u : Up) (hu : u.ok) (kk rr : Int) (hk : 13 ≤ kk ∧ kk ≤ 20) : Does Tryz.prog 51 [.agg [.bp 0 0], .bp 1 0] [.box (Up.z u), .box (wz (wr0 kk rr))] (.tup []) [.box (Up.z (Codec.get (bodyC kk rr) u).2), .box (wz (Codec.get (bodyC kk rr) u).1)] := by
 refine Does.of_body (rvs := []) Tryz.func51 rfl rfl rfl rfl ?_
 obtain ⟨r1, hr1⟩ : ∃ r, r = Codec.get posC u := ⟨_, rfl⟩
 have ok1 : r1.2.ok := by rw [hr1]; exact int_kp u hu
 have d1 := l_pos u hu
 rw [← hr1] at d1
 refine AWP.sr ?_
 refine n_box rfl n0WoA rfl rfl n0WoA n0WoA ?_
 refine AOps.nil ?_
 refine AWP.sr ?_
 refine n_move rfl n0WoA ?_
 refine n_load rfl ti63 n0WoA n0WoA rfl n0WoA ?_
 refine n_callBoxB rfl cf52 rfl e1WoA r2WoA (by rfl) r2WoA (d1) x3WoA l4WoA n0WoA ?_
 refine n_nilCheck rfl n0WoA rfl ?_
 refine n_fieldAddr rfl fd33_3 ti2 rfl n0WoA rfl n0WoA ?_
 refine n_store ti2 n0WoA rfl n0WoA rfl n0WoA rfl rfl rfl n0WoA ?_
 refine AOps.nil ?_
 refine AWP.sr ?_
 refine n_move rfl n0WoA ?_
 refine n_nilCheck rfl n0WoA rfl ?_
 refine n_fieldAddr rfl fd33_0 ti3 rfl n0WoA rfl n0WoA ?_
 refine n_load rfl ti3 n0WoA n0WoA rfl n0WoA ?_
 refine AOps.nil ?_
 refine AWP.block ?_
 refine AWP.sr ?_
 refine n_ibin rfl n0WoA n0WoA rfl ?_
 refine n_assign rfl n0WoA ?_
 refine AOps.nil ?_
 refine AWP.cond n0WoA (fun hc1 => ?_) (fun hc1 => ?_)
 · try simp only [nh] at hc1
   try simp only [wr0] at hc1
   obtain ⟨r2, hr2⟩ : ∃ r, r = Codec.get posC r1.2 := ⟨_, rfl⟩
   have ok2 : r2.2.ok := by rw [hr2]; exact int_kp r1.2 ok1
   have d2 := l_pos r1.2 ok1
   rw [← hr2] at d2
   obtain ⟨r3, hr3⟩ : ∃ r, r = Codec.get (Codec.list 1 4 tabC) r2.2 := ⟨_, rfl⟩
   have ok3 : r3.2.ok := by rw [hr3]; exact (list_kp tab_kp) r2.2 ok2
   have d3 := l_tables r2.2 ok2
   rw [← hr3] at d3
   have hp : Codec.get (bodyC kk rr) u = (({ wr0 kk rr with ep := r1.1, nm := r2.1, tb := r3.1 } : Wr), r3.2) := by { rw [body_8 (by omega), hr3, hr2, hr1]; rfl }
   rw [hp]
   refine AWP.sr ?_
   refine n_move rfl n0WoA ?_
   refine n_load rfl ti63 n0WoA n0WoA rfl n0WoA ?_
   refine n_callBoxB rfl cf52 rfl e1WoA r2WoA (by rfl) r2WoA (d2) x3WoA l4WoA n0WoA ?_
   refine n_nilCheck rfl n0WoA rfl ?_
   refine n_fieldAddr rfl fd33_12 ti2 rfl n0WoA rfl n0WoA ?_
   refine n_store ti2 n0WoA rfl n0WoA rfl n0WoA rfl rfl rfl n0WoA ?_
   refine AOps.nil ?_
   refine AWP.region ?_
   refine n_move rfl n0WoA ?_
   refine n_load rfl ti63 n0WoA n0WoA rfl n0WoA ?_
   refine n_load rfl ti63 n0WoA n0WoA rfl n0WoA ?_
   refine n_makeFunc rfl e1WoA e1WoA ?_
   refine n_callBoxB rfl cf80 rfl e1WoA r2WoA (by rfl) r2WoA (d3) x3WoA l4WoA n0WoA ?_
   refine n_nilCheck rfl n0WoA rfl ?_
   refine n_fieldAddr rfl fd33_13 ti29 rfl n0WoA rfl n0WoA ?_
   refine n_store ti29 n0WoA rfl n0WoA rfl n0WoA rfl rfl rfl n0WoA ?_
   refine AOps.nil ?_
   refine Fin.normal ?_
   refine fin_box2 .nil n0WoA ?_ rfl rfl ?_ ?_
   · exact .lf (.tup lf_nil)
   · exact renU rfl rfl
   repeat (first | exact .nil | refine .cons ?_ ?_ | exact .lf (.val _) | exact ren_map (f := q1) (fun _ => rfl) | exact ren_map (f := q2) (fun _ => rfl) | exact ren_map (f := q4) (fun _ => rfl) | exact ren_mapG qt_lf | exact .ro (fun x h => by cases h) | exact ren_ints)
 · try simp only [nh] at hc1
   try simp only [wr0] at hc1
   refine AWP.sr ?_
   refine n_ibin rfl n0WoA n0WoA rfl ?_
   refine n_assign rfl n0WoA ?_
   refine AOps.nil ?_
   refine AWP.cond n0WoA (fun hc2 => ?_) (fun hc2 => ?_)
   · try simp only [nh] at hc2
     try simp only [wr0] at hc2
     obtain ⟨r2, hr2⟩ : ∃ r, r = Codec.get posC r1.2 := ⟨_, rfl⟩
     have ok2 : r2.2.ok := by rw [hr2]; exact int_kp r1.2 ok1
     have d2 := l_pos r1.2 ok1
     rw [← hr2] at d2
     obtain ⟨r3, hr3⟩ : ∃ r, r = Codec.get vecC r2.2 := ⟨_, rfl⟩
     have ok3 : r3.2.ok := by rw [hr3]; exact vec_kp r2.2 ok2
     have d3 := l_vector r2.2 ok2
     rw [← hr3] at d3
     have hp : Codec.get (bodyC kk rr) u = (({ wr0 kk rr with ep := r1.1, nm := r2.1, vc := r3.1 } : Wr), r3.2) := by { rw [body_9 (by omega), hr3, hr2, hr1]; rfl }
     rw [hp]
     refine AWP.sr ?_
     refine n_move rfl n0WoA ?_
     refine n_load rfl ti63 n0WoA n0WoA rfl n0WoA ?_
     refine n_callBoxB rfl cf52 rfl e1WoA r2WoA (by rfl) r2WoA (d2) x3WoA l4WoA n0WoA ?_
     refine n_nilCheck rfl n0WoA rfl ?_
     refine n_fieldAddr rfl fd33_12 ti2 rfl n0WoA rfl n0WoA ?_
     refine n_store ti2 n0WoA rfl n0WoA rfl n0WoA rfl rfl rfl n0WoA ?_
     refine AOps.nil ?_
     refine AWP.region ?_
     refine n_move rfl n0WoA ?_
     refine n_load rfl ti63 n0WoA n0WoA rfl n0WoA ?_
     refine n_callBoxB rfl cf59 rfl e1WoA r2WoA (by rfl) r2WoA (d3) x3WoA l4WoA n0WoA ?_
     refine n_nilCheck rfl n0WoA rfl ?_
     refine n_fieldAddr rfl fd33_11 ti24 rfl n0WoA rfl n0WoA ?_
     refine n_store ti24 n0WoA rfl n0WoA rfl n0WoA rfl rfl rfl n0WoA ?_
     refine AOps.nil ?_
     refine Fin.normal ?_
     refine fin_box2 .nil n0WoA ?_ rfl rfl ?_ ?_
     · exact .lf (.tup lf_nil)
     · exact renU rfl rfl
     repeat (first | exact .nil | refine .cons ?_ ?_ | exact .lf (.val _) | exact ren_map (f := q1) (fun _ => rfl) | exact ren_map (f := q2) (fun _ => rfl) | exact ren_map (f := q4) (fun _ => rfl) | exact ren_mapG qt_lf | exact .ro (fun x h => by cases h) | exact ren_ints)
   · try simp only [nh] at hc2
     try simp only [wr0] at hc2
     refine AWP.sr ?_
     refine n_ibin rfl n0WoA n0WoA rfl ?_
     refine n_assign rfl n0WoA ?_
     refine AOps.nil ?_
     refine AWP.cond n0WoA (fun hc3 => ?_) (fun hc3 => ?_)
     · try simp only [nh] at hc3
       try simp only [wr0] at hc3
       obtain ⟨r2, hr2⟩ : ∃ r, r = Codec.get vecC r1.2 := ⟨_, rfl⟩
       have ok2 : r2.2.ok := by rw [hr2]; exact vec_kp r1.2 ok1
       have d2 := l_vector r1.2 ok1
       rw [← hr2] at d2
       have hp : Codec.get (bodyC kk rr) u = (({ wr0 kk rr with ep := r1.1, vc := r2.1 } : Wr), r2.2) := by { rw [body_10 (by omega), hr2, hr1]; rfl }
       rw [hp]
       refine AWP.region ?_
       refine n_move rfl n0WoA ?_
       refine n_load rfl ti63 n0WoA n0WoA rfl n0WoA ?_
       refine n_callBoxB rfl cf59 rfl e1WoA r2WoA (by rfl) r2WoA (d2) x3WoA l4WoA n0WoA ?_
       refine n_nilCheck rfl n0WoA rfl ?_
       refine n_fieldAddr rfl fd33_11 ti24 rfl n0WoA rfl n0WoA ?_
       refine n_store ti24 n0WoA rfl n0WoA rfl n0WoA rfl rfl rfl n0WoA ?_
       refine AOps.nil ?_
       refine Fin.normal ?_
       refine fin_box2 .nil n0WoA ?_ rfl rfl ?_ ?_
       · exact .lf (.tup lf_nil)
       · exact renU rfl rfl
       repeat (first | exact .nil | refine .cons ?_ ?_ | exact .lf (.val _) | exact ren_map (f := q1) (fun _ => rfl) | exact ren_map (f := q2) (fun _ => rfl) | exact ren_map (f := q4) (fun _ => rfl) | exact ren_mapG qt_lf | exact .ro (fun x h => by cases h) | exact ren_ints)
     · try simp only [nh] at hc3
       try simp only [wr0] at hc3
       refine AWP.sr ?_
       refine n_ibin rfl n0WoA n0WoA rfl ?_
       refine n_assign rfl n0WoA ?_
       refine AOps.nil ?_
       refine AWP.cond n0WoA (fun hc4 => ?_) (fun hc4 => ?_)
       · try simp only [nh] at hc4
         try simp only [wr0] at hc4
         obtain ⟨r2, hr2⟩ : ∃ r, r = Codec.get (Codec.int 0 3) r1.2 := ⟨_, rfl⟩
         have ok2 : r2.2.ok := by rw [hr2]; exact int_kp r1.2 ok1
         have d2 := U_C 0 3 r1.2 ok1
         rw [← hr2] at d2
         obtain ⟨r3, hr3⟩ : ∃ r, r = Codec.get numC r2.2 := ⟨_, rfl⟩
         have ok3 : r3.2.ok := by rw [hr3]; exact int_kp r2.2 ok2
         have d3 := l_num r2.2 ok2
         rw [← hr3] at d3
         obtain ⟨r4, hr4⟩ : ∃ r, r = Codec.get (Codec.list 1 8 entC) r3.2 := ⟨_, rfl⟩
         have ok4 : r4.2.ok := by rw [hr4]; exact (list_kp ent_kp) r3.2 ok3
         have d4 := l_entries r3.2 ok3
         rw [← hr4] at d4
         have hp : Codec.get (bodyC kk rr) u = (({ wr0 kk rr with ep := r1.1, pt := r2.1, ps := r3.1, en := r4.1 } : Wr), r4.2) := by { rw [body_11 (by omega), hr4, hr3, hr2, hr1]; rfl }
         rw [hp]
         refine AWP.sr ?_
         refine n_move rfl n0WoA ?_
         refine n_fieldAddr rfl fd63_0 ti60 rfl n0WoA rfl n0WoA ?_
         refine n_load rfl ti60 n0WoA n0WoA rfl n0WoA ?_
         refine n_callBoxB rfl cf50 rfl e1WoA r2WoA (by rfl) r2WoA (d2) x3WoA l4WoA n0WoA ?_
         refine n_nilCheck rfl n0WoA rfl ?_
         refine n_fieldAddr rfl fd33_14 ti3 rfl n0WoA rfl n0WoA ?_
         refine n_store ti3 n0WoA rfl n0WoA rfl n0WoA rfl rfl rfl n0WoA ?_
         refine AOps.nil ?_
         refine AWP.sr ?_
         refine n_move rfl n0WoA ?_
         refine n_load rfl ti63 n0WoA n0WoA rfl n0WoA ?_
         refine n_callBoxB rfl cf54 rfl e1WoA r2WoA (by rfl) r2WoA (d3) x3WoA l4WoA n0WoA ?_
         refine n_nilCheck rfl n0WoA rfl ?_
         refine n_fieldAddr rfl fd33_15 ti2 rfl n0WoA rfl n0WoA ?_
         refine n_store ti2 n0WoA rfl n0WoA rfl n0WoA rfl rfl rfl n0WoA ?_
         refine AOps.nil ?_
         refine AWP.region ?_
         refine n_move rfl n0WoA ?_
         refine n_load rfl ti63 n0WoA n0WoA rfl n0WoA ?_
         refine n_load rfl ti63 n0WoA n0WoA rfl n0WoA ?_
         refine n_makeFunc rfl e1WoA e1WoA ?_
         refine n_callBoxB rfl cf82 rfl e1WoA r2WoA (by rfl) r2WoA (d4) x3WoA l4WoA n0WoA ?_
         refine n_nilCheck rfl n0WoA rfl ?_
         refine n_fieldAddr rfl fd33_16 ti30 rfl n0WoA rfl n0WoA ?_
         refine n_store ti30 n0WoA rfl n0WoA rfl n0WoA rfl rfl rfl n0WoA ?_
         refine AOps.nil ?_
         refine Fin.normal ?_
         refine fin_box2 .nil n0WoA ?_ rfl rfl ?_ ?_
         · exact .lf (.tup lf_nil)
         · exact renU rfl rfl
         repeat (first | exact .nil | refine .cons ?_ ?_ | exact .lf (.val _) | exact ren_map (f := q1) (fun _ => rfl) | exact ren_map (f := q2) (fun _ => rfl) | exact ren_map (f := q4) (fun _ => rfl) | exact ren_mapG qt_lf | exact .ro (fun x h => by cases h) | exact ren_ints)
       · try simp only [nh] at hc4
         try simp only [wr0] at hc4
         refine AWP.sr ?_
         refine n_ibin rfl n0WoA n0WoA rfl ?_
         refine n_assign rfl n0WoA ?_
         refine AOps.nil ?_
         refine AWP.cond n0WoA (fun hc5 => ?_) (fun hc5 => ?_)
         · try simp only [nh] at hc5
           try simp only [wr0] at hc5
           obtain ⟨r2, hr2⟩ : ∃ r, r = Codec.get keyC r1.2 := ⟨_, rfl⟩
           have ok2 : r2.2.ok := by rw [hr2]; exact key_kp r1.2 ok1
           have d2 := l_key r1.2 ok1
           rw [← hr2] at d2
           obtain ⟨r3, hr3⟩ : ∃ r, r = Codec.get numC r2.2 := ⟨_, rfl⟩
           have ok3 : r3.2.ok := by rw [hr3]; exact int_kp r2.2 ok2
           have d3 := l_num r2.2 ok2
           rw [← hr3] at d3
           obtain ⟨r4, hr4⟩ : ∃ r, r = Codec.get (Codec.str 131072) r3.2 := ⟨_, rfl⟩
           have ok4 : r4.2.ok := by rw [hr4]; exact str_kp r3.2 ok3
           have d4 := U_S r3.2 ok3
           rw [← hr4] at d4
           have hp : Codec.get (bodyC kk rr) u = (({ wr0 kk rr with ep := r1.1, ke := r2.1.1, ki := r2.1.2, ch := r3.1, by_ := r4.1 } : Wr), r4.2) := by { rw [body_12 (by omega), hr4, hr3, hr2, hr1]; rfl }
           rw [hp]
           refine AWP.sr ?_
           refine n_move rfl n0WoA ?_
           refine n_load rfl ti63 n0WoA n0WoA rfl n0WoA ?_
           refine n_callBoxB rfl cf58 rfl e1WoA r2WoA (by rfl) r2WoA (d2) x3WoA l4WoA n0WoA ?_
           refine n_nilCheck rfl n0WoA rfl ?_
           refine n_fieldAddr rfl fd33_9 ti28 rfl n0WoA rfl n0WoA ?_
           refine n_store ti28 n0WoA rfl n0WoA rfl n0WoA rfl rfl rfl n0WoA ?_
           refine AOps.nil ?_
           refine AWP.sr ?_
           refine n_move rfl n0WoA ?_
           refine n_load rfl ti63 n0WoA n0WoA rfl n0WoA ?_
           refine n_callBoxB rfl cf54 rfl e1WoA r2WoA (by rfl) r2WoA (d3) x3WoA l4WoA n0WoA ?_
           refine n_nilCheck rfl n0WoA rfl ?_
           refine n_fieldAddr rfl fd33_17 ti3 rfl n0WoA rfl n0WoA ?_
           refine n_store ti3 n0WoA rfl n0WoA rfl n0WoA rfl rfl rfl n0WoA ?_
           refine AOps.nil ?_
           refine AWP.region ?_
           refine n_move rfl n0WoA ?_
           refine n_fieldAddr rfl fd63_0 ti60 rfl n0WoA rfl n0WoA ?_
           refine n_load rfl ti60 n0WoA n0WoA rfl n0WoA ?_
           refine n_callBoxB rfl cf84 rfl e1WoA r2WoA (by rfl) r2WoA (d4) x3WoA l4WoA n0WoA ?_
           refine n_nilCheck rfl n0WoA rfl ?_
           refine n_fieldAddr rfl fd33_18 ti31 rfl n0WoA rfl n0WoA ?_
           refine n_store ti31 n0WoA rfl n0WoA rfl n0WoA rfl rfl rfl n0WoA ?_
           refine AOps.nil ?_
           refine Fin.normal ?_
           refine fin_box2 .nil n0WoA ?_ rfl rfl ?_ ?_
           · exact .lf (.tup lf_nil)
           · exact renU rfl rfl
           repeat (first | exact .nil | refine .cons ?_ ?_ | exact .lf (.val _) | exact ren_map (f := q1) (fun _ => rfl) | exact ren_map (f := q2) (fun _ => rfl) | exact ren_map (f := q4) (fun _ => rfl) | exact ren_mapG qt_lf | exact .ro (fun x h => by cases h) | exact ren_ints)
         · try simp only [nh] at hc5
           try simp only [wr0] at hc5
           refine AWP.sr ?_
           refine n_ibin rfl n0WoA n0WoA rfl ?_
           refine n_assign rfl n0WoA ?_
           refine AOps.nil ?_
           refine AWP.cond n0WoA (fun hc6 => ?_) (fun hc6 => ?_)
           · try simp only [nh] at hc6
             try simp only [wr0] at hc6
             obtain ⟨r2, hr2⟩ : ∃ r, r = Codec.get keyC r1.2 := ⟨_, rfl⟩
             have ok2 : r2.2.ok := by rw [hr2]; exact key_kp r1.2 ok1
             have d2 := l_key r1.2 ok1
             rw [← hr2] at d2
             obtain ⟨r3, hr3⟩ : ∃ r, r = Codec.get (Codec.int (-1) 9007199254740992) r2.2 := ⟨_, rfl⟩
             have ok3 : r3.2.ok := by rw [hr3]; exact int_kp r2.2 ok2
             have d3 := U_C (-1) 9007199254740992 r2.2 ok2
             rw [← hr3] at d3
             have hp : Codec.get (bodyC kk rr) u = (({ wr0 kk rr with ep := r1.1, ke := r2.1.1, ki := r2.1.2, ch := r3.1 } : Wr), r3.2) := by { rw [body_13 (by omega), hr3, hr2, hr1]; rfl }
             rw [hp]
             refine AWP.sr ?_
             refine n_move rfl n0WoA ?_
             refine n_load rfl ti63 n0WoA n0WoA rfl n0WoA ?_
             refine n_callBoxB rfl cf58 rfl e1WoA r2WoA (by rfl) r2WoA (d2) x3WoA l4WoA n0WoA ?_
             refine n_nilCheck rfl n0WoA rfl ?_
             refine n_fieldAddr rfl fd33_9 ti28 rfl n0WoA rfl n0WoA ?_
             refine n_store ti28 n0WoA rfl n0WoA rfl n0WoA rfl rfl rfl n0WoA ?_
             refine AOps.nil ?_
             refine AWP.region ?_
             refine n_move rfl n0WoA ?_
             refine n_fieldAddr rfl fd63_0 ti60 rfl n0WoA rfl n0WoA ?_
             refine n_load rfl ti60 n0WoA n0WoA rfl n0WoA ?_
             refine n_callBoxB rfl cf50 rfl e1WoA r2WoA (by rfl) r2WoA (d3) x3WoA l4WoA n0WoA ?_
             refine n_nilCheck rfl n0WoA rfl ?_
             refine n_fieldAddr rfl fd33_17 ti3 rfl n0WoA rfl n0WoA ?_
             refine n_store ti3 n0WoA rfl n0WoA rfl n0WoA rfl rfl rfl n0WoA ?_
             refine AOps.nil ?_
             refine Fin.normal ?_
             refine fin_box2 .nil n0WoA ?_ rfl rfl ?_ ?_
             · exact .lf (.tup lf_nil)
             · exact renU rfl rfl
             repeat (first | exact .nil | refine .cons ?_ ?_ | exact .lf (.val _) | exact ren_map (f := q1) (fun _ => rfl) | exact ren_map (f := q2) (fun _ => rfl) | exact ren_map (f := q4) (fun _ => rfl) | exact ren_mapG qt_lf | exact .ro (fun x h => by cases h) | exact ren_ints)
           · try simp only [nh] at hc6
             try simp only [wr0] at hc6
             refine AWP.sr ?_
             refine n_ibin rfl n0WoA n0WoA rfl ?_
             refine n_assign rfl n0WoA ?_
             refine AOps.nil ?_
             refine AWP.cond n0WoA (fun hc7 => ?_) (fun hc7 => ?_)
             · try simp only [nh] at hc7
               try simp only [wr0] at hc7
               obtain ⟨r2, hr2⟩ : ∃ r, r = Codec.get keyC r1.2 := ⟨_, rfl⟩
               have ok2 : r2.2.ok := by rw [hr2]; exact key_kp r1.2 ok1
               have d2 := l_key r1.2 ok1
               rw [← hr2] at d2
               have hp : Codec.get (bodyC kk rr) u = (({ wr0 kk rr with ep := r1.1, ke := r2.1.1, ki := r2.1.2 } : Wr), r2.2) := by { rw [body_14 (by omega), hr2, hr1]; rfl }
               rw [hp]
               refine AWP.region ?_
               refine n_move rfl n0WoA ?_
               refine n_load rfl ti63 n0WoA n0WoA rfl n0WoA ?_
               refine n_callBoxB rfl cf58 rfl e1WoA r2WoA (by rfl) r2WoA (d2) x3WoA l4WoA n0WoA ?_
               refine n_nilCheck rfl n0WoA rfl ?_
               refine n_fieldAddr rfl fd33_9 ti28 rfl n0WoA rfl n0WoA ?_
               refine n_store ti28 n0WoA rfl n0WoA rfl n0WoA rfl rfl rfl n0WoA ?_
               refine AOps.nil ?_
               refine Fin.normal ?_
               refine fin_box2 .nil n0WoA ?_ rfl rfl ?_ ?_
               · exact .lf (.tup lf_nil)
               · exact renU rfl rfl
               repeat (first | exact .nil | refine .cons ?_ ?_ | exact .lf (.val _) | exact ren_map (f := q1) (fun _ => rfl) | exact ren_map (f := q2) (fun _ => rfl) | exact ren_map (f := q4) (fun _ => rfl) | exact ren_mapG qt_lf | exact .ro (fun x h => by cases h) | exact ren_ints)
             · try simp only [nh] at hc7
               try simp only [wr0] at hc7
               have hp : Codec.get (bodyC kk rr) u = (({ wr0 kk rr with ep := r1.1 } : Wr), r1.2) := by { rw [body_x (by omega), hr1]; rfl }
               rw [hp]
               refine AWP.skip ?_
               refine Fin.normal ?_
               refine fin_box2 .nil n0WoA ?_ rfl rfl ?_ ?_
               · exact .lf (.tup lf_nil)
               · exact renU rfl rfl
               · repeat (first | exact .nil | refine .cons ?_ ?_ | exact .lf (.val _) | exact ren_map (f := q1) (fun _ => rfl) | exact ren_map (f := q2) (fun _ => rfl) | exact ren_map (f := q4) (fun _ => rfl) | exact ren_mapG qt_lf | exact .ro (fun x h => by cases h) | exact ren_ints)

end Go.Proofs.YtanfmpkjcoolmaaGreat.Wo
