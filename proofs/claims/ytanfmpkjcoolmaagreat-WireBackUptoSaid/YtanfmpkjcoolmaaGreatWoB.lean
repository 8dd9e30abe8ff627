/- Messages read. -/
import Derived.Test.YtanfmpkjcoolmaaGreatPlainA
import Derived.Test.YtanfmpkjcoolmaaGreatWoA
set_option linter.unusedVariables false
set_option linter.unusedSimpArgs false
namespace Go.Proofs.YtanfmpkjcoolmaaGreat.Wo
open Go Go.Abs Go.Proofs.YtanfmpkjcoolmaaGreat.Pk Wa Wb Wh Wl Wn Codec
attribute [local irreducible] AWP AOps Does

theorem n0WoB {α : Type} {a b : α} (h : a = b := by first|simp only[nf,Nat.beq]<;>rfl|rfl) : a = b := h
theorem e1WoB {α : Type} {a b : α} (h : a = b := by exact Eq.trans (by simp only [nl] <;> rfl) n0WoB) : a = b := h
theorem r2WoB {ρ σ : Nat → Nat → Prop} {a b : List D} (h : RenAll ρ σ a b := by repeat (first | exact .nil | refine .cons ?_ ?_ | exact ren_ints | exact .lf (.val _) | exact .lf (lf_ints (.inl rfl)) | exact .bp ⟨rfl, rfl⟩ | exact .bp (.inl ⟨rfl, rfl⟩) | exact .bp (.inr ⟨rfl, rfl⟩) | exact .agg rfl (RenAll.get (.cons (.bp ⟨rfl, rfl⟩) .nil)) | exact .agg rfl (RenAll.get (.cons (.bp (.inl ⟨rfl, rfl⟩)) .nil)) | exact .fn rfl rfl (RenAll.get (.cons (.agg rfl (RenAll.get (.cons (.bp ⟨rfl, rfl⟩) .nil))) .nil)) (RenAll.get .nil) | exact .lf (wz_lf _) | exact .agg rfl (RenAll.get (by repeat (first | exact .nil | refine .cons ?_ ?_ | exact .lf (.val _) | exact ren_map (f := q1) (fun _ => rfl) | exact ren_map (f := q2) (fun _ => rfl) | exact ren_map (f := q4) (fun _ => rfl) | exact ren_mapG qt_lf | exact .ro (fun x h => by cases h) | exact ren_ints))) | exact .lf (txz_lf _) | exact .lf (.agg (qt_lf _)) | exact ren_bys0 rfl | exact .lf lf_fnz | exact .lf (D.flat_lf rfl) | exact ren_lits rfl)) : RenAll ρ σ a b := h
theorem r3WoB {ρ σ : Nat → Nat → Prop} {a b : List D} (h : RenAll ρ σ a b := by repeat (first | exact .nil | refine .cons ?_ ?_ | exact .lf (.val _) | exact ren_map (f := q1) (fun _ => rfl) | exact ren_map (f := q2) (fun _ => rfl) | exact ren_map (f := q4) (fun _ => rfl) | exact ren_mapG qt_lf | exact .ro (fun x h => by cases h) | exact ren_ints)) : RenAll ρ σ a b := h
theorem x4WoB {a : List D} (h : ∀ d ∈ a, LF d := by repeat (first | exact lf_nil | refine lf_cons ?_ ?_ | exact .val _ | exact lf_ints (.inl rfl))) : ∀ d ∈ a, LF d := h
theorem x5WoB {a : List D} (h : ∀ d ∈ a, LF d := by first | exact wz_lfx _ | repeat (first | exact lf_nil | refine lf_cons ?_ ?_ | exact .val _ | exact lf_ints (.inl rfl))) : ∀ d ∈ a, LF d := h
theorem l6WoB {d : D} (h : LF d := by first | exact .val _ | exact lf_ints (.inl rfl) | exact lf_ints (.inr rfl) | exact .any | exact wz_lf _ | exact txz_lf _ | exact .agg (qt_lf _) | exact lf_mapG qt_lf (.inl rfl) | exact lf_map (f := q1) (fun _ => rfl) (.inl rfl) | exact lf_map (f := q2) (fun _ => rfl) (.inl rfl) | exact lf_map (f := q4) (fun _ => rfl) (.inl rfl) | exact .tup (lf_cons (txz_lf _) (lf_cons (.val _) lf_nil)) | exact .tup (lf_cons (.agg (qt_lf _)) (lf_cons (.val _) lf_nil)) | exact .tup (lf_cons (.agg (lf_cons (.val _) (lf_cons (.val _) (lf_cons (.val _) (lf_cons (.val _) lf_nil))))) (lf_cons (.val _) lf_nil)) | exact .agg (lf_cons (.val _) (lf_cons (.val _) lf_nil)) | exact .agg (lf_cons (.val _) (lf_cons (.val _) (lf_cons (.val _) (lf_cons (.val _) lf_nil)))) | exact .tup lf_nil | exact .tup (lf_cons (lf_ints (.inl rfl)) (lf_cons (.val _) lf_nil)) | exact D.flat_lf rfl) : LF d := h
set_option maxHeartbeats 4000000 in
theorem l_message (u : Up) (hu : u.ok) : Does Tryz.prog 21 [.agg [.bp 0 0]] [.box (Up.z u)] (.agg (wz (Codec.get msgC u).1)) [.box (Up.z (Codec.get msgC u).2)] := by
 refine Does.of_body (rvs := [.cell 2 33]) Tryz.func21 rfl rfl rfl rfl ?_
 obtain ⟨r1, hr1⟩ : ∃ r, r = Codec.get (Codec.int 1 20) u := ⟨_, rfl⟩
 have ok1 : r1.2.ok := by rw [hr1]; exact int_kp u hu
 have d1 := U_C 1 20 u hu
 rw [← hr1] at d1
 obtain ⟨r2, hr2⟩ : ∃ r, r = Codec.get regC r1.2 := ⟨_, rfl⟩
 have ok2 : r2.2.ok := by rw [hr2]; exact int_kp r1.2 ok1
 have d2 := U_C 0 1 r1.2 ok1
 rw [← hr2] at d2
 have hrg := int_rng0 (by decide) (by decide) hr1
 have hp0 : Codec.get msgC u = Codec.get (bodyC r1.1 r2.1) r2.2 := by { rw [hr2, hr1]; rfl }
 refine AWP.sr ?_
 refine n_box rfl n0WoB rfl rfl n0WoB n0WoB ?_
 refine n_alloc rfl zi33 rfl n0WoB n0WoB ?_
 refine AOps.nil ?_
 refine AWP.sr ?_
 refine n_fieldAddr rfl fd63_0 ti60 rfl n0WoB rfl n0WoB ?_
 refine n_load rfl ti60 n0WoB n0WoB rfl n0WoB ?_
 refine n_callBoxB rfl cf50 rfl e1WoB r2WoB (by rfl) r2WoB (d1) x4WoB l6WoB n0WoB ?_
 refine n_build rfl si33 e1WoB e1WoB rfl ?_
 refine n_alloc rfl zi33 rfl n0WoB n0WoB ?_
 refine n_store ti33 n0WoB rfl n0WoB rfl n0WoB rfl rfl rfl n0WoB ?_
 refine AOps.nil ?_
 refine AWP.sr ?_
 refine n_fieldAddr rfl fd63_0 ti60 rfl n0WoB rfl n0WoB ?_
 refine n_load rfl ti60 n0WoB n0WoB rfl n0WoB ?_
 refine n_callBoxB rfl cf50 rfl e1WoB r2WoB (by rfl) r2WoB (d2) x4WoB l6WoB n0WoB ?_
 refine n_fieldAddr rfl fd33_1 ti3 rfl n0WoB rfl n0WoB ?_
 refine n_store ti3 n0WoB rfl n0WoB rfl n0WoB rfl rfl rfl n0WoB ?_
 refine AOps.nil ?_
 refine AWP.seq ?_
 refine AWP.sr ?_
 refine n_fieldAddr rfl fd33_0 ti3 rfl n0WoB rfl n0WoB ?_
 refine n_load rfl ti3 n0WoB n0WoB rfl n0WoB ?_
 refine n_ibin rfl n0WoB n0WoB rfl ?_
 refine AOps.nil ?_
 refine AWP.cond n0WoB (fun hc1 => ?_) (fun hc1 => ?_)
 · try simp only [nh] at hc1
   have d3 := l_reg r2.2 ok2 r1.1 r2.1 (by omega)
   rw [← hp0] at d3
   obtain ⟨r3, hr3⟩ : ∃ r, r = Codec.get msgC u := ⟨_, rfl⟩
   rw [← hr3] at d3 ⊢
   refine AWP.sr ?_
   refine n_load rfl ti63 n0WoB n0WoB rfl n0WoB ?_
   refine n_callBoxes rfl cf51 rfl e1WoB r2WoB (by rfl) r2WoB (by rfl) (by rfl) r2WoB (d3) x5WoB x5WoB l6WoB n0WoB ?_
   refine AOps.nil ?_
   refine AWP.sr ?_
   refine n_load rfl ti33 n0WoB n0WoB rfl n0WoB ?_
   refine n_store ti33 n0WoB rfl n0WoB rfl n0WoB rfl rfl rfl n0WoB ?_
   refine AOps.nil ?_
   refine AWP.ret ?_
   refine fin_box (.cons (rv_cell ti33 n0WoB n0WoB rfl n0WoB) .nil) n0WoB ?_ rfl ?_
   · first | exact .lf (wz_lf _) | exact .agg rfl (RenAll.get r3WoB)
   exact renU rfl rfl
 · try simp only [nh] at hc1
   obtain ⟨r3, hr3⟩ : ∃ r, r = Codec.get posC r2.2 := ⟨_, rfl⟩
   have ok3 : r3.2.ok := by rw [hr3]; exact int_kp r2.2 ok2
   have d3 := l_pos r2.2 ok2
   rw [← hr3] at d3
   refine AWP.skip ?_
   refine AWP.sr ?_
   refine n_load rfl ti63 n0WoB n0WoB rfl n0WoB ?_
   refine n_callBoxB rfl cf52 rfl e1WoB r2WoB (by rfl) r2WoB (d3) x4WoB l6WoB n0WoB ?_
   refine n_fieldAddr rfl fd33_2 ti2 rfl n0WoB rfl n0WoB ?_
   refine n_store ti2 n0WoB rfl n0WoB rfl n0WoB rfl rfl rfl n0WoB ?_
   refine AOps.nil ?_
   refine AWP.seq ?_
   refine AWP.sr ?_
   refine n_fieldAddr rfl fd33_0 ti3 rfl n0WoB rfl n0WoB ?_
   refine n_load rfl ti3 n0WoB n0WoB rfl n0WoB ?_
   refine AOps.nil ?_
   refine AWP.block ?_
   refine AWP.seq ?_
   refine AWP.sr ?_
   refine n_ibin rfl n0WoB n0WoB rfl ?_
   refine n_assign rfl n0WoB ?_
   refine AOps.nil ?_
   refine AWP.cond n0WoB (fun hc2 => ?_) (fun hc2 => ?_)
   · try simp only [nh] at hc2
     obtain ⟨r4, hr4⟩ : ∃ r, r = Codec.get posC r3.2 := ⟨_, rfl⟩
     have ok4 : r4.2.ok := by rw [hr4]; exact int_kp r3.2 ok3
     have d4 := l_pos r3.2 ok3
     rw [← hr4] at d4
     have hp : Codec.get msgC u = (({ wr0 r1.1 r2.1 with rq := r3.1, ep := r4.1 } : Wr), r4.2) := by { rw [hp0]; rw [body_1 (by omega)]; rw [hr4, hr3]; rfl }
     rw [hp]
     refine AWP.skip ?_
     refine AWP.condT n0WoB (by simp [hc2]) ?_
     refine AWP.region ?_
     refine n_load rfl ti63 n0WoB n0WoB rfl n0WoB ?_
     refine n_callBoxB rfl cf52 rfl e1WoB r2WoB (by rfl) r2WoB (d4) x4WoB l6WoB n0WoB ?_
     refine n_fieldAddr rfl fd33_3 ti2 rfl n0WoB rfl n0WoB ?_
     refine n_store ti2 n0WoB rfl n0WoB rfl n0WoB rfl rfl rfl n0WoB ?_
     refine AOps.nil ?_
     refine AWP.sr ?_
     refine n_load rfl ti33 n0WoB n0WoB rfl n0WoB ?_
     refine n_store ti33 n0WoB rfl n0WoB rfl n0WoB rfl rfl rfl n0WoB ?_
     refine AOps.nil ?_
     refine AWP.ret ?_
     refine fin_box (.cons (rv_cell ti33 n0WoB n0WoB rfl n0WoB) .nil) n0WoB ?_ rfl ?_
     · first | exact .lf (wz_lf _) | exact .agg rfl (RenAll.get r3WoB)
     exact renU rfl rfl
   · try simp only [nh] at hc2
     refine AWP.sr ?_
     refine n_ibin rfl n0WoB n0WoB rfl ?_
     refine n_assign rfl n0WoB ?_
     refine AOps.nil ?_
     refine AWP.cond n0WoB (fun hc4 => ?_) (fun hc4 => ?_)
     · try simp only [nh] at hc4
       obtain ⟨r4, hr4⟩ : ∃ r, r = Codec.get posC r3.2 := ⟨_, rfl⟩
       have ok4 : r4.2.ok := by rw [hr4]; exact int_kp r3.2 ok3
       have d4 := l_pos r3.2 ok3
       rw [← hr4] at d4
       have hp : Codec.get msgC u = (({ wr0 r1.1 r2.1 with rq := r3.1, ep := r4.1 } : Wr), r4.2) := by { rw [hp0]; rw [body_1 (by omega)]; rw [hr4, hr3]; rfl }
       rw [hp]
       refine AWP.skip ?_
       refine AWP.condT n0WoB (by simp [hc4]) ?_
       refine AWP.region ?_
       refine n_load rfl ti63 n0WoB n0WoB rfl n0WoB ?_
       refine n_callBoxB rfl cf52 rfl e1WoB r2WoB (by rfl) r2WoB (d4) x4WoB l6WoB n0WoB ?_
       refine n_fieldAddr rfl fd33_3 ti2 rfl n0WoB rfl n0WoB ?_
       refine n_store ti2 n0WoB rfl n0WoB rfl n0WoB rfl rfl rfl n0WoB ?_
       refine AOps.nil ?_
       refine AWP.sr ?_
       refine n_load rfl ti33 n0WoB n0WoB rfl n0WoB ?_
       refine n_store ti33 n0WoB rfl n0WoB rfl n0WoB rfl rfl rfl n0WoB ?_
       refine AOps.nil ?_
       refine AWP.ret ?_
       refine fin_box (.cons (rv_cell ti33 n0WoB n0WoB rfl n0WoB) .nil) n0WoB ?_ rfl ?_
       · first | exact .lf (wz_lf _) | exact .agg rfl (RenAll.get r3WoB)
       exact renU rfl rfl
     · try simp only [nh] at hc4
       refine AWP.region ?_
       refine n_ibin rfl n0WoB n0WoB rfl ?_
       refine n_assign rfl n0WoB ?_
       refine AOps.nil ?_
       refine AWP.cond n0WoB (fun hc6 => ?_) (fun hc6 => ?_)
       · try simp only [nh] at hc6
         obtain ⟨r4, hr4⟩ : ∃ r, r = Codec.get posC r3.2 := ⟨_, rfl⟩
         have ok4 : r4.2.ok := by rw [hr4]; exact int_kp r3.2 ok3
         have d4 := l_pos r3.2 ok3
         rw [← hr4] at d4
         have hp : Codec.get msgC u = (({ wr0 r1.1 r2.1 with rq := r3.1, ep := r4.1 } : Wr), r4.2) := by { rw [hp0]; rw [body_1 (by omega)]; rw [hr4, hr3]; rfl }
         rw [hp]
         refine AWP.region ?_
         refine n_load rfl ti63 n0WoB n0WoB rfl n0WoB ?_
         refine n_callBoxB rfl cf52 rfl e1WoB r2WoB (by rfl) r2WoB (d4) x4WoB l6WoB n0WoB ?_
         refine n_fieldAddr rfl fd33_3 ti2 rfl n0WoB rfl n0WoB ?_
         refine n_store ti2 n0WoB rfl n0WoB rfl n0WoB rfl rfl rfl n0WoB ?_
         refine AOps.nil ?_
         refine AWP.sr ?_
         refine n_load rfl ti33 n0WoB n0WoB rfl n0WoB ?_
         refine n_store ti33 n0WoB rfl n0WoB rfl n0WoB rfl rfl rfl n0WoB ?_
         refine AOps.nil ?_
         refine AWP.ret ?_
         refine fin_box (.cons (rv_cell ti33 n0WoB n0WoB rfl n0WoB) .nil) n0WoB ?_ rfl ?_
         · first | exact .lf (wz_lf _) | exact .agg rfl (RenAll.get r3WoB)
         exact renU rfl rfl
       · try simp only [nh] at hc6
         refine AWP.sr ?_
         refine n_ibin rfl n0WoB n0WoB rfl ?_
         refine n_assign rfl n0WoB ?_
         refine AOps.nil ?_
         refine AWP.cond n0WoB (fun hc7 => ?_) (fun hc7 => ?_)
         · try simp only [nh] at hc7
           obtain ⟨r4, hr4⟩ : ∃ r, r = Codec.get posC r3.2 := ⟨_, rfl⟩
           have ok4 : r4.2.ok := by rw [hr4]; exact int_kp r3.2 ok3
           have d4 := l_pos r3.2 ok3
           rw [← hr4] at d4
           obtain ⟨r5, hr5⟩ : ∃ r, r = Codec.get regC r4.2 := ⟨_, rfl⟩
           have ok5 : r5.2.ok := by rw [hr5]; exact int_kp r4.2 ok4
           have d5 := U_C 0 1 r4.2 ok4
           rw [← hr5] at d5
           have hp : Codec.get msgC u = (({ wr0 r1.1 r2.1 with rq := r3.1, ep := r4.1, to := r5.1 } : Wr), r5.2) := by { rw [hp0]; rw [body_2 (by omega)]; rw [hr5, hr4, hr3]; rfl }
           rw [hp]
           refine AWP.sr ?_
           refine n_load rfl ti63 n0WoB n0WoB rfl n0WoB ?_
           refine n_callBoxB rfl cf52 rfl e1WoB r2WoB (by rfl) r2WoB (d4) x4WoB l6WoB n0WoB ?_
           refine n_fieldAddr rfl fd33_3 ti2 rfl n0WoB rfl n0WoB ?_
           refine n_store ti2 n0WoB rfl n0WoB rfl n0WoB rfl rfl rfl n0WoB ?_
           refine AOps.nil ?_
           refine AWP.region ?_
           refine n_fieldAddr rfl fd63_0 ti60 rfl n0WoB rfl n0WoB ?_
           refine n_load rfl ti60 n0WoB n0WoB rfl n0WoB ?_
           refine n_callBoxB rfl cf50 rfl e1WoB r2WoB (by rfl) r2WoB (d5) x4WoB l6WoB n0WoB ?_
           refine n_fieldAddr rfl fd33_4 ti3 rfl n0WoB rfl n0WoB ?_
           refine n_store ti3 n0WoB rfl n0WoB rfl n0WoB rfl rfl rfl n0WoB ?_
           refine AOps.nil ?_
           refine AWP.sr ?_
           refine n_load rfl ti33 n0WoB n0WoB rfl n0WoB ?_
           refine n_store ti33 n0WoB rfl n0WoB rfl n0WoB rfl rfl rfl n0WoB ?_
           refine AOps.nil ?_
           refine AWP.ret ?_
           refine fin_box (.cons (rv_cell ti33 n0WoB n0WoB rfl n0WoB) .nil) n0WoB ?_ rfl ?_
           · first | exact .lf (wz_lf _) | exact .agg rfl (RenAll.get r3WoB)
           exact renU rfl rfl
         · try simp only [nh] at hc7
           refine AWP.sr ?_
           refine n_ibin rfl n0WoB n0WoB rfl ?_
           refine n_assign rfl n0WoB ?_
           refine AOps.nil ?_
           refine AWP.cond n0WoB (fun hc8 => ?_) (fun hc8 => ?_)
           · try simp only [nh] at hc8
             obtain ⟨r4, hr4⟩ : ∃ r, r = Codec.get posC r3.2 := ⟨_, rfl⟩
             have ok4 : r4.2.ok := by rw [hr4]; exact int_kp r3.2 ok3
             have d4 := l_pos r3.2 ok3
             rw [← hr4] at d4
             obtain ⟨r5, hr5⟩ : ∃ r, r = Codec.get flagC r4.2 := ⟨_, rfl⟩
             have ok5 : r5.2.ok := by rw [hr5]; exact flag_kp r4.2 ok4
             have d5 := U_F r4.2 ok4
             rw [← hr5] at d5
             have hp : Codec.get msgC u = (({ wr0 r1.1 r2.1 with rq := r3.1, ep := r4.1, fl := r5.1 } : Wr), r5.2) := by { rw [hp0]; rw [body_3 (by omega)]; rw [hr5, hr4, hr3]; rfl }
             rw [hp]
             refine AWP.sr ?_
             refine n_load rfl ti63 n0WoB n0WoB rfl n0WoB ?_
             refine n_callBoxB rfl cf52 rfl e1WoB r2WoB (by rfl) r2WoB (d4) x4WoB l6WoB n0WoB ?_
             refine n_fieldAddr rfl fd33_3 ti2 rfl n0WoB rfl n0WoB ?_
             refine n_store ti2 n0WoB rfl n0WoB rfl n0WoB rfl rfl rfl n0WoB ?_
             refine AOps.nil ?_
             refine AWP.region ?_
             refine n_fieldAddr rfl fd63_0 ti60 rfl n0WoB rfl n0WoB ?_
             refine n_load rfl ti60 n0WoB n0WoB rfl n0WoB ?_
             refine n_callBoxB rfl cf53 rfl e1WoB r2WoB (by rfl) r2WoB (d5) x4WoB l6WoB n0WoB ?_
             refine n_fieldAddr rfl fd33_6 ti4 rfl n0WoB rfl n0WoB ?_
             refine n_store ti4 n0WoB rfl n0WoB rfl n0WoB rfl rfl rfl n0WoB ?_
             refine AOps.nil ?_
             refine AWP.sr ?_
             refine n_load rfl ti33 n0WoB n0WoB rfl n0WoB ?_
             refine n_store ti33 n0WoB rfl n0WoB rfl n0WoB rfl rfl rfl n0WoB ?_
             refine AOps.nil ?_
             refine AWP.ret ?_
             refine fin_box (.cons (rv_cell ti33 n0WoB n0WoB rfl n0WoB) .nil) n0WoB ?_ rfl ?_
             · first | exact .lf (wz_lf _) | exact .agg rfl (RenAll.get r3WoB)
             exact renU rfl rfl
           · try simp only [nh] at hc8
             refine AWP.sr ?_
             refine n_ibin rfl n0WoB n0WoB rfl ?_
             refine n_assign rfl n0WoB ?_
             refine AOps.nil ?_
             refine AWP.cond n0WoB (fun hc9 => ?_) (fun hc9 => ?_)
             · try simp only [nh] at hc9
               obtain ⟨r4, hr4⟩ : ∃ r, r = Codec.get (Codec.int 1 5) r3.2 := ⟨_, rfl⟩
               have ok4 : r4.2.ok := by rw [hr4]; exact int_kp r3.2 ok3
               have d4 := U_C 1 5 r3.2 ok3
               rw [← hr4] at d4
               obtain ⟨r5, hr5⟩ : ∃ r, r = Codec.get numC r4.2 := ⟨_, rfl⟩
               have ok5 : r5.2.ok := by rw [hr5]; exact int_kp r4.2 ok4
               have d5 := l_num r4.2 ok4
               rw [← hr5] at d5
               obtain ⟨r6, hr6⟩ : ∃ r, r = Codec.get flagC r5.2 := ⟨_, rfl⟩
               have ok6 : r6.2.ok := by rw [hr6]; exact flag_kp r5.2 ok5
               have d6 := U_F r5.2 ok5
               rw [← hr6] at d6
               obtain ⟨r7, hr7⟩ : ∃ r, r = Codec.get errC r6.2 := ⟨_, rfl⟩
               have ok7 : r7.2.ok := by rw [hr7]; exact int_kp r6.2 ok6
               have d7 := l_errno r6.2 ok6
               rw [← hr7] at d7
               have hp : Codec.get msgC u = (({ wr0 r1.1 r2.1 with rq := r3.1, dd := r4.1, ep := r5.1, fl := r6.1, er := r7.1 } : Wr), r7.2) := by { rw [hp0]; rw [body_4 (by omega)]; rw [hr7, hr6, hr5, hr4, hr3]; rfl }
               rw [hp]
               refine AWP.sr ?_
               refine n_fieldAddr rfl fd63_0 ti60 rfl n0WoB rfl n0WoB ?_
               refine n_load rfl ti60 n0WoB n0WoB rfl n0WoB ?_
               refine n_callBoxB rfl cf50 rfl e1WoB r2WoB (by rfl) r2WoB (d4) x4WoB l6WoB n0WoB ?_
               refine n_fieldAddr rfl fd33_5 ti3 rfl n0WoB rfl n0WoB ?_
               refine n_store ti3 n0WoB rfl n0WoB rfl n0WoB rfl rfl rfl n0WoB ?_
               refine AOps.nil ?_
               refine AWP.sr ?_
               refine n_load rfl ti63 n0WoB n0WoB rfl n0WoB ?_
               refine n_callBoxB rfl cf54 rfl e1WoB r2WoB (by rfl) r2WoB (d5) x4WoB l6WoB n0WoB ?_
               refine n_fieldAddr rfl fd33_3 ti2 rfl n0WoB rfl n0WoB ?_
               refine n_store ti2 n0WoB rfl n0WoB rfl n0WoB rfl rfl rfl n0WoB ?_
               refine AOps.nil ?_
               refine AWP.sr ?_
               refine n_fieldAddr rfl fd63_0 ti60 rfl n0WoB rfl n0WoB ?_
               refine n_load rfl ti60 n0WoB n0WoB rfl n0WoB ?_
               refine n_callBoxB rfl cf53 rfl e1WoB r2WoB (by rfl) r2WoB (d6) x4WoB l6WoB n0WoB ?_
               refine n_fieldAddr rfl fd33_6 ti4 rfl n0WoB rfl n0WoB ?_
               refine n_store ti4 n0WoB rfl n0WoB rfl n0WoB rfl rfl rfl n0WoB ?_
               refine AOps.nil ?_
               refine AWP.region ?_
               refine n_load rfl ti63 n0WoB n0WoB rfl n0WoB ?_
               refine n_callBoxB rfl cf55 rfl e1WoB r2WoB (by rfl) r2WoB (d7) x4WoB l6WoB n0WoB ?_
               refine n_fieldAddr rfl fd33_7 ti22 rfl n0WoB rfl n0WoB ?_
               refine n_store ti22 n0WoB rfl n0WoB rfl n0WoB rfl rfl rfl n0WoB ?_
               refine AOps.nil ?_
               refine AWP.sr ?_
               refine n_load rfl ti33 n0WoB n0WoB rfl n0WoB ?_
               refine n_store ti33 n0WoB rfl n0WoB rfl n0WoB rfl rfl rfl n0WoB ?_
               refine AOps.nil ?_
               refine AWP.ret ?_
               refine fin_box (.cons (rv_cell ti33 n0WoB n0WoB rfl n0WoB) .nil) n0WoB ?_ rfl ?_
               · first | exact .lf (wz_lf _) | exact .agg rfl (RenAll.get r3WoB)
               exact renU rfl rfl
             · try simp only [nh] at hc9
               refine AWP.sr ?_
               refine n_ibin rfl n0WoB n0WoB rfl ?_
               refine n_assign rfl n0WoB ?_
               refine AOps.nil ?_
               refine AWP.cond n0WoB (fun hc10 => ?_) (fun hc10 => ?_)
               · try simp only [nh] at hc10
                 obtain ⟨r4, hr4⟩ : ∃ r, r = Codec.get txC r3.2 := ⟨_, rfl⟩
                 have ok4 : r4.2.ok := by rw [hr4]; exact tx_kp r3.2 ok3
                 have d4 := l_wtx r3.2 ok3
                 rw [← hr4] at d4
                 have hp : Codec.get msgC u = (({ wr0 r1.1 r2.1 with rq := r3.1, tx := r4.1 } : Wr), r4.2) := by { rw [hp0]; rw [body_5 (by omega)]; rw [hr4, hr3]; rfl }
                 rw [hp]
                 refine AWP.region ?_
                 refine n_load rfl ti63 n0WoB n0WoB rfl n0WoB ?_
                 refine n_callBoxB rfl cf56 rfl e1WoB r2WoB (by rfl) r2WoB (d4) x4WoB l6WoB n0WoB ?_
                 refine n_fieldAddr rfl fd33_8 ti26 rfl n0WoB rfl n0WoB ?_
                 refine n_store ti26 n0WoB rfl n0WoB rfl n0WoB rfl rfl rfl n0WoB ?_
                 refine AOps.nil ?_
                 refine AWP.sr ?_
                 refine n_load rfl ti33 n0WoB n0WoB rfl n0WoB ?_
                 refine n_store ti33 n0WoB rfl n0WoB rfl n0WoB rfl rfl rfl n0WoB ?_
                 refine AOps.nil ?_
                 refine AWP.ret ?_
                 refine fin_box (.cons (rv_cell ti33 n0WoB n0WoB rfl n0WoB) .nil) n0WoB ?_ rfl ?_
                 · first | exact .lf (wz_lf _) | exact .agg rfl (RenAll.get r3WoB)
                 exact renU rfl rfl
               · try simp only [nh] at hc10
                 refine AWP.seq ?_
                 refine AWP.sr ?_
                 refine n_ibin rfl n0WoB n0WoB rfl ?_
                 refine n_assign rfl n0WoB ?_
                 refine AOps.nil ?_
                 refine AWP.cond n0WoB (fun hc11 => ?_) (fun hc11 => ?_)
                 · try simp only [nh] at hc11
                   obtain ⟨r4, hr4⟩ : ∃ r, r = Codec.get keyC r3.2 := ⟨_, rfl⟩
                   have ok4 : r4.2.ok := by rw [hr4]; exact key_kp r3.2 ok3
                   have d4 := l_key r3.2 ok3
                   rw [← hr4] at d4
                   have hp : Codec.get msgC u = (({ wr0 r1.1 r2.1 with rq := r3.1, ke := r4.1.1, ki := r4.1.2 } : Wr), r4.2) := by { rw [hp0]; rw [body_6 (by omega)]; rw [hr4, hr3]; rfl }
                   rw [hp]
                   refine AWP.skip ?_
                   refine AWP.condT n0WoB (by simp [hc11]) ?_
                   refine AWP.region ?_
                   refine n_load rfl ti63 n0WoB n0WoB rfl n0WoB ?_
                   refine n_callBoxB rfl cf58 rfl e1WoB r2WoB (by rfl) r2WoB (d4) x4WoB l6WoB n0WoB ?_
                   refine n_fieldAddr rfl fd33_9 ti28 rfl n0WoB rfl n0WoB ?_
                   refine n_store ti28 n0WoB rfl n0WoB rfl n0WoB rfl rfl rfl n0WoB ?_
                   refine AOps.nil ?_
                   refine AWP.sr ?_
                   refine n_load rfl ti33 n0WoB n0WoB rfl n0WoB ?_
                   refine n_store ti33 n0WoB rfl n0WoB rfl n0WoB rfl rfl rfl n0WoB ?_
                   refine AOps.nil ?_
                   refine AWP.ret ?_
                   refine fin_box (.cons (rv_cell ti33 n0WoB n0WoB rfl n0WoB) .nil) n0WoB ?_ rfl ?_
                   · first | exact .lf (wz_lf _) | exact .agg rfl (RenAll.get r3WoB)
                   exact renU rfl rfl
                 · try simp only [nh] at hc11
                   refine AWP.region ?_
                   refine n_ibin rfl n0WoB n0WoB rfl ?_
                   refine n_assign rfl n0WoB ?_
                   refine AOps.nil ?_
                   refine AWP.cond n0WoB (fun hc13 => ?_) (fun hc13 => ?_)
                   · try simp only [nh] at hc13
                     obtain ⟨r4, hr4⟩ : ∃ r, r = Codec.get keyC r3.2 := ⟨_, rfl⟩
                     have ok4 : r4.2.ok := by rw [hr4]; exact key_kp r3.2 ok3
                     have d4 := l_key r3.2 ok3
                     rw [← hr4] at d4
                     have hp : Codec.get msgC u = (({ wr0 r1.1 r2.1 with rq := r3.1, ke := r4.1.1, ki := r4.1.2 } : Wr), r4.2) := by { rw [hp0]; rw [body_6 (by omega)]; rw [hr4, hr3]; rfl }
                     rw [hp]
                     refine AWP.region ?_
                     refine n_load rfl ti63 n0WoB n0WoB rfl n0WoB ?_
                     refine n_callBoxB rfl cf58 rfl e1WoB r2WoB (by rfl) r2WoB (d4) x4WoB l6WoB n0WoB ?_
                     refine n_fieldAddr rfl fd33_9 ti28 rfl n0WoB rfl n0WoB ?_
                     refine n_store ti28 n0WoB rfl n0WoB rfl n0WoB rfl rfl rfl n0WoB ?_
                     refine AOps.nil ?_
                     refine AWP.sr ?_
                     refine n_load rfl ti33 n0WoB n0WoB rfl n0WoB ?_
                     refine n_store ti33 n0WoB rfl n0WoB rfl n0WoB rfl rfl rfl n0WoB ?_
                     refine AOps.nil ?_
                     refine AWP.ret ?_
                     refine fin_box (.cons (rv_cell ti33 n0WoB n0WoB rfl n0WoB) .nil) n0WoB ?_ rfl ?_
                     · first | exact .lf (wz_lf _) | exact .agg rfl (RenAll.get r3WoB)
                     exact renU rfl rfl
                   · try simp only [nh] at hc13
                     refine AWP.sr ?_
                     refine n_ibin rfl n0WoB n0WoB rfl ?_
                     refine n_assign rfl n0WoB ?_
                     refine AOps.nil ?_
                     refine AWP.cond n0WoB (fun hc14 => ?_) (fun hc14 => ?_)
                     · try simp only [nh] at hc14
                       obtain ⟨r4, hr4⟩ : ∃ r, r = Codec.get (Codec.int 7 11) r3.2 := ⟨_, rfl⟩
                       have ok4 : r4.2.ok := by rw [hr4]; exact int_kp r3.2 ok3
                       have d4 := U_C 7 11 r3.2 ok3
                       rw [← hr4] at d4
                       obtain ⟨r5, hr5⟩ : ∃ r, r = Codec.get numC r4.2 := ⟨_, rfl⟩
                       have ok5 : r5.2.ok := by rw [hr5]; exact int_kp r4.2 ok4
                       have d5 := l_num r4.2 ok4
                       rw [← hr5] at d5
                       obtain ⟨r6, hr6⟩ : ∃ r, r = Codec.get numC r5.2 := ⟨_, rfl⟩
                       have ok6 : r6.2.ok := by rw [hr6]; exact int_kp r5.2 ok5
                       have d6 := l_num r5.2 ok5
                       rw [← hr6] at d6
                       obtain ⟨r7, hr7⟩ : ∃ r, r = Codec.get numC r6.2 := ⟨_, rfl⟩
                       have ok7 : r7.2.ok := by rw [hr7]; exact int_kp r6.2 ok6
                       have d7 := l_num r6.2 ok6
                       rw [← hr7] at d7
                       obtain ⟨r8, hr8⟩ : ∃ r, r = Codec.get numC r7.2 := ⟨_, rfl⟩
                       have ok8 : r8.2.ok := by rw [hr8]; exact int_kp r7.2 ok7
                       have d8 := l_num r7.2 ok7
                       rw [← hr8] at d8
                       obtain ⟨r9, hr9⟩ : ∃ r, r = Codec.get vecC r8.2 := ⟨_, rfl⟩
                       have ok9 : r9.2.ok := by rw [hr9]; exact vec_kp r8.2 ok8
                       have d9 := l_vector r8.2 ok8
                       rw [← hr9] at d9
                       obtain ⟨r10, hr10⟩ : ∃ r, r = Codec.get errC r9.2 := ⟨_, rfl⟩
                       have ok10 : r10.2.ok := by rw [hr10]; exact int_kp r9.2 ok9
                       have d10 := l_errno r9.2 ok9
                       rw [← hr10] at d10
                       have hp : Codec.get msgC u = (({ wr0 r1.1 r2.1 with rq := r3.1, dd := r4.1, ke := r5.1, ki := r6.1, ep := r7.1, ln := r8.1, vc := r9.1, er := r10.1 } : Wr), r10.2) := by { rw [hp0]; rw [body_7 (by omega)]; rw [hr10, hr9, hr8, hr7, hr6, hr5, hr4, hr3]; rfl }
                       rw [hp]
                       refine AWP.sr ?_
                       refine n_fieldAddr rfl fd63_0 ti60 rfl n0WoB rfl n0WoB ?_
                       refine n_load rfl ti60 n0WoB n0WoB rfl n0WoB ?_
                       refine n_callBoxB rfl cf50 rfl e1WoB r2WoB (by rfl) r2WoB (d4) x4WoB l6WoB n0WoB ?_
                       refine n_fieldAddr rfl fd33_5 ti3 rfl n0WoB rfl n0WoB ?_
                       refine n_store ti3 n0WoB rfl n0WoB rfl n0WoB rfl rfl rfl n0WoB ?_
                       refine AOps.nil ?_
                       refine AWP.sr ?_
                       refine n_load rfl ti63 n0WoB n0WoB rfl n0WoB ?_
                       refine n_callBoxB rfl cf54 rfl e1WoB r2WoB (by rfl) r2WoB (d5) x4WoB l6WoB n0WoB ?_
                       refine n_fieldAddr rfl fd33_9 ti28 rfl n0WoB rfl n0WoB ?_
                       refine n_fieldAddr rfl fd28_0 ti2 rfl n0WoB rfl n0WoB ?_
                       refine n_store ti2 n0WoB rfl n0WoB rfl n0WoB rfl rfl rfl n0WoB ?_
                       refine AOps.nil ?_
                       refine AWP.sr ?_
                       refine n_load rfl ti63 n0WoB n0WoB rfl n0WoB ?_
                       refine n_callBoxB rfl cf54 rfl e1WoB r2WoB (by rfl) r2WoB (d6) x4WoB l6WoB n0WoB ?_
                       refine n_fieldAddr rfl fd33_9 ti28 rfl n0WoB rfl n0WoB ?_
                       refine n_fieldAddr rfl fd28_1 ti2 rfl n0WoB rfl n0WoB ?_
                       refine n_store ti2 n0WoB rfl n0WoB rfl n0WoB rfl rfl rfl n0WoB ?_
                       refine AOps.nil ?_
                       refine AWP.sr ?_
                       refine n_load rfl ti63 n0WoB n0WoB rfl n0WoB ?_
                       refine n_callBoxB rfl cf54 rfl e1WoB r2WoB (by rfl) r2WoB (d7) x4WoB l6WoB n0WoB ?_
                       refine n_fieldAddr rfl fd33_3 ti2 rfl n0WoB rfl n0WoB ?_
                       refine n_store ti2 n0WoB rfl n0WoB rfl n0WoB rfl rfl rfl n0WoB ?_
                       refine AOps.nil ?_
                       refine AWP.sr ?_
                       refine n_load rfl ti63 n0WoB n0WoB rfl n0WoB ?_
                       refine n_callBoxB rfl cf54 rfl e1WoB r2WoB (by rfl) r2WoB (d8) x4WoB l6WoB n0WoB ?_
                       refine n_fieldAddr rfl fd33_10 ti2 rfl n0WoB rfl n0WoB ?_
                       refine n_store ti2 n0WoB rfl n0WoB rfl n0WoB rfl rfl rfl n0WoB ?_
                       refine AOps.nil ?_
                       refine AWP.sr ?_
                       refine n_load rfl ti63 n0WoB n0WoB rfl n0WoB ?_
                       refine n_callBoxB rfl cf59 rfl e1WoB r2WoB (by rfl) r2WoB (d9) x4WoB l6WoB n0WoB ?_
                       refine n_fieldAddr rfl fd33_11 ti24 rfl n0WoB rfl n0WoB ?_
                       refine n_store ti24 n0WoB rfl n0WoB rfl n0WoB rfl rfl rfl n0WoB ?_
                       refine AOps.nil ?_
                       refine AWP.region ?_
                       refine n_load rfl ti63 n0WoB n0WoB rfl n0WoB ?_
                       refine n_callBoxB rfl cf55 rfl e1WoB r2WoB (by rfl) r2WoB (d10) x4WoB l6WoB n0WoB ?_
                       refine n_fieldAddr rfl fd33_7 ti22 rfl n0WoB rfl n0WoB ?_
                       refine n_store ti22 n0WoB rfl n0WoB rfl n0WoB rfl rfl rfl n0WoB ?_
                       refine AOps.nil ?_
                       refine AWP.sr ?_
                       refine n_load rfl ti33 n0WoB n0WoB rfl n0WoB ?_
                       refine n_store ti33 n0WoB rfl n0WoB rfl n0WoB rfl rfl rfl n0WoB ?_
                       refine AOps.nil ?_
                       refine AWP.ret ?_
                       refine fin_box (.cons (rv_cell ti33 n0WoB n0WoB rfl n0WoB) .nil) n0WoB ?_ rfl ?_
                       · first | exact .lf (wz_lf _) | exact .agg rfl (RenAll.get r3WoB)
                       exact renU rfl rfl
                     · try simp only [nh] at hc14
                       have hp : Codec.get msgC u = (({ wr0 r1.1 r2.1 with rq := r3.1 } : Wr), r3.2) := by { rw [hp0]; rcases (by omega : r1.1 < 1 ∨ (r1.1 = 1 ∨ r1.1 = 11)) with h9 | h9; all_goals ((first | rw [body_0 h9, hr3] | rw [body_y h9, hr3]); rfl) }
                       rw [hp]
                       refine AWP.skip ?_
                       refine AWP.sr ?_
                       refine n_load rfl ti33 n0WoB n0WoB rfl n0WoB ?_
                       refine n_store ti33 n0WoB rfl n0WoB rfl n0WoB rfl rfl rfl n0WoB ?_
                       refine AOps.nil ?_
                       refine AWP.ret ?_
                       refine fin_box (.cons (rv_cell ti33 n0WoB n0WoB rfl n0WoB) .nil) n0WoB ?_ rfl ?_
                       · first | exact .lf (wz_lf _) | exact .agg rfl (RenAll.get r3WoB)
                       · exact renU rfl rfl

set_option maxHeartbeats 2000000 in
theorem l_parse (b : List Int) (hb : Byt b) (hl : L40 b) : Does Tryz.prog 7 [bys b] [] (.tup [.agg (wz (parW b).1), vi (parW b).2]) [] := by
 refine Does.of_body (rvs := [.cell 2 33, .tmp 3]) Tryz.func7 rfl rfl rfl rfl ?_
 have ho := u_open b hl
 obtain ⟨r1, hr1⟩ : ∃ r, r = Codec.get msgC ⟨b, 0⟩ := ⟨_, rfl⟩
 have d1 := l_message ⟨b, 0⟩ ⟨hb, hl⟩
 have hcl := read_in hb
 rw [← hr1] at d1 hcl
 have cc := Rd.U_close r1.2
 have hp : parW b = if b.length > 131072 then (wz0, 3) else if r1.2.close ≠ 0 then (wz0, r1.2.close) else if chkW r1.1 ≠ 0 then (wz0, chkW r1.1) else (r1.1, 0) := by { unfold parW; rw [hr1] }
 refine AWP.sr ?_
 refine n_alloc rfl zi33 rfl n0WoB n0WoB ?_
 refine n_assign rfl n0WoB ?_
 refine AOps.nil ?_
 refine AWP.seq ?_
 refine AWP.sr ?_
 refine n_move rfl n0WoB ?_
 refine n_len rfl Tryz.underlying31 n0WoB (by first | rw [ints_length] | rw [List.length_map] | rfl) ?_
 refine n_ibin rfl n0WoB n0WoB rfl ?_
 refine AOps.nil ?_
 refine AWP.cond n0WoB (fun hc1 => ?_) (fun hc1 => ?_)
 · try simp only [nh] at hc1
   rw [if_pos (by omega)] at hp
   rw [hp]
   refine AWP.sr ?_
   refine n_build rfl si33 e1WoB e1WoB rfl ?_
   refine n_store ti33 n0WoB rfl n0WoB rfl n0WoB rfl rfl rfl n0WoB ?_
   refine n_assign rfl n0WoB ?_
   refine AOps.nil ?_
   refine AWP.ret ?_
   refine fin_pure (.cons (rv_cell ti33 n0WoB n0WoB rfl n0WoB) (.cons (rv_tmp n0WoB) .nil)) n0WoB ?_
   first | exact .tup rfl (ren_two (.lf (wz_lf _)) (ren_flat rfl rfl)) | exact .tup rfl (ren_two (.agg rfl (RenAll.get r3WoB)) (ren_flat rfl rfl))
 · try simp only [nh] at hc1
   rw [if_neg (by omega)] at hp
   refine AWP.skip ?_
   refine AWP.sr ?_
   refine n_move rfl n0WoB ?_
   refine n_callNewB rfl cf20 rfl e1WoB r2WoB (ho) x4WoB rfl n0WoB ?_
   refine n_build rfl si63 e1WoB e1WoB rfl ?_
   refine n_alloc rfl zi63 rfl n0WoB n0WoB ?_
   refine n_store ti63 n0WoB rfl n0WoB rfl n0WoB rfl rfl rfl n0WoB ?_
   refine AOps.nil ?_
   refine AWP.sr ?_
   refine n_load rfl ti63 n0WoB n0WoB rfl n0WoB ?_
   refine n_callBoxB rfl cf21 rfl e1WoB r2WoB (by rfl) r2WoB (d1) x4WoB l6WoB n0WoB ?_
   refine n_alloc rfl zi33 rfl n0WoB n0WoB ?_
   refine n_store ti33 n0WoB rfl n0WoB rfl n0WoB rfl rfl rfl n0WoB ?_
   refine AOps.nil ?_
   refine AWP.seq ?_
   refine AWP.sr ?_
   refine n_fieldAddr rfl fd63_0 ti60 rfl n0WoB rfl n0WoB ?_
   refine n_load rfl ti60 n0WoB n0WoB rfl n0WoB ?_
   refine n_callBoxB rfl cf22 rfl e1WoB r2WoB (by rfl) r2WoB (cc) x4WoB l6WoB n0WoB ?_
   refine n_assign rfl n0WoB ?_
   refine AOps.nil ?_
   refine AWP.sr ?_
   refine n_move rfl n0WoB ?_
   refine n_ibin rfl n0WoB n0WoB rfl ?_
   refine AOps.nil ?_
   refine AWP.cond n0WoB (fun hc2 => ?_) (fun hc2 => ?_)
   · try simp only [nh] at hc2
     rw [if_pos hc2] at hp
     rw [hp]
     refine AWP.sr ?_
     refine n_build rfl si33 e1WoB e1WoB rfl ?_
     refine n_move rfl n0WoB ?_
     refine n_store ti33 n0WoB rfl n0WoB rfl n0WoB rfl rfl rfl n0WoB ?_
     refine n_assign rfl n0WoB ?_
     refine AOps.nil ?_
     refine AWP.ret ?_
     refine fin_pure (.cons (rv_cell ti33 n0WoB n0WoB rfl n0WoB) (.cons (rv_tmp n0WoB) .nil)) n0WoB ?_
     first | exact .tup rfl (ren_two (.lf (wz_lf _)) (ren_flat rfl rfl)) | exact .tup rfl (ren_two (.agg rfl (RenAll.get r3WoB)) (ren_flat rfl rfl))
   · try simp only [nh] at hc2
     rw [if_neg (not_not_intro hc2)] at hp
     have hq := l_check r1.1 (hcl hc2).toSz
     refine AWP.skip ?_
     refine AWP.seq ?_
     refine AWP.sr ?_
     refine n_load rfl ti33 n0WoB n0WoB rfl n0WoB ?_
     refine n_call0B rfl cf12 rfl e1WoB r2WoB (hq) l6WoB ?_
     refine n_assign rfl n0WoB ?_
     refine AOps.nil ?_
     refine AWP.sr ?_
     refine n_move rfl n0WoB ?_
     refine n_ibin rfl n0WoB n0WoB rfl ?_
     refine AOps.nil ?_
     refine AWP.cond n0WoB (fun hc3 => ?_) (fun hc3 => ?_)
     · try simp only [nh] at hc3
       rw [if_pos hc3] at hp
       rw [hp]
       refine AWP.sr ?_
       refine n_build rfl si33 e1WoB e1WoB rfl ?_
       refine n_move rfl n0WoB ?_
       refine n_store ti33 n0WoB rfl n0WoB rfl n0WoB rfl rfl rfl n0WoB ?_
       refine n_assign rfl n0WoB ?_
       refine AOps.nil ?_
       refine AWP.ret ?_
       refine fin_pure (.cons (rv_cell ti33 n0WoB n0WoB rfl n0WoB) (.cons (rv_tmp n0WoB) .nil)) n0WoB ?_
       first | exact .tup rfl (ren_two (.lf (wz_lf _)) (ren_flat rfl rfl)) | exact .tup rfl (ren_two (.agg rfl (RenAll.get r3WoB)) (ren_flat rfl rfl))
     · try simp only [nh] at hc3
       rw [if_neg (not_not_intro hc3)] at hp
       rw [hp]
       refine AWP.skip ?_
       refine AWP.sr ?_
       refine n_load rfl ti33 n0WoB n0WoB rfl n0WoB ?_
       refine n_store ti33 n0WoB rfl n0WoB rfl n0WoB rfl rfl rfl n0WoB ?_
       refine n_assign rfl n0WoB ?_
       refine AOps.nil ?_
       refine AWP.ret ?_
       refine fin_pure (.cons (rv_cell ti33 n0WoB n0WoB rfl n0WoB) (.cons (rv_tmp n0WoB) .nil)) n0WoB ?_
       first | exact .tup rfl (ren_two (.lf (wz_lf _)) (ren_flat rfl rfl)) | exact .tup rfl (ren_two (.agg rfl (RenAll.get r3WoB)) (ren_flat rfl rfl))

end Go.Proofs.YtanfmpkjcoolmaaGreat.Wo
