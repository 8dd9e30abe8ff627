/- Bytes of entries. -/
import Derived.Test.YtanfmpkjcoolmaaGreatPlainA
import Derived.Test.YtanfmpkjcoolmaaGreatMiZ
import Derived.Test.YtanfmpkjcoolmaaGreatRdZ
import Derived.KernelRfl
set_option linter.unusedVariables false
set_option linter.unusedSimpArgs false
namespace Go.Proofs.YtanfmpkjcoolmaaGreat.Mb
open Go Go.Abs Go.Proofs.YtanfmpkjcoolmaaGreat.Pk
attribute [local irreducible] AWP AOps Does

theorem n0MbZ {α : Type} {a b : α} (h : a = b := by first|simp only[nf,Nat.beq]<;>rfl|rfl) : a = b := h
theorem e1MbZ {α : Type} {a b : α} (h : a = b := by exact Eq.trans (by simp only [nl] <;> rfl) n0MbZ) : a = b := h
theorem r2MbZ {ρ σ : Nat → Nat → Prop} {a b : List D} (h : RenAll ρ σ a b := by repeat (first | exact .nil | refine .cons ?_ ?_ | exact ren_ints | exact .lf (.val _) | exact .lf (lf_ints (.inl rfl)) | exact .bp ⟨rfl, rfl⟩ | exact .bp (.inl ⟨rfl, rfl⟩) | exact .bp (.inr ⟨rfl, rfl⟩) | exact .lf (D.flat_lf rfl) | exact ren_lits rfl | exact .lf (.agg lf_bundle))) : RenAll ρ σ a b := h
theorem r3MbZ {ρ σ : Nat → Nat → Prop} {a b : List D} (h : RenAll ρ σ a b := by repeat (first | exact .nil | refine .cons ?_ ?_ | exact ren_ints | exact .lf (.val _) | exact .lf (lf_ints (.inl rfl)) | exact .bp ⟨rfl, rfl⟩ | exact .bp (.inl ⟨rfl, rfl⟩) | exact .bp (.inr ⟨rfl, rfl⟩) | exact .lf (D.flat_lf rfl) | exact ren_lits rfl)) : RenAll ρ σ a b := h
theorem x4MbZ {a : List D} (h : ∀ d ∈ a, LF d := by repeat (first | exact lf_nil | refine lf_cons ?_ ?_ | exact .val _ | exact lf_ints (.inl rfl))) : ∀ d ∈ a, LF d := h
theorem l5MbZ {d : D} (h : LF d := by first | exact .val _ | exact lf_ints (.inl rfl) | exact lf_ints (.inr rfl) | exact .any | exact D.flat_lf rfl | exact .tup (lf_cons (lf_ints (.inl rfl)) (lf_cons (.val _) lf_nil))) : LF d := h
theorem cf112 : CF Tryz.prog 112 := ⟨_, Tryz.func112, by kernel_rfl, by kernel_rfl⟩
theorem cf13 : CF Tryz.prog 13 := ⟨_, Tryz.func13, by kernel_rfl, by kernel_rfl⟩
theorem cf20 : CF Tryz.prog 20 := ⟨_, Tryz.func20, by kernel_rfl, by kernel_rfl⟩
theorem cf22 : CF Tryz.prog 22 := ⟨_, Tryz.func22, by kernel_rfl, by kernel_rfl⟩
theorem cf50 : CF Tryz.prog 50 := ⟨_, Tryz.func50, by kernel_rfl, by kernel_rfl⟩
theorem cf94 : CF Tryz.prog 94 := ⟨_, Tryz.func94, by kernel_rfl, by kernel_rfl⟩
theorem fd44_0 : FD Tryz.prog 44 0 2 0 := ⟨_, _, Tryz.underlying44, rfl, rfl, rfl⟩
theorem fd44_1 : FD Tryz.prog 44 1 2 1 := ⟨_, _, Tryz.underlying44, rfl, rfl, rfl⟩
theorem fd46_0 : FD Tryz.prog 46 0 2 0 := ⟨_, _, Tryz.underlying46, rfl, rfl, rfl⟩
theorem fd46_1 : FD Tryz.prog 46 1 3 1 := ⟨_, _, Tryz.underlying46, rfl, rfl, rfl⟩
theorem fd46_2 : FD Tryz.prog 46 2 44 2 := ⟨_, _, Tryz.underlying46, rfl, rfl, rfl⟩
theorem si46 : SI Tryz.prog 46 #[(0, 1), (1, 1), (2, 2)] (.agg #[.int .i64 0, .int .i64 0, .int .i64 0, .int .i64 0]) := ⟨⟨_, Tryz.underlying46, fun w => by kernel_rfl⟩, by kernel_rfl⟩
theorem ti2 : TI Tryz.prog 2 1 false := ⟨by kernel_rfl, by kernel_rfl⟩
theorem ti3 : TI Tryz.prog 3 1 false := ⟨by kernel_rfl, by kernel_rfl⟩
theorem ti44 : TI Tryz.prog 44 2 true := ⟨by kernel_rfl, by kernel_rfl⟩
theorem ti46 : TI Tryz.prog 46 4 true := ⟨by kernel_rfl, by kernel_rfl⟩
theorem ti60 : TI Tryz.prog 60 1 false := ⟨by kernel_rfl, by kernel_rfl⟩
theorem zi2 : (Tryz.prog.info? 2).map (·.zero) = some (some (.int .i64 0)) := by kernel_rfl
theorem zi46 : (Tryz.prog.info? 46).map (·.zero) = some (some (.agg #[.int .i64 0, .int .i64 0, .int .i64 0, .int .i64 0])) := by kernel_rfl
theorem zi60 : (Tryz.prog.info? 60).map (·.zero) = some (some (.pointer none)) := by kernel_rfl

attribute [local irreducible] Up.int Up.str Up.close Up.rest Up.clr Up.spoil Up.w Up.flag
theorem l_any (u : Up) (hu : u.ok) : Does Tryz.prog 112 [.bp 0 0] [.box [.bp 1 0], .box (Up.z u)] (vi u.w.1) [.box [.bp 1 0], .box (Up.z u.w.2)] := by
 refine Does.of_body (rvs := [.tmp 1]) Tryz.func112 rfl rfl rfl rfl ?_
 refine AWP.sr ?_
 refine n_assign rfl n0MbZ ?_
 refine AOps.nil ?_
 refine AWP.sr ?_
 refine n_load rfl ti60 n0MbZ n0MbZ rfl n0MbZ ?_
 refine n_callBoxB rfl cf50 rfl e1MbZ r3MbZ (by rfl) r3MbZ (Rd.U_w u hu) x4MbZ l5MbZ n0MbZ ?_
 refine n_assign rfl n0MbZ ?_
 refine AOps.nil ?_
 refine AWP.ret ?_
 refine fin_box2 (.cons (rv_tmp n0MbZ) .nil) n0MbZ ?_ rfl rfl ?_ ?_
 · exact ren_flat rfl rfl
 · exact .cons (.bp ⟨rfl, rfl⟩) .nil
 · exact renU rfl rfl

theorem l_bytes (x : En) (ho : x.okE) : Does Tryz.prog 76 [.agg (ez x)] [] (.tup [bys x.bytes, vi x.chk]) [] := by
 refine Does.of_body (rvs := [.tmp 2, .tmp 3]) Tryz.func76 rfl rfl rfl rfl ?_
 refine AWP.sr ?_
 refine n_box rfl n0MbZ rfl rfl n0MbZ n0MbZ ?_
 refine n_assign rfl n0MbZ ?_
 refine n_assign rfl n0MbZ ?_
 refine AOps.nil ?_
 refine AWP.seq ?_
 refine AWP.sr ?_
 refine n_load rfl ti46 n0MbZ n0MbZ rfl n0MbZ ?_
 refine n_call0B rfl cf94 rfl e1MbZ r2MbZ (Mi.l_entry x) l5MbZ ?_
 refine n_assign rfl n0MbZ ?_
 refine AOps.nil ?_
 refine AWP.sr ?_
 refine n_move rfl n0MbZ ?_
 refine n_ibin rfl n0MbZ n0MbZ rfl ?_
 refine AOps.nil ?_
 refine AWP.cond n0MbZ (fun hc1 => ?_) (fun hc1 => ?_)
 · try simp only [nh] at hc1
   have hz : x.bytes = [] := by unfold En.bytes; rw [if_pos hc1]
   have hz2 := hc1
   refine AWP.sr ?_
   refine n_move rfl n0MbZ ?_
   refine n_assign rfl n0MbZ ?_
   refine n_assign rfl n0MbZ ?_
   refine AOps.nil ?_
   refine AWP.ret ?_
   refine fin_pure (.cons (rv_tmp n0MbZ) (.cons (rv_tmp n0MbZ) .nil)) n0MbZ ?_
   refine .tup rfl (ren_two (by first | exact ren_bys0 hz | exact ren_bys hz) (ren_flat rfl (by first | rfl | rw [hz2])))
 · try simp only [nh] at hc1
   have hk := En.four_i64 ho hc1
   have hI := p_int [] x.four hk (by simp [En.four])
   rw [List.nil_append] at hI
   have hz : x.bytes = forms x.four := by unfold En.bytes; rw [if_neg (by simp [hc1])]
   have hz2 := hc1
   refine AWP.skip ?_
   refine AWP.sr ?_
   refine n_fieldAddr rfl fd46_0 ti2 rfl n0MbZ rfl n0MbZ ?_
   refine n_load rfl ti2 n0MbZ n0MbZ rfl n0MbZ ?_
   refine n_fieldAddr rfl fd46_1 ti3 rfl n0MbZ rfl n0MbZ ?_
   refine n_load rfl ti3 n0MbZ n0MbZ rfl n0MbZ ?_
   refine n_fieldAddr rfl fd46_2 ti44 rfl n0MbZ rfl n0MbZ ?_
   refine n_fieldAddr rfl fd44_0 ti2 rfl n0MbZ rfl n0MbZ ?_
   refine n_load rfl ti2 n0MbZ n0MbZ rfl n0MbZ ?_
   refine n_fieldAddr rfl fd46_2 ti44 rfl n0MbZ rfl n0MbZ ?_
   refine n_fieldAddr rfl fd44_1 ti2 rfl n0MbZ rfl n0MbZ ?_
   refine n_load rfl ti2 n0MbZ n0MbZ rfl n0MbZ ?_
   refine n_lit rfl Tryz.underlying24 ti2 zi2 rfl rfl e1MbZ rfl n0MbZ ?_
   refine n_callOwnB rfl cf13 rfl e1MbZ r2MbZ (hI) (by first | exact ints_lf _ _) rfl n0MbZ ?_
   refine n_assign rfl n0MbZ ?_
   refine n_assign rfl n0MbZ ?_
   refine AOps.nil ?_
   refine AWP.ret ?_
   refine fin_pure (.cons (rv_tmp n0MbZ) (.cons (rv_tmp n0MbZ) .nil)) n0MbZ ?_
   refine .tup rfl (ren_two (by first | exact ren_bys0 hz | exact ren_bys hz) (ren_flat rfl (by first | rfl | rw [hz2])))

theorem l_parse (b : List Int) (hb : Byt b) (hl : L40 b) : Does Tryz.prog 99 [bys b] [] (.tup [.agg (ez (En.parse b).1), vi (En.parse b).2]) [] := by
 refine Does.of_body (rvs := [.cell 2 46, .tmp 3]) Tryz.func99 rfl rfl rfl rfl ?_
 obtain ⟨r1, hr1⟩ : ∃ r, r = (⟨b, 0⟩ : Up).w := ⟨_, rfl⟩
 have ok1 : r1.2.ok := by rw [hr1]; exact Up.w_ok ⟨hb, hl⟩
 obtain ⟨r2, hr2⟩ : ∃ r, r = r1.2.w := ⟨_, rfl⟩
 have ok2 : r2.2.ok := by rw [hr2]; exact Up.w_ok ok1
 obtain ⟨r3, hr3⟩ : ∃ r, r = r2.2.w := ⟨_, rfl⟩
 have ok3 : r3.2.ok := by rw [hr3]; exact Up.w_ok ok2
 obtain ⟨r4, hr4⟩ : ∃ r, r = r3.2.w := ⟨_, rfl⟩
 have ok4 : r4.2.ok := by rw [hr4]; exact Up.w_ok ok3
 have c1 := l_any ⟨b, 0⟩ ⟨hb, hl⟩
 rw [← hr1] at c1
 have c2 := l_any r1.2 ok1
 rw [← hr2] at c2
 have c3 := l_any r2.2 ok2
 rw [← hr3] at c3
 have c4 := l_any r3.2 ok3
 rw [← hr4] at c4
 have c7 := Rd.U_close r4.2
 have hp : En.parse b = if r4.2.close ≠ 0 then (En.z, r4.2.close) else if (⟨r1.1, r2.1, r3.1, r4.1⟩ : En).chk ≠ 0 then (En.z, (⟨r1.1, r2.1, r3.1, r4.1⟩ : En).chk) else ((⟨r1.1, r2.1, r3.1, r4.1⟩ : En), 0) := by rw [hr4, hr3, hr2, hr1]; rfl
 refine AWP.sr ?_
 refine n_alloc rfl zi46 rfl n0MbZ n0MbZ ?_
 refine n_assign rfl n0MbZ ?_
 refine AOps.nil ?_
 refine AWP.sr ?_
 refine n_move rfl n0MbZ ?_
 refine n_callNewB rfl cf20 rfl e1MbZ r2MbZ (u_open _ (by assumption)) x4MbZ rfl n0MbZ ?_
 refine n_alloc rfl zi60 rfl n0MbZ n0MbZ ?_
 refine n_store ti60 n0MbZ rfl n0MbZ rfl n0MbZ rfl rfl rfl n0MbZ ?_
 refine AOps.nil ?_
 refine AWP.sr ?_
 refine n_makeFunc rfl e1MbZ e1MbZ ?_
 refine n_assign rfl n0MbZ ?_
 refine AOps.nil ?_
 refine AWP.sr ?_
 refine n_alloc rfl zi46 rfl n0MbZ n0MbZ ?_
 refine AOps.nil ?_
 refine AWP.sr ?_
 refine n_move rfl n0MbZ ?_
 refine n_callClo rfl cf112 n0MbZ e1MbZ r2MbZ (by rfl) (by rfl) (by rfl) r2MbZ (c1) x4MbZ l5MbZ n0MbZ ?_
 refine n_fieldAddr rfl fd46_0 ti2 rfl n0MbZ rfl n0MbZ ?_
 refine n_store ti2 n0MbZ rfl n0MbZ rfl n0MbZ rfl rfl rfl n0MbZ ?_
 refine AOps.nil ?_
 refine AWP.sr ?_
 refine n_move rfl n0MbZ ?_
 refine n_callClo rfl cf112 n0MbZ e1MbZ r2MbZ (by rfl) (by rfl) (by rfl) r2MbZ (c2) x4MbZ l5MbZ n0MbZ ?_
 refine n_fieldAddr rfl fd46_1 ti3 rfl n0MbZ rfl n0MbZ ?_
 refine n_store ti3 n0MbZ rfl n0MbZ rfl n0MbZ rfl rfl rfl n0MbZ ?_
 refine AOps.nil ?_
 refine AWP.sr ?_
 refine n_move rfl n0MbZ ?_
 refine n_callClo rfl cf112 n0MbZ e1MbZ r2MbZ (by rfl) (by rfl) (by rfl) r2MbZ (c3) x4MbZ l5MbZ n0MbZ ?_
 refine n_fieldAddr rfl fd46_2 ti44 rfl n0MbZ rfl n0MbZ ?_
 refine n_fieldAddr rfl fd44_0 ti2 rfl n0MbZ rfl n0MbZ ?_
 refine n_store ti2 n0MbZ rfl n0MbZ rfl n0MbZ rfl rfl rfl n0MbZ ?_
 refine AOps.nil ?_
 refine AWP.sr ?_
 refine n_move rfl n0MbZ ?_
 refine n_callClo rfl cf112 n0MbZ e1MbZ r2MbZ (by rfl) (by rfl) (by rfl) r2MbZ (c4) x4MbZ l5MbZ n0MbZ ?_
 refine n_fieldAddr rfl fd46_2 ti44 rfl n0MbZ rfl n0MbZ ?_
 refine n_fieldAddr rfl fd44_1 ti2 rfl n0MbZ rfl n0MbZ ?_
 refine n_store ti2 n0MbZ rfl n0MbZ rfl n0MbZ rfl rfl rfl n0MbZ ?_
 refine AOps.nil ?_
 refine AWP.seq ?_
 refine AWP.sr ?_
 refine n_load rfl ti60 n0MbZ n0MbZ rfl n0MbZ ?_
 refine n_callBoxB rfl cf22 rfl e1MbZ r2MbZ (by rfl) r2MbZ (c7) x4MbZ l5MbZ n0MbZ ?_
 refine n_assign rfl n0MbZ ?_
 refine AOps.nil ?_
 refine AWP.sr ?_
 refine n_move rfl n0MbZ ?_
 refine n_ibin rfl n0MbZ n0MbZ rfl ?_
 refine AOps.nil ?_
 refine AWP.cond n0MbZ (fun hc1 => ?_) (fun hc1 => ?_)
 · try simp only [nh] at hc1
   have h1 := hc1
   refine AWP.sr ?_
   refine n_build rfl si46 e1MbZ e1MbZ rfl ?_
   refine n_move rfl n0MbZ ?_
   refine n_store ti46 n0MbZ rfl n0MbZ rfl n0MbZ rfl rfl rfl n0MbZ ?_
   refine n_assign rfl n0MbZ ?_
   refine AOps.nil ?_
   refine AWP.ret ?_
   refine fin_pure (.cons (rv_cell ti46 n0MbZ n0MbZ rfl n0MbZ) (.cons (rv_tmp n0MbZ) .nil)) n0MbZ ?_
   first | (rw [if_pos h1] at hp; rw [hp]; exact .tup rfl (ren_two (ren_flat rfl rfl) (ren_flat rfl rfl))) | (rw [if_neg (by simp [h1])] at hp; first | (rw [if_pos h2] at hp; rw [hp]; exact .tup rfl (ren_two (ren_flat rfl rfl) (ren_flat rfl rfl))) | (rw [if_neg (by simp [h2])] at hp; rw [hp]; exact .tup rfl (ren_two (ren_flat rfl rfl) (ren_flat rfl rfl))))
 · try simp only [nh] at hc1
   have h1 := hc1
   refine AWP.skip ?_
   refine AWP.seq ?_
   refine AWP.sr ?_
   refine n_load rfl ti46 n0MbZ n0MbZ rfl n0MbZ ?_
   refine n_call0B rfl cf94 rfl e1MbZ r2MbZ (Mi.l_entry (⟨r1.1, r2.1, r3.1, r4.1⟩ : En)) l5MbZ ?_
   refine n_assign rfl n0MbZ ?_
   refine AOps.nil ?_
   refine AWP.sr ?_
   refine n_move rfl n0MbZ ?_
   refine n_ibin rfl n0MbZ n0MbZ rfl ?_
   refine AOps.nil ?_
   refine AWP.cond n0MbZ (fun hc2 => ?_) (fun hc2 => ?_)
   · try simp only [nh] at hc2
     have h2 := hc2
     refine AWP.sr ?_
     refine n_build rfl si46 e1MbZ e1MbZ rfl ?_
     refine n_move rfl n0MbZ ?_
     refine n_store ti46 n0MbZ rfl n0MbZ rfl n0MbZ rfl rfl rfl n0MbZ ?_
     refine n_assign rfl n0MbZ ?_
     refine AOps.nil ?_
     refine AWP.ret ?_
     refine fin_pure (.cons (rv_cell ti46 n0MbZ n0MbZ rfl n0MbZ) (.cons (rv_tmp n0MbZ) .nil)) n0MbZ ?_
     first | (rw [if_pos h1] at hp; rw [hp]; exact .tup rfl (ren_two (ren_flat rfl rfl) (ren_flat rfl rfl))) | (rw [if_neg (by simp [h1])] at hp; first | (rw [if_pos h2] at hp; rw [hp]; exact .tup rfl (ren_two (ren_flat rfl rfl) (ren_flat rfl rfl))) | (rw [if_neg (by simp [h2])] at hp; rw [hp]; exact .tup rfl (ren_two (ren_flat rfl rfl) (ren_flat rfl rfl))))
   · try simp only [nh] at hc2
     have h2 := hc2
     refine AWP.skip ?_
     refine AWP.sr ?_
     refine n_load rfl ti46 n0MbZ n0MbZ rfl n0MbZ ?_
     refine n_store ti46 n0MbZ rfl n0MbZ rfl n0MbZ rfl rfl rfl n0MbZ ?_
     refine n_assign rfl n0MbZ ?_
     refine AOps.nil ?_
     refine AWP.ret ?_
     refine fin_pure (.cons (rv_cell ti46 n0MbZ n0MbZ rfl n0MbZ) (.cons (rv_tmp n0MbZ) .nil)) n0MbZ ?_
     first | (rw [if_pos h1] at hp; rw [hp]; exact .tup rfl (ren_two (ren_flat rfl rfl) (ren_flat rfl rfl))) | (rw [if_neg (by simp [h1])] at hp; first | (rw [if_pos h2] at hp; rw [hp]; exact .tup rfl (ren_two (ren_flat rfl rfl) (ren_flat rfl rfl))) | (rw [if_neg (by simp [h2])] at hp; rw [hp]; exact .tup rfl (ren_two (ren_flat rfl rfl) (ren_flat rfl rfl))))

end Go.Proofs.YtanfmpkjcoolmaaGreat.Mb
