/- Bytes of tables. -/
import Derived.Test.YtanfmpkjcoolmaaGreatPlainA
import Derived.Test.YtanfmpkjcoolmaaGreatOfZ
import Derived.Test.YtanfmpkjcoolmaaGreatRdZ
set_option linter.unusedVariables false
set_option linter.unusedSimpArgs false
namespace Go.Proofs.YtanfmpkjcoolmaaGreat.Oj
open Go Go.Abs Go.Abs.Tb Of Go.Proofs.YtanfmpkjcoolmaaGreat.Pk
attribute [local irreducible] AWP AOps Does

theorem n0OjZ {α : Type} {a b : α} (h : a = b := by first|simp only[nf,Nat.beq]<;>rfl|rfl) : a = b := h
theorem e1OjZ {α : Type} {a b : α} (h : a = b := by exact Eq.trans (by simp only [nl] <;> rfl) n0OjZ) : a = b := h
theorem r2OjZ {ρ σ : Nat → Nat → Prop} {a b : List D} (h : RenAll ρ σ a b := by repeat (first | exact .nil | refine .cons ?_ ?_ | exact ren_ints | exact .lf (.val _) | exact .lf (lf_ints (.inl rfl)) | exact .bp ⟨rfl, rfl⟩ | exact .bp (.inl ⟨rfl, rfl⟩) | exact .bp (.inr ⟨rfl, rfl⟩) | exact .lf (D.flat_lf rfl) | exact ren_lits rfl | exact ren_bys0 rfl | exact ren_map (f := spz) (fun _ => rfl) | exact .lf (lf_tz _) | exact ren_tz | exact .lf (.fn (fun d h => by cases h) (fun d h => by cases h)) | exact .lf (lf_fnrp (lf_rp1 (f := spz) (fun _ => rfl))))) : RenAll ρ σ a b := h
theorem x3OjZ {a : List D} (h : ∀ d ∈ a, LF d := by repeat (first | exact lf_nil | refine lf_cons ?_ ?_ | exact .val _ | exact lf_ints (.inl rfl))) : ∀ d ∈ a, LF d := h
theorem l4OjZ {d : D} (h : LF d := by first | exact .val _ | exact lf_ints (.inl rfl) | exact lf_ints (.inr rfl) | exact .any | exact D.flat_lf rfl | exact .tup (lf_cons (lf_ints (.inl rfl)) (lf_cons (.val _) lf_nil)) | exact lf_map (f := spz) (fun _ => rfl) (.inl rfl) | exact lf_tz _ | exact .tup (lf_cons (lf_tz _) (lf_cons (.val _) lf_nil)) | exact lf_fnrp (lf_rp1 (f := spz) (fun _ => rfl))) : LF d := h
theorem cf111 : CF Tryz.prog 111 := ⟨_, Tryz.func111, by kernel_rfl, by kernel_rfl⟩
theorem cf13 : CF Tryz.prog 13 := ⟨_, Tryz.func13, by kernel_rfl, by kernel_rfl⟩
theorem cf20 : CF Tryz.prog 20 := ⟨_, Tryz.func20, by kernel_rfl, by kernel_rfl⟩
theorem cf22 : CF Tryz.prog 22 := ⟨_, Tryz.func22, by kernel_rfl, by kernel_rfl⟩
theorem cf35 : CF Tryz.prog 35 := ⟨_, Tryz.func35, by kernel_rfl, by kernel_rfl⟩
theorem cf50 : CF Tryz.prog 50 := ⟨_, Tryz.func50, by kernel_rfl, by kernel_rfl⟩
theorem cf60 : CF Tryz.prog 60 := ⟨_, Tryz.func60, by kernel_rfl, by kernel_rfl⟩
theorem cf91 : CF Tryz.prog 91 := ⟨_, Tryz.func91, by kernel_rfl, by kernel_rfl⟩
theorem ei51 : EI Tryz.prog 51 4 32 (.agg #[.int .i64 0, .int .i64 0, .int .i64 0, .int .i64 0]) := EI.of (by kernel_rfl) rfl rfl
theorem fd49_0 : FD Tryz.prog 49 0 47 0 := ⟨_, _, Tryz.underlying49, rfl, rfl, rfl⟩
theorem fd49_1 : FD Tryz.prog 49 1 2 1 := ⟨_, _, Tryz.underlying49, rfl, rfl, rfl⟩
theorem fd51_0 : FD Tryz.prog 51 0 2 0 := ⟨_, _, Tryz.underlying51, rfl, rfl, rfl⟩
theorem fd51_1 : FD Tryz.prog 51 1 3 1 := ⟨_, _, Tryz.underlying51, rfl, rfl, rfl⟩
theorem fd51_2 : FD Tryz.prog 51 2 2 2 := ⟨_, _, Tryz.underlying51, rfl, rfl, rfl⟩
theorem fd51_3 : FD Tryz.prog 51 3 2 3 := ⟨_, _, Tryz.underlying51, rfl, rfl, rfl⟩
theorem si49 : SI Tryz.prog 49 #[(0, 1), (1, 1)] (.agg #[.slice none 0 0, .int .i64 0]) := ⟨⟨_, Tryz.underlying49, fun w => by kernel_rfl⟩, by kernel_rfl⟩
theorem si51 : SI Tryz.prog 51 #[(0, 1), (1, 1), (2, 1), (3, 1)] (.agg #[.int .i64 0, .int .i64 0, .int .i64 0, .int .i64 0]) := ⟨⟨_, Tryz.underlying51, fun w => by kernel_rfl⟩, by kernel_rfl⟩
theorem ti2 : TI Tryz.prog 2 1 false := ⟨by kernel_rfl, by kernel_rfl⟩
theorem ti3 : TI Tryz.prog 3 1 false := ⟨by kernel_rfl, by kernel_rfl⟩
theorem ti47 : TI Tryz.prog 47 1 false := ⟨by kernel_rfl, by kernel_rfl⟩
theorem ti49 : TI Tryz.prog 49 2 true := ⟨by kernel_rfl, by kernel_rfl⟩
theorem ti51 : TI Tryz.prog 51 4 true := ⟨by kernel_rfl, by kernel_rfl⟩
theorem ti60 : TI Tryz.prog 60 1 false := ⟨by kernel_rfl, by kernel_rfl⟩
theorem zi2 : (Tryz.prog.info? 2).map (·.zero) = some (some (.int .i64 0)) := by kernel_rfl
theorem zi49 : (Tryz.prog.info? 49).map (·.zero) = some (some (.agg #[.slice none 0 0, .int .i64 0])) := by kernel_rfl
theorem zi51 : (Tryz.prog.info? 51).map (·.zero) = some (some (.agg #[.int .i64 0, .int .i64 0, .int .i64 0, .int .i64 0])) := by kernel_rfl
theorem zi60 : (Tryz.prog.info? 60).map (·.zero) = some (some (.pointer none)) := by kernel_rfl

attribute [local irreducible] Up.int Up.str Up.close Up.rest Up.clr Up.spoil Up.w Up.flag Tb.nth Tb.fin Tb.last Tb.follows Tb.single Tb.good Tb.chk Tb.rds Tb.upto Tb.bytes
theorem l_any (u : Up) (hu : u.ok) : Does Tryz.prog 111 [.bp 0 0] [.box [.bp 1 0], .box (Up.z u)] (vi u.w.1) [.box [.bp 1 0], .box (Up.z u.w.2)] := by
 refine Does.of_body (rvs := [.tmp 1]) Tryz.func111 rfl rfl rfl rfl ?_
 refine AWP.sr ?_
 refine n_assign rfl n0OjZ ?_
 refine AOps.nil ?_
 refine AWP.sr ?_
 refine n_load rfl ti60 n0OjZ n0OjZ rfl n0OjZ ?_
 refine n_callBoxB rfl cf50 rfl e1OjZ r2OjZ (by rfl) r2OjZ (Rd.U_w u hu) x3OjZ l4OjZ n0OjZ ?_
 refine n_assign rfl n0OjZ ?_
 refine AOps.nil ?_
 refine AWP.ret ?_
 refine fin_box2 (.cons (rv_tmp n0OjZ) .nil) n0OjZ ?_ rfl rfl ?_ ?_
 · exact ren_flat rfl rfl
 · exact .cons (.bp ⟨rfl, rfl⟩) .nil
 · exact renU rfl rfl

set_option maxHeartbeats 2000000 in
theorem l_bytes (t : Tb) (hl : t.l.length ≤ 1048576) : Does Tryz.prog 75 [tz t] [] (.tup [bys t.bytes, vi t.chk]) [] := by
 refine Does.of_body (rvs := [.tmp 2, .tmp 3]) Tryz.func75 rfl rfl rfl rfl ?_
 refine AWP.sr ?_
 refine n_box rfl n0OjZ rfl rfl n0OjZ n0OjZ ?_
 refine n_assign rfl n0OjZ ?_
 refine n_assign rfl n0OjZ ?_
 refine AOps.nil ?_
 refine AWP.seq ?_
 refine AWP.sr ?_
 refine n_load rfl ti49 n0OjZ n0OjZ rfl n0OjZ ?_
 refine n_call0B rfl cf91 rfl e1OjZ r2OjZ (l_chk t hl) l4OjZ ?_
 refine n_assign rfl n0OjZ ?_
 refine AOps.nil ?_
 refine AWP.sr ?_
 refine n_move rfl n0OjZ ?_
 refine n_ibin rfl n0OjZ n0OjZ rfl ?_
 refine AOps.nil ?_
 refine AWP.cond n0OjZ (fun hc1 => ?_) (fun hc1 => ?_)
 · try simp only [nh] at hc1
   have hz : t.bytes = [] := by unfold Tb.bytes; rw [if_pos hc1]
   have hz2 := hc1
   refine AWP.sr ?_
   refine n_move rfl n0OjZ ?_
   refine n_assign rfl n0OjZ ?_
   refine n_assign rfl n0OjZ ?_
   refine AOps.nil ?_
   refine AWP.ret ?_
   refine fin_pure (.cons (rv_tmp n0OjZ) (.cons (rv_tmp n0OjZ) .nil)) n0OjZ ?_
   refine .tup rfl (ren_two (by first | exact ren_bys0 hz | exact ren_bys hz) (ren_flat rfl (by first | rfl | rw [hz2])))
 · try simp only [nh] at hc1
   have hc0 : t.chk = 0 := by simpa using hc1
   have hg := good_chk.1 hc0
   have hgn := good_num hg
   have hI0 : Does Tryz.prog 13 [bys [], .sl none (ints .i64 [t.n, (t.l.length : Int)]) .ro] [] (.sl none (ints .u8 ([] ++ forms (t.upto 0))) (.own 0)) [.row ([] ++ forms (t.upto 0)).length 1] := by have h := p_int [] (t.upto 0) (upto_i64 hg 0) (by have := upto_len (t := t) 0; simp only [List.length_nil]; omega); have e : t.upto 0 = [t.n, (t.l.length : Int)] := by { unfold Tb.upto; simp }; rw [e] at h ⊢; exact h
   simp only [List.nil_append] at hI0
   have hz2 := hc0
   refine AWP.skip ?_
   refine AWP.sr ?_
   refine n_fieldAddr rfl fd49_1 ti2 rfl n0OjZ rfl n0OjZ ?_
   refine n_load rfl ti2 n0OjZ n0OjZ rfl n0OjZ ?_
   refine n_fieldAddr rfl fd49_0 ti47 rfl n0OjZ rfl n0OjZ ?_
   refine n_load rfl ti47 n0OjZ n0OjZ rfl n0OjZ ?_
   refine n_len rfl Tryz.underlying47 n0OjZ (by first | rw [ints_length] | rw [List.length_map] | rfl) ?_
   refine n_lit rfl Tryz.underlying24 ti2 zi2 rfl rfl e1OjZ rfl n0OjZ ?_
   refine n_callOwnB rfl cf13 rfl e1OjZ r2OjZ (hI0) (by first | exact ints_lf _ _) rfl n0OjZ ?_
   refine n_assign rfl n0OjZ ?_
   refine AOps.nil ?_
   refine AWP.seq ?_
   refine AWP.seq ?_
   refine AWP.asRo (t := 5) n0OjZ ?_
   refine AWP.region ?_
   refine n_fieldAddr rfl fd49_0 ti47 rfl n0OjZ rfl n0OjZ ?_
   refine n_load rfl ti47 n0OjZ n0OjZ rfl n0OjZ ?_
   refine n_len rfl Tryz.underlying47 n0OjZ (by first | rw [ints_length] | rw [List.length_map] | rfl) ?_
   refine n_move rfl n0OjZ ?_
   refine AOps.nil ?_
   refine AWP.block ?_
   refine AWP.loopX 2 (α := Nat) (fun i => i ≤ t.l.length) (fun i => put (put (put (put (put empty 1 (.bp 0 0)) 5 (bys (forms (t.upto i)))) 21 (.sl none (t.l.map spz) .ro)) 22 (vi (t.l.length : Int))) 23 (vi (i : Int))) (fun _ => [.box [(.sl none (t.l.map spz) .ro), vi t.n], .row (forms (t.upto 0)).length 1]) (fun i => t.l.length - i) 0 ?_ ?_ ?_ ?_ ?_ ?_ ?_
   · exact Nat.zero_le _
   · (repeat (first | exact FLe.empty _ | refine FLe.put ?_ ?_)) <;> first | (simp only [nf, Nat.beq]; done) | rfl | ((try simp only [nf, Nat.beq]); first | rfl | (simp only [List.length_map]; done) | (congr 2; omega; done))
   · rfl
   · exact fun _ => rfl
   · intro p hp; (try dsimp only); (repeat' (refine un_put ?_ ?_)) <;> first | exact un_empty | exact .bp (by decide) | exact .lf (D.flat_lf rfl) | exact .lf (lf_ints (.inl rfl)) | exact .lf (lf_map (f := spz) (fun _ => rfl) (.inl rfl))
   · intro p hp; (try dsimp only); repeat' (first | exact un_nil | refine un_cons ?_ ?_ | exact un_box rfl | exact un_boxL lf_rpt | exact trivial)
   · intro i hi
     try dsimp only at hi ⊢
     refine AWP.sr ?_
     refine n_ibin rfl n0OjZ n0OjZ rfl ?_
     refine AOps.nil ?_
     refine AWP.seq ?_
     refine AWP.cond n0OjZ (fun hc2 => ?_) (fun hc2 => ?_)
     · try simp only [nh] at hc2
       have hil : i < t.l.length := by omega
       have hx := map_at spz (nth_at (t := t) hil)
       have hI1 : Does Tryz.prog 13 [bys (forms (t.upto i)), .sl none (ints .i64 [(t.nth i).e, (t.nth i).r, (t.nth i).p, (t.nth i).o]) .ro] [] (.sl none (ints .u8 (forms (t.upto i) ++ forms (t.nth i).four)) (.own 0)) [.row (forms (t.upto i) ++ forms (t.nth i).four).length 1] := p_int (forms (t.upto i)) (t.nth i).four (Sp.four_i64 (single_sp1 (good_at hg hil))) (by have := forms_small hg i; simp only [Sp.four, List.length_cons, List.length_nil]; omega)
       rw [← forms_add, ← upto_next hil] at hI1
       refine AWP.skip ?_
       refine AWP.seq ?_
       refine AWP.block ?_
       refine AWP.sr ?_
       refine n_indexAddr rfl Tryz.underlying47 ti51 rfl n0OjZ n0OjZ (by omega) (by exact hx) rfl ?_
       refine n_load rfl ti51 n0OjZ n0OjZ rfl n0OjZ ?_
       refine n_alloc rfl zi51 rfl n0OjZ n0OjZ ?_
       refine n_store ti51 n0OjZ rfl n0OjZ rfl n0OjZ rfl rfl rfl n0OjZ ?_
       refine AOps.nil ?_
       refine AWP.region ?_
       refine n_move rfl n0OjZ ?_
       refine n_fieldAddr rfl fd51_0 ti2 rfl n0OjZ rfl n0OjZ ?_
       refine n_load rfl ti2 n0OjZ n0OjZ rfl n0OjZ ?_
       refine n_fieldAddr rfl fd51_1 ti3 rfl n0OjZ rfl n0OjZ ?_
       refine n_load rfl ti3 n0OjZ n0OjZ rfl n0OjZ ?_
       refine n_fieldAddr rfl fd51_2 ti2 rfl n0OjZ rfl n0OjZ ?_
       refine n_load rfl ti2 n0OjZ n0OjZ rfl n0OjZ ?_
       refine n_fieldAddr rfl fd51_3 ti2 rfl n0OjZ rfl n0OjZ ?_
       refine n_load rfl ti2 n0OjZ n0OjZ rfl n0OjZ ?_
       refine n_lit rfl Tryz.underlying24 ti2 zi2 rfl rfl e1OjZ rfl n0OjZ ?_
       refine n_callOwnB rfl cf13 rfl e1OjZ r2OjZ (hI1) (by first | exact ints_lf _ _) rfl n0OjZ ?_
       refine n_assign rfl n0OjZ ?_
       refine AOps.nil ?_
       refine AWP.asRo (t := 5) n0OjZ ?_
       refine AWP.region ?_
       first | refine n_iadd rfl n0OjZ n0OjZ rfl (by omega) (by omega) ?_ | refine n_ibin rfl n0OjZ n0OjZ rfl ?_
       refine n_move rfl n0OjZ ?_
       refine AOps.nil ?_
       refine ⟨i + 1, [.box (spz (t.nth i)), .row (forms (t.upto (i + 1))).length 1], by omega, ?_, rfl, by omega⟩
       (repeat (first | exact FLe.empty _ | refine FLe.put ?_ ?_)) <;> first | (simp only [nf, Nat.beq]; done) | rfl | ((try simp only [nf, Nat.beq]); first | rfl | (simp only [List.length_map]; done) | (congr 2; omega; done))
     · try simp only [nh] at hc2
       obtain rfl : i = t.l.length := by omega
       have hz : t.bytes = forms (t.upto t.l.length) := by unfold Tb.bytes; rw [if_neg (by simp [hc0])]
       refine AWP.exit ?_
       refine AWP.sr ?_
       refine n_move rfl n0OjZ ?_
       refine n_assign rfl n0OjZ ?_
       refine n_assign rfl n0OjZ ?_
       refine AOps.nil ?_
       refine AWP.ret ?_
       refine fin_pure (.cons (rv_tmp n0OjZ) (.cons (rv_tmp n0OjZ) .nil)) n0OjZ ?_
       refine .tup rfl (ren_two (by first | exact ren_bys0 hz | exact ren_bys hz) (ren_flat rfl (by first | rfl | rw [hz2])))

set_option maxHeartbeats 4000000 in
theorem l_parse (b : List Int) (hb : Byt b) (hl : L40 b) : Does Tryz.prog 97 [bys b] [] (.tup [tz (Tb.parse b).1, vi (Tb.parse b).2]) [] := by
 refine Does.of_body (rvs := [.cell 2 49, .tmp 3]) Tryz.func97 rfl rfl rfl rfl ?_
 obtain ⟨o1, ho1⟩ : ∃ r, r = (⟨b, 0⟩ : Up).w := ⟨_, rfl⟩
 have hok1 : o1.2.ok := by rw [ho1]; exact Up.w_ok ⟨hb, hl⟩
 obtain ⟨o2, ho2⟩ : ∃ r, r = o1.2.int 0 4096 := ⟨_, rfl⟩
 have hok2 : o2.2.ok := by rw [ho2]; exact Up.int_ok hok1 _ _
 have hrg : 0 ≤ o2.1 ∧ o2.1 ≤ 4096 := by rw [ho2]; exact Up.int_rng (by decide) (by decide)
 obtain ⟨s, hs0⟩ : ∃ s, s = Tb.rds o2.1.toNat o2.2 := ⟨_, rfl⟩
 have hp : Tb.parse b = if s.2.close ≠ 0 then (⟨[], 0⟩, s.2.close) else if (⟨s.1, o1.1⟩ : Tb).chk ≠ 0 then (⟨[], 0⟩, (⟨s.1, o1.1⟩ : Tb).chk) else (⟨s.1, o1.1⟩, 0) := by rw [hs0, ho2, ho1]; rfl
 have d1 := l_any ⟨b, 0⟩ ⟨hb, hl⟩
 rw [← ho1] at d1
 have d2 := Rd.U_int o1.2 hok1 0 4096
 rw [← ho2] at d2
 refine AWP.sr ?_
 refine n_alloc rfl zi49 rfl n0OjZ n0OjZ ?_
 refine n_assign rfl n0OjZ ?_
 refine AOps.nil ?_
 refine AWP.sr ?_
 refine n_move rfl n0OjZ ?_
 refine n_call0B rfl cf35 rfl e1OjZ r2OjZ (b_clone _ (by first | assumption | (simp only [L40, List.length_take, List.length_drop] at *; omega))) l4OjZ ?_
 refine n_callNewB rfl cf20 rfl e1OjZ r2OjZ (u_open _ (by assumption)) x3OjZ rfl n0OjZ ?_
 refine n_alloc rfl zi60 rfl n0OjZ n0OjZ ?_
 refine n_store ti60 n0OjZ rfl n0OjZ rfl n0OjZ rfl rfl rfl n0OjZ ?_
 refine AOps.nil ?_
 refine AWP.sr ?_
 refine n_makeFunc rfl e1OjZ e1OjZ ?_
 refine n_assign rfl n0OjZ ?_
 refine AOps.nil ?_
 refine AWP.sr ?_
 refine n_move rfl n0OjZ ?_
 refine n_callClo rfl cf111 n0OjZ e1OjZ r2OjZ (by rfl) (by rfl) (by rfl) r2OjZ (d1) x3OjZ l4OjZ n0OjZ ?_
 refine n_build rfl si49 e1OjZ e1OjZ rfl ?_
 refine n_alloc rfl zi49 rfl n0OjZ n0OjZ ?_
 refine n_store ti49 n0OjZ rfl n0OjZ rfl n0OjZ rfl rfl rfl n0OjZ ?_
 refine AOps.nil ?_
 refine AWP.seq ?_
 refine AWP.seq ?_
 refine AWP.adoptBox (j := 3) (i := 0) (m := 0) (sz := 4) (S' := [.box [.sl (some true) [] .full, vi 0], .box (Up.z o1.2), .box [.bp 1 0], .box [.sl none [] (.own 4), vi o1.1], .row 0 4]) rfl rfl rfl rfl rfl ?_
 refine AWP.region ?_
 refine n_load rfl ti60 n0OjZ n0OjZ rfl n0OjZ ?_
 refine n_callBoxB rfl cf50 rfl e1OjZ r2OjZ (by rfl) r2OjZ (d2) x3OjZ l4OjZ n0OjZ ?_
 refine n_assign rfl n0OjZ ?_
 refine AOps.nil ?_
 refine AWP.block ?_
 refine AWP.loopX 5 (α := List Sp × Up × Nat) (fun p => p.2.1.ok ∧ p.1.length + p.2.2 ≤ 4096 ∧ s = (p.1 ++ (Tb.rds p.2.2 p.2.1).1, (Tb.rds p.2.2 p.2.1).2)) (fun p => put (put (put (put (put (put empty 2 (.bp 0 0)) 3 (vi 0)) 4 (.bp 2 0)) 5 (.fn (.func 111) [] [.bp 2 0])) 6 (.bp 3 0)) 7 (vi (p.2.2 : Int))) (fun p => [.box [.sl (some true) [] .full, vi 0], .box (Up.z p.2.1), .box [.bp 1 0], .box [.sl none (p.1.map spz) (.own 4), vi o1.1], .row p.1.length 4]) (fun p => p.2.2) ([], o2.2, o2.1.toNat) ?_ ?_ ?_ ?_ ?_ ?_ ?_
 · exact ⟨hok2, by simp only [List.length_nil]; omega, by rw [hs0]; simp⟩
 · (repeat (first | exact FLe.empty _ | refine FLe.put ?_ ?_)) <;> first | (simp only [nf, Nat.beq]; done) | rfl | ((try simp only [nf, Nat.beq]); first | rfl | (simp only [List.length_map]; done) | (congr 2; omega; done) | (congr 2; dsimp only; omega; done))
 · rfl
 · exact fun _ => rfl
 · intro p hp; (try dsimp only); (repeat' (refine un_put ?_ ?_)) <;> first | exact un_empty | exact .bp (by decide) | exact .lf (D.flat_lf rfl) | exact .lf (lf_ints (.inl rfl)) | exact .fn (fun d h => by cases h) (fun d h => by simp only [List.mem_cons, List.not_mem_nil, or_false] at h; subst h; exact .bp (by decide))
 · intro p hp; (try dsimp only); repeat' (first | exact un_nil | refine un_cons ?_ ?_ | exact un_box rfl | exact trivial | exact un_boxL (lf_cons (lf_ints (.inl rfl)) (lf_cons (.val _) (lf_cons (.val _) lf_nil))) | exact (fun d hd => by simp only [List.mem_cons, List.not_mem_nil, or_false] at hd; subst hd; exact .bp (by decide)) | exact (fun d hd => by simp only [List.mem_cons, List.not_mem_nil, or_false] at hd; rcases hd with rfl | rfl <;> first | exact .lf (.val _) | exact .lf (.sl (fun x h => by cases h) (.inr rfl)) | exact .sl (fun x hx d hd => by obtain ⟨p, _, rfl⟩ := List.mem_map.1 hx; exact .lf (flats_lf (by rfl) d hd)) (fun l e => by cases e; decide)))
 · rintro ⟨l, v, k⟩ ⟨hv, hlk, hs⟩
   dsimp only at hv hlk hs ⊢
   obtain ⟨r1, hr1⟩ : ∃ r, r = (v : Up).w := ⟨_, rfl⟩
   have ok1 : r1.2.ok := by rw [hr1]; exact Up.w_ok hv
   obtain ⟨r2, hr2⟩ : ∃ r, r = r1.2.w := ⟨_, rfl⟩
   have ok2 : r2.2.ok := by rw [hr2]; exact Up.w_ok ok1
   obtain ⟨r3, hr3⟩ : ∃ r, r = r2.2.w := ⟨_, rfl⟩
   have ok3 : r3.2.ok := by rw [hr3]; exact Up.w_ok ok2
   obtain ⟨r4, hr4⟩ : ∃ r, r = r3.2.w := ⟨_, rfl⟩
   have ok4 : r4.2.ok := by rw [hr4]; exact Up.w_ok ok3
   have c1 := l_any v hv
   rw [← hr1] at c1
   have c2 := l_any r1.2 ok1
   rw [← hr2] at c2
   have c3 := l_any r2.2 ok2
   rw [← hr3] at c3
   have c4 := l_any r3.2 ok3
   rw [← hr4] at c4
   have ce := Rd.U_err v
   have cc := Rd.U_close v
   refine AWP.seq ?_
   refine AWP.sr ?_
   refine n_move rfl n0OjZ ?_
   refine n_ibin rfl n0OjZ n0OjZ rfl ?_
   refine n_move rfl n0OjZ ?_
   refine AOps.name (u := 22) (fun z => .val (.bool z)) n0OjZ (fun b22 hb22 => ?_)
   refine n_softT b22 rfl rfl rfl n0OjZ (fun h => by
    subst h
    refine n_load rfl ti60 n0OjZ n0OjZ rfl n0OjZ ?_
    exact AOps.nil ⟨rfl, rfl, rfl⟩) ?_
   refine n_softT b22 rfl rfl rfl n0OjZ (fun h => by
    subst h
    refine n_callBoxB rfl cf60 rfl e1OjZ r2OjZ (by rfl) r2OjZ (ce) x3OjZ l4OjZ n0OjZ ?_
    exact AOps.nil ⟨rfl, rfl, rfl⟩) ?_
   refine n_softT b22 rfl rfl rfl n0OjZ (fun h => by
    subst h
    refine n_ibin rfl n0OjZ n0OjZ rfl ?_
    exact AOps.nil ⟨rfl, rfl, rfl⟩) ?_
   refine n_pick_and rfl n0OjZ (fun h => by cases b22 with | false => exact absurd h (by decide) | true => exact n0OjZ) ?_
   subst hb22
   refine AOps.nil ?_
   refine AWP.cond n0OjZ (fun hc1 => ?_) (fun hc1 => ?_)
   · try simp only [nh] at hc1
     have hk0 : 0 < k := by omega
     obtain ⟨k1, rfl⟩ : ∃ j, k = j + 1 := ⟨k - 1, by omega⟩
     have he0 : v.e = 0 := by simp at hc1; first | exact hc1 | exact hc1.2
     have hgo := rds_go (k := k1) (u := v) he0 (hr1.symm : v.w = (r1.1, r1.2)) (hr2.symm : r1.2.w = (r2.1, r2.2)) (hr3.symm : r2.2.w = (r3.1, r3.2)) (hr4.symm : r3.2.w = (r4.1, r4.2))
     refine AWP.skip ?_
     refine AWP.seq ?_
     refine AWP.block ?_
     refine AWP.sr ?_
     refine n_move rfl n0OjZ ?_
     refine n_callClo rfl cf111 n0OjZ e1OjZ r2OjZ (by rfl) (by rfl) (by rfl) r2OjZ (c1) x3OjZ l4OjZ n0OjZ ?_
     refine n_build rfl si51 e1OjZ e1OjZ rfl ?_
     refine n_alloc rfl zi51 rfl n0OjZ n0OjZ ?_
     refine n_store ti51 n0OjZ rfl n0OjZ rfl n0OjZ rfl rfl rfl n0OjZ ?_
     refine AOps.nil ?_
     refine AWP.sr ?_
     refine n_move rfl n0OjZ ?_
     refine n_callClo rfl cf111 n0OjZ e1OjZ r2OjZ (by rfl) (by rfl) (by rfl) r2OjZ (c2) x3OjZ l4OjZ n0OjZ ?_
     refine n_fieldAddr rfl fd51_1 ti3 rfl n0OjZ rfl n0OjZ ?_
     refine n_store ti3 n0OjZ rfl n0OjZ rfl n0OjZ rfl rfl rfl n0OjZ ?_
     refine AOps.nil ?_
     refine AWP.sr ?_
     refine n_move rfl n0OjZ ?_
     refine n_callClo rfl cf111 n0OjZ e1OjZ r2OjZ (by rfl) (by rfl) (by rfl) r2OjZ (c3) x3OjZ l4OjZ n0OjZ ?_
     refine n_fieldAddr rfl fd51_2 ti2 rfl n0OjZ rfl n0OjZ ?_
     refine n_store ti2 n0OjZ rfl n0OjZ rfl n0OjZ rfl rfl rfl n0OjZ ?_
     refine AOps.nil ?_
     refine AWP.sr ?_
     refine n_move rfl n0OjZ ?_
     refine n_callClo rfl cf111 n0OjZ e1OjZ r2OjZ (by rfl) (by rfl) (by rfl) r2OjZ (c4) x3OjZ l4OjZ n0OjZ ?_
     refine n_fieldAddr rfl fd51_3 ti2 rfl n0OjZ rfl n0OjZ ?_
     refine n_store ti2 n0OjZ rfl n0OjZ rfl n0OjZ rfl rfl rfl n0OjZ ?_
     refine AOps.nil ?_
     refine AWP.region ?_
     refine n_fieldAddr rfl fd49_0 ti47 rfl n0OjZ rfl n0OjZ ?_
     refine n_load rfl ti47 n0OjZ n0OjZ rfl n0OjZ ?_
     refine n_load rfl ti51 n0OjZ n0OjZ rfl n0OjZ ?_
     refine n_lit rfl Tryz.underlying47 ti51 zi51 rfl rfl e1OjZ rfl n0OjZ ?_
     refine n_append_own (zs := (l ++ [(⟨r1.1, r2.1, r3.1, r4.1⟩ : Sp)]).map spz) (m := (l ++ [(⟨r1.1, r2.1, r3.1, r4.1⟩ : Sp)]).length) rfl Tryz.underlying47 Tryz.underlying47 ei51 n0OjZ n0OjZ (by simp only [List.length_map]) n0OjZ (by exact map_one (f := spz) (fun _ => rfl)) (by exact one_one rfl) (by simp) (by simp) (by simp only [List.length_append, List.length_cons, List.length_nil]; omega) n0OjZ ?_
     refine n_fieldAddr rfl fd49_0 ti47 rfl n0OjZ rfl n0OjZ ?_
     refine n_store ti47 n0OjZ rfl n0OjZ rfl n0OjZ rfl rfl rfl n0OjZ ?_
     refine AOps.nil ?_
     refine AWP.region ?_
     refine n_move rfl n0OjZ ?_
     first | refine n_isub rfl n0OjZ n0OjZ rfl (by omega) (by omega) ?_ | refine n_ibin rfl n0OjZ n0OjZ rfl ?_
     refine n_assign rfl n0OjZ ?_
     refine AOps.nil ?_
     refine ⟨(l ++ [(⟨r1.1, r2.1, r3.1, r4.1⟩ : Sp)], r4.2, k1), [.box (spz (⟨r1.1, r2.1, r3.1, r4.1⟩ : Sp))], ⟨ok4, by simp only [List.length_append, List.length_cons, List.length_nil]; omega, by rw [hs, hgo]; simp⟩, ?_, rfl, by dsimp only; omega⟩
     (repeat (first | exact FLe.empty _ | refine FLe.put ?_ ?_)) <;> first | (simp only [nf, Nat.beq]; done) | rfl | ((try simp only [nf, Nat.beq]); first | rfl | (simp only [List.length_map]; done) | (congr 2; omega; done) | (congr 2; dsimp only; omega; done))
   · try simp only [nh] at hc1
     have hst : Tb.rds k v = ([], v) := rds_stop (by by_cases hkk : k = 0; exact .inl hkk; right; intro he9; simp [Up.clr_e, he9] at hc1; first | omega | done)
     rw [hst, List.append_nil] at hs
     rw [hs] at hp
     dsimp only at hp
     refine AWP.exit ?_
     refine AWP.seq ?_
     refine AWP.sr ?_
     refine n_load rfl ti60 n0OjZ n0OjZ rfl n0OjZ ?_
     refine n_callBoxB rfl cf22 rfl e1OjZ r2OjZ (by rfl) r2OjZ (cc) x3OjZ l4OjZ n0OjZ ?_
     refine n_assign rfl n0OjZ ?_
     refine AOps.nil ?_
     refine AWP.sr ?_
     refine n_move rfl n0OjZ ?_
     refine n_ibin rfl n0OjZ n0OjZ rfl ?_
     refine AOps.nil ?_
     refine AWP.cond n0OjZ (fun hc2 => ?_) (fun hc2 => ?_)
     · try simp only [nh] at hc2
       have h1 := hc2
       refine AWP.sr ?_
       refine n_build rfl si49 e1OjZ e1OjZ rfl ?_
       refine n_move rfl n0OjZ ?_
       refine n_store ti49 n0OjZ rfl n0OjZ rfl n0OjZ rfl rfl rfl n0OjZ ?_
       refine n_assign rfl n0OjZ ?_
       refine AOps.nil ?_
       refine AWP.ret ?_
       refine fin_pure (.cons (rv_cell ti49 n0OjZ n0OjZ rfl n0OjZ) (.cons (rv_tmp n0OjZ) .nil)) n0OjZ ?_
       first | (rw [if_pos h1] at hp; rw [hp]; exact .tup rfl (ren_two (ren_tz0 rfl) (ren_flat rfl rfl))) | (rw [if_neg (by simp [h1])] at hp; first | (rw [if_pos h2] at hp; rw [hp]; exact .tup rfl (ren_two (ren_tz0 rfl) (ren_flat rfl rfl))) | (rw [if_neg (by simp [h2])] at hp; rw [hp]; exact .tup rfl (ren_two ren_tz (ren_flat rfl rfl))))
     · try simp only [nh] at hc2
       have h1 := hc2
       have hck := l_chk (⟨l, o1.1⟩ : Tb) (by dsimp only; omega)
       refine AWP.skip ?_
       refine AWP.seq ?_
       refine AWP.sr ?_
       refine n_load rfl ti49 n0OjZ n0OjZ rfl n0OjZ ?_
       refine n_call0B rfl cf91 rfl e1OjZ r2OjZ (hck) l4OjZ ?_
       refine n_assign rfl n0OjZ ?_
       refine AOps.nil ?_
       refine AWP.sr ?_
       refine n_move rfl n0OjZ ?_
       refine n_ibin rfl n0OjZ n0OjZ rfl ?_
       refine AOps.nil ?_
       refine AWP.cond n0OjZ (fun hc3 => ?_) (fun hc3 => ?_)
       · try simp only [nh] at hc3
         have h2 := hc3
         refine AWP.sr ?_
         refine n_build rfl si49 e1OjZ e1OjZ rfl ?_
         refine n_move rfl n0OjZ ?_
         refine n_store ti49 n0OjZ rfl n0OjZ rfl n0OjZ rfl rfl rfl n0OjZ ?_
         refine n_assign rfl n0OjZ ?_
         refine AOps.nil ?_
         refine AWP.ret ?_
         refine fin_pure (.cons (rv_cell ti49 n0OjZ n0OjZ rfl n0OjZ) (.cons (rv_tmp n0OjZ) .nil)) n0OjZ ?_
         first | (rw [if_pos h1] at hp; rw [hp]; exact .tup rfl (ren_two (ren_tz0 rfl) (ren_flat rfl rfl))) | (rw [if_neg (by simp [h1])] at hp; first | (rw [if_pos h2] at hp; rw [hp]; exact .tup rfl (ren_two (ren_tz0 rfl) (ren_flat rfl rfl))) | (rw [if_neg (by simp [h2])] at hp; rw [hp]; exact .tup rfl (ren_two ren_tz (ren_flat rfl rfl))))
       · try simp only [nh] at hc3
         have h2 := hc3
         refine AWP.skip ?_
         refine AWP.sr ?_
         refine n_load rfl ti49 n0OjZ n0OjZ rfl n0OjZ ?_
         refine n_store ti49 n0OjZ rfl n0OjZ rfl n0OjZ rfl rfl rfl n0OjZ ?_
         refine n_assign rfl n0OjZ ?_
         refine AOps.nil ?_
         refine AWP.ret ?_
         refine fin_pure (.cons (rv_cell ti49 n0OjZ n0OjZ rfl n0OjZ) (.cons (rv_tmp n0OjZ) .nil)) n0OjZ ?_
         first | (rw [if_pos h1] at hp; rw [hp]; exact .tup rfl (ren_two (ren_tz0 rfl) (ren_flat rfl rfl))) | (rw [if_neg (by simp [h1])] at hp; first | (rw [if_pos h2] at hp; rw [hp]; exact .tup rfl (ren_two (ren_tz0 rfl) (ren_flat rfl rfl))) | (rw [if_neg (by simp [h2])] at hp; rw [hp]; exact .tup rfl (ren_two ren_tz (ren_flat rfl rfl))))

end Go.Proofs.YtanfmpkjcoolmaaGreat.Oj
