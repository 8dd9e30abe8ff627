/- The readers of messages. -/
import Derived.Test.YtanfmpkjcoolmaaGreatPlainA
import Derived.Test.YtanfmpkjcoolmaaGreatWlA
import Derived.Test.YtanfmpkjcoolmaaGreatRdZ
set_option linter.unusedVariables false
set_option linter.unusedSimpArgs false
namespace Go.Proofs.YtanfmpkjcoolmaaGreat.Wn
open Go Go.Abs Go.Proofs.YtanfmpkjcoolmaaGreat.Pk Wa Wb Wh Codec
attribute [local irreducible] AWP AOps Does

theorem n0WnA {α : Type} {a b : α} (h : a = b := by first|simp only[nf,Nat.beq]<;>rfl|rfl) : a = b := h
theorem e1WnA {α : Type} {a b : α} (h : a = b := by exact Eq.trans (by simp only [nl] <;> rfl) n0WnA) : a = b := h
theorem r2WnA {ρ σ : Nat → Nat → Prop} {a b : List D} (h : RenAll ρ σ a b := by repeat (first | exact .nil | refine .cons ?_ ?_ | exact ren_ints | exact .lf (.val _) | exact .lf (lf_ints (.inl rfl)) | exact .bp ⟨rfl, rfl⟩ | exact .bp (.inl ⟨rfl, rfl⟩) | exact .bp (.inr ⟨rfl, rfl⟩) | exact .agg rfl (RenAll.get (.cons (.bp ⟨rfl, rfl⟩) .nil)) | exact .agg rfl (RenAll.get (.cons (.bp (.inl ⟨rfl, rfl⟩)) .nil)) | exact .fn rfl rfl (RenAll.get (.cons (.agg rfl (RenAll.get (.cons (.bp ⟨rfl, rfl⟩) .nil))) .nil)) (RenAll.get .nil) | exact .lf (txz_lf _) | exact .lf (.agg (qt_lf _)) | exact .agg rfl (RenAll.get (by repeat (first | exact .nil | refine .cons ?_ ?_ | exact .lf (.val _) | exact ren_map (f := q1) (fun _ => rfl) | exact ren_map (f := q2) (fun _ => rfl) | exact ren_map (f := q4) (fun _ => rfl) | exact ren_mapG qt_lf | exact .ro (fun x h => by cases h) | exact ren_ints))) | exact ren_bys0 rfl | exact .lf lf_fnz | exact .lf (D.flat_lf rfl) | exact ren_lits rfl)) : RenAll ρ σ a b := h
theorem r3WnA {ρ σ : Nat → Nat → Prop} {a b : List D} (h : RenAll ρ σ a b := by repeat (first | exact .nil | refine .cons ?_ ?_ | exact .lf (.val _) | exact ren_map (f := q1) (fun _ => rfl) | exact ren_map (f := q2) (fun _ => rfl) | exact ren_map (f := q4) (fun _ => rfl) | exact ren_mapG qt_lf | exact .ro (fun x h => by cases h) | exact ren_ints)) : RenAll ρ σ a b := h
theorem x4WnA {a : List D} (h : ∀ d ∈ a, LF d := by repeat (first | exact lf_nil | refine lf_cons ?_ ?_ | exact .val _ | exact lf_ints (.inl rfl))) : ∀ d ∈ a, LF d := h
theorem l5WnA {d : D} (h : LF d := by first | exact .val _ | exact lf_ints (.inl rfl) | exact lf_ints (.inr rfl) | exact .any | exact txz_lf _ | exact .agg (qt_lf _) | exact lf_mapG qt_lf (.inl rfl) | exact lf_map (f := q1) (fun _ => rfl) (.inl rfl) | exact lf_map (f := q2) (fun _ => rfl) (.inl rfl) | exact lf_map (f := q4) (fun _ => rfl) (.inl rfl) | exact .tup (lf_cons (txz_lf _) (lf_cons (.val _) lf_nil)) | exact .tup (lf_cons (.agg (qt_lf _)) (lf_cons (.val _) lf_nil)) | exact .tup (lf_cons (.agg (lf_cons (.val _) (lf_cons (.val _) (lf_cons (.val _) (lf_cons (.val _) lf_nil))))) (lf_cons (.val _) lf_nil)) | exact .agg (lf_cons (.val _) (lf_cons (.val _) lf_nil)) | exact .agg (lf_cons (.val _) (lf_cons (.val _) (lf_cons (.val _) (lf_cons (.val _) lf_nil)))) | exact .tup lf_nil | exact .tup (lf_cons (lf_ints (.inl rfl)) (lf_cons (.val _) lf_nil)) | exact D.flat_lf rfl) : LF d := h
theorem cf100 : CF Tryz.prog 100 := ⟨_, Tryz.func100, by kernel_rfl, by kernel_rfl⟩
theorem cf101 : CF Tryz.prog 101 := ⟨_, Tryz.func101, by kernel_rfl, by kernel_rfl⟩
theorem cf102 : CF Tryz.prog 102 := ⟨_, Tryz.func102, by kernel_rfl, by kernel_rfl⟩
theorem cf103 : CF Tryz.prog 103 := ⟨_, Tryz.func103, by kernel_rfl, by kernel_rfl⟩
theorem cf20 : CF Tryz.prog 20 := ⟨_, Tryz.func20, by kernel_rfl, by kernel_rfl⟩
theorem cf22 : CF Tryz.prog 22 := ⟨_, Tryz.func22, by kernel_rfl, by kernel_rfl⟩
theorem cf50 : CF Tryz.prog 50 := ⟨_, Tryz.func50, by kernel_rfl, by kernel_rfl⟩
theorem cf52 : CF Tryz.prog 52 := ⟨_, Tryz.func52, by kernel_rfl, by kernel_rfl⟩
theorem cf54 : CF Tryz.prog 54 := ⟨_, Tryz.func54, by kernel_rfl, by kernel_rfl⟩
theorem cf57 : CF Tryz.prog 57 := ⟨_, Tryz.func57, by kernel_rfl, by kernel_rfl⟩
theorem cf60 : CF Tryz.prog 60 := ⟨_, Tryz.func60, by kernel_rfl, by kernel_rfl⟩
theorem cf79 : CF Tryz.prog 79 := ⟨_, Tryz.func79, by kernel_rfl, by kernel_rfl⟩
theorem cf81 : CF Tryz.prog 81 := ⟨_, Tryz.func81, by kernel_rfl, by kernel_rfl⟩
theorem cf83 : CF Tryz.prog 83 := ⟨_, Tryz.func83, by kernel_rfl, by kernel_rfl⟩
theorem cf84 : CF Tryz.prog 84 := ⟨_, Tryz.func84, by kernel_rfl, by kernel_rfl⟩
theorem cf85 : CF Tryz.prog 85 := ⟨_, Tryz.func85, by kernel_rfl, by kernel_rfl⟩
theorem cf86 : CF Tryz.prog 86 := ⟨_, Tryz.func86, by kernel_rfl, by kernel_rfl⟩
theorem cf96 : CF Tryz.prog 96 := ⟨_, Tryz.func96, by kernel_rfl, by kernel_rfl⟩
theorem cf97 : CF Tryz.prog 97 := ⟨_, Tryz.func97, by kernel_rfl, by kernel_rfl⟩
theorem cf98 : CF Tryz.prog 98 := ⟨_, Tryz.func98, by kernel_rfl, by kernel_rfl⟩
theorem cf99 : CF Tryz.prog 99 := ⟨_, Tryz.func99, by kernel_rfl, by kernel_rfl⟩
theorem ei2 : EI Tryz.prog 2 1 8 (.int .i64 0) := EI.of (by kernel_rfl) rfl rfl
theorem ei44 : EI Tryz.prog 44 2 16 (.agg #[.int .i64 0, .int .i64 0]) := EI.of (by kernel_rfl) rfl rfl
theorem ei46 : EI Tryz.prog 46 4 32 (.agg #[.int .i64 0, .int .i64 0, .int .i64 0, .int .i64 0]) := EI.of (by kernel_rfl) rfl rfl
theorem ei49 : EI Tryz.prog 49 2 32 (.agg #[.slice none 0 0, .int .i64 0]) := EI.of (by kernel_rfl) rfl rfl
theorem fd125_0 : FD Tryz.prog 125 0 60 0 := ⟨_, _, Tryz.underlying125, rfl, rfl, rfl⟩
theorem fd26_1 : FD Tryz.prog 26 1 2 1 := ⟨_, _, Tryz.underlying26, rfl, rfl, rfl⟩
theorem fd26_2 : FD Tryz.prog 26 2 2 2 := ⟨_, _, Tryz.underlying26, rfl, rfl, rfl⟩
theorem fd26_3 : FD Tryz.prog 26 3 23 3 := ⟨_, _, Tryz.underlying26, rfl, rfl, rfl⟩
theorem fd26_4 : FD Tryz.prog 26 4 24 4 := ⟨_, _, Tryz.underlying26, rfl, rfl, rfl⟩
theorem fd28_1 : FD Tryz.prog 28 1 2 1 := ⟨_, _, Tryz.underlying28, rfl, rfl, rfl⟩
theorem fd44_1 : FD Tryz.prog 44 1 2 1 := ⟨_, _, Tryz.underlying44, rfl, rfl, rfl⟩
theorem fd63_0 : FD Tryz.prog 63 0 60 0 := ⟨_, _, Tryz.underlying63, rfl, rfl, rfl⟩
theorem si125 : SI Tryz.prog 125 #[(0, 1)] (.agg #[.pointer none]) := ⟨⟨_, Tryz.underlying125, fun w => by kernel_rfl⟩, by kernel_rfl⟩
theorem si26 : SI Tryz.prog 26 #[(0, 1), (1, 1), (2, 1), (3, 1), (4, 1)] (.agg #[.int .i64 0, .int .i64 0, .int .i64 0, .slice none 0 0, .slice none 0 0]) := ⟨⟨_, Tryz.underlying26, fun w => by kernel_rfl⟩, by kernel_rfl⟩
theorem si28 : SI Tryz.prog 28 #[(0, 1), (1, 1)] (.agg #[.int .i64 0, .int .i64 0]) := ⟨⟨_, Tryz.underlying28, fun w => by kernel_rfl⟩, by kernel_rfl⟩
theorem si44 : SI Tryz.prog 44 #[(0, 1), (1, 1)] (.agg #[.int .i64 0, .int .i64 0]) := ⟨⟨_, Tryz.underlying44, fun w => by kernel_rfl⟩, by kernel_rfl⟩
theorem ti125 : TI Tryz.prog 125 1 true := ⟨by kernel_rfl, by kernel_rfl⟩
theorem ti2 : TI Tryz.prog 2 1 false := ⟨by kernel_rfl, by kernel_rfl⟩
theorem ti23 : TI Tryz.prog 23 1 false := ⟨by kernel_rfl, by kernel_rfl⟩
theorem ti24 : TI Tryz.prog 24 1 false := ⟨by kernel_rfl, by kernel_rfl⟩
theorem ti26 : TI Tryz.prog 26 5 true := ⟨by kernel_rfl, by kernel_rfl⟩
theorem ti28 : TI Tryz.prog 28 2 true := ⟨by kernel_rfl, by kernel_rfl⟩
theorem ti44 : TI Tryz.prog 44 2 true := ⟨by kernel_rfl, by kernel_rfl⟩
theorem ti46 : TI Tryz.prog 46 4 true := ⟨by kernel_rfl, by kernel_rfl⟩
theorem ti49 : TI Tryz.prog 49 2 true := ⟨by kernel_rfl, by kernel_rfl⟩
theorem ti60 : TI Tryz.prog 60 1 false := ⟨by kernel_rfl, by kernel_rfl⟩
theorem ti63 : TI Tryz.prog 63 1 true := ⟨by kernel_rfl, by kernel_rfl⟩
theorem zi125 : (Tryz.prog.info? 125).map (·.zero) = some (some (.agg #[.pointer none])) := by kernel_rfl
theorem zi2 : (Tryz.prog.info? 2).map (·.zero) = some (some (.int .i64 0)) := by kernel_rfl
theorem zi26 : (Tryz.prog.info? 26).map (·.zero) = some (some (.agg #[.int .i64 0, .int .i64 0, .int .i64 0, .slice none 0 0, .slice none 0 0])) := by kernel_rfl
theorem zi28 : (Tryz.prog.info? 28).map (·.zero) = some (some (.agg #[.int .i64 0, .int .i64 0])) := by kernel_rfl
theorem zi44 : (Tryz.prog.info? 44).map (·.zero) = some (some (.agg #[.int .i64 0, .int .i64 0])) := by kernel_rfl
theorem zi46 : (Tryz.prog.info? 46).map (·.zero) = some (some (.agg #[.int .i64 0, .int .i64 0, .int .i64 0, .int .i64 0])) := by kernel_rfl
theorem zi49 : (Tryz.prog.info? 49).map (·.zero) = some (some (.agg #[.slice none 0 0, .int .i64 0])) := by kernel_rfl

attribute [local irreducible] Up.int Up.str Up.close Up.rest Up.clr Up.spoil Up.w Up.flag Tb.parse En.parse Codec.rdl
theorem U_C (lo hi : Int) (u : Up) (hu : u.ok) : Does Tryz.prog 50 [.bp 0 0, vi lo, vi hi] [.box (Up.z u)] (vi (Codec.get (Codec.int lo hi) u).1) [.box (Up.z (Codec.get (Codec.int lo hi) u).2)] := Rd.U_int u hu lo hi
theorem U_S (u : Up) (hu : u.ok) : Does Tryz.prog 84 [.bp 0 0, vi 131072] [.box (Up.z u)] (bys (Codec.get (Codec.str 131072) u).1) [.box (Up.z (Codec.get (Codec.str 131072) u).2)] := Rd.U_str u hu 131072 ⟨by decide, by decide⟩
theorem U_spoil (u : Up) (x : Int) : Does Tryz.prog 79 [.bp 0 0, vi x] [.box (Up.z u)] (.tup []) [.box (Up.z (u.spoil x))] := by
 have h := u_spoil u.b u.e x
 have e : u.spoil x = ⟨u.b, if u.e = 0 then x else u.e⟩ := by unfold Up.spoil; split <;> rfl
 rw [e]; exact h
theorem o_parse (b : List Int) (hb : Byt b) (hl : L40 b) : Does Tryz.prog 97 [bys b] [] (.tup [.agg (qt (ofTb (Tb.parse b).1)), vi (Tb.parse b).2]) [] := by
 have h := Oj.l_parse b hb hl
 have e : tz (Tb.parse b).1 = .agg (qt (ofTb (Tb.parse b).1)) := by rw [← tz_to, toTb_of]
 rw [e] at h; exact h
theorem m_parse (b : List Int) (hb : Byt b) (hl : L40 b) : Does Tryz.prog 99 [bys b] [] (.tup [.agg (q4 (ofEn (En.parse b).1)), vi (En.parse b).2]) [] := Mb.l_parse b hb hl
theorem v_num (u : Up) (hu : u.ok) : Does Tryz.prog 100 [.agg [.bp 0 0]] [.box (Up.z u)] (vi (Codec.get WC u).1) [.box (Up.z (Codec.get WC u).2)] := by
 refine Does.of_body (rvs := [.tmp 2]) Tryz.func100 rfl rfl rfl rfl ?_
 obtain ⟨r1, hr1⟩ : ∃ r, r = Codec.get WC u := ⟨_, rfl⟩
 have d1 := U_C (-9223372036854775808) 9223372036854775807 u hu
 rw [← hr1] at d1 ⊢
 refine AWP.sr ?_
 refine n_box rfl n0WnA rfl rfl n0WnA n0WnA ?_
 refine n_assign rfl n0WnA ?_
 refine AOps.nil ?_
 refine AWP.sr ?_
 refine n_fieldAddr rfl fd125_0 ti60 rfl n0WnA rfl n0WnA ?_
 refine n_load rfl ti60 n0WnA n0WnA rfl n0WnA ?_
 refine n_callBoxB rfl cf50 rfl e1WnA r2WnA (by rfl) r2WnA (d1) x4WnA l5WnA n0WnA ?_
 refine n_assign rfl n0WnA ?_
 refine AOps.nil ?_
 refine AWP.ret ?_
 refine fin_box (.cons (rv_tmp n0WnA) .nil) n0WnA ?_ rfl ?_
 · exact ren_flat rfl rfl
 · exact renU rfl rfl

theorem l_num (u : Up) (hu : u.ok) : Does Tryz.prog 54 [.agg [.bp 0 0]] [.box (Up.z u)] (vi (Codec.get numC u).1) [.box (Up.z (Codec.get numC u).2)] := by
 refine Does.of_body (rvs := [.tmp 2]) Tryz.func54 rfl rfl rfl rfl ?_
 obtain ⟨r1, hr1⟩ : ∃ r, r = Codec.get numC u := ⟨_, rfl⟩
 have d1 := U_C (0) 9007199254740992 u hu
 rw [← hr1] at d1 ⊢
 refine AWP.sr ?_
 refine n_box rfl n0WnA rfl rfl n0WnA n0WnA ?_
 refine n_assign rfl n0WnA ?_
 refine AOps.nil ?_
 refine AWP.sr ?_
 refine n_fieldAddr rfl fd63_0 ti60 rfl n0WnA rfl n0WnA ?_
 refine n_load rfl ti60 n0WnA n0WnA rfl n0WnA ?_
 refine n_callBoxB rfl cf50 rfl e1WnA r2WnA (by rfl) r2WnA (d1) x4WnA l5WnA n0WnA ?_
 refine n_assign rfl n0WnA ?_
 refine AOps.nil ?_
 refine AWP.ret ?_
 refine fin_box (.cons (rv_tmp n0WnA) .nil) n0WnA ?_ rfl ?_
 · exact ren_flat rfl rfl
 · exact renU rfl rfl

theorem l_pos (u : Up) (hu : u.ok) : Does Tryz.prog 52 [.agg [.bp 0 0]] [.box (Up.z u)] (vi (Codec.get posC u).1) [.box (Up.z (Codec.get posC u).2)] := by
 refine Does.of_body (rvs := [.tmp 2]) Tryz.func52 rfl rfl rfl rfl ?_
 obtain ⟨r1, hr1⟩ : ∃ r, r = Codec.get posC u := ⟨_, rfl⟩
 have d1 := U_C (1) 9007199254740992 u hu
 rw [← hr1] at d1 ⊢
 refine AWP.sr ?_
 refine n_box rfl n0WnA rfl rfl n0WnA n0WnA ?_
 refine n_assign rfl n0WnA ?_
 refine AOps.nil ?_
 refine AWP.sr ?_
 refine n_fieldAddr rfl fd63_0 ti60 rfl n0WnA rfl n0WnA ?_
 refine n_load rfl ti60 n0WnA n0WnA rfl n0WnA ?_
 refine n_callBoxB rfl cf50 rfl e1WnA r2WnA (by rfl) r2WnA (d1) x4WnA l5WnA n0WnA ?_
 refine n_assign rfl n0WnA ?_
 refine AOps.nil ?_
 refine AWP.ret ?_
 refine fin_box (.cons (rv_tmp n0WnA) .nil) n0WnA ?_ rfl ?_
 · exact ren_flat rfl rfl
 · exact renU rfl rfl

theorem l_errno (u : Up) (hu : u.ok) : Does Tryz.prog 55 [.agg [.bp 0 0]] [.box (Up.z u)] (vi (Codec.get errC u).1) [.box (Up.z (Codec.get errC u).2)] := by
 refine Does.of_body (rvs := [.tmp 2]) Tryz.func55 rfl rfl rfl rfl ?_
 obtain ⟨r1, hr1⟩ : ∃ r, r = Codec.get errC u := ⟨_, rfl⟩
 have d1 := U_C (0) 65536 u hu
 rw [← hr1] at d1 ⊢
 refine AWP.sr ?_
 refine n_box rfl n0WnA rfl rfl n0WnA n0WnA ?_
 refine n_assign rfl n0WnA ?_
 refine AOps.nil ?_
 refine AWP.sr ?_
 refine n_fieldAddr rfl fd63_0 ti60 rfl n0WnA rfl n0WnA ?_
 refine n_load rfl ti60 n0WnA n0WnA rfl n0WnA ?_
 refine n_callBoxB rfl cf50 rfl e1WnA r2WnA (by rfl) r2WnA (d1) x4WnA l5WnA n0WnA ?_
 refine n_assign rfl n0WnA ?_
 refine AOps.nil ?_
 refine AWP.ret ?_
 refine fin_box (.cons (rv_tmp n0WnA) .nil) n0WnA ?_ rfl ?_
 · exact ren_flat rfl rfl
 · exact renU rfl rfl

theorem v_rec (u : Up) (hu : u.ok) : Does Tryz.prog 102 [.agg [.bp 0 0]] [.box (Up.z u)] (.agg (q2 (Codec.get (pair WC WC) u).1)) [.box (Up.z (Codec.get (pair WC WC) u).2)] := by
 refine Does.of_body (rvs := [.cell 2 44]) Tryz.func102 rfl rfl rfl rfl ?_
 obtain ⟨r1, hr1⟩ : ∃ r, r = Codec.get WC u := ⟨_, rfl⟩
 have ok1 : r1.2.ok := by rw [hr1]; exact int_kp u hu
 have d1 := v_num u hu
 rw [← hr1] at d1
 obtain ⟨r2, hr2⟩ : ∃ r, r = Codec.get WC r1.2 := ⟨_, rfl⟩
 have ok2 : r2.2.ok := by rw [hr2]; exact int_kp r1.2 ok1
 have d2 := v_num r1.2 ok1
 rw [← hr2] at d2
 have hp : Codec.get (pair WC WC) u = ((r1.1, r2.1), r2.2) := by { rw [hr2, hr1]; rfl }
 rw [hp]
 refine AWP.sr ?_
 refine n_box rfl n0WnA rfl rfl n0WnA n0WnA ?_
 refine n_alloc rfl zi44 rfl n0WnA n0WnA ?_
 refine AOps.nil ?_
 refine AWP.sr ?_
 refine n_load rfl ti125 n0WnA n0WnA rfl n0WnA ?_
 refine n_callBoxB rfl cf100 rfl e1WnA r2WnA (by rfl) r2WnA (d1) x4WnA l5WnA n0WnA ?_
 refine n_build rfl si44 e1WnA e1WnA rfl ?_
 refine n_alloc rfl zi44 rfl n0WnA n0WnA ?_
 refine n_store ti44 n0WnA rfl n0WnA rfl n0WnA rfl rfl rfl n0WnA ?_
 refine AOps.nil ?_
 refine AWP.sr ?_
 refine n_load rfl ti125 n0WnA n0WnA rfl n0WnA ?_
 refine n_callBoxB rfl cf100 rfl e1WnA r2WnA (by rfl) r2WnA (d2) x4WnA l5WnA n0WnA ?_
 refine n_fieldAddr rfl fd44_1 ti2 rfl n0WnA rfl n0WnA ?_
 refine n_store ti2 n0WnA rfl n0WnA rfl n0WnA rfl rfl rfl n0WnA ?_
 refine AOps.nil ?_
 refine AWP.sr ?_
 refine n_load rfl ti44 n0WnA n0WnA rfl n0WnA ?_
 refine n_store ti44 n0WnA rfl n0WnA rfl n0WnA rfl rfl rfl n0WnA ?_
 refine AOps.nil ?_
 refine AWP.ret ?_
 refine fin_box (.cons (rv_cell ti44 n0WnA n0WnA rfl n0WnA) .nil) n0WnA ?_ rfl ?_
 · exact .agg rfl (RenAll.get (.cons (.lf (.val _)) (.cons (.lf (.val _)) .nil)))
 · exact renU rfl rfl

theorem l_key (u : Up) (hu : u.ok) : Does Tryz.prog 58 [.agg [.bp 0 0]] [.box (Up.z u)] (.agg (q2 (Codec.get keyC u).1)) [.box (Up.z (Codec.get keyC u).2)] := by
 refine Does.of_body (rvs := [.cell 2 28]) Tryz.func58 rfl rfl rfl rfl ?_
 obtain ⟨r1, hr1⟩ : ∃ r, r = Codec.get posC u := ⟨_, rfl⟩
 have ok1 : r1.2.ok := by rw [hr1]; exact int_kp u hu
 have d1 := l_pos u hu
 rw [← hr1] at d1
 obtain ⟨r2, hr2⟩ : ∃ r, r = Codec.get posC r1.2 := ⟨_, rfl⟩
 have ok2 : r2.2.ok := by rw [hr2]; exact int_kp r1.2 ok1
 have d2 := l_pos r1.2 ok1
 rw [← hr2] at d2
 have hp : Codec.get keyC u = ((r1.1, r2.1), r2.2) := by { rw [hr2, hr1]; rfl }
 rw [hp]
 refine AWP.sr ?_
 refine n_box rfl n0WnA rfl rfl n0WnA n0WnA ?_
 refine n_alloc rfl zi28 rfl n0WnA n0WnA ?_
 refine AOps.nil ?_
 refine AWP.sr ?_
 refine n_load rfl ti63 n0WnA n0WnA rfl n0WnA ?_
 refine n_callBoxB rfl cf52 rfl e1WnA r2WnA (by rfl) r2WnA (d1) x4WnA l5WnA n0WnA ?_
 refine n_build rfl si28 e1WnA e1WnA rfl ?_
 refine n_alloc rfl zi28 rfl n0WnA n0WnA ?_
 refine n_store ti28 n0WnA rfl n0WnA rfl n0WnA rfl rfl rfl n0WnA ?_
 refine AOps.nil ?_
 refine AWP.sr ?_
 refine n_load rfl ti63 n0WnA n0WnA rfl n0WnA ?_
 refine n_callBoxB rfl cf52 rfl e1WnA r2WnA (by rfl) r2WnA (d2) x4WnA l5WnA n0WnA ?_
 refine n_fieldAddr rfl fd28_1 ti2 rfl n0WnA rfl n0WnA ?_
 refine n_store ti2 n0WnA rfl n0WnA rfl n0WnA rfl rfl rfl n0WnA ?_
 refine AOps.nil ?_
 refine AWP.sr ?_
 refine n_load rfl ti28 n0WnA n0WnA rfl n0WnA ?_
 refine n_store ti28 n0WnA rfl n0WnA rfl n0WnA rfl rfl rfl n0WnA ?_
 refine AOps.nil ?_
 refine AWP.ret ?_
 refine fin_box (.cons (rv_cell ti28 n0WnA n0WnA rfl n0WnA) .nil) n0WnA ?_ rfl ?_
 · exact .agg rfl (RenAll.get (.cons (.lf (.val _)) (.cons (.lf (.val _)) .nil)))
 · exact renU rfl rfl

set_option maxHeartbeats 2000000 in
theorem v_recs (u : Up) (hu : u.ok) : Does Tryz.prog 101 [.agg [.bp 0 0], (.fn (.func 102) [] [])] [.box (Up.z u)] (.sl none ((Codec.get (Codec.list 0 262144 (pair WC WC)) u).1.map q2) .ro) [.box (Up.z (Codec.get (Codec.list 0 262144 (pair WC WC)) u).2)] := by
 refine Does.of_body (rvs := [.tmp 4]) Tryz.func101 rfl rfl rfl rfl ?_
 obtain ⟨s0, hs0⟩ : ∃ r, r = Codec.get (Codec.int 0 262144) u := ⟨_, rfl⟩
 have ok0 : s0.2.ok := by rw [hs0]; exact int_kp u hu
 have d0 := U_C 0 262144 u hu
 rw [← hs0] at d0
 have hrg := int_rng0 (by decide) (by decide) hs0
 obtain ⟨s, hs1⟩ : ∃ s, s = Codec.rdl (pair WC WC) s0.1.toNat s0.2 := ⟨_, rfl⟩
 have hp := list_get hs0 hs1
 refine AWP.sr ?_
 refine n_box rfl n0WnA rfl rfl n0WnA n0WnA ?_
 refine n_assign rfl n0WnA ?_
 refine AOps.nil ?_
 refine AWP.sr ?_
 refine n_assign rfl n0WnA ?_
 refine AOps.nil ?_
 refine AWP.seq ?_
 refine AWP.seq ?_
 refine AWP.adopt (t := 5) (m := 0) (S' := [.box (Up.z u), .box [.bp 0 0], .row 0 2]) (by rfl) rfl rfl rfl ?_
 refine AWP.region ?_
 refine n_fieldAddr rfl fd125_0 ti60 rfl n0WnA rfl n0WnA ?_
 refine n_load rfl ti60 n0WnA n0WnA rfl n0WnA ?_
 refine n_callBoxB rfl cf50 rfl e1WnA r2WnA (by rfl) r2WnA (d0) x4WnA l5WnA n0WnA ?_
 refine n_assign rfl n0WnA ?_
 refine AOps.nil ?_
 refine AWP.block ?_
 refine AWP.loop (α := List (Int × Int) × Up × Nat) (fun p => p.2.1.ok ∧ p.1.length + p.2.2 ≤ 262144 ∧ s = (p.1 ++ (Codec.rdl (pair WC WC) p.2.2 p.2.1).1, (Codec.rdl (pair WC WC) p.2.2 p.2.1).2)) (fun p => put (put (put (put empty 1 (.fn (.func 102) [] [])) 2 (.bp 1 0)) 5 (.sl none (p.1.map q2) (.own 2))) 6 (vi (p.2.2 : Int))) (fun p => [.box (Up.z p.2.1), .box [.bp 0 0], .row p.1.length 2]) (fun p => p.2.2) ([], s0.2, s0.1.toNat) ?_ ?_ ?_ ?_
 · exact ⟨ok0, by simp only [List.length_nil]; omega, by rw [hs1]; simp⟩
 · (repeat (first | exact FLe.empty _ | refine FLe.put ?_ ?_)) <;> first | (simp only [nf, Nat.beq]; done) | rfl | ((try simp only [nf, Nat.beq]); first | rfl | (simp only [List.length_map]; done) | (congr 2; omega; done) | (congr 2; dsimp only; omega; done))
 · rfl
 · rintro ⟨l, v, k⟩ ⟨hv, hlk, hs⟩
   dsimp only at hv hlk hs ⊢
   have ce := Rd.U_err v
   obtain ⟨x, hx⟩ : ∃ x, x = Codec.get (pair WC WC) v := ⟨_, rfl⟩
   have okx : x.2.ok := by rw [hx]; exact rec_kp v hv
   have c1 := v_rec v hv
   rw [← hx] at c1
   refine AWP.seq ?_
   refine AWP.sr ?_
   refine n_move rfl n0WnA ?_
   refine n_ibin rfl n0WnA n0WnA rfl ?_
   refine n_move rfl n0WnA ?_
   refine AOps.name (u := 12) (fun z => .val (.bool z)) n0WnA (fun b12 hb12 => ?_)
   refine n_softT b12 rfl rfl rfl n0WnA (fun h => by
    subst h
    refine n_fieldAddr rfl fd125_0 ti60 rfl n0WnA rfl n0WnA ?_
    exact AOps.nil ⟨rfl, rfl, rfl⟩) ?_
   refine n_softT b12 rfl rfl rfl n0WnA (fun h => by
    subst h
    refine n_load rfl ti60 n0WnA n0WnA rfl n0WnA ?_
    exact AOps.nil ⟨rfl, rfl, rfl⟩) ?_
   refine n_softT b12 rfl rfl rfl n0WnA (fun h => by
    subst h
    refine n_callBoxB rfl cf60 rfl e1WnA r2WnA (by rfl) r2WnA (ce) x4WnA l5WnA n0WnA ?_
    exact AOps.nil ⟨rfl, rfl, rfl⟩) ?_
   refine n_softT b12 rfl rfl rfl n0WnA (fun h => by
    subst h
    refine n_ibin rfl n0WnA n0WnA rfl ?_
    exact AOps.nil ⟨rfl, rfl, rfl⟩) ?_
   refine n_pick_and rfl n0WnA (fun h => by cases b12 with | false => exact absurd h (by decide) | true => exact n0WnA) ?_
   subst hb12
   refine AOps.nil ?_
   refine AWP.cond n0WnA (fun hc1 => ?_) (fun hc1 => ?_)
   · try simp only [nh] at hc1
     have hk0 : 0 < k := by (simp at hc1; omega)
     have he0 : v.e = 0 := by (simp at hc1; exact hc1.2)
     obtain ⟨k1, rfl⟩ : ∃ j, k = j + 1 := ⟨k - 1, by omega⟩
     have hgo := Codec.rdl_go (c := (pair WC WC)) (k := k1) he0
     rw [← hx] at hgo
     refine AWP.skip ?_
     refine AWP.seq ?_
     refine AWP.block ?_
     refine AWP.region ?_
     refine n_move rfl n0WnA ?_
     refine n_move rfl n0WnA ?_
     refine n_load rfl ti125 n0WnA n0WnA rfl n0WnA ?_
     refine n_callBoxB rfl cf102 rfl e1WnA r2WnA (by rfl) r2WnA (c1) x4WnA l5WnA n0WnA ?_
     refine n_lit rfl Tryz.underlying23 ti44 zi44 rfl rfl e1WnA rfl n0WnA ?_
     refine n_append_own (zs := (l ++ [x.1]).map q2) (m := (l ++ [x.1]).length) rfl Tryz.underlying23 Tryz.underlying23 ei44 n0WnA n0WnA (by simp only [List.length_map]) n0WnA (by exact map_one (f := q2) (fun _ => rfl)) (by exact one_one rfl) (by simp) (by simp) (by simp only [List.length_append, List.length_cons, List.length_nil]; omega) n0WnA ?_
     refine n_assign rfl n0WnA ?_
     refine AOps.nil ?_
     refine AWP.region ?_
     refine n_move rfl n0WnA ?_
     first | refine n_isub rfl n0WnA n0WnA rfl (by omega) (by omega) ?_ | refine n_ibin rfl n0WnA n0WnA rfl ?_
     refine n_assign rfl n0WnA ?_
     refine AOps.nil ?_
     refine ⟨(l ++ [x.1], x.2, k1), ⟨okx, by simp only [List.length_append, List.length_cons, List.length_nil]; omega, by rw [hs, hgo]; simp⟩, ?_, rfl, by dsimp only; omega⟩
     (repeat (first | exact FLe.empty _ | refine FLe.put ?_ ?_)) <;> first | (simp only [nf, Nat.beq]; done) | rfl | ((try simp only [nf, Nat.beq]); first | rfl | (simp only [List.length_map]; done) | (congr 2; omega; done) | (congr 2; dsimp only; omega; done))
   · try simp only [nh] at hc1
     have hst : Codec.rdl (pair WC WC) k v = ([], v) := Codec.rdl_stop (by by_cases hkk : k = 0; exact .inl hkk; right; intro he9; simp [he9] at hc1; omega)
     rw [hst, List.append_nil] at hs
     rw [hs] at hp
     dsimp only at hp
     rw [hp]
     refine AWP.exit ?_
     refine AWP.seq ?_
     refine AWP.asRo (t := 5) n0WnA ?_
     refine AWP.region ?_
     refine n_move rfl n0WnA ?_
     refine n_assign rfl n0WnA ?_
     refine AOps.nil ?_
     refine AWP.ret ?_
     refine fin_box (.cons (rv_tmp n0WnA) .nil) n0WnA ?_ rfl ?_
     · exact ren_map (f := q2) (fun _ => rfl)
     · exact renU rfl rfl

set_option maxHeartbeats 2000000 in
theorem v_nums (u : Up) (hu : u.ok) : Does Tryz.prog 103 [.agg [.bp 0 0], (.fn (.func 100) [] [])] [.box (Up.z u)] (.sl none ((Codec.get (Codec.list 0 262144 WC) u).1.map q1) .ro) [.box (Up.z (Codec.get (Codec.list 0 262144 WC) u).2)] := by
 refine Does.of_body (rvs := [.tmp 4]) Tryz.func103 rfl rfl rfl rfl ?_
 obtain ⟨s0, hs0⟩ : ∃ r, r = Codec.get (Codec.int 0 262144) u := ⟨_, rfl⟩
 have ok0 : s0.2.ok := by rw [hs0]; exact int_kp u hu
 have d0 := U_C 0 262144 u hu
 rw [← hs0] at d0
 have hrg := int_rng0 (by decide) (by decide) hs0
 obtain ⟨s, hs1⟩ : ∃ s, s = Codec.rdl WC s0.1.toNat s0.2 := ⟨_, rfl⟩
 have hp := list_get hs0 hs1
 refine AWP.sr ?_
 refine n_box rfl n0WnA rfl rfl n0WnA n0WnA ?_
 refine n_assign rfl n0WnA ?_
 refine AOps.nil ?_
 refine AWP.sr ?_
 refine n_assign rfl n0WnA ?_
 refine AOps.nil ?_
 refine AWP.seq ?_
 refine AWP.seq ?_
 refine AWP.adopt (t := 5) (m := 0) (S' := [.box (Up.z u), .box [.bp 0 0], .row 0 1]) (by rfl) rfl rfl rfl ?_
 refine AWP.region ?_
 refine n_fieldAddr rfl fd125_0 ti60 rfl n0WnA rfl n0WnA ?_
 refine n_load rfl ti60 n0WnA n0WnA rfl n0WnA ?_
 refine n_callBoxB rfl cf50 rfl e1WnA r2WnA (by rfl) r2WnA (d0) x4WnA l5WnA n0WnA ?_
 refine n_assign rfl n0WnA ?_
 refine AOps.nil ?_
 refine AWP.block ?_
 refine AWP.loop (α := List Int × Up × Nat) (fun p => p.2.1.ok ∧ p.1.length + p.2.2 ≤ 262144 ∧ s = (p.1 ++ (Codec.rdl WC p.2.2 p.2.1).1, (Codec.rdl WC p.2.2 p.2.1).2)) (fun p => put (put (put (put empty 1 (.fn (.func 100) [] [])) 2 (.bp 1 0)) 5 (.sl none (p.1.map q1) (.own 2))) 6 (vi (p.2.2 : Int))) (fun p => [.box (Up.z p.2.1), .box [.bp 0 0], .row p.1.length 1]) (fun p => p.2.2) ([], s0.2, s0.1.toNat) ?_ ?_ ?_ ?_
 · exact ⟨ok0, by simp only [List.length_nil]; omega, by rw [hs1]; simp⟩
 · (repeat (first | exact FLe.empty _ | refine FLe.put ?_ ?_)) <;> first | (simp only [nf, Nat.beq]; done) | rfl | ((try simp only [nf, Nat.beq]); first | rfl | (simp only [List.length_map]; done) | (congr 2; omega; done) | (congr 2; dsimp only; omega; done))
 · rfl
 · rintro ⟨l, v, k⟩ ⟨hv, hlk, hs⟩
   dsimp only at hv hlk hs ⊢
   have ce := Rd.U_err v
   obtain ⟨x, hx⟩ : ∃ x, x = Codec.get WC v := ⟨_, rfl⟩
   have okx : x.2.ok := by rw [hx]; exact int_kp v hv
   have c1 := v_num v hv
   rw [← hx] at c1
   refine AWP.seq ?_
   refine AWP.sr ?_
   refine n_move rfl n0WnA ?_
   refine n_ibin rfl n0WnA n0WnA rfl ?_
   refine n_move rfl n0WnA ?_
   refine AOps.name (u := 12) (fun z => .val (.bool z)) n0WnA (fun b12 hb12 => ?_)
   refine n_softT b12 rfl rfl rfl n0WnA (fun h => by
    subst h
    refine n_fieldAddr rfl fd125_0 ti60 rfl n0WnA rfl n0WnA ?_
    exact AOps.nil ⟨rfl, rfl, rfl⟩) ?_
   refine n_softT b12 rfl rfl rfl n0WnA (fun h => by
    subst h
    refine n_load rfl ti60 n0WnA n0WnA rfl n0WnA ?_
    exact AOps.nil ⟨rfl, rfl, rfl⟩) ?_
   refine n_softT b12 rfl rfl rfl n0WnA (fun h => by
    subst h
    refine n_callBoxB rfl cf60 rfl e1WnA r2WnA (by rfl) r2WnA (ce) x4WnA l5WnA n0WnA ?_
    exact AOps.nil ⟨rfl, rfl, rfl⟩) ?_
   refine n_softT b12 rfl rfl rfl n0WnA (fun h => by
    subst h
    refine n_ibin rfl n0WnA n0WnA rfl ?_
    exact AOps.nil ⟨rfl, rfl, rfl⟩) ?_
   refine n_pick_and rfl n0WnA (fun h => by cases b12 with | false => exact absurd h (by decide) | true => exact n0WnA) ?_
   subst hb12
   refine AOps.nil ?_
   refine AWP.cond n0WnA (fun hc1 => ?_) (fun hc1 => ?_)
   · try simp only [nh] at hc1
     have hk0 : 0 < k := by (simp at hc1; omega)
     have he0 : v.e = 0 := by (simp at hc1; exact hc1.2)
     obtain ⟨k1, rfl⟩ : ∃ j, k = j + 1 := ⟨k - 1, by omega⟩
     have hgo := Codec.rdl_go (c := WC) (k := k1) he0
     rw [← hx] at hgo
     refine AWP.skip ?_
     refine AWP.seq ?_
     refine AWP.block ?_
     refine AWP.region ?_
     refine n_move rfl n0WnA ?_
     refine n_move rfl n0WnA ?_
     refine n_load rfl ti125 n0WnA n0WnA rfl n0WnA ?_
     refine n_callBoxB rfl cf100 rfl e1WnA r2WnA (by rfl) r2WnA (c1) x4WnA l5WnA n0WnA ?_
     refine n_lit rfl Tryz.underlying24 ti2 zi2 rfl rfl e1WnA rfl n0WnA ?_
     refine n_append_own (zs := (l ++ [x.1]).map q1) (m := (l ++ [x.1]).length) rfl Tryz.underlying24 Tryz.underlying24 ei2 n0WnA n0WnA (by simp only [List.length_map]) n0WnA (by exact map_one (f := q1) (fun _ => rfl)) (by exact one_one rfl) (by simp) (by simp) (by simp only [List.length_append, List.length_cons, List.length_nil]; omega) n0WnA ?_
     refine n_assign rfl n0WnA ?_
     refine AOps.nil ?_
     refine AWP.region ?_
     refine n_move rfl n0WnA ?_
     first | refine n_isub rfl n0WnA n0WnA rfl (by omega) (by omega) ?_ | refine n_ibin rfl n0WnA n0WnA rfl ?_
     refine n_assign rfl n0WnA ?_
     refine AOps.nil ?_
     refine ⟨(l ++ [x.1], x.2, k1), ⟨okx, by simp only [List.length_append, List.length_cons, List.length_nil]; omega, by rw [hs, hgo]; simp⟩, ?_, rfl, by dsimp only; omega⟩
     (repeat (first | exact FLe.empty _ | refine FLe.put ?_ ?_)) <;> first | (simp only [nf, Nat.beq]; done) | rfl | ((try simp only [nf, Nat.beq]); first | rfl | (simp only [List.length_map]; done) | (congr 2; omega; done) | (congr 2; dsimp only; omega; done))
   · try simp only [nh] at hc1
     have hst : Codec.rdl WC k v = ([], v) := Codec.rdl_stop (by by_cases hkk : k = 0; exact .inl hkk; right; intro he9; simp [he9] at hc1; omega)
     rw [hst, List.append_nil] at hs
     rw [hs] at hp
     dsimp only at hp
     rw [hp]
     refine AWP.exit ?_
     refine AWP.seq ?_
     refine AWP.asRo (t := 5) n0WnA ?_
     refine AWP.region ?_
     refine n_move rfl n0WnA ?_
     refine n_assign rfl n0WnA ?_
     refine AOps.nil ?_
     refine AWP.ret ?_
     refine fin_box (.cons (rv_tmp n0WnA) .nil) n0WnA ?_ rfl ?_
     · exact ren_map (f := q1) (fun _ => rfl)
     · exact renU rfl rfl

set_option maxHeartbeats 2000000 in
theorem l_nums (u : Up) (hu : u.ok) : Does Tryz.prog 86 [.agg [.bp 0 0], vi 4, (.fn (.func 54) [.agg [.bp 0 0]] [])] [.box (Up.z u)] (.sl none ((Codec.get (Codec.list 1 4 numC) u).1.map q1) .ro) [.box (Up.z (Codec.get (Codec.list 1 4 numC) u).2)] := by
 refine Does.of_body (rvs := [.tmp 6]) Tryz.func86 rfl rfl rfl rfl ?_
 obtain ⟨s0, hs0⟩ : ∃ r, r = Codec.get (Codec.int 1 4) u := ⟨_, rfl⟩
 have ok0 : s0.2.ok := by rw [hs0]; exact int_kp u hu
 have d0 := U_C 1 4 u hu
 rw [← hs0] at d0
 have hrg := int_rng0 (by decide) (by decide) hs0
 obtain ⟨s, hs1⟩ : ∃ s, s = Codec.rdl numC s0.1.toNat s0.2 := ⟨_, rfl⟩
 have hp := list_get hs0 hs1
 refine AWP.sr ?_
 refine n_box rfl n0WnA rfl rfl n0WnA n0WnA ?_
 refine n_assign rfl n0WnA ?_
 refine AOps.nil ?_
 refine AWP.sr ?_
 refine n_assign rfl n0WnA ?_
 refine AOps.nil ?_
 refine AWP.seq ?_
 refine AWP.seq ?_
 refine AWP.adopt (t := 7) (m := 0) (S' := [.box (Up.z u), .box [.bp 0 0], .row 0 1]) (by rfl) rfl rfl rfl ?_
 refine AWP.region ?_
 refine n_fieldAddr rfl fd63_0 ti60 rfl n0WnA rfl n0WnA ?_
 refine n_load rfl ti60 n0WnA n0WnA rfl n0WnA ?_
 refine n_move rfl n0WnA ?_
 refine n_callBoxB rfl cf50 rfl e1WnA r2WnA (by rfl) r2WnA (d0) x4WnA l5WnA n0WnA ?_
 refine n_assign rfl n0WnA ?_
 refine AOps.nil ?_
 refine AWP.block ?_
 refine AWP.loop (α := List Int × Up × Nat) (fun p => p.2.1.ok ∧ p.1.length + p.2.2 ≤ 4 ∧ s = (p.1 ++ (Codec.rdl numC p.2.2 p.2.1).1, (Codec.rdl numC p.2.2 p.2.1).2)) (fun p => put (put (put (put empty 2 (.fn (.func 54) [.agg [.bp 0 0]] [])) 3 (.bp 1 0)) 7 (.sl none (p.1.map q1) (.own 2))) 8 (vi (p.2.2 : Int))) (fun p => [.box (Up.z p.2.1), .box [.bp 0 0], .row p.1.length 1]) (fun p => p.2.2) ([], s0.2, s0.1.toNat) ?_ ?_ ?_ ?_
 · exact ⟨ok0, by simp only [List.length_nil]; omega, by rw [hs1]; simp⟩
 · (repeat (first | exact FLe.empty _ | refine FLe.put ?_ ?_)) <;> first | (simp only [nf, Nat.beq]; done) | rfl | ((try simp only [nf, Nat.beq]); first | rfl | (simp only [List.length_map]; done) | (congr 2; omega; done) | (congr 2; dsimp only; omega; done))
 · rfl
 · rintro ⟨l, v, k⟩ ⟨hv, hlk, hs⟩
   dsimp only at hv hlk hs ⊢
   have ce := Rd.U_err v
   obtain ⟨x, hx⟩ : ∃ x, x = Codec.get numC v := ⟨_, rfl⟩
   have okx : x.2.ok := by rw [hx]; exact int_kp v hv
   have c1 := l_num v hv
   rw [← hx] at c1
   refine AWP.seq ?_
   refine AWP.sr ?_
   refine n_move rfl n0WnA ?_
   refine n_ibin rfl n0WnA n0WnA rfl ?_
   refine n_move rfl n0WnA ?_
   refine AOps.name (u := 15) (fun z => .val (.bool z)) n0WnA (fun b15 hb15 => ?_)
   refine n_softT b15 rfl rfl rfl n0WnA (fun h => by
    subst h
    refine n_fieldAddr rfl fd63_0 ti60 rfl n0WnA rfl n0WnA ?_
    exact AOps.nil ⟨rfl, rfl, rfl⟩) ?_
   refine n_softT b15 rfl rfl rfl n0WnA (fun h => by
    subst h
    refine n_load rfl ti60 n0WnA n0WnA rfl n0WnA ?_
    exact AOps.nil ⟨rfl, rfl, rfl⟩) ?_
   refine n_softT b15 rfl rfl rfl n0WnA (fun h => by
    subst h
    refine n_callBoxB rfl cf60 rfl e1WnA r2WnA (by rfl) r2WnA (ce) x4WnA l5WnA n0WnA ?_
    exact AOps.nil ⟨rfl, rfl, rfl⟩) ?_
   refine n_softT b15 rfl rfl rfl n0WnA (fun h => by
    subst h
    refine n_ibin rfl n0WnA n0WnA rfl ?_
    exact AOps.nil ⟨rfl, rfl, rfl⟩) ?_
   refine n_pick_and rfl n0WnA (fun h => by cases b15 with | false => exact absurd h (by decide) | true => exact n0WnA) ?_
   subst hb15
   refine AOps.nil ?_
   refine AWP.cond n0WnA (fun hc1 => ?_) (fun hc1 => ?_)
   · try simp only [nh] at hc1
     have hk0 : 0 < k := by (simp at hc1; omega)
     have he0 : v.e = 0 := by (simp at hc1; exact hc1.2)
     obtain ⟨k1, rfl⟩ : ∃ j, k = j + 1 := ⟨k - 1, by omega⟩
     have hgo := Codec.rdl_go (c := numC) (k := k1) he0
     rw [← hx] at hgo
     refine AWP.skip ?_
     refine AWP.seq ?_
     refine AWP.block ?_
     refine AWP.region ?_
     refine n_move rfl n0WnA ?_
     refine n_move rfl n0WnA ?_
     refine n_callBoxB rfl cf54 rfl e1WnA r2WnA (by rfl) r2WnA (c1) x4WnA l5WnA n0WnA ?_
     refine n_lit rfl Tryz.underlying24 ti2 zi2 rfl rfl e1WnA rfl n0WnA ?_
     refine n_append_own (zs := (l ++ [x.1]).map q1) (m := (l ++ [x.1]).length) rfl Tryz.underlying24 Tryz.underlying24 ei2 n0WnA n0WnA (by simp only [List.length_map]) n0WnA (by exact map_one (f := q1) (fun _ => rfl)) (by exact one_one rfl) (by simp) (by simp) (by simp only [List.length_append, List.length_cons, List.length_nil]; omega) n0WnA ?_
     refine n_assign rfl n0WnA ?_
     refine AOps.nil ?_
     refine AWP.region ?_
     refine n_move rfl n0WnA ?_
     first | refine n_isub rfl n0WnA n0WnA rfl (by omega) (by omega) ?_ | refine n_ibin rfl n0WnA n0WnA rfl ?_
     refine n_assign rfl n0WnA ?_
     refine AOps.nil ?_
     refine ⟨(l ++ [x.1], x.2, k1), ⟨okx, by simp only [List.length_append, List.length_cons, List.length_nil]; omega, by rw [hs, hgo]; simp⟩, ?_, rfl, by dsimp only; omega⟩
     (repeat (first | exact FLe.empty _ | refine FLe.put ?_ ?_)) <;> first | (simp only [nf, Nat.beq]; done) | rfl | ((try simp only [nf, Nat.beq]); first | rfl | (simp only [List.length_map]; done) | (congr 2; omega; done) | (congr 2; dsimp only; omega; done))
   · try simp only [nh] at hc1
     have hst : Codec.rdl numC k v = ([], v) := Codec.rdl_stop (by by_cases hkk : k = 0; exact .inl hkk; right; intro he9; simp [he9] at hc1; omega)
     rw [hst, List.append_nil] at hs
     rw [hs] at hp
     dsimp only at hp
     rw [hp]
     refine AWP.exit ?_
     refine AWP.seq ?_
     refine AWP.asRo (t := 7) n0WnA ?_
     refine AWP.region ?_
     refine n_move rfl n0WnA ?_
     refine n_assign rfl n0WnA ?_
     refine AOps.nil ?_
     refine AWP.ret ?_
     refine fin_box (.cons (rv_tmp n0WnA) .nil) n0WnA ?_ rfl ?_
     · exact ren_map (f := q1) (fun _ => rfl)
     · exact renU rfl rfl

theorem l_vector (u : Up) (hu : u.ok) : Does Tryz.prog 59 [.agg [.bp 0 0]] [.box (Up.z u)] (.sl none ((Codec.get vecC u).1.map q1) .ro) [.box (Up.z (Codec.get vecC u).2)] := by
 refine Does.of_body (rvs := [.tmp 2]) Tryz.func59 rfl rfl rfl rfl ?_
 obtain ⟨r1, hr1⟩ : ∃ r, r = Codec.get (Codec.list 1 4 numC) u := ⟨_, rfl⟩
 have d1 := l_nums u hu
 rw [← hr1] at d1
 have hp : Codec.get vecC u = r1 := by { rw [hr1]; rfl }
 rw [hp]
 refine AWP.sr ?_
 refine n_box rfl n0WnA rfl rfl n0WnA n0WnA ?_
 refine n_assign rfl n0WnA ?_
 refine AOps.nil ?_
 refine AWP.sr ?_
 refine n_load rfl ti63 n0WnA n0WnA rfl n0WnA ?_
 refine n_load rfl ti63 n0WnA n0WnA rfl n0WnA ?_
 refine n_makeFunc rfl e1WnA e1WnA ?_
 refine n_callBoxB rfl cf86 rfl e1WnA r2WnA (by rfl) r2WnA (d1) x4WnA l5WnA n0WnA ?_
 refine n_assign rfl n0WnA ?_
 refine AOps.nil ?_
 refine AWP.ret ?_
 refine fin_box (.cons (rv_tmp n0WnA) .nil) n0WnA ?_ rfl ?_
 · exact ren_map (f := q1) (fun _ => rfl)
 · exact renU rfl rfl

set_option maxHeartbeats 2000000 in
theorem v_txn (u : Up) (hu : u.ok) : Does Tryz.prog 85 [.agg [.bp 0 0]] [.box (Up.z u)] (.agg (txz (Codec.get txI u).1)) [.box (Up.z (Codec.get txI u).2)] := by
 refine Does.of_body (rvs := [.cell 2 26]) Tryz.func85 rfl rfl rfl rfl ?_
 obtain ⟨r1, hr1⟩ : ∃ r, r = Codec.get WC u := ⟨_, rfl⟩
 have ok1 : r1.2.ok := by rw [hr1]; exact int_kp u hu
 have d1 := v_num u hu
 rw [← hr1] at d1
 obtain ⟨r2, hr2⟩ : ∃ r, r = Codec.get WC r1.2 := ⟨_, rfl⟩
 have ok2 : r2.2.ok := by rw [hr2]; exact int_kp r1.2 ok1
 have d2 := v_num r1.2 ok1
 rw [← hr2] at d2
 obtain ⟨r3, hr3⟩ : ∃ r, r = Codec.get WC r2.2 := ⟨_, rfl⟩
 have ok3 : r3.2.ok := by rw [hr3]; exact int_kp r2.2 ok2
 have d3 := v_num r2.2 ok2
 rw [← hr3] at d3
 obtain ⟨r4, hr4⟩ : ∃ r, r = Codec.get (Codec.list 0 262144 (pair WC WC)) r3.2 := ⟨_, rfl⟩
 have ok4 : r4.2.ok := by rw [hr4]; exact (list_kp rec_kp) r3.2 ok3
 have d4 := v_recs r3.2 ok3
 rw [← hr4] at d4
 obtain ⟨r5, hr5⟩ : ∃ r, r = Codec.get (Codec.list 0 262144 WC) r4.2 := ⟨_, rfl⟩
 have ok5 : r5.2.ok := by rw [hr5]; exact (list_kp int_kp) r4.2 ok4
 have d5 := v_nums r4.2 ok4
 rw [← hr5] at d5
 have hp : Codec.get txI u = (⟨r1.1, r2.1, r3.1, r4.1, r5.1⟩, r5.2) := by { rw [hr5, hr4, hr3, hr2, hr1]; rfl }
 rw [hp]
 refine AWP.sr ?_
 refine n_box rfl n0WnA rfl rfl n0WnA n0WnA ?_
 refine n_alloc rfl zi26 rfl n0WnA n0WnA ?_
 refine AOps.nil ?_
 refine AWP.sr ?_
 refine n_load rfl ti125 n0WnA n0WnA rfl n0WnA ?_
 refine n_callBoxB rfl cf100 rfl e1WnA r2WnA (by rfl) r2WnA (d1) x4WnA l5WnA n0WnA ?_
 refine n_build rfl si26 e1WnA e1WnA rfl ?_
 refine n_alloc rfl zi26 rfl n0WnA n0WnA ?_
 refine n_store ti26 n0WnA rfl n0WnA rfl n0WnA rfl rfl rfl n0WnA ?_
 refine AOps.nil ?_
 refine AWP.sr ?_
 refine n_load rfl ti125 n0WnA n0WnA rfl n0WnA ?_
 refine n_callBoxB rfl cf100 rfl e1WnA r2WnA (by rfl) r2WnA (d2) x4WnA l5WnA n0WnA ?_
 refine n_fieldAddr rfl fd26_1 ti2 rfl n0WnA rfl n0WnA ?_
 refine n_store ti2 n0WnA rfl n0WnA rfl n0WnA rfl rfl rfl n0WnA ?_
 refine AOps.nil ?_
 refine AWP.sr ?_
 refine n_load rfl ti125 n0WnA n0WnA rfl n0WnA ?_
 refine n_callBoxB rfl cf100 rfl e1WnA r2WnA (by rfl) r2WnA (d3) x4WnA l5WnA n0WnA ?_
 refine n_fieldAddr rfl fd26_2 ti2 rfl n0WnA rfl n0WnA ?_
 refine n_store ti2 n0WnA rfl n0WnA rfl n0WnA rfl rfl rfl n0WnA ?_
 refine AOps.nil ?_
 refine AWP.sr ?_
 refine n_load rfl ti125 n0WnA n0WnA rfl n0WnA ?_
 refine n_callBoxB rfl cf101 rfl e1WnA r2WnA (by rfl) r2WnA (d4) x4WnA l5WnA n0WnA ?_
 refine n_fieldAddr rfl fd26_3 ti23 rfl n0WnA rfl n0WnA ?_
 refine n_store ti23 n0WnA rfl n0WnA rfl n0WnA rfl rfl rfl n0WnA ?_
 refine AOps.nil ?_
 refine AWP.sr ?_
 refine n_load rfl ti125 n0WnA n0WnA rfl n0WnA ?_
 refine n_callBoxB rfl cf103 rfl e1WnA r2WnA (by rfl) r2WnA (d5) x4WnA l5WnA n0WnA ?_
 refine n_fieldAddr rfl fd26_4 ti24 rfl n0WnA rfl n0WnA ?_
 refine n_store ti24 n0WnA rfl n0WnA rfl n0WnA rfl rfl rfl n0WnA ?_
 refine AOps.nil ?_
 refine AWP.sr ?_
 refine n_load rfl ti26 n0WnA n0WnA rfl n0WnA ?_
 refine n_store ti26 n0WnA rfl n0WnA rfl n0WnA rfl rfl rfl n0WnA ?_
 refine AOps.nil ?_
 refine AWP.ret ?_
 refine fin_box (.cons (rv_cell ti26 n0WnA n0WnA rfl n0WnA) .nil) n0WnA ?_ rfl ?_
 · exact .agg rfl (RenAll.get r3WnA)
 · exact renU rfl rfl

theorem v_parse (b : List Int) (hb : Byt b) (hl : L40 b) : Does Tryz.prog 57 [bys b] [] (.tup [.agg (txz (Codec.parse txI txz0 b).1), vi (Codec.parse txI txz0 b).2]) [] := by
 refine Does.of_body (rvs := [.cell 2 26, .tmp 3]) Tryz.func57 rfl rfl rfl rfl ?_
 have ho := u_open b hl
 obtain ⟨r1, hr1⟩ : ∃ r, r = Codec.get txI ⟨b, 0⟩ := ⟨_, rfl⟩
 have d1 := v_txn ⟨b, 0⟩ ⟨hb, hl⟩
 rw [← hr1] at d1
 have cc := Rd.U_close r1.2
 have hp : Codec.parse txI txz0 b = if r1.2.close ≠ 0 then (txz0, r1.2.close) else (r1.1, 0) := by { unfold Codec.parse; rw [hr1] }
 refine AWP.sr ?_
 refine n_alloc rfl zi26 rfl n0WnA n0WnA ?_
 refine n_assign rfl n0WnA ?_
 refine AOps.nil ?_
 refine AWP.sr ?_
 refine n_move rfl n0WnA ?_
 refine n_callNewB rfl cf20 rfl e1WnA r2WnA (ho) x4WnA rfl n0WnA ?_
 refine n_build rfl si125 e1WnA e1WnA rfl ?_
 refine n_alloc rfl zi125 rfl n0WnA n0WnA ?_
 refine n_store ti125 n0WnA rfl n0WnA rfl n0WnA rfl rfl rfl n0WnA ?_
 refine AOps.nil ?_
 refine AWP.sr ?_
 refine n_load rfl ti125 n0WnA n0WnA rfl n0WnA ?_
 refine n_callBoxB rfl cf85 rfl e1WnA r2WnA (by rfl) r2WnA (d1) x4WnA l5WnA n0WnA ?_
 refine n_alloc rfl zi26 rfl n0WnA n0WnA ?_
 refine n_store ti26 n0WnA rfl n0WnA rfl n0WnA rfl rfl rfl n0WnA ?_
 refine AOps.nil ?_
 refine AWP.seq ?_
 refine AWP.sr ?_
 refine n_fieldAddr rfl fd125_0 ti60 rfl n0WnA rfl n0WnA ?_
 refine n_load rfl ti60 n0WnA n0WnA rfl n0WnA ?_
 refine n_callBoxB rfl cf22 rfl e1WnA r2WnA (by rfl) r2WnA (cc) x4WnA l5WnA n0WnA ?_
 refine n_assign rfl n0WnA ?_
 refine AOps.nil ?_
 refine AWP.sr ?_
 refine n_move rfl n0WnA ?_
 refine n_ibin rfl n0WnA n0WnA rfl ?_
 refine AOps.nil ?_
 refine AWP.cond n0WnA (fun hc1 => ?_) (fun hc1 => ?_)
 · try simp only [nh] at hc1
   rw [if_pos hc1] at hp
   rw [hp]
   refine AWP.sr ?_
   refine n_build rfl si26 e1WnA e1WnA rfl ?_
   refine n_move rfl n0WnA ?_
   refine n_store ti26 n0WnA rfl n0WnA rfl n0WnA rfl rfl rfl n0WnA ?_
   refine n_assign rfl n0WnA ?_
   refine AOps.nil ?_
   refine AWP.ret ?_
   refine fin_pure (.cons (rv_cell ti26 n0WnA n0WnA rfl n0WnA) (.cons (rv_tmp n0WnA) .nil)) n0WnA ?_
   exact .tup rfl (ren_two (.agg rfl (RenAll.get r3WnA)) (ren_flat rfl rfl))
 · try simp only [nh] at hc1
   rw [if_neg (not_not_intro hc1)] at hp
   rw [hp]
   refine AWP.skip ?_
   refine AWP.sr ?_
   refine n_load rfl ti26 n0WnA n0WnA rfl n0WnA ?_
   refine n_store ti26 n0WnA rfl n0WnA rfl n0WnA rfl rfl rfl n0WnA ?_
   refine n_assign rfl n0WnA ?_
   refine AOps.nil ?_
   refine AWP.ret ?_
   refine fin_pure (.cons (rv_cell ti26 n0WnA n0WnA rfl n0WnA) (.cons (rv_tmp n0WnA) .nil)) n0WnA ?_
   exact .tup rfl (ren_two (.agg rfl (RenAll.get r3WnA)) (ren_flat rfl rfl))

theorem l_wtx (u : Up) (hu : u.ok) : Does Tryz.prog 56 [.agg [.bp 0 0], (.fn (.func 57) [] [])] [.box (Up.z u)] (.agg (txz (Codec.get txC u).1)) [.box (Up.z (Codec.get txC u).2)] := by
 refine Does.of_body (rvs := [.cell 4 26]) Tryz.func56 rfl rfl rfl rfl ?_
 obtain ⟨r1, hr1⟩ : ∃ r, r = Codec.get (Codec.str 131072) u := ⟨_, rfl⟩
 have ok1 : r1.2.ok := by rw [hr1]; exact str_kp u hu
 have d1 := U_S u hu
 rw [← hr1] at d1
 have hso : Byt r1.1 ∧ L40 r1.1 := by { rw [hr1]; exact (Up.str_ok hu 131072).2 }
 have ce := Rd.U_err r1.2
 have cs := U_spoil r1.2 240
 have cp := v_parse r1.1 hso.1 hso.2
 have hp : Codec.get txC u = (if r1.2.e ≠ 0 then (txz0, r1.2) else if (Codec.parse txI txz0 r1.1).2 ≠ 0 then (txz0, r1.2.spoil 240) else ((Codec.parse txI txz0 r1.1).1, r1.2)) := by { rw [hr1]; rfl }
 refine AWP.sr ?_
 refine n_box rfl n0WnA rfl rfl n0WnA n0WnA ?_
 refine n_alloc rfl zi26 rfl n0WnA n0WnA ?_
 refine AOps.nil ?_
 refine AWP.sr ?_
 refine n_alloc rfl zi26 rfl n0WnA n0WnA ?_
 refine AOps.nil ?_
 refine AWP.sr ?_
 refine n_fieldAddr rfl fd63_0 ti60 rfl n0WnA rfl n0WnA ?_
 refine n_load rfl ti60 n0WnA n0WnA rfl n0WnA ?_
 refine n_callBoxB rfl cf84 rfl e1WnA r2WnA (by rfl) r2WnA (d1) x4WnA l5WnA n0WnA ?_
 refine n_assign rfl n0WnA ?_
 refine AOps.nil ?_
 refine AWP.seq ?_
 refine AWP.sr ?_
 refine n_fieldAddr rfl fd63_0 ti60 rfl n0WnA rfl n0WnA ?_
 refine n_load rfl ti60 n0WnA n0WnA rfl n0WnA ?_
 refine n_callBoxB rfl cf60 rfl e1WnA r2WnA (by rfl) r2WnA (ce) x4WnA l5WnA n0WnA ?_
 refine n_ibin rfl n0WnA n0WnA rfl ?_
 refine AOps.nil ?_
 refine AWP.cond n0WnA (fun hc1 => ?_) (fun hc1 => ?_)
 · try simp only [nh] at hc1
   rw [if_pos hc1] at hp
   rw [hp]
   refine AWP.sr ?_
   refine n_load rfl ti26 n0WnA n0WnA rfl n0WnA ?_
   refine n_store ti26 n0WnA rfl n0WnA rfl n0WnA rfl rfl rfl n0WnA ?_
   refine AOps.nil ?_
   refine AWP.ret ?_
   refine fin_box (.cons (rv_cell ti26 n0WnA n0WnA rfl n0WnA) .nil) n0WnA ?_ rfl ?_
   · exact .agg rfl (RenAll.get r3WnA)
   exact renU rfl rfl
 · try simp only [nh] at hc1
   rw [if_neg (not_not_intro hc1)] at hp
   refine AWP.skip ?_
   refine AWP.sr ?_
   refine n_move rfl n0WnA ?_
   refine n_move rfl n0WnA ?_
   refine n_call0B rfl cf57 rfl e1WnA r2WnA (cp) l5WnA ?_
   refine n_move rfl n0WnA ?_
   refine n_extract rfl n0WnA rfl ?_
   refine n_extract rfl n0WnA rfl ?_
   refine n_alloc rfl zi26 rfl n0WnA n0WnA ?_
   refine n_store ti26 n0WnA rfl n0WnA rfl n0WnA rfl rfl rfl n0WnA ?_
   refine n_assign rfl n0WnA ?_
   refine AOps.nil ?_
   refine AWP.seq ?_
   refine AWP.sr ?_
   refine n_move rfl n0WnA ?_
   refine n_ibin rfl n0WnA n0WnA rfl ?_
   refine AOps.nil ?_
   refine AWP.cond n0WnA (fun hc2 => ?_) (fun hc2 => ?_)
   · try simp only [nh] at hc2
     rw [if_pos hc2] at hp
     rw [hp]
     refine AWP.sr ?_
     refine n_fieldAddr rfl fd63_0 ti60 rfl n0WnA rfl n0WnA ?_
     refine n_load rfl ti60 n0WnA n0WnA rfl n0WnA ?_
     refine n_callBoxB rfl cf79 rfl e1WnA r2WnA (by rfl) r2WnA (cs) x4WnA l5WnA n0WnA ?_
     refine AOps.nil ?_
     refine AWP.sr ?_
     refine n_load rfl ti26 n0WnA n0WnA rfl n0WnA ?_
     refine n_store ti26 n0WnA rfl n0WnA rfl n0WnA rfl rfl rfl n0WnA ?_
     refine AOps.nil ?_
     refine AWP.ret ?_
     refine fin_box (.cons (rv_cell ti26 n0WnA n0WnA rfl n0WnA) .nil) n0WnA ?_ rfl ?_
     · exact .agg rfl (RenAll.get r3WnA)
     exact renU rfl rfl
   · try simp only [nh] at hc2
     rw [if_neg (not_not_intro hc2)] at hp
     rw [hp]
     refine AWP.skip ?_
     refine AWP.sr ?_
     refine n_load rfl ti26 n0WnA n0WnA rfl n0WnA ?_
     refine n_store ti26 n0WnA rfl n0WnA rfl n0WnA rfl rfl rfl n0WnA ?_
     refine AOps.nil ?_
     refine AWP.ret ?_
     refine fin_box (.cons (rv_cell ti26 n0WnA n0WnA rfl n0WnA) .nil) n0WnA ?_ rfl ?_
     · exact .agg rfl (RenAll.get r3WnA)
     · exact renU rfl rfl

theorem l_wtb (u : Up) (hu : u.ok) : Does Tryz.prog 96 [.agg [.bp 0 0], (.fn (.func 97) [] [])] [.box (Up.z u)] (.agg (qt (Codec.get tabC u).1)) [.box (Up.z (Codec.get tabC u).2)] := by
 refine Does.of_body (rvs := [.cell 4 49]) Tryz.func96 rfl rfl rfl rfl ?_
 obtain ⟨r1, hr1⟩ : ∃ r, r = Codec.get (Codec.str 131072) u := ⟨_, rfl⟩
 have ok1 : r1.2.ok := by rw [hr1]; exact str_kp u hu
 have d1 := U_S u hu
 rw [← hr1] at d1
 have hso : Byt r1.1 ∧ L40 r1.1 := by { rw [hr1]; exact (Up.str_ok hu 131072).2 }
 have ce := Rd.U_err r1.2
 have cs := U_spoil r1.2 240
 have cp := o_parse r1.1 hso.1 hso.2
 have hp : Codec.get tabC u = (if r1.2.e ≠ 0 then ((([], 0) : List Q4 × Int), r1.2) else if (((ofTb (Tb.parse r1.1).1, (Tb.parse r1.1).2) : (List Q4 × Int) × Int)).2 ≠ 0 then ((([], 0) : List Q4 × Int), r1.2.spoil 240) else ((((ofTb (Tb.parse r1.1).1, (Tb.parse r1.1).2) : (List Q4 × Int) × Int)).1, r1.2)) := by { rw [hr1]; rfl }
 refine AWP.sr ?_
 refine n_box rfl n0WnA rfl rfl n0WnA n0WnA ?_
 refine n_alloc rfl zi49 rfl n0WnA n0WnA ?_
 refine AOps.nil ?_
 refine AWP.sr ?_
 refine n_alloc rfl zi49 rfl n0WnA n0WnA ?_
 refine AOps.nil ?_
 refine AWP.sr ?_
 refine n_fieldAddr rfl fd63_0 ti60 rfl n0WnA rfl n0WnA ?_
 refine n_load rfl ti60 n0WnA n0WnA rfl n0WnA ?_
 refine n_callBoxB rfl cf84 rfl e1WnA r2WnA (by rfl) r2WnA (d1) x4WnA l5WnA n0WnA ?_
 refine n_assign rfl n0WnA ?_
 refine AOps.nil ?_
 refine AWP.seq ?_
 refine AWP.sr ?_
 refine n_fieldAddr rfl fd63_0 ti60 rfl n0WnA rfl n0WnA ?_
 refine n_load rfl ti60 n0WnA n0WnA rfl n0WnA ?_
 refine n_callBoxB rfl cf60 rfl e1WnA r2WnA (by rfl) r2WnA (ce) x4WnA l5WnA n0WnA ?_
 refine n_ibin rfl n0WnA n0WnA rfl ?_
 refine AOps.nil ?_
 refine AWP.cond n0WnA (fun hc1 => ?_) (fun hc1 => ?_)
 · try simp only [nh] at hc1
   rw [if_pos hc1] at hp
   rw [hp]
   refine AWP.sr ?_
   refine n_load rfl ti49 n0WnA n0WnA rfl n0WnA ?_
   refine n_store ti49 n0WnA rfl n0WnA rfl n0WnA rfl rfl rfl n0WnA ?_
   refine AOps.nil ?_
   refine AWP.ret ?_
   refine fin_box (.cons (rv_cell ti49 n0WnA n0WnA rfl n0WnA) .nil) n0WnA ?_ rfl ?_
   · exact .agg rfl (RenAll.get r3WnA)
   exact renU rfl rfl
 · try simp only [nh] at hc1
   rw [if_neg (not_not_intro hc1)] at hp
   refine AWP.skip ?_
   refine AWP.sr ?_
   refine n_move rfl n0WnA ?_
   refine n_move rfl n0WnA ?_
   refine n_call0B rfl cf97 rfl e1WnA r2WnA (cp) l5WnA ?_
   refine n_move rfl n0WnA ?_
   refine n_extract rfl n0WnA rfl ?_
   refine n_extract rfl n0WnA rfl ?_
   refine n_alloc rfl zi49 rfl n0WnA n0WnA ?_
   refine n_store ti49 n0WnA rfl n0WnA rfl n0WnA rfl rfl rfl n0WnA ?_
   refine n_assign rfl n0WnA ?_
   refine AOps.nil ?_
   refine AWP.seq ?_
   refine AWP.sr ?_
   refine n_move rfl n0WnA ?_
   refine n_ibin rfl n0WnA n0WnA rfl ?_
   refine AOps.nil ?_
   refine AWP.cond n0WnA (fun hc2 => ?_) (fun hc2 => ?_)
   · try simp only [nh] at hc2
     rw [if_pos hc2] at hp
     rw [hp]
     refine AWP.sr ?_
     refine n_fieldAddr rfl fd63_0 ti60 rfl n0WnA rfl n0WnA ?_
     refine n_load rfl ti60 n0WnA n0WnA rfl n0WnA ?_
     refine n_callBoxB rfl cf79 rfl e1WnA r2WnA (by rfl) r2WnA (cs) x4WnA l5WnA n0WnA ?_
     refine AOps.nil ?_
     refine AWP.sr ?_
     refine n_load rfl ti49 n0WnA n0WnA rfl n0WnA ?_
     refine n_store ti49 n0WnA rfl n0WnA rfl n0WnA rfl rfl rfl n0WnA ?_
     refine AOps.nil ?_
     refine AWP.ret ?_
     refine fin_box (.cons (rv_cell ti49 n0WnA n0WnA rfl n0WnA) .nil) n0WnA ?_ rfl ?_
     · exact .agg rfl (RenAll.get r3WnA)
     exact renU rfl rfl
   · try simp only [nh] at hc2
     rw [if_neg (not_not_intro hc2)] at hp
     rw [hp]
     refine AWP.skip ?_
     refine AWP.sr ?_
     refine n_load rfl ti49 n0WnA n0WnA rfl n0WnA ?_
     refine n_store ti49 n0WnA rfl n0WnA rfl n0WnA rfl rfl rfl n0WnA ?_
     refine AOps.nil ?_
     refine AWP.ret ?_
     refine fin_box (.cons (rv_cell ti49 n0WnA n0WnA rfl n0WnA) .nil) n0WnA ?_ rfl ?_
     · exact .agg rfl (RenAll.get r3WnA)
     · exact renU rfl rfl

theorem l_wen (u : Up) (hu : u.ok) : Does Tryz.prog 98 [.agg [.bp 0 0], (.fn (.func 99) [] [])] [.box (Up.z u)] (.agg (q4 (Codec.get entC u).1)) [.box (Up.z (Codec.get entC u).2)] := by
 refine Does.of_body (rvs := [.cell 4 46]) Tryz.func98 rfl rfl rfl rfl ?_
 obtain ⟨r1, hr1⟩ : ∃ r, r = Codec.get (Codec.str 131072) u := ⟨_, rfl⟩
 have ok1 : r1.2.ok := by rw [hr1]; exact str_kp u hu
 have d1 := U_S u hu
 rw [← hr1] at d1
 have hso : Byt r1.1 ∧ L40 r1.1 := by { rw [hr1]; exact (Up.str_ok hu 131072).2 }
 have ce := Rd.U_err r1.2
 have cs := U_spoil r1.2 240
 have cp := m_parse r1.1 hso.1 hso.2
 have hp : Codec.get entC u = (if r1.2.e ≠ 0 then (((0, 0, 0, 0) : Q4), r1.2) else if (((ofEn (En.parse r1.1).1, (En.parse r1.1).2) : Q4 × Int)).2 ≠ 0 then (((0, 0, 0, 0) : Q4), r1.2.spoil 240) else ((((ofEn (En.parse r1.1).1, (En.parse r1.1).2) : Q4 × Int)).1, r1.2)) := by { rw [hr1]; rfl }
 refine AWP.sr ?_
 refine n_box rfl n0WnA rfl rfl n0WnA n0WnA ?_
 refine n_alloc rfl zi46 rfl n0WnA n0WnA ?_
 refine AOps.nil ?_
 refine AWP.sr ?_
 refine n_alloc rfl zi46 rfl n0WnA n0WnA ?_
 refine AOps.nil ?_
 refine AWP.sr ?_
 refine n_fieldAddr rfl fd63_0 ti60 rfl n0WnA rfl n0WnA ?_
 refine n_load rfl ti60 n0WnA n0WnA rfl n0WnA ?_
 refine n_callBoxB rfl cf84 rfl e1WnA r2WnA (by rfl) r2WnA (d1) x4WnA l5WnA n0WnA ?_
 refine n_assign rfl n0WnA ?_
 refine AOps.nil ?_
 refine AWP.seq ?_
 refine AWP.sr ?_
 refine n_fieldAddr rfl fd63_0 ti60 rfl n0WnA rfl n0WnA ?_
 refine n_load rfl ti60 n0WnA n0WnA rfl n0WnA ?_
 refine n_callBoxB rfl cf60 rfl e1WnA r2WnA (by rfl) r2WnA (ce) x4WnA l5WnA n0WnA ?_
 refine n_ibin rfl n0WnA n0WnA rfl ?_
 refine AOps.nil ?_
 refine AWP.cond n0WnA (fun hc1 => ?_) (fun hc1 => ?_)
 · try simp only [nh] at hc1
   rw [if_pos hc1] at hp
   rw [hp]
   refine AWP.sr ?_
   refine n_load rfl ti46 n0WnA n0WnA rfl n0WnA ?_
   refine n_store ti46 n0WnA rfl n0WnA rfl n0WnA rfl rfl rfl n0WnA ?_
   refine AOps.nil ?_
   refine AWP.ret ?_
   refine fin_box (.cons (rv_cell ti46 n0WnA n0WnA rfl n0WnA) .nil) n0WnA ?_ rfl ?_
   · exact .agg rfl (RenAll.get r3WnA)
   exact renU rfl rfl
 · try simp only [nh] at hc1
   rw [if_neg (not_not_intro hc1)] at hp
   refine AWP.skip ?_
   refine AWP.sr ?_
   refine n_move rfl n0WnA ?_
   refine n_move rfl n0WnA ?_
   refine n_call0B rfl cf99 rfl e1WnA r2WnA (cp) l5WnA ?_
   refine n_move rfl n0WnA ?_
   refine n_extract rfl n0WnA rfl ?_
   refine n_extract rfl n0WnA rfl ?_
   refine n_alloc rfl zi46 rfl n0WnA n0WnA ?_
   refine n_store ti46 n0WnA rfl n0WnA rfl n0WnA rfl rfl rfl n0WnA ?_
   refine n_assign rfl n0WnA ?_
   refine AOps.nil ?_
   refine AWP.seq ?_
   refine AWP.sr ?_
   refine n_move rfl n0WnA ?_
   refine n_ibin rfl n0WnA n0WnA rfl ?_
   refine AOps.nil ?_
   refine AWP.cond n0WnA (fun hc2 => ?_) (fun hc2 => ?_)
   · try simp only [nh] at hc2
     rw [if_pos hc2] at hp
     rw [hp]
     refine AWP.sr ?_
     refine n_fieldAddr rfl fd63_0 ti60 rfl n0WnA rfl n0WnA ?_
     refine n_load rfl ti60 n0WnA n0WnA rfl n0WnA ?_
     refine n_callBoxB rfl cf79 rfl e1WnA r2WnA (by rfl) r2WnA (cs) x4WnA l5WnA n0WnA ?_
     refine AOps.nil ?_
     refine AWP.sr ?_
     refine n_load rfl ti46 n0WnA n0WnA rfl n0WnA ?_
     refine n_store ti46 n0WnA rfl n0WnA rfl n0WnA rfl rfl rfl n0WnA ?_
     refine AOps.nil ?_
     refine AWP.ret ?_
     refine fin_box (.cons (rv_cell ti46 n0WnA n0WnA rfl n0WnA) .nil) n0WnA ?_ rfl ?_
     · exact .agg rfl (RenAll.get r3WnA)
     exact renU rfl rfl
   · try simp only [nh] at hc2
     rw [if_neg (not_not_intro hc2)] at hp
     rw [hp]
     refine AWP.skip ?_
     refine AWP.sr ?_
     refine n_load rfl ti46 n0WnA n0WnA rfl n0WnA ?_
     refine n_store ti46 n0WnA rfl n0WnA rfl n0WnA rfl rfl rfl n0WnA ?_
     refine AOps.nil ?_
     refine AWP.ret ?_
     refine fin_box (.cons (rv_cell ti46 n0WnA n0WnA rfl n0WnA) .nil) n0WnA ?_ rfl ?_
     · exact .agg rfl (RenAll.get r3WnA)
     · exact renU rfl rfl

theorem l_table (u : Up) (hu : u.ok) : Does Tryz.prog 81 [.agg [.bp 0 0]] [.box (Up.z u)] (.agg (qt (Codec.get tabC u).1)) [.box (Up.z (Codec.get tabC u).2)] := by
 refine Does.of_body (rvs := [.cell 2 49]) Tryz.func81 rfl rfl rfl rfl ?_
 obtain ⟨r1, hr1⟩ : ∃ r, r = Codec.get tabC u := ⟨_, rfl⟩
 have ok1 : r1.2.ok := by rw [hr1]; exact tab_kp u hu
 have d1 := l_wtb u hu
 rw [← hr1] at d1
 rw [← hr1]
 refine AWP.sr ?_
 refine n_box rfl n0WnA rfl rfl n0WnA n0WnA ?_
 refine n_alloc rfl zi49 rfl n0WnA n0WnA ?_
 refine AOps.nil ?_
 refine AWP.sr ?_
 refine n_load rfl ti63 n0WnA n0WnA rfl n0WnA ?_
 refine n_callBoxB rfl cf96 rfl e1WnA r2WnA (by rfl) r2WnA (d1) x4WnA l5WnA n0WnA ?_
 refine n_store ti49 n0WnA rfl n0WnA rfl n0WnA rfl rfl rfl n0WnA ?_
 refine AOps.nil ?_
 refine AWP.ret ?_
 refine fin_box (.cons (rv_cell ti49 n0WnA n0WnA rfl n0WnA) .nil) n0WnA ?_ rfl ?_
 · exact .agg rfl (RenAll.get r3WnA)
 · exact renU rfl rfl

theorem l_entry (u : Up) (hu : u.ok) : Does Tryz.prog 83 [.agg [.bp 0 0]] [.box (Up.z u)] (.agg (q4 (Codec.get entC u).1)) [.box (Up.z (Codec.get entC u).2)] := by
 refine Does.of_body (rvs := [.cell 2 46]) Tryz.func83 rfl rfl rfl rfl ?_
 obtain ⟨r1, hr1⟩ : ∃ r, r = Codec.get entC u := ⟨_, rfl⟩
 have ok1 : r1.2.ok := by rw [hr1]; exact ent_kp u hu
 have d1 := l_wen u hu
 rw [← hr1] at d1
 rw [← hr1]
 refine AWP.sr ?_
 refine n_box rfl n0WnA rfl rfl n0WnA n0WnA ?_
 refine n_alloc rfl zi46 rfl n0WnA n0WnA ?_
 refine AOps.nil ?_
 refine AWP.sr ?_
 refine n_load rfl ti63 n0WnA n0WnA rfl n0WnA ?_
 refine n_callBoxB rfl cf98 rfl e1WnA r2WnA (by rfl) r2WnA (d1) x4WnA l5WnA n0WnA ?_
 refine n_store ti46 n0WnA rfl n0WnA rfl n0WnA rfl rfl rfl n0WnA ?_
 refine AOps.nil ?_
 refine AWP.ret ?_
 refine fin_box (.cons (rv_cell ti46 n0WnA n0WnA rfl n0WnA) .nil) n0WnA ?_ rfl ?_
 · exact .agg rfl (RenAll.get r3WnA)
 · exact renU rfl rfl

set_option maxHeartbeats 2000000 in
theorem l_tables (u : Up) (hu : u.ok) : Does Tryz.prog 80 [.agg [.bp 0 0], vi 4, (.fn (.func 81) [.agg [.bp 0 0]] [])] [.box (Up.z u)] (.sl none ((Codec.get (Codec.list 1 4 tabC) u).1.map qt) .ro) [.box (Up.z (Codec.get (Codec.list 1 4 tabC) u).2)] := by
 refine Does.of_body (rvs := [.tmp 6]) Tryz.func80 rfl rfl rfl rfl ?_
 obtain ⟨s0, hs0⟩ : ∃ r, r = Codec.get (Codec.int 1 4) u := ⟨_, rfl⟩
 have ok0 : s0.2.ok := by rw [hs0]; exact int_kp u hu
 have d0 := U_C 1 4 u hu
 rw [← hs0] at d0
 have hrg := int_rng0 (by decide) (by decide) hs0
 obtain ⟨s, hs1⟩ : ∃ s, s = Codec.rdl tabC s0.1.toNat s0.2 := ⟨_, rfl⟩
 have hp := list_get hs0 hs1
 refine AWP.sr ?_
 refine n_box rfl n0WnA rfl rfl n0WnA n0WnA ?_
 refine n_assign rfl n0WnA ?_
 refine AOps.nil ?_
 refine AWP.sr ?_
 refine n_assign rfl n0WnA ?_
 refine AOps.nil ?_
 refine AWP.seq ?_
 refine AWP.seq ?_
 refine AWP.adopt (t := 7) (m := 0) (S' := [.box (Up.z u), .box [.bp 0 0], .row 0 2]) (by rfl) rfl rfl rfl ?_
 refine AWP.region ?_
 refine n_fieldAddr rfl fd63_0 ti60 rfl n0WnA rfl n0WnA ?_
 refine n_load rfl ti60 n0WnA n0WnA rfl n0WnA ?_
 refine n_move rfl n0WnA ?_
 refine n_callBoxB rfl cf50 rfl e1WnA r2WnA (by rfl) r2WnA (d0) x4WnA l5WnA n0WnA ?_
 refine n_assign rfl n0WnA ?_
 refine AOps.nil ?_
 refine AWP.block ?_
 refine AWP.loop (α := List (List Q4 × Int) × Up × Nat) (fun p => p.2.1.ok ∧ p.1.length + p.2.2 ≤ 4 ∧ s = (p.1 ++ (Codec.rdl tabC p.2.2 p.2.1).1, (Codec.rdl tabC p.2.2 p.2.1).2)) (fun p => put (put (put (put empty 2 (.fn (.func 81) [.agg [.bp 0 0]] [])) 3 (.bp 1 0)) 7 (.sl none (p.1.map qt) (.own 2))) 8 (vi (p.2.2 : Int))) (fun p => [.box (Up.z p.2.1), .box [.bp 0 0], .row p.1.length 2]) (fun p => p.2.2) ([], s0.2, s0.1.toNat) ?_ ?_ ?_ ?_
 · exact ⟨ok0, by simp only [List.length_nil]; omega, by rw [hs1]; simp⟩
 · (repeat (first | exact FLe.empty _ | refine FLe.put ?_ ?_)) <;> first | (simp only [nf, Nat.beq]; done) | rfl | ((try simp only [nf, Nat.beq]); first | rfl | (simp only [List.length_map]; done) | (congr 2; omega; done) | (congr 2; dsimp only; omega; done))
 · rfl
 · rintro ⟨l, v, k⟩ ⟨hv, hlk, hs⟩
   dsimp only at hv hlk hs ⊢
   have ce := Rd.U_err v
   obtain ⟨x, hx⟩ : ∃ x, x = Codec.get tabC v := ⟨_, rfl⟩
   have okx : x.2.ok := by rw [hx]; exact tab_kp v hv
   have c1 := l_table v hv
   rw [← hx] at c1
   refine AWP.seq ?_
   refine AWP.sr ?_
   refine n_move rfl n0WnA ?_
   refine n_ibin rfl n0WnA n0WnA rfl ?_
   refine n_move rfl n0WnA ?_
   refine AOps.name (u := 15) (fun z => .val (.bool z)) n0WnA (fun b15 hb15 => ?_)
   refine n_softT b15 rfl rfl rfl n0WnA (fun h => by
    subst h
    refine n_fieldAddr rfl fd63_0 ti60 rfl n0WnA rfl n0WnA ?_
    exact AOps.nil ⟨rfl, rfl, rfl⟩) ?_
   refine n_softT b15 rfl rfl rfl n0WnA (fun h => by
    subst h
    refine n_load rfl ti60 n0WnA n0WnA rfl n0WnA ?_
    exact AOps.nil ⟨rfl, rfl, rfl⟩) ?_
   refine n_softT b15 rfl rfl rfl n0WnA (fun h => by
    subst h
    refine n_callBoxB rfl cf60 rfl e1WnA r2WnA (by rfl) r2WnA (ce) x4WnA l5WnA n0WnA ?_
    exact AOps.nil ⟨rfl, rfl, rfl⟩) ?_
   refine n_softT b15 rfl rfl rfl n0WnA (fun h => by
    subst h
    refine n_ibin rfl n0WnA n0WnA rfl ?_
    exact AOps.nil ⟨rfl, rfl, rfl⟩) ?_
   refine n_pick_and rfl n0WnA (fun h => by cases b15 with | false => exact absurd h (by decide) | true => exact n0WnA) ?_
   subst hb15
   refine AOps.nil ?_
   refine AWP.cond n0WnA (fun hc1 => ?_) (fun hc1 => ?_)
   · try simp only [nh] at hc1
     have hk0 : 0 < k := by (simp at hc1; omega)
     have he0 : v.e = 0 := by (simp at hc1; exact hc1.2)
     obtain ⟨k1, rfl⟩ : ∃ j, k = j + 1 := ⟨k - 1, by omega⟩
     have hgo := Codec.rdl_go (c := tabC) (k := k1) he0
     rw [← hx] at hgo
     refine AWP.skip ?_
     refine AWP.seq ?_
     refine AWP.block ?_
     refine AWP.region ?_
     refine n_move rfl n0WnA ?_
     refine n_move rfl n0WnA ?_
     refine n_callBoxB rfl cf81 rfl e1WnA r2WnA (by rfl) r2WnA (c1) x4WnA l5WnA n0WnA ?_
     refine n_lit rfl Tryz.underlying29 ti49 zi49 rfl rfl e1WnA rfl n0WnA ?_
     refine n_append_own (zs := (l ++ [x.1]).map qt) (m := (l ++ [x.1]).length) rfl Tryz.underlying29 Tryz.underlying29 ei49 n0WnA n0WnA (by simp only [List.length_map]) n0WnA (by exact map_one (f := qt) (fun _ => rfl)) (by exact one_one rfl) (by simp) (by simp) (by simp only [List.length_append, List.length_cons, List.length_nil]; omega) n0WnA ?_
     refine n_assign rfl n0WnA ?_
     refine AOps.nil ?_
     refine AWP.region ?_
     refine n_move rfl n0WnA ?_
     first | refine n_isub rfl n0WnA n0WnA rfl (by omega) (by omega) ?_ | refine n_ibin rfl n0WnA n0WnA rfl ?_
     refine n_assign rfl n0WnA ?_
     refine AOps.nil ?_
     refine ⟨(l ++ [x.1], x.2, k1), ⟨okx, by simp only [List.length_append, List.length_cons, List.length_nil]; omega, by rw [hs, hgo]; simp⟩, ?_, rfl, by dsimp only; omega⟩
     (repeat (first | exact FLe.empty _ | refine FLe.put ?_ ?_)) <;> first | (simp only [nf, Nat.beq]; done) | rfl | ((try simp only [nf, Nat.beq]); first | rfl | (simp only [List.length_map]; done) | (congr 2; omega; done) | (congr 2; dsimp only; omega; done))
   · try simp only [nh] at hc1
     have hst : Codec.rdl tabC k v = ([], v) := Codec.rdl_stop (by by_cases hkk : k = 0; exact .inl hkk; right; intro he9; simp [he9] at hc1; omega)
     rw [hst, List.append_nil] at hs
     rw [hs] at hp
     dsimp only at hp
     rw [hp]
     refine AWP.exit ?_
     refine AWP.seq ?_
     refine AWP.asRo (t := 7) n0WnA ?_
     refine AWP.region ?_
     refine n_move rfl n0WnA ?_
     refine n_assign rfl n0WnA ?_
     refine AOps.nil ?_
     refine AWP.ret ?_
     refine fin_box (.cons (rv_tmp n0WnA) .nil) n0WnA ?_ rfl ?_
     · exact ren_mapG qt_lf
     · exact renU rfl rfl

set_option maxHeartbeats 2000000 in
theorem l_entries (u : Up) (hu : u.ok) : Does Tryz.prog 82 [.agg [.bp 0 0], vi 8, (.fn (.func 83) [.agg [.bp 0 0]] [])] [.box (Up.z u)] (.sl none ((Codec.get (Codec.list 1 8 entC) u).1.map q4) .ro) [.box (Up.z (Codec.get (Codec.list 1 8 entC) u).2)] := by
 refine Does.of_body (rvs := [.tmp 6]) Tryz.func82 rfl rfl rfl rfl ?_
 obtain ⟨s0, hs0⟩ : ∃ r, r = Codec.get (Codec.int 1 8) u := ⟨_, rfl⟩
 have ok0 : s0.2.ok := by rw [hs0]; exact int_kp u hu
 have d0 := U_C 1 8 u hu
 rw [← hs0] at d0
 have hrg := int_rng0 (by decide) (by decide) hs0
 obtain ⟨s, hs1⟩ : ∃ s, s = Codec.rdl entC s0.1.toNat s0.2 := ⟨_, rfl⟩
 have hp := list_get hs0 hs1
 refine AWP.sr ?_
 refine n_box rfl n0WnA rfl rfl n0WnA n0WnA ?_
 refine n_assign rfl n0WnA ?_
 refine AOps.nil ?_
 refine AWP.sr ?_
 refine n_assign rfl n0WnA ?_
 refine AOps.nil ?_
 refine AWP.seq ?_
 refine AWP.seq ?_
 refine AWP.adopt (t := 7) (m := 0) (S' := [.box (Up.z u), .box [.bp 0 0], .row 0 4]) (by rfl) rfl rfl rfl ?_
 refine AWP.region ?_
 refine n_fieldAddr rfl fd63_0 ti60 rfl n0WnA rfl n0WnA ?_
 refine n_load rfl ti60 n0WnA n0WnA rfl n0WnA ?_
 refine n_move rfl n0WnA ?_
 refine n_callBoxB rfl cf50 rfl e1WnA r2WnA (by rfl) r2WnA (d0) x4WnA l5WnA n0WnA ?_
 refine n_assign rfl n0WnA ?_
 refine AOps.nil ?_
 refine AWP.block ?_
 refine AWP.loop (α := List Q4 × Up × Nat) (fun p => p.2.1.ok ∧ p.1.length + p.2.2 ≤ 8 ∧ s = (p.1 ++ (Codec.rdl entC p.2.2 p.2.1).1, (Codec.rdl entC p.2.2 p.2.1).2)) (fun p => put (put (put (put empty 2 (.fn (.func 83) [.agg [.bp 0 0]] [])) 3 (.bp 1 0)) 7 (.sl none (p.1.map q4) (.own 2))) 8 (vi (p.2.2 : Int))) (fun p => [.box (Up.z p.2.1), .box [.bp 0 0], .row p.1.length 4]) (fun p => p.2.2) ([], s0.2, s0.1.toNat) ?_ ?_ ?_ ?_
 · exact ⟨ok0, by simp only [List.length_nil]; omega, by rw [hs1]; simp⟩
 · (repeat (first | exact FLe.empty _ | refine FLe.put ?_ ?_)) <;> first | (simp only [nf, Nat.beq]; done) | rfl | ((try simp only [nf, Nat.beq]); first | rfl | (simp only [List.length_map]; done) | (congr 2; omega; done) | (congr 2; dsimp only; omega; done))
 · rfl
 · rintro ⟨l, v, k⟩ ⟨hv, hlk, hs⟩
   dsimp only at hv hlk hs ⊢
   have ce := Rd.U_err v
   obtain ⟨x, hx⟩ : ∃ x, x = Codec.get entC v := ⟨_, rfl⟩
   have okx : x.2.ok := by rw [hx]; exact ent_kp v hv
   have c1 := l_entry v hv
   rw [← hx] at c1
   refine AWP.seq ?_
   refine AWP.sr ?_
   refine n_move rfl n0WnA ?_
   refine n_ibin rfl n0WnA n0WnA rfl ?_
   refine n_move rfl n0WnA ?_
   refine AOps.name (u := 15) (fun z => .val (.bool z)) n0WnA (fun b15 hb15 => ?_)
   refine n_softT b15 rfl rfl rfl n0WnA (fun h => by
    subst h
    refine n_fieldAddr rfl fd63_0 ti60 rfl n0WnA rfl n0WnA ?_
    exact AOps.nil ⟨rfl, rfl, rfl⟩) ?_
   refine n_softT b15 rfl rfl rfl n0WnA (fun h => by
    subst h
    refine n_load rfl ti60 n0WnA n0WnA rfl n0WnA ?_
    exact AOps.nil ⟨rfl, rfl, rfl⟩) ?_
   refine n_softT b15 rfl rfl rfl n0WnA (fun h => by
    subst h
    refine n_callBoxB rfl cf60 rfl e1WnA r2WnA (by rfl) r2WnA (ce) x4WnA l5WnA n0WnA ?_
    exact AOps.nil ⟨rfl, rfl, rfl⟩) ?_
   refine n_softT b15 rfl rfl rfl n0WnA (fun h => by
    subst h
    refine n_ibin rfl n0WnA n0WnA rfl ?_
    exact AOps.nil ⟨rfl, rfl, rfl⟩) ?_
   refine n_pick_and rfl n0WnA (fun h => by cases b15 with | false => exact absurd h (by decide) | true => exact n0WnA) ?_
   subst hb15
   refine AOps.nil ?_
   refine AWP.cond n0WnA (fun hc1 => ?_) (fun hc1 => ?_)
   · try simp only [nh] at hc1
     have hk0 : 0 < k := by (simp at hc1; omega)
     have he0 : v.e = 0 := by (simp at hc1; exact hc1.2)
     obtain ⟨k1, rfl⟩ : ∃ j, k = j + 1 := ⟨k - 1, by omega⟩
     have hgo := Codec.rdl_go (c := entC) (k := k1) he0
     rw [← hx] at hgo
     refine AWP.skip ?_
     refine AWP.seq ?_
     refine AWP.block ?_
     refine AWP.region ?_
     refine n_move rfl n0WnA ?_
     refine n_move rfl n0WnA ?_
     refine n_callBoxB rfl cf83 rfl e1WnA r2WnA (by rfl) r2WnA (c1) x4WnA l5WnA n0WnA ?_
     refine n_lit rfl Tryz.underlying30 ti46 zi46 rfl rfl e1WnA rfl n0WnA ?_
     refine n_append_own (zs := (l ++ [x.1]).map q4) (m := (l ++ [x.1]).length) rfl Tryz.underlying30 Tryz.underlying30 ei46 n0WnA n0WnA (by simp only [List.length_map]) n0WnA (by exact map_one (f := q4) (fun _ => rfl)) (by exact one_one rfl) (by simp) (by simp) (by simp only [List.length_append, List.length_cons, List.length_nil]; omega) n0WnA ?_
     refine n_assign rfl n0WnA ?_
     refine AOps.nil ?_
     refine AWP.region ?_
     refine n_move rfl n0WnA ?_
     first | refine n_isub rfl n0WnA n0WnA rfl (by omega) (by omega) ?_ | refine n_ibin rfl n0WnA n0WnA rfl ?_
     refine n_assign rfl n0WnA ?_
     refine AOps.nil ?_
     refine ⟨(l ++ [x.1], x.2, k1), ⟨okx, by simp only [List.length_append, List.length_cons, List.length_nil]; omega, by rw [hs, hgo]; simp⟩, ?_, rfl, by dsimp only; omega⟩
     (repeat (first | exact FLe.empty _ | refine FLe.put ?_ ?_)) <;> first | (simp only [nf, Nat.beq]; done) | rfl | ((try simp only [nf, Nat.beq]); first | rfl | (simp only [List.length_map]; done) | (congr 2; omega; done) | (congr 2; dsimp only; omega; done))
   · try simp only [nh] at hc1
     have hst : Codec.rdl entC k v = ([], v) := Codec.rdl_stop (by by_cases hkk : k = 0; exact .inl hkk; right; intro he9; simp [he9] at hc1; omega)
     rw [hst, List.append_nil] at hs
     rw [hs] at hp
     dsimp only at hp
     rw [hp]
     refine AWP.exit ?_
     refine AWP.seq ?_
     refine AWP.asRo (t := 7) n0WnA ?_
     refine AWP.region ?_
     refine n_move rfl n0WnA ?_
     refine n_assign rfl n0WnA ?_
     refine AOps.nil ?_
     refine AWP.ret ?_
     refine fin_box (.cons (rv_tmp n0WnA) .nil) n0WnA ?_ rfl ?_
     · exact ren_map (f := q4) (fun _ => rfl)
     · exact renU rfl rfl

end Go.Proofs.YtanfmpkjcoolmaaGreat.Wn
