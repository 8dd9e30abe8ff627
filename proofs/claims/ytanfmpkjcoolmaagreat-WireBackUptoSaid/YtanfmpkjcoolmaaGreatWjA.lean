/- Which fields may be. -/
import Derived.Test.YtanfmpkjcoolmaaGreatPlainA
import Derived.Test.YtanfmpkjcoolmaaGreatWhA
import Derived.Test.YtanfmpkjcoolmaaGreatOfZ
import Derived.Test.YtanfmpkjcoolmaaGreatMiZ
set_option linter.unusedVariables false
set_option linter.unusedSimpArgs false
namespace Go.Proofs.YtanfmpkjcoolmaaGreat.Wj
open Go Go.Abs Go.Proofs.YtanfmpkjcoolmaaGreat.Pk Wa Wb Wh
attribute [local irreducible] AWP AOps Does

theorem n0WjA {α : Type} {a b : α} (h : a = b := by first|simp only[nf,Nat.beq]<;>rfl|rfl) : a = b := h
theorem e1WjA {α : Type} {a b : α} (h : a = b := by exact Eq.trans (by simp only [nl] <;> rfl) n0WjA) : a = b := h
theorem r2WjA {ρ σ : Nat → Nat → Prop} {a b : List D} (h : RenAll ρ σ a b := by repeat (first | exact .nil | refine .cons ?_ ?_ | exact ren_ints | exact .lf (.val _) | exact .lf (lf_ints (.inl rfl)) | exact .bp ⟨rfl, rfl⟩ | exact .bp (.inl ⟨rfl, rfl⟩) | exact .bp (.inr ⟨rfl, rfl⟩) | exact ren_mapG qt_lf | exact .lf (.agg (qt_lf _)) | exact .lf (txz_lf _) | exact ren_bys0 rfl | exact .lf lf_fnz | exact ren_map (f := q1) (fun _ => rfl) | exact ren_map (f := q2) (fun _ => rfl) | exact ren_map (f := q4) (fun _ => rfl) | exact .lf (D.flat_lf rfl) | exact ren_lits rfl)) : RenAll ρ σ a b := h
theorem l3WjA {d : D} (h : LF d := by first | exact .val _ | exact lf_ints (.inl rfl) | exact lf_ints (.inr rfl) | exact .any | exact .tup (lf_cons (lf_ints (.inl rfl)) (lf_cons (.val _) lf_nil)) | exact .agg (qt_lf _) | exact D.flat_lf rfl) : LF d := h
theorem cf104 : CF Tryz.prog 104 := ⟨_, Tryz.func104, by kernel_rfl, by kernel_rfl⟩
theorem cf105 : CF Tryz.prog 105 := ⟨_, Tryz.func105, by kernel_rfl, by kernel_rfl⟩
theorem cf109 : CF Tryz.prog 109 := ⟨_, Tryz.func109, by kernel_rfl, by kernel_rfl⟩
theorem cf65 : CF Tryz.prog 65 := ⟨_, Tryz.func65, by kernel_rfl, by kernel_rfl⟩
theorem cf66 : CF Tryz.prog 66 := ⟨_, Tryz.func66, by kernel_rfl, by kernel_rfl⟩
theorem cf87 : CF Tryz.prog 87 := ⟨_, Tryz.func87, by kernel_rfl, by kernel_rfl⟩
theorem cf88 : CF Tryz.prog 88 := ⟨_, Tryz.func88, by kernel_rfl, by kernel_rfl⟩
theorem cf89 : CF Tryz.prog 89 := ⟨_, Tryz.func89, by kernel_rfl, by kernel_rfl⟩
theorem cf90 : CF Tryz.prog 90 := ⟨_, Tryz.func90, by kernel_rfl, by kernel_rfl⟩
theorem cf91 : CF Tryz.prog 91 := ⟨_, Tryz.func91, by kernel_rfl, by kernel_rfl⟩
theorem cf92 : CF Tryz.prog 92 := ⟨_, Tryz.func92, by kernel_rfl, by kernel_rfl⟩
theorem fd26_0 : FD Tryz.prog 26 0 2 0 := ⟨_, _, Tryz.underlying26, rfl, rfl, rfl⟩
theorem fd26_1 : FD Tryz.prog 26 1 2 1 := ⟨_, _, Tryz.underlying26, rfl, rfl, rfl⟩
theorem fd26_2 : FD Tryz.prog 26 2 2 2 := ⟨_, _, Tryz.underlying26, rfl, rfl, rfl⟩
theorem fd26_3 : FD Tryz.prog 26 3 23 3 := ⟨_, _, Tryz.underlying26, rfl, rfl, rfl⟩
theorem fd26_4 : FD Tryz.prog 26 4 24 4 := ⟨_, _, Tryz.underlying26, rfl, rfl, rfl⟩
theorem fd28_0 : FD Tryz.prog 28 0 2 0 := ⟨_, _, Tryz.underlying28, rfl, rfl, rfl⟩
theorem fd28_1 : FD Tryz.prog 28 1 2 1 := ⟨_, _, Tryz.underlying28, rfl, rfl, rfl⟩
theorem ti2 : TI Tryz.prog 2 1 false := ⟨by kernel_rfl, by kernel_rfl⟩
theorem ti23 : TI Tryz.prog 23 1 false := ⟨by kernel_rfl, by kernel_rfl⟩
theorem ti24 : TI Tryz.prog 24 1 false := ⟨by kernel_rfl, by kernel_rfl⟩
theorem ti49 : TI Tryz.prog 49 2 true := ⟨by kernel_rfl, by kernel_rfl⟩
theorem zi2 : (Tryz.prog.info? 2).map (·.zero) = some (some (.int .i64 0)) := by kernel_rfl

theorem num1 (n : Int) : Does Tryz.prog 89 [vi n] [] (vb (!numN n)) [] := by
 refine Does.of_body (rvs := [.tmp 2]) Tryz.func89 rfl rfl rfl rfl ?_
 refine AWP.sr ?_
 refine n_assign rfl n0WjA ?_
 refine AOps.nil ?_
 refine AWP.sr ?_
 refine n_move rfl n0WjA ?_
 refine n_ibin rfl n0WjA n0WjA rfl ?_
 refine n_move rfl n0WjA ?_
 refine AOps.name (u := 5) (fun z => .val (.bool z)) n0WjA (fun b5 hb5 => ?_)
 refine n_softF b5 rfl rfl rfl n0WjA (fun h => by
  subst h
  refine n_move rfl n0WjA ?_
  exact AOps.nil ⟨rfl, rfl, rfl⟩) ?_
 refine n_softF b5 rfl rfl rfl n0WjA (fun h => by
  subst h
  refine n_ibin rfl n0WjA n0WjA rfl ?_
  exact AOps.nil ⟨rfl, rfl, rfl⟩) ?_
 refine n_pick_or rfl n0WjA (fun h => by cases b5 with | true => exact absurd h (by decide) | false => exact n0WjA) ?_
 refine n_assign rfl n0WjA ?_
 subst hb5
 refine AOps.nil ?_
 refine AWP.ret ?_
 refine fin_pure (.cons (rv_tmp n0WjA) .nil) n0WjA ?_
 exact ren_flat rfl (congrArg vb (by unfold numN; (try simp); grind))

theorem idxf (l : List Int) (hl : l.length ≤ 1048576)  : Does Tryz.prog 105 [(.sl none (l.map q1) .ro), (.fn (.func 89) [] [])] [] (vi (idxN (fun n => !numN n) l)) [] := by
 refine Does.of_body (rvs := [.tmp 4]) Tryz.func105 rfl rfl rfl rfl ?_
 refine AWP.sr ?_
 refine n_assign rfl n0WjA ?_
 refine AOps.nil ?_
 refine AWP.seq ?_
 refine AWP.sr ?_
 refine n_move rfl n0WjA ?_
 refine n_len rfl Tryz.underlying24 n0WjA (by first | rw [ints_length] | rw [List.length_map] | rfl) ?_
 refine n_move rfl n0WjA ?_
 refine AOps.nil ?_
 refine AWP.block ?_
 refine AWP.loop (α := Nat) (fun i => i ≤ l.length ∧ ∀ n ∈ l.take i, (fun n => !numN n) n = false) (fun i => put (put (put (put empty 0 (.sl none (l.map q1) .ro)) 1 (.fn (.func 89) [] [])) 7 (vi (l.length : Int))) 8 (vi (i : Int))) (fun _ => []) (fun i => l.length - i) 0 ?_ ?_ ?_ ?_
 · exact ⟨Nat.zero_le _, fun n h => by simp at h⟩
 · (repeat (first | exact FLe.empty _ | refine FLe.put ?_ ?_)) <;> first | (simp only [nf, Nat.beq]; done) | rfl | ((try simp only [nf, Nat.beq]); first | rfl | (simp only [List.length_map]; done) | (congr 2; omega; done))
 · rfl
 · rintro i ⟨hi, hE⟩
   try dsimp only at hi hE ⊢
   refine AWP.sr ?_
   refine n_ibin rfl n0WjA n0WjA rfl ?_
   refine AOps.nil ?_
   refine AWP.seq ?_
   refine AWP.cond n0WjA (fun hc1 => ?_) (fun hc1 => ?_)
   · try simp only [nh] at hc1
     obtain ⟨x, hx0⟩ : ∃ x, l[i]? = some x := ⟨_, List.getElem?_eq_getElem (by omega)⟩
     have hx := map_at q1 hx0
     have hxm := List.mem_of_getElem? hx0
     refine AWP.skip ?_
     refine AWP.seq ?_
     refine AWP.block ?_
     refine AWP.sr ?_
     refine n_move rfl n0WjA ?_
     refine n_assign rfl n0WjA ?_
     refine AOps.nil ?_
     refine AWP.sr ?_
     refine n_move rfl n0WjA ?_
     refine n_move rfl n0WjA ?_
     refine n_move rfl n0WjA ?_
     refine n_indexAddr rfl Tryz.underlying24 ti2 rfl n0WjA n0WjA (by omega) (by exact hx) rfl ?_
     refine n_load rfl ti2 n0WjA n0WjA rfl n0WjA ?_
     refine n_call0B rfl cf89 rfl e1WjA r2WjA (num1 x) l3WjA ?_
     refine AOps.nil ?_
     refine AWP.cond n0WjA (fun hc2 => ?_) (fun hc2 => ?_)
     · try simp only [nh] at hc2
       have hr : idxN (fun n => !numN n) l = (i : Int) := idxN_hit hE hx0 (by (try simp at hc2); first | exact hc2 | (simp [hc2]; done) | (simp; omega))
       rw [hr]
       refine AWP.sr ?_
       refine n_move rfl n0WjA ?_
       refine n_assign rfl n0WjA ?_
       refine AOps.nil ?_
       refine AWP.ret ?_
       refine fin_pure (.cons (rv_tmp n0WjA) .nil) n0WjA ?_
       exact ren_flat rfl rfl
     try simp only [nh] at hc2
     have hq : (fun n => !numN n) x = false := by { (try simp at hc2); first | exact hc2 | (simp [hc2]; done) | (simp; omega) }
     refine AWP.skip ?_
     refine AWP.region ?_
     first | refine n_iadd rfl n0WjA n0WjA rfl (by omega) (by omega) ?_ | refine n_ibin rfl n0WjA n0WjA rfl ?_
     refine n_move rfl n0WjA ?_
     refine AOps.nil ?_
     refine ⟨i + 1, ⟨by omega, no_next hE hx0 hq⟩, ?_, rfl, by omega⟩
     (repeat (first | exact FLe.empty _ | refine FLe.put ?_ ?_)) <;> first | (simp only [nf, Nat.beq]; done) | rfl | ((try simp only [nf, Nat.beq]); first | rfl | (simp only [List.length_map]; done) | (congr 2; omega; done))
   · try simp only [nh] at hc1
     obtain rfl : i = l.length := by omega
     have hr : idxN (fun n => !numN n) l = -1 := idxN_none (by rw [List.take_length] at hE; exact hE)
     rw [hr]
     refine AWP.exit ?_
     refine AWP.sr ?_
     refine n_assign rfl n0WjA ?_
     refine AOps.nil ?_
     refine AWP.ret ?_
     refine fin_pure (.cons (rv_tmp n0WjA) .nil) n0WjA ?_
     exact ren_flat rfl rfl

theorem cntf (l : List Int) (hl : l.length ≤ 1048576) : Does Tryz.prog 88 [(.sl none (l.map q1) .ro), (.fn (.func 89) [] [])] [] (vb (l.any (fun n => !numN n))) [] := by
 refine Does.of_body (rvs := [.tmp 4]) Tryz.func88 rfl rfl rfl rfl ?_
 refine AWP.sr ?_
 refine n_assign rfl n0WjA ?_
 refine AOps.nil ?_
 refine AWP.sr ?_
 refine n_move rfl n0WjA ?_
 refine n_move rfl n0WjA ?_
 refine n_call0B rfl cf105 rfl e1WjA r2WjA (idxf l hl) l3WjA ?_
 refine n_ibin rfl n0WjA n0WjA rfl ?_
 refine n_assign rfl n0WjA ?_
 refine AOps.nil ?_
 refine AWP.ret ?_
 refine fin_pure (.cons (rv_tmp n0WjA) .nil) n0WjA ?_
 exact ren_flat rfl (congrArg vb idxN_ge)

theorem nums (l : List Int) (hl : l.length ≤ 1048576) : Does Tryz.prog 66 [(.sl none (l.map q1) .ro)] [] (vb (l.all numN)) [] := by
 refine Does.of_body (rvs := [.tmp 2]) Tryz.func66 rfl rfl rfl rfl ?_
 refine AWP.sr ?_
 refine n_assign rfl n0WjA ?_
 refine AOps.nil ?_
 refine AWP.sr ?_
 refine n_move rfl n0WjA ?_
 refine n_call0B rfl cf88 rfl e1WjA r2WjA (cntf l hl) l3WjA ?_
 refine n_not rfl n0WjA rfl ?_
 refine n_assign rfl n0WjA ?_
 refine AOps.nil ?_
 refine AWP.ret ?_
 refine fin_pure (.cons (rv_tmp n0WjA) .nil) n0WjA ?_
 exact ren_flat rfl (congrArg vb any_all)

theorem idx0 (l : List Int) (hl : l.length ≤ 1048576)  : Does Tryz.prog 104 [(.sl none (l.map q1) .ro), (vi 0)] [] (vi (idxN (fun n => decide (n = 0)) l)) [] := by
 refine Does.of_body (rvs := [.tmp 4]) Tryz.func104 rfl rfl rfl rfl ?_
 refine AWP.sr ?_
 refine n_assign rfl n0WjA ?_
 refine AOps.nil ?_
 refine AWP.seq ?_
 refine AWP.sr ?_
 refine n_move rfl n0WjA ?_
 refine n_len rfl Tryz.underlying24 n0WjA (by first | rw [ints_length] | rw [List.length_map] | rfl) ?_
 refine n_move rfl n0WjA ?_
 refine AOps.nil ?_
 refine AWP.block ?_
 refine AWP.loop (α := Nat) (fun i => i ≤ l.length ∧ ∀ n ∈ l.take i, (fun n => decide (n = 0)) n = false) (fun i => put (put (put (put empty 0 (.sl none (l.map q1) .ro)) 1 (vi 0)) 7 (vi (l.length : Int))) 8 (vi (i : Int))) (fun _ => []) (fun i => l.length - i) 0 ?_ ?_ ?_ ?_
 · exact ⟨Nat.zero_le _, fun n h => by simp at h⟩
 · (repeat (first | exact FLe.empty _ | refine FLe.put ?_ ?_)) <;> first | (simp only [nf, Nat.beq]; done) | rfl | ((try simp only [nf, Nat.beq]); first | rfl | (simp only [List.length_map]; done) | (congr 2; omega; done))
 · rfl
 · rintro i ⟨hi, hE⟩
   try dsimp only at hi hE ⊢
   refine AWP.sr ?_
   refine n_ibin rfl n0WjA n0WjA rfl ?_
   refine AOps.nil ?_
   refine AWP.seq ?_
   refine AWP.cond n0WjA (fun hc1 => ?_) (fun hc1 => ?_)
   · try simp only [nh] at hc1
     obtain ⟨x, hx0⟩ : ∃ x, l[i]? = some x := ⟨_, List.getElem?_eq_getElem (by omega)⟩
     have hx := map_at q1 hx0
     have hxm := List.mem_of_getElem? hx0
     refine AWP.skip ?_
     refine AWP.seq ?_
     refine AWP.block ?_
     refine AWP.sr ?_
     refine n_move rfl n0WjA ?_
     refine n_assign rfl n0WjA ?_
     refine AOps.nil ?_
     refine AWP.sr ?_
     refine n_move rfl n0WjA ?_
     refine n_move rfl n0WjA ?_
     refine n_move rfl n0WjA ?_
     refine n_indexAddr rfl Tryz.underlying24 ti2 rfl n0WjA n0WjA (by omega) (by exact hx) rfl ?_
     refine n_load rfl ti2 n0WjA n0WjA rfl n0WjA ?_
     refine n_ibin rfl n0WjA n0WjA rfl ?_
     refine AOps.nil ?_
     refine AWP.cond n0WjA (fun hc2 => ?_) (fun hc2 => ?_)
     · try simp only [nh] at hc2
       have hr : idxN (fun n => decide (n = 0)) l = (i : Int) := idxN_hit hE hx0 (by (try simp at hc2); first | exact hc2 | (simp [hc2]; done) | (simp; omega))
       rw [hr]
       refine AWP.sr ?_
       refine n_move rfl n0WjA ?_
       refine n_assign rfl n0WjA ?_
       refine AOps.nil ?_
       refine AWP.ret ?_
       refine fin_pure (.cons (rv_tmp n0WjA) .nil) n0WjA ?_
       exact ren_flat rfl rfl
     try simp only [nh] at hc2
     have hq : (fun n => decide (n = 0)) x = false := by { (try simp at hc2); first | exact hc2 | (simp [hc2]; done) | (simp; omega) }
     refine AWP.skip ?_
     refine AWP.region ?_
     first | refine n_iadd rfl n0WjA n0WjA rfl (by omega) (by omega) ?_ | refine n_ibin rfl n0WjA n0WjA rfl ?_
     refine n_move rfl n0WjA ?_
     refine AOps.nil ?_
     refine ⟨i + 1, ⟨by omega, no_next hE hx0 hq⟩, ?_, rfl, by omega⟩
     (repeat (first | exact FLe.empty _ | refine FLe.put ?_ ?_)) <;> first | (simp only [nf, Nat.beq]; done) | rfl | ((try simp only [nf, Nat.beq]); first | rfl | (simp only [List.length_map]; done) | (congr 2; omega; done))
   · try simp only [nh] at hc1
     obtain rfl : i = l.length := by omega
     have hr : idxN (fun n => decide (n = 0)) l = -1 := idxN_none (by rw [List.take_length] at hE; exact hE)
     rw [hr]
     refine AWP.exit ?_
     refine AWP.sr ?_
     refine n_assign rfl n0WjA ?_
     refine AOps.nil ?_
     refine AWP.ret ?_
     refine fin_pure (.cons (rv_tmp n0WjA) .nil) n0WjA ?_
     exact ren_flat rfl rfl

theorem cnt0 (l : List Int) (hl : l.length ≤ 1048576) : Does Tryz.prog 87 [(.sl none (l.map q1) .ro), vi 0] [] (vb (l.any (fun n => decide (n = 0)))) [] := by
 refine Does.of_body (rvs := [.tmp 4]) Tryz.func87 rfl rfl rfl rfl ?_
 refine AWP.sr ?_
 refine n_assign rfl n0WjA ?_
 refine AOps.nil ?_
 refine AWP.sr ?_
 refine n_move rfl n0WjA ?_
 refine n_move rfl n0WjA ?_
 refine n_call0B rfl cf104 rfl e1WjA r2WjA (idx0 l hl) l3WjA ?_
 refine n_ibin rfl n0WjA n0WjA rfl ?_
 refine n_assign rfl n0WjA ?_
 refine AOps.nil ?_
 refine AWP.ret ?_
 refine fin_pure (.cons (rv_tmp n0WjA) .nil) n0WjA ?_
 exact ren_flat rfl (congrArg vb idxN_ge)

theorem poss (l : List Int) (hl : l.length ≤ 1048576) : Does Tryz.prog 65 [(.sl none (l.map q1) .ro)] [] (vb (l.all posN)) [] := by
 refine Does.of_body (rvs := [.tmp 2]) Tryz.func65 rfl rfl rfl rfl ?_
 refine AWP.sr ?_
 refine n_assign rfl n0WjA ?_
 refine AOps.nil ?_
 refine AWP.sr ?_
 refine n_move rfl n0WjA ?_
 refine n_call0B rfl cf66 rfl e1WjA r2WjA (nums l hl) l3WjA ?_
 refine n_move rfl n0WjA ?_
 refine AOps.name (u := 5) (fun z => .val (.bool z)) n0WjA (fun b5 hb5 => ?_)
 refine n_softT b5 rfl rfl rfl n0WjA (fun h => by
  subst h
  refine n_move rfl n0WjA ?_
  exact AOps.nil ⟨rfl, rfl, rfl⟩) ?_
 refine n_softT b5 rfl rfl rfl n0WjA (fun h => by
  subst h
  refine n_call0B rfl cf87 rfl e1WjA r2WjA (cnt0 l hl) l3WjA ?_
  exact AOps.nil ⟨rfl, rfl, rfl⟩) ?_
 refine n_softT b5 rfl rfl rfl n0WjA (fun h => by
  subst h
  refine n_not rfl n0WjA rfl ?_
  exact AOps.nil ⟨rfl, rfl, rfl⟩) ?_
 refine n_pick_and rfl n0WjA (fun h => by cases b5 with | false => exact absurd h (by decide) | true => exact n0WjA) ?_
 refine n_assign rfl n0WjA ?_
 refine AOps.nil ?_
 refine AWP.ret ?_
 refine fin_pure (.cons (rv_tmp n0WjA) .nil) n0WjA ?_
 refine ren_flat rfl (congrArg vb ?_)
 subst hb5
 rw [← all_pos]
 all_goals first | rfl | (simp only [Bool.and_true]; done)

theorem regn (n : Int) : Does Tryz.prog 39 [vi n] [] (vb (regB n)) [] := by
 refine Does.of_body (rvs := [.tmp 2]) Tryz.func39 rfl rfl rfl rfl ?_
 refine AWP.sr ?_
 refine n_assign rfl n0WjA ?_
 refine AOps.nil ?_
 refine AWP.sr ?_
 refine n_move rfl n0WjA ?_
 refine n_ibin rfl n0WjA n0WjA rfl ?_
 refine n_move rfl n0WjA ?_
 refine AOps.name (u := 5) (fun z => .val (.bool z)) n0WjA (fun b5 hb5 => ?_)
 refine n_softT b5 rfl rfl rfl n0WjA (fun h => by
  subst h
  refine n_move rfl n0WjA ?_
  exact AOps.nil ⟨rfl, rfl, rfl⟩) ?_
 refine n_softT b5 rfl rfl rfl n0WjA (fun h => by
  subst h
  refine n_ibin rfl n0WjA n0WjA rfl ?_
  exact AOps.nil ⟨rfl, rfl, rfl⟩) ?_
 refine n_pick_and rfl n0WjA (fun h => by cases b5 with | false => exact absurd h (by decide) | true => exact n0WjA) ?_
 refine n_assign rfl n0WjA ?_
 refine AOps.nil ?_
 refine AWP.ret ?_
 refine fin_pure (.cons (rv_tmp n0WjA) .nil) n0WjA ?_
 refine ren_flat rfl (congrArg vb ?_)
 subst hb5
 unfold regB
 all_goals first | rfl | (simp only [ge_iff_le]; done) | grind

theorem o_chk (t : List Q4 × Int) (hl : t.1.length ≤ 1048576) : Does Tryz.prog 91 [.agg (qt t)] [] (vi (toTb t).chk) [] := by
 have h := Of.l_chk (toTb t) (by show (t.1.map toSp).length ≤ _; rw [List.length_map]; exact hl)
 rw [tz_to] at h; exact h
theorem bundle_ (p q : Int) (l : List Q4) (hl : l.length ≤ 1048576) : Does Tryz.prog 72 [.agg [vi p, vi q, .sl none (l.map q4) .ro]] [] (vi (chkB p q (l.map toEn))) [] := by
 have h := Mi.l_bundle p q (l.map toEn) (by rw [List.length_map]; omega)
 rw [List.map_map] at h; exact h
theorem P1 (n : Int) : Does Tryz.prog 65 [.sl none ([n].map q1) .ro] [] (vb (posN n)) [] := by have h := poss [n] (by simp); rw [pos_1] at h; exact h
theorem P2 (n m : Int) : Does Tryz.prog 65 [.sl none ([n, m].map q1) .ro] [] (vb (posN n && posN m)) [] := by have h := poss [n, m] (by simp); rw [pos_2] at h; exact h
theorem N1 (n : Int) : Does Tryz.prog 66 [.sl none ([n].map q1) .ro] [] (vb (numN n)) [] := by have h := nums [n] (by simp); rw [num_1] at h; exact h
theorem N3 (a b c : Int) : Does Tryz.prog 66 [.sl none ([a, b, c].map q1) .ro] [] (vb (numN a && numN b && numN c)) [] := by have h := nums [a, b, c] (by simp); rw [num_3] at h; exact h
theorem N4 (a b c d : Int) : Does Tryz.prog 66 [.sl none ([a, b, c, d].map q1) .ro] [] (vb (numN a && numN b && numN c && numN d)) [] := by have h := nums [a, b, c, d] (by simp); rw [num_4] at h; exact h
theorem tab1 (t : List Q4 × Int) (hl : t.1.length ≤ 1048576) : Does Tryz.prog 90 [.agg (qt t)] [] (vb (decide ((toTb t).chk ≠ 0))) [] := by
 refine Does.of_body (rvs := [.tmp 2]) Tryz.func90 rfl rfl rfl rfl ?_
 refine AWP.sr ?_
 refine n_box rfl n0WjA rfl rfl n0WjA n0WjA ?_
 refine n_assign rfl n0WjA ?_
 refine AOps.nil ?_
 refine AWP.sr ?_
 refine n_load rfl ti49 n0WjA n0WjA rfl n0WjA ?_
 refine n_call0B rfl cf91 rfl e1WjA r2WjA (o_chk t hl) l3WjA ?_
 refine n_ibin rfl n0WjA n0WjA rfl ?_
 refine n_assign rfl n0WjA ?_
 refine AOps.nil ?_
 refine AWP.ret ?_
 refine fin_pure (.cons (rv_tmp n0WjA) .nil) n0WjA ?_
 exact ren_flat rfl (congrArg vb (by first | rfl | (simp; done) | grind))

theorem idxt (l : List (List Q4 × Int)) (hl : l.length ≤ 1048576) (hn : ∀ t ∈ l, t.1.length ≤ 1048576) : Does Tryz.prog 109 [(.sl none (l.map qt) .ro), (.fn (.func 90) [] [])] [] (vi (idxN (fun t : List Q4 × Int => decide ((toTb t).chk ≠ 0)) l)) [] := by
 refine Does.of_body (rvs := [.tmp 4]) Tryz.func109 rfl rfl rfl rfl ?_
 refine AWP.sr ?_
 refine n_assign rfl n0WjA ?_
 refine AOps.nil ?_
 refine AWP.seq ?_
 refine AWP.sr ?_
 refine n_move rfl n0WjA ?_
 refine n_len rfl Tryz.underlying29 n0WjA (by first | rw [ints_length] | rw [List.length_map] | rfl) ?_
 refine n_move rfl n0WjA ?_
 refine AOps.nil ?_
 refine AWP.block ?_
 refine AWP.loop (α := Nat) (fun i => i ≤ l.length ∧ ∀ n ∈ l.take i, (fun t : List Q4 × Int => decide ((toTb t).chk ≠ 0)) n = false) (fun i => put (put (put (put empty 0 (.sl none (l.map qt) .ro)) 1 (.fn (.func 90) [] [])) 7 (vi (l.length : Int))) 8 (vi (i : Int))) (fun _ => []) (fun i => l.length - i) 0 ?_ ?_ ?_ ?_
 · exact ⟨Nat.zero_le _, fun n h => by simp at h⟩
 · (repeat (first | exact FLe.empty _ | refine FLe.put ?_ ?_)) <;> first | (simp only [nf, Nat.beq]; done) | rfl | ((try simp only [nf, Nat.beq]); first | rfl | (simp only [List.length_map]; done) | (congr 2; omega; done))
 · rfl
 · rintro i ⟨hi, hE⟩
   try dsimp only at hi hE ⊢
   refine AWP.sr ?_
   refine n_ibin rfl n0WjA n0WjA rfl ?_
   refine AOps.nil ?_
   refine AWP.seq ?_
   refine AWP.cond n0WjA (fun hc1 => ?_) (fun hc1 => ?_)
   · try simp only [nh] at hc1
     obtain ⟨x, hx0⟩ : ∃ x, l[i]? = some x := ⟨_, List.getElem?_eq_getElem (by omega)⟩
     have hx := map_at qt hx0
     have hxm := List.mem_of_getElem? hx0
     refine AWP.skip ?_
     refine AWP.seq ?_
     refine AWP.block ?_
     refine AWP.sr ?_
     refine n_move rfl n0WjA ?_
     refine n_assign rfl n0WjA ?_
     refine AOps.nil ?_
     refine AWP.sr ?_
     refine n_move rfl n0WjA ?_
     refine n_move rfl n0WjA ?_
     refine n_move rfl n0WjA ?_
     refine n_indexAddr rfl Tryz.underlying29 ti49 rfl n0WjA n0WjA (by omega) (by exact hx) rfl ?_
     refine n_load rfl ti49 n0WjA n0WjA rfl n0WjA ?_
     refine n_call0B rfl cf90 rfl e1WjA r2WjA (tab1 x (hn x hxm)) l3WjA ?_
     refine AOps.nil ?_
     refine AWP.cond n0WjA (fun hc2 => ?_) (fun hc2 => ?_)
     · try simp only [nh] at hc2
       have hr : idxN (fun t : List Q4 × Int => decide ((toTb t).chk ≠ 0)) l = (i : Int) := idxN_hit hE hx0 (by (try simp at hc2); first | exact hc2 | (simp [hc2]; done) | (simp; omega))
       rw [hr]
       refine AWP.sr ?_
       refine n_move rfl n0WjA ?_
       refine n_assign rfl n0WjA ?_
       refine AOps.nil ?_
       refine AWP.ret ?_
       refine fin_pure (.cons (rv_tmp n0WjA) .nil) n0WjA ?_
       exact ren_flat rfl rfl
     try simp only [nh] at hc2
     have hq : (fun t : List Q4 × Int => decide ((toTb t).chk ≠ 0)) x = false := by { (try simp at hc2); first | exact hc2 | (simp [hc2]; done) | (simp; omega) }
     refine AWP.skip ?_
     refine AWP.region ?_
     first | refine n_iadd rfl n0WjA n0WjA rfl (by omega) (by omega) ?_ | refine n_ibin rfl n0WjA n0WjA rfl ?_
     refine n_move rfl n0WjA ?_
     refine AOps.nil ?_
     refine ⟨i + 1, ⟨by omega, no_next hE hx0 hq⟩, ?_, rfl, by omega⟩
     (repeat (first | exact FLe.empty _ | refine FLe.put ?_ ?_)) <;> first | (simp only [nf, Nat.beq]; done) | rfl | ((try simp only [nf, Nat.beq]); first | rfl | (simp only [List.length_map]; done) | (congr 2; omega; done))
   · try simp only [nh] at hc1
     obtain rfl : i = l.length := by omega
     have hr : idxN (fun t : List Q4 × Int => decide ((toTb t).chk ≠ 0)) l = -1 := idxN_none (by rw [List.take_length] at hE; exact hE)
     rw [hr]
     refine AWP.exit ?_
     refine AWP.sr ?_
     refine n_assign rfl n0WjA ?_
     refine AOps.nil ?_
     refine AWP.ret ?_
     refine fin_pure (.cons (rv_tmp n0WjA) .nil) n0WjA ?_
     exact ren_flat rfl rfl

theorem cntt (l : List (List Q4 × Int)) (hl : l.length ≤ 1048576) (hn : ∀ t ∈ l, t.1.length ≤ 1048576) : Does Tryz.prog 92 [(.sl none (l.map qt) .ro), (.fn (.func 90) [] [])] [] (vb (l.any (fun t : List Q4 × Int => decide ((toTb t).chk ≠ 0)))) [] := by
 refine Does.of_body (rvs := [.tmp 4]) Tryz.func92 rfl rfl rfl rfl ?_
 refine AWP.sr ?_
 refine n_assign rfl n0WjA ?_
 refine AOps.nil ?_
 refine AWP.sr ?_
 refine n_move rfl n0WjA ?_
 refine n_move rfl n0WjA ?_
 refine n_call0B rfl cf109 rfl e1WjA r2WjA (idxt l hl hn) l3WjA ?_
 refine n_ibin rfl n0WjA n0WjA rfl ?_
 refine n_assign rfl n0WjA ?_
 refine AOps.nil ?_
 refine AWP.ret ?_
 refine fin_pure (.cons (rv_tmp n0WjA) .nil) n0WjA ?_
 exact ren_flat rfl (congrArg vb idxN_ge)

theorem errn (n : Int) : Does Tryz.prog 67 [vi n] [] (vb (errB n)) [] := by
 refine Does.of_body (rvs := [.tmp 2]) Tryz.func67 rfl rfl rfl rfl ?_
 refine AWP.sr ?_
 refine n_assign rfl n0WjA ?_
 refine AOps.nil ?_
 refine AWP.sr ?_
 refine n_move rfl n0WjA ?_
 refine n_ibin rfl n0WjA n0WjA rfl ?_
 refine n_move rfl n0WjA ?_
 refine AOps.name (u := 5) (fun z => .val (.bool z)) n0WjA (fun b5 hb5 => ?_)
 refine n_softT b5 rfl rfl rfl n0WjA (fun h => by
  subst h
  refine n_move rfl n0WjA ?_
  exact AOps.nil ⟨rfl, rfl, rfl⟩) ?_
 refine n_softT b5 rfl rfl rfl n0WjA (fun h => by
  subst h
  refine n_ibin rfl n0WjA n0WjA rfl ?_
  exact AOps.nil ⟨rfl, rfl, rfl⟩) ?_
 refine n_pick_and rfl n0WjA (fun h => by cases b5 with | false => exact absurd h (by decide) | true => exact n0WjA) ?_
 refine n_assign rfl n0WjA ?_
 refine AOps.nil ?_
 refine AWP.ret ?_
 refine fin_pure (.cons (rv_tmp n0WjA) .nil) n0WjA ?_
 refine ren_flat rfl (congrArg vb ?_)
 subst hb5
 unfold errB
 all_goals first | rfl | (simp only [ge_iff_le, Bool.and_assoc, Bool.and_true]; done) | (simp [Bool.and_assoc]; done) | grind

theorem vect (l : List Int) (hl : l.length ≤ 1048576) : Does Tryz.prog 70 [(.sl none (l.map q1) .ro)] [] (vb (vecB l)) [] := by
 refine Does.of_body (rvs := [.tmp 2]) Tryz.func70 rfl rfl rfl rfl ?_
 refine AWP.sr ?_
 refine n_assign rfl n0WjA ?_
 refine AOps.nil ?_
 refine AWP.sr ?_
 refine n_move rfl n0WjA ?_
 refine n_len rfl Tryz.underlying24 n0WjA (by first | rw [ints_length] | rw [List.length_map] | rfl) ?_
 refine n_ibin rfl n0WjA n0WjA rfl ?_
 refine n_move rfl n0WjA ?_
 refine AOps.name (u := 6) (fun z => .val (.bool z)) n0WjA (fun b6 hb6 => ?_)
 refine n_softT b6 rfl rfl rfl n0WjA (fun h => by
  subst h
  refine n_move rfl n0WjA ?_
  exact AOps.nil ⟨rfl, rfl, rfl⟩) ?_
 refine n_softT b6 rfl rfl rfl n0WjA (fun h => by
  subst h
  refine n_len rfl Tryz.underlying24 n0WjA (by first | rw [ints_length] | rw [List.length_map] | rfl) ?_
  exact AOps.nil ⟨rfl, rfl, rfl⟩) ?_
 refine n_softT b6 rfl rfl rfl n0WjA (fun h => by
  subst h
  refine n_ibin rfl n0WjA n0WjA rfl ?_
  exact AOps.nil ⟨rfl, rfl, rfl⟩) ?_
 refine n_pick_and rfl n0WjA (fun h => by cases b6 with | false => exact absurd h (by decide) | true => exact n0WjA) ?_
 refine n_move rfl n0WjA ?_
 refine AOps.name (u := 11) (fun z => .val (.bool z)) n0WjA (fun b11 hb11 => ?_)
 refine n_softT b11 rfl rfl rfl n0WjA (fun h => by
  subst h
  refine n_move rfl n0WjA ?_
  exact AOps.nil ⟨rfl, rfl, rfl⟩) ?_
 refine n_softT b11 rfl rfl rfl n0WjA (fun h => by
  subst h
  refine n_call0B rfl cf66 rfl e1WjA r2WjA (nums l hl) l3WjA ?_
  exact AOps.nil ⟨rfl, rfl, rfl⟩) ?_
 refine n_pick_and rfl n0WjA (fun h => by cases b11 with | false => exact absurd h (by decide) | true => exact n0WjA) ?_
 refine n_assign rfl n0WjA ?_
 refine AOps.nil ?_
 refine AWP.ret ?_
 refine fin_pure (.cons (rv_tmp n0WjA) .nil) n0WjA ?_
 refine ren_flat rfl (congrArg vb ?_)
 subst hb6
 subst hb11
 unfold vecB
 all_goals first | rfl | (simp only [ge_iff_le, Bool.and_assoc, Bool.and_true]; done) | (simp [Bool.and_assoc]; done) | grind

theorem keyb (e i : Int) : Does Tryz.prog 69 [.agg [vi e, vi i]] [] (vb (posN e && posN i)) [] := by
 refine Does.of_body (rvs := [.tmp 2]) Tryz.func69 rfl rfl rfl rfl ?_
 refine AWP.sr ?_
 refine n_box rfl n0WjA rfl rfl n0WjA n0WjA ?_
 refine n_assign rfl n0WjA ?_
 refine AOps.nil ?_
 refine AWP.sr ?_
 refine n_fieldAddr rfl fd28_0 ti2 rfl n0WjA rfl n0WjA ?_
 refine n_load rfl ti2 n0WjA n0WjA rfl n0WjA ?_
 refine n_fieldAddr rfl fd28_1 ti2 rfl n0WjA rfl n0WjA ?_
 refine n_load rfl ti2 n0WjA n0WjA rfl n0WjA ?_
 refine n_lit rfl Tryz.underlying24 ti2 zi2 rfl rfl e1WjA rfl n0WjA ?_
 refine n_call0B rfl cf65 rfl e1WjA r2WjA (P2 e i) l3WjA ?_
 refine n_assign rfl n0WjA ?_
 refine AOps.nil ?_
 refine AWP.ret ?_
 refine fin_pure (.cons (rv_tmp n0WjA) .nil) n0WjA ?_
 exact ren_flat rfl rfl

theorem txnb (t : Tx) (h1 : t.r.length ≤ 1048576) (h2 : t.v.length ≤ 1048576) : Does Tryz.prog 68 [.agg (txz t)] [] (vb (txB t)) [] := by
 refine Does.of_body (rvs := [.tmp 2]) Tryz.func68 rfl rfl rfl rfl ?_
 refine AWP.sr ?_
 refine n_box rfl n0WjA rfl rfl n0WjA n0WjA ?_
 refine n_assign rfl n0WjA ?_
 refine AOps.nil ?_
 refine AWP.sr ?_
 refine n_fieldAddr rfl fd26_0 ti2 rfl n0WjA rfl n0WjA ?_
 refine n_load rfl ti2 n0WjA n0WjA rfl n0WjA ?_
 refine n_fieldAddr rfl fd26_1 ti2 rfl n0WjA rfl n0WjA ?_
 refine n_load rfl ti2 n0WjA n0WjA rfl n0WjA ?_
 refine n_fieldAddr rfl fd26_2 ti2 rfl n0WjA rfl n0WjA ?_
 refine n_load rfl ti2 n0WjA n0WjA rfl n0WjA ?_
 refine n_lit rfl Tryz.underlying24 ti2 zi2 rfl rfl e1WjA rfl n0WjA ?_
 refine n_call0B rfl cf66 rfl e1WjA r2WjA (N3 t.e t.i t.b) l3WjA ?_
 refine n_move rfl n0WjA ?_
 refine AOps.name (u := 11) (fun z => .val (.bool z)) n0WjA (fun b11 hb11 => ?_)
 refine n_softT b11 rfl rfl rfl n0WjA (fun h => by
  subst h
  refine n_fieldAddr rfl fd26_4 ti24 rfl n0WjA rfl n0WjA ?_
  exact AOps.nil ⟨rfl, rfl, rfl⟩) ?_
 refine n_softT b11 rfl rfl rfl n0WjA (fun h => by
  subst h
  refine n_load rfl ti24 n0WjA n0WjA rfl n0WjA ?_
  exact AOps.nil ⟨rfl, rfl, rfl⟩) ?_
 refine n_softT b11 rfl rfl rfl n0WjA (fun h => by
  subst h
  refine n_call0B rfl cf66 rfl e1WjA r2WjA (nums t.v h2) l3WjA ?_
  exact AOps.nil ⟨rfl, rfl, rfl⟩) ?_
 refine n_pick_and rfl n0WjA (fun h => by cases b11 with | false => exact absurd h (by decide) | true => exact n0WjA) ?_
 refine n_move rfl n0WjA ?_
 refine AOps.name (u := 16) (fun z => .val (.bool z)) n0WjA (fun b16 hb16 => ?_)
 refine n_softT b16 rfl rfl rfl n0WjA (fun h => by
  subst h
  refine n_fieldAddr rfl fd26_3 ti23 rfl n0WjA rfl n0WjA ?_
  exact AOps.nil ⟨rfl, rfl, rfl⟩) ?_
 refine n_softT b16 rfl rfl rfl n0WjA (fun h => by
  subst h
  refine n_load rfl ti23 n0WjA n0WjA rfl n0WjA ?_
  exact AOps.nil ⟨rfl, rfl, rfl⟩) ?_
 refine n_softT b16 rfl rfl rfl n0WjA (fun h => by
  subst h
  refine n_len rfl Tryz.underlying23 n0WjA (by first | rw [ints_length] | rw [List.length_map] | rfl) ?_
  exact AOps.nil ⟨rfl, rfl, rfl⟩) ?_
 refine n_softT b16 rfl rfl rfl n0WjA (fun h => by
  subst h
  refine n_ibin rfl n0WjA n0WjA rfl ?_
  exact AOps.nil ⟨rfl, rfl, rfl⟩) ?_
 refine n_pick_and rfl n0WjA (fun h => by cases b16 with | false => exact absurd h (by decide) | true => exact n0WjA) ?_
 refine n_move rfl n0WjA ?_
 refine AOps.name (u := 22) (fun z => .val (.bool z)) n0WjA (fun b22 hb22 => ?_)
 refine n_softT b22 rfl rfl rfl n0WjA (fun h => by
  subst h
  refine n_fieldAddr rfl fd26_4 ti24 rfl n0WjA rfl n0WjA ?_
  exact AOps.nil ⟨rfl, rfl, rfl⟩) ?_
 refine n_softT b22 rfl rfl rfl n0WjA (fun h => by
  subst h
  refine n_load rfl ti24 n0WjA n0WjA rfl n0WjA ?_
  exact AOps.nil ⟨rfl, rfl, rfl⟩) ?_
 refine n_softT b22 rfl rfl rfl n0WjA (fun h => by
  subst h
  refine n_len rfl Tryz.underlying24 n0WjA (by first | rw [ints_length] | rw [List.length_map] | rfl) ?_
  exact AOps.nil ⟨rfl, rfl, rfl⟩) ?_
 refine n_softT b22 rfl rfl rfl n0WjA (fun h => by
  subst h
  refine n_ibin rfl n0WjA n0WjA rfl ?_
  exact AOps.nil ⟨rfl, rfl, rfl⟩) ?_
 refine n_pick_and rfl n0WjA (fun h => by cases b22 with | false => exact absurd h (by decide) | true => exact n0WjA) ?_
 refine n_assign rfl n0WjA ?_
 refine AOps.nil ?_
 refine AWP.ret ?_
 refine fin_pure (.cons (rv_tmp n0WjA) .nil) n0WjA ?_
 refine ren_flat rfl (congrArg vb ?_)
 subst hb11
 subst hb16
 subst hb22
 unfold txB
 all_goals first | rfl | (simp only [ge_iff_le, Bool.and_assoc, Bool.and_true]; done) | (simp [Bool.and_assoc]; done) | grind

theorem tabs_any (l : List (List Q4 × Int)) : (!(l.any (fun t : List Q4 × Int => decide ((toTb t).chk ≠ 0)))) = l.all (fun t => decide ((toTb t).chk = 0)) := by rw [← any_all]; congr 1; congr 1; funext t; simp
theorem tabs (l : List (List Q4 × Int)) (hl : l.length ≤ 1048576) (hn : ∀ t ∈ l, t.1.length ≤ 1048576) : Does Tryz.prog 71 [(.sl none (l.map qt) .ro)] [] (vb (tabsB l)) [] := by
 refine Does.of_body (rvs := [.tmp 2]) Tryz.func71 rfl rfl rfl rfl ?_
 refine AWP.sr ?_
 refine n_assign rfl n0WjA ?_
 refine AOps.nil ?_
 refine AWP.sr ?_
 refine n_assign rfl n0WjA ?_
 refine AOps.nil ?_
 refine AWP.sr ?_
 refine n_move rfl n0WjA ?_
 refine n_len rfl Tryz.underlying29 n0WjA (by first | rw [ints_length] | rw [List.length_map] | rfl) ?_
 refine n_ibin rfl n0WjA n0WjA rfl ?_
 refine n_move rfl n0WjA ?_
 refine AOps.name (u := 7) (fun z => .val (.bool z)) n0WjA (fun b7 hb7 => ?_)
 refine n_softT b7 rfl rfl rfl n0WjA (fun h => by
  subst h
  refine n_move rfl n0WjA ?_
  exact AOps.nil ⟨rfl, rfl, rfl⟩) ?_
 refine n_softT b7 rfl rfl rfl n0WjA (fun h => by
  subst h
  refine n_len rfl Tryz.underlying29 n0WjA (by first | rw [ints_length] | rw [List.length_map] | rfl) ?_
  exact AOps.nil ⟨rfl, rfl, rfl⟩) ?_
 refine n_softT b7 rfl rfl rfl n0WjA (fun h => by
  subst h
  refine n_ibin rfl n0WjA n0WjA rfl ?_
  exact AOps.nil ⟨rfl, rfl, rfl⟩) ?_
 refine n_pick_and rfl n0WjA (fun h => by cases b7 with | false => exact absurd h (by decide) | true => exact n0WjA) ?_
 refine n_move rfl n0WjA ?_
 refine AOps.name (u := 12) (fun z => .val (.bool z)) n0WjA (fun b12 hb12 => ?_)
 refine n_softT b12 rfl rfl rfl n0WjA (fun h => by
  subst h
  refine n_move rfl n0WjA ?_
  exact AOps.nil ⟨rfl, rfl, rfl⟩) ?_
 refine n_softT b12 rfl rfl rfl n0WjA (fun h => by
  subst h
  refine n_move rfl n0WjA ?_
  exact AOps.nil ⟨rfl, rfl, rfl⟩) ?_
 refine n_softT b12 rfl rfl rfl n0WjA (fun h => by
  subst h
  refine n_call0B rfl cf92 rfl e1WjA r2WjA (cntt l hl hn) l3WjA ?_
  exact AOps.nil ⟨rfl, rfl, rfl⟩) ?_
 refine n_softT b12 rfl rfl rfl n0WjA (fun h => by
  subst h
  refine n_not rfl n0WjA rfl ?_
  exact AOps.nil ⟨rfl, rfl, rfl⟩) ?_
 refine n_pick_and rfl n0WjA (fun h => by cases b12 with | false => exact absurd h (by decide) | true => exact n0WjA) ?_
 refine n_assign rfl n0WjA ?_
 refine AOps.nil ?_
 refine AWP.ret ?_
 refine fin_pure (.cons (rv_tmp n0WjA) .nil) n0WjA ?_
 refine ren_flat rfl (congrArg vb ?_)
 subst hb7
 subst hb12
 unfold tabsB
 rw [← tabs_any]
 all_goals first | rfl | (simp only [ge_iff_le, Bool.and_assoc, Bool.and_true]; done) | (simp [Bool.and_assoc]; done) | grind

end Go.Proofs.YtanfmpkjcoolmaaGreat.Wj
