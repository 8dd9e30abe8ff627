/- A message with the fields of its kind alone. -/
import Derived.Test.YtanfmpkjcoolmaaGreatWhA
import Derived.Test.YtanfmpkjcoolmaaGreatPlainA
set_option linter.unusedVariables false
set_option linter.unusedSimpArgs false
namespace Go.Proofs.YtanfmpkjcoolmaaGreat.Wi
open Go Go.Abs Go.Proofs.YtanfmpkjcoolmaaGreat.Pk Wa Wb Wh
attribute [local irreducible] AWP AOps Does

theorem n0WiA {α : Type} {a b : α} (h : a = b := by first|simp only[nf,Nat.beq]<;>rfl|rfl) : a = b := h
theorem e1WiA {α : Type} {a b : α} (h : a = b := by exact Eq.trans (by simp only [nl] <;> rfl) n0WiA) : a = b := h
theorem r2WiA {ρ σ : Nat → Nat → Prop} {a b : List D} (h : RenAll ρ σ a b := by repeat (first | exact .nil | refine .cons ?_ ?_ | exact .lf (.val _) | exact ren_map (f := q1) (fun _ => rfl) | exact ren_map (f := q2) (fun _ => rfl) | exact ren_map (f := q4) (fun _ => rfl) | exact ren_mapG qt_lf | exact .ro (fun x h => by cases h) | exact ren_ints)) : RenAll ρ σ a b := h
theorem cf64 : CF Tryz.prog 64 := ⟨_, Tryz.func64, by kernel_rfl, by kernel_rfl⟩
theorem fd33_0 : FD Tryz.prog 33 0 3 0 := ⟨_, _, Tryz.underlying33, rfl, rfl, rfl⟩
theorem fd33_1 : FD Tryz.prog 33 1 3 1 := ⟨_, _, Tryz.underlying33, rfl, rfl, rfl⟩
theorem fd33_10 : FD Tryz.prog 33 10 2 15 := ⟨_, _, Tryz.underlying33, rfl, rfl, rfl⟩
theorem fd33_11 : FD Tryz.prog 33 11 24 16 := ⟨_, _, Tryz.underlying33, rfl, rfl, rfl⟩
theorem fd33_12 : FD Tryz.prog 33 12 2 17 := ⟨_, _, Tryz.underlying33, rfl, rfl, rfl⟩
theorem fd33_13 : FD Tryz.prog 33 13 29 18 := ⟨_, _, Tryz.underlying33, rfl, rfl, rfl⟩
theorem fd33_14 : FD Tryz.prog 33 14 3 19 := ⟨_, _, Tryz.underlying33, rfl, rfl, rfl⟩
theorem fd33_15 : FD Tryz.prog 33 15 2 20 := ⟨_, _, Tryz.underlying33, rfl, rfl, rfl⟩
theorem fd33_16 : FD Tryz.prog 33 16 30 21 := ⟨_, _, Tryz.underlying33, rfl, rfl, rfl⟩
theorem fd33_17 : FD Tryz.prog 33 17 3 22 := ⟨_, _, Tryz.underlying33, rfl, rfl, rfl⟩
theorem fd33_18 : FD Tryz.prog 33 18 31 23 := ⟨_, _, Tryz.underlying33, rfl, rfl, rfl⟩
theorem fd33_2 : FD Tryz.prog 33 2 2 2 := ⟨_, _, Tryz.underlying33, rfl, rfl, rfl⟩
theorem fd33_3 : FD Tryz.prog 33 3 2 3 := ⟨_, _, Tryz.underlying33, rfl, rfl, rfl⟩
theorem fd33_4 : FD Tryz.prog 33 4 3 4 := ⟨_, _, Tryz.underlying33, rfl, rfl, rfl⟩
theorem fd33_5 : FD Tryz.prog 33 5 3 5 := ⟨_, _, Tryz.underlying33, rfl, rfl, rfl⟩
theorem fd33_6 : FD Tryz.prog 33 6 4 6 := ⟨_, _, Tryz.underlying33, rfl, rfl, rfl⟩
theorem fd33_7 : FD Tryz.prog 33 7 22 7 := ⟨_, _, Tryz.underlying33, rfl, rfl, rfl⟩
theorem fd33_8 : FD Tryz.prog 33 8 26 8 := ⟨_, _, Tryz.underlying33, rfl, rfl, rfl⟩
theorem fd33_9 : FD Tryz.prog 33 9 28 13 := ⟨_, _, Tryz.underlying33, rfl, rfl, rfl⟩
theorem si33 : SI Tryz.prog 33 #[(0, 1), (1, 1), (2, 1), (3, 1), (4, 1), (5, 1), (6, 1), (7, 1), (8, 5), (13, 2), (15, 1), (16, 1), (17, 1), (18, 1), (19, 1), (20, 1), (21, 1), (22, 1), (23, 1)] (.agg #[.int .i64 0, .int .i64 0, .int .i64 0, .int .i64 0, .int .i64 0, .int .i64 0, .bool false, .int .i64 0, .int .i64 0, .int .i64 0, .int .i64 0, .slice none 0 0, .slice none 0 0, .int .i64 0, .int .i64 0, .int .i64 0, .slice none 0 0, .int .i64 0, .slice none 0 0, .int .i64 0, .int .i64 0, .slice none 0 0, .int .i64 0, .slice none 0 0]) := ⟨⟨_, Tryz.underlying33, fun w => by kernel_rfl⟩, by kernel_rfl⟩
theorem ti2 : TI Tryz.prog 2 1 false := ⟨by kernel_rfl, by kernel_rfl⟩
theorem ti22 : TI Tryz.prog 22 1 false := ⟨by kernel_rfl, by kernel_rfl⟩
theorem ti24 : TI Tryz.prog 24 1 false := ⟨by kernel_rfl, by kernel_rfl⟩
theorem ti26 : TI Tryz.prog 26 5 true := ⟨by kernel_rfl, by kernel_rfl⟩
theorem ti28 : TI Tryz.prog 28 2 true := ⟨by kernel_rfl, by kernel_rfl⟩
theorem ti29 : TI Tryz.prog 29 1 false := ⟨by kernel_rfl, by kernel_rfl⟩
theorem ti3 : TI Tryz.prog 3 1 false := ⟨by kernel_rfl, by kernel_rfl⟩
theorem ti30 : TI Tryz.prog 30 1 false := ⟨by kernel_rfl, by kernel_rfl⟩
theorem ti31 : TI Tryz.prog 31 1 false := ⟨by kernel_rfl, by kernel_rfl⟩
theorem ti33 : TI Tryz.prog 33 24 true := ⟨by kernel_rfl, by kernel_rfl⟩
theorem ti4 : TI Tryz.prog 4 1 false := ⟨by kernel_rfl, by kernel_rfl⟩
theorem zi33 : (Tryz.prog.info? 33).map (·.zero) = some (some (.agg #[.int .i64 0, .int .i64 0, .int .i64 0, .int .i64 0, .int .i64 0, .int .i64 0, .bool false, .int .i64 0, .int .i64 0, .int .i64 0, .int .i64 0, .slice none 0 0, .slice none 0 0, .int .i64 0, .int .i64 0, .int .i64 0, .slice none 0 0, .int .i64 0, .slice none 0 0, .int .i64 0, .int .i64 0, .slice none 0 0, .int .i64 0, .slice none 0 0])) := by kernel_rfl

abbrev R0 (a : Wr) : List Ob := [Ob.box (wz a), Ob.box [vi a.kd, vi a.rg, vi 0, vi a.ep, vi 0, vi 0, vb false, vi 0, vi 0, vi 0, vi 0, .sl none [] .ro, .sl none [] .ro, vi 0, vi 0, vi 0, .sl none [] .ro, vi 0, .sl none [] .ro, vi 0, vi 0, .sl none [] .ro, vi 0, .sl none [] .ro], Ob.box [vi 0, vi 0, vi 0, vi 0, vi 0, vi 0, vb false, vi 0, vi 0, vi 0, vi 0, .sl (some true) [] .full, .sl (some true) [] .full, vi 0, vi 0, vi 0, .sl (some true) [] .full, vi 0, .sl (some true) [] .full, vi 0, vi 0, .sl (some true) [] .full, vi 0, .sl (some true) [] .full]]
abbrev R1 (a : Wr) : List Ob := [Ob.box (wz a), Ob.box [vi a.kd, vi a.rg, vi 0, vi a.ep, vi 0, vi 0, vb false, vi 0, vi 0, vi 0, vi 0, .sl none [] .ro, .sl none [] .ro, vi 0, vi 0, vi 0, .sl none [] .ro, vi a.nm, .sl none [] .ro, vi 0, vi 0, .sl none [] .ro, vi 0, .sl none [] .ro], Ob.box [vi 0, vi 0, vi 0, vi 0, vi 0, vi 0, vb false, vi 0, vi 0, vi 0, vi 0, .sl (some true) [] .full, .sl (some true) [] .full, vi 0, vi 0, vi 0, .sl (some true) [] .full, vi 0, .sl (some true) [] .full, vi 0, vi 0, .sl (some true) [] .full, vi 0, .sl (some true) [] .full]]
abbrev R2 (a : Wr) : List Ob := [Ob.box (wz a), Ob.box [vi a.kd, vi a.rg, vi 0, vi a.ep, vi 0, vi 0, vb false, vi 0, vi 0, vi 0, vi 0, .sl none [] .ro, .sl none [] .ro, vi 0, vi 0, vi 0, .sl none [] .ro, vi a.nm, .sl none (a.tb.map qt) .ro, vi 0, vi 0, .sl none [] .ro, vi 0, .sl none [] .ro], Ob.box [vi 0, vi 0, vi 0, vi 0, vi 0, vi 0, vb false, vi 0, vi 0, vi 0, vi 0, .sl (some true) [] .full, .sl (some true) [] .full, vi 0, vi 0, vi 0, .sl (some true) [] .full, vi 0, .sl (some true) [] .full, vi 0, vi 0, .sl (some true) [] .full, vi 0, .sl (some true) [] .full]]
abbrev R3 (a : Wr) : List Ob := [Ob.box (wz a), Ob.box [vi a.kd, vi a.rg, vi 0, vi a.ep, vi 0, vi 0, vb false, vi 0, vi 0, vi 0, vi 0, .sl none [] .ro, .sl none [] .ro, vi 0, vi 0, vi 0, .sl none (a.vc.map q1) .ro, vi a.nm, .sl none [] .ro, vi 0, vi 0, .sl none [] .ro, vi 0, .sl none [] .ro], Ob.box [vi 0, vi 0, vi 0, vi 0, vi 0, vi 0, vb false, vi 0, vi 0, vi 0, vi 0, .sl (some true) [] .full, .sl (some true) [] .full, vi 0, vi 0, vi 0, .sl (some true) [] .full, vi 0, .sl (some true) [] .full, vi 0, vi 0, .sl (some true) [] .full, vi 0, .sl (some true) [] .full]]
abbrev R4 (a : Wr) : List Ob := [Ob.box (wz a), Ob.box [vi a.kd, vi a.rg, vi 0, vi a.ep, vi 0, vi 0, vb false, vi 0, vi 0, vi 0, vi 0, .sl none [] .ro, .sl none [] .ro, vi 0, vi 0, vi 0, .sl none [] .ro, vi 0, .sl none [] .ro, vi a.pt, vi 0, .sl none [] .ro, vi 0, .sl none [] .ro], Ob.box [vi 0, vi 0, vi 0, vi 0, vi 0, vi 0, vb false, vi 0, vi 0, vi 0, vi 0, .sl (some true) [] .full, .sl (some true) [] .full, vi 0, vi 0, vi 0, .sl (some true) [] .full, vi 0, .sl (some true) [] .full, vi 0, vi 0, .sl (some true) [] .full, vi 0, .sl (some true) [] .full]]
abbrev R5 (a : Wr) : List Ob := [Ob.box (wz a), Ob.box [vi a.kd, vi a.rg, vi 0, vi a.ep, vi 0, vi 0, vb false, vi 0, vi 0, vi 0, vi 0, .sl none [] .ro, .sl none [] .ro, vi 0, vi 0, vi 0, .sl none [] .ro, vi 0, .sl none [] .ro, vi a.pt, vi a.ps, .sl none [] .ro, vi 0, .sl none [] .ro], Ob.box [vi 0, vi 0, vi 0, vi 0, vi 0, vi 0, vb false, vi 0, vi 0, vi 0, vi 0, .sl (some true) [] .full, .sl (some true) [] .full, vi 0, vi 0, vi 0, .sl (some true) [] .full, vi 0, .sl (some true) [] .full, vi 0, vi 0, .sl (some true) [] .full, vi 0, .sl (some true) [] .full]]
abbrev R6 (a : Wr) : List Ob := [Ob.box (wz a), Ob.box [vi a.kd, vi a.rg, vi 0, vi a.ep, vi 0, vi 0, vb false, vi 0, vi 0, vi 0, vi 0, .sl none [] .ro, .sl none [] .ro, vi 0, vi 0, vi 0, .sl none [] .ro, vi 0, .sl none [] .ro, vi a.pt, vi a.ps, .sl none (a.en.map q4) .ro, vi 0, .sl none [] .ro], Ob.box [vi 0, vi 0, vi 0, vi 0, vi 0, vi 0, vb false, vi 0, vi 0, vi 0, vi 0, .sl (some true) [] .full, .sl (some true) [] .full, vi 0, vi 0, vi 0, .sl (some true) [] .full, vi 0, .sl (some true) [] .full, vi 0, vi 0, .sl (some true) [] .full, vi 0, .sl (some true) [] .full]]
abbrev R7 (a : Wr) : List Ob := [Ob.box (wz a), Ob.box [vi a.kd, vi a.rg, vi 0, vi a.ep, vi 0, vi 0, vb false, vi 0, vi 0, vi 0, vi 0, .sl none [] .ro, .sl none [] .ro, vi a.ke, vi a.ki, vi 0, .sl none [] .ro, vi 0, .sl none [] .ro, vi 0, vi 0, .sl none [] .ro, vi 0, .sl none [] .ro], Ob.box [vi 0, vi 0, vi 0, vi 0, vi 0, vi 0, vb false, vi 0, vi 0, vi 0, vi 0, .sl (some true) [] .full, .sl (some true) [] .full, vi 0, vi 0, vi 0, .sl (some true) [] .full, vi 0, .sl (some true) [] .full, vi 0, vi 0, .sl (some true) [] .full, vi 0, .sl (some true) [] .full]]
abbrev R8 (a : Wr) : List Ob := [Ob.box (wz a), Ob.box [vi a.kd, vi a.rg, vi 0, vi a.ep, vi 0, vi 0, vb false, vi 0, vi 0, vi 0, vi 0, .sl none [] .ro, .sl none [] .ro, vi a.ke, vi a.ki, vi 0, .sl none [] .ro, vi 0, .sl none [] .ro, vi 0, vi 0, .sl none [] .ro, vi a.ch, .sl none [] .ro], Ob.box [vi 0, vi 0, vi 0, vi 0, vi 0, vi 0, vb false, vi 0, vi 0, vi 0, vi 0, .sl (some true) [] .full, .sl (some true) [] .full, vi 0, vi 0, vi 0, .sl (some true) [] .full, vi 0, .sl (some true) [] .full, vi 0, vi 0, .sl (some true) [] .full, vi 0, .sl (some true) [] .full]]
abbrev R9 (a : Wr) : List Ob := [Ob.box (wz a), Ob.box [vi a.kd, vi a.rg, vi 0, vi a.ep, vi 0, vi 0, vb false, vi 0, vi 0, vi 0, vi 0, .sl none [] .ro, .sl none [] .ro, vi a.ke, vi a.ki, vi 0, .sl none [] .ro, vi 0, .sl none [] .ro, vi 0, vi 0, .sl none [] .ro, vi a.ch, bys a.by_], Ob.box [vi 0, vi 0, vi 0, vi 0, vi 0, vi 0, vb false, vi 0, vi 0, vi 0, vi 0, .sl (some true) [] .full, .sl (some true) [] .full, vi 0, vi 0, vi 0, .sl (some true) [] .full, vi 0, .sl (some true) [] .full, vi 0, vi 0, .sl (some true) [] .full, vi 0, .sl (some true) [] .full]]
set_option maxHeartbeats 4000000 in
theorem l_regional (a : Wr) (hk : a.kd < 1 ∨ a.kd > 12) : Does Tryz.prog 64 [.agg (wz a), .agg (wz (wr0 a.kd a.rg))] [] (.tup [.agg (wz (bareW a)), vb (kindW a)]) [] := by
 refine Does.of_body (rvs := [.cell 4 33, .tmp 5]) Tryz.func64 rfl rfl rfl rfl ?_
 refine AWP.sr ?_
 refine n_box rfl n0WiA rfl rfl n0WiA n0WiA ?_
 refine n_box rfl n0WiA rfl rfl n0WiA n0WiA ?_
 refine n_alloc rfl zi33 rfl n0WiA n0WiA ?_
 refine n_assign rfl n0WiA ?_
 refine AOps.nil ?_
 refine AWP.sr ?_
 refine n_fieldAddr rfl fd33_3 ti2 rfl n0WiA rfl n0WiA ?_
 refine n_load rfl ti2 n0WiA n0WiA rfl n0WiA ?_
 refine n_fieldAddr rfl fd33_3 ti2 rfl n0WiA rfl n0WiA ?_
 refine n_store ti2 n0WiA rfl n0WiA rfl n0WiA rfl rfl rfl n0WiA ?_
 refine AOps.nil ?_
 refine AWP.seq ?_
 refine AWP.sr ?_
 refine n_fieldAddr rfl fd33_0 ti3 rfl n0WiA rfl n0WiA ?_
 refine n_load rfl ti3 n0WiA n0WiA rfl n0WiA ?_
 refine AOps.nil ?_
 refine AWP.block ?_
 refine AWP.sr ?_
 refine n_ibin rfl n0WiA n0WiA rfl ?_
 refine n_assign rfl n0WiA ?_
 refine AOps.nil ?_
 refine AWP.cond n0WiA (fun hc1 => ?_) (fun hc1 => ?_)
 · try simp only [nh] at hc1
   have hB := bare_x (w := a) (by omega)
   refine AWP.skip ?_
   refine AWP.sr ?_
   refine n_load rfl ti33 n0WiA n0WiA rfl n0WiA ?_
   refine n_store ti33 n0WiA rfl n0WiA rfl n0WiA rfl rfl rfl n0WiA ?_
   refine n_assign rfl n0WiA ?_
   refine AOps.nil ?_
   refine AWP.ret ?_
   refine fin_pure (.cons (rv_cell ti33 n0WiA n0WiA rfl n0WiA) (.cons (rv_tmp n0WiA) .nil)) n0WiA ?_
   rw [hB]
   exact .tup rfl (RenAll.get (.cons (.agg rfl (RenAll.get r2WiA)) (.cons (ren_flat rfl (congrArg vb (by unfold kindW; simp; omega))) .nil)))
 · try simp only [nh] at hc1
   refine AWP.sr ?_
   refine n_ibin rfl n0WiA n0WiA rfl ?_
   refine n_assign rfl n0WiA ?_
   refine AOps.nil ?_
   refine AWP.cond n0WiA (fun hc2 => ?_) (fun hc2 => ?_)
   · try simp only [nh] at hc2
     have hB := bare_8 (w := a) (by omega)
     refine AWP.anyT [5, 7] (fun p => match p with | [false, false] => (R0 a) | [true, false] => (R1 a) | [true, true] => (R2 a) | _ => []) (by kernel_rfl) (by kernel_rfl) rfl rfl ?_
     refine Walk.casesC [(0, [5]), (5, [7])] [([false, false], (R0 a), (R0 a))] (by rfl) (by kernel_rfl) (rs := [2]) (by rfl) n0WiA (fun base => ⟨
      ⟨rfl, rfl, by
       refine n_fieldAddr rfl fd33_12 ti2 rfl n0WiA rfl n0WiA ?_
       exact AOps.nil ⟨rfl, rfl, rfl⟩⟩,
      trivial⟩) ?_
     refine Walk.casesC [(1, [5]), (5, [7])] [([false, false], (R0 a), (R0 a))] (by rfl) (by kernel_rfl) (rs := [16]) (by rfl) n0WiA (fun base => ⟨
      ⟨rfl, rfl, by
       refine n_load rfl ti2 n0WiA n0WiA rfl n0WiA ?_
       exact AOps.nil ⟨rfl, rfl, rfl⟩⟩,
      trivial⟩) ?_
     refine Walk.casesC [(5, [7]), (2, [7])] [([false, false], (R0 a), (R0 a)), ([true, false], (R1 a), (R1 a))] (by rfl) (by kernel_rfl) (rs := [2]) (by rfl) n0WiA (fun base => ⟨
      ⟨rfl, rfl, by
       refine n_fieldAddr rfl fd33_13 ti29 rfl n0WiA rfl n0WiA ?_
       exact AOps.nil ⟨rfl, rfl, rfl⟩⟩,
      ⟨rfl, rfl, by
       refine n_fieldAddr rfl fd33_13 ti29 rfl n0WiA rfl n0WiA ?_
       exact AOps.nil ⟨rfl, rfl, rfl⟩⟩,
      trivial⟩) ?_
     refine Walk.casesC [(5, [7]), (3, [7])] [([false, false], (R0 a), (R0 a)), ([true, false], (R1 a), (R1 a))] (by rfl) (by kernel_rfl) (rs := [18]) (by rfl) n0WiA (fun base => ⟨
      ⟨rfl, rfl, by
       refine n_load rfl ti29 n0WiA n0WiA rfl n0WiA ?_
       exact AOps.nil ⟨rfl, rfl, rfl⟩⟩,
      ⟨rfl, rfl, by
       refine n_load rfl ti29 n0WiA n0WiA rfl n0WiA ?_
       exact AOps.nil ⟨rfl, rfl, rfl⟩⟩,
      trivial⟩) ?_
     refine Walk.casesC [(4, [5]), (5, [7])] [([false, false], (R0 a), (R0 a))] (by rfl) (by kernel_rfl) (rs := [3]) (by rfl) n0WiA (fun base => ⟨
      ⟨rfl, rfl, by
       refine n_fieldAddr rfl fd33_12 ti2 rfl n0WiA rfl n0WiA ?_
       exact AOps.nil ⟨rfl, rfl, rfl⟩⟩,
      trivial⟩) ?_
     refine Walk.casesC [(5, [7])] (d := .any) [([false, false], (R0 a), (R1 a))] (by rfl) (by kernel_rfl) (rs := [20, 17]) (by rfl) n0WiA (fun base => ⟨
      ⟨rfl, rfl, by
       refine n_store ti2 n0WiA rfl n0WiA rfl n0WiA rfl rfl rfl n0WiA ?_
       exact AOps.nil ⟨rfl, rfl, rfl⟩⟩,
      trivial⟩) ?_
     refine Walk.casesC [(5, [7]), (6, [7]), (5, [6])] [([true, false], (R1 a), (R1 a))] (by rfl) (by kernel_rfl) (rs := [3]) (by rfl) n0WiA (fun base => ⟨
      ⟨rfl, rfl, by
       refine n_fieldAddr rfl fd33_13 ti29 rfl n0WiA rfl n0WiA ?_
       exact AOps.nil ⟨rfl, rfl, rfl⟩⟩,
      trivial⟩) ?_
     refine Walk.casesC [(5, [7])] (d := .any) [([true, false], (R1 a), (R2 a))] (by rfl) (by kernel_rfl) (rs := [21, 19]) (by rfl) n0WiA (fun base => ⟨
      ⟨rfl, rfl, by
       refine n_store ti29 n0WiA rfl n0WiA rfl n0WiA rfl rfl rfl n0WiA ?_
       exact AOps.nil ⟨rfl, rfl, rfl⟩⟩,
      trivial⟩) ?_
     refine Walk.done ?_
     refine AWP.sr ?_
     refine n_load rfl ti33 n0WiA n0WiA rfl n0WiA ?_
     refine n_store ti33 n0WiA rfl n0WiA rfl n0WiA rfl rfl rfl n0WiA ?_
     refine n_assign rfl n0WiA ?_
     refine AOps.nil ?_
     refine AWP.ret ?_
     refine fin_pure (.cons (rv_cell ti33 n0WiA n0WiA rfl n0WiA) (.cons (rv_tmp n0WiA) .nil)) n0WiA ?_
     rw [hB]
     exact .tup rfl (RenAll.get (.cons (.agg rfl (RenAll.get r2WiA)) (.cons (ren_flat rfl (congrArg vb (by unfold kindW; simp; omega))) .nil)))
   · try simp only [nh] at hc2
     refine AWP.sr ?_
     refine n_ibin rfl n0WiA n0WiA rfl ?_
     refine n_assign rfl n0WiA ?_
     refine AOps.nil ?_
     refine AWP.cond n0WiA (fun hc3 => ?_) (fun hc3 => ?_)
     · try simp only [nh] at hc3
       have hB := bare_9 (w := a) (by omega)
       refine AWP.anyT [5, 7] (fun p => match p with | [false, false] => (R0 a) | [true, false] => (R1 a) | [true, true] => (R3 a) | _ => []) (by kernel_rfl) (by kernel_rfl) rfl rfl ?_
       refine Walk.casesC [(0, [5]), (5, [7])] [([false, false], (R0 a), (R0 a))] (by rfl) (by kernel_rfl) (rs := [2]) (by rfl) n0WiA (fun base => ⟨
        ⟨rfl, rfl, by
         refine n_fieldAddr rfl fd33_12 ti2 rfl n0WiA rfl n0WiA ?_
         exact AOps.nil ⟨rfl, rfl, rfl⟩⟩,
        trivial⟩) ?_
       refine Walk.casesC [(1, [5]), (5, [7])] [([false, false], (R0 a), (R0 a))] (by rfl) (by kernel_rfl) (rs := [24]) (by rfl) n0WiA (fun base => ⟨
        ⟨rfl, rfl, by
         refine n_load rfl ti2 n0WiA n0WiA rfl n0WiA ?_
         exact AOps.nil ⟨rfl, rfl, rfl⟩⟩,
        trivial⟩) ?_
       refine Walk.casesC [(5, [7]), (2, [7])] [([false, false], (R0 a), (R0 a)), ([true, false], (R1 a), (R1 a))] (by rfl) (by kernel_rfl) (rs := [2]) (by rfl) n0WiA (fun base => ⟨
        ⟨rfl, rfl, by
         refine n_fieldAddr rfl fd33_11 ti24 rfl n0WiA rfl n0WiA ?_
         exact AOps.nil ⟨rfl, rfl, rfl⟩⟩,
        ⟨rfl, rfl, by
         refine n_fieldAddr rfl fd33_11 ti24 rfl n0WiA rfl n0WiA ?_
         exact AOps.nil ⟨rfl, rfl, rfl⟩⟩,
        trivial⟩) ?_
       refine Walk.casesC [(5, [7]), (3, [7])] [([false, false], (R0 a), (R0 a)), ([true, false], (R1 a), (R1 a))] (by rfl) (by kernel_rfl) (rs := [26]) (by rfl) n0WiA (fun base => ⟨
        ⟨rfl, rfl, by
         refine n_load rfl ti24 n0WiA n0WiA rfl n0WiA ?_
         exact AOps.nil ⟨rfl, rfl, rfl⟩⟩,
        ⟨rfl, rfl, by
         refine n_load rfl ti24 n0WiA n0WiA rfl n0WiA ?_
         exact AOps.nil ⟨rfl, rfl, rfl⟩⟩,
        trivial⟩) ?_
       refine Walk.casesC [(4, [5]), (5, [7])] [([false, false], (R0 a), (R0 a))] (by rfl) (by kernel_rfl) (rs := [3]) (by rfl) n0WiA (fun base => ⟨
        ⟨rfl, rfl, by
         refine n_fieldAddr rfl fd33_12 ti2 rfl n0WiA rfl n0WiA ?_
         exact AOps.nil ⟨rfl, rfl, rfl⟩⟩,
        trivial⟩) ?_
       refine Walk.casesC [(5, [7])] (d := .any) [([false, false], (R0 a), (R1 a))] (by rfl) (by kernel_rfl) (rs := [28, 25]) (by rfl) n0WiA (fun base => ⟨
        ⟨rfl, rfl, by
         refine n_store ti2 n0WiA rfl n0WiA rfl n0WiA rfl rfl rfl n0WiA ?_
         exact AOps.nil ⟨rfl, rfl, rfl⟩⟩,
        trivial⟩) ?_
       refine Walk.casesC [(5, [7]), (6, [7]), (5, [6])] [([true, false], (R1 a), (R1 a))] (by rfl) (by kernel_rfl) (rs := [3]) (by rfl) n0WiA (fun base => ⟨
        ⟨rfl, rfl, by
         refine n_fieldAddr rfl fd33_11 ti24 rfl n0WiA rfl n0WiA ?_
         exact AOps.nil ⟨rfl, rfl, rfl⟩⟩,
        trivial⟩) ?_
       refine Walk.casesC [(5, [7])] (d := .any) [([true, false], (R1 a), (R3 a))] (by rfl) (by kernel_rfl) (rs := [29, 27]) (by rfl) n0WiA (fun base => ⟨
        ⟨rfl, rfl, by
         refine n_store ti24 n0WiA rfl n0WiA rfl n0WiA rfl rfl rfl n0WiA ?_
         exact AOps.nil ⟨rfl, rfl, rfl⟩⟩,
        trivial⟩) ?_
       refine Walk.done ?_
       refine AWP.sr ?_
       refine n_load rfl ti33 n0WiA n0WiA rfl n0WiA ?_
       refine n_store ti33 n0WiA rfl n0WiA rfl n0WiA rfl rfl rfl n0WiA ?_
       refine n_assign rfl n0WiA ?_
       refine AOps.nil ?_
       refine AWP.ret ?_
       refine fin_pure (.cons (rv_cell ti33 n0WiA n0WiA rfl n0WiA) (.cons (rv_tmp n0WiA) .nil)) n0WiA ?_
       rw [hB]
       exact .tup rfl (RenAll.get (.cons (.agg rfl (RenAll.get r2WiA)) (.cons (ren_flat rfl (congrArg vb (by unfold kindW; simp; omega))) .nil)))
     · try simp only [nh] at hc3
       refine AWP.sr ?_
       refine n_ibin rfl n0WiA n0WiA rfl ?_
       refine n_assign rfl n0WiA ?_
       refine AOps.nil ?_
       refine AWP.cond n0WiA (fun hc4 => ?_) (fun hc4 => ?_)
       · try simp only [nh] at hc4
         have hB := bare_10 (w := a) (by omega)
         refine AWP.region ?_
         refine n_fieldAddr rfl fd33_11 ti24 rfl n0WiA rfl n0WiA ?_
         refine n_load rfl ti24 n0WiA n0WiA rfl n0WiA ?_
         refine n_fieldAddr rfl fd33_11 ti24 rfl n0WiA rfl n0WiA ?_
         refine n_store ti24 n0WiA rfl n0WiA rfl n0WiA rfl rfl rfl n0WiA ?_
         refine AOps.nil ?_
         refine AWP.sr ?_
         refine n_load rfl ti33 n0WiA n0WiA rfl n0WiA ?_
         refine n_store ti33 n0WiA rfl n0WiA rfl n0WiA rfl rfl rfl n0WiA ?_
         refine n_assign rfl n0WiA ?_
         refine AOps.nil ?_
         refine AWP.ret ?_
         refine fin_pure (.cons (rv_cell ti33 n0WiA n0WiA rfl n0WiA) (.cons (rv_tmp n0WiA) .nil)) n0WiA ?_
         rw [hB]
         exact .tup rfl (RenAll.get (.cons (.agg rfl (RenAll.get r2WiA)) (.cons (ren_flat rfl (congrArg vb (by unfold kindW; simp; omega))) .nil)))
       · try simp only [nh] at hc4
         refine AWP.sr ?_
         refine n_ibin rfl n0WiA n0WiA rfl ?_
         refine n_assign rfl n0WiA ?_
         refine AOps.nil ?_
         refine AWP.cond n0WiA (fun hc5 => ?_) (fun hc5 => ?_)
         · try simp only [nh] at hc5
           have hB := bare_11 (w := a) (by omega)
           refine AWP.anyT [7, 9, 11] (fun p => match p with | [false, false, false] => (R0 a) | [true, false, false] => (R4 a) | [true, true, false] => (R5 a) | [true, true, true] => (R6 a) | _ => []) (by kernel_rfl) (by kernel_rfl) rfl rfl ?_
           refine Walk.casesC [(0, [7]), (7, [9]), (9, [11])] [([false, false, false], (R0 a), (R0 a))] (by rfl) (by kernel_rfl) (rs := [2]) (by rfl) n0WiA (fun base => ⟨
            ⟨rfl, rfl, by
             refine n_fieldAddr rfl fd33_14 ti3 rfl n0WiA rfl n0WiA ?_
             exact AOps.nil ⟨rfl, rfl, rfl⟩⟩,
            trivial⟩) ?_
           refine Walk.casesC [(1, [7]), (7, [9]), (9, [11])] [([false, false, false], (R0 a), (R0 a))] (by rfl) (by kernel_rfl) (rs := [37]) (by rfl) n0WiA (fun base => ⟨
            ⟨rfl, rfl, by
             refine n_load rfl ti3 n0WiA n0WiA rfl n0WiA ?_
             exact AOps.nil ⟨rfl, rfl, rfl⟩⟩,
            trivial⟩) ?_
           refine Walk.casesC [(7, [9]), (2, [9]), (9, [11])] [([false, false, false], (R0 a), (R0 a)), ([true, false, false], (R4 a), (R4 a))] (by rfl) (by kernel_rfl) (rs := [2]) (by rfl) n0WiA (fun base => ⟨
            ⟨rfl, rfl, by
             refine n_fieldAddr rfl fd33_15 ti2 rfl n0WiA rfl n0WiA ?_
             exact AOps.nil ⟨rfl, rfl, rfl⟩⟩,
            ⟨rfl, rfl, by
             refine n_fieldAddr rfl fd33_15 ti2 rfl n0WiA rfl n0WiA ?_
             exact AOps.nil ⟨rfl, rfl, rfl⟩⟩,
            trivial⟩) ?_
           refine Walk.casesC [(7, [9]), (3, [9]), (9, [11])] [([false, false, false], (R0 a), (R0 a)), ([true, false, false], (R4 a), (R4 a))] (by rfl) (by kernel_rfl) (rs := [39]) (by rfl) n0WiA (fun base => ⟨
            ⟨rfl, rfl, by
             refine n_load rfl ti2 n0WiA n0WiA rfl n0WiA ?_
             exact AOps.nil ⟨rfl, rfl, rfl⟩⟩,
            ⟨rfl, rfl, by
             refine n_load rfl ti2 n0WiA n0WiA rfl n0WiA ?_
             exact AOps.nil ⟨rfl, rfl, rfl⟩⟩,
            trivial⟩) ?_
           refine Walk.casesC [(7, [9]), (9, [11]), (4, [11])] [([false, false, false], (R0 a), (R0 a)), ([true, false, false], (R4 a), (R4 a)), ([true, true, false], (R5 a), (R5 a))] (by rfl) (by kernel_rfl) (rs := [2]) (by rfl) n0WiA (fun base => ⟨
            ⟨rfl, rfl, by
             refine n_fieldAddr rfl fd33_16 ti30 rfl n0WiA rfl n0WiA ?_
             exact AOps.nil ⟨rfl, rfl, rfl⟩⟩,
            ⟨rfl, rfl, by
             refine n_fieldAddr rfl fd33_16 ti30 rfl n0WiA rfl n0WiA ?_
             exact AOps.nil ⟨rfl, rfl, rfl⟩⟩,
            ⟨rfl, rfl, by
             refine n_fieldAddr rfl fd33_16 ti30 rfl n0WiA rfl n0WiA ?_
             exact AOps.nil ⟨rfl, rfl, rfl⟩⟩,
            trivial⟩) ?_
           refine Walk.casesC [(7, [9]), (9, [11]), (5, [11])] [([false, false, false], (R0 a), (R0 a)), ([true, false, false], (R4 a), (R4 a)), ([true, true, false], (R5 a), (R5 a))] (by rfl) (by kernel_rfl) (rs := [41]) (by rfl) n0WiA (fun base => ⟨
            ⟨rfl, rfl, by
             refine n_load rfl ti30 n0WiA n0WiA rfl n0WiA ?_
             exact AOps.nil ⟨rfl, rfl, rfl⟩⟩,
            ⟨rfl, rfl, by
             refine n_load rfl ti30 n0WiA n0WiA rfl n0WiA ?_
             exact AOps.nil ⟨rfl, rfl, rfl⟩⟩,
            ⟨rfl, rfl, by
             refine n_load rfl ti30 n0WiA n0WiA rfl n0WiA ?_
             exact AOps.nil ⟨rfl, rfl, rfl⟩⟩,
            trivial⟩) ?_
           refine Walk.casesC [(6, [7]), (7, [9]), (9, [11])] [([false, false, false], (R0 a), (R0 a))] (by rfl) (by kernel_rfl) (rs := [3]) (by rfl) n0WiA (fun base => ⟨
            ⟨rfl, rfl, by
             refine n_fieldAddr rfl fd33_14 ti3 rfl n0WiA rfl n0WiA ?_
             exact AOps.nil ⟨rfl, rfl, rfl⟩⟩,
            trivial⟩) ?_
           refine Walk.casesC [(7, [9]), (9, [11])] (d := .any) [([false, false, false], (R0 a), (R4 a))] (by rfl) (by kernel_rfl) (rs := [43, 38]) (by rfl) n0WiA (fun base => ⟨
            ⟨rfl, rfl, by
             refine n_store ti3 n0WiA rfl n0WiA rfl n0WiA rfl rfl rfl n0WiA ?_
             exact AOps.nil ⟨rfl, rfl, rfl⟩⟩,
            trivial⟩) ?_
           refine Walk.casesC [(7, [9]), (8, [9]), (9, [11]), (7, [8])] [([true, false, false], (R4 a), (R4 a))] (by rfl) (by kernel_rfl) (rs := [3]) (by rfl) n0WiA (fun base => ⟨
            ⟨rfl, rfl, by
             refine n_fieldAddr rfl fd33_15 ti2 rfl n0WiA rfl n0WiA ?_
             exact AOps.nil ⟨rfl, rfl, rfl⟩⟩,
            trivial⟩) ?_
           refine Walk.casesC [(7, [9]), (9, [11])] (d := .any) [([true, false, false], (R4 a), (R5 a))] (by rfl) (by kernel_rfl) (rs := [44, 40]) (by rfl) n0WiA (fun base => ⟨
            ⟨rfl, rfl, by
             refine n_store ti2 n0WiA rfl n0WiA rfl n0WiA rfl rfl rfl n0WiA ?_
             exact AOps.nil ⟨rfl, rfl, rfl⟩⟩,
            trivial⟩) ?_
           refine Walk.casesC [(7, [9]), (9, [11]), (10, [11]), (9, [10])] [([true, true, false], (R5 a), (R5 a))] (by rfl) (by kernel_rfl) (rs := [3]) (by rfl) n0WiA (fun base => ⟨
            ⟨rfl, rfl, by
             refine n_fieldAddr rfl fd33_16 ti30 rfl n0WiA rfl n0WiA ?_
             exact AOps.nil ⟨rfl, rfl, rfl⟩⟩,
            trivial⟩) ?_
           refine Walk.casesC [(7, [9]), (9, [11])] (d := .any) [([true, true, false], (R5 a), (R6 a))] (by rfl) (by kernel_rfl) (rs := [45, 42]) (by rfl) n0WiA (fun base => ⟨
            ⟨rfl, rfl, by
             refine n_store ti30 n0WiA rfl n0WiA rfl n0WiA rfl rfl rfl n0WiA ?_
             exact AOps.nil ⟨rfl, rfl, rfl⟩⟩,
            trivial⟩) ?_
           refine Walk.done ?_
           refine AWP.sr ?_
           refine n_load rfl ti33 n0WiA n0WiA rfl n0WiA ?_
           refine n_store ti33 n0WiA rfl n0WiA rfl n0WiA rfl rfl rfl n0WiA ?_
           refine n_assign rfl n0WiA ?_
           refine AOps.nil ?_
           refine AWP.ret ?_
           refine fin_pure (.cons (rv_cell ti33 n0WiA n0WiA rfl n0WiA) (.cons (rv_tmp n0WiA) .nil)) n0WiA ?_
           rw [hB]
           exact .tup rfl (RenAll.get (.cons (.agg rfl (RenAll.get r2WiA)) (.cons (ren_flat rfl (congrArg vb (by unfold kindW; simp; omega))) .nil)))
         · try simp only [nh] at hc5
           refine AWP.sr ?_
           refine n_ibin rfl n0WiA n0WiA rfl ?_
           refine n_assign rfl n0WiA ?_
           refine AOps.nil ?_
           refine AWP.cond n0WiA (fun hc6 => ?_) (fun hc6 => ?_)
           · try simp only [nh] at hc6
             have hB := bare_12 (w := a) (by omega)
             refine AWP.anyT [7, 9, 11] (fun p => match p with | [false, false, false] => (R0 a) | [true, false, false] => (R7 a) | [true, true, false] => (R8 a) | [true, true, true] => (R9 a) | _ => []) (by kernel_rfl) (by kernel_rfl) rfl rfl ?_
             refine Walk.casesC [(0, [7]), (7, [9]), (9, [11])] [([false, false, false], (R0 a), (R0 a))] (by rfl) (by kernel_rfl) (rs := [2]) (by rfl) n0WiA (fun base => ⟨
              ⟨rfl, rfl, by
               refine n_fieldAddr rfl fd33_9 ti28 rfl n0WiA rfl n0WiA ?_
               exact AOps.nil ⟨rfl, rfl, rfl⟩⟩,
              trivial⟩) ?_
             refine Walk.casesC [(1, [7]), (7, [9]), (9, [11])] [([false, false, false], (R0 a), (R0 a))] (by rfl) (by kernel_rfl) (rs := [48]) (by rfl) n0WiA (fun base => ⟨
              ⟨rfl, rfl, by
               refine n_load rfl ti28 n0WiA n0WiA rfl n0WiA ?_
               exact AOps.nil ⟨rfl, rfl, rfl⟩⟩,
              trivial⟩) ?_
             refine Walk.casesC [(7, [9]), (2, [9]), (9, [11])] [([false, false, false], (R0 a), (R0 a)), ([true, false, false], (R7 a), (R7 a))] (by rfl) (by kernel_rfl) (rs := [2]) (by rfl) n0WiA (fun base => ⟨
              ⟨rfl, rfl, by
               refine n_fieldAddr rfl fd33_17 ti3 rfl n0WiA rfl n0WiA ?_
               exact AOps.nil ⟨rfl, rfl, rfl⟩⟩,
              ⟨rfl, rfl, by
               refine n_fieldAddr rfl fd33_17 ti3 rfl n0WiA rfl n0WiA ?_
               exact AOps.nil ⟨rfl, rfl, rfl⟩⟩,
              trivial⟩) ?_
             refine Walk.casesC [(7, [9]), (3, [9]), (9, [11])] [([false, false, false], (R0 a), (R0 a)), ([true, false, false], (R7 a), (R7 a))] (by rfl) (by kernel_rfl) (rs := [50]) (by rfl) n0WiA (fun base => ⟨
              ⟨rfl, rfl, by
               refine n_load rfl ti3 n0WiA n0WiA rfl n0WiA ?_
               exact AOps.nil ⟨rfl, rfl, rfl⟩⟩,
              ⟨rfl, rfl, by
               refine n_load rfl ti3 n0WiA n0WiA rfl n0WiA ?_
               exact AOps.nil ⟨rfl, rfl, rfl⟩⟩,
              trivial⟩) ?_
             refine Walk.casesC [(7, [9]), (9, [11]), (4, [11])] [([false, false, false], (R0 a), (R0 a)), ([true, false, false], (R7 a), (R7 a)), ([true, true, false], (R8 a), (R8 a))] (by rfl) (by kernel_rfl) (rs := [2]) (by rfl) n0WiA (fun base => ⟨
              ⟨rfl, rfl, by
               refine n_fieldAddr rfl fd33_18 ti31 rfl n0WiA rfl n0WiA ?_
               exact AOps.nil ⟨rfl, rfl, rfl⟩⟩,
              ⟨rfl, rfl, by
               refine n_fieldAddr rfl fd33_18 ti31 rfl n0WiA rfl n0WiA ?_
               exact AOps.nil ⟨rfl, rfl, rfl⟩⟩,
              ⟨rfl, rfl, by
               refine n_fieldAddr rfl fd33_18 ti31 rfl n0WiA rfl n0WiA ?_
               exact AOps.nil ⟨rfl, rfl, rfl⟩⟩,
              trivial⟩) ?_
             refine Walk.casesC [(7, [9]), (9, [11]), (5, [11])] [([false, false, false], (R0 a), (R0 a)), ([true, false, false], (R7 a), (R7 a)), ([true, true, false], (R8 a), (R8 a))] (by rfl) (by kernel_rfl) (rs := [52]) (by rfl) n0WiA (fun base => ⟨
              ⟨rfl, rfl, by
               refine n_load rfl ti31 n0WiA n0WiA rfl n0WiA ?_
               exact AOps.nil ⟨rfl, rfl, rfl⟩⟩,
              ⟨rfl, rfl, by
               refine n_load rfl ti31 n0WiA n0WiA rfl n0WiA ?_
               exact AOps.nil ⟨rfl, rfl, rfl⟩⟩,
              ⟨rfl, rfl, by
               refine n_load rfl ti31 n0WiA n0WiA rfl n0WiA ?_
               exact AOps.nil ⟨rfl, rfl, rfl⟩⟩,
              trivial⟩) ?_
             refine Walk.casesC [(6, [7]), (7, [9]), (9, [11])] [([false, false, false], (R0 a), (R0 a))] (by rfl) (by kernel_rfl) (rs := [3]) (by rfl) n0WiA (fun base => ⟨
              ⟨rfl, rfl, by
               refine n_fieldAddr rfl fd33_9 ti28 rfl n0WiA rfl n0WiA ?_
               exact AOps.nil ⟨rfl, rfl, rfl⟩⟩,
              trivial⟩) ?_
             refine Walk.casesC [(7, [9]), (9, [11])] (d := .any) [([false, false, false], (R0 a), (R7 a))] (by rfl) (by kernel_rfl) (rs := [54, 49]) (by rfl) n0WiA (fun base => ⟨
              ⟨rfl, rfl, by
               refine n_store ti28 n0WiA rfl n0WiA rfl n0WiA rfl rfl rfl n0WiA ?_
               exact AOps.nil ⟨rfl, rfl, rfl⟩⟩,
              trivial⟩) ?_
             refine Walk.casesC [(7, [9]), (8, [9]), (9, [11]), (7, [8])] [([true, false, false], (R7 a), (R7 a))] (by rfl) (by kernel_rfl) (rs := [3]) (by rfl) n0WiA (fun base => ⟨
              ⟨rfl, rfl, by
               refine n_fieldAddr rfl fd33_17 ti3 rfl n0WiA rfl n0WiA ?_
               exact AOps.nil ⟨rfl, rfl, rfl⟩⟩,
              trivial⟩) ?_
             refine Walk.casesC [(7, [9]), (9, [11])] (d := .any) [([true, false, false], (R7 a), (R8 a))] (by rfl) (by kernel_rfl) (rs := [55, 51]) (by rfl) n0WiA (fun base => ⟨
              ⟨rfl, rfl, by
               refine n_store ti3 n0WiA rfl n0WiA rfl n0WiA rfl rfl rfl n0WiA ?_
               exact AOps.nil ⟨rfl, rfl, rfl⟩⟩,
              trivial⟩) ?_
             refine Walk.casesC [(7, [9]), (9, [11]), (10, [11]), (9, [10])] [([true, true, false], (R8 a), (R8 a))] (by rfl) (by kernel_rfl) (rs := [3]) (by rfl) n0WiA (fun base => ⟨
              ⟨rfl, rfl, by
               refine n_fieldAddr rfl fd33_18 ti31 rfl n0WiA rfl n0WiA ?_
               exact AOps.nil ⟨rfl, rfl, rfl⟩⟩,
              trivial⟩) ?_
             refine Walk.casesC [(7, [9]), (9, [11])] (d := .any) [([true, true, false], (R8 a), (R9 a))] (by rfl) (by kernel_rfl) (rs := [56, 53]) (by rfl) n0WiA (fun base => ⟨
              ⟨rfl, rfl, by
               refine n_store ti31 n0WiA rfl n0WiA rfl n0WiA rfl rfl rfl n0WiA ?_
               exact AOps.nil ⟨rfl, rfl, rfl⟩⟩,
              trivial⟩) ?_
             refine Walk.done ?_
             refine AWP.sr ?_
             refine n_load rfl ti33 n0WiA n0WiA rfl n0WiA ?_
             refine n_store ti33 n0WiA rfl n0WiA rfl n0WiA rfl rfl rfl n0WiA ?_
             refine n_assign rfl n0WiA ?_
             refine AOps.nil ?_
             refine AWP.ret ?_
             refine fin_pure (.cons (rv_cell ti33 n0WiA n0WiA rfl n0WiA) (.cons (rv_tmp n0WiA) .nil)) n0WiA ?_
             rw [hB]
             exact .tup rfl (RenAll.get (.cons (.agg rfl (RenAll.get r2WiA)) (.cons (ren_flat rfl (congrArg vb (by unfold kindW; simp; omega))) .nil)))
           · try simp only [nh] at hc6
             refine AWP.sr ?_
             refine n_ibin rfl n0WiA n0WiA rfl ?_
             refine n_assign rfl n0WiA ?_
             refine AOps.nil ?_
             refine AWP.cond n0WiA (fun hc7 => ?_) (fun hc7 => ?_)
             · try simp only [nh] at hc7
               have hB := bare_13 (w := a) (by omega)
               refine AWP.anyT [5, 7] (fun p => match p with | [false, false] => (R0 a) | [true, false] => (R7 a) | [true, true] => (R8 a) | _ => []) (by kernel_rfl) (by kernel_rfl) rfl rfl ?_
               refine Walk.casesC [(0, [5]), (5, [7])] [([false, false], (R0 a), (R0 a))] (by rfl) (by kernel_rfl) (rs := [2]) (by rfl) n0WiA (fun base => ⟨
                ⟨rfl, rfl, by
                 refine n_fieldAddr rfl fd33_9 ti28 rfl n0WiA rfl n0WiA ?_
                 exact AOps.nil ⟨rfl, rfl, rfl⟩⟩,
                trivial⟩) ?_
               refine Walk.casesC [(1, [5]), (5, [7])] [([false, false], (R0 a), (R0 a))] (by rfl) (by kernel_rfl) (rs := [59]) (by rfl) n0WiA (fun base => ⟨
                ⟨rfl, rfl, by
                 refine n_load rfl ti28 n0WiA n0WiA rfl n0WiA ?_
                 exact AOps.nil ⟨rfl, rfl, rfl⟩⟩,
                trivial⟩) ?_
               refine Walk.casesC [(5, [7]), (2, [7])] [([false, false], (R0 a), (R0 a)), ([true, false], (R7 a), (R7 a))] (by rfl) (by kernel_rfl) (rs := [2]) (by rfl) n0WiA (fun base => ⟨
                ⟨rfl, rfl, by
                 refine n_fieldAddr rfl fd33_17 ti3 rfl n0WiA rfl n0WiA ?_
                 exact AOps.nil ⟨rfl, rfl, rfl⟩⟩,
                ⟨rfl, rfl, by
                 refine n_fieldAddr rfl fd33_17 ti3 rfl n0WiA rfl n0WiA ?_
                 exact AOps.nil ⟨rfl, rfl, rfl⟩⟩,
                trivial⟩) ?_
               refine Walk.casesC [(5, [7]), (3, [7])] [([false, false], (R0 a), (R0 a)), ([true, false], (R7 a), (R7 a))] (by rfl) (by kernel_rfl) (rs := [61]) (by rfl) n0WiA (fun base => ⟨
                ⟨rfl, rfl, by
                 refine n_load rfl ti3 n0WiA n0WiA rfl n0WiA ?_
                 exact AOps.nil ⟨rfl, rfl, rfl⟩⟩,
                ⟨rfl, rfl, by
                 refine n_load rfl ti3 n0WiA n0WiA rfl n0WiA ?_
                 exact AOps.nil ⟨rfl, rfl, rfl⟩⟩,
                trivial⟩) ?_
               refine Walk.casesC [(4, [5]), (5, [7])] [([false, false], (R0 a), (R0 a))] (by rfl) (by kernel_rfl) (rs := [3]) (by rfl) n0WiA (fun base => ⟨
                ⟨rfl, rfl, by
                 refine n_fieldAddr rfl fd33_9 ti28 rfl n0WiA rfl n0WiA ?_
                 exact AOps.nil ⟨rfl, rfl, rfl⟩⟩,
                trivial⟩) ?_
               refine Walk.casesC [(5, [7])] (d := .any) [([false, false], (R0 a), (R7 a))] (by rfl) (by kernel_rfl) (rs := [63, 60]) (by rfl) n0WiA (fun base => ⟨
                ⟨rfl, rfl, by
                 refine n_store ti28 n0WiA rfl n0WiA rfl n0WiA rfl rfl rfl n0WiA ?_
                 exact AOps.nil ⟨rfl, rfl, rfl⟩⟩,
                trivial⟩) ?_
               refine Walk.casesC [(5, [7]), (6, [7]), (5, [6])] [([true, false], (R7 a), (R7 a))] (by rfl) (by kernel_rfl) (rs := [3]) (by rfl) n0WiA (fun base => ⟨
                ⟨rfl, rfl, by
                 refine n_fieldAddr rfl fd33_17 ti3 rfl n0WiA rfl n0WiA ?_
                 exact AOps.nil ⟨rfl, rfl, rfl⟩⟩,
                trivial⟩) ?_
               refine Walk.casesC [(5, [7])] (d := .any) [([true, false], (R7 a), (R8 a))] (by rfl) (by kernel_rfl) (rs := [64, 62]) (by rfl) n0WiA (fun base => ⟨
                ⟨rfl, rfl, by
                 refine n_store ti3 n0WiA rfl n0WiA rfl n0WiA rfl rfl rfl n0WiA ?_
                 exact AOps.nil ⟨rfl, rfl, rfl⟩⟩,
                trivial⟩) ?_
               refine Walk.done ?_
               refine AWP.sr ?_
               refine n_load rfl ti33 n0WiA n0WiA rfl n0WiA ?_
               refine n_store ti33 n0WiA rfl n0WiA rfl n0WiA rfl rfl rfl n0WiA ?_
               refine n_assign rfl n0WiA ?_
               refine AOps.nil ?_
               refine AWP.ret ?_
               refine fin_pure (.cons (rv_cell ti33 n0WiA n0WiA rfl n0WiA) (.cons (rv_tmp n0WiA) .nil)) n0WiA ?_
               rw [hB]
               exact .tup rfl (RenAll.get (.cons (.agg rfl (RenAll.get r2WiA)) (.cons (ren_flat rfl (congrArg vb (by unfold kindW; simp; omega))) .nil)))
             · try simp only [nh] at hc7
               refine AWP.sr ?_
               refine n_ibin rfl n0WiA n0WiA rfl ?_
               refine n_assign rfl n0WiA ?_
               refine AOps.nil ?_
               refine AWP.cond n0WiA (fun hc8 => ?_) (fun hc8 => ?_)
               · try simp only [nh] at hc8
                 have hB := bare_14 (w := a) (by omega)
                 refine AWP.region ?_
                 refine n_fieldAddr rfl fd33_9 ti28 rfl n0WiA rfl n0WiA ?_
                 refine n_load rfl ti28 n0WiA n0WiA rfl n0WiA ?_
                 refine n_fieldAddr rfl fd33_9 ti28 rfl n0WiA rfl n0WiA ?_
                 refine n_store ti28 n0WiA rfl n0WiA rfl n0WiA rfl rfl rfl n0WiA ?_
                 refine AOps.nil ?_
                 refine AWP.sr ?_
                 refine n_load rfl ti33 n0WiA n0WiA rfl n0WiA ?_
                 refine n_store ti33 n0WiA rfl n0WiA rfl n0WiA rfl rfl rfl n0WiA ?_
                 refine n_assign rfl n0WiA ?_
                 refine AOps.nil ?_
                 refine AWP.ret ?_
                 refine fin_pure (.cons (rv_cell ti33 n0WiA n0WiA rfl n0WiA) (.cons (rv_tmp n0WiA) .nil)) n0WiA ?_
                 rw [hB]
                 exact .tup rfl (RenAll.get (.cons (.agg rfl (RenAll.get r2WiA)) (.cons (ren_flat rfl (congrArg vb (by unfold kindW; simp; omega))) .nil)))
               · try simp only [nh] at hc8
                 have hB := bare_x (w := a) (by omega)
                 refine AWP.sr ?_
                 refine n_load rfl ti33 n0WiA n0WiA rfl n0WiA ?_
                 refine n_store ti33 n0WiA rfl n0WiA rfl n0WiA rfl rfl rfl n0WiA ?_
                 refine n_assign rfl n0WiA ?_
                 refine AOps.nil ?_
                 refine AWP.ret ?_
                 refine fin_pure (.cons (rv_cell ti33 n0WiA n0WiA rfl n0WiA) (.cons (rv_tmp n0WiA) .nil)) n0WiA ?_
                 rw [hB]
                 exact .tup rfl (RenAll.get (.cons (.agg rfl (RenAll.get r2WiA)) (.cons (ren_flat rfl (congrArg vb (by unfold kindW; simp; omega))) .nil)))

abbrev B10 (a : Wr) : List Ob := [Ob.box (wz a), Ob.box [vi 0, vi 0, vi 0, vi 0, vi 0, vi 0, vb false, vi 0, vi 0, vi 0, vi 0, .sl (some true) [] .full, .sl (some true) [] .full, vi 0, vi 0, vi 0, .sl (some true) [] .full, vi 0, .sl (some true) [] .full, vi 0, vi 0, .sl (some true) [] .full, vi 0, .sl (some true) [] .full], Ob.box [vi a.kd, vi a.rg, vi 0, vi 0, vi 0, vi 0, vb false, vi 0, vi 0, vi 0, vi 0, .sl (some true) [] .full, .sl (some true) [] .full, vi 0, vi 0, vi 0, .sl (some true) [] .full, vi 0, .sl (some true) [] .full, vi 0, vi 0, .sl (some true) [] .full, vi 0, .sl (some true) [] .full]]
abbrev B11 (a : Wr) : List Ob := [Ob.box (wz a), Ob.box [vi 0, vi 0, vi 0, vi 0, vi 0, vi 0, vb false, vi 0, vi 0, vi 0, vi 0, .sl (some true) [] .full, .sl (some true) [] .full, vi 0, vi 0, vi 0, .sl (some true) [] .full, vi 0, .sl (some true) [] .full, vi 0, vi 0, .sl (some true) [] .full, vi 0, .sl (some true) [] .full], Ob.box [vi a.kd, vi a.rg, vi a.rq, vi 0, vi 0, vi 0, vb false, vi 0, vi 0, vi 0, vi 0, .sl (some true) [] .full, .sl (some true) [] .full, vi 0, vi 0, vi 0, .sl (some true) [] .full, vi 0, .sl (some true) [] .full, vi 0, vi 0, .sl (some true) [] .full, vi 0, .sl (some true) [] .full]]
abbrev B12 (a : Wr) : List Ob := [Ob.box (wz a), Ob.box [vi 0, vi 0, vi 0, vi 0, vi 0, vi 0, vb false, vi 0, vi 0, vi 0, vi 0, .sl (some true) [] .full, .sl (some true) [] .full, vi 0, vi 0, vi 0, .sl (some true) [] .full, vi 0, .sl (some true) [] .full, vi 0, vi 0, .sl (some true) [] .full, vi 0, .sl (some true) [] .full], Ob.box [vi a.kd, vi a.rg, vi a.rq, vi a.ep, vi 0, vi 0, vb false, vi 0, vi 0, vi 0, vi 0, .sl (some true) [] .full, .sl (some true) [] .full, vi 0, vi 0, vi 0, .sl (some true) [] .full, vi 0, .sl (some true) [] .full, vi 0, vi 0, .sl (some true) [] .full, vi 0, .sl (some true) [] .full]]
abbrev B13 (a : Wr) : List Ob := [Ob.box (wz a), Ob.box [vi 0, vi 0, vi 0, vi 0, vi 0, vi 0, vb false, vi 0, vi 0, vi 0, vi 0, .sl (some true) [] .full, .sl (some true) [] .full, vi 0, vi 0, vi 0, .sl (some true) [] .full, vi 0, .sl (some true) [] .full, vi 0, vi 0, .sl (some true) [] .full, vi 0, .sl (some true) [] .full], Ob.box [vi a.kd, vi a.rg, vi a.rq, vi a.ep, vi a.to, vi 0, vb false, vi 0, vi 0, vi 0, vi 0, .sl (some true) [] .full, .sl (some true) [] .full, vi 0, vi 0, vi 0, .sl (some true) [] .full, vi 0, .sl (some true) [] .full, vi 0, vi 0, .sl (some true) [] .full, vi 0, .sl (some true) [] .full]]
abbrev B14 (a : Wr) : List Ob := [Ob.box (wz a), Ob.box [vi 0, vi 0, vi 0, vi 0, vi 0, vi 0, vb false, vi 0, vi 0, vi 0, vi 0, .sl (some true) [] .full, .sl (some true) [] .full, vi 0, vi 0, vi 0, .sl (some true) [] .full, vi 0, .sl (some true) [] .full, vi 0, vi 0, .sl (some true) [] .full, vi 0, .sl (some true) [] .full], Ob.box [vi a.kd, vi a.rg, vi a.rq, vi a.ep, vi 0, vi 0, vb a.fl, vi 0, vi 0, vi 0, vi 0, .sl (some true) [] .full, .sl (some true) [] .full, vi 0, vi 0, vi 0, .sl (some true) [] .full, vi 0, .sl (some true) [] .full, vi 0, vi 0, .sl (some true) [] .full, vi 0, .sl (some true) [] .full]]
abbrev B15 (a : Wr) : List Ob := [Ob.box (wz a), Ob.box [vi 0, vi 0, vi 0, vi 0, vi 0, vi 0, vb false, vi 0, vi 0, vi 0, vi 0, .sl (some true) [] .full, .sl (some true) [] .full, vi 0, vi 0, vi 0, .sl (some true) [] .full, vi 0, .sl (some true) [] .full, vi 0, vi 0, .sl (some true) [] .full, vi 0, .sl (some true) [] .full], Ob.box [vi a.kd, vi a.rg, vi a.rq, vi 0, vi 0, vi a.dd, vb false, vi 0, vi 0, vi 0, vi 0, .sl (some true) [] .full, .sl (some true) [] .full, vi 0, vi 0, vi 0, .sl (some true) [] .full, vi 0, .sl (some true) [] .full, vi 0, vi 0, .sl (some true) [] .full, vi 0, .sl (some true) [] .full]]
abbrev B16 (a : Wr) : List Ob := [Ob.box (wz a), Ob.box [vi 0, vi 0, vi 0, vi 0, vi 0, vi 0, vb false, vi 0, vi 0, vi 0, vi 0, .sl (some true) [] .full, .sl (some true) [] .full, vi 0, vi 0, vi 0, .sl (some true) [] .full, vi 0, .sl (some true) [] .full, vi 0, vi 0, .sl (some true) [] .full, vi 0, .sl (some true) [] .full], Ob.box [vi a.kd, vi a.rg, vi a.rq, vi a.ep, vi 0, vi a.dd, vb false, vi 0, vi 0, vi 0, vi 0, .sl (some true) [] .full, .sl (some true) [] .full, vi 0, vi 0, vi 0, .sl (some true) [] .full, vi 0, .sl (some true) [] .full, vi 0, vi 0, .sl (some true) [] .full, vi 0, .sl (some true) [] .full]]
abbrev B17 (a : Wr) : List Ob := [Ob.box (wz a), Ob.box [vi 0, vi 0, vi 0, vi 0, vi 0, vi 0, vb false, vi 0, vi 0, vi 0, vi 0, .sl (some true) [] .full, .sl (some true) [] .full, vi 0, vi 0, vi 0, .sl (some true) [] .full, vi 0, .sl (some true) [] .full, vi 0, vi 0, .sl (some true) [] .full, vi 0, .sl (some true) [] .full], Ob.box [vi a.kd, vi a.rg, vi a.rq, vi a.ep, vi 0, vi a.dd, vb a.fl, vi 0, vi 0, vi 0, vi 0, .sl (some true) [] .full, .sl (some true) [] .full, vi 0, vi 0, vi 0, .sl (some true) [] .full, vi 0, .sl (some true) [] .full, vi 0, vi 0, .sl (some true) [] .full, vi 0, .sl (some true) [] .full]]
abbrev B18 (a : Wr) : List Ob := [Ob.box (wz a), Ob.box [vi 0, vi 0, vi 0, vi 0, vi 0, vi 0, vb false, vi 0, vi 0, vi 0, vi 0, .sl (some true) [] .full, .sl (some true) [] .full, vi 0, vi 0, vi 0, .sl (some true) [] .full, vi 0, .sl (some true) [] .full, vi 0, vi 0, .sl (some true) [] .full, vi 0, .sl (some true) [] .full], Ob.box [vi a.kd, vi a.rg, vi a.rq, vi a.ep, vi 0, vi a.dd, vb a.fl, vi a.er, vi 0, vi 0, vi 0, .sl (some true) [] .full, .sl (some true) [] .full, vi 0, vi 0, vi 0, .sl (some true) [] .full, vi 0, .sl (some true) [] .full, vi 0, vi 0, .sl (some true) [] .full, vi 0, .sl (some true) [] .full]]
abbrev B19 (a : Wr) : List Ob := [Ob.box (wz a), Ob.box [vi 0, vi 0, vi 0, vi 0, vi 0, vi 0, vb false, vi 0, vi 0, vi 0, vi 0, .sl (some true) [] .full, .sl (some true) [] .full, vi 0, vi 0, vi 0, .sl (some true) [] .full, vi 0, .sl (some true) [] .full, vi 0, vi 0, .sl (some true) [] .full, vi 0, .sl (some true) [] .full], Ob.box [vi a.kd, vi a.rg, vi a.rq, vi 0, vi 0, vi 0, vb false, vi 0, vi a.tx.e, vi a.tx.i, vi a.tx.b, .sl none (a.tx.r.map q2) .ro, .sl none (a.tx.v.map q1) .ro, vi 0, vi 0, vi 0, .sl (some true) [] .full, vi 0, .sl (some true) [] .full, vi 0, vi 0, .sl (some true) [] .full, vi 0, .sl (some true) [] .full]]
abbrev B20 (a : Wr) : List Ob := [Ob.box (wz a), Ob.box [vi 0, vi 0, vi 0, vi 0, vi 0, vi 0, vb false, vi 0, vi 0, vi 0, vi 0, .sl (some true) [] .full, .sl (some true) [] .full, vi 0, vi 0, vi 0, .sl (some true) [] .full, vi 0, .sl (some true) [] .full, vi 0, vi 0, .sl (some true) [] .full, vi 0, .sl (some true) [] .full], Ob.box [vi a.kd, vi a.rg, vi a.rq, vi 0, vi 0, vi 0, vb false, vi 0, vi 0, vi 0, vi 0, .sl (some true) [] .full, .sl (some true) [] .full, vi a.ke, vi a.ki, vi 0, .sl (some true) [] .full, vi 0, .sl (some true) [] .full, vi 0, vi 0, .sl (some true) [] .full, vi 0, .sl (some true) [] .full]]
abbrev B21 (a : Wr) : List Ob := [Ob.box (wz a), Ob.box [vi 0, vi 0, vi 0, vi 0, vi 0, vi 0, vb false, vi 0, vi 0, vi 0, vi 0, .sl (some true) [] .full, .sl (some true) [] .full, vi 0, vi 0, vi 0, .sl (some true) [] .full, vi 0, .sl (some true) [] .full, vi 0, vi 0, .sl (some true) [] .full, vi 0, .sl (some true) [] .full], Ob.box [vi a.kd, vi a.rg, vi a.rq, vi 0, vi 0, vi a.dd, vb false, vi 0, vi 0, vi 0, vi 0, .sl (some true) [] .full, .sl (some true) [] .full, vi a.ke, vi a.ki, vi 0, .sl (some true) [] .full, vi 0, .sl (some true) [] .full, vi 0, vi 0, .sl (some true) [] .full, vi 0, .sl (some true) [] .full]]
abbrev B22 (a : Wr) : List Ob := [Ob.box (wz a), Ob.box [vi 0, vi 0, vi 0, vi 0, vi 0, vi 0, vb false, vi 0, vi 0, vi 0, vi 0, .sl (some true) [] .full, .sl (some true) [] .full, vi 0, vi 0, vi 0, .sl (some true) [] .full, vi 0, .sl (some true) [] .full, vi 0, vi 0, .sl (some true) [] .full, vi 0, .sl (some true) [] .full], Ob.box [vi a.kd, vi a.rg, vi a.rq, vi a.ep, vi 0, vi a.dd, vb false, vi 0, vi 0, vi 0, vi 0, .sl (some true) [] .full, .sl (some true) [] .full, vi a.ke, vi a.ki, vi 0, .sl (some true) [] .full, vi 0, .sl (some true) [] .full, vi 0, vi 0, .sl (some true) [] .full, vi 0, .sl (some true) [] .full]]
abbrev B23 (a : Wr) : List Ob := [Ob.box (wz a), Ob.box [vi 0, vi 0, vi 0, vi 0, vi 0, vi 0, vb false, vi 0, vi 0, vi 0, vi 0, .sl (some true) [] .full, .sl (some true) [] .full, vi 0, vi 0, vi 0, .sl (some true) [] .full, vi 0, .sl (some true) [] .full, vi 0, vi 0, .sl (some true) [] .full, vi 0, .sl (some true) [] .full], Ob.box [vi a.kd, vi a.rg, vi a.rq, vi a.ep, vi 0, vi a.dd, vb false, vi 0, vi 0, vi 0, vi 0, .sl (some true) [] .full, .sl (some true) [] .full, vi a.ke, vi a.ki, vi a.ln, .sl (some true) [] .full, vi 0, .sl (some true) [] .full, vi 0, vi 0, .sl (some true) [] .full, vi 0, .sl (some true) [] .full]]
abbrev B24 (a : Wr) : List Ob := [Ob.box (wz a), Ob.box [vi 0, vi 0, vi 0, vi 0, vi 0, vi 0, vb false, vi 0, vi 0, vi 0, vi 0, .sl (some true) [] .full, .sl (some true) [] .full, vi 0, vi 0, vi 0, .sl (some true) [] .full, vi 0, .sl (some true) [] .full, vi 0, vi 0, .sl (some true) [] .full, vi 0, .sl (some true) [] .full], Ob.box [vi a.kd, vi a.rg, vi a.rq, vi a.ep, vi 0, vi a.dd, vb false, vi 0, vi 0, vi 0, vi 0, .sl (some true) [] .full, .sl (some true) [] .full, vi a.ke, vi a.ki, vi a.ln, .sl none (a.vc.map q1) .ro, vi 0, .sl (some true) [] .full, vi 0, vi 0, .sl (some true) [] .full, vi 0, .sl (some true) [] .full]]
abbrev B25 (a : Wr) : List Ob := [Ob.box (wz a), Ob.box [vi 0, vi 0, vi 0, vi 0, vi 0, vi 0, vb false, vi 0, vi 0, vi 0, vi 0, .sl (some true) [] .full, .sl (some true) [] .full, vi 0, vi 0, vi 0, .sl (some true) [] .full, vi 0, .sl (some true) [] .full, vi 0, vi 0, .sl (some true) [] .full, vi 0, .sl (some true) [] .full], Ob.box [vi a.kd, vi a.rg, vi a.rq, vi a.ep, vi 0, vi a.dd, vb false, vi a.er, vi 0, vi 0, vi 0, .sl (some true) [] .full, .sl (some true) [] .full, vi a.ke, vi a.ki, vi a.ln, .sl none (a.vc.map q1) .ro, vi 0, .sl (some true) [] .full, vi 0, vi 0, .sl (some true) [] .full, vi 0, .sl (some true) [] .full]]
set_option maxHeartbeats 4000000 in
theorem l_bare (a : Wr) : Does Tryz.prog 38 [.agg (wz a)] [] (.tup [.agg (wz (bareW a)), vb (kindW a)]) [] := by
 refine Does.of_body (rvs := [.cell 2 33, .tmp 3]) Tryz.func38 rfl rfl rfl rfl ?_
 refine AWP.sr ?_
 refine n_box rfl n0WiA rfl rfl n0WiA n0WiA ?_
 refine n_alloc rfl zi33 rfl n0WiA n0WiA ?_
 refine n_assign rfl n0WiA ?_
 refine AOps.nil ?_
 refine AWP.sr ?_
 refine n_fieldAddr rfl fd33_0 ti3 rfl n0WiA rfl n0WiA ?_
 refine n_load rfl ti3 n0WiA n0WiA rfl n0WiA ?_
 refine n_fieldAddr rfl fd33_1 ti3 rfl n0WiA rfl n0WiA ?_
 refine n_load rfl ti3 n0WiA n0WiA rfl n0WiA ?_
 refine n_build rfl si33 e1WiA e1WiA rfl ?_
 refine n_alloc rfl zi33 rfl n0WiA n0WiA ?_
 refine n_store ti33 n0WiA rfl n0WiA rfl n0WiA rfl rfl rfl n0WiA ?_
 refine AOps.nil ?_
 refine AWP.seq ?_
 refine AWP.sr ?_
 refine n_fieldAddr rfl fd33_0 ti3 rfl n0WiA rfl n0WiA ?_
 refine n_load rfl ti3 n0WiA n0WiA rfl n0WiA ?_
 refine AOps.nil ?_
 refine AWP.block ?_
 refine AWP.seq ?_
 refine AWP.sr ?_
 refine n_ibin rfl n0WiA n0WiA rfl ?_
 refine n_assign rfl n0WiA ?_
 refine AOps.nil ?_
 refine AWP.cond n0WiA (fun hc1 => ?_) (fun hc1 => ?_)
 · try simp only [nh] at hc1
   have hB := bare_0 (w := a) (by omega)
   refine AWP.skip ?_
   refine AWP.condT n0WiA (by simp [hc1]) ?_
   refine AWP.region ?_
   refine n_fieldAddr rfl fd33_2 ti2 rfl n0WiA rfl n0WiA ?_
   refine n_load rfl ti2 n0WiA n0WiA rfl n0WiA ?_
   refine n_fieldAddr rfl fd33_2 ti2 rfl n0WiA rfl n0WiA ?_
   refine n_store ti2 n0WiA rfl n0WiA rfl n0WiA rfl rfl rfl n0WiA ?_
   refine AOps.nil ?_
   refine AWP.sr ?_
   refine n_load rfl ti33 n0WiA n0WiA rfl n0WiA ?_
   refine n_store ti33 n0WiA rfl n0WiA rfl n0WiA rfl rfl rfl n0WiA ?_
   refine n_assign rfl n0WiA ?_
   refine AOps.nil ?_
   refine AWP.ret ?_
   refine fin_pure (.cons (rv_cell ti33 n0WiA n0WiA rfl n0WiA) (.cons (rv_tmp n0WiA) .nil)) n0WiA ?_
   first | (rw [hB]; exact .tup rfl (RenAll.get (.cons (.agg rfl (RenAll.get r2WiA)) (.cons (ren_flat rfl (congrArg vb (by unfold kindW; simp; omega))) .nil)))) | exact .lf (.tup (lf_cons (wz_lf _) (lf_cons (.val _) lf_nil)))
 · try simp only [nh] at hc1
   refine AWP.region ?_
   refine n_ibin rfl n0WiA n0WiA rfl ?_
   refine n_assign rfl n0WiA ?_
   refine AOps.nil ?_
   refine AWP.cond n0WiA (fun hc3 => ?_) (fun hc3 => ?_)
   · try simp only [nh] at hc3
     have hB := bare_0 (w := a) (by omega)
     refine AWP.region ?_
     refine n_fieldAddr rfl fd33_2 ti2 rfl n0WiA rfl n0WiA ?_
     refine n_load rfl ti2 n0WiA n0WiA rfl n0WiA ?_
     refine n_fieldAddr rfl fd33_2 ti2 rfl n0WiA rfl n0WiA ?_
     refine n_store ti2 n0WiA rfl n0WiA rfl n0WiA rfl rfl rfl n0WiA ?_
     refine AOps.nil ?_
     refine AWP.sr ?_
     refine n_load rfl ti33 n0WiA n0WiA rfl n0WiA ?_
     refine n_store ti33 n0WiA rfl n0WiA rfl n0WiA rfl rfl rfl n0WiA ?_
     refine n_assign rfl n0WiA ?_
     refine AOps.nil ?_
     refine AWP.ret ?_
     refine fin_pure (.cons (rv_cell ti33 n0WiA n0WiA rfl n0WiA) (.cons (rv_tmp n0WiA) .nil)) n0WiA ?_
     first | (rw [hB]; exact .tup rfl (RenAll.get (.cons (.agg rfl (RenAll.get r2WiA)) (.cons (ren_flat rfl (congrArg vb (by unfold kindW; simp; omega))) .nil)))) | exact .lf (.tup (lf_cons (wz_lf _) (lf_cons (.val _) lf_nil)))
   · try simp only [nh] at hc3
     refine AWP.seq ?_
     refine AWP.sr ?_
     refine n_ibin rfl n0WiA n0WiA rfl ?_
     refine n_assign rfl n0WiA ?_
     refine AOps.nil ?_
     refine AWP.cond n0WiA (fun hc4 => ?_) (fun hc4 => ?_)
     · try simp only [nh] at hc4
       have hB := bare_1 (w := a) (by omega)
       refine AWP.skip ?_
       refine AWP.condT n0WiA (by simp [hc4]) ?_
       refine AWP.anyT [5, 7] (fun p => match p with | [false, false] => (B10 a) | [true, false] => (B11 a) | [true, true] => (B12 a) | _ => []) (by kernel_rfl) (by kernel_rfl) rfl rfl ?_
       refine Walk.casesC [(0, [5]), (5, [7])] [([false, false], (B10 a), (B10 a))] (by rfl) (by kernel_rfl) (rs := [1]) (by rfl) n0WiA (fun base => ⟨
        ⟨rfl, rfl, by
         refine n_fieldAddr rfl fd33_2 ti2 rfl n0WiA rfl n0WiA ?_
         exact AOps.nil ⟨rfl, rfl, rfl⟩⟩,
        trivial⟩) ?_
       refine Walk.casesC [(1, [5]), (5, [7])] [([false, false], (B10 a), (B10 a))] (by rfl) (by kernel_rfl) (rs := [27]) (by rfl) n0WiA (fun base => ⟨
        ⟨rfl, rfl, by
         refine n_load rfl ti2 n0WiA n0WiA rfl n0WiA ?_
         exact AOps.nil ⟨rfl, rfl, rfl⟩⟩,
        trivial⟩) ?_
       refine Walk.casesC [(5, [7]), (2, [7])] [([false, false], (B10 a), (B10 a)), ([true, false], (B11 a), (B11 a))] (by rfl) (by kernel_rfl) (rs := [1]) (by rfl) n0WiA (fun base => ⟨
        ⟨rfl, rfl, by
         refine n_fieldAddr rfl fd33_3 ti2 rfl n0WiA rfl n0WiA ?_
         exact AOps.nil ⟨rfl, rfl, rfl⟩⟩,
        ⟨rfl, rfl, by
         refine n_fieldAddr rfl fd33_3 ti2 rfl n0WiA rfl n0WiA ?_
         exact AOps.nil ⟨rfl, rfl, rfl⟩⟩,
        trivial⟩) ?_
       refine Walk.casesC [(5, [7]), (3, [7])] [([false, false], (B10 a), (B10 a)), ([true, false], (B11 a), (B11 a))] (by rfl) (by kernel_rfl) (rs := [29]) (by rfl) n0WiA (fun base => ⟨
        ⟨rfl, rfl, by
         refine n_load rfl ti2 n0WiA n0WiA rfl n0WiA ?_
         exact AOps.nil ⟨rfl, rfl, rfl⟩⟩,
        ⟨rfl, rfl, by
         refine n_load rfl ti2 n0WiA n0WiA rfl n0WiA ?_
         exact AOps.nil ⟨rfl, rfl, rfl⟩⟩,
        trivial⟩) ?_
       refine Walk.casesC [(4, [5]), (5, [7])] [([false, false], (B10 a), (B10 a))] (by rfl) (by kernel_rfl) (rs := [4]) (by rfl) n0WiA (fun base => ⟨
        ⟨rfl, rfl, by
         refine n_fieldAddr rfl fd33_2 ti2 rfl n0WiA rfl n0WiA ?_
         exact AOps.nil ⟨rfl, rfl, rfl⟩⟩,
        trivial⟩) ?_
       refine Walk.casesC [(5, [7])] (d := .any) [([false, false], (B10 a), (B11 a))] (by rfl) (by kernel_rfl) (rs := [31, 28]) (by rfl) n0WiA (fun base => ⟨
        ⟨rfl, rfl, by
         refine n_store ti2 n0WiA rfl n0WiA rfl n0WiA rfl rfl rfl n0WiA ?_
         exact AOps.nil ⟨rfl, rfl, rfl⟩⟩,
        trivial⟩) ?_
       refine Walk.casesC [(5, [7]), (6, [7]), (5, [6])] [([true, false], (B11 a), (B11 a))] (by rfl) (by kernel_rfl) (rs := [4]) (by rfl) n0WiA (fun base => ⟨
        ⟨rfl, rfl, by
         refine n_fieldAddr rfl fd33_3 ti2 rfl n0WiA rfl n0WiA ?_
         exact AOps.nil ⟨rfl, rfl, rfl⟩⟩,
        trivial⟩) ?_
       refine Walk.casesC [(5, [7])] (d := .any) [([true, false], (B11 a), (B12 a))] (by rfl) (by kernel_rfl) (rs := [32, 30]) (by rfl) n0WiA (fun base => ⟨
        ⟨rfl, rfl, by
         refine n_store ti2 n0WiA rfl n0WiA rfl n0WiA rfl rfl rfl n0WiA ?_
         exact AOps.nil ⟨rfl, rfl, rfl⟩⟩,
        trivial⟩) ?_
       refine Walk.done ?_
       refine AWP.sr ?_
       refine n_load rfl ti33 n0WiA n0WiA rfl n0WiA ?_
       refine n_store ti33 n0WiA rfl n0WiA rfl n0WiA rfl rfl rfl n0WiA ?_
       refine n_assign rfl n0WiA ?_
       refine AOps.nil ?_
       refine AWP.ret ?_
       refine fin_pure (.cons (rv_cell ti33 n0WiA n0WiA rfl n0WiA) (.cons (rv_tmp n0WiA) .nil)) n0WiA ?_
       first | (rw [hB]; exact .tup rfl (RenAll.get (.cons (.agg rfl (RenAll.get r2WiA)) (.cons (ren_flat rfl (congrArg vb (by unfold kindW; simp; omega))) .nil)))) | exact .lf (.tup (lf_cons (wz_lf _) (lf_cons (.val _) lf_nil)))
     · try simp only [nh] at hc4
       refine AWP.sr ?_
       refine n_ibin rfl n0WiA n0WiA rfl ?_
       refine n_assign rfl n0WiA ?_
       refine AOps.nil ?_
       refine AWP.cond n0WiA (fun hc6 => ?_) (fun hc6 => ?_)
       · try simp only [nh] at hc6
         have hB := bare_1 (w := a) (by omega)
         refine AWP.skip ?_
         refine AWP.condT n0WiA (by simp [hc6]) ?_
         refine AWP.anyT [5, 7] (fun p => match p with | [false, false] => (B10 a) | [true, false] => (B11 a) | [true, true] => (B12 a) | _ => []) (by kernel_rfl) (by kernel_rfl) rfl rfl ?_
         refine Walk.casesC [(0, [5]), (5, [7])] [([false, false], (B10 a), (B10 a))] (by rfl) (by kernel_rfl) (rs := [1]) (by rfl) n0WiA (fun base => ⟨
          ⟨rfl, rfl, by
           refine n_fieldAddr rfl fd33_2 ti2 rfl n0WiA rfl n0WiA ?_
           exact AOps.nil ⟨rfl, rfl, rfl⟩⟩,
          trivial⟩) ?_
         refine Walk.casesC [(1, [5]), (5, [7])] [([false, false], (B10 a), (B10 a))] (by rfl) (by kernel_rfl) (rs := [27]) (by rfl) n0WiA (fun base => ⟨
          ⟨rfl, rfl, by
           refine n_load rfl ti2 n0WiA n0WiA rfl n0WiA ?_
           exact AOps.nil ⟨rfl, rfl, rfl⟩⟩,
          trivial⟩) ?_
         refine Walk.casesC [(5, [7]), (2, [7])] [([false, false], (B10 a), (B10 a)), ([true, false], (B11 a), (B11 a))] (by rfl) (by kernel_rfl) (rs := [1]) (by rfl) n0WiA (fun base => ⟨
          ⟨rfl, rfl, by
           refine n_fieldAddr rfl fd33_3 ti2 rfl n0WiA rfl n0WiA ?_
           exact AOps.nil ⟨rfl, rfl, rfl⟩⟩,
          ⟨rfl, rfl, by
           refine n_fieldAddr rfl fd33_3 ti2 rfl n0WiA rfl n0WiA ?_
           exact AOps.nil ⟨rfl, rfl, rfl⟩⟩,
          trivial⟩) ?_
         refine Walk.casesC [(5, [7]), (3, [7])] [([false, false], (B10 a), (B10 a)), ([true, false], (B11 a), (B11 a))] (by rfl) (by kernel_rfl) (rs := [29]) (by rfl) n0WiA (fun base => ⟨
          ⟨rfl, rfl, by
           refine n_load rfl ti2 n0WiA n0WiA rfl n0WiA ?_
           exact AOps.nil ⟨rfl, rfl, rfl⟩⟩,
          ⟨rfl, rfl, by
           refine n_load rfl ti2 n0WiA n0WiA rfl n0WiA ?_
           exact AOps.nil ⟨rfl, rfl, rfl⟩⟩,
          trivial⟩) ?_
         refine Walk.casesC [(4, [5]), (5, [7])] [([false, false], (B10 a), (B10 a))] (by rfl) (by kernel_rfl) (rs := [4]) (by rfl) n0WiA (fun base => ⟨
          ⟨rfl, rfl, by
           refine n_fieldAddr rfl fd33_2 ti2 rfl n0WiA rfl n0WiA ?_
           exact AOps.nil ⟨rfl, rfl, rfl⟩⟩,
          trivial⟩) ?_
         refine Walk.casesC [(5, [7])] (d := .any) [([false, false], (B10 a), (B11 a))] (by rfl) (by kernel_rfl) (rs := [31, 28]) (by rfl) n0WiA (fun base => ⟨
          ⟨rfl, rfl, by
           refine n_store ti2 n0WiA rfl n0WiA rfl n0WiA rfl rfl rfl n0WiA ?_
           exact AOps.nil ⟨rfl, rfl, rfl⟩⟩,
          trivial⟩) ?_
         refine Walk.casesC [(5, [7]), (6, [7]), (5, [6])] [([true, false], (B11 a), (B11 a))] (by rfl) (by kernel_rfl) (rs := [4]) (by rfl) n0WiA (fun base => ⟨
          ⟨rfl, rfl, by
           refine n_fieldAddr rfl fd33_3 ti2 rfl n0WiA rfl n0WiA ?_
           exact AOps.nil ⟨rfl, rfl, rfl⟩⟩,
          trivial⟩) ?_
         refine Walk.casesC [(5, [7])] (d := .any) [([true, false], (B11 a), (B12 a))] (by rfl) (by kernel_rfl) (rs := [32, 30]) (by rfl) n0WiA (fun base => ⟨
          ⟨rfl, rfl, by
           refine n_store ti2 n0WiA rfl n0WiA rfl n0WiA rfl rfl rfl n0WiA ?_
           exact AOps.nil ⟨rfl, rfl, rfl⟩⟩,
          trivial⟩) ?_
         refine Walk.done ?_
         refine AWP.sr ?_
         refine n_load rfl ti33 n0WiA n0WiA rfl n0WiA ?_
         refine n_store ti33 n0WiA rfl n0WiA rfl n0WiA rfl rfl rfl n0WiA ?_
         refine n_assign rfl n0WiA ?_
         refine AOps.nil ?_
         refine AWP.ret ?_
         refine fin_pure (.cons (rv_cell ti33 n0WiA n0WiA rfl n0WiA) (.cons (rv_tmp n0WiA) .nil)) n0WiA ?_
         first | (rw [hB]; exact .tup rfl (RenAll.get (.cons (.agg rfl (RenAll.get r2WiA)) (.cons (ren_flat rfl (congrArg vb (by unfold kindW; simp; omega))) .nil)))) | exact .lf (.tup (lf_cons (wz_lf _) (lf_cons (.val _) lf_nil)))
       · try simp only [nh] at hc6
         refine AWP.region ?_
         refine n_ibin rfl n0WiA n0WiA rfl ?_
         refine n_assign rfl n0WiA ?_
         refine AOps.nil ?_
         refine AWP.cond n0WiA (fun hc8 => ?_) (fun hc8 => ?_)
         · try simp only [nh] at hc8
           have hB := bare_1 (w := a) (by omega)
           refine AWP.anyT [5, 7] (fun p => match p with | [false, false] => (B10 a) | [true, false] => (B11 a) | [true, true] => (B12 a) | _ => []) (by kernel_rfl) (by kernel_rfl) rfl rfl ?_
           refine Walk.casesC [(0, [5]), (5, [7])] [([false, false], (B10 a), (B10 a))] (by rfl) (by kernel_rfl) (rs := [1]) (by rfl) n0WiA (fun base => ⟨
            ⟨rfl, rfl, by
             refine n_fieldAddr rfl fd33_2 ti2 rfl n0WiA rfl n0WiA ?_
             exact AOps.nil ⟨rfl, rfl, rfl⟩⟩,
            trivial⟩) ?_
           refine Walk.casesC [(1, [5]), (5, [7])] [([false, false], (B10 a), (B10 a))] (by rfl) (by kernel_rfl) (rs := [27]) (by rfl) n0WiA (fun base => ⟨
            ⟨rfl, rfl, by
             refine n_load rfl ti2 n0WiA n0WiA rfl n0WiA ?_
             exact AOps.nil ⟨rfl, rfl, rfl⟩⟩,
            trivial⟩) ?_
           refine Walk.casesC [(5, [7]), (2, [7])] [([false, false], (B10 a), (B10 a)), ([true, false], (B11 a), (B11 a))] (by rfl) (by kernel_rfl) (rs := [1]) (by rfl) n0WiA (fun base => ⟨
            ⟨rfl, rfl, by
             refine n_fieldAddr rfl fd33_3 ti2 rfl n0WiA rfl n0WiA ?_
             exact AOps.nil ⟨rfl, rfl, rfl⟩⟩,
            ⟨rfl, rfl, by
             refine n_fieldAddr rfl fd33_3 ti2 rfl n0WiA rfl n0WiA ?_
             exact AOps.nil ⟨rfl, rfl, rfl⟩⟩,
            trivial⟩) ?_
           refine Walk.casesC [(5, [7]), (3, [7])] [([false, false], (B10 a), (B10 a)), ([true, false], (B11 a), (B11 a))] (by rfl) (by kernel_rfl) (rs := [29]) (by rfl) n0WiA (fun base => ⟨
            ⟨rfl, rfl, by
             refine n_load rfl ti2 n0WiA n0WiA rfl n0WiA ?_
             exact AOps.nil ⟨rfl, rfl, rfl⟩⟩,
            ⟨rfl, rfl, by
             refine n_load rfl ti2 n0WiA n0WiA rfl n0WiA ?_
             exact AOps.nil ⟨rfl, rfl, rfl⟩⟩,
            trivial⟩) ?_
           refine Walk.casesC [(4, [5]), (5, [7])] [([false, false], (B10 a), (B10 a))] (by rfl) (by kernel_rfl) (rs := [4]) (by rfl) n0WiA (fun base => ⟨
            ⟨rfl, rfl, by
             refine n_fieldAddr rfl fd33_2 ti2 rfl n0WiA rfl n0WiA ?_
             exact AOps.nil ⟨rfl, rfl, rfl⟩⟩,
            trivial⟩) ?_
           refine Walk.casesC [(5, [7])] (d := .any) [([false, false], (B10 a), (B11 a))] (by rfl) (by kernel_rfl) (rs := [31, 28]) (by rfl) n0WiA (fun base => ⟨
            ⟨rfl, rfl, by
             refine n_store ti2 n0WiA rfl n0WiA rfl n0WiA rfl rfl rfl n0WiA ?_
             exact AOps.nil ⟨rfl, rfl, rfl⟩⟩,
            trivial⟩) ?_
           refine Walk.casesC [(5, [7]), (6, [7]), (5, [6])] [([true, false], (B11 a), (B11 a))] (by rfl) (by kernel_rfl) (rs := [4]) (by rfl) n0WiA (fun base => ⟨
            ⟨rfl, rfl, by
             refine n_fieldAddr rfl fd33_3 ti2 rfl n0WiA rfl n0WiA ?_
             exact AOps.nil ⟨rfl, rfl, rfl⟩⟩,
            trivial⟩) ?_
           refine Walk.casesC [(5, [7])] (d := .any) [([true, false], (B11 a), (B12 a))] (by rfl) (by kernel_rfl) (rs := [32, 30]) (by rfl) n0WiA (fun base => ⟨
            ⟨rfl, rfl, by
             refine n_store ti2 n0WiA rfl n0WiA rfl n0WiA rfl rfl rfl n0WiA ?_
             exact AOps.nil ⟨rfl, rfl, rfl⟩⟩,
            trivial⟩) ?_
           refine Walk.done ?_
           refine AWP.sr ?_
           refine n_load rfl ti33 n0WiA n0WiA rfl n0WiA ?_
           refine n_store ti33 n0WiA rfl n0WiA rfl n0WiA rfl rfl rfl n0WiA ?_
           refine n_assign rfl n0WiA ?_
           refine AOps.nil ?_
           refine AWP.ret ?_
           refine fin_pure (.cons (rv_cell ti33 n0WiA n0WiA rfl n0WiA) (.cons (rv_tmp n0WiA) .nil)) n0WiA ?_
           first | (rw [hB]; exact .tup rfl (RenAll.get (.cons (.agg rfl (RenAll.get r2WiA)) (.cons (ren_flat rfl (congrArg vb (by unfold kindW; simp; omega))) .nil)))) | exact .lf (.tup (lf_cons (wz_lf _) (lf_cons (.val _) lf_nil)))
         · try simp only [nh] at hc8
           refine AWP.sr ?_
           refine n_ibin rfl n0WiA n0WiA rfl ?_
           refine n_assign rfl n0WiA ?_
           refine AOps.nil ?_
           refine AWP.cond n0WiA (fun hc9 => ?_) (fun hc9 => ?_)
           · try simp only [nh] at hc9
             have hB := bare_2 (w := a) (by omega)
             refine AWP.anyT [7, 9, 11] (fun p => match p with | [false, false, false] => (B10 a) | [true, false, false] => (B11 a) | [true, true, false] => (B12 a) | [true, true, true] => (B13 a) | _ => []) (by kernel_rfl) (by kernel_rfl) rfl rfl ?_
             refine Walk.casesC [(0, [7]), (7, [9]), (9, [11])] [([false, false, false], (B10 a), (B10 a))] (by rfl) (by kernel_rfl) (rs := [1]) (by rfl) n0WiA (fun base => ⟨
              ⟨rfl, rfl, by
               refine n_fieldAddr rfl fd33_2 ti2 rfl n0WiA rfl n0WiA ?_
               exact AOps.nil ⟨rfl, rfl, rfl⟩⟩,
              trivial⟩) ?_
             refine Walk.casesC [(1, [7]), (7, [9]), (9, [11])] [([false, false, false], (B10 a), (B10 a))] (by rfl) (by kernel_rfl) (rs := [35]) (by rfl) n0WiA (fun base => ⟨
              ⟨rfl, rfl, by
               refine n_load rfl ti2 n0WiA n0WiA rfl n0WiA ?_
               exact AOps.nil ⟨rfl, rfl, rfl⟩⟩,
              trivial⟩) ?_
             refine Walk.casesC [(7, [9]), (2, [9]), (9, [11])] [([false, false, false], (B10 a), (B10 a)), ([true, false, false], (B11 a), (B11 a))] (by rfl) (by kernel_rfl) (rs := [1]) (by rfl) n0WiA (fun base => ⟨
              ⟨rfl, rfl, by
               refine n_fieldAddr rfl fd33_3 ti2 rfl n0WiA rfl n0WiA ?_
               exact AOps.nil ⟨rfl, rfl, rfl⟩⟩,
              ⟨rfl, rfl, by
               refine n_fieldAddr rfl fd33_3 ti2 rfl n0WiA rfl n0WiA ?_
               exact AOps.nil ⟨rfl, rfl, rfl⟩⟩,
              trivial⟩) ?_
             refine Walk.casesC [(7, [9]), (3, [9]), (9, [11])] [([false, false, false], (B10 a), (B10 a)), ([true, false, false], (B11 a), (B11 a))] (by rfl) (by kernel_rfl) (rs := [37]) (by rfl) n0WiA (fun base => ⟨
              ⟨rfl, rfl, by
               refine n_load rfl ti2 n0WiA n0WiA rfl n0WiA ?_
               exact AOps.nil ⟨rfl, rfl, rfl⟩⟩,
              ⟨rfl, rfl, by
               refine n_load rfl ti2 n0WiA n0WiA rfl n0WiA ?_
               exact AOps.nil ⟨rfl, rfl, rfl⟩⟩,
              trivial⟩) ?_
             refine Walk.casesC [(7, [9]), (9, [11]), (4, [11])] [([false, false, false], (B10 a), (B10 a)), ([true, false, false], (B11 a), (B11 a)), ([true, true, false], (B12 a), (B12 a))] (by rfl) (by kernel_rfl) (rs := [1]) (by rfl) n0WiA (fun base => ⟨
              ⟨rfl, rfl, by
               refine n_fieldAddr rfl fd33_4 ti3 rfl n0WiA rfl n0WiA ?_
               exact AOps.nil ⟨rfl, rfl, rfl⟩⟩,
              ⟨rfl, rfl, by
               refine n_fieldAddr rfl fd33_4 ti3 rfl n0WiA rfl n0WiA ?_
               exact AOps.nil ⟨rfl, rfl, rfl⟩⟩,
              ⟨rfl, rfl, by
               refine n_fieldAddr rfl fd33_4 ti3 rfl n0WiA rfl n0WiA ?_
               exact AOps.nil ⟨rfl, rfl, rfl⟩⟩,
              trivial⟩) ?_
             refine Walk.casesC [(7, [9]), (9, [11]), (5, [11])] [([false, false, false], (B10 a), (B10 a)), ([true, false, false], (B11 a), (B11 a)), ([true, true, false], (B12 a), (B12 a))] (by rfl) (by kernel_rfl) (rs := [39]) (by rfl) n0WiA (fun base => ⟨
              ⟨rfl, rfl, by
               refine n_load rfl ti3 n0WiA n0WiA rfl n0WiA ?_
               exact AOps.nil ⟨rfl, rfl, rfl⟩⟩,
              ⟨rfl, rfl, by
               refine n_load rfl ti3 n0WiA n0WiA rfl n0WiA ?_
               exact AOps.nil ⟨rfl, rfl, rfl⟩⟩,
              ⟨rfl, rfl, by
               refine n_load rfl ti3 n0WiA n0WiA rfl n0WiA ?_
               exact AOps.nil ⟨rfl, rfl, rfl⟩⟩,
              trivial⟩) ?_
             refine Walk.casesC [(6, [7]), (7, [9]), (9, [11])] [([false, false, false], (B10 a), (B10 a))] (by rfl) (by kernel_rfl) (rs := [4]) (by rfl) n0WiA (fun base => ⟨
              ⟨rfl, rfl, by
               refine n_fieldAddr rfl fd33_2 ti2 rfl n0WiA rfl n0WiA ?_
               exact AOps.nil ⟨rfl, rfl, rfl⟩⟩,
              trivial⟩) ?_
             refine Walk.casesC [(7, [9]), (9, [11])] (d := .any) [([false, false, false], (B10 a), (B11 a))] (by rfl) (by kernel_rfl) (rs := [41, 36]) (by rfl) n0WiA (fun base => ⟨
              ⟨rfl, rfl, by
               refine n_store ti2 n0WiA rfl n0WiA rfl n0WiA rfl rfl rfl n0WiA ?_
               exact AOps.nil ⟨rfl, rfl, rfl⟩⟩,
              trivial⟩) ?_
             refine Walk.casesC [(7, [9]), (8, [9]), (9, [11]), (7, [8])] [([true, false, false], (B11 a), (B11 a))] (by rfl) (by kernel_rfl) (rs := [4]) (by rfl) n0WiA (fun base => ⟨
              ⟨rfl, rfl, by
               refine n_fieldAddr rfl fd33_3 ti2 rfl n0WiA rfl n0WiA ?_
               exact AOps.nil ⟨rfl, rfl, rfl⟩⟩,
              trivial⟩) ?_
             refine Walk.casesC [(7, [9]), (9, [11])] (d := .any) [([true, false, false], (B11 a), (B12 a))] (by rfl) (by kernel_rfl) (rs := [42, 38]) (by rfl) n0WiA (fun base => ⟨
              ⟨rfl, rfl, by
               refine n_store ti2 n0WiA rfl n0WiA rfl n0WiA rfl rfl rfl n0WiA ?_
               exact AOps.nil ⟨rfl, rfl, rfl⟩⟩,
              trivial⟩) ?_
             refine Walk.casesC [(7, [9]), (9, [11]), (10, [11]), (9, [10])] [([true, true, false], (B12 a), (B12 a))] (by rfl) (by kernel_rfl) (rs := [4]) (by rfl) n0WiA (fun base => ⟨
              ⟨rfl, rfl, by
               refine n_fieldAddr rfl fd33_4 ti3 rfl n0WiA rfl n0WiA ?_
               exact AOps.nil ⟨rfl, rfl, rfl⟩⟩,
              trivial⟩) ?_
             refine Walk.casesC [(7, [9]), (9, [11])] (d := .any) [([true, true, false], (B12 a), (B13 a))] (by rfl) (by kernel_rfl) (rs := [43, 40]) (by rfl) n0WiA (fun base => ⟨
              ⟨rfl, rfl, by
               refine n_store ti3 n0WiA rfl n0WiA rfl n0WiA rfl rfl rfl n0WiA ?_
               exact AOps.nil ⟨rfl, rfl, rfl⟩⟩,
              trivial⟩) ?_
             refine Walk.done ?_
             refine AWP.sr ?_
             refine n_load rfl ti33 n0WiA n0WiA rfl n0WiA ?_
             refine n_store ti33 n0WiA rfl n0WiA rfl n0WiA rfl rfl rfl n0WiA ?_
             refine n_assign rfl n0WiA ?_
             refine AOps.nil ?_
             refine AWP.ret ?_
             refine fin_pure (.cons (rv_cell ti33 n0WiA n0WiA rfl n0WiA) (.cons (rv_tmp n0WiA) .nil)) n0WiA ?_
             first | (rw [hB]; exact .tup rfl (RenAll.get (.cons (.agg rfl (RenAll.get r2WiA)) (.cons (ren_flat rfl (congrArg vb (by unfold kindW; simp; omega))) .nil)))) | exact .lf (.tup (lf_cons (wz_lf _) (lf_cons (.val _) lf_nil)))
           · try simp only [nh] at hc9
             refine AWP.sr ?_
             refine n_ibin rfl n0WiA n0WiA rfl ?_
             refine n_assign rfl n0WiA ?_
             refine AOps.nil ?_
             refine AWP.cond n0WiA (fun hc10 => ?_) (fun hc10 => ?_)
             · try simp only [nh] at hc10
               have hB := bare_3 (w := a) (by omega)
               refine AWP.anyT [7, 9, 11] (fun p => match p with | [false, false, false] => (B10 a) | [true, false, false] => (B11 a) | [true, true, false] => (B12 a) | [true, true, true] => (B14 a) | _ => []) (by kernel_rfl) (by kernel_rfl) rfl rfl ?_
               refine Walk.casesC [(0, [7]), (7, [9]), (9, [11])] [([false, false, false], (B10 a), (B10 a))] (by rfl) (by kernel_rfl) (rs := [1]) (by rfl) n0WiA (fun base => ⟨
                ⟨rfl, rfl, by
                 refine n_fieldAddr rfl fd33_2 ti2 rfl n0WiA rfl n0WiA ?_
                 exact AOps.nil ⟨rfl, rfl, rfl⟩⟩,
                trivial⟩) ?_
               refine Walk.casesC [(1, [7]), (7, [9]), (9, [11])] [([false, false, false], (B10 a), (B10 a))] (by rfl) (by kernel_rfl) (rs := [46]) (by rfl) n0WiA (fun base => ⟨
                ⟨rfl, rfl, by
                 refine n_load rfl ti2 n0WiA n0WiA rfl n0WiA ?_
                 exact AOps.nil ⟨rfl, rfl, rfl⟩⟩,
                trivial⟩) ?_
               refine Walk.casesC [(7, [9]), (2, [9]), (9, [11])] [([false, false, false], (B10 a), (B10 a)), ([true, false, false], (B11 a), (B11 a))] (by rfl) (by kernel_rfl) (rs := [1]) (by rfl) n0WiA (fun base => ⟨
                ⟨rfl, rfl, by
                 refine n_fieldAddr rfl fd33_3 ti2 rfl n0WiA rfl n0WiA ?_
                 exact AOps.nil ⟨rfl, rfl, rfl⟩⟩,
                ⟨rfl, rfl, by
                 refine n_fieldAddr rfl fd33_3 ti2 rfl n0WiA rfl n0WiA ?_
                 exact AOps.nil ⟨rfl, rfl, rfl⟩⟩,
                trivial⟩) ?_
               refine Walk.casesC [(7, [9]), (3, [9]), (9, [11])] [([false, false, false], (B10 a), (B10 a)), ([true, false, false], (B11 a), (B11 a))] (by rfl) (by kernel_rfl) (rs := [48]) (by rfl) n0WiA (fun base => ⟨
                ⟨rfl, rfl, by
                 refine n_load rfl ti2 n0WiA n0WiA rfl n0WiA ?_
                 exact AOps.nil ⟨rfl, rfl, rfl⟩⟩,
                ⟨rfl, rfl, by
                 refine n_load rfl ti2 n0WiA n0WiA rfl n0WiA ?_
                 exact AOps.nil ⟨rfl, rfl, rfl⟩⟩,
                trivial⟩) ?_
               refine Walk.casesC [(7, [9]), (9, [11]), (4, [11])] [([false, false, false], (B10 a), (B10 a)), ([true, false, false], (B11 a), (B11 a)), ([true, true, false], (B12 a), (B12 a))] (by rfl) (by kernel_rfl) (rs := [1]) (by rfl) n0WiA (fun base => ⟨
                ⟨rfl, rfl, by
                 refine n_fieldAddr rfl fd33_6 ti4 rfl n0WiA rfl n0WiA ?_
                 exact AOps.nil ⟨rfl, rfl, rfl⟩⟩,
                ⟨rfl, rfl, by
                 refine n_fieldAddr rfl fd33_6 ti4 rfl n0WiA rfl n0WiA ?_
                 exact AOps.nil ⟨rfl, rfl, rfl⟩⟩,
                ⟨rfl, rfl, by
                 refine n_fieldAddr rfl fd33_6 ti4 rfl n0WiA rfl n0WiA ?_
                 exact AOps.nil ⟨rfl, rfl, rfl⟩⟩,
                trivial⟩) ?_
               refine Walk.casesC [(7, [9]), (9, [11]), (5, [11])] [([false, false, false], (B10 a), (B10 a)), ([true, false, false], (B11 a), (B11 a)), ([true, true, false], (B12 a), (B12 a))] (by rfl) (by kernel_rfl) (rs := [50]) (by rfl) n0WiA (fun base => ⟨
                ⟨rfl, rfl, by
                 refine n_load rfl ti4 n0WiA n0WiA rfl n0WiA ?_
                 exact AOps.nil ⟨rfl, rfl, rfl⟩⟩,
                ⟨rfl, rfl, by
                 refine n_load rfl ti4 n0WiA n0WiA rfl n0WiA ?_
                 exact AOps.nil ⟨rfl, rfl, rfl⟩⟩,
                ⟨rfl, rfl, by
                 refine n_load rfl ti4 n0WiA n0WiA rfl n0WiA ?_
                 exact AOps.nil ⟨rfl, rfl, rfl⟩⟩,
                trivial⟩) ?_
               refine Walk.casesC [(6, [7]), (7, [9]), (9, [11])] [([false, false, false], (B10 a), (B10 a))] (by rfl) (by kernel_rfl) (rs := [4]) (by rfl) n0WiA (fun base => ⟨
                ⟨rfl, rfl, by
                 refine n_fieldAddr rfl fd33_2 ti2 rfl n0WiA rfl n0WiA ?_
                 exact AOps.nil ⟨rfl, rfl, rfl⟩⟩,
                trivial⟩) ?_
               refine Walk.casesC [(7, [9]), (9, [11])] (d := .any) [([false, false, false], (B10 a), (B11 a))] (by rfl) (by kernel_rfl) (rs := [52, 47]) (by rfl) n0WiA (fun base => ⟨
                ⟨rfl, rfl, by
                 refine n_store ti2 n0WiA rfl n0WiA rfl n0WiA rfl rfl rfl n0WiA ?_
                 exact AOps.nil ⟨rfl, rfl, rfl⟩⟩,
                trivial⟩) ?_
               refine Walk.casesC [(7, [9]), (8, [9]), (9, [11]), (7, [8])] [([true, false, false], (B11 a), (B11 a))] (by rfl) (by kernel_rfl) (rs := [4]) (by rfl) n0WiA (fun base => ⟨
                ⟨rfl, rfl, by
                 refine n_fieldAddr rfl fd33_3 ti2 rfl n0WiA rfl n0WiA ?_
                 exact AOps.nil ⟨rfl, rfl, rfl⟩⟩,
                trivial⟩) ?_
               refine Walk.casesC [(7, [9]), (9, [11])] (d := .any) [([true, false, false], (B11 a), (B12 a))] (by rfl) (by kernel_rfl) (rs := [53, 49]) (by rfl) n0WiA (fun base => ⟨
                ⟨rfl, rfl, by
                 refine n_store ti2 n0WiA rfl n0WiA rfl n0WiA rfl rfl rfl n0WiA ?_
                 exact AOps.nil ⟨rfl, rfl, rfl⟩⟩,
                trivial⟩) ?_
               refine Walk.casesC [(7, [9]), (9, [11]), (10, [11]), (9, [10])] [([true, true, false], (B12 a), (B12 a))] (by rfl) (by kernel_rfl) (rs := [4]) (by rfl) n0WiA (fun base => ⟨
                ⟨rfl, rfl, by
                 refine n_fieldAddr rfl fd33_6 ti4 rfl n0WiA rfl n0WiA ?_
                 exact AOps.nil ⟨rfl, rfl, rfl⟩⟩,
                trivial⟩) ?_
               refine Walk.casesC [(7, [9]), (9, [11])] (d := .any) [([true, true, false], (B12 a), (B14 a))] (by rfl) (by kernel_rfl) (rs := [54, 51]) (by rfl) n0WiA (fun base => ⟨
                ⟨rfl, rfl, by
                 refine n_store ti4 n0WiA rfl n0WiA rfl n0WiA rfl rfl rfl n0WiA ?_
                 exact AOps.nil ⟨rfl, rfl, rfl⟩⟩,
                trivial⟩) ?_
               refine Walk.done ?_
               refine AWP.sr ?_
               refine n_load rfl ti33 n0WiA n0WiA rfl n0WiA ?_
               refine n_store ti33 n0WiA rfl n0WiA rfl n0WiA rfl rfl rfl n0WiA ?_
               refine n_assign rfl n0WiA ?_
               refine AOps.nil ?_
               refine AWP.ret ?_
               refine fin_pure (.cons (rv_cell ti33 n0WiA n0WiA rfl n0WiA) (.cons (rv_tmp n0WiA) .nil)) n0WiA ?_
               first | (rw [hB]; exact .tup rfl (RenAll.get (.cons (.agg rfl (RenAll.get r2WiA)) (.cons (ren_flat rfl (congrArg vb (by unfold kindW; simp; omega))) .nil)))) | exact .lf (.tup (lf_cons (wz_lf _) (lf_cons (.val _) lf_nil)))
             · try simp only [nh] at hc10
               refine AWP.sr ?_
               refine n_ibin rfl n0WiA n0WiA rfl ?_
               refine n_assign rfl n0WiA ?_
               refine AOps.nil ?_
               refine AWP.cond n0WiA (fun hc11 => ?_) (fun hc11 => ?_)
               · try simp only [nh] at hc11
                 have hB := bare_4 (w := a) (by omega)
                 refine AWP.anyT [11, 13, 15, 17, 19] (fun p => match p with | [false, false, false, false, false] => (B10 a) | [true, false, false, false, false] => (B11 a) | [true, true, false, false, false] => (B15 a) | [true, true, true, false, false] => (B16 a) | [true, true, true, true, false] => (B17 a) | [true, true, true, true, true] => (B18 a) | _ => []) (by kernel_rfl) (by kernel_rfl) rfl rfl ?_
                 refine Walk.casesC [(0, [11]), (11, [13]), (13, [15]), (15, [17]), (17, [19])] [([false, false, false, false, false], (B10 a), (B10 a))] (by rfl) (by kernel_rfl) (rs := [1]) (by rfl) n0WiA (fun base => ⟨
                  ⟨rfl, rfl, by
                   refine n_fieldAddr rfl fd33_2 ti2 rfl n0WiA rfl n0WiA ?_
                   exact AOps.nil ⟨rfl, rfl, rfl⟩⟩,
                  trivial⟩) ?_
                 refine Walk.casesC [(1, [11]), (11, [13]), (13, [15]), (15, [17]), (17, [19])] [([false, false, false, false, false], (B10 a), (B10 a))] (by rfl) (by kernel_rfl) (rs := [57]) (by rfl) n0WiA (fun base => ⟨
                  ⟨rfl, rfl, by
                   refine n_load rfl ti2 n0WiA n0WiA rfl n0WiA ?_
                   exact AOps.nil ⟨rfl, rfl, rfl⟩⟩,
                  trivial⟩) ?_
                 refine Walk.casesC [(11, [13]), (2, [13]), (13, [15]), (15, [17]), (17, [19])] [([false, false, false, false, false], (B10 a), (B10 a)), ([true, false, false, false, false], (B11 a), (B11 a))] (by rfl) (by kernel_rfl) (rs := [1]) (by rfl) n0WiA (fun base => ⟨
                  ⟨rfl, rfl, by
                   refine n_fieldAddr rfl fd33_5 ti3 rfl n0WiA rfl n0WiA ?_
                   exact AOps.nil ⟨rfl, rfl, rfl⟩⟩,
                  ⟨rfl, rfl, by
                   refine n_fieldAddr rfl fd33_5 ti3 rfl n0WiA rfl n0WiA ?_
                   exact AOps.nil ⟨rfl, rfl, rfl⟩⟩,
                  trivial⟩) ?_
                 refine Walk.casesC [(11, [13]), (3, [13]), (13, [15]), (15, [17]), (17, [19])] [([false, false, false, false, false], (B10 a), (B10 a)), ([true, false, false, false, false], (B11 a), (B11 a))] (by rfl) (by kernel_rfl) (rs := [59]) (by rfl) n0WiA (fun base => ⟨
                  ⟨rfl, rfl, by
                   refine n_load rfl ti3 n0WiA n0WiA rfl n0WiA ?_
                   exact AOps.nil ⟨rfl, rfl, rfl⟩⟩,
                  ⟨rfl, rfl, by
                   refine n_load rfl ti3 n0WiA n0WiA rfl n0WiA ?_
                   exact AOps.nil ⟨rfl, rfl, rfl⟩⟩,
                  trivial⟩) ?_
                 refine Walk.casesC [(11, [13]), (13, [15]), (4, [15]), (15, [17]), (17, [19])] [([false, false, false, false, false], (B10 a), (B10 a)), ([true, false, false, false, false], (B11 a), (B11 a)), ([true, true, false, false, false], (B15 a), (B15 a))] (by rfl) (by kernel_rfl) (rs := [1]) (by rfl) n0WiA (fun base => ⟨
                  ⟨rfl, rfl, by
                   refine n_fieldAddr rfl fd33_3 ti2 rfl n0WiA rfl n0WiA ?_
                   exact AOps.nil ⟨rfl, rfl, rfl⟩⟩,
                  ⟨rfl, rfl, by
                   refine n_fieldAddr rfl fd33_3 ti2 rfl n0WiA rfl n0WiA ?_
                   exact AOps.nil ⟨rfl, rfl, rfl⟩⟩,
                  ⟨rfl, rfl, by
                   refine n_fieldAddr rfl fd33_3 ti2 rfl n0WiA rfl n0WiA ?_
                   exact AOps.nil ⟨rfl, rfl, rfl⟩⟩,
                  trivial⟩) ?_
                 refine Walk.casesC [(11, [13]), (13, [15]), (5, [15]), (15, [17]), (17, [19])] [([false, false, false, false, false], (B10 a), (B10 a)), ([true, false, false, false, false], (B11 a), (B11 a)), ([true, true, false, false, false], (B15 a), (B15 a))] (by rfl) (by kernel_rfl) (rs := [61]) (by rfl) n0WiA (fun base => ⟨
                  ⟨rfl, rfl, by
                   refine n_load rfl ti2 n0WiA n0WiA rfl n0WiA ?_
                   exact AOps.nil ⟨rfl, rfl, rfl⟩⟩,
                  ⟨rfl, rfl, by
                   refine n_load rfl ti2 n0WiA n0WiA rfl n0WiA ?_
                   exact AOps.nil ⟨rfl, rfl, rfl⟩⟩,
                  ⟨rfl, rfl, by
                   refine n_load rfl ti2 n0WiA n0WiA rfl n0WiA ?_
                   exact AOps.nil ⟨rfl, rfl, rfl⟩⟩,
                  trivial⟩) ?_
                 refine Walk.casesC [(11, [13]), (13, [15]), (15, [17]), (6, [17]), (17, [19])] [([false, false, false, false, false], (B10 a), (B10 a)), ([true, false, false, false, false], (B11 a), (B11 a)), ([true, true, false, false, false], (B15 a), (B15 a)), ([true, true, true, false, false], (B16 a), (B16 a))] (by rfl) (by kernel_rfl) (rs := [1]) (by rfl) n0WiA (fun base => ⟨
                  ⟨rfl, rfl, by
                   refine n_fieldAddr rfl fd33_6 ti4 rfl n0WiA rfl n0WiA ?_
                   exact AOps.nil ⟨rfl, rfl, rfl⟩⟩,
                  ⟨rfl, rfl, by
                   refine n_fieldAddr rfl fd33_6 ti4 rfl n0WiA rfl n0WiA ?_
                   exact AOps.nil ⟨rfl, rfl, rfl⟩⟩,
                  ⟨rfl, rfl, by
                   refine n_fieldAddr rfl fd33_6 ti4 rfl n0WiA rfl n0WiA ?_
                   exact AOps.nil ⟨rfl, rfl, rfl⟩⟩,
                  ⟨rfl, rfl, by
                   refine n_fieldAddr rfl fd33_6 ti4 rfl n0WiA rfl n0WiA ?_
                   exact AOps.nil ⟨rfl, rfl, rfl⟩⟩,
                  trivial⟩) ?_
                 refine Walk.casesC [(11, [13]), (13, [15]), (15, [17]), (7, [17]), (17, [19])] [([false, false, false, false, false], (B10 a), (B10 a)), ([true, false, false, false, false], (B11 a), (B11 a)), ([true, true, false, false, false], (B15 a), (B15 a)), ([true, true, true, false, false], (B16 a), (B16 a))] (by rfl) (by kernel_rfl) (rs := [63]) (by rfl) n0WiA (fun base => ⟨
                  ⟨rfl, rfl, by
                   refine n_load rfl ti4 n0WiA n0WiA rfl n0WiA ?_
                   exact AOps.nil ⟨rfl, rfl, rfl⟩⟩,
                  ⟨rfl, rfl, by
                   refine n_load rfl ti4 n0WiA n0WiA rfl n0WiA ?_
                   exact AOps.nil ⟨rfl, rfl, rfl⟩⟩,
                  ⟨rfl, rfl, by
                   refine n_load rfl ti4 n0WiA n0WiA rfl n0WiA ?_
                   exact AOps.nil ⟨rfl, rfl, rfl⟩⟩,
                  ⟨rfl, rfl, by
                   refine n_load rfl ti4 n0WiA n0WiA rfl n0WiA ?_
                   exact AOps.nil ⟨rfl, rfl, rfl⟩⟩,
                  trivial⟩) ?_
                 refine Walk.casesC [(11, [13]), (13, [15]), (15, [17]), (17, [19]), (8, [19])] [([false, false, false, false, false], (B10 a), (B10 a)), ([true, false, false, false, false], (B11 a), (B11 a)), ([true, true, false, false, false], (B15 a), (B15 a)), ([true, true, true, false, false], (B16 a), (B16 a)), ([true, true, true, true, false], (B17 a), (B17 a))] (by rfl) (by kernel_rfl) (rs := [1]) (by rfl) n0WiA (fun base => ⟨
                  ⟨rfl, rfl, by
                   refine n_fieldAddr rfl fd33_7 ti22 rfl n0WiA rfl n0WiA ?_
                   exact AOps.nil ⟨rfl, rfl, rfl⟩⟩,
                  ⟨rfl, rfl, by
                   refine n_fieldAddr rfl fd33_7 ti22 rfl n0WiA rfl n0WiA ?_
                   exact AOps.nil ⟨rfl, rfl, rfl⟩⟩,
                  ⟨rfl, rfl, by
                   refine n_fieldAddr rfl fd33_7 ti22 rfl n0WiA rfl n0WiA ?_
                   exact AOps.nil ⟨rfl, rfl, rfl⟩⟩,
                  ⟨rfl, rfl, by
                   refine n_fieldAddr rfl fd33_7 ti22 rfl n0WiA rfl n0WiA ?_
                   exact AOps.nil ⟨rfl, rfl, rfl⟩⟩,
                  ⟨rfl, rfl, by
                   refine n_fieldAddr rfl fd33_7 ti22 rfl n0WiA rfl n0WiA ?_
                   exact AOps.nil ⟨rfl, rfl, rfl⟩⟩,
                  trivial⟩) ?_
                 refine Walk.casesC [(11, [13]), (13, [15]), (15, [17]), (17, [19]), (9, [19])] [([false, false, false, false, false], (B10 a), (B10 a)), ([true, false, false, false, false], (B11 a), (B11 a)), ([true, true, false, false, false], (B15 a), (B15 a)), ([true, true, true, false, false], (B16 a), (B16 a)), ([true, true, true, true, false], (B17 a), (B17 a))] (by rfl) (by kernel_rfl) (rs := [65]) (by rfl) n0WiA (fun base => ⟨
                  ⟨rfl, rfl, by
                   refine n_load rfl ti22 n0WiA n0WiA rfl n0WiA ?_
                   exact AOps.nil ⟨rfl, rfl, rfl⟩⟩,
                  ⟨rfl, rfl, by
                   refine n_load rfl ti22 n0WiA n0WiA rfl n0WiA ?_
                   exact AOps.nil ⟨rfl, rfl, rfl⟩⟩,
                  ⟨rfl, rfl, by
                   refine n_load rfl ti22 n0WiA n0WiA rfl n0WiA ?_
                   exact AOps.nil ⟨rfl, rfl, rfl⟩⟩,
                  ⟨rfl, rfl, by
                   refine n_load rfl ti22 n0WiA n0WiA rfl n0WiA ?_
                   exact AOps.nil ⟨rfl, rfl, rfl⟩⟩,
                  ⟨rfl, rfl, by
                   refine n_load rfl ti22 n0WiA n0WiA rfl n0WiA ?_
                   exact AOps.nil ⟨rfl, rfl, rfl⟩⟩,
                  trivial⟩) ?_
                 refine Walk.casesC [(10, [11]), (11, [13]), (13, [15]), (15, [17]), (17, [19])] [([false, false, false, false, false], (B10 a), (B10 a))] (by rfl) (by kernel_rfl) (rs := [4]) (by rfl) n0WiA (fun base => ⟨
                  ⟨rfl, rfl, by
                   refine n_fieldAddr rfl fd33_2 ti2 rfl n0WiA rfl n0WiA ?_
                   exact AOps.nil ⟨rfl, rfl, rfl⟩⟩,
                  trivial⟩) ?_
                 refine Walk.casesC [(11, [13]), (13, [15]), (15, [17]), (17, [19])] (d := .any) [([false, false, false, false, false], (B10 a), (B11 a))] (by rfl) (by kernel_rfl) (rs := [67, 58]) (by rfl) n0WiA (fun base => ⟨
                  ⟨rfl, rfl, by
                   refine n_store ti2 n0WiA rfl n0WiA rfl n0WiA rfl rfl rfl n0WiA ?_
                   exact AOps.nil ⟨rfl, rfl, rfl⟩⟩,
                  trivial⟩) ?_
                 refine Walk.casesC [(11, [13]), (12, [13]), (13, [15]), (15, [17]), (17, [19]), (11, [12])] [([true, false, false, false, false], (B11 a), (B11 a))] (by rfl) (by kernel_rfl) (rs := [4]) (by rfl) n0WiA (fun base => ⟨
                  ⟨rfl, rfl, by
                   refine n_fieldAddr rfl fd33_5 ti3 rfl n0WiA rfl n0WiA ?_
                   exact AOps.nil ⟨rfl, rfl, rfl⟩⟩,
                  trivial⟩) ?_
                 refine Walk.casesC [(11, [13]), (13, [15]), (15, [17]), (17, [19])] (d := .any) [([true, false, false, false, false], (B11 a), (B15 a))] (by rfl) (by kernel_rfl) (rs := [68, 60]) (by rfl) n0WiA (fun base => ⟨
                  ⟨rfl, rfl, by
                   refine n_store ti3 n0WiA rfl n0WiA rfl n0WiA rfl rfl rfl n0WiA ?_
                   exact AOps.nil ⟨rfl, rfl, rfl⟩⟩,
                  trivial⟩) ?_
                 refine Walk.casesC [(11, [13]), (13, [15]), (14, [15]), (15, [17]), (17, [19]), (13, [14])] [([true, true, false, false, false], (B15 a), (B15 a))] (by rfl) (by kernel_rfl) (rs := [4]) (by rfl) n0WiA (fun base => ⟨
                  ⟨rfl, rfl, by
                   refine n_fieldAddr rfl fd33_3 ti2 rfl n0WiA rfl n0WiA ?_
                   exact AOps.nil ⟨rfl, rfl, rfl⟩⟩,
                  trivial⟩) ?_
                 refine Walk.casesC [(11, [13]), (13, [15]), (15, [17]), (17, [19])] (d := .any) [([true, true, false, false, false], (B15 a), (B16 a))] (by rfl) (by kernel_rfl) (rs := [69, 62]) (by rfl) n0WiA (fun base => ⟨
                  ⟨rfl, rfl, by
                   refine n_store ti2 n0WiA rfl n0WiA rfl n0WiA rfl rfl rfl n0WiA ?_
                   exact AOps.nil ⟨rfl, rfl, rfl⟩⟩,
                  trivial⟩) ?_
                 refine Walk.casesC [(11, [13]), (13, [15]), (15, [17]), (16, [17]), (17, [19]), (15, [16])] [([true, true, true, false, false], (B16 a), (B16 a))] (by rfl) (by kernel_rfl) (rs := [4]) (by rfl) n0WiA (fun base => ⟨
                  ⟨rfl, rfl, by
                   refine n_fieldAddr rfl fd33_6 ti4 rfl n0WiA rfl n0WiA ?_
                   exact AOps.nil ⟨rfl, rfl, rfl⟩⟩,
                  trivial⟩) ?_
                 refine Walk.casesC [(11, [13]), (13, [15]), (15, [17]), (17, [19])] (d := .any) [([true, true, true, false, false], (B16 a), (B17 a))] (by rfl) (by kernel_rfl) (rs := [70, 64]) (by rfl) n0WiA (fun base => ⟨
                  ⟨rfl, rfl, by
                   refine n_store ti4 n0WiA rfl n0WiA rfl n0WiA rfl rfl rfl n0WiA ?_
                   exact AOps.nil ⟨rfl, rfl, rfl⟩⟩,
                  trivial⟩) ?_
                 refine Walk.casesC [(11, [13]), (13, [15]), (15, [17]), (17, [19]), (18, [19]), (17, [18])] [([true, true, true, true, false], (B17 a), (B17 a))] (by rfl) (by kernel_rfl) (rs := [4]) (by rfl) n0WiA (fun base => ⟨
                  ⟨rfl, rfl, by
                   refine n_fieldAddr rfl fd33_7 ti22 rfl n0WiA rfl n0WiA ?_
                   exact AOps.nil ⟨rfl, rfl, rfl⟩⟩,
                  trivial⟩) ?_
                 refine Walk.casesC [(11, [13]), (13, [15]), (15, [17]), (17, [19])] (d := .any) [([true, true, true, true, false], (B17 a), (B18 a))] (by rfl) (by kernel_rfl) (rs := [71, 66]) (by rfl) n0WiA (fun base => ⟨
                  ⟨rfl, rfl, by
                   refine n_store ti22 n0WiA rfl n0WiA rfl n0WiA rfl rfl rfl n0WiA ?_
                   exact AOps.nil ⟨rfl, rfl, rfl⟩⟩,
                  trivial⟩) ?_
                 refine Walk.done ?_
                 refine AWP.sr ?_
                 refine n_load rfl ti33 n0WiA n0WiA rfl n0WiA ?_
                 refine n_store ti33 n0WiA rfl n0WiA rfl n0WiA rfl rfl rfl n0WiA ?_
                 refine n_assign rfl n0WiA ?_
                 refine AOps.nil ?_
                 refine AWP.ret ?_
                 refine fin_pure (.cons (rv_cell ti33 n0WiA n0WiA rfl n0WiA) (.cons (rv_tmp n0WiA) .nil)) n0WiA ?_
                 first | (rw [hB]; exact .tup rfl (RenAll.get (.cons (.agg rfl (RenAll.get r2WiA)) (.cons (ren_flat rfl (congrArg vb (by unfold kindW; simp; omega))) .nil)))) | exact .lf (.tup (lf_cons (wz_lf _) (lf_cons (.val _) lf_nil)))
               · try simp only [nh] at hc11
                 refine AWP.sr ?_
                 refine n_ibin rfl n0WiA n0WiA rfl ?_
                 refine n_assign rfl n0WiA ?_
                 refine AOps.nil ?_
                 refine AWP.cond n0WiA (fun hc12 => ?_) (fun hc12 => ?_)
                 · try simp only [nh] at hc12
                   have hB := bare_5 (w := a) (by omega)
                   refine AWP.anyT [5, 7] (fun p => match p with | [false, false] => (B10 a) | [true, false] => (B11 a) | [true, true] => (B19 a) | _ => []) (by kernel_rfl) (by kernel_rfl) rfl rfl ?_
                   refine Walk.casesC [(0, [5]), (5, [7])] [([false, false], (B10 a), (B10 a))] (by rfl) (by kernel_rfl) (rs := [1]) (by rfl) n0WiA (fun base => ⟨
                    ⟨rfl, rfl, by
                     refine n_fieldAddr rfl fd33_2 ti2 rfl n0WiA rfl n0WiA ?_
                     exact AOps.nil ⟨rfl, rfl, rfl⟩⟩,
                    trivial⟩) ?_
                   refine Walk.casesC [(1, [5]), (5, [7])] [([false, false], (B10 a), (B10 a))] (by rfl) (by kernel_rfl) (rs := [74]) (by rfl) n0WiA (fun base => ⟨
                    ⟨rfl, rfl, by
                     refine n_load rfl ti2 n0WiA n0WiA rfl n0WiA ?_
                     exact AOps.nil ⟨rfl, rfl, rfl⟩⟩,
                    trivial⟩) ?_
                   refine Walk.casesC [(5, [7]), (2, [7])] [([false, false], (B10 a), (B10 a)), ([true, false], (B11 a), (B11 a))] (by rfl) (by kernel_rfl) (rs := [1]) (by rfl) n0WiA (fun base => ⟨
                    ⟨rfl, rfl, by
                     refine n_fieldAddr rfl fd33_8 ti26 rfl n0WiA rfl n0WiA ?_
                     exact AOps.nil ⟨rfl, rfl, rfl⟩⟩,
                    ⟨rfl, rfl, by
                     refine n_fieldAddr rfl fd33_8 ti26 rfl n0WiA rfl n0WiA ?_
                     exact AOps.nil ⟨rfl, rfl, rfl⟩⟩,
                    trivial⟩) ?_
                   refine Walk.casesC [(5, [7]), (3, [7])] [([false, false], (B10 a), (B10 a)), ([true, false], (B11 a), (B11 a))] (by rfl) (by kernel_rfl) (rs := [76]) (by rfl) n0WiA (fun base => ⟨
                    ⟨rfl, rfl, by
                     refine n_load rfl ti26 n0WiA n0WiA rfl n0WiA ?_
                     exact AOps.nil ⟨rfl, rfl, rfl⟩⟩,
                    ⟨rfl, rfl, by
                     refine n_load rfl ti26 n0WiA n0WiA rfl n0WiA ?_
                     exact AOps.nil ⟨rfl, rfl, rfl⟩⟩,
                    trivial⟩) ?_
                   refine Walk.casesC [(4, [5]), (5, [7])] [([false, false], (B10 a), (B10 a))] (by rfl) (by kernel_rfl) (rs := [4]) (by rfl) n0WiA (fun base => ⟨
                    ⟨rfl, rfl, by
                     refine n_fieldAddr rfl fd33_2 ti2 rfl n0WiA rfl n0WiA ?_
                     exact AOps.nil ⟨rfl, rfl, rfl⟩⟩,
                    trivial⟩) ?_
                   refine Walk.casesC [(5, [7])] (d := .any) [([false, false], (B10 a), (B11 a))] (by rfl) (by kernel_rfl) (rs := [78, 75]) (by rfl) n0WiA (fun base => ⟨
                    ⟨rfl, rfl, by
                     refine n_store ti2 n0WiA rfl n0WiA rfl n0WiA rfl rfl rfl n0WiA ?_
                     exact AOps.nil ⟨rfl, rfl, rfl⟩⟩,
                    trivial⟩) ?_
                   refine Walk.casesC [(5, [7]), (6, [7]), (5, [6])] [([true, false], (B11 a), (B11 a))] (by rfl) (by kernel_rfl) (rs := [4]) (by rfl) n0WiA (fun base => ⟨
                    ⟨rfl, rfl, by
                     refine n_fieldAddr rfl fd33_8 ti26 rfl n0WiA rfl n0WiA ?_
                     exact AOps.nil ⟨rfl, rfl, rfl⟩⟩,
                    trivial⟩) ?_
                   refine Walk.casesC [(5, [7])] (d := .any) [([true, false], (B11 a), (B19 a))] (by rfl) (by kernel_rfl) (rs := [79, 77]) (by rfl) n0WiA (fun base => ⟨
                    ⟨rfl, rfl, by
                     refine n_store ti26 n0WiA rfl n0WiA rfl n0WiA rfl rfl rfl n0WiA ?_
                     exact AOps.nil ⟨rfl, rfl, rfl⟩⟩,
                    trivial⟩) ?_
                   refine Walk.done ?_
                   refine AWP.sr ?_
                   refine n_load rfl ti33 n0WiA n0WiA rfl n0WiA ?_
                   refine n_store ti33 n0WiA rfl n0WiA rfl n0WiA rfl rfl rfl n0WiA ?_
                   refine n_assign rfl n0WiA ?_
                   refine AOps.nil ?_
                   refine AWP.ret ?_
                   refine fin_pure (.cons (rv_cell ti33 n0WiA n0WiA rfl n0WiA) (.cons (rv_tmp n0WiA) .nil)) n0WiA ?_
                   first | (rw [hB]; exact .tup rfl (RenAll.get (.cons (.agg rfl (RenAll.get r2WiA)) (.cons (ren_flat rfl (congrArg vb (by unfold kindW; simp; omega))) .nil)))) | exact .lf (.tup (lf_cons (wz_lf _) (lf_cons (.val _) lf_nil)))
                 · try simp only [nh] at hc12
                   refine AWP.seq ?_
                   refine AWP.sr ?_
                   refine n_ibin rfl n0WiA n0WiA rfl ?_
                   refine n_assign rfl n0WiA ?_
                   refine AOps.nil ?_
                   refine AWP.cond n0WiA (fun hc13 => ?_) (fun hc13 => ?_)
                   · try simp only [nh] at hc13
                     have hB := bare_6 (w := a) (by omega)
                     refine AWP.skip ?_
                     refine AWP.condT n0WiA (by simp [hc13]) ?_
                     refine AWP.anyT [5, 7] (fun p => match p with | [false, false] => (B10 a) | [true, false] => (B11 a) | [true, true] => (B20 a) | _ => []) (by kernel_rfl) (by kernel_rfl) rfl rfl ?_
                     refine Walk.casesC [(0, [5]), (5, [7])] [([false, false], (B10 a), (B10 a))] (by rfl) (by kernel_rfl) (rs := [1]) (by rfl) n0WiA (fun base => ⟨
                      ⟨rfl, rfl, by
                       refine n_fieldAddr rfl fd33_2 ti2 rfl n0WiA rfl n0WiA ?_
                       exact AOps.nil ⟨rfl, rfl, rfl⟩⟩,
                      trivial⟩) ?_
                     refine Walk.casesC [(1, [5]), (5, [7])] [([false, false], (B10 a), (B10 a))] (by rfl) (by kernel_rfl) (rs := [83]) (by rfl) n0WiA (fun base => ⟨
                      ⟨rfl, rfl, by
                       refine n_load rfl ti2 n0WiA n0WiA rfl n0WiA ?_
                       exact AOps.nil ⟨rfl, rfl, rfl⟩⟩,
                      trivial⟩) ?_
                     refine Walk.casesC [(5, [7]), (2, [7])] [([false, false], (B10 a), (B10 a)), ([true, false], (B11 a), (B11 a))] (by rfl) (by kernel_rfl) (rs := [1]) (by rfl) n0WiA (fun base => ⟨
                      ⟨rfl, rfl, by
                       refine n_fieldAddr rfl fd33_9 ti28 rfl n0WiA rfl n0WiA ?_
                       exact AOps.nil ⟨rfl, rfl, rfl⟩⟩,
                      ⟨rfl, rfl, by
                       refine n_fieldAddr rfl fd33_9 ti28 rfl n0WiA rfl n0WiA ?_
                       exact AOps.nil ⟨rfl, rfl, rfl⟩⟩,
                      trivial⟩) ?_
                     refine Walk.casesC [(5, [7]), (3, [7])] [([false, false], (B10 a), (B10 a)), ([true, false], (B11 a), (B11 a))] (by rfl) (by kernel_rfl) (rs := [85]) (by rfl) n0WiA (fun base => ⟨
                      ⟨rfl, rfl, by
                       refine n_load rfl ti28 n0WiA n0WiA rfl n0WiA ?_
                       exact AOps.nil ⟨rfl, rfl, rfl⟩⟩,
                      ⟨rfl, rfl, by
                       refine n_load rfl ti28 n0WiA n0WiA rfl n0WiA ?_
                       exact AOps.nil ⟨rfl, rfl, rfl⟩⟩,
                      trivial⟩) ?_
                     refine Walk.casesC [(4, [5]), (5, [7])] [([false, false], (B10 a), (B10 a))] (by rfl) (by kernel_rfl) (rs := [4]) (by rfl) n0WiA (fun base => ⟨
                      ⟨rfl, rfl, by
                       refine n_fieldAddr rfl fd33_2 ti2 rfl n0WiA rfl n0WiA ?_
                       exact AOps.nil ⟨rfl, rfl, rfl⟩⟩,
                      trivial⟩) ?_
                     refine Walk.casesC [(5, [7])] (d := .any) [([false, false], (B10 a), (B11 a))] (by rfl) (by kernel_rfl) (rs := [87, 84]) (by rfl) n0WiA (fun base => ⟨
                      ⟨rfl, rfl, by
                       refine n_store ti2 n0WiA rfl n0WiA rfl n0WiA rfl rfl rfl n0WiA ?_
                       exact AOps.nil ⟨rfl, rfl, rfl⟩⟩,
                      trivial⟩) ?_
                     refine Walk.casesC [(5, [7]), (6, [7]), (5, [6])] [([true, false], (B11 a), (B11 a))] (by rfl) (by kernel_rfl) (rs := [4]) (by rfl) n0WiA (fun base => ⟨
                      ⟨rfl, rfl, by
                       refine n_fieldAddr rfl fd33_9 ti28 rfl n0WiA rfl n0WiA ?_
                       exact AOps.nil ⟨rfl, rfl, rfl⟩⟩,
                      trivial⟩) ?_
                     refine Walk.casesC [(5, [7])] (d := .any) [([true, false], (B11 a), (B20 a))] (by rfl) (by kernel_rfl) (rs := [88, 86]) (by rfl) n0WiA (fun base => ⟨
                      ⟨rfl, rfl, by
                       refine n_store ti28 n0WiA rfl n0WiA rfl n0WiA rfl rfl rfl n0WiA ?_
                       exact AOps.nil ⟨rfl, rfl, rfl⟩⟩,
                      trivial⟩) ?_
                     refine Walk.done ?_
                     refine AWP.sr ?_
                     refine n_load rfl ti33 n0WiA n0WiA rfl n0WiA ?_
                     refine n_store ti33 n0WiA rfl n0WiA rfl n0WiA rfl rfl rfl n0WiA ?_
                     refine n_assign rfl n0WiA ?_
                     refine AOps.nil ?_
                     refine AWP.ret ?_
                     refine fin_pure (.cons (rv_cell ti33 n0WiA n0WiA rfl n0WiA) (.cons (rv_tmp n0WiA) .nil)) n0WiA ?_
                     first | (rw [hB]; exact .tup rfl (RenAll.get (.cons (.agg rfl (RenAll.get r2WiA)) (.cons (ren_flat rfl (congrArg vb (by unfold kindW; simp; omega))) .nil)))) | exact .lf (.tup (lf_cons (wz_lf _) (lf_cons (.val _) lf_nil)))
                   · try simp only [nh] at hc13
                     refine AWP.region ?_
                     refine n_ibin rfl n0WiA n0WiA rfl ?_
                     refine n_assign rfl n0WiA ?_
                     refine AOps.nil ?_
                     refine AWP.cond n0WiA (fun hc15 => ?_) (fun hc15 => ?_)
                     · try simp only [nh] at hc15
                       have hB := bare_6 (w := a) (by omega)
                       refine AWP.anyT [5, 7] (fun p => match p with | [false, false] => (B10 a) | [true, false] => (B11 a) | [true, true] => (B20 a) | _ => []) (by kernel_rfl) (by kernel_rfl) rfl rfl ?_
                       refine Walk.casesC [(0, [5]), (5, [7])] [([false, false], (B10 a), (B10 a))] (by rfl) (by kernel_rfl) (rs := [1]) (by rfl) n0WiA (fun base => ⟨
                        ⟨rfl, rfl, by
                         refine n_fieldAddr rfl fd33_2 ti2 rfl n0WiA rfl n0WiA ?_
                         exact AOps.nil ⟨rfl, rfl, rfl⟩⟩,
                        trivial⟩) ?_
                       refine Walk.casesC [(1, [5]), (5, [7])] [([false, false], (B10 a), (B10 a))] (by rfl) (by kernel_rfl) (rs := [83]) (by rfl) n0WiA (fun base => ⟨
                        ⟨rfl, rfl, by
                         refine n_load rfl ti2 n0WiA n0WiA rfl n0WiA ?_
                         exact AOps.nil ⟨rfl, rfl, rfl⟩⟩,
                        trivial⟩) ?_
                       refine Walk.casesC [(5, [7]), (2, [7])] [([false, false], (B10 a), (B10 a)), ([true, false], (B11 a), (B11 a))] (by rfl) (by kernel_rfl) (rs := [1]) (by rfl) n0WiA (fun base => ⟨
                        ⟨rfl, rfl, by
                         refine n_fieldAddr rfl fd33_9 ti28 rfl n0WiA rfl n0WiA ?_
                         exact AOps.nil ⟨rfl, rfl, rfl⟩⟩,
                        ⟨rfl, rfl, by
                         refine n_fieldAddr rfl fd33_9 ti28 rfl n0WiA rfl n0WiA ?_
                         exact AOps.nil ⟨rfl, rfl, rfl⟩⟩,
                        trivial⟩) ?_
                       refine Walk.casesC [(5, [7]), (3, [7])] [([false, false], (B10 a), (B10 a)), ([true, false], (B11 a), (B11 a))] (by rfl) (by kernel_rfl) (rs := [85]) (by rfl) n0WiA (fun base => ⟨
                        ⟨rfl, rfl, by
                         refine n_load rfl ti28 n0WiA n0WiA rfl n0WiA ?_
                         exact AOps.nil ⟨rfl, rfl, rfl⟩⟩,
                        ⟨rfl, rfl, by
                         refine n_load rfl ti28 n0WiA n0WiA rfl n0WiA ?_
                         exact AOps.nil ⟨rfl, rfl, rfl⟩⟩,
                        trivial⟩) ?_
                       refine Walk.casesC [(4, [5]), (5, [7])] [([false, false], (B10 a), (B10 a))] (by rfl) (by kernel_rfl) (rs := [4]) (by rfl) n0WiA (fun base => ⟨
                        ⟨rfl, rfl, by
                         refine n_fieldAddr rfl fd33_2 ti2 rfl n0WiA rfl n0WiA ?_
                         exact AOps.nil ⟨rfl, rfl, rfl⟩⟩,
                        trivial⟩) ?_
                       refine Walk.casesC [(5, [7])] (d := .any) [([false, false], (B10 a), (B11 a))] (by rfl) (by kernel_rfl) (rs := [87, 84]) (by rfl) n0WiA (fun base => ⟨
                        ⟨rfl, rfl, by
                         refine n_store ti2 n0WiA rfl n0WiA rfl n0WiA rfl rfl rfl n0WiA ?_
                         exact AOps.nil ⟨rfl, rfl, rfl⟩⟩,
                        trivial⟩) ?_
                       refine Walk.casesC [(5, [7]), (6, [7]), (5, [6])] [([true, false], (B11 a), (B11 a))] (by rfl) (by kernel_rfl) (rs := [4]) (by rfl) n0WiA (fun base => ⟨
                        ⟨rfl, rfl, by
                         refine n_fieldAddr rfl fd33_9 ti28 rfl n0WiA rfl n0WiA ?_
                         exact AOps.nil ⟨rfl, rfl, rfl⟩⟩,
                        trivial⟩) ?_
                       refine Walk.casesC [(5, [7])] (d := .any) [([true, false], (B11 a), (B20 a))] (by rfl) (by kernel_rfl) (rs := [88, 86]) (by rfl) n0WiA (fun base => ⟨
                        ⟨rfl, rfl, by
                         refine n_store ti28 n0WiA rfl n0WiA rfl n0WiA rfl rfl rfl n0WiA ?_
                         exact AOps.nil ⟨rfl, rfl, rfl⟩⟩,
                        trivial⟩) ?_
                       refine Walk.done ?_
                       refine AWP.sr ?_
                       refine n_load rfl ti33 n0WiA n0WiA rfl n0WiA ?_
                       refine n_store ti33 n0WiA rfl n0WiA rfl n0WiA rfl rfl rfl n0WiA ?_
                       refine n_assign rfl n0WiA ?_
                       refine AOps.nil ?_
                       refine AWP.ret ?_
                       refine fin_pure (.cons (rv_cell ti33 n0WiA n0WiA rfl n0WiA) (.cons (rv_tmp n0WiA) .nil)) n0WiA ?_
                       first | (rw [hB]; exact .tup rfl (RenAll.get (.cons (.agg rfl (RenAll.get r2WiA)) (.cons (ren_flat rfl (congrArg vb (by unfold kindW; simp; omega))) .nil)))) | exact .lf (.tup (lf_cons (wz_lf _) (lf_cons (.val _) lf_nil)))
                     · try simp only [nh] at hc15
                       refine AWP.sr ?_
                       refine n_ibin rfl n0WiA n0WiA rfl ?_
                       refine n_assign rfl n0WiA ?_
                       refine AOps.nil ?_
                       refine AWP.cond n0WiA (fun hc16 => ?_) (fun hc16 => ?_)
                       · try simp only [nh] at hc16
                         have hB := bare_7 (w := a) (by omega)
                         refine AWP.anyT [15, 17, 19, 21, 23, 25, 27] (fun p => match p with | [false, false, false, false, false, false, false] => (B10 a) | [true, false, false, false, false, false, false] => (B11 a) | [true, true, false, false, false, false, false] => (B15 a) | [true, true, true, false, false, false, false] => (B21 a) | [true, true, true, true, false, false, false] => (B22 a) | [true, true, true, true, true, false, false] => (B23 a) | [true, true, true, true, true, true, false] => (B24 a) | [true, true, true, true, true, true, true] => (B25 a) | _ => []) (by kernel_rfl) (by kernel_rfl) rfl rfl ?_
                         refine Walk.casesC [(0, [15]), (15, [17]), (17, [19]), (19, [21]), (21, [23]), (23, [25]), (25, [27])] [([false, false, false, false, false, false, false], (B10 a), (B10 a))] (by rfl) (by kernel_rfl) (rs := [1]) (by rfl) n0WiA (fun base => ⟨
                          ⟨rfl, rfl, by
                           refine n_fieldAddr rfl fd33_2 ti2 rfl n0WiA rfl n0WiA ?_
                           exact AOps.nil ⟨rfl, rfl, rfl⟩⟩,
                          trivial⟩) ?_
                         refine Walk.casesC [(1, [15]), (15, [17]), (17, [19]), (19, [21]), (21, [23]), (23, [25]), (25, [27])] [([false, false, false, false, false, false, false], (B10 a), (B10 a))] (by rfl) (by kernel_rfl) (rs := [91]) (by rfl) n0WiA (fun base => ⟨
                          ⟨rfl, rfl, by
                           refine n_load rfl ti2 n0WiA n0WiA rfl n0WiA ?_
                           exact AOps.nil ⟨rfl, rfl, rfl⟩⟩,
                          trivial⟩) ?_
                         refine Walk.casesC [(15, [17]), (2, [17]), (17, [19]), (19, [21]), (21, [23]), (23, [25]), (25, [27])] [([false, false, false, false, false, false, false], (B10 a), (B10 a)), ([true, false, false, false, false, false, false], (B11 a), (B11 a))] (by rfl) (by kernel_rfl) (rs := [1]) (by rfl) n0WiA (fun base => ⟨
                          ⟨rfl, rfl, by
                           refine n_fieldAddr rfl fd33_5 ti3 rfl n0WiA rfl n0WiA ?_
                           exact AOps.nil ⟨rfl, rfl, rfl⟩⟩,
                          ⟨rfl, rfl, by
                           refine n_fieldAddr rfl fd33_5 ti3 rfl n0WiA rfl n0WiA ?_
                           exact AOps.nil ⟨rfl, rfl, rfl⟩⟩,
                          trivial⟩) ?_
                         refine Walk.casesC [(15, [17]), (3, [17]), (17, [19]), (19, [21]), (21, [23]), (23, [25]), (25, [27])] [([false, false, false, false, false, false, false], (B10 a), (B10 a)), ([true, false, false, false, false, false, false], (B11 a), (B11 a))] (by rfl) (by kernel_rfl) (rs := [93]) (by rfl) n0WiA (fun base => ⟨
                          ⟨rfl, rfl, by
                           refine n_load rfl ti3 n0WiA n0WiA rfl n0WiA ?_
                           exact AOps.nil ⟨rfl, rfl, rfl⟩⟩,
                          ⟨rfl, rfl, by
                           refine n_load rfl ti3 n0WiA n0WiA rfl n0WiA ?_
                           exact AOps.nil ⟨rfl, rfl, rfl⟩⟩,
                          trivial⟩) ?_
                         refine Walk.casesC [(15, [17]), (17, [19]), (4, [19]), (19, [21]), (21, [23]), (23, [25]), (25, [27])] [([false, false, false, false, false, false, false], (B10 a), (B10 a)), ([true, false, false, false, false, false, false], (B11 a), (B11 a)), ([true, true, false, false, false, false, false], (B15 a), (B15 a))] (by rfl) (by kernel_rfl) (rs := [1]) (by rfl) n0WiA (fun base => ⟨
                          ⟨rfl, rfl, by
                           refine n_fieldAddr rfl fd33_9 ti28 rfl n0WiA rfl n0WiA ?_
                           exact AOps.nil ⟨rfl, rfl, rfl⟩⟩,
                          ⟨rfl, rfl, by
                           refine n_fieldAddr rfl fd33_9 ti28 rfl n0WiA rfl n0WiA ?_
                           exact AOps.nil ⟨rfl, rfl, rfl⟩⟩,
                          ⟨rfl, rfl, by
                           refine n_fieldAddr rfl fd33_9 ti28 rfl n0WiA rfl n0WiA ?_
                           exact AOps.nil ⟨rfl, rfl, rfl⟩⟩,
                          trivial⟩) ?_
                         refine Walk.casesC [(15, [17]), (17, [19]), (5, [19]), (19, [21]), (21, [23]), (23, [25]), (25, [27])] [([false, false, false, false, false, false, false], (B10 a), (B10 a)), ([true, false, false, false, false, false, false], (B11 a), (B11 a)), ([true, true, false, false, false, false, false], (B15 a), (B15 a))] (by rfl) (by kernel_rfl) (rs := [95]) (by rfl) n0WiA (fun base => ⟨
                          ⟨rfl, rfl, by
                           refine n_load rfl ti28 n0WiA n0WiA rfl n0WiA ?_
                           exact AOps.nil ⟨rfl, rfl, rfl⟩⟩,
                          ⟨rfl, rfl, by
                           refine n_load rfl ti28 n0WiA n0WiA rfl n0WiA ?_
                           exact AOps.nil ⟨rfl, rfl, rfl⟩⟩,
                          ⟨rfl, rfl, by
                           refine n_load rfl ti28 n0WiA n0WiA rfl n0WiA ?_
                           exact AOps.nil ⟨rfl, rfl, rfl⟩⟩,
                          trivial⟩) ?_
                         refine Walk.casesC [(15, [17]), (17, [19]), (19, [21]), (6, [21]), (21, [23]), (23, [25]), (25, [27])] [([false, false, false, false, false, false, false], (B10 a), (B10 a)), ([true, false, false, false, false, false, false], (B11 a), (B11 a)), ([true, true, false, false, false, false, false], (B15 a), (B15 a)), ([true, true, true, false, false, false, false], (B21 a), (B21 a))] (by rfl) (by kernel_rfl) (rs := [1]) (by rfl) n0WiA (fun base => ⟨
                          ⟨rfl, rfl, by
                           refine n_fieldAddr rfl fd33_3 ti2 rfl n0WiA rfl n0WiA ?_
                           exact AOps.nil ⟨rfl, rfl, rfl⟩⟩,
                          ⟨rfl, rfl, by
                           refine n_fieldAddr rfl fd33_3 ti2 rfl n0WiA rfl n0WiA ?_
                           exact AOps.nil ⟨rfl, rfl, rfl⟩⟩,
                          ⟨rfl, rfl, by
                           refine n_fieldAddr rfl fd33_3 ti2 rfl n0WiA rfl n0WiA ?_
                           exact AOps.nil ⟨rfl, rfl, rfl⟩⟩,
                          ⟨rfl, rfl, by
                           refine n_fieldAddr rfl fd33_3 ti2 rfl n0WiA rfl n0WiA ?_
                           exact AOps.nil ⟨rfl, rfl, rfl⟩⟩,
                          trivial⟩) ?_
                         refine Walk.casesC [(15, [17]), (17, [19]), (19, [21]), (7, [21]), (21, [23]), (23, [25]), (25, [27])] [([false, false, false, false, false, false, false], (B10 a), (B10 a)), ([true, false, false, false, false, false, false], (B11 a), (B11 a)), ([true, true, false, false, false, false, false], (B15 a), (B15 a)), ([true, true, true, false, false, false, false], (B21 a), (B21 a))] (by rfl) (by kernel_rfl) (rs := [97]) (by rfl) n0WiA (fun base => ⟨
                          ⟨rfl, rfl, by
                           refine n_load rfl ti2 n0WiA n0WiA rfl n0WiA ?_
                           exact AOps.nil ⟨rfl, rfl, rfl⟩⟩,
                          ⟨rfl, rfl, by
                           refine n_load rfl ti2 n0WiA n0WiA rfl n0WiA ?_
                           exact AOps.nil ⟨rfl, rfl, rfl⟩⟩,
                          ⟨rfl, rfl, by
                           refine n_load rfl ti2 n0WiA n0WiA rfl n0WiA ?_
                           exact AOps.nil ⟨rfl, rfl, rfl⟩⟩,
                          ⟨rfl, rfl, by
                           refine n_load rfl ti2 n0WiA n0WiA rfl n0WiA ?_
                           exact AOps.nil ⟨rfl, rfl, rfl⟩⟩,
                          trivial⟩) ?_
                         refine Walk.casesC [(15, [17]), (17, [19]), (19, [21]), (21, [23]), (8, [23]), (23, [25]), (25, [27])] [([false, false, false, false, false, false, false], (B10 a), (B10 a)), ([true, false, false, false, false, false, false], (B11 a), (B11 a)), ([true, true, false, false, false, false, false], (B15 a), (B15 a)), ([true, true, true, false, false, false, false], (B21 a), (B21 a)), ([true, true, true, true, false, false, false], (B22 a), (B22 a))] (by rfl) (by kernel_rfl) (rs := [1]) (by rfl) n0WiA (fun base => ⟨
                          ⟨rfl, rfl, by
                           refine n_fieldAddr rfl fd33_10 ti2 rfl n0WiA rfl n0WiA ?_
                           exact AOps.nil ⟨rfl, rfl, rfl⟩⟩,
                          ⟨rfl, rfl, by
                           refine n_fieldAddr rfl fd33_10 ti2 rfl n0WiA rfl n0WiA ?_
                           exact AOps.nil ⟨rfl, rfl, rfl⟩⟩,
                          ⟨rfl, rfl, by
                           refine n_fieldAddr rfl fd33_10 ti2 rfl n0WiA rfl n0WiA ?_
                           exact AOps.nil ⟨rfl, rfl, rfl⟩⟩,
                          ⟨rfl, rfl, by
                           refine n_fieldAddr rfl fd33_10 ti2 rfl n0WiA rfl n0WiA ?_
                           exact AOps.nil ⟨rfl, rfl, rfl⟩⟩,
                          ⟨rfl, rfl, by
                           refine n_fieldAddr rfl fd33_10 ti2 rfl n0WiA rfl n0WiA ?_
                           exact AOps.nil ⟨rfl, rfl, rfl⟩⟩,
                          trivial⟩) ?_
                         refine Walk.casesC [(15, [17]), (17, [19]), (19, [21]), (21, [23]), (9, [23]), (23, [25]), (25, [27])] [([false, false, false, false, false, false, false], (B10 a), (B10 a)), ([true, false, false, false, false, false, false], (B11 a), (B11 a)), ([true, true, false, false, false, false, false], (B15 a), (B15 a)), ([true, true, true, false, false, false, false], (B21 a), (B21 a)), ([true, true, true, true, false, false, false], (B22 a), (B22 a))] (by rfl) (by kernel_rfl) (rs := [99]) (by rfl) n0WiA (fun base => ⟨
                          ⟨rfl, rfl, by
                           refine n_load rfl ti2 n0WiA n0WiA rfl n0WiA ?_
                           exact AOps.nil ⟨rfl, rfl, rfl⟩⟩,
                          ⟨rfl, rfl, by
                           refine n_load rfl ti2 n0WiA n0WiA rfl n0WiA ?_
                           exact AOps.nil ⟨rfl, rfl, rfl⟩⟩,
                          ⟨rfl, rfl, by
                           refine n_load rfl ti2 n0WiA n0WiA rfl n0WiA ?_
                           exact AOps.nil ⟨rfl, rfl, rfl⟩⟩,
                          ⟨rfl, rfl, by
                           refine n_load rfl ti2 n0WiA n0WiA rfl n0WiA ?_
                           exact AOps.nil ⟨rfl, rfl, rfl⟩⟩,
                          ⟨rfl, rfl, by
                           refine n_load rfl ti2 n0WiA n0WiA rfl n0WiA ?_
                           exact AOps.nil ⟨rfl, rfl, rfl⟩⟩,
                          trivial⟩) ?_
                         refine Walk.casesC [(15, [17]), (17, [19]), (19, [21]), (21, [23]), (23, [25]), (10, [25]), (25, [27])] [([false, false, false, false, false, false, false], (B10 a), (B10 a)), ([true, false, false, false, false, false, false], (B11 a), (B11 a)), ([true, true, false, false, false, false, false], (B15 a), (B15 a)), ([true, true, true, false, false, false, false], (B21 a), (B21 a)), ([true, true, true, true, false, false, false], (B22 a), (B22 a)), ([true, true, true, true, true, false, false], (B23 a), (B23 a))] (by rfl) (by kernel_rfl) (rs := [1]) (by rfl) n0WiA (fun base => ⟨
                          ⟨rfl, rfl, by
                           refine n_fieldAddr rfl fd33_11 ti24 rfl n0WiA rfl n0WiA ?_
                           exact AOps.nil ⟨rfl, rfl, rfl⟩⟩,
                          ⟨rfl, rfl, by
                           refine n_fieldAddr rfl fd33_11 ti24 rfl n0WiA rfl n0WiA ?_
                           exact AOps.nil ⟨rfl, rfl, rfl⟩⟩,
                          ⟨rfl, rfl, by
                           refine n_fieldAddr rfl fd33_11 ti24 rfl n0WiA rfl n0WiA ?_
                           exact AOps.nil ⟨rfl, rfl, rfl⟩⟩,
                          ⟨rfl, rfl, by
                           refine n_fieldAddr rfl fd33_11 ti24 rfl n0WiA rfl n0WiA ?_
                           exact AOps.nil ⟨rfl, rfl, rfl⟩⟩,
                          ⟨rfl, rfl, by
                           refine n_fieldAddr rfl fd33_11 ti24 rfl n0WiA rfl n0WiA ?_
                           exact AOps.nil ⟨rfl, rfl, rfl⟩⟩,
                          ⟨rfl, rfl, by
                           refine n_fieldAddr rfl fd33_11 ti24 rfl n0WiA rfl n0WiA ?_
                           exact AOps.nil ⟨rfl, rfl, rfl⟩⟩,
                          trivial⟩) ?_
                         refine Walk.casesC [(15, [17]), (17, [19]), (19, [21]), (21, [23]), (23, [25]), (11, [25]), (25, [27])] [([false, false, false, false, false, false, false], (B10 a), (B10 a)), ([true, false, false, false, false, false, false], (B11 a), (B11 a)), ([true, true, false, false, false, false, false], (B15 a), (B15 a)), ([true, true, true, false, false, false, false], (B21 a), (B21 a)), ([true, true, true, true, false, false, false], (B22 a), (B22 a)), ([true, true, true, true, true, false, false], (B23 a), (B23 a))] (by rfl) (by kernel_rfl) (rs := [101]) (by rfl) n0WiA (fun base => ⟨
                          ⟨rfl, rfl, by
                           refine n_load rfl ti24 n0WiA n0WiA rfl n0WiA ?_
                           exact AOps.nil ⟨rfl, rfl, rfl⟩⟩,
                          ⟨rfl, rfl, by
                           refine n_load rfl ti24 n0WiA n0WiA rfl n0WiA ?_
                           exact AOps.nil ⟨rfl, rfl, rfl⟩⟩,
                          ⟨rfl, rfl, by
                           refine n_load rfl ti24 n0WiA n0WiA rfl n0WiA ?_
                           exact AOps.nil ⟨rfl, rfl, rfl⟩⟩,
                          ⟨rfl, rfl, by
                           refine n_load rfl ti24 n0WiA n0WiA rfl n0WiA ?_
                           exact AOps.nil ⟨rfl, rfl, rfl⟩⟩,
                          ⟨rfl, rfl, by
                           refine n_load rfl ti24 n0WiA n0WiA rfl n0WiA ?_
                           exact AOps.nil ⟨rfl, rfl, rfl⟩⟩,
                          ⟨rfl, rfl, by
                           refine n_load rfl ti24 n0WiA n0WiA rfl n0WiA ?_
                           exact AOps.nil ⟨rfl, rfl, rfl⟩⟩,
                          trivial⟩) ?_
                         refine Walk.casesC [(15, [17]), (17, [19]), (19, [21]), (21, [23]), (23, [25]), (25, [27]), (12, [27])] [([false, false, false, false, false, false, false], (B10 a), (B10 a)), ([true, false, false, false, false, false, false], (B11 a), (B11 a)), ([true, true, false, false, false, false, false], (B15 a), (B15 a)), ([true, true, true, false, false, false, false], (B21 a), (B21 a)), ([true, true, true, true, false, false, false], (B22 a), (B22 a)), ([true, true, true, true, true, false, false], (B23 a), (B23 a)), ([true, true, true, true, true, true, false], (B24 a), (B24 a))] (by rfl) (by kernel_rfl) (rs := [1]) (by rfl) n0WiA (fun base => ⟨
                          ⟨rfl, rfl, by
                           refine n_fieldAddr rfl fd33_7 ti22 rfl n0WiA rfl n0WiA ?_
                           exact AOps.nil ⟨rfl, rfl, rfl⟩⟩,
                          ⟨rfl, rfl, by
                           refine n_fieldAddr rfl fd33_7 ti22 rfl n0WiA rfl n0WiA ?_
                           exact AOps.nil ⟨rfl, rfl, rfl⟩⟩,
                          ⟨rfl, rfl, by
                           refine n_fieldAddr rfl fd33_7 ti22 rfl n0WiA rfl n0WiA ?_
                           exact AOps.nil ⟨rfl, rfl, rfl⟩⟩,
                          ⟨rfl, rfl, by
                           refine n_fieldAddr rfl fd33_7 ti22 rfl n0WiA rfl n0WiA ?_
                           exact AOps.nil ⟨rfl, rfl, rfl⟩⟩,
                          ⟨rfl, rfl, by
                           refine n_fieldAddr rfl fd33_7 ti22 rfl n0WiA rfl n0WiA ?_
                           exact AOps.nil ⟨rfl, rfl, rfl⟩⟩,
                          ⟨rfl, rfl, by
                           refine n_fieldAddr rfl fd33_7 ti22 rfl n0WiA rfl n0WiA ?_
                           exact AOps.nil ⟨rfl, rfl, rfl⟩⟩,
                          ⟨rfl, rfl, by
                           refine n_fieldAddr rfl fd33_7 ti22 rfl n0WiA rfl n0WiA ?_
                           exact AOps.nil ⟨rfl, rfl, rfl⟩⟩,
                          trivial⟩) ?_
                         refine Walk.casesC [(15, [17]), (17, [19]), (19, [21]), (21, [23]), (23, [25]), (25, [27]), (13, [27])] [([false, false, false, false, false, false, false], (B10 a), (B10 a)), ([true, false, false, false, false, false, false], (B11 a), (B11 a)), ([true, true, false, false, false, false, false], (B15 a), (B15 a)), ([true, true, true, false, false, false, false], (B21 a), (B21 a)), ([true, true, true, true, false, false, false], (B22 a), (B22 a)), ([true, true, true, true, true, false, false], (B23 a), (B23 a)), ([true, true, true, true, true, true, false], (B24 a), (B24 a))] (by rfl) (by kernel_rfl) (rs := [103]) (by rfl) n0WiA (fun base => ⟨
                          ⟨rfl, rfl, by
                           refine n_load rfl ti22 n0WiA n0WiA rfl n0WiA ?_
                           exact AOps.nil ⟨rfl, rfl, rfl⟩⟩,
                          ⟨rfl, rfl, by
                           refine n_load rfl ti22 n0WiA n0WiA rfl n0WiA ?_
                           exact AOps.nil ⟨rfl, rfl, rfl⟩⟩,
                          ⟨rfl, rfl, by
                           refine n_load rfl ti22 n0WiA n0WiA rfl n0WiA ?_
                           exact AOps.nil ⟨rfl, rfl, rfl⟩⟩,
                          ⟨rfl, rfl, by
                           refine n_load rfl ti22 n0WiA n0WiA rfl n0WiA ?_
                           exact AOps.nil ⟨rfl, rfl, rfl⟩⟩,
                          ⟨rfl, rfl, by
                           refine n_load rfl ti22 n0WiA n0WiA rfl n0WiA ?_
                           exact AOps.nil ⟨rfl, rfl, rfl⟩⟩,
                          ⟨rfl, rfl, by
                           refine n_load rfl ti22 n0WiA n0WiA rfl n0WiA ?_
                           exact AOps.nil ⟨rfl, rfl, rfl⟩⟩,
                          ⟨rfl, rfl, by
                           refine n_load rfl ti22 n0WiA n0WiA rfl n0WiA ?_
                           exact AOps.nil ⟨rfl, rfl, rfl⟩⟩,
                          trivial⟩) ?_
                         refine Walk.casesC [(14, [15]), (15, [17]), (17, [19]), (19, [21]), (21, [23]), (23, [25]), (25, [27])] [([false, false, false, false, false, false, false], (B10 a), (B10 a))] (by rfl) (by kernel_rfl) (rs := [4]) (by rfl) n0WiA (fun base => ⟨
                          ⟨rfl, rfl, by
                           refine n_fieldAddr rfl fd33_2 ti2 rfl n0WiA rfl n0WiA ?_
                           exact AOps.nil ⟨rfl, rfl, rfl⟩⟩,
                          trivial⟩) ?_
                         refine Walk.casesC [(15, [17]), (17, [19]), (19, [21]), (21, [23]), (23, [25]), (25, [27])] (d := .any) [([false, false, false, false, false, false, false], (B10 a), (B11 a))] (by rfl) (by kernel_rfl) (rs := [105, 92]) (by rfl) n0WiA (fun base => ⟨
                          ⟨rfl, rfl, by
                           refine n_store ti2 n0WiA rfl n0WiA rfl n0WiA rfl rfl rfl n0WiA ?_
                           exact AOps.nil ⟨rfl, rfl, rfl⟩⟩,
                          trivial⟩) ?_
                         refine Walk.casesC [(15, [17]), (16, [17]), (17, [19]), (19, [21]), (21, [23]), (23, [25]), (25, [27]), (15, [16])] [([true, false, false, false, false, false, false], (B11 a), (B11 a))] (by rfl) (by kernel_rfl) (rs := [4]) (by rfl) n0WiA (fun base => ⟨
                          ⟨rfl, rfl, by
                           refine n_fieldAddr rfl fd33_5 ti3 rfl n0WiA rfl n0WiA ?_
                           exact AOps.nil ⟨rfl, rfl, rfl⟩⟩,
                          trivial⟩) ?_
                         refine Walk.casesC [(15, [17]), (17, [19]), (19, [21]), (21, [23]), (23, [25]), (25, [27])] (d := .any) [([true, false, false, false, false, false, false], (B11 a), (B15 a))] (by rfl) (by kernel_rfl) (rs := [106, 94]) (by rfl) n0WiA (fun base => ⟨
                          ⟨rfl, rfl, by
                           refine n_store ti3 n0WiA rfl n0WiA rfl n0WiA rfl rfl rfl n0WiA ?_
                           exact AOps.nil ⟨rfl, rfl, rfl⟩⟩,
                          trivial⟩) ?_
                         refine Walk.casesC [(15, [17]), (17, [19]), (18, [19]), (19, [21]), (21, [23]), (23, [25]), (25, [27]), (17, [18])] [([true, true, false, false, false, false, false], (B15 a), (B15 a))] (by rfl) (by kernel_rfl) (rs := [4]) (by rfl) n0WiA (fun base => ⟨
                          ⟨rfl, rfl, by
                           refine n_fieldAddr rfl fd33_9 ti28 rfl n0WiA rfl n0WiA ?_
                           exact AOps.nil ⟨rfl, rfl, rfl⟩⟩,
                          trivial⟩) ?_
                         refine Walk.casesC [(15, [17]), (17, [19]), (19, [21]), (21, [23]), (23, [25]), (25, [27])] (d := .any) [([true, true, false, false, false, false, false], (B15 a), (B21 a))] (by rfl) (by kernel_rfl) (rs := [107, 96]) (by rfl) n0WiA (fun base => ⟨
                          ⟨rfl, rfl, by
                           refine n_store ti28 n0WiA rfl n0WiA rfl n0WiA rfl rfl rfl n0WiA ?_
                           exact AOps.nil ⟨rfl, rfl, rfl⟩⟩,
                          trivial⟩) ?_
                         refine Walk.casesC [(15, [17]), (17, [19]), (19, [21]), (20, [21]), (21, [23]), (23, [25]), (25, [27]), (19, [20])] [([true, true, true, false, false, false, false], (B21 a), (B21 a))] (by rfl) (by kernel_rfl) (rs := [4]) (by rfl) n0WiA (fun base => ⟨
                          ⟨rfl, rfl, by
                           refine n_fieldAddr rfl fd33_3 ti2 rfl n0WiA rfl n0WiA ?_
                           exact AOps.nil ⟨rfl, rfl, rfl⟩⟩,
                          trivial⟩) ?_
                         refine Walk.casesC [(15, [17]), (17, [19]), (19, [21]), (21, [23]), (23, [25]), (25, [27])] (d := .any) [([true, true, true, false, false, false, false], (B21 a), (B22 a))] (by rfl) (by kernel_rfl) (rs := [108, 98]) (by rfl) n0WiA (fun base => ⟨
                          ⟨rfl, rfl, by
                           refine n_store ti2 n0WiA rfl n0WiA rfl n0WiA rfl rfl rfl n0WiA ?_
                           exact AOps.nil ⟨rfl, rfl, rfl⟩⟩,
                          trivial⟩) ?_
                         refine Walk.casesC [(15, [17]), (17, [19]), (19, [21]), (21, [23]), (22, [23]), (23, [25]), (25, [27]), (21, [22])] [([true, true, true, true, false, false, false], (B22 a), (B22 a))] (by rfl) (by kernel_rfl) (rs := [4]) (by rfl) n0WiA (fun base => ⟨
                          ⟨rfl, rfl, by
                           refine n_fieldAddr rfl fd33_10 ti2 rfl n0WiA rfl n0WiA ?_
                           exact AOps.nil ⟨rfl, rfl, rfl⟩⟩,
                          trivial⟩) ?_
                         refine Walk.casesC [(15, [17]), (17, [19]), (19, [21]), (21, [23]), (23, [25]), (25, [27])] (d := .any) [([true, true, true, true, false, false, false], (B22 a), (B23 a))] (by rfl) (by kernel_rfl) (rs := [109, 100]) (by rfl) n0WiA (fun base => ⟨
                          ⟨rfl, rfl, by
                           refine n_store ti2 n0WiA rfl n0WiA rfl n0WiA rfl rfl rfl n0WiA ?_
                           exact AOps.nil ⟨rfl, rfl, rfl⟩⟩,
                          trivial⟩) ?_
                         refine Walk.casesC [(15, [17]), (17, [19]), (19, [21]), (21, [23]), (23, [25]), (24, [25]), (25, [27]), (23, [24])] [([true, true, true, true, true, false, false], (B23 a), (B23 a))] (by rfl) (by kernel_rfl) (rs := [4]) (by rfl) n0WiA (fun base => ⟨
                          ⟨rfl, rfl, by
                           refine n_fieldAddr rfl fd33_11 ti24 rfl n0WiA rfl n0WiA ?_
                           exact AOps.nil ⟨rfl, rfl, rfl⟩⟩,
                          trivial⟩) ?_
                         refine Walk.casesC [(15, [17]), (17, [19]), (19, [21]), (21, [23]), (23, [25]), (25, [27])] (d := .any) [([true, true, true, true, true, false, false], (B23 a), (B24 a))] (by rfl) (by kernel_rfl) (rs := [110, 102]) (by rfl) n0WiA (fun base => ⟨
                          ⟨rfl, rfl, by
                           refine n_store ti24 n0WiA rfl n0WiA rfl n0WiA rfl rfl rfl n0WiA ?_
                           exact AOps.nil ⟨rfl, rfl, rfl⟩⟩,
                          trivial⟩) ?_
                         refine Walk.casesC [(15, [17]), (17, [19]), (19, [21]), (21, [23]), (23, [25]), (25, [27]), (26, [27]), (25, [26])] [([true, true, true, true, true, true, false], (B24 a), (B24 a))] (by rfl) (by kernel_rfl) (rs := [4]) (by rfl) n0WiA (fun base => ⟨
                          ⟨rfl, rfl, by
                           refine n_fieldAddr rfl fd33_7 ti22 rfl n0WiA rfl n0WiA ?_
                           exact AOps.nil ⟨rfl, rfl, rfl⟩⟩,
                          trivial⟩) ?_
                         refine Walk.casesC [(15, [17]), (17, [19]), (19, [21]), (21, [23]), (23, [25]), (25, [27])] (d := .any) [([true, true, true, true, true, true, false], (B24 a), (B25 a))] (by rfl) (by kernel_rfl) (rs := [111, 104]) (by rfl) n0WiA (fun base => ⟨
                          ⟨rfl, rfl, by
                           refine n_store ti22 n0WiA rfl n0WiA rfl n0WiA rfl rfl rfl n0WiA ?_
                           exact AOps.nil ⟨rfl, rfl, rfl⟩⟩,
                          trivial⟩) ?_
                         refine Walk.done ?_
                         refine AWP.sr ?_
                         refine n_load rfl ti33 n0WiA n0WiA rfl n0WiA ?_
                         refine n_store ti33 n0WiA rfl n0WiA rfl n0WiA rfl rfl rfl n0WiA ?_
                         refine n_assign rfl n0WiA ?_
                         refine AOps.nil ?_
                         refine AWP.ret ?_
                         refine fin_pure (.cons (rv_cell ti33 n0WiA n0WiA rfl n0WiA) (.cons (rv_tmp n0WiA) .nil)) n0WiA ?_
                         first | (rw [hB]; exact .tup rfl (RenAll.get (.cons (.agg rfl (RenAll.get r2WiA)) (.cons (ren_flat rfl (congrArg vb (by unfold kindW; simp; omega))) .nil)))) | exact .lf (.tup (lf_cons (wz_lf _) (lf_cons (.val _) lf_nil)))
                       · try simp only [nh] at hc16
                         refine AWP.sr ?_
                         refine n_load rfl ti33 n0WiA n0WiA rfl n0WiA ?_
                         refine n_load rfl ti33 n0WiA n0WiA rfl n0WiA ?_
                         refine n_call0B rfl cf64 rfl e1WiA (by repeat (first | exact .nil | refine .cons ?_ ?_ | exact ren_ints | exact .lf (.val _) | exact .lf (lf_ints (.inl rfl)) | exact .bp ⟨rfl, rfl⟩ | exact .bp (.inl ⟨rfl, rfl⟩) | exact .bp (.inr ⟨rfl, rfl⟩) | exact .lf (wz_lf _) | exact .agg rfl (RenAll.get r2WiA) | exact ren_mapG qt_lf | exact .lf (.agg (qt_lf _)) | exact .lf (txz_lf _) | exact ren_bys0 rfl | exact .lf lf_fnz | exact ren_map (f := q1) (fun _ => rfl) | exact ren_map (f := q2) (fun _ => rfl) | exact ren_map (f := q4) (fun _ => rfl) | exact .lf (D.flat_lf rfl) | exact ren_lits rfl)) (l_regional a (by omega)) (by first | exact .val _ | exact lf_ints (.inl rfl) | exact lf_ints (.inr rfl) | exact .any | exact .tup (lf_cons (wz_lf _) (lf_cons (.val _) lf_nil)) | exact wz_lf _ | exact .tup (lf_cons (lf_ints (.inl rfl)) (lf_cons (.val _) lf_nil)) | exact .agg (qt_lf _) | exact D.flat_lf rfl) ?_
                         refine n_extract rfl n0WiA rfl ?_
                         refine n_extract rfl n0WiA rfl ?_
                         refine n_store ti33 n0WiA rfl n0WiA rfl n0WiA rfl rfl rfl n0WiA ?_
                         refine n_assign rfl n0WiA ?_
                         refine AOps.nil ?_
                         refine AWP.ret ?_
                         refine fin_pure (.cons (rv_cell ti33 n0WiA n0WiA rfl n0WiA) (.cons (rv_tmp n0WiA) .nil)) n0WiA ?_
                         first | (rw [hB]; exact .tup rfl (RenAll.get (.cons (.agg rfl (RenAll.get r2WiA)) (.cons (ren_flat rfl (congrArg vb (by unfold kindW; simp; omega))) .nil)))) | exact .lf (.tup (lf_cons (wz_lf _) (lf_cons (.val _) lf_nil)))

end Go.Proofs.YtanfmpkjcoolmaaGreat.Wi
