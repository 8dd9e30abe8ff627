/- The hello message. -/
import Derived.Test.YtanfmpkjcoolmaaGreatWbA
import Derived.Test.YtanfmpkjcoolmaaGreatHelloPlain
set_option linter.unusedVariables false
set_option linter.unusedSimpArgs false
namespace Go.Proofs.YtanfmpkjcoolmaaGreat.Wc
open Go Go.Abs Go.Proofs.YtanfmpkjcoolmaaGreat.Pk Wa Wb
attribute [local irreducible] AWP AOps Does

theorem nrWcA0 {α : Type} {a b : α} (h : a = b := by first|simp only[nf,Nat.beq]<;>rfl|rfl) : a = b := h
theorem lfWcA0 {d : D} (h : LF d := by first | exact .val _ | exact lf_ints (.inl rfl) | exact lf_ints (.inr rfl) | exact .any | exact wz_lf _ | exact .tup (lf_cons (wz_lf _) (lf_cons (.val _) lf_nil)) | exact .agg (qt_lf _) | exact D.flat_lf rfl) : LF d := h
theorem cf10 : CF Tryz.prog 10 := ⟨_, Tryz.func10, by kernel_rfl, by kernel_rfl⟩
theorem cf104 : CF Tryz.prog 104 := ⟨_, Tryz.func104, by kernel_rfl, by kernel_rfl⟩
theorem cf105 : CF Tryz.prog 105 := ⟨_, Tryz.func105, by kernel_rfl, by kernel_rfl⟩
theorem cf38 : CF Tryz.prog 38 := ⟨_, Tryz.func38, by kernel_rfl, by kernel_rfl⟩
theorem cf39 : CF Tryz.prog 39 := ⟨_, Tryz.func39, by kernel_rfl, by kernel_rfl⟩
theorem cf40 : CF Tryz.prog 40 := ⟨_, Tryz.func40, by kernel_rfl, by kernel_rfl⟩
theorem cf64 : CF Tryz.prog 64 := ⟨_, Tryz.func64, by kernel_rfl, by kernel_rfl⟩
theorem cf65 : CF Tryz.prog 65 := ⟨_, Tryz.func65, by kernel_rfl, by kernel_rfl⟩
theorem cf66 : CF Tryz.prog 66 := ⟨_, Tryz.func66, by kernel_rfl, by kernel_rfl⟩
theorem cf87 : CF Tryz.prog 87 := ⟨_, Tryz.func87, by kernel_rfl, by kernel_rfl⟩
theorem cf88 : CF Tryz.prog 88 := ⟨_, Tryz.func88, by kernel_rfl, by kernel_rfl⟩
theorem cf89 : CF Tryz.prog 89 := ⟨_, Tryz.func89, by kernel_rfl, by kernel_rfl⟩
theorem fd33_0 : FD Tryz.prog 33 0 3 0 := ⟨_, _, Tryz.underlying33, rfl, rfl, rfl⟩
theorem fd33_1 : FD Tryz.prog 33 1 3 1 := ⟨_, _, Tryz.underlying33, rfl, rfl, rfl⟩
theorem fd33_3 : FD Tryz.prog 33 3 2 3 := ⟨_, _, Tryz.underlying33, rfl, rfl, rfl⟩
theorem si33 : SI Tryz.prog 33 #[(0, 1), (1, 1), (2, 1), (3, 1), (4, 1), (5, 1), (6, 1), (7, 1), (8, 5), (13, 2), (15, 1), (16, 1), (17, 1), (18, 1), (19, 1), (20, 1), (21, 1), (22, 1), (23, 1)] (.agg #[.int .i64 0, .int .i64 0, .int .i64 0, .int .i64 0, .int .i64 0, .int .i64 0, .bool false, .int .i64 0, .int .i64 0, .int .i64 0, .int .i64 0, .slice none 0 0, .slice none 0 0, .int .i64 0, .int .i64 0, .int .i64 0, .slice none 0 0, .int .i64 0, .slice none 0 0, .int .i64 0, .int .i64 0, .slice none 0 0, .int .i64 0, .slice none 0 0]) := ⟨⟨_, Tryz.underlying33, fun w => by kernel_rfl⟩, by kernel_rfl⟩
theorem ti2 : TI Tryz.prog 2 1 false := ⟨by kernel_rfl, by kernel_rfl⟩
theorem ti3 : TI Tryz.prog 3 1 false := ⟨by kernel_rfl, by kernel_rfl⟩
theorem ti33 : TI Tryz.prog 33 24 true := ⟨by kernel_rfl, by kernel_rfl⟩
theorem zi2 : (Tryz.prog.info? 2).map (·.zero) = some (some (.int .i64 0)) := by kernel_rfl
theorem zi33 : (Tryz.prog.info? 33).map (·.zero) = some (some (.agg #[.int .i64 0, .int .i64 0, .int .i64 0, .int .i64 0, .int .i64 0, .int .i64 0, .bool false, .int .i64 0, .int .i64 0, .int .i64 0, .int .i64 0, .slice none 0 0, .slice none 0 0, .int .i64 0, .int .i64 0, .int .i64 0, .slice none 0 0, .int .i64 0, .slice none 0 0, .int .i64 0, .int .i64 0, .slice none 0 0, .int .i64 0, .slice none 0 0])) := by kernel_rfl

theorem num1 (n : Int) : Does Tryz.prog 89 [vi n] [] (vb (!numN n)) [] := by
  refine Does.of_body (rvs := [.tmp 2]) Tryz.func89 rfl rfl rfl rfl ?_
  refine AWP.seq ?_
  refine AWP.region ?_
  refine n_assign rfl nrWcA0 ?_
  refine AOps.nil ?_
  refine AWP.seq ?_
  refine AWP.region ?_
  refine n_move rfl nrWcA0 ?_
  refine n_ibin rfl nrWcA0 nrWcA0 rfl ?_
  refine n_move rfl nrWcA0 ?_
  refine AOps.name (u := 5) (fun z => .val (.bool z)) nrWcA0 (fun b5 hb5 => ?_)
  refine n_soft (u := 5) (E := .val (.bool b5)) (!b5) rfl rfl rfl nrWcA0 (by cases b5 <;> first | (intro _; rfl) | (intro h; exact absurd h (by decide))) (by cases b5 <;> first | (intro h; exact absurd h (by decide)) | (intro _; exact ⟨_, rfl, by first | (intro h; cases h; done) | decide | simp⟩)) (fun h => by
      cases b5 with
      | true => exact absurd h (by first | decide | simp)
      | false =>
        refine n_move rfl nrWcA0 ?_
        exact AOps.nil ⟨rfl, rfl, rfl⟩) ?_
  refine n_soft (u := 5) (E := .val (.bool b5)) (!b5) rfl rfl rfl nrWcA0 (by cases b5 <;> first | (intro _; rfl) | (intro h; exact absurd h (by decide))) (by cases b5 <;> first | (intro h; exact absurd h (by decide)) | (intro _; exact ⟨_, rfl, by first | (intro h; cases h; done) | decide | simp⟩)) (fun h => by
      cases b5 with
      | true => exact absurd h (by first | decide | simp)
      | false =>
        refine n_ibin rfl nrWcA0 nrWcA0 rfl ?_
        exact AOps.nil ⟨rfl, rfl, rfl⟩) ?_
  refine n_pick_or rfl nrWcA0 (fun h => by cases b5 with | true => exact absurd h (by decide) | false => exact nrWcA0) ?_
  refine n_assign rfl nrWcA0 ?_
  subst hb5
  refine AOps.nil ?_
  refine AWP.ret ?_
  refine fin_pure (.cons (rv_tmp nrWcA0) .nil) nrWcA0 ?_
  exact ren_flat rfl (congrArg vb (by unfold numN; (try simp); grind))

theorem idxf (l : List Int) (hl : l.length ≤ 1048576) (hk : ∀ n ∈ l, numN n = true) : Does Tryz.prog 105 [(.sl none (l.map q1) .ro), (.fn (.func 89) [] [])] [] (vi (-1)) [] := by
  refine Does.of_body (rvs := [.tmp 4]) Tryz.func105 rfl rfl rfl rfl ?_
  refine AWP.seq ?_
  refine AWP.region ?_
  refine n_assign rfl nrWcA0 ?_
  refine AOps.nil ?_
  refine AWP.seq ?_
  refine AWP.seq ?_
  refine AWP.region ?_
  refine n_move rfl nrWcA0 ?_
  refine n_len rfl Tryz.underlying24 nrWcA0 (by first | rw [ints_length] | rw [List.length_map] | rfl) ?_
  refine n_move rfl nrWcA0 ?_
  refine AOps.nil ?_
  refine AWP.block ?_
  refine AWP.loop (α := Nat) (fun i => i ≤ l.length) (fun i => put (put (put (put empty 0 (.sl none (l.map q1) .ro)) 1 (.fn (.func 89) [] [])) 7 (vi (l.length : Int))) 8 (vi (i : Int))) (fun _ => []) (fun i => l.length - i) 0 ?_ ?_ ?_ ?_
  · exact Nat.zero_le _
  · (repeat (first | exact FLe.empty _ | refine FLe.put ?_ ?_)) <;> first | (simp only [nf, Nat.beq]; done) | rfl | ((try simp only [nf, Nat.beq]); first | rfl | (simp only [List.length_map]; done) | (congr 2; omega; done))
  · rfl
  · intro i hi
    try dsimp only at hi ⊢
    refine AWP.seq ?_
    refine AWP.region ?_
    refine n_ibin rfl nrWcA0 nrWcA0 rfl ?_
    refine AOps.nil ?_
    refine AWP.seq ?_
    refine AWP.cond nrWcA0 (fun hc1 => ?_) (fun hc1 => ?_)
    · try simp only [nh] at hc1
      obtain ⟨x, hx0⟩ : ∃ x, l[i]? = some x := ⟨_, List.getElem?_eq_getElem (by omega)⟩
      have hx := map_at q1 hx0
      have hxk := hk x (List.mem_of_getElem? hx0)
      have hn1 := num1 x
      rw [hxk] at hn1
      refine AWP.skip ?_
      refine AWP.seq ?_
      refine AWP.block ?_
      refine AWP.seq ?_
      refine AWP.region ?_
      refine n_move rfl nrWcA0 ?_
      refine n_assign rfl nrWcA0 ?_
      refine AOps.nil ?_
      refine AWP.seq ?_
      refine AWP.region ?_
      refine n_move rfl nrWcA0 ?_
      refine n_move rfl nrWcA0 ?_
      refine n_move rfl nrWcA0 ?_
      refine n_indexAddr rfl Tryz.underlying24 ti2 rfl nrWcA0 nrWcA0 (by omega) (by exact hx) rfl ?_
      refine n_load rfl ti2 nrWcA0 nrWcA0 rfl nrWcA0 ?_
      refine n_call0B rfl cf89 rfl (Eq.trans (by simp only [nl] <;> rfl) nrWcA0) (by repeat (first | exact .nil | refine .cons ?_ ?_ | exact ren_ints | exact .lf (.val _) | exact .lf (lf_ints (.inl rfl)) | exact .bp ⟨rfl, rfl⟩ | exact .bp (.inl ⟨rfl, rfl⟩) | exact .bp (.inr ⟨rfl, rfl⟩) | exact .lf (wz_lf _) | exact .agg rfl (RenAll.get (by repeat (first | exact .nil | refine .cons ?_ ?_ | exact .lf (.val _) | exact ren_map (f := q1) (fun _ => rfl) | exact ren_map (f := q2) (fun _ => rfl) | exact ren_map (f := q4) (fun _ => rfl) | exact ren_mapG qt_lf | exact .ro (fun x h => by cases h) | exact ren_ints))) | exact .lf (txz_lf _) | exact ren_mapG qt_lf | exact .lf lf_fnz | exact .lf (.agg (qt_lf _)) | exact .lf lf_fnz | exact ren_map (f := q1) (fun _ => rfl) | exact ren_map (f := q2) (fun _ => rfl) | exact ren_map (f := q4) (fun _ => rfl) | exact .lf (D.flat_lf rfl) | exact ren_lits rfl | exact ren_ints)) (hn1) lfWcA0 ?_
      refine AOps.nil ?_
      refine AWP.cond_false nrWcA0 ?_
      refine AWP.skip ?_
      refine AWP.region ?_
      first | refine n_iadd rfl nrWcA0 nrWcA0 rfl (by omega) (by omega) ?_ | refine n_ibin rfl nrWcA0 nrWcA0 rfl ?_
      refine n_move rfl nrWcA0 ?_
      refine AOps.nil ?_
      refine ⟨i + 1, by omega, ?_, rfl, by omega⟩
      (repeat (first | exact FLe.empty _ | refine FLe.put ?_ ?_)) <;> first | (simp only [nf, Nat.beq]; done) | rfl | ((try simp only [nf, Nat.beq]); first | rfl | (simp only [List.length_map]; done) | (congr 2; omega; done))
    · try simp only [nh] at hc1
      refine AWP.exit ?_
      refine AWP.seq ?_
      refine AWP.region ?_
      refine n_assign rfl nrWcA0 ?_
      refine AOps.nil ?_
      refine AWP.ret ?_
      refine fin_pure (.cons (rv_tmp nrWcA0) .nil) nrWcA0 ?_
      exact ren_flat rfl rfl

theorem cntf (l : List Int) (hl : l.length ≤ 1048576) (hk : ∀ n ∈ l, numN n = true) : Does Tryz.prog 88 [(.sl none (l.map q1) .ro), (.fn (.func 89) [] [])] [] (vb false) [] := by
  refine Does.of_body (rvs := [.tmp 4]) Tryz.func88 rfl rfl rfl rfl ?_
  refine AWP.seq ?_
  refine AWP.region ?_
  refine n_assign rfl nrWcA0 ?_
  refine AOps.nil ?_
  refine AWP.seq ?_
  refine AWP.region ?_
  refine n_move rfl nrWcA0 ?_
  refine n_move rfl nrWcA0 ?_
  refine n_call0B rfl cf105 rfl (Eq.trans (by simp only [nl] <;> rfl) nrWcA0) (by repeat (first | exact .nil | refine .cons ?_ ?_ | exact ren_ints | exact .lf (.val _) | exact .lf (lf_ints (.inl rfl)) | exact .bp ⟨rfl, rfl⟩ | exact .bp (.inl ⟨rfl, rfl⟩) | exact .bp (.inr ⟨rfl, rfl⟩) | exact .lf (wz_lf _) | exact .agg rfl (RenAll.get (by repeat (first | exact .nil | refine .cons ?_ ?_ | exact .lf (.val _) | exact ren_map (f := q1) (fun _ => rfl) | exact ren_map (f := q2) (fun _ => rfl) | exact ren_map (f := q4) (fun _ => rfl) | exact ren_mapG qt_lf | exact .ro (fun x h => by cases h) | exact ren_ints))) | exact .lf (txz_lf _) | exact ren_mapG qt_lf | exact .lf lf_fnz | exact .lf (.agg (qt_lf _)) | exact .lf lf_fnz | exact ren_map (f := q1) (fun _ => rfl) | exact ren_map (f := q2) (fun _ => rfl) | exact ren_map (f := q4) (fun _ => rfl) | exact .lf (D.flat_lf rfl) | exact ren_lits rfl | exact ren_ints)) (idxf l hl hk) lfWcA0 ?_
  refine n_ibin rfl nrWcA0 nrWcA0 rfl ?_
  refine n_assign rfl nrWcA0 ?_
  refine AOps.nil ?_
  refine AWP.ret ?_
  refine fin_pure (.cons (rv_tmp nrWcA0) .nil) nrWcA0 ?_
  exact ren_flat rfl rfl

theorem nums1 (l : List Int) (hl : l.length ≤ 1048576) (hk : ∀ n ∈ l, numN n = true) : Does Tryz.prog 66 [(.sl none (l.map q1) .ro)] [] (vb true) [] := by
  refine Does.of_body (rvs := [.tmp 2]) Tryz.func66 rfl rfl rfl rfl ?_
  refine AWP.seq ?_
  refine AWP.region ?_
  refine n_assign rfl nrWcA0 ?_
  refine AOps.nil ?_
  refine AWP.seq ?_
  refine AWP.region ?_
  refine n_move rfl nrWcA0 ?_
  refine n_call0B rfl cf88 rfl (Eq.trans (by simp only [nl] <;> rfl) nrWcA0) (by repeat (first | exact .nil | refine .cons ?_ ?_ | exact ren_ints | exact .lf (.val _) | exact .lf (lf_ints (.inl rfl)) | exact .bp ⟨rfl, rfl⟩ | exact .bp (.inl ⟨rfl, rfl⟩) | exact .bp (.inr ⟨rfl, rfl⟩) | exact .lf (wz_lf _) | exact .agg rfl (RenAll.get (by repeat (first | exact .nil | refine .cons ?_ ?_ | exact .lf (.val _) | exact ren_map (f := q1) (fun _ => rfl) | exact ren_map (f := q2) (fun _ => rfl) | exact ren_map (f := q4) (fun _ => rfl) | exact ren_mapG qt_lf | exact .ro (fun x h => by cases h) | exact ren_ints))) | exact .lf (txz_lf _) | exact ren_mapG qt_lf | exact .lf lf_fnz | exact .lf (.agg (qt_lf _)) | exact .lf lf_fnz | exact ren_map (f := q1) (fun _ => rfl) | exact ren_map (f := q2) (fun _ => rfl) | exact ren_map (f := q4) (fun _ => rfl) | exact .lf (D.flat_lf rfl) | exact ren_lits rfl | exact ren_ints)) (cntf l hl hk) lfWcA0 ?_
  refine n_not rfl nrWcA0 rfl ?_
  refine n_assign rfl nrWcA0 ?_
  refine AOps.nil ?_
  refine AWP.ret ?_
  refine fin_pure (.cons (rv_tmp nrWcA0) .nil) nrWcA0 ?_
  exact ren_flat rfl rfl

theorem idx0 (l : List Int) (hl : l.length ≤ 1048576) (hk : ∀ n ∈ l, n ≠ 0) : Does Tryz.prog 104 [(.sl none (l.map q1) .ro), vi 0] [] (vi (-1)) [] := by
  refine Does.of_body (rvs := [.tmp 4]) Tryz.func104 rfl rfl rfl rfl ?_
  refine AWP.seq ?_
  refine AWP.region ?_
  refine n_assign rfl nrWcA0 ?_
  refine AOps.nil ?_
  refine AWP.seq ?_
  refine AWP.seq ?_
  refine AWP.region ?_
  refine n_move rfl nrWcA0 ?_
  refine n_len rfl Tryz.underlying24 nrWcA0 (by first | rw [ints_length] | rw [List.length_map] | rfl) ?_
  refine n_move rfl nrWcA0 ?_
  refine AOps.nil ?_
  refine AWP.block ?_
  refine AWP.loop (α := Nat) (fun i => i ≤ l.length) (fun i => put (put (put (put empty 0 (.sl none (l.map q1) .ro)) 1 (vi 0)) 7 (vi (l.length : Int))) 8 (vi (i : Int))) (fun _ => []) (fun i => l.length - i) 0 ?_ ?_ ?_ ?_
  · exact Nat.zero_le _
  · (repeat (first | exact FLe.empty _ | refine FLe.put ?_ ?_)) <;> first | (simp only [nf, Nat.beq]; done) | rfl | ((try simp only [nf, Nat.beq]); first | rfl | (simp only [List.length_map]; done) | (congr 2; omega; done))
  · rfl
  · intro i hi
    try dsimp only at hi ⊢
    refine AWP.seq ?_
    refine AWP.region ?_
    refine n_ibin rfl nrWcA0 nrWcA0 rfl ?_
    refine AOps.nil ?_
    refine AWP.seq ?_
    refine AWP.cond nrWcA0 (fun hc1 => ?_) (fun hc1 => ?_)
    · try simp only [nh] at hc1
      obtain ⟨x, hx0⟩ : ∃ x, l[i]? = some x := ⟨_, List.getElem?_eq_getElem (by omega)⟩
      have hx := map_at q1 hx0
      have hxk := hk x (List.mem_of_getElem? hx0)
      refine AWP.skip ?_
      refine AWP.seq ?_
      refine AWP.block ?_
      refine AWP.seq ?_
      refine AWP.region ?_
      refine n_move rfl nrWcA0 ?_
      refine n_assign rfl nrWcA0 ?_
      refine AOps.nil ?_
      refine AWP.seq ?_
      refine AWP.region ?_
      refine n_move rfl nrWcA0 ?_
      refine n_move rfl nrWcA0 ?_
      refine n_move rfl nrWcA0 ?_
      refine n_indexAddr rfl Tryz.underlying24 ti2 rfl nrWcA0 nrWcA0 (by omega) (by exact hx) rfl ?_
      refine n_load rfl ti2 nrWcA0 nrWcA0 rfl nrWcA0 ?_
      refine n_ibin rfl nrWcA0 nrWcA0 rfl ?_
      refine AOps.nil ?_
      refine AWP.cond nrWcA0 (fun hc2 => ?_) (fun hc2 => ?_)
      · try simp only [nh] at hc2
        exfalso
        (try simp at hc2)
        omega
      · try simp only [nh] at hc2
        refine AWP.skip ?_
        refine AWP.region ?_
        first | refine n_iadd rfl nrWcA0 nrWcA0 rfl (by omega) (by omega) ?_ | refine n_ibin rfl nrWcA0 nrWcA0 rfl ?_
        refine n_move rfl nrWcA0 ?_
        refine AOps.nil ?_
        refine ⟨i + 1, by omega, ?_, rfl, by omega⟩
        (repeat (first | exact FLe.empty _ | refine FLe.put ?_ ?_)) <;> first | (simp only [nf, Nat.beq]; done) | rfl | ((try simp only [nf, Nat.beq]); first | rfl | (simp only [List.length_map]; done) | (congr 2; omega; done))
    · try simp only [nh] at hc1
      refine AWP.exit ?_
      refine AWP.seq ?_
      refine AWP.region ?_
      refine n_assign rfl nrWcA0 ?_
      refine AOps.nil ?_
      refine AWP.ret ?_
      refine fin_pure (.cons (rv_tmp nrWcA0) .nil) nrWcA0 ?_
      exact ren_flat rfl rfl

theorem cnt0 (l : List Int) (hl : l.length ≤ 1048576) (hk : ∀ n ∈ l, n ≠ 0) : Does Tryz.prog 87 [(.sl none (l.map q1) .ro), vi 0] [] (vb false) [] := by
  refine Does.of_body (rvs := [.tmp 4]) Tryz.func87 rfl rfl rfl rfl ?_
  refine AWP.seq ?_
  refine AWP.region ?_
  refine n_assign rfl nrWcA0 ?_
  refine AOps.nil ?_
  refine AWP.seq ?_
  refine AWP.region ?_
  refine n_move rfl nrWcA0 ?_
  refine n_move rfl nrWcA0 ?_
  refine n_call0B rfl cf104 rfl (Eq.trans (by simp only [nl] <;> rfl) nrWcA0) (by repeat (first | exact .nil | refine .cons ?_ ?_ | exact ren_ints | exact .lf (.val _) | exact .lf (lf_ints (.inl rfl)) | exact .bp ⟨rfl, rfl⟩ | exact .bp (.inl ⟨rfl, rfl⟩) | exact .bp (.inr ⟨rfl, rfl⟩) | exact .lf (wz_lf _) | exact .agg rfl (RenAll.get (by repeat (first | exact .nil | refine .cons ?_ ?_ | exact .lf (.val _) | exact ren_map (f := q1) (fun _ => rfl) | exact ren_map (f := q2) (fun _ => rfl) | exact ren_map (f := q4) (fun _ => rfl) | exact ren_mapG qt_lf | exact .ro (fun x h => by cases h) | exact ren_ints))) | exact .lf (txz_lf _) | exact ren_mapG qt_lf | exact .lf lf_fnz | exact .lf (.agg (qt_lf _)) | exact .lf lf_fnz | exact ren_map (f := q1) (fun _ => rfl) | exact ren_map (f := q2) (fun _ => rfl) | exact ren_map (f := q4) (fun _ => rfl) | exact .lf (D.flat_lf rfl) | exact ren_lits rfl | exact ren_ints)) (idx0 l hl hk) lfWcA0 ?_
  refine n_ibin rfl nrWcA0 nrWcA0 rfl ?_
  refine n_assign rfl nrWcA0 ?_
  refine AOps.nil ?_
  refine AWP.ret ?_
  refine fin_pure (.cons (rv_tmp nrWcA0) .nil) nrWcA0 ?_
  exact ren_flat rfl rfl

theorem pos1 (l : List Int) (hl : l.length ≤ 1048576) (hk : ∀ n ∈ l, numN n = true ∧ n ≠ 0) : Does Tryz.prog 65 [(.sl none (l.map q1) .ro)] [] (vb true) [] := by
  refine Does.of_body (rvs := [.tmp 2]) Tryz.func65 rfl rfl rfl rfl ?_
  refine AWP.seq ?_
  refine AWP.region ?_
  refine n_assign rfl nrWcA0 ?_
  refine AOps.nil ?_
  refine AWP.seq ?_
  refine AWP.region ?_
  refine n_move rfl nrWcA0 ?_
  refine n_call0B rfl cf66 rfl (Eq.trans (by simp only [nl] <;> rfl) nrWcA0) (by repeat (first | exact .nil | refine .cons ?_ ?_ | exact ren_ints | exact .lf (.val _) | exact .lf (lf_ints (.inl rfl)) | exact .bp ⟨rfl, rfl⟩ | exact .bp (.inl ⟨rfl, rfl⟩) | exact .bp (.inr ⟨rfl, rfl⟩) | exact .lf (wz_lf _) | exact .agg rfl (RenAll.get (by repeat (first | exact .nil | refine .cons ?_ ?_ | exact .lf (.val _) | exact ren_map (f := q1) (fun _ => rfl) | exact ren_map (f := q2) (fun _ => rfl) | exact ren_map (f := q4) (fun _ => rfl) | exact ren_mapG qt_lf | exact .ro (fun x h => by cases h) | exact ren_ints))) | exact .lf (txz_lf _) | exact ren_mapG qt_lf | exact .lf lf_fnz | exact .lf (.agg (qt_lf _)) | exact .lf lf_fnz | exact ren_map (f := q1) (fun _ => rfl) | exact ren_map (f := q2) (fun _ => rfl) | exact ren_map (f := q4) (fun _ => rfl) | exact .lf (D.flat_lf rfl) | exact ren_lits rfl | exact ren_ints)) (nums1 l hl (fun n h => (hk n h).1)) lfWcA0 ?_
  refine n_move rfl nrWcA0 ?_
  refine n_guard_yes rfl rfl rfl nrWcA0 rfl ?_
  refine n_move rfl nrWcA0 ?_
  refine n_guard_yes rfl rfl rfl nrWcA0 rfl ?_
  refine n_call0B rfl cf87 rfl (Eq.trans (by simp only [nl] <;> rfl) nrWcA0) (by repeat (first | exact .nil | refine .cons ?_ ?_ | exact ren_ints | exact .lf (.val _) | exact .lf (lf_ints (.inl rfl)) | exact .bp ⟨rfl, rfl⟩ | exact .bp (.inl ⟨rfl, rfl⟩) | exact .bp (.inr ⟨rfl, rfl⟩) | exact .lf (wz_lf _) | exact .agg rfl (RenAll.get (by repeat (first | exact .nil | refine .cons ?_ ?_ | exact .lf (.val _) | exact ren_map (f := q1) (fun _ => rfl) | exact ren_map (f := q2) (fun _ => rfl) | exact ren_map (f := q4) (fun _ => rfl) | exact ren_mapG qt_lf | exact .ro (fun x h => by cases h) | exact ren_ints))) | exact .lf (txz_lf _) | exact ren_mapG qt_lf | exact .lf lf_fnz | exact .lf (.agg (qt_lf _)) | exact .lf lf_fnz | exact ren_map (f := q1) (fun _ => rfl) | exact ren_map (f := q2) (fun _ => rfl) | exact ren_map (f := q4) (fun _ => rfl) | exact .lf (D.flat_lf rfl) | exact ren_lits rfl | exact ren_ints)) (cnt0 l hl (fun n h => (hk n h).2)) lfWcA0 ?_
  refine n_guard_yes rfl rfl rfl nrWcA0 rfl ?_
  refine n_not rfl nrWcA0 rfl ?_
  refine n_pick rfl nrWcA0 nrWcA0 ?_
  refine n_assign rfl nrWcA0 ?_
  refine AOps.nil ?_
  refine AWP.ret ?_
  refine fin_pure (.cons (rv_tmp nrWcA0) .nil) nrWcA0 ?_
  exact ren_flat rfl rfl

theorem regn : Does Tryz.prog 39 [vi 1] [] (vb true) [] := by
  refine Does.of_body (rvs := [.tmp 2]) Tryz.func39 rfl rfl rfl rfl ?_
  refine AWP.seq ?_
  refine AWP.region ?_
  refine n_assign rfl nrWcA0 ?_
  refine AOps.nil ?_
  refine AWP.seq ?_
  refine AWP.region ?_
  refine n_move rfl nrWcA0 ?_
  refine n_ibin rfl nrWcA0 nrWcA0 rfl ?_
  refine n_move rfl nrWcA0 ?_
  refine n_guard_yes rfl rfl rfl nrWcA0 rfl ?_
  refine n_move rfl nrWcA0 ?_
  refine n_guard_yes rfl rfl rfl nrWcA0 rfl ?_
  refine n_ibin rfl nrWcA0 nrWcA0 rfl ?_
  refine n_pick rfl nrWcA0 nrWcA0 ?_
  refine n_assign rfl nrWcA0 ?_
  refine AOps.nil ?_
  refine AWP.ret ?_
  refine fin_pure (.cons (rv_tmp nrWcA0) .nil) nrWcA0 ?_
  exact ren_flat rfl rfl

theorem h_regional : Does Tryz.prog 64 [.agg (wz h0), .agg (wz h1)] [] (.tup [.agg (wz h0), vb true]) [] := by
  refine Does.of_body (rvs := [.cell 4 33, .tmp 5]) Tryz.func64 rfl rfl rfl rfl ?_
  refine AWP.seq ?_
  refine AWP.region ?_
  refine n_box rfl nrWcA0 rfl rfl nrWcA0 nrWcA0 ?_
  refine n_box rfl nrWcA0 rfl rfl nrWcA0 nrWcA0 ?_
  refine n_alloc rfl zi33 rfl nrWcA0 nrWcA0 ?_
  refine n_assign rfl nrWcA0 ?_
  refine AOps.nil ?_
  refine AWP.seq ?_
  refine AWP.region ?_
  refine n_fieldAddr rfl fd33_3 ti2 rfl nrWcA0 rfl nrWcA0 ?_
  refine n_load rfl ti2 nrWcA0 nrWcA0 rfl nrWcA0 ?_
  refine n_fieldAddr rfl fd33_3 ti2 rfl nrWcA0 rfl nrWcA0 ?_
  refine n_store ti2 nrWcA0 rfl nrWcA0 rfl nrWcA0 rfl rfl rfl nrWcA0 ?_
  refine AOps.nil ?_
  refine AWP.seq ?_
  refine AWP.seq ?_
  refine AWP.region ?_
  refine n_fieldAddr rfl fd33_0 ti3 rfl nrWcA0 rfl nrWcA0 ?_
  refine n_load rfl ti3 nrWcA0 nrWcA0 rfl nrWcA0 ?_
  refine AOps.nil ?_
  refine AWP.block ?_
  refine AWP.seq ?_
  refine AWP.region ?_
  refine n_ibin rfl nrWcA0 nrWcA0 rfl ?_
  refine n_assign rfl nrWcA0 ?_
  refine AOps.nil ?_
  refine AWP.cond_true nrWcA0 ?_
  refine AWP.skip ?_
  refine AWP.seq ?_
  refine AWP.region ?_
  refine n_load rfl ti33 nrWcA0 nrWcA0 rfl nrWcA0 ?_
  refine n_store ti33 nrWcA0 rfl nrWcA0 rfl nrWcA0 rfl rfl rfl nrWcA0 ?_
  refine n_assign rfl nrWcA0 ?_
  refine AOps.nil ?_
  refine AWP.ret ?_
  refine fin_pure (.cons (rv_cell ti33 nrWcA0 nrWcA0 rfl nrWcA0) (.cons (rv_tmp nrWcA0) .nil)) nrWcA0 ?_
  first | exact .tup rfl (RenAll.get (.cons (.lf (wz_lf h0)) (.cons (ren_flat rfl rfl) .nil))) | exact .tup rfl (RenAll.get (.cons (.agg rfl (RenAll.get (by repeat (first | exact .nil | refine .cons ?_ ?_ | exact .lf (.val _) | exact ren_map (f := q1) (fun _ => rfl) | exact ren_map (f := q2) (fun _ => rfl) | exact ren_map (f := q4) (fun _ => rfl) | exact ren_mapG qt_lf | exact .ro (fun x h => by cases h) | exact ren_ints)))) (.cons (ren_flat rfl rfl) .nil)))

theorem h_bare : Does Tryz.prog 38 [.agg (wz h0)] [] (.tup [.agg (wz h0), vb true]) [] := by
  refine Does.of_body (rvs := [.cell 2 33, .tmp 3]) Tryz.func38 rfl rfl rfl rfl ?_
  refine AWP.seq ?_
  refine AWP.region ?_
  refine n_box rfl nrWcA0 rfl rfl nrWcA0 nrWcA0 ?_
  refine n_alloc rfl zi33 rfl nrWcA0 nrWcA0 ?_
  refine n_assign rfl nrWcA0 ?_
  refine AOps.nil ?_
  refine AWP.seq ?_
  refine AWP.region ?_
  refine n_fieldAddr rfl fd33_0 ti3 rfl nrWcA0 rfl nrWcA0 ?_
  refine n_load rfl ti3 nrWcA0 nrWcA0 rfl nrWcA0 ?_
  refine n_fieldAddr rfl fd33_1 ti3 rfl nrWcA0 rfl nrWcA0 ?_
  refine n_load rfl ti3 nrWcA0 nrWcA0 rfl nrWcA0 ?_
  refine n_build rfl si33 (Eq.trans (by simp only [nl] <;> rfl) nrWcA0) (Eq.trans (by simp only [nl] <;> rfl) nrWcA0) rfl ?_
  refine n_alloc rfl zi33 rfl nrWcA0 nrWcA0 ?_
  refine n_store ti33 nrWcA0 rfl nrWcA0 rfl nrWcA0 rfl rfl rfl nrWcA0 ?_
  refine AOps.nil ?_
  refine AWP.seq ?_
  refine AWP.seq ?_
  refine AWP.region ?_
  refine n_fieldAddr rfl fd33_0 ti3 rfl nrWcA0 rfl nrWcA0 ?_
  refine n_load rfl ti3 nrWcA0 nrWcA0 rfl nrWcA0 ?_
  refine AOps.nil ?_
  refine AWP.block ?_
  refine AWP.seq ?_
  refine AWP.seq ?_
  refine AWP.region ?_
  refine n_ibin rfl nrWcA0 nrWcA0 rfl ?_
  refine n_assign rfl nrWcA0 ?_
  refine AOps.nil ?_
  refine AWP.cond_false nrWcA0 ?_
  refine AWP.region ?_
  refine n_ibin rfl nrWcA0 nrWcA0 rfl ?_
  refine n_assign rfl nrWcA0 ?_
  refine AOps.nil ?_
  refine AWP.cond_false nrWcA0 ?_
  refine AWP.seq ?_
  refine AWP.seq ?_
  refine AWP.region ?_
  refine n_ibin rfl nrWcA0 nrWcA0 rfl ?_
  refine n_assign rfl nrWcA0 ?_
  refine AOps.nil ?_
  refine AWP.cond_false nrWcA0 ?_
  refine AWP.seq ?_
  refine AWP.region ?_
  refine n_ibin rfl nrWcA0 nrWcA0 rfl ?_
  refine n_assign rfl nrWcA0 ?_
  refine AOps.nil ?_
  refine AWP.cond_false nrWcA0 ?_
  refine AWP.region ?_
  refine n_ibin rfl nrWcA0 nrWcA0 rfl ?_
  refine n_assign rfl nrWcA0 ?_
  refine AOps.nil ?_
  refine AWP.cond_false nrWcA0 ?_
  refine AWP.seq ?_
  refine AWP.region ?_
  refine n_ibin rfl nrWcA0 nrWcA0 rfl ?_
  refine n_assign rfl nrWcA0 ?_
  refine AOps.nil ?_
  refine AWP.cond_false nrWcA0 ?_
  refine AWP.seq ?_
  refine AWP.region ?_
  refine n_ibin rfl nrWcA0 nrWcA0 rfl ?_
  refine n_assign rfl nrWcA0 ?_
  refine AOps.nil ?_
  refine AWP.cond_false nrWcA0 ?_
  refine AWP.seq ?_
  refine AWP.region ?_
  refine n_ibin rfl nrWcA0 nrWcA0 rfl ?_
  refine n_assign rfl nrWcA0 ?_
  refine AOps.nil ?_
  refine AWP.cond_false nrWcA0 ?_
  refine AWP.seq ?_
  refine AWP.region ?_
  refine n_ibin rfl nrWcA0 nrWcA0 rfl ?_
  refine n_assign rfl nrWcA0 ?_
  refine AOps.nil ?_
  refine AWP.cond_false nrWcA0 ?_
  refine AWP.seq ?_
  refine AWP.seq ?_
  refine AWP.region ?_
  refine n_ibin rfl nrWcA0 nrWcA0 rfl ?_
  refine n_assign rfl nrWcA0 ?_
  refine AOps.nil ?_
  refine AWP.cond_false nrWcA0 ?_
  refine AWP.region ?_
  refine n_ibin rfl nrWcA0 nrWcA0 rfl ?_
  refine n_assign rfl nrWcA0 ?_
  refine AOps.nil ?_
  refine AWP.cond_false nrWcA0 ?_
  refine AWP.seq ?_
  refine AWP.region ?_
  refine n_ibin rfl nrWcA0 nrWcA0 rfl ?_
  refine n_assign rfl nrWcA0 ?_
  refine AOps.nil ?_
  refine AWP.cond_false nrWcA0 ?_
  refine AWP.seq ?_
  refine AWP.region ?_
  refine n_load rfl ti33 nrWcA0 nrWcA0 rfl nrWcA0 ?_
  refine n_load rfl ti33 nrWcA0 nrWcA0 rfl nrWcA0 ?_
  refine n_call0B rfl cf64 rfl (Eq.trans (by simp only [nl] <;> rfl) nrWcA0) (by repeat (first | exact .nil | refine .cons ?_ ?_ | exact ren_ints | exact .lf (.val _) | exact .lf (lf_ints (.inl rfl)) | exact .bp ⟨rfl, rfl⟩ | exact .bp (.inl ⟨rfl, rfl⟩) | exact .bp (.inr ⟨rfl, rfl⟩) | exact .lf (wz_lf _) | exact .agg rfl (RenAll.get (by repeat (first | exact .nil | refine .cons ?_ ?_ | exact .lf (.val _) | exact ren_map (f := q1) (fun _ => rfl) | exact ren_map (f := q2) (fun _ => rfl) | exact ren_map (f := q4) (fun _ => rfl) | exact ren_mapG qt_lf | exact .ro (fun x h => by cases h) | exact ren_ints))) | exact .lf (txz_lf _) | exact ren_mapG qt_lf | exact .lf lf_fnz | exact .lf (.agg (qt_lf _)) | exact .lf lf_fnz | exact ren_map (f := q1) (fun _ => rfl) | exact ren_map (f := q2) (fun _ => rfl) | exact ren_map (f := q4) (fun _ => rfl) | exact .lf (D.flat_lf rfl) | exact ren_lits rfl | exact ren_ints)) (h_regional) lfWcA0 ?_
  refine n_extract rfl nrWcA0 rfl ?_
  refine n_extract rfl nrWcA0 rfl ?_
  refine n_store ti33 nrWcA0 rfl nrWcA0 rfl nrWcA0 rfl rfl rfl nrWcA0 ?_
  refine n_assign rfl nrWcA0 ?_
  refine AOps.nil ?_
  refine AWP.ret ?_
  refine fin_pure (d := .tup [.agg (wz h0), vb true]) (.cons (rv_cell ti33 nrWcA0 nrWcA0 rfl nrWcA0) (.cons (rv_tmp nrWcA0) .nil)) nrWcA0 ?_
  exact .lf (.tup (lf_cons (wz_lf h0) (lf_cons (.val _) lf_nil)))

theorem h_fields : Does Tryz.prog 40 [.agg (wz h0)] [] (vb true) [] := by
  refine Does.of_body (rvs := [.tmp 2]) Tryz.func40 rfl rfl rfl rfl ?_
  have hp := pos1 [3] (by decide) (by decide)
  refine AWP.seq ?_
  refine AWP.region ?_
  refine n_box rfl nrWcA0 rfl rfl nrWcA0 nrWcA0 ?_
  refine n_assign rfl nrWcA0 ?_
  refine AOps.nil ?_
  refine AWP.seq ?_
  refine AWP.seq ?_
  refine AWP.region ?_
  refine n_fieldAddr rfl fd33_0 ti3 rfl nrWcA0 rfl nrWcA0 ?_
  refine n_load rfl ti3 nrWcA0 nrWcA0 rfl nrWcA0 ?_
  refine AOps.nil ?_
  refine AWP.block ?_
  refine AWP.seq ?_
  refine AWP.seq ?_
  refine AWP.region ?_
  refine n_ibin rfl nrWcA0 nrWcA0 rfl ?_
  refine n_assign rfl nrWcA0 ?_
  refine AOps.nil ?_
  refine AWP.cond_false nrWcA0 ?_
  refine AWP.region ?_
  refine n_ibin rfl nrWcA0 nrWcA0 rfl ?_
  refine n_assign rfl nrWcA0 ?_
  refine AOps.nil ?_
  refine AWP.cond_false nrWcA0 ?_
  refine AWP.seq ?_
  refine AWP.seq ?_
  refine AWP.region ?_
  refine n_ibin rfl nrWcA0 nrWcA0 rfl ?_
  refine n_assign rfl nrWcA0 ?_
  refine AOps.nil ?_
  refine AWP.cond_false nrWcA0 ?_
  refine AWP.seq ?_
  refine AWP.region ?_
  refine n_ibin rfl nrWcA0 nrWcA0 rfl ?_
  refine n_assign rfl nrWcA0 ?_
  refine AOps.nil ?_
  refine AWP.cond_false nrWcA0 ?_
  refine AWP.seq ?_
  refine AWP.region ?_
  refine n_ibin rfl nrWcA0 nrWcA0 rfl ?_
  refine n_assign rfl nrWcA0 ?_
  refine AOps.nil ?_
  refine AWP.cond_false nrWcA0 ?_
  refine AWP.region ?_
  refine n_ibin rfl nrWcA0 nrWcA0 rfl ?_
  refine n_assign rfl nrWcA0 ?_
  refine AOps.nil ?_
  refine AWP.cond_false nrWcA0 ?_
  refine AWP.seq ?_
  refine AWP.region ?_
  refine n_ibin rfl nrWcA0 nrWcA0 rfl ?_
  refine n_assign rfl nrWcA0 ?_
  refine AOps.nil ?_
  refine AWP.cond_false nrWcA0 ?_
  refine AWP.seq ?_
  refine AWP.region ?_
  refine n_ibin rfl nrWcA0 nrWcA0 rfl ?_
  refine n_assign rfl nrWcA0 ?_
  refine AOps.nil ?_
  refine AWP.cond_false nrWcA0 ?_
  refine AWP.seq ?_
  refine AWP.region ?_
  refine n_ibin rfl nrWcA0 nrWcA0 rfl ?_
  refine n_assign rfl nrWcA0 ?_
  refine AOps.nil ?_
  refine AWP.cond_false nrWcA0 ?_
  refine AWP.seq ?_
  refine AWP.seq ?_
  refine AWP.region ?_
  refine n_ibin rfl nrWcA0 nrWcA0 rfl ?_
  refine n_assign rfl nrWcA0 ?_
  refine AOps.nil ?_
  refine AWP.cond_false nrWcA0 ?_
  refine AWP.region ?_
  refine n_ibin rfl nrWcA0 nrWcA0 rfl ?_
  refine n_assign rfl nrWcA0 ?_
  refine AOps.nil ?_
  refine AWP.cond_false nrWcA0 ?_
  refine AWP.seq ?_
  refine AWP.region ?_
  refine n_ibin rfl nrWcA0 nrWcA0 rfl ?_
  refine n_assign rfl nrWcA0 ?_
  refine AOps.nil ?_
  refine AWP.cond_false nrWcA0 ?_
  refine AWP.seq ?_
  refine AWP.region ?_
  refine n_ibin rfl nrWcA0 nrWcA0 rfl ?_
  refine n_assign rfl nrWcA0 ?_
  refine AOps.nil ?_
  refine AWP.cond_true nrWcA0 ?_
  refine AWP.seq ?_
  refine AWP.region ?_
  refine n_fieldAddr rfl fd33_3 ti2 rfl nrWcA0 rfl nrWcA0 ?_
  refine n_load rfl ti2 nrWcA0 nrWcA0 rfl nrWcA0 ?_
  refine n_lit rfl Tryz.underlying24 ti2 zi2 rfl rfl (Eq.trans (by simp only [nl] <;> rfl) nrWcA0) rfl nrWcA0 ?_
  refine n_call0B rfl cf65 rfl (Eq.trans (by simp only [nl] <;> rfl) nrWcA0) (by repeat (first | exact .nil | refine .cons ?_ ?_ | exact ren_ints | exact .lf (.val _) | exact .lf (lf_ints (.inl rfl)) | exact .bp ⟨rfl, rfl⟩ | exact .bp (.inl ⟨rfl, rfl⟩) | exact .bp (.inr ⟨rfl, rfl⟩) | exact .lf (wz_lf _) | exact .agg rfl (RenAll.get (by repeat (first | exact .nil | refine .cons ?_ ?_ | exact .lf (.val _) | exact ren_map (f := q1) (fun _ => rfl) | exact ren_map (f := q2) (fun _ => rfl) | exact ren_map (f := q4) (fun _ => rfl) | exact ren_mapG qt_lf | exact .ro (fun x h => by cases h) | exact ren_ints))) | exact .lf (txz_lf _) | exact ren_mapG qt_lf | exact .lf lf_fnz | exact .lf (.agg (qt_lf _)) | exact .lf lf_fnz | exact ren_map (f := q1) (fun _ => rfl) | exact ren_map (f := q2) (fun _ => rfl) | exact ren_map (f := q4) (fun _ => rfl) | exact .lf (D.flat_lf rfl) | exact ren_lits rfl | exact ren_ints)) (hp) lfWcA0 ?_
  refine n_assign rfl nrWcA0 ?_
  refine AOps.nil ?_
  refine AWP.ret ?_
  refine fin_pure (.cons (rv_tmp nrWcA0) .nil) nrWcA0 ?_
  exact ren_flat rfl rfl

theorem h_check : Does Tryz.prog 12 [.agg (wz h0)] [] (vi 0) [] := by
  refine Does.of_body (rvs := [.tmp 2]) Tryz.func12 rfl rfl rfl rfl ?_
  have he := e_wr h0 h0 h0_sz h0_sz
  rw [sameW_self] at he
  refine AWP.seq ?_
  refine AWP.region ?_
  refine n_box rfl nrWcA0 rfl rfl nrWcA0 nrWcA0 ?_
  refine n_assign rfl nrWcA0 ?_
  refine AOps.nil ?_
  refine AWP.seq ?_
  refine AWP.seq ?_
  refine AWP.region ?_
  refine n_load rfl ti33 nrWcA0 nrWcA0 rfl nrWcA0 ?_
  refine n_call0B rfl cf38 rfl (Eq.trans (by simp only [nl] <;> rfl) nrWcA0) (by repeat (first | exact .nil | refine .cons ?_ ?_ | exact ren_ints | exact .lf (.val _) | exact .lf (lf_ints (.inl rfl)) | exact .bp ⟨rfl, rfl⟩ | exact .bp (.inl ⟨rfl, rfl⟩) | exact .bp (.inr ⟨rfl, rfl⟩) | exact .lf (wz_lf _) | exact .agg rfl (RenAll.get (by repeat (first | exact .nil | refine .cons ?_ ?_ | exact .lf (.val _) | exact ren_map (f := q1) (fun _ => rfl) | exact ren_map (f := q2) (fun _ => rfl) | exact ren_map (f := q4) (fun _ => rfl) | exact ren_mapG qt_lf | exact .ro (fun x h => by cases h) | exact ren_ints))) | exact .lf (txz_lf _) | exact ren_mapG qt_lf | exact .lf lf_fnz | exact .lf (.agg (qt_lf _)) | exact .lf lf_fnz | exact ren_map (f := q1) (fun _ => rfl) | exact ren_map (f := q2) (fun _ => rfl) | exact ren_map (f := q4) (fun _ => rfl) | exact .lf (D.flat_lf rfl) | exact ren_lits rfl | exact ren_ints)) (h_bare) lfWcA0 ?_
  refine n_move rfl nrWcA0 ?_
  refine n_extract rfl nrWcA0 rfl ?_
  refine n_extract rfl nrWcA0 rfl ?_
  refine n_alloc rfl zi33 rfl nrWcA0 nrWcA0 ?_
  refine n_store ti33 nrWcA0 rfl nrWcA0 rfl nrWcA0 rfl rfl rfl nrWcA0 ?_
  refine n_assign rfl nrWcA0 ?_
  refine AOps.nil ?_
  refine AWP.seq ?_
  refine AWP.region ?_
  refine n_move rfl nrWcA0 ?_
  refine n_not rfl nrWcA0 rfl ?_
  refine n_move rfl nrWcA0 ?_
  refine n_guard_yes rfl rfl rfl nrWcA0 rfl ?_
  refine n_fieldAddr rfl fd33_1 ti3 rfl nrWcA0 rfl nrWcA0 ?_
  refine n_guard_yes rfl rfl rfl nrWcA0 rfl ?_
  refine n_load rfl ti3 nrWcA0 nrWcA0 rfl nrWcA0 ?_
  refine n_guard_yes rfl rfl rfl nrWcA0 rfl ?_
  refine n_call0B rfl cf39 rfl (Eq.trans (by simp only [nl] <;> rfl) nrWcA0) (by repeat (first | exact .nil | refine .cons ?_ ?_ | exact ren_ints | exact .lf (.val _) | exact .lf (lf_ints (.inl rfl)) | exact .bp ⟨rfl, rfl⟩ | exact .bp (.inl ⟨rfl, rfl⟩) | exact .bp (.inr ⟨rfl, rfl⟩) | exact .lf (wz_lf _) | exact .agg rfl (RenAll.get (by repeat (first | exact .nil | refine .cons ?_ ?_ | exact .lf (.val _) | exact ren_map (f := q1) (fun _ => rfl) | exact ren_map (f := q2) (fun _ => rfl) | exact ren_map (f := q4) (fun _ => rfl) | exact ren_mapG qt_lf | exact .ro (fun x h => by cases h) | exact ren_ints))) | exact .lf (txz_lf _) | exact ren_mapG qt_lf | exact .lf lf_fnz | exact .lf (.agg (qt_lf _)) | exact .lf lf_fnz | exact ren_map (f := q1) (fun _ => rfl) | exact ren_map (f := q2) (fun _ => rfl) | exact ren_map (f := q4) (fun _ => rfl) | exact .lf (D.flat_lf rfl) | exact ren_lits rfl | exact ren_ints)) (regn) lfWcA0 ?_
  refine n_guard_yes rfl rfl rfl nrWcA0 rfl ?_
  refine n_not rfl nrWcA0 rfl ?_
  refine n_pick rfl nrWcA0 nrWcA0 ?_
  refine n_move rfl nrWcA0 ?_
  refine n_guard_yes rfl rfl rfl nrWcA0 rfl ?_
  refine n_load rfl ti33 nrWcA0 nrWcA0 rfl nrWcA0 ?_
  refine n_guard_yes rfl rfl rfl nrWcA0 rfl ?_
  refine n_call0B rfl cf40 rfl (Eq.trans (by simp only [nl] <;> rfl) nrWcA0) (by repeat (first | exact .nil | refine .cons ?_ ?_ | exact ren_ints | exact .lf (.val _) | exact .lf (lf_ints (.inl rfl)) | exact .bp ⟨rfl, rfl⟩ | exact .bp (.inl ⟨rfl, rfl⟩) | exact .bp (.inr ⟨rfl, rfl⟩) | exact .lf (wz_lf _) | exact .agg rfl (RenAll.get (by repeat (first | exact .nil | refine .cons ?_ ?_ | exact .lf (.val _) | exact ren_map (f := q1) (fun _ => rfl) | exact ren_map (f := q2) (fun _ => rfl) | exact ren_map (f := q4) (fun _ => rfl) | exact ren_mapG qt_lf | exact .ro (fun x h => by cases h) | exact ren_ints))) | exact .lf (txz_lf _) | exact ren_mapG qt_lf | exact .lf lf_fnz | exact .lf (.agg (qt_lf _)) | exact .lf lf_fnz | exact ren_map (f := q1) (fun _ => rfl) | exact ren_map (f := q2) (fun _ => rfl) | exact ren_map (f := q4) (fun _ => rfl) | exact .lf (D.flat_lf rfl) | exact ren_lits rfl | exact ren_ints)) (h_fields) lfWcA0 ?_
  refine n_guard_yes rfl rfl rfl nrWcA0 rfl ?_
  refine n_not rfl nrWcA0 rfl ?_
  refine n_pick rfl nrWcA0 nrWcA0 ?_
  refine n_move rfl nrWcA0 ?_
  refine n_guard_yes rfl rfl rfl nrWcA0 rfl ?_
  refine n_load rfl ti33 nrWcA0 nrWcA0 rfl nrWcA0 ?_
  refine n_guard_yes rfl rfl rfl nrWcA0 rfl ?_
  refine n_load rfl ti33 nrWcA0 nrWcA0 rfl nrWcA0 ?_
  refine n_guard_yes rfl rfl rfl nrWcA0 rfl ?_
  refine n_call0B rfl cf10 rfl (Eq.trans (by simp only [nl] <;> rfl) nrWcA0) (by repeat (first | exact .nil | refine .cons ?_ ?_ | exact ren_ints | exact .lf (.val _) | exact .lf (lf_ints (.inl rfl)) | exact .bp ⟨rfl, rfl⟩ | exact .bp (.inl ⟨rfl, rfl⟩) | exact .bp (.inr ⟨rfl, rfl⟩) | exact .lf (wz_lf _) | exact .agg rfl (RenAll.get (by repeat (first | exact .nil | refine .cons ?_ ?_ | exact .lf (.val _) | exact ren_map (f := q1) (fun _ => rfl) | exact ren_map (f := q2) (fun _ => rfl) | exact ren_map (f := q4) (fun _ => rfl) | exact ren_mapG qt_lf | exact .ro (fun x h => by cases h) | exact ren_ints))) | exact .lf (txz_lf _) | exact ren_mapG qt_lf | exact .lf lf_fnz | exact .lf (.agg (qt_lf _)) | exact .lf lf_fnz | exact ren_map (f := q1) (fun _ => rfl) | exact ren_map (f := q2) (fun _ => rfl) | exact ren_map (f := q4) (fun _ => rfl) | exact .lf (D.flat_lf rfl) | exact ren_lits rfl | exact ren_ints)) (he) lfWcA0 ?_
  refine n_guard_yes rfl rfl rfl nrWcA0 rfl ?_
  refine n_not rfl nrWcA0 rfl ?_
  refine n_pick rfl nrWcA0 nrWcA0 ?_
  refine AOps.nil ?_
  refine AWP.cond_false nrWcA0 ?_
  refine AWP.skip ?_
  refine AWP.seq ?_
  refine AWP.region ?_
  refine n_assign rfl nrWcA0 ?_
  refine AOps.nil ?_
  refine AWP.ret ?_
  refine fin_pure (.cons (rv_tmp nrWcA0) .nil) nrWcA0 ?_
  exact ren_flat rfl rfl

end Go.Proofs.YtanfmpkjcoolmaaGreat.Wc
