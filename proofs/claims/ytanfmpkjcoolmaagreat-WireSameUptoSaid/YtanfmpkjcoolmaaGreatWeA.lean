/- Copies. -/
import Derived.Test.YtanfmpkjcoolmaaGreatWdA
import Derived.Test.YtanfmpkjcoolmaaGreatClonePlain
set_option linter.unusedVariables false
set_option linter.unusedSimpArgs false
namespace Go.Proofs.YtanfmpkjcoolmaaGreat.We
open Go Go.Abs Go.Proofs.YtanfmpkjcoolmaaGreat.Pk Wa Wb Wc Wd
attribute [local irreducible] AWP AOps Does

theorem nrWeA0 {α : Type} {a b : α} (h : a = b := by first|simp only[nf,Nat.beq]<;>rfl|rfl) : a = b := h
theorem ei2 : EI Tryz.prog 2 1 8 (.int .i64 0) := EI.of (by kernel_rfl) rfl rfl
theorem ei44 : EI Tryz.prog 44 2 16 (.agg #[.int .i64 0, .int .i64 0]) := EI.of (by kernel_rfl) rfl rfl
theorem ei46 : EI Tryz.prog 46 4 32 (.agg #[.int .i64 0, .int .i64 0, .int .i64 0, .int .i64 0]) := EI.of (by kernel_rfl) rfl rfl
theorem ei49 : EI Tryz.prog 49 2 32 (.agg #[.slice none 0 0, .int .i64 0]) := EI.of (by kernel_rfl) rfl rfl
theorem ei5 : EI Tryz.prog 5 1 1 (.int .u8 0) := EI.of (by kernel_rfl) rfl rfl
theorem ei51 : EI Tryz.prog 51 4 32 (.agg #[.int .i64 0, .int .i64 0, .int .i64 0, .int .i64 0]) := EI.of (by kernel_rfl) rfl rfl
theorem ti2 : TI Tryz.prog 2 1 false := ⟨by kernel_rfl, by kernel_rfl⟩
theorem ti44 : TI Tryz.prog 44 2 true := ⟨by kernel_rfl, by kernel_rfl⟩
theorem ti46 : TI Tryz.prog 46 4 true := ⟨by kernel_rfl, by kernel_rfl⟩
theorem ti49 : TI Tryz.prog 49 2 true := ⟨by kernel_rfl, by kernel_rfl⟩
theorem ti5 : TI Tryz.prog 5 1 false := ⟨by kernel_rfl, by kernel_rfl⟩
theorem ti51 : TI Tryz.prog 51 4 true := ⟨by kernel_rfl, by kernel_rfl⟩
theorem zi2 : (Tryz.prog.info? 2).map (·.zero) = some (some (.int .i64 0)) := by kernel_rfl
theorem zi44 : (Tryz.prog.info? 44).map (·.zero) = some (some (.agg #[.int .i64 0, .int .i64 0])) := by kernel_rfl
theorem zi46 : (Tryz.prog.info? 46).map (·.zero) = some (some (.agg #[.int .i64 0, .int .i64 0, .int .i64 0, .int .i64 0])) := by kernel_rfl
theorem zi49 : (Tryz.prog.info? 49).map (·.zero) = some (some (.agg #[.slice none 0 0, .int .i64 0])) := by kernel_rfl
theorem zi5 : (Tryz.prog.info? 5).map (·.zero) = some (some (.int .u8 0)) := by kernel_rfl
theorem zi51 : (Tryz.prog.info? 51).map (·.zero) = some (some (.agg #[.int .i64 0, .int .i64 0, .int .i64 0, .int .i64 0])) := by kernel_rfl

theorem b_rec (l : List (Int × Int)) (h0 : 0 < l.length) (hl : l.length ≤ 1048576) : Does Tryz.prog 32 [.sl none (l.map q2) .ro] [] (.bs 0 0 l.length) [.box (l.map q2).flatten] := by
  refine Does.of_body (rvs := [.tmp 2]) Tryz.func32 rfl rfl rfl rfl ?_
  refine AWP.seq ?_
  refine AWP.region ?_
  refine n_assign rfl nrWeA0 ?_
  refine AOps.nil ?_
  refine AWP.seq ?_
  refine AWP.seq ?_
  refine AWP.region ?_
  refine n_move rfl nrWeA0 ?_
  refine n_eqnil rfl Tryz.underlying23 nrWeA0 (fun b1 hb1 he1 => ?_)
  refine AOps.nil ?_
  refine AWP.cond nrWeA0 (fun hc2 => ?_) (fun hc2 => ?_)
  · try simp only [nh] at hc2
    exfalso
    have hnil : l.length = 0 := by { have := congrArg List.length (he1 hc2); rw [List.length_map] at this; exact this }
    omega
  · try simp only [nh] at hc2
    refine AWP.skip ?_
    refine AWP.seq ?_
    refine AWP.region ?_
    refine n_lit rfl Tryz.underlying23 ti44 zi44 rfl rfl (Eq.trans (by simp only [nl] <;> rfl) nrWeA0) rfl nrWeA0 ?_
    refine n_move rfl nrWeA0 ?_
    refine n_append_box (m := l.length) rfl Tryz.underlying23 Tryz.underlying23 ei44 nrWeA0 nrWeA0 (by intro x hx; cases hx) (by exact map_one (f := q2) (fun _ => rfl)) (by simp only [List.length_map, List.length_nil]; omega) (by rw [List.length_map]; exact h0) (by simp) rfl rfl nrWeA0 ?_
    refine n_assign rfl nrWeA0 ?_
    refine AOps.nil ?_
    refine AWP.ret ?_
    refine fin_newBs (.cons (rv_tmp nrWeA0) .nil) nrWeA0 rfl ?_
    exact renAll_lf (q2_lf l)

theorem n_rec : Does Tryz.prog 32 [.sl none [] .ro] [] (.sl none [] .ro) [] := by
  refine Does.of_body (rvs := [.tmp 2]) Tryz.func32 rfl rfl rfl rfl ?_
  refine AWP.seq ?_
  refine AWP.region ?_
  refine n_assign rfl nrWeA0 ?_
  refine AOps.nil ?_
  refine AWP.seq ?_
  refine AWP.seq ?_
  refine AWP.region ?_
  refine n_move rfl nrWeA0 ?_
  refine n_eqnil rfl Tryz.underlying23 nrWeA0 (fun b1 hb1 he1 => ?_)
  refine AOps.nil ?_
  refine AWP.cond nrWeA0 (fun hc2 => ?_) (fun hc2 => ?_)
  · try simp only [nh] at hc2
    refine AWP.seq ?_
    refine AWP.region ?_
    refine n_assign rfl nrWeA0 ?_
    refine AOps.nil ?_
    refine AWP.ret ?_
    refine fin_pure (.cons (rv_tmp nrWeA0) .nil) nrWeA0 ?_
    exact .ro (fun x hx => by cases hx)
  · try simp only [nh] at hc2
    refine AWP.skip ?_
    refine AWP.seq ?_
    refine AWP.region ?_
    refine n_lit rfl Tryz.underlying23 ti44 zi44 rfl rfl (Eq.trans (by simp only [nl] <;> rfl) nrWeA0) rfl nrWeA0 ?_
    refine n_move rfl nrWeA0 ?_
    refine n_append_full rfl Tryz.underlying23 Tryz.underlying23 ei44 nrWeA0 nrWeA0 (by intro x hx; cases hx) (by intro x hx; cases hx) nrWeA0 rfl (by decide) rfl nrWeA0 ?_
    refine n_assign rfl nrWeA0 ?_
    refine AOps.nil ?_
    refine AWP.ret ?_
    refine fin_pure (.cons (rv_tmp nrWeA0) .nil) nrWeA0 ?_
    exact .ro (fun x hx => by cases hx)

theorem b_int (l : List Int) (h0 : 0 < l.length) (hl : l.length ≤ 1048576) : Does Tryz.prog 33 [.sl none (l.map q1) .ro] [] (.bs 0 0 l.length) [.box (l.map q1).flatten] := by
  refine Does.of_body (rvs := [.tmp 2]) Tryz.func33 rfl rfl rfl rfl ?_
  refine AWP.seq ?_
  refine AWP.region ?_
  refine n_assign rfl nrWeA0 ?_
  refine AOps.nil ?_
  refine AWP.seq ?_
  refine AWP.seq ?_
  refine AWP.region ?_
  refine n_move rfl nrWeA0 ?_
  refine n_eqnil rfl Tryz.underlying24 nrWeA0 (fun b1 hb1 he1 => ?_)
  refine AOps.nil ?_
  refine AWP.cond nrWeA0 (fun hc2 => ?_) (fun hc2 => ?_)
  · try simp only [nh] at hc2
    exfalso
    have hnil : l.length = 0 := by { have := congrArg List.length (he1 hc2); rw [List.length_map] at this; exact this }
    omega
  · try simp only [nh] at hc2
    refine AWP.skip ?_
    refine AWP.seq ?_
    refine AWP.region ?_
    refine n_lit rfl Tryz.underlying24 ti2 zi2 rfl rfl (Eq.trans (by simp only [nl] <;> rfl) nrWeA0) rfl nrWeA0 ?_
    refine n_move rfl nrWeA0 ?_
    refine n_append_box (m := l.length) rfl Tryz.underlying24 Tryz.underlying24 ei2 nrWeA0 nrWeA0 (by intro x hx; cases hx) (by exact map_one (f := q1) (fun _ => rfl)) (by simp only [List.length_map, List.length_nil]; omega) (by rw [List.length_map]; exact h0) (by simp) rfl rfl nrWeA0 ?_
    refine n_assign rfl nrWeA0 ?_
    refine AOps.nil ?_
    refine AWP.ret ?_
    refine fin_newBs (.cons (rv_tmp nrWeA0) .nil) nrWeA0 rfl ?_
    exact renAll_lf (q1_lf l)

theorem n_int : Does Tryz.prog 33 [.sl none [] .ro] [] (.sl none [] .ro) [] := by
  refine Does.of_body (rvs := [.tmp 2]) Tryz.func33 rfl rfl rfl rfl ?_
  refine AWP.seq ?_
  refine AWP.region ?_
  refine n_assign rfl nrWeA0 ?_
  refine AOps.nil ?_
  refine AWP.seq ?_
  refine AWP.seq ?_
  refine AWP.region ?_
  refine n_move rfl nrWeA0 ?_
  refine n_eqnil rfl Tryz.underlying24 nrWeA0 (fun b1 hb1 he1 => ?_)
  refine AOps.nil ?_
  refine AWP.cond nrWeA0 (fun hc2 => ?_) (fun hc2 => ?_)
  · try simp only [nh] at hc2
    refine AWP.seq ?_
    refine AWP.region ?_
    refine n_assign rfl nrWeA0 ?_
    refine AOps.nil ?_
    refine AWP.ret ?_
    refine fin_pure (.cons (rv_tmp nrWeA0) .nil) nrWeA0 ?_
    exact .ro (fun x hx => by cases hx)
  · try simp only [nh] at hc2
    refine AWP.skip ?_
    refine AWP.seq ?_
    refine AWP.region ?_
    refine n_lit rfl Tryz.underlying24 ti2 zi2 rfl rfl (Eq.trans (by simp only [nl] <;> rfl) nrWeA0) rfl nrWeA0 ?_
    refine n_move rfl nrWeA0 ?_
    refine n_append_full rfl Tryz.underlying24 Tryz.underlying24 ei2 nrWeA0 nrWeA0 (by intro x hx; cases hx) (by intro x hx; cases hx) nrWeA0 rfl (by decide) rfl nrWeA0 ?_
    refine n_assign rfl nrWeA0 ?_
    refine AOps.nil ?_
    refine AWP.ret ?_
    refine fin_pure (.cons (rv_tmp nrWeA0) .nil) nrWeA0 ?_
    exact .ro (fun x hx => by cases hx)

theorem b_ent (l : List Q4) (h0 : 0 < l.length) (hl : l.length ≤ 1048576) : Does Tryz.prog 34 [.sl none (l.map q4) .ro] [] (.bs 0 0 l.length) [.box (l.map q4).flatten] := by
  refine Does.of_body (rvs := [.tmp 2]) Tryz.func34 rfl rfl rfl rfl ?_
  refine AWP.seq ?_
  refine AWP.region ?_
  refine n_assign rfl nrWeA0 ?_
  refine AOps.nil ?_
  refine AWP.seq ?_
  refine AWP.seq ?_
  refine AWP.region ?_
  refine n_move rfl nrWeA0 ?_
  refine n_eqnil rfl Tryz.underlying30 nrWeA0 (fun b1 hb1 he1 => ?_)
  refine AOps.nil ?_
  refine AWP.cond nrWeA0 (fun hc2 => ?_) (fun hc2 => ?_)
  · try simp only [nh] at hc2
    exfalso
    have hnil : l.length = 0 := by { have := congrArg List.length (he1 hc2); rw [List.length_map] at this; exact this }
    omega
  · try simp only [nh] at hc2
    refine AWP.skip ?_
    refine AWP.seq ?_
    refine AWP.region ?_
    refine n_lit rfl Tryz.underlying30 ti46 zi46 rfl rfl (Eq.trans (by simp only [nl] <;> rfl) nrWeA0) rfl nrWeA0 ?_
    refine n_move rfl nrWeA0 ?_
    refine n_append_box (m := l.length) rfl Tryz.underlying30 Tryz.underlying30 ei46 nrWeA0 nrWeA0 (by intro x hx; cases hx) (by exact map_one (f := q4) (fun _ => rfl)) (by simp only [List.length_map, List.length_nil]; omega) (by rw [List.length_map]; exact h0) (by simp) rfl rfl nrWeA0 ?_
    refine n_assign rfl nrWeA0 ?_
    refine AOps.nil ?_
    refine AWP.ret ?_
    refine fin_newBs (.cons (rv_tmp nrWeA0) .nil) nrWeA0 rfl ?_
    exact renAll_lf (q4_lf l)

theorem n_ent : Does Tryz.prog 34 [.sl none [] .ro] [] (.sl none [] .ro) [] := by
  refine Does.of_body (rvs := [.tmp 2]) Tryz.func34 rfl rfl rfl rfl ?_
  refine AWP.seq ?_
  refine AWP.region ?_
  refine n_assign rfl nrWeA0 ?_
  refine AOps.nil ?_
  refine AWP.seq ?_
  refine AWP.seq ?_
  refine AWP.region ?_
  refine n_move rfl nrWeA0 ?_
  refine n_eqnil rfl Tryz.underlying30 nrWeA0 (fun b1 hb1 he1 => ?_)
  refine AOps.nil ?_
  refine AWP.cond nrWeA0 (fun hc2 => ?_) (fun hc2 => ?_)
  · try simp only [nh] at hc2
    refine AWP.seq ?_
    refine AWP.region ?_
    refine n_assign rfl nrWeA0 ?_
    refine AOps.nil ?_
    refine AWP.ret ?_
    refine fin_pure (.cons (rv_tmp nrWeA0) .nil) nrWeA0 ?_
    exact .ro (fun x hx => by cases hx)
  · try simp only [nh] at hc2
    refine AWP.skip ?_
    refine AWP.seq ?_
    refine AWP.region ?_
    refine n_lit rfl Tryz.underlying30 ti46 zi46 rfl rfl (Eq.trans (by simp only [nl] <;> rfl) nrWeA0) rfl nrWeA0 ?_
    refine n_move rfl nrWeA0 ?_
    refine n_append_full rfl Tryz.underlying30 Tryz.underlying30 ei46 nrWeA0 nrWeA0 (by intro x hx; cases hx) (by intro x hx; cases hx) nrWeA0 rfl (by decide) rfl nrWeA0 ?_
    refine n_assign rfl nrWeA0 ?_
    refine AOps.nil ?_
    refine AWP.ret ?_
    refine fin_pure (.cons (rv_tmp nrWeA0) .nil) nrWeA0 ?_
    exact .ro (fun x hx => by cases hx)

theorem b_span (l : List Q4) (h0 : 0 < l.length) (hl : l.length ≤ 1048576) : Does Tryz.prog 37 [.sl none (l.map q4) .ro] [] (.bs 0 0 l.length) [.box (l.map q4).flatten] := by
  refine Does.of_body (rvs := [.tmp 2]) Tryz.func37 rfl rfl rfl rfl ?_
  refine AWP.seq ?_
  refine AWP.region ?_
  refine n_assign rfl nrWeA0 ?_
  refine AOps.nil ?_
  refine AWP.seq ?_
  refine AWP.seq ?_
  refine AWP.region ?_
  refine n_move rfl nrWeA0 ?_
  refine n_eqnil rfl Tryz.underlying47 nrWeA0 (fun b1 hb1 he1 => ?_)
  refine AOps.nil ?_
  refine AWP.cond nrWeA0 (fun hc2 => ?_) (fun hc2 => ?_)
  · try simp only [nh] at hc2
    exfalso
    have hnil : l.length = 0 := by { have := congrArg List.length (he1 hc2); rw [List.length_map] at this; exact this }
    omega
  · try simp only [nh] at hc2
    refine AWP.skip ?_
    refine AWP.seq ?_
    refine AWP.region ?_
    refine n_lit rfl Tryz.underlying47 ti51 zi51 rfl rfl (Eq.trans (by simp only [nl] <;> rfl) nrWeA0) rfl nrWeA0 ?_
    refine n_move rfl nrWeA0 ?_
    refine n_append_box (m := l.length) rfl Tryz.underlying47 Tryz.underlying47 ei51 nrWeA0 nrWeA0 (by intro x hx; cases hx) (by exact map_one (f := q4) (fun _ => rfl)) (by simp only [List.length_map, List.length_nil]; omega) (by rw [List.length_map]; exact h0) (by simp) rfl rfl nrWeA0 ?_
    refine n_assign rfl nrWeA0 ?_
    refine AOps.nil ?_
    refine AWP.ret ?_
    refine fin_newBs (.cons (rv_tmp nrWeA0) .nil) nrWeA0 rfl ?_
    exact renAll_lf (q4_lf l)

theorem n_span : Does Tryz.prog 37 [.sl none [] .ro] [] (.sl none [] .ro) [] := by
  refine Does.of_body (rvs := [.tmp 2]) Tryz.func37 rfl rfl rfl rfl ?_
  refine AWP.seq ?_
  refine AWP.region ?_
  refine n_assign rfl nrWeA0 ?_
  refine AOps.nil ?_
  refine AWP.seq ?_
  refine AWP.seq ?_
  refine AWP.region ?_
  refine n_move rfl nrWeA0 ?_
  refine n_eqnil rfl Tryz.underlying47 nrWeA0 (fun b1 hb1 he1 => ?_)
  refine AOps.nil ?_
  refine AWP.cond nrWeA0 (fun hc2 => ?_) (fun hc2 => ?_)
  · try simp only [nh] at hc2
    refine AWP.seq ?_
    refine AWP.region ?_
    refine n_assign rfl nrWeA0 ?_
    refine AOps.nil ?_
    refine AWP.ret ?_
    refine fin_pure (.cons (rv_tmp nrWeA0) .nil) nrWeA0 ?_
    exact .ro (fun x hx => by cases hx)
  · try simp only [nh] at hc2
    refine AWP.skip ?_
    refine AWP.seq ?_
    refine AWP.region ?_
    refine n_lit rfl Tryz.underlying47 ti51 zi51 rfl rfl (Eq.trans (by simp only [nl] <;> rfl) nrWeA0) rfl nrWeA0 ?_
    refine n_move rfl nrWeA0 ?_
    refine n_append_full rfl Tryz.underlying47 Tryz.underlying47 ei51 nrWeA0 nrWeA0 (by intro x hx; cases hx) (by intro x hx; cases hx) nrWeA0 rfl (by decide) rfl nrWeA0 ?_
    refine n_assign rfl nrWeA0 ?_
    refine AOps.nil ?_
    refine AWP.ret ?_
    refine fin_pure (.cons (rv_tmp nrWeA0) .nil) nrWeA0 ?_
    exact .ro (fun x hx => by cases hx)

theorem b_tab (l : List (List Q4 × Int)) (h0 : 0 < l.length) (hl : l.length ≤ 1048576) : Does Tryz.prog 36 [.sl none (l.map qt) .ro] [] (.bs 0 0 l.length) [.box (l.map qt).flatten] := by
  refine Does.of_body (rvs := [.tmp 2]) Tryz.func36 rfl rfl rfl rfl ?_
  refine AWP.seq ?_
  refine AWP.region ?_
  refine n_assign rfl nrWeA0 ?_
  refine AOps.nil ?_
  refine AWP.seq ?_
  refine AWP.seq ?_
  refine AWP.region ?_
  refine n_move rfl nrWeA0 ?_
  refine n_eqnil rfl Tryz.underlying29 nrWeA0 (fun b1 hb1 he1 => ?_)
  refine AOps.nil ?_
  refine AWP.cond nrWeA0 (fun hc2 => ?_) (fun hc2 => ?_)
  · try simp only [nh] at hc2
    exfalso
    have hnil : l.length = 0 := by { have := congrArg List.length (he1 hc2); rw [List.length_map] at this; exact this }
    omega
  · try simp only [nh] at hc2
    refine AWP.skip ?_
    refine AWP.seq ?_
    refine AWP.region ?_
    refine n_lit rfl Tryz.underlying29 ti49 zi49 rfl rfl (Eq.trans (by simp only [nl] <;> rfl) nrWeA0) rfl nrWeA0 ?_
    refine n_move rfl nrWeA0 ?_
    refine n_append_box (m := l.length) rfl Tryz.underlying29 Tryz.underlying29 ei49 nrWeA0 nrWeA0 (by intro x hx; cases hx) (by exact map_one (f := qt) (fun _ => rfl)) (by simp only [List.length_map, List.length_nil]; omega) (by rw [List.length_map]; exact h0) (by simp) rfl rfl nrWeA0 ?_
    refine n_assign rfl nrWeA0 ?_
    refine AOps.nil ?_
    refine AWP.ret ?_
    refine fin_newBs (.cons (rv_tmp nrWeA0) .nil) nrWeA0 rfl ?_
    exact renAll_lf (qts_lf l)

theorem n_tab : Does Tryz.prog 36 [.sl none [] .ro] [] (.sl none [] .ro) [] := by
  refine Does.of_body (rvs := [.tmp 2]) Tryz.func36 rfl rfl rfl rfl ?_
  refine AWP.seq ?_
  refine AWP.region ?_
  refine n_assign rfl nrWeA0 ?_
  refine AOps.nil ?_
  refine AWP.seq ?_
  refine AWP.seq ?_
  refine AWP.region ?_
  refine n_move rfl nrWeA0 ?_
  refine n_eqnil rfl Tryz.underlying29 nrWeA0 (fun b1 hb1 he1 => ?_)
  refine AOps.nil ?_
  refine AWP.cond nrWeA0 (fun hc2 => ?_) (fun hc2 => ?_)
  · try simp only [nh] at hc2
    refine AWP.seq ?_
    refine AWP.region ?_
    refine n_assign rfl nrWeA0 ?_
    refine AOps.nil ?_
    refine AWP.ret ?_
    refine fin_pure (.cons (rv_tmp nrWeA0) .nil) nrWeA0 ?_
    exact .ro (fun x hx => by cases hx)
  · try simp only [nh] at hc2
    refine AWP.skip ?_
    refine AWP.seq ?_
    refine AWP.region ?_
    refine n_lit rfl Tryz.underlying29 ti49 zi49 rfl rfl (Eq.trans (by simp only [nl] <;> rfl) nrWeA0) rfl nrWeA0 ?_
    refine n_move rfl nrWeA0 ?_
    refine n_append_full rfl Tryz.underlying29 Tryz.underlying29 ei49 nrWeA0 nrWeA0 (by intro x hx; cases hx) (by intro x hx; cases hx) nrWeA0 rfl (by decide) rfl nrWeA0 ?_
    refine n_assign rfl nrWeA0 ?_
    refine AOps.nil ?_
    refine AWP.ret ?_
    refine fin_pure (.cons (rv_tmp nrWeA0) .nil) nrWeA0 ?_
    exact .ro (fun x hx => by cases hx)

theorem b_byt (l : List Int) (h0 : 0 < l.length) (hl : l.length ≤ 1048576) : Does Tryz.prog 35 [.sl none (ints .u8 l) .ro] [] (.bs 0 0 l.length) [.box (ints .u8 l).flatten] := by
  refine Does.of_body (rvs := [.tmp 2]) Tryz.func35 rfl rfl rfl rfl ?_
  refine AWP.seq ?_
  refine AWP.region ?_
  refine n_assign rfl nrWeA0 ?_
  refine AOps.nil ?_
  refine AWP.seq ?_
  refine AWP.seq ?_
  refine AWP.region ?_
  refine n_move rfl nrWeA0 ?_
  refine n_eqnil rfl Tryz.underlying31 nrWeA0 (fun b1 hb1 he1 => ?_)
  refine AOps.nil ?_
  refine AWP.cond nrWeA0 (fun hc2 => ?_) (fun hc2 => ?_)
  · try simp only [nh] at hc2
    exfalso
    have hnil : l.length = 0 := by { have := congrArg List.length (he1 hc2); rw [ints_length] at this; exact this }
    omega
  · try simp only [nh] at hc2
    refine AWP.skip ?_
    refine AWP.seq ?_
    refine AWP.region ?_
    refine n_lit rfl Tryz.underlying31 ti5 zi5 rfl rfl (Eq.trans (by simp only [nl] <;> rfl) nrWeA0) rfl nrWeA0 ?_
    refine n_move rfl nrWeA0 ?_
    refine n_append_box (m := l.length) rfl Tryz.underlying31 Tryz.underlying31 ei5 nrWeA0 nrWeA0 (by intro x hx; cases hx) (by exact ints_one _ _) (by simp only [ints_length, List.length_nil]; omega) (by rw [ints_length]; exact h0) (by simp [ints_length]) rfl rfl nrWeA0 ?_
    refine n_assign rfl nrWeA0 ?_
    refine AOps.nil ?_
    refine AWP.ret ?_
    refine fin_newBs (.cons (rv_tmp nrWeA0) .nil) nrWeA0 rfl ?_
    exact renAll_lf (by_lf l)

theorem n_byt : Does Tryz.prog 35 [.sl none [] .ro] [] (.sl none [] .ro) [] := by
  refine Does.of_body (rvs := [.tmp 2]) Tryz.func35 rfl rfl rfl rfl ?_
  refine AWP.seq ?_
  refine AWP.region ?_
  refine n_assign rfl nrWeA0 ?_
  refine AOps.nil ?_
  refine AWP.seq ?_
  refine AWP.seq ?_
  refine AWP.region ?_
  refine n_move rfl nrWeA0 ?_
  refine n_eqnil rfl Tryz.underlying31 nrWeA0 (fun b1 hb1 he1 => ?_)
  refine AOps.nil ?_
  refine AWP.cond nrWeA0 (fun hc2 => ?_) (fun hc2 => ?_)
  · try simp only [nh] at hc2
    refine AWP.seq ?_
    refine AWP.region ?_
    refine n_assign rfl nrWeA0 ?_
    refine AOps.nil ?_
    refine AWP.ret ?_
    refine fin_pure (.cons (rv_tmp nrWeA0) .nil) nrWeA0 ?_
    exact .ro (fun x hx => by cases hx)
  · try simp only [nh] at hc2
    refine AWP.skip ?_
    refine AWP.seq ?_
    refine AWP.region ?_
    refine n_lit rfl Tryz.underlying31 ti5 zi5 rfl rfl (Eq.trans (by simp only [nl] <;> rfl) nrWeA0) rfl nrWeA0 ?_
    refine n_move rfl nrWeA0 ?_
    refine n_append_full rfl Tryz.underlying31 Tryz.underlying31 ei5 nrWeA0 nrWeA0 (by intro x hx; cases hx) (by intro x hx; cases hx) nrWeA0 rfl (by decide) rfl nrWeA0 ?_
    refine n_assign rfl nrWeA0 ?_
    refine AOps.nil ?_
    refine AWP.ret ?_
    refine fin_pure (.cons (rv_tmp nrWeA0) .nil) nrWeA0 ?_
    exact .ro (fun x hx => by cases hx)

end Go.Proofs.YtanfmpkjcoolmaaGreat.We
