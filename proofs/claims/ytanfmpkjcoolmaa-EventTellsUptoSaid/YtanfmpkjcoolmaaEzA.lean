/- Loops over events. -/
import Derived.Test.YtanfmpkjcoolmaaEvA
import Derived.Test.YtanfmpkjcoolmaaEventPlain5
import Derived.KernelRfl
set_option linter.unusedVariables false
set_option linter.unusedSimpArgs false
namespace Go.Proofs.Ytanfmpkjcoolmaa.Ez
open Go Go.Abs Go.Proofs.Ytanfmpkjcoolmaa.Pk
attribute [local irreducible] AWP AOps Does

theorem cf102 : CF Try.prog 102 := ⟨_, Try.func102, by kernel_rfl, by kernel_rfl⟩
theorem cf115 : CF Try.prog 115 := ⟨_, Try.func115, by kernel_rfl, by kernel_rfl⟩
theorem cf116 : CF Try.prog 116 := ⟨_, Try.func116, by kernel_rfl, by kernel_rfl⟩
theorem cf194 : CF Try.prog 194 := ⟨_, Try.func194, by kernel_rfl, by kernel_rfl⟩
theorem cf204 : CF Try.prog 204 := ⟨_, Try.func204, by kernel_rfl, by kernel_rfl⟩
theorem cf205 : CF Try.prog 205 := ⟨_, Try.func205, by kernel_rfl, by kernel_rfl⟩
theorem cf216 : CF Try.prog 216 := ⟨_, Try.func216, by kernel_rfl, by kernel_rfl⟩
theorem cf82 : CF Try.prog 82 := ⟨_, Try.func82, by kernel_rfl, by kernel_rfl⟩
theorem ei132 : EI Try.prog 132 2 32 (.agg #[.int .i64 0, .slice none 0 0]) := EI.of (by kernel_rfl) rfl rfl
theorem ei24 : EI Try.prog 24 2 16 (.agg #[.int .i64 0, .int .i64 0]) := EI.of (by kernel_rfl) rfl rfl
theorem ei26 : EI Try.prog 26 4 32 (.agg #[.int .i64 0, .int .i64 0, .int .i64 0, .int .i64 0]) := EI.of (by kernel_rfl) rfl rfl
theorem fd132_0 : FD Try.prog 132 0 2 0 := ⟨_, _, Try.underlying132, rfl, rfl, rfl⟩
theorem fd132_1 : FD Try.prog 132 1 84 1 := ⟨_, _, Try.underlying132, rfl, rfl, rfl⟩
theorem fd26_0 : FD Try.prog 26 0 3 0 := ⟨_, _, Try.underlying26, rfl, rfl, rfl⟩
theorem fd26_1 : FD Try.prog 26 1 24 1 := ⟨_, _, Try.underlying26, rfl, rfl, rfl⟩
theorem fd26_2 : FD Try.prog 26 2 2 3 := ⟨_, _, Try.underlying26, rfl, rfl, rfl⟩
theorem si132 : SI Try.prog 132 #[(0, 1), (1, 1)] (.agg #[.int .i64 0, .slice none 0 0]) := ⟨⟨_, Try.underlying132, fun w => by kernel_rfl⟩, by kernel_rfl⟩
theorem ti126 : TI Try.prog 126 1 false := ⟨by kernel_rfl, by kernel_rfl⟩
theorem ti132 : TI Try.prog 132 2 true := ⟨by kernel_rfl, by kernel_rfl⟩
theorem ti2 : TI Try.prog 2 1 false := ⟨by kernel_rfl, by kernel_rfl⟩
theorem ti24 : TI Try.prog 24 2 true := ⟨by kernel_rfl, by kernel_rfl⟩
theorem ti26 : TI Try.prog 26 4 true := ⟨by kernel_rfl, by kernel_rfl⟩
theorem ti27 : TI Try.prog 27 1 false := ⟨by kernel_rfl, by kernel_rfl⟩
theorem ti3 : TI Try.prog 3 1 false := ⟨by kernel_rfl, by kernel_rfl⟩
theorem ti84 : TI Try.prog 84 1 false := ⟨by kernel_rfl, by kernel_rfl⟩
theorem ti87 : TI Try.prog 87 1 false := ⟨by kernel_rfl, by kernel_rfl⟩
theorem zi126 : (Try.prog.info? 126).map (·.zero) = some (some (.slice none 0 0)) := by kernel_rfl
theorem zi132 : (Try.prog.info? 132).map (·.zero) = some (some (.agg #[.int .i64 0, .slice none 0 0])) := by kernel_rfl
theorem zi24 : (Try.prog.info? 24).map (·.zero) = some (some (.agg #[.int .i64 0, .int .i64 0])) := by kernel_rfl
theorem zi26 : (Try.prog.info? 26).map (·.zero) = some (some (.agg #[.int .i64 0, .int .i64 0, .int .i64 0, .int .i64 0])) := by kernel_rfl
theorem zi84 : (Try.prog.info? 84).map (·.zero) = some (some (.slice none 0 0)) := by kernel_rfl
theorem zi87 : (Try.prog.info? 87).map (·.zero) = some (some (.nilFunc)) := by kernel_rfl

attribute [local irreducible] Up.int Up.str Up.close Up.rest Up.clr Up.spoil Up.w Up.flag
theorem eq_rec (l : List Rc) (hn : l.length ≤ 1048576) : Does Try.prog 82 [(.sl none (l.map rz) .ro), (.sl none (l.map rz) .ro)] [] (vb true) [] := by
  refine Does.of_body (rvs := [.tmp 4]) Try.func82 rfl rfl rfl rfl ?_
  refine AWP.seq ?_
  refine AWP.region ?_
  refine n_assign rfl (by first | (simp only [nf, Nat.beq] <;> rfl) | rfl) ?_
  refine AOps.nil ?_
  refine AWP.seq ?_
  refine AWP.seq ?_
  refine AWP.region ?_
  refine n_move rfl (by first | (simp only [nf, Nat.beq] <;> rfl) | rfl) ?_
  refine n_len rfl Try.underlying84 (by first | (simp only [nf, Nat.beq] <;> rfl) | rfl) (by first | rw [ints_length] | rw [List.length_map] | rfl) ?_
  refine n_move rfl (by first | (simp only [nf, Nat.beq] <;> rfl) | rfl) ?_
  refine n_len rfl Try.underlying84 (by first | (simp only [nf, Nat.beq] <;> rfl) | rfl) (by first | rw [ints_length] | rw [List.length_map] | rfl) ?_
  refine n_ibin rfl (by first | (simp only [nf, Nat.beq] <;> rfl) | rfl) (by first | (simp only [nf, Nat.beq] <;> rfl) | rfl) rfl ?_
  refine AOps.nil ?_
  refine AWP.cond (by first | (simp only [nf, Nat.beq] <;> rfl) | rfl) (fun hc1 => ?_) (fun hc1 => ?_)
  · try simp only [nh] at hc1
    exfalso
    simp at hc1
  · try simp only [nh] at hc1
    refine AWP.skip ?_
    refine AWP.seq ?_
    refine AWP.seq ?_
    refine AWP.region ?_
    refine n_move rfl (by first | (simp only [nf, Nat.beq] <;> rfl) | rfl) ?_
    refine n_len rfl Try.underlying84 (by first | (simp only [nf, Nat.beq] <;> rfl) | rfl) (by first | rw [ints_length] | rw [List.length_map] | rfl) ?_
    refine n_move rfl (by first | (simp only [nf, Nat.beq] <;> rfl) | rfl) ?_
    refine AOps.nil ?_
    refine AWP.block ?_
    refine AWP.loop (α := Nat) (fun i => i ≤ l.length) (fun i => put (put (put (put empty 0 (.sl none (l.map rz) .ro)) 1 (.sl none (l.map rz) .ro)) 12 (vi (l.length : Int))) 13 (vi (i : Int))) (fun _ => []) (fun i => l.length - i) 0 ?_ ?_ ?_ ?_
    · exact Nat.zero_le _
    · (repeat (first | exact FLe.empty _ | refine FLe.put ?_ ?_)) <;> first | (simp only [nf, Nat.beq]; done) | rfl | (try simp only [nf, Nat.beq]; first | rfl | (simp only [List.length_map]; done) | (simp only [ints_length]; done) | (congr 2; omega))
    · rfl
    · intro i hi
      try dsimp only at hi ⊢
      refine AWP.seq ?_
      refine AWP.region ?_
      refine n_ibin rfl (by first | (simp only [nf, Nat.beq] <;> rfl) | rfl) (by first | (simp only [nf, Nat.beq] <;> rfl) | rfl) rfl ?_
      refine AOps.nil ?_
      refine AWP.seq ?_
      refine AWP.cond (by first | (simp only [nf, Nat.beq] <;> rfl) | rfl) (fun hc2 => ?_) (fun hc2 => ?_)
      · try simp only [nh] at hc2
        obtain ⟨x, hx⟩ : ∃ x, l[i]? = some x := ⟨_, List.getElem?_eq_getElem (by omega)⟩
        refine AWP.skip ?_
        refine AWP.seq ?_
        refine AWP.block ?_
        refine AWP.seq ?_
        refine AWP.region ?_
        refine n_move rfl (by first | (simp only [nf, Nat.beq] <;> rfl) | rfl) ?_
        refine n_assign rfl (by first | (simp only [nf, Nat.beq] <;> rfl) | rfl) ?_
        refine AOps.nil ?_
        refine AWP.seq ?_
        refine AWP.anyStill (by kernel_rfl) (by kernel_rfl) ?_
        refine Walk.still (rs := [0]) (by rfl) (by first | (simp only [nf, Nat.beq] <;> rfl) | rfl) (fun base => by
            refine n_move rfl (by first | (simp only [nf, Nat.beq] <;> rfl) | rfl) ?_
            exact AOps.nil ⟨rfl, rfl, rfl⟩) ?_
        refine Walk.still (rs := [5]) (by rfl) (by first | (simp only [nf, Nat.beq] <;> rfl) | rfl) (fun base => by
            refine n_move rfl (by first | (simp only [nf, Nat.beq] <;> rfl) | rfl) ?_
            exact AOps.nil ⟨rfl, rfl, rfl⟩) ?_
        refine Walk.still (rs := [16, 17]) (by rfl) (by first | (simp only [nf, Nat.beq] <;> rfl) | rfl) (fun base => by
            refine n_indexAddr rfl Try.underlying84 ti24 rfl (by first | (simp only [nf, Nat.beq] <;> rfl) | rfl) (by first | (simp only [nf, Nat.beq] <;> rfl) | rfl) (by omega) (by first | exact ints_at _ _ _ (by omega) | exact ints_get _ _ _ (by omega) | exact map_at _ (by assumption) | rfl) rfl ?_
            exact AOps.nil ⟨rfl, rfl, rfl⟩) ?_
        refine Walk.still (rs := [18]) (by rfl) (by first | (simp only [nf, Nat.beq] <;> rfl) | rfl) (fun base => by
            refine n_load rfl ti24 (by first | (simp only [nf, Nat.beq] <;> rfl) | rfl) (by first | (simp only [nf, Nat.beq] <;> rfl) | rfl) rfl (by first | (simp only [nf, Nat.beq] <;> rfl) | rfl) ?_
            exact AOps.nil ⟨rfl, rfl, rfl⟩) ?_
        refine Walk.still (rs := [1]) (by rfl) (by first | (simp only [nf, Nat.beq] <;> rfl) | rfl) (fun base => by
            refine n_move rfl (by first | (simp only [nf, Nat.beq] <;> rfl) | rfl) ?_
            exact AOps.nil ⟨rfl, rfl, rfl⟩) ?_
        refine Walk.still (rs := [5]) (by rfl) (by first | (simp only [nf, Nat.beq] <;> rfl) | rfl) (fun base => by
            refine n_move rfl (by first | (simp only [nf, Nat.beq] <;> rfl) | rfl) ?_
            exact AOps.nil ⟨rfl, rfl, rfl⟩) ?_
        refine Walk.still (rs := [20, 21]) (by rfl) (by first | (simp only [nf, Nat.beq] <;> rfl) | rfl) (fun base => by
            refine n_indexAddr rfl Try.underlying84 ti24 rfl (by first | (simp only [nf, Nat.beq] <;> rfl) | rfl) (by first | (simp only [nf, Nat.beq] <;> rfl) | rfl) (by omega) (by first | exact ints_at _ _ _ (by omega) | exact ints_get _ _ _ (by omega) | exact map_at _ (by assumption) | rfl) rfl ?_
            exact AOps.nil ⟨rfl, rfl, rfl⟩) ?_
        refine Walk.still (rs := [22]) (by rfl) (by first | (simp only [nf, Nat.beq] <;> rfl) | rfl) (fun base => by
            refine n_load rfl ti24 (by first | (simp only [nf, Nat.beq] <;> rfl) | rfl) (by first | (simp only [nf, Nat.beq] <;> rfl) | rfl) rfl (by first | (simp only [nf, Nat.beq] <;> rfl) | rfl) ?_
            exact AOps.nil ⟨rfl, rfl, rfl⟩) ?_
        refine Walk.still (rs := [19, 23]) (by rfl) (by first | (simp only [nf, Nat.beq] <;> rfl) | rfl) (fun base => by
            refine n_stne rfl (by first | (simp only [nf, Nat.beq] <;> rfl) | rfl) (by first | (simp only [nf, Nat.beq] <;> rfl) | rfl) rfl rfl Try.underlying24 (by kernel_rfl) (by kernel_rfl) (.int rfl ti2 Try.underlying2 rfl rfl (.int rfl ti2 Try.underlying2 rfl rfl .nil)) rfl ?_
            exact AOps.nil ⟨rfl, rfl, rfl⟩) ?_
        refine Walk.done ?_
        refine AWP.cond (by first | (simp only [nf, Nat.beq] <;> rfl) | rfl) (fun hc3 => ?_) (fun hc3 => ?_)
        · try simp only [nh] at hc3
          exfalso
          simp at hc3
        · try simp only [nh] at hc3
          refine AWP.skip ?_
          refine AWP.region ?_
          first | refine n_iadd rfl (by first | (simp only [nf, Nat.beq] <;> rfl) | rfl) (by first | (simp only [nf, Nat.beq] <;> rfl) | rfl) rfl (by omega) (by omega) ?_ | refine n_ibin rfl (by first | (simp only [nf, Nat.beq] <;> rfl) | rfl) (by first | (simp only [nf, Nat.beq] <;> rfl) | rfl) rfl ?_
          refine n_move rfl (by first | (simp only [nf, Nat.beq] <;> rfl) | rfl) ?_
          refine AOps.nil ?_
          refine ⟨i + 1, by omega, ?_, rfl, by omega⟩
          (repeat (first | exact FLe.empty _ | refine FLe.put ?_ ?_)) <;> first | (simp only [nf, Nat.beq]; done) | rfl | (try simp only [nf, Nat.beq]; first | rfl | (simp only [List.length_map]; done) | (simp only [ints_length]; done) | (congr 2; omega))
      · try simp only [nh] at hc2
        refine AWP.exit ?_
        refine AWP.seq ?_
        refine AWP.region ?_
        refine n_assign rfl (by first | (simp only [nf, Nat.beq] <;> rfl) | rfl) ?_
        refine AOps.nil ?_
        refine AWP.ret ?_
        refine fin_pure (.cons (rv_tmp (by first | (simp only [nf, Nat.beq] <;> rfl) | rfl)) .nil) (by first | (simp only [nf, Nat.beq] <;> rfl) | rfl) ?_
        exact ren_flat rfl rfl

theorem clone_ev (l : List Ev) (hl : l.length ≤ 1099511627776) : Does Try.prog 194 [(.sl none (l.map Ev.z) .ro)] [] (.sl none (l.map Ev.z) .ro) [] := by
  refine Does.of_body (rvs := [.tmp 2]) Try.func194 rfl rfl rfl rfl ?_
  refine AWP.seq ?_
  refine AWP.region ?_
  refine n_assign rfl (by first | (simp only [nf, Nat.beq] <;> rfl) | rfl) ?_
  refine AOps.nil ?_
  refine AWP.seq ?_
  refine AWP.seq ?_
  refine AWP.region ?_
  refine n_move rfl (by first | (simp only [nf, Nat.beq] <;> rfl) | rfl) ?_
  refine n_eqnil rfl Try.underlying27 (by first | (simp only [nf, Nat.beq] <;> rfl) | rfl) (fun b1 hb1 he1 => ?_)
  refine AOps.nil ?_
  refine AWP.cond (by first | (simp only [nf, Nat.beq] <;> rfl) | rfl) (fun hc2 => ?_) (fun hc2 => ?_)
  · try simp only [nh] at hc2
    refine AWP.seq ?_
    refine AWP.region ?_
    refine n_assign rfl (by first | (simp only [nf, Nat.beq] <;> rfl) | rfl) ?_
    refine AOps.nil ?_
    refine AWP.ret ?_
    refine fin_pure (.cons (rv_tmp (by first | (simp only [nf, Nat.beq] <;> rfl) | rfl)) .nil) (by first | (simp only [nf, Nat.beq] <;> rfl) | rfl) ?_
    first | (rw [he1 (by assumption)]; exact .ro (fun x hx => by cases hx)) | exact ren_map (fun _ => rfl)
  · try simp only [nh] at hc2
    refine AWP.skip ?_
    refine AWP.seq ?_
    refine AWP.region ?_
    refine n_lit rfl Try.underlying27 ti26 zi26 rfl rfl (Eq.trans (by simp only [nl] <;> rfl) (by first | (simp only [nf, Nat.beq] <;> rfl) | rfl)) rfl (by first | (simp only [nf, Nat.beq] <;> rfl) | rfl) ?_
    refine n_move rfl (by first | (simp only [nf, Nat.beq] <;> rfl) | rfl) ?_
    refine n_append_full rfl Try.underlying27 Try.underlying27 ei26 (by first | (simp only [nf, Nat.beq] <;> rfl) | rfl) (by first | (simp only [nf, Nat.beq] <;> rfl) | rfl) (by intro x hx; cases hx) (by exact map_one (f := Ev.z) (fun _ => rfl)) (by first | (simp only [nf, Nat.beq] <;> rfl) | rfl) rfl (by simp only [List.length_map, List.length_nil]; omega) rfl (by first | (simp only [nf, Nat.beq] <;> rfl) | rfl) ?_
    refine n_assign rfl (by first | (simp only [nf, Nat.beq] <;> rfl) | rfl) ?_
    refine AOps.nil ?_
    refine AWP.ret ?_
    refine fin_pure (.cons (rv_tmp (by first | (simp only [nf, Nat.beq] <;> rfl) | rfl)) .nil) (by first | (simp only [nf, Nat.beq] <;> rfl) | rfl) ?_
    first | (rw [he1 (by assumption)]; exact .ro (fun x hx => by cases hx)) | exact ren_map (fun _ => rfl)

theorem clone_rec (l : List Rc) (hl : l.length ≤ 1099511627776) : Does Try.prog 204 [(.sl none (l.map rz) .ro)] [] (.sl none (l.map rz) .ro) [] := by
  refine Does.of_body (rvs := [.tmp 2]) Try.func204 rfl rfl rfl rfl ?_
  refine AWP.seq ?_
  refine AWP.region ?_
  refine n_assign rfl (by first | (simp only [nf, Nat.beq] <;> rfl) | rfl) ?_
  refine AOps.nil ?_
  refine AWP.seq ?_
  refine AWP.seq ?_
  refine AWP.region ?_
  refine n_move rfl (by first | (simp only [nf, Nat.beq] <;> rfl) | rfl) ?_
  refine n_eqnil rfl Try.underlying84 (by first | (simp only [nf, Nat.beq] <;> rfl) | rfl) (fun b1 hb1 he1 => ?_)
  refine AOps.nil ?_
  refine AWP.cond (by first | (simp only [nf, Nat.beq] <;> rfl) | rfl) (fun hc2 => ?_) (fun hc2 => ?_)
  · try simp only [nh] at hc2
    refine AWP.seq ?_
    refine AWP.region ?_
    refine n_assign rfl (by first | (simp only [nf, Nat.beq] <;> rfl) | rfl) ?_
    refine AOps.nil ?_
    refine AWP.ret ?_
    refine fin_pure (.cons (rv_tmp (by first | (simp only [nf, Nat.beq] <;> rfl) | rfl)) .nil) (by first | (simp only [nf, Nat.beq] <;> rfl) | rfl) ?_
    first | (rw [he1 (by assumption)]; exact .ro (fun x hx => by cases hx)) | exact ren_map (fun _ => rfl)
  · try simp only [nh] at hc2
    refine AWP.skip ?_
    refine AWP.seq ?_
    refine AWP.region ?_
    refine n_lit rfl Try.underlying84 ti24 zi24 rfl rfl (Eq.trans (by simp only [nl] <;> rfl) (by first | (simp only [nf, Nat.beq] <;> rfl) | rfl)) rfl (by first | (simp only [nf, Nat.beq] <;> rfl) | rfl) ?_
    refine n_move rfl (by first | (simp only [nf, Nat.beq] <;> rfl) | rfl) ?_
    refine n_append_full rfl Try.underlying84 Try.underlying84 ei24 (by first | (simp only [nf, Nat.beq] <;> rfl) | rfl) (by first | (simp only [nf, Nat.beq] <;> rfl) | rfl) (by intro x hx; cases hx) (by exact map_one (f := rz) (fun _ => rfl)) (by first | (simp only [nf, Nat.beq] <;> rfl) | rfl) rfl (by simp only [List.length_map, List.length_nil]; omega) rfl (by first | (simp only [nf, Nat.beq] <;> rfl) | rfl) ?_
    refine n_assign rfl (by first | (simp only [nf, Nat.beq] <;> rfl) | rfl) ?_
    refine AOps.nil ?_
    refine AWP.ret ?_
    refine fin_pure (.cons (rv_tmp (by first | (simp only [nf, Nat.beq] <;> rfl) | rfl)) .nil) (by first | (simp only [nf, Nat.beq] <;> rfl) | rfl) ?_
    first | (rw [he1 (by assumption)]; exact .ro (fun x hx => by cases hx)) | exact ren_map (fun _ => rfl)

theorem recs_it (l : List Ev) (hn : l.length ≤ 1048576) : Iter Try.prog 195 [.rp [(.sl none (l.map Ev.z) .ro)]] [] ((recs l).map fun p => [.agg (rz p)]) := by
  refine Iter.of_body (rvs := []) Try.func195 rfl rfl rfl rfl (fun yl J hY => ?_)
  refine AWP.scope ?_
  refine AWP.seq ?_
  refine AWP.label ?_
  refine AWP.seq ?_
  refine AWP.region ?_
  refine n_load rfl ti27 (by first | (simp only [nf, Nat.beq] <;> rfl) | rfl) (by first | (simp only [nf, Nat.beq] <;> rfl) | rfl) rfl (by first | (simp only [nf, Nat.beq] <;> rfl) | rfl) ?_
  refine n_len rfl Try.underlying27 (by first | (simp only [nf, Nat.beq] <;> rfl) | rfl) (by first | rw [ints_length] | rw [List.length_map] | rfl) ?_
  refine n_move rfl (by first | (simp only [nf, Nat.beq] <;> rfl) | rfl) ?_
  refine AOps.nil ?_
  refine AWP.block ?_
  refine AWP.loopX 1 (α := Nat) (fun i => i ≤ l.length) (fun i => put (put (put (put (put empty 0 (.val (.func (.yield yl) #[] #[]))) 1 (.rp [(.sl none (l.map Ev.z) .ro)])) 5 (.sl none (l.map Ev.z) .ro)) 6 (vi (l.length : Int))) 7 (vi (i : Int))) (fun i => [.seen J (some (recs (l.take i)).length)]) (fun i => l.length - i) 0 ?_ ?_ ?_ ?_ ?_ ?_ ?_
  · exact Nat.zero_le _
  · (repeat (first | exact FLe.empty _ | refine FLe.put ?_ ?_)) <;> first | (simp only [nf, Nat.beq]; done) | rfl | (try simp only [nf, Nat.beq]; first | rfl | (simp only [List.length_map]; done) | (congr 2; omega))
  · rfl
  · exact fun _ => rfl
  · intro p hp; (try dsimp only); (repeat' (refine un_put ?_ ?_)) <;> first | exact un_empty | exact .bp (by decide) | exact .lf (D.flat_lf rfl) | exact .lf (lf_ints (.inl rfl)) | exact .lf (lf_map (fun _ => rfl) (.inl rfl)) | exact .lf (.rp (lf_rp1 (f := Ev.z) (fun _ => rfl)))
  · intro p hp; (try dsimp only); repeat' (first | exact un_nil | refine un_cons ?_ ?_ | exact un_box rfl | exact trivial)
  · intro i hi
    try dsimp only at hi ⊢
    refine AWP.seq ?_
    refine AWP.region ?_
    refine n_ibin rfl (by first | (simp only [nf, Nat.beq] <;> rfl) | rfl) (by first | (simp only [nf, Nat.beq] <;> rfl) | rfl) rfl ?_
    refine AOps.nil ?_
    refine AWP.seq ?_
    refine AWP.cond (by first | (simp only [nf, Nat.beq] <;> rfl) | rfl) (fun hc1 => ?_) (fun hc1 => ?_)
    · try simp only [nh] at hc1
      obtain ⟨x, hx⟩ : ∃ x, l[i]? = some x := ⟨_, List.getElem?_eq_getElem (by omega)⟩
      refine AWP.skip ?_
      refine AWP.seq ?_
      refine AWP.block ?_
      refine AWP.seq ?_
      refine AWP.region ?_
      refine n_indexAddr rfl Try.underlying27 ti26 rfl (by first | (simp only [nf, Nat.beq] <;> rfl) | rfl) (by first | (simp only [nf, Nat.beq] <;> rfl) | rfl) (by omega) (by first | exact ints_at _ _ _ (by omega) | exact ints_get _ _ _ (by omega) | exact map_at _ (by assumption) | rfl) rfl ?_
      refine n_load rfl ti26 (by first | (simp only [nf, Nat.beq] <;> rfl) | rfl) (by first | (simp only [nf, Nat.beq] <;> rfl) | rfl) rfl (by first | (simp only [nf, Nat.beq] <;> rfl) | rfl) ?_
      refine n_alloc rfl zi26 rfl (by first | (simp only [nf, Nat.beq] <;> rfl) | rfl) (by first | (simp only [nf, Nat.beq] <;> rfl) | rfl) ?_
      refine n_store ti26 (by first | (simp only [nf, Nat.beq] <;> rfl) | rfl) rfl (by first | (simp only [nf, Nat.beq] <;> rfl) | rfl) rfl (by first | (simp only [nf, Nat.beq] <;> rfl) | rfl) rfl rfl rfl (by first | (simp only [nf, Nat.beq] <;> rfl) | rfl) ?_
      refine AOps.nil ?_
      refine AWP.seq ?_
      refine AWP.seq ?_
      refine AWP.region ?_
      refine n_fieldAddr rfl fd26_0 ti3 rfl (by first | (simp only [nf, Nat.beq] <;> rfl) | rfl) rfl (by first | (simp only [nf, Nat.beq] <;> rfl) | rfl) ?_
      refine n_load rfl ti3 (by first | (simp only [nf, Nat.beq] <;> rfl) | rfl) (by first | (simp only [nf, Nat.beq] <;> rfl) | rfl) rfl (by first | (simp only [nf, Nat.beq] <;> rfl) | rfl) ?_
      refine n_ibin rfl (by first | (simp only [nf, Nat.beq] <;> rfl) | rfl) (by first | (simp only [nf, Nat.beq] <;> rfl) | rfl) rfl ?_
      refine AOps.nil ?_
      refine AWP.cond (by first | (simp only [nf, Nat.beq] <;> rfl) | rfl) (fun hc2 => ?_) (fun hc2 => ?_)
      · try simp only [nh] at hc2
        have hlen : (recs (l.take (i + 1))).length = (recs (l.take i)).length := by rw [recs_take_no hx hc2]
        refine AWP.exit ?_
        refine AWP.region ?_
        first | refine n_iadd rfl (by first | (simp only [nf, Nat.beq] <;> rfl) | rfl) (by first | (simp only [nf, Nat.beq] <;> rfl) | rfl) rfl (by omega) (by omega) ?_ | refine n_ibin rfl (by first | (simp only [nf, Nat.beq] <;> rfl) | rfl) (by first | (simp only [nf, Nat.beq] <;> rfl) | rfl) rfl ?_
        refine n_move rfl (by first | (simp only [nf, Nat.beq] <;> rfl) | rfl) ?_
        refine AOps.nil ?_
        refine ⟨i + 1, [.box (Ev.z x)], by omega, ?_, ?_, by omega⟩
        · (repeat (first | exact FLe.empty _ | refine FLe.put ?_ ?_)) <;> first | (simp only [nf, Nat.beq]; done) | rfl | (try simp only [nf, Nat.beq]; first | rfl | (simp only [List.length_map]; done) | (congr 2; omega))
        · (show _ = [Ob.seen J (some (recs (l.take (i + 1))).length)] ++ [Ob.box (Ev.z x)]); rw [hlen]; rfl
      · try simp only [nh] at hc2
        have hc1 : x.c = 1 := by simpa using hc2
        have hlen : (recs (l.take (i + 1))).length = (recs (l.take i)).length + 1 := by rw [recs_take_yes hx hc1]; simp
        have hxy : ((recs l).map fun p => [D.agg (rz p)])[(recs (l.take i)).length]? = some [.agg (rz x.rc)] := by rw [List.getElem?_map, recs_at hx hc1]; rfl
        refine AWP.skip ?_
        refine AWP.seq ?_
        refine AWP.region ?_
        refine n_move rfl (by first | (simp only [nf, Nat.beq] <;> rfl) | rfl) ?_
        refine n_fieldAddr rfl fd26_1 ti24 rfl (by first | (simp only [nf, Nat.beq] <;> rfl) | rfl) rfl (by first | (simp only [nf, Nat.beq] <;> rfl) | rfl) ?_
        refine n_load rfl ti24 (by first | (simp only [nf, Nat.beq] <;> rfl) | rfl) (by first | (simp only [nf, Nat.beq] <;> rfl) | rfl) rfl (by first | (simp only [nf, Nat.beq] <;> rfl) | rfl) ?_
        refine n_yield (l0 := 0) rfl (by first | (simp only [nf, Nat.beq] <;> rfl) | rfl) rfl hY hxy (Eq.trans (by simp only [nl] <;> rfl) (by first | (simp only [nf, Nat.beq] <;> rfl) | rfl)) (by repeat (first | exact .nil | refine .cons ?_ ?_ | exact ren_ints | exact .lf (.val _) | exact .lf (lf_ints (.inl rfl)) | exact .bp ⟨rfl, rfl⟩ | exact .bp (.inl ⟨rfl, rfl⟩) | exact .bp (.inr ⟨rfl, rfl⟩) | exact .lf (D.flat_lf rfl) | exact ren_lits rfl | exact ren_ints | exact ren_map (f := Ev.z) (fun _ => rfl) | exact ren_map (f := rz) (fun _ => rfl) | exact .lf (lf_fnrp (lf_rp1 (f := Ev.z) (fun _ => rfl))) | exact .lf (lf_fnrp hcs))) rfl rfl ?_ ?_
        · refine n_not rfl (by first | (simp only [nf, Nat.beq] <;> rfl) | rfl) rfl ?_
          refine AOps.nil ?_
          refine AWP.cond_false (by first | (simp only [nf, Nat.beq] <;> rfl) | rfl) ?_
          refine AWP.skip ?_
          refine AWP.region ?_
          first | refine n_iadd rfl (by first | (simp only [nf, Nat.beq] <;> rfl) | rfl) (by first | (simp only [nf, Nat.beq] <;> rfl) | rfl) rfl (by omega) (by omega) ?_ | refine n_ibin rfl (by first | (simp only [nf, Nat.beq] <;> rfl) | rfl) (by first | (simp only [nf, Nat.beq] <;> rfl) | rfl) rfl ?_
          refine n_move rfl (by first | (simp only [nf, Nat.beq] <;> rfl) | rfl) ?_
          refine AOps.nil ?_
          refine ⟨i + 1, [.box (Ev.z x)], by omega, ?_, ?_, by omega⟩
          · (repeat (first | exact FLe.empty _ | refine FLe.put ?_ ?_)) <;> first | (simp only [nf, Nat.beq]; done) | rfl | (try simp only [nf, Nat.beq]; first | rfl | (simp only [List.length_map]; done) | (congr 2; omega))
          · (show _ = [Ob.seen J (some (recs (l.take (i + 1))).length)] ++ [Ob.box (Ev.z x)]); rw [hlen]; rfl
        · refine n_not rfl (by first | (simp only [nf, Nat.beq] <;> rfl) | rfl) rfl ?_
          refine AOps.nil ?_
          refine AWP.cond_true (by first | (simp only [nf, Nat.beq] <;> rfl) | rfl) ?_
          refine AWP.exit ?_
          first | exact ⟨.inl rfl, [], _, .nil, .inr rfl, rfl⟩ | exact ⟨.inl rfl, [], _, .nil, .inl (by simp), rfl⟩
    · try simp only [nh] at hc1
      obtain rfl : i = l.length := by omega
      refine AWP.exit ?_
      first | exact ⟨.inl rfl, [], _, .nil, .inr rfl, rfl⟩ | exact ⟨.inl rfl, [], _, .nil, .inl (by simp), rfl⟩

theorem l_records (l : List Ev) (hn : l.length ≤ 1048576) : Does Try.prog 80 [(.sl none (l.map Ev.z) .ro)] [] (.fn (.func 195) [] [.rp [(.sl none (l.map Ev.z) .ro)]]) [] := by
  refine Does.of_body (rvs := [.tmp 2]) Try.func80 rfl rfl rfl rfl ?_
  refine AWP.seq ?_
  refine AWP.region ?_
  refine n_box rfl (by first | (simp only [nf, Nat.beq] <;> rfl) | rfl) rfl rfl (by first | (simp only [nf, Nat.beq] <;> rfl) | rfl) (by first | (simp only [nf, Nat.beq] <;> rfl) | rfl) ?_
  refine n_assign rfl (by first | (simp only [nf, Nat.beq] <;> rfl) | rfl) ?_
  refine AOps.nil ?_
  refine AWP.seq ?_
  refine AWP.region ?_
  refine n_load rfl ti27 (by first | (simp only [nf, Nat.beq] <;> rfl) | rfl) (by first | (simp only [nf, Nat.beq] <;> rfl) | rfl) rfl (by first | (simp only [nf, Nat.beq] <;> rfl) | rfl) ?_
  refine n_call0B rfl cf194 rfl (Eq.trans (by simp only [nl] <;> rfl) (by first | (simp only [nf, Nat.beq] <;> rfl) | rfl)) (by repeat (first | exact .nil | refine .cons ?_ ?_ | exact ren_ints | exact .lf (.val _) | exact .lf (lf_ints (.inl rfl)) | exact .bp ⟨rfl, rfl⟩ | exact .bp (.inl ⟨rfl, rfl⟩) | exact .bp (.inr ⟨rfl, rfl⟩) | exact .lf (D.flat_lf rfl) | exact ren_lits rfl | exact ren_ints | exact ren_map (f := Ev.z) (fun _ => rfl) | exact ren_map (f := rz) (fun _ => rfl) | exact .lf (lf_fnrp (lf_rp1 (f := Ev.z) (fun _ => rfl))) | exact .lf (lf_fnrp hcs))) (clone_ev _ (by omega)) (by first | exact .val _ | exact lf_ints (.inl rfl) | exact lf_ints (.inr rfl) | exact .any | exact D.flat_lf rfl | exact .tup (lf_cons (lf_ints (.inl rfl)) (lf_cons (.val _) lf_nil)) | exact lf_fnrp (lf_rp1 (f := Ev.z) (fun _ => rfl)) | exact lf_map (f := rz) (fun _ => rfl) (.inl rfl) | exact lf_map (f := Ev.z) (fun _ => rfl) (.inl rfl)) ?_
  refine n_store ti27 (by first | (simp only [nf, Nat.beq] <;> rfl) | rfl) rfl (by first | (simp only [nf, Nat.beq] <;> rfl) | rfl) rfl (by first | (simp only [nf, Nat.beq] <;> rfl) | rfl) rfl rfl rfl (by first | (simp only [nf, Nat.beq] <;> rfl) | rfl) ?_
  refine AOps.nil ?_
  refine AWP.seq ?_
  refine AWP.freeze (t := 1) (S' := [.lent]) (by rfl) rfl rfl rfl ?_
  refine AWP.region ?_
  refine n_makeFunc rfl (Eq.trans (by simp only [nl] <;> rfl) (by first | (simp only [nf, Nat.beq] <;> rfl) | rfl)) (Eq.trans (by simp only [nl] <;> rfl) (by first | (simp only [nf, Nat.beq] <;> rfl) | rfl)) ?_
  refine n_assign rfl (by first | (simp only [nf, Nat.beq] <;> rfl) | rfl) ?_
  refine AOps.nil ?_
  refine AWP.ret ?_
  refine fin_pure (.cons (rv_tmp (by first | (simp only [nf, Nat.beq] <;> rfl) | rfl)) .nil) (by first | (simp only [nf, Nat.beq] <;> rfl) | rfl) ?_
  exact .lf (lf_fnrp (lf_rp1 (f := Ev.z) (fun _ => rfl)))

theorem told (f : FuncId) (cs : List D) (l : List Rc) (hcf : CF Try.prog f) (hI : Iter Try.prog f [.rp cs] [] (l.map fun p => [.agg (rz p)])) (hcs : ∀ d ∈ cs, LF d) (hn : l.length ≤ 1048576) : Does Try.prog 79 [.fn (.func f) [] [.rp cs]] [] (.sl none (l.map rz) .ro) [] := by
  refine Does.of_body (rvs := [.tmp 2]) Try.func79 rfl rfl rfl rfl ?_
  refine AWP.seq ?_
  refine AWP.region ?_
  refine n_assign rfl (by first | (simp only [nf, Nat.beq] <;> rfl) | rfl) ?_
  refine AOps.nil ?_
  refine AWP.seq ?_
  refine AWP.region ?_
  refine n_alloc rfl zi84 rfl (by first | (simp only [nf, Nat.beq] <;> rfl) | rfl) (by first | (simp only [nf, Nat.beq] <;> rfl) | rfl) ?_
  refine AOps.nil ?_
  refine AWP.seq ?_
  refine AWP.seq ?_
  refine AWP.adoptBox (j := 0) (i := 0) (m := 0) (sz := 2) (S' := [.box [.sl none [] (.own 1)], .row 0 2]) rfl rfl rfl rfl rfl ?_
  refine AWP.region ?_
  refine n_move rfl (by first | (simp only [nf, Nat.beq] <;> rfl) | rfl) ?_
  refine AOps.nil ?_
  refine AWP.block ?_
  refine AWP.rangeFunc [] (fun k => [.box [.sl none ((l.take k).map rz) (.own 1)], .row (l.take k).length 2]) (fun _ _ => False) (by first | (simp only [nf, Nat.beq] <;> rfl) | rfl) hcf (hI) List.nodup_nil rfl (fun j ob h => by simp at h) (.cons (.lf (.rp hcs)) .nil) rfl (by intro x hx; obtain ⟨p, _, rfl⟩ := List.mem_map.1 hx; rfl) (by intro x hx d hd; obtain ⟨p, _, rfl⟩ := List.mem_map.1 hx; simp only [List.mem_cons, List.not_mem_nil, or_false] at hd; subst hd; exact .agg (lf_cons (.val _) (lf_cons (.val _) lf_nil))) (by decide) (fun _ => rfl) (fun k => un_cons (fun d hd => by simp only [List.mem_cons, List.not_mem_nil, or_false] at hd; subst hd; exact .sl (fun x hx d hd => by obtain ⟨p, _, rfl⟩ := List.mem_map.1 hx; exact .lf (flats_lf (by rfl) d hd)) (fun l e => by cases e; simp)) (un_cons trivial un_nil)) rfl rfl ?_ ?_ ?_
  · intro k x hxk
    obtain ⟨p, hp, rfl⟩ := map_some hxk
    have hkl := (List.getElem?_eq_some_iff.1 hp).1
    dsimp only [putPs]
    refine AWP.region ?_
    refine n_alloc rfl zi24 rfl (by first | (simp only [nf, Nat.beq] <;> rfl) | rfl) (by first | (simp only [nf, Nat.beq] <;> rfl) | rfl) ?_
    refine n_store ti24 (by first | (simp only [nf, Nat.beq] <;> rfl) | rfl) rfl (by first | (simp only [nf, Nat.beq] <;> rfl) | rfl) rfl (by first | (simp only [nf, Nat.beq] <;> rfl) | rfl) rfl rfl rfl (by first | (simp only [nf, Nat.beq] <;> rfl) | rfl) ?_
    refine AOps.nil ?_
    refine AWP.block ?_
    refine AWP.region ?_
    refine n_load rfl ti84 (by first | (simp only [nf, Nat.beq] <;> rfl) | rfl) (by first | (simp only [nf, Nat.beq] <;> rfl) | rfl) rfl (by first | (simp only [nf, Nat.beq] <;> rfl) | rfl) ?_
    refine n_load rfl ti24 (by first | (simp only [nf, Nat.beq] <;> rfl) | rfl) (by first | (simp only [nf, Nat.beq] <;> rfl) | rfl) rfl (by first | (simp only [nf, Nat.beq] <;> rfl) | rfl) ?_
    refine n_lit rfl Try.underlying84 ti24 zi24 rfl rfl (Eq.trans (by simp only [nl] <;> rfl) (by first | (simp only [nf, Nat.beq] <;> rfl) | rfl)) rfl (by first | (simp only [nf, Nat.beq] <;> rfl) | rfl) ?_
    refine n_append_own (zs := (l.take (k + 1)).map rz) (m := (l.take (k + 1)).length) rfl Try.underlying84 Try.underlying84 ei24 (by first | (simp only [nf, Nat.beq] <;> rfl) | rfl) (by first | (simp only [nf, Nat.beq] <;> rfl) | rfl) (by simp only [List.length_map]) (by first | (simp only [nf, Nat.beq] <;> rfl) | rfl) (by exact map_one (f := rz) (fun _ => rfl)) (by exact one_one rfl) (by rw [take_snoc hp]; simp) (by rw [take_snoc hp]; simp) (by simp only [List.length_take]; omega) (by first | (simp only [nf, Nat.beq] <;> rfl) | rfl) ?_
    refine n_store ti84 (by first | (simp only [nf, Nat.beq] <;> rfl) | rfl) rfl (by first | (simp only [nf, Nat.beq] <;> rfl) | rfl) rfl (by first | (simp only [nf, Nat.beq] <;> rfl) | rfl) rfl rfl rfl (by first | (simp only [nf, Nat.beq] <;> rfl) | rfl) ?_
    refine AOps.nil ?_
    exact ⟨[.box (rz p)], rfl⟩
  · rw [List.length_map]
    try dsimp only
    rw [List.take_length]
    refine AWP.seq ?_
    refine AWP.region ?_
    refine n_load rfl ti84 (by first | (simp only [nf, Nat.beq] <;> rfl) | rfl) (by first | (simp only [nf, Nat.beq] <;> rfl) | rfl) rfl (by first | (simp only [nf, Nat.beq] <;> rfl) | rfl) ?_
    refine n_assign rfl (by first | (simp only [nf, Nat.beq] <;> rfl) | rfl) ?_
    refine AOps.nil ?_
    refine AWP.ret ?_
    refine fin_pure (.cons (rv_tmp (by first | (simp only [nf, Nat.beq] <;> rfl) | rfl)) .nil) (by first | (simp only [nf, Nat.beq] <;> rfl) | rfl) ?_
    exact ren_map (fun _ => rfl)
  · intro c S' h
    exact h.elim

theorem few (f : FuncId) (cs : List D) (l : List Rc) (hcf : CF Try.prog f) (hI : Iter Try.prog f [.rp cs] [] (l.map fun p => [.agg (rz p)])) (hcs : ∀ d ∈ cs, LF d) (hn : l.length ≤ 1048576) (n : Nat) : Does Try.prog 81 [.fn (.func f) [] [.rp cs], vi (n : Int)] [] (.sl none ((l.take n).map rz) .ro) [] := by
  refine Does.of_body (rvs := [.tmp 4]) Try.func81 rfl rfl rfl rfl ?_
  refine AWP.seq ?_
  refine AWP.region ?_
  refine n_box rfl (by first | (simp only [nf, Nat.beq] <;> rfl) | rfl) rfl rfl (by first | (simp only [nf, Nat.beq] <;> rfl) | rfl) (by first | (simp only [nf, Nat.beq] <;> rfl) | rfl) ?_
  refine n_assign rfl (by first | (simp only [nf, Nat.beq] <;> rfl) | rfl) ?_
  refine AOps.nil ?_
  refine AWP.seq ?_
  refine AWP.region ?_
  refine n_alloc rfl zi84 rfl (by first | (simp only [nf, Nat.beq] <;> rfl) | rfl) (by first | (simp only [nf, Nat.beq] <;> rfl) | rfl) ?_
  refine AOps.nil ?_
  refine AWP.seq ?_
  refine AWP.seq ?_
  refine AWP.adoptBox (j := 1) (i := 0) (m := 0) (sz := 2) (S' := [.box [vi (n : Int)], .box [.sl none [] (.own 2)], .row 0 2]) rfl rfl rfl rfl rfl ?_
  refine AWP.region ?_
  refine n_move rfl (by first | (simp only [nf, Nat.beq] <;> rfl) | rfl) ?_
  refine AOps.nil ?_
  refine AWP.block ?_
  refine AWP.rangeFunc [] (fun k => [.box [vi (n : Int)], .box [.sl none ((l.take (min k n)).map rz) (.own 2)], .row (l.take (min k n)).length 2]) (fun c S' => c = .exit 0 ∧ ∃ T, S' = [.box [vi (n : Int)], .box [.sl none ((l.take (n)).map rz) (.own 2)], .row (l.take (n)).length 2] ++ T) (by first | (simp only [nf, Nat.beq] <;> rfl) | rfl) hcf (hI) List.nodup_nil rfl (fun j ob h => by simp at h) (.cons (.lf (.rp hcs)) .nil) (by rw [Nat.zero_min]; rfl) (by intro x hx; obtain ⟨p, _, rfl⟩ := List.mem_map.1 hx; rfl) (by intro x hx d hd; obtain ⟨p, _, rfl⟩ := List.mem_map.1 hx; simp only [List.mem_cons, List.not_mem_nil, or_false] at hd; subst hd; exact .agg (lf_cons (.val _) (lf_cons (.val _) lf_nil))) (by decide) (fun _ => rfl) (fun k => un_cons (un_box rfl) (un_cons (fun d hd => by simp only [List.mem_cons, List.not_mem_nil, or_false] at hd; subst hd; exact .sl (fun x hx d hd => by obtain ⟨p, _, rfl⟩ := List.mem_map.1 hx; exact .lf (flats_lf (by rfl) d hd)) (fun l e => by cases e; simp)) (un_cons trivial un_nil))) rfl rfl ?_ ?_ ?_
  · intro k x hxk
    obtain ⟨p, hp, rfl⟩ := map_some hxk
    have hkl := (List.getElem?_eq_some_iff.1 hp).1
    have hlt : (l.take (min k n)).length = min k n := by rw [List.length_take]; omega
    dsimp only [putPs]
    refine AWP.region ?_
    refine n_alloc rfl zi24 rfl (by first | (simp only [nf, Nat.beq] <;> rfl) | rfl) (by first | (simp only [nf, Nat.beq] <;> rfl) | rfl) ?_
    refine n_store ti24 (by first | (simp only [nf, Nat.beq] <;> rfl) | rfl) rfl (by first | (simp only [nf, Nat.beq] <;> rfl) | rfl) rfl (by first | (simp only [nf, Nat.beq] <;> rfl) | rfl) rfl rfl rfl (by first | (simp only [nf, Nat.beq] <;> rfl) | rfl) ?_
    refine AOps.nil ?_
    refine AWP.block ?_
    refine AWP.seq ?_
    refine AWP.seq ?_
    refine AWP.region ?_
    refine n_load rfl ti84 (by first | (simp only [nf, Nat.beq] <;> rfl) | rfl) (by first | (simp only [nf, Nat.beq] <;> rfl) | rfl) rfl (by first | (simp only [nf, Nat.beq] <;> rfl) | rfl) ?_
    refine n_len rfl Try.underlying84 (by first | (simp only [nf, Nat.beq] <;> rfl) | rfl) (by first | rw [ints_length] | rw [List.length_map] | rfl) ?_
    refine n_load rfl ti3 (by first | (simp only [nf, Nat.beq] <;> rfl) | rfl) (by first | (simp only [nf, Nat.beq] <;> rfl) | rfl) rfl (by first | (simp only [nf, Nat.beq] <;> rfl) | rfl) ?_
    refine n_ibin rfl (by first | (simp only [nf, Nat.beq] <;> rfl) | rfl) (by first | (simp only [nf, Nat.beq] <;> rfl) | rfl) rfl ?_
    refine AOps.nil ?_
    refine AWP.cond (by first | (simp only [nf, Nat.beq] <;> rfl) | rfl) (fun hc1 => ?_) (fun hc1 => ?_)
    · try simp only [nh] at hc1
      have hmn : min k n = n := by omega
      refine AWP.exit ?_
      exact ⟨rfl, [.box (rz p)], by rw [hmn]; rfl⟩
    · try simp only [nh] at hc1
      have hm1 : min k n = k := by omega
      have hm2 : min (k + 1) n = k + 1 := by omega
      have htk : l.take (min (k + 1) n) = l.take (min k n) ++ [p] := by rw [hm1, hm2, take_snoc hp]
      refine AWP.skip ?_
      refine AWP.region ?_
      refine n_load rfl ti84 (by first | (simp only [nf, Nat.beq] <;> rfl) | rfl) (by first | (simp only [nf, Nat.beq] <;> rfl) | rfl) rfl (by first | (simp only [nf, Nat.beq] <;> rfl) | rfl) ?_
      refine n_load rfl ti24 (by first | (simp only [nf, Nat.beq] <;> rfl) | rfl) (by first | (simp only [nf, Nat.beq] <;> rfl) | rfl) rfl (by first | (simp only [nf, Nat.beq] <;> rfl) | rfl) ?_
      refine n_lit rfl Try.underlying84 ti24 zi24 rfl rfl (Eq.trans (by simp only [nl] <;> rfl) (by first | (simp only [nf, Nat.beq] <;> rfl) | rfl)) rfl (by first | (simp only [nf, Nat.beq] <;> rfl) | rfl) ?_
      refine n_append_own (zs := (l.take (min (k + 1) n)).map rz) (m := (l.take (min (k + 1) n)).length) rfl Try.underlying84 Try.underlying84 ei24 (by first | (simp only [nf, Nat.beq] <;> rfl) | rfl) (by first | (simp only [nf, Nat.beq] <;> rfl) | rfl) (by simp only [List.length_map]) (by first | (simp only [nf, Nat.beq] <;> rfl) | rfl) (by exact map_one (f := rz) (fun _ => rfl)) (by exact one_one rfl) (by rw [htk]; simp) (by rw [htk]; simp) (by simp only [List.length_take]; omega) (by first | (simp only [nf, Nat.beq] <;> rfl) | rfl) ?_
      refine n_store ti84 (by first | (simp only [nf, Nat.beq] <;> rfl) | rfl) rfl (by first | (simp only [nf, Nat.beq] <;> rfl) | rfl) rfl (by first | (simp only [nf, Nat.beq] <;> rfl) | rfl) rfl rfl rfl (by first | (simp only [nf, Nat.beq] <;> rfl) | rfl) ?_
      refine AOps.nil ?_
      exact ⟨[.box (rz p)], rfl⟩
  · rw [List.length_map]
    try dsimp only
    rw [show l.take (min l.length n) = l.take n by rw [List.take_eq_take_iff]; omega]
    refine AWP.seq ?_
    refine AWP.region ?_
    refine n_load rfl ti84 (by first | (simp only [nf, Nat.beq] <;> rfl) | rfl) (by first | (simp only [nf, Nat.beq] <;> rfl) | rfl) rfl (by first | (simp only [nf, Nat.beq] <;> rfl) | rfl) ?_
    refine n_assign rfl (by first | (simp only [nf, Nat.beq] <;> rfl) | rfl) ?_
    refine AOps.nil ?_
    refine AWP.ret ?_
    refine fin_pure (.cons (rv_tmp (by first | (simp only [nf, Nat.beq] <;> rfl) | rfl)) .nil) (by first | (simp only [nf, Nat.beq] <;> rfl) | rfl) ?_
    exact ren_map (fun _ => rfl)
  · rintro c S' ⟨rfl, T, rfl⟩
    refine ⟨by simp, ?_⟩
    refine AWP.exit ?_
    refine AWP.seq ?_
    refine AWP.region ?_
    refine n_load rfl ti84 (by first | (simp only [nf, Nat.beq] <;> rfl) | rfl) (by first | (simp only [nf, Nat.beq] <;> rfl) | rfl) rfl (by first | (simp only [nf, Nat.beq] <;> rfl) | rfl) ?_
    refine n_assign rfl (by first | (simp only [nf, Nat.beq] <;> rfl) | rfl) ?_
    refine AOps.nil ?_
    refine AWP.ret ?_
    refine fin_pure (.cons (rv_tmp (by first | (simp only [nf, Nat.beq] <;> rfl) | rfl)) .nil) (by first | (simp only [nf, Nat.beq] <;> rfl) | rfl) ?_
    exact ren_map (fun _ => rfl)

set_option maxHeartbeats 1000000 in
theorem epochs_it (l : List Ev) (hn : l.length ≤ 1048576) : Iter Try.prog 205 [.rp [(.sl none (l.map Ev.z) .ro)]] [] ((eps l).map epz) := by
  refine Iter.of_body (rvs := []) Try.func205 rfl rfl rfl rfl (fun yl J hY => ?_)
  refine AWP.seq ?_
  refine AWP.region ?_
  refine n_assign rfl (by first | (simp only [nf, Nat.beq] <;> rfl) | rfl) ?_
  refine AOps.nil ?_
  refine AWP.seq ?_
  refine AWP.seq ?_
  refine AWP.adopt (t := 3) (m := 0) (S' := [.seen J (some 0), .row 0 2]) (by rfl) rfl rfl rfl ?_
  refine AWP.region ?_
  refine n_load rfl ti27 (by first | (simp only [nf, Nat.beq] <;> rfl) | rfl) (by first | (simp only [nf, Nat.beq] <;> rfl) | rfl) rfl (by first | (simp only [nf, Nat.beq] <;> rfl) | rfl) ?_
  refine n_len rfl Try.underlying27 (by first | (simp only [nf, Nat.beq] <;> rfl) | rfl) (by first | rw [ints_length] | rw [List.length_map] | rfl) ?_
  refine n_move rfl (by first | (simp only [nf, Nat.beq] <;> rfl) | rfl) ?_
  refine AOps.nil ?_
  refine AWP.block ?_
  refine AWP.loop (α := Nat × List Ob × Nat) (fun p => p.1 ≤ l.length ∧ p.2.1[p.2.2]? = some (.row (epsS (l.take p.1)).2.length 2)) (fun p => put (put (put (put (put (put empty 0 (.val (.func (.yield yl) #[] #[]))) 1 (.rp [(.sl none (l.map Ev.z) .ro)])) 3 (.sl none ((epsS (l.take p.1)).2.map rz) (.own (p.2.2 + 1)))) 6 (.sl none (l.map Ev.z) .ro)) 7 (vi (l.length : Int))) 8 (vi (p.1 : Int))) (fun p => .seen J (some (epsS (l.take p.1)).1.length) :: p.2.1) (fun p => l.length - p.1) (0, [.row 0 2], 0) ?_ ?_ ?_ ?_
  · exact ⟨Nat.zero_le _, rfl⟩
  · (repeat (first | exact FLe.empty _ | refine FLe.put ?_ ?_)) <;> first | (simp only [nf, Nat.beq]; done) | rfl | (try simp only [nf, Nat.beq]; first | rfl | (simp only [List.length_map]; done) | (congr 2; omega))
  · rfl
  · rintro ⟨i, S1, r⟩ ⟨hi, hrow⟩
    dsimp only at hi hrow ⊢
    refine AWP.seq ?_
    refine AWP.region ?_
    refine n_ibin rfl (by first | (simp only [nf, Nat.beq] <;> rfl) | rfl) (by first | (simp only [nf, Nat.beq] <;> rfl) | rfl) rfl ?_
    refine AOps.nil ?_
    refine AWP.seq ?_
    refine AWP.cond (by first | (simp only [nf, Nat.beq] <;> rfl) | rfl) (fun hc1 => ?_) (fun hc1 => ?_)
    · try simp only [nh] at hc1
      obtain ⟨x, hx⟩ : ∃ x, l[i]? = some x := ⟨_, List.getElem?_eq_getElem (by omega)⟩
      have hpl := (epsS_len (l.take i)).2
      have htl : (l.take i).length ≤ l.length := by simp [List.length_take]; omega
      refine AWP.skip ?_
      refine AWP.seq ?_
      refine AWP.block ?_
      refine AWP.seq ?_
      refine AWP.region ?_
      refine n_indexAddr rfl Try.underlying27 ti26 rfl (by first | (simp only [nf, Nat.beq] <;> rfl) | rfl) (by first | (simp only [nf, Nat.beq] <;> rfl) | rfl) (by omega) (by first | exact ints_at _ _ _ (by omega) | exact ints_get _ _ _ (by omega) | exact map_at _ (by assumption) | rfl) rfl ?_
      refine n_load rfl ti26 (by first | (simp only [nf, Nat.beq] <;> rfl) | rfl) (by first | (simp only [nf, Nat.beq] <;> rfl) | rfl) rfl (by first | (simp only [nf, Nat.beq] <;> rfl) | rfl) ?_
      refine n_alloc (n := S1.length + 1) rfl zi26 (by rfl) (by first | (simp only [nf, Nat.beq] <;> rfl) | rfl) (by rw [List.cons_append]) ?_
      refine n_store (l0 := S1.length + 1) (S' := .seen J (some (epsS (l.take i)).1.length) :: (S1 ++ [.box (Ev.z x)])) ti26 (by first | (simp only [nf, Nat.beq] <;> rfl) | rfl) seen_at (by first | (simp only [nf, Nat.beq] <;> rfl) | rfl) rfl (by first | (simp only [nf, Nat.beq] <;> rfl) | rfl) rfl rfl rfl (seen_set rfl) ?_
      refine AOps.nil ?_
      refine AWP.seq ?_
      refine AWP.region ?_
      refine n_fieldAddr rfl fd26_0 ti3 rfl (by first | (simp only [nf, Nat.beq] <;> rfl) | rfl) rfl (by first | (simp only [nf, Nat.beq] <;> rfl) | rfl) ?_
      refine n_load rfl ti3 (by first | (simp only [nf, Nat.beq] <;> rfl) | rfl) (at_bp seen_at) rfl (by first | (simp only [nf, Nat.beq] <;> rfl) | rfl) ?_
      refine AOps.nil ?_
      refine AWP.block ?_
      refine AWP.seq ?_
      refine AWP.region ?_
      refine n_ibin rfl (by first | (simp only [nf, Nat.beq] <;> rfl) | rfl) (by first | (simp only [nf, Nat.beq] <;> rfl) | rfl) rfl ?_
      refine n_assign rfl (by first | (simp only [nf, Nat.beq] <;> rfl) | rfl) ?_
      refine AOps.nil ?_
      refine AWP.cond (by first | (simp only [nf, Nat.beq] <;> rfl) | rfl) (fun hc2 => ?_) (fun hc2 => ?_)
      · try simp only [nh] at hc2
        have hrl : r < (S1 ++ [Ob.box (Ev.z x)]).length := by have := (List.getElem?_eq_some_iff.1 hrow).1; simp only [List.length_append, List.length_cons, List.length_nil]; omega
        have hst : epsS (l.take (i + 1)) = ((epsS (l.take i)).1, (epsS (l.take i)).2 ++ [x.rc]) := by rw [epsS_take hx]; unfold stepE; rw [if_pos hc2]
        refine AWP.region ?_
        refine n_move rfl (by first | (simp only [nf, Nat.beq] <;> rfl) | rfl) ?_
        refine n_fieldAddr rfl fd26_1 ti24 rfl (by first | (simp only [nf, Nat.beq] <;> rfl) | rfl) rfl (by first | (simp only [nf, Nat.beq] <;> rfl) | rfl) ?_
        refine n_load rfl ti24 (by first | (simp only [nf, Nat.beq] <;> rfl) | rfl) (at_bp seen_at) rfl (by first | (simp only [nf, Nat.beq] <;> rfl) | rfl) ?_
        refine n_lit rfl Try.underlying84 ti24 zi24 rfl rfl (Eq.trans (by simp only [nl] <;> rfl) (by first | (simp only [nf, Nat.beq] <;> rfl) | rfl)) rfl (by first | (simp only [nf, Nat.beq] <;> rfl) | rfl) ?_
        refine n_append_own (l0 := r + 1) (zs := ((epsS (l.take i)).2 ++ [x.rc]).map rz) (m := (epsS (l.take i)).2.length + 1) rfl Try.underlying84 Try.underlying84 ei24 (by first | (simp only [nf, Nat.beq] <;> rfl) | rfl) (seen_old hrow) (by simp only [List.length_map]) (by first | (simp only [nf, Nat.beq] <;> rfl) | rfl) (by exact map_one (f := rz) (fun _ => rfl)) (by exact one_one rfl) (by simp [Ev.rc]) (by simp) (by omega) (by rfl) ?_
        refine n_assign rfl (by first | (simp only [nf, Nat.beq] <;> rfl) | rfl) ?_
        refine AOps.nil ?_
        try refine AWP.adopt (t := 3) (n := S1.length + 2) (xs := []) (m := 0) (sz := 2) (S' := .seen J (some ((epsS (l.take i)).1.length + 1)) :: (S1 ++ [.box (Ev.z x)] ++ [.row 0 2])) (by rfl) (by simp) rfl (by simp) ?_
        refine AWP.region ?_
        first | refine n_iadd rfl (by first | (simp only [nf, Nat.beq] <;> rfl) | rfl) (by first | (simp only [nf, Nat.beq] <;> rfl) | rfl) rfl (by omega) (by omega) ?_ | refine n_ibin rfl (by first | (simp only [nf, Nat.beq] <;> rfl) | rfl) (by first | (simp only [nf, Nat.beq] <;> rfl) | rfl) rfl ?_
        refine n_move rfl (by first | (simp only [nf, Nat.beq] <;> rfl) | rfl) ?_
        refine AOps.nil ?_
        first | (refine ⟨(i + 1, (S1 ++ [Ob.box (Ev.z x)]).set r (Ob.row ((epsS (l.take i)).2.length + 1) 2), r), ⟨by dsimp only; omega, ?_⟩, ?_, ?_, by dsimp only; omega⟩ <;> dsimp only <;> (try rw [hst]) <;> first | (exact hrow) | (exact concat_old hrow) | (rw [List.getElem?_set_self hrl]; simp only [List.length_append, List.length_cons, List.length_nil]; done) | (simp; done) | rfl | ((repeat (first | exact FLe.empty _ | refine FLe.put ?_ ?_)) <;> first | (simp only [nf, Nat.beq]; done) | rfl | ((try simp only [nf, Nat.beq]); first | rfl | (simp only [hst, List.map_append, List.map_cons, List.map_nil]; done) | (congr 2; omega; done)))) | (refine ⟨(i + 1, S1 ++ [Ob.box (Ev.z x)] ++ [Ob.row 0 2], S1.length + 1), ⟨by dsimp only; omega, ?_⟩, ?_, ?_, by dsimp only; omega⟩ <;> dsimp only <;> (try rw [hst]) <;> first | (exact hrow) | (exact concat_old hrow) | (rw [List.getElem?_set_self hrl]; simp only [List.length_append, List.length_cons, List.length_nil]; done) | (simp; done) | rfl | ((repeat (first | exact FLe.empty _ | refine FLe.put ?_ ?_)) <;> first | (simp only [nf, Nat.beq]; done) | rfl | ((try simp only [nf, Nat.beq]); first | rfl | (simp only [hst, List.map_append, List.map_cons, List.map_nil]; done) | (congr 2; omega; done)))) | (refine ⟨(i + 1, S1 ++ [Ob.box (Ev.z x)], r), ⟨by dsimp only; omega, ?_⟩, ?_, ?_, by dsimp only; omega⟩ <;> dsimp only <;> (try rw [hst]) <;> first | (exact hrow) | (exact concat_old hrow) | (rw [List.getElem?_set_self hrl]; simp only [List.length_append, List.length_cons, List.length_nil]; done) | (simp; done) | rfl | ((repeat (first | exact FLe.empty _ | refine FLe.put ?_ ?_)) <;> first | (simp only [nf, Nat.beq]; done) | rfl | ((try simp only [nf, Nat.beq]); first | rfl | (simp only [hst, List.map_append, List.map_cons, List.map_nil]; done) | (congr 2; omega; done))))
      · try simp only [nh] at hc2
        have hc1 := hc2
        refine AWP.seq ?_
        refine AWP.region ?_
        refine n_ibin rfl (by first | (simp only [nf, Nat.beq] <;> rfl) | rfl) (by first | (simp only [nf, Nat.beq] <;> rfl) | rfl) rfl ?_
        refine n_assign rfl (by first | (simp only [nf, Nat.beq] <;> rfl) | rfl) ?_
        refine AOps.nil ?_
        refine AWP.cond (by first | (simp only [nf, Nat.beq] <;> rfl) | rfl) (fun hc3 => ?_) (fun hc3 => ?_)
        · try simp only [nh] at hc3
          have hst : epsS (l.take (i + 1)) = ((epsS (l.take i)).1 ++ [(x.i, (epsS (l.take i)).2)], []) := by rw [epsS_take hx]; unfold stepE; rw [if_neg hc1, if_pos hc3]
          have hxy : ((eps l).map epz)[(epsS (l.take i)).1.length]? = some (epz (x.i, (epsS (l.take i)).2)) := by rw [List.getElem?_map, eps_at hx hc1 hc3]; rfl
          refine AWP.seq ?_
          refine AWP.seq ?_
          refine AWP.region ?_
          refine n_move rfl (by first | (simp only [nf, Nat.beq] <;> rfl) | rfl) ?_
          refine n_fieldAddr rfl fd26_2 ti2 rfl (by first | (simp only [nf, Nat.beq] <;> rfl) | rfl) rfl (by first | (simp only [nf, Nat.beq] <;> rfl) | rfl) ?_
          refine n_load rfl ti2 (by first | (simp only [nf, Nat.beq] <;> rfl) | rfl) (at_bp seen_at) rfl (by first | (simp only [nf, Nat.beq] <;> rfl) | rfl) ?_
          refine n_move rfl (by first | (simp only [nf, Nat.beq] <;> rfl) | rfl) ?_
          refine n_yield (l0 := 0) rfl (by first | (simp only [nf, Nat.beq] <;> rfl) | rfl) rfl hY hxy (Eq.trans (by simp only [nl] <;> rfl) (by first | (simp only [nf, Nat.beq] <;> rfl) | rfl)) (by repeat (first | exact .nil | refine .cons ?_ ?_ | exact ren_ints | exact .lf (.val _) | exact .lf (lf_ints (.inl rfl)) | exact .bp ⟨rfl, rfl⟩ | exact .bp (.inl ⟨rfl, rfl⟩) | exact .bp (.inr ⟨rfl, rfl⟩) | exact .lf (D.flat_lf rfl) | exact ren_lits rfl | exact ren_ints | exact ren_map (f := Ev.z) (fun _ => rfl) | exact ren_map (f := rz) (fun _ => rfl) | exact .lf (lf_fnrp (lf_rp1 (f := Ev.z) (fun _ => rfl))) | exact .lf (lf_fnrp hcs) | exact .ro (fun x h => by cases h) | exact ren_mapG (f := epz) epz_lf | exact .lf (lf_fnrp (lf_rp1 (f := rz) (fun _ => rfl))))) rfl rfl ?_ ?_
          · refine n_not rfl (by first | (simp only [nf, Nat.beq] <;> rfl) | rfl) rfl ?_
            refine AOps.nil ?_
            refine AWP.cond_false (by first | (simp only [nf, Nat.beq] <;> rfl) | rfl) ?_
            refine AWP.skip ?_
            refine AWP.region ?_
            refine n_assign rfl (by first | (simp only [nf, Nat.beq] <;> rfl) | rfl) ?_
            refine AOps.nil ?_
            try refine AWP.adopt (t := 3) (n := S1.length + 2) (xs := []) (m := 0) (sz := 2) (S' := .seen J (some ((epsS (l.take i)).1.length + 1)) :: (S1 ++ [.box (Ev.z x)] ++ [.row 0 2])) (by rfl) (by simp) rfl (by simp) ?_
            refine AWP.region ?_
            first | refine n_iadd rfl (by first | (simp only [nf, Nat.beq] <;> rfl) | rfl) (by first | (simp only [nf, Nat.beq] <;> rfl) | rfl) rfl (by omega) (by omega) ?_ | refine n_ibin rfl (by first | (simp only [nf, Nat.beq] <;> rfl) | rfl) (by first | (simp only [nf, Nat.beq] <;> rfl) | rfl) rfl ?_
            refine n_move rfl (by first | (simp only [nf, Nat.beq] <;> rfl) | rfl) ?_
            refine AOps.nil ?_
            first | (refine ⟨(i + 1, (S1 ++ [Ob.box (Ev.z x)]).set r (Ob.row ((epsS (l.take i)).2.length + 1) 2), r), ⟨by dsimp only; omega, ?_⟩, ?_, ?_, by dsimp only; omega⟩ <;> dsimp only <;> (try rw [hst]) <;> first | (exact hrow) | (exact concat_old hrow) | (rw [List.getElem?_set_self hrl]; simp only [List.length_append, List.length_cons, List.length_nil]; done) | (simp; done) | rfl | ((repeat (first | exact FLe.empty _ | refine FLe.put ?_ ?_)) <;> first | (simp only [nf, Nat.beq]; done) | rfl | ((try simp only [nf, Nat.beq]); first | rfl | (simp only [hst, List.map_append, List.map_cons, List.map_nil]; done) | (congr 2; omega; done)))) | (refine ⟨(i + 1, S1 ++ [Ob.box (Ev.z x)] ++ [Ob.row 0 2], S1.length + 1), ⟨by dsimp only; omega, ?_⟩, ?_, ?_, by dsimp only; omega⟩ <;> dsimp only <;> (try rw [hst]) <;> first | (exact hrow) | (exact concat_old hrow) | (rw [List.getElem?_set_self hrl]; simp only [List.length_append, List.length_cons, List.length_nil]; done) | (simp; done) | rfl | ((repeat (first | exact FLe.empty _ | refine FLe.put ?_ ?_)) <;> first | (simp only [nf, Nat.beq]; done) | rfl | ((try simp only [nf, Nat.beq]); first | rfl | (simp only [hst, List.map_append, List.map_cons, List.map_nil]; done) | (congr 2; omega; done)))) | (refine ⟨(i + 1, S1 ++ [Ob.box (Ev.z x)], r), ⟨by dsimp only; omega, ?_⟩, ?_, ?_, by dsimp only; omega⟩ <;> dsimp only <;> (try rw [hst]) <;> first | (exact hrow) | (exact concat_old hrow) | (rw [List.getElem?_set_self hrl]; simp only [List.length_append, List.length_cons, List.length_nil]; done) | (simp; done) | rfl | ((repeat (first | exact FLe.empty _ | refine FLe.put ?_ ?_)) <;> first | (simp only [nf, Nat.beq]; done) | rfl | ((try simp only [nf, Nat.beq]); first | rfl | (simp only [hst, List.map_append, List.map_cons, List.map_nil]; done) | (congr 2; omega; done))))
          · refine n_not rfl (by first | (simp only [nf, Nat.beq] <;> rfl) | rfl) rfl ?_
            refine AOps.nil ?_
            refine AWP.cond_true (by first | (simp only [nf, Nat.beq] <;> rfl) | rfl) ?_
            refine AWP.ret ?_
            first | exact ⟨.inr rfl, [], _, .nil, .inr rfl, rfl⟩ | exact ⟨.inr rfl, [], _, .nil, .inl (by rw [List.length_map, hel]), rfl⟩
        · try simp only [nh] at hc3
          have hst : epsS (l.take (i + 1)) = epsS (l.take i) := by rw [epsS_take hx]; unfold stepE; rw [if_neg hc1, if_neg hc3]
          refine AWP.skip ?_
          try refine AWP.adopt (t := 3) (n := S1.length + 2) (xs := []) (m := 0) (sz := 2) (S' := .seen J (some ((epsS (l.take i)).1.length + 1)) :: (S1 ++ [.box (Ev.z x)] ++ [.row 0 2])) (by rfl) (by simp) rfl (by simp) ?_
          refine AWP.region ?_
          first | refine n_iadd rfl (by first | (simp only [nf, Nat.beq] <;> rfl) | rfl) (by first | (simp only [nf, Nat.beq] <;> rfl) | rfl) rfl (by omega) (by omega) ?_ | refine n_ibin rfl (by first | (simp only [nf, Nat.beq] <;> rfl) | rfl) (by first | (simp only [nf, Nat.beq] <;> rfl) | rfl) rfl ?_
          refine n_move rfl (by first | (simp only [nf, Nat.beq] <;> rfl) | rfl) ?_
          refine AOps.nil ?_
          first | (refine ⟨(i + 1, (S1 ++ [Ob.box (Ev.z x)]).set r (Ob.row ((epsS (l.take i)).2.length + 1) 2), r), ⟨by dsimp only; omega, ?_⟩, ?_, ?_, by dsimp only; omega⟩ <;> dsimp only <;> (try rw [hst]) <;> first | (exact hrow) | (exact concat_old hrow) | (rw [List.getElem?_set_self hrl]; simp only [List.length_append, List.length_cons, List.length_nil]; done) | (simp; done) | rfl | ((repeat (first | exact FLe.empty _ | refine FLe.put ?_ ?_)) <;> first | (simp only [nf, Nat.beq]; done) | rfl | ((try simp only [nf, Nat.beq]); first | rfl | (simp only [hst, List.map_append, List.map_cons, List.map_nil]; done) | (congr 2; omega; done)))) | (refine ⟨(i + 1, S1 ++ [Ob.box (Ev.z x)] ++ [Ob.row 0 2], S1.length + 1), ⟨by dsimp only; omega, ?_⟩, ?_, ?_, by dsimp only; omega⟩ <;> dsimp only <;> (try rw [hst]) <;> first | (exact hrow) | (exact concat_old hrow) | (rw [List.getElem?_set_self hrl]; simp only [List.length_append, List.length_cons, List.length_nil]; done) | (simp; done) | rfl | ((repeat (first | exact FLe.empty _ | refine FLe.put ?_ ?_)) <;> first | (simp only [nf, Nat.beq]; done) | rfl | ((try simp only [nf, Nat.beq]); first | rfl | (simp only [hst, List.map_append, List.map_cons, List.map_nil]; done) | (congr 2; omega; done)))) | (refine ⟨(i + 1, S1 ++ [Ob.box (Ev.z x)], r), ⟨by dsimp only; omega, ?_⟩, ?_, ?_, by dsimp only; omega⟩ <;> dsimp only <;> (try rw [hst]) <;> first | (exact hrow) | (exact concat_old hrow) | (rw [List.getElem?_set_self hrl]; simp only [List.length_append, List.length_cons, List.length_nil]; done) | (simp; done) | rfl | ((repeat (first | exact FLe.empty _ | refine FLe.put ?_ ?_)) <;> first | (simp only [nf, Nat.beq]; done) | rfl | ((try simp only [nf, Nat.beq]); first | rfl | (simp only [hst, List.map_append, List.map_cons, List.map_nil]; done) | (congr 2; omega; done))))
    · try simp only [nh] at hc1
      obtain rfl : i = l.length := by omega
      rw [List.take_length] at *
      refine AWP.exit ?_
      refine AWP.seq ?_
      refine AWP.region ?_
      refine n_move rfl (by first | (simp only [nf, Nat.beq] <;> rfl) | rfl) ?_
      refine n_len rfl Try.underlying84 (by first | (simp only [nf, Nat.beq] <;> rfl) | rfl) (by first | rw [ints_length] | rw [List.length_map] | rfl) ?_
      refine n_ibin rfl (by first | (simp only [nf, Nat.beq] <;> rfl) | rfl) (by first | (simp only [nf, Nat.beq] <;> rfl) | rfl) rfl ?_
      refine AOps.nil ?_
      refine AWP.cond (by first | (simp only [nf, Nat.beq] <;> rfl) | rfl) (fun hc6 => ?_) (fun hc6 => ?_)
      · try simp only [nh] at hc6
        have hgt : (epsS l).2.length > 0 := by omega
        have hel := (eps_last hgt).2
        have hxy : ((eps l).map epz)[(epsS l).1.length]? = some (epz (0, (epsS l).2)) := by rw [List.getElem?_map, (eps_last hgt).1]; rfl
        refine AWP.region ?_
        refine n_move rfl (by first | (simp only [nf, Nat.beq] <;> rfl) | rfl) ?_
        refine n_move rfl (by first | (simp only [nf, Nat.beq] <;> rfl) | rfl) ?_
        refine n_yield (l0 := 0) rfl (by first | (simp only [nf, Nat.beq] <;> rfl) | rfl) rfl hY hxy (Eq.trans (by simp only [nl] <;> rfl) (by first | (simp only [nf, Nat.beq] <;> rfl) | rfl)) (by repeat (first | exact .nil | refine .cons ?_ ?_ | exact ren_ints | exact .lf (.val _) | exact .lf (lf_ints (.inl rfl)) | exact .bp ⟨rfl, rfl⟩ | exact .bp (.inl ⟨rfl, rfl⟩) | exact .bp (.inr ⟨rfl, rfl⟩) | exact .lf (D.flat_lf rfl) | exact ren_lits rfl | exact ren_ints | exact ren_map (f := Ev.z) (fun _ => rfl) | exact ren_map (f := rz) (fun _ => rfl) | exact .lf (lf_fnrp (lf_rp1 (f := Ev.z) (fun _ => rfl))) | exact .lf (lf_fnrp hcs) | exact .ro (fun x h => by cases h) | exact ren_mapG (f := epz) epz_lf | exact .lf (lf_fnrp (lf_rp1 (f := rz) (fun _ => rfl))))) rfl rfl ?_ ?_
        · refine AOps.nil ?_
          first | exact ⟨.inl rfl, [], _, .nil, .inr rfl, rfl⟩ | exact ⟨.inl rfl, [], _, .nil, .inl (by rw [List.length_map, hel]), rfl⟩
        · refine AOps.nil ?_
          first | exact ⟨.inl rfl, [], _, .nil, .inr rfl, rfl⟩ | exact ⟨.inl rfl, [], _, .nil, .inl (by rw [List.length_map, hel]), rfl⟩
      · try simp only [nh] at hc6
        have hel := eps_none (l := l) (by omega)
        refine AWP.skip ?_
        first | exact ⟨.inl rfl, [], _, .nil, .inr rfl, rfl⟩ | exact ⟨.inl rfl, [], _, .nil, .inl (by rw [List.length_map, hel]), rfl⟩

theorem l_epochs (l : List Ev) (hn : l.length ≤ 1048576) : Does Try.prog 102 [(.sl none (l.map Ev.z) .ro)] [] (.fn (.func 205) [] [.rp [(.sl none (l.map Ev.z) .ro)]]) [] := by
  refine Does.of_body (rvs := [.tmp 2]) Try.func102 rfl rfl rfl rfl ?_
  refine AWP.seq ?_
  refine AWP.region ?_
  refine n_box rfl (by first | (simp only [nf, Nat.beq] <;> rfl) | rfl) rfl rfl (by first | (simp only [nf, Nat.beq] <;> rfl) | rfl) (by first | (simp only [nf, Nat.beq] <;> rfl) | rfl) ?_
  refine n_assign rfl (by first | (simp only [nf, Nat.beq] <;> rfl) | rfl) ?_
  refine AOps.nil ?_
  refine AWP.seq ?_
  refine AWP.region ?_
  refine n_load rfl ti27 (by first | (simp only [nf, Nat.beq] <;> rfl) | rfl) (by first | (simp only [nf, Nat.beq] <;> rfl) | rfl) rfl (by first | (simp only [nf, Nat.beq] <;> rfl) | rfl) ?_
  refine n_call0B rfl cf194 rfl (Eq.trans (by simp only [nl] <;> rfl) (by first | (simp only [nf, Nat.beq] <;> rfl) | rfl)) (by repeat (first | exact .nil | refine .cons ?_ ?_ | exact ren_ints | exact .lf (.val _) | exact .lf (lf_ints (.inl rfl)) | exact .bp ⟨rfl, rfl⟩ | exact .bp (.inl ⟨rfl, rfl⟩) | exact .bp (.inr ⟨rfl, rfl⟩) | exact .lf (D.flat_lf rfl) | exact ren_lits rfl | exact ren_ints | exact ren_map (f := Ev.z) (fun _ => rfl) | exact ren_map (f := rz) (fun _ => rfl) | exact .lf (lf_fnrp (lf_rp1 (f := Ev.z) (fun _ => rfl))) | exact .lf (lf_fnrp hcs) | exact .ro (fun x h => by cases h) | exact ren_mapG (f := epz) epz_lf | exact .lf (lf_fnrp (lf_rp1 (f := rz) (fun _ => rfl))))) (clone_ev _ (by omega)) (by first | exact .val _ | exact lf_ints (.inl rfl) | exact lf_ints (.inr rfl) | exact .any | exact D.flat_lf rfl | exact .tup (lf_cons (lf_ints (.inl rfl)) (lf_cons (.val _) lf_nil)) | exact lf_fnrp (lf_rp1 (f := Ev.z) (fun _ => rfl)) | exact lf_map (f := rz) (fun _ => rfl) (.inl rfl) | exact lf_map (f := Ev.z) (fun _ => rfl) (.inl rfl) | exact lf_fnrp (lf_cons (.sl (fun x h => by cases h) (.inl rfl)) lf_nil) | exact lf_mapG (f := epz) epz_lf (.inl rfl) | exact lf_fnrp (lf_rp1 (f := rz) (fun _ => rfl))) ?_
  refine n_store ti27 (by first | (simp only [nf, Nat.beq] <;> rfl) | rfl) rfl (by first | (simp only [nf, Nat.beq] <;> rfl) | rfl) rfl (by first | (simp only [nf, Nat.beq] <;> rfl) | rfl) rfl rfl rfl (by first | (simp only [nf, Nat.beq] <;> rfl) | rfl) ?_
  refine AOps.nil ?_
  refine AWP.seq ?_
  refine AWP.freeze (t := 1) (S' := [.lent]) (by rfl) rfl rfl rfl ?_
  refine AWP.region ?_
  refine n_makeFunc rfl (Eq.trans (by simp only [nl] <;> rfl) (by first | (simp only [nf, Nat.beq] <;> rfl) | rfl)) (Eq.trans (by simp only [nl] <;> rfl) (by first | (simp only [nf, Nat.beq] <;> rfl) | rfl)) ?_
  refine n_assign rfl (by first | (simp only [nf, Nat.beq] <;> rfl) | rfl) ?_
  refine AOps.nil ?_
  refine AWP.ret ?_
  refine fin_pure (.cons (rv_tmp (by first | (simp only [nf, Nat.beq] <;> rfl) | rfl)) .nil) (by first | (simp only [nf, Nat.beq] <;> rfl) | rfl) ?_
  exact .lf (lf_fnrp (lf_rp1 (f := Ev.z) (fun _ => rfl)))

theorem parted (f : FuncId) (cs : List D) (l : List Ep) (hcf : CF Try.prog f) (hI : Iter Try.prog f [.rp cs] [] (l.map epz)) (hcs : ∀ d ∈ cs, LF d) (hn : l.length ≤ 1048577) (hpp : ∀ e ∈ l, e.2.length ≤ 1048576) : Does Try.prog 101 [.fn (.func f) [] [.rp cs]] [] (.sl none (l.map epz) .ro) [] := by
  refine Does.of_body (rvs := [.tmp 2]) Try.func101 rfl rfl rfl rfl ?_
  refine AWP.seq ?_
  refine AWP.region ?_
  refine n_assign rfl (by first | (simp only [nf, Nat.beq] <;> rfl) | rfl) ?_
  refine AOps.nil ?_
  refine AWP.seq ?_
  refine AWP.region ?_
  refine n_alloc rfl zi126 rfl (by first | (simp only [nf, Nat.beq] <;> rfl) | rfl) (by first | (simp only [nf, Nat.beq] <;> rfl) | rfl) ?_
  refine AOps.nil ?_
  refine AWP.seq ?_
  refine AWP.seq ?_
  refine AWP.adoptBox (j := 0) (i := 0) (m := 0) (sz := 2) (S' := [.box [.sl none [] (.own 1)], .row 0 2]) rfl rfl rfl rfl rfl ?_
  refine AWP.region ?_
  refine n_move rfl (by first | (simp only [nf, Nat.beq] <;> rfl) | rfl) ?_
  refine AOps.nil ?_
  refine AWP.block ?_
  refine AWP.rangeFunc [] (fun k => [.box [.sl none ((l.take (k)).map epz) (.own 1)], .row (l.take (k)).length 2]) (fun _ _ => False) (by first | (simp only [nf, Nat.beq] <;> rfl) | rfl) hcf (hI) List.nodup_nil rfl (fun j ob h => by simp at h) (.cons (.lf (.rp hcs)) .nil) rfl (by intro x hx; obtain ⟨p, _, rfl⟩ := List.mem_map.1 hx; rfl) (by intro x hx d hd; obtain ⟨p, _, rfl⟩ := List.mem_map.1 hx; exact epz_lf p d hd) (by decide) (fun _ => rfl) (fun k => un_cons (fun d hd => by simp only [List.mem_cons, List.not_mem_nil, or_false] at hd; subst hd; exact .sl (fun x hx d hd => by obtain ⟨p, _, rfl⟩ := List.mem_map.1 hx; exact .lf (epz_lf p d hd)) (fun l e => by cases e; simp)) (un_cons trivial un_nil)) rfl rfl ?_ ?_ ?_
  · intro k x hxk
    obtain ⟨p, hp, rfl⟩ := map_some hxk
    have hkl := (List.getElem?_eq_some_iff.1 hp).1
    have hpl := hpp p (List.mem_of_getElem? hp)
    dsimp only [putPs]
    refine AWP.seq ?_
    refine AWP.region ?_
    refine n_assign rfl (by first | (simp only [nf, Nat.beq] <;> rfl) | rfl) ?_
    refine AOps.nil ?_
    refine AWP.region ?_
    refine n_assign rfl (by first | (simp only [nf, Nat.beq] <;> rfl) | rfl) ?_
    refine AOps.nil ?_
    refine AWP.block ?_
    refine AWP.anyT [6, 7] (fun p => match p with | [false, false] => [.box [.sl none ((l.take (k)).map epz) (.own 1)], .row (l.take (k)).length 2] | [true, false] => [.box [.sl none ((l.take (k)).map epz) (.own 1)], .row (l.take (k + 1)).length 2] | [true, true] => [.box [.sl none ((l.take (k + 1)).map epz) (.own 1)], .row (l.take (k + 1)).length 2] | _ => []) (by kernel_rfl) (by kernel_rfl) rfl rfl ?_
    refine Walk.cases [([false, false], [.box [.sl none ((l.take (k)).map epz) (.own 1)], .row (l.take (k)).length 2], [.box [.sl none ((l.take (k)).map epz) (.own 1)], .row (l.take (k)).length 2])] (by rfl) (by kernel_rfl) (rs := [3]) (by rfl) (by first | (simp only [nf, Nat.beq] <;> rfl) | rfl) (fun base => ⟨
        ⟨rfl, rfl, by
          refine n_load rfl ti126 (by first | (simp only [nf, Nat.beq] <;> rfl) | rfl) (by first | (simp only [nf, Nat.beq] <;> rfl) | rfl) rfl (by first | (simp only [nf, Nat.beq] <;> rfl) | rfl) ?_
          exact AOps.nil ⟨rfl, rfl, rfl⟩⟩,
        trivial⟩) ?_
    refine Walk.cases [([false, false], [.box [.sl none ((l.take (k)).map epz) (.own 1)], .row (l.take (k)).length 2], [.box [.sl none ((l.take (k)).map epz) (.own 1)], .row (l.take (k)).length 2])] (by rfl) (by kernel_rfl) (rs := [4]) (by rfl) (by first | (simp only [nf, Nat.beq] <;> rfl) | rfl) (fun base => ⟨
        ⟨rfl, rfl, by
          refine n_move rfl (by first | (simp only [nf, Nat.beq] <;> rfl) | rfl) ?_
          exact AOps.nil ⟨rfl, rfl, rfl⟩⟩,
        trivial⟩) ?_
    refine Walk.cases [([false, false], [.box [.sl none ((l.take (k)).map epz) (.own 1)], .row (l.take (k)).length 2], [.box [.sl none ((l.take (k)).map epz) (.own 1)], .row (l.take (k)).length 2])] (by rfl) (by kernel_rfl) (rs := [5]) (by rfl) (by first | (simp only [nf, Nat.beq] <;> rfl) | rfl) (fun base => ⟨
        ⟨rfl, rfl, by
          refine n_move rfl (by first | (simp only [nf, Nat.beq] <;> rfl) | rfl) ?_
          exact AOps.nil ⟨rfl, rfl, rfl⟩⟩,
        trivial⟩) ?_
    refine Walk.cases [([false, false], [.box [.sl none ((l.take (k)).map epz) (.own 1)], .row (l.take (k)).length 2], [.box [.sl none ((l.take (k)).map epz) (.own 1)], .row (l.take (k)).length 2])] (by rfl) (by kernel_rfl) (rs := [11]) (by rfl) (by first | (simp only [nf, Nat.beq] <;> rfl) | rfl) (fun base => ⟨
        ⟨rfl, rfl, by
          refine n_call0B rfl cf204 rfl (Eq.trans (by simp only [nl] <;> rfl) (by first | (simp only [nf, Nat.beq] <;> rfl) | rfl)) (by repeat (first | exact .nil | refine .cons ?_ ?_ | exact ren_ints | exact .lf (.val _) | exact .lf (lf_ints (.inl rfl)) | exact .bp ⟨rfl, rfl⟩ | exact .bp (.inl ⟨rfl, rfl⟩) | exact .bp (.inr ⟨rfl, rfl⟩) | exact .lf (D.flat_lf rfl) | exact ren_lits rfl | exact ren_ints | exact ren_map (f := Ev.z) (fun _ => rfl) | exact ren_map (f := rz) (fun _ => rfl) | exact .lf (lf_fnrp (lf_rp1 (f := Ev.z) (fun _ => rfl))) | exact .lf (lf_fnrp hcs) | exact .ro (fun x h => by cases h) | exact ren_mapG (f := epz) epz_lf | exact .lf (lf_fnrp (lf_rp1 (f := rz) (fun _ => rfl))))) (clone_rec _ (by omega)) (by first | exact .val _ | exact lf_ints (.inl rfl) | exact lf_ints (.inr rfl) | exact .any | exact D.flat_lf rfl | exact .tup (lf_cons (lf_ints (.inl rfl)) (lf_cons (.val _) lf_nil)) | exact lf_fnrp (lf_rp1 (f := Ev.z) (fun _ => rfl)) | exact lf_map (f := rz) (fun _ => rfl) (.inl rfl) | exact lf_map (f := Ev.z) (fun _ => rfl) (.inl rfl) | exact lf_fnrp (lf_cons (.sl (fun x h => by cases h) (.inl rfl)) lf_nil) | exact lf_mapG (f := epz) epz_lf (.inl rfl) | exact lf_fnrp (lf_rp1 (f := rz) (fun _ => rfl))) ?_
          exact AOps.nil ⟨rfl, rfl, rfl⟩⟩,
        trivial⟩) ?_
    refine Walk.cases [([false, false], [.box [.sl none ((l.take (k)).map epz) (.own 1)], .row (l.take (k)).length 2], [.box [.sl none ((l.take (k)).map epz) (.own 1)], .row (l.take (k)).length 2])] (by rfl) (by kernel_rfl) (rs := [10, 12]) (by rfl) (by first | (simp only [nf, Nat.beq] <;> rfl) | rfl) (fun base => ⟨
        ⟨rfl, rfl, by
          refine n_build rfl si132 (Eq.trans (by simp only [nl] <;> rfl) (by first | (simp only [nf, Nat.beq] <;> rfl) | rfl)) (Eq.trans (by simp only [nl] <;> rfl) (by first | (simp only [nf, Nat.beq] <;> rfl) | rfl)) rfl ?_
          exact AOps.nil ⟨rfl, rfl, rfl⟩⟩,
        trivial⟩) ?_
    refine Walk.cases [([false, false], [.box [.sl none ((l.take (k)).map epz) (.own 1)], .row (l.take (k)).length 2], [.box [.sl none ((l.take (k)).map epz) (.own 1)], .row (l.take (k)).length 2])] (by rfl) (by kernel_rfl) (rs := [13]) (by rfl) (by first | (simp only [nf, Nat.beq] <;> rfl) | rfl) (fun base => ⟨
        ⟨rfl, rfl, by
          refine n_lit rfl Try.underlying126 ti132 zi132 rfl rfl (Eq.trans (by simp only [nl] <;> rfl) (by first | (simp only [nf, Nat.beq] <;> rfl) | rfl)) rfl (by first | (simp only [nf, Nat.beq] <;> rfl) | rfl) ?_
          exact AOps.nil ⟨rfl, rfl, rfl⟩⟩,
        trivial⟩) ?_
    refine Walk.cases [([false, false], [.box [.sl none ((l.take (k)).map epz) (.own 1)], .row (l.take (k)).length 2], [.box [.sl none ((l.take (k)).map epz) (.own 1)], .row (l.take (k + 1)).length 2])] (by rfl) (by kernel_rfl) (rs := [9, 14]) (by rfl) (by first | (simp only [nf, Nat.beq] <;> rfl) | rfl) (fun base => ⟨
        ⟨rfl, rfl, by
          refine n_append_own (zs := (l.take (k + 1)).map epz) (m := (l.take (k + 1)).length) rfl Try.underlying126 Try.underlying126 ei132 (by first | (simp only [nf, Nat.beq] <;> rfl) | rfl) (by first | (simp only [nf, Nat.beq] <;> rfl) | rfl) (by simp only [List.length_map]) (by first | (simp only [nf, Nat.beq] <;> rfl) | rfl) (by exact map_one (f := epz) (fun _ => rfl)) (by exact one_one rfl) (by rw [take_snoc hp]; simp) (by rw [take_snoc hp]; simp) (by simp only [List.length_take]; omega) (by first | (simp only [nf, Nat.beq] <;> rfl) | rfl) ?_
          exact AOps.nil ⟨rfl, rfl, rfl⟩⟩,
        trivial⟩) ?_
    refine Walk.cases (d := .any) [([true, false], [.box [.sl none ((l.take (k)).map epz) (.own 1)], .row (l.take (k + 1)).length 2], [.box [.sl none ((l.take (k + 1)).map epz) (.own 1)], .row (l.take (k + 1)).length 2])] (by rfl) (by kernel_rfl) (rs := [3, 15]) (by rfl) (by first | (simp only [nf, Nat.beq] <;> rfl) | rfl) (fun base => ⟨
        ⟨rfl, rfl, by
          refine n_store ti126 (by first | (simp only [nf, Nat.beq] <;> rfl) | rfl) rfl (by first | (simp only [nf, Nat.beq] <;> rfl) | rfl) rfl (by first | (simp only [nf, Nat.beq] <;> rfl) | rfl) rfl rfl rfl (by first | (simp only [nf, Nat.beq] <;> rfl) | rfl) ?_
          exact AOps.nil ⟨rfl, rfl, rfl⟩⟩,
        trivial⟩) ?_
    refine Walk.done ?_
    exact ⟨[], rfl⟩
  · rw [List.length_map]
    try dsimp only
    rw [List.take_length]
    refine AWP.seq ?_
    refine AWP.region ?_
    refine n_load rfl ti126 (by first | (simp only [nf, Nat.beq] <;> rfl) | rfl) (by first | (simp only [nf, Nat.beq] <;> rfl) | rfl) rfl (by first | (simp only [nf, Nat.beq] <;> rfl) | rfl) ?_
    refine n_assign rfl (by first | (simp only [nf, Nat.beq] <;> rfl) | rfl) ?_
    refine AOps.nil ?_
    refine AWP.ret ?_
    refine fin_pure (.cons (rv_tmp (by first | (simp only [nf, Nat.beq] <;> rfl) | rfl)) .nil) (by first | (simp only [nf, Nat.beq] <;> rfl) | rfl) ?_
    exact ren_mapG (f := epz) epz_lf
  · intro c S' h
    exact h.elim

theorem r_records (l : List Ev) (hn : l.length ≤ 1048576) : Does Try.prog 116 [(.sl none (l.map Ev.z) .ro)] [] (.sl none ((recs l).map rz) .ro) [] := by
  refine Does.of_body (rvs := [.tmp 2]) Try.func116 rfl rfl rfl rfl ?_
  refine AWP.seq ?_
  refine AWP.region ?_
  refine n_assign rfl (by first | (simp only [nf, Nat.beq] <;> rfl) | rfl) ?_
  refine AOps.nil ?_
  refine AWP.seq ?_
  refine AWP.region ?_
  refine n_assign rfl (by first | (simp only [nf, Nat.beq] <;> rfl) | rfl) ?_
  refine AOps.nil ?_
  refine AWP.seq ?_
  refine AWP.seq ?_
  refine AWP.adopt (t := 3) (m := 0) (S' := [.row 0 2]) (by rfl) rfl rfl rfl ?_
  refine AWP.region ?_
  refine n_assign rfl (by first | (simp only [nf, Nat.beq] <;> rfl) | rfl) ?_
  refine AOps.nil ?_
  refine AWP.block ?_
  refine AWP.loop (α := Nat) (fun i => i ≤ l.length) (fun i => put (put (put empty 0 (.sl none (l.map Ev.z) .ro)) 3 (.sl none ((recs (l.take i)).map rz) (.own 0))) 4 (vi (i : Int))) (fun i => [.row (recs (l.take i)).length 2]) (fun i => l.length - i) 0 ?_ ?_ ?_ ?_
  · exact Nat.zero_le _
  · (repeat (first | exact FLe.empty _ | refine FLe.put ?_ ?_)) <;> first | (simp only [nf, Nat.beq]; done) | rfl | (try simp only [nf, Nat.beq]; first | rfl | (simp only [List.length_map]; done) | (congr 2; omega; done))
  · rfl
  · intro i hi
    try dsimp only at hi ⊢
    refine AWP.seq ?_
    refine AWP.seq ?_
    refine AWP.region ?_
    refine n_move rfl (by first | (simp only [nf, Nat.beq] <;> rfl) | rfl) ?_
    refine n_move rfl (by first | (simp only [nf, Nat.beq] <;> rfl) | rfl) ?_
    refine n_len rfl Try.underlying27 (by first | (simp only [nf, Nat.beq] <;> rfl) | rfl) (by first | rw [ints_length] | rw [List.length_map] | rfl) ?_
    refine n_ibin rfl (by first | (simp only [nf, Nat.beq] <;> rfl) | rfl) (by first | (simp only [nf, Nat.beq] <;> rfl) | rfl) rfl ?_
    refine AOps.nil ?_
    refine AWP.cond (by first | (simp only [nf, Nat.beq] <;> rfl) | rfl) (fun hc1 => ?_) (fun hc1 => ?_)
    · try simp only [nh] at hc1
      obtain ⟨x, hx⟩ : ∃ x, l[i]? = some x := ⟨_, List.getElem?_eq_getElem (by omega)⟩
      have hpl := recs_len (l.take i)
      have htl : (l.take i).length ≤ l.length := by simp [List.length_take]; omega
      refine AWP.skip ?_
      refine AWP.seq ?_
      refine AWP.block ?_
      refine AWP.seq ?_
      refine AWP.region ?_
      refine n_move rfl (by first | (simp only [nf, Nat.beq] <;> rfl) | rfl) ?_
      refine n_move rfl (by first | (simp only [nf, Nat.beq] <;> rfl) | rfl) ?_
      refine n_indexAddr rfl Try.underlying27 ti26 rfl (by first | (simp only [nf, Nat.beq] <;> rfl) | rfl) (by first | (simp only [nf, Nat.beq] <;> rfl) | rfl) (by omega) (by first | exact ints_at _ _ _ (by omega) | exact ints_get _ _ _ (by omega) | exact map_at _ (by assumption) | rfl) rfl ?_
      refine n_fieldAddr rfl fd26_0 ti3 rfl (by first | (simp only [nf, Nat.beq] <;> rfl) | rfl) rfl (by first | (simp only [nf, Nat.beq] <;> rfl) | rfl) ?_
      refine n_load rfl ti3 (by first | (simp only [nf, Nat.beq] <;> rfl) | rfl) (by first | (simp only [nf, Nat.beq] <;> rfl) | rfl) rfl (by first | (simp only [nf, Nat.beq] <;> rfl) | rfl) ?_
      refine n_ibin rfl (by first | (simp only [nf, Nat.beq] <;> rfl) | rfl) (by first | (simp only [nf, Nat.beq] <;> rfl) | rfl) rfl ?_
      refine AOps.nil ?_
      refine AWP.cond (by first | (simp only [nf, Nat.beq] <;> rfl) | rfl) (fun hc2 => ?_) (fun hc2 => ?_)
      · try simp only [nh] at hc2
        have hst := recs_take_yes hx hc2
        refine AWP.region ?_
        refine n_move rfl (by first | (simp only [nf, Nat.beq] <;> rfl) | rfl) ?_
        refine n_move rfl (by first | (simp only [nf, Nat.beq] <;> rfl) | rfl) ?_
        refine n_move rfl (by first | (simp only [nf, Nat.beq] <;> rfl) | rfl) ?_
        refine n_indexAddr rfl Try.underlying27 ti26 rfl (by first | (simp only [nf, Nat.beq] <;> rfl) | rfl) (by first | (simp only [nf, Nat.beq] <;> rfl) | rfl) (by omega) (by first | exact ints_at _ _ _ (by omega) | exact ints_get _ _ _ (by omega) | exact map_at _ (by assumption) | rfl) rfl ?_
        refine n_fieldAddr rfl fd26_1 ti24 rfl (by first | (simp only [nf, Nat.beq] <;> rfl) | rfl) rfl (by first | (simp only [nf, Nat.beq] <;> rfl) | rfl) ?_
        refine n_load rfl ti24 (by first | (simp only [nf, Nat.beq] <;> rfl) | rfl) (by first | (simp only [nf, Nat.beq] <;> rfl) | rfl) rfl (by first | (simp only [nf, Nat.beq] <;> rfl) | rfl) ?_
        refine n_lit rfl Try.underlying84 ti24 zi24 rfl rfl (Eq.trans (by simp only [nl] <;> rfl) (by first | (simp only [nf, Nat.beq] <;> rfl) | rfl)) rfl (by first | (simp only [nf, Nat.beq] <;> rfl) | rfl) ?_
        refine n_append_own (zs := (recs (l.take i) ++ [x.rc]).map rz) (m := (recs (l.take i)).length + 1) rfl Try.underlying84 Try.underlying84 ei24 (by first | (simp only [nf, Nat.beq] <;> rfl) | rfl) (by first | (simp only [nf, Nat.beq] <;> rfl) | rfl) (by simp only [List.length_map]) (by first | (simp only [nf, Nat.beq] <;> rfl) | rfl) (by exact map_one (f := rz) (fun _ => rfl)) (by exact one_one rfl) (by simp [Ev.rc]) (by simp) (by omega) (by first | (simp only [nf, Nat.beq] <;> rfl) | rfl) ?_
        refine n_assign rfl (by first | (simp only [nf, Nat.beq] <;> rfl) | rfl) ?_
        refine AOps.nil ?_
        refine AWP.region ?_
        refine n_move rfl (by first | (simp only [nf, Nat.beq] <;> rfl) | rfl) ?_
        first | refine n_iadd rfl (by first | (simp only [nf, Nat.beq] <;> rfl) | rfl) (by first | (simp only [nf, Nat.beq] <;> rfl) | rfl) rfl (by omega) (by omega) ?_ | refine n_ibin rfl (by first | (simp only [nf, Nat.beq] <;> rfl) | rfl) (by first | (simp only [nf, Nat.beq] <;> rfl) | rfl) rfl ?_
        refine n_assign rfl (by first | (simp only [nf, Nat.beq] <;> rfl) | rfl) ?_
        refine AOps.nil ?_
        refine ⟨i + 1, by omega, ?_, ?_, by omega⟩
        · (repeat (first | exact FLe.empty _ | refine FLe.put ?_ ?_)) <;> first | (simp only [nf, Nat.beq]; done) | rfl | (try simp only [nf, Nat.beq]; first | rfl | (rw [hst]; done) | (congr 2; omega; done))
        · rw [hst] <;> simp
      · try simp only [nh] at hc2
        have hst := recs_take_no hx (by simpa using hc2)
        refine AWP.skip ?_
        refine AWP.region ?_
        refine n_move rfl (by first | (simp only [nf, Nat.beq] <;> rfl) | rfl) ?_
        first | refine n_iadd rfl (by first | (simp only [nf, Nat.beq] <;> rfl) | rfl) (by first | (simp only [nf, Nat.beq] <;> rfl) | rfl) rfl (by omega) (by omega) ?_ | refine n_ibin rfl (by first | (simp only [nf, Nat.beq] <;> rfl) | rfl) (by first | (simp only [nf, Nat.beq] <;> rfl) | rfl) rfl ?_
        refine n_assign rfl (by first | (simp only [nf, Nat.beq] <;> rfl) | rfl) ?_
        refine AOps.nil ?_
        refine ⟨i + 1, by omega, ?_, ?_, by omega⟩
        · (repeat (first | exact FLe.empty _ | refine FLe.put ?_ ?_)) <;> first | (simp only [nf, Nat.beq]; done) | rfl | (try simp only [nf, Nat.beq]; first | rfl | (rw [hst]; done) | (congr 2; omega; done))
        · rw [hst] <;> simp
    · try simp only [nh] at hc1
      obtain rfl : i = l.length := by omega
      rw [List.take_length]
      refine AWP.exit ?_
      refine AWP.seq ?_
      refine AWP.region ?_
      refine n_move rfl (by first | (simp only [nf, Nat.beq] <;> rfl) | rfl) ?_
      refine n_assign rfl (by first | (simp only [nf, Nat.beq] <;> rfl) | rfl) ?_
      refine AOps.nil ?_
      refine AWP.ret ?_
      refine fin_pure (.cons (rv_tmp (by first | (simp only [nf, Nat.beq] <;> rfl) | rfl)) .nil) (by first | (simp only [nf, Nat.beq] <;> rfl) | rfl) ?_
      exact ren_map (fun _ => rfl)

theorem r_upto (l : List Ev) (hn : l.length ≤ 1048576) : Does Try.prog 118 [(.sl none (l.map Ev.z) .ro)] [] (.sl none ((ups l).map rz) .ro) [] := by
  refine Does.of_body (rvs := [.tmp 2]) Try.func118 rfl rfl rfl rfl ?_
  refine AWP.seq ?_
  refine AWP.region ?_
  refine n_assign rfl (by first | (simp only [nf, Nat.beq] <;> rfl) | rfl) ?_
  refine AOps.nil ?_
  refine AWP.seq ?_
  refine AWP.seq ?_
  refine AWP.region ?_
  refine n_assign rfl (by first | (simp only [nf, Nat.beq] <;> rfl) | rfl) ?_
  refine AOps.nil ?_
  refine AWP.block ?_
  refine AWP.loop (α := Nat) (fun i => i ≤ l.length ∧ (epsS (l.take i)).1 = []) (fun i => put (put empty 0 (.sl none (l.map Ev.z) .ro)) 3 (vi (i : Int))) (fun _ => []) (fun i => l.length - i) 0 ?_ ?_ ?_ ?_
  · exact ⟨Nat.zero_le _, rfl⟩
  · (repeat (first | exact FLe.empty _ | refine FLe.put ?_ ?_)) <;> first | (simp only [nf, Nat.beq]; done) | rfl | (try simp only [nf, Nat.beq]; first | rfl | (simp only [List.length_map]; done) | (congr 2; omega; done))
  · rfl
  · rintro i ⟨hi, hno⟩
    try dsimp only at hi hno ⊢
    refine AWP.seq ?_
    refine AWP.seq ?_
    refine AWP.region ?_
    refine n_move rfl (by first | (simp only [nf, Nat.beq] <;> rfl) | rfl) ?_
    refine n_move rfl (by first | (simp only [nf, Nat.beq] <;> rfl) | rfl) ?_
    refine n_len rfl Try.underlying27 (by first | (simp only [nf, Nat.beq] <;> rfl) | rfl) (by first | rw [ints_length] | rw [List.length_map] | rfl) ?_
    refine n_ibin rfl (by first | (simp only [nf, Nat.beq] <;> rfl) | rfl) (by first | (simp only [nf, Nat.beq] <;> rfl) | rfl) rfl ?_
    refine AOps.nil ?_
    refine AWP.cond (by first | (simp only [nf, Nat.beq] <;> rfl) | rfl) (fun hc1 => ?_) (fun hc1 => ?_)
    · try simp only [nh] at hc1
      obtain ⟨x, hx⟩ : ∃ x, l[i]? = some x := ⟨_, List.getElem?_eq_getElem (by omega)⟩
      refine AWP.skip ?_
      refine AWP.seq ?_
      refine AWP.block ?_
      refine AWP.seq ?_
      refine AWP.region ?_
      refine n_move rfl (by first | (simp only [nf, Nat.beq] <;> rfl) | rfl) ?_
      refine n_move rfl (by first | (simp only [nf, Nat.beq] <;> rfl) | rfl) ?_
      refine n_indexAddr rfl Try.underlying27 ti26 rfl (by first | (simp only [nf, Nat.beq] <;> rfl) | rfl) (by first | (simp only [nf, Nat.beq] <;> rfl) | rfl) (by omega) (by first | exact ints_at _ _ _ (by omega) | exact ints_get _ _ _ (by omega) | exact map_at _ (by assumption) | rfl) rfl ?_
      refine n_fieldAddr rfl fd26_0 ti3 rfl (by first | (simp only [nf, Nat.beq] <;> rfl) | rfl) rfl (by first | (simp only [nf, Nat.beq] <;> rfl) | rfl) ?_
      refine n_load rfl ti3 (by first | (simp only [nf, Nat.beq] <;> rfl) | rfl) (by first | (simp only [nf, Nat.beq] <;> rfl) | rfl) rfl (by first | (simp only [nf, Nat.beq] <;> rfl) | rfl) ?_
      refine n_ibin rfl (by first | (simp only [nf, Nat.beq] <;> rfl) | rfl) (by first | (simp only [nf, Nat.beq] <;> rfl) | rfl) rfl ?_
      refine AOps.nil ?_
      refine AWP.cond (by first | (simp only [nf, Nat.beq] <;> rfl) | rfl) (fun hc2 => ?_) (fun hc2 => ?_)
      · try simp only [nh] at hc2
        have hup := ups_at hx hc2 hno
        have hrr := r_records (l.take i) (by rw [List.length_take]; omega)
        refine AWP.seq ?_
        refine AWP.region ?_
        refine n_move rfl (by first | (simp only [nf, Nat.beq] <;> rfl) | rfl) ?_
        refine n_move rfl (by first | (simp only [nf, Nat.beq] <;> rfl) | rfl) ?_
        refine n_slice (h := i) (k := 0) (ys := (l.take i).map Ev.z) rfl Try.underlying27 ti26 (by first | (simp only [nf, Nat.beq] <;> rfl) | rfl) (SB.some (by first | (simp only [nf, Nat.beq] <;> rfl) | rfl) (by omega)) SB.none (by omega) (by simp only [List.length_map]; omega) (by exact map_one (f := Ev.z) (fun _ => rfl)) (by rw [List.drop_zero, List.map_take]) ?_
        refine n_call0B rfl cf116 rfl (Eq.trans (by simp only [nl] <;> rfl) (by first | (simp only [nf, Nat.beq] <;> rfl) | rfl)) (by repeat (first | exact .nil | refine .cons ?_ ?_ | exact ren_ints | exact .lf (.val _) | exact .lf (lf_ints (.inl rfl)) | exact .bp ⟨rfl, rfl⟩ | exact .bp (.inl ⟨rfl, rfl⟩) | exact .bp (.inr ⟨rfl, rfl⟩) | exact .lf (D.flat_lf rfl) | exact ren_lits rfl | exact ren_ints | exact ren_map (f := Ev.z) (fun _ => rfl) | exact ren_map (f := rz) (fun _ => rfl) | exact .lf (lf_fnrp (lf_rp1 (f := Ev.z) (fun _ => rfl))) | exact .lf (lf_fnrp hcs) | exact .ro (fun x h => by cases h) | exact ren_mapG (f := epz) epz_lf | exact .lf (lf_fnrp (lf_rp1 (f := rz) (fun _ => rfl))))) (hrr) (by first | exact .val _ | exact lf_ints (.inl rfl) | exact lf_ints (.inr rfl) | exact .any | exact D.flat_lf rfl | exact .tup (lf_cons (lf_ints (.inl rfl)) (lf_cons (.val _) lf_nil)) | exact lf_fnrp (lf_rp1 (f := Ev.z) (fun _ => rfl)) | exact lf_map (f := rz) (fun _ => rfl) (.inl rfl) | exact lf_map (f := Ev.z) (fun _ => rfl) (.inl rfl) | exact lf_fnrp (lf_cons (.sl (fun x h => by cases h) (.inl rfl)) lf_nil) | exact lf_mapG (f := epz) epz_lf (.inl rfl) | exact lf_fnrp (lf_rp1 (f := rz) (fun _ => rfl))) ?_
        refine n_assign rfl (by first | (simp only [nf, Nat.beq] <;> rfl) | rfl) ?_
        refine AOps.nil ?_
        refine AWP.ret ?_
        refine fin_pure (.cons (rv_tmp (by first | (simp only [nf, Nat.beq] <;> rfl) | rfl)) .nil) (by first | (simp only [nf, Nat.beq] <;> rfl) | rfl) ?_
        rw [hup]; exact ren_map (fun _ => rfl)
      · try simp only [nh] at hc2
        have hgo := epsS_go hx (by simpa using hc2) hno
        refine AWP.skip ?_
        refine AWP.region ?_
        refine n_move rfl (by first | (simp only [nf, Nat.beq] <;> rfl) | rfl) ?_
        first | refine n_iadd rfl (by first | (simp only [nf, Nat.beq] <;> rfl) | rfl) (by first | (simp only [nf, Nat.beq] <;> rfl) | rfl) rfl (by omega) (by omega) ?_ | refine n_ibin rfl (by first | (simp only [nf, Nat.beq] <;> rfl) | rfl) (by first | (simp only [nf, Nat.beq] <;> rfl) | rfl) rfl ?_
        refine n_assign rfl (by first | (simp only [nf, Nat.beq] <;> rfl) | rfl) ?_
        refine AOps.nil ?_
        refine ⟨i + 1, ⟨by omega, hgo⟩, ?_, rfl, by omega⟩
        (repeat (first | exact FLe.empty _ | refine FLe.put ?_ ?_)) <;> first | (simp only [nf, Nat.beq]; done) | rfl | (try simp only [nf, Nat.beq]; first | rfl | (simp only [List.length_map]; done) | (congr 2; omega; done))
    · try simp only [nh] at hc1
      obtain rfl : i = l.length := by omega
      rw [List.take_length] at hno
      have hup := ups_all hno
      refine AWP.exit ?_
      refine AWP.seq ?_
      refine AWP.region ?_
      refine n_move rfl (by first | (simp only [nf, Nat.beq] <;> rfl) | rfl) ?_
      refine n_call0B rfl cf116 rfl (Eq.trans (by simp only [nl] <;> rfl) (by first | (simp only [nf, Nat.beq] <;> rfl) | rfl)) (by repeat (first | exact .nil | refine .cons ?_ ?_ | exact ren_ints | exact .lf (.val _) | exact .lf (lf_ints (.inl rfl)) | exact .bp ⟨rfl, rfl⟩ | exact .bp (.inl ⟨rfl, rfl⟩) | exact .bp (.inr ⟨rfl, rfl⟩) | exact .lf (D.flat_lf rfl) | exact ren_lits rfl | exact ren_ints | exact ren_map (f := Ev.z) (fun _ => rfl) | exact ren_map (f := rz) (fun _ => rfl) | exact .lf (lf_fnrp (lf_rp1 (f := Ev.z) (fun _ => rfl))) | exact .lf (lf_fnrp hcs) | exact .ro (fun x h => by cases h) | exact ren_mapG (f := epz) epz_lf | exact .lf (lf_fnrp (lf_rp1 (f := rz) (fun _ => rfl))))) (r_records l hn) (by first | exact .val _ | exact lf_ints (.inl rfl) | exact lf_ints (.inr rfl) | exact .any | exact D.flat_lf rfl | exact .tup (lf_cons (lf_ints (.inl rfl)) (lf_cons (.val _) lf_nil)) | exact lf_fnrp (lf_rp1 (f := Ev.z) (fun _ => rfl)) | exact lf_map (f := rz) (fun _ => rfl) (.inl rfl) | exact lf_map (f := Ev.z) (fun _ => rfl) (.inl rfl) | exact lf_fnrp (lf_cons (.sl (fun x h => by cases h) (.inl rfl)) lf_nil) | exact lf_mapG (f := epz) epz_lf (.inl rfl) | exact lf_fnrp (lf_rp1 (f := rz) (fun _ => rfl))) ?_
      refine n_assign rfl (by first | (simp only [nf, Nat.beq] <;> rfl) | rfl) ?_
      refine AOps.nil ?_
      refine AWP.ret ?_
      refine fin_pure (.cons (rv_tmp (by first | (simp only [nf, Nat.beq] <;> rfl) | rfl)) .nil) (by first | (simp only [nf, Nat.beq] <;> rfl) | rfl) ?_
      rw [hup]; exact ren_map (fun _ => rfl)

theorem recsOf_it (l : List Rc) (hn : l.length ≤ 1048576) : Iter Try.prog 274 [.rp [(.sl none (l.map rz) .ro)]] [] (l.map fun p => [.agg (rz p)]) := by
  refine Iter.of_body (rvs := []) Try.func274 rfl rfl rfl rfl (fun yl J hY => ?_)
  refine AWP.seq ?_
  refine AWP.region ?_
  refine n_load rfl ti84 (by first | (simp only [nf, Nat.beq] <;> rfl) | rfl) (by first | (simp only [nf, Nat.beq] <;> rfl) | rfl) rfl (by first | (simp only [nf, Nat.beq] <;> rfl) | rfl) ?_
  refine n_len rfl Try.underlying84 (by first | (simp only [nf, Nat.beq] <;> rfl) | rfl) (by first | rw [ints_length] | rw [List.length_map] | rfl) ?_
  refine n_move rfl (by first | (simp only [nf, Nat.beq] <;> rfl) | rfl) ?_
  refine AOps.nil ?_
  refine AWP.block ?_
  refine AWP.loopX 1 (α := Nat) (fun i => i ≤ l.length) (fun i => put (put (put (put (put empty 0 (.val (.func (.yield yl) #[] #[]))) 1 (.rp [(.sl none (l.map rz) .ro)])) 5 (.sl none (l.map rz) .ro)) 6 (vi (l.length : Int))) 7 (vi (i : Int))) (fun i => [.seen J (some i)]) (fun i => l.length - i) 0 ?_ ?_ ?_ ?_ ?_ ?_ ?_
  · exact Nat.zero_le _
  · (repeat (first | exact FLe.empty _ | refine FLe.put ?_ ?_)) <;> first | (simp only [nf, Nat.beq]; done) | rfl | (try simp only [nf, Nat.beq]; first | rfl | (simp only [List.length_map]; done) | (congr 2; omega))
  · rfl
  · exact fun _ => rfl
  · intro p hp; (try dsimp only); (repeat' (refine un_put ?_ ?_)) <;> first | exact un_empty | exact .bp (by decide) | exact .lf (D.flat_lf rfl) | exact .lf (lf_ints (.inl rfl)) | exact .lf (lf_map (fun _ => rfl) (.inl rfl)) | exact .lf (.rp (lf_rp1 (f := rz) (fun _ => rfl)))
  · intro p hp; (try dsimp only); repeat' (first | exact un_nil | refine un_cons ?_ ?_ | exact un_box rfl | exact trivial)
  · intro i hi
    try dsimp only at hi ⊢
    refine AWP.seq ?_
    refine AWP.region ?_
    refine n_ibin rfl (by first | (simp only [nf, Nat.beq] <;> rfl) | rfl) (by first | (simp only [nf, Nat.beq] <;> rfl) | rfl) rfl ?_
    refine AOps.nil ?_
    refine AWP.seq ?_
    refine AWP.cond (by first | (simp only [nf, Nat.beq] <;> rfl) | rfl) (fun hc1 => ?_) (fun hc1 => ?_)
    · try simp only [nh] at hc1
      obtain ⟨x, hx⟩ : ∃ x, l[i]? = some x := ⟨_, List.getElem?_eq_getElem (by omega)⟩
      have hxy : (l.map fun p => [D.agg (rz p)])[i]? = some [.agg (rz x)] := by rw [List.getElem?_map, hx]; rfl
      refine AWP.skip ?_
      refine AWP.seq ?_
      refine AWP.block ?_
      refine AWP.seq ?_
      refine AWP.region ?_
      refine n_indexAddr rfl Try.underlying84 ti24 rfl (by first | (simp only [nf, Nat.beq] <;> rfl) | rfl) (by first | (simp only [nf, Nat.beq] <;> rfl) | rfl) (by omega) (by first | exact ints_at _ _ _ (by omega) | exact ints_get _ _ _ (by omega) | exact map_at _ (by assumption) | rfl) rfl ?_
      refine n_load rfl ti24 (by first | (simp only [nf, Nat.beq] <;> rfl) | rfl) (by first | (simp only [nf, Nat.beq] <;> rfl) | rfl) rfl (by first | (simp only [nf, Nat.beq] <;> rfl) | rfl) ?_
      refine n_alloc rfl zi24 rfl (by first | (simp only [nf, Nat.beq] <;> rfl) | rfl) (by first | (simp only [nf, Nat.beq] <;> rfl) | rfl) ?_
      refine n_store ti24 (by first | (simp only [nf, Nat.beq] <;> rfl) | rfl) rfl (by first | (simp only [nf, Nat.beq] <;> rfl) | rfl) rfl (by first | (simp only [nf, Nat.beq] <;> rfl) | rfl) rfl rfl rfl (by first | (simp only [nf, Nat.beq] <;> rfl) | rfl) ?_
      refine AOps.nil ?_
      refine AWP.seq ?_
      refine AWP.region ?_
      refine n_move rfl (by first | (simp only [nf, Nat.beq] <;> rfl) | rfl) ?_
      refine n_load rfl ti24 (by first | (simp only [nf, Nat.beq] <;> rfl) | rfl) (by first | (simp only [nf, Nat.beq] <;> rfl) | rfl) rfl (by first | (simp only [nf, Nat.beq] <;> rfl) | rfl) ?_
      refine n_yield (l0 := 0) rfl (by first | (simp only [nf, Nat.beq] <;> rfl) | rfl) rfl hY hxy (Eq.trans (by simp only [nl] <;> rfl) (by first | (simp only [nf, Nat.beq] <;> rfl) | rfl)) (by repeat (first | exact .nil | refine .cons ?_ ?_ | exact ren_ints | exact .lf (.val _) | exact .lf (lf_ints (.inl rfl)) | exact .bp ⟨rfl, rfl⟩ | exact .bp (.inl ⟨rfl, rfl⟩) | exact .bp (.inr ⟨rfl, rfl⟩) | exact .lf (D.flat_lf rfl) | exact ren_lits rfl | exact ren_ints | exact ren_map (f := Ev.z) (fun _ => rfl) | exact ren_map (f := rz) (fun _ => rfl) | exact .lf (lf_fnrp (lf_rp1 (f := Ev.z) (fun _ => rfl))) | exact .lf (lf_fnrp hcs) | exact .ro (fun x h => by cases h) | exact ren_mapG (f := epz) epz_lf | exact .lf (lf_fnrp (lf_rp1 (f := rz) (fun _ => rfl))))) rfl rfl ?_ ?_
      · refine n_not rfl (by first | (simp only [nf, Nat.beq] <;> rfl) | rfl) rfl ?_
        refine AOps.nil ?_
        refine AWP.cond_false (by first | (simp only [nf, Nat.beq] <;> rfl) | rfl) ?_
        refine AWP.skip ?_
        refine AWP.region ?_
        first | refine n_iadd rfl (by first | (simp only [nf, Nat.beq] <;> rfl) | rfl) (by first | (simp only [nf, Nat.beq] <;> rfl) | rfl) rfl (by omega) (by omega) ?_ | refine n_ibin rfl (by first | (simp only [nf, Nat.beq] <;> rfl) | rfl) (by first | (simp only [nf, Nat.beq] <;> rfl) | rfl) rfl ?_
        refine n_move rfl (by first | (simp only [nf, Nat.beq] <;> rfl) | rfl) ?_
        refine AOps.nil ?_
        refine ⟨i + 1, [.box (rz x)], by omega, ?_, rfl, by omega⟩
        · (repeat (first | exact FLe.empty _ | refine FLe.put ?_ ?_)) <;> first | (simp only [nf, Nat.beq]; done) | rfl | (try simp only [nf, Nat.beq]; first | rfl | (simp only [List.length_map]; done) | (congr 2; omega))
      · refine n_not rfl (by first | (simp only [nf, Nat.beq] <;> rfl) | rfl) rfl ?_
        refine AOps.nil ?_
        refine AWP.cond_true (by first | (simp only [nf, Nat.beq] <;> rfl) | rfl) ?_
        refine AWP.ret ?_
        first | exact ⟨.inr rfl, [], _, .nil, .inr rfl, rfl⟩ | exact ⟨.inr rfl, [], _, .nil, .inl (by simp), rfl⟩
    · try simp only [nh] at hc1
      obtain rfl : i = l.length := by omega
      refine AWP.exit ?_
      first | exact ⟨.inl rfl, [], _, .nil, .inr rfl, rfl⟩ | exact ⟨.inl rfl, [], _, .nil, .inl (by simp), rfl⟩

theorem l_recsOf (l : List Rc) (hn : l.length ≤ 1048576) : Does Try.prog 216 [(.sl none (l.map rz) .ro)] [] (.fn (.func 274) [] [.rp [(.sl none (l.map rz) .ro)]]) [] := by
  refine Does.of_body (rvs := [.tmp 2]) Try.func216 rfl rfl rfl rfl ?_
  refine AWP.seq ?_
  refine AWP.region ?_
  refine n_box rfl (by first | (simp only [nf, Nat.beq] <;> rfl) | rfl) rfl rfl (by first | (simp only [nf, Nat.beq] <;> rfl) | rfl) (by first | (simp only [nf, Nat.beq] <;> rfl) | rfl) ?_
  refine n_assign rfl (by first | (simp only [nf, Nat.beq] <;> rfl) | rfl) ?_
  refine AOps.nil ?_
  refine AWP.seq ?_
  refine AWP.region ?_
  refine n_load rfl ti84 (by first | (simp only [nf, Nat.beq] <;> rfl) | rfl) (by first | (simp only [nf, Nat.beq] <;> rfl) | rfl) rfl (by first | (simp only [nf, Nat.beq] <;> rfl) | rfl) ?_
  refine n_call0B rfl cf204 rfl (Eq.trans (by simp only [nl] <;> rfl) (by first | (simp only [nf, Nat.beq] <;> rfl) | rfl)) (by repeat (first | exact .nil | refine .cons ?_ ?_ | exact ren_ints | exact .lf (.val _) | exact .lf (lf_ints (.inl rfl)) | exact .bp ⟨rfl, rfl⟩ | exact .bp (.inl ⟨rfl, rfl⟩) | exact .bp (.inr ⟨rfl, rfl⟩) | exact .lf (D.flat_lf rfl) | exact ren_lits rfl | exact ren_ints | exact ren_map (f := Ev.z) (fun _ => rfl) | exact ren_map (f := rz) (fun _ => rfl) | exact .lf (lf_fnrp (lf_rp1 (f := Ev.z) (fun _ => rfl))) | exact .lf (lf_fnrp hcs) | exact .ro (fun x h => by cases h) | exact ren_mapG (f := epz) epz_lf | exact .lf (lf_fnrp (lf_rp1 (f := rz) (fun _ => rfl))))) (clone_rec _ (by omega)) (by first | exact .val _ | exact lf_ints (.inl rfl) | exact lf_ints (.inr rfl) | exact .any | exact D.flat_lf rfl | exact .tup (lf_cons (lf_ints (.inl rfl)) (lf_cons (.val _) lf_nil)) | exact lf_fnrp (lf_rp1 (f := Ev.z) (fun _ => rfl)) | exact lf_map (f := rz) (fun _ => rfl) (.inl rfl) | exact lf_map (f := Ev.z) (fun _ => rfl) (.inl rfl) | exact lf_fnrp (lf_cons (.sl (fun x h => by cases h) (.inl rfl)) lf_nil) | exact lf_mapG (f := epz) epz_lf (.inl rfl) | exact lf_fnrp (lf_rp1 (f := rz) (fun _ => rfl))) ?_
  refine n_store ti84 (by first | (simp only [nf, Nat.beq] <;> rfl) | rfl) rfl (by first | (simp only [nf, Nat.beq] <;> rfl) | rfl) rfl (by first | (simp only [nf, Nat.beq] <;> rfl) | rfl) rfl rfl rfl (by first | (simp only [nf, Nat.beq] <;> rfl) | rfl) ?_
  refine AOps.nil ?_
  refine AWP.seq ?_
  refine AWP.freeze (t := 1) (S' := [.lent]) (by rfl) rfl rfl rfl ?_
  refine AWP.region ?_
  refine n_makeFunc rfl (Eq.trans (by simp only [nl] <;> rfl) (by first | (simp only [nf, Nat.beq] <;> rfl) | rfl)) (Eq.trans (by simp only [nl] <;> rfl) (by first | (simp only [nf, Nat.beq] <;> rfl) | rfl)) ?_
  refine n_assign rfl (by first | (simp only [nf, Nat.beq] <;> rfl) | rfl) ?_
  refine AOps.nil ?_
  refine AWP.ret ?_
  refine fin_pure (.cons (rv_tmp (by first | (simp only [nf, Nat.beq] <;> rfl) | rfl)) .nil) (by first | (simp only [nf, Nat.beq] <;> rfl) | rfl) ?_
  exact .lf (lf_fnrp (lf_rp1 (f := rz) (fun _ => rfl)))

theorem l_upto (l : List Ev) (hn : l.length ≤ 1048576) : Does Try.prog 117 [(.sl none (l.map Ev.z) .ro)] [] (.fn (.func 274) [] [.rp [.sl none ((ups l).map rz) .ro]]) [] := by
  refine Does.of_body (rvs := [.cell 2 87]) Try.func117 rfl rfl rfl rfl ?_
  have hel := eps_len l
  refine AWP.seq ?_
  refine AWP.region ?_
  refine n_alloc rfl zi87 rfl (by first | (simp only [nf, Nat.beq] <;> rfl) | rfl) (by first | (simp only [nf, Nat.beq] <;> rfl) | rfl) ?_
  refine AOps.nil ?_
  refine AWP.seq ?_
  refine AWP.seq ?_
  refine AWP.region ?_
  refine n_move rfl (by first | (simp only [nf, Nat.beq] <;> rfl) | rfl) ?_
  refine n_call0B rfl cf102 rfl (Eq.trans (by simp only [nl] <;> rfl) (by first | (simp only [nf, Nat.beq] <;> rfl) | rfl)) (by repeat (first | exact .nil | refine .cons ?_ ?_ | exact ren_ints | exact .lf (.val _) | exact .lf (lf_ints (.inl rfl)) | exact .bp ⟨rfl, rfl⟩ | exact .bp (.inl ⟨rfl, rfl⟩) | exact .bp (.inr ⟨rfl, rfl⟩) | exact .lf (D.flat_lf rfl) | exact ren_lits rfl | exact ren_ints | exact ren_map (f := Ev.z) (fun _ => rfl) | exact ren_map (f := rz) (fun _ => rfl) | exact .lf (lf_fnrp (lf_rp1 (f := Ev.z) (fun _ => rfl))) | exact .lf (lf_fnrp hcs) | exact .ro (fun x h => by cases h) | exact ren_mapG (f := epz) epz_lf | exact .lf (lf_fnrp (lf_rp1 (f := rz) (fun _ => rfl))))) (l_epochs _ (by omega)) (by first | exact .val _ | exact lf_ints (.inl rfl) | exact lf_ints (.inr rfl) | exact .any | exact D.flat_lf rfl | exact .tup (lf_cons (lf_ints (.inl rfl)) (lf_cons (.val _) lf_nil)) | exact lf_fnrp (lf_rp1 (f := Ev.z) (fun _ => rfl)) | exact lf_map (f := rz) (fun _ => rfl) (.inl rfl) | exact lf_map (f := Ev.z) (fun _ => rfl) (.inl rfl) | exact lf_fnrp (lf_cons (.sl (fun x h => by cases h) (.inl rfl)) lf_nil) | exact lf_mapG (f := epz) epz_lf (.inl rfl) | exact lf_fnrp (lf_rp1 (f := rz) (fun _ => rfl))) ?_
  refine AOps.nil ?_
  refine AWP.block ?_
  refine AWP.rangeFunc [] (fun k => match k with | 0 => [.box [.val .nilFunc]] | _ + 1 => [Never]) (fun c S' => c = .ret ∧ ∃ T e, (eps l)[0]? = some e ∧ S' = [.box [(.fn (.func 274) [] [.rp [.sl none ((e.2).map rz) .ro]])]] ++ T) (by first | (simp only [nf, Nat.beq] <;> rfl) | rfl) cf205 (epochs_it l hn) List.nodup_nil rfl (fun j ob h => by simp at h) (.cons (.lf (.rp (lf_rp1 (f := Ev.z) (fun _ => rfl)))) .nil) rfl (by intro x hx; obtain ⟨p, _, rfl⟩ := List.mem_map.1 hx; rfl) (by intro x hx d hd; obtain ⟨p, _, rfl⟩ := List.mem_map.1 hx; exact epz_lf p d hd) (by decide) (fun k => by cases k <;> rfl) (fun k => by cases k with | zero => exact un_cons (un_box rfl) un_nil | succ k => exact un_cons trivial un_nil) rfl rfl ?_ ?_ ?_
  · intro k x hxk
    obtain ⟨p, hp, rfl⟩ := map_some hxk
    have hpl := eps_part (List.mem_of_getElem? hp)
    cases k with
    | succ k => exact AWP.never (j := 0) rfl
    | zero =>
    dsimp only [putPs]
    refine AWP.region ?_
    refine n_assign rfl (by first | (simp only [nf, Nat.beq] <;> rfl) | rfl) ?_
    refine AOps.nil ?_
    refine AWP.block ?_
    refine AWP.seq ?_
    refine AWP.region ?_
    refine n_move rfl (by first | (simp only [nf, Nat.beq] <;> rfl) | rfl) ?_
    refine n_call0B rfl cf216 rfl (Eq.trans (by simp only [nl] <;> rfl) (by first | (simp only [nf, Nat.beq] <;> rfl) | rfl)) (by repeat (first | exact .nil | refine .cons ?_ ?_ | exact ren_ints | exact .lf (.val _) | exact .lf (lf_ints (.inl rfl)) | exact .bp ⟨rfl, rfl⟩ | exact .bp (.inl ⟨rfl, rfl⟩) | exact .bp (.inr ⟨rfl, rfl⟩) | exact .lf (D.flat_lf rfl) | exact ren_lits rfl | exact ren_ints | exact ren_map (f := Ev.z) (fun _ => rfl) | exact ren_map (f := rz) (fun _ => rfl) | exact .lf (lf_fnrp (lf_rp1 (f := Ev.z) (fun _ => rfl))) | exact .lf (lf_fnrp hcs) | exact .ro (fun x h => by cases h) | exact ren_mapG (f := epz) epz_lf | exact .lf (lf_fnrp (lf_rp1 (f := rz) (fun _ => rfl))))) (l_recsOf _ (by omega)) (by first | exact .val _ | exact lf_ints (.inl rfl) | exact lf_ints (.inr rfl) | exact .any | exact D.flat_lf rfl | exact .tup (lf_cons (lf_ints (.inl rfl)) (lf_cons (.val _) lf_nil)) | exact lf_fnrp (lf_rp1 (f := Ev.z) (fun _ => rfl)) | exact lf_map (f := rz) (fun _ => rfl) (.inl rfl) | exact lf_map (f := Ev.z) (fun _ => rfl) (.inl rfl) | exact lf_fnrp (lf_cons (.sl (fun x h => by cases h) (.inl rfl)) lf_nil) | exact lf_mapG (f := epz) epz_lf (.inl rfl) | exact lf_fnrp (lf_rp1 (f := rz) (fun _ => rfl))) ?_
    refine n_store ti87 (by first | (simp only [nf, Nat.beq] <;> rfl) | rfl) rfl (by first | (simp only [nf, Nat.beq] <;> rfl) | rfl) rfl (by first | (simp only [nf, Nat.beq] <;> rfl) | rfl) rfl rfl rfl (by first | (simp only [nf, Nat.beq] <;> rfl) | rfl) ?_
    refine AOps.nil ?_
    refine AWP.ret ?_
    exact ⟨rfl, [], p, hp, rfl⟩
  · rw [List.length_map]
    rcases hz : (eps l).length with _ | n
    · have hnil : eps l = [] := List.eq_nil_of_length_eq_zero hz
      have hue : ups l = [] := by unfold ups; rw [hnil]; rfl
      have hro := l_recsOf [] (by simp)
      simp only [List.map_nil] at hro
      dsimp only
      refine AWP.seq ?_
      refine AWP.region ?_
      refine n_call0B rfl cf216 rfl (Eq.trans (by simp only [nl] <;> rfl) (by first | (simp only [nf, Nat.beq] <;> rfl) | rfl)) (by repeat (first | exact .nil | refine .cons ?_ ?_ | exact ren_ints | exact .lf (.val _) | exact .lf (lf_ints (.inl rfl)) | exact .bp ⟨rfl, rfl⟩ | exact .bp (.inl ⟨rfl, rfl⟩) | exact .bp (.inr ⟨rfl, rfl⟩) | exact .lf (D.flat_lf rfl) | exact ren_lits rfl | exact ren_ints | exact ren_map (f := Ev.z) (fun _ => rfl) | exact ren_map (f := rz) (fun _ => rfl) | exact .lf (lf_fnrp (lf_rp1 (f := Ev.z) (fun _ => rfl))) | exact .lf (lf_fnrp hcs) | exact .ro (fun x h => by cases h) | exact ren_mapG (f := epz) epz_lf | exact .lf (lf_fnrp (lf_rp1 (f := rz) (fun _ => rfl))))) (hro) (by first | exact .val _ | exact lf_ints (.inl rfl) | exact lf_ints (.inr rfl) | exact .any | exact D.flat_lf rfl | exact .tup (lf_cons (lf_ints (.inl rfl)) (lf_cons (.val _) lf_nil)) | exact lf_fnrp (lf_rp1 (f := Ev.z) (fun _ => rfl)) | exact lf_map (f := rz) (fun _ => rfl) (.inl rfl) | exact lf_map (f := Ev.z) (fun _ => rfl) (.inl rfl) | exact lf_fnrp (lf_cons (.sl (fun x h => by cases h) (.inl rfl)) lf_nil) | exact lf_mapG (f := epz) epz_lf (.inl rfl) | exact lf_fnrp (lf_rp1 (f := rz) (fun _ => rfl))) ?_
      refine n_store ti87 (by first | (simp only [nf, Nat.beq] <;> rfl) | rfl) rfl (by first | (simp only [nf, Nat.beq] <;> rfl) | rfl) rfl (by first | (simp only [nf, Nat.beq] <;> rfl) | rfl) rfl rfl rfl (by first | (simp only [nf, Nat.beq] <;> rfl) | rfl) ?_
      refine AOps.nil ?_
      refine AWP.ret ?_
      refine fin_pure (.cons (rv_cell ti87 (by first | (simp only [nf, Nat.beq] <;> rfl) | rfl) (by first | (simp only [nf, Nat.beq] <;> rfl) | rfl) rfl (by first | (simp only [nf, Nat.beq] <;> rfl) | rfl)) .nil) (by first | (simp only [nf, Nat.beq] <;> rfl) | rfl) ?_
      rw [hue]; first | exact .lf (lf_fnrp (lf_rp1 (f := rz) (fun _ => rfl))) | exact .lf (lf_fnrp (lf_rp1 (f := rz) (l := []) (fun _ => rfl)))
    · exact AWP.never (j := 0) rfl
  · rintro c S' ⟨rfl, T, e, he, rfl⟩
    have hue : ups l = e.2 := by unfold ups; rw [he]; rfl
    refine ⟨by simp, ?_⟩
    refine AWP.ret ?_
    refine fin_pure (.cons (rv_cell ti87 (by first | (simp only [nf, Nat.beq] <;> rfl) | rfl) (by first | (simp only [nf, Nat.beq] <;> rfl) | rfl) rfl (by first | (simp only [nf, Nat.beq] <;> rfl) | rfl)) .nil) (by first | (simp only [nf, Nat.beq] <;> rfl) | rfl) ?_
    rw [hue]; first | exact .lf (lf_fnrp (lf_rp1 (f := rz) (fun _ => rfl))) | exact .lf (lf_fnrp (lf_rp1 (f := rz) (l := []) (fun _ => rfl)))

theorem eqf (e : Ep) (hn : e.2.length ≤ 1048576) : Does Try.prog 115 [.agg (epz e), .agg (epz e)] [] (vb true) [] := by
  refine Does.of_body (rvs := [.tmp 4]) Try.func115 rfl rfl rfl rfl ?_
  refine AWP.seq ?_
  refine AWP.region ?_
  refine n_box rfl (by first | (simp only [nf, Nat.beq] <;> rfl) | rfl) rfl rfl (by first | (simp only [nf, Nat.beq] <;> rfl) | rfl) (by first | (simp only [nf, Nat.beq] <;> rfl) | rfl) ?_
  refine n_box rfl (by first | (simp only [nf, Nat.beq] <;> rfl) | rfl) rfl rfl (by first | (simp only [nf, Nat.beq] <;> rfl) | rfl) (by first | (simp only [nf, Nat.beq] <;> rfl) | rfl) ?_
  refine n_assign rfl (by first | (simp only [nf, Nat.beq] <;> rfl) | rfl) ?_
  refine AOps.nil ?_
  refine AWP.seq ?_
  refine AWP.region ?_
  refine n_fieldAddr rfl fd132_0 ti2 rfl (by first | (simp only [nf, Nat.beq] <;> rfl) | rfl) rfl (by first | (simp only [nf, Nat.beq] <;> rfl) | rfl) ?_
  refine n_load rfl ti2 (by first | (simp only [nf, Nat.beq] <;> rfl) | rfl) (by first | (simp only [nf, Nat.beq] <;> rfl) | rfl) rfl (by first | (simp only [nf, Nat.beq] <;> rfl) | rfl) ?_
  refine n_fieldAddr rfl fd132_0 ti2 rfl (by first | (simp only [nf, Nat.beq] <;> rfl) | rfl) rfl (by first | (simp only [nf, Nat.beq] <;> rfl) | rfl) ?_
  refine n_load rfl ti2 (by first | (simp only [nf, Nat.beq] <;> rfl) | rfl) (by first | (simp only [nf, Nat.beq] <;> rfl) | rfl) rfl (by first | (simp only [nf, Nat.beq] <;> rfl) | rfl) ?_
  refine n_ibin rfl (by first | (simp only [nf, Nat.beq] <;> rfl) | rfl) (by first | (simp only [nf, Nat.beq] <;> rfl) | rfl) rfl ?_
  refine n_move rfl (by first | (simp only [nf, Nat.beq] <;> rfl) | rfl) ?_
  refine AOps.name (u := 10) (fun z => .val (.bool z)) (by first | (simp only [nf, Nat.beq] <;> rfl) | rfl) (fun b10 hb10 => ?_)
  refine n_soft (u := 10) (E := .val (.bool b10)) (b10) rfl rfl rfl (by first | (simp only [nf, Nat.beq] <;> rfl) | rfl) (by cases b10 <;> first | (intro _; rfl) | (intro h; exact absurd h (by decide))) (by cases b10 <;> first | (intro h; exact absurd h (by decide)) | (intro _; exact ⟨_, rfl, by first | (intro h; cases h; done) | decide | simp⟩)) (fun h => by
      cases b10 with
      | false => exact absurd h (by first | decide | simp)
      | true =>
        refine n_fieldAddr rfl fd132_1 ti84 rfl (by first | (simp only [nf, Nat.beq] <;> rfl) | rfl) rfl (by first | (simp only [nf, Nat.beq] <;> rfl) | rfl) ?_
        exact AOps.nil ⟨rfl, rfl, rfl⟩) ?_
  refine n_soft (u := 10) (E := .val (.bool b10)) (b10) rfl rfl rfl (by first | (simp only [nf, Nat.beq] <;> rfl) | rfl) (by cases b10 <;> first | (intro _; rfl) | (intro h; exact absurd h (by decide))) (by cases b10 <;> first | (intro h; exact absurd h (by decide)) | (intro _; exact ⟨_, rfl, by first | (intro h; cases h; done) | decide | simp⟩)) (fun h => by
      cases b10 with
      | false => exact absurd h (by first | decide | simp)
      | true =>
        refine n_load rfl ti84 (by first | (simp only [nf, Nat.beq] <;> rfl) | rfl) (by first | (simp only [nf, Nat.beq] <;> rfl) | rfl) rfl (by first | (simp only [nf, Nat.beq] <;> rfl) | rfl) ?_
        exact AOps.nil ⟨rfl, rfl, rfl⟩) ?_
  refine n_soft (u := 10) (E := .val (.bool b10)) (b10) rfl rfl rfl (by first | (simp only [nf, Nat.beq] <;> rfl) | rfl) (by cases b10 <;> first | (intro _; rfl) | (intro h; exact absurd h (by decide))) (by cases b10 <;> first | (intro h; exact absurd h (by decide)) | (intro _; exact ⟨_, rfl, by first | (intro h; cases h; done) | decide | simp⟩)) (fun h => by
      cases b10 with
      | false => exact absurd h (by first | decide | simp)
      | true =>
        refine n_fieldAddr rfl fd132_1 ti84 rfl (by first | (simp only [nf, Nat.beq] <;> rfl) | rfl) rfl (by first | (simp only [nf, Nat.beq] <;> rfl) | rfl) ?_
        exact AOps.nil ⟨rfl, rfl, rfl⟩) ?_
  refine n_soft (u := 10) (E := .val (.bool b10)) (b10) rfl rfl rfl (by first | (simp only [nf, Nat.beq] <;> rfl) | rfl) (by cases b10 <;> first | (intro _; rfl) | (intro h; exact absurd h (by decide))) (by cases b10 <;> first | (intro h; exact absurd h (by decide)) | (intro _; exact ⟨_, rfl, by first | (intro h; cases h; done) | decide | simp⟩)) (fun h => by
      cases b10 with
      | false => exact absurd h (by first | decide | simp)
      | true =>
        refine n_load rfl ti84 (by first | (simp only [nf, Nat.beq] <;> rfl) | rfl) (by first | (simp only [nf, Nat.beq] <;> rfl) | rfl) rfl (by first | (simp only [nf, Nat.beq] <;> rfl) | rfl) ?_
        exact AOps.nil ⟨rfl, rfl, rfl⟩) ?_
  refine n_soft (u := 10) (E := .val (.bool b10)) (b10) rfl rfl rfl (by first | (simp only [nf, Nat.beq] <;> rfl) | rfl) (by cases b10 <;> first | (intro _; rfl) | (intro h; exact absurd h (by decide))) (by cases b10 <;> first | (intro h; exact absurd h (by decide)) | (intro _; exact ⟨_, rfl, by first | (intro h; cases h; done) | decide | simp⟩)) (fun h => by
      cases b10 with
      | false => exact absurd h (by first | decide | simp)
      | true =>
        refine n_call0B rfl cf82 rfl (Eq.trans (by simp only [nl] <;> rfl) (by first | (simp only [nf, Nat.beq] <;> rfl) | rfl)) (by repeat (first | exact .nil | refine .cons ?_ ?_ | exact ren_ints | exact .lf (.val _) | exact .lf (lf_ints (.inl rfl)) | exact .bp ⟨rfl, rfl⟩ | exact .bp (.inl ⟨rfl, rfl⟩) | exact .bp (.inr ⟨rfl, rfl⟩) | exact .lf (D.flat_lf rfl) | exact ren_lits rfl | exact ren_ints | exact ren_map (f := Ev.z) (fun _ => rfl) | exact ren_map (f := rz) (fun _ => rfl) | exact .lf (lf_fnrp (lf_rp1 (f := Ev.z) (fun _ => rfl))) | exact .lf (lf_fnrp hcs) | exact .ro (fun x h => by cases h) | exact ren_mapG (f := epz) epz_lf | exact .lf (lf_fnrp (lf_rp1 (f := rz) (fun _ => rfl))))) (eq_rec e.2 hn) (by first | exact .val _ | exact lf_ints (.inl rfl) | exact lf_ints (.inr rfl) | exact .any | exact D.flat_lf rfl | exact .tup (lf_cons (lf_ints (.inl rfl)) (lf_cons (.val _) lf_nil)) | exact lf_fnrp (lf_rp1 (f := Ev.z) (fun _ => rfl)) | exact lf_map (f := rz) (fun _ => rfl) (.inl rfl) | exact lf_map (f := Ev.z) (fun _ => rfl) (.inl rfl) | exact lf_fnrp (lf_cons (.sl (fun x h => by cases h) (.inl rfl)) lf_nil) | exact lf_mapG (f := epz) epz_lf (.inl rfl) | exact lf_fnrp (lf_rp1 (f := rz) (fun _ => rfl))) ?_
        exact AOps.nil ⟨rfl, rfl, rfl⟩) ?_
  refine n_pick_and rfl (by first | (simp only [nf, Nat.beq] <;> rfl) | rfl) (fun h => by cases b10 with | false => exact absurd h (by decide) | true => exact (by first | (simp only [nf, Nat.beq] <;> rfl) | rfl)) ?_
  refine n_assign rfl (by first | (simp only [nf, Nat.beq] <;> rfl) | rfl) ?_
  subst hb10
  refine AOps.nil ?_
  refine AWP.ret ?_
  refine fin_pure (.cons (rv_tmp (by first | (simp only [nf, Nat.beq] <;> rfl) | rfl)) .nil) (by first | (simp only [nf, Nat.beq] <;> rfl) | rfl) ?_
  exact ren_flat rfl (congrArg vb (by simp))

theorem eqfs (l : List Ep) (hn : l.length ≤ 1048577) (hpp : ∀ e ∈ l, e.2.length ≤ 1048576) : Does Try.prog 119 [(.sl none (l.map epz) .ro), (.sl none (l.map epz) .ro), .fn (.func 115) [] []] [] (vb true) [] := by
  refine Does.of_body (rvs := [.tmp 6]) Try.func119 rfl rfl rfl rfl ?_
  refine AWP.seq ?_
  refine AWP.region ?_
  refine n_assign rfl (by first | (simp only [nf, Nat.beq] <;> rfl) | rfl) ?_
  refine AOps.nil ?_
  refine AWP.seq ?_
  refine AWP.seq ?_
  refine AWP.region ?_
  refine n_move rfl (by first | (simp only [nf, Nat.beq] <;> rfl) | rfl) ?_
  refine n_len rfl Try.underlying126 (by first | (simp only [nf, Nat.beq] <;> rfl) | rfl) (by first | rw [ints_length] | rw [List.length_map] | rfl) ?_
  refine n_move rfl (by first | (simp only [nf, Nat.beq] <;> rfl) | rfl) ?_
  refine n_len rfl Try.underlying126 (by first | (simp only [nf, Nat.beq] <;> rfl) | rfl) (by first | rw [ints_length] | rw [List.length_map] | rfl) ?_
  refine n_ibin rfl (by first | (simp only [nf, Nat.beq] <;> rfl) | rfl) (by first | (simp only [nf, Nat.beq] <;> rfl) | rfl) rfl ?_
  refine AOps.nil ?_
  refine AWP.cond (by first | (simp only [nf, Nat.beq] <;> rfl) | rfl) (fun hc1 => ?_) (fun hc1 => ?_)
  · try simp only [nh] at hc1
    exfalso
    simp at hc1
  · try simp only [nh] at hc1
    refine AWP.skip ?_
    refine AWP.seq ?_
    refine AWP.seq ?_
    refine AWP.region ?_
    refine n_move rfl (by first | (simp only [nf, Nat.beq] <;> rfl) | rfl) ?_
    refine n_len rfl Try.underlying126 (by first | (simp only [nf, Nat.beq] <;> rfl) | rfl) (by first | rw [ints_length] | rw [List.length_map] | rfl) ?_
    refine n_move rfl (by first | (simp only [nf, Nat.beq] <;> rfl) | rfl) ?_
    refine AOps.nil ?_
    refine AWP.block ?_
    refine AWP.loopX 0 (α := Nat) (fun i => i ≤ l.length) (fun i => put (put (put (put (put (put empty 0 (.sl none (l.map epz) .ro)) 1 (.sl none (l.map epz) .ro)) 2 (.fn (.func 115) [] [])) 15 (.sl none (l.map epz) .ro)) 16 (vi (l.length : Int))) 17 (vi (i : Int))) (fun _ => []) (fun i => l.length - i) 0 ?_ ?_ ?_ ?_ ?_ ?_ ?_
    · exact Nat.zero_le _
    · (repeat (first | exact FLe.empty _ | refine FLe.put ?_ ?_)) <;> first | (simp only [nf, Nat.beq]; done) | rfl | (try simp only [nf, Nat.beq]; first | rfl | (simp only [List.length_map]; done) | (congr 2; omega; done))
    · rfl
    · exact fun _ => rfl
    · intro p hp; (try dsimp only); (repeat' (refine un_put ?_ ?_)) <;> first | exact un_empty | exact .bp (by decide) | exact .lf (D.flat_lf rfl) | exact .lf (lf_ints (.inl rfl)) | exact .lf (.fn (fun d h => by cases h) (fun d h => by cases h)) | exact .lf (lf_mapG epz_lf (.inl rfl))
    · intro p hp; (try dsimp only); repeat' (first | exact un_nil | refine un_cons ?_ ?_ | exact un_box rfl)
    · intro i hi
      try dsimp only at hi ⊢
      refine AWP.seq ?_
      refine AWP.region ?_
      refine n_ibin rfl (by first | (simp only [nf, Nat.beq] <;> rfl) | rfl) (by first | (simp only [nf, Nat.beq] <;> rfl) | rfl) rfl ?_
      refine AOps.nil ?_
      refine AWP.seq ?_
      refine AWP.cond (by first | (simp only [nf, Nat.beq] <;> rfl) | rfl) (fun hc2 => ?_) (fun hc2 => ?_)
      · try simp only [nh] at hc2
        obtain ⟨e, he⟩ : ∃ e, l[i]? = some e := ⟨_, List.getElem?_eq_getElem (by omega)⟩
        have hel := hpp e (List.mem_of_getElem? he)
        refine AWP.skip ?_
        refine AWP.seq ?_
        refine AWP.block ?_
        refine AWP.seq ?_
        refine AWP.region ?_
        refine n_move rfl (by first | (simp only [nf, Nat.beq] <;> rfl) | rfl) ?_
        refine n_indexAddr rfl Try.underlying126 ti132 rfl (by first | (simp only [nf, Nat.beq] <;> rfl) | rfl) (by first | (simp only [nf, Nat.beq] <;> rfl) | rfl) (by omega) (by first | exact ints_at _ _ _ (by omega) | exact ints_get _ _ _ (by omega) | exact map_at _ (by assumption) | rfl) rfl ?_
        refine n_load rfl ti132 (by first | (simp only [nf, Nat.beq] <;> rfl) | rfl) (by first | (simp only [nf, Nat.beq] <;> rfl) | rfl) rfl (by first | (simp only [nf, Nat.beq] <;> rfl) | rfl) ?_
        refine n_alloc rfl zi132 rfl (by first | (simp only [nf, Nat.beq] <;> rfl) | rfl) (by first | (simp only [nf, Nat.beq] <;> rfl) | rfl) ?_
        refine n_assign rfl (by first | (simp only [nf, Nat.beq] <;> rfl) | rfl) ?_
        refine n_store ti132 (by first | (simp only [nf, Nat.beq] <;> rfl) | rfl) rfl (by first | (simp only [nf, Nat.beq] <;> rfl) | rfl) rfl (by first | (simp only [nf, Nat.beq] <;> rfl) | rfl) rfl rfl rfl (by first | (simp only [nf, Nat.beq] <;> rfl) | rfl) ?_
        refine AOps.nil ?_
        refine AWP.seq ?_
        refine AWP.region ?_
        refine n_move rfl (by first | (simp only [nf, Nat.beq] <;> rfl) | rfl) ?_
        refine n_move rfl (by first | (simp only [nf, Nat.beq] <;> rfl) | rfl) ?_
        refine n_indexAddr rfl Try.underlying126 ti132 rfl (by first | (simp only [nf, Nat.beq] <;> rfl) | rfl) (by first | (simp only [nf, Nat.beq] <;> rfl) | rfl) (by omega) (by first | exact ints_at _ _ _ (by omega) | exact ints_get _ _ _ (by omega) | exact map_at _ (by assumption) | rfl) rfl ?_
        refine n_load rfl ti132 (by first | (simp only [nf, Nat.beq] <;> rfl) | rfl) (by first | (simp only [nf, Nat.beq] <;> rfl) | rfl) rfl (by first | (simp only [nf, Nat.beq] <;> rfl) | rfl) ?_
        refine n_alloc rfl zi132 rfl (by first | (simp only [nf, Nat.beq] <;> rfl) | rfl) (by first | (simp only [nf, Nat.beq] <;> rfl) | rfl) ?_
        refine n_store ti132 (by first | (simp only [nf, Nat.beq] <;> rfl) | rfl) rfl (by first | (simp only [nf, Nat.beq] <;> rfl) | rfl) rfl (by first | (simp only [nf, Nat.beq] <;> rfl) | rfl) rfl rfl rfl (by first | (simp only [nf, Nat.beq] <;> rfl) | rfl) ?_
        refine AOps.nil ?_
        refine AWP.seq ?_
        refine AWP.region ?_
        refine n_move rfl (by first | (simp only [nf, Nat.beq] <;> rfl) | rfl) ?_
        refine n_load rfl ti132 (by first | (simp only [nf, Nat.beq] <;> rfl) | rfl) (by first | (simp only [nf, Nat.beq] <;> rfl) | rfl) rfl (by first | (simp only [nf, Nat.beq] <;> rfl) | rfl) ?_
        refine n_load rfl ti132 (by first | (simp only [nf, Nat.beq] <;> rfl) | rfl) (by first | (simp only [nf, Nat.beq] <;> rfl) | rfl) rfl (by first | (simp only [nf, Nat.beq] <;> rfl) | rfl) ?_
        refine n_call0B rfl cf115 rfl (Eq.trans (by simp only [nl] <;> rfl) (by first | (simp only [nf, Nat.beq] <;> rfl) | rfl)) (by repeat (first | exact .nil | refine .cons ?_ ?_ | exact ren_ints | exact .lf (.val _) | exact .lf (lf_ints (.inl rfl)) | exact .bp ⟨rfl, rfl⟩ | exact .bp (.inl ⟨rfl, rfl⟩) | exact .bp (.inr ⟨rfl, rfl⟩) | exact .lf (D.flat_lf rfl) | exact ren_lits rfl | exact ren_ints | exact ren_map (f := Ev.z) (fun _ => rfl) | exact ren_map (f := rz) (fun _ => rfl) | exact .lf (lf_fnrp (lf_rp1 (f := Ev.z) (fun _ => rfl))) | exact .lf (lf_fnrp hcs) | exact .ro (fun x h => by cases h) | exact ren_mapG (f := epz) epz_lf | exact .lf (lf_fnrp (lf_rp1 (f := rz) (fun _ => rfl))) | exact .lf (.agg (epz_lf _)))) (eqf e hel) (by first | exact .val _ | exact lf_ints (.inl rfl) | exact lf_ints (.inr rfl) | exact .any | exact D.flat_lf rfl | exact .tup (lf_cons (lf_ints (.inl rfl)) (lf_cons (.val _) lf_nil)) | exact lf_fnrp (lf_rp1 (f := Ev.z) (fun _ => rfl)) | exact lf_map (f := rz) (fun _ => rfl) (.inl rfl) | exact lf_map (f := Ev.z) (fun _ => rfl) (.inl rfl) | exact lf_fnrp (lf_cons (.sl (fun x h => by cases h) (.inl rfl)) lf_nil) | exact lf_mapG (f := epz) epz_lf (.inl rfl) | exact lf_fnrp (lf_rp1 (f := rz) (fun _ => rfl))) ?_
        refine n_not rfl (by first | (simp only [nf, Nat.beq] <;> rfl) | rfl) rfl ?_
        refine AOps.nil ?_
        refine AWP.cond_false (by first | (simp only [nf, Nat.beq] <;> rfl) | rfl) ?_
        refine AWP.skip ?_
        refine AWP.region ?_
        first | refine n_iadd rfl (by first | (simp only [nf, Nat.beq] <;> rfl) | rfl) (by first | (simp only [nf, Nat.beq] <;> rfl) | rfl) rfl (by omega) (by omega) ?_ | refine n_ibin rfl (by first | (simp only [nf, Nat.beq] <;> rfl) | rfl) (by first | (simp only [nf, Nat.beq] <;> rfl) | rfl) rfl ?_
        refine n_move rfl (by first | (simp only [nf, Nat.beq] <;> rfl) | rfl) ?_
        refine AOps.nil ?_
        refine ⟨i + 1, [.box (epz e), .box (epz e)], by omega, ?_, rfl, by omega⟩
        (repeat (first | exact FLe.empty _ | refine FLe.put ?_ ?_)) <;> first | (simp only [nf, Nat.beq]; done) | rfl | (try simp only [nf, Nat.beq]; first | rfl | (simp only [List.length_map]; done) | (congr 2; omega; done))
      · try simp only [nh] at hc2
        refine AWP.exit ?_
        refine AWP.seq ?_
        refine AWP.region ?_
        refine n_assign rfl (by first | (simp only [nf, Nat.beq] <;> rfl) | rfl) ?_
        refine AOps.nil ?_
        refine AWP.ret ?_
        refine fin_pure (.cons (rv_tmp (by first | (simp only [nf, Nat.beq] <;> rfl) | rfl)) .nil) (by first | (simp only [nf, Nat.beq] <;> rfl) | rfl) ?_
        exact ren_flat rfl rfl

set_option maxHeartbeats 1000000 in
theorem r_epochs (l : List Ev) (hn : l.length ≤ 1048576) : Does Try.prog 120 [(.sl none (l.map Ev.z) .ro)] [] (.sl none ((eps l).map epz) .ro) [] := by
  refine Does.of_body (rvs := [.tmp 2]) Try.func120 rfl rfl rfl rfl ?_
  refine AWP.seq ?_
  refine AWP.region ?_
  refine n_assign rfl (by first | (simp only [nf, Nat.beq] <;> rfl) | rfl) ?_
  refine AOps.nil ?_
  refine AWP.seq ?_
  refine AWP.region ?_
  refine n_assign rfl (by first | (simp only [nf, Nat.beq] <;> rfl) | rfl) ?_
  refine AOps.nil ?_
  refine AWP.seq ?_
  refine AWP.adopt (t := 3) (m := 0) (S' := [.row 0 2]) (by rfl) rfl rfl rfl ?_
  refine AWP.region ?_
  refine n_assign rfl (by first | (simp only [nf, Nat.beq] <;> rfl) | rfl) ?_
  refine AOps.nil ?_
  refine AWP.seq ?_
  refine AWP.seq ?_
  refine AWP.region ?_
  refine n_assign rfl (by first | (simp only [nf, Nat.beq] <;> rfl) | rfl) ?_
  refine AOps.nil ?_
  refine AWP.block ?_
  refine AWP.loop (α := Nat × Nat) (fun p => p.1 ≤ l.length ∧ p.2 ≤ p.1 ∧ (epsS (l.take p.1)).2 = recs ((l.take p.1).drop p.2)) (fun p => put (put (put (put empty 0 (.sl none (l.map Ev.z) .ro)) 3 (.sl none ((epsS (l.take p.1)).1.map epz) (.own 0))) 4 (vi (p.2 : Int))) 5 (vi (p.1 : Int))) (fun p => [.row (epsS (l.take p.1)).1.length 2]) (fun p => l.length - p.1) (0, 0) ?_ ?_ ?_ ?_
  · exact ⟨Nat.zero_le _, Nat.le_refl _, rfl⟩
  · (repeat (first | exact FLe.empty _ | refine FLe.put ?_ ?_)) <;> first | (simp only [nf, Nat.beq]; done) | rfl | (try simp only [nf, Nat.beq]; first | rfl | (simp only [List.length_map]; done) | (congr 2; omega; done))
  · rfl
  · rintro ⟨i, s⟩ ⟨hi, hs, hpt⟩
    dsimp only at hi hs hpt ⊢
    refine AWP.seq ?_
    refine AWP.seq ?_
    refine AWP.region ?_
    refine n_move rfl (by first | (simp only [nf, Nat.beq] <;> rfl) | rfl) ?_
    refine n_move rfl (by first | (simp only [nf, Nat.beq] <;> rfl) | rfl) ?_
    refine n_len rfl Try.underlying27 (by first | (simp only [nf, Nat.beq] <;> rfl) | rfl) (by first | rw [ints_length] | rw [List.length_map] | rfl) ?_
    refine n_ibin rfl (by first | (simp only [nf, Nat.beq] <;> rfl) | rfl) (by first | (simp only [nf, Nat.beq] <;> rfl) | rfl) rfl ?_
    refine AOps.nil ?_
    refine AWP.cond (by first | (simp only [nf, Nat.beq] <;> rfl) | rfl) (fun hc1 => ?_) (fun hc1 => ?_)
    · try simp only [nh] at hc1
      obtain ⟨x, hx⟩ : ∃ x, l[i]? = some x := ⟨_, List.getElem?_eq_getElem (by omega)⟩
      have hl1 := (epsS_len (l.take i)).1
      have htl : (l.take i).length ≤ l.length := by simp [List.length_take]; omega
      refine AWP.skip ?_
      refine AWP.seq ?_
      refine AWP.block ?_
      refine AWP.seq ?_
      refine AWP.region ?_
      refine n_move rfl (by first | (simp only [nf, Nat.beq] <;> rfl) | rfl) ?_
      refine n_move rfl (by first | (simp only [nf, Nat.beq] <;> rfl) | rfl) ?_
      refine n_indexAddr rfl Try.underlying27 ti26 rfl (by first | (simp only [nf, Nat.beq] <;> rfl) | rfl) (by first | (simp only [nf, Nat.beq] <;> rfl) | rfl) (by omega) (by first | exact ints_at _ _ _ (by omega) | exact ints_get _ _ _ (by omega) | exact map_at _ (by assumption) | rfl) rfl ?_
      refine n_fieldAddr rfl fd26_0 ti3 rfl (by first | (simp only [nf, Nat.beq] <;> rfl) | rfl) rfl (by first | (simp only [nf, Nat.beq] <;> rfl) | rfl) ?_
      refine n_load rfl ti3 (by first | (simp only [nf, Nat.beq] <;> rfl) | rfl) (by first | (simp only [nf, Nat.beq] <;> rfl) | rfl) rfl (by first | (simp only [nf, Nat.beq] <;> rfl) | rfl) ?_
      refine n_ibin rfl (by first | (simp only [nf, Nat.beq] <;> rfl) | rfl) (by first | (simp only [nf, Nat.beq] <;> rfl) | rfl) rfl ?_
      refine AOps.nil ?_
      refine AWP.cond (by first | (simp only [nf, Nat.beq] <;> rfl) | rfl) (fun hc2 => ?_) (fun hc2 => ?_)
      · try simp only [nh] at hc2
        have hst : (epsS (l.take (i + 1))).1 = (epsS (l.take i)).1 ++ [(x.i, (epsS (l.take i)).2)] := by rw [ep_bar hx hc2]
        have hrr := r_records ((l.take i).drop s) (by rw [List.length_drop, List.length_take]; omega)
        rw [← hpt] at hrr
        obtain ⟨s2, hs2⟩ : ∃ s2, s2 = i + 1 := ⟨_, rfl⟩
        have hp2 : (epsS (l.take (i + 1))).2 = recs ((l.take (i + 1)).drop s2) := by rw [ep_bar hx hc2, hs2, ep_nil]
        refine AWP.seq ?_
        refine AWP.any1 13 [.row ((epsS (l.take i)).1.length + 1) 2] (by kernel_rfl) (by kernel_rfl) (by kernel_rfl) ?_
        refine Walk.ahead [13] (by rfl) (by kernel_rfl) (by rfl) (rs := [3]) (by rfl) (by first | (simp only [nf, Nat.beq] <;> rfl) | rfl) (fun base => by
            refine n_move rfl (by first | (simp only [nf, Nat.beq] <;> rfl) | rfl) ?_
            exact AOps.nil ⟨rfl, rfl, rfl⟩) ?_
        refine Walk.ahead [3, 4, 5, 11, 12, 13] (by rfl) (by kernel_rfl) (by rfl) (rs := [0]) (by rfl) (by first | (simp only [nf, Nat.beq] <;> rfl) | rfl) (fun base => by
            refine n_move rfl (by first | (simp only [nf, Nat.beq] <;> rfl) | rfl) ?_
            exact AOps.nil ⟨rfl, rfl, rfl⟩) ?_
        refine Walk.ahead [3, 4, 5, 11, 12, 13] (by rfl) (by kernel_rfl) (by rfl) (rs := [5]) (by rfl) (by first | (simp only [nf, Nat.beq] <;> rfl) | rfl) (fun base => by
            refine n_move rfl (by first | (simp only [nf, Nat.beq] <;> rfl) | rfl) ?_
            exact AOps.nil ⟨rfl, rfl, rfl⟩) ?_
        refine Walk.ahead [4, 5, 11, 12, 13] (by rfl) (by kernel_rfl) (by rfl) (rs := [20, 21]) (by rfl) (by first | (simp only [nf, Nat.beq] <;> rfl) | rfl) (fun base => by
            refine n_indexAddr rfl Try.underlying27 ti26 rfl (by first | (simp only [nf, Nat.beq] <;> rfl) | rfl) (by first | (simp only [nf, Nat.beq] <;> rfl) | rfl) (by omega) (by first | exact ints_at _ _ _ (by omega) | exact ints_get _ _ _ (by omega) | exact map_at _ (by assumption) | rfl) rfl ?_
            exact AOps.nil ⟨rfl, rfl, rfl⟩) ?_
        refine Walk.ahead [5, 11, 12, 13] (by rfl) (by kernel_rfl) (by rfl) (rs := [22]) (by rfl) (by first | (simp only [nf, Nat.beq] <;> rfl) | rfl) (fun base => by
            refine n_fieldAddr rfl fd26_2 ti2 rfl (by first | (simp only [nf, Nat.beq] <;> rfl) | rfl) rfl (by first | (simp only [nf, Nat.beq] <;> rfl) | rfl) ?_
            exact AOps.nil ⟨rfl, rfl, rfl⟩) ?_
        refine Walk.ahead [11, 12, 13] (by rfl) (by kernel_rfl) (by rfl) (rs := [23]) (by rfl) (by first | (simp only [nf, Nat.beq] <;> rfl) | rfl) (fun base => by
            refine n_load rfl ti2 (by first | (simp only [nf, Nat.beq] <;> rfl) | rfl) (by first | (simp only [nf, Nat.beq] <;> rfl) | rfl) rfl (by first | (simp only [nf, Nat.beq] <;> rfl) | rfl) ?_
            exact AOps.nil ⟨rfl, rfl, rfl⟩) ?_
        refine Walk.ahead [9, 10, 13] (by rfl) (by kernel_rfl) (by rfl) (rs := [0]) (by rfl) (by first | (simp only [nf, Nat.beq] <;> rfl) | rfl) (fun base => by
            refine n_move rfl (by first | (simp only [nf, Nat.beq] <;> rfl) | rfl) ?_
            exact AOps.nil ⟨rfl, rfl, rfl⟩) ?_
        refine Walk.ahead [9, 10, 13] (by rfl) (by kernel_rfl) (by rfl) (rs := [4]) (by rfl) (by first | (simp only [nf, Nat.beq] <;> rfl) | rfl) (fun base => by
            refine n_move rfl (by first | (simp only [nf, Nat.beq] <;> rfl) | rfl) ?_
            exact AOps.nil ⟨rfl, rfl, rfl⟩) ?_
        refine Walk.ahead [9, 10, 13] (by rfl) (by kernel_rfl) (by rfl) (rs := [5]) (by rfl) (by first | (simp only [nf, Nat.beq] <;> rfl) | rfl) (fun base => by
            refine n_move rfl (by first | (simp only [nf, Nat.beq] <;> rfl) | rfl) ?_
            exact AOps.nil ⟨rfl, rfl, rfl⟩) ?_
        refine Walk.ahead [10, 13] (by rfl) (by kernel_rfl) (by rfl) (rs := [25, 26, 27]) (by rfl) (by first | (simp only [nf, Nat.beq] <;> rfl) | rfl) (fun base => by
            refine n_slice (h := i) (k := s) (ys := ((l.take i).drop s).map Ev.z) rfl Try.underlying27 ti26 (by first | (simp only [nf, Nat.beq] <;> rfl) | rfl) (SB.some (by first | (simp only [nf, Nat.beq] <;> rfl) | rfl) (by omega)) (SB.some (by first | (simp only [nf, Nat.beq] <;> rfl) | rfl) (by omega)) (by omega) (by simp only [List.length_map]; omega) (by exact map_one (f := Ev.z) (fun _ => rfl)) (by rw [← List.map_take, ← List.map_drop]) ?_
            exact AOps.nil ⟨rfl, rfl, rfl⟩) ?_
        refine Walk.ahead [13] (by rfl) (by kernel_rfl) (by rfl) (rs := [28]) (by rfl) (by first | (simp only [nf, Nat.beq] <;> rfl) | rfl) (fun base => by
            refine n_call0B rfl cf116 rfl (Eq.trans (by simp only [nl] <;> rfl) (by first | (simp only [nf, Nat.beq] <;> rfl) | rfl)) (by repeat (first | exact .nil | refine .cons ?_ ?_ | exact ren_ints | exact .lf (.val _) | exact .lf (lf_ints (.inl rfl)) | exact .bp ⟨rfl, rfl⟩ | exact .bp (.inl ⟨rfl, rfl⟩) | exact .bp (.inr ⟨rfl, rfl⟩) | exact .lf (D.flat_lf rfl) | exact ren_lits rfl | exact ren_ints | exact ren_map (f := Ev.z) (fun _ => rfl) | exact ren_map (f := rz) (fun _ => rfl) | exact .lf (lf_fnrp (lf_rp1 (f := Ev.z) (fun _ => rfl))) | exact .lf (lf_fnrp hcs) | exact .ro (fun x h => by cases h) | exact ren_mapG (f := epz) epz_lf | exact .lf (lf_fnrp (lf_rp1 (f := rz) (fun _ => rfl))) | exact .lf (.agg (epz_lf _)))) (hrr) (by first | exact .val _ | exact lf_ints (.inl rfl) | exact lf_ints (.inr rfl) | exact .any | exact D.flat_lf rfl | exact .tup (lf_cons (lf_ints (.inl rfl)) (lf_cons (.val _) lf_nil)) | exact lf_fnrp (lf_rp1 (f := Ev.z) (fun _ => rfl)) | exact lf_map (f := rz) (fun _ => rfl) (.inl rfl) | exact lf_map (f := Ev.z) (fun _ => rfl) (.inl rfl) | exact lf_fnrp (lf_cons (.sl (fun x h => by cases h) (.inl rfl)) lf_nil) | exact lf_mapG (f := epz) epz_lf (.inl rfl) | exact lf_fnrp (lf_rp1 (f := rz) (fun _ => rfl))) ?_
            exact AOps.nil ⟨rfl, rfl, rfl⟩) ?_
        refine Walk.ahead [12, 13] (by rfl) (by kernel_rfl) (by rfl) (rs := [24, 29]) (by rfl) (by first | (simp only [nf, Nat.beq] <;> rfl) | rfl) (fun base => by
            refine n_build rfl si132 (Eq.trans (by simp only [nl] <;> rfl) (by first | (simp only [nf, Nat.beq] <;> rfl) | rfl)) (Eq.trans (by simp only [nl] <;> rfl) (by first | (simp only [nf, Nat.beq] <;> rfl) | rfl)) rfl ?_
            exact AOps.nil ⟨rfl, rfl, rfl⟩) ?_
        refine Walk.ahead [13] (by rfl) (by kernel_rfl) (by rfl) (rs := [30]) (by rfl) (by first | (simp only [nf, Nat.beq] <;> rfl) | rfl) (fun base => by
            refine n_lit rfl Try.underlying126 ti132 zi132 rfl rfl (Eq.trans (by simp only [nl] <;> rfl) (by first | (simp only [nf, Nat.beq] <;> rfl) | rfl)) rfl (by first | (simp only [nf, Nat.beq] <;> rfl) | rfl) ?_
            exact AOps.nil ⟨rfl, rfl, rfl⟩) ?_
        refine Walk.writes (by rfl) (rs := [19, 31]) (by rfl) (by first | (simp only [nf, Nat.beq] <;> rfl) | rfl) (fun base => by
            refine n_append_own (zs := ((epsS (l.take i)).1 ++ [(x.i, (epsS (l.take i)).2)]).map epz) (m := ((epsS (l.take i)).1).length + 1) rfl Try.underlying126 Try.underlying126 ei132 (by first | (simp only [nf, Nat.beq] <;> rfl) | rfl) (by first | (simp only [nf, Nat.beq] <;> rfl) | rfl) (by simp only [List.length_map]) (by first | (simp only [nf, Nat.beq] <;> rfl) | rfl) (by exact map_one (f := epz) (fun _ => rfl)) (by exact one_one rfl) (by simp) (by simp) (by omega) (by first | (simp only [nf, Nat.beq] <;> rfl) | rfl) ?_
            exact AOps.nil ⟨rfl, rfl, rfl⟩) ?_
        refine Walk.behind [14] (by rfl) (by rfl) (by kernel_rfl) (by rfl) (rs := [32]) (by rfl) (by first | (simp only [nf, Nat.beq] <;> rfl) | rfl) (fun base => by
            refine n_assign rfl (by first | (simp only [nf, Nat.beq] <;> rfl) | rfl) ?_
            exact AOps.nil ⟨rfl, rfl, rfl⟩) ?_
        refine Walk.done ?_
        refine AWP.region ?_
        refine n_move rfl (by first | (simp only [nf, Nat.beq] <;> rfl) | rfl) ?_
        first | refine n_iadd rfl (by first | (simp only [nf, Nat.beq] <;> rfl) | rfl) (by first | (simp only [nf, Nat.beq] <;> rfl) | rfl) rfl (by omega) (by omega) ?_ | refine n_ibin rfl (by first | (simp only [nf, Nat.beq] <;> rfl) | rfl) (by first | (simp only [nf, Nat.beq] <;> rfl) | rfl) rfl ?_
        refine n_assign rfl (by first | (simp only [nf, Nat.beq] <;> rfl) | rfl) ?_
        refine AOps.nil ?_
        refine AWP.region ?_
        refine n_move rfl (by first | (simp only [nf, Nat.beq] <;> rfl) | rfl) ?_
        first | refine n_iadd rfl (by first | (simp only [nf, Nat.beq] <;> rfl) | rfl) (by first | (simp only [nf, Nat.beq] <;> rfl) | rfl) rfl (by omega) (by omega) ?_ | refine n_ibin rfl (by first | (simp only [nf, Nat.beq] <;> rfl) | rfl) (by first | (simp only [nf, Nat.beq] <;> rfl) | rfl) rfl ?_
        refine n_assign rfl (by first | (simp only [nf, Nat.beq] <;> rfl) | rfl) ?_
        refine AOps.nil ?_
        refine ⟨(i + 1, s2), ⟨by dsimp only; omega, by dsimp only; omega, by dsimp only; exact hp2⟩, ?_, ?_, by dsimp only; omega⟩
        · (repeat (first | exact FLe.empty _ | refine FLe.put ?_ ?_)) <;> first | (simp only [nf, Nat.beq]; done) | rfl | (try simp only [nf, Nat.beq]; first | rfl | (rw [hst]; done) | (simp only [hst]; done) | (congr 2; omega; done))
        · dsimp only; rw [hst] <;> simp
      · try simp only [nh] at hc2
        obtain ⟨hst, hp2⟩ := ep_go hx (by simpa using hc2) hs hpt
        obtain ⟨s2, hs2⟩ : ∃ s2, s2 = s := ⟨_, rfl⟩
        rw [← hs2] at hp2
        refine AWP.skip ?_
        refine AWP.region ?_
        refine n_move rfl (by first | (simp only [nf, Nat.beq] <;> rfl) | rfl) ?_
        first | refine n_iadd rfl (by first | (simp only [nf, Nat.beq] <;> rfl) | rfl) (by first | (simp only [nf, Nat.beq] <;> rfl) | rfl) rfl (by omega) (by omega) ?_ | refine n_ibin rfl (by first | (simp only [nf, Nat.beq] <;> rfl) | rfl) (by first | (simp only [nf, Nat.beq] <;> rfl) | rfl) rfl ?_
        refine n_assign rfl (by first | (simp only [nf, Nat.beq] <;> rfl) | rfl) ?_
        refine AOps.nil ?_
        refine ⟨(i + 1, s2), ⟨by dsimp only; omega, by dsimp only; omega, by dsimp only; exact hp2⟩, ?_, ?_, by dsimp only; omega⟩
        · (repeat (first | exact FLe.empty _ | refine FLe.put ?_ ?_)) <;> first | (simp only [nf, Nat.beq]; done) | rfl | (try simp only [nf, Nat.beq]; first | rfl | (rw [hst]; done) | (simp only [hst]; done) | (congr 2; omega; done))
        · dsimp only; rw [hst] <;> simp
    · try simp only [nh] at hc1
      obtain rfl : i = l.length := by omega
      rw [List.take_length] at *
      have hl1 := (epsS_len l).1
      have hrr := r_records (l.drop s) (by rw [List.length_drop]; omega)
      rw [← hpt] at hrr
      refine AWP.exit ?_
      refine AWP.seq ?_
      refine AWP.seq ?_
      refine AWP.region ?_
      refine n_move rfl (by first | (simp only [nf, Nat.beq] <;> rfl) | rfl) ?_
      refine n_move rfl (by first | (simp only [nf, Nat.beq] <;> rfl) | rfl) ?_
      refine n_slice (h := (l.map Ev.z).length) (k := s) (ys := (l.drop s).map Ev.z) rfl Try.underlying27 ti26 (by first | (simp only [nf, Nat.beq] <;> rfl) | rfl) SB.none (SB.some (by first | (simp only [nf, Nat.beq] <;> rfl) | rfl) (by omega)) (by simp only [List.length_map]; omega) (Nat.le_refl _) (by exact map_one (f := Ev.z) (fun _ => rfl)) (by rw [List.take_length, ← List.map_drop]) ?_
      refine n_call0B rfl cf116 rfl (Eq.trans (by simp only [nl] <;> rfl) (by first | (simp only [nf, Nat.beq] <;> rfl) | rfl)) (by repeat (first | exact .nil | refine .cons ?_ ?_ | exact ren_ints | exact .lf (.val _) | exact .lf (lf_ints (.inl rfl)) | exact .bp ⟨rfl, rfl⟩ | exact .bp (.inl ⟨rfl, rfl⟩) | exact .bp (.inr ⟨rfl, rfl⟩) | exact .lf (D.flat_lf rfl) | exact ren_lits rfl | exact ren_ints | exact ren_map (f := Ev.z) (fun _ => rfl) | exact ren_map (f := rz) (fun _ => rfl) | exact .lf (lf_fnrp (lf_rp1 (f := Ev.z) (fun _ => rfl))) | exact .lf (lf_fnrp hcs) | exact .ro (fun x h => by cases h) | exact ren_mapG (f := epz) epz_lf | exact .lf (lf_fnrp (lf_rp1 (f := rz) (fun _ => rfl))) | exact .lf (.agg (epz_lf _)))) (hrr) (by first | exact .val _ | exact lf_ints (.inl rfl) | exact lf_ints (.inr rfl) | exact .any | exact D.flat_lf rfl | exact .tup (lf_cons (lf_ints (.inl rfl)) (lf_cons (.val _) lf_nil)) | exact lf_fnrp (lf_rp1 (f := Ev.z) (fun _ => rfl)) | exact lf_map (f := rz) (fun _ => rfl) (.inl rfl) | exact lf_map (f := Ev.z) (fun _ => rfl) (.inl rfl) | exact lf_fnrp (lf_cons (.sl (fun x h => by cases h) (.inl rfl)) lf_nil) | exact lf_mapG (f := epz) epz_lf (.inl rfl) | exact lf_fnrp (lf_rp1 (f := rz) (fun _ => rfl))) ?_
      refine n_assign rfl (by first | (simp only [nf, Nat.beq] <;> rfl) | rfl) ?_
      refine AOps.nil ?_
      refine AWP.seq ?_
      refine AWP.region ?_
      refine n_move rfl (by first | (simp only [nf, Nat.beq] <;> rfl) | rfl) ?_
      refine n_len rfl Try.underlying84 (by first | (simp only [nf, Nat.beq] <;> rfl) | rfl) (by first | rw [ints_length] | rw [List.length_map] | rfl) ?_
      refine n_ibin rfl (by first | (simp only [nf, Nat.beq] <;> rfl) | rfl) (by first | (simp only [nf, Nat.beq] <;> rfl) | rfl) rfl ?_
      refine AOps.nil ?_
      refine AWP.cond (by first | (simp only [nf, Nat.beq] <;> rfl) | rfl) (fun hc3 => ?_) (fun hc3 => ?_)
      · try simp only [nh] at hc3
        have hep := eps_yes (l := l) (by omega)
        refine AWP.region ?_
        refine n_move rfl (by first | (simp only [nf, Nat.beq] <;> rfl) | rfl) ?_
        refine n_move rfl (by first | (simp only [nf, Nat.beq] <;> rfl) | rfl) ?_
        refine n_build rfl si132 (Eq.trans (by simp only [nl] <;> rfl) (by first | (simp only [nf, Nat.beq] <;> rfl) | rfl)) (Eq.trans (by simp only [nl] <;> rfl) (by first | (simp only [nf, Nat.beq] <;> rfl) | rfl)) rfl ?_
        refine n_lit rfl Try.underlying126 ti132 zi132 rfl rfl (Eq.trans (by simp only [nl] <;> rfl) (by first | (simp only [nf, Nat.beq] <;> rfl) | rfl)) rfl (by first | (simp only [nf, Nat.beq] <;> rfl) | rfl) ?_
        refine n_append_own (zs := ((epsS l).1 ++ [((0 : Int), (epsS l).2)]).map epz) (m := ((epsS l).1).length + 1) rfl Try.underlying126 Try.underlying126 ei132 (by first | (simp only [nf, Nat.beq] <;> rfl) | rfl) (by first | (simp only [nf, Nat.beq] <;> rfl) | rfl) (by simp only [List.length_map]) (by first | (simp only [nf, Nat.beq] <;> rfl) | rfl) (by exact map_one (f := epz) (fun _ => rfl)) (by exact one_one rfl) (by simp) (by simp) (by omega) (by first | (simp only [nf, Nat.beq] <;> rfl) | rfl) ?_
        refine n_assign rfl (by first | (simp only [nf, Nat.beq] <;> rfl) | rfl) ?_
        refine AOps.nil ?_
        refine AWP.seq ?_
        refine AWP.region ?_
        refine n_move rfl (by first | (simp only [nf, Nat.beq] <;> rfl) | rfl) ?_
        refine n_assign rfl (by first | (simp only [nf, Nat.beq] <;> rfl) | rfl) ?_
        refine AOps.nil ?_
        refine AWP.ret ?_
        refine fin_pure (.cons (rv_tmp (by first | (simp only [nf, Nat.beq] <;> rfl) | rfl)) .nil) (by first | (simp only [nf, Nat.beq] <;> rfl) | rfl) ?_
        rw [hep]; exact ren_mapG (f := epz) epz_lf
      · try simp only [nh] at hc3
        have hep := eps_no (l := l) (by omega)
        refine AWP.skip ?_
        refine AWP.seq ?_
        refine AWP.region ?_
        refine n_move rfl (by first | (simp only [nf, Nat.beq] <;> rfl) | rfl) ?_
        refine n_assign rfl (by first | (simp only [nf, Nat.beq] <;> rfl) | rfl) ?_
        refine AOps.nil ?_
        refine AWP.ret ?_
        refine fin_pure (.cons (rv_tmp (by first | (simp only [nf, Nat.beq] <;> rfl) | rfl)) .nil) (by first | (simp only [nf, Nat.beq] <;> rfl) | rfl) ?_
        rw [hep]; exact ren_mapG (f := epz) epz_lf

end Go.Proofs.Ytanfmpkjcoolmaa.Ez
