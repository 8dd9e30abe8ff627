/- The numbers with which bytes begin. -/
import Derived.Test.YtanfmpkjcoolmaaRdA
import Derived.Test.YtanfmpkjcoolmaaPlA
import Derived.Test.YtanfmpkjcoolmaaMirrorPlain
import Derived.Test.YtanfmpkjcoolmaaPackPlain5
import Derived.Test.YtanfmpkjcoolmaaAbsZc
import Derived.KernelRfl
set_option linter.unusedVariables false
set_option linter.unusedSimpArgs false
namespace Go.Proofs.Ytanfmpkjcoolmaa.Nu
open Go Go.Abs Go.Proofs.Ytanfmpkjcoolmaa.Pk
attribute [local irreducible] AWP AOps Does

theorem cf100 : CF Try.prog 100 := ⟨_, Try.func100, by kernel_rfl, by kernel_rfl⟩
theorem cf103 : CF Try.prog 103 := ⟨_, Try.func103, by kernel_rfl, by kernel_rfl⟩
theorem cf104 : CF Try.prog 104 := ⟨_, Try.func104, by kernel_rfl, by kernel_rfl⟩
theorem cf105 : CF Try.prog 105 := ⟨_, Try.func105, by kernel_rfl, by kernel_rfl⟩
theorem cf106 : CF Try.prog 106 := ⟨_, Try.func106, by kernel_rfl, by kernel_rfl⟩
theorem cf107 : CF Try.prog 107 := ⟨_, Try.func107, by kernel_rfl, by kernel_rfl⟩
theorem cf203 : CF Try.prog 203 := ⟨_, Try.func203, by kernel_rfl, by kernel_rfl⟩
theorem cf268 : CF Try.prog 268 := ⟨_, Try.func268, by kernel_rfl, by kernel_rfl⟩
theorem cf40 : CF Try.prog 40 := ⟨_, Try.func40, by kernel_rfl, by kernel_rfl⟩
theorem cf72 : CF Try.prog 72 := ⟨_, Try.func72, by kernel_rfl, by kernel_rfl⟩
theorem cf75 : CF Try.prog 75 := ⟨_, Try.func75, by kernel_rfl, by kernel_rfl⟩
theorem cf77 : CF Try.prog 77 := ⟨_, Try.func77, by kernel_rfl, by kernel_rfl⟩
theorem cf84 : CF Try.prog 84 := ⟨_, Try.func84, by kernel_rfl, by kernel_rfl⟩
theorem cf86 : CF Try.prog 86 := ⟨_, Try.func86, by kernel_rfl, by kernel_rfl⟩
theorem cf87 : CF Try.prog 87 := ⟨_, Try.func87, by kernel_rfl, by kernel_rfl⟩
theorem cf88 : CF Try.prog 88 := ⟨_, Try.func88, by kernel_rfl, by kernel_rfl⟩
theorem ei2 : EI Try.prog 2 1 8 (.int .i64 0) := EI.of (by kernel_rfl) rfl rfl
theorem ei3 : EI Try.prog 3 1 8 (.int .i64 0) := EI.of (by kernel_rfl) rfl rfl
theorem ti122 : TI Try.prog 122 1 false := ⟨by kernel_rfl, by kernel_rfl⟩
theorem ti2 : TI Try.prog 2 1 false := ⟨by kernel_rfl, by kernel_rfl⟩
theorem ti22 : TI Try.prog 22 1 false := ⟨by kernel_rfl, by kernel_rfl⟩
theorem ti3 : TI Try.prog 3 1 false := ⟨by kernel_rfl, by kernel_rfl⟩
theorem ti5 : TI Try.prog 5 1 false := ⟨by kernel_rfl, by kernel_rfl⟩
theorem ti77 : TI Try.prog 77 1 false := ⟨by kernel_rfl, by kernel_rfl⟩
theorem zi122 : (Try.prog.info? 122).map (·.zero) = some (some (.slice none 0 0)) := by kernel_rfl
theorem zi2 : (Try.prog.info? 2).map (·.zero) = some (some (.int .i64 0)) := by kernel_rfl
theorem zi3 : (Try.prog.info? 3).map (·.zero) = some (some (.int .i64 0)) := by kernel_rfl
theorem zi77 : (Try.prog.info? 77).map (·.zero) = some (some (.slice none 0 0)) := by kernel_rfl

attribute [local irreducible] Up.int Up.str Up.close Up.rest Up.clr Up.spoil Up.w Up.flag
theorem eq_i64 (l : List Int) (hn : l.length ≤ 1099511627776) : Does Try.prog 106 [(.sl none (ints .i64 l) .ro), (.sl none (ints .i64 l) .ro)] [] (vb true) [] := by
  refine Does.of_body (rvs := [.tmp 4]) Try.func106 rfl rfl rfl rfl ?_
  refine AWP.seq ?_
  refine AWP.region ?_
  refine n_assign rfl (by first | (simp only [nf, Nat.beq] <;> rfl) | rfl) ?_
  refine AOps.nil ?_
  refine AWP.seq ?_
  refine AWP.seq ?_
  refine AWP.region ?_
  refine n_move rfl (by first | (simp only [nf, Nat.beq] <;> rfl) | rfl) ?_
  refine n_len rfl Try.underlying77 (by first | (simp only [nf, Nat.beq] <;> rfl) | rfl) (by first | rw [ints_length] | rw [List.length_map] | rfl) ?_
  refine n_move rfl (by first | (simp only [nf, Nat.beq] <;> rfl) | rfl) ?_
  refine n_len rfl Try.underlying77 (by first | (simp only [nf, Nat.beq] <;> rfl) | rfl) (by first | rw [ints_length] | rw [List.length_map] | rfl) ?_
  refine n_ibin rfl (by first | (simp only [nf, Nat.beq] <;> rfl) | rfl) (by first | (simp only [nf, Nat.beq] <;> rfl) | rfl) rfl ?_
  refine AOps.nil ?_
  refine AWP.cond (by first | (simp only [nf, Nat.beq] <;> rfl) | rfl) (fun hc1 => ?_) (fun hc1 => ?_)
  · try simp only [nh] at hc1
    exfalso
    simp at hc1
  · try simp only [nh] at hc1
    refine AWP.skip ?_
    refine AWP.seq ?_
    refine AWP.seq ?_
    refine AWP.region ?_
    refine n_move rfl (by first | (simp only [nf, Nat.beq] <;> rfl) | rfl) ?_
    refine n_len rfl Try.underlying77 (by first | (simp only [nf, Nat.beq] <;> rfl) | rfl) (by first | rw [ints_length] | rw [List.length_map] | rfl) ?_
    refine n_move rfl (by first | (simp only [nf, Nat.beq] <;> rfl) | rfl) ?_
    refine AOps.nil ?_
    refine AWP.block ?_
    refine AWP.loop (α := Nat) (fun i => i ≤ l.length) (fun i => put (put (put (put empty 0 (.sl none (ints .i64 l) .ro)) 1 (.sl none (ints .i64 l) .ro)) 12 (vi (l.length : Int))) 13 (vi (i : Int))) (fun _ => []) (fun i => l.length - i) 0 ?_ ?_ ?_ ?_
    · exact Nat.zero_le _
    · (repeat (first | exact FLe.empty _ | refine FLe.put ?_ ?_)) <;> first | (simp only [nf, Nat.beq]; done) | rfl | (try simp only [nf, Nat.beq]; first | rfl | (simp only [ints_length]; done) | (congr 2; omega))
    · rfl
    · intro i hi
      try dsimp only at hi ⊢
      refine AWP.seq ?_
      refine AWP.region ?_
      refine n_ibin rfl (by first | (simp only [nf, Nat.beq] <;> rfl) | rfl) (by first | (simp only [nf, Nat.beq] <;> rfl) | rfl) rfl ?_
      refine AOps.nil ?_
      refine AWP.seq ?_
      refine AWP.cond (by first | (simp only [nf, Nat.beq] <;> rfl) | rfl) (fun hc2 => ?_) (fun hc2 => ?_)
      · try simp only [nh] at hc2
        refine AWP.skip ?_
        refine AWP.seq ?_
        refine AWP.block ?_
        refine AWP.seq ?_
        refine AWP.region ?_
        refine n_move rfl (by first | (simp only [nf, Nat.beq] <;> rfl) | rfl) ?_
        refine n_assign rfl (by first | (simp only [nf, Nat.beq] <;> rfl) | rfl) ?_
        refine AOps.nil ?_
        refine AWP.seq ?_
        refine AWP.anyStill (by kernel_rfl) (by kernel_rfl) ?_
        refine Walk.still (rs := [0]) (by rfl) (by first | (simp only [nf, Nat.beq] <;> rfl) | rfl) (fun base => by
            refine n_move rfl (by first | (simp only [nf, Nat.beq] <;> rfl) | rfl) ?_
            exact AOps.nil ⟨rfl, rfl, rfl⟩) ?_
        refine Walk.still (rs := [5]) (by rfl) (by first | (simp only [nf, Nat.beq] <;> rfl) | rfl) (fun base => by
            refine n_move rfl (by first | (simp only [nf, Nat.beq] <;> rfl) | rfl) ?_
            exact AOps.nil ⟨rfl, rfl, rfl⟩) ?_
        refine Walk.still (rs := [16, 17]) (by rfl) (by first | (simp only [nf, Nat.beq] <;> rfl) | rfl) (fun base => by
            refine n_indexAddr rfl Try.underlying77 ti2 rfl (by first | (simp only [nf, Nat.beq] <;> rfl) | rfl) (by first | (simp only [nf, Nat.beq] <;> rfl) | rfl) (by omega) (by first | exact ints_at _ _ _ (by omega) | exact ints_get _ _ _ (by omega) | exact map_at _ (by assumption) | rfl) rfl ?_
            exact AOps.nil ⟨rfl, rfl, rfl⟩) ?_
        refine Walk.still (rs := [18]) (by rfl) (by first | (simp only [nf, Nat.beq] <;> rfl) | rfl) (fun base => by
            refine n_load rfl ti2 (by first | (simp only [nf, Nat.beq] <;> rfl) | rfl) (by first | (simp only [nf, Nat.beq] <;> rfl) | rfl) rfl (by first | (simp only [nf, Nat.beq] <;> rfl) | rfl) ?_
            exact AOps.nil ⟨rfl, rfl, rfl⟩) ?_
        refine Walk.still (rs := [1]) (by rfl) (by first | (simp only [nf, Nat.beq] <;> rfl) | rfl) (fun base => by
            refine n_move rfl (by first | (simp only [nf, Nat.beq] <;> rfl) | rfl) ?_
            exact AOps.nil ⟨rfl, rfl, rfl⟩) ?_
        refine Walk.still (rs := [5]) (by rfl) (by first | (simp only [nf, Nat.beq] <;> rfl) | rfl) (fun base => by
            refine n_move rfl (by first | (simp only [nf, Nat.beq] <;> rfl) | rfl) ?_
            exact AOps.nil ⟨rfl, rfl, rfl⟩) ?_
        refine Walk.still (rs := [20, 21]) (by rfl) (by first | (simp only [nf, Nat.beq] <;> rfl) | rfl) (fun base => by
            refine n_indexAddr rfl Try.underlying77 ti2 rfl (by first | (simp only [nf, Nat.beq] <;> rfl) | rfl) (by first | (simp only [nf, Nat.beq] <;> rfl) | rfl) (by omega) (by first | exact ints_at _ _ _ (by omega) | exact ints_get _ _ _ (by omega) | exact map_at _ (by assumption) | rfl) rfl ?_
            exact AOps.nil ⟨rfl, rfl, rfl⟩) ?_
        refine Walk.still (rs := [22]) (by rfl) (by first | (simp only [nf, Nat.beq] <;> rfl) | rfl) (fun base => by
            refine n_load rfl ti2 (by first | (simp only [nf, Nat.beq] <;> rfl) | rfl) (by first | (simp only [nf, Nat.beq] <;> rfl) | rfl) rfl (by first | (simp only [nf, Nat.beq] <;> rfl) | rfl) ?_
            exact AOps.nil ⟨rfl, rfl, rfl⟩) ?_
        refine Walk.still (rs := [19, 23]) (by rfl) (by first | (simp only [nf, Nat.beq] <;> rfl) | rfl) (fun base => by
            refine n_ibin rfl (by first | (simp only [nf, Nat.beq] <;> rfl) | rfl) (by first | (simp only [nf, Nat.beq] <;> rfl) | rfl) rfl ?_
            exact AOps.nil ⟨rfl, rfl, rfl⟩) ?_
        refine Walk.done ?_
        refine AWP.cond (by first | (simp only [nf, Nat.beq] <;> rfl) | rfl) (fun hc3 => ?_) (fun hc3 => ?_)
        · try simp only [nh] at hc3
          exfalso
          simp at hc3
        · try simp only [nh] at hc3
          refine AWP.skip ?_
          refine AWP.region ?_
          first | refine n_iadd rfl (by first | (simp only [nf, Nat.beq] <;> rfl) | rfl) (by first | (simp only [nf, Nat.beq] <;> rfl) | rfl) rfl (by omega) (by omega) ?_ | refine n_ibin rfl (by first | (simp only [nf, Nat.beq] <;> rfl) | rfl) (by first | (simp only [nf, Nat.beq] <;> rfl) | rfl) rfl ?_
          refine n_move rfl (by first | (simp only [nf, Nat.beq] <;> rfl) | rfl) ?_
          refine AOps.nil ?_
          refine ⟨i + 1, by omega, ?_, rfl, by omega⟩
          (repeat (first | exact FLe.empty _ | refine FLe.put ?_ ?_)) <;> first | (simp only [nf, Nat.beq]; done) | rfl | (try simp only [nf, Nat.beq]; first | rfl | (simp only [ints_length]; done) | (congr 2; omega))
      · try simp only [nh] at hc2
        refine AWP.exit ?_
        refine AWP.seq ?_
        refine AWP.region ?_
        refine n_assign rfl (by first | (simp only [nf, Nat.beq] <;> rfl) | rfl) ?_
        refine AOps.nil ?_
        refine AWP.ret ?_
        refine fin_pure (.cons (rv_tmp (by first | (simp only [nf, Nat.beq] <;> rfl) | rfl)) .nil) (by first | (simp only [nf, Nat.beq] <;> rfl) | rfl) ?_
        exact ren_flat rfl rfl

theorem eq_int (l : List Int) (hn : l.length ≤ 1099511627776) : Does Try.prog 107 [(.sl none (ints .i64 l) .ro), (.sl none (ints .i64 l) .ro)] [] (vb true) [] := by
  refine Does.of_body (rvs := [.tmp 4]) Try.func107 rfl rfl rfl rfl ?_
  refine AWP.seq ?_
  refine AWP.region ?_
  refine n_assign rfl (by first | (simp only [nf, Nat.beq] <;> rfl) | rfl) ?_
  refine AOps.nil ?_
  refine AWP.seq ?_
  refine AWP.seq ?_
  refine AWP.region ?_
  refine n_move rfl (by first | (simp only [nf, Nat.beq] <;> rfl) | rfl) ?_
  refine n_len rfl Try.underlying122 (by first | (simp only [nf, Nat.beq] <;> rfl) | rfl) (by first | rw [ints_length] | rw [List.length_map] | rfl) ?_
  refine n_move rfl (by first | (simp only [nf, Nat.beq] <;> rfl) | rfl) ?_
  refine n_len rfl Try.underlying122 (by first | (simp only [nf, Nat.beq] <;> rfl) | rfl) (by first | rw [ints_length] | rw [List.length_map] | rfl) ?_
  refine n_ibin rfl (by first | (simp only [nf, Nat.beq] <;> rfl) | rfl) (by first | (simp only [nf, Nat.beq] <;> rfl) | rfl) rfl ?_
  refine AOps.nil ?_
  refine AWP.cond (by first | (simp only [nf, Nat.beq] <;> rfl) | rfl) (fun hc1 => ?_) (fun hc1 => ?_)
  · try simp only [nh] at hc1
    exfalso
    simp at hc1
  · try simp only [nh] at hc1
    refine AWP.skip ?_
    refine AWP.seq ?_
    refine AWP.seq ?_
    refine AWP.region ?_
    refine n_move rfl (by first | (simp only [nf, Nat.beq] <;> rfl) | rfl) ?_
    refine n_len rfl Try.underlying122 (by first | (simp only [nf, Nat.beq] <;> rfl) | rfl) (by first | rw [ints_length] | rw [List.length_map] | rfl) ?_
    refine n_move rfl (by first | (simp only [nf, Nat.beq] <;> rfl) | rfl) ?_
    refine AOps.nil ?_
    refine AWP.block ?_
    refine AWP.loop (α := Nat) (fun i => i ≤ l.length) (fun i => put (put (put (put empty 0 (.sl none (ints .i64 l) .ro)) 1 (.sl none (ints .i64 l) .ro)) 12 (vi (l.length : Int))) 13 (vi (i : Int))) (fun _ => []) (fun i => l.length - i) 0 ?_ ?_ ?_ ?_
    · exact Nat.zero_le _
    · (repeat (first | exact FLe.empty _ | refine FLe.put ?_ ?_)) <;> first | (simp only [nf, Nat.beq]; done) | rfl | (try simp only [nf, Nat.beq]; first | rfl | (simp only [ints_length]; done) | (congr 2; omega))
    · rfl
    · intro i hi
      try dsimp only at hi ⊢
      refine AWP.seq ?_
      refine AWP.region ?_
      refine n_ibin rfl (by first | (simp only [nf, Nat.beq] <;> rfl) | rfl) (by first | (simp only [nf, Nat.beq] <;> rfl) | rfl) rfl ?_
      refine AOps.nil ?_
      refine AWP.seq ?_
      refine AWP.cond (by first | (simp only [nf, Nat.beq] <;> rfl) | rfl) (fun hc2 => ?_) (fun hc2 => ?_)
      · try simp only [nh] at hc2
        refine AWP.skip ?_
        refine AWP.seq ?_
        refine AWP.block ?_
        refine AWP.seq ?_
        refine AWP.region ?_
        refine n_move rfl (by first | (simp only [nf, Nat.beq] <;> rfl) | rfl) ?_
        refine n_assign rfl (by first | (simp only [nf, Nat.beq] <;> rfl) | rfl) ?_
        refine AOps.nil ?_
        refine AWP.seq ?_
        refine AWP.anyStill (by kernel_rfl) (by kernel_rfl) ?_
        refine Walk.still (rs := [0]) (by rfl) (by first | (simp only [nf, Nat.beq] <;> rfl) | rfl) (fun base => by
            refine n_move rfl (by first | (simp only [nf, Nat.beq] <;> rfl) | rfl) ?_
            exact AOps.nil ⟨rfl, rfl, rfl⟩) ?_
        refine Walk.still (rs := [5]) (by rfl) (by first | (simp only [nf, Nat.beq] <;> rfl) | rfl) (fun base => by
            refine n_move rfl (by first | (simp only [nf, Nat.beq] <;> rfl) | rfl) ?_
            exact AOps.nil ⟨rfl, rfl, rfl⟩) ?_
        refine Walk.still (rs := [16, 17]) (by rfl) (by first | (simp only [nf, Nat.beq] <;> rfl) | rfl) (fun base => by
            refine n_indexAddr rfl Try.underlying122 ti3 rfl (by first | (simp only [nf, Nat.beq] <;> rfl) | rfl) (by first | (simp only [nf, Nat.beq] <;> rfl) | rfl) (by omega) (by first | exact ints_at _ _ _ (by omega) | exact ints_get _ _ _ (by omega) | exact map_at _ (by assumption) | rfl) rfl ?_
            exact AOps.nil ⟨rfl, rfl, rfl⟩) ?_
        refine Walk.still (rs := [18]) (by rfl) (by first | (simp only [nf, Nat.beq] <;> rfl) | rfl) (fun base => by
            refine n_load rfl ti3 (by first | (simp only [nf, Nat.beq] <;> rfl) | rfl) (by first | (simp only [nf, Nat.beq] <;> rfl) | rfl) rfl (by first | (simp only [nf, Nat.beq] <;> rfl) | rfl) ?_
            exact AOps.nil ⟨rfl, rfl, rfl⟩) ?_
        refine Walk.still (rs := [1]) (by rfl) (by first | (simp only [nf, Nat.beq] <;> rfl) | rfl) (fun base => by
            refine n_move rfl (by first | (simp only [nf, Nat.beq] <;> rfl) | rfl) ?_
            exact AOps.nil ⟨rfl, rfl, rfl⟩) ?_
        refine Walk.still (rs := [5]) (by rfl) (by first | (simp only [nf, Nat.beq] <;> rfl) | rfl) (fun base => by
            refine n_move rfl (by first | (simp only [nf, Nat.beq] <;> rfl) | rfl) ?_
            exact AOps.nil ⟨rfl, rfl, rfl⟩) ?_
        refine Walk.still (rs := [20, 21]) (by rfl) (by first | (simp only [nf, Nat.beq] <;> rfl) | rfl) (fun base => by
            refine n_indexAddr rfl Try.underlying122 ti3 rfl (by first | (simp only [nf, Nat.beq] <;> rfl) | rfl) (by first | (simp only [nf, Nat.beq] <;> rfl) | rfl) (by omega) (by first | exact ints_at _ _ _ (by omega) | exact ints_get _ _ _ (by omega) | exact map_at _ (by assumption) | rfl) rfl ?_
            exact AOps.nil ⟨rfl, rfl, rfl⟩) ?_
        refine Walk.still (rs := [22]) (by rfl) (by first | (simp only [nf, Nat.beq] <;> rfl) | rfl) (fun base => by
            refine n_load rfl ti3 (by first | (simp only [nf, Nat.beq] <;> rfl) | rfl) (by first | (simp only [nf, Nat.beq] <;> rfl) | rfl) rfl (by first | (simp only [nf, Nat.beq] <;> rfl) | rfl) ?_
            exact AOps.nil ⟨rfl, rfl, rfl⟩) ?_
        refine Walk.still (rs := [19, 23]) (by rfl) (by first | (simp only [nf, Nat.beq] <;> rfl) | rfl) (fun base => by
            refine n_ibin rfl (by first | (simp only [nf, Nat.beq] <;> rfl) | rfl) (by first | (simp only [nf, Nat.beq] <;> rfl) | rfl) rfl ?_
            exact AOps.nil ⟨rfl, rfl, rfl⟩) ?_
        refine Walk.done ?_
        refine AWP.cond (by first | (simp only [nf, Nat.beq] <;> rfl) | rfl) (fun hc3 => ?_) (fun hc3 => ?_)
        · try simp only [nh] at hc3
          exfalso
          simp at hc3
        · try simp only [nh] at hc3
          refine AWP.skip ?_
          refine AWP.region ?_
          first | refine n_iadd rfl (by first | (simp only [nf, Nat.beq] <;> rfl) | rfl) (by first | (simp only [nf, Nat.beq] <;> rfl) | rfl) rfl (by omega) (by omega) ?_ | refine n_ibin rfl (by first | (simp only [nf, Nat.beq] <;> rfl) | rfl) (by first | (simp only [nf, Nat.beq] <;> rfl) | rfl) rfl ?_
          refine n_move rfl (by first | (simp only [nf, Nat.beq] <;> rfl) | rfl) ?_
          refine AOps.nil ?_
          refine ⟨i + 1, by omega, ?_, rfl, by omega⟩
          (repeat (first | exact FLe.empty _ | refine FLe.put ?_ ?_)) <;> first | (simp only [nf, Nat.beq]; done) | rfl | (try simp only [nf, Nat.beq]; first | rfl | (simp only [ints_length]; done) | (congr 2; omega))
      · try simp only [nh] at hc2
        refine AWP.exit ?_
        refine AWP.seq ?_
        refine AWP.region ?_
        refine n_assign rfl (by first | (simp only [nf, Nat.beq] <;> rfl) | rfl) ?_
        refine AOps.nil ?_
        refine AWP.ret ?_
        refine fin_pure (.cons (rv_tmp (by first | (simp only [nf, Nat.beq] <;> rfl) | rfl)) .nil) (by first | (simp only [nf, Nat.beq] <;> rfl) | rfl) ?_
        exact ren_flat rfl rfl

theorem ints_it (b : List Int) (hb : Byt b) (hl : L40 b) : Iter Try.prog 268 [.rp [bys b]] [] ((nums b).map npz) := by
  refine Iter.of_body (rvs := []) Try.func268 rfl rfl rfl rfl (fun yl J hY => ?_)
  refine AWP.scope ?_
  refine AWP.seq ?_
  refine AWP.region ?_
  refine n_assign rfl (by first | (simp only [nf, Nat.beq] <;> rfl) | rfl) ?_
  refine AOps.nil ?_
  refine AWP.seq ?_
  refine AWP.label ?_
  refine AWP.block ?_
  refine AWP.loop (α := List NP × Nat × Nat) (fun s => NS b s.1 s.2.1 s.2.2) (fun s => put (put (put empty 0 (.val (.func (.yield yl) #[] #[]))) 1 (.rp [bys b])) 3 (vi (s.2.1 : Int))) (fun s => [.seen J (some s.1.length)]) (fun s => s.2.2) ([], 0, b.length + 1) ?_ ?_ ?_ ?_
  · exact NS.start b
  · (repeat (first | exact FLe.empty _ | refine FLe.put ?_ ?_)) <;> first | (simp only [nf, Nat.beq]; done) | rfl | (try simp only [nf, Nat.beq]; first | rfl | (simp only [ints_length]; done) | (congr 2; omega))
  · rfl
  · rintro ⟨pre, p, f⟩ hs
    dsimp only at hs ⊢
    have hle := hs.le
    have hfu := hs.fuel
    refine AWP.seq ?_
    refine AWP.seq ?_
    refine AWP.region ?_
    refine n_move rfl (by first | (simp only [nf, Nat.beq] <;> rfl) | rfl) ?_
    refine n_load rfl ti22 (by first | (simp only [nf, Nat.beq] <;> rfl) | rfl) (by first | (simp only [nf, Nat.beq] <;> rfl) | rfl) rfl (by first | (simp only [nf, Nat.beq] <;> rfl) | rfl) ?_
    refine n_len rfl Try.underlying22 (by first | (simp only [nf, Nat.beq] <;> rfl) | rfl) (by first | rw [ints_length] | rw [List.length_map] | rfl) ?_
    refine n_ibin rfl (by first | (simp only [nf, Nat.beq] <;> rfl) | rfl) (by first | (simp only [nf, Nat.beq] <;> rfl) | rfl) rfl ?_
    refine AOps.nil ?_
    refine AWP.cond (by first | (simp only [nf, Nat.beq] <;> rfl) | rfl) (fun hc1 => ?_) (fun hc1 => ?_)
    · try simp only [nh] at hc1
      have hf := p_first (b.drop p) (hb.drop p) (by simp only [L40, List.length_drop] at *; omega)
      refine AWP.skip ?_
      refine AWP.block ?_
      refine AWP.seq ?_
      refine AWP.region ?_
      refine n_load rfl ti22 (by first | (simp only [nf, Nat.beq] <;> rfl) | rfl) (by first | (simp only [nf, Nat.beq] <;> rfl) | rfl) rfl (by first | (simp only [nf, Nat.beq] <;> rfl) | rfl) ?_
      refine n_move rfl (by first | (simp only [nf, Nat.beq] <;> rfl) | rfl) ?_
      refine n_slice rfl Try.underlying22 ti5 (by first | (simp only [nf, Nat.beq] <;> rfl) | rfl) SB.none (SB.some (by first | (simp only [nf, Nat.beq] <;> rfl) | rfl) (by first | rfl | omega)) (by first | omega | (simp only [ints_length]; omega)) (by first | omega | (simp only [ints_length]; omega) | exact Nat.le_refl _) (ints_one _ _) (by first | (simp only [ints_take, ints_drop, List.take_length, ints_length, List.drop_zero] <;> rfl) | rfl) ?_
      refine n_call0B rfl cf103 rfl (Eq.trans (by simp only [nl] <;> rfl) (by first | (simp only [nf, Nat.beq] <;> rfl) | rfl)) (by repeat (first | exact .nil | refine .cons ?_ ?_ | exact ren_ints | exact .lf (.val _) | exact .lf (lf_ints (.inl rfl)) | exact .bp ⟨rfl, rfl⟩ | exact .bp (.inl ⟨rfl, rfl⟩) | exact .bp (.inr ⟨rfl, rfl⟩) | exact .lf (D.flat_lf rfl) | exact ren_lits rfl | exact ren_ints | exact .lf (lf_fnrp' lf_bys))) (hf) (by first | exact .val _ | exact lf_ints (.inl rfl) | exact lf_ints (.inr rfl) | exact .any | exact D.flat_lf rfl | exact .tup (lf_cons (lf_ints (.inl rfl)) (lf_cons (.val _) lf_nil)) | exact lf_fnrp' lf_bys | exact lf_ints (.inl rfl) | exact .tup (lf_cons (lf_ints (.inl rfl)) (lf_cons (lf_ints (.inl rfl)) lf_nil))) ?_
      refine n_move rfl (by first | (simp only [nf, Nat.beq] <;> rfl) | rfl) ?_
      refine n_extract rfl (by first | (simp only [nf, Nat.beq] <;> rfl) | rfl) rfl ?_
      refine n_extract rfl (by first | (simp only [nf, Nat.beq] <;> rfl) | rfl) rfl ?_
      refine n_extract rfl (by first | (simp only [nf, Nat.beq] <;> rfl) | rfl) rfl ?_
      refine n_assign rfl (by first | (simp only [nf, Nat.beq] <;> rfl) | rfl) ?_
      refine n_assign rfl (by first | (simp only [nf, Nat.beq] <;> rfl) | rfl) ?_
      refine n_assign rfl (by first | (simp only [nf, Nat.beq] <;> rfl) | rfl) ?_
      refine AOps.nil ?_
      refine AWP.seq ?_
      refine AWP.seq ?_
      refine AWP.region ?_
      refine n_move rfl (by first | (simp only [nf, Nat.beq] <;> rfl) | rfl) ?_
      refine n_ibin rfl (by first | (simp only [nf, Nat.beq] <;> rfl) | rfl) (by first | (simp only [nf, Nat.beq] <;> rfl) | rfl) rfl ?_
      refine AOps.nil ?_
      refine AWP.cond (by first | (simp only [nf, Nat.beq] <;> rfl) | rfl) (fun hc2 => ?_) (fun hc2 => ?_)
      · try simp only [nh] at hc2
        have hfin := hs.stop hc2
        refine AWP.exit ?_
        first | exact ⟨.inl rfl, [], _, .nil, .inr rfl, rfl⟩ | exact ⟨.inl rfl, [], _, .nil, .inl (by rw [List.length_map, hfin]), rfl⟩
      · try simp only [nh] at hc2
        have he0 : (firstP (b.drop p)).2.2 = 0 := by simpa using hc2
        have hnx := hs.next hb he0
        have hbd := firstP_bd he0
        rw [List.length_drop] at hbd
        have hxy : ((nums b).map npz)[pre.length]? = some (npz ((firstP (b.drop p)).1, ((p + (firstP (b.drop p)).2.1 : Nat) : Int))) := by rw [List.getElem?_map, hnx.2]; rfl
        refine AWP.skip ?_
        refine AWP.seq ?_
        refine AWP.region ?_
        refine n_move rfl (by first | (simp only [nf, Nat.beq] <;> rfl) | rfl) ?_
        refine n_move rfl (by first | (simp only [nf, Nat.beq] <;> rfl) | rfl) ?_
        first | refine n_iadd rfl (by first | (simp only [nf, Nat.beq] <;> rfl) | rfl) (by first | (simp only [nf, Nat.beq] <;> rfl) | rfl) rfl (by omega) (by omega) ?_ | refine n_ibin rfl (by first | (simp only [nf, Nat.beq] <;> rfl) | rfl) (by first | (simp only [nf, Nat.beq] <;> rfl) | rfl) rfl ?_
        refine n_assign rfl (by first | (simp only [nf, Nat.beq] <;> rfl) | rfl) ?_
        refine AOps.nil ?_
        refine AWP.seq ?_
        refine AWP.region ?_
        refine n_move rfl (by first | (simp only [nf, Nat.beq] <;> rfl) | rfl) ?_
        refine n_move rfl (by first | (simp only [nf, Nat.beq] <;> rfl) | rfl) ?_
        refine n_move rfl (by first | (simp only [nf, Nat.beq] <;> rfl) | rfl) ?_
        refine n_yield (l0 := 0) rfl (by first | (simp only [nf, Nat.beq] <;> rfl) | rfl) rfl hY hxy (Eq.trans (by simp only [nl] <;> rfl) (by first | (simp only [nf, Nat.beq] <;> rfl) | rfl)) (by repeat (first | exact .nil | refine .cons ?_ ?_ | exact ren_ints | exact .lf (.val _) | exact .lf (lf_ints (.inl rfl)) | exact .bp ⟨rfl, rfl⟩ | exact .bp (.inl ⟨rfl, rfl⟩) | exact .bp (.inr ⟨rfl, rfl⟩) | exact .lf (D.flat_lf rfl) | exact ren_lits rfl | exact ren_ints | exact .lf (lf_fnrp' lf_bys))) rfl rfl ?_ ?_
        · refine n_not rfl (by first | (simp only [nf, Nat.beq] <;> rfl) | rfl) rfl ?_
          refine AOps.nil ?_
          refine AWP.cond_false (by first | (simp only [nf, Nat.beq] <;> rfl) | rfl) ?_
          refine AWP.skip ?_
          refine ⟨(_, _, _), hnx.1, ?_, ?_, by dsimp only; omega⟩
          · (repeat (first | exact FLe.empty _ | refine FLe.put ?_ ?_)) <;> first | (simp only [nf, Nat.beq]; done) | rfl | (try simp only [nf, Nat.beq]; first | rfl | (congr 2; omega; done))
          · simp
        · refine n_not rfl (by first | (simp only [nf, Nat.beq] <;> rfl) | rfl) rfl ?_
          refine AOps.nil ?_
          refine AWP.cond_true (by first | (simp only [nf, Nat.beq] <;> rfl) | rfl) ?_
          refine AWP.exit ?_
          first | exact ⟨.inl rfl, [], _, .nil, .inr rfl, rfl⟩ | exact ⟨.inl rfl, [], _, .nil, .inl (by rw [List.length_map, hfin]), rfl⟩
    · try simp only [nh] at hc1
      have hfin := hs.full (by omega)
      refine AWP.exit ?_
      first | exact ⟨.inl rfl, [], _, .nil, .inr rfl, rfl⟩ | exact ⟨.inl rfl, [], _, .nil, .inl (by rw [List.length_map, hfin]), rfl⟩

theorem l_ints (b : List Int) : Does Try.prog 203 [bys b] [] (.fn (.func 268) [] [.rp [bys b]]) [] := by
  refine Does.of_body (rvs := [.tmp 2]) Try.func203 rfl rfl rfl rfl ?_
  refine AWP.seq ?_
  refine AWP.region ?_
  refine n_box rfl (by first | (simp only [nf, Nat.beq] <;> rfl) | rfl) rfl rfl (by first | (simp only [nf, Nat.beq] <;> rfl) | rfl) (by first | (simp only [nf, Nat.beq] <;> rfl) | rfl) ?_
  refine n_assign rfl (by first | (simp only [nf, Nat.beq] <;> rfl) | rfl) ?_
  refine AOps.nil ?_
  refine AWP.seq ?_
  refine AWP.freeze (t := 1) (S' := [.lent]) (by rfl) rfl rfl rfl ?_
  refine AWP.region ?_
  refine n_makeFunc rfl (Eq.trans (by simp only [nl] <;> rfl) (by first | (simp only [nf, Nat.beq] <;> rfl) | rfl)) (Eq.trans (by simp only [nl] <;> rfl) (by first | (simp only [nf, Nat.beq] <;> rfl) | rfl)) ?_
  refine n_assign rfl (by first | (simp only [nf, Nat.beq] <;> rfl) | rfl) ?_
  refine AOps.nil ?_
  refine AWP.ret ?_
  refine fin_pure (.cons (rv_tmp (by first | (simp only [nf, Nat.beq] <;> rfl) | rfl)) .nil) (by first | (simp only [nf, Nat.beq] <;> rfl) | rfl) ?_
  exact .lf (lf_fnrp' lf_bys)

theorem one_one1 {y : List D} {n : Nat} (h : y.length = n) : ∀ x ∈ [y], x.length = n := fun x hx => by simp only [List.mem_cons, List.not_mem_nil, or_false] at hx; subst hx; exact h
set_option maxHeartbeats 2000000 in
theorem numbers (b : List Int) (hb : Byt b) (hl : L40 b) : Does Try.prog 100 [bys b] [] (.tup [.sl none (ints .i64 ((nums b).map (·.1))) .ro, .sl none (ints .i64 ((nums b).map (·.2))) .ro]) [] := by
  refine Does.of_body (rvs := [.tmp 2, .tmp 3]) Try.func100 rfl rfl rfl rfl ?_
  have hnl := nums_len b
  have hi := l_ints b
  refine AWP.seq ?_
  refine AWP.region ?_
  refine n_assign rfl (by first | (simp only [nf, Nat.beq] <;> rfl) | rfl) ?_
  refine n_assign rfl (by first | (simp only [nf, Nat.beq] <;> rfl) | rfl) ?_
  refine AOps.nil ?_
  refine AWP.seq ?_
  refine AWP.region ?_
  refine n_alloc rfl zi77 rfl (by first | (simp only [nf, Nat.beq] <;> rfl) | rfl) (by first | (simp only [nf, Nat.beq] <;> rfl) | rfl) ?_
  refine AOps.nil ?_
  refine AWP.seq ?_
  refine AWP.region ?_
  refine n_alloc rfl zi122 rfl (by first | (simp only [nf, Nat.beq] <;> rfl) | rfl) (by first | (simp only [nf, Nat.beq] <;> rfl) | rfl) ?_
  refine AOps.nil ?_
  refine AWP.seq ?_
  refine AWP.seq ?_
  refine AWP.adoptBox (j := 0) (i := 0) (m := 0) (sz := 1) (S' := [.box [.sl none [] (.own 2)], .box [.sl (some true) [] .full], .row 0 1]) rfl rfl rfl rfl rfl ?_
  refine AWP.adoptBox (j := 1) (i := 0) (m := 0) (sz := 1) (S' := [.box [.sl none [] (.own 2)], .box [.sl none [] (.own 3)], .row 0 1, .row 0 1]) rfl rfl rfl rfl rfl ?_
  refine AWP.region ?_
  refine n_move rfl (by first | (simp only [nf, Nat.beq] <;> rfl) | rfl) ?_
  refine n_call0B rfl cf203 rfl (Eq.trans (by simp only [nl] <;> rfl) (by first | (simp only [nf, Nat.beq] <;> rfl) | rfl)) (by repeat (first | exact .nil | refine .cons ?_ ?_ | exact ren_ints | exact .lf (.val _) | exact .lf (lf_ints (.inl rfl)) | exact .bp ⟨rfl, rfl⟩ | exact .bp (.inl ⟨rfl, rfl⟩) | exact .bp (.inr ⟨rfl, rfl⟩) | exact .lf (D.flat_lf rfl) | exact ren_lits rfl | exact ren_ints | exact .lf (lf_fnrp' lf_bys))) (hi) (by first | exact .val _ | exact lf_ints (.inl rfl) | exact lf_ints (.inr rfl) | exact .any | exact D.flat_lf rfl | exact .tup (lf_cons (lf_ints (.inl rfl)) (lf_cons (.val _) lf_nil)) | exact lf_fnrp' lf_bys | exact lf_ints (.inl rfl) | exact .tup (lf_cons (lf_ints (.inl rfl)) (lf_cons (lf_ints (.inl rfl)) lf_nil))) ?_
  refine AOps.nil ?_
  refine AWP.block ?_
  refine AWP.rangeFunc [] (fun k => [.box [.sl none (ints .i64 (((nums b).take (k)).map (·.1))) (.own 2)], .box [.sl none (ints .i64 (((nums b).take (k)).map (·.2))) (.own 3)], .row ((nums b).take (k)).length 1, .row ((nums b).take (k)).length 1]) (fun _ _ => False) (by first | (simp only [nf, Nat.beq] <;> rfl) | rfl) cf268 (ints_it b hb hl) List.nodup_nil rfl (fun j ob h => by simp at h) (.cons (.lf (.rp lf_bys)) .nil) rfl (by intro x hx; obtain ⟨p, _, rfl⟩ := List.mem_map.1 hx; rfl) (by intro x hx d hd; obtain ⟨p, _, rfl⟩ := List.mem_map.1 hx; exact np_lf p d hd) (by decide) (fun _ => rfl) (fun k => un_cons (fun d hd => by simp only [List.mem_cons, List.not_mem_nil, or_false] at hd; subst hd; exact .sl (fun x hx d hd => .lf (ints_lf _ _ x hx d hd)) (fun l e => by cases e; simp)) (un_cons (fun d hd => by simp only [List.mem_cons, List.not_mem_nil, or_false] at hd; subst hd; exact .sl (fun x hx d hd => .lf (ints_lf _ _ x hx d hd)) (fun l e => by cases e; simp)) (un_cons trivial (un_cons trivial un_nil)))) rfl rfl ?_ ?_ ?_
  · intro k x hxk
    obtain ⟨p, hp, rfl⟩ := map_some' hxk
    have hkl := (List.getElem?_eq_some_iff.1 hp).1
    dsimp only [putPs]
    refine AWP.seq ?_
    refine AWP.region ?_
    refine n_assign rfl (by first | (simp only [nf, Nat.beq] <;> rfl) | rfl) ?_
    refine AOps.nil ?_
    refine AWP.region ?_
    refine n_assign rfl (by first | (simp only [nf, Nat.beq] <;> rfl) | rfl) ?_
    refine AOps.nil ?_
    refine AWP.block ?_
    refine AWP.anyT [3, 7, 8, 9] (fun p => match p with | [false, false, false, false] => [.box [.sl none (ints .i64 (((nums b).take (k)).map (·.1))) (.own 2)], .box [.sl none (ints .i64 (((nums b).take (k)).map (·.2))) (.own 3)], .row ((nums b).take (k)).length 1, .row ((nums b).take (k)).length 1] | [true, false, false, false] => [.box [.sl none (ints .i64 (((nums b).take (k)).map (·.1))) (.own 2)], .box [.sl none (ints .i64 (((nums b).take (k)).map (·.2))) (.own 3)], .row ((nums b).take (k + 1)).length 1, .row ((nums b).take (k)).length 1] | [false, true, false, false] => [.box [.sl none (ints .i64 (((nums b).take (k)).map (·.1))) (.own 2)], .box [.sl none (ints .i64 (((nums b).take (k)).map (·.2))) (.own 3)], .row ((nums b).take (k)).length 1, .row ((nums b).take (k + 1)).length 1] | [true, true, false, false] => [.box [.sl none (ints .i64 (((nums b).take (k)).map (·.1))) (.own 2)], .box [.sl none (ints .i64 (((nums b).take (k)).map (·.2))) (.own 3)], .row ((nums b).take (k + 1)).length 1, .row ((nums b).take (k + 1)).length 1] | [true, false, true, false] => [.box [.sl none (ints .i64 (((nums b).take (k + 1)).map (·.1))) (.own 2)], .box [.sl none (ints .i64 (((nums b).take (k)).map (·.2))) (.own 3)], .row ((nums b).take (k + 1)).length 1, .row ((nums b).take (k)).length 1] | [false, true, false, true] => [.box [.sl none (ints .i64 (((nums b).take (k)).map (·.1))) (.own 2)], .box [.sl none (ints .i64 (((nums b).take (k + 1)).map (·.2))) (.own 3)], .row ((nums b).take (k)).length 1, .row ((nums b).take (k + 1)).length 1] | [true, true, true, false] => [.box [.sl none (ints .i64 (((nums b).take (k + 1)).map (·.1))) (.own 2)], .box [.sl none (ints .i64 (((nums b).take (k)).map (·.2))) (.own 3)], .row ((nums b).take (k + 1)).length 1, .row ((nums b).take (k + 1)).length 1] | [true, true, false, true] => [.box [.sl none (ints .i64 (((nums b).take (k)).map (·.1))) (.own 2)], .box [.sl none (ints .i64 (((nums b).take (k + 1)).map (·.2))) (.own 3)], .row ((nums b).take (k + 1)).length 1, .row ((nums b).take (k + 1)).length 1] | [true, true, true, true] => [.box [.sl none (ints .i64 (((nums b).take (k + 1)).map (·.1))) (.own 2)], .box [.sl none (ints .i64 (((nums b).take (k + 1)).map (·.2))) (.own 3)], .row ((nums b).take (k + 1)).length 1, .row ((nums b).take (k + 1)).length 1] | _ => []) (by kernel_rfl) (by kernel_rfl) rfl rfl ?_
    refine Walk.cases [([false, false, false, false], [.box [.sl none (ints .i64 (((nums b).take (k)).map (·.1))) (.own 2)], .box [.sl none (ints .i64 (((nums b).take (k)).map (·.2))) (.own 3)], .row ((nums b).take (k)).length 1, .row ((nums b).take (k)).length 1], [.box [.sl none (ints .i64 (((nums b).take (k)).map (·.1))) (.own 2)], .box [.sl none (ints .i64 (((nums b).take (k)).map (·.2))) (.own 3)], .row ((nums b).take (k)).length 1, .row ((nums b).take (k)).length 1])] (by rfl) (by kernel_rfl) (rs := [4]) (by rfl) (by first | (simp only [nf, Nat.beq] <;> rfl) | rfl) (fun base => ⟨
        ⟨rfl, rfl, by
          refine n_load rfl ti77 (by first | (simp only [nf, Nat.beq] <;> rfl) | rfl) (by first | (simp only [nf, Nat.beq] <;> rfl) | rfl) rfl (by first | (simp only [nf, Nat.beq] <;> rfl) | rfl) ?_
          exact AOps.nil ⟨rfl, rfl, rfl⟩⟩,
        trivial⟩) ?_
    refine Walk.cases [([false, false, false, false], [.box [.sl none (ints .i64 (((nums b).take (k)).map (·.1))) (.own 2)], .box [.sl none (ints .i64 (((nums b).take (k)).map (·.2))) (.own 3)], .row ((nums b).take (k)).length 1, .row ((nums b).take (k)).length 1], [.box [.sl none (ints .i64 (((nums b).take (k)).map (·.1))) (.own 2)], .box [.sl none (ints .i64 (((nums b).take (k)).map (·.2))) (.own 3)], .row ((nums b).take (k)).length 1, .row ((nums b).take (k)).length 1])] (by rfl) (by kernel_rfl) (rs := [6]) (by rfl) (by first | (simp only [nf, Nat.beq] <;> rfl) | rfl) (fun base => ⟨
        ⟨rfl, rfl, by
          refine n_move rfl (by first | (simp only [nf, Nat.beq] <;> rfl) | rfl) ?_
          exact AOps.nil ⟨rfl, rfl, rfl⟩⟩,
        trivial⟩) ?_
    refine Walk.cases [([false, false, false, false], [.box [.sl none (ints .i64 (((nums b).take (k)).map (·.1))) (.own 2)], .box [.sl none (ints .i64 (((nums b).take (k)).map (·.2))) (.own 3)], .row ((nums b).take (k)).length 1, .row ((nums b).take (k)).length 1], [.box [.sl none (ints .i64 (((nums b).take (k)).map (·.1))) (.own 2)], .box [.sl none (ints .i64 (((nums b).take (k)).map (·.2))) (.own 3)], .row ((nums b).take (k)).length 1, .row ((nums b).take (k)).length 1])] (by rfl) (by kernel_rfl) (rs := [13]) (by rfl) (by first | (simp only [nf, Nat.beq] <;> rfl) | rfl) (fun base => ⟨
        ⟨rfl, rfl, by
          refine n_lit rfl Try.underlying77 ti2 zi2 rfl rfl (Eq.trans (by simp only [nl] <;> rfl) (by first | (simp only [nf, Nat.beq] <;> rfl) | rfl)) rfl (by first | (simp only [nf, Nat.beq] <;> rfl) | rfl) ?_
          exact AOps.nil ⟨rfl, rfl, rfl⟩⟩,
        trivial⟩) ?_
    refine Walk.cases [([false, false, false, false], [.box [.sl none (ints .i64 (((nums b).take (k)).map (·.1))) (.own 2)], .box [.sl none (ints .i64 (((nums b).take (k)).map (·.2))) (.own 3)], .row ((nums b).take (k)).length 1, .row ((nums b).take (k)).length 1], [.box [.sl none (ints .i64 (((nums b).take (k)).map (·.1))) (.own 2)], .box [.sl none (ints .i64 (((nums b).take (k)).map (·.2))) (.own 3)], .row ((nums b).take (k + 1)).length 1, .row ((nums b).take (k)).length 1])] (by rfl) (by kernel_rfl) (rs := [12, 14]) (by rfl) (by first | (simp only [nf, Nat.beq] <;> rfl) | rfl) (fun base => ⟨
        ⟨rfl, rfl, by
          refine n_append_own (zs := ints .i64 (((nums b).take (k + 1)).map (·.1))) (m := ((nums b).take (k + 1)).length) rfl Try.underlying77 Try.underlying77 ei2 (by first | (simp only [nf, Nat.beq] <;> rfl) | rfl) (by first | (simp only [nf, Nat.beq] <;> rfl) | rfl) (by rw [ints_length, List.length_map]) (by first | (simp only [nf, Nat.beq] <;> rfl) | rfl) (by exact ints_one _ _) (by exact one_one1 rfl) (by rw [ints_take1 hp]; exact ints_snoc _ _ _) (by rw [ints_length, List.length_map, List.length_take, List.length_take]; simp only [List.length_cons, List.length_nil]; omega) (by simp only [List.length_take]; omega) (by first | (simp only [nf, Nat.beq] <;> rfl) | rfl) ?_
          exact AOps.nil ⟨rfl, rfl, rfl⟩⟩,
        trivial⟩) ?_
    refine Walk.cases [([false, false, false, false], [.box [.sl none (ints .i64 (((nums b).take (k)).map (·.1))) (.own 2)], .box [.sl none (ints .i64 (((nums b).take (k)).map (·.2))) (.own 3)], .row ((nums b).take (k)).length 1, .row ((nums b).take (k)).length 1], [.box [.sl none (ints .i64 (((nums b).take (k)).map (·.1))) (.own 2)], .box [.sl none (ints .i64 (((nums b).take (k)).map (·.2))) (.own 3)], .row ((nums b).take (k)).length 1, .row ((nums b).take (k)).length 1]), ([true, false, false, false], [.box [.sl none (ints .i64 (((nums b).take (k)).map (·.1))) (.own 2)], .box [.sl none (ints .i64 (((nums b).take (k)).map (·.2))) (.own 3)], .row ((nums b).take (k + 1)).length 1, .row ((nums b).take (k)).length 1], [.box [.sl none (ints .i64 (((nums b).take (k)).map (·.1))) (.own 2)], .box [.sl none (ints .i64 (((nums b).take (k)).map (·.2))) (.own 3)], .row ((nums b).take (k + 1)).length 1, .row ((nums b).take (k)).length 1])] (by rfl) (by kernel_rfl) (rs := [5]) (by rfl) (by first | (simp only [nf, Nat.beq] <;> rfl) | rfl) (fun base => ⟨
        ⟨rfl, rfl, by
          refine n_load rfl ti122 (by first | (simp only [nf, Nat.beq] <;> rfl) | rfl) (by first | (simp only [nf, Nat.beq] <;> rfl) | rfl) rfl (by first | (simp only [nf, Nat.beq] <;> rfl) | rfl) ?_
          exact AOps.nil ⟨rfl, rfl, rfl⟩⟩,
        ⟨rfl, rfl, by
          refine n_load rfl ti122 (by first | (simp only [nf, Nat.beq] <;> rfl) | rfl) (by first | (simp only [nf, Nat.beq] <;> rfl) | rfl) rfl (by first | (simp only [nf, Nat.beq] <;> rfl) | rfl) ?_
          exact AOps.nil ⟨rfl, rfl, rfl⟩⟩,
        trivial⟩) ?_
    refine Walk.cases [([false, false, false, false], [.box [.sl none (ints .i64 (((nums b).take (k)).map (·.1))) (.own 2)], .box [.sl none (ints .i64 (((nums b).take (k)).map (·.2))) (.own 3)], .row ((nums b).take (k)).length 1, .row ((nums b).take (k)).length 1], [.box [.sl none (ints .i64 (((nums b).take (k)).map (·.1))) (.own 2)], .box [.sl none (ints .i64 (((nums b).take (k)).map (·.2))) (.own 3)], .row ((nums b).take (k)).length 1, .row ((nums b).take (k)).length 1]), ([true, false, false, false], [.box [.sl none (ints .i64 (((nums b).take (k)).map (·.1))) (.own 2)], .box [.sl none (ints .i64 (((nums b).take (k)).map (·.2))) (.own 3)], .row ((nums b).take (k + 1)).length 1, .row ((nums b).take (k)).length 1], [.box [.sl none (ints .i64 (((nums b).take (k)).map (·.1))) (.own 2)], .box [.sl none (ints .i64 (((nums b).take (k)).map (·.2))) (.own 3)], .row ((nums b).take (k + 1)).length 1, .row ((nums b).take (k)).length 1])] (by rfl) (by kernel_rfl) (rs := [7]) (by rfl) (by first | (simp only [nf, Nat.beq] <;> rfl) | rfl) (fun base => ⟨
        ⟨rfl, rfl, by
          refine n_move rfl (by first | (simp only [nf, Nat.beq] <;> rfl) | rfl) ?_
          exact AOps.nil ⟨rfl, rfl, rfl⟩⟩,
        ⟨rfl, rfl, by
          refine n_move rfl (by first | (simp only [nf, Nat.beq] <;> rfl) | rfl) ?_
          exact AOps.nil ⟨rfl, rfl, rfl⟩⟩,
        trivial⟩) ?_
    refine Walk.cases [([false, false, false, false], [.box [.sl none (ints .i64 (((nums b).take (k)).map (·.1))) (.own 2)], .box [.sl none (ints .i64 (((nums b).take (k)).map (·.2))) (.own 3)], .row ((nums b).take (k)).length 1, .row ((nums b).take (k)).length 1], [.box [.sl none (ints .i64 (((nums b).take (k)).map (·.1))) (.own 2)], .box [.sl none (ints .i64 (((nums b).take (k)).map (·.2))) (.own 3)], .row ((nums b).take (k)).length 1, .row ((nums b).take (k)).length 1]), ([true, false, false, false], [.box [.sl none (ints .i64 (((nums b).take (k)).map (·.1))) (.own 2)], .box [.sl none (ints .i64 (((nums b).take (k)).map (·.2))) (.own 3)], .row ((nums b).take (k + 1)).length 1, .row ((nums b).take (k)).length 1], [.box [.sl none (ints .i64 (((nums b).take (k)).map (·.1))) (.own 2)], .box [.sl none (ints .i64 (((nums b).take (k)).map (·.2))) (.own 3)], .row ((nums b).take (k + 1)).length 1, .row ((nums b).take (k)).length 1])] (by rfl) (by kernel_rfl) (rs := [17]) (by rfl) (by first | (simp only [nf, Nat.beq] <;> rfl) | rfl) (fun base => ⟨
        ⟨rfl, rfl, by
          refine n_lit rfl Try.underlying122 ti3 zi3 rfl rfl (Eq.trans (by simp only [nl] <;> rfl) (by first | (simp only [nf, Nat.beq] <;> rfl) | rfl)) rfl (by first | (simp only [nf, Nat.beq] <;> rfl) | rfl) ?_
          exact AOps.nil ⟨rfl, rfl, rfl⟩⟩,
        ⟨rfl, rfl, by
          refine n_lit rfl Try.underlying122 ti3 zi3 rfl rfl (Eq.trans (by simp only [nl] <;> rfl) (by first | (simp only [nf, Nat.beq] <;> rfl) | rfl)) rfl (by first | (simp only [nf, Nat.beq] <;> rfl) | rfl) ?_
          exact AOps.nil ⟨rfl, rfl, rfl⟩⟩,
        trivial⟩) ?_
    refine Walk.cases [([true, false, false, false], [.box [.sl none (ints .i64 (((nums b).take (k)).map (·.1))) (.own 2)], .box [.sl none (ints .i64 (((nums b).take (k)).map (·.2))) (.own 3)], .row ((nums b).take (k + 1)).length 1, .row ((nums b).take (k)).length 1], [.box [.sl none (ints .i64 (((nums b).take (k)).map (·.1))) (.own 2)], .box [.sl none (ints .i64 (((nums b).take (k)).map (·.2))) (.own 3)], .row ((nums b).take (k + 1)).length 1, .row ((nums b).take (k + 1)).length 1])] (by rfl) (by kernel_rfl) (rs := [16, 18]) (by rfl) (by first | (simp only [nf, Nat.beq] <;> rfl) | rfl) (fun base => ⟨
        ⟨rfl, rfl, by
          refine n_append_own (zs := ints .i64 (((nums b).take (k + 1)).map (·.2))) (m := ((nums b).take (k + 1)).length) rfl Try.underlying122 Try.underlying122 ei3 (by first | (simp only [nf, Nat.beq] <;> rfl) | rfl) (by first | (simp only [nf, Nat.beq] <;> rfl) | rfl) (by rw [ints_length, List.length_map]) (by first | (simp only [nf, Nat.beq] <;> rfl) | rfl) (by exact ints_one _ _) (by exact one_one1 rfl) (by rw [ints_take2 hp]; exact ints_snoc _ _ _) (by rw [ints_length, List.length_map, List.length_take, List.length_take]; simp only [List.length_cons, List.length_nil]; omega) (by simp only [List.length_take]; omega) (by first | (simp only [nf, Nat.beq] <;> rfl) | rfl) ?_
          exact AOps.nil ⟨rfl, rfl, rfl⟩⟩,
        trivial⟩) ?_
    refine Walk.cases (d := .any) [([true, true, false, false], [.box [.sl none (ints .i64 (((nums b).take (k)).map (·.1))) (.own 2)], .box [.sl none (ints .i64 (((nums b).take (k)).map (·.2))) (.own 3)], .row ((nums b).take (k + 1)).length 1, .row ((nums b).take (k + 1)).length 1], [.box [.sl none (ints .i64 (((nums b).take (k + 1)).map (·.1))) (.own 2)], .box [.sl none (ints .i64 (((nums b).take (k)).map (·.2))) (.own 3)], .row ((nums b).take (k + 1)).length 1, .row ((nums b).take (k + 1)).length 1])] (by rfl) (by kernel_rfl) (rs := [4, 15]) (by rfl) (by first | (simp only [nf, Nat.beq] <;> rfl) | rfl) (fun base => ⟨
        ⟨rfl, rfl, by
          refine n_store ti77 (by first | (simp only [nf, Nat.beq] <;> rfl) | rfl) rfl (by first | (simp only [nf, Nat.beq] <;> rfl) | rfl) rfl (by first | (simp only [nf, Nat.beq] <;> rfl) | rfl) rfl rfl rfl (by first | (simp only [nf, Nat.beq] <;> rfl) | rfl) ?_
          exact AOps.nil ⟨rfl, rfl, rfl⟩⟩,
        trivial⟩) ?_
    refine Walk.cases (d := .any) [([true, true, true, false], [.box [.sl none (ints .i64 (((nums b).take (k + 1)).map (·.1))) (.own 2)], .box [.sl none (ints .i64 (((nums b).take (k)).map (·.2))) (.own 3)], .row ((nums b).take (k + 1)).length 1, .row ((nums b).take (k + 1)).length 1], [.box [.sl none (ints .i64 (((nums b).take (k + 1)).map (·.1))) (.own 2)], .box [.sl none (ints .i64 (((nums b).take (k + 1)).map (·.2))) (.own 3)], .row ((nums b).take (k + 1)).length 1, .row ((nums b).take (k + 1)).length 1])] (by rfl) (by kernel_rfl) (rs := [5, 19]) (by rfl) (by first | (simp only [nf, Nat.beq] <;> rfl) | rfl) (fun base => ⟨
        ⟨rfl, rfl, by
          refine n_store ti122 (by first | (simp only [nf, Nat.beq] <;> rfl) | rfl) rfl (by first | (simp only [nf, Nat.beq] <;> rfl) | rfl) rfl (by first | (simp only [nf, Nat.beq] <;> rfl) | rfl) rfl rfl rfl (by first | (simp only [nf, Nat.beq] <;> rfl) | rfl) ?_
          exact AOps.nil ⟨rfl, rfl, rfl⟩⟩,
        trivial⟩) ?_
    refine Walk.done ?_
    exact ⟨[], rfl⟩
  · rw [List.length_map]
    try dsimp only
    rw [List.take_length]
    refine AWP.seq ?_
    refine AWP.anyStill (by kernel_rfl) (by kernel_rfl) ?_
    refine Walk.still (rs := [4]) (by rfl) (by first | (simp only [nf, Nat.beq] <;> rfl) | rfl) (fun base => by
        refine n_load rfl ti77 (by first | (simp only [nf, Nat.beq] <;> rfl) | rfl) (by first | (simp only [nf, Nat.beq] <;> rfl) | rfl) rfl (by first | (simp only [nf, Nat.beq] <;> rfl) | rfl) ?_
        exact AOps.nil ⟨rfl, rfl, rfl⟩) ?_
    refine Walk.still (rs := [5]) (by rfl) (by first | (simp only [nf, Nat.beq] <;> rfl) | rfl) (fun base => by
        refine n_load rfl ti122 (by first | (simp only [nf, Nat.beq] <;> rfl) | rfl) (by first | (simp only [nf, Nat.beq] <;> rfl) | rfl) rfl (by first | (simp only [nf, Nat.beq] <;> rfl) | rfl) ?_
        exact AOps.nil ⟨rfl, rfl, rfl⟩) ?_
    refine Walk.still (rs := [20]) (by rfl) (by first | (simp only [nf, Nat.beq] <;> rfl) | rfl) (fun base => by
        refine n_assign rfl (by first | (simp only [nf, Nat.beq] <;> rfl) | rfl) ?_
        exact AOps.nil ⟨rfl, rfl, rfl⟩) ?_
    refine Walk.still (rs := [21]) (by rfl) (by first | (simp only [nf, Nat.beq] <;> rfl) | rfl) (fun base => by
        refine n_assign rfl (by first | (simp only [nf, Nat.beq] <;> rfl) | rfl) ?_
        exact AOps.nil ⟨rfl, rfl, rfl⟩) ?_
    refine Walk.done ?_
    refine AWP.ret ?_
    refine fin_pure (.cons (rv_tmp (by first | (simp only [nf, Nat.beq] <;> rfl) | rfl)) (.cons (rv_tmp (by first | (simp only [nf, Nat.beq] <;> rfl) | rfl)) .nil)) (by first | (simp only [nf, Nat.beq] <;> rfl) | rfl) ?_
    exact .tup rfl (ren_two (by exact ren_ints) (by exact ren_ints))
  · intro c S' h
    exact h.elim

set_option maxHeartbeats 2000000 in
theorem r_numbers (b : List Int) (hb : Byt b) (hl : L40 b) : Does Try.prog 105 [bys b] [] (.tup [.sl none (ints .i64 ((nums b).map (·.1))) .ro, .sl none (ints .i64 ((nums b).map (·.2))) .ro]) [] := by
  refine Does.of_body (rvs := [.tmp 2, .tmp 3]) Try.func105 rfl rfl rfl rfl ?_
  refine AWP.seq ?_
  refine AWP.region ?_
  refine n_assign rfl (by first | (simp only [nf, Nat.beq] <;> rfl) | rfl) ?_
  refine n_assign rfl (by first | (simp only [nf, Nat.beq] <;> rfl) | rfl) ?_
  refine AOps.nil ?_
  refine AWP.seq ?_
  refine AWP.region ?_
  refine n_assign rfl (by first | (simp only [nf, Nat.beq] <;> rfl) | rfl) ?_
  refine AOps.nil ?_
  refine AWP.seq ?_
  refine AWP.region ?_
  refine n_assign rfl (by first | (simp only [nf, Nat.beq] <;> rfl) | rfl) ?_
  refine AOps.nil ?_
  refine AWP.seq ?_
  refine AWP.adopt (t := 4) (m := 0) (S' := [.row 0 1]) (by rfl) rfl rfl rfl ?_
  refine AWP.adopt (t := 5) (m := 0) (S' := [.row 0 1, .row 0 1]) (by rfl) rfl rfl rfl ?_
  refine AWP.region ?_
  refine n_assign rfl (by first | (simp only [nf, Nat.beq] <;> rfl) | rfl) ?_
  refine AOps.nil ?_
  refine AWP.block ?_
  refine AWP.loop (α := List NP × Nat × Nat) (fun s => NS b s.1 s.2.1 s.2.2) (fun s => put (put (put (put empty 0 (bys b)) 4 (.sl none (ints .i64 (s.1.map (·.1))) (.own 0))) 5 (.sl none (ints .i64 (s.1.map (·.2))) (.own 1))) 6 (vi (s.2.1 : Int))) (fun s => [.row s.1.length 1, .row s.1.length 1]) (fun s => s.2.2) ([], 0, b.length + 1) ?_ ?_ ?_ ?_
  · exact NS.start b
  · (repeat (first | exact FLe.empty _ | refine FLe.put ?_ ?_)) <;> first | (simp only [nf, Nat.beq]; done) | rfl | (try simp only [nf, Nat.beq]; first | rfl | (simp only [ints_length]; done) | (congr 2; omega))
  · rfl
  · rintro ⟨pre, p, f⟩ hs
    dsimp only at hs ⊢
    have hle := hs.le
    have hfu := hs.fuel
    have hcn := hs.cnt
    have hf := r_first (b.drop p) (hb.drop p) (by simp only [L40, List.length_drop] at *; omega)
    refine AWP.block ?_
    refine AWP.seq ?_
    refine AWP.region ?_
    refine n_move rfl (by first | (simp only [nf, Nat.beq] <;> rfl) | rfl) ?_
    refine n_move rfl (by first | (simp only [nf, Nat.beq] <;> rfl) | rfl) ?_
    refine n_slice rfl Try.underlying22 ti5 (by first | (simp only [nf, Nat.beq] <;> rfl) | rfl) SB.none (SB.some (by first | (simp only [nf, Nat.beq] <;> rfl) | rfl) (by first | rfl | omega)) (by first | omega | (simp only [ints_length]; omega)) (by first | omega | (simp only [ints_length]; omega) | exact Nat.le_refl _) (ints_one _ _) (by first | (simp only [ints_take, ints_drop, List.take_length, ints_length, List.drop_zero] <;> rfl) | rfl) ?_
    refine n_call0B rfl cf104 rfl (Eq.trans (by simp only [nl] <;> rfl) (by first | (simp only [nf, Nat.beq] <;> rfl) | rfl)) (by repeat (first | exact .nil | refine .cons ?_ ?_ | exact ren_ints | exact .lf (.val _) | exact .lf (lf_ints (.inl rfl)) | exact .bp ⟨rfl, rfl⟩ | exact .bp (.inl ⟨rfl, rfl⟩) | exact .bp (.inr ⟨rfl, rfl⟩) | exact .lf (D.flat_lf rfl) | exact ren_lits rfl | exact ren_ints | exact .lf (lf_fnrp' lf_bys))) (hf) (by first | exact .val _ | exact lf_ints (.inl rfl) | exact lf_ints (.inr rfl) | exact .any | exact D.flat_lf rfl | exact .tup (lf_cons (lf_ints (.inl rfl)) (lf_cons (.val _) lf_nil)) | exact lf_fnrp' lf_bys | exact lf_ints (.inl rfl) | exact .tup (lf_cons (lf_ints (.inl rfl)) (lf_cons (lf_ints (.inl rfl)) lf_nil))) ?_
    refine n_move rfl (by first | (simp only [nf, Nat.beq] <;> rfl) | rfl) ?_
    refine n_extract rfl (by first | (simp only [nf, Nat.beq] <;> rfl) | rfl) rfl ?_
    refine n_extract rfl (by first | (simp only [nf, Nat.beq] <;> rfl) | rfl) rfl ?_
    refine n_extract rfl (by first | (simp only [nf, Nat.beq] <;> rfl) | rfl) rfl ?_
    refine n_assign rfl (by first | (simp only [nf, Nat.beq] <;> rfl) | rfl) ?_
    refine n_assign rfl (by first | (simp only [nf, Nat.beq] <;> rfl) | rfl) ?_
    refine n_assign rfl (by first | (simp only [nf, Nat.beq] <;> rfl) | rfl) ?_
    refine AOps.nil ?_
    refine AWP.seq ?_
    refine AWP.seq ?_
    refine AWP.region ?_
    refine n_move rfl (by first | (simp only [nf, Nat.beq] <;> rfl) | rfl) ?_
    refine n_ibin rfl (by first | (simp only [nf, Nat.beq] <;> rfl) | rfl) (by first | (simp only [nf, Nat.beq] <;> rfl) | rfl) rfl ?_
    refine AOps.nil ?_
    refine AWP.cond (by first | (simp only [nf, Nat.beq] <;> rfl) | rfl) (fun hc1 => ?_) (fun hc1 => ?_)
    · try simp only [nh] at hc1
      have hfin := hs.stop hc1
      refine AWP.seq ?_
      refine AWP.region ?_
      refine n_move rfl (by first | (simp only [nf, Nat.beq] <;> rfl) | rfl) ?_
      refine n_move rfl (by first | (simp only [nf, Nat.beq] <;> rfl) | rfl) ?_
      refine n_assign rfl (by first | (simp only [nf, Nat.beq] <;> rfl) | rfl) ?_
      refine n_assign rfl (by first | (simp only [nf, Nat.beq] <;> rfl) | rfl) ?_
      refine AOps.nil ?_
      refine AWP.ret ?_
      refine fin_pure (.cons (rv_tmp (by first | (simp only [nf, Nat.beq] <;> rfl) | rfl)) (.cons (rv_tmp (by first | (simp only [nf, Nat.beq] <;> rfl) | rfl)) .nil)) (by first | (simp only [nf, Nat.beq] <;> rfl) | rfl) ?_
      rw [hfin]; exact .tup rfl (ren_two (by exact ren_ints) (by exact ren_ints))
    · try simp only [nh] at hc1
      have he0 : (firstP (b.drop p)).2.2 = 0 := by simpa using hc1
      have hnx := hs.next hb he0
      have hbd := firstP_bd he0
      rw [List.length_drop] at hbd
      refine AWP.skip ?_
      refine AWP.seq ?_
      refine AWP.region ?_
      refine n_move rfl (by first | (simp only [nf, Nat.beq] <;> rfl) | rfl) ?_
      refine n_move rfl (by first | (simp only [nf, Nat.beq] <;> rfl) | rfl) ?_
      first | refine n_iadd rfl (by first | (simp only [nf, Nat.beq] <;> rfl) | rfl) (by first | (simp only [nf, Nat.beq] <;> rfl) | rfl) rfl (by omega) (by omega) ?_ | refine n_ibin rfl (by first | (simp only [nf, Nat.beq] <;> rfl) | rfl) (by first | (simp only [nf, Nat.beq] <;> rfl) | rfl) rfl ?_
      refine n_assign rfl (by first | (simp only [nf, Nat.beq] <;> rfl) | rfl) ?_
      refine AOps.nil ?_
      refine AWP.seq ?_
      refine AWP.region ?_
      refine n_move rfl (by first | (simp only [nf, Nat.beq] <;> rfl) | rfl) ?_
      refine n_move rfl (by first | (simp only [nf, Nat.beq] <;> rfl) | rfl) ?_
      refine n_lit rfl Try.underlying77 ti2 zi2 rfl rfl (Eq.trans (by simp only [nl] <;> rfl) (by first | (simp only [nf, Nat.beq] <;> rfl) | rfl)) rfl (by first | (simp only [nf, Nat.beq] <;> rfl) | rfl) ?_
      refine n_append_own (zs := ints .i64 ((pre ++ [((firstP (b.drop p)).1, ((p + (firstP (b.drop p)).2.1 : Nat) : Int))]).map (·.1))) (m := pre.length + 1) rfl Try.underlying77 Try.underlying77 ei2 (by first | (simp only [nf, Nat.beq] <;> rfl) | rfl) (by first | (simp only [nf, Nat.beq] <;> rfl) | rfl) (by rw [ints_length, List.length_map]) (by first | (simp only [nf, Nat.beq] <;> rfl) | rfl) (by exact ints_one _ _) (by exact one_one1 rfl) (by rw [List.map_append]; exact ints_snoc _ _ _) (by rw [ints_length, List.length_map]; rfl) (by omega) (by first | (simp only [nf, Nat.beq] <;> rfl) | rfl) ?_
      refine n_assign rfl (by first | (simp only [nf, Nat.beq] <;> rfl) | rfl) ?_
      refine AOps.nil ?_
      refine AWP.region ?_
      refine n_move rfl (by first | (simp only [nf, Nat.beq] <;> rfl) | rfl) ?_
      refine n_move rfl (by first | (simp only [nf, Nat.beq] <;> rfl) | rfl) ?_
      refine n_lit rfl Try.underlying122 ti3 zi3 rfl rfl (Eq.trans (by simp only [nl] <;> rfl) (by first | (simp only [nf, Nat.beq] <;> rfl) | rfl)) rfl (by first | (simp only [nf, Nat.beq] <;> rfl) | rfl) ?_
      refine n_append_own (zs := ints .i64 ((pre ++ [((firstP (b.drop p)).1, ((p + (firstP (b.drop p)).2.1 : Nat) : Int))]).map (·.2))) (m := pre.length + 1) rfl Try.underlying122 Try.underlying122 ei3 (by first | (simp only [nf, Nat.beq] <;> rfl) | rfl) (by first | (simp only [nf, Nat.beq] <;> rfl) | rfl) (by rw [ints_length, List.length_map]) (by first | (simp only [nf, Nat.beq] <;> rfl) | rfl) (by exact ints_one _ _) (by exact one_one1 rfl) (by rw [List.map_append]; exact ints_snoc _ _ _) (by rw [ints_length, List.length_map]; rfl) (by omega) (by first | (simp only [nf, Nat.beq] <;> rfl) | rfl) ?_
      refine n_assign rfl (by first | (simp only [nf, Nat.beq] <;> rfl) | rfl) ?_
      refine AOps.nil ?_
      refine ⟨(_, _, _), hnx.1, ?_, ?_, by dsimp only; omega⟩
      · (repeat (first | exact FLe.empty _ | refine FLe.put ?_ ?_)) <;> first | (simp only [nf, Nat.beq]; done) | rfl | (try simp only [nf, Nat.beq]; first | rfl | (congr 2; omega; done))
      · simp

set_option maxHeartbeats 2000000 in
theorem First_calls (b : List Int) (hb : Byt b) (hl : L40 b) : Does Try.prog 19 [bys b] [] (vb true) [] := by
  refine Does.of_body (rvs := [.tmp 2]) Try.func19 rfl rfl rfl rfl ?_
  have hnl := nums_len b
  have h1 := eq_i64 ((nums b).map (·.1)) (by rw [List.length_map]; omega)
  have h2 := eq_int ((nums b).map (·.2)) (by rw [List.length_map]; omega)
  refine AWP.seq ?_
  refine AWP.region ?_
  refine n_assign rfl (by first | (simp only [nf, Nat.beq] <;> rfl) | rfl) ?_
  refine AOps.nil ?_
  refine AWP.seq ?_
  refine AWP.seq ?_
  refine AWP.region ?_
  refine n_call0B rfl cf72 rfl (Eq.trans (by simp only [nl] <;> rfl) (by first | (simp only [nf, Nat.beq] <;> rfl) | rfl)) (by repeat (first | exact .nil | refine .cons ?_ ?_ | exact ren_ints | exact .lf (.val _) | exact .lf (lf_ints (.inl rfl)) | exact .bp ⟨rfl, rfl⟩ | exact .bp (.inl ⟨rfl, rfl⟩) | exact .bp (.inr ⟨rfl, rfl⟩) | exact .lf (D.flat_lf rfl) | exact ren_lits rfl | exact ren_ints | exact .lf (lf_fnrp' lf_bys))) (Pl.live) (by first | exact .val _ | exact lf_ints (.inl rfl) | exact lf_ints (.inr rfl) | exact .any | exact D.flat_lf rfl | exact .tup (lf_cons (lf_ints (.inl rfl)) (lf_cons (.val _) lf_nil)) | exact lf_fnrp' lf_bys | exact lf_ints (.inl rfl) | exact .tup (lf_cons (lf_ints (.inl rfl)) (lf_cons (lf_ints (.inl rfl)) lf_nil))) ?_
  refine n_not rfl (by first | (simp only [nf, Nat.beq] <;> rfl) | rfl) rfl ?_
  refine AOps.nil ?_
  refine AWP.cond_false (by first | (simp only [nf, Nat.beq] <;> rfl) | rfl) ?_
  refine AWP.skip ?_
  refine AWP.seq ?_
  refine AWP.region ?_
  refine n_move rfl (by first | (simp only [nf, Nat.beq] <;> rfl) | rfl) ?_
  refine n_call0B rfl cf103 rfl (Eq.trans (by simp only [nl] <;> rfl) (by first | (simp only [nf, Nat.beq] <;> rfl) | rfl)) (by repeat (first | exact .nil | refine .cons ?_ ?_ | exact ren_ints | exact .lf (.val _) | exact .lf (lf_ints (.inl rfl)) | exact .bp ⟨rfl, rfl⟩ | exact .bp (.inl ⟨rfl, rfl⟩) | exact .bp (.inr ⟨rfl, rfl⟩) | exact .lf (D.flat_lf rfl) | exact ren_lits rfl | exact ren_ints | exact .lf (lf_fnrp' lf_bys))) (p_first _ (by assumption) (by assumption)) (by first | exact .val _ | exact lf_ints (.inl rfl) | exact lf_ints (.inr rfl) | exact .any | exact D.flat_lf rfl | exact .tup (lf_cons (lf_ints (.inl rfl)) (lf_cons (.val _) lf_nil)) | exact lf_fnrp' lf_bys | exact lf_ints (.inl rfl) | exact .tup (lf_cons (lf_ints (.inl rfl)) (lf_cons (lf_ints (.inl rfl)) lf_nil))) ?_
  refine n_move rfl (by first | (simp only [nf, Nat.beq] <;> rfl) | rfl) ?_
  refine n_extract rfl (by first | (simp only [nf, Nat.beq] <;> rfl) | rfl) rfl ?_
  refine n_extract rfl (by first | (simp only [nf, Nat.beq] <;> rfl) | rfl) rfl ?_
  refine n_extract rfl (by first | (simp only [nf, Nat.beq] <;> rfl) | rfl) rfl ?_
  refine n_assign rfl (by first | (simp only [nf, Nat.beq] <;> rfl) | rfl) ?_
  refine n_assign rfl (by first | (simp only [nf, Nat.beq] <;> rfl) | rfl) ?_
  refine n_assign rfl (by first | (simp only [nf, Nat.beq] <;> rfl) | rfl) ?_
  refine AOps.nil ?_
  refine AWP.seq ?_
  refine AWP.region ?_
  refine n_move rfl (by first | (simp only [nf, Nat.beq] <;> rfl) | rfl) ?_
  refine n_call0B rfl cf104 rfl (Eq.trans (by simp only [nl] <;> rfl) (by first | (simp only [nf, Nat.beq] <;> rfl) | rfl)) (by repeat (first | exact .nil | refine .cons ?_ ?_ | exact ren_ints | exact .lf (.val _) | exact .lf (lf_ints (.inl rfl)) | exact .bp ⟨rfl, rfl⟩ | exact .bp (.inl ⟨rfl, rfl⟩) | exact .bp (.inr ⟨rfl, rfl⟩) | exact .lf (D.flat_lf rfl) | exact ren_lits rfl | exact ren_ints | exact .lf (lf_fnrp' lf_bys))) (r_first _ (by assumption) (by assumption)) (by first | exact .val _ | exact lf_ints (.inl rfl) | exact lf_ints (.inr rfl) | exact .any | exact D.flat_lf rfl | exact .tup (lf_cons (lf_ints (.inl rfl)) (lf_cons (.val _) lf_nil)) | exact lf_fnrp' lf_bys | exact lf_ints (.inl rfl) | exact .tup (lf_cons (lf_ints (.inl rfl)) (lf_cons (lf_ints (.inl rfl)) lf_nil))) ?_
  refine n_move rfl (by first | (simp only [nf, Nat.beq] <;> rfl) | rfl) ?_
  refine n_extract rfl (by first | (simp only [nf, Nat.beq] <;> rfl) | rfl) rfl ?_
  refine n_extract rfl (by first | (simp only [nf, Nat.beq] <;> rfl) | rfl) rfl ?_
  refine n_extract rfl (by first | (simp only [nf, Nat.beq] <;> rfl) | rfl) rfl ?_
  refine n_assign rfl (by first | (simp only [nf, Nat.beq] <;> rfl) | rfl) ?_
  refine n_assign rfl (by first | (simp only [nf, Nat.beq] <;> rfl) | rfl) ?_
  refine n_assign rfl (by first | (simp only [nf, Nat.beq] <;> rfl) | rfl) ?_
  refine AOps.nil ?_
  refine AWP.seq ?_
  refine AWP.region ?_
  refine n_move rfl (by first | (simp only [nf, Nat.beq] <;> rfl) | rfl) ?_
  refine n_call0B rfl cf100 rfl (Eq.trans (by simp only [nl] <;> rfl) (by first | (simp only [nf, Nat.beq] <;> rfl) | rfl)) (by repeat (first | exact .nil | refine .cons ?_ ?_ | exact ren_ints | exact .lf (.val _) | exact .lf (lf_ints (.inl rfl)) | exact .bp ⟨rfl, rfl⟩ | exact .bp (.inl ⟨rfl, rfl⟩) | exact .bp (.inr ⟨rfl, rfl⟩) | exact .lf (D.flat_lf rfl) | exact ren_lits rfl | exact ren_ints | exact .lf (lf_fnrp' lf_bys))) (numbers _ (by assumption) (by assumption)) (by first | exact .val _ | exact lf_ints (.inl rfl) | exact lf_ints (.inr rfl) | exact .any | exact D.flat_lf rfl | exact .tup (lf_cons (lf_ints (.inl rfl)) (lf_cons (.val _) lf_nil)) | exact lf_fnrp' lf_bys | exact lf_ints (.inl rfl) | exact .tup (lf_cons (lf_ints (.inl rfl)) (lf_cons (lf_ints (.inl rfl)) lf_nil))) ?_
  refine n_move rfl (by first | (simp only [nf, Nat.beq] <;> rfl) | rfl) ?_
  refine n_extract rfl (by first | (simp only [nf, Nat.beq] <;> rfl) | rfl) rfl ?_
  refine n_extract rfl (by first | (simp only [nf, Nat.beq] <;> rfl) | rfl) rfl ?_
  refine n_assign rfl (by first | (simp only [nf, Nat.beq] <;> rfl) | rfl) ?_
  refine n_assign rfl (by first | (simp only [nf, Nat.beq] <;> rfl) | rfl) ?_
  refine AOps.nil ?_
  refine AWP.seq ?_
  refine AWP.region ?_
  refine n_move rfl (by first | (simp only [nf, Nat.beq] <;> rfl) | rfl) ?_
  refine n_call0B rfl cf105 rfl (Eq.trans (by simp only [nl] <;> rfl) (by first | (simp only [nf, Nat.beq] <;> rfl) | rfl)) (by repeat (first | exact .nil | refine .cons ?_ ?_ | exact ren_ints | exact .lf (.val _) | exact .lf (lf_ints (.inl rfl)) | exact .bp ⟨rfl, rfl⟩ | exact .bp (.inl ⟨rfl, rfl⟩) | exact .bp (.inr ⟨rfl, rfl⟩) | exact .lf (D.flat_lf rfl) | exact ren_lits rfl | exact ren_ints | exact .lf (lf_fnrp' lf_bys))) (r_numbers _ (by assumption) (by assumption)) (by first | exact .val _ | exact lf_ints (.inl rfl) | exact lf_ints (.inr rfl) | exact .any | exact D.flat_lf rfl | exact .tup (lf_cons (lf_ints (.inl rfl)) (lf_cons (.val _) lf_nil)) | exact lf_fnrp' lf_bys | exact lf_ints (.inl rfl) | exact .tup (lf_cons (lf_ints (.inl rfl)) (lf_cons (lf_ints (.inl rfl)) lf_nil))) ?_
  refine n_move rfl (by first | (simp only [nf, Nat.beq] <;> rfl) | rfl) ?_
  refine n_extract rfl (by first | (simp only [nf, Nat.beq] <;> rfl) | rfl) rfl ?_
  refine n_extract rfl (by first | (simp only [nf, Nat.beq] <;> rfl) | rfl) rfl ?_
  refine n_assign rfl (by first | (simp only [nf, Nat.beq] <;> rfl) | rfl) ?_
  refine n_assign rfl (by first | (simp only [nf, Nat.beq] <;> rfl) | rfl) ?_
  refine AOps.nil ?_
  refine AWP.seq ?_
  refine AWP.region ?_
  refine n_move rfl (by first | (simp only [nf, Nat.beq] <;> rfl) | rfl) ?_
  refine n_move rfl (by first | (simp only [nf, Nat.beq] <;> rfl) | rfl) ?_
  refine n_ibin rfl (by first | (simp only [nf, Nat.beq] <;> rfl) | rfl) (by first | (simp only [nf, Nat.beq] <;> rfl) | rfl) rfl ?_
  refine n_move rfl (by first | (simp only [nf, Nat.beq] <;> rfl) | rfl) ?_
  refine AOps.name (u := 40) (fun z => .val (.bool z)) (by first | (simp only [nf, Nat.beq] <;> rfl) | rfl) (fun b40 hb40 => ?_)
  refine n_soft (u := 40) (E := .val (.bool b40)) (b40) rfl rfl rfl (by first | (simp only [nf, Nat.beq] <;> rfl) | rfl) (by cases b40 <;> first | (intro _; rfl) | (intro h; exact absurd h (by decide))) (by cases b40 <;> first | (intro h; exact absurd h (by decide)) | (intro _; exact ⟨_, rfl, by first | (intro h; cases h; done) | decide | simp⟩)) (fun h => by
      cases b40 with
      | false => exact absurd h (by first | decide | simp)
      | true =>
        refine n_move rfl (by first | (simp only [nf, Nat.beq] <;> rfl) | rfl) ?_
        exact AOps.nil ⟨rfl, rfl, rfl⟩) ?_
  refine n_soft (u := 40) (E := .val (.bool b40)) (b40) rfl rfl rfl (by first | (simp only [nf, Nat.beq] <;> rfl) | rfl) (by cases b40 <;> first | (intro _; rfl) | (intro h; exact absurd h (by decide))) (by cases b40 <;> first | (intro h; exact absurd h (by decide)) | (intro _; exact ⟨_, rfl, by first | (intro h; cases h; done) | decide | simp⟩)) (fun h => by
      cases b40 with
      | false => exact absurd h (by first | decide | simp)
      | true =>
        refine n_move rfl (by first | (simp only [nf, Nat.beq] <;> rfl) | rfl) ?_
        exact AOps.nil ⟨rfl, rfl, rfl⟩) ?_
  refine n_soft (u := 40) (E := .val (.bool b40)) (b40) rfl rfl rfl (by first | (simp only [nf, Nat.beq] <;> rfl) | rfl) (by cases b40 <;> first | (intro _; rfl) | (intro h; exact absurd h (by decide))) (by cases b40 <;> first | (intro h; exact absurd h (by decide)) | (intro _; exact ⟨_, rfl, by first | (intro h; cases h; done) | decide | simp⟩)) (fun h => by
      cases b40 with
      | false => exact absurd h (by first | decide | simp)
      | true =>
        refine n_ibin rfl (by first | (simp only [nf, Nat.beq] <;> rfl) | rfl) (by first | (simp only [nf, Nat.beq] <;> rfl) | rfl) rfl ?_
        exact AOps.nil ⟨rfl, rfl, rfl⟩) ?_
  refine n_pick_and rfl (by first | (simp only [nf, Nat.beq] <;> rfl) | rfl) (fun h => by cases b40 with | false => exact absurd h (by decide) | true => exact (by first | (simp only [nf, Nat.beq] <;> rfl) | rfl)) ?_
  refine n_move rfl (by first | (simp only [nf, Nat.beq] <;> rfl) | rfl) ?_
  refine AOps.name (u := 45) (fun z => .val (.bool z)) (by first | (simp only [nf, Nat.beq] <;> rfl) | rfl) (fun b45 hb45 => ?_)
  refine n_soft (u := 45) (E := .val (.bool b45)) (b45) rfl rfl rfl (by first | (simp only [nf, Nat.beq] <;> rfl) | rfl) (by cases b45 <;> first | (intro _; rfl) | (intro h; exact absurd h (by decide))) (by cases b45 <;> first | (intro h; exact absurd h (by decide)) | (intro _; exact ⟨_, rfl, by first | (intro h; cases h; done) | decide | simp⟩)) (fun h => by
      cases b45 with
      | false => exact absurd h (by first | decide | simp)
      | true =>
        refine n_move rfl (by first | (simp only [nf, Nat.beq] <;> rfl) | rfl) ?_
        exact AOps.nil ⟨rfl, rfl, rfl⟩) ?_
  refine n_soft (u := 45) (E := .val (.bool b45)) (b45) rfl rfl rfl (by first | (simp only [nf, Nat.beq] <;> rfl) | rfl) (by cases b45 <;> first | (intro _; rfl) | (intro h; exact absurd h (by decide))) (by cases b45 <;> first | (intro h; exact absurd h (by decide)) | (intro _; exact ⟨_, rfl, by first | (intro h; cases h; done) | decide | simp⟩)) (fun h => by
      cases b45 with
      | false => exact absurd h (by first | decide | simp)
      | true =>
        refine n_move rfl (by first | (simp only [nf, Nat.beq] <;> rfl) | rfl) ?_
        exact AOps.nil ⟨rfl, rfl, rfl⟩) ?_
  refine n_soft (u := 45) (E := .val (.bool b45)) (b45) rfl rfl rfl (by first | (simp only [nf, Nat.beq] <;> rfl) | rfl) (by cases b45 <;> first | (intro _; rfl) | (intro h; exact absurd h (by decide))) (by cases b45 <;> first | (intro h; exact absurd h (by decide)) | (intro _; exact ⟨_, rfl, by first | (intro h; cases h; done) | decide | simp⟩)) (fun h => by
      cases b45 with
      | false => exact absurd h (by first | decide | simp)
      | true =>
        refine n_ibin rfl (by first | (simp only [nf, Nat.beq] <;> rfl) | rfl) (by first | (simp only [nf, Nat.beq] <;> rfl) | rfl) rfl ?_
        exact AOps.nil ⟨rfl, rfl, rfl⟩) ?_
  refine n_pick_and rfl (by first | (simp only [nf, Nat.beq] <;> rfl) | rfl) (fun h => by cases b45 with | false => exact absurd h (by decide) | true => exact (by first | (simp only [nf, Nat.beq] <;> rfl) | rfl)) ?_
  refine n_move rfl (by first | (simp only [nf, Nat.beq] <;> rfl) | rfl) ?_
  refine AOps.name (u := 50) (fun z => .val (.bool z)) (by first | (simp only [nf, Nat.beq] <;> rfl) | rfl) (fun b50 hb50 => ?_)
  refine n_soft (u := 50) (E := .val (.bool b50)) (b50) rfl rfl rfl (by first | (simp only [nf, Nat.beq] <;> rfl) | rfl) (by cases b50 <;> first | (intro _; rfl) | (intro h; exact absurd h (by decide))) (by cases b50 <;> first | (intro h; exact absurd h (by decide)) | (intro _; exact ⟨_, rfl, by first | (intro h; cases h; done) | decide | simp⟩)) (fun h => by
      cases b50 with
      | false => exact absurd h (by first | decide | simp)
      | true =>
        refine n_move rfl (by first | (simp only [nf, Nat.beq] <;> rfl) | rfl) ?_
        exact AOps.nil ⟨rfl, rfl, rfl⟩) ?_
  refine n_soft (u := 50) (E := .val (.bool b50)) (b50) rfl rfl rfl (by first | (simp only [nf, Nat.beq] <;> rfl) | rfl) (by cases b50 <;> first | (intro _; rfl) | (intro h; exact absurd h (by decide))) (by cases b50 <;> first | (intro h; exact absurd h (by decide)) | (intro _; exact ⟨_, rfl, by first | (intro h; cases h; done) | decide | simp⟩)) (fun h => by
      cases b50 with
      | false => exact absurd h (by first | decide | simp)
      | true =>
        refine n_move rfl (by first | (simp only [nf, Nat.beq] <;> rfl) | rfl) ?_
        exact AOps.nil ⟨rfl, rfl, rfl⟩) ?_
  refine n_soft (u := 50) (E := .val (.bool b50)) (b50) rfl rfl rfl (by first | (simp only [nf, Nat.beq] <;> rfl) | rfl) (by cases b50 <;> first | (intro _; rfl) | (intro h; exact absurd h (by decide))) (by cases b50 <;> first | (intro h; exact absurd h (by decide)) | (intro _; exact ⟨_, rfl, by first | (intro h; cases h; done) | decide | simp⟩)) (fun h => by
      cases b50 with
      | false => exact absurd h (by first | decide | simp)
      | true =>
        refine n_call0B rfl cf106 rfl (Eq.trans (by simp only [nl] <;> rfl) (by first | (simp only [nf, Nat.beq] <;> rfl) | rfl)) (by repeat (first | exact .nil | refine .cons ?_ ?_ | exact ren_ints | exact .lf (.val _) | exact .lf (lf_ints (.inl rfl)) | exact .bp ⟨rfl, rfl⟩ | exact .bp (.inl ⟨rfl, rfl⟩) | exact .bp (.inr ⟨rfl, rfl⟩) | exact .lf (D.flat_lf rfl) | exact ren_lits rfl | exact ren_ints | exact .lf (lf_fnrp' lf_bys))) (h1) (by first | exact .val _ | exact lf_ints (.inl rfl) | exact lf_ints (.inr rfl) | exact .any | exact D.flat_lf rfl | exact .tup (lf_cons (lf_ints (.inl rfl)) (lf_cons (.val _) lf_nil)) | exact lf_fnrp' lf_bys | exact lf_ints (.inl rfl) | exact .tup (lf_cons (lf_ints (.inl rfl)) (lf_cons (lf_ints (.inl rfl)) lf_nil))) ?_
        exact AOps.nil ⟨rfl, rfl, rfl⟩) ?_
  refine n_pick_and rfl (by first | (simp only [nf, Nat.beq] <;> rfl) | rfl) (fun h => by cases b50 with | false => exact absurd h (by decide) | true => exact (by first | (simp only [nf, Nat.beq] <;> rfl) | rfl)) ?_
  refine n_move rfl (by first | (simp only [nf, Nat.beq] <;> rfl) | rfl) ?_
  refine AOps.name (u := 55) (fun z => .val (.bool z)) (by first | (simp only [nf, Nat.beq] <;> rfl) | rfl) (fun b55 hb55 => ?_)
  refine n_soft (u := 55) (E := .val (.bool b55)) (b55) rfl rfl rfl (by first | (simp only [nf, Nat.beq] <;> rfl) | rfl) (by cases b55 <;> first | (intro _; rfl) | (intro h; exact absurd h (by decide))) (by cases b55 <;> first | (intro h; exact absurd h (by decide)) | (intro _; exact ⟨_, rfl, by first | (intro h; cases h; done) | decide | simp⟩)) (fun h => by
      cases b55 with
      | false => exact absurd h (by first | decide | simp)
      | true =>
        refine n_move rfl (by first | (simp only [nf, Nat.beq] <;> rfl) | rfl) ?_
        exact AOps.nil ⟨rfl, rfl, rfl⟩) ?_
  refine n_soft (u := 55) (E := .val (.bool b55)) (b55) rfl rfl rfl (by first | (simp only [nf, Nat.beq] <;> rfl) | rfl) (by cases b55 <;> first | (intro _; rfl) | (intro h; exact absurd h (by decide))) (by cases b55 <;> first | (intro h; exact absurd h (by decide)) | (intro _; exact ⟨_, rfl, by first | (intro h; cases h; done) | decide | simp⟩)) (fun h => by
      cases b55 with
      | false => exact absurd h (by first | decide | simp)
      | true =>
        refine n_move rfl (by first | (simp only [nf, Nat.beq] <;> rfl) | rfl) ?_
        exact AOps.nil ⟨rfl, rfl, rfl⟩) ?_
  refine n_soft (u := 55) (E := .val (.bool b55)) (b55) rfl rfl rfl (by first | (simp only [nf, Nat.beq] <;> rfl) | rfl) (by cases b55 <;> first | (intro _; rfl) | (intro h; exact absurd h (by decide))) (by cases b55 <;> first | (intro h; exact absurd h (by decide)) | (intro _; exact ⟨_, rfl, by first | (intro h; cases h; done) | decide | simp⟩)) (fun h => by
      cases b55 with
      | false => exact absurd h (by first | decide | simp)
      | true =>
        refine n_call0B rfl cf107 rfl (Eq.trans (by simp only [nl] <;> rfl) (by first | (simp only [nf, Nat.beq] <;> rfl) | rfl)) (by repeat (first | exact .nil | refine .cons ?_ ?_ | exact ren_ints | exact .lf (.val _) | exact .lf (lf_ints (.inl rfl)) | exact .bp ⟨rfl, rfl⟩ | exact .bp (.inl ⟨rfl, rfl⟩) | exact .bp (.inr ⟨rfl, rfl⟩) | exact .lf (D.flat_lf rfl) | exact ren_lits rfl | exact ren_ints | exact .lf (lf_fnrp' lf_bys))) (h2) (by first | exact .val _ | exact lf_ints (.inl rfl) | exact lf_ints (.inr rfl) | exact .any | exact D.flat_lf rfl | exact .tup (lf_cons (lf_ints (.inl rfl)) (lf_cons (.val _) lf_nil)) | exact lf_fnrp' lf_bys | exact lf_ints (.inl rfl) | exact .tup (lf_cons (lf_ints (.inl rfl)) (lf_cons (lf_ints (.inl rfl)) lf_nil))) ?_
        exact AOps.nil ⟨rfl, rfl, rfl⟩) ?_
  refine n_pick_and rfl (by first | (simp only [nf, Nat.beq] <;> rfl) | rfl) (fun h => by cases b55 with | false => exact absurd h (by decide) | true => exact (by first | (simp only [nf, Nat.beq] <;> rfl) | rfl)) ?_
  refine n_assign rfl (by first | (simp only [nf, Nat.beq] <;> rfl) | rfl) ?_
  subst hb40
  subst hb45
  subst hb50
  subst hb55
  refine AOps.nil ?_
  refine AWP.ret ?_
  refine fin_pure (.cons (rv_tmp (by first | (simp only [nf, Nat.beq] <;> rfl) | rfl)) .nil) (by first | (simp only [nf, Nat.beq] <;> rfl) | rfl) ?_
  first | exact ren_flat rfl rfl | exact ren_flat rfl (congrArg vb (by simp))

theorem own_ro {b x : List Int} {T : List Ob} {f : FuncId} {ds : List D} (h : Does Try.prog f ds [] (.sl none (ints .u8 b) (.own 0)) T) (e : b = x) : Does Try.prog f ds [] (bys x) [] := by subst e; exact Does.ownRo h (ints_lf _ _)
set_option maxHeartbeats 4000000 in
theorem One_calls (b : List Int) (hb : Byt b) (hl : L40 b) : Does Try.prog 17 [bys b] [] (vb true) [] := by
  refine Does.of_body (rvs := [.tmp 2]) Try.func17 rfl rfl rfl rfl ?_
  have hnl := nums_len b
  have hml : ((nums b).map (·.2)).length = (nums b).length := List.length_map ..
  obtain ⟨p, hpl, hpf, hpq, hp0⟩ := nums_end hb
  have hbp : Byt (b.take p) := hb.take p
  have hI := own_ro (p_int [] ((nums b).map (·.1)) (nums_i64 hb) (by simp only [List.length_nil, List.length_map]; omega)) (show [] ++ forms ((nums b).map (·.1)) = b.take p by rw [List.nil_append, hpf])
  have hq1 := b_equal (b.take p) (b.take p) hbp hbp
  rw [decide_eq_true rfl] at hq1
  have ok0 : Up.ok ⟨b, 0⟩ := ⟨hb, hl⟩
  have c1 := Rd.U_str ⟨b, 0⟩ ok0 (b.length : Int) ⟨by omega, by omega⟩
  obtain ⟨r, hr⟩ : ∃ r, r = (⟨b, 0⟩ : Up).str (b.length : Int) := ⟨_, rfl⟩
  have hin := Up.str_inv (u := ⟨b, 0⟩) (m := (b.length : Int)) ok0
  have okr := Up.str_ok ok0 (b.length : Int)
  rw [← hr] at c1 hin okr
  obtain ⟨okr1, okr2, okr3⟩ := okr
  refine AWP.seq ?_
  refine AWP.region ?_
  refine n_assign rfl (by first | (simp only [nf, Nat.beq] <;> rfl) | rfl) ?_
  refine AOps.nil ?_
  refine AWP.seq ?_
  refine AWP.seq ?_
  refine AWP.region ?_
  refine n_call0B rfl cf72 rfl (Eq.trans (by simp only [nl] <;> rfl) (by first | (simp only [nf, Nat.beq] <;> rfl) | rfl)) (by repeat (first | exact .nil | refine .cons ?_ ?_ | exact ren_ints | exact .lf (.val _) | exact .lf (lf_ints (.inl rfl)) | exact .bp ⟨rfl, rfl⟩ | exact .bp (.inl ⟨rfl, rfl⟩) | exact .bp (.inr ⟨rfl, rfl⟩) | exact .lf (D.flat_lf rfl) | exact ren_lits rfl | exact ren_ints | exact .lf (lf_fnrp' lf_bys))) (Pl.live) (by first | exact .val _ | exact lf_ints (.inl rfl) | exact lf_ints (.inr rfl) | exact .any | exact D.flat_lf rfl | exact .tup (lf_cons (lf_ints (.inl rfl)) (lf_cons (.val _) lf_nil)) | exact lf_fnrp' lf_bys | exact lf_ints (.inl rfl) | exact .tup (lf_cons (lf_ints (.inl rfl)) (lf_cons (lf_ints (.inl rfl)) lf_nil))) ?_
  refine n_not rfl (by first | (simp only [nf, Nat.beq] <;> rfl) | rfl) rfl ?_
  refine AOps.nil ?_
  refine AWP.cond_false (by first | (simp only [nf, Nat.beq] <;> rfl) | rfl) ?_
  refine AWP.skip ?_
  refine AWP.seq ?_
  refine AWP.region ?_
  refine n_move rfl (by first | (simp only [nf, Nat.beq] <;> rfl) | rfl) ?_
  refine n_call0B rfl cf100 rfl (Eq.trans (by simp only [nl] <;> rfl) (by first | (simp only [nf, Nat.beq] <;> rfl) | rfl)) (by repeat (first | exact .nil | refine .cons ?_ ?_ | exact ren_ints | exact .lf (.val _) | exact .lf (lf_ints (.inl rfl)) | exact .bp ⟨rfl, rfl⟩ | exact .bp (.inl ⟨rfl, rfl⟩) | exact .bp (.inr ⟨rfl, rfl⟩) | exact .lf (D.flat_lf rfl) | exact ren_lits rfl | exact ren_ints | exact .lf (lf_fnrp' lf_bys))) (numbers _ (by assumption) (by assumption)) (by first | exact .val _ | exact lf_ints (.inl rfl) | exact lf_ints (.inr rfl) | exact .any | exact D.flat_lf rfl | exact .tup (lf_cons (lf_ints (.inl rfl)) (lf_cons (.val _) lf_nil)) | exact lf_fnrp' lf_bys | exact lf_ints (.inl rfl) | exact .tup (lf_cons (lf_ints (.inl rfl)) (lf_cons (lf_ints (.inl rfl)) lf_nil))) ?_
  refine n_move rfl (by first | (simp only [nf, Nat.beq] <;> rfl) | rfl) ?_
  refine n_extract rfl (by first | (simp only [nf, Nat.beq] <;> rfl) | rfl) rfl ?_
  refine n_extract rfl (by first | (simp only [nf, Nat.beq] <;> rfl) | rfl) rfl ?_
  refine n_assign rfl (by first | (simp only [nf, Nat.beq] <;> rfl) | rfl) ?_
  refine n_assign rfl (by first | (simp only [nf, Nat.beq] <;> rfl) | rfl) ?_
  refine AOps.nil ?_
  refine AWP.seq ?_
  refine AWP.region ?_
  refine n_assign rfl (by first | (simp only [nf, Nat.beq] <;> rfl) | rfl) ?_
  refine AOps.nil ?_
  refine AWP.seq ?_
  refine AWP.seq ?_
  refine AWP.region ?_
  refine n_move rfl (by first | (simp only [nf, Nat.beq] <;> rfl) | rfl) ?_
  refine n_len rfl Try.underlying122 (by first | (simp only [nf, Nat.beq] <;> rfl) | rfl) (by first | rw [ints_length] | rw [List.length_map] | rfl) ?_
  refine n_ibin rfl (by first | (simp only [nf, Nat.beq] <;> rfl) | rfl) (by first | (simp only [nf, Nat.beq] <;> rfl) | rfl) rfl ?_
  refine AOps.nil ?_
  refine AWP.cond (by first | (simp only [nf, Nat.beq] <;> rfl) | rfl) (fun hc2 => ?_) (fun hc2 => ?_)
  · try simp only [nh] at hc2
    obtain ⟨q, hql, hqa⟩ := nums_last (b := b) (by simp at hc2; omega)
    have hqp := hpq q hql
    rw [hqp] at hqa
    refine AWP.region ?_
    refine n_move rfl (by first | (simp only [nf, Nat.beq] <;> rfl) | rfl) ?_
    refine n_move rfl (by first | (simp only [nf, Nat.beq] <;> rfl) | rfl) ?_
    refine n_len rfl Try.underlying122 (by first | (simp only [nf, Nat.beq] <;> rfl) | rfl) (by first | rw [ints_length] | rw [List.length_map] | rfl) ?_
    first | refine n_isub rfl (by first | (simp only [nf, Nat.beq] <;> rfl) | rfl) (by first | (simp only [nf, Nat.beq] <;> rfl) | rfl) rfl (by omega) (by omega) ?_ | refine n_ibin rfl (by first | (simp only [nf, Nat.beq] <;> rfl) | rfl) (by first | (simp only [nf, Nat.beq] <;> rfl) | rfl) rfl ?_
    refine n_indexAddr rfl Try.underlying122 ti3 rfl (by first | (simp only [nf, Nat.beq] <;> rfl) | rfl) (by first | (simp only [nf, Nat.beq] <;> rfl) | rfl) (by simp at *; omega) hqa rfl ?_
    refine n_load rfl ti3 (by first | (simp only [nf, Nat.beq] <;> rfl) | rfl) (by first | (simp only [nf, Nat.beq] <;> rfl) | rfl) rfl (by first | (simp only [nf, Nat.beq] <;> rfl) | rfl) ?_
    refine n_assign rfl (by first | (simp only [nf, Nat.beq] <;> rfl) | rfl) ?_
    refine AOps.nil ?_
    refine AWP.seq ?_
    refine AWP.seq ?_
    refine AWP.anyStill (by kernel_rfl) (by kernel_rfl) ?_
    refine Walk.still (rs := [5]) (by rfl) (by first | (simp only [nf, Nat.beq] <;> rfl) | rfl) (fun base => by
        refine n_move rfl (by first | (simp only [nf, Nat.beq] <;> rfl) | rfl) ?_
        exact AOps.nil ⟨rfl, rfl, rfl⟩) ?_
    refine Walk.still (rs := [24]) (by rfl) (by first | (simp only [nf, Nat.beq] <;> rfl) | rfl) (fun base => by
        refine n_ibin rfl (by first | (simp only [nf, Nat.beq] <;> rfl) | rfl) (by first | (simp only [nf, Nat.beq] <;> rfl) | rfl) rfl ?_
        exact AOps.nil ⟨rfl, rfl, rfl⟩) ?_
    refine Walk.still (rs := [25]) (by rfl) (by first | (simp only [nf, Nat.beq] <;> rfl) | rfl) (fun base => by
        refine n_move rfl (by first | (simp only [nf, Nat.beq] <;> rfl) | rfl) ?_
        exact AOps.nil ⟨rfl, rfl, rfl⟩) ?_
    refine Walk.name (u := 26) (fun z => .val (.bool z)) (by first | (simp only [nf, Nat.beq] <;> rfl) | rfl) (fun b26 hb26 => ?_)
    refine Walk.still (rs := [5, 26]) (by rfl) (by first | (simp only [nf, Nat.beq] <;> rfl) | rfl) (fun base => by
        refine n_soft (u := 26) (E := .val (.bool b26)) (!b26) rfl rfl rfl (by first | (simp only [nf, Nat.beq] <;> rfl) | rfl) (by cases b26 <;> first | (intro _; rfl) | (intro h; exact absurd h (by decide))) (by cases b26 <;> first | (intro h; exact absurd h (by decide)) | (intro _; exact ⟨_, rfl, by first | (intro h; cases h; done) | decide | simp⟩)) (fun h => by
            cases b26 with
            | true => exact absurd h (by first | decide | simp)
            | false =>
              refine n_move rfl (by first | (simp only [nf, Nat.beq] <;> rfl) | rfl) ?_
              exact AOps.nil ⟨rfl, rfl, rfl⟩) (AOps.nil ⟨rfl, rfl, rfl⟩)) ?_
    refine Walk.still (rs := [0, 26]) (by rfl) (by first | (simp only [nf, Nat.beq] <;> rfl) | rfl) (fun base => by
        refine n_soft (u := 26) (E := .val (.bool b26)) (!b26) rfl rfl rfl (by first | (simp only [nf, Nat.beq] <;> rfl) | rfl) (by cases b26 <;> first | (intro _; rfl) | (intro h; exact absurd h (by decide))) (by cases b26 <;> first | (intro h; exact absurd h (by decide)) | (intro _; exact ⟨_, rfl, by first | (intro h; cases h; done) | decide | simp⟩)) (fun h => by
            cases b26 with
            | true => exact absurd h (by first | decide | simp)
            | false =>
              refine n_move rfl (by first | (simp only [nf, Nat.beq] <;> rfl) | rfl) ?_
              exact AOps.nil ⟨rfl, rfl, rfl⟩) (AOps.nil ⟨rfl, rfl, rfl⟩)) ?_
    refine Walk.still (rs := [28, 26]) (by rfl) (by first | (simp only [nf, Nat.beq] <;> rfl) | rfl) (fun base => by
        refine n_soft (u := 26) (E := .val (.bool b26)) (!b26) rfl rfl rfl (by first | (simp only [nf, Nat.beq] <;> rfl) | rfl) (by cases b26 <;> first | (intro _; rfl) | (intro h; exact absurd h (by decide))) (by cases b26 <;> first | (intro h; exact absurd h (by decide)) | (intro _; exact ⟨_, rfl, by first | (intro h; cases h; done) | decide | simp⟩)) (fun h => by
            cases b26 with
            | true => exact absurd h (by first | decide | simp)
            | false =>
              refine n_len rfl Try.underlying22 (by first | (simp only [nf, Nat.beq] <;> rfl) | rfl) (by first | rw [ints_length] | rw [List.length_map] | rfl) ?_
              exact AOps.nil ⟨rfl, rfl, rfl⟩) (AOps.nil ⟨rfl, rfl, rfl⟩)) ?_
    refine Walk.still (rs := [27, 29, 26]) (by rfl) (by first | (simp only [nf, Nat.beq] <;> rfl) | rfl) (fun base => by
        refine n_soft (u := 26) (E := .val (.bool b26)) (!b26) rfl rfl rfl (by first | (simp only [nf, Nat.beq] <;> rfl) | rfl) (by cases b26 <;> first | (intro _; rfl) | (intro h; exact absurd h (by decide))) (by cases b26 <;> first | (intro h; exact absurd h (by decide)) | (intro _; exact ⟨_, rfl, by first | (intro h; cases h; done) | decide | simp⟩)) (fun h => by
            cases b26 with
            | true => exact absurd h (by first | decide | simp)
            | false =>
              refine n_ibin rfl (by first | (simp only [nf, Nat.beq] <;> rfl) | rfl) (by first | (simp only [nf, Nat.beq] <;> rfl) | rfl) rfl ?_
              exact AOps.nil ⟨rfl, rfl, rfl⟩) (AOps.nil ⟨rfl, rfl, rfl⟩)) ?_
    refine Walk.still (rs := [26, 30]) (by rfl) (by first | (simp only [nf, Nat.beq] <;> rfl) | rfl) (fun base => by
        refine n_pick_or rfl (by first | (simp only [nf, Nat.beq] <;> rfl) | rfl) (fun h => by cases b26 with | true => exact absurd h (by decide) | false => exact (by first | (simp only [nf, Nat.beq] <;> rfl) | rfl)) ?_
        exact AOps.nil ⟨rfl, rfl, rfl⟩) ?_
    refine Walk.still (rs := [31]) (by rfl) (by first | (simp only [nf, Nat.beq] <;> rfl) | rfl) (fun base => by
        refine n_move rfl (by first | (simp only [nf, Nat.beq] <;> rfl) | rfl) ?_
        exact AOps.nil ⟨rfl, rfl, rfl⟩) ?_
    refine Walk.name (u := 32) (fun z => .val (.bool z)) (by first | (simp only [nf, Nat.beq] <;> rfl) | rfl) (fun b32 hb32 => ?_)
    refine Walk.still (rs := [3, 32]) (by rfl) (by first | (simp only [nf, Nat.beq] <;> rfl) | rfl) (fun base => by
        refine n_soft (u := 32) (E := .val (.bool b32)) (!b32) rfl rfl rfl (by first | (simp only [nf, Nat.beq] <;> rfl) | rfl) (by cases b32 <;> first | (intro _; rfl) | (intro h; exact absurd h (by decide))) (by cases b32 <;> first | (intro h; exact absurd h (by decide)) | (intro _; exact ⟨_, rfl, by first | (intro h; cases h; done) | decide | simp⟩)) (fun h => by
            cases b32 with
            | true => exact absurd h (by first | decide | simp)
            | false =>
              refine n_move rfl (by first | (simp only [nf, Nat.beq] <;> rfl) | rfl) ?_
              exact AOps.nil ⟨rfl, rfl, rfl⟩) (AOps.nil ⟨rfl, rfl, rfl⟩)) ?_
    refine Walk.still (rs := [33, 32]) (by rfl) (by first | (simp only [nf, Nat.beq] <;> rfl) | rfl) (fun base => by
        refine n_soft (u := 32) (E := .val (.bool b32)) (!b32) rfl rfl rfl (by first | (simp only [nf, Nat.beq] <;> rfl) | rfl) (by cases b32 <;> first | (intro _; rfl) | (intro h; exact absurd h (by decide))) (by cases b32 <;> first | (intro h; exact absurd h (by decide)) | (intro _; exact ⟨_, rfl, by first | (intro h; cases h; done) | decide | simp⟩)) (fun h => by
            cases b32 with
            | true => exact absurd h (by first | decide | simp)
            | false =>
              refine n_call0B rfl cf75 rfl (Eq.trans (by simp only [nl] <;> rfl) (by first | (simp only [nf, Nat.beq] <;> rfl) | rfl)) (by repeat (first | exact .nil | refine .cons ?_ ?_ | exact ren_ints | exact .lf (.val _) | exact .lf (lf_ints (.inl rfl)) | exact .bp ⟨rfl, rfl⟩ | exact .bp (.inl ⟨rfl, rfl⟩) | exact .bp (.inr ⟨rfl, rfl⟩) | exact .lf (D.flat_lf rfl) | exact ren_lits rfl | exact ren_ints | exact .lf (lf_fnrp' lf_bys))) (hI) (by first | exact .val _ | exact lf_ints (.inl rfl) | exact lf_ints (.inr rfl) | exact .any | exact D.flat_lf rfl | exact .tup (lf_cons (lf_ints (.inl rfl)) (lf_cons (.val _) lf_nil)) | exact lf_fnrp' lf_bys | exact lf_ints (.inl rfl) | exact .tup (lf_cons (lf_ints (.inl rfl)) (lf_cons (lf_ints (.inl rfl)) lf_nil))) ?_
              exact AOps.nil ⟨rfl, rfl, rfl⟩) (AOps.nil ⟨rfl, rfl, rfl⟩)) ?_
    refine Walk.still (rs := [0, 32]) (by rfl) (by first | (simp only [nf, Nat.beq] <;> rfl) | rfl) (fun base => by
        refine n_soft (u := 32) (E := .val (.bool b32)) (!b32) rfl rfl rfl (by first | (simp only [nf, Nat.beq] <;> rfl) | rfl) (by cases b32 <;> first | (intro _; rfl) | (intro h; exact absurd h (by decide))) (by cases b32 <;> first | (intro h; exact absurd h (by decide)) | (intro _; exact ⟨_, rfl, by first | (intro h; cases h; done) | decide | simp⟩)) (fun h => by
            cases b32 with
            | true => exact absurd h (by first | decide | simp)
            | false =>
              refine n_move rfl (by first | (simp only [nf, Nat.beq] <;> rfl) | rfl) ?_
              exact AOps.nil ⟨rfl, rfl, rfl⟩) (AOps.nil ⟨rfl, rfl, rfl⟩)) ?_
    refine Walk.still (rs := [5, 32]) (by rfl) (by first | (simp only [nf, Nat.beq] <;> rfl) | rfl) (fun base => by
        refine n_soft (u := 32) (E := .val (.bool b32)) (!b32) rfl rfl rfl (by first | (simp only [nf, Nat.beq] <;> rfl) | rfl) (by cases b32 <;> first | (intro _; rfl) | (intro h; exact absurd h (by decide))) (by cases b32 <;> first | (intro h; exact absurd h (by decide)) | (intro _; exact ⟨_, rfl, by first | (intro h; cases h; done) | decide | simp⟩)) (fun h => by
            cases b32 with
            | true => exact absurd h (by first | decide | simp)
            | false =>
              refine n_move rfl (by first | (simp only [nf, Nat.beq] <;> rfl) | rfl) ?_
              exact AOps.nil ⟨rfl, rfl, rfl⟩) (AOps.nil ⟨rfl, rfl, rfl⟩)) ?_
    refine Walk.still (rs := [35, 36, 32]) (by rfl) (by first | (simp only [nf, Nat.beq] <;> rfl) | rfl) (fun base => by
        refine n_soft (u := 32) (E := .val (.bool b32)) (!b32) rfl rfl rfl (by first | (simp only [nf, Nat.beq] <;> rfl) | rfl) (by cases b32 <;> first | (intro _; rfl) | (intro h; exact absurd h (by decide))) (by cases b32 <;> first | (intro h; exact absurd h (by decide)) | (intro _; exact ⟨_, rfl, by first | (intro h; cases h; done) | decide | simp⟩)) (fun h => by
            cases b32 with
            | true => exact absurd h (by first | decide | simp)
            | false =>
              refine n_slice rfl Try.underlying22 ti5 (by first | (simp only [nf, Nat.beq] <;> rfl) | rfl) (SB.some (by first | (simp only [nf, Nat.beq] <;> rfl) | rfl) (by first | rfl | omega)) SB.none (by first | omega | (simp only [ints_length]; omega)) (by first | omega | (simp only [ints_length]; omega) | exact Nat.le_refl _) (ints_one _ _) (by first | (simp only [ints_take, ints_drop, List.take_length, ints_length, List.drop_zero] <;> rfl) | rfl) ?_
              exact AOps.nil ⟨rfl, rfl, rfl⟩) (AOps.nil ⟨rfl, rfl, rfl⟩)) ?_
    refine Walk.still (rs := [34, 37, 32]) (by rfl) (by first | (simp only [nf, Nat.beq] <;> rfl) | rfl) (fun base => by
        refine n_soft (u := 32) (E := .val (.bool b32)) (!b32) rfl rfl rfl (by first | (simp only [nf, Nat.beq] <;> rfl) | rfl) (by cases b32 <;> first | (intro _; rfl) | (intro h; exact absurd h (by decide))) (by cases b32 <;> first | (intro h; exact absurd h (by decide)) | (intro _; exact ⟨_, rfl, by first | (intro h; cases h; done) | decide | simp⟩)) (fun h => by
            cases b32 with
            | true => exact absurd h (by first | decide | simp)
            | false =>
              refine n_call0B rfl cf40 rfl (Eq.trans (by simp only [nl] <;> rfl) (by first | (simp only [nf, Nat.beq] <;> rfl) | rfl)) (by repeat (first | exact .nil | refine .cons ?_ ?_ | exact ren_ints | exact .lf (.val _) | exact .lf (lf_ints (.inl rfl)) | exact .bp ⟨rfl, rfl⟩ | exact .bp (.inl ⟨rfl, rfl⟩) | exact .bp (.inr ⟨rfl, rfl⟩) | exact .lf (D.flat_lf rfl) | exact ren_lits rfl | exact ren_ints | exact .lf (lf_fnrp' lf_bys))) (hq1) (by first | exact .val _ | exact lf_ints (.inl rfl) | exact lf_ints (.inr rfl) | exact .any | exact D.flat_lf rfl | exact .tup (lf_cons (lf_ints (.inl rfl)) (lf_cons (.val _) lf_nil)) | exact lf_fnrp' lf_bys | exact lf_ints (.inl rfl) | exact .tup (lf_cons (lf_ints (.inl rfl)) (lf_cons (lf_ints (.inl rfl)) lf_nil))) ?_
              exact AOps.nil ⟨rfl, rfl, rfl⟩) (AOps.nil ⟨rfl, rfl, rfl⟩)) ?_
    refine Walk.still (rs := [38, 32]) (by rfl) (by first | (simp only [nf, Nat.beq] <;> rfl) | rfl) (fun base => by
        refine n_soft (u := 32) (E := .val (.bool b32)) (!b32) rfl rfl rfl (by first | (simp only [nf, Nat.beq] <;> rfl) | rfl) (by cases b32 <;> first | (intro _; rfl) | (intro h; exact absurd h (by decide))) (by cases b32 <;> first | (intro h; exact absurd h (by decide)) | (intro _; exact ⟨_, rfl, by first | (intro h; cases h; done) | decide | simp⟩)) (fun h => by
            cases b32 with
            | true => exact absurd h (by first | decide | simp)
            | false =>
              refine n_not rfl (by first | (simp only [nf, Nat.beq] <;> rfl) | rfl) rfl ?_
              exact AOps.nil ⟨rfl, rfl, rfl⟩) (AOps.nil ⟨rfl, rfl, rfl⟩)) ?_
    refine Walk.still (rs := [32, 39]) (by rfl) (by first | (simp only [nf, Nat.beq] <;> rfl) | rfl) (fun base => by
        refine n_pick_or rfl (by first | (simp only [nf, Nat.beq] <;> rfl) | rfl) (fun h => by cases b32 with | true => exact absurd h (by decide) | false => exact (by first | (simp only [nf, Nat.beq] <;> rfl) | rfl)) ?_
        exact AOps.nil ⟨rfl, rfl, rfl⟩) ?_
    subst hb26
    subst hb32
    refine Walk.done ?_
    refine AWP.cond (by first | (simp only [nf, Nat.beq] <;> rfl) | rfl) (fun hc3 => ?_) (fun hc3 => ?_)
    · try simp only [nh] at hc3
      exfalso
      simp at hc3
      try omega
    · try simp only [nh] at hc3
      refine AWP.skip ?_
      refine AWP.seq ?_
      refine AWP.region ?_
      refine n_move rfl (by first | (simp only [nf, Nat.beq] <;> rfl) | rfl) ?_
      refine n_callNewB rfl cf84 rfl (Eq.trans (by simp only [nl] <;> rfl) (by first | (simp only [nf, Nat.beq] <;> rfl) | rfl)) (by repeat (first | exact .nil | refine .cons ?_ ?_ | exact ren_ints | exact .lf (.val _) | exact .lf (lf_ints (.inl rfl)) | exact .bp ⟨rfl, rfl⟩ | exact .bp (.inl ⟨rfl, rfl⟩) | exact .bp (.inr ⟨rfl, rfl⟩) | exact .lf (D.flat_lf rfl) | exact ren_lits rfl | exact ren_ints | exact .lf (lf_fnrp' lf_bys))) (u_open _ (by assumption)) (by repeat (first | exact lf_nil | refine lf_cons ?_ ?_ | exact .val _ | exact lf_ints (.inl rfl))) rfl (by first | (simp only [nf, Nat.beq] <;> rfl) | rfl) ?_
      refine n_assign rfl (by first | (simp only [nf, Nat.beq] <;> rfl) | rfl) ?_
      refine AOps.nil ?_
      refine AWP.seq ?_
      refine AWP.region ?_
      refine n_move rfl (by first | (simp only [nf, Nat.beq] <;> rfl) | rfl) ?_
      refine n_move rfl (by first | (simp only [nf, Nat.beq] <;> rfl) | rfl) ?_
      refine n_len rfl Try.underlying22 (by first | (simp only [nf, Nat.beq] <;> rfl) | rfl) (by first | rw [ints_length] | rw [List.length_map] | rfl) ?_
      refine n_callBoxB rfl cf87 rfl (Eq.trans (by simp only [nl] <;> rfl) (by first | (simp only [nf, Nat.beq] <;> rfl) | rfl)) (by repeat (first | exact .nil | refine .cons ?_ ?_ | exact ren_ints | exact .lf (.val _) | exact .lf (lf_ints (.inl rfl)) | exact .bp ⟨rfl, rfl⟩ | exact .bp (.inl ⟨rfl, rfl⟩) | exact .bp (.inr ⟨rfl, rfl⟩) | exact .lf (D.flat_lf rfl) | exact ren_lits rfl | exact ren_ints | exact .lf (lf_fnrp' lf_bys))) (by rfl) (by repeat (first | exact .nil | refine .cons ?_ ?_ | exact ren_ints | exact .lf (.val _) | exact .lf (lf_ints (.inl rfl)) | exact .bp ⟨rfl, rfl⟩ | exact .bp (.inl ⟨rfl, rfl⟩) | exact .bp (.inr ⟨rfl, rfl⟩) | exact .lf (D.flat_lf rfl) | exact ren_lits rfl | exact ren_ints | exact .lf (lf_fnrp' lf_bys))) (c1) (by repeat (first | exact lf_nil | refine lf_cons ?_ ?_ | exact .val _ | exact lf_ints (.inl rfl))) (by first | exact .val _ | exact lf_ints (.inl rfl) | exact lf_ints (.inr rfl) | exact .any | exact D.flat_lf rfl | exact .tup (lf_cons (lf_ints (.inl rfl)) (lf_cons (.val _) lf_nil)) | exact lf_fnrp' lf_bys | exact lf_ints (.inl rfl) | exact .tup (lf_cons (lf_ints (.inl rfl)) (lf_cons (lf_ints (.inl rfl)) lf_nil))) (by first | (simp only [nf, Nat.beq] <;> rfl) | rfl) ?_
      refine n_assign rfl (by first | (simp only [nf, Nat.beq] <;> rfl) | rfl) ?_
      refine AOps.nil ?_
      refine AWP.seq ?_
      refine AWP.region ?_
      refine n_move rfl (by first | (simp only [nf, Nat.beq] <;> rfl) | rfl) ?_
      refine n_callBoxB rfl cf86 rfl (Eq.trans (by simp only [nl] <;> rfl) (by first | (simp only [nf, Nat.beq] <;> rfl) | rfl)) (by repeat (first | exact .nil | refine .cons ?_ ?_ | exact ren_ints | exact .lf (.val _) | exact .lf (lf_ints (.inl rfl)) | exact .bp ⟨rfl, rfl⟩ | exact .bp (.inl ⟨rfl, rfl⟩) | exact .bp (.inr ⟨rfl, rfl⟩) | exact .lf (D.flat_lf rfl) | exact ren_lits rfl | exact ren_ints | exact .lf (lf_fnrp' lf_bys))) (by rfl) (by repeat (first | exact .nil | refine .cons ?_ ?_ | exact ren_ints | exact .lf (.val _) | exact .lf (lf_ints (.inl rfl)) | exact .bp ⟨rfl, rfl⟩ | exact .bp (.inl ⟨rfl, rfl⟩) | exact .bp (.inr ⟨rfl, rfl⟩) | exact .lf (D.flat_lf rfl) | exact ren_lits rfl | exact ren_ints | exact .lf (lf_fnrp' lf_bys))) (Rd.U_err _) (by repeat (first | exact lf_nil | refine lf_cons ?_ ?_ | exact .val _ | exact lf_ints (.inl rfl))) (by first | exact .val _ | exact lf_ints (.inl rfl) | exact lf_ints (.inr rfl) | exact .any | exact D.flat_lf rfl | exact .tup (lf_cons (lf_ints (.inl rfl)) (lf_cons (.val _) lf_nil)) | exact lf_fnrp' lf_bys | exact lf_ints (.inl rfl) | exact .tup (lf_cons (lf_ints (.inl rfl)) (lf_cons (lf_ints (.inl rfl)) lf_nil))) (by first | (simp only [nf, Nat.beq] <;> rfl) | rfl) ?_
      refine n_ibin rfl (by first | (simp only [nf, Nat.beq] <;> rfl) | rfl) (by first | (simp only [nf, Nat.beq] <;> rfl) | rfl) rfl ?_
      refine n_move rfl (by first | (simp only [nf, Nat.beq] <;> rfl) | rfl) ?_
      refine AOps.split (u := 50) (by first | (simp only [nf, Nat.beq] <;> rfl) | rfl) (fun hg4 => ?_) (fun hg4 => ?_)
      · try simp only [nh] at hg4
        refine n_guard_no rfl rfl rfl (by first | (simp only [nf, Nat.beq] <;> rfl) | rfl) rfl ?_
        refine n_guard_no rfl rfl rfl (by first | (simp only [nf, Nat.beq] <;> rfl) | rfl) rfl ?_
        refine n_guard_no rfl rfl rfl (by first | (simp only [nf, Nat.beq] <;> rfl) | rfl) rfl ?_
        refine n_guard_no rfl rfl rfl (by first | (simp only [nf, Nat.beq] <;> rfl) | rfl) rfl ?_
        refine n_guard_no rfl rfl rfl (by first | (simp only [nf, Nat.beq] <;> rfl) | rfl) rfl ?_
        refine n_guard_no rfl rfl rfl (by first | (simp only [nf, Nat.beq] <;> rfl) | rfl) rfl ?_
        refine n_guard_no rfl rfl rfl (by first | (simp only [nf, Nat.beq] <;> rfl) | rfl) rfl ?_
        refine n_guard_no rfl rfl rfl (by first | (simp only [nf, Nat.beq] <;> rfl) | rfl) rfl ?_
        refine n_guard_no rfl rfl rfl (by first | (simp only [nf, Nat.beq] <;> rfl) | rfl) rfl ?_
        refine n_guard_no rfl rfl rfl (by first | (simp only [nf, Nat.beq] <;> rfl) | rfl) rfl ?_
        refine n_pick rfl (by first | (simp only [nf, Nat.beq] <;> rfl) | rfl) (by first | (simp only [nf, Nat.beq] <;> rfl) | rfl) ?_
        refine n_assign rfl (by first | (simp only [nf, Nat.beq] <;> rfl) | rfl) ?_
        refine AOps.nil ?_
        refine AWP.ret ?_
        refine fin_pure (.cons (rv_tmp (by first | (simp only [nf, Nat.beq] <;> rfl) | rfl)) .nil) (by first | (simp only [nf, Nat.beq] <;> rfl) | rfl) ?_
        first | exact ren_flat rfl rfl | exact ren_flat rfl (congrArg vb (by simp))
      · try simp only [nh] at hg4
        have he : r.2.e = 0 := by simpa using hg4
        have hi2 : b = form (r.1.length : Int) ++ (r.1 ++ r.2.b) := (hin he).2
        have hi3 := congrArg List.length hi2
        simp only [List.length_append] at hi3
        have hrs : Up.rest r.2 = (r.2.b.length : Int) := by unfold Up.rest; rw [if_pos he]
        have htk : [] ++ forms [(r.1.length : Int)] ++ r.1 = b.take (b.length - r.2.b.length) := by have h1 : b.length - r.2.b.length = (form (r.1.length : Int) ++ r.1).length := (by rw [List.length_append]; omega); have h3 := congrArg (List.take (form (r.1.length : Int) ++ r.1).length) hi2; rw [← List.append_assoc, List.take_left] at h3; rw [h1, h3, List.nil_append, forms_one]
        have hrst := u_rest r.2.b r.2.e
        rw [show Up.rest ⟨r.2.b, r.2.e⟩ = (r.2.b.length : Int) from hrs] at hrst
        have hS := own_ro (p_str [] r.1 (by simp) okr3) htk
        have hb2 : Byt (b.take (b.length - r.2.b.length)) := hb.take _
        have hq2 := b_equal _ _ hb2 hb2
        rw [decide_eq_true rfl] at hq2
        refine n_guard_yes rfl rfl rfl (by first | (simp only [nf, Nat.beq] <;> rfl) | rfl) rfl ?_
        refine n_move rfl (by first | (simp only [nf, Nat.beq] <;> rfl) | rfl) ?_
        refine n_guard_yes rfl rfl rfl (by first | (simp only [nf, Nat.beq] <;> rfl) | rfl) rfl ?_
        refine n_call0B rfl cf77 rfl (Eq.trans (by simp only [nl] <;> rfl) (by first | (simp only [nf, Nat.beq] <;> rfl) | rfl)) (by repeat (first | exact .nil | refine .cons ?_ ?_ | exact ren_ints | exact .lf (.val _) | exact .lf (lf_ints (.inl rfl)) | exact .bp ⟨rfl, rfl⟩ | exact .bp (.inl ⟨rfl, rfl⟩) | exact .bp (.inr ⟨rfl, rfl⟩) | exact .lf (D.flat_lf rfl) | exact ren_lits rfl | exact ren_ints | exact .lf (lf_fnrp' lf_bys))) (hS) (by first | exact .val _ | exact lf_ints (.inl rfl) | exact lf_ints (.inr rfl) | exact .any | exact D.flat_lf rfl | exact .tup (lf_cons (lf_ints (.inl rfl)) (lf_cons (.val _) lf_nil)) | exact lf_fnrp' lf_bys | exact lf_ints (.inl rfl) | exact .tup (lf_cons (lf_ints (.inl rfl)) (lf_cons (lf_ints (.inl rfl)) lf_nil))) ?_
        refine n_guard_yes rfl rfl rfl (by first | (simp only [nf, Nat.beq] <;> rfl) | rfl) rfl ?_
        refine n_move rfl (by first | (simp only [nf, Nat.beq] <;> rfl) | rfl) ?_
        refine n_guard_yes rfl rfl rfl (by first | (simp only [nf, Nat.beq] <;> rfl) | rfl) rfl ?_
        refine n_move rfl (by first | (simp only [nf, Nat.beq] <;> rfl) | rfl) ?_
        refine n_guard_yes rfl rfl rfl (by first | (simp only [nf, Nat.beq] <;> rfl) | rfl) rfl ?_
        refine n_len rfl Try.underlying22 (by first | (simp only [nf, Nat.beq] <;> rfl) | rfl) (by first | rw [ints_length] | rw [List.length_map] | rfl) ?_
        refine n_guard_yes rfl rfl rfl (by first | (simp only [nf, Nat.beq] <;> rfl) | rfl) rfl ?_
        refine n_move rfl (by first | (simp only [nf, Nat.beq] <;> rfl) | rfl) ?_
        refine n_guard_yes rfl rfl rfl (by first | (simp only [nf, Nat.beq] <;> rfl) | rfl) rfl ?_
        refine n_callBoxB rfl cf88 rfl (Eq.trans (by simp only [nl] <;> rfl) (by first | (simp only [nf, Nat.beq] <;> rfl) | rfl)) (by repeat (first | exact .nil | refine .cons ?_ ?_ | exact ren_ints | exact .lf (.val _) | exact .lf (lf_ints (.inl rfl)) | exact .bp ⟨rfl, rfl⟩ | exact .bp (.inl ⟨rfl, rfl⟩) | exact .bp (.inr ⟨rfl, rfl⟩) | exact .lf (D.flat_lf rfl) | exact ren_lits rfl | exact ren_ints | exact .lf (lf_fnrp' lf_bys))) (by rfl) (by repeat (first | exact .nil | refine .cons ?_ ?_ | exact ren_ints | exact .lf (.val _) | exact .lf (lf_ints (.inl rfl)) | exact .bp ⟨rfl, rfl⟩ | exact .bp (.inl ⟨rfl, rfl⟩) | exact .bp (.inr ⟨rfl, rfl⟩) | exact .lf (D.flat_lf rfl) | exact ren_lits rfl | exact ren_ints | exact .lf (lf_fnrp' lf_bys))) (hrst) (by repeat (first | exact lf_nil | refine lf_cons ?_ ?_ | exact .val _ | exact lf_ints (.inl rfl))) (by first | exact .val _ | exact lf_ints (.inl rfl) | exact lf_ints (.inr rfl) | exact .any | exact D.flat_lf rfl | exact .tup (lf_cons (lf_ints (.inl rfl)) (lf_cons (.val _) lf_nil)) | exact lf_fnrp' lf_bys | exact lf_ints (.inl rfl) | exact .tup (lf_cons (lf_ints (.inl rfl)) (lf_cons (lf_ints (.inl rfl)) lf_nil))) (by first | (simp only [nf, Nat.beq] <;> rfl) | rfl) ?_
        refine n_guard_yes rfl rfl rfl (by first | (simp only [nf, Nat.beq] <;> rfl) | rfl) rfl ?_
        first | refine n_isub rfl (by first | (simp only [nf, Nat.beq] <;> rfl) | rfl) (by first | (simp only [nf, Nat.beq] <;> rfl) | rfl) rfl (by omega) (by omega) ?_ | refine n_ibin rfl (by first | (simp only [nf, Nat.beq] <;> rfl) | rfl) (by first | (simp only [nf, Nat.beq] <;> rfl) | rfl) rfl ?_
        refine n_guard_yes rfl rfl rfl (by first | (simp only [nf, Nat.beq] <;> rfl) | rfl) rfl ?_
        refine n_slice (h := b.length - r.2.b.length) (ys := ints .u8 (b.take (b.length - r.2.b.length))) rfl Try.underlying22 ti5 (by first | (simp only [nf, Nat.beq] <;> rfl) | rfl) (SB.some (by first | (simp only [nf, Nat.beq] <;> rfl) | rfl) (by omega)) SB.none (by omega) (by rw [ints_length]; omega) (by exact ints_one _ _) (by rw [List.drop_zero, ints_take]) ?_
        refine n_guard_yes rfl rfl rfl (by first | (simp only [nf, Nat.beq] <;> rfl) | rfl) rfl ?_
        refine n_call0B rfl cf40 rfl (Eq.trans (by simp only [nl] <;> rfl) (by first | (simp only [nf, Nat.beq] <;> rfl) | rfl)) (by repeat (first | exact .nil | refine .cons ?_ ?_ | exact ren_ints | exact .lf (.val _) | exact .lf (lf_ints (.inl rfl)) | exact .bp ⟨rfl, rfl⟩ | exact .bp (.inl ⟨rfl, rfl⟩) | exact .bp (.inr ⟨rfl, rfl⟩) | exact .lf (D.flat_lf rfl) | exact ren_lits rfl | exact ren_ints | exact .lf (lf_fnrp' lf_bys))) (hq2) (by first | exact .val _ | exact lf_ints (.inl rfl) | exact lf_ints (.inr rfl) | exact .any | exact D.flat_lf rfl | exact .tup (lf_cons (lf_ints (.inl rfl)) (lf_cons (.val _) lf_nil)) | exact lf_fnrp' lf_bys | exact lf_ints (.inl rfl) | exact .tup (lf_cons (lf_ints (.inl rfl)) (lf_cons (lf_ints (.inl rfl)) lf_nil))) ?_
        refine n_pick rfl (by first | (simp only [nf, Nat.beq] <;> rfl) | rfl) (by first | (simp only [nf, Nat.beq] <;> rfl) | rfl) ?_
        refine n_assign rfl (by first | (simp only [nf, Nat.beq] <;> rfl) | rfl) ?_
        refine AOps.nil ?_
        refine AWP.ret ?_
        refine fin_pure (.cons (rv_tmp (by first | (simp only [nf, Nat.beq] <;> rfl) | rfl)) .nil) (by first | (simp only [nf, Nat.beq] <;> rfl) | rfl) ?_
        first | exact ren_flat rfl rfl | exact ren_flat rfl (congrArg vb (by simp))
  · try simp only [nh] at hc2
    obtain rfl : p = 0 := hp0 (by cases hz : nums b with | nil => rfl | cons a l => exfalso; rw [hz] at hc2; simp at hc2; try omega)
    refine AWP.skip ?_
    refine AWP.seq ?_
    refine AWP.seq ?_
    refine AWP.anyStill (by kernel_rfl) (by kernel_rfl) ?_
    refine Walk.still (rs := [5]) (by rfl) (by first | (simp only [nf, Nat.beq] <;> rfl) | rfl) (fun base => by
        refine n_move rfl (by first | (simp only [nf, Nat.beq] <;> rfl) | rfl) ?_
        exact AOps.nil ⟨rfl, rfl, rfl⟩) ?_
    refine Walk.still (rs := [24]) (by rfl) (by first | (simp only [nf, Nat.beq] <;> rfl) | rfl) (fun base => by
        refine n_ibin rfl (by first | (simp only [nf, Nat.beq] <;> rfl) | rfl) (by first | (simp only [nf, Nat.beq] <;> rfl) | rfl) rfl ?_
        exact AOps.nil ⟨rfl, rfl, rfl⟩) ?_
    refine Walk.still (rs := [25]) (by rfl) (by first | (simp only [nf, Nat.beq] <;> rfl) | rfl) (fun base => by
        refine n_move rfl (by first | (simp only [nf, Nat.beq] <;> rfl) | rfl) ?_
        exact AOps.nil ⟨rfl, rfl, rfl⟩) ?_
    refine Walk.name (u := 26) (fun z => .val (.bool z)) (by first | (simp only [nf, Nat.beq] <;> rfl) | rfl) (fun b26 hb26 => ?_)
    refine Walk.still (rs := [5, 26]) (by rfl) (by first | (simp only [nf, Nat.beq] <;> rfl) | rfl) (fun base => by
        refine n_soft (u := 26) (E := .val (.bool b26)) (!b26) rfl rfl rfl (by first | (simp only [nf, Nat.beq] <;> rfl) | rfl) (by cases b26 <;> first | (intro _; rfl) | (intro h; exact absurd h (by decide))) (by cases b26 <;> first | (intro h; exact absurd h (by decide)) | (intro _; exact ⟨_, rfl, by first | (intro h; cases h; done) | decide | simp⟩)) (fun h => by
            cases b26 with
            | true => exact absurd h (by first | decide | simp)
            | false =>
              refine n_move rfl (by first | (simp only [nf, Nat.beq] <;> rfl) | rfl) ?_
              exact AOps.nil ⟨rfl, rfl, rfl⟩) (AOps.nil ⟨rfl, rfl, rfl⟩)) ?_
    refine Walk.still (rs := [0, 26]) (by rfl) (by first | (simp only [nf, Nat.beq] <;> rfl) | rfl) (fun base => by
        refine n_soft (u := 26) (E := .val (.bool b26)) (!b26) rfl rfl rfl (by first | (simp only [nf, Nat.beq] <;> rfl) | rfl) (by cases b26 <;> first | (intro _; rfl) | (intro h; exact absurd h (by decide))) (by cases b26 <;> first | (intro h; exact absurd h (by decide)) | (intro _; exact ⟨_, rfl, by first | (intro h; cases h; done) | decide | simp⟩)) (fun h => by
            cases b26 with
            | true => exact absurd h (by first | decide | simp)
            | false =>
              refine n_move rfl (by first | (simp only [nf, Nat.beq] <;> rfl) | rfl) ?_
              exact AOps.nil ⟨rfl, rfl, rfl⟩) (AOps.nil ⟨rfl, rfl, rfl⟩)) ?_
    refine Walk.still (rs := [28, 26]) (by rfl) (by first | (simp only [nf, Nat.beq] <;> rfl) | rfl) (fun base => by
        refine n_soft (u := 26) (E := .val (.bool b26)) (!b26) rfl rfl rfl (by first | (simp only [nf, Nat.beq] <;> rfl) | rfl) (by cases b26 <;> first | (intro _; rfl) | (intro h; exact absurd h (by decide))) (by cases b26 <;> first | (intro h; exact absurd h (by decide)) | (intro _; exact ⟨_, rfl, by first | (intro h; cases h; done) | decide | simp⟩)) (fun h => by
            cases b26 with
            | true => exact absurd h (by first | decide | simp)
            | false =>
              refine n_len rfl Try.underlying22 (by first | (simp only [nf, Nat.beq] <;> rfl) | rfl) (by first | rw [ints_length] | rw [List.length_map] | rfl) ?_
              exact AOps.nil ⟨rfl, rfl, rfl⟩) (AOps.nil ⟨rfl, rfl, rfl⟩)) ?_
    refine Walk.still (rs := [27, 29, 26]) (by rfl) (by first | (simp only [nf, Nat.beq] <;> rfl) | rfl) (fun base => by
        refine n_soft (u := 26) (E := .val (.bool b26)) (!b26) rfl rfl rfl (by first | (simp only [nf, Nat.beq] <;> rfl) | rfl) (by cases b26 <;> first | (intro _; rfl) | (intro h; exact absurd h (by decide))) (by cases b26 <;> first | (intro h; exact absurd h (by decide)) | (intro _; exact ⟨_, rfl, by first | (intro h; cases h; done) | decide | simp⟩)) (fun h => by
            cases b26 with
            | true => exact absurd h (by first | decide | simp)
            | false =>
              refine n_ibin rfl (by first | (simp only [nf, Nat.beq] <;> rfl) | rfl) (by first | (simp only [nf, Nat.beq] <;> rfl) | rfl) rfl ?_
              exact AOps.nil ⟨rfl, rfl, rfl⟩) (AOps.nil ⟨rfl, rfl, rfl⟩)) ?_
    refine Walk.still (rs := [26, 30]) (by rfl) (by first | (simp only [nf, Nat.beq] <;> rfl) | rfl) (fun base => by
        refine n_pick_or rfl (by first | (simp only [nf, Nat.beq] <;> rfl) | rfl) (fun h => by cases b26 with | true => exact absurd h (by decide) | false => exact (by first | (simp only [nf, Nat.beq] <;> rfl) | rfl)) ?_
        exact AOps.nil ⟨rfl, rfl, rfl⟩) ?_
    refine Walk.still (rs := [31]) (by rfl) (by first | (simp only [nf, Nat.beq] <;> rfl) | rfl) (fun base => by
        refine n_move rfl (by first | (simp only [nf, Nat.beq] <;> rfl) | rfl) ?_
        exact AOps.nil ⟨rfl, rfl, rfl⟩) ?_
    refine Walk.name (u := 32) (fun z => .val (.bool z)) (by first | (simp only [nf, Nat.beq] <;> rfl) | rfl) (fun b32 hb32 => ?_)
    refine Walk.still (rs := [3, 32]) (by rfl) (by first | (simp only [nf, Nat.beq] <;> rfl) | rfl) (fun base => by
        refine n_soft (u := 32) (E := .val (.bool b32)) (!b32) rfl rfl rfl (by first | (simp only [nf, Nat.beq] <;> rfl) | rfl) (by cases b32 <;> first | (intro _; rfl) | (intro h; exact absurd h (by decide))) (by cases b32 <;> first | (intro h; exact absurd h (by decide)) | (intro _; exact ⟨_, rfl, by first | (intro h; cases h; done) | decide | simp⟩)) (fun h => by
            cases b32 with
            | true => exact absurd h (by first | decide | simp)
            | false =>
              refine n_move rfl (by first | (simp only [nf, Nat.beq] <;> rfl) | rfl) ?_
              exact AOps.nil ⟨rfl, rfl, rfl⟩) (AOps.nil ⟨rfl, rfl, rfl⟩)) ?_
    refine Walk.still (rs := [33, 32]) (by rfl) (by first | (simp only [nf, Nat.beq] <;> rfl) | rfl) (fun base => by
        refine n_soft (u := 32) (E := .val (.bool b32)) (!b32) rfl rfl rfl (by first | (simp only [nf, Nat.beq] <;> rfl) | rfl) (by cases b32 <;> first | (intro _; rfl) | (intro h; exact absurd h (by decide))) (by cases b32 <;> first | (intro h; exact absurd h (by decide)) | (intro _; exact ⟨_, rfl, by first | (intro h; cases h; done) | decide | simp⟩)) (fun h => by
            cases b32 with
            | true => exact absurd h (by first | decide | simp)
            | false =>
              refine n_call0B rfl cf75 rfl (Eq.trans (by simp only [nl] <;> rfl) (by first | (simp only [nf, Nat.beq] <;> rfl) | rfl)) (by repeat (first | exact .nil | refine .cons ?_ ?_ | exact ren_ints | exact .lf (.val _) | exact .lf (lf_ints (.inl rfl)) | exact .bp ⟨rfl, rfl⟩ | exact .bp (.inl ⟨rfl, rfl⟩) | exact .bp (.inr ⟨rfl, rfl⟩) | exact .lf (D.flat_lf rfl) | exact ren_lits rfl | exact ren_ints | exact .lf (lf_fnrp' lf_bys))) (hI) (by first | exact .val _ | exact lf_ints (.inl rfl) | exact lf_ints (.inr rfl) | exact .any | exact D.flat_lf rfl | exact .tup (lf_cons (lf_ints (.inl rfl)) (lf_cons (.val _) lf_nil)) | exact lf_fnrp' lf_bys | exact lf_ints (.inl rfl) | exact .tup (lf_cons (lf_ints (.inl rfl)) (lf_cons (lf_ints (.inl rfl)) lf_nil))) ?_
              exact AOps.nil ⟨rfl, rfl, rfl⟩) (AOps.nil ⟨rfl, rfl, rfl⟩)) ?_
    refine Walk.still (rs := [0, 32]) (by rfl) (by first | (simp only [nf, Nat.beq] <;> rfl) | rfl) (fun base => by
        refine n_soft (u := 32) (E := .val (.bool b32)) (!b32) rfl rfl rfl (by first | (simp only [nf, Nat.beq] <;> rfl) | rfl) (by cases b32 <;> first | (intro _; rfl) | (intro h; exact absurd h (by decide))) (by cases b32 <;> first | (intro h; exact absurd h (by decide)) | (intro _; exact ⟨_, rfl, by first | (intro h; cases h; done) | decide | simp⟩)) (fun h => by
            cases b32 with
            | true => exact absurd h (by first | decide | simp)
            | false =>
              refine n_move rfl (by first | (simp only [nf, Nat.beq] <;> rfl) | rfl) ?_
              exact AOps.nil ⟨rfl, rfl, rfl⟩) (AOps.nil ⟨rfl, rfl, rfl⟩)) ?_
    refine Walk.still (rs := [5, 32]) (by rfl) (by first | (simp only [nf, Nat.beq] <;> rfl) | rfl) (fun base => by
        refine n_soft (u := 32) (E := .val (.bool b32)) (!b32) rfl rfl rfl (by first | (simp only [nf, Nat.beq] <;> rfl) | rfl) (by cases b32 <;> first | (intro _; rfl) | (intro h; exact absurd h (by decide))) (by cases b32 <;> first | (intro h; exact absurd h (by decide)) | (intro _; exact ⟨_, rfl, by first | (intro h; cases h; done) | decide | simp⟩)) (fun h => by
            cases b32 with
            | true => exact absurd h (by first | decide | simp)
            | false =>
              refine n_move rfl (by first | (simp only [nf, Nat.beq] <;> rfl) | rfl) ?_
              exact AOps.nil ⟨rfl, rfl, rfl⟩) (AOps.nil ⟨rfl, rfl, rfl⟩)) ?_
    refine Walk.still (rs := [35, 36, 32]) (by rfl) (by first | (simp only [nf, Nat.beq] <;> rfl) | rfl) (fun base => by
        refine n_soft (u := 32) (E := .val (.bool b32)) (!b32) rfl rfl rfl (by first | (simp only [nf, Nat.beq] <;> rfl) | rfl) (by cases b32 <;> first | (intro _; rfl) | (intro h; exact absurd h (by decide))) (by cases b32 <;> first | (intro h; exact absurd h (by decide)) | (intro _; exact ⟨_, rfl, by first | (intro h; cases h; done) | decide | simp⟩)) (fun h => by
            cases b32 with
            | true => exact absurd h (by first | decide | simp)
            | false =>
              refine n_slice rfl Try.underlying22 ti5 (by first | (simp only [nf, Nat.beq] <;> rfl) | rfl) (SB.some (by first | (simp only [nf, Nat.beq] <;> rfl) | rfl) (by first | rfl | omega)) SB.none (by first | omega | (simp only [ints_length]; omega)) (by first | omega | (simp only [ints_length]; omega) | exact Nat.le_refl _) (ints_one _ _) (by first | (simp only [ints_take, ints_drop, List.take_length, ints_length, List.drop_zero] <;> rfl) | rfl) ?_
              exact AOps.nil ⟨rfl, rfl, rfl⟩) (AOps.nil ⟨rfl, rfl, rfl⟩)) ?_
    refine Walk.still (rs := [34, 37, 32]) (by rfl) (by first | (simp only [nf, Nat.beq] <;> rfl) | rfl) (fun base => by
        refine n_soft (u := 32) (E := .val (.bool b32)) (!b32) rfl rfl rfl (by first | (simp only [nf, Nat.beq] <;> rfl) | rfl) (by cases b32 <;> first | (intro _; rfl) | (intro h; exact absurd h (by decide))) (by cases b32 <;> first | (intro h; exact absurd h (by decide)) | (intro _; exact ⟨_, rfl, by first | (intro h; cases h; done) | decide | simp⟩)) (fun h => by
            cases b32 with
            | true => exact absurd h (by first | decide | simp)
            | false =>
              refine n_call0B rfl cf40 rfl (Eq.trans (by simp only [nl] <;> rfl) (by first | (simp only [nf, Nat.beq] <;> rfl) | rfl)) (by repeat (first | exact .nil | refine .cons ?_ ?_ | exact ren_ints | exact .lf (.val _) | exact .lf (lf_ints (.inl rfl)) | exact .bp ⟨rfl, rfl⟩ | exact .bp (.inl ⟨rfl, rfl⟩) | exact .bp (.inr ⟨rfl, rfl⟩) | exact .lf (D.flat_lf rfl) | exact ren_lits rfl | exact ren_ints | exact .lf (lf_fnrp' lf_bys))) (hq1) (by first | exact .val _ | exact lf_ints (.inl rfl) | exact lf_ints (.inr rfl) | exact .any | exact D.flat_lf rfl | exact .tup (lf_cons (lf_ints (.inl rfl)) (lf_cons (.val _) lf_nil)) | exact lf_fnrp' lf_bys | exact lf_ints (.inl rfl) | exact .tup (lf_cons (lf_ints (.inl rfl)) (lf_cons (lf_ints (.inl rfl)) lf_nil))) ?_
              exact AOps.nil ⟨rfl, rfl, rfl⟩) (AOps.nil ⟨rfl, rfl, rfl⟩)) ?_
    refine Walk.still (rs := [38, 32]) (by rfl) (by first | (simp only [nf, Nat.beq] <;> rfl) | rfl) (fun base => by
        refine n_soft (u := 32) (E := .val (.bool b32)) (!b32) rfl rfl rfl (by first | (simp only [nf, Nat.beq] <;> rfl) | rfl) (by cases b32 <;> first | (intro _; rfl) | (intro h; exact absurd h (by decide))) (by cases b32 <;> first | (intro h; exact absurd h (by decide)) | (intro _; exact ⟨_, rfl, by first | (intro h; cases h; done) | decide | simp⟩)) (fun h => by
            cases b32 with
            | true => exact absurd h (by first | decide | simp)
            | false =>
              refine n_not rfl (by first | (simp only [nf, Nat.beq] <;> rfl) | rfl) rfl ?_
              exact AOps.nil ⟨rfl, rfl, rfl⟩) (AOps.nil ⟨rfl, rfl, rfl⟩)) ?_
    refine Walk.still (rs := [32, 39]) (by rfl) (by first | (simp only [nf, Nat.beq] <;> rfl) | rfl) (fun base => by
        refine n_pick_or rfl (by first | (simp only [nf, Nat.beq] <;> rfl) | rfl) (fun h => by cases b32 with | true => exact absurd h (by decide) | false => exact (by first | (simp only [nf, Nat.beq] <;> rfl) | rfl)) ?_
        exact AOps.nil ⟨rfl, rfl, rfl⟩) ?_
    subst hb26
    subst hb32
    refine Walk.done ?_
    refine AWP.cond (by first | (simp only [nf, Nat.beq] <;> rfl) | rfl) (fun hc5 => ?_) (fun hc5 => ?_)
    · try simp only [nh] at hc5
      exfalso
      simp at hc5
      try omega
    · try simp only [nh] at hc5
      refine AWP.skip ?_
      refine AWP.seq ?_
      refine AWP.region ?_
      refine n_move rfl (by first | (simp only [nf, Nat.beq] <;> rfl) | rfl) ?_
      refine n_callNewB rfl cf84 rfl (Eq.trans (by simp only [nl] <;> rfl) (by first | (simp only [nf, Nat.beq] <;> rfl) | rfl)) (by repeat (first | exact .nil | refine .cons ?_ ?_ | exact ren_ints | exact .lf (.val _) | exact .lf (lf_ints (.inl rfl)) | exact .bp ⟨rfl, rfl⟩ | exact .bp (.inl ⟨rfl, rfl⟩) | exact .bp (.inr ⟨rfl, rfl⟩) | exact .lf (D.flat_lf rfl) | exact ren_lits rfl | exact ren_ints | exact .lf (lf_fnrp' lf_bys))) (u_open _ (by assumption)) (by repeat (first | exact lf_nil | refine lf_cons ?_ ?_ | exact .val _ | exact lf_ints (.inl rfl))) rfl (by first | (simp only [nf, Nat.beq] <;> rfl) | rfl) ?_
      refine n_assign rfl (by first | (simp only [nf, Nat.beq] <;> rfl) | rfl) ?_
      refine AOps.nil ?_
      refine AWP.seq ?_
      refine AWP.region ?_
      refine n_move rfl (by first | (simp only [nf, Nat.beq] <;> rfl) | rfl) ?_
      refine n_move rfl (by first | (simp only [nf, Nat.beq] <;> rfl) | rfl) ?_
      refine n_len rfl Try.underlying22 (by first | (simp only [nf, Nat.beq] <;> rfl) | rfl) (by first | rw [ints_length] | rw [List.length_map] | rfl) ?_
      refine n_callBoxB rfl cf87 rfl (Eq.trans (by simp only [nl] <;> rfl) (by first | (simp only [nf, Nat.beq] <;> rfl) | rfl)) (by repeat (first | exact .nil | refine .cons ?_ ?_ | exact ren_ints | exact .lf (.val _) | exact .lf (lf_ints (.inl rfl)) | exact .bp ⟨rfl, rfl⟩ | exact .bp (.inl ⟨rfl, rfl⟩) | exact .bp (.inr ⟨rfl, rfl⟩) | exact .lf (D.flat_lf rfl) | exact ren_lits rfl | exact ren_ints | exact .lf (lf_fnrp' lf_bys))) (by rfl) (by repeat (first | exact .nil | refine .cons ?_ ?_ | exact ren_ints | exact .lf (.val _) | exact .lf (lf_ints (.inl rfl)) | exact .bp ⟨rfl, rfl⟩ | exact .bp (.inl ⟨rfl, rfl⟩) | exact .bp (.inr ⟨rfl, rfl⟩) | exact .lf (D.flat_lf rfl) | exact ren_lits rfl | exact ren_ints | exact .lf (lf_fnrp' lf_bys))) (c1) (by repeat (first | exact lf_nil | refine lf_cons ?_ ?_ | exact .val _ | exact lf_ints (.inl rfl))) (by first | exact .val _ | exact lf_ints (.inl rfl) | exact lf_ints (.inr rfl) | exact .any | exact D.flat_lf rfl | exact .tup (lf_cons (lf_ints (.inl rfl)) (lf_cons (.val _) lf_nil)) | exact lf_fnrp' lf_bys | exact lf_ints (.inl rfl) | exact .tup (lf_cons (lf_ints (.inl rfl)) (lf_cons (lf_ints (.inl rfl)) lf_nil))) (by first | (simp only [nf, Nat.beq] <;> rfl) | rfl) ?_
      refine n_assign rfl (by first | (simp only [nf, Nat.beq] <;> rfl) | rfl) ?_
      refine AOps.nil ?_
      refine AWP.seq ?_
      refine AWP.region ?_
      refine n_move rfl (by first | (simp only [nf, Nat.beq] <;> rfl) | rfl) ?_
      refine n_callBoxB rfl cf86 rfl (Eq.trans (by simp only [nl] <;> rfl) (by first | (simp only [nf, Nat.beq] <;> rfl) | rfl)) (by repeat (first | exact .nil | refine .cons ?_ ?_ | exact ren_ints | exact .lf (.val _) | exact .lf (lf_ints (.inl rfl)) | exact .bp ⟨rfl, rfl⟩ | exact .bp (.inl ⟨rfl, rfl⟩) | exact .bp (.inr ⟨rfl, rfl⟩) | exact .lf (D.flat_lf rfl) | exact ren_lits rfl | exact ren_ints | exact .lf (lf_fnrp' lf_bys))) (by rfl) (by repeat (first | exact .nil | refine .cons ?_ ?_ | exact ren_ints | exact .lf (.val _) | exact .lf (lf_ints (.inl rfl)) | exact .bp ⟨rfl, rfl⟩ | exact .bp (.inl ⟨rfl, rfl⟩) | exact .bp (.inr ⟨rfl, rfl⟩) | exact .lf (D.flat_lf rfl) | exact ren_lits rfl | exact ren_ints | exact .lf (lf_fnrp' lf_bys))) (Rd.U_err _) (by repeat (first | exact lf_nil | refine lf_cons ?_ ?_ | exact .val _ | exact lf_ints (.inl rfl))) (by first | exact .val _ | exact lf_ints (.inl rfl) | exact lf_ints (.inr rfl) | exact .any | exact D.flat_lf rfl | exact .tup (lf_cons (lf_ints (.inl rfl)) (lf_cons (.val _) lf_nil)) | exact lf_fnrp' lf_bys | exact lf_ints (.inl rfl) | exact .tup (lf_cons (lf_ints (.inl rfl)) (lf_cons (lf_ints (.inl rfl)) lf_nil))) (by first | (simp only [nf, Nat.beq] <;> rfl) | rfl) ?_
      refine n_ibin rfl (by first | (simp only [nf, Nat.beq] <;> rfl) | rfl) (by first | (simp only [nf, Nat.beq] <;> rfl) | rfl) rfl ?_
      refine n_move rfl (by first | (simp only [nf, Nat.beq] <;> rfl) | rfl) ?_
      refine AOps.split (u := 50) (by first | (simp only [nf, Nat.beq] <;> rfl) | rfl) (fun hg6 => ?_) (fun hg6 => ?_)
      · try simp only [nh] at hg6
        refine n_guard_no rfl rfl rfl (by first | (simp only [nf, Nat.beq] <;> rfl) | rfl) rfl ?_
        refine n_guard_no rfl rfl rfl (by first | (simp only [nf, Nat.beq] <;> rfl) | rfl) rfl ?_
        refine n_guard_no rfl rfl rfl (by first | (simp only [nf, Nat.beq] <;> rfl) | rfl) rfl ?_
        refine n_guard_no rfl rfl rfl (by first | (simp only [nf, Nat.beq] <;> rfl) | rfl) rfl ?_
        refine n_guard_no rfl rfl rfl (by first | (simp only [nf, Nat.beq] <;> rfl) | rfl) rfl ?_
        refine n_guard_no rfl rfl rfl (by first | (simp only [nf, Nat.beq] <;> rfl) | rfl) rfl ?_
        refine n_guard_no rfl rfl rfl (by first | (simp only [nf, Nat.beq] <;> rfl) | rfl) rfl ?_
        refine n_guard_no rfl rfl rfl (by first | (simp only [nf, Nat.beq] <;> rfl) | rfl) rfl ?_
        refine n_guard_no rfl rfl rfl (by first | (simp only [nf, Nat.beq] <;> rfl) | rfl) rfl ?_
        refine n_guard_no rfl rfl rfl (by first | (simp only [nf, Nat.beq] <;> rfl) | rfl) rfl ?_
        refine n_pick rfl (by first | (simp only [nf, Nat.beq] <;> rfl) | rfl) (by first | (simp only [nf, Nat.beq] <;> rfl) | rfl) ?_
        refine n_assign rfl (by first | (simp only [nf, Nat.beq] <;> rfl) | rfl) ?_
        refine AOps.nil ?_
        refine AWP.ret ?_
        refine fin_pure (.cons (rv_tmp (by first | (simp only [nf, Nat.beq] <;> rfl) | rfl)) .nil) (by first | (simp only [nf, Nat.beq] <;> rfl) | rfl) ?_
        first | exact ren_flat rfl rfl | exact ren_flat rfl (congrArg vb (by simp))
      · try simp only [nh] at hg6
        have he : r.2.e = 0 := by simpa using hg6
        have hi2 : b = form (r.1.length : Int) ++ (r.1 ++ r.2.b) := (hin he).2
        have hi3 := congrArg List.length hi2
        simp only [List.length_append] at hi3
        have hrs : Up.rest r.2 = (r.2.b.length : Int) := by unfold Up.rest; rw [if_pos he]
        have htk : [] ++ forms [(r.1.length : Int)] ++ r.1 = b.take (b.length - r.2.b.length) := by have h1 : b.length - r.2.b.length = (form (r.1.length : Int) ++ r.1).length := (by rw [List.length_append]; omega); have h3 := congrArg (List.take (form (r.1.length : Int) ++ r.1).length) hi2; rw [← List.append_assoc, List.take_left] at h3; rw [h1, h3, List.nil_append, forms_one]
        have hrst := u_rest r.2.b r.2.e
        rw [show Up.rest ⟨r.2.b, r.2.e⟩ = (r.2.b.length : Int) from hrs] at hrst
        have hS := own_ro (p_str [] r.1 (by simp) okr3) htk
        have hb2 : Byt (b.take (b.length - r.2.b.length)) := hb.take _
        have hq2 := b_equal _ _ hb2 hb2
        rw [decide_eq_true rfl] at hq2
        refine n_guard_yes rfl rfl rfl (by first | (simp only [nf, Nat.beq] <;> rfl) | rfl) rfl ?_
        refine n_move rfl (by first | (simp only [nf, Nat.beq] <;> rfl) | rfl) ?_
        refine n_guard_yes rfl rfl rfl (by first | (simp only [nf, Nat.beq] <;> rfl) | rfl) rfl ?_
        refine n_call0B rfl cf77 rfl (Eq.trans (by simp only [nl] <;> rfl) (by first | (simp only [nf, Nat.beq] <;> rfl) | rfl)) (by repeat (first | exact .nil | refine .cons ?_ ?_ | exact ren_ints | exact .lf (.val _) | exact .lf (lf_ints (.inl rfl)) | exact .bp ⟨rfl, rfl⟩ | exact .bp (.inl ⟨rfl, rfl⟩) | exact .bp (.inr ⟨rfl, rfl⟩) | exact .lf (D.flat_lf rfl) | exact ren_lits rfl | exact ren_ints | exact .lf (lf_fnrp' lf_bys))) (hS) (by first | exact .val _ | exact lf_ints (.inl rfl) | exact lf_ints (.inr rfl) | exact .any | exact D.flat_lf rfl | exact .tup (lf_cons (lf_ints (.inl rfl)) (lf_cons (.val _) lf_nil)) | exact lf_fnrp' lf_bys | exact lf_ints (.inl rfl) | exact .tup (lf_cons (lf_ints (.inl rfl)) (lf_cons (lf_ints (.inl rfl)) lf_nil))) ?_
        refine n_guard_yes rfl rfl rfl (by first | (simp only [nf, Nat.beq] <;> rfl) | rfl) rfl ?_
        refine n_move rfl (by first | (simp only [nf, Nat.beq] <;> rfl) | rfl) ?_
        refine n_guard_yes rfl rfl rfl (by first | (simp only [nf, Nat.beq] <;> rfl) | rfl) rfl ?_
        refine n_move rfl (by first | (simp only [nf, Nat.beq] <;> rfl) | rfl) ?_
        refine n_guard_yes rfl rfl rfl (by first | (simp only [nf, Nat.beq] <;> rfl) | rfl) rfl ?_
        refine n_len rfl Try.underlying22 (by first | (simp only [nf, Nat.beq] <;> rfl) | rfl) (by first | rw [ints_length] | rw [List.length_map] | rfl) ?_
        refine n_guard_yes rfl rfl rfl (by first | (simp only [nf, Nat.beq] <;> rfl) | rfl) rfl ?_
        refine n_move rfl (by first | (simp only [nf, Nat.beq] <;> rfl) | rfl) ?_
        refine n_guard_yes rfl rfl rfl (by first | (simp only [nf, Nat.beq] <;> rfl) | rfl) rfl ?_
        refine n_callBoxB rfl cf88 rfl (Eq.trans (by simp only [nl] <;> rfl) (by first | (simp only [nf, Nat.beq] <;> rfl) | rfl)) (by repeat (first | exact .nil | refine .cons ?_ ?_ | exact ren_ints | exact .lf (.val _) | exact .lf (lf_ints (.inl rfl)) | exact .bp ⟨rfl, rfl⟩ | exact .bp (.inl ⟨rfl, rfl⟩) | exact .bp (.inr ⟨rfl, rfl⟩) | exact .lf (D.flat_lf rfl) | exact ren_lits rfl | exact ren_ints | exact .lf (lf_fnrp' lf_bys))) (by rfl) (by repeat (first | exact .nil | refine .cons ?_ ?_ | exact ren_ints | exact .lf (.val _) | exact .lf (lf_ints (.inl rfl)) | exact .bp ⟨rfl, rfl⟩ | exact .bp (.inl ⟨rfl, rfl⟩) | exact .bp (.inr ⟨rfl, rfl⟩) | exact .lf (D.flat_lf rfl) | exact ren_lits rfl | exact ren_ints | exact .lf (lf_fnrp' lf_bys))) (hrst) (by repeat (first | exact lf_nil | refine lf_cons ?_ ?_ | exact .val _ | exact lf_ints (.inl rfl))) (by first | exact .val _ | exact lf_ints (.inl rfl) | exact lf_ints (.inr rfl) | exact .any | exact D.flat_lf rfl | exact .tup (lf_cons (lf_ints (.inl rfl)) (lf_cons (.val _) lf_nil)) | exact lf_fnrp' lf_bys | exact lf_ints (.inl rfl) | exact .tup (lf_cons (lf_ints (.inl rfl)) (lf_cons (lf_ints (.inl rfl)) lf_nil))) (by first | (simp only [nf, Nat.beq] <;> rfl) | rfl) ?_
        refine n_guard_yes rfl rfl rfl (by first | (simp only [nf, Nat.beq] <;> rfl) | rfl) rfl ?_
        first | refine n_isub rfl (by first | (simp only [nf, Nat.beq] <;> rfl) | rfl) (by first | (simp only [nf, Nat.beq] <;> rfl) | rfl) rfl (by omega) (by omega) ?_ | refine n_ibin rfl (by first | (simp only [nf, Nat.beq] <;> rfl) | rfl) (by first | (simp only [nf, Nat.beq] <;> rfl) | rfl) rfl ?_
        refine n_guard_yes rfl rfl rfl (by first | (simp only [nf, Nat.beq] <;> rfl) | rfl) rfl ?_
        refine n_slice (h := b.length - r.2.b.length) (ys := ints .u8 (b.take (b.length - r.2.b.length))) rfl Try.underlying22 ti5 (by first | (simp only [nf, Nat.beq] <;> rfl) | rfl) (SB.some (by first | (simp only [nf, Nat.beq] <;> rfl) | rfl) (by omega)) SB.none (by omega) (by rw [ints_length]; omega) (by exact ints_one _ _) (by rw [List.drop_zero, ints_take]) ?_
        refine n_guard_yes rfl rfl rfl (by first | (simp only [nf, Nat.beq] <;> rfl) | rfl) rfl ?_
        refine n_call0B rfl cf40 rfl (Eq.trans (by simp only [nl] <;> rfl) (by first | (simp only [nf, Nat.beq] <;> rfl) | rfl)) (by repeat (first | exact .nil | refine .cons ?_ ?_ | exact ren_ints | exact .lf (.val _) | exact .lf (lf_ints (.inl rfl)) | exact .bp ⟨rfl, rfl⟩ | exact .bp (.inl ⟨rfl, rfl⟩) | exact .bp (.inr ⟨rfl, rfl⟩) | exact .lf (D.flat_lf rfl) | exact ren_lits rfl | exact ren_ints | exact .lf (lf_fnrp' lf_bys))) (hq2) (by first | exact .val _ | exact lf_ints (.inl rfl) | exact lf_ints (.inr rfl) | exact .any | exact D.flat_lf rfl | exact .tup (lf_cons (lf_ints (.inl rfl)) (lf_cons (.val _) lf_nil)) | exact lf_fnrp' lf_bys | exact lf_ints (.inl rfl) | exact .tup (lf_cons (lf_ints (.inl rfl)) (lf_cons (lf_ints (.inl rfl)) lf_nil))) ?_
        refine n_pick rfl (by first | (simp only [nf, Nat.beq] <;> rfl) | rfl) (by first | (simp only [nf, Nat.beq] <;> rfl) | rfl) ?_
        refine n_assign rfl (by first | (simp only [nf, Nat.beq] <;> rfl) | rfl) ?_
        refine AOps.nil ?_
        refine AWP.ret ?_
        refine fin_pure (.cons (rv_tmp (by first | (simp only [nf, Nat.beq] <;> rfl) | rfl)) .nil) (by first | (simp only [nf, Nat.beq] <;> rfl) | rfl) ?_
        first | exact ren_flat rfl rfl | exact ren_flat rfl (congrArg vb (by simp))

end Go.Proofs.Ytanfmpkjcoolmaa.Nu
