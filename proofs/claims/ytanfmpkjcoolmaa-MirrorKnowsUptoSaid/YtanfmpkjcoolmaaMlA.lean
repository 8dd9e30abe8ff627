/- The walks of the laws of chapter 21. -/
import Derived.Test.YtanfmpkjcoolmaaMiB
import Derived.Test.YtanfmpkjcoolmaaMirrorLawPlain
import Derived.KernelRfl
set_option linter.unusedVariables false
set_option linter.unusedSimpArgs false
namespace Go.Proofs.Ytanfmpkjcoolmaa.Ml
open Go Go.Abs Go.Abs.Sd Go.Proofs.Ytanfmpkjcoolmaa.Mi
attribute [local irreducible] AWP AOps Does

theorem cf54 : CF Try.prog 54 := ⟨_, Try.func54, by kernel_rfl, by kernel_rfl⟩
theorem cf56 : CF Try.prog 56 := ⟨_, Try.func56, by kernel_rfl, by kernel_rfl⟩
theorem cf57 : CF Try.prog 57 := ⟨_, Try.func57, by kernel_rfl, by kernel_rfl⟩
theorem cf58 : CF Try.prog 58 := ⟨_, Try.func58, by kernel_rfl, by kernel_rfl⟩
theorem cf60 : CF Try.prog 60 := ⟨_, Try.func60, by kernel_rfl, by kernel_rfl⟩
theorem cf61 : CF Try.prog 61 := ⟨_, Try.func61, by kernel_rfl, by kernel_rfl⟩
theorem cf62 : CF Try.prog 62 := ⟨_, Try.func62, by kernel_rfl, by kernel_rfl⟩
theorem cf64 : CF Try.prog 64 := ⟨_, Try.func64, by kernel_rfl, by kernel_rfl⟩
theorem cf65 : CF Try.prog 65 := ⟨_, Try.func65, by kernel_rfl, by kernel_rfl⟩
theorem cf66 : CF Try.prog 66 := ⟨_, Try.func66, by kernel_rfl, by kernel_rfl⟩
theorem cf67 : CF Try.prog 67 := ⟨_, Try.func67, by kernel_rfl, by kernel_rfl⟩
theorem cf68 : CF Try.prog 68 := ⟨_, Try.func68, by kernel_rfl, by kernel_rfl⟩
theorem cf69 : CF Try.prog 69 := ⟨_, Try.func69, by kernel_rfl, by kernel_rfl⟩
theorem cf70 : CF Try.prog 70 := ⟨_, Try.func70, by kernel_rfl, by kernel_rfl⟩
theorem cf71 : CF Try.prog 71 := ⟨_, Try.func71, by kernel_rfl, by kernel_rfl⟩
theorem fd75_0 : FD Try.prog 75 0 3 0 := ⟨_, _, Try.underlying75, rfl, rfl, rfl⟩
theorem fd75_1 : FD Try.prog 75 1 2 1 := ⟨_, _, Try.underlying75, rfl, rfl, rfl⟩
theorem fd75_2 : FD Try.prog 75 2 2 2 := ⟨_, _, Try.underlying75, rfl, rfl, rfl⟩
theorem ti2 : TI Try.prog 2 1 false := ⟨by kernel_rfl, by kernel_rfl⟩
theorem ti3 : TI Try.prog 3 1 false := ⟨by kernel_rfl, by kernel_rfl⟩
theorem ti59 : TI Try.prog 59 4 true := ⟨by kernel_rfl, by kernel_rfl⟩
theorem ti75 : TI Try.prog 75 3 true := ⟨by kernel_rfl, by kernel_rfl⟩
theorem zi59 : (Try.prog.info? 59).map (·.zero) = some (some (.agg #[.int .i64 0, .int .i64 0, .int .i64 0, .int .i64 0])) := by kernel_rfl
theorem zi75 : (Try.prog.info? 75).map (·.zero) = some (some (.agg #[.int .i64 0, .int .i64 0, .int .i64 0])) := by kernel_rfl

set_option maxHeartbeats 4000000 in
theorem Knows_calls (s : Sd) (ks : List Kn) (hb : ks.length ≤ 1048576) : Does Try.prog 8 [sz s, (.sl none (ks.map kz) .ro)] [] (vb true) [] := by
  refine Does.of_body (rvs := [.tmp 4]) Try.func8 rfl rfl rfl rfl ?_
  refine AWP.seq ?_
  refine AWP.region ?_
  refine n_box rfl (by first | (simp only [nf, Nat.beq] <;> rfl) | rfl) rfl rfl (by first | (simp only [nf, Nat.beq] <;> rfl) | rfl) (by first | (simp only [nf, Nat.beq] <;> rfl) | rfl) ?_
  refine n_assign rfl (by first | (simp only [nf, Nat.beq] <;> rfl) | rfl) ?_
  refine AOps.nil ?_
  refine AWP.seq ?_
  refine AWP.seq ?_
  refine AWP.region ?_
  refine n_call0 rfl cf54 rfl (Eq.trans (by simp only [nl] <;> rfl) (by first | (simp only [nf, Nat.beq] <;> rfl) | rfl)) (live) (by repeat (first | exact .nil | refine .cons ?_ ?_ | exact ren_ints | exact .lf (.val _) | exact .lf (lf_ints (.inl rfl)) | exact .bp ⟨rfl, rfl⟩ | exact .lf (D.flat_lf rfl))) (by first | exact .val _ | exact lf_ints (.inl rfl) | exact lf_ints (.inr rfl) | exact .any | exact D.flat_lf rfl) ?_
  refine n_not rfl (by first | (simp only [nf, Nat.beq] <;> rfl) | rfl) rfl ?_
  refine AOps.nil ?_
  refine AWP.cond_false (by first | (simp only [nf, Nat.beq] <;> rfl) | rfl) ?_
  refine AWP.skip ?_
  refine AWP.seq ?_
  refine AWP.seq ?_
  refine AWP.region ?_
  refine n_move rfl (by first | (simp only [nf, Nat.beq] <;> rfl) | rfl) ?_
  refine n_len rfl Try.underlying73 (by first | (simp only [nf, Nat.beq] <;> rfl) | rfl) (by first | rw [ints_length] | rfl) ?_
  refine n_move rfl (by first | (simp only [nf, Nat.beq] <;> rfl) | rfl) ?_
  refine AOps.nil ?_
  refine AWP.block ?_
  refine AWP.loopX 1 (α := Nat × Sd) (fun p => p.1 ≤ ks.length) (fun p => put (put (put (put empty 2 (.bp 0 0)) 18 (.sl none (ks.map kz) .ro)) 19 (vi (ks.length : Int))) 20 (vi (p.1 : Int))) (fun p => [.box [vi (p.2).e, vi (p.2).y, vi (p.2).a, vi (p.2).n]]) (fun p => ks.length - p.1) (0, s) ?_ ?_ ?_ ?_ ?_ ?_ ?_
  · exact Nat.zero_le _
  · (repeat (first | exact FLe.empty _ | refine FLe.put ?_ ?_)) <;> first | (simp only [nf, Nat.beq]; done) | rfl | (try simp only [nf, Nat.beq]; simp)
  · rfl
  · exact fun _ => rfl
  · intro p hp; (try dsimp only); (repeat' (refine un_put ?_ ?_)) <;> first | exact un_empty | exact .bp (by decide) | exact .lf (D.flat_lf rfl) | exact .lf (lf_ints (.inl rfl)) | exact .lf (lf_map (fun _ => rfl) (.inl rfl))
  · intro p hp; (try dsimp only); repeat' (first | exact un_nil | refine un_cons ?_ ?_ | exact un_box rfl)
  · rintro ⟨i, s⟩ hi
    try dsimp only at hi ⊢
    refine AWP.seq ?_
    refine AWP.region ?_
    refine n_ibin rfl (by first | (simp only [nf, Nat.beq] <;> rfl) | rfl) (by first | (simp only [nf, Nat.beq] <;> rfl) | rfl) rfl ?_
    refine AOps.nil ?_
    refine AWP.seq ?_
    refine AWP.cond (by first | (simp only [nf, Nat.beq] <;> rfl) | rfl) (fun hc2 => ?_) (fun hc2 => ?_)
    · try simp only [nh] at hc2
      obtain ⟨k, hk⟩ : ∃ k, ks[i]? = some k := ⟨_, List.getElem?_eq_getElem (by omega)⟩
      refine AWP.skip ?_
      refine AWP.seq ?_
      refine AWP.block ?_
      refine AWP.seq ?_
      refine AWP.region ?_
      refine n_indexAddr rfl Try.underlying73 ti75 rfl (by first | (simp only [nf, Nat.beq] <;> rfl) | rfl) (by first | (simp only [nf, Nat.beq] <;> rfl) | rfl) (by omega) (by first | exact ints_at _ _ _ (by omega) | exact ints_get _ _ _ (by omega) | exact map_at _ (by assumption) | rfl) rfl ?_
      refine n_load rfl ti75 (by first | (simp only [nf, Nat.beq] <;> rfl) | rfl) (by first | (simp only [nf, Nat.beq] <;> rfl) | rfl) rfl (by first | (simp only [nf, Nat.beq] <;> rfl) | rfl) ?_
      refine n_alloc rfl zi75 rfl (by first | (simp only [nf, Nat.beq] <;> rfl) | rfl) (by first | (simp only [nf, Nat.beq] <;> rfl) | rfl) ?_
      refine n_store ti75 (by first | (simp only [nf, Nat.beq] <;> rfl) | rfl) rfl (by first | (simp only [nf, Nat.beq] <;> rfl) | rfl) rfl (by first | (simp only [nf, Nat.beq] <;> rfl) | rfl) rfl rfl rfl (by first | (simp only [nf, Nat.beq] <;> rfl) | rfl) ?_
      refine AOps.nil ?_
      refine AWP.seq ?_
      refine AWP.reserve _ (by first | (simp only [nf, Nat.beq] <;> rfl) | rfl) ?_
      refine AWP.reserve _ (by first | (simp only [nf, Nat.beq] <;> rfl) | rfl) ?_
      refine AWP.anyT [2, 3, 4, 5] (fun p => match p with | [false, false, false, false] => [.box [vi (s).e, vi (s).y, vi (s).a, vi (s).n], .box [vi k.d, vi k.a, vi k.b], .dead, .dead] | [true, false, false, false] => [.box [vi (s).e, vi (s).y, vi (s).a, vi (s).n], .box [vi k.d, vi k.a, vi k.b], .box [vi 0, vi 0, vi 0, vi 0], .dead] | [false, true, false, false] => [.box [vi (s).e, vi (s).y, vi (s).a, vi (s).n], .box [vi k.d, vi k.a, vi k.b], .dead, .box [vi 0, vi 0, vi 0, vi 0]] | [true, true, false, false] => [.box [vi (s).e, vi (s).y, vi (s).a, vi (s).n], .box [vi k.d, vi k.a, vi k.b], .box [vi 0, vi 0, vi 0, vi 0], .box [vi 0, vi 0, vi 0, vi 0]] | [true, true, true, false] => [.box [vi (s).e, vi (s).y, vi (s).a, vi (s).n], .box [vi k.d, vi k.a, vi k.b], .box [vi (s).e, vi (s).y, vi (s).a, vi (s).n], .box [vi 0, vi 0, vi 0, vi 0]] | [true, true, true, true] => [.box [vi (s).e, vi (s).y, vi (s).a, vi (s).n], .box [vi k.d, vi k.a, vi k.b], .box [vi (s).e, vi (s).y, vi (s).a, vi (s).n], .box [vi (s).e, vi (s).y, vi (s).a, vi (s).n]] | _ => []) (by kernel_rfl) (by kernel_rfl) rfl rfl ?_
      refine Walk.cases [([false, false, false, false], [.box [vi (s).e, vi (s).y, vi (s).a, vi (s).n], .box [vi k.d, vi k.a, vi k.b], .dead, .dead], [.box [vi (s).e, vi (s).y, vi (s).a, vi (s).n], .box [vi k.d, vi k.a, vi k.b], .dead, .dead]), ([false, true, false, false], [.box [vi (s).e, vi (s).y, vi (s).a, vi (s).n], .box [vi k.d, vi k.a, vi k.b], .dead, .box [vi 0, vi 0, vi 0, vi 0]], [.box [vi (s).e, vi (s).y, vi (s).a, vi (s).n], .box [vi k.d, vi k.a, vi k.b], .dead, .box [vi 0, vi 0, vi 0, vi 0]]), ([true, false, false, false], [.box [vi (s).e, vi (s).y, vi (s).a, vi (s).n], .box [vi k.d, vi k.a, vi k.b], .box [vi 0, vi 0, vi 0, vi 0], .dead], [.box [vi (s).e, vi (s).y, vi (s).a, vi (s).n], .box [vi k.d, vi k.a, vi k.b], .box [vi 0, vi 0, vi 0, vi 0], .dead]), ([true, true, false, false], [.box [vi (s).e, vi (s).y, vi (s).a, vi (s).n], .box [vi k.d, vi k.a, vi k.b], .box [vi 0, vi 0, vi 0, vi 0], .box [vi 0, vi 0, vi 0, vi 0]], [.box [vi (s).e, vi (s).y, vi (s).a, vi (s).n], .box [vi k.d, vi k.a, vi k.b], .box [vi 0, vi 0, vi 0, vi 0], .box [vi 0, vi 0, vi 0, vi 0]])] (by rfl) (by kernel_rfl) (rs := [2]) (by rfl) (by first | (simp only [nf, Nat.beq] <;> rfl) | rfl) (fun base => ⟨
          ⟨rfl, rfl, by
            refine n_load rfl ti59 (by first | (simp only [nf, Nat.beq] <;> rfl) | rfl) (by first | (simp only [nf, Nat.beq] <;> rfl) | rfl) rfl (by first | (simp only [nf, Nat.beq] <;> rfl) | rfl) ?_
            exact AOps.nil ⟨rfl, rfl, rfl⟩⟩,
          ⟨rfl, rfl, by
            refine n_load rfl ti59 (by first | (simp only [nf, Nat.beq] <;> rfl) | rfl) (by first | (simp only [nf, Nat.beq] <;> rfl) | rfl) rfl (by first | (simp only [nf, Nat.beq] <;> rfl) | rfl) ?_
            exact AOps.nil ⟨rfl, rfl, rfl⟩⟩,
          ⟨rfl, rfl, by
            refine n_load rfl ti59 (by first | (simp only [nf, Nat.beq] <;> rfl) | rfl) (by first | (simp only [nf, Nat.beq] <;> rfl) | rfl) rfl (by first | (simp only [nf, Nat.beq] <;> rfl) | rfl) ?_
            exact AOps.nil ⟨rfl, rfl, rfl⟩⟩,
          ⟨rfl, rfl, by
            refine n_load rfl ti59 (by first | (simp only [nf, Nat.beq] <;> rfl) | rfl) (by first | (simp only [nf, Nat.beq] <;> rfl) | rfl) rfl (by first | (simp only [nf, Nat.beq] <;> rfl) | rfl) ?_
            exact AOps.nil ⟨rfl, rfl, rfl⟩⟩,
          trivial⟩) ?_
      refine Walk.cases [([false, false, false, false], [.box [vi (s).e, vi (s).y, vi (s).a, vi (s).n], .box [vi k.d, vi k.a, vi k.b], .dead, .dead], [.box [vi (s).e, vi (s).y, vi (s).a, vi (s).n], .box [vi k.d, vi k.a, vi k.b], .dead, .dead]), ([false, true, false, false], [.box [vi (s).e, vi (s).y, vi (s).a, vi (s).n], .box [vi k.d, vi k.a, vi k.b], .dead, .box [vi 0, vi 0, vi 0, vi 0]], [.box [vi (s).e, vi (s).y, vi (s).a, vi (s).n], .box [vi k.d, vi k.a, vi k.b], .dead, .box [vi 0, vi 0, vi 0, vi 0]]), ([true, false, false, false], [.box [vi (s).e, vi (s).y, vi (s).a, vi (s).n], .box [vi k.d, vi k.a, vi k.b], .box [vi 0, vi 0, vi 0, vi 0], .dead], [.box [vi (s).e, vi (s).y, vi (s).a, vi (s).n], .box [vi k.d, vi k.a, vi k.b], .box [vi 0, vi 0, vi 0, vi 0], .dead]), ([true, true, false, false], [.box [vi (s).e, vi (s).y, vi (s).a, vi (s).n], .box [vi k.d, vi k.a, vi k.b], .box [vi 0, vi 0, vi 0, vi 0], .box [vi 0, vi 0, vi 0, vi 0]], [.box [vi (s).e, vi (s).y, vi (s).a, vi (s).n], .box [vi k.d, vi k.a, vi k.b], .box [vi 0, vi 0, vi 0, vi 0], .box [vi 0, vi 0, vi 0, vi 0]]), ([true, true, true, false], [.box [vi (s).e, vi (s).y, vi (s).a, vi (s).n], .box [vi k.d, vi k.a, vi k.b], .box [vi (s).e, vi (s).y, vi (s).a, vi (s).n], .box [vi 0, vi 0, vi 0, vi 0]], [.box [vi (s).e, vi (s).y, vi (s).a, vi (s).n], .box [vi k.d, vi k.a, vi k.b], .box [vi (s).e, vi (s).y, vi (s).a, vi (s).n], .box [vi 0, vi 0, vi 0, vi 0]])] (by rfl) (by kernel_rfl) (rs := [2]) (by rfl) (by first | (simp only [nf, Nat.beq] <;> rfl) | rfl) (fun base => ⟨
          ⟨rfl, rfl, by
            refine n_load rfl ti59 (by first | (simp only [nf, Nat.beq] <;> rfl) | rfl) (by first | (simp only [nf, Nat.beq] <;> rfl) | rfl) rfl (by first | (simp only [nf, Nat.beq] <;> rfl) | rfl) ?_
            exact AOps.nil ⟨rfl, rfl, rfl⟩⟩,
          ⟨rfl, rfl, by
            refine n_load rfl ti59 (by first | (simp only [nf, Nat.beq] <;> rfl) | rfl) (by first | (simp only [nf, Nat.beq] <;> rfl) | rfl) rfl (by first | (simp only [nf, Nat.beq] <;> rfl) | rfl) ?_
            exact AOps.nil ⟨rfl, rfl, rfl⟩⟩,
          ⟨rfl, rfl, by
            refine n_load rfl ti59 (by first | (simp only [nf, Nat.beq] <;> rfl) | rfl) (by first | (simp only [nf, Nat.beq] <;> rfl) | rfl) rfl (by first | (simp only [nf, Nat.beq] <;> rfl) | rfl) ?_
            exact AOps.nil ⟨rfl, rfl, rfl⟩⟩,
          ⟨rfl, rfl, by
            refine n_load rfl ti59 (by first | (simp only [nf, Nat.beq] <;> rfl) | rfl) (by first | (simp only [nf, Nat.beq] <;> rfl) | rfl) rfl (by first | (simp only [nf, Nat.beq] <;> rfl) | rfl) ?_
            exact AOps.nil ⟨rfl, rfl, rfl⟩⟩,
          ⟨rfl, rfl, by
            refine n_load rfl ti59 (by first | (simp only [nf, Nat.beq] <;> rfl) | rfl) (by first | (simp only [nf, Nat.beq] <;> rfl) | rfl) rfl (by first | (simp only [nf, Nat.beq] <;> rfl) | rfl) ?_
            exact AOps.nil ⟨rfl, rfl, rfl⟩⟩,
          trivial⟩) ?_
      refine Walk.cases [([false, false, false, false], [.box [vi (s).e, vi (s).y, vi (s).a, vi (s).n], .box [vi k.d, vi k.a, vi k.b], .dead, .dead], [.box [vi (s).e, vi (s).y, vi (s).a, vi (s).n], .box [vi k.d, vi k.a, vi k.b], .box [vi 0, vi 0, vi 0, vi 0], .dead]), ([false, true, false, false], [.box [vi (s).e, vi (s).y, vi (s).a, vi (s).n], .box [vi k.d, vi k.a, vi k.b], .dead, .box [vi 0, vi 0, vi 0, vi 0]], [.box [vi (s).e, vi (s).y, vi (s).a, vi (s).n], .box [vi k.d, vi k.a, vi k.b], .box [vi 0, vi 0, vi 0, vi 0], .box [vi 0, vi 0, vi 0, vi 0]])] (by rfl) (by kernel_rfl) (rs := []) (by rfl) (by first | (simp only [nf, Nat.beq] <;> rfl) | rfl) (fun base => ⟨
          ⟨rfl, rfl, by
            refine n_allocAt 2 rfl zi59 rfl (by first | (simp only [nf, Nat.beq] <;> rfl) | rfl) (by first | (simp only [nf, Nat.beq] <;> rfl) | rfl) ?_
            exact AOps.nil ⟨rfl, rfl, rfl⟩⟩,
          ⟨rfl, rfl, by
            refine n_allocAt 2 rfl zi59 rfl (by first | (simp only [nf, Nat.beq] <;> rfl) | rfl) (by first | (simp only [nf, Nat.beq] <;> rfl) | rfl) ?_
            exact AOps.nil ⟨rfl, rfl, rfl⟩⟩,
          trivial⟩) ?_
      refine Walk.cases [([false, false, false, false], [.box [vi (s).e, vi (s).y, vi (s).a, vi (s).n], .box [vi k.d, vi k.a, vi k.b], .dead, .dead], [.box [vi (s).e, vi (s).y, vi (s).a, vi (s).n], .box [vi k.d, vi k.a, vi k.b], .dead, .box [vi 0, vi 0, vi 0, vi 0]]), ([true, false, false, false], [.box [vi (s).e, vi (s).y, vi (s).a, vi (s).n], .box [vi k.d, vi k.a, vi k.b], .box [vi 0, vi 0, vi 0, vi 0], .dead], [.box [vi (s).e, vi (s).y, vi (s).a, vi (s).n], .box [vi k.d, vi k.a, vi k.b], .box [vi 0, vi 0, vi 0, vi 0], .box [vi 0, vi 0, vi 0, vi 0]])] (by rfl) (by kernel_rfl) (rs := []) (by rfl) (by first | (simp only [nf, Nat.beq] <;> rfl) | rfl) (fun base => ⟨
          ⟨rfl, rfl, by
            refine n_allocAt 3 rfl zi59 rfl (by first | (simp only [nf, Nat.beq] <;> rfl) | rfl) (by first | (simp only [nf, Nat.beq] <;> rfl) | rfl) ?_
            exact AOps.nil ⟨rfl, rfl, rfl⟩⟩,
          ⟨rfl, rfl, by
            refine n_allocAt 3 rfl zi59 rfl (by first | (simp only [nf, Nat.beq] <;> rfl) | rfl) (by first | (simp only [nf, Nat.beq] <;> rfl) | rfl) ?_
            exact AOps.nil ⟨rfl, rfl, rfl⟩⟩,
          trivial⟩) ?_
      refine Walk.cases (d := .any) [([true, true, false, false], [.box [vi (s).e, vi (s).y, vi (s).a, vi (s).n], .box [vi k.d, vi k.a, vi k.b], .box [vi 0, vi 0, vi 0, vi 0], .box [vi 0, vi 0, vi 0, vi 0]], [.box [vi (s).e, vi (s).y, vi (s).a, vi (s).n], .box [vi k.d, vi k.a, vi k.b], .box [vi (s).e, vi (s).y, vi (s).a, vi (s).n], .box [vi 0, vi 0, vi 0, vi 0]])] (by rfl) (by kernel_rfl) (rs := [7, 24]) (by rfl) (by first | (simp only [nf, Nat.beq] <;> rfl) | rfl) (fun base => ⟨
          ⟨rfl, rfl, by
            refine n_store ti59 (by first | (simp only [nf, Nat.beq] <;> rfl) | rfl) rfl (by first | (simp only [nf, Nat.beq] <;> rfl) | rfl) rfl (by first | (simp only [nf, Nat.beq] <;> rfl) | rfl) rfl rfl rfl (by first | (simp only [nf, Nat.beq] <;> rfl) | rfl) ?_
            exact AOps.nil ⟨rfl, rfl, rfl⟩⟩,
          trivial⟩) ?_
      refine Walk.cases (d := .any) [([true, true, true, false], [.box [vi (s).e, vi (s).y, vi (s).a, vi (s).n], .box [vi k.d, vi k.a, vi k.b], .box [vi (s).e, vi (s).y, vi (s).a, vi (s).n], .box [vi 0, vi 0, vi 0, vi 0]], [.box [vi (s).e, vi (s).y, vi (s).a, vi (s).n], .box [vi k.d, vi k.a, vi k.b], .box [vi (s).e, vi (s).y, vi (s).a, vi (s).n], .box [vi (s).e, vi (s).y, vi (s).a, vi (s).n]])] (by rfl) (by kernel_rfl) (rs := [8, 25]) (by rfl) (by first | (simp only [nf, Nat.beq] <;> rfl) | rfl) (fun base => ⟨
          ⟨rfl, rfl, by
            refine n_store ti59 (by first | (simp only [nf, Nat.beq] <;> rfl) | rfl) rfl (by first | (simp only [nf, Nat.beq] <;> rfl) | rfl) rfl (by first | (simp only [nf, Nat.beq] <;> rfl) | rfl) rfl rfl rfl (by first | (simp only [nf, Nat.beq] <;> rfl) | rfl) ?_
            exact AOps.nil ⟨rfl, rfl, rfl⟩⟩,
          trivial⟩) ?_
      refine Walk.done ?_
      refine AWP.seq ?_
      refine AWP.region ?_
      refine n_assign rfl (by first | (simp only [nf, Nat.beq] <;> rfl) | rfl) ?_
      refine AOps.nil ?_
      refine AWP.seq ?_
      refine AWP.seq ?_
      refine AWP.region ?_
      refine n_fieldAddr rfl fd75_0 ti3 rfl (by first | (simp only [nf, Nat.beq] <;> rfl) | rfl) rfl (by first | (simp only [nf, Nat.beq] <;> rfl) | rfl) ?_
      refine n_load rfl ti3 (by first | (simp only [nf, Nat.beq] <;> rfl) | rfl) (by first | (simp only [nf, Nat.beq] <;> rfl) | rfl) rfl (by first | (simp only [nf, Nat.beq] <;> rfl) | rfl) ?_
      refine AOps.nil ?_
      refine AWP.block ?_
      refine AWP.seq ?_
      refine AWP.region ?_
      refine n_ibin rfl (by first | (simp only [nf, Nat.beq] <;> rfl) | rfl) (by first | (simp only [nf, Nat.beq] <;> rfl) | rfl) rfl ?_
      refine n_assign rfl (by first | (simp only [nf, Nat.beq] <;> rfl) | rfl) ?_
      refine AOps.nil ?_
      refine AWP.cond (by first | (simp only [nf, Nat.beq] <;> rfl) | rfl) (fun hc3 => ?_) (fun hc3 => ?_)
      · try simp only [nh] at hc3
        refine AWP.anyT [8, 9] (fun p => match p with | [false, false] => [.box [vi (s).e, vi (s).y, vi (s).a, vi (s).n], .box [vi k.d, vi k.a, vi k.b], .box [vi (s).e, vi (s).y, vi (s).a, vi (s).n], .box [vi (s).e, vi (s).y, vi (s).a, vi (s).n]] | [true, false] => [.box [vi (s).e, vi (s).y, vi (s).a, vi (s).n], .box [vi k.d, vi k.a, vi k.b], .box [vi (s.joined k.a).e, vi (s.joined k.a).y, vi (s.joined k.a).a, vi (s.joined k.a).n], .box [vi (s).e, vi (s).y, vi (s).a, vi (s).n]] | [true, true] => [.box [vi (s).e, vi (s).y, vi (s).a, vi (s).n], .box [vi k.d, vi k.a, vi k.b], .box [vi (s.joined k.a).e, vi (s.joined k.a).y, vi (s.joined k.a).a, vi (s.joined k.a).n], .box [vi (s.joined k.a).e, vi (s.joined k.a).y, vi (s.joined k.a).a, vi (s.joined k.a).n]] | _ => []) (by kernel_rfl) (by kernel_rfl) rfl rfl ?_
        refine Walk.cases [([false, false], [.box [vi (s).e, vi (s).y, vi (s).a, vi (s).n], .box [vi k.d, vi k.a, vi k.b], .box [vi (s).e, vi (s).y, vi (s).a, vi (s).n], .box [vi (s).e, vi (s).y, vi (s).a, vi (s).n]], [.box [vi (s).e, vi (s).y, vi (s).a, vi (s).n], .box [vi k.d, vi k.a, vi k.b], .box [vi (s).e, vi (s).y, vi (s).a, vi (s).n], .box [vi (s).e, vi (s).y, vi (s).a, vi (s).n]])] (by rfl) (by kernel_rfl) (rs := [2]) (by rfl) (by first | (simp only [nf, Nat.beq] <;> rfl) | rfl) (fun base => ⟨
            ⟨rfl, rfl, by
              refine n_load rfl ti59 (by first | (simp only [nf, Nat.beq] <;> rfl) | rfl) (by first | (simp only [nf, Nat.beq] <;> rfl) | rfl) rfl (by first | (simp only [nf, Nat.beq] <;> rfl) | rfl) ?_
              exact AOps.nil ⟨rfl, rfl, rfl⟩⟩,
            trivial⟩) ?_
        refine Walk.cases [([false, false], [.box [vi (s).e, vi (s).y, vi (s).a, vi (s).n], .box [vi k.d, vi k.a, vi k.b], .box [vi (s).e, vi (s).y, vi (s).a, vi (s).n], .box [vi (s).e, vi (s).y, vi (s).a, vi (s).n]], [.box [vi (s).e, vi (s).y, vi (s).a, vi (s).n], .box [vi k.d, vi k.a, vi k.b], .box [vi (s).e, vi (s).y, vi (s).a, vi (s).n], .box [vi (s).e, vi (s).y, vi (s).a, vi (s).n]])] (by rfl) (by kernel_rfl) (rs := [6]) (by rfl) (by first | (simp only [nf, Nat.beq] <;> rfl) | rfl) (fun base => ⟨
            ⟨rfl, rfl, by
              refine n_fieldAddr rfl fd75_1 ti2 rfl (by first | (simp only [nf, Nat.beq] <;> rfl) | rfl) rfl (by first | (simp only [nf, Nat.beq] <;> rfl) | rfl) ?_
              exact AOps.nil ⟨rfl, rfl, rfl⟩⟩,
            trivial⟩) ?_
        refine Walk.cases [([false, false], [.box [vi (s).e, vi (s).y, vi (s).a, vi (s).n], .box [vi k.d, vi k.a, vi k.b], .box [vi (s).e, vi (s).y, vi (s).a, vi (s).n], .box [vi (s).e, vi (s).y, vi (s).a, vi (s).n]], [.box [vi (s).e, vi (s).y, vi (s).a, vi (s).n], .box [vi k.d, vi k.a, vi k.b], .box [vi (s).e, vi (s).y, vi (s).a, vi (s).n], .box [vi (s).e, vi (s).y, vi (s).a, vi (s).n]])] (by rfl) (by kernel_rfl) (rs := [43]) (by rfl) (by first | (simp only [nf, Nat.beq] <;> rfl) | rfl) (fun base => ⟨
            ⟨rfl, rfl, by
              refine n_load rfl ti2 (by first | (simp only [nf, Nat.beq] <;> rfl) | rfl) (by first | (simp only [nf, Nat.beq] <;> rfl) | rfl) rfl (by first | (simp only [nf, Nat.beq] <;> rfl) | rfl) ?_
              exact AOps.nil ⟨rfl, rfl, rfl⟩⟩,
            trivial⟩) ?_
        refine Walk.cases [([false, false], [.box [vi (s).e, vi (s).y, vi (s).a, vi (s).n], .box [vi k.d, vi k.a, vi k.b], .box [vi (s).e, vi (s).y, vi (s).a, vi (s).n], .box [vi (s).e, vi (s).y, vi (s).a, vi (s).n]], [.box [vi (s).e, vi (s).y, vi (s).a, vi (s).n], .box [vi k.d, vi k.a, vi k.b], .box [vi (s).e, vi (s).y, vi (s).a, vi (s).n], .box [vi (s).e, vi (s).y, vi (s).a, vi (s).n]])] (by rfl) (by kernel_rfl) (rs := [42, 44]) (by rfl) (by first | (simp only [nf, Nat.beq] <;> rfl) | rfl) (fun base => ⟨
            ⟨rfl, rfl, by
              refine n_call0 rfl cf64 rfl (Eq.trans (by simp only [nl] <;> rfl) (by first | (simp only [nf, Nat.beq] <;> rfl) | rfl)) (l_joined _ _) (by repeat (first | exact .nil | refine .cons ?_ ?_ | exact ren_ints | exact .lf (.val _) | exact .lf (lf_ints (.inl rfl)) | exact .bp ⟨rfl, rfl⟩ | exact .lf (D.flat_lf rfl))) (by first | exact .val _ | exact lf_ints (.inl rfl) | exact lf_ints (.inr rfl) | exact .any | exact D.flat_lf rfl) ?_
              exact AOps.nil ⟨rfl, rfl, rfl⟩⟩,
            trivial⟩) ?_
        refine Walk.cases [([false, false], [.box [vi (s).e, vi (s).y, vi (s).a, vi (s).n], .box [vi k.d, vi k.a, vi k.b], .box [vi (s).e, vi (s).y, vi (s).a, vi (s).n], .box [vi (s).e, vi (s).y, vi (s).a, vi (s).n]], [.box [vi (s).e, vi (s).y, vi (s).a, vi (s).n], .box [vi k.d, vi k.a, vi k.b], .box [vi (s).e, vi (s).y, vi (s).a, vi (s).n], .box [vi (s).e, vi (s).y, vi (s).a, vi (s).n]])] (by rfl) (by kernel_rfl) (rs := [2]) (by rfl) (by first | (simp only [nf, Nat.beq] <;> rfl) | rfl) (fun base => ⟨
            ⟨rfl, rfl, by
              refine n_load rfl ti59 (by first | (simp only [nf, Nat.beq] <;> rfl) | rfl) (by first | (simp only [nf, Nat.beq] <;> rfl) | rfl) rfl (by first | (simp only [nf, Nat.beq] <;> rfl) | rfl) ?_
              exact AOps.nil ⟨rfl, rfl, rfl⟩⟩,
            trivial⟩) ?_
        refine Walk.cases [([false, false], [.box [vi (s).e, vi (s).y, vi (s).a, vi (s).n], .box [vi k.d, vi k.a, vi k.b], .box [vi (s).e, vi (s).y, vi (s).a, vi (s).n], .box [vi (s).e, vi (s).y, vi (s).a, vi (s).n]], [.box [vi (s).e, vi (s).y, vi (s).a, vi (s).n], .box [vi k.d, vi k.a, vi k.b], .box [vi (s).e, vi (s).y, vi (s).a, vi (s).n], .box [vi (s).e, vi (s).y, vi (s).a, vi (s).n]])] (by rfl) (by kernel_rfl) (rs := [6]) (by rfl) (by first | (simp only [nf, Nat.beq] <;> rfl) | rfl) (fun base => ⟨
            ⟨rfl, rfl, by
              refine n_fieldAddr rfl fd75_1 ti2 rfl (by first | (simp only [nf, Nat.beq] <;> rfl) | rfl) rfl (by first | (simp only [nf, Nat.beq] <;> rfl) | rfl) ?_
              exact AOps.nil ⟨rfl, rfl, rfl⟩⟩,
            trivial⟩) ?_
        refine Walk.cases [([false, false], [.box [vi (s).e, vi (s).y, vi (s).a, vi (s).n], .box [vi k.d, vi k.a, vi k.b], .box [vi (s).e, vi (s).y, vi (s).a, vi (s).n], .box [vi (s).e, vi (s).y, vi (s).a, vi (s).n]], [.box [vi (s).e, vi (s).y, vi (s).a, vi (s).n], .box [vi k.d, vi k.a, vi k.b], .box [vi (s).e, vi (s).y, vi (s).a, vi (s).n], .box [vi (s).e, vi (s).y, vi (s).a, vi (s).n]])] (by rfl) (by kernel_rfl) (rs := [47]) (by rfl) (by first | (simp only [nf, Nat.beq] <;> rfl) | rfl) (fun base => ⟨
            ⟨rfl, rfl, by
              refine n_load rfl ti2 (by first | (simp only [nf, Nat.beq] <;> rfl) | rfl) (by first | (simp only [nf, Nat.beq] <;> rfl) | rfl) rfl (by first | (simp only [nf, Nat.beq] <;> rfl) | rfl) ?_
              exact AOps.nil ⟨rfl, rfl, rfl⟩⟩,
            trivial⟩) ?_
        refine Walk.cases [([false, false], [.box [vi (s).e, vi (s).y, vi (s).a, vi (s).n], .box [vi k.d, vi k.a, vi k.b], .box [vi (s).e, vi (s).y, vi (s).a, vi (s).n], .box [vi (s).e, vi (s).y, vi (s).a, vi (s).n]], [.box [vi (s).e, vi (s).y, vi (s).a, vi (s).n], .box [vi k.d, vi k.a, vi k.b], .box [vi (s).e, vi (s).y, vi (s).a, vi (s).n], .box [vi (s).e, vi (s).y, vi (s).a, vi (s).n]])] (by rfl) (by kernel_rfl) (rs := [46, 48]) (by rfl) (by first | (simp only [nf, Nat.beq] <;> rfl) | rfl) (fun base => ⟨
            ⟨rfl, rfl, by
              refine n_call0 rfl cf65 rfl (Eq.trans (by simp only [nl] <;> rfl) (by first | (simp only [nf, Nat.beq] <;> rfl) | rfl)) (r_joined _ _) (by repeat (first | exact .nil | refine .cons ?_ ?_ | exact ren_ints | exact .lf (.val _) | exact .lf (lf_ints (.inl rfl)) | exact .bp ⟨rfl, rfl⟩ | exact .lf (D.flat_lf rfl))) (by first | exact .val _ | exact lf_ints (.inl rfl) | exact lf_ints (.inr rfl) | exact .any | exact D.flat_lf rfl) ?_
              exact AOps.nil ⟨rfl, rfl, rfl⟩⟩,
            trivial⟩) ?_
        refine Walk.cases (d := .any) [([false, false], [.box [vi (s).e, vi (s).y, vi (s).a, vi (s).n], .box [vi k.d, vi k.a, vi k.b], .box [vi (s).e, vi (s).y, vi (s).a, vi (s).n], .box [vi (s).e, vi (s).y, vi (s).a, vi (s).n]], [.box [vi (s).e, vi (s).y, vi (s).a, vi (s).n], .box [vi k.d, vi k.a, vi k.b], .box [vi (s.joined k.a).e, vi (s.joined k.a).y, vi (s.joined k.a).a, vi (s.joined k.a).n], .box [vi (s).e, vi (s).y, vi (s).a, vi (s).n]])] (by rfl) (by kernel_rfl) (rs := [7, 45]) (by rfl) (by first | (simp only [nf, Nat.beq] <;> rfl) | rfl) (fun base => ⟨
            ⟨rfl, rfl, by
              refine n_store ti59 (by first | (simp only [nf, Nat.beq] <;> rfl) | rfl) rfl (by first | (simp only [nf, Nat.beq] <;> rfl) | rfl) rfl (by first | (simp only [nf, Nat.beq] <;> rfl) | rfl) rfl rfl rfl (by first | (simp only [nf, Nat.beq] <;> rfl) | rfl) ?_
              exact AOps.nil ⟨rfl, rfl, rfl⟩⟩,
            trivial⟩) ?_
        refine Walk.cases (d := .any) [([true, false], [.box [vi (s).e, vi (s).y, vi (s).a, vi (s).n], .box [vi k.d, vi k.a, vi k.b], .box [vi (s.joined k.a).e, vi (s.joined k.a).y, vi (s.joined k.a).a, vi (s.joined k.a).n], .box [vi (s).e, vi (s).y, vi (s).a, vi (s).n]], [.box [vi (s).e, vi (s).y, vi (s).a, vi (s).n], .box [vi k.d, vi k.a, vi k.b], .box [vi (s.joined k.a).e, vi (s.joined k.a).y, vi (s.joined k.a).a, vi (s.joined k.a).n], .box [vi (s.joined k.a).e, vi (s.joined k.a).y, vi (s.joined k.a).a, vi (s.joined k.a).n]])] (by rfl) (by kernel_rfl) (rs := [8, 49]) (by rfl) (by first | (simp only [nf, Nat.beq] <;> rfl) | rfl) (fun base => ⟨
            ⟨rfl, rfl, by
              refine n_store ti59 (by first | (simp only [nf, Nat.beq] <;> rfl) | rfl) rfl (by first | (simp only [nf, Nat.beq] <;> rfl) | rfl) rfl (by first | (simp only [nf, Nat.beq] <;> rfl) | rfl) rfl rfl rfl (by first | (simp only [nf, Nat.beq] <;> rfl) | rfl) ?_
              exact AOps.nil ⟨rfl, rfl, rfl⟩⟩,
            trivial⟩) ?_
        refine Walk.done ?_
        refine AWP.seq ?_
        refine AWP.seq ?_
        refine AWP.anyStill (by kernel_rfl) (by kernel_rfl) ?_
        refine Walk.still (rs := [9]) (by rfl) (by first | (simp only [nf, Nat.beq] <;> rfl) | rfl) (fun base => by
            refine n_move rfl (by first | (simp only [nf, Nat.beq] <;> rfl) | rfl) ?_
            exact AOps.nil ⟨rfl, rfl, rfl⟩) ?_
        refine Walk.still (rs := [90]) (by rfl) (by first | (simp only [nf, Nat.beq] <;> rfl) | rfl) (fun base => by
            refine n_not rfl (by first | (simp only [nf, Nat.beq] <;> rfl) | rfl) rfl ?_
            exact AOps.nil ⟨rfl, rfl, rfl⟩) ?_
        refine Walk.still (rs := [91]) (by rfl) (by first | (simp only [nf, Nat.beq] <;> rfl) | rfl) (fun base => by
            refine n_move rfl (by first | (simp only [nf, Nat.beq] <;> rfl) | rfl) ?_
            exact AOps.nil ⟨rfl, rfl, rfl⟩) ?_
        refine Walk.still (rs := [7, 92]) (by rfl) (by first | (simp only [nf, Nat.beq] <;> rfl) | rfl) (fun base => by
            refine n_guard_yes rfl rfl rfl (by first | (simp only [nf, Nat.beq] <;> rfl) | rfl) rfl ?_
            refine n_load rfl ti59 (by first | (simp only [nf, Nat.beq] <;> rfl) | rfl) (by first | (simp only [nf, Nat.beq] <;> rfl) | rfl) rfl (by first | (simp only [nf, Nat.beq] <;> rfl) | rfl) ?_
            exact AOps.nil ⟨rfl, rfl, rfl⟩) ?_
        refine Walk.still (rs := [8, 92]) (by rfl) (by first | (simp only [nf, Nat.beq] <;> rfl) | rfl) (fun base => by
            refine n_guard_yes rfl rfl rfl (by first | (simp only [nf, Nat.beq] <;> rfl) | rfl) rfl ?_
            refine n_load rfl ti59 (by first | (simp only [nf, Nat.beq] <;> rfl) | rfl) (by first | (simp only [nf, Nat.beq] <;> rfl) | rfl) rfl (by first | (simp only [nf, Nat.beq] <;> rfl) | rfl) ?_
            exact AOps.nil ⟨rfl, rfl, rfl⟩) ?_
        refine Walk.still (rs := [93, 94, 92]) (by rfl) (by first | (simp only [nf, Nat.beq] <;> rfl) | rfl) (fun base => by
            refine n_guard_yes rfl rfl rfl (by first | (simp only [nf, Nat.beq] <;> rfl) | rfl) rfl ?_
            refine n_stne rfl (by first | (simp only [nf, Nat.beq] <;> rfl) | rfl) (by first | (simp only [nf, Nat.beq] <;> rfl) | rfl) rfl rfl Try.underlying59 (by kernel_rfl) (by kernel_rfl) (.int rfl ti2 Try.underlying2 rfl rfl (.int rfl ti2 Try.underlying2 rfl rfl (.int rfl ti2 Try.underlying2 rfl rfl (.int rfl ti2 Try.underlying2 rfl rfl .nil)))) rfl ?_
            exact AOps.nil ⟨rfl, rfl, rfl⟩) ?_
        refine Walk.still (rs := [92, 95]) (by rfl) (by first | (simp only [nf, Nat.beq] <;> rfl) | rfl) (fun base => by
            refine n_pick rfl (by first | (simp only [nf, Nat.beq] <;> rfl) | rfl) (by first | (simp only [nf, Nat.beq] <;> rfl) | rfl) ?_
            exact AOps.nil ⟨rfl, rfl, rfl⟩) ?_
        refine Walk.still (rs := [96]) (by rfl) (by first | (simp only [nf, Nat.beq] <;> rfl) | rfl) (fun base => by
            refine n_move rfl (by first | (simp only [nf, Nat.beq] <;> rfl) | rfl) ?_
            exact AOps.nil ⟨rfl, rfl, rfl⟩) ?_
        refine Walk.name (u := 97) (fun z => .val (.bool z)) (by first | (simp only [nf, Nat.beq] <;> rfl) | rfl) (fun b97 hb97 => ?_)
        refine Walk.still (rs := [7, 97]) (by rfl) (by first | (simp only [nf, Nat.beq] <;> rfl) | rfl) (fun base => by
            refine n_soft (u := 97) (E := .val (.bool b97)) (!b97) rfl rfl rfl (by first | (simp only [nf, Nat.beq] <;> rfl) | rfl) (by cases b97 <;> first | (intro _; rfl) | (intro h; exact absurd h (by decide))) (by cases b97 <;> first | (intro h; exact absurd h (by decide)) | (intro _; exact ⟨_, rfl, by first | (intro h; cases h; done) | decide | simp⟩)) (fun h => by
                cases b97 with
                | true => exact absurd h (by first | decide | simp)
                | false =>
                  refine n_load rfl ti59 (by first | (simp only [nf, Nat.beq] <;> rfl) | rfl) (by first | (simp only [nf, Nat.beq] <;> rfl) | rfl) rfl (by first | (simp only [nf, Nat.beq] <;> rfl) | rfl) ?_
                  exact AOps.nil ⟨rfl, rfl, rfl⟩) (AOps.nil ⟨rfl, rfl, rfl⟩)) ?_
        refine Walk.still (rs := [98, 97]) (by rfl) (by first | (simp only [nf, Nat.beq] <;> rfl) | rfl) (fun base => by
            refine n_soft (u := 97) (E := .val (.bool b97)) (!b97) rfl rfl rfl (by first | (simp only [nf, Nat.beq] <;> rfl) | rfl) (by cases b97 <;> first | (intro _; rfl) | (intro h; exact absurd h (by decide))) (by cases b97 <;> first | (intro h; exact absurd h (by decide)) | (intro _; exact ⟨_, rfl, by first | (intro h; cases h; done) | decide | simp⟩)) (fun h => by
                cases b97 with
                | true => exact absurd h (by first | decide | simp)
                | false =>
                  refine n_call0 rfl cf61 rfl (Eq.trans (by simp only [nl] <;> rfl) (by first | (simp only [nf, Nat.beq] <;> rfl) | rfl)) (l_chk _) (by repeat (first | exact .nil | refine .cons ?_ ?_ | exact ren_ints | exact .lf (.val _) | exact .lf (lf_ints (.inl rfl)) | exact .bp ⟨rfl, rfl⟩ | exact .lf (D.flat_lf rfl))) (by first | exact .val _ | exact lf_ints (.inl rfl) | exact lf_ints (.inr rfl) | exact .any | exact D.flat_lf rfl) ?_
                  exact AOps.nil ⟨rfl, rfl, rfl⟩) (AOps.nil ⟨rfl, rfl, rfl⟩)) ?_
        refine Walk.still (rs := [8, 97]) (by rfl) (by first | (simp only [nf, Nat.beq] <;> rfl) | rfl) (fun base => by
            refine n_soft (u := 97) (E := .val (.bool b97)) (!b97) rfl rfl rfl (by first | (simp only [nf, Nat.beq] <;> rfl) | rfl) (by cases b97 <;> first | (intro _; rfl) | (intro h; exact absurd h (by decide))) (by cases b97 <;> first | (intro h; exact absurd h (by decide)) | (intro _; exact ⟨_, rfl, by first | (intro h; cases h; done) | decide | simp⟩)) (fun h => by
                cases b97 with
                | true => exact absurd h (by first | decide | simp)
                | false =>
                  refine n_load rfl ti59 (by first | (simp only [nf, Nat.beq] <;> rfl) | rfl) (by first | (simp only [nf, Nat.beq] <;> rfl) | rfl) rfl (by first | (simp only [nf, Nat.beq] <;> rfl) | rfl) ?_
                  exact AOps.nil ⟨rfl, rfl, rfl⟩) (AOps.nil ⟨rfl, rfl, rfl⟩)) ?_
        refine Walk.still (rs := [100, 97]) (by rfl) (by first | (simp only [nf, Nat.beq] <;> rfl) | rfl) (fun base => by
            refine n_soft (u := 97) (E := .val (.bool b97)) (!b97) rfl rfl rfl (by first | (simp only [nf, Nat.beq] <;> rfl) | rfl) (by cases b97 <;> first | (intro _; rfl) | (intro h; exact absurd h (by decide))) (by cases b97 <;> first | (intro h; exact absurd h (by decide)) | (intro _; exact ⟨_, rfl, by first | (intro h; cases h; done) | decide | simp⟩)) (fun h => by
                cases b97 with
                | true => exact absurd h (by first | decide | simp)
                | false =>
                  refine n_call0 rfl cf70 rfl (Eq.trans (by simp only [nl] <;> rfl) (by first | (simp only [nf, Nat.beq] <;> rfl) | rfl)) (r_chk _) (by repeat (first | exact .nil | refine .cons ?_ ?_ | exact ren_ints | exact .lf (.val _) | exact .lf (lf_ints (.inl rfl)) | exact .bp ⟨rfl, rfl⟩ | exact .lf (D.flat_lf rfl))) (by first | exact .val _ | exact lf_ints (.inl rfl) | exact lf_ints (.inr rfl) | exact .any | exact D.flat_lf rfl) ?_
                  exact AOps.nil ⟨rfl, rfl, rfl⟩) (AOps.nil ⟨rfl, rfl, rfl⟩)) ?_
        refine Walk.still (rs := [99, 101, 97]) (by rfl) (by first | (simp only [nf, Nat.beq] <;> rfl) | rfl) (fun base => by
            refine n_soft (u := 97) (E := .val (.bool b97)) (!b97) rfl rfl rfl (by first | (simp only [nf, Nat.beq] <;> rfl) | rfl) (by cases b97 <;> first | (intro _; rfl) | (intro h; exact absurd h (by decide))) (by cases b97 <;> first | (intro h; exact absurd h (by decide)) | (intro _; exact ⟨_, rfl, by first | (intro h; cases h; done) | decide | simp⟩)) (fun h => by
                cases b97 with
                | true => exact absurd h (by first | decide | simp)
                | false =>
                  refine n_ibin rfl (by first | (simp only [nf, Nat.beq] <;> rfl) | rfl) (by first | (simp only [nf, Nat.beq] <;> rfl) | rfl) rfl ?_
                  exact AOps.nil ⟨rfl, rfl, rfl⟩) (AOps.nil ⟨rfl, rfl, rfl⟩)) ?_
        refine Walk.still (rs := [97, 102]) (by rfl) (by first | (simp only [nf, Nat.beq] <;> rfl) | rfl) (fun base => by
            refine n_pick_or rfl (by first | (simp only [nf, Nat.beq] <;> rfl) | rfl) (fun h => by cases b97 with | true => exact absurd h (by decide) | false => exact (by first | (simp only [nf, Nat.beq] <;> rfl) | rfl)) ?_
            exact AOps.nil ⟨rfl, rfl, rfl⟩) ?_
        refine Walk.still (rs := [103]) (by rfl) (by first | (simp only [nf, Nat.beq] <;> rfl) | rfl) (fun base => by
            refine n_move rfl (by first | (simp only [nf, Nat.beq] <;> rfl) | rfl) ?_
            exact AOps.nil ⟨rfl, rfl, rfl⟩) ?_
        refine Walk.name (u := 104) (fun z => .val (.bool z)) (by first | (simp only [nf, Nat.beq] <;> rfl) | rfl) (fun b104 hb104 => ?_)
        refine Walk.still (rs := [7, 104]) (by rfl) (by first | (simp only [nf, Nat.beq] <;> rfl) | rfl) (fun base => by
            refine n_soft (u := 104) (E := .val (.bool b104)) (!b104) rfl rfl rfl (by first | (simp only [nf, Nat.beq] <;> rfl) | rfl) (by cases b104 <;> first | (intro _; rfl) | (intro h; exact absurd h (by decide))) (by cases b104 <;> first | (intro h; exact absurd h (by decide)) | (intro _; exact ⟨_, rfl, by first | (intro h; cases h; done) | decide | simp⟩)) (fun h => by
                cases b104 with
                | true => exact absurd h (by first | decide | simp)
                | false =>
                  refine n_load rfl ti59 (by first | (simp only [nf, Nat.beq] <;> rfl) | rfl) (by first | (simp only [nf, Nat.beq] <;> rfl) | rfl) rfl (by first | (simp only [nf, Nat.beq] <;> rfl) | rfl) ?_
                  exact AOps.nil ⟨rfl, rfl, rfl⟩) (AOps.nil ⟨rfl, rfl, rfl⟩)) ?_
        refine Walk.still (rs := [105, 104]) (by rfl) (by first | (simp only [nf, Nat.beq] <;> rfl) | rfl) (fun base => by
            refine n_soft (u := 104) (E := .val (.bool b104)) (!b104) rfl rfl rfl (by first | (simp only [nf, Nat.beq] <;> rfl) | rfl) (by cases b104 <;> first | (intro _; rfl) | (intro h; exact absurd h (by decide))) (by cases b104 <;> first | (intro h; exact absurd h (by decide)) | (intro _; exact ⟨_, rfl, by first | (intro h; cases h; done) | decide | simp⟩)) (fun h => by
                cases b104 with
                | true => exact absurd h (by first | decide | simp)
                | false =>
                  refine n_call0 rfl cf62 rfl (Eq.trans (by simp only [nl] <;> rfl) (by first | (simp only [nf, Nat.beq] <;> rfl) | rfl)) (l_fin _) (by repeat (first | exact .nil | refine .cons ?_ ?_ | exact ren_ints | exact .lf (.val _) | exact .lf (lf_ints (.inl rfl)) | exact .bp ⟨rfl, rfl⟩ | exact .lf (D.flat_lf rfl))) (by first | exact .val _ | exact lf_ints (.inl rfl) | exact lf_ints (.inr rfl) | exact .any | exact D.flat_lf rfl) ?_
                  exact AOps.nil ⟨rfl, rfl, rfl⟩) (AOps.nil ⟨rfl, rfl, rfl⟩)) ?_
        refine Walk.still (rs := [8, 104]) (by rfl) (by first | (simp only [nf, Nat.beq] <;> rfl) | rfl) (fun base => by
            refine n_soft (u := 104) (E := .val (.bool b104)) (!b104) rfl rfl rfl (by first | (simp only [nf, Nat.beq] <;> rfl) | rfl) (by cases b104 <;> first | (intro _; rfl) | (intro h; exact absurd h (by decide))) (by cases b104 <;> first | (intro h; exact absurd h (by decide)) | (intro _; exact ⟨_, rfl, by first | (intro h; cases h; done) | decide | simp⟩)) (fun h => by
                cases b104 with
                | true => exact absurd h (by first | decide | simp)
                | false =>
                  refine n_load rfl ti59 (by first | (simp only [nf, Nat.beq] <;> rfl) | rfl) (by first | (simp only [nf, Nat.beq] <;> rfl) | rfl) rfl (by first | (simp only [nf, Nat.beq] <;> rfl) | rfl) ?_
                  exact AOps.nil ⟨rfl, rfl, rfl⟩) (AOps.nil ⟨rfl, rfl, rfl⟩)) ?_
        refine Walk.still (rs := [107, 104]) (by rfl) (by first | (simp only [nf, Nat.beq] <;> rfl) | rfl) (fun base => by
            refine n_soft (u := 104) (E := .val (.bool b104)) (!b104) rfl rfl rfl (by first | (simp only [nf, Nat.beq] <;> rfl) | rfl) (by cases b104 <;> first | (intro _; rfl) | (intro h; exact absurd h (by decide))) (by cases b104 <;> first | (intro h; exact absurd h (by decide)) | (intro _; exact ⟨_, rfl, by first | (intro h; cases h; done) | decide | simp⟩)) (fun h => by
                cases b104 with
                | true => exact absurd h (by first | decide | simp)
                | false =>
                  refine n_call0 rfl cf71 rfl (Eq.trans (by simp only [nl] <;> rfl) (by first | (simp only [nf, Nat.beq] <;> rfl) | rfl)) (r_fin _) (by repeat (first | exact .nil | refine .cons ?_ ?_ | exact ren_ints | exact .lf (.val _) | exact .lf (lf_ints (.inl rfl)) | exact .bp ⟨rfl, rfl⟩ | exact .lf (D.flat_lf rfl))) (by first | exact .val _ | exact lf_ints (.inl rfl) | exact lf_ints (.inr rfl) | exact .any | exact D.flat_lf rfl) ?_
                  exact AOps.nil ⟨rfl, rfl, rfl⟩) (AOps.nil ⟨rfl, rfl, rfl⟩)) ?_
        refine Walk.still (rs := [106, 108, 104]) (by rfl) (by first | (simp only [nf, Nat.beq] <;> rfl) | rfl) (fun base => by
            refine n_soft (u := 104) (E := .val (.bool b104)) (!b104) rfl rfl rfl (by first | (simp only [nf, Nat.beq] <;> rfl) | rfl) (by cases b104 <;> first | (intro _; rfl) | (intro h; exact absurd h (by decide))) (by cases b104 <;> first | (intro h; exact absurd h (by decide)) | (intro _; exact ⟨_, rfl, by first | (intro h; cases h; done) | decide | simp⟩)) (fun h => by
                cases b104 with
                | true => exact absurd h (by first | decide | simp)
                | false =>
                  refine n_bneq rfl (by first | (simp only [nf, Nat.beq] <;> rfl) | rfl) (by first | (simp only [nf, Nat.beq] <;> rfl) | rfl) Try.underlying4 rfl ?_
                  exact AOps.nil ⟨rfl, rfl, rfl⟩) (AOps.nil ⟨rfl, rfl, rfl⟩)) ?_
        refine Walk.still (rs := [104, 109]) (by rfl) (by first | (simp only [nf, Nat.beq] <;> rfl) | rfl) (fun base => by
            refine n_pick_or rfl (by first | (simp only [nf, Nat.beq] <;> rfl) | rfl) (fun h => by cases b104 with | true => exact absurd h (by decide) | false => exact (by first | (simp only [nf, Nat.beq] <;> rfl) | rfl)) ?_
            exact AOps.nil ⟨rfl, rfl, rfl⟩) ?_
        subst hb97
        subst hb104
        refine Walk.done ?_
        refine AWP.cond (by first | (simp only [nf, Nat.beq] <;> rfl) | rfl) (fun hc4 => ?_) (fun hc4 => ?_)
        · try simp only [nh] at hc4
          all_goals simp at hc4
        · try simp only [nh] at hc4
          refine AWP.skip ?_
          refine AWP.region ?_
          refine n_load rfl ti59 (by first | (simp only [nf, Nat.beq] <;> rfl) | rfl) (by first | (simp only [nf, Nat.beq] <;> rfl) | rfl) rfl (by first | (simp only [nf, Nat.beq] <;> rfl) | rfl) ?_
          refine n_store ti59 (by first | (simp only [nf, Nat.beq] <;> rfl) | rfl) rfl (by first | (simp only [nf, Nat.beq] <;> rfl) | rfl) rfl (by first | (simp only [nf, Nat.beq] <;> rfl) | rfl) rfl rfl rfl (by first | (simp only [nf, Nat.beq] <;> rfl) | rfl) ?_
          refine AOps.nil ?_
          refine AWP.region ?_
          first | refine n_iadd rfl (by first | (simp only [nf, Nat.beq] <;> rfl) | rfl) (by first | (simp only [nf, Nat.beq] <;> rfl) | rfl) rfl (by omega) (by omega) ?_ | refine n_ibin rfl (by first | (simp only [nf, Nat.beq] <;> rfl) | rfl) (by first | (simp only [nf, Nat.beq] <;> rfl) | rfl) rfl ?_
          refine n_move rfl (by first | (simp only [nf, Nat.beq] <;> rfl) | rfl) ?_
          refine AOps.nil ?_
          refine ⟨(i + 1, _), _, by dsimp only; omega, ?_, rfl, by dsimp only; omega⟩
          (repeat (first | exact FLe.empty _ | refine FLe.put ?_ ?_)) <;> first | (simp only [nf, Nat.beq]; done) | rfl | (try simp only [nf, Nat.beq]; first | (simp only [List.length_map]; done) | (congr 2; omega))
      · try simp only [nh] at hc3
        refine AWP.seq ?_
        refine AWP.region ?_
        refine n_ibin rfl (by first | (simp only [nf, Nat.beq] <;> rfl) | rfl) (by first | (simp only [nf, Nat.beq] <;> rfl) | rfl) rfl ?_
        refine n_assign rfl (by first | (simp only [nf, Nat.beq] <;> rfl) | rfl) ?_
        refine AOps.nil ?_
        refine AWP.cond (by first | (simp only [nf, Nat.beq] <;> rfl) | rfl) (fun hc5 => ?_) (fun hc5 => ?_)
        · try simp only [nh] at hc5
          refine AWP.seq ?_
          refine AWP.region ?_
          refine n_load rfl ti59 (by first | (simp only [nf, Nat.beq] <;> rfl) | rfl) (by first | (simp only [nf, Nat.beq] <;> rfl) | rfl) rfl (by first | (simp only [nf, Nat.beq] <;> rfl) | rfl) ?_
          refine n_call0 rfl cf57 rfl (Eq.trans (by simp only [nl] <;> rfl) (by first | (simp only [nf, Nat.beq] <;> rfl) | rfl)) (l_next _) (by repeat (first | exact .nil | refine .cons ?_ ?_ | exact ren_ints | exact .lf (.val _) | exact .lf (lf_ints (.inl rfl)) | exact .bp ⟨rfl, rfl⟩ | exact .lf (D.flat_lf rfl))) (by first | exact .val _ | exact lf_ints (.inl rfl) | exact lf_ints (.inr rfl) | exact .any | exact D.flat_lf rfl) ?_
          refine n_move rfl (by first | (simp only [nf, Nat.beq] <;> rfl) | rfl) ?_
          refine n_extract rfl (by first | (simp only [nf, Nat.beq] <;> rfl) | rfl) rfl ?_
          refine n_extract rfl (by first | (simp only [nf, Nat.beq] <;> rfl) | rfl) rfl ?_
          refine n_extract rfl (by first | (simp only [nf, Nat.beq] <;> rfl) | rfl) rfl ?_
          refine n_alloc rfl zi59 rfl (by first | (simp only [nf, Nat.beq] <;> rfl) | rfl) (by first | (simp only [nf, Nat.beq] <;> rfl) | rfl) ?_
          refine n_assign rfl (by first | (simp only [nf, Nat.beq] <;> rfl) | rfl) ?_
          refine n_assign rfl (by first | (simp only [nf, Nat.beq] <;> rfl) | rfl) ?_
          refine n_store ti59 (by first | (simp only [nf, Nat.beq] <;> rfl) | rfl) rfl (by first | (simp only [nf, Nat.beq] <;> rfl) | rfl) rfl (by first | (simp only [nf, Nat.beq] <;> rfl) | rfl) rfl rfl rfl (by first | (simp only [nf, Nat.beq] <;> rfl) | rfl) ?_
          refine AOps.nil ?_
          refine AWP.seq ?_
          refine AWP.region ?_
          refine n_load rfl ti59 (by first | (simp only [nf, Nat.beq] <;> rfl) | rfl) (by first | (simp only [nf, Nat.beq] <;> rfl) | rfl) rfl (by first | (simp only [nf, Nat.beq] <;> rfl) | rfl) ?_
          refine n_call0 rfl cf66 rfl (Eq.trans (by simp only [nl] <;> rfl) (by first | (simp only [nf, Nat.beq] <;> rfl) | rfl)) (r_next _) (by repeat (first | exact .nil | refine .cons ?_ ?_ | exact ren_ints | exact .lf (.val _) | exact .lf (lf_ints (.inl rfl)) | exact .bp ⟨rfl, rfl⟩ | exact .lf (D.flat_lf rfl))) (by first | exact .val _ | exact lf_ints (.inl rfl) | exact lf_ints (.inr rfl) | exact .any | exact D.flat_lf rfl) ?_
          refine n_move rfl (by first | (simp only [nf, Nat.beq] <;> rfl) | rfl) ?_
          refine n_extract rfl (by first | (simp only [nf, Nat.beq] <;> rfl) | rfl) rfl ?_
          refine n_extract rfl (by first | (simp only [nf, Nat.beq] <;> rfl) | rfl) rfl ?_
          refine n_extract rfl (by first | (simp only [nf, Nat.beq] <;> rfl) | rfl) rfl ?_
          refine n_alloc rfl zi59 rfl (by first | (simp only [nf, Nat.beq] <;> rfl) | rfl) (by first | (simp only [nf, Nat.beq] <;> rfl) | rfl) ?_
          refine n_assign rfl (by first | (simp only [nf, Nat.beq] <;> rfl) | rfl) ?_
          refine n_assign rfl (by first | (simp only [nf, Nat.beq] <;> rfl) | rfl) ?_
          refine n_store ti59 (by first | (simp only [nf, Nat.beq] <;> rfl) | rfl) rfl (by first | (simp only [nf, Nat.beq] <;> rfl) | rfl) rfl (by first | (simp only [nf, Nat.beq] <;> rfl) | rfl) rfl rfl rfl (by first | (simp only [nf, Nat.beq] <;> rfl) | rfl) ?_
          refine AOps.nil ?_
          refine AWP.seq ?_
          refine AWP.region ?_
          refine n_move rfl (by first | (simp only [nf, Nat.beq] <;> rfl) | rfl) ?_
          refine n_move rfl (by first | (simp only [nf, Nat.beq] <;> rfl) | rfl) ?_
          refine n_ibin rfl (by first | (simp only [nf, Nat.beq] <;> rfl) | rfl) (by first | (simp only [nf, Nat.beq] <;> rfl) | rfl) rfl ?_
          refine n_move rfl (by first | (simp only [nf, Nat.beq] <;> rfl) | rfl) ?_
          refine AOps.name (u := 67) (fun z => .val (.bool z)) (by first | (simp only [nf, Nat.beq] <;> rfl) | rfl) (fun b67 hb67 => ?_)
          refine n_soft (u := 67) (E := .val (.bool b67)) (b67) rfl rfl rfl (by first | (simp only [nf, Nat.beq] <;> rfl) | rfl) (by cases b67 <;> first | (intro _; rfl) | (intro h; exact absurd h (by decide))) (by cases b67 <;> first | (intro h; exact absurd h (by decide)) | (intro _; exact ⟨_, rfl, by first | (intro h; cases h; done) | decide | simp⟩)) (fun h => by
              cases b67 with
              | false => exact absurd h (by first | decide | simp)
              | true =>
                refine n_move rfl (by first | (simp only [nf, Nat.beq] <;> rfl) | rfl) ?_
                exact AOps.nil ⟨rfl, rfl, rfl⟩) ?_
          refine n_soft (u := 67) (E := .val (.bool b67)) (b67) rfl rfl rfl (by first | (simp only [nf, Nat.beq] <;> rfl) | rfl) (by cases b67 <;> first | (intro _; rfl) | (intro h; exact absurd h (by decide))) (by cases b67 <;> first | (intro h; exact absurd h (by decide)) | (intro _; exact ⟨_, rfl, by first | (intro h; cases h; done) | decide | simp⟩)) (fun h => by
              cases b67 with
              | false => exact absurd h (by first | decide | simp)
              | true =>
                refine n_move rfl (by first | (simp only [nf, Nat.beq] <;> rfl) | rfl) ?_
                exact AOps.nil ⟨rfl, rfl, rfl⟩) ?_
          refine n_soft (u := 67) (E := .val (.bool b67)) (b67) rfl rfl rfl (by first | (simp only [nf, Nat.beq] <;> rfl) | rfl) (by cases b67 <;> first | (intro _; rfl) | (intro h; exact absurd h (by decide))) (by cases b67 <;> first | (intro h; exact absurd h (by decide)) | (intro _; exact ⟨_, rfl, by first | (intro h; cases h; done) | decide | simp⟩)) (fun h => by
              cases b67 with
              | false => exact absurd h (by first | decide | simp)
              | true =>
                refine n_ibin rfl (by first | (simp only [nf, Nat.beq] <;> rfl) | rfl) (by first | (simp only [nf, Nat.beq] <;> rfl) | rfl) rfl ?_
                exact AOps.nil ⟨rfl, rfl, rfl⟩) ?_
          refine n_pick_and rfl (by first | (simp only [nf, Nat.beq] <;> rfl) | rfl) (fun h => by cases b67 with | false => exact absurd h (by decide) | true => exact (by first | (simp only [nf, Nat.beq] <;> rfl) | rfl)) ?_
          refine n_assign rfl (by first | (simp only [nf, Nat.beq] <;> rfl) | rfl) ?_
          subst hb67
          refine AOps.nil ?_
          refine AWP.anyT [2, 3] (fun p => match p with | [false, false] => [.box [vi (s).e, vi (s).y, vi (s).a, vi (s).n], .box [vi k.d, vi k.a, vi k.b], .box [vi (s).e, vi (s).y, vi (s).a, vi (s).n], .box [vi (s).e, vi (s).y, vi (s).a, vi (s).n], .box [vi (s.next.2.2).e, vi (s.next.2.2).y, vi (s.next.2.2).a, vi (s.next.2.2).n], .box [vi (s.next.2.2).e, vi (s.next.2.2).y, vi (s.next.2.2).a, vi (s.next.2.2).n]] | [true, false] => [.box [vi (s).e, vi (s).y, vi (s).a, vi (s).n], .box [vi k.d, vi k.a, vi k.b], .box [vi (s.next.2.2).e, vi (s.next.2.2).y, vi (s.next.2.2).a, vi (s.next.2.2).n], .box [vi (s).e, vi (s).y, vi (s).a, vi (s).n], .box [vi (s.next.2.2).e, vi (s.next.2.2).y, vi (s.next.2.2).a, vi (s.next.2.2).n], .box [vi (s.next.2.2).e, vi (s.next.2.2).y, vi (s.next.2.2).a, vi (s.next.2.2).n]] | [true, true] => [.box [vi (s).e, vi (s).y, vi (s).a, vi (s).n], .box [vi k.d, vi k.a, vi k.b], .box [vi (s.next.2.2).e, vi (s.next.2.2).y, vi (s.next.2.2).a, vi (s.next.2.2).n], .box [vi (s.next.2.2).e, vi (s.next.2.2).y, vi (s.next.2.2).a, vi (s.next.2.2).n], .box [vi (s.next.2.2).e, vi (s.next.2.2).y, vi (s.next.2.2).a, vi (s.next.2.2).n], .box [vi (s.next.2.2).e, vi (s.next.2.2).y, vi (s.next.2.2).a, vi (s.next.2.2).n]] | _ => []) (by kernel_rfl) (by kernel_rfl) rfl rfl ?_
          refine Walk.cases [([false, false], [.box [vi (s).e, vi (s).y, vi (s).a, vi (s).n], .box [vi k.d, vi k.a, vi k.b], .box [vi (s).e, vi (s).y, vi (s).a, vi (s).n], .box [vi (s).e, vi (s).y, vi (s).a, vi (s).n], .box [vi (s.next.2.2).e, vi (s.next.2.2).y, vi (s.next.2.2).a, vi (s.next.2.2).n], .box [vi (s.next.2.2).e, vi (s.next.2.2).y, vi (s.next.2.2).a, vi (s.next.2.2).n]], [.box [vi (s).e, vi (s).y, vi (s).a, vi (s).n], .box [vi k.d, vi k.a, vi k.b], .box [vi (s).e, vi (s).y, vi (s).a, vi (s).n], .box [vi (s).e, vi (s).y, vi (s).a, vi (s).n], .box [vi (s.next.2.2).e, vi (s.next.2.2).y, vi (s.next.2.2).a, vi (s.next.2.2).n], .box [vi (s.next.2.2).e, vi (s.next.2.2).y, vi (s.next.2.2).a, vi (s.next.2.2).n]])] (by rfl) (by kernel_rfl) (rs := [12]) (by rfl) (by first | (simp only [nf, Nat.beq] <;> rfl) | rfl) (fun base => ⟨
              ⟨rfl, rfl, by
                refine n_load rfl ti59 (by first | (simp only [nf, Nat.beq] <;> rfl) | rfl) (by first | (simp only [nf, Nat.beq] <;> rfl) | rfl) rfl (by first | (simp only [nf, Nat.beq] <;> rfl) | rfl) ?_
                exact AOps.nil ⟨rfl, rfl, rfl⟩⟩,
              trivial⟩) ?_
          refine Walk.cases [([false, false], [.box [vi (s).e, vi (s).y, vi (s).a, vi (s).n], .box [vi k.d, vi k.a, vi k.b], .box [vi (s).e, vi (s).y, vi (s).a, vi (s).n], .box [vi (s).e, vi (s).y, vi (s).a, vi (s).n], .box [vi (s.next.2.2).e, vi (s.next.2.2).y, vi (s.next.2.2).a, vi (s.next.2.2).n], .box [vi (s.next.2.2).e, vi (s.next.2.2).y, vi (s.next.2.2).a, vi (s.next.2.2).n]], [.box [vi (s).e, vi (s).y, vi (s).a, vi (s).n], .box [vi k.d, vi k.a, vi k.b], .box [vi (s).e, vi (s).y, vi (s).a, vi (s).n], .box [vi (s).e, vi (s).y, vi (s).a, vi (s).n], .box [vi (s.next.2.2).e, vi (s.next.2.2).y, vi (s.next.2.2).a, vi (s.next.2.2).n], .box [vi (s.next.2.2).e, vi (s.next.2.2).y, vi (s.next.2.2).a, vi (s.next.2.2).n]]), ([true, false], [.box [vi (s).e, vi (s).y, vi (s).a, vi (s).n], .box [vi k.d, vi k.a, vi k.b], .box [vi (s.next.2.2).e, vi (s.next.2.2).y, vi (s.next.2.2).a, vi (s.next.2.2).n], .box [vi (s).e, vi (s).y, vi (s).a, vi (s).n], .box [vi (s.next.2.2).e, vi (s.next.2.2).y, vi (s.next.2.2).a, vi (s.next.2.2).n], .box [vi (s.next.2.2).e, vi (s.next.2.2).y, vi (s.next.2.2).a, vi (s.next.2.2).n]], [.box [vi (s).e, vi (s).y, vi (s).a, vi (s).n], .box [vi k.d, vi k.a, vi k.b], .box [vi (s.next.2.2).e, vi (s.next.2.2).y, vi (s.next.2.2).a, vi (s.next.2.2).n], .box [vi (s).e, vi (s).y, vi (s).a, vi (s).n], .box [vi (s.next.2.2).e, vi (s.next.2.2).y, vi (s.next.2.2).a, vi (s.next.2.2).n], .box [vi (s.next.2.2).e, vi (s.next.2.2).y, vi (s.next.2.2).a, vi (s.next.2.2).n]])] (by rfl) (by kernel_rfl) (rs := [15]) (by rfl) (by first | (simp only [nf, Nat.beq] <;> rfl) | rfl) (fun base => ⟨
              ⟨rfl, rfl, by
                refine n_load rfl ti59 (by first | (simp only [nf, Nat.beq] <;> rfl) | rfl) (by first | (simp only [nf, Nat.beq] <;> rfl) | rfl) rfl (by first | (simp only [nf, Nat.beq] <;> rfl) | rfl) ?_
                exact AOps.nil ⟨rfl, rfl, rfl⟩⟩,
              ⟨rfl, rfl, by
                refine n_load rfl ti59 (by first | (simp only [nf, Nat.beq] <;> rfl) | rfl) (by first | (simp only [nf, Nat.beq] <;> rfl) | rfl) rfl (by first | (simp only [nf, Nat.beq] <;> rfl) | rfl) ?_
                exact AOps.nil ⟨rfl, rfl, rfl⟩⟩,
              trivial⟩) ?_
          refine Walk.cases (d := .any) [([false, false], [.box [vi (s).e, vi (s).y, vi (s).a, vi (s).n], .box [vi k.d, vi k.a, vi k.b], .box [vi (s).e, vi (s).y, vi (s).a, vi (s).n], .box [vi (s).e, vi (s).y, vi (s).a, vi (s).n], .box [vi (s.next.2.2).e, vi (s.next.2.2).y, vi (s.next.2.2).a, vi (s.next.2.2).n], .box [vi (s.next.2.2).e, vi (s.next.2.2).y, vi (s.next.2.2).a, vi (s.next.2.2).n]], [.box [vi (s).e, vi (s).y, vi (s).a, vi (s).n], .box [vi k.d, vi k.a, vi k.b], .box [vi (s.next.2.2).e, vi (s.next.2.2).y, vi (s.next.2.2).a, vi (s.next.2.2).n], .box [vi (s).e, vi (s).y, vi (s).a, vi (s).n], .box [vi (s.next.2.2).e, vi (s.next.2.2).y, vi (s.next.2.2).a, vi (s.next.2.2).n], .box [vi (s.next.2.2).e, vi (s.next.2.2).y, vi (s.next.2.2).a, vi (s.next.2.2).n]])] (by rfl) (by kernel_rfl) (rs := [7, 72]) (by rfl) (by first | (simp only [nf, Nat.beq] <;> rfl) | rfl) (fun base => ⟨
              ⟨rfl, rfl, by
                refine n_store ti59 (by first | (simp only [nf, Nat.beq] <;> rfl) | rfl) rfl (by first | (simp only [nf, Nat.beq] <;> rfl) | rfl) rfl (by first | (simp only [nf, Nat.beq] <;> rfl) | rfl) rfl rfl rfl (by first | (simp only [nf, Nat.beq] <;> rfl) | rfl) ?_
                exact AOps.nil ⟨rfl, rfl, rfl⟩⟩,
              trivial⟩) ?_
          refine Walk.cases (d := .any) [([true, false], [.box [vi (s).e, vi (s).y, vi (s).a, vi (s).n], .box [vi k.d, vi k.a, vi k.b], .box [vi (s.next.2.2).e, vi (s.next.2.2).y, vi (s.next.2.2).a, vi (s.next.2.2).n], .box [vi (s).e, vi (s).y, vi (s).a, vi (s).n], .box [vi (s.next.2.2).e, vi (s.next.2.2).y, vi (s.next.2.2).a, vi (s.next.2.2).n], .box [vi (s.next.2.2).e, vi (s.next.2.2).y, vi (s.next.2.2).a, vi (s.next.2.2).n]], [.box [vi (s).e, vi (s).y, vi (s).a, vi (s).n], .box [vi k.d, vi k.a, vi k.b], .box [vi (s.next.2.2).e, vi (s.next.2.2).y, vi (s.next.2.2).a, vi (s.next.2.2).n], .box [vi (s.next.2.2).e, vi (s.next.2.2).y, vi (s.next.2.2).a, vi (s.next.2.2).n], .box [vi (s.next.2.2).e, vi (s.next.2.2).y, vi (s.next.2.2).a, vi (s.next.2.2).n], .box [vi (s.next.2.2).e, vi (s.next.2.2).y, vi (s.next.2.2).a, vi (s.next.2.2).n]])] (by rfl) (by kernel_rfl) (rs := [8, 73]) (by rfl) (by first | (simp only [nf, Nat.beq] <;> rfl) | rfl) (fun base => ⟨
              ⟨rfl, rfl, by
                refine n_store ti59 (by first | (simp only [nf, Nat.beq] <;> rfl) | rfl) rfl (by first | (simp only [nf, Nat.beq] <;> rfl) | rfl) rfl (by first | (simp only [nf, Nat.beq] <;> rfl) | rfl) rfl rfl rfl (by first | (simp only [nf, Nat.beq] <;> rfl) | rfl) ?_
                exact AOps.nil ⟨rfl, rfl, rfl⟩⟩,
              trivial⟩) ?_
          refine Walk.done ?_
          refine AWP.seq ?_
          refine AWP.seq ?_
          refine AWP.anyStill (by kernel_rfl) (by kernel_rfl) ?_
          refine Walk.still (rs := [9]) (by rfl) (by first | (simp only [nf, Nat.beq] <;> rfl) | rfl) (fun base => by
              refine n_move rfl (by first | (simp only [nf, Nat.beq] <;> rfl) | rfl) ?_
              exact AOps.nil ⟨rfl, rfl, rfl⟩) ?_
          refine Walk.still (rs := [90]) (by rfl) (by first | (simp only [nf, Nat.beq] <;> rfl) | rfl) (fun base => by
              refine n_not rfl (by first | (simp only [nf, Nat.beq] <;> rfl) | rfl) rfl ?_
              exact AOps.nil ⟨rfl, rfl, rfl⟩) ?_
          refine Walk.still (rs := [91]) (by rfl) (by first | (simp only [nf, Nat.beq] <;> rfl) | rfl) (fun base => by
              refine n_move rfl (by first | (simp only [nf, Nat.beq] <;> rfl) | rfl) ?_
              exact AOps.nil ⟨rfl, rfl, rfl⟩) ?_
          refine Walk.name (u := 92) (fun z => .val (.bool z)) (by first | (simp only [nf, Nat.beq] <;> rfl) | rfl) (fun b92 hb92 => ?_)
          refine Walk.still (rs := [7, 92]) (by rfl) (by first | (simp only [nf, Nat.beq] <;> rfl) | rfl) (fun base => by
              refine n_soft (u := 92) (E := .val (.bool b92)) (!b92) rfl rfl rfl (by first | (simp only [nf, Nat.beq] <;> rfl) | rfl) (by cases b92 <;> first | (intro _; rfl) | (intro h; exact absurd h (by decide))) (by cases b92 <;> first | (intro h; exact absurd h (by decide)) | (intro _; exact ⟨_, rfl, by first | (intro h; cases h; done) | decide | simp⟩)) (fun h => by
                  cases b92 with
                  | true => exact absurd h (by first | decide | simp)
                  | false =>
                    refine n_load rfl ti59 (by first | (simp only [nf, Nat.beq] <;> rfl) | rfl) (by first | (simp only [nf, Nat.beq] <;> rfl) | rfl) rfl (by first | (simp only [nf, Nat.beq] <;> rfl) | rfl) ?_
                    exact AOps.nil ⟨rfl, rfl, rfl⟩) (AOps.nil ⟨rfl, rfl, rfl⟩)) ?_
          refine Walk.still (rs := [8, 92]) (by rfl) (by first | (simp only [nf, Nat.beq] <;> rfl) | rfl) (fun base => by
              refine n_soft (u := 92) (E := .val (.bool b92)) (!b92) rfl rfl rfl (by first | (simp only [nf, Nat.beq] <;> rfl) | rfl) (by cases b92 <;> first | (intro _; rfl) | (intro h; exact absurd h (by decide))) (by cases b92 <;> first | (intro h; exact absurd h (by decide)) | (intro _; exact ⟨_, rfl, by first | (intro h; cases h; done) | decide | simp⟩)) (fun h => by
                  cases b92 with
                  | true => exact absurd h (by first | decide | simp)
                  | false =>
                    refine n_load rfl ti59 (by first | (simp only [nf, Nat.beq] <;> rfl) | rfl) (by first | (simp only [nf, Nat.beq] <;> rfl) | rfl) rfl (by first | (simp only [nf, Nat.beq] <;> rfl) | rfl) ?_
                    exact AOps.nil ⟨rfl, rfl, rfl⟩) (AOps.nil ⟨rfl, rfl, rfl⟩)) ?_
          refine Walk.still (rs := [93, 94, 92]) (by rfl) (by first | (simp only [nf, Nat.beq] <;> rfl) | rfl) (fun base => by
              refine n_soft (u := 92) (E := .val (.bool b92)) (!b92) rfl rfl rfl (by first | (simp only [nf, Nat.beq] <;> rfl) | rfl) (by cases b92 <;> first | (intro _; rfl) | (intro h; exact absurd h (by decide))) (by cases b92 <;> first | (intro h; exact absurd h (by decide)) | (intro _; exact ⟨_, rfl, by first | (intro h; cases h; done) | decide | simp⟩)) (fun h => by
                  cases b92 with
                  | true => exact absurd h (by first | decide | simp)
                  | false =>
                    refine n_stne rfl (by first | (simp only [nf, Nat.beq] <;> rfl) | rfl) (by first | (simp only [nf, Nat.beq] <;> rfl) | rfl) rfl rfl Try.underlying59 (by kernel_rfl) (by kernel_rfl) (.int rfl ti2 Try.underlying2 rfl rfl (.int rfl ti2 Try.underlying2 rfl rfl (.int rfl ti2 Try.underlying2 rfl rfl (.int rfl ti2 Try.underlying2 rfl rfl .nil)))) rfl ?_
                    exact AOps.nil ⟨rfl, rfl, rfl⟩) (AOps.nil ⟨rfl, rfl, rfl⟩)) ?_
          refine Walk.still (rs := [92, 95]) (by rfl) (by first | (simp only [nf, Nat.beq] <;> rfl) | rfl) (fun base => by
              refine n_pick_or rfl (by first | (simp only [nf, Nat.beq] <;> rfl) | rfl) (fun h => by cases b92 with | true => exact absurd h (by decide) | false => exact (by first | (simp only [nf, Nat.beq] <;> rfl) | rfl)) ?_
              exact AOps.nil ⟨rfl, rfl, rfl⟩) ?_
          refine Walk.still (rs := [96]) (by rfl) (by first | (simp only [nf, Nat.beq] <;> rfl) | rfl) (fun base => by
              refine n_move rfl (by first | (simp only [nf, Nat.beq] <;> rfl) | rfl) ?_
              exact AOps.nil ⟨rfl, rfl, rfl⟩) ?_
          refine Walk.name (u := 97) (fun z => .val (.bool z)) (by first | (simp only [nf, Nat.beq] <;> rfl) | rfl) (fun b97 hb97 => ?_)
          refine Walk.still (rs := [7, 97]) (by rfl) (by first | (simp only [nf, Nat.beq] <;> rfl) | rfl) (fun base => by
              refine n_soft (u := 97) (E := .val (.bool b97)) (!b97) rfl rfl rfl (by first | (simp only [nf, Nat.beq] <;> rfl) | rfl) (by cases b97 <;> first | (intro _; rfl) | (intro h; exact absurd h (by decide))) (by cases b97 <;> first | (intro h; exact absurd h (by decide)) | (intro _; exact ⟨_, rfl, by first | (intro h; cases h; done) | decide | simp⟩)) (fun h => by
                  cases b97 with
                  | true => exact absurd h (by first | decide | simp)
                  | false =>
                    refine n_load rfl ti59 (by first | (simp only [nf, Nat.beq] <;> rfl) | rfl) (by first | (simp only [nf, Nat.beq] <;> rfl) | rfl) rfl (by first | (simp only [nf, Nat.beq] <;> rfl) | rfl) ?_
                    exact AOps.nil ⟨rfl, rfl, rfl⟩) (AOps.nil ⟨rfl, rfl, rfl⟩)) ?_
          refine Walk.still (rs := [98, 97]) (by rfl) (by first | (simp only [nf, Nat.beq] <;> rfl) | rfl) (fun base => by
              refine n_soft (u := 97) (E := .val (.bool b97)) (!b97) rfl rfl rfl (by first | (simp only [nf, Nat.beq] <;> rfl) | rfl) (by cases b97 <;> first | (intro _; rfl) | (intro h; exact absurd h (by decide))) (by cases b97 <;> first | (intro h; exact absurd h (by decide)) | (intro _; exact ⟨_, rfl, by first | (intro h; cases h; done) | decide | simp⟩)) (fun h => by
                  cases b97 with
                  | true => exact absurd h (by first | decide | simp)
                  | false =>
                    refine n_call0 rfl cf61 rfl (Eq.trans (by simp only [nl] <;> rfl) (by first | (simp only [nf, Nat.beq] <;> rfl) | rfl)) (l_chk _) (by repeat (first | exact .nil | refine .cons ?_ ?_ | exact ren_ints | exact .lf (.val _) | exact .lf (lf_ints (.inl rfl)) | exact .bp ⟨rfl, rfl⟩ | exact .lf (D.flat_lf rfl))) (by first | exact .val _ | exact lf_ints (.inl rfl) | exact lf_ints (.inr rfl) | exact .any | exact D.flat_lf rfl) ?_
                    exact AOps.nil ⟨rfl, rfl, rfl⟩) (AOps.nil ⟨rfl, rfl, rfl⟩)) ?_
          refine Walk.still (rs := [8, 97]) (by rfl) (by first | (simp only [nf, Nat.beq] <;> rfl) | rfl) (fun base => by
              refine n_soft (u := 97) (E := .val (.bool b97)) (!b97) rfl rfl rfl (by first | (simp only [nf, Nat.beq] <;> rfl) | rfl) (by cases b97 <;> first | (intro _; rfl) | (intro h; exact absurd h (by decide))) (by cases b97 <;> first | (intro h; exact absurd h (by decide)) | (intro _; exact ⟨_, rfl, by first | (intro h; cases h; done) | decide | simp⟩)) (fun h => by
                  cases b97 with
                  | true => exact absurd h (by first | decide | simp)
                  | false =>
                    refine n_load rfl ti59 (by first | (simp only [nf, Nat.beq] <;> rfl) | rfl) (by first | (simp only [nf, Nat.beq] <;> rfl) | rfl) rfl (by first | (simp only [nf, Nat.beq] <;> rfl) | rfl) ?_
                    exact AOps.nil ⟨rfl, rfl, rfl⟩) (AOps.nil ⟨rfl, rfl, rfl⟩)) ?_
          refine Walk.still (rs := [100, 97]) (by rfl) (by first | (simp only [nf, Nat.beq] <;> rfl) | rfl) (fun base => by
              refine n_soft (u := 97) (E := .val (.bool b97)) (!b97) rfl rfl rfl (by first | (simp only [nf, Nat.beq] <;> rfl) | rfl) (by cases b97 <;> first | (intro _; rfl) | (intro h; exact absurd h (by decide))) (by cases b97 <;> first | (intro h; exact absurd h (by decide)) | (intro _; exact ⟨_, rfl, by first | (intro h; cases h; done) | decide | simp⟩)) (fun h => by
                  cases b97 with
                  | true => exact absurd h (by first | decide | simp)
                  | false =>
                    refine n_call0 rfl cf70 rfl (Eq.trans (by simp only [nl] <;> rfl) (by first | (simp only [nf, Nat.beq] <;> rfl) | rfl)) (r_chk _) (by repeat (first | exact .nil | refine .cons ?_ ?_ | exact ren_ints | exact .lf (.val _) | exact .lf (lf_ints (.inl rfl)) | exact .bp ⟨rfl, rfl⟩ | exact .lf (D.flat_lf rfl))) (by first | exact .val _ | exact lf_ints (.inl rfl) | exact lf_ints (.inr rfl) | exact .any | exact D.flat_lf rfl) ?_
                    exact AOps.nil ⟨rfl, rfl, rfl⟩) (AOps.nil ⟨rfl, rfl, rfl⟩)) ?_
          refine Walk.still (rs := [99, 101, 97]) (by rfl) (by first | (simp only [nf, Nat.beq] <;> rfl) | rfl) (fun base => by
              refine n_soft (u := 97) (E := .val (.bool b97)) (!b97) rfl rfl rfl (by first | (simp only [nf, Nat.beq] <;> rfl) | rfl) (by cases b97 <;> first | (intro _; rfl) | (intro h; exact absurd h (by decide))) (by cases b97 <;> first | (intro h; exact absurd h (by decide)) | (intro _; exact ⟨_, rfl, by first | (intro h; cases h; done) | decide | simp⟩)) (fun h => by
                  cases b97 with
                  | true => exact absurd h (by first | decide | simp)
                  | false =>
                    refine n_ibin rfl (by first | (simp only [nf, Nat.beq] <;> rfl) | rfl) (by first | (simp only [nf, Nat.beq] <;> rfl) | rfl) rfl ?_
                    exact AOps.nil ⟨rfl, rfl, rfl⟩) (AOps.nil ⟨rfl, rfl, rfl⟩)) ?_
          refine Walk.still (rs := [97, 102]) (by rfl) (by first | (simp only [nf, Nat.beq] <;> rfl) | rfl) (fun base => by
              refine n_pick_or rfl (by first | (simp only [nf, Nat.beq] <;> rfl) | rfl) (fun h => by cases b97 with | true => exact absurd h (by decide) | false => exact (by first | (simp only [nf, Nat.beq] <;> rfl) | rfl)) ?_
              exact AOps.nil ⟨rfl, rfl, rfl⟩) ?_
          refine Walk.still (rs := [103]) (by rfl) (by first | (simp only [nf, Nat.beq] <;> rfl) | rfl) (fun base => by
              refine n_move rfl (by first | (simp only [nf, Nat.beq] <;> rfl) | rfl) ?_
              exact AOps.nil ⟨rfl, rfl, rfl⟩) ?_
          refine Walk.name (u := 104) (fun z => .val (.bool z)) (by first | (simp only [nf, Nat.beq] <;> rfl) | rfl) (fun b104 hb104 => ?_)
          refine Walk.still (rs := [7, 104]) (by rfl) (by first | (simp only [nf, Nat.beq] <;> rfl) | rfl) (fun base => by
              refine n_soft (u := 104) (E := .val (.bool b104)) (!b104) rfl rfl rfl (by first | (simp only [nf, Nat.beq] <;> rfl) | rfl) (by cases b104 <;> first | (intro _; rfl) | (intro h; exact absurd h (by decide))) (by cases b104 <;> first | (intro h; exact absurd h (by decide)) | (intro _; exact ⟨_, rfl, by first | (intro h; cases h; done) | decide | simp⟩)) (fun h => by
                  cases b104 with
                  | true => exact absurd h (by first | decide | simp)
                  | false =>
                    refine n_load rfl ti59 (by first | (simp only [nf, Nat.beq] <;> rfl) | rfl) (by first | (simp only [nf, Nat.beq] <;> rfl) | rfl) rfl (by first | (simp only [nf, Nat.beq] <;> rfl) | rfl) ?_
                    exact AOps.nil ⟨rfl, rfl, rfl⟩) (AOps.nil ⟨rfl, rfl, rfl⟩)) ?_
          refine Walk.still (rs := [105, 104]) (by rfl) (by first | (simp only [nf, Nat.beq] <;> rfl) | rfl) (fun base => by
              refine n_soft (u := 104) (E := .val (.bool b104)) (!b104) rfl rfl rfl (by first | (simp only [nf, Nat.beq] <;> rfl) | rfl) (by cases b104 <;> first | (intro _; rfl) | (intro h; exact absurd h (by decide))) (by cases b104 <;> first | (intro h; exact absurd h (by decide)) | (intro _; exact ⟨_, rfl, by first | (intro h; cases h; done) | decide | simp⟩)) (fun h => by
                  cases b104 with
                  | true => exact absurd h (by first | decide | simp)
                  | false =>
                    refine n_call0 rfl cf62 rfl (Eq.trans (by simp only [nl] <;> rfl) (by first | (simp only [nf, Nat.beq] <;> rfl) | rfl)) (l_fin _) (by repeat (first | exact .nil | refine .cons ?_ ?_ | exact ren_ints | exact .lf (.val _) | exact .lf (lf_ints (.inl rfl)) | exact .bp ⟨rfl, rfl⟩ | exact .lf (D.flat_lf rfl))) (by first | exact .val _ | exact lf_ints (.inl rfl) | exact lf_ints (.inr rfl) | exact .any | exact D.flat_lf rfl) ?_
                    exact AOps.nil ⟨rfl, rfl, rfl⟩) (AOps.nil ⟨rfl, rfl, rfl⟩)) ?_
          refine Walk.still (rs := [8, 104]) (by rfl) (by first | (simp only [nf, Nat.beq] <;> rfl) | rfl) (fun base => by
              refine n_soft (u := 104) (E := .val (.bool b104)) (!b104) rfl rfl rfl (by first | (simp only [nf, Nat.beq] <;> rfl) | rfl) (by cases b104 <;> first | (intro _; rfl) | (intro h; exact absurd h (by decide))) (by cases b104 <;> first | (intro h; exact absurd h (by decide)) | (intro _; exact ⟨_, rfl, by first | (intro h; cases h; done) | decide | simp⟩)) (fun h => by
                  cases b104 with
                  | true => exact absurd h (by first | decide | simp)
                  | false =>
                    refine n_load rfl ti59 (by first | (simp only [nf, Nat.beq] <;> rfl) | rfl) (by first | (simp only [nf, Nat.beq] <;> rfl) | rfl) rfl (by first | (simp only [nf, Nat.beq] <;> rfl) | rfl) ?_
                    exact AOps.nil ⟨rfl, rfl, rfl⟩) (AOps.nil ⟨rfl, rfl, rfl⟩)) ?_
          refine Walk.still (rs := [107, 104]) (by rfl) (by first | (simp only [nf, Nat.beq] <;> rfl) | rfl) (fun base => by
              refine n_soft (u := 104) (E := .val (.bool b104)) (!b104) rfl rfl rfl (by first | (simp only [nf, Nat.beq] <;> rfl) | rfl) (by cases b104 <;> first | (intro _; rfl) | (intro h; exact absurd h (by decide))) (by cases b104 <;> first | (intro h; exact absurd h (by decide)) | (intro _; exact ⟨_, rfl, by first | (intro h; cases h; done) | decide | simp⟩)) (fun h => by
                  cases b104 with
                  | true => exact absurd h (by first | decide | simp)
                  | false =>
                    refine n_call0 rfl cf71 rfl (Eq.trans (by simp only [nl] <;> rfl) (by first | (simp only [nf, Nat.beq] <;> rfl) | rfl)) (r_fin _) (by repeat (first | exact .nil | refine .cons ?_ ?_ | exact ren_ints | exact .lf (.val _) | exact .lf (lf_ints (.inl rfl)) | exact .bp ⟨rfl, rfl⟩ | exact .lf (D.flat_lf rfl))) (by first | exact .val _ | exact lf_ints (.inl rfl) | exact lf_ints (.inr rfl) | exact .any | exact D.flat_lf rfl) ?_
                    exact AOps.nil ⟨rfl, rfl, rfl⟩) (AOps.nil ⟨rfl, rfl, rfl⟩)) ?_
          refine Walk.still (rs := [106, 108, 104]) (by rfl) (by first | (simp only [nf, Nat.beq] <;> rfl) | rfl) (fun base => by
              refine n_soft (u := 104) (E := .val (.bool b104)) (!b104) rfl rfl rfl (by first | (simp only [nf, Nat.beq] <;> rfl) | rfl) (by cases b104 <;> first | (intro _; rfl) | (intro h; exact absurd h (by decide))) (by cases b104 <;> first | (intro h; exact absurd h (by decide)) | (intro _; exact ⟨_, rfl, by first | (intro h; cases h; done) | decide | simp⟩)) (fun h => by
                  cases b104 with
                  | true => exact absurd h (by first | decide | simp)
                  | false =>
                    refine n_bneq rfl (by first | (simp only [nf, Nat.beq] <;> rfl) | rfl) (by first | (simp only [nf, Nat.beq] <;> rfl) | rfl) Try.underlying4 rfl ?_
                    exact AOps.nil ⟨rfl, rfl, rfl⟩) (AOps.nil ⟨rfl, rfl, rfl⟩)) ?_
          refine Walk.still (rs := [104, 109]) (by rfl) (by first | (simp only [nf, Nat.beq] <;> rfl) | rfl) (fun base => by
              refine n_pick_or rfl (by first | (simp only [nf, Nat.beq] <;> rfl) | rfl) (fun h => by cases b104 with | true => exact absurd h (by decide) | false => exact (by first | (simp only [nf, Nat.beq] <;> rfl) | rfl)) ?_
              exact AOps.nil ⟨rfl, rfl, rfl⟩) ?_
          subst hb92
          subst hb97
          subst hb104
          refine Walk.done ?_
          refine AWP.cond (by first | (simp only [nf, Nat.beq] <;> rfl) | rfl) (fun hc6 => ?_) (fun hc6 => ?_)
          · try simp only [nh] at hc6
            all_goals simp at hc6
          · try simp only [nh] at hc6
            refine AWP.skip ?_
            refine AWP.region ?_
            refine n_load rfl ti59 (by first | (simp only [nf, Nat.beq] <;> rfl) | rfl) (by first | (simp only [nf, Nat.beq] <;> rfl) | rfl) rfl (by first | (simp only [nf, Nat.beq] <;> rfl) | rfl) ?_
            refine n_store ti59 (by first | (simp only [nf, Nat.beq] <;> rfl) | rfl) rfl (by first | (simp only [nf, Nat.beq] <;> rfl) | rfl) rfl (by first | (simp only [nf, Nat.beq] <;> rfl) | rfl) rfl rfl rfl (by first | (simp only [nf, Nat.beq] <;> rfl) | rfl) ?_
            refine AOps.nil ?_
            refine AWP.region ?_
            first | refine n_iadd rfl (by first | (simp only [nf, Nat.beq] <;> rfl) | rfl) (by first | (simp only [nf, Nat.beq] <;> rfl) | rfl) rfl (by omega) (by omega) ?_ | refine n_ibin rfl (by first | (simp only [nf, Nat.beq] <;> rfl) | rfl) (by first | (simp only [nf, Nat.beq] <;> rfl) | rfl) rfl ?_
            refine n_move rfl (by first | (simp only [nf, Nat.beq] <;> rfl) | rfl) ?_
            refine AOps.nil ?_
            refine ⟨(i + 1, _), _, by dsimp only; omega, ?_, rfl, by dsimp only; omega⟩
            (repeat (first | exact FLe.empty _ | refine FLe.put ?_ ?_)) <;> first | (simp only [nf, Nat.beq]; done) | rfl | (try simp only [nf, Nat.beq]; first | (simp only [List.length_map]; done) | (congr 2; omega))
        · try simp only [nh] at hc5
          refine AWP.seq ?_
          refine AWP.region ?_
          refine n_ibin rfl (by first | (simp only [nf, Nat.beq] <;> rfl) | rfl) (by first | (simp only [nf, Nat.beq] <;> rfl) | rfl) rfl ?_
          refine n_assign rfl (by first | (simp only [nf, Nat.beq] <;> rfl) | rfl) ?_
          refine AOps.nil ?_
          refine AWP.cond (by first | (simp only [nf, Nat.beq] <;> rfl) | rfl) (fun hc7 => ?_) (fun hc7 => ?_)
          · try simp only [nh] at hc7
            refine AWP.anyT [4, 5] (fun p => match p with | [false, false] => [.box [vi (s).e, vi (s).y, vi (s).a, vi (s).n], .box [vi k.d, vi k.a, vi k.b], .box [vi (s).e, vi (s).y, vi (s).a, vi (s).n], .box [vi (s).e, vi (s).y, vi (s).a, vi (s).n]] | [true, false] => [.box [vi (s).e, vi (s).y, vi (s).a, vi (s).n], .box [vi k.d, vi k.a, vi k.b], .box [vi (s.back).e, vi (s.back).y, vi (s.back).a, vi (s.back).n], .box [vi (s).e, vi (s).y, vi (s).a, vi (s).n]] | [true, true] => [.box [vi (s).e, vi (s).y, vi (s).a, vi (s).n], .box [vi k.d, vi k.a, vi k.b], .box [vi (s.back).e, vi (s.back).y, vi (s.back).a, vi (s.back).n], .box [vi (s.back).e, vi (s.back).y, vi (s.back).a, vi (s.back).n]] | _ => []) (by kernel_rfl) (by kernel_rfl) rfl rfl ?_
            refine Walk.cases [([false, false], [.box [vi (s).e, vi (s).y, vi (s).a, vi (s).n], .box [vi k.d, vi k.a, vi k.b], .box [vi (s).e, vi (s).y, vi (s).a, vi (s).n], .box [vi (s).e, vi (s).y, vi (s).a, vi (s).n]], [.box [vi (s).e, vi (s).y, vi (s).a, vi (s).n], .box [vi k.d, vi k.a, vi k.b], .box [vi (s).e, vi (s).y, vi (s).a, vi (s).n], .box [vi (s).e, vi (s).y, vi (s).a, vi (s).n]])] (by rfl) (by kernel_rfl) (rs := [2]) (by rfl) (by first | (simp only [nf, Nat.beq] <;> rfl) | rfl) (fun base => ⟨
                ⟨rfl, rfl, by
                  refine n_load rfl ti59 (by first | (simp only [nf, Nat.beq] <;> rfl) | rfl) (by first | (simp only [nf, Nat.beq] <;> rfl) | rfl) rfl (by first | (simp only [nf, Nat.beq] <;> rfl) | rfl) ?_
                  exact AOps.nil ⟨rfl, rfl, rfl⟩⟩,
                trivial⟩) ?_
            refine Walk.cases [([false, false], [.box [vi (s).e, vi (s).y, vi (s).a, vi (s).n], .box [vi k.d, vi k.a, vi k.b], .box [vi (s).e, vi (s).y, vi (s).a, vi (s).n], .box [vi (s).e, vi (s).y, vi (s).a, vi (s).n]], [.box [vi (s).e, vi (s).y, vi (s).a, vi (s).n], .box [vi k.d, vi k.a, vi k.b], .box [vi (s).e, vi (s).y, vi (s).a, vi (s).n], .box [vi (s).e, vi (s).y, vi (s).a, vi (s).n]])] (by rfl) (by kernel_rfl) (rs := [76]) (by rfl) (by first | (simp only [nf, Nat.beq] <;> rfl) | rfl) (fun base => ⟨
                ⟨rfl, rfl, by
                  refine n_call0 rfl cf58 rfl (Eq.trans (by simp only [nl] <;> rfl) (by first | (simp only [nf, Nat.beq] <;> rfl) | rfl)) (l_back _) (by repeat (first | exact .nil | refine .cons ?_ ?_ | exact ren_ints | exact .lf (.val _) | exact .lf (lf_ints (.inl rfl)) | exact .bp ⟨rfl, rfl⟩ | exact .lf (D.flat_lf rfl))) (by first | exact .val _ | exact lf_ints (.inl rfl) | exact lf_ints (.inr rfl) | exact .any | exact D.flat_lf rfl) ?_
                  exact AOps.nil ⟨rfl, rfl, rfl⟩⟩,
                trivial⟩) ?_
            refine Walk.cases [([false, false], [.box [vi (s).e, vi (s).y, vi (s).a, vi (s).n], .box [vi k.d, vi k.a, vi k.b], .box [vi (s).e, vi (s).y, vi (s).a, vi (s).n], .box [vi (s).e, vi (s).y, vi (s).a, vi (s).n]], [.box [vi (s).e, vi (s).y, vi (s).a, vi (s).n], .box [vi k.d, vi k.a, vi k.b], .box [vi (s).e, vi (s).y, vi (s).a, vi (s).n], .box [vi (s).e, vi (s).y, vi (s).a, vi (s).n]])] (by rfl) (by kernel_rfl) (rs := [2]) (by rfl) (by first | (simp only [nf, Nat.beq] <;> rfl) | rfl) (fun base => ⟨
                ⟨rfl, rfl, by
                  refine n_load rfl ti59 (by first | (simp only [nf, Nat.beq] <;> rfl) | rfl) (by first | (simp only [nf, Nat.beq] <;> rfl) | rfl) rfl (by first | (simp only [nf, Nat.beq] <;> rfl) | rfl) ?_
                  exact AOps.nil ⟨rfl, rfl, rfl⟩⟩,
                trivial⟩) ?_
            refine Walk.cases [([false, false], [.box [vi (s).e, vi (s).y, vi (s).a, vi (s).n], .box [vi k.d, vi k.a, vi k.b], .box [vi (s).e, vi (s).y, vi (s).a, vi (s).n], .box [vi (s).e, vi (s).y, vi (s).a, vi (s).n]], [.box [vi (s).e, vi (s).y, vi (s).a, vi (s).n], .box [vi k.d, vi k.a, vi k.b], .box [vi (s).e, vi (s).y, vi (s).a, vi (s).n], .box [vi (s).e, vi (s).y, vi (s).a, vi (s).n]])] (by rfl) (by kernel_rfl) (rs := [78]) (by rfl) (by first | (simp only [nf, Nat.beq] <;> rfl) | rfl) (fun base => ⟨
                ⟨rfl, rfl, by
                  refine n_call0 rfl cf67 rfl (Eq.trans (by simp only [nl] <;> rfl) (by first | (simp only [nf, Nat.beq] <;> rfl) | rfl)) (r_back _) (by repeat (first | exact .nil | refine .cons ?_ ?_ | exact ren_ints | exact .lf (.val _) | exact .lf (lf_ints (.inl rfl)) | exact .bp ⟨rfl, rfl⟩ | exact .lf (D.flat_lf rfl))) (by first | exact .val _ | exact lf_ints (.inl rfl) | exact lf_ints (.inr rfl) | exact .any | exact D.flat_lf rfl) ?_
                  exact AOps.nil ⟨rfl, rfl, rfl⟩⟩,
                trivial⟩) ?_
            refine Walk.cases (d := .any) [([false, false], [.box [vi (s).e, vi (s).y, vi (s).a, vi (s).n], .box [vi k.d, vi k.a, vi k.b], .box [vi (s).e, vi (s).y, vi (s).a, vi (s).n], .box [vi (s).e, vi (s).y, vi (s).a, vi (s).n]], [.box [vi (s).e, vi (s).y, vi (s).a, vi (s).n], .box [vi k.d, vi k.a, vi k.b], .box [vi (s.back).e, vi (s.back).y, vi (s.back).a, vi (s.back).n], .box [vi (s).e, vi (s).y, vi (s).a, vi (s).n]])] (by rfl) (by kernel_rfl) (rs := [7, 77]) (by rfl) (by first | (simp only [nf, Nat.beq] <;> rfl) | rfl) (fun base => ⟨
                ⟨rfl, rfl, by
                  refine n_store ti59 (by first | (simp only [nf, Nat.beq] <;> rfl) | rfl) rfl (by first | (simp only [nf, Nat.beq] <;> rfl) | rfl) rfl (by first | (simp only [nf, Nat.beq] <;> rfl) | rfl) rfl rfl rfl (by first | (simp only [nf, Nat.beq] <;> rfl) | rfl) ?_
                  exact AOps.nil ⟨rfl, rfl, rfl⟩⟩,
                trivial⟩) ?_
            refine Walk.cases (d := .any) [([true, false], [.box [vi (s).e, vi (s).y, vi (s).a, vi (s).n], .box [vi k.d, vi k.a, vi k.b], .box [vi (s.back).e, vi (s.back).y, vi (s.back).a, vi (s.back).n], .box [vi (s).e, vi (s).y, vi (s).a, vi (s).n]], [.box [vi (s).e, vi (s).y, vi (s).a, vi (s).n], .box [vi k.d, vi k.a, vi k.b], .box [vi (s.back).e, vi (s.back).y, vi (s.back).a, vi (s.back).n], .box [vi (s.back).e, vi (s.back).y, vi (s.back).a, vi (s.back).n]])] (by rfl) (by kernel_rfl) (rs := [8, 79]) (by rfl) (by first | (simp only [nf, Nat.beq] <;> rfl) | rfl) (fun base => ⟨
                ⟨rfl, rfl, by
                  refine n_store ti59 (by first | (simp only [nf, Nat.beq] <;> rfl) | rfl) rfl (by first | (simp only [nf, Nat.beq] <;> rfl) | rfl) rfl (by first | (simp only [nf, Nat.beq] <;> rfl) | rfl) rfl rfl rfl (by first | (simp only [nf, Nat.beq] <;> rfl) | rfl) ?_
                  exact AOps.nil ⟨rfl, rfl, rfl⟩⟩,
                trivial⟩) ?_
            refine Walk.done ?_
            refine AWP.seq ?_
            refine AWP.seq ?_
            refine AWP.anyStill (by kernel_rfl) (by kernel_rfl) ?_
            refine Walk.still (rs := [9]) (by rfl) (by first | (simp only [nf, Nat.beq] <;> rfl) | rfl) (fun base => by
                refine n_move rfl (by first | (simp only [nf, Nat.beq] <;> rfl) | rfl) ?_
                exact AOps.nil ⟨rfl, rfl, rfl⟩) ?_
            refine Walk.still (rs := [90]) (by rfl) (by first | (simp only [nf, Nat.beq] <;> rfl) | rfl) (fun base => by
                refine n_not rfl (by first | (simp only [nf, Nat.beq] <;> rfl) | rfl) rfl ?_
                exact AOps.nil ⟨rfl, rfl, rfl⟩) ?_
            refine Walk.still (rs := [91]) (by rfl) (by first | (simp only [nf, Nat.beq] <;> rfl) | rfl) (fun base => by
                refine n_move rfl (by first | (simp only [nf, Nat.beq] <;> rfl) | rfl) ?_
                exact AOps.nil ⟨rfl, rfl, rfl⟩) ?_
            refine Walk.still (rs := [7, 92]) (by rfl) (by first | (simp only [nf, Nat.beq] <;> rfl) | rfl) (fun base => by
                refine n_guard_yes rfl rfl rfl (by first | (simp only [nf, Nat.beq] <;> rfl) | rfl) rfl ?_
                refine n_load rfl ti59 (by first | (simp only [nf, Nat.beq] <;> rfl) | rfl) (by first | (simp only [nf, Nat.beq] <;> rfl) | rfl) rfl (by first | (simp only [nf, Nat.beq] <;> rfl) | rfl) ?_
                exact AOps.nil ⟨rfl, rfl, rfl⟩) ?_
            refine Walk.still (rs := [8, 92]) (by rfl) (by first | (simp only [nf, Nat.beq] <;> rfl) | rfl) (fun base => by
                refine n_guard_yes rfl rfl rfl (by first | (simp only [nf, Nat.beq] <;> rfl) | rfl) rfl ?_
                refine n_load rfl ti59 (by first | (simp only [nf, Nat.beq] <;> rfl) | rfl) (by first | (simp only [nf, Nat.beq] <;> rfl) | rfl) rfl (by first | (simp only [nf, Nat.beq] <;> rfl) | rfl) ?_
                exact AOps.nil ⟨rfl, rfl, rfl⟩) ?_
            refine Walk.still (rs := [93, 94, 92]) (by rfl) (by first | (simp only [nf, Nat.beq] <;> rfl) | rfl) (fun base => by
                refine n_guard_yes rfl rfl rfl (by first | (simp only [nf, Nat.beq] <;> rfl) | rfl) rfl ?_
                refine n_stne rfl (by first | (simp only [nf, Nat.beq] <;> rfl) | rfl) (by first | (simp only [nf, Nat.beq] <;> rfl) | rfl) rfl rfl Try.underlying59 (by kernel_rfl) (by kernel_rfl) (.int rfl ti2 Try.underlying2 rfl rfl (.int rfl ti2 Try.underlying2 rfl rfl (.int rfl ti2 Try.underlying2 rfl rfl (.int rfl ti2 Try.underlying2 rfl rfl .nil)))) rfl ?_
                exact AOps.nil ⟨rfl, rfl, rfl⟩) ?_
            refine Walk.still (rs := [92, 95]) (by rfl) (by first | (simp only [nf, Nat.beq] <;> rfl) | rfl) (fun base => by
                refine n_pick rfl (by first | (simp only [nf, Nat.beq] <;> rfl) | rfl) (by first | (simp only [nf, Nat.beq] <;> rfl) | rfl) ?_
                exact AOps.nil ⟨rfl, rfl, rfl⟩) ?_
            refine Walk.still (rs := [96]) (by rfl) (by first | (simp only [nf, Nat.beq] <;> rfl) | rfl) (fun base => by
                refine n_move rfl (by first | (simp only [nf, Nat.beq] <;> rfl) | rfl) ?_
                exact AOps.nil ⟨rfl, rfl, rfl⟩) ?_
            refine Walk.name (u := 97) (fun z => .val (.bool z)) (by first | (simp only [nf, Nat.beq] <;> rfl) | rfl) (fun b97 hb97 => ?_)
            refine Walk.still (rs := [7, 97]) (by rfl) (by first | (simp only [nf, Nat.beq] <;> rfl) | rfl) (fun base => by
                refine n_soft (u := 97) (E := .val (.bool b97)) (!b97) rfl rfl rfl (by first | (simp only [nf, Nat.beq] <;> rfl) | rfl) (by cases b97 <;> first | (intro _; rfl) | (intro h; exact absurd h (by decide))) (by cases b97 <;> first | (intro h; exact absurd h (by decide)) | (intro _; exact ⟨_, rfl, by first | (intro h; cases h; done) | decide | simp⟩)) (fun h => by
                    cases b97 with
                    | true => exact absurd h (by first | decide | simp)
                    | false =>
                      refine n_load rfl ti59 (by first | (simp only [nf, Nat.beq] <;> rfl) | rfl) (by first | (simp only [nf, Nat.beq] <;> rfl) | rfl) rfl (by first | (simp only [nf, Nat.beq] <;> rfl) | rfl) ?_
                      exact AOps.nil ⟨rfl, rfl, rfl⟩) (AOps.nil ⟨rfl, rfl, rfl⟩)) ?_
            refine Walk.still (rs := [98, 97]) (by rfl) (by first | (simp only [nf, Nat.beq] <;> rfl) | rfl) (fun base => by
                refine n_soft (u := 97) (E := .val (.bool b97)) (!b97) rfl rfl rfl (by first | (simp only [nf, Nat.beq] <;> rfl) | rfl) (by cases b97 <;> first | (intro _; rfl) | (intro h; exact absurd h (by decide))) (by cases b97 <;> first | (intro h; exact absurd h (by decide)) | (intro _; exact ⟨_, rfl, by first | (intro h; cases h; done) | decide | simp⟩)) (fun h => by
                    cases b97 with
                    | true => exact absurd h (by first | decide | simp)
                    | false =>
                      refine n_call0 rfl cf61 rfl (Eq.trans (by simp only [nl] <;> rfl) (by first | (simp only [nf, Nat.beq] <;> rfl) | rfl)) (l_chk _) (by repeat (first | exact .nil | refine .cons ?_ ?_ | exact ren_ints | exact .lf (.val _) | exact .lf (lf_ints (.inl rfl)) | exact .bp ⟨rfl, rfl⟩ | exact .lf (D.flat_lf rfl))) (by first | exact .val _ | exact lf_ints (.inl rfl) | exact lf_ints (.inr rfl) | exact .any | exact D.flat_lf rfl) ?_
                      exact AOps.nil ⟨rfl, rfl, rfl⟩) (AOps.nil ⟨rfl, rfl, rfl⟩)) ?_
            refine Walk.still (rs := [8, 97]) (by rfl) (by first | (simp only [nf, Nat.beq] <;> rfl) | rfl) (fun base => by
                refine n_soft (u := 97) (E := .val (.bool b97)) (!b97) rfl rfl rfl (by first | (simp only [nf, Nat.beq] <;> rfl) | rfl) (by cases b97 <;> first | (intro _; rfl) | (intro h; exact absurd h (by decide))) (by cases b97 <;> first | (intro h; exact absurd h (by decide)) | (intro _; exact ⟨_, rfl, by first | (intro h; cases h; done) | decide | simp⟩)) (fun h => by
                    cases b97 with
                    | true => exact absurd h (by first | decide | simp)
                    | false =>
                      refine n_load rfl ti59 (by first | (simp only [nf, Nat.beq] <;> rfl) | rfl) (by first | (simp only [nf, Nat.beq] <;> rfl) | rfl) rfl (by first | (simp only [nf, Nat.beq] <;> rfl) | rfl) ?_
                      exact AOps.nil ⟨rfl, rfl, rfl⟩) (AOps.nil ⟨rfl, rfl, rfl⟩)) ?_
            refine Walk.still (rs := [100, 97]) (by rfl) (by first | (simp only [nf, Nat.beq] <;> rfl) | rfl) (fun base => by
                refine n_soft (u := 97) (E := .val (.bool b97)) (!b97) rfl rfl rfl (by first | (simp only [nf, Nat.beq] <;> rfl) | rfl) (by cases b97 <;> first | (intro _; rfl) | (intro h; exact absurd h (by decide))) (by cases b97 <;> first | (intro h; exact absurd h (by decide)) | (intro _; exact ⟨_, rfl, by first | (intro h; cases h; done) | decide | simp⟩)) (fun h => by
                    cases b97 with
                    | true => exact absurd h (by first | decide | simp)
                    | false =>
                      refine n_call0 rfl cf70 rfl (Eq.trans (by simp only [nl] <;> rfl) (by first | (simp only [nf, Nat.beq] <;> rfl) | rfl)) (r_chk _) (by repeat (first | exact .nil | refine .cons ?_ ?_ | exact ren_ints | exact .lf (.val _) | exact .lf (lf_ints (.inl rfl)) | exact .bp ⟨rfl, rfl⟩ | exact .lf (D.flat_lf rfl))) (by first | exact .val _ | exact lf_ints (.inl rfl) | exact lf_ints (.inr rfl) | exact .any | exact D.flat_lf rfl) ?_
                      exact AOps.nil ⟨rfl, rfl, rfl⟩) (AOps.nil ⟨rfl, rfl, rfl⟩)) ?_
            refine Walk.still (rs := [99, 101, 97]) (by rfl) (by first | (simp only [nf, Nat.beq] <;> rfl) | rfl) (fun base => by
                refine n_soft (u := 97) (E := .val (.bool b97)) (!b97) rfl rfl rfl (by first | (simp only [nf, Nat.beq] <;> rfl) | rfl) (by cases b97 <;> first | (intro _; rfl) | (intro h; exact absurd h (by decide))) (by cases b97 <;> first | (intro h; exact absurd h (by decide)) | (intro _; exact ⟨_, rfl, by first | (intro h; cases h; done) | decide | simp⟩)) (fun h => by
                    cases b97 with
                    | true => exact absurd h (by first | decide | simp)
                    | false =>
                      refine n_ibin rfl (by first | (simp only [nf, Nat.beq] <;> rfl) | rfl) (by first | (simp only [nf, Nat.beq] <;> rfl) | rfl) rfl ?_
                      exact AOps.nil ⟨rfl, rfl, rfl⟩) (AOps.nil ⟨rfl, rfl, rfl⟩)) ?_
            refine Walk.still (rs := [97, 102]) (by rfl) (by first | (simp only [nf, Nat.beq] <;> rfl) | rfl) (fun base => by
                refine n_pick_or rfl (by first | (simp only [nf, Nat.beq] <;> rfl) | rfl) (fun h => by cases b97 with | true => exact absurd h (by decide) | false => exact (by first | (simp only [nf, Nat.beq] <;> rfl) | rfl)) ?_
                exact AOps.nil ⟨rfl, rfl, rfl⟩) ?_
            refine Walk.still (rs := [103]) (by rfl) (by first | (simp only [nf, Nat.beq] <;> rfl) | rfl) (fun base => by
                refine n_move rfl (by first | (simp only [nf, Nat.beq] <;> rfl) | rfl) ?_
                exact AOps.nil ⟨rfl, rfl, rfl⟩) ?_
            refine Walk.name (u := 104) (fun z => .val (.bool z)) (by first | (simp only [nf, Nat.beq] <;> rfl) | rfl) (fun b104 hb104 => ?_)
            refine Walk.still (rs := [7, 104]) (by rfl) (by first | (simp only [nf, Nat.beq] <;> rfl) | rfl) (fun base => by
                refine n_soft (u := 104) (E := .val (.bool b104)) (!b104) rfl rfl rfl (by first | (simp only [nf, Nat.beq] <;> rfl) | rfl) (by cases b104 <;> first | (intro _; rfl) | (intro h; exact absurd h (by decide))) (by cases b104 <;> first | (intro h; exact absurd h (by decide)) | (intro _; exact ⟨_, rfl, by first | (intro h; cases h; done) | decide | simp⟩)) (fun h => by
                    cases b104 with
                    | true => exact absurd h (by first | decide | simp)
                    | false =>
                      refine n_load rfl ti59 (by first | (simp only [nf, Nat.beq] <;> rfl) | rfl) (by first | (simp only [nf, Nat.beq] <;> rfl) | rfl) rfl (by first | (simp only [nf, Nat.beq] <;> rfl) | rfl) ?_
                      exact AOps.nil ⟨rfl, rfl, rfl⟩) (AOps.nil ⟨rfl, rfl, rfl⟩)) ?_
            refine Walk.still (rs := [105, 104]) (by rfl) (by first | (simp only [nf, Nat.beq] <;> rfl) | rfl) (fun base => by
                refine n_soft (u := 104) (E := .val (.bool b104)) (!b104) rfl rfl rfl (by first | (simp only [nf, Nat.beq] <;> rfl) | rfl) (by cases b104 <;> first | (intro _; rfl) | (intro h; exact absurd h (by decide))) (by cases b104 <;> first | (intro h; exact absurd h (by decide)) | (intro _; exact ⟨_, rfl, by first | (intro h; cases h; done) | decide | simp⟩)) (fun h => by
                    cases b104 with
                    | true => exact absurd h (by first | decide | simp)
                    | false =>
                      refine n_call0 rfl cf62 rfl (Eq.trans (by simp only [nl] <;> rfl) (by first | (simp only [nf, Nat.beq] <;> rfl) | rfl)) (l_fin _) (by repeat (first | exact .nil | refine .cons ?_ ?_ | exact ren_ints | exact .lf (.val _) | exact .lf (lf_ints (.inl rfl)) | exact .bp ⟨rfl, rfl⟩ | exact .lf (D.flat_lf rfl))) (by first | exact .val _ | exact lf_ints (.inl rfl) | exact lf_ints (.inr rfl) | exact .any | exact D.flat_lf rfl) ?_
                      exact AOps.nil ⟨rfl, rfl, rfl⟩) (AOps.nil ⟨rfl, rfl, rfl⟩)) ?_
            refine Walk.still (rs := [8, 104]) (by rfl) (by first | (simp only [nf, Nat.beq] <;> rfl) | rfl) (fun base => by
                refine n_soft (u := 104) (E := .val (.bool b104)) (!b104) rfl rfl rfl (by first | (simp only [nf, Nat.beq] <;> rfl) | rfl) (by cases b104 <;> first | (intro _; rfl) | (intro h; exact absurd h (by decide))) (by cases b104 <;> first | (intro h; exact absurd h (by decide)) | (intro _; exact ⟨_, rfl, by first | (intro h; cases h; done) | decide | simp⟩)) (fun h => by
                    cases b104 with
                    | true => exact absurd h (by first | decide | simp)
                    | false =>
                      refine n_load rfl ti59 (by first | (simp only [nf, Nat.beq] <;> rfl) | rfl) (by first | (simp only [nf, Nat.beq] <;> rfl) | rfl) rfl (by first | (simp only [nf, Nat.beq] <;> rfl) | rfl) ?_
                      exact AOps.nil ⟨rfl, rfl, rfl⟩) (AOps.nil ⟨rfl, rfl, rfl⟩)) ?_
            refine Walk.still (rs := [107, 104]) (by rfl) (by first | (simp only [nf, Nat.beq] <;> rfl) | rfl) (fun base => by
                refine n_soft (u := 104) (E := .val (.bool b104)) (!b104) rfl rfl rfl (by first | (simp only [nf, Nat.beq] <;> rfl) | rfl) (by cases b104 <;> first | (intro _; rfl) | (intro h; exact absurd h (by decide))) (by cases b104 <;> first | (intro h; exact absurd h (by decide)) | (intro _; exact ⟨_, rfl, by first | (intro h; cases h; done) | decide | simp⟩)) (fun h => by
                    cases b104 with
                    | true => exact absurd h (by first | decide | simp)
                    | false =>
                      refine n_call0 rfl cf71 rfl (Eq.trans (by simp only [nl] <;> rfl) (by first | (simp only [nf, Nat.beq] <;> rfl) | rfl)) (r_fin _) (by repeat (first | exact .nil | refine .cons ?_ ?_ | exact ren_ints | exact .lf (.val _) | exact .lf (lf_ints (.inl rfl)) | exact .bp ⟨rfl, rfl⟩ | exact .lf (D.flat_lf rfl))) (by first | exact .val _ | exact lf_ints (.inl rfl) | exact lf_ints (.inr rfl) | exact .any | exact D.flat_lf rfl) ?_
                      exact AOps.nil ⟨rfl, rfl, rfl⟩) (AOps.nil ⟨rfl, rfl, rfl⟩)) ?_
            refine Walk.still (rs := [106, 108, 104]) (by rfl) (by first | (simp only [nf, Nat.beq] <;> rfl) | rfl) (fun base => by
                refine n_soft (u := 104) (E := .val (.bool b104)) (!b104) rfl rfl rfl (by first | (simp only [nf, Nat.beq] <;> rfl) | rfl) (by cases b104 <;> first | (intro _; rfl) | (intro h; exact absurd h (by decide))) (by cases b104 <;> first | (intro h; exact absurd h (by decide)) | (intro _; exact ⟨_, rfl, by first | (intro h; cases h; done) | decide | simp⟩)) (fun h => by
                    cases b104 with
                    | true => exact absurd h (by first | decide | simp)
                    | false =>
                      refine n_bneq rfl (by first | (simp only [nf, Nat.beq] <;> rfl) | rfl) (by first | (simp only [nf, Nat.beq] <;> rfl) | rfl) Try.underlying4 rfl ?_
                      exact AOps.nil ⟨rfl, rfl, rfl⟩) (AOps.nil ⟨rfl, rfl, rfl⟩)) ?_
            refine Walk.still (rs := [104, 109]) (by rfl) (by first | (simp only [nf, Nat.beq] <;> rfl) | rfl) (fun base => by
                refine n_pick_or rfl (by first | (simp only [nf, Nat.beq] <;> rfl) | rfl) (fun h => by cases b104 with | true => exact absurd h (by decide) | false => exact (by first | (simp only [nf, Nat.beq] <;> rfl) | rfl)) ?_
                exact AOps.nil ⟨rfl, rfl, rfl⟩) ?_
            subst hb97
            subst hb104
            refine Walk.done ?_
            refine AWP.cond (by first | (simp only [nf, Nat.beq] <;> rfl) | rfl) (fun hc8 => ?_) (fun hc8 => ?_)
            · try simp only [nh] at hc8
              all_goals simp at hc8
            · try simp only [nh] at hc8
              refine AWP.skip ?_
              refine AWP.region ?_
              refine n_load rfl ti59 (by first | (simp only [nf, Nat.beq] <;> rfl) | rfl) (by first | (simp only [nf, Nat.beq] <;> rfl) | rfl) rfl (by first | (simp only [nf, Nat.beq] <;> rfl) | rfl) ?_
              refine n_store ti59 (by first | (simp only [nf, Nat.beq] <;> rfl) | rfl) rfl (by first | (simp only [nf, Nat.beq] <;> rfl) | rfl) rfl (by first | (simp only [nf, Nat.beq] <;> rfl) | rfl) rfl rfl rfl (by first | (simp only [nf, Nat.beq] <;> rfl) | rfl) ?_
              refine AOps.nil ?_
              refine AWP.region ?_
              first | refine n_iadd rfl (by first | (simp only [nf, Nat.beq] <;> rfl) | rfl) (by first | (simp only [nf, Nat.beq] <;> rfl) | rfl) rfl (by omega) (by omega) ?_ | refine n_ibin rfl (by first | (simp only [nf, Nat.beq] <;> rfl) | rfl) (by first | (simp only [nf, Nat.beq] <;> rfl) | rfl) rfl ?_
              refine n_move rfl (by first | (simp only [nf, Nat.beq] <;> rfl) | rfl) ?_
              refine AOps.nil ?_
              refine ⟨(i + 1, _), _, by dsimp only; omega, ?_, rfl, by dsimp only; omega⟩
              (repeat (first | exact FLe.empty _ | refine FLe.put ?_ ?_)) <;> first | (simp only [nf, Nat.beq]; done) | rfl | (try simp only [nf, Nat.beq]; first | (simp only [List.length_map]; done) | (congr 2; omega))
          · try simp only [nh] at hc7
            refine AWP.seq ?_
            refine AWP.region ?_
            refine n_ibin rfl (by first | (simp only [nf, Nat.beq] <;> rfl) | rfl) (by first | (simp only [nf, Nat.beq] <;> rfl) | rfl) rfl ?_
            refine n_assign rfl (by first | (simp only [nf, Nat.beq] <;> rfl) | rfl) ?_
            refine AOps.nil ?_
            refine AWP.cond (by first | (simp only [nf, Nat.beq] <;> rfl) | rfl) (fun hc9 => ?_) (fun hc9 => ?_)
            · try simp only [nh] at hc9
              refine AWP.anyT [8, 9] (fun p => match p with | [false, false] => [.box [vi (s).e, vi (s).y, vi (s).a, vi (s).n], .box [vi k.d, vi k.a, vi k.b], .box [vi (s).e, vi (s).y, vi (s).a, vi (s).n], .box [vi (s).e, vi (s).y, vi (s).a, vi (s).n]] | [true, false] => [.box [vi (s).e, vi (s).y, vi (s).a, vi (s).n], .box [vi k.d, vi k.a, vi k.b], .box [vi (s.acked k.a).e, vi (s.acked k.a).y, vi (s.acked k.a).a, vi (s.acked k.a).n], .box [vi (s).e, vi (s).y, vi (s).a, vi (s).n]] | [true, true] => [.box [vi (s).e, vi (s).y, vi (s).a, vi (s).n], .box [vi k.d, vi k.a, vi k.b], .box [vi (s.acked k.a).e, vi (s.acked k.a).y, vi (s.acked k.a).a, vi (s.acked k.a).n], .box [vi (s.acked k.a).e, vi (s.acked k.a).y, vi (s.acked k.a).a, vi (s.acked k.a).n]] | _ => []) (by kernel_rfl) (by kernel_rfl) rfl rfl ?_
              refine Walk.cases [([false, false], [.box [vi (s).e, vi (s).y, vi (s).a, vi (s).n], .box [vi k.d, vi k.a, vi k.b], .box [vi (s).e, vi (s).y, vi (s).a, vi (s).n], .box [vi (s).e, vi (s).y, vi (s).a, vi (s).n]], [.box [vi (s).e, vi (s).y, vi (s).a, vi (s).n], .box [vi k.d, vi k.a, vi k.b], .box [vi (s).e, vi (s).y, vi (s).a, vi (s).n], .box [vi (s).e, vi (s).y, vi (s).a, vi (s).n]])] (by rfl) (by kernel_rfl) (rs := [2]) (by rfl) (by first | (simp only [nf, Nat.beq] <;> rfl) | rfl) (fun base => ⟨
                  ⟨rfl, rfl, by
                    refine n_load rfl ti59 (by first | (simp only [nf, Nat.beq] <;> rfl) | rfl) (by first | (simp only [nf, Nat.beq] <;> rfl) | rfl) rfl (by first | (simp only [nf, Nat.beq] <;> rfl) | rfl) ?_
                    exact AOps.nil ⟨rfl, rfl, rfl⟩⟩,
                  trivial⟩) ?_
              refine Walk.cases [([false, false], [.box [vi (s).e, vi (s).y, vi (s).a, vi (s).n], .box [vi k.d, vi k.a, vi k.b], .box [vi (s).e, vi (s).y, vi (s).a, vi (s).n], .box [vi (s).e, vi (s).y, vi (s).a, vi (s).n]], [.box [vi (s).e, vi (s).y, vi (s).a, vi (s).n], .box [vi k.d, vi k.a, vi k.b], .box [vi (s).e, vi (s).y, vi (s).a, vi (s).n], .box [vi (s).e, vi (s).y, vi (s).a, vi (s).n]])] (by rfl) (by kernel_rfl) (rs := [6]) (by rfl) (by first | (simp only [nf, Nat.beq] <;> rfl) | rfl) (fun base => ⟨
                  ⟨rfl, rfl, by
                    refine n_fieldAddr rfl fd75_1 ti2 rfl (by first | (simp only [nf, Nat.beq] <;> rfl) | rfl) rfl (by first | (simp only [nf, Nat.beq] <;> rfl) | rfl) ?_
                    exact AOps.nil ⟨rfl, rfl, rfl⟩⟩,
                  trivial⟩) ?_
              refine Walk.cases [([false, false], [.box [vi (s).e, vi (s).y, vi (s).a, vi (s).n], .box [vi k.d, vi k.a, vi k.b], .box [vi (s).e, vi (s).y, vi (s).a, vi (s).n], .box [vi (s).e, vi (s).y, vi (s).a, vi (s).n]], [.box [vi (s).e, vi (s).y, vi (s).a, vi (s).n], .box [vi k.d, vi k.a, vi k.b], .box [vi (s).e, vi (s).y, vi (s).a, vi (s).n], .box [vi (s).e, vi (s).y, vi (s).a, vi (s).n]])] (by rfl) (by kernel_rfl) (rs := [83]) (by rfl) (by first | (simp only [nf, Nat.beq] <;> rfl) | rfl) (fun base => ⟨
                  ⟨rfl, rfl, by
                    refine n_load rfl ti2 (by first | (simp only [nf, Nat.beq] <;> rfl) | rfl) (by first | (simp only [nf, Nat.beq] <;> rfl) | rfl) rfl (by first | (simp only [nf, Nat.beq] <;> rfl) | rfl) ?_
                    exact AOps.nil ⟨rfl, rfl, rfl⟩⟩,
                  trivial⟩) ?_
              refine Walk.cases [([false, false], [.box [vi (s).e, vi (s).y, vi (s).a, vi (s).n], .box [vi k.d, vi k.a, vi k.b], .box [vi (s).e, vi (s).y, vi (s).a, vi (s).n], .box [vi (s).e, vi (s).y, vi (s).a, vi (s).n]], [.box [vi (s).e, vi (s).y, vi (s).a, vi (s).n], .box [vi k.d, vi k.a, vi k.b], .box [vi (s).e, vi (s).y, vi (s).a, vi (s).n], .box [vi (s).e, vi (s).y, vi (s).a, vi (s).n]])] (by rfl) (by kernel_rfl) (rs := [82, 84]) (by rfl) (by first | (simp only [nf, Nat.beq] <;> rfl) | rfl) (fun base => ⟨
                  ⟨rfl, rfl, by
                    refine n_call0 rfl cf60 rfl (Eq.trans (by simp only [nl] <;> rfl) (by first | (simp only [nf, Nat.beq] <;> rfl) | rfl)) (l_acked _ _) (by repeat (first | exact .nil | refine .cons ?_ ?_ | exact ren_ints | exact .lf (.val _) | exact .lf (lf_ints (.inl rfl)) | exact .bp ⟨rfl, rfl⟩ | exact .lf (D.flat_lf rfl))) (by first | exact .val _ | exact lf_ints (.inl rfl) | exact lf_ints (.inr rfl) | exact .any | exact D.flat_lf rfl) ?_
                    exact AOps.nil ⟨rfl, rfl, rfl⟩⟩,
                  trivial⟩) ?_
              refine Walk.cases [([false, false], [.box [vi (s).e, vi (s).y, vi (s).a, vi (s).n], .box [vi k.d, vi k.a, vi k.b], .box [vi (s).e, vi (s).y, vi (s).a, vi (s).n], .box [vi (s).e, vi (s).y, vi (s).a, vi (s).n]], [.box [vi (s).e, vi (s).y, vi (s).a, vi (s).n], .box [vi k.d, vi k.a, vi k.b], .box [vi (s).e, vi (s).y, vi (s).a, vi (s).n], .box [vi (s).e, vi (s).y, vi (s).a, vi (s).n]])] (by rfl) (by kernel_rfl) (rs := [2]) (by rfl) (by first | (simp only [nf, Nat.beq] <;> rfl) | rfl) (fun base => ⟨
                  ⟨rfl, rfl, by
                    refine n_load rfl ti59 (by first | (simp only [nf, Nat.beq] <;> rfl) | rfl) (by first | (simp only [nf, Nat.beq] <;> rfl) | rfl) rfl (by first | (simp only [nf, Nat.beq] <;> rfl) | rfl) ?_
                    exact AOps.nil ⟨rfl, rfl, rfl⟩⟩,
                  trivial⟩) ?_
              refine Walk.cases [([false, false], [.box [vi (s).e, vi (s).y, vi (s).a, vi (s).n], .box [vi k.d, vi k.a, vi k.b], .box [vi (s).e, vi (s).y, vi (s).a, vi (s).n], .box [vi (s).e, vi (s).y, vi (s).a, vi (s).n]], [.box [vi (s).e, vi (s).y, vi (s).a, vi (s).n], .box [vi k.d, vi k.a, vi k.b], .box [vi (s).e, vi (s).y, vi (s).a, vi (s).n], .box [vi (s).e, vi (s).y, vi (s).a, vi (s).n]])] (by rfl) (by kernel_rfl) (rs := [6]) (by rfl) (by first | (simp only [nf, Nat.beq] <;> rfl) | rfl) (fun base => ⟨
                  ⟨rfl, rfl, by
                    refine n_fieldAddr rfl fd75_1 ti2 rfl (by first | (simp only [nf, Nat.beq] <;> rfl) | rfl) rfl (by first | (simp only [nf, Nat.beq] <;> rfl) | rfl) ?_
                    exact AOps.nil ⟨rfl, rfl, rfl⟩⟩,
                  trivial⟩) ?_
              refine Walk.cases [([false, false], [.box [vi (s).e, vi (s).y, vi (s).a, vi (s).n], .box [vi k.d, vi k.a, vi k.b], .box [vi (s).e, vi (s).y, vi (s).a, vi (s).n], .box [vi (s).e, vi (s).y, vi (s).a, vi (s).n]], [.box [vi (s).e, vi (s).y, vi (s).a, vi (s).n], .box [vi k.d, vi k.a, vi k.b], .box [vi (s).e, vi (s).y, vi (s).a, vi (s).n], .box [vi (s).e, vi (s).y, vi (s).a, vi (s).n]])] (by rfl) (by kernel_rfl) (rs := [87]) (by rfl) (by first | (simp only [nf, Nat.beq] <;> rfl) | rfl) (fun base => ⟨
                  ⟨rfl, rfl, by
                    refine n_load rfl ti2 (by first | (simp only [nf, Nat.beq] <;> rfl) | rfl) (by first | (simp only [nf, Nat.beq] <;> rfl) | rfl) rfl (by first | (simp only [nf, Nat.beq] <;> rfl) | rfl) ?_
                    exact AOps.nil ⟨rfl, rfl, rfl⟩⟩,
                  trivial⟩) ?_
              refine Walk.cases [([false, false], [.box [vi (s).e, vi (s).y, vi (s).a, vi (s).n], .box [vi k.d, vi k.a, vi k.b], .box [vi (s).e, vi (s).y, vi (s).a, vi (s).n], .box [vi (s).e, vi (s).y, vi (s).a, vi (s).n]], [.box [vi (s).e, vi (s).y, vi (s).a, vi (s).n], .box [vi k.d, vi k.a, vi k.b], .box [vi (s).e, vi (s).y, vi (s).a, vi (s).n], .box [vi (s).e, vi (s).y, vi (s).a, vi (s).n]])] (by rfl) (by kernel_rfl) (rs := [86, 88]) (by rfl) (by first | (simp only [nf, Nat.beq] <;> rfl) | rfl) (fun base => ⟨
                  ⟨rfl, rfl, by
                    refine n_call0 rfl cf68 rfl (Eq.trans (by simp only [nl] <;> rfl) (by first | (simp only [nf, Nat.beq] <;> rfl) | rfl)) (r_acked _ _) (by repeat (first | exact .nil | refine .cons ?_ ?_ | exact ren_ints | exact .lf (.val _) | exact .lf (lf_ints (.inl rfl)) | exact .bp ⟨rfl, rfl⟩ | exact .lf (D.flat_lf rfl))) (by first | exact .val _ | exact lf_ints (.inl rfl) | exact lf_ints (.inr rfl) | exact .any | exact D.flat_lf rfl) ?_
                    exact AOps.nil ⟨rfl, rfl, rfl⟩⟩,
                  trivial⟩) ?_
              refine Walk.cases (d := .any) [([false, false], [.box [vi (s).e, vi (s).y, vi (s).a, vi (s).n], .box [vi k.d, vi k.a, vi k.b], .box [vi (s).e, vi (s).y, vi (s).a, vi (s).n], .box [vi (s).e, vi (s).y, vi (s).a, vi (s).n]], [.box [vi (s).e, vi (s).y, vi (s).a, vi (s).n], .box [vi k.d, vi k.a, vi k.b], .box [vi (s.acked k.a).e, vi (s.acked k.a).y, vi (s.acked k.a).a, vi (s.acked k.a).n], .box [vi (s).e, vi (s).y, vi (s).a, vi (s).n]])] (by rfl) (by kernel_rfl) (rs := [7, 85]) (by rfl) (by first | (simp only [nf, Nat.beq] <;> rfl) | rfl) (fun base => ⟨
                  ⟨rfl, rfl, by
                    refine n_store ti59 (by first | (simp only [nf, Nat.beq] <;> rfl) | rfl) rfl (by first | (simp only [nf, Nat.beq] <;> rfl) | rfl) rfl (by first | (simp only [nf, Nat.beq] <;> rfl) | rfl) rfl rfl rfl (by first | (simp only [nf, Nat.beq] <;> rfl) | rfl) ?_
                    exact AOps.nil ⟨rfl, rfl, rfl⟩⟩,
                  trivial⟩) ?_
              refine Walk.cases (d := .any) [([true, false], [.box [vi (s).e, vi (s).y, vi (s).a, vi (s).n], .box [vi k.d, vi k.a, vi k.b], .box [vi (s.acked k.a).e, vi (s.acked k.a).y, vi (s.acked k.a).a, vi (s.acked k.a).n], .box [vi (s).e, vi (s).y, vi (s).a, vi (s).n]], [.box [vi (s).e, vi (s).y, vi (s).a, vi (s).n], .box [vi k.d, vi k.a, vi k.b], .box [vi (s.acked k.a).e, vi (s.acked k.a).y, vi (s.acked k.a).a, vi (s.acked k.a).n], .box [vi (s.acked k.a).e, vi (s.acked k.a).y, vi (s.acked k.a).a, vi (s.acked k.a).n]])] (by rfl) (by kernel_rfl) (rs := [8, 89]) (by rfl) (by first | (simp only [nf, Nat.beq] <;> rfl) | rfl) (fun base => ⟨
                  ⟨rfl, rfl, by
                    refine n_store ti59 (by first | (simp only [nf, Nat.beq] <;> rfl) | rfl) rfl (by first | (simp only [nf, Nat.beq] <;> rfl) | rfl) rfl (by first | (simp only [nf, Nat.beq] <;> rfl) | rfl) rfl rfl rfl (by first | (simp only [nf, Nat.beq] <;> rfl) | rfl) ?_
                    exact AOps.nil ⟨rfl, rfl, rfl⟩⟩,
                  trivial⟩) ?_
              refine Walk.done ?_
              refine AWP.seq ?_
              refine AWP.seq ?_
              refine AWP.anyStill (by kernel_rfl) (by kernel_rfl) ?_
              refine Walk.still (rs := [9]) (by rfl) (by first | (simp only [nf, Nat.beq] <;> rfl) | rfl) (fun base => by
                  refine n_move rfl (by first | (simp only [nf, Nat.beq] <;> rfl) | rfl) ?_
                  exact AOps.nil ⟨rfl, rfl, rfl⟩) ?_
              refine Walk.still (rs := [90]) (by rfl) (by first | (simp only [nf, Nat.beq] <;> rfl) | rfl) (fun base => by
                  refine n_not rfl (by first | (simp only [nf, Nat.beq] <;> rfl) | rfl) rfl ?_
                  exact AOps.nil ⟨rfl, rfl, rfl⟩) ?_
              refine Walk.still (rs := [91]) (by rfl) (by first | (simp only [nf, Nat.beq] <;> rfl) | rfl) (fun base => by
                  refine n_move rfl (by first | (simp only [nf, Nat.beq] <;> rfl) | rfl) ?_
                  exact AOps.nil ⟨rfl, rfl, rfl⟩) ?_
              refine Walk.still (rs := [7, 92]) (by rfl) (by first | (simp only [nf, Nat.beq] <;> rfl) | rfl) (fun base => by
                  refine n_guard_yes rfl rfl rfl (by first | (simp only [nf, Nat.beq] <;> rfl) | rfl) rfl ?_
                  refine n_load rfl ti59 (by first | (simp only [nf, Nat.beq] <;> rfl) | rfl) (by first | (simp only [nf, Nat.beq] <;> rfl) | rfl) rfl (by first | (simp only [nf, Nat.beq] <;> rfl) | rfl) ?_
                  exact AOps.nil ⟨rfl, rfl, rfl⟩) ?_
              refine Walk.still (rs := [8, 92]) (by rfl) (by first | (simp only [nf, Nat.beq] <;> rfl) | rfl) (fun base => by
                  refine n_guard_yes rfl rfl rfl (by first | (simp only [nf, Nat.beq] <;> rfl) | rfl) rfl ?_
                  refine n_load rfl ti59 (by first | (simp only [nf, Nat.beq] <;> rfl) | rfl) (by first | (simp only [nf, Nat.beq] <;> rfl) | rfl) rfl (by first | (simp only [nf, Nat.beq] <;> rfl) | rfl) ?_
                  exact AOps.nil ⟨rfl, rfl, rfl⟩) ?_
              refine Walk.still (rs := [93, 94, 92]) (by rfl) (by first | (simp only [nf, Nat.beq] <;> rfl) | rfl) (fun base => by
                  refine n_guard_yes rfl rfl rfl (by first | (simp only [nf, Nat.beq] <;> rfl) | rfl) rfl ?_
                  refine n_stne rfl (by first | (simp only [nf, Nat.beq] <;> rfl) | rfl) (by first | (simp only [nf, Nat.beq] <;> rfl) | rfl) rfl rfl Try.underlying59 (by kernel_rfl) (by kernel_rfl) (.int rfl ti2 Try.underlying2 rfl rfl (.int rfl ti2 Try.underlying2 rfl rfl (.int rfl ti2 Try.underlying2 rfl rfl (.int rfl ti2 Try.underlying2 rfl rfl .nil)))) rfl ?_
                  exact AOps.nil ⟨rfl, rfl, rfl⟩) ?_
              refine Walk.still (rs := [92, 95]) (by rfl) (by first | (simp only [nf, Nat.beq] <;> rfl) | rfl) (fun base => by
                  refine n_pick rfl (by first | (simp only [nf, Nat.beq] <;> rfl) | rfl) (by first | (simp only [nf, Nat.beq] <;> rfl) | rfl) ?_
                  exact AOps.nil ⟨rfl, rfl, rfl⟩) ?_
              refine Walk.still (rs := [96]) (by rfl) (by first | (simp only [nf, Nat.beq] <;> rfl) | rfl) (fun base => by
                  refine n_move rfl (by first | (simp only [nf, Nat.beq] <;> rfl) | rfl) ?_
                  exact AOps.nil ⟨rfl, rfl, rfl⟩) ?_
              refine Walk.name (u := 97) (fun z => .val (.bool z)) (by first | (simp only [nf, Nat.beq] <;> rfl) | rfl) (fun b97 hb97 => ?_)
              refine Walk.still (rs := [7, 97]) (by rfl) (by first | (simp only [nf, Nat.beq] <;> rfl) | rfl) (fun base => by
                  refine n_soft (u := 97) (E := .val (.bool b97)) (!b97) rfl rfl rfl (by first | (simp only [nf, Nat.beq] <;> rfl) | rfl) (by cases b97 <;> first | (intro _; rfl) | (intro h; exact absurd h (by decide))) (by cases b97 <;> first | (intro h; exact absurd h (by decide)) | (intro _; exact ⟨_, rfl, by first | (intro h; cases h; done) | decide | simp⟩)) (fun h => by
                      cases b97 with
                      | true => exact absurd h (by first | decide | simp)
                      | false =>
                        refine n_load rfl ti59 (by first | (simp only [nf, Nat.beq] <;> rfl) | rfl) (by first | (simp only [nf, Nat.beq] <;> rfl) | rfl) rfl (by first | (simp only [nf, Nat.beq] <;> rfl) | rfl) ?_
                        exact AOps.nil ⟨rfl, rfl, rfl⟩) (AOps.nil ⟨rfl, rfl, rfl⟩)) ?_
              refine Walk.still (rs := [98, 97]) (by rfl) (by first | (simp only [nf, Nat.beq] <;> rfl) | rfl) (fun base => by
                  refine n_soft (u := 97) (E := .val (.bool b97)) (!b97) rfl rfl rfl (by first | (simp only [nf, Nat.beq] <;> rfl) | rfl) (by cases b97 <;> first | (intro _; rfl) | (intro h; exact absurd h (by decide))) (by cases b97 <;> first | (intro h; exact absurd h (by decide)) | (intro _; exact ⟨_, rfl, by first | (intro h; cases h; done) | decide | simp⟩)) (fun h => by
                      cases b97 with
                      | true => exact absurd h (by first | decide | simp)
                      | false =>
                        refine n_call0 rfl cf61 rfl (Eq.trans (by simp only [nl] <;> rfl) (by first | (simp only [nf, Nat.beq] <;> rfl) | rfl)) (l_chk _) (by repeat (first | exact .nil | refine .cons ?_ ?_ | exact ren_ints | exact .lf (.val _) | exact .lf (lf_ints (.inl rfl)) | exact .bp ⟨rfl, rfl⟩ | exact .lf (D.flat_lf rfl))) (by first | exact .val _ | exact lf_ints (.inl rfl) | exact lf_ints (.inr rfl) | exact .any | exact D.flat_lf rfl) ?_
                        exact AOps.nil ⟨rfl, rfl, rfl⟩) (AOps.nil ⟨rfl, rfl, rfl⟩)) ?_
              refine Walk.still (rs := [8, 97]) (by rfl) (by first | (simp only [nf, Nat.beq] <;> rfl) | rfl) (fun base => by
                  refine n_soft (u := 97) (E := .val (.bool b97)) (!b97) rfl rfl rfl (by first | (simp only [nf, Nat.beq] <;> rfl) | rfl) (by cases b97 <;> first | (intro _; rfl) | (intro h; exact absurd h (by decide))) (by cases b97 <;> first | (intro h; exact absurd h (by decide)) | (intro _; exact ⟨_, rfl, by first | (intro h; cases h; done) | decide | simp⟩)) (fun h => by
                      cases b97 with
                      | true => exact absurd h (by first | decide | simp)
                      | false =>
                        refine n_load rfl ti59 (by first | (simp only [nf, Nat.beq] <;> rfl) | rfl) (by first | (simp only [nf, Nat.beq] <;> rfl) | rfl) rfl (by first | (simp only [nf, Nat.beq] <;> rfl) | rfl) ?_
                        exact AOps.nil ⟨rfl, rfl, rfl⟩) (AOps.nil ⟨rfl, rfl, rfl⟩)) ?_
              refine Walk.still (rs := [100, 97]) (by rfl) (by first | (simp only [nf, Nat.beq] <;> rfl) | rfl) (fun base => by
                  refine n_soft (u := 97) (E := .val (.bool b97)) (!b97) rfl rfl rfl (by first | (simp only [nf, Nat.beq] <;> rfl) | rfl) (by cases b97 <;> first | (intro _; rfl) | (intro h; exact absurd h (by decide))) (by cases b97 <;> first | (intro h; exact absurd h (by decide)) | (intro _; exact ⟨_, rfl, by first | (intro h; cases h; done) | decide | simp⟩)) (fun h => by
                      cases b97 with
                      | true => exact absurd h (by first | decide | simp)
                      | false =>
                        refine n_call0 rfl cf70 rfl (Eq.trans (by simp only [nl] <;> rfl) (by first | (simp only [nf, Nat.beq] <;> rfl) | rfl)) (r_chk _) (by repeat (first | exact .nil | refine .cons ?_ ?_ | exact ren_ints | exact .lf (.val _) | exact .lf (lf_ints (.inl rfl)) | exact .bp ⟨rfl, rfl⟩ | exact .lf (D.flat_lf rfl))) (by first | exact .val _ | exact lf_ints (.inl rfl) | exact lf_ints (.inr rfl) | exact .any | exact D.flat_lf rfl) ?_
                        exact AOps.nil ⟨rfl, rfl, rfl⟩) (AOps.nil ⟨rfl, rfl, rfl⟩)) ?_
              refine Walk.still (rs := [99, 101, 97]) (by rfl) (by first | (simp only [nf, Nat.beq] <;> rfl) | rfl) (fun base => by
                  refine n_soft (u := 97) (E := .val (.bool b97)) (!b97) rfl rfl rfl (by first | (simp only [nf, Nat.beq] <;> rfl) | rfl) (by cases b97 <;> first | (intro _; rfl) | (intro h; exact absurd h (by decide))) (by cases b97 <;> first | (intro h; exact absurd h (by decide)) | (intro _; exact ⟨_, rfl, by first | (intro h; cases h; done) | decide | simp⟩)) (fun h => by
                      cases b97 with
                      | true => exact absurd h (by first | decide | simp)
                      | false =>
                        refine n_ibin rfl (by first | (simp only [nf, Nat.beq] <;> rfl) | rfl) (by first | (simp only [nf, Nat.beq] <;> rfl) | rfl) rfl ?_
                        exact AOps.nil ⟨rfl, rfl, rfl⟩) (AOps.nil ⟨rfl, rfl, rfl⟩)) ?_
              refine Walk.still (rs := [97, 102]) (by rfl) (by first | (simp only [nf, Nat.beq] <;> rfl) | rfl) (fun base => by
                  refine n_pick_or rfl (by first | (simp only [nf, Nat.beq] <;> rfl) | rfl) (fun h => by cases b97 with | true => exact absurd h (by decide) | false => exact (by first | (simp only [nf, Nat.beq] <;> rfl) | rfl)) ?_
                  exact AOps.nil ⟨rfl, rfl, rfl⟩) ?_
              refine Walk.still (rs := [103]) (by rfl) (by first | (simp only [nf, Nat.beq] <;> rfl) | rfl) (fun base => by
                  refine n_move rfl (by first | (simp only [nf, Nat.beq] <;> rfl) | rfl) ?_
                  exact AOps.nil ⟨rfl, rfl, rfl⟩) ?_
              refine Walk.name (u := 104) (fun z => .val (.bool z)) (by first | (simp only [nf, Nat.beq] <;> rfl) | rfl) (fun b104 hb104 => ?_)
              refine Walk.still (rs := [7, 104]) (by rfl) (by first | (simp only [nf, Nat.beq] <;> rfl) | rfl) (fun base => by
                  refine n_soft (u := 104) (E := .val (.bool b104)) (!b104) rfl rfl rfl (by first | (simp only [nf, Nat.beq] <;> rfl) | rfl) (by cases b104 <;> first | (intro _; rfl) | (intro h; exact absurd h (by decide))) (by cases b104 <;> first | (intro h; exact absurd h (by decide)) | (intro _; exact ⟨_, rfl, by first | (intro h; cases h; done) | decide | simp⟩)) (fun h => by
                      cases b104 with
                      | true => exact absurd h (by first | decide | simp)
                      | false =>
                        refine n_load rfl ti59 (by first | (simp only [nf, Nat.beq] <;> rfl) | rfl) (by first | (simp only [nf, Nat.beq] <;> rfl) | rfl) rfl (by first | (simp only [nf, Nat.beq] <;> rfl) | rfl) ?_
                        exact AOps.nil ⟨rfl, rfl, rfl⟩) (AOps.nil ⟨rfl, rfl, rfl⟩)) ?_
              refine Walk.still (rs := [105, 104]) (by rfl) (by first | (simp only [nf, Nat.beq] <;> rfl) | rfl) (fun base => by
                  refine n_soft (u := 104) (E := .val (.bool b104)) (!b104) rfl rfl rfl (by first | (simp only [nf, Nat.beq] <;> rfl) | rfl) (by cases b104 <;> first | (intro _; rfl) | (intro h; exact absurd h (by decide))) (by cases b104 <;> first | (intro h; exact absurd h (by decide)) | (intro _; exact ⟨_, rfl, by first | (intro h; cases h; done) | decide | simp⟩)) (fun h => by
                      cases b104 with
                      | true => exact absurd h (by first | decide | simp)
                      | false =>
                        refine n_call0 rfl cf62 rfl (Eq.trans (by simp only [nl] <;> rfl) (by first | (simp only [nf, Nat.beq] <;> rfl) | rfl)) (l_fin _) (by repeat (first | exact .nil | refine .cons ?_ ?_ | exact ren_ints | exact .lf (.val _) | exact .lf (lf_ints (.inl rfl)) | exact .bp ⟨rfl, rfl⟩ | exact .lf (D.flat_lf rfl))) (by first | exact .val _ | exact lf_ints (.inl rfl) | exact lf_ints (.inr rfl) | exact .any | exact D.flat_lf rfl) ?_
                        exact AOps.nil ⟨rfl, rfl, rfl⟩) (AOps.nil ⟨rfl, rfl, rfl⟩)) ?_
              refine Walk.still (rs := [8, 104]) (by rfl) (by first | (simp only [nf, Nat.beq] <;> rfl) | rfl) (fun base => by
                  refine n_soft (u := 104) (E := .val (.bool b104)) (!b104) rfl rfl rfl (by first | (simp only [nf, Nat.beq] <;> rfl) | rfl) (by cases b104 <;> first | (intro _; rfl) | (intro h; exact absurd h (by decide))) (by cases b104 <;> first | (intro h; exact absurd h (by decide)) | (intro _; exact ⟨_, rfl, by first | (intro h; cases h; done) | decide | simp⟩)) (fun h => by
                      cases b104 with
                      | true => exact absurd h (by first | decide | simp)
                      | false =>
                        refine n_load rfl ti59 (by first | (simp only [nf, Nat.beq] <;> rfl) | rfl) (by first | (simp only [nf, Nat.beq] <;> rfl) | rfl) rfl (by first | (simp only [nf, Nat.beq] <;> rfl) | rfl) ?_
                        exact AOps.nil ⟨rfl, rfl, rfl⟩) (AOps.nil ⟨rfl, rfl, rfl⟩)) ?_
              refine Walk.still (rs := [107, 104]) (by rfl) (by first | (simp only [nf, Nat.beq] <;> rfl) | rfl) (fun base => by
                  refine n_soft (u := 104) (E := .val (.bool b104)) (!b104) rfl rfl rfl (by first | (simp only [nf, Nat.beq] <;> rfl) | rfl) (by cases b104 <;> first | (intro _; rfl) | (intro h; exact absurd h (by decide))) (by cases b104 <;> first | (intro h; exact absurd h (by decide)) | (intro _; exact ⟨_, rfl, by first | (intro h; cases h; done) | decide | simp⟩)) (fun h => by
                      cases b104 with
                      | true => exact absurd h (by first | decide | simp)
                      | false =>
                        refine n_call0 rfl cf71 rfl (Eq.trans (by simp only [nl] <;> rfl) (by first | (simp only [nf, Nat.beq] <;> rfl) | rfl)) (r_fin _) (by repeat (first | exact .nil | refine .cons ?_ ?_ | exact ren_ints | exact .lf (.val _) | exact .lf (lf_ints (.inl rfl)) | exact .bp ⟨rfl, rfl⟩ | exact .lf (D.flat_lf rfl))) (by first | exact .val _ | exact lf_ints (.inl rfl) | exact lf_ints (.inr rfl) | exact .any | exact D.flat_lf rfl) ?_
                        exact AOps.nil ⟨rfl, rfl, rfl⟩) (AOps.nil ⟨rfl, rfl, rfl⟩)) ?_
              refine Walk.still (rs := [106, 108, 104]) (by rfl) (by first | (simp only [nf, Nat.beq] <;> rfl) | rfl) (fun base => by
                  refine n_soft (u := 104) (E := .val (.bool b104)) (!b104) rfl rfl rfl (by first | (simp only [nf, Nat.beq] <;> rfl) | rfl) (by cases b104 <;> first | (intro _; rfl) | (intro h; exact absurd h (by decide))) (by cases b104 <;> first | (intro h; exact absurd h (by decide)) | (intro _; exact ⟨_, rfl, by first | (intro h; cases h; done) | decide | simp⟩)) (fun h => by
                      cases b104 with
                      | true => exact absurd h (by first | decide | simp)
                      | false =>
                        refine n_bneq rfl (by first | (simp only [nf, Nat.beq] <;> rfl) | rfl) (by first | (simp only [nf, Nat.beq] <;> rfl) | rfl) Try.underlying4 rfl ?_
                        exact AOps.nil ⟨rfl, rfl, rfl⟩) (AOps.nil ⟨rfl, rfl, rfl⟩)) ?_
              refine Walk.still (rs := [104, 109]) (by rfl) (by first | (simp only [nf, Nat.beq] <;> rfl) | rfl) (fun base => by
                  refine n_pick_or rfl (by first | (simp only [nf, Nat.beq] <;> rfl) | rfl) (fun h => by cases b104 with | true => exact absurd h (by decide) | false => exact (by first | (simp only [nf, Nat.beq] <;> rfl) | rfl)) ?_
                  exact AOps.nil ⟨rfl, rfl, rfl⟩) ?_
              subst hb97
              subst hb104
              refine Walk.done ?_
              refine AWP.cond (by first | (simp only [nf, Nat.beq] <;> rfl) | rfl) (fun hc10 => ?_) (fun hc10 => ?_)
              · try simp only [nh] at hc10
                all_goals simp at hc10
              · try simp only [nh] at hc10
                refine AWP.skip ?_
                refine AWP.region ?_
                refine n_load rfl ti59 (by first | (simp only [nf, Nat.beq] <;> rfl) | rfl) (by first | (simp only [nf, Nat.beq] <;> rfl) | rfl) rfl (by first | (simp only [nf, Nat.beq] <;> rfl) | rfl) ?_
                refine n_store ti59 (by first | (simp only [nf, Nat.beq] <;> rfl) | rfl) rfl (by first | (simp only [nf, Nat.beq] <;> rfl) | rfl) rfl (by first | (simp only [nf, Nat.beq] <;> rfl) | rfl) rfl rfl rfl (by first | (simp only [nf, Nat.beq] <;> rfl) | rfl) ?_
                refine AOps.nil ?_
                refine AWP.region ?_
                first | refine n_iadd rfl (by first | (simp only [nf, Nat.beq] <;> rfl) | rfl) (by first | (simp only [nf, Nat.beq] <;> rfl) | rfl) rfl (by omega) (by omega) ?_ | refine n_ibin rfl (by first | (simp only [nf, Nat.beq] <;> rfl) | rfl) (by first | (simp only [nf, Nat.beq] <;> rfl) | rfl) rfl ?_
                refine n_move rfl (by first | (simp only [nf, Nat.beq] <;> rfl) | rfl) ?_
                refine AOps.nil ?_
                refine ⟨(i + 1, _), _, by dsimp only; omega, ?_, rfl, by dsimp only; omega⟩
                (repeat (first | exact FLe.empty _ | refine FLe.put ?_ ?_)) <;> first | (simp only [nf, Nat.beq]; done) | rfl | (try simp only [nf, Nat.beq]; first | (simp only [List.length_map]; done) | (congr 2; omega))
            · try simp only [nh] at hc9
              refine AWP.anyT [12, 13] (fun p => match p with | [false, false] => [.box [vi (s).e, vi (s).y, vi (s).a, vi (s).n], .box [vi k.d, vi k.a, vi k.b], .box [vi (s).e, vi (s).y, vi (s).a, vi (s).n], .box [vi (s).e, vi (s).y, vi (s).a, vi (s).n]] | [true, false] => [.box [vi (s).e, vi (s).y, vi (s).a, vi (s).n], .box [vi k.d, vi k.a, vi k.b], .box [vi (s.grown k.a k.b).e, vi (s.grown k.a k.b).y, vi (s.grown k.a k.b).a, vi (s.grown k.a k.b).n], .box [vi (s).e, vi (s).y, vi (s).a, vi (s).n]] | [true, true] => [.box [vi (s).e, vi (s).y, vi (s).a, vi (s).n], .box [vi k.d, vi k.a, vi k.b], .box [vi (s.grown k.a k.b).e, vi (s.grown k.a k.b).y, vi (s.grown k.a k.b).a, vi (s.grown k.a k.b).n], .box [vi (s.grown k.a k.b).e, vi (s.grown k.a k.b).y, vi (s.grown k.a k.b).a, vi (s.grown k.a k.b).n]] | _ => []) (by kernel_rfl) (by kernel_rfl) rfl rfl ?_
              refine Walk.cases [([false, false], [.box [vi (s).e, vi (s).y, vi (s).a, vi (s).n], .box [vi k.d, vi k.a, vi k.b], .box [vi (s).e, vi (s).y, vi (s).a, vi (s).n], .box [vi (s).e, vi (s).y, vi (s).a, vi (s).n]], [.box [vi (s).e, vi (s).y, vi (s).a, vi (s).n], .box [vi k.d, vi k.a, vi k.b], .box [vi (s).e, vi (s).y, vi (s).a, vi (s).n], .box [vi (s).e, vi (s).y, vi (s).a, vi (s).n]])] (by rfl) (by kernel_rfl) (rs := [2]) (by rfl) (by first | (simp only [nf, Nat.beq] <;> rfl) | rfl) (fun base => ⟨
                  ⟨rfl, rfl, by
                    refine n_load rfl ti59 (by first | (simp only [nf, Nat.beq] <;> rfl) | rfl) (by first | (simp only [nf, Nat.beq] <;> rfl) | rfl) rfl (by first | (simp only [nf, Nat.beq] <;> rfl) | rfl) ?_
                    exact AOps.nil ⟨rfl, rfl, rfl⟩⟩,
                  trivial⟩) ?_
              refine Walk.cases [([false, false], [.box [vi (s).e, vi (s).y, vi (s).a, vi (s).n], .box [vi k.d, vi k.a, vi k.b], .box [vi (s).e, vi (s).y, vi (s).a, vi (s).n], .box [vi (s).e, vi (s).y, vi (s).a, vi (s).n]], [.box [vi (s).e, vi (s).y, vi (s).a, vi (s).n], .box [vi k.d, vi k.a, vi k.b], .box [vi (s).e, vi (s).y, vi (s).a, vi (s).n], .box [vi (s).e, vi (s).y, vi (s).a, vi (s).n]])] (by rfl) (by kernel_rfl) (rs := [6]) (by rfl) (by first | (simp only [nf, Nat.beq] <;> rfl) | rfl) (fun base => ⟨
                  ⟨rfl, rfl, by
                    refine n_fieldAddr rfl fd75_1 ti2 rfl (by first | (simp only [nf, Nat.beq] <;> rfl) | rfl) rfl (by first | (simp only [nf, Nat.beq] <;> rfl) | rfl) ?_
                    exact AOps.nil ⟨rfl, rfl, rfl⟩⟩,
                  trivial⟩) ?_
              refine Walk.cases [([false, false], [.box [vi (s).e, vi (s).y, vi (s).a, vi (s).n], .box [vi k.d, vi k.a, vi k.b], .box [vi (s).e, vi (s).y, vi (s).a, vi (s).n], .box [vi (s).e, vi (s).y, vi (s).a, vi (s).n]], [.box [vi (s).e, vi (s).y, vi (s).a, vi (s).n], .box [vi k.d, vi k.a, vi k.b], .box [vi (s).e, vi (s).y, vi (s).a, vi (s).n], .box [vi (s).e, vi (s).y, vi (s).a, vi (s).n]])] (by rfl) (by kernel_rfl) (rs := [29]) (by rfl) (by first | (simp only [nf, Nat.beq] <;> rfl) | rfl) (fun base => ⟨
                  ⟨rfl, rfl, by
                    refine n_load rfl ti2 (by first | (simp only [nf, Nat.beq] <;> rfl) | rfl) (by first | (simp only [nf, Nat.beq] <;> rfl) | rfl) rfl (by first | (simp only [nf, Nat.beq] <;> rfl) | rfl) ?_
                    exact AOps.nil ⟨rfl, rfl, rfl⟩⟩,
                  trivial⟩) ?_
              refine Walk.cases [([false, false], [.box [vi (s).e, vi (s).y, vi (s).a, vi (s).n], .box [vi k.d, vi k.a, vi k.b], .box [vi (s).e, vi (s).y, vi (s).a, vi (s).n], .box [vi (s).e, vi (s).y, vi (s).a, vi (s).n]], [.box [vi (s).e, vi (s).y, vi (s).a, vi (s).n], .box [vi k.d, vi k.a, vi k.b], .box [vi (s).e, vi (s).y, vi (s).a, vi (s).n], .box [vi (s).e, vi (s).y, vi (s).a, vi (s).n]])] (by rfl) (by kernel_rfl) (rs := [6]) (by rfl) (by first | (simp only [nf, Nat.beq] <;> rfl) | rfl) (fun base => ⟨
                  ⟨rfl, rfl, by
                    refine n_fieldAddr rfl fd75_2 ti2 rfl (by first | (simp only [nf, Nat.beq] <;> rfl) | rfl) rfl (by first | (simp only [nf, Nat.beq] <;> rfl) | rfl) ?_
                    exact AOps.nil ⟨rfl, rfl, rfl⟩⟩,
                  trivial⟩) ?_
              refine Walk.cases [([false, false], [.box [vi (s).e, vi (s).y, vi (s).a, vi (s).n], .box [vi k.d, vi k.a, vi k.b], .box [vi (s).e, vi (s).y, vi (s).a, vi (s).n], .box [vi (s).e, vi (s).y, vi (s).a, vi (s).n]], [.box [vi (s).e, vi (s).y, vi (s).a, vi (s).n], .box [vi k.d, vi k.a, vi k.b], .box [vi (s).e, vi (s).y, vi (s).a, vi (s).n], .box [vi (s).e, vi (s).y, vi (s).a, vi (s).n]])] (by rfl) (by kernel_rfl) (rs := [31]) (by rfl) (by first | (simp only [nf, Nat.beq] <;> rfl) | rfl) (fun base => ⟨
                  ⟨rfl, rfl, by
                    refine n_load rfl ti2 (by first | (simp only [nf, Nat.beq] <;> rfl) | rfl) (by first | (simp only [nf, Nat.beq] <;> rfl) | rfl) rfl (by first | (simp only [nf, Nat.beq] <;> rfl) | rfl) ?_
                    exact AOps.nil ⟨rfl, rfl, rfl⟩⟩,
                  trivial⟩) ?_
              refine Walk.cases [([false, false], [.box [vi (s).e, vi (s).y, vi (s).a, vi (s).n], .box [vi k.d, vi k.a, vi k.b], .box [vi (s).e, vi (s).y, vi (s).a, vi (s).n], .box [vi (s).e, vi (s).y, vi (s).a, vi (s).n]], [.box [vi (s).e, vi (s).y, vi (s).a, vi (s).n], .box [vi k.d, vi k.a, vi k.b], .box [vi (s).e, vi (s).y, vi (s).a, vi (s).n], .box [vi (s).e, vi (s).y, vi (s).a, vi (s).n]])] (by rfl) (by kernel_rfl) (rs := [28, 30, 32]) (by rfl) (by first | (simp only [nf, Nat.beq] <;> rfl) | rfl) (fun base => ⟨
                  ⟨rfl, rfl, by
                    refine n_call0 rfl cf56 rfl (Eq.trans (by simp only [nl] <;> rfl) (by first | (simp only [nf, Nat.beq] <;> rfl) | rfl)) (l_grown _ _ _) (by repeat (first | exact .nil | refine .cons ?_ ?_ | exact ren_ints | exact .lf (.val _) | exact .lf (lf_ints (.inl rfl)) | exact .bp ⟨rfl, rfl⟩ | exact .lf (D.flat_lf rfl))) (by first | exact .val _ | exact lf_ints (.inl rfl) | exact lf_ints (.inr rfl) | exact .any | exact D.flat_lf rfl) ?_
                    exact AOps.nil ⟨rfl, rfl, rfl⟩⟩,
                  trivial⟩) ?_
              refine Walk.cases [([false, false], [.box [vi (s).e, vi (s).y, vi (s).a, vi (s).n], .box [vi k.d, vi k.a, vi k.b], .box [vi (s).e, vi (s).y, vi (s).a, vi (s).n], .box [vi (s).e, vi (s).y, vi (s).a, vi (s).n]], [.box [vi (s).e, vi (s).y, vi (s).a, vi (s).n], .box [vi k.d, vi k.a, vi k.b], .box [vi (s).e, vi (s).y, vi (s).a, vi (s).n], .box [vi (s).e, vi (s).y, vi (s).a, vi (s).n]])] (by rfl) (by kernel_rfl) (rs := [2]) (by rfl) (by first | (simp only [nf, Nat.beq] <;> rfl) | rfl) (fun base => ⟨
                  ⟨rfl, rfl, by
                    refine n_load rfl ti59 (by first | (simp only [nf, Nat.beq] <;> rfl) | rfl) (by first | (simp only [nf, Nat.beq] <;> rfl) | rfl) rfl (by first | (simp only [nf, Nat.beq] <;> rfl) | rfl) ?_
                    exact AOps.nil ⟨rfl, rfl, rfl⟩⟩,
                  trivial⟩) ?_
              refine Walk.cases [([false, false], [.box [vi (s).e, vi (s).y, vi (s).a, vi (s).n], .box [vi k.d, vi k.a, vi k.b], .box [vi (s).e, vi (s).y, vi (s).a, vi (s).n], .box [vi (s).e, vi (s).y, vi (s).a, vi (s).n]], [.box [vi (s).e, vi (s).y, vi (s).a, vi (s).n], .box [vi k.d, vi k.a, vi k.b], .box [vi (s).e, vi (s).y, vi (s).a, vi (s).n], .box [vi (s).e, vi (s).y, vi (s).a, vi (s).n]])] (by rfl) (by kernel_rfl) (rs := [6]) (by rfl) (by first | (simp only [nf, Nat.beq] <;> rfl) | rfl) (fun base => ⟨
                  ⟨rfl, rfl, by
                    refine n_fieldAddr rfl fd75_1 ti2 rfl (by first | (simp only [nf, Nat.beq] <;> rfl) | rfl) rfl (by first | (simp only [nf, Nat.beq] <;> rfl) | rfl) ?_
                    exact AOps.nil ⟨rfl, rfl, rfl⟩⟩,
                  trivial⟩) ?_
              refine Walk.cases [([false, false], [.box [vi (s).e, vi (s).y, vi (s).a, vi (s).n], .box [vi k.d, vi k.a, vi k.b], .box [vi (s).e, vi (s).y, vi (s).a, vi (s).n], .box [vi (s).e, vi (s).y, vi (s).a, vi (s).n]], [.box [vi (s).e, vi (s).y, vi (s).a, vi (s).n], .box [vi k.d, vi k.a, vi k.b], .box [vi (s).e, vi (s).y, vi (s).a, vi (s).n], .box [vi (s).e, vi (s).y, vi (s).a, vi (s).n]])] (by rfl) (by kernel_rfl) (rs := [35]) (by rfl) (by first | (simp only [nf, Nat.beq] <;> rfl) | rfl) (fun base => ⟨
                  ⟨rfl, rfl, by
                    refine n_load rfl ti2 (by first | (simp only [nf, Nat.beq] <;> rfl) | rfl) (by first | (simp only [nf, Nat.beq] <;> rfl) | rfl) rfl (by first | (simp only [nf, Nat.beq] <;> rfl) | rfl) ?_
                    exact AOps.nil ⟨rfl, rfl, rfl⟩⟩,
                  trivial⟩) ?_
              refine Walk.cases [([false, false], [.box [vi (s).e, vi (s).y, vi (s).a, vi (s).n], .box [vi k.d, vi k.a, vi k.b], .box [vi (s).e, vi (s).y, vi (s).a, vi (s).n], .box [vi (s).e, vi (s).y, vi (s).a, vi (s).n]], [.box [vi (s).e, vi (s).y, vi (s).a, vi (s).n], .box [vi k.d, vi k.a, vi k.b], .box [vi (s).e, vi (s).y, vi (s).a, vi (s).n], .box [vi (s).e, vi (s).y, vi (s).a, vi (s).n]])] (by rfl) (by kernel_rfl) (rs := [6]) (by rfl) (by first | (simp only [nf, Nat.beq] <;> rfl) | rfl) (fun base => ⟨
                  ⟨rfl, rfl, by
                    refine n_fieldAddr rfl fd75_2 ti2 rfl (by first | (simp only [nf, Nat.beq] <;> rfl) | rfl) rfl (by first | (simp only [nf, Nat.beq] <;> rfl) | rfl) ?_
                    exact AOps.nil ⟨rfl, rfl, rfl⟩⟩,
                  trivial⟩) ?_
              refine Walk.cases [([false, false], [.box [vi (s).e, vi (s).y, vi (s).a, vi (s).n], .box [vi k.d, vi k.a, vi k.b], .box [vi (s).e, vi (s).y, vi (s).a, vi (s).n], .box [vi (s).e, vi (s).y, vi (s).a, vi (s).n]], [.box [vi (s).e, vi (s).y, vi (s).a, vi (s).n], .box [vi k.d, vi k.a, vi k.b], .box [vi (s).e, vi (s).y, vi (s).a, vi (s).n], .box [vi (s).e, vi (s).y, vi (s).a, vi (s).n]])] (by rfl) (by kernel_rfl) (rs := [37]) (by rfl) (by first | (simp only [nf, Nat.beq] <;> rfl) | rfl) (fun base => ⟨
                  ⟨rfl, rfl, by
                    refine n_load rfl ti2 (by first | (simp only [nf, Nat.beq] <;> rfl) | rfl) (by first | (simp only [nf, Nat.beq] <;> rfl) | rfl) rfl (by first | (simp only [nf, Nat.beq] <;> rfl) | rfl) ?_
                    exact AOps.nil ⟨rfl, rfl, rfl⟩⟩,
                  trivial⟩) ?_
              refine Walk.cases [([false, false], [.box [vi (s).e, vi (s).y, vi (s).a, vi (s).n], .box [vi k.d, vi k.a, vi k.b], .box [vi (s).e, vi (s).y, vi (s).a, vi (s).n], .box [vi (s).e, vi (s).y, vi (s).a, vi (s).n]], [.box [vi (s).e, vi (s).y, vi (s).a, vi (s).n], .box [vi k.d, vi k.a, vi k.b], .box [vi (s).e, vi (s).y, vi (s).a, vi (s).n], .box [vi (s).e, vi (s).y, vi (s).a, vi (s).n]])] (by rfl) (by kernel_rfl) (rs := [34, 36, 38]) (by rfl) (by first | (simp only [nf, Nat.beq] <;> rfl) | rfl) (fun base => ⟨
                  ⟨rfl, rfl, by
                    refine n_call0 rfl cf69 rfl (Eq.trans (by simp only [nl] <;> rfl) (by first | (simp only [nf, Nat.beq] <;> rfl) | rfl)) (r_grown _ _ _) (by repeat (first | exact .nil | refine .cons ?_ ?_ | exact ren_ints | exact .lf (.val _) | exact .lf (lf_ints (.inl rfl)) | exact .bp ⟨rfl, rfl⟩ | exact .lf (D.flat_lf rfl))) (by first | exact .val _ | exact lf_ints (.inl rfl) | exact lf_ints (.inr rfl) | exact .any | exact D.flat_lf rfl) ?_
                    exact AOps.nil ⟨rfl, rfl, rfl⟩⟩,
                  trivial⟩) ?_
              refine Walk.cases (d := .any) [([false, false], [.box [vi (s).e, vi (s).y, vi (s).a, vi (s).n], .box [vi k.d, vi k.a, vi k.b], .box [vi (s).e, vi (s).y, vi (s).a, vi (s).n], .box [vi (s).e, vi (s).y, vi (s).a, vi (s).n]], [.box [vi (s).e, vi (s).y, vi (s).a, vi (s).n], .box [vi k.d, vi k.a, vi k.b], .box [vi (s.grown k.a k.b).e, vi (s.grown k.a k.b).y, vi (s.grown k.a k.b).a, vi (s.grown k.a k.b).n], .box [vi (s).e, vi (s).y, vi (s).a, vi (s).n]])] (by rfl) (by kernel_rfl) (rs := [7, 33]) (by rfl) (by first | (simp only [nf, Nat.beq] <;> rfl) | rfl) (fun base => ⟨
                  ⟨rfl, rfl, by
                    refine n_store ti59 (by first | (simp only [nf, Nat.beq] <;> rfl) | rfl) rfl (by first | (simp only [nf, Nat.beq] <;> rfl) | rfl) rfl (by first | (simp only [nf, Nat.beq] <;> rfl) | rfl) rfl rfl rfl (by first | (simp only [nf, Nat.beq] <;> rfl) | rfl) ?_
                    exact AOps.nil ⟨rfl, rfl, rfl⟩⟩,
                  trivial⟩) ?_
              refine Walk.cases (d := .any) [([true, false], [.box [vi (s).e, vi (s).y, vi (s).a, vi (s).n], .box [vi k.d, vi k.a, vi k.b], .box [vi (s.grown k.a k.b).e, vi (s.grown k.a k.b).y, vi (s.grown k.a k.b).a, vi (s.grown k.a k.b).n], .box [vi (s).e, vi (s).y, vi (s).a, vi (s).n]], [.box [vi (s).e, vi (s).y, vi (s).a, vi (s).n], .box [vi k.d, vi k.a, vi k.b], .box [vi (s.grown k.a k.b).e, vi (s.grown k.a k.b).y, vi (s.grown k.a k.b).a, vi (s.grown k.a k.b).n], .box [vi (s.grown k.a k.b).e, vi (s.grown k.a k.b).y, vi (s.grown k.a k.b).a, vi (s.grown k.a k.b).n]])] (by rfl) (by kernel_rfl) (rs := [8, 39]) (by rfl) (by first | (simp only [nf, Nat.beq] <;> rfl) | rfl) (fun base => ⟨
                  ⟨rfl, rfl, by
                    refine n_store ti59 (by first | (simp only [nf, Nat.beq] <;> rfl) | rfl) rfl (by first | (simp only [nf, Nat.beq] <;> rfl) | rfl) rfl (by first | (simp only [nf, Nat.beq] <;> rfl) | rfl) rfl rfl rfl (by first | (simp only [nf, Nat.beq] <;> rfl) | rfl) ?_
                    exact AOps.nil ⟨rfl, rfl, rfl⟩⟩,
                  trivial⟩) ?_
              refine Walk.done ?_
              refine AWP.seq ?_
              refine AWP.seq ?_
              refine AWP.anyStill (by kernel_rfl) (by kernel_rfl) ?_
              refine Walk.still (rs := [9]) (by rfl) (by first | (simp only [nf, Nat.beq] <;> rfl) | rfl) (fun base => by
                  refine n_move rfl (by first | (simp only [nf, Nat.beq] <;> rfl) | rfl) ?_
                  exact AOps.nil ⟨rfl, rfl, rfl⟩) ?_
              refine Walk.still (rs := [90]) (by rfl) (by first | (simp only [nf, Nat.beq] <;> rfl) | rfl) (fun base => by
                  refine n_not rfl (by first | (simp only [nf, Nat.beq] <;> rfl) | rfl) rfl ?_
                  exact AOps.nil ⟨rfl, rfl, rfl⟩) ?_
              refine Walk.still (rs := [91]) (by rfl) (by first | (simp only [nf, Nat.beq] <;> rfl) | rfl) (fun base => by
                  refine n_move rfl (by first | (simp only [nf, Nat.beq] <;> rfl) | rfl) ?_
                  exact AOps.nil ⟨rfl, rfl, rfl⟩) ?_
              refine Walk.still (rs := [7, 92]) (by rfl) (by first | (simp only [nf, Nat.beq] <;> rfl) | rfl) (fun base => by
                  refine n_guard_yes rfl rfl rfl (by first | (simp only [nf, Nat.beq] <;> rfl) | rfl) rfl ?_
                  refine n_load rfl ti59 (by first | (simp only [nf, Nat.beq] <;> rfl) | rfl) (by first | (simp only [nf, Nat.beq] <;> rfl) | rfl) rfl (by first | (simp only [nf, Nat.beq] <;> rfl) | rfl) ?_
                  exact AOps.nil ⟨rfl, rfl, rfl⟩) ?_
              refine Walk.still (rs := [8, 92]) (by rfl) (by first | (simp only [nf, Nat.beq] <;> rfl) | rfl) (fun base => by
                  refine n_guard_yes rfl rfl rfl (by first | (simp only [nf, Nat.beq] <;> rfl) | rfl) rfl ?_
                  refine n_load rfl ti59 (by first | (simp only [nf, Nat.beq] <;> rfl) | rfl) (by first | (simp only [nf, Nat.beq] <;> rfl) | rfl) rfl (by first | (simp only [nf, Nat.beq] <;> rfl) | rfl) ?_
                  exact AOps.nil ⟨rfl, rfl, rfl⟩) ?_
              refine Walk.still (rs := [93, 94, 92]) (by rfl) (by first | (simp only [nf, Nat.beq] <;> rfl) | rfl) (fun base => by
                  refine n_guard_yes rfl rfl rfl (by first | (simp only [nf, Nat.beq] <;> rfl) | rfl) rfl ?_
                  refine n_stne rfl (by first | (simp only [nf, Nat.beq] <;> rfl) | rfl) (by first | (simp only [nf, Nat.beq] <;> rfl) | rfl) rfl rfl Try.underlying59 (by kernel_rfl) (by kernel_rfl) (.int rfl ti2 Try.underlying2 rfl rfl (.int rfl ti2 Try.underlying2 rfl rfl (.int rfl ti2 Try.underlying2 rfl rfl (.int rfl ti2 Try.underlying2 rfl rfl .nil)))) rfl ?_
                  exact AOps.nil ⟨rfl, rfl, rfl⟩) ?_
              refine Walk.still (rs := [92, 95]) (by rfl) (by first | (simp only [nf, Nat.beq] <;> rfl) | rfl) (fun base => by
                  refine n_pick rfl (by first | (simp only [nf, Nat.beq] <;> rfl) | rfl) (by first | (simp only [nf, Nat.beq] <;> rfl) | rfl) ?_
                  exact AOps.nil ⟨rfl, rfl, rfl⟩) ?_
              refine Walk.still (rs := [96]) (by rfl) (by first | (simp only [nf, Nat.beq] <;> rfl) | rfl) (fun base => by
                  refine n_move rfl (by first | (simp only [nf, Nat.beq] <;> rfl) | rfl) ?_
                  exact AOps.nil ⟨rfl, rfl, rfl⟩) ?_
              refine Walk.name (u := 97) (fun z => .val (.bool z)) (by first | (simp only [nf, Nat.beq] <;> rfl) | rfl) (fun b97 hb97 => ?_)
              refine Walk.still (rs := [7, 97]) (by rfl) (by first | (simp only [nf, Nat.beq] <;> rfl) | rfl) (fun base => by
                  refine n_soft (u := 97) (E := .val (.bool b97)) (!b97) rfl rfl rfl (by first | (simp only [nf, Nat.beq] <;> rfl) | rfl) (by cases b97 <;> first | (intro _; rfl) | (intro h; exact absurd h (by decide))) (by cases b97 <;> first | (intro h; exact absurd h (by decide)) | (intro _; exact ⟨_, rfl, by first | (intro h; cases h; done) | decide | simp⟩)) (fun h => by
                      cases b97 with
                      | true => exact absurd h (by first | decide | simp)
                      | false =>
                        refine n_load rfl ti59 (by first | (simp only [nf, Nat.beq] <;> rfl) | rfl) (by first | (simp only [nf, Nat.beq] <;> rfl) | rfl) rfl (by first | (simp only [nf, Nat.beq] <;> rfl) | rfl) ?_
                        exact AOps.nil ⟨rfl, rfl, rfl⟩) (AOps.nil ⟨rfl, rfl, rfl⟩)) ?_
              refine Walk.still (rs := [98, 97]) (by rfl) (by first | (simp only [nf, Nat.beq] <;> rfl) | rfl) (fun base => by
                  refine n_soft (u := 97) (E := .val (.bool b97)) (!b97) rfl rfl rfl (by first | (simp only [nf, Nat.beq] <;> rfl) | rfl) (by cases b97 <;> first | (intro _; rfl) | (intro h; exact absurd h (by decide))) (by cases b97 <;> first | (intro h; exact absurd h (by decide)) | (intro _; exact ⟨_, rfl, by first | (intro h; cases h; done) | decide | simp⟩)) (fun h => by
                      cases b97 with
                      | true => exact absurd h (by first | decide | simp)
                      | false =>
                        refine n_call0 rfl cf61 rfl (Eq.trans (by simp only [nl] <;> rfl) (by first | (simp only [nf, Nat.beq] <;> rfl) | rfl)) (l_chk _) (by repeat (first | exact .nil | refine .cons ?_ ?_ | exact ren_ints | exact .lf (.val _) | exact .lf (lf_ints (.inl rfl)) | exact .bp ⟨rfl, rfl⟩ | exact .lf (D.flat_lf rfl))) (by first | exact .val _ | exact lf_ints (.inl rfl) | exact lf_ints (.inr rfl) | exact .any | exact D.flat_lf rfl) ?_
                        exact AOps.nil ⟨rfl, rfl, rfl⟩) (AOps.nil ⟨rfl, rfl, rfl⟩)) ?_
              refine Walk.still (rs := [8, 97]) (by rfl) (by first | (simp only [nf, Nat.beq] <;> rfl) | rfl) (fun base => by
                  refine n_soft (u := 97) (E := .val (.bool b97)) (!b97) rfl rfl rfl (by first | (simp only [nf, Nat.beq] <;> rfl) | rfl) (by cases b97 <;> first | (intro _; rfl) | (intro h; exact absurd h (by decide))) (by cases b97 <;> first | (intro h; exact absurd h (by decide)) | (intro _; exact ⟨_, rfl, by first | (intro h; cases h; done) | decide | simp⟩)) (fun h => by
                      cases b97 with
                      | true => exact absurd h (by first | decide | simp)
                      | false =>
                        refine n_load rfl ti59 (by first | (simp only [nf, Nat.beq] <;> rfl) | rfl) (by first | (simp only [nf, Nat.beq] <;> rfl) | rfl) rfl (by first | (simp only [nf, Nat.beq] <;> rfl) | rfl) ?_
                        exact AOps.nil ⟨rfl, rfl, rfl⟩) (AOps.nil ⟨rfl, rfl, rfl⟩)) ?_
              refine Walk.still (rs := [100, 97]) (by rfl) (by first | (simp only [nf, Nat.beq] <;> rfl) | rfl) (fun base => by
                  refine n_soft (u := 97) (E := .val (.bool b97)) (!b97) rfl rfl rfl (by first | (simp only [nf, Nat.beq] <;> rfl) | rfl) (by cases b97 <;> first | (intro _; rfl) | (intro h; exact absurd h (by decide))) (by cases b97 <;> first | (intro h; exact absurd h (by decide)) | (intro _; exact ⟨_, rfl, by first | (intro h; cases h; done) | decide | simp⟩)) (fun h => by
                      cases b97 with
                      | true => exact absurd h (by first | decide | simp)
                      | false =>
                        refine n_call0 rfl cf70 rfl (Eq.trans (by simp only [nl] <;> rfl) (by first | (simp only [nf, Nat.beq] <;> rfl) | rfl)) (r_chk _) (by repeat (first | exact .nil | refine .cons ?_ ?_ | exact ren_ints | exact .lf (.val _) | exact .lf (lf_ints (.inl rfl)) | exact .bp ⟨rfl, rfl⟩ | exact .lf (D.flat_lf rfl))) (by first | exact .val _ | exact lf_ints (.inl rfl) | exact lf_ints (.inr rfl) | exact .any | exact D.flat_lf rfl) ?_
                        exact AOps.nil ⟨rfl, rfl, rfl⟩) (AOps.nil ⟨rfl, rfl, rfl⟩)) ?_
              refine Walk.still (rs := [99, 101, 97]) (by rfl) (by first | (simp only [nf, Nat.beq] <;> rfl) | rfl) (fun base => by
                  refine n_soft (u := 97) (E := .val (.bool b97)) (!b97) rfl rfl rfl (by first | (simp only [nf, Nat.beq] <;> rfl) | rfl) (by cases b97 <;> first | (intro _; rfl) | (intro h; exact absurd h (by decide))) (by cases b97 <;> first | (intro h; exact absurd h (by decide)) | (intro _; exact ⟨_, rfl, by first | (intro h; cases h; done) | decide | simp⟩)) (fun h => by
                      cases b97 with
                      | true => exact absurd h (by first | decide | simp)
                      | false =>
                        refine n_ibin rfl (by first | (simp only [nf, Nat.beq] <;> rfl) | rfl) (by first | (simp only [nf, Nat.beq] <;> rfl) | rfl) rfl ?_
                        exact AOps.nil ⟨rfl, rfl, rfl⟩) (AOps.nil ⟨rfl, rfl, rfl⟩)) ?_
              refine Walk.still (rs := [97, 102]) (by rfl) (by first | (simp only [nf, Nat.beq] <;> rfl) | rfl) (fun base => by
                  refine n_pick_or rfl (by first | (simp only [nf, Nat.beq] <;> rfl) | rfl) (fun h => by cases b97 with | true => exact absurd h (by decide) | false => exact (by first | (simp only [nf, Nat.beq] <;> rfl) | rfl)) ?_
                  exact AOps.nil ⟨rfl, rfl, rfl⟩) ?_
              refine Walk.still (rs := [103]) (by rfl) (by first | (simp only [nf, Nat.beq] <;> rfl) | rfl) (fun base => by
                  refine n_move rfl (by first | (simp only [nf, Nat.beq] <;> rfl) | rfl) ?_
                  exact AOps.nil ⟨rfl, rfl, rfl⟩) ?_
              refine Walk.name (u := 104) (fun z => .val (.bool z)) (by first | (simp only [nf, Nat.beq] <;> rfl) | rfl) (fun b104 hb104 => ?_)
              refine Walk.still (rs := [7, 104]) (by rfl) (by first | (simp only [nf, Nat.beq] <;> rfl) | rfl) (fun base => by
                  refine n_soft (u := 104) (E := .val (.bool b104)) (!b104) rfl rfl rfl (by first | (simp only [nf, Nat.beq] <;> rfl) | rfl) (by cases b104 <;> first | (intro _; rfl) | (intro h; exact absurd h (by decide))) (by cases b104 <;> first | (intro h; exact absurd h (by decide)) | (intro _; exact ⟨_, rfl, by first | (intro h; cases h; done) | decide | simp⟩)) (fun h => by
                      cases b104 with
                      | true => exact absurd h (by first | decide | simp)
                      | false =>
                        refine n_load rfl ti59 (by first | (simp only [nf, Nat.beq] <;> rfl) | rfl) (by first | (simp only [nf, Nat.beq] <;> rfl) | rfl) rfl (by first | (simp only [nf, Nat.beq] <;> rfl) | rfl) ?_
                        exact AOps.nil ⟨rfl, rfl, rfl⟩) (AOps.nil ⟨rfl, rfl, rfl⟩)) ?_
              refine Walk.still (rs := [105, 104]) (by rfl) (by first | (simp only [nf, Nat.beq] <;> rfl) | rfl) (fun base => by
                  refine n_soft (u := 104) (E := .val (.bool b104)) (!b104) rfl rfl rfl (by first | (simp only [nf, Nat.beq] <;> rfl) | rfl) (by cases b104 <;> first | (intro _; rfl) | (intro h; exact absurd h (by decide))) (by cases b104 <;> first | (intro h; exact absurd h (by decide)) | (intro _; exact ⟨_, rfl, by first | (intro h; cases h; done) | decide | simp⟩)) (fun h => by
                      cases b104 with
                      | true => exact absurd h (by first | decide | simp)
                      | false =>
                        refine n_call0 rfl cf62 rfl (Eq.trans (by simp only [nl] <;> rfl) (by first | (simp only [nf, Nat.beq] <;> rfl) | rfl)) (l_fin _) (by repeat (first | exact .nil | refine .cons ?_ ?_ | exact ren_ints | exact .lf (.val _) | exact .lf (lf_ints (.inl rfl)) | exact .bp ⟨rfl, rfl⟩ | exact .lf (D.flat_lf rfl))) (by first | exact .val _ | exact lf_ints (.inl rfl) | exact lf_ints (.inr rfl) | exact .any | exact D.flat_lf rfl) ?_
                        exact AOps.nil ⟨rfl, rfl, rfl⟩) (AOps.nil ⟨rfl, rfl, rfl⟩)) ?_
              refine Walk.still (rs := [8, 104]) (by rfl) (by first | (simp only [nf, Nat.beq] <;> rfl) | rfl) (fun base => by
                  refine n_soft (u := 104) (E := .val (.bool b104)) (!b104) rfl rfl rfl (by first | (simp only [nf, Nat.beq] <;> rfl) | rfl) (by cases b104 <;> first | (intro _; rfl) | (intro h; exact absurd h (by decide))) (by cases b104 <;> first | (intro h; exact absurd h (by decide)) | (intro _; exact ⟨_, rfl, by first | (intro h; cases h; done) | decide | simp⟩)) (fun h => by
                      cases b104 with
                      | true => exact absurd h (by first | decide | simp)
                      | false =>
                        refine n_load rfl ti59 (by first | (simp only [nf, Nat.beq] <;> rfl) | rfl) (by first | (simp only [nf, Nat.beq] <;> rfl) | rfl) rfl (by first | (simp only [nf, Nat.beq] <;> rfl) | rfl) ?_
                        exact AOps.nil ⟨rfl, rfl, rfl⟩) (AOps.nil ⟨rfl, rfl, rfl⟩)) ?_
              refine Walk.still (rs := [107, 104]) (by rfl) (by first | (simp only [nf, Nat.beq] <;> rfl) | rfl) (fun base => by
                  refine n_soft (u := 104) (E := .val (.bool b104)) (!b104) rfl rfl rfl (by first | (simp only [nf, Nat.beq] <;> rfl) | rfl) (by cases b104 <;> first | (intro _; rfl) | (intro h; exact absurd h (by decide))) (by cases b104 <;> first | (intro h; exact absurd h (by decide)) | (intro _; exact ⟨_, rfl, by first | (intro h; cases h; done) | decide | simp⟩)) (fun h => by
                      cases b104 with
                      | true => exact absurd h (by first | decide | simp)
                      | false =>
                        refine n_call0 rfl cf71 rfl (Eq.trans (by simp only [nl] <;> rfl) (by first | (simp only [nf, Nat.beq] <;> rfl) | rfl)) (r_fin _) (by repeat (first | exact .nil | refine .cons ?_ ?_ | exact ren_ints | exact .lf (.val _) | exact .lf (lf_ints (.inl rfl)) | exact .bp ⟨rfl, rfl⟩ | exact .lf (D.flat_lf rfl))) (by first | exact .val _ | exact lf_ints (.inl rfl) | exact lf_ints (.inr rfl) | exact .any | exact D.flat_lf rfl) ?_
                        exact AOps.nil ⟨rfl, rfl, rfl⟩) (AOps.nil ⟨rfl, rfl, rfl⟩)) ?_
              refine Walk.still (rs := [106, 108, 104]) (by rfl) (by first | (simp only [nf, Nat.beq] <;> rfl) | rfl) (fun base => by
                  refine n_soft (u := 104) (E := .val (.bool b104)) (!b104) rfl rfl rfl (by first | (simp only [nf, Nat.beq] <;> rfl) | rfl) (by cases b104 <;> first | (intro _; rfl) | (intro h; exact absurd h (by decide))) (by cases b104 <;> first | (intro h; exact absurd h (by decide)) | (intro _; exact ⟨_, rfl, by first | (intro h; cases h; done) | decide | simp⟩)) (fun h => by
                      cases b104 with
                      | true => exact absurd h (by first | decide | simp)
                      | false =>
                        refine n_bneq rfl (by first | (simp only [nf, Nat.beq] <;> rfl) | rfl) (by first | (simp only [nf, Nat.beq] <;> rfl) | rfl) Try.underlying4 rfl ?_
                        exact AOps.nil ⟨rfl, rfl, rfl⟩) (AOps.nil ⟨rfl, rfl, rfl⟩)) ?_
              refine Walk.still (rs := [104, 109]) (by rfl) (by first | (simp only [nf, Nat.beq] <;> rfl) | rfl) (fun base => by
                  refine n_pick_or rfl (by first | (simp only [nf, Nat.beq] <;> rfl) | rfl) (fun h => by cases b104 with | true => exact absurd h (by decide) | false => exact (by first | (simp only [nf, Nat.beq] <;> rfl) | rfl)) ?_
                  exact AOps.nil ⟨rfl, rfl, rfl⟩) ?_
              subst hb97
              subst hb104
              refine Walk.done ?_
              refine AWP.cond (by first | (simp only [nf, Nat.beq] <;> rfl) | rfl) (fun hc11 => ?_) (fun hc11 => ?_)
              · try simp only [nh] at hc11
                all_goals simp at hc11
              · try simp only [nh] at hc11
                refine AWP.skip ?_
                refine AWP.region ?_
                refine n_load rfl ti59 (by first | (simp only [nf, Nat.beq] <;> rfl) | rfl) (by first | (simp only [nf, Nat.beq] <;> rfl) | rfl) rfl (by first | (simp only [nf, Nat.beq] <;> rfl) | rfl) ?_
                refine n_store ti59 (by first | (simp only [nf, Nat.beq] <;> rfl) | rfl) rfl (by first | (simp only [nf, Nat.beq] <;> rfl) | rfl) rfl (by first | (simp only [nf, Nat.beq] <;> rfl) | rfl) rfl rfl rfl (by first | (simp only [nf, Nat.beq] <;> rfl) | rfl) ?_
                refine AOps.nil ?_
                refine AWP.region ?_
                first | refine n_iadd rfl (by first | (simp only [nf, Nat.beq] <;> rfl) | rfl) (by first | (simp only [nf, Nat.beq] <;> rfl) | rfl) rfl (by omega) (by omega) ?_ | refine n_ibin rfl (by first | (simp only [nf, Nat.beq] <;> rfl) | rfl) (by first | (simp only [nf, Nat.beq] <;> rfl) | rfl) rfl ?_
                refine n_move rfl (by first | (simp only [nf, Nat.beq] <;> rfl) | rfl) ?_
                refine AOps.nil ?_
                refine ⟨(i + 1, _), _, by dsimp only; omega, ?_, rfl, by dsimp only; omega⟩
                (repeat (first | exact FLe.empty _ | refine FLe.put ?_ ?_)) <;> first | (simp only [nf, Nat.beq]; done) | rfl | (try simp only [nf, Nat.beq]; first | (simp only [List.length_map]; done) | (congr 2; omega))
    · try simp only [nh] at hc2
      refine AWP.exit ?_
      refine AWP.seq ?_
      refine AWP.region ?_
      refine n_assign rfl (by first | (simp only [nf, Nat.beq] <;> rfl) | rfl) ?_
      refine AOps.nil ?_
      refine AWP.ret ?_
      refine fin_pure (.cons (rv_tmp (by first | (simp only [nf, Nat.beq] <;> rfl) | rfl)) .nil) (by first | (simp only [nf, Nat.beq] <;> rfl) | rfl) ?_
      exact ren_flat rfl rfl

end Go.Proofs.Ytanfmpkjcoolmaa.Ml
