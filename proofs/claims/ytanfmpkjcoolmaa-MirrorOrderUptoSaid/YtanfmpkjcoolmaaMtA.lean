/- The walk of MirrorThere. -/
import Derived.Test.YtanfmpkjcoolmaaMiB
import Derived.Test.YtanfmpkjcoolmaaMirrorTherePlain
import Derived.Test.YtanfmpkjcoolmaaEventPlain4
import Derived.KernelRfl
set_option linter.unusedVariables false
set_option linter.unusedSimpArgs false
namespace Go.Proofs.Ytanfmpkjcoolmaa.Mt
open Go Go.Abs Go.Abs.Sd
attribute [local irreducible] AWP AOps Does

theorem cf54 : CF Try.prog 54 := ⟨_, Try.func54, by kernel_rfl, by kernel_rfl⟩
theorem cf55 : CF Try.prog 55 := ⟨_, Try.func55, by kernel_rfl, by kernel_rfl⟩
theorem cf56 : CF Try.prog 56 := ⟨_, Try.func56, by kernel_rfl, by kernel_rfl⟩
theorem cf57 : CF Try.prog 57 := ⟨_, Try.func57, by kernel_rfl, by kernel_rfl⟩
theorem cf58 : CF Try.prog 58 := ⟨_, Try.func58, by kernel_rfl, by kernel_rfl⟩
theorem cf59 : CF Try.prog 59 := ⟨_, Try.func59, by kernel_rfl, by kernel_rfl⟩
theorem cf60 : CF Try.prog 60 := ⟨_, Try.func60, by kernel_rfl, by kernel_rfl⟩
theorem cf61 : CF Try.prog 61 := ⟨_, Try.func61, by kernel_rfl, by kernel_rfl⟩
theorem cf62 : CF Try.prog 62 := ⟨_, Try.func62, by kernel_rfl, by kernel_rfl⟩
theorem cf63 : CF Try.prog 63 := ⟨_, Try.func63, by kernel_rfl, by kernel_rfl⟩
theorem ei56 : EI Try.prog 56 4 32 (.agg #[.int .i64 0, .int .i64 0, .int .i64 0, .int .i64 0]) := EI.of (by kernel_rfl) rfl rfl
theorem fd59_2 : FD Try.prog 59 2 2 2 := ⟨_, _, Try.underlying59, rfl, rfl, rfl⟩
theorem si59 : SI Try.prog 59 #[(0, 1), (1, 1), (2, 1), (3, 1)] (.agg #[.int .i64 0, .int .i64 0, .int .i64 0, .int .i64 0]) := ⟨⟨_, Try.underlying59, fun w => by kernel_rfl⟩, by kernel_rfl⟩
theorem si67 : SI Try.prog 67 #[(0, 1), (1, 1), (2, 1)] (.agg #[.int .i64 0, .int .i64 0, .slice none 0 0]) := ⟨⟨_, Try.underlying67, fun w => by kernel_rfl⟩, by kernel_rfl⟩
theorem ti2 : TI Try.prog 2 1 false := ⟨by kernel_rfl, by kernel_rfl⟩
theorem ti24 : TI Try.prog 24 2 true := ⟨by kernel_rfl, by kernel_rfl⟩
theorem ti3 : TI Try.prog 3 1 false := ⟨by kernel_rfl, by kernel_rfl⟩
theorem ti4 : TI Try.prog 4 1 false := ⟨by kernel_rfl, by kernel_rfl⟩
theorem ti56 : TI Try.prog 56 4 true := ⟨by kernel_rfl, by kernel_rfl⟩
theorem ti59 : TI Try.prog 59 4 true := ⟨by kernel_rfl, by kernel_rfl⟩
theorem zi56 : (Try.prog.info? 56).map (·.zero) = some (some (.agg #[.int .i64 0, .int .i64 0, .int .i64 0, .int .i64 0])) := by kernel_rfl
theorem zi59 : (Try.prog.info? 59).map (·.zero) = some (some (.agg #[.int .i64 0, .int .i64 0, .int .i64 0, .int .i64 0])) := by kernel_rfl

attribute [local irreducible] accept chkB mny phi valid
theorem ren_bun {ρ σ : Nat → Nat → Prop} {nl : Option Bool} {c : Cap} (q : Int) (l : List En) : Ren ρ σ (.agg [vi 0, vi q, .sl nl (l.map ez) c]) (.agg [vi 0, vi q, .sl none (l.map ez) .ro]) :=
  .agg rfl (RenAll.get (.cons (.lf (.val _)) (.cons (.lf (.val _)) (.cons (ren_map (f := ez) (fun _ => rfl)) .nil))))
theorem eq_en (l : List En) (hn : l.length ≤ 1048576) : Does Try.prog 63 [(.sl none (l.map ez) .ro), (.sl none (l.map ez) .ro)] [] (vb true) [] := by
  refine Does.of_body (rvs := [.tmp 4]) Try.func63 rfl rfl rfl rfl ?_
  refine AWP.seq ?_
  refine AWP.region ?_
  refine n_assign rfl (by first | (simp only [nf, Nat.beq] <;> rfl) | rfl) ?_
  refine AOps.nil ?_
  refine AWP.seq ?_
  refine AWP.seq ?_
  refine AWP.region ?_
  refine n_move rfl (by first | (simp only [nf, Nat.beq] <;> rfl) | rfl) ?_
  refine n_len rfl Try.underlying53 (by first | (simp only [nf, Nat.beq] <;> rfl) | rfl) (by first | rw [ints_length] | rw [List.length_map] | rfl) ?_
  refine n_move rfl (by first | (simp only [nf, Nat.beq] <;> rfl) | rfl) ?_
  refine n_len rfl Try.underlying53 (by first | (simp only [nf, Nat.beq] <;> rfl) | rfl) (by first | rw [ints_length] | rw [List.length_map] | rfl) ?_
  refine n_ibin rfl (by first | (simp only [nf, Nat.beq] <;> rfl) | rfl) (by first | (simp only [nf, Nat.beq] <;> rfl) | rfl) rfl ?_
  refine AOps.nil ?_
  refine AWP.cond (by first | (simp only [nf, Nat.beq] <;> rfl) | rfl) (fun hc1 => ?_) (fun hc1 => ?_)
  · try simp only [nh] at hc1
    exfalso
    simp at hc1
  · try simp only [nh] at hc1
    refine AWP.skip ?_
    refine AWP.seq ?_
    refine AWP.seq ?_
    refine AWP.region ?_
    refine n_assign rfl (by first | (simp only [nf, Nat.beq] <;> rfl) | rfl) ?_
    refine AOps.nil ?_
    refine AWP.block ?_
    refine AWP.loop (α := Nat) (fun i => i ≤ l.length) (fun i => put (put (put empty 0 (.sl none (l.map ez) .ro)) 1 (.sl none (l.map ez) .ro)) 5 (vi (i : Int))) (fun _ => []) (fun i => l.length - i) 0 ?_ ?_ ?_ ?_
    · exact Nat.zero_le _
    · (repeat (first | exact FLe.empty _ | refine FLe.put ?_ ?_)) <;> first | (simp only [nf, Nat.beq]; done) | rfl | (try simp only [nf, Nat.beq]; first | rfl | (simp only [List.length_map]; done) | (congr 2; omega))
    · rfl
    · intro i hi
      try dsimp only at hi ⊢
      refine AWP.seq ?_
      refine AWP.seq ?_
      refine AWP.region ?_
      refine n_move rfl (by first | (simp only [nf, Nat.beq] <;> rfl) | rfl) ?_
      refine n_move rfl (by first | (simp only [nf, Nat.beq] <;> rfl) | rfl) ?_
      refine n_len rfl Try.underlying53 (by first | (simp only [nf, Nat.beq] <;> rfl) | rfl) (by first | rw [ints_length] | rw [List.length_map] | rfl) ?_
      refine n_ibin rfl (by first | (simp only [nf, Nat.beq] <;> rfl) | rfl) (by first | (simp only [nf, Nat.beq] <;> rfl) | rfl) rfl ?_
      refine AOps.nil ?_
      refine AWP.cond (by first | (simp only [nf, Nat.beq] <;> rfl) | rfl) (fun hc2 => ?_) (fun hc2 => ?_)
      · try simp only [nh] at hc2
        obtain ⟨x, hx⟩ : ∃ x, l[i]? = some x := ⟨_, List.getElem?_eq_getElem (by omega)⟩
        refine AWP.skip ?_
        refine AWP.seq ?_
        refine AWP.block ?_
        refine AWP.seq ?_
        refine AWP.anyStill (by kernel_rfl) (by kernel_rfl) ?_
        refine Walk.still (rs := [0]) (by rfl) (by first | (simp only [nf, Nat.beq] <;> rfl) | rfl) (fun base => by
            refine n_move rfl (by first | (simp only [nf, Nat.beq] <;> rfl) | rfl) ?_
            exact AOps.nil ⟨rfl, rfl, rfl⟩) ?_
        refine Walk.still (rs := [5]) (by rfl) (by first | (simp only [nf, Nat.beq] <;> rfl) | rfl) (fun base => by
            refine n_move rfl (by first | (simp only [nf, Nat.beq] <;> rfl) | rfl) ?_
            exact AOps.nil ⟨rfl, rfl, rfl⟩) ?_
        refine Walk.still (rs := [17, 18]) (by rfl) (by first | (simp only [nf, Nat.beq] <;> rfl) | rfl) (fun base => by
            refine n_indexAddr rfl Try.underlying53 ti56 rfl (by first | (simp only [nf, Nat.beq] <;> rfl) | rfl) (by first | (simp only [nf, Nat.beq] <;> rfl) | rfl) (by omega) (by first | exact ints_at _ _ _ (by omega) | exact ints_get _ _ _ (by omega) | exact map_at _ (by assumption) | rfl) rfl ?_
            exact AOps.nil ⟨rfl, rfl, rfl⟩) ?_
        refine Walk.still (rs := [19]) (by rfl) (by first | (simp only [nf, Nat.beq] <;> rfl) | rfl) (fun base => by
            refine n_load rfl ti56 (by first | (simp only [nf, Nat.beq] <;> rfl) | rfl) (by first | (simp only [nf, Nat.beq] <;> rfl) | rfl) rfl (by first | (simp only [nf, Nat.beq] <;> rfl) | rfl) ?_
            exact AOps.nil ⟨rfl, rfl, rfl⟩) ?_
        refine Walk.still (rs := [1]) (by rfl) (by first | (simp only [nf, Nat.beq] <;> rfl) | rfl) (fun base => by
            refine n_move rfl (by first | (simp only [nf, Nat.beq] <;> rfl) | rfl) ?_
            exact AOps.nil ⟨rfl, rfl, rfl⟩) ?_
        refine Walk.still (rs := [5]) (by rfl) (by first | (simp only [nf, Nat.beq] <;> rfl) | rfl) (fun base => by
            refine n_move rfl (by first | (simp only [nf, Nat.beq] <;> rfl) | rfl) ?_
            exact AOps.nil ⟨rfl, rfl, rfl⟩) ?_
        refine Walk.still (rs := [21, 22]) (by rfl) (by first | (simp only [nf, Nat.beq] <;> rfl) | rfl) (fun base => by
            refine n_indexAddr rfl Try.underlying53 ti56 rfl (by first | (simp only [nf, Nat.beq] <;> rfl) | rfl) (by first | (simp only [nf, Nat.beq] <;> rfl) | rfl) (by omega) (by first | exact ints_at _ _ _ (by omega) | exact ints_get _ _ _ (by omega) | exact map_at _ (by assumption) | rfl) rfl ?_
            exact AOps.nil ⟨rfl, rfl, rfl⟩) ?_
        refine Walk.still (rs := [23]) (by rfl) (by first | (simp only [nf, Nat.beq] <;> rfl) | rfl) (fun base => by
            refine n_load rfl ti56 (by first | (simp only [nf, Nat.beq] <;> rfl) | rfl) (by first | (simp only [nf, Nat.beq] <;> rfl) | rfl) rfl (by first | (simp only [nf, Nat.beq] <;> rfl) | rfl) ?_
            exact AOps.nil ⟨rfl, rfl, rfl⟩) ?_
        refine Walk.still (rs := [20, 24]) (by rfl) (by first | (simp only [nf, Nat.beq] <;> rfl) | rfl) (fun base => by
            refine n_stne rfl (by first | (simp only [nf, Nat.beq] <;> rfl) | rfl) (by first | (simp only [nf, Nat.beq] <;> rfl) | rfl) rfl rfl Try.underlying56 (by kernel_rfl) (by kernel_rfl) (.int rfl ti2 Try.underlying2 rfl rfl (.int rfl ti3 Try.underlying3 rfl rfl (.struct rfl ti24 Try.underlying24 (by kernel_rfl) rfl rfl (.int rfl ti2 Try.underlying2 rfl rfl (.int rfl ti2 Try.underlying2 rfl rfl .nil)) .nil))) rfl ?_
            exact AOps.nil ⟨rfl, rfl, rfl⟩) ?_
        refine Walk.done ?_
        refine AWP.cond (by first | (simp only [nf, Nat.beq] <;> rfl) | rfl) (fun hc3 => ?_) (fun hc3 => ?_)
        · try simp only [nh] at hc3
          exfalso
          simp at hc3
        · try simp only [nh] at hc3
          refine AWP.skip ?_
          refine AWP.region ?_
          refine n_move rfl (by first | (simp only [nf, Nat.beq] <;> rfl) | rfl) ?_
          first | refine n_iadd rfl (by first | (simp only [nf, Nat.beq] <;> rfl) | rfl) (by first | (simp only [nf, Nat.beq] <;> rfl) | rfl) rfl (by omega) (by omega) ?_ | refine n_ibin rfl (by first | (simp only [nf, Nat.beq] <;> rfl) | rfl) (by first | (simp only [nf, Nat.beq] <;> rfl) | rfl) rfl ?_
          refine n_assign rfl (by first | (simp only [nf, Nat.beq] <;> rfl) | rfl) ?_
          refine AOps.nil ?_
          refine ⟨i + 1, by omega, ?_, rfl, by omega⟩
          (repeat (first | exact FLe.empty _ | refine FLe.put ?_ ?_)) <;> first | (simp only [nf, Nat.beq]; done) | rfl | (try simp only [nf, Nat.beq]; first | rfl | (simp only [List.length_map]; done) | (congr 2; omega))
      · try simp only [nh] at hc2
        refine AWP.exit ?_
        refine AWP.seq ?_
        refine AWP.region ?_
        refine n_assign rfl (by first | (simp only [nf, Nat.beq] <;> rfl) | rfl) ?_
        refine AOps.nil ?_
        refine AWP.ret ?_
        refine fin_pure (.cons (rv_tmp (by first | (simp only [nf, Nat.beq] <;> rfl) | rfl)) .nil) (by first | (simp only [nf, Nat.beq] <;> rfl) | rfl) ?_
        exact ren_flat rfl rfl

set_option maxHeartbeats 4000000 in
theorem There_calls (es : List En) (ks : List Bool) (hn : es.length ≤ 1048576) (hk : ks.length ≤ 1048576) : Does Try.prog 7 [(.sl none (es.map ez) .ro), (.sl none (ks.map fun b => [vb b]) .ro)] [] (vb true) [] := by
  refine Does.of_body (rvs := [.tmp 4]) Try.func7 rfl rfl rfl rfl ?_
  have hvl := valid_len es
  have hvo := valid_ok (l := es)
  have hL : (valid es).length ≤ 1048576 := by omega
  have hgr := Mi.l_grown ⟨0, 0, 0, 0⟩ ((valid es).length : Int) ((valid es).length : Int)
  rw [st4_grown hL] at hgr
  have hq := eq_en (valid es) hL
  refine AWP.seq ?_
  refine AWP.region ?_
  refine n_assign rfl (by first | (simp only [nf, Nat.beq] <;> rfl) | rfl) ?_
  refine AOps.nil ?_
  refine AWP.seq ?_
  refine AWP.seq ?_
  refine AWP.region ?_
  refine n_call0B rfl cf54 rfl (Eq.trans (by simp only [nl] <;> rfl) (by first | (simp only [nf, Nat.beq] <;> rfl) | rfl)) (by repeat (first | exact .nil | refine .cons ?_ ?_ | exact ren_ints | exact .lf (.val _) | exact .lf (lf_ints (.inl rfl)) | exact .bp ⟨rfl, rfl⟩ | exact .bp (.inl ⟨rfl, rfl⟩) | exact .bp (.inr ⟨rfl, rfl⟩) | exact .lf (D.flat_lf rfl) | exact ren_map (f := ez) (fun _ => rfl) | exact ren_bun _ _ | exact ren_flat rfl (by rw [hlg]))) (Mi.live) (by first | exact .val _ | exact lf_ints (.inl rfl) | exact lf_ints (.inr rfl) | exact .any | exact D.flat_lf rfl | exact .tup (lf_cons (lf_map (f := ez) (fun _ => rfl) (.inl rfl)) (lf_cons (.val _) lf_nil)) | exact .tup (lf_cons (.val _) (lf_cons (.val _) (lf_cons (D.flat_lf rfl) lf_nil)))) ?_
  refine n_not rfl (by first | (simp only [nf, Nat.beq] <;> rfl) | rfl) rfl ?_
  refine AOps.nil ?_
  refine AWP.cond_false (by first | (simp only [nf, Nat.beq] <;> rfl) | rfl) ?_
  refine AWP.skip ?_
  refine AWP.seq ?_
  refine AWP.region ?_
  refine n_assign rfl (by first | (simp only [nf, Nat.beq] <;> rfl) | rfl) ?_
  refine AOps.nil ?_
  refine AWP.seq ?_
  refine AWP.seq ?_
  refine AWP.adopt (t := 5) (m := 0) (S' := [.row 0 4]) (by rfl) rfl rfl rfl ?_
  refine AWP.region ?_
  refine n_move rfl (by first | (simp only [nf, Nat.beq] <;> rfl) | rfl) ?_
  refine n_len rfl Try.underlying53 (by first | (simp only [nf, Nat.beq] <;> rfl) | rfl) (by first | rw [ints_length] | rw [List.length_map] | rfl) ?_
  refine n_move rfl (by first | (simp only [nf, Nat.beq] <;> rfl) | rfl) ?_
  refine AOps.nil ?_
  refine AWP.block ?_
  refine AWP.loopX 1 (α := Nat) (fun i => i ≤ es.length) (fun i => put (put (put (put (put empty 1 (.sl none (ks.map fun b => [vb b]) .ro)) 5 (.sl none ((valid (es.take i)).map ez) (.own 0))) 18 (.sl none (es.map ez) .ro)) 19 (vi (es.length : Int))) 20 (vi (i : Int))) (fun i => [.row (valid (es.take i)).length 4]) (fun i => es.length - i) 0 ?_ ?_ ?_ ?_ ?_ ?_ ?_
  · exact Nat.zero_le _
  · (repeat (first | exact FLe.empty _ | refine FLe.put ?_ ?_)) <;> first | (simp only [nf, Nat.beq]; done) | rfl | ((try simp only [nf, Nat.beq]); first | rfl | (simp [valid]; done) | (simp only [List.length_map]; done) | (rw [hst]; done) | (congr 2; omega; done))
  · simp [valid]
  · exact fun _ => rfl
  · intro p hp; (try dsimp only); (repeat' (refine un_put ?_ ?_)) <;> first | exact un_empty | exact .bp (by decide) | exact .lf (D.flat_lf rfl) | exact .lf (lf_ints (.inl rfl)) | exact .lf (lf_map (fun _ => rfl) (.inl rfl)) | exact .sl (fun x hx d hd => by obtain ⟨p, _, rfl⟩ := List.mem_map.1 hx; exact .lf (flats_lf (by rfl) d hd)) (fun l e => by cases e; decide)
  · intro p hp; (try dsimp only); repeat' (first | exact un_nil | refine un_cons ?_ ?_ | exact un_box rfl | exact trivial)
  · intro i hi
    try dsimp only at hi ⊢
    refine AWP.seq ?_
    refine AWP.region ?_
    refine n_ibin rfl (by first | (simp only [nf, Nat.beq] <;> rfl) | rfl) (by first | (simp only [nf, Nat.beq] <;> rfl) | rfl) rfl ?_
    refine AOps.nil ?_
    refine AWP.seq ?_
    refine AWP.cond (by first | (simp only [nf, Nat.beq] <;> rfl) | rfl) (fun hc2 => ?_) (fun hc2 => ?_)
    · try simp only [nh] at hc2
      obtain ⟨x, hx⟩ : ∃ x, es[i]? = some x := ⟨_, List.getElem?_eq_getElem (by omega)⟩
      have hpl := valid_len (es.take i)
      have htl : (es.take i).length ≤ es.length := by simp [List.length_take]; omega
      refine AWP.skip ?_
      refine AWP.seq ?_
      refine AWP.block ?_
      refine AWP.seq ?_
      refine AWP.region ?_
      refine n_indexAddr rfl Try.underlying53 ti56 rfl (by first | (simp only [nf, Nat.beq] <;> rfl) | rfl) (by first | (simp only [nf, Nat.beq] <;> rfl) | rfl) (by omega) (by first | exact ints_at _ _ _ (by omega) | exact ints_get _ _ _ (by omega) | exact map_at _ (by assumption) | rfl) rfl ?_
      refine n_load rfl ti56 (by first | (simp only [nf, Nat.beq] <;> rfl) | rfl) (by first | (simp only [nf, Nat.beq] <;> rfl) | rfl) rfl (by first | (simp only [nf, Nat.beq] <;> rfl) | rfl) ?_
      refine n_alloc rfl zi56 rfl (by first | (simp only [nf, Nat.beq] <;> rfl) | rfl) (by first | (simp only [nf, Nat.beq] <;> rfl) | rfl) ?_
      refine n_store ti56 (by first | (simp only [nf, Nat.beq] <;> rfl) | rfl) rfl (by first | (simp only [nf, Nat.beq] <;> rfl) | rfl) rfl (by first | (simp only [nf, Nat.beq] <;> rfl) | rfl) rfl rfl rfl (by first | (simp only [nf, Nat.beq] <;> rfl) | rfl) ?_
      refine AOps.nil ?_
      refine AWP.seq ?_
      refine AWP.region ?_
      refine n_load rfl ti56 (by first | (simp only [nf, Nat.beq] <;> rfl) | rfl) (by first | (simp only [nf, Nat.beq] <;> rfl) | rfl) rfl (by first | (simp only [nf, Nat.beq] <;> rfl) | rfl) ?_
      refine n_call0B rfl cf55 rfl (Eq.trans (by simp only [nl] <;> rfl) (by first | (simp only [nf, Nat.beq] <;> rfl) | rfl)) (by repeat (first | exact .nil | refine .cons ?_ ?_ | exact ren_ints | exact .lf (.val _) | exact .lf (lf_ints (.inl rfl)) | exact .bp ⟨rfl, rfl⟩ | exact .bp (.inl ⟨rfl, rfl⟩) | exact .bp (.inr ⟨rfl, rfl⟩) | exact .lf (D.flat_lf rfl) | exact ren_map (f := ez) (fun _ => rfl) | exact ren_bun _ _ | exact ren_flat rfl (by rw [hlg]))) (Mi.r_entry _) (by first | exact .val _ | exact lf_ints (.inl rfl) | exact lf_ints (.inr rfl) | exact .any | exact D.flat_lf rfl | exact .tup (lf_cons (lf_map (f := ez) (fun _ => rfl) (.inl rfl)) (lf_cons (.val _) lf_nil)) | exact .tup (lf_cons (.val _) (lf_cons (.val _) (lf_cons (D.flat_lf rfl) lf_nil)))) ?_
      refine n_ibin rfl (by first | (simp only [nf, Nat.beq] <;> rfl) | rfl) (by first | (simp only [nf, Nat.beq] <;> rfl) | rfl) rfl ?_
      refine AOps.nil ?_
      refine AWP.cond (by first | (simp only [nf, Nat.beq] <;> rfl) | rfl) (fun hc3 => ?_) (fun hc3 => ?_)
      · try simp only [nh] at hc3
        have hst := valid_take_yes hx hc3
        refine AWP.region ?_
        refine n_move rfl (by first | (simp only [nf, Nat.beq] <;> rfl) | rfl) ?_
        refine n_load rfl ti56 (by first | (simp only [nf, Nat.beq] <;> rfl) | rfl) (by first | (simp only [nf, Nat.beq] <;> rfl) | rfl) rfl (by first | (simp only [nf, Nat.beq] <;> rfl) | rfl) ?_
        refine n_lit rfl Try.underlying53 ti56 zi56 rfl rfl (Eq.trans (by simp only [nl] <;> rfl) (by first | (simp only [nf, Nat.beq] <;> rfl) | rfl)) rfl (by first | (simp only [nf, Nat.beq] <;> rfl) | rfl) ?_
        refine n_append_own (zs := (valid (es.take i) ++ [x]).map ez) (m := (valid (es.take i)).length + 1) rfl Try.underlying53 Try.underlying53 ei56 (by first | (simp only [nf, Nat.beq] <;> rfl) | rfl) (by first | (simp only [nf, Nat.beq] <;> rfl) | rfl) (by simp only [List.length_map]) (by first | (simp only [nf, Nat.beq] <;> rfl) | rfl) (by exact map_one (f := ez) (fun _ => rfl)) (by exact one_one rfl) (by simp) (by simp) (by omega) (by first | (simp only [nf, Nat.beq] <;> rfl) | rfl) ?_
        refine n_assign rfl (by first | (simp only [nf, Nat.beq] <;> rfl) | rfl) ?_
        refine AOps.nil ?_
        refine AWP.region ?_
        first | refine n_iadd rfl (by first | (simp only [nf, Nat.beq] <;> rfl) | rfl) (by first | (simp only [nf, Nat.beq] <;> rfl) | rfl) rfl (by omega) (by omega) ?_ | refine n_ibin rfl (by first | (simp only [nf, Nat.beq] <;> rfl) | rfl) (by first | (simp only [nf, Nat.beq] <;> rfl) | rfl) rfl ?_
        refine n_move rfl (by first | (simp only [nf, Nat.beq] <;> rfl) | rfl) ?_
        refine AOps.nil ?_
        refine ⟨i + 1, [.box (ez x)], by omega, ?_, ?_, by omega⟩
        · (repeat (first | exact FLe.empty _ | refine FLe.put ?_ ?_)) <;> first | (simp only [nf, Nat.beq]; done) | rfl | ((try simp only [nf, Nat.beq]); first | rfl | (simp [valid]; done) | (simp only [List.length_map]; done) | (rw [hst]; done) | (congr 2; omega; done))
        · rw [hst] <;> simp
      · try simp only [nh] at hc3
        have hst := valid_take_no hx (by simpa using hc3)
        refine AWP.skip ?_
        refine AWP.region ?_
        first | refine n_iadd rfl (by first | (simp only [nf, Nat.beq] <;> rfl) | rfl) (by first | (simp only [nf, Nat.beq] <;> rfl) | rfl) rfl (by omega) (by omega) ?_ | refine n_ibin rfl (by first | (simp only [nf, Nat.beq] <;> rfl) | rfl) (by first | (simp only [nf, Nat.beq] <;> rfl) | rfl) rfl ?_
        refine n_move rfl (by first | (simp only [nf, Nat.beq] <;> rfl) | rfl) ?_
        refine AOps.nil ?_
        refine ⟨i + 1, [.box (ez x)], by omega, ?_, ?_, by omega⟩
        · (repeat (first | exact FLe.empty _ | refine FLe.put ?_ ?_)) <;> first | (simp only [nf, Nat.beq]; done) | rfl | ((try simp only [nf, Nat.beq]); first | rfl | (simp [valid]; done) | (simp only [List.length_map]; done) | (rw [hst]; done) | (congr 2; omega; done))
        · rw [hst] <;> simp
    · try simp only [nh] at hc2
      obtain rfl : i = es.length := by omega
      rw [List.take_length]
      refine AWP.exit ?_
      refine AWP.seq ?_
      refine AWP.region ?_
      refine n_build rfl si59 (Eq.trans (by simp only [nl] <;> rfl) (by first | (simp only [nf, Nat.beq] <;> rfl) | rfl)) (Eq.trans (by simp only [nl] <;> rfl) (by first | (simp only [nf, Nat.beq] <;> rfl) | rfl)) rfl ?_
      refine n_move rfl (by first | (simp only [nf, Nat.beq] <;> rfl) | rfl) ?_
      refine n_len rfl Try.underlying53 (by first | (simp only [nf, Nat.beq] <;> rfl) | rfl) (by first | rw [ints_length] | rw [List.length_map] | rfl) ?_
      refine n_move rfl (by first | (simp only [nf, Nat.beq] <;> rfl) | rfl) ?_
      refine n_len rfl Try.underlying53 (by first | (simp only [nf, Nat.beq] <;> rfl) | rfl) (by first | rw [ints_length] | rw [List.length_map] | rfl) ?_
      refine n_call0B rfl cf56 rfl (Eq.trans (by simp only [nl] <;> rfl) (by first | (simp only [nf, Nat.beq] <;> rfl) | rfl)) (by repeat (first | exact .nil | refine .cons ?_ ?_ | exact ren_ints | exact .lf (.val _) | exact .lf (lf_ints (.inl rfl)) | exact .bp ⟨rfl, rfl⟩ | exact .bp (.inl ⟨rfl, rfl⟩) | exact .bp (.inr ⟨rfl, rfl⟩) | exact .lf (D.flat_lf rfl) | exact ren_map (f := ez) (fun _ => rfl) | exact ren_bun _ _ | exact ren_flat rfl (by rw [hlg]))) (hgr) (by first | exact .val _ | exact lf_ints (.inl rfl) | exact lf_ints (.inr rfl) | exact .any | exact D.flat_lf rfl | exact .tup (lf_cons (lf_map (f := ez) (fun _ => rfl) (.inl rfl)) (lf_cons (.val _) lf_nil)) | exact .tup (lf_cons (.val _) (lf_cons (.val _) (lf_cons (D.flat_lf rfl) lf_nil)))) ?_
      refine n_alloc rfl zi59 rfl (by first | (simp only [nf, Nat.beq] <;> rfl) | rfl) (by first | (simp only [nf, Nat.beq] <;> rfl) | rfl) ?_
      refine n_store ti59 (by first | (simp only [nf, Nat.beq] <;> rfl) | rfl) rfl (by first | (simp only [nf, Nat.beq] <;> rfl) | rfl) rfl (by first | (simp only [nf, Nat.beq] <;> rfl) | rfl) rfl rfl rfl (by first | (simp only [nf, Nat.beq] <;> rfl) | rfl) ?_
      refine AOps.nil ?_
      refine AWP.seq ?_
      refine AWP.region ?_
      refine n_assign rfl (by first | (simp only [nf, Nat.beq] <;> rfl) | rfl) ?_
      refine AOps.nil ?_
      refine AWP.seq ?_
      refine AWP.seq ?_
      refine AWP.adopt (t := 9) (m := 0) (S' := [.row (valid es).length 4, .box [vi ((valid es).length : Int), vi ((valid es).length : Int), vi ((0 : Nat) : Int), vi ((0 : Nat) : Int)], .row 0 4]) (by rfl) rfl rfl rfl ?_
      refine AWP.region ?_
      refine n_move rfl (by first | (simp only [nf, Nat.beq] <;> rfl) | rfl) ?_
      refine n_len rfl Try.underlying54 (by first | (simp only [nf, Nat.beq] <;> rfl) | rfl) (by first | rw [ints_length] | rw [List.length_map] | rfl) ?_
      refine n_move rfl (by first | (simp only [nf, Nat.beq] <;> rfl) | rfl) ?_
      refine n_len rfl Try.underlying53 (by first | (simp only [nf, Nat.beq] <;> rfl) | rfl) (by first | rw [ints_length] | rw [List.length_map] | rfl) ?_
      first | refine n_imul rfl (by first | (simp only [nf, Nat.beq] <;> rfl) | rfl) (by first | (simp only [nf, Nat.beq] <;> rfl) | rfl) rfl (by omega) (by omega) ?_ | refine n_ibin rfl (by first | (simp only [nf, Nat.beq] <;> rfl) | rfl) (by first | (simp only [nf, Nat.beq] <;> rfl) | rfl) rfl ?_
      first | refine n_iadd rfl (by first | (simp only [nf, Nat.beq] <;> rfl) | rfl) (by first | (simp only [nf, Nat.beq] <;> rfl) | rfl) rfl (by omega) (by omega) ?_ | refine n_ibin rfl (by first | (simp only [nf, Nat.beq] <;> rfl) | rfl) (by first | (simp only [nf, Nat.beq] <;> rfl) | rfl) rfl ?_
      first | refine n_iadd rfl (by first | (simp only [nf, Nat.beq] <;> rfl) | rfl) (by first | (simp only [nf, Nat.beq] <;> rfl) | rfl) rfl (by omega) (by omega) ?_ | refine n_ibin rfl (by first | (simp only [nf, Nat.beq] <;> rfl) | rfl) (by first | (simp only [nf, Nat.beq] <;> rfl) | rfl) rfl ?_
      refine n_move rfl (by first | (simp only [nf, Nat.beq] <;> rfl) | rfl) ?_
      refine AOps.nil ?_
      refine AWP.block ?_
      refine AWP.loopX 3 (α := Nat × Nat × Nat) (fun p => p.1 ≤ ks.length + 2 * (valid es).length + 2 ∧ p.2.1 ≤ p.2.2 ∧ p.2.2 ≤ (valid es).length ∧ InTime ks.length (valid es).length p.1 p.2.1 p.2.2) (fun p => put (put (put (put (put (put empty 1 (.sl none (ks.map fun b => [vb b]) .ro)) 5 (.sl none ((valid es).map ez) (.own 0))) 8 (.bp 1 0)) 9 (.sl none (((valid es).take p.2.1).map ez) (.own 2))) 44 (vi ((ks.length + 2 * (valid es).length + 2 : Nat) : Int))) 45 (vi (p.1 : Int))) (fun p => [.row (valid es).length 4, .box [vi ((valid es).length : Int), vi ((valid es).length : Int), vi ((p.2.1 : Nat) : Int), vi ((p.2.2 : Nat) : Int)], .row (p.2.1) 4]) (fun p => ks.length + 2 * (valid es).length + 2 - p.1) (0, 0, 0) ?_ ?_ ?_ ?_ ?_ ?_ ?_
      · exact ⟨Nat.zero_le _, Nat.le_refl _, Nat.zero_le _, .inl (Nat.zero_le _)⟩
      · (repeat (first | exact FLe.empty _ | refine FLe.put ?_ ?_)) <;> first | (simp only [nf, Nat.beq]; done) | rfl | ((try simp only [nf, Nat.beq]); first | rfl | (simp only [List.length_map]; done) | (congr 2; omega; done))
      · rfl
      · exact fun _ => rfl
      · intro p hp; (try dsimp only); (repeat' (refine un_put ?_ ?_)) <;> first | exact un_empty | exact .bp (by decide) | exact .lf (D.flat_lf rfl) | exact .lf (lf_ints (.inl rfl)) | exact .lf (lf_map (fun _ => rfl) (.inl rfl)) | exact .sl (fun x hx d hd => by obtain ⟨p, _, rfl⟩ := List.mem_map.1 hx; exact .lf (flats_lf (by rfl) d hd)) (fun l e => by cases e; decide)
      · intro p hp; (try dsimp only); repeat' (first | exact un_nil | refine un_cons ?_ ?_ | exact un_box rfl | exact trivial)
      · rintro ⟨i, g, n⟩ ⟨hi, hgn, hnL, hT⟩
        dsimp only at hi hgn hnL hT ⊢
        have hnx := Mi.l_next (st4 (valid es).length g n)
        rw [st4_next hgn hnL hL] at hnx
        dsimp only at hnx
        have hml := mny_le hnL
        refine AWP.seq ?_
        refine AWP.region ?_
        refine n_ibin rfl (by first | (simp only [nf, Nat.beq] <;> rfl) | rfl) (by first | (simp only [nf, Nat.beq] <;> rfl) | rfl) rfl ?_
        refine AOps.nil ?_
        refine AWP.seq ?_
        refine AWP.cond (by first | (simp only [nf, Nat.beq] <;> rfl) | rfl) (fun hc4 => ?_) (fun hc4 => ?_)
        · try simp only [nh] at hc4
          refine AWP.skip ?_
          refine AWP.seq ?_
          refine AWP.block ?_
          refine AWP.seq ?_
          refine AWP.region ?_
          refine n_move rfl (by first | (simp only [nf, Nat.beq] <;> rfl) | rfl) ?_
          refine n_assign rfl (by first | (simp only [nf, Nat.beq] <;> rfl) | rfl) ?_
          refine AOps.nil ?_
          refine AWP.seq ?_
          refine AWP.region ?_
          refine n_load rfl ti59 (by first | (simp only [nf, Nat.beq] <;> rfl) | rfl) (by first | (simp only [nf, Nat.beq] <;> rfl) | rfl) rfl (by first | (simp only [nf, Nat.beq] <;> rfl) | rfl) ?_
          refine n_call0B rfl cf57 rfl (Eq.trans (by simp only [nl] <;> rfl) (by first | (simp only [nf, Nat.beq] <;> rfl) | rfl)) (by repeat (first | exact .nil | refine .cons ?_ ?_ | exact ren_ints | exact .lf (.val _) | exact .lf (lf_ints (.inl rfl)) | exact .bp ⟨rfl, rfl⟩ | exact .bp (.inl ⟨rfl, rfl⟩) | exact .bp (.inr ⟨rfl, rfl⟩) | exact .lf (D.flat_lf rfl) | exact ren_map (f := ez) (fun _ => rfl) | exact ren_bun _ _ | exact ren_flat rfl (by rw [hlg]))) (hnx) (by first | exact .val _ | exact lf_ints (.inl rfl) | exact lf_ints (.inr rfl) | exact .any | exact D.flat_lf rfl | exact .tup (lf_cons (lf_map (f := ez) (fun _ => rfl) (.inl rfl)) (lf_cons (.val _) lf_nil)) | exact .tup (lf_cons (.val _) (lf_cons (.val _) (lf_cons (D.flat_lf rfl) lf_nil)))) ?_
          refine n_move rfl (by first | (simp only [nf, Nat.beq] <;> rfl) | rfl) ?_
          refine n_extract rfl (by first | (simp only [nf, Nat.beq] <;> rfl) | rfl) rfl ?_
          refine n_extract rfl (by first | (simp only [nf, Nat.beq] <;> rfl) | rfl) rfl ?_
          refine n_extract rfl (by first | (simp only [nf, Nat.beq] <;> rfl) | rfl) rfl ?_
          refine n_alloc rfl zi59 rfl (by first | (simp only [nf, Nat.beq] <;> rfl) | rfl) (by first | (simp only [nf, Nat.beq] <;> rfl) | rfl) ?_
          refine n_assign rfl (by first | (simp only [nf, Nat.beq] <;> rfl) | rfl) ?_
          refine n_assign rfl (by first | (simp only [nf, Nat.beq] <;> rfl) | rfl) ?_
          refine n_store ti59 (by first | (simp only [nf, Nat.beq] <;> rfl) | rfl) rfl (by first | (simp only [nf, Nat.beq] <;> rfl) | rfl) rfl (by first | (simp only [nf, Nat.beq] <;> rfl) | rfl) rfl rfl rfl (by first | (simp only [nf, Nat.beq] <;> rfl) | rfl) ?_
          refine AOps.nil ?_
          refine AWP.seq ?_
          refine AWP.region ?_
          refine n_load rfl ti59 (by first | (simp only [nf, Nat.beq] <;> rfl) | rfl) (by first | (simp only [nf, Nat.beq] <;> rfl) | rfl) rfl (by first | (simp only [nf, Nat.beq] <;> rfl) | rfl) ?_
          refine n_store ti59 (by first | (simp only [nf, Nat.beq] <;> rfl) | rfl) rfl (by first | (simp only [nf, Nat.beq] <;> rfl) | rfl) rfl (by first | (simp only [nf, Nat.beq] <;> rfl) | rfl) rfl rfl rfl (by first | (simp only [nf, Nat.beq] <;> rfl) | rfl) ?_
          refine AOps.nil ?_
          refine AWP.seq ?_
          refine AWP.seq ?_
          refine AWP.region ?_
          refine n_move rfl (by first | (simp only [nf, Nat.beq] <;> rfl) | rfl) ?_
          refine n_ibin rfl (by first | (simp only [nf, Nat.beq] <;> rfl) | rfl) (by first | (simp only [nf, Nat.beq] <;> rfl) | rfl) rfl ?_
          refine AOps.nil ?_
          refine AWP.cond (by first | (simp only [nf, Nat.beq] <;> rfl) | rfl) (fun hc5 => ?_) (fun hc5 => ?_)
          · try simp only [nh] at hc5
            have hz : mny (valid es).length n = 0 := by omega
            have hnl := mny_zero hnL hz
            have hbk := Mi.l_back (st4 (valid es).length g (n + mny (valid es).length n))
            rw [st4_back (by omega) hml hL] at hbk
            obtain ⟨g2, hg2⟩ : ∃ g2, g2 = g := ⟨_, rfl⟩
            obtain ⟨n2, hn2⟩ : ∃ n2, n2 = g := ⟨_, rfl⟩
            have hA : g2 ≤ n2 ∧ n2 ≤ (valid es).length ∧ InTime ks.length (valid es).length (i + 1) g2 n2 := by subst hg2 hn2; refine ⟨Nat.le_refl _, by omega, ?_⟩; by_cases hik : i < ks.length; exact inTime_lost hik; exact inTime_step hgn hnL hT (by rw [hnl]; exact phi_back (by omega))
            subst hg2 hn2
            refine AWP.seq ?_
            refine AWP.region ?_
            refine n_load rfl ti59 (by first | (simp only [nf, Nat.beq] <;> rfl) | rfl) (by first | (simp only [nf, Nat.beq] <;> rfl) | rfl) rfl (by first | (simp only [nf, Nat.beq] <;> rfl) | rfl) ?_
            refine n_call0B rfl cf58 rfl (Eq.trans (by simp only [nl] <;> rfl) (by first | (simp only [nf, Nat.beq] <;> rfl) | rfl)) (by repeat (first | exact .nil | refine .cons ?_ ?_ | exact ren_ints | exact .lf (.val _) | exact .lf (lf_ints (.inl rfl)) | exact .bp ⟨rfl, rfl⟩ | exact .bp (.inl ⟨rfl, rfl⟩) | exact .bp (.inr ⟨rfl, rfl⟩) | exact .lf (D.flat_lf rfl) | exact ren_map (f := ez) (fun _ => rfl) | exact ren_bun _ _ | exact ren_flat rfl (by rw [hlg]))) (hbk) (by first | exact .val _ | exact lf_ints (.inl rfl) | exact lf_ints (.inr rfl) | exact .any | exact D.flat_lf rfl | exact .tup (lf_cons (lf_map (f := ez) (fun _ => rfl) (.inl rfl)) (lf_cons (.val _) lf_nil)) | exact .tup (lf_cons (.val _) (lf_cons (.val _) (lf_cons (D.flat_lf rfl) lf_nil)))) ?_
            refine n_store ti59 (by first | (simp only [nf, Nat.beq] <;> rfl) | rfl) rfl (by first | (simp only [nf, Nat.beq] <;> rfl) | rfl) rfl (by first | (simp only [nf, Nat.beq] <;> rfl) | rfl) rfl rfl rfl (by first | (simp only [nf, Nat.beq] <;> rfl) | rfl) ?_
            refine AOps.nil ?_
            refine AWP.exit ?_
            refine AWP.region ?_
            first | refine n_iadd rfl (by first | (simp only [nf, Nat.beq] <;> rfl) | rfl) (by first | (simp only [nf, Nat.beq] <;> rfl) | rfl) rfl (by omega) (by omega) ?_ | refine n_ibin rfl (by first | (simp only [nf, Nat.beq] <;> rfl) | rfl) (by first | (simp only [nf, Nat.beq] <;> rfl) | rfl) rfl ?_
            refine n_move rfl (by first | (simp only [nf, Nat.beq] <;> rfl) | rfl) ?_
            refine AOps.nil ?_
            refine ⟨(i + 1, _, _), _, ⟨by dsimp only; omega, hA⟩, ?_, rfl, by dsimp only; omega⟩
            (repeat (first | exact FLe.empty _ | refine FLe.put ?_ ?_)) <;> first | (simp only [nf, Nat.beq]; done) | rfl | ((try simp only [nf, Nat.beq]); first | rfl | (congr 2; omega; done))
          · try simp only [nh] at hc5
            have hmp : 1 ≤ mny (valid es).length n := by omega
            have hnl : n < (valid es).length := by omega
            have hlg : ((valid es).take g).length = g := by rw [List.length_take]; omega
            have hpl0 := part_len' (V := valid es) (n := n) (by omega)
            have hac := Mi.l_accept g 0 n (((valid es).take (n + mny (valid es).length n)).drop n) (by rw [hpl0]; omega)
            obtain ⟨r, hr⟩ : ∃ r, r = accept g 0 n (((valid es).take (n + mny (valid es).length n)).drop n) := ⟨_, rfl⟩
            rw [← hr] at hac
            have hacc := acc_part valid_ok (by omega) hnl hL hgn hr
            refine AWP.skip ?_
            refine AWP.seq ?_
            refine AWP.seq ?_
            refine AWP.region ?_
            refine n_move rfl (by first | (simp only [nf, Nat.beq] <;> rfl) | rfl) ?_
            refine n_ibin rfl (by first | (simp only [nf, Nat.beq] <;> rfl) | rfl) (by first | (simp only [nf, Nat.beq] <;> rfl) | rfl) rfl ?_
            refine n_move rfl (by first | (simp only [nf, Nat.beq] <;> rfl) | rfl) ?_
            refine AOps.name (u := 61) (fun z => .val (.bool z)) (by first | (simp only [nf, Nat.beq] <;> rfl) | rfl) (fun b61 hb61 => ?_)
            refine n_soft (u := 61) (E := .val (.bool b61)) (!b61) rfl rfl rfl (by first | (simp only [nf, Nat.beq] <;> rfl) | rfl) (by cases b61 <;> first | (intro _; rfl) | (intro h; exact absurd h (by decide))) (by cases b61 <;> first | (intro h; exact absurd h (by decide)) | (intro _; exact ⟨_, rfl, by first | (intro h; cases h; done) | decide | simp⟩)) (fun h => by
                cases b61 with
                | true => exact absurd h (by first | decide | simp)
                | false =>
                  refine n_move rfl (by first | (simp only [nf, Nat.beq] <;> rfl) | rfl) ?_
                  exact AOps.nil ⟨rfl, rfl, rfl⟩) ?_
            refine n_soft (u := 61) (E := .val (.bool b61)) (!b61) rfl rfl rfl (by first | (simp only [nf, Nat.beq] <;> rfl) | rfl) (by cases b61 <;> first | (intro _; rfl) | (intro h; exact absurd h (by decide))) (by cases b61 <;> first | (intro h; exact absurd h (by decide)) | (intro _; exact ⟨_, rfl, by first | (intro h; cases h; done) | decide | simp⟩)) (fun h => by
                cases b61 with
                | true => exact absurd h (by first | decide | simp)
                | false =>
                  refine n_ibin rfl (by first | (simp only [nf, Nat.beq] <;> rfl) | rfl) (by first | (simp only [nf, Nat.beq] <;> rfl) | rfl) rfl ?_
                  exact AOps.nil ⟨rfl, rfl, rfl⟩) ?_
            refine n_pick_or rfl (by first | (simp only [nf, Nat.beq] <;> rfl) | rfl) (fun h => by cases b61 with | true => exact absurd h (by decide) | false => exact (by first | (simp only [nf, Nat.beq] <;> rfl) | rfl)) ?_
            refine n_move rfl (by first | (simp only [nf, Nat.beq] <;> rfl) | rfl) ?_
            refine AOps.name (u := 65) (fun z => .val (.bool z)) (by first | (simp only [nf, Nat.beq] <;> rfl) | rfl) (fun b65 hb65 => ?_)
            refine n_soft (u := 65) (E := .val (.bool b65)) (!b65) rfl rfl rfl (by first | (simp only [nf, Nat.beq] <;> rfl) | rfl) (by cases b65 <;> first | (intro _; rfl) | (intro h; exact absurd h (by decide))) (by cases b65 <;> first | (intro h; exact absurd h (by decide)) | (intro _; exact ⟨_, rfl, by first | (intro h; cases h; done) | decide | simp⟩)) (fun h => by
                cases b65 with
                | true => exact absurd h (by first | decide | simp)
                | false =>
                  refine n_move rfl (by first | (simp only [nf, Nat.beq] <;> rfl) | rfl) ?_
                  exact AOps.nil ⟨rfl, rfl, rfl⟩) ?_
            refine n_soft (u := 65) (E := .val (.bool b65)) (!b65) rfl rfl rfl (by first | (simp only [nf, Nat.beq] <;> rfl) | rfl) (by cases b65 <;> first | (intro _; rfl) | (intro h; exact absurd h (by decide))) (by cases b65 <;> first | (intro h; exact absurd h (by decide)) | (intro _; exact ⟨_, rfl, by first | (intro h; cases h; done) | decide | simp⟩)) (fun h => by
                cases b65 with
                | true => exact absurd h (by first | decide | simp)
                | false =>
                  refine n_move rfl (by first | (simp only [nf, Nat.beq] <;> rfl) | rfl) ?_
                  exact AOps.nil ⟨rfl, rfl, rfl⟩) ?_
            refine n_soft (u := 65) (E := .val (.bool b65)) (!b65) rfl rfl rfl (by first | (simp only [nf, Nat.beq] <;> rfl) | rfl) (by cases b65 <;> first | (intro _; rfl) | (intro h; exact absurd h (by decide))) (by cases b65 <;> first | (intro h; exact absurd h (by decide)) | (intro _; exact ⟨_, rfl, by first | (intro h; cases h; done) | decide | simp⟩)) (fun h => by
                cases b65 with
                | true => exact absurd h (by first | decide | simp)
                | false =>
                  first | refine n_iadd rfl (by first | (simp only [nf, Nat.beq] <;> rfl) | rfl) (by first | (simp only [nf, Nat.beq] <;> rfl) | rfl) rfl (by omega) (by omega) ?_ | refine n_ibin rfl (by first | (simp only [nf, Nat.beq] <;> rfl) | rfl) (by first | (simp only [nf, Nat.beq] <;> rfl) | rfl) rfl ?_
                  exact AOps.nil ⟨rfl, rfl, rfl⟩) ?_
            refine n_soft (u := 65) (E := .val (.bool b65)) (!b65) rfl rfl rfl (by first | (simp only [nf, Nat.beq] <;> rfl) | rfl) (by cases b65 <;> first | (intro _; rfl) | (intro h; exact absurd h (by decide))) (by cases b65 <;> first | (intro h; exact absurd h (by decide)) | (intro _; exact ⟨_, rfl, by first | (intro h; cases h; done) | decide | simp⟩)) (fun h => by
                cases b65 with
                | true => exact absurd h (by first | decide | simp)
                | false =>
                  refine n_move rfl (by first | (simp only [nf, Nat.beq] <;> rfl) | rfl) ?_
                  exact AOps.nil ⟨rfl, rfl, rfl⟩) ?_
            refine n_soft (u := 65) (E := .val (.bool b65)) (!b65) rfl rfl rfl (by first | (simp only [nf, Nat.beq] <;> rfl) | rfl) (by cases b65 <;> first | (intro _; rfl) | (intro h; exact absurd h (by decide))) (by cases b65 <;> first | (intro h; exact absurd h (by decide)) | (intro _; exact ⟨_, rfl, by first | (intro h; cases h; done) | decide | simp⟩)) (fun h => by
                cases b65 with
                | true => exact absurd h (by first | decide | simp)
                | false =>
                  refine n_len rfl Try.underlying53 (by first | (simp only [nf, Nat.beq] <;> rfl) | rfl) (by first | rw [ints_length] | rw [List.length_map] | rfl) ?_
                  exact AOps.nil ⟨rfl, rfl, rfl⟩) ?_
            refine n_soft (u := 65) (E := .val (.bool b65)) (!b65) rfl rfl rfl (by first | (simp only [nf, Nat.beq] <;> rfl) | rfl) (by cases b65 <;> first | (intro _; rfl) | (intro h; exact absurd h (by decide))) (by cases b65 <;> first | (intro h; exact absurd h (by decide)) | (intro _; exact ⟨_, rfl, by first | (intro h; cases h; done) | decide | simp⟩)) (fun h => by
                cases b65 with
                | true => exact absurd h (by first | decide | simp)
                | false =>
                  refine n_ibin rfl (by first | (simp only [nf, Nat.beq] <;> rfl) | rfl) (by first | (simp only [nf, Nat.beq] <;> rfl) | rfl) rfl ?_
                  exact AOps.nil ⟨rfl, rfl, rfl⟩) ?_
            refine n_pick_or rfl (by first | (simp only [nf, Nat.beq] <;> rfl) | rfl) (fun h => by cases b65 with | true => exact absurd h (by decide) | false => exact (by first | (simp only [nf, Nat.beq] <;> rfl) | rfl)) ?_
            subst hb61
            subst hb65
            refine AOps.nil ?_
            refine AWP.cond (by first | (simp only [nf, Nat.beq] <;> rfl) | rfl) (fun hc6 => ?_) (fun hc6 => ?_)
            · try simp only [nh] at hc6
              exfalso
              simp at hc6
              omega
            · try simp only [nh] at hc6
              refine AWP.skip ?_
              refine AWP.seq ?_
              refine AWP.seq ?_
              refine AWP.region ?_
              refine n_move rfl (by first | (simp only [nf, Nat.beq] <;> rfl) | rfl) ?_
              refine n_move rfl (by first | (simp only [nf, Nat.beq] <;> rfl) | rfl) ?_
              refine n_len rfl Try.underlying54 (by first | (simp only [nf, Nat.beq] <;> rfl) | rfl) (by first | rw [ints_length] | rw [List.length_map] | rfl) ?_
              refine n_ibin rfl (by first | (simp only [nf, Nat.beq] <;> rfl) | rfl) (by first | (simp only [nf, Nat.beq] <;> rfl) | rfl) rfl ?_
              refine n_move rfl (by first | (simp only [nf, Nat.beq] <;> rfl) | rfl) ?_
              refine AOps.split (u := 77) (by first | (simp only [nf, Nat.beq] <;> rfl) | rfl) (fun hg7 => ?_) (fun hg7 => ?_)
              · try simp only [nh] at hg7
                obtain ⟨b, hbk⟩ : ∃ b, ks[i]? = some b := ⟨_, List.getElem?_eq_getElem (by omega)⟩
                refine n_guard_yes rfl rfl rfl (by first | (simp only [nf, Nat.beq] <;> rfl) | rfl) rfl ?_
                refine n_move rfl (by first | (simp only [nf, Nat.beq] <;> rfl) | rfl) ?_
                refine n_guard_yes rfl rfl rfl (by first | (simp only [nf, Nat.beq] <;> rfl) | rfl) rfl ?_
                refine n_move rfl (by first | (simp only [nf, Nat.beq] <;> rfl) | rfl) ?_
                refine n_guard_yes rfl rfl rfl (by first | (simp only [nf, Nat.beq] <;> rfl) | rfl) rfl ?_
                refine n_indexAddr rfl Try.underlying54 ti4 rfl (by first | (simp only [nf, Nat.beq] <;> rfl) | rfl) (by first | (simp only [nf, Nat.beq] <;> rfl) | rfl) (by omega) (by first | exact ints_at _ _ _ (by omega) | exact ints_get _ _ _ (by omega) | exact map_at _ (by assumption) | rfl) rfl ?_
                refine n_guard_yes rfl rfl rfl (by first | (simp only [nf, Nat.beq] <;> rfl) | rfl) rfl ?_
                refine n_load rfl ti4 (by first | (simp only [nf, Nat.beq] <;> rfl) | rfl) (by first | (simp only [nf, Nat.beq] <;> rfl) | rfl) rfl (by first | (simp only [nf, Nat.beq] <;> rfl) | rfl) ?_
                refine n_pick rfl (by first | (simp only [nf, Nat.beq] <;> rfl) | rfl) (by first | (simp only [nf, Nat.beq] <;> rfl) | rfl) ?_
                refine AOps.nil ?_
                refine AWP.cond (by first | (simp only [nf, Nat.beq] <;> rfl) | rfl) (fun hc8 => ?_) (fun hc8 => ?_)
                · try simp only [nh] at hc8
                  obtain ⟨g2, hg2⟩ : ∃ g2, g2 = g := ⟨_, rfl⟩
                  obtain ⟨n2, hn2⟩ : ∃ n2, n2 = n + mny (valid es).length n := ⟨_, rfl⟩
                  have hA : g2 ≤ n2 ∧ n2 ≤ (valid es).length ∧ InTime ks.length (valid es).length (i + 1) g2 n2 := ⟨by omega, by omega, inTime_lost (by omega)⟩
                  subst hg2 hn2
                  refine AWP.exit ?_
                  refine AWP.region ?_
                  first | refine n_iadd rfl (by first | (simp only [nf, Nat.beq] <;> rfl) | rfl) (by first | (simp only [nf, Nat.beq] <;> rfl) | rfl) rfl (by omega) (by omega) ?_ | refine n_ibin rfl (by first | (simp only [nf, Nat.beq] <;> rfl) | rfl) (by first | (simp only [nf, Nat.beq] <;> rfl) | rfl) rfl ?_
                  refine n_move rfl (by first | (simp only [nf, Nat.beq] <;> rfl) | rfl) ?_
                  refine AOps.nil ?_
                  refine ⟨(i + 1, _, _), _, ⟨by dsimp only; omega, hA⟩, ?_, rfl, by dsimp only; omega⟩
                  (repeat (first | exact FLe.empty _ | refine FLe.put ?_ ?_)) <;> first | (simp only [nf, Nat.beq]; done) | rfl | ((try simp only [nf, Nat.beq]); first | rfl | (congr 2; omega; done))
                · try simp only [nh] at hc8
                  refine AWP.skip ?_
                  refine AWP.seq ?_
                  refine AWP.seq ?_
                  refine AWP.region ?_
                  refine n_move rfl (by first | (simp only [nf, Nat.beq] <;> rfl) | rfl) ?_
                  refine n_len rfl Try.underlying53 (by first | (simp only [nf, Nat.beq] <;> rfl) | rfl) (by first | rw [ints_length] | rw [List.length_map] | rfl) ?_
                  refine n_move rfl (by first | (simp only [nf, Nat.beq] <;> rfl) | rfl) ?_
                  refine n_move rfl (by first | (simp only [nf, Nat.beq] <;> rfl) | rfl) ?_
                  refine n_move rfl (by first | (simp only [nf, Nat.beq] <;> rfl) | rfl) ?_
                  refine n_move rfl (by first | (simp only [nf, Nat.beq] <;> rfl) | rfl) ?_
                  refine n_move rfl (by first | (simp only [nf, Nat.beq] <;> rfl) | rfl) ?_
                  first | refine n_iadd rfl (by first | (simp only [nf, Nat.beq] <;> rfl) | rfl) (by first | (simp only [nf, Nat.beq] <;> rfl) | rfl) rfl (by omega) (by omega) ?_ | refine n_ibin rfl (by first | (simp only [nf, Nat.beq] <;> rfl) | rfl) (by first | (simp only [nf, Nat.beq] <;> rfl) | rfl) rfl ?_
                  refine n_slice (h := n + mny (valid es).length n) (k := n) (ys := (((valid es).take (n + mny (valid es).length n)).drop n).map ez) rfl Try.underlying53 ti56 (by first | (simp only [nf, Nat.beq] <;> rfl) | rfl) (SB.some (by first | (simp only [nf, Nat.beq] <;> rfl) | rfl) (by omega)) (SB.some (by first | (simp only [nf, Nat.beq] <;> rfl) | rfl) (by omega)) (by omega) (by rw [List.length_map]; omega) (by exact map_one (f := ez) (fun _ => rfl)) (by rw [← List.map_take, ← List.map_drop]) ?_
                  refine n_build rfl si67 (Eq.trans (by simp only [nl] <;> rfl) (by first | (simp only [nf, Nat.beq] <;> rfl) | rfl)) (Eq.trans (by simp only [nl] <;> rfl) (by first | (simp only [nf, Nat.beq] <;> rfl) | rfl)) rfl ?_
                  refine n_call0B rfl cf59 rfl (Eq.trans (by simp only [nl] <;> rfl) (by first | (simp only [nf, Nat.beq] <;> rfl) | rfl)) (by repeat (first | exact .nil | refine .cons ?_ ?_ | exact ren_ints | exact .lf (.val _) | exact .lf (lf_ints (.inl rfl)) | exact .bp ⟨rfl, rfl⟩ | exact .bp (.inl ⟨rfl, rfl⟩) | exact .bp (.inr ⟨rfl, rfl⟩) | exact .lf (D.flat_lf rfl) | exact ren_map (f := ez) (fun _ => rfl) | exact ren_bun _ _ | exact ren_flat rfl (by rw [hlg]))) (hac) (by first | exact .val _ | exact lf_ints (.inl rfl) | exact lf_ints (.inr rfl) | exact .any | exact D.flat_lf rfl | exact .tup (lf_cons (lf_map (f := ez) (fun _ => rfl) (.inl rfl)) (lf_cons (.val _) lf_nil)) | exact .tup (lf_cons (.val _) (lf_cons (.val _) (lf_cons (D.flat_lf rfl) lf_nil)))) ?_
                  refine n_move rfl (by first | (simp only [nf, Nat.beq] <;> rfl) | rfl) ?_
                  refine n_extract rfl (by first | (simp only [nf, Nat.beq] <;> rfl) | rfl) rfl ?_
                  refine n_extract rfl (by first | (simp only [nf, Nat.beq] <;> rfl) | rfl) rfl ?_
                  refine n_assign rfl (by first | (simp only [nf, Nat.beq] <;> rfl) | rfl) ?_
                  refine n_assign rfl (by first | (simp only [nf, Nat.beq] <;> rfl) | rfl) ?_
                  refine AOps.nil ?_
                  refine AWP.seq ?_
                  refine AWP.region ?_
                  refine n_move rfl (by first | (simp only [nf, Nat.beq] <;> rfl) | rfl) ?_
                  refine n_ibin rfl (by first | (simp only [nf, Nat.beq] <;> rfl) | rfl) (by first | (simp only [nf, Nat.beq] <;> rfl) | rfl) rfl ?_
                  refine AOps.nil ?_
                  refine AWP.cond (by first | (simp only [nf, Nat.beq] <;> rfl) | rfl) (fun hc9 => ?_) (fun hc9 => ?_)
                  · try simp only [nh] at hc9
                    obtain ⟨hng, hr1⟩ := hacc.1 hc9
                    subst hng
                    rw [hr1]
                    have hpl := part_len' (V := valid es) (n := n) (by omega)
                    have hak := Mi.l_acked (st4 (valid es).length n (n + mny (valid es).length n)) ((n + mny (valid es).length n : Nat) : Int)
                    rw [st4_acked (by omega) hml hL (by omega) (Nat.le_refl _)] at hak
                    have hck := Mi.l_chk (st4 (valid es).length (n + mny (valid es).length n) (n + mny (valid es).length n))
                    rw [st4_chk (Nat.le_refl _) hml hL] at hck
                    have hlg : ((valid es).take (n + mny (valid es).length n)).length = n + mny (valid es).length n := by rw [List.length_take]; omega
                    obtain ⟨g2, hg2⟩ : ∃ g2, g2 = n + mny (valid es).length n := ⟨_, rfl⟩
                    obtain ⟨n2, hn2⟩ : ∃ n2, n2 = n + mny (valid es).length n := ⟨_, rfl⟩
                    have hA : g2 ≤ n2 ∧ n2 ≤ (valid es).length ∧ InTime ks.length (valid es).length (i + 1) g2 n2 := ⟨by omega, by omega, by subst hg2 hn2; exact inTime_step hgn hnL hT (phi_take hml hmp)⟩
                    subst hg2 hn2
                    refine AWP.region ?_
                    refine n_move rfl (by first | (simp only [nf, Nat.beq] <;> rfl) | rfl) ?_
                    refine n_move rfl (by first | (simp only [nf, Nat.beq] <;> rfl) | rfl) ?_
                    refine n_append_own (zs := ((valid es).take (n + mny (valid es).length n)).map ez) (m := n + mny (valid es).length n) rfl Try.underlying53 Try.underlying53 ei56 (by first | (simp only [nf, Nat.beq] <;> rfl) | rfl) (by first | (simp only [nf, Nat.beq] <;> rfl) | rfl) (by rw [List.length_map, List.length_take]; omega) (by first | (simp only [nf, Nat.beq] <;> rfl) | rfl) (by exact map_one (f := ez) (fun _ => rfl)) (by exact map_one (f := ez) (fun _ => rfl)) (by rw [← List.map_append, take_mny hnL]) (by rw [List.length_map, List.length_map, hpl, List.length_take]; omega) (by omega) (by first | (simp only [nf, Nat.beq] <;> rfl) | rfl) ?_
                    refine n_assign rfl (by first | (simp only [nf, Nat.beq] <;> rfl) | rfl) ?_
                    refine AOps.nil ?_
                    refine AWP.seq ?_
                    refine AWP.region ?_
                    refine n_load rfl ti59 (by first | (simp only [nf, Nat.beq] <;> rfl) | rfl) (by first | (simp only [nf, Nat.beq] <;> rfl) | rfl) rfl (by first | (simp only [nf, Nat.beq] <;> rfl) | rfl) ?_
                    refine n_move rfl (by first | (simp only [nf, Nat.beq] <;> rfl) | rfl) ?_
                    refine n_len rfl Try.underlying53 (by first | (simp only [nf, Nat.beq] <;> rfl) | rfl) (by first | rw [ints_length] | rw [List.length_map] | rfl) ?_
                    refine n_call0B rfl cf60 rfl (Eq.trans (by simp only [nl] <;> rfl) (by first | (simp only [nf, Nat.beq] <;> rfl) | rfl)) (by repeat (first | exact .nil | refine .cons ?_ ?_ | exact ren_ints | exact .lf (.val _) | exact .lf (lf_ints (.inl rfl)) | exact .bp ⟨rfl, rfl⟩ | exact .bp (.inl ⟨rfl, rfl⟩) | exact .bp (.inr ⟨rfl, rfl⟩) | exact .lf (D.flat_lf rfl) | exact ren_map (f := ez) (fun _ => rfl) | exact ren_bun _ _ | exact ren_flat rfl (by rw [hlg]))) (hak) (by first | exact .val _ | exact lf_ints (.inl rfl) | exact lf_ints (.inr rfl) | exact .any | exact D.flat_lf rfl | exact .tup (lf_cons (lf_map (f := ez) (fun _ => rfl) (.inl rfl)) (lf_cons (.val _) lf_nil)) | exact .tup (lf_cons (.val _) (lf_cons (.val _) (lf_cons (D.flat_lf rfl) lf_nil)))) ?_
                    refine n_store ti59 (by first | (simp only [nf, Nat.beq] <;> rfl) | rfl) rfl (by first | (simp only [nf, Nat.beq] <;> rfl) | rfl) rfl (by first | (simp only [nf, Nat.beq] <;> rfl) | rfl) rfl rfl rfl (by first | (simp only [nf, Nat.beq] <;> rfl) | rfl) ?_
                    refine AOps.nil ?_
                    refine AWP.seq ?_
                    refine AWP.region ?_
                    refine n_fieldAddr rfl fd59_2 ti2 rfl (by first | (simp only [nf, Nat.beq] <;> rfl) | rfl) rfl (by first | (simp only [nf, Nat.beq] <;> rfl) | rfl) ?_
                    refine n_load rfl ti2 (by first | (simp only [nf, Nat.beq] <;> rfl) | rfl) (by first | (simp only [nf, Nat.beq] <;> rfl) | rfl) rfl (by first | (simp only [nf, Nat.beq] <;> rfl) | rfl) ?_
                    refine n_move rfl (by first | (simp only [nf, Nat.beq] <;> rfl) | rfl) ?_
                    refine n_len rfl Try.underlying53 (by first | (simp only [nf, Nat.beq] <;> rfl) | rfl) (by first | rw [ints_length] | rw [List.length_map] | rfl) ?_
                    refine n_ibin rfl (by first | (simp only [nf, Nat.beq] <;> rfl) | rfl) (by first | (simp only [nf, Nat.beq] <;> rfl) | rfl) rfl ?_
                    refine n_move rfl (by first | (simp only [nf, Nat.beq] <;> rfl) | rfl) ?_
                    refine AOps.name (u := 111) (fun z => .val (.bool z)) (by first | (simp only [nf, Nat.beq] <;> rfl) | rfl) (fun b111 hb111 => ?_)
                    refine n_soft (u := 111) (E := .val (.bool b111)) (!b111) rfl rfl rfl (by first | (simp only [nf, Nat.beq] <;> rfl) | rfl) (by cases b111 <;> first | (intro _; rfl) | (intro h; exact absurd h (by decide))) (by cases b111 <;> first | (intro h; exact absurd h (by decide)) | (intro _; exact ⟨_, rfl, by first | (intro h; cases h; done) | decide | simp⟩)) (fun h => by
                        cases b111 with
                        | true => exact absurd h (by first | decide | simp)
                        | false =>
                          refine n_load rfl ti59 (by first | (simp only [nf, Nat.beq] <;> rfl) | rfl) (by first | (simp only [nf, Nat.beq] <;> rfl) | rfl) rfl (by first | (simp only [nf, Nat.beq] <;> rfl) | rfl) ?_
                          exact AOps.nil ⟨rfl, rfl, rfl⟩) ?_
                    refine n_soft (u := 111) (E := .val (.bool b111)) (!b111) rfl rfl rfl (by first | (simp only [nf, Nat.beq] <;> rfl) | rfl) (by cases b111 <;> first | (intro _; rfl) | (intro h; exact absurd h (by decide))) (by cases b111 <;> first | (intro h; exact absurd h (by decide)) | (intro _; exact ⟨_, rfl, by first | (intro h; cases h; done) | decide | simp⟩)) (fun h => by
                        cases b111 with
                        | true => exact absurd h (by first | decide | simp)
                        | false =>
                          refine n_call0B rfl cf61 rfl (Eq.trans (by simp only [nl] <;> rfl) (by first | (simp only [nf, Nat.beq] <;> rfl) | rfl)) (by repeat (first | exact .nil | refine .cons ?_ ?_ | exact ren_ints | exact .lf (.val _) | exact .lf (lf_ints (.inl rfl)) | exact .bp ⟨rfl, rfl⟩ | exact .bp (.inl ⟨rfl, rfl⟩) | exact .bp (.inr ⟨rfl, rfl⟩) | exact .lf (D.flat_lf rfl) | exact ren_map (f := ez) (fun _ => rfl) | exact ren_bun _ _ | exact ren_flat rfl (by rw [hlg]))) (hck) (by first | exact .val _ | exact lf_ints (.inl rfl) | exact lf_ints (.inr rfl) | exact .any | exact D.flat_lf rfl | exact .tup (lf_cons (lf_map (f := ez) (fun _ => rfl) (.inl rfl)) (lf_cons (.val _) lf_nil)) | exact .tup (lf_cons (.val _) (lf_cons (.val _) (lf_cons (D.flat_lf rfl) lf_nil)))) ?_
                          exact AOps.nil ⟨rfl, rfl, rfl⟩) ?_
                    refine n_soft (u := 111) (E := .val (.bool b111)) (!b111) rfl rfl rfl (by first | (simp only [nf, Nat.beq] <;> rfl) | rfl) (by cases b111 <;> first | (intro _; rfl) | (intro h; exact absurd h (by decide))) (by cases b111 <;> first | (intro h; exact absurd h (by decide)) | (intro _; exact ⟨_, rfl, by first | (intro h; cases h; done) | decide | simp⟩)) (fun h => by
                        cases b111 with
                        | true => exact absurd h (by first | decide | simp)
                        | false =>
                          refine n_ibin rfl (by first | (simp only [nf, Nat.beq] <;> rfl) | rfl) (by first | (simp only [nf, Nat.beq] <;> rfl) | rfl) rfl ?_
                          exact AOps.nil ⟨rfl, rfl, rfl⟩) ?_
                    refine n_pick_or rfl (by first | (simp only [nf, Nat.beq] <;> rfl) | rfl) (fun h => by cases b111 with | true => exact absurd h (by decide) | false => exact (by first | (simp only [nf, Nat.beq] <;> rfl) | rfl)) ?_
                    subst hb111
                    refine AOps.nil ?_
                    refine AWP.cond (by first | (simp only [nf, Nat.beq] <;> rfl) | rfl) (fun hc10 => ?_) (fun hc10 => ?_)
                    · try simp only [nh] at hc10
                      exfalso
                      simp [hlg] at hc10
                      try omega
                    · try simp only [nh] at hc10
                      refine AWP.skip ?_
                      refine AWP.region ?_
                      first | refine n_iadd rfl (by first | (simp only [nf, Nat.beq] <;> rfl) | rfl) (by first | (simp only [nf, Nat.beq] <;> rfl) | rfl) rfl (by omega) (by omega) ?_ | refine n_ibin rfl (by first | (simp only [nf, Nat.beq] <;> rfl) | rfl) (by first | (simp only [nf, Nat.beq] <;> rfl) | rfl) rfl ?_
                      refine n_move rfl (by first | (simp only [nf, Nat.beq] <;> rfl) | rfl) ?_
                      refine AOps.nil ?_
                      refine ⟨(i + 1, _, _), _, ⟨by dsimp only; omega, hA⟩, ?_, rfl, by dsimp only; omega⟩
                      (repeat (first | exact FLe.empty _ | refine FLe.put ?_ ?_)) <;> first | (simp only [nf, Nat.beq]; done) | rfl | ((try simp only [nf, Nat.beq]); first | rfl | (congr 2; omega; done))
                  · try simp only [nh] at hc9
                    have hgl := hacc.2 hc9
                    have hak := Mi.l_acked (st4 (valid es).length g (n + mny (valid es).length n)) (g : Int)
                    rw [st4_acked (by omega) hml hL (Nat.le_refl _) (by omega)] at hak
                    have hck := Mi.l_chk (st4 (valid es).length g (n + mny (valid es).length n))
                    rw [st4_chk (by omega) hml hL] at hck
                    have hlg : ((valid es).take g).length = g := by rw [List.length_take]; omega
                    obtain ⟨g2, hg2⟩ : ∃ g2, g2 = g := ⟨_, rfl⟩
                    obtain ⟨n2, hn2⟩ : ∃ n2, n2 = n + mny (valid es).length n := ⟨_, rfl⟩
                    have hA : g2 ≤ n2 ∧ n2 ≤ (valid es).length ∧ InTime ks.length (valid es).length (i + 1) g2 n2 := ⟨by omega, by omega, by subst hg2 hn2; exact inTime_step hgn hnL hT (phi_skip hgl hml hmp)⟩
                    subst hg2 hn2
                    refine AWP.skip ?_
                    refine AWP.seq ?_
                    refine AWP.region ?_
                    refine n_load rfl ti59 (by first | (simp only [nf, Nat.beq] <;> rfl) | rfl) (by first | (simp only [nf, Nat.beq] <;> rfl) | rfl) rfl (by first | (simp only [nf, Nat.beq] <;> rfl) | rfl) ?_
                    refine n_move rfl (by first | (simp only [nf, Nat.beq] <;> rfl) | rfl) ?_
                    refine n_len rfl Try.underlying53 (by first | (simp only [nf, Nat.beq] <;> rfl) | rfl) (by first | rw [ints_length] | rw [List.length_map] | rfl) ?_
                    refine n_call0B rfl cf60 rfl (Eq.trans (by simp only [nl] <;> rfl) (by first | (simp only [nf, Nat.beq] <;> rfl) | rfl)) (by repeat (first | exact .nil | refine .cons ?_ ?_ | exact ren_ints | exact .lf (.val _) | exact .lf (lf_ints (.inl rfl)) | exact .bp ⟨rfl, rfl⟩ | exact .bp (.inl ⟨rfl, rfl⟩) | exact .bp (.inr ⟨rfl, rfl⟩) | exact .lf (D.flat_lf rfl) | exact ren_map (f := ez) (fun _ => rfl) | exact ren_bun _ _ | exact ren_flat rfl (by rw [hlg]))) (hak) (by first | exact .val _ | exact lf_ints (.inl rfl) | exact lf_ints (.inr rfl) | exact .any | exact D.flat_lf rfl | exact .tup (lf_cons (lf_map (f := ez) (fun _ => rfl) (.inl rfl)) (lf_cons (.val _) lf_nil)) | exact .tup (lf_cons (.val _) (lf_cons (.val _) (lf_cons (D.flat_lf rfl) lf_nil)))) ?_
                    refine n_store ti59 (by first | (simp only [nf, Nat.beq] <;> rfl) | rfl) rfl (by first | (simp only [nf, Nat.beq] <;> rfl) | rfl) rfl (by first | (simp only [nf, Nat.beq] <;> rfl) | rfl) rfl rfl rfl (by first | (simp only [nf, Nat.beq] <;> rfl) | rfl) ?_
                    refine AOps.nil ?_
                    refine AWP.seq ?_
                    refine AWP.region ?_
                    refine n_fieldAddr rfl fd59_2 ti2 rfl (by first | (simp only [nf, Nat.beq] <;> rfl) | rfl) rfl (by first | (simp only [nf, Nat.beq] <;> rfl) | rfl) ?_
                    refine n_load rfl ti2 (by first | (simp only [nf, Nat.beq] <;> rfl) | rfl) (by first | (simp only [nf, Nat.beq] <;> rfl) | rfl) rfl (by first | (simp only [nf, Nat.beq] <;> rfl) | rfl) ?_
                    refine n_move rfl (by first | (simp only [nf, Nat.beq] <;> rfl) | rfl) ?_
                    refine n_len rfl Try.underlying53 (by first | (simp only [nf, Nat.beq] <;> rfl) | rfl) (by first | rw [ints_length] | rw [List.length_map] | rfl) ?_
                    refine n_ibin rfl (by first | (simp only [nf, Nat.beq] <;> rfl) | rfl) (by first | (simp only [nf, Nat.beq] <;> rfl) | rfl) rfl ?_
                    refine n_move rfl (by first | (simp only [nf, Nat.beq] <;> rfl) | rfl) ?_
                    refine AOps.name (u := 111) (fun z => .val (.bool z)) (by first | (simp only [nf, Nat.beq] <;> rfl) | rfl) (fun b111 hb111 => ?_)
                    refine n_soft (u := 111) (E := .val (.bool b111)) (!b111) rfl rfl rfl (by first | (simp only [nf, Nat.beq] <;> rfl) | rfl) (by cases b111 <;> first | (intro _; rfl) | (intro h; exact absurd h (by decide))) (by cases b111 <;> first | (intro h; exact absurd h (by decide)) | (intro _; exact ⟨_, rfl, by first | (intro h; cases h; done) | decide | simp⟩)) (fun h => by
                        cases b111 with
                        | true => exact absurd h (by first | decide | simp)
                        | false =>
                          refine n_load rfl ti59 (by first | (simp only [nf, Nat.beq] <;> rfl) | rfl) (by first | (simp only [nf, Nat.beq] <;> rfl) | rfl) rfl (by first | (simp only [nf, Nat.beq] <;> rfl) | rfl) ?_
                          exact AOps.nil ⟨rfl, rfl, rfl⟩) ?_
                    refine n_soft (u := 111) (E := .val (.bool b111)) (!b111) rfl rfl rfl (by first | (simp only [nf, Nat.beq] <;> rfl) | rfl) (by cases b111 <;> first | (intro _; rfl) | (intro h; exact absurd h (by decide))) (by cases b111 <;> first | (intro h; exact absurd h (by decide)) | (intro _; exact ⟨_, rfl, by first | (intro h; cases h; done) | decide | simp⟩)) (fun h => by
                        cases b111 with
                        | true => exact absurd h (by first | decide | simp)
                        | false =>
                          refine n_call0B rfl cf61 rfl (Eq.trans (by simp only [nl] <;> rfl) (by first | (simp only [nf, Nat.beq] <;> rfl) | rfl)) (by repeat (first | exact .nil | refine .cons ?_ ?_ | exact ren_ints | exact .lf (.val _) | exact .lf (lf_ints (.inl rfl)) | exact .bp ⟨rfl, rfl⟩ | exact .bp (.inl ⟨rfl, rfl⟩) | exact .bp (.inr ⟨rfl, rfl⟩) | exact .lf (D.flat_lf rfl) | exact ren_map (f := ez) (fun _ => rfl) | exact ren_bun _ _ | exact ren_flat rfl (by rw [hlg]))) (hck) (by first | exact .val _ | exact lf_ints (.inl rfl) | exact lf_ints (.inr rfl) | exact .any | exact D.flat_lf rfl | exact .tup (lf_cons (lf_map (f := ez) (fun _ => rfl) (.inl rfl)) (lf_cons (.val _) lf_nil)) | exact .tup (lf_cons (.val _) (lf_cons (.val _) (lf_cons (D.flat_lf rfl) lf_nil)))) ?_
                          exact AOps.nil ⟨rfl, rfl, rfl⟩) ?_
                    refine n_soft (u := 111) (E := .val (.bool b111)) (!b111) rfl rfl rfl (by first | (simp only [nf, Nat.beq] <;> rfl) | rfl) (by cases b111 <;> first | (intro _; rfl) | (intro h; exact absurd h (by decide))) (by cases b111 <;> first | (intro h; exact absurd h (by decide)) | (intro _; exact ⟨_, rfl, by first | (intro h; cases h; done) | decide | simp⟩)) (fun h => by
                        cases b111 with
                        | true => exact absurd h (by first | decide | simp)
                        | false =>
                          refine n_ibin rfl (by first | (simp only [nf, Nat.beq] <;> rfl) | rfl) (by first | (simp only [nf, Nat.beq] <;> rfl) | rfl) rfl ?_
                          exact AOps.nil ⟨rfl, rfl, rfl⟩) ?_
                    refine n_pick_or rfl (by first | (simp only [nf, Nat.beq] <;> rfl) | rfl) (fun h => by cases b111 with | true => exact absurd h (by decide) | false => exact (by first | (simp only [nf, Nat.beq] <;> rfl) | rfl)) ?_
                    subst hb111
                    refine AOps.nil ?_
                    refine AWP.cond (by first | (simp only [nf, Nat.beq] <;> rfl) | rfl) (fun hc11 => ?_) (fun hc11 => ?_)
                    · try simp only [nh] at hc11
                      exfalso
                      simp [hlg] at hc11
                      try omega
                    · try simp only [nh] at hc11
                      refine AWP.skip ?_
                      refine AWP.region ?_
                      first | refine n_iadd rfl (by first | (simp only [nf, Nat.beq] <;> rfl) | rfl) (by first | (simp only [nf, Nat.beq] <;> rfl) | rfl) rfl (by omega) (by omega) ?_ | refine n_ibin rfl (by first | (simp only [nf, Nat.beq] <;> rfl) | rfl) (by first | (simp only [nf, Nat.beq] <;> rfl) | rfl) rfl ?_
                      refine n_move rfl (by first | (simp only [nf, Nat.beq] <;> rfl) | rfl) ?_
                      refine AOps.nil ?_
                      refine ⟨(i + 1, _, _), _, ⟨by dsimp only; omega, hA⟩, ?_, rfl, by dsimp only; omega⟩
                      (repeat (first | exact FLe.empty _ | refine FLe.put ?_ ?_)) <;> first | (simp only [nf, Nat.beq]; done) | rfl | ((try simp only [nf, Nat.beq]); first | rfl | (congr 2; omega; done))
              · try simp only [nh] at hg7
                refine n_guard_no rfl rfl rfl (by first | (simp only [nf, Nat.beq] <;> rfl) | rfl) rfl ?_
                refine n_guard_no rfl rfl rfl (by first | (simp only [nf, Nat.beq] <;> rfl) | rfl) rfl ?_
                refine n_guard_no rfl rfl rfl (by first | (simp only [nf, Nat.beq] <;> rfl) | rfl) rfl ?_
                refine n_guard_no rfl rfl rfl (by first | (simp only [nf, Nat.beq] <;> rfl) | rfl) rfl ?_
                refine n_pick rfl (by first | (simp only [nf, Nat.beq] <;> rfl) | rfl) (by first | (simp only [nf, Nat.beq] <;> rfl) | rfl) ?_
                refine AOps.nil ?_
                refine AWP.cond_false (by first | (simp only [nf, Nat.beq] <;> rfl) | rfl) ?_
                refine AWP.skip ?_
                refine AWP.seq ?_
                refine AWP.seq ?_
                refine AWP.region ?_
                refine n_move rfl (by first | (simp only [nf, Nat.beq] <;> rfl) | rfl) ?_
                refine n_len rfl Try.underlying53 (by first | (simp only [nf, Nat.beq] <;> rfl) | rfl) (by first | rw [ints_length] | rw [List.length_map] | rfl) ?_
                refine n_move rfl (by first | (simp only [nf, Nat.beq] <;> rfl) | rfl) ?_
                refine n_move rfl (by first | (simp only [nf, Nat.beq] <;> rfl) | rfl) ?_
                refine n_move rfl (by first | (simp only [nf, Nat.beq] <;> rfl) | rfl) ?_
                refine n_move rfl (by first | (simp only [nf, Nat.beq] <;> rfl) | rfl) ?_
                refine n_move rfl (by first | (simp only [nf, Nat.beq] <;> rfl) | rfl) ?_
                first | refine n_iadd rfl (by first | (simp only [nf, Nat.beq] <;> rfl) | rfl) (by first | (simp only [nf, Nat.beq] <;> rfl) | rfl) rfl (by omega) (by omega) ?_ | refine n_ibin rfl (by first | (simp only [nf, Nat.beq] <;> rfl) | rfl) (by first | (simp only [nf, Nat.beq] <;> rfl) | rfl) rfl ?_
                refine n_slice (h := n + mny (valid es).length n) (k := n) (ys := (((valid es).take (n + mny (valid es).length n)).drop n).map ez) rfl Try.underlying53 ti56 (by first | (simp only [nf, Nat.beq] <;> rfl) | rfl) (SB.some (by first | (simp only [nf, Nat.beq] <;> rfl) | rfl) (by omega)) (SB.some (by first | (simp only [nf, Nat.beq] <;> rfl) | rfl) (by omega)) (by omega) (by rw [List.length_map]; omega) (by exact map_one (f := ez) (fun _ => rfl)) (by rw [← List.map_take, ← List.map_drop]) ?_
                refine n_build rfl si67 (Eq.trans (by simp only [nl] <;> rfl) (by first | (simp only [nf, Nat.beq] <;> rfl) | rfl)) (Eq.trans (by simp only [nl] <;> rfl) (by first | (simp only [nf, Nat.beq] <;> rfl) | rfl)) rfl ?_
                refine n_call0B rfl cf59 rfl (Eq.trans (by simp only [nl] <;> rfl) (by first | (simp only [nf, Nat.beq] <;> rfl) | rfl)) (by repeat (first | exact .nil | refine .cons ?_ ?_ | exact ren_ints | exact .lf (.val _) | exact .lf (lf_ints (.inl rfl)) | exact .bp ⟨rfl, rfl⟩ | exact .bp (.inl ⟨rfl, rfl⟩) | exact .bp (.inr ⟨rfl, rfl⟩) | exact .lf (D.flat_lf rfl) | exact ren_map (f := ez) (fun _ => rfl) | exact ren_bun _ _ | exact ren_flat rfl (by rw [hlg]))) (hac) (by first | exact .val _ | exact lf_ints (.inl rfl) | exact lf_ints (.inr rfl) | exact .any | exact D.flat_lf rfl | exact .tup (lf_cons (lf_map (f := ez) (fun _ => rfl) (.inl rfl)) (lf_cons (.val _) lf_nil)) | exact .tup (lf_cons (.val _) (lf_cons (.val _) (lf_cons (D.flat_lf rfl) lf_nil)))) ?_
                refine n_move rfl (by first | (simp only [nf, Nat.beq] <;> rfl) | rfl) ?_
                refine n_extract rfl (by first | (simp only [nf, Nat.beq] <;> rfl) | rfl) rfl ?_
                refine n_extract rfl (by first | (simp only [nf, Nat.beq] <;> rfl) | rfl) rfl ?_
                refine n_assign rfl (by first | (simp only [nf, Nat.beq] <;> rfl) | rfl) ?_
                refine n_assign rfl (by first | (simp only [nf, Nat.beq] <;> rfl) | rfl) ?_
                refine AOps.nil ?_
                refine AWP.seq ?_
                refine AWP.region ?_
                refine n_move rfl (by first | (simp only [nf, Nat.beq] <;> rfl) | rfl) ?_
                refine n_ibin rfl (by first | (simp only [nf, Nat.beq] <;> rfl) | rfl) (by first | (simp only [nf, Nat.beq] <;> rfl) | rfl) rfl ?_
                refine AOps.nil ?_
                refine AWP.cond (by first | (simp only [nf, Nat.beq] <;> rfl) | rfl) (fun hc13 => ?_) (fun hc13 => ?_)
                · try simp only [nh] at hc13
                  obtain ⟨hng, hr1⟩ := hacc.1 hc13
                  subst hng
                  rw [hr1]
                  have hpl := part_len' (V := valid es) (n := n) (by omega)
                  have hak := Mi.l_acked (st4 (valid es).length n (n + mny (valid es).length n)) ((n + mny (valid es).length n : Nat) : Int)
                  rw [st4_acked (by omega) hml hL (by omega) (Nat.le_refl _)] at hak
                  have hck := Mi.l_chk (st4 (valid es).length (n + mny (valid es).length n) (n + mny (valid es).length n))
                  rw [st4_chk (Nat.le_refl _) hml hL] at hck
                  have hlg : ((valid es).take (n + mny (valid es).length n)).length = n + mny (valid es).length n := by rw [List.length_take]; omega
                  obtain ⟨g2, hg2⟩ : ∃ g2, g2 = n + mny (valid es).length n := ⟨_, rfl⟩
                  obtain ⟨n2, hn2⟩ : ∃ n2, n2 = n + mny (valid es).length n := ⟨_, rfl⟩
                  have hA : g2 ≤ n2 ∧ n2 ≤ (valid es).length ∧ InTime ks.length (valid es).length (i + 1) g2 n2 := ⟨by omega, by omega, by subst hg2 hn2; exact inTime_step hgn hnL hT (phi_take hml hmp)⟩
                  subst hg2 hn2
                  refine AWP.region ?_
                  refine n_move rfl (by first | (simp only [nf, Nat.beq] <;> rfl) | rfl) ?_
                  refine n_move rfl (by first | (simp only [nf, Nat.beq] <;> rfl) | rfl) ?_
                  refine n_append_own (zs := ((valid es).take (n + mny (valid es).length n)).map ez) (m := n + mny (valid es).length n) rfl Try.underlying53 Try.underlying53 ei56 (by first | (simp only [nf, Nat.beq] <;> rfl) | rfl) (by first | (simp only [nf, Nat.beq] <;> rfl) | rfl) (by rw [List.length_map, List.length_take]; omega) (by first | (simp only [nf, Nat.beq] <;> rfl) | rfl) (by exact map_one (f := ez) (fun _ => rfl)) (by exact map_one (f := ez) (fun _ => rfl)) (by rw [← List.map_append, take_mny hnL]) (by rw [List.length_map, List.length_map, hpl, List.length_take]; omega) (by omega) (by first | (simp only [nf, Nat.beq] <;> rfl) | rfl) ?_
                  refine n_assign rfl (by first | (simp only [nf, Nat.beq] <;> rfl) | rfl) ?_
                  refine AOps.nil ?_
                  refine AWP.seq ?_
                  refine AWP.region ?_
                  refine n_load rfl ti59 (by first | (simp only [nf, Nat.beq] <;> rfl) | rfl) (by first | (simp only [nf, Nat.beq] <;> rfl) | rfl) rfl (by first | (simp only [nf, Nat.beq] <;> rfl) | rfl) ?_
                  refine n_move rfl (by first | (simp only [nf, Nat.beq] <;> rfl) | rfl) ?_
                  refine n_len rfl Try.underlying53 (by first | (simp only [nf, Nat.beq] <;> rfl) | rfl) (by first | rw [ints_length] | rw [List.length_map] | rfl) ?_
                  refine n_call0B rfl cf60 rfl (Eq.trans (by simp only [nl] <;> rfl) (by first | (simp only [nf, Nat.beq] <;> rfl) | rfl)) (by repeat (first | exact .nil | refine .cons ?_ ?_ | exact ren_ints | exact .lf (.val _) | exact .lf (lf_ints (.inl rfl)) | exact .bp ⟨rfl, rfl⟩ | exact .bp (.inl ⟨rfl, rfl⟩) | exact .bp (.inr ⟨rfl, rfl⟩) | exact .lf (D.flat_lf rfl) | exact ren_map (f := ez) (fun _ => rfl) | exact ren_bun _ _ | exact ren_flat rfl (by rw [hlg]))) (hak) (by first | exact .val _ | exact lf_ints (.inl rfl) | exact lf_ints (.inr rfl) | exact .any | exact D.flat_lf rfl | exact .tup (lf_cons (lf_map (f := ez) (fun _ => rfl) (.inl rfl)) (lf_cons (.val _) lf_nil)) | exact .tup (lf_cons (.val _) (lf_cons (.val _) (lf_cons (D.flat_lf rfl) lf_nil)))) ?_
                  refine n_store ti59 (by first | (simp only [nf, Nat.beq] <;> rfl) | rfl) rfl (by first | (simp only [nf, Nat.beq] <;> rfl) | rfl) rfl (by first | (simp only [nf, Nat.beq] <;> rfl) | rfl) rfl rfl rfl (by first | (simp only [nf, Nat.beq] <;> rfl) | rfl) ?_
                  refine AOps.nil ?_
                  refine AWP.seq ?_
                  refine AWP.region ?_
                  refine n_fieldAddr rfl fd59_2 ti2 rfl (by first | (simp only [nf, Nat.beq] <;> rfl) | rfl) rfl (by first | (simp only [nf, Nat.beq] <;> rfl) | rfl) ?_
                  refine n_load rfl ti2 (by first | (simp only [nf, Nat.beq] <;> rfl) | rfl) (by first | (simp only [nf, Nat.beq] <;> rfl) | rfl) rfl (by first | (simp only [nf, Nat.beq] <;> rfl) | rfl) ?_
                  refine n_move rfl (by first | (simp only [nf, Nat.beq] <;> rfl) | rfl) ?_
                  refine n_len rfl Try.underlying53 (by first | (simp only [nf, Nat.beq] <;> rfl) | rfl) (by first | rw [ints_length] | rw [List.length_map] | rfl) ?_
                  refine n_ibin rfl (by first | (simp only [nf, Nat.beq] <;> rfl) | rfl) (by first | (simp only [nf, Nat.beq] <;> rfl) | rfl) rfl ?_
                  refine n_move rfl (by first | (simp only [nf, Nat.beq] <;> rfl) | rfl) ?_
                  refine AOps.name (u := 111) (fun z => .val (.bool z)) (by first | (simp only [nf, Nat.beq] <;> rfl) | rfl) (fun b111 hb111 => ?_)
                  refine n_soft (u := 111) (E := .val (.bool b111)) (!b111) rfl rfl rfl (by first | (simp only [nf, Nat.beq] <;> rfl) | rfl) (by cases b111 <;> first | (intro _; rfl) | (intro h; exact absurd h (by decide))) (by cases b111 <;> first | (intro h; exact absurd h (by decide)) | (intro _; exact ⟨_, rfl, by first | (intro h; cases h; done) | decide | simp⟩)) (fun h => by
                      cases b111 with
                      | true => exact absurd h (by first | decide | simp)
                      | false =>
                        refine n_load rfl ti59 (by first | (simp only [nf, Nat.beq] <;> rfl) | rfl) (by first | (simp only [nf, Nat.beq] <;> rfl) | rfl) rfl (by first | (simp only [nf, Nat.beq] <;> rfl) | rfl) ?_
                        exact AOps.nil ⟨rfl, rfl, rfl⟩) ?_
                  refine n_soft (u := 111) (E := .val (.bool b111)) (!b111) rfl rfl rfl (by first | (simp only [nf, Nat.beq] <;> rfl) | rfl) (by cases b111 <;> first | (intro _; rfl) | (intro h; exact absurd h (by decide))) (by cases b111 <;> first | (intro h; exact absurd h (by decide)) | (intro _; exact ⟨_, rfl, by first | (intro h; cases h; done) | decide | simp⟩)) (fun h => by
                      cases b111 with
                      | true => exact absurd h (by first | decide | simp)
                      | false =>
                        refine n_call0B rfl cf61 rfl (Eq.trans (by simp only [nl] <;> rfl) (by first | (simp only [nf, Nat.beq] <;> rfl) | rfl)) (by repeat (first | exact .nil | refine .cons ?_ ?_ | exact ren_ints | exact .lf (.val _) | exact .lf (lf_ints (.inl rfl)) | exact .bp ⟨rfl, rfl⟩ | exact .bp (.inl ⟨rfl, rfl⟩) | exact .bp (.inr ⟨rfl, rfl⟩) | exact .lf (D.flat_lf rfl) | exact ren_map (f := ez) (fun _ => rfl) | exact ren_bun _ _ | exact ren_flat rfl (by rw [hlg]))) (hck) (by first | exact .val _ | exact lf_ints (.inl rfl) | exact lf_ints (.inr rfl) | exact .any | exact D.flat_lf rfl | exact .tup (lf_cons (lf_map (f := ez) (fun _ => rfl) (.inl rfl)) (lf_cons (.val _) lf_nil)) | exact .tup (lf_cons (.val _) (lf_cons (.val _) (lf_cons (D.flat_lf rfl) lf_nil)))) ?_
                        exact AOps.nil ⟨rfl, rfl, rfl⟩) ?_
                  refine n_soft (u := 111) (E := .val (.bool b111)) (!b111) rfl rfl rfl (by first | (simp only [nf, Nat.beq] <;> rfl) | rfl) (by cases b111 <;> first | (intro _; rfl) | (intro h; exact absurd h (by decide))) (by cases b111 <;> first | (intro h; exact absurd h (by decide)) | (intro _; exact ⟨_, rfl, by first | (intro h; cases h; done) | decide | simp⟩)) (fun h => by
                      cases b111 with
                      | true => exact absurd h (by first | decide | simp)
                      | false =>
                        refine n_ibin rfl (by first | (simp only [nf, Nat.beq] <;> rfl) | rfl) (by first | (simp only [nf, Nat.beq] <;> rfl) | rfl) rfl ?_
                        exact AOps.nil ⟨rfl, rfl, rfl⟩) ?_
                  refine n_pick_or rfl (by first | (simp only [nf, Nat.beq] <;> rfl) | rfl) (fun h => by cases b111 with | true => exact absurd h (by decide) | false => exact (by first | (simp only [nf, Nat.beq] <;> rfl) | rfl)) ?_
                  subst hb111
                  refine AOps.nil ?_
                  refine AWP.cond (by first | (simp only [nf, Nat.beq] <;> rfl) | rfl) (fun hc14 => ?_) (fun hc14 => ?_)
                  · try simp only [nh] at hc14
                    exfalso
                    simp [hlg] at hc14
                    try omega
                  · try simp only [nh] at hc14
                    refine AWP.skip ?_
                    refine AWP.region ?_
                    first | refine n_iadd rfl (by first | (simp only [nf, Nat.beq] <;> rfl) | rfl) (by first | (simp only [nf, Nat.beq] <;> rfl) | rfl) rfl (by omega) (by omega) ?_ | refine n_ibin rfl (by first | (simp only [nf, Nat.beq] <;> rfl) | rfl) (by first | (simp only [nf, Nat.beq] <;> rfl) | rfl) rfl ?_
                    refine n_move rfl (by first | (simp only [nf, Nat.beq] <;> rfl) | rfl) ?_
                    refine AOps.nil ?_
                    refine ⟨(i + 1, _, _), _, ⟨by dsimp only; omega, hA⟩, ?_, rfl, by dsimp only; omega⟩
                    (repeat (first | exact FLe.empty _ | refine FLe.put ?_ ?_)) <;> first | (simp only [nf, Nat.beq]; done) | rfl | ((try simp only [nf, Nat.beq]); first | rfl | (congr 2; omega; done))
                · try simp only [nh] at hc13
                  have hgl := hacc.2 hc13
                  have hak := Mi.l_acked (st4 (valid es).length g (n + mny (valid es).length n)) (g : Int)
                  rw [st4_acked (by omega) hml hL (Nat.le_refl _) (by omega)] at hak
                  have hck := Mi.l_chk (st4 (valid es).length g (n + mny (valid es).length n))
                  rw [st4_chk (by omega) hml hL] at hck
                  have hlg : ((valid es).take g).length = g := by rw [List.length_take]; omega
                  obtain ⟨g2, hg2⟩ : ∃ g2, g2 = g := ⟨_, rfl⟩
                  obtain ⟨n2, hn2⟩ : ∃ n2, n2 = n + mny (valid es).length n := ⟨_, rfl⟩
                  have hA : g2 ≤ n2 ∧ n2 ≤ (valid es).length ∧ InTime ks.length (valid es).length (i + 1) g2 n2 := ⟨by omega, by omega, by subst hg2 hn2; exact inTime_step hgn hnL hT (phi_skip hgl hml hmp)⟩
                  subst hg2 hn2
                  refine AWP.skip ?_
                  refine AWP.seq ?_
                  refine AWP.region ?_
                  refine n_load rfl ti59 (by first | (simp only [nf, Nat.beq] <;> rfl) | rfl) (by first | (simp only [nf, Nat.beq] <;> rfl) | rfl) rfl (by first | (simp only [nf, Nat.beq] <;> rfl) | rfl) ?_
                  refine n_move rfl (by first | (simp only [nf, Nat.beq] <;> rfl) | rfl) ?_
                  refine n_len rfl Try.underlying53 (by first | (simp only [nf, Nat.beq] <;> rfl) | rfl) (by first | rw [ints_length] | rw [List.length_map] | rfl) ?_
                  refine n_call0B rfl cf60 rfl (Eq.trans (by simp only [nl] <;> rfl) (by first | (simp only [nf, Nat.beq] <;> rfl) | rfl)) (by repeat (first | exact .nil | refine .cons ?_ ?_ | exact ren_ints | exact .lf (.val _) | exact .lf (lf_ints (.inl rfl)) | exact .bp ⟨rfl, rfl⟩ | exact .bp (.inl ⟨rfl, rfl⟩) | exact .bp (.inr ⟨rfl, rfl⟩) | exact .lf (D.flat_lf rfl) | exact ren_map (f := ez) (fun _ => rfl) | exact ren_bun _ _ | exact ren_flat rfl (by rw [hlg]))) (hak) (by first | exact .val _ | exact lf_ints (.inl rfl) | exact lf_ints (.inr rfl) | exact .any | exact D.flat_lf rfl | exact .tup (lf_cons (lf_map (f := ez) (fun _ => rfl) (.inl rfl)) (lf_cons (.val _) lf_nil)) | exact .tup (lf_cons (.val _) (lf_cons (.val _) (lf_cons (D.flat_lf rfl) lf_nil)))) ?_
                  refine n_store ti59 (by first | (simp only [nf, Nat.beq] <;> rfl) | rfl) rfl (by first | (simp only [nf, Nat.beq] <;> rfl) | rfl) rfl (by first | (simp only [nf, Nat.beq] <;> rfl) | rfl) rfl rfl rfl (by first | (simp only [nf, Nat.beq] <;> rfl) | rfl) ?_
                  refine AOps.nil ?_
                  refine AWP.seq ?_
                  refine AWP.region ?_
                  refine n_fieldAddr rfl fd59_2 ti2 rfl (by first | (simp only [nf, Nat.beq] <;> rfl) | rfl) rfl (by first | (simp only [nf, Nat.beq] <;> rfl) | rfl) ?_
                  refine n_load rfl ti2 (by first | (simp only [nf, Nat.beq] <;> rfl) | rfl) (by first | (simp only [nf, Nat.beq] <;> rfl) | rfl) rfl (by first | (simp only [nf, Nat.beq] <;> rfl) | rfl) ?_
                  refine n_move rfl (by first | (simp only [nf, Nat.beq] <;> rfl) | rfl) ?_
                  refine n_len rfl Try.underlying53 (by first | (simp only [nf, Nat.beq] <;> rfl) | rfl) (by first | rw [ints_length] | rw [List.length_map] | rfl) ?_
                  refine n_ibin rfl (by first | (simp only [nf, Nat.beq] <;> rfl) | rfl) (by first | (simp only [nf, Nat.beq] <;> rfl) | rfl) rfl ?_
                  refine n_move rfl (by first | (simp only [nf, Nat.beq] <;> rfl) | rfl) ?_
                  refine AOps.name (u := 111) (fun z => .val (.bool z)) (by first | (simp only [nf, Nat.beq] <;> rfl) | rfl) (fun b111 hb111 => ?_)
                  refine n_soft (u := 111) (E := .val (.bool b111)) (!b111) rfl rfl rfl (by first | (simp only [nf, Nat.beq] <;> rfl) | rfl) (by cases b111 <;> first | (intro _; rfl) | (intro h; exact absurd h (by decide))) (by cases b111 <;> first | (intro h; exact absurd h (by decide)) | (intro _; exact ⟨_, rfl, by first | (intro h; cases h; done) | decide | simp⟩)) (fun h => by
                      cases b111 with
                      | true => exact absurd h (by first | decide | simp)
                      | false =>
                        refine n_load rfl ti59 (by first | (simp only [nf, Nat.beq] <;> rfl) | rfl) (by first | (simp only [nf, Nat.beq] <;> rfl) | rfl) rfl (by first | (simp only [nf, Nat.beq] <;> rfl) | rfl) ?_
                        exact AOps.nil ⟨rfl, rfl, rfl⟩) ?_
                  refine n_soft (u := 111) (E := .val (.bool b111)) (!b111) rfl rfl rfl (by first | (simp only [nf, Nat.beq] <;> rfl) | rfl) (by cases b111 <;> first | (intro _; rfl) | (intro h; exact absurd h (by decide))) (by cases b111 <;> first | (intro h; exact absurd h (by decide)) | (intro _; exact ⟨_, rfl, by first | (intro h; cases h; done) | decide | simp⟩)) (fun h => by
                      cases b111 with
                      | true => exact absurd h (by first | decide | simp)
                      | false =>
                        refine n_call0B rfl cf61 rfl (Eq.trans (by simp only [nl] <;> rfl) (by first | (simp only [nf, Nat.beq] <;> rfl) | rfl)) (by repeat (first | exact .nil | refine .cons ?_ ?_ | exact ren_ints | exact .lf (.val _) | exact .lf (lf_ints (.inl rfl)) | exact .bp ⟨rfl, rfl⟩ | exact .bp (.inl ⟨rfl, rfl⟩) | exact .bp (.inr ⟨rfl, rfl⟩) | exact .lf (D.flat_lf rfl) | exact ren_map (f := ez) (fun _ => rfl) | exact ren_bun _ _ | exact ren_flat rfl (by rw [hlg]))) (hck) (by first | exact .val _ | exact lf_ints (.inl rfl) | exact lf_ints (.inr rfl) | exact .any | exact D.flat_lf rfl | exact .tup (lf_cons (lf_map (f := ez) (fun _ => rfl) (.inl rfl)) (lf_cons (.val _) lf_nil)) | exact .tup (lf_cons (.val _) (lf_cons (.val _) (lf_cons (D.flat_lf rfl) lf_nil)))) ?_
                        exact AOps.nil ⟨rfl, rfl, rfl⟩) ?_
                  refine n_soft (u := 111) (E := .val (.bool b111)) (!b111) rfl rfl rfl (by first | (simp only [nf, Nat.beq] <;> rfl) | rfl) (by cases b111 <;> first | (intro _; rfl) | (intro h; exact absurd h (by decide))) (by cases b111 <;> first | (intro h; exact absurd h (by decide)) | (intro _; exact ⟨_, rfl, by first | (intro h; cases h; done) | decide | simp⟩)) (fun h => by
                      cases b111 with
                      | true => exact absurd h (by first | decide | simp)
                      | false =>
                        refine n_ibin rfl (by first | (simp only [nf, Nat.beq] <;> rfl) | rfl) (by first | (simp only [nf, Nat.beq] <;> rfl) | rfl) rfl ?_
                        exact AOps.nil ⟨rfl, rfl, rfl⟩) ?_
                  refine n_pick_or rfl (by first | (simp only [nf, Nat.beq] <;> rfl) | rfl) (fun h => by cases b111 with | true => exact absurd h (by decide) | false => exact (by first | (simp only [nf, Nat.beq] <;> rfl) | rfl)) ?_
                  subst hb111
                  refine AOps.nil ?_
                  refine AWP.cond (by first | (simp only [nf, Nat.beq] <;> rfl) | rfl) (fun hc15 => ?_) (fun hc15 => ?_)
                  · try simp only [nh] at hc15
                    exfalso
                    simp [hlg] at hc15
                    try omega
                  · try simp only [nh] at hc15
                    refine AWP.skip ?_
                    refine AWP.region ?_
                    first | refine n_iadd rfl (by first | (simp only [nf, Nat.beq] <;> rfl) | rfl) (by first | (simp only [nf, Nat.beq] <;> rfl) | rfl) rfl (by omega) (by omega) ?_ | refine n_ibin rfl (by first | (simp only [nf, Nat.beq] <;> rfl) | rfl) (by first | (simp only [nf, Nat.beq] <;> rfl) | rfl) rfl ?_
                    refine n_move rfl (by first | (simp only [nf, Nat.beq] <;> rfl) | rfl) ?_
                    refine AOps.nil ?_
                    refine ⟨(i + 1, _, _), _, ⟨by dsimp only; omega, hA⟩, ?_, rfl, by dsimp only; omega⟩
                    (repeat (first | exact FLe.empty _ | refine FLe.put ?_ ?_)) <;> first | (simp only [nf, Nat.beq]; done) | rfl | ((try simp only [nf, Nat.beq]); first | rfl | (congr 2; omega; done))
        · try simp only [nh] at hc4
          obtain rfl : i = ks.length + 2 * (valid es).length + 2 := by omega
          obtain ⟨rfl, rfl⟩ := inTime_end hgn hnL hT
          have hfi := Mi.l_fin (st4 (valid es).length (valid es).length (valid es).length)
          rw [show (st4 (valid es).length (valid es).length (valid es).length).fin = true by unfold Sd.fin; rw [st4_chk (Nat.le_refl _) (Nat.le_refl _) hL]; simp] at hfi
          rw [List.take_length]
          refine AWP.exit ?_
          refine AWP.seq ?_
          refine AWP.region ?_
          refine n_load rfl ti59 (by first | (simp only [nf, Nat.beq] <;> rfl) | rfl) (by first | (simp only [nf, Nat.beq] <;> rfl) | rfl) rfl (by first | (simp only [nf, Nat.beq] <;> rfl) | rfl) ?_
          refine n_call0B rfl cf62 rfl (Eq.trans (by simp only [nl] <;> rfl) (by first | (simp only [nf, Nat.beq] <;> rfl) | rfl)) (by repeat (first | exact .nil | refine .cons ?_ ?_ | exact ren_ints | exact .lf (.val _) | exact .lf (lf_ints (.inl rfl)) | exact .bp ⟨rfl, rfl⟩ | exact .bp (.inl ⟨rfl, rfl⟩) | exact .bp (.inr ⟨rfl, rfl⟩) | exact .lf (D.flat_lf rfl) | exact ren_map (f := ez) (fun _ => rfl) | exact ren_bun _ _ | exact ren_flat rfl (by rw [hlg]))) (hfi) (by first | exact .val _ | exact lf_ints (.inl rfl) | exact lf_ints (.inr rfl) | exact .any | exact D.flat_lf rfl | exact .tup (lf_cons (lf_map (f := ez) (fun _ => rfl) (.inl rfl)) (lf_cons (.val _) lf_nil)) | exact .tup (lf_cons (.val _) (lf_cons (.val _) (lf_cons (D.flat_lf rfl) lf_nil)))) ?_
          refine n_move rfl (by first | (simp only [nf, Nat.beq] <;> rfl) | rfl) ?_
          refine AOps.name (u := 119) (fun z => .val (.bool z)) (by first | (simp only [nf, Nat.beq] <;> rfl) | rfl) (fun b119 hb119 => ?_)
          refine n_soft (u := 119) (E := .val (.bool b119)) (b119) rfl rfl rfl (by first | (simp only [nf, Nat.beq] <;> rfl) | rfl) (by cases b119 <;> first | (intro _; rfl) | (intro h; exact absurd h (by decide))) (by cases b119 <;> first | (intro h; exact absurd h (by decide)) | (intro _; exact ⟨_, rfl, by first | (intro h; cases h; done) | decide | simp⟩)) (fun h => by
              cases b119 with
              | false => exact absurd h (by first | decide | simp)
              | true =>
                refine n_move rfl (by first | (simp only [nf, Nat.beq] <;> rfl) | rfl) ?_
                exact AOps.nil ⟨rfl, rfl, rfl⟩) ?_
          refine n_soft (u := 119) (E := .val (.bool b119)) (b119) rfl rfl rfl (by first | (simp only [nf, Nat.beq] <;> rfl) | rfl) (by cases b119 <;> first | (intro _; rfl) | (intro h; exact absurd h (by decide))) (by cases b119 <;> first | (intro h; exact absurd h (by decide)) | (intro _; exact ⟨_, rfl, by first | (intro h; cases h; done) | decide | simp⟩)) (fun h => by
              cases b119 with
              | false => exact absurd h (by first | decide | simp)
              | true =>
                refine n_move rfl (by first | (simp only [nf, Nat.beq] <;> rfl) | rfl) ?_
                exact AOps.nil ⟨rfl, rfl, rfl⟩) ?_
          refine n_soft (u := 119) (E := .val (.bool b119)) (b119) rfl rfl rfl (by first | (simp only [nf, Nat.beq] <;> rfl) | rfl) (by cases b119 <;> first | (intro _; rfl) | (intro h; exact absurd h (by decide))) (by cases b119 <;> first | (intro h; exact absurd h (by decide)) | (intro _; exact ⟨_, rfl, by first | (intro h; cases h; done) | decide | simp⟩)) (fun h => by
              cases b119 with
              | false => exact absurd h (by first | decide | simp)
              | true =>
                refine n_call0B rfl cf63 rfl (Eq.trans (by simp only [nl] <;> rfl) (by first | (simp only [nf, Nat.beq] <;> rfl) | rfl)) (by repeat (first | exact .nil | refine .cons ?_ ?_ | exact ren_ints | exact .lf (.val _) | exact .lf (lf_ints (.inl rfl)) | exact .bp ⟨rfl, rfl⟩ | exact .bp (.inl ⟨rfl, rfl⟩) | exact .bp (.inr ⟨rfl, rfl⟩) | exact .lf (D.flat_lf rfl) | exact ren_map (f := ez) (fun _ => rfl) | exact ren_bun _ _ | exact ren_flat rfl (by rw [hlg]))) (hq) (by first | exact .val _ | exact lf_ints (.inl rfl) | exact lf_ints (.inr rfl) | exact .any | exact D.flat_lf rfl | exact .tup (lf_cons (lf_map (f := ez) (fun _ => rfl) (.inl rfl)) (lf_cons (.val _) lf_nil)) | exact .tup (lf_cons (.val _) (lf_cons (.val _) (lf_cons (D.flat_lf rfl) lf_nil)))) ?_
                exact AOps.nil ⟨rfl, rfl, rfl⟩) ?_
          refine n_pick_and rfl (by first | (simp only [nf, Nat.beq] <;> rfl) | rfl) (fun h => by cases b119 with | false => exact absurd h (by decide) | true => exact (by first | (simp only [nf, Nat.beq] <;> rfl) | rfl)) ?_
          refine n_assign rfl (by first | (simp only [nf, Nat.beq] <;> rfl) | rfl) ?_
          subst hb119
          refine AOps.nil ?_
          refine AWP.ret ?_
          refine fin_pure (.cons (rv_tmp (by first | (simp only [nf, Nat.beq] <;> rfl) | rfl)) .nil) (by first | (simp only [nf, Nat.beq] <;> rfl) | rfl) ?_
          first | exact ren_flat rfl rfl | exact ren_flat rfl (congrArg vb (by simp))

end Go.Proofs.Ytanfmpkjcoolmaa.Mt
