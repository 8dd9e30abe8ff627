/- Law of order. -/
import Derived.Test.YtanfmpkjcoolmaaBuA
import Derived.Test.YtanfmpkjcoolmaaMirrorOrderPlain
import Derived.KernelRfl
set_option linter.unusedVariables false
set_option linter.unusedSimpArgs false
namespace Go.Proofs.Ytanfmpkjcoolmaa.Od
open Go Go.Abs Go.Abs.Sd
attribute [local irreducible] AWP AOps Does

theorem cf54 : CF Try.prog 54 := ⟨_, Try.func54, by kernel_rfl, by kernel_rfl⟩
theorem cf55 : CF Try.prog 55 := ⟨_, Try.func55, by kernel_rfl, by kernel_rfl⟩
theorem cf59 : CF Try.prog 59 := ⟨_, Try.func59, by kernel_rfl, by kernel_rfl⟩
theorem cf63 : CF Try.prog 63 := ⟨_, Try.func63, by kernel_rfl, by kernel_rfl⟩
theorem cf96 : CF Try.prog 96 := ⟨_, Try.func96, by kernel_rfl, by kernel_rfl⟩
theorem ei56 : EI Try.prog 56 4 32 (.agg #[.int .i64 0, .int .i64 0, .int .i64 0, .int .i64 0]) := EI.of (by kernel_rfl) rfl rfl
theorem ei67 : EI Try.prog 67 3 40 (.agg #[.int .i64 0, .int .i64 0, .slice none 0 0]) := EI.of (by kernel_rfl) rfl rfl
theorem ti120 : TI Try.prog 120 1 false := ⟨by kernel_rfl, by kernel_rfl⟩
theorem ti56 : TI Try.prog 56 4 true := ⟨by kernel_rfl, by kernel_rfl⟩
theorem ti67 : TI Try.prog 67 3 true := ⟨by kernel_rfl, by kernel_rfl⟩
theorem zi56 : (Try.prog.info? 56).map (·.zero) = some (some (.agg #[.int .i64 0, .int .i64 0, .int .i64 0, .int .i64 0])) := by kernel_rfl

attribute [local irreducible] chunk cnt bun chunks accept chkB valid pile
theorem ren_ez {ρ σ : Nat → Nat → Prop} {nl : Option Bool} {c : Cap} {l : List En} : Ren ρ σ (.sl nl (l.map ez) c) (.sl none (l.map ez) .ro) := ren_map (f := ez) (fun _ => rfl)
theorem ren_bun3 {ρ σ : Nat → Nat → Prop} {nl : Option Bool} {c : Cap} {p q : Int} {l : List En} : Ren ρ σ (.agg [vi p, vi q, .sl nl (l.map ez) c]) (.agg [vi p, vi q, .sl none (l.map ez) .ro]) :=
  .agg rfl (RenAll.get (.cons (.lf (.val _)) (.cons (.lf (.val _)) (.cons (ren_map (f := ez) (fun _ => rfl)) .nil))))
set_option maxHeartbeats 8000000 in
theorem Order_calls (es : List En) (ns : List Int) (hn : es.length ≤ 1048576) (hk : ns.length ≤ 1048576) (hns : ∀ m ∈ ns, 0 ≤ m ∧ m ≤ 65535) : Does Try.prog 16 [(.sl none (es.map ez) .ro), (.sl none (ints .u16 ns) .ro)] [] (vb true) [] := by
  refine Does.of_body (rvs := [.tmp 4]) Try.func16 rfl rfl rfl rfl ?_
  have hvl := valid_len es
  have hL : (valid es).length ≤ 1048576 := by omega
  have hb0 := Bu.bundles 1 0 (valid es) (by omega) hL
  refine AWP.seq ?_
  refine AWP.region ?_
  refine n_assign rfl (by first | (simp only [nf, Nat.beq] <;> rfl) | rfl) ?_
  refine AOps.nil ?_
  refine AWP.seq ?_
  refine AWP.seq ?_
  refine AWP.region ?_
  refine n_call0B rfl cf54 rfl (Eq.trans (by simp only [nl] <;> rfl) (by first | (simp only [nf, Nat.beq] <;> rfl) | rfl)) (by repeat (first | exact .nil | refine .cons ?_ ?_ | exact ren_ints | exact .lf (.val _) | exact .lf (lf_ints (.inl rfl)) | exact .bp ⟨rfl, rfl⟩ | exact .bp (.inl ⟨rfl, rfl⟩) | exact .bp (.inr ⟨rfl, rfl⟩) | exact .lf (D.flat_lf rfl) | exact ren_map (f := ez) (fun _ => rfl) | exact .lf (.agg (bz_lf _)) | exact ren_mapG (f := bz) bz_lf | exact .lf (lf_fn2 (lf_rp1 (f := ez) (fun _ => rfl)) lf_vi) | exact .lf (lf_fn3 lf_vi (lf_rp1 (f := ez) (fun _ => rfl)) lf_vi) | exact Bu.ren_chunk | exact Mt.ren_bun _ _ | exact Bu.ren_bz | exact ren_ez | exact ren_bun3)) (Mi.live) (by first | exact .val _ | exact lf_ints (.inl rfl) | exact lf_ints (.inr rfl) | exact .any | exact D.flat_lf rfl | exact .tup (lf_cons (lf_map (f := ez) (fun _ => rfl) (.inl rfl)) (lf_cons (.val _) lf_nil)) | exact lf_map (f := ez) (fun _ => rfl) (.inl rfl) | exact lf_mapG (f := bz) bz_lf (.inl rfl) | exact lf_fn2 (lf_rp1 (f := ez) (fun _ => rfl)) lf_vi | exact lf_fn3 lf_vi (lf_rp1 (f := ez) (fun _ => rfl)) lf_vi) ?_
  refine n_not rfl (by first | (simp only [nf, Nat.beq] <;> rfl) | rfl) rfl ?_
  refine AOps.nil ?_
  refine AWP.cond_false (by first | (simp only [nf, Nat.beq] <;> rfl) | rfl) ?_
  refine AWP.skip ?_
  refine AWP.seq ?_
  refine AWP.region ?_
  refine n_assign rfl (by first | (simp only [nf, Nat.beq] <;> rfl) | rfl) ?_
  refine AOps.nil ?_
  refine AWP.seq ?_
  refine AWP.seq ?_
  refine AWP.adopt (t := 5) (m := 0) (S' := [.row 0 4]) (by rfl) rfl rfl rfl ?_
  refine AWP.region ?_
  refine n_move rfl (by first | (simp only [nf, Nat.beq] <;> rfl) | rfl) ?_
  refine n_len rfl Try.underlying53 (by first | (simp only [nf, Nat.beq] <;> rfl) | rfl) (by first | rw [ints_length] | rw [List.length_map] | rfl) ?_
  refine n_move rfl (by first | (simp only [nf, Nat.beq] <;> rfl) | rfl) ?_
  refine AOps.nil ?_
  refine AWP.block ?_
  refine AWP.loopX 1 (α := Nat) (fun i => i ≤ es.length) (fun i => put (put (put (put (put empty 1 (.sl none (ints .u16 ns) .ro)) 5 (.sl none ((valid (es.take i)).map ez) (.own 0))) 17 (.sl none (es.map ez) .ro)) 18 (vi (es.length : Int))) 19 (vi (i : Int))) (fun i => [.row (valid (es.take i)).length 4]) (fun i => es.length - i) 0 ?_ ?_ ?_ ?_ ?_ ?_ ?_
  · exact Nat.zero_le _
  · (repeat (first | exact FLe.empty _ | refine FLe.put ?_ ?_)) <;> first | (simp only [nf, Nat.beq]; done) | rfl | ((try simp only [nf, Nat.beq]); first | rfl | (simp [valid]; done) | (simp only [List.length_map]; done) | (rw [hst]; done) | (congr 2; omega; done))
  · simp [valid]
  · exact fun _ => rfl
  · intro p hp; (try dsimp only); (repeat' (refine un_put ?_ ?_)) <;> first | exact un_empty | exact .bp (by decide) | exact .lf (D.flat_lf rfl) | exact .lf (lf_ints (.inl rfl)) | exact .lf (lf_map (fun _ => rfl) (.inl rfl)) | exact .sl (fun x hx d hd => by obtain ⟨b, _, rfl⟩ := List.mem_map.1 hx; exact .lf (flats_lf (by rfl) d hd)) (fun l e => by cases e; decide)
  · intro p hp; (try dsimp only); repeat' (first | exact un_nil | refine un_cons ?_ ?_ | exact un_box rfl | exact trivial)
  · intro i hi
    try dsimp only at hi ⊢
    refine AWP.seq ?_
    refine AWP.region ?_
    refine n_ibin rfl (by first | (simp only [nf, Nat.beq] <;> rfl) | rfl) (by first | (simp only [nf, Nat.beq] <;> rfl) | rfl) rfl ?_
    refine AOps.nil ?_
    refine AWP.seq ?_
    refine AWP.cond (by first | (simp only [nf, Nat.beq] <;> rfl) | rfl) (fun hc2 => ?_) (fun hc2 => ?_)
    · try simp only [nh] at hc2
      obtain ⟨x, hx⟩ : ∃ x, es[i]? = some x := ⟨_, List.getElem?_eq_getElem (by omega)⟩
      have hpl := valid_len (es.take i)
      have htl : (es.take i).length ≤ es.length := by simp [List.length_take]; omega
      refine AWP.skip ?_
      refine AWP.seq ?_
      refine AWP.block ?_
      refine AWP.seq ?_
      refine AWP.region ?_
      refine n_indexAddr rfl Try.underlying53 ti56 rfl (by first | (simp only [nf, Nat.beq] <;> rfl) | rfl) (by first | (simp only [nf, Nat.beq] <;> rfl) | rfl) (by omega) (by first | exact ints_at _ _ _ (by omega) | exact ints_get _ _ _ (by omega) | exact map_at _ (by assumption) | rfl) rfl ?_
      refine n_load rfl ti56 (by first | (simp only [nf, Nat.beq] <;> rfl) | rfl) (by first | (simp only [nf, Nat.beq] <;> rfl) | rfl) rfl (by first | (simp only [nf, Nat.beq] <;> rfl) | rfl) ?_
      refine n_alloc rfl zi56 rfl (by first | (simp only [nf, Nat.beq] <;> rfl) | rfl) (by first | (simp only [nf, Nat.beq] <;> rfl) | rfl) ?_
      refine n_store ti56 (by first | (simp only [nf, Nat.beq] <;> rfl) | rfl) rfl (by first | (simp only [nf, Nat.beq] <;> rfl) | rfl) rfl (by first | (simp only [nf, Nat.beq] <;> rfl) | rfl) rfl rfl rfl (by first | (simp only [nf, Nat.beq] <;> rfl) | rfl) ?_
      refine AOps.nil ?_
      refine AWP.seq ?_
      refine AWP.region ?_
      refine n_load rfl ti56 (by first | (simp only [nf, Nat.beq] <;> rfl) | rfl) (by first | (simp only [nf, Nat.beq] <;> rfl) | rfl) rfl (by first | (simp only [nf, Nat.beq] <;> rfl) | rfl) ?_
      refine n_call0B rfl cf55 rfl (Eq.trans (by simp only [nl] <;> rfl) (by first | (simp only [nf, Nat.beq] <;> rfl) | rfl)) (by repeat (first | exact .nil | refine .cons ?_ ?_ | exact ren_ints | exact .lf (.val _) | exact .lf (lf_ints (.inl rfl)) | exact .bp ⟨rfl, rfl⟩ | exact .bp (.inl ⟨rfl, rfl⟩) | exact .bp (.inr ⟨rfl, rfl⟩) | exact .lf (D.flat_lf rfl) | exact ren_map (f := ez) (fun _ => rfl) | exact .lf (.agg (bz_lf _)) | exact ren_mapG (f := bz) bz_lf | exact .lf (lf_fn2 (lf_rp1 (f := ez) (fun _ => rfl)) lf_vi) | exact .lf (lf_fn3 lf_vi (lf_rp1 (f := ez) (fun _ => rfl)) lf_vi) | exact Bu.ren_chunk | exact Mt.ren_bun _ _ | exact Bu.ren_bz | exact ren_ez | exact ren_bun3)) (Mi.r_entry _) (by first | exact .val _ | exact lf_ints (.inl rfl) | exact lf_ints (.inr rfl) | exact .any | exact D.flat_lf rfl | exact .tup (lf_cons (lf_map (f := ez) (fun _ => rfl) (.inl rfl)) (lf_cons (.val _) lf_nil)) | exact lf_map (f := ez) (fun _ => rfl) (.inl rfl) | exact lf_mapG (f := bz) bz_lf (.inl rfl) | exact lf_fn2 (lf_rp1 (f := ez) (fun _ => rfl)) lf_vi | exact lf_fn3 lf_vi (lf_rp1 (f := ez) (fun _ => rfl)) lf_vi) ?_
      refine n_ibin rfl (by first | (simp only [nf, Nat.beq] <;> rfl) | rfl) (by first | (simp only [nf, Nat.beq] <;> rfl) | rfl) rfl ?_
      refine AOps.nil ?_
      refine AWP.cond (by first | (simp only [nf, Nat.beq] <;> rfl) | rfl) (fun hc3 => ?_) (fun hc3 => ?_)
      · try simp only [nh] at hc3
        have hst := valid_take_yes hx hc3
        refine AWP.region ?_
        refine n_move rfl (by first | (simp only [nf, Nat.beq] <;> rfl) | rfl) ?_
        refine n_load rfl ti56 (by first | (simp only [nf, Nat.beq] <;> rfl) | rfl) (by first | (simp only [nf, Nat.beq] <;> rfl) | rfl) rfl (by first | (simp only [nf, Nat.beq] <;> rfl) | rfl) ?_
        refine n_lit rfl Try.underlying53 ti56 zi56 rfl rfl (Eq.trans (by simp only [nl] <;> rfl) (by first | (simp only [nf, Nat.beq] <;> rfl) | rfl)) rfl (by first | (simp only [nf, Nat.beq] <;> rfl) | rfl) ?_
        refine n_append_own (zs := (valid (es.take i) ++ [x]).map ez) (m := (valid (es.take i) ++ [x]).length) rfl Try.underlying53 Try.underlying53 ei56 (by first | (simp only [nf, Nat.beq] <;> rfl) | rfl) (by first | (simp only [nf, Nat.beq] <;> rfl) | rfl) (by simp only [List.length_map]) (by first | (simp only [nf, Nat.beq] <;> rfl) | rfl) (by exact map_one (f := ez) (fun _ => rfl)) (by exact one_one rfl) (by simp) (by simp) (by simp only [List.length_append, List.length_cons, List.length_nil]; omega) (by first | (simp only [nf, Nat.beq] <;> rfl) | rfl) ?_
        refine n_assign rfl (by first | (simp only [nf, Nat.beq] <;> rfl) | rfl) ?_
        refine AOps.nil ?_
        refine AWP.region ?_
        first | refine n_iadd rfl (by first | (simp only [nf, Nat.beq] <;> rfl) | rfl) (by first | (simp only [nf, Nat.beq] <;> rfl) | rfl) rfl (by omega) (by omega) ?_ | refine n_ibin rfl (by first | (simp only [nf, Nat.beq] <;> rfl) | rfl) (by first | (simp only [nf, Nat.beq] <;> rfl) | rfl) rfl ?_
        refine n_move rfl (by first | (simp only [nf, Nat.beq] <;> rfl) | rfl) ?_
        refine AOps.nil ?_
        refine ⟨i + 1, [.box (ez x)], by omega, ?_, ?_, by omega⟩
        · (repeat (first | exact FLe.empty _ | refine FLe.put ?_ ?_)) <;> first | (simp only [nf, Nat.beq]; done) | rfl | ((try simp only [nf, Nat.beq]); first | rfl | (simp [valid]; done) | (simp only [List.length_map]; done) | (rw [hst]; done) | (congr 2; omega; done))
        · rw [hst] <;> simp
      · try simp only [nh] at hc3
        have hst := valid_take_no hx (by simpa using hc3)
        refine AWP.skip ?_
        refine AWP.region ?_
        first | refine n_iadd rfl (by first | (simp only [nf, Nat.beq] <;> rfl) | rfl) (by first | (simp only [nf, Nat.beq] <;> rfl) | rfl) rfl (by omega) (by omega) ?_ | refine n_ibin rfl (by first | (simp only [nf, Nat.beq] <;> rfl) | rfl) (by first | (simp only [nf, Nat.beq] <;> rfl) | rfl) rfl ?_
        refine n_move rfl (by first | (simp only [nf, Nat.beq] <;> rfl) | rfl) ?_
        refine AOps.nil ?_
        refine ⟨i + 1, [.box (ez x)], by omega, ?_, ?_, by omega⟩
        · (repeat (first | exact FLe.empty _ | refine FLe.put ?_ ?_)) <;> first | (simp only [nf, Nat.beq]; done) | rfl | ((try simp only [nf, Nat.beq]); first | rfl | (simp [valid]; done) | (simp only [List.length_map]; done) | (rw [hst]; done) | (congr 2; omega; done))
        · rw [hst] <;> simp
    · try simp only [nh] at hc2
      obtain rfl : i = es.length := by omega
      rw [List.take_length]
      refine AWP.exit ?_
      refine AWP.seq ?_
      refine AWP.region ?_
      refine n_move rfl (by first | (simp only [nf, Nat.beq] <;> rfl) | rfl) ?_
      refine n_callOwnB rfl cf96 rfl (Eq.trans (by simp only [nl] <;> rfl) (by first | (simp only [nf, Nat.beq] <;> rfl) | rfl)) (by repeat (first | exact .nil | refine .cons ?_ ?_ | exact ren_ints | exact .lf (.val _) | exact .lf (lf_ints (.inl rfl)) | exact .bp ⟨rfl, rfl⟩ | exact .bp (.inl ⟨rfl, rfl⟩) | exact .bp (.inr ⟨rfl, rfl⟩) | exact .lf (D.flat_lf rfl) | exact ren_map (f := ez) (fun _ => rfl) | exact .lf (.agg (bz_lf _)) | exact ren_mapG (f := bz) bz_lf | exact .lf (lf_fn2 (lf_rp1 (f := ez) (fun _ => rfl)) lf_vi) | exact .lf (lf_fn3 lf_vi (lf_rp1 (f := ez) (fun _ => rfl)) lf_vi) | exact Bu.ren_chunk | exact Mt.ren_bun _ _ | exact Bu.ren_bz | exact ren_ez | exact ren_bun3)) (hb0) (by first | exact ints_lf _ _ | exact fun x hx d hd => by obtain ⟨b, _, rfl⟩ := List.mem_map.1 hx; exact bz_lf b d hd) rfl (by first | (simp only [nf, Nat.beq] <;> rfl) | rfl) ?_
      refine n_assign rfl (by first | (simp only [nf, Nat.beq] <;> rfl) | rfl) ?_
      refine AOps.nil ?_
      refine AWP.seq ?_
      refine AWP.seq ?_
      refine AWP.region ?_
      refine n_assign rfl (by first | (simp only [nf, Nat.beq] <;> rfl) | rfl) ?_
      refine AOps.nil ?_
      refine AWP.block ?_
      refine AWP.loopX 2 (α := Nat) (fun n => 3 * n ≤ (valid es).length + 2) (fun n => put (put (put (put empty 1 (.sl none (ints .u16 ns) .ro)) 5 (.sl none ((valid es).map ez) (.own 0))) 8 (.sl none ((pile (valid es) n).map bz) (.own 1))) 9 (vi ((3 * n : Nat) : Int))) (fun n => [.row (valid es).length 4, .row (pile (valid es) n).length 3]) (fun n => (valid es).length + 3 - 3 * n) 0 ?_ ?_ ?_ ?_ ?_ ?_ ?_
      · omega
      · (repeat (first | exact FLe.empty _ | refine FLe.put ?_ ?_)) <;> first | (simp only [nf, Nat.beq]; done) | rfl | ((try simp only [nf, Nat.beq]); first | rfl | (rw [pile]; done) | (simp only [List.length_map]; done) | (congr 2; omega; done))
      · rw [pile]
      · exact fun _ => rfl
      · intro p hp; (try dsimp only); (repeat' (refine un_put ?_ ?_)) <;> first | exact un_empty | exact .bp (by decide) | exact .lf (D.flat_lf rfl) | exact .lf (lf_ints (.inl rfl)) | exact .lf (lf_ints (.inl rfl)) | exact .sl (fun x hx d hd => by obtain ⟨b, _, rfl⟩ := List.mem_map.1 hx; exact .lf (bz_lf b d hd)) (fun l e => by cases e; decide) | exact .sl (fun x hx d hd => by obtain ⟨b, _, rfl⟩ := List.mem_map.1 hx; exact .lf (flats_lf (by rfl) d hd)) (fun l e => by cases e; decide)
      · intro p hp; (try dsimp only); repeat' (first | exact un_nil | refine un_cons ?_ ?_ | exact un_box rfl | exact trivial)
      · intro n hn3
        try dsimp only at hn3 ⊢
        refine AWP.seq ?_
        refine AWP.seq ?_
        refine AWP.region ?_
        refine n_move rfl (by first | (simp only [nf, Nat.beq] <;> rfl) | rfl) ?_
        refine n_move rfl (by first | (simp only [nf, Nat.beq] <;> rfl) | rfl) ?_
        refine n_len rfl Try.underlying53 (by first | (simp only [nf, Nat.beq] <;> rfl) | rfl) (by first | rw [ints_length] | rw [List.length_map] | rfl) ?_
        refine n_ibin rfl (by first | (simp only [nf, Nat.beq] <;> rfl) | rfl) (by first | (simp only [nf, Nat.beq] <;> rfl) | rfl) rfl ?_
        refine AOps.nil ?_
        refine AWP.cond (by first | (simp only [nf, Nat.beq] <;> rfl) | rfl) (fun hc4 => ?_) (fun hc4 => ?_)
        · try simp only [nh] at hc4
          have hdl : ((valid es).drop (3 * n)).length ≤ 1048576 := by rw [List.length_drop]; omega
          have hbi := Bu.bundles 1 ((3 * n : Nat) : Int) ((valid es).drop (3 * n)) (by omega) hdl
          have hp1 := pile_len' hL (n := n) (by omega)
          have hp2 := pile_len' hL (n := n + 1) (by omega)
          rw [pile, List.length_append] at hp2
          refine AWP.skip ?_
          refine AWP.seq ?_
          refine AWP.block ?_
          refine AWP.region ?_
          refine n_move rfl (by first | (simp only [nf, Nat.beq] <;> rfl) | rfl) ?_
          refine n_move rfl (by first | (simp only [nf, Nat.beq] <;> rfl) | rfl) ?_
          refine n_move rfl (by first | (simp only [nf, Nat.beq] <;> rfl) | rfl) ?_
          refine n_move rfl (by first | (simp only [nf, Nat.beq] <;> rfl) | rfl) ?_
          refine n_slice (h := ((valid es).map ez).length) (k := 3 * n) (ys := ((valid es).drop (3 * n)).map ez) rfl Try.underlying53 ti56 (by first | (simp only [nf, Nat.beq] <;> rfl) | rfl) SB.none (SB.some (by first | (simp only [nf, Nat.beq] <;> rfl) | rfl) (by omega)) (by rw [List.length_map]; omega) (Nat.le_refl _) (by exact map_one (f := ez) (fun _ => rfl)) (by rw [List.take_length, ← List.map_drop]) ?_
          refine n_callOwnB rfl cf96 rfl (Eq.trans (by simp only [nl] <;> rfl) (by first | (simp only [nf, Nat.beq] <;> rfl) | rfl)) (by repeat (first | exact .nil | refine .cons ?_ ?_ | exact ren_ints | exact .lf (.val _) | exact .lf (lf_ints (.inl rfl)) | exact .bp ⟨rfl, rfl⟩ | exact .bp (.inl ⟨rfl, rfl⟩) | exact .bp (.inr ⟨rfl, rfl⟩) | exact .lf (D.flat_lf rfl) | exact ren_map (f := ez) (fun _ => rfl) | exact .lf (.agg (bz_lf _)) | exact ren_mapG (f := bz) bz_lf | exact .lf (lf_fn2 (lf_rp1 (f := ez) (fun _ => rfl)) lf_vi) | exact .lf (lf_fn3 lf_vi (lf_rp1 (f := ez) (fun _ => rfl)) lf_vi) | exact Bu.ren_chunk | exact Mt.ren_bun _ _ | exact Bu.ren_bz | exact ren_ez | exact ren_bun3)) (hbi) (by first | exact ints_lf _ _ | exact fun x hx d hd => by obtain ⟨b, _, rfl⟩ := List.mem_map.1 hx; exact bz_lf b d hd) rfl (by first | (simp only [nf, Nat.beq] <;> rfl) | rfl) ?_
          refine n_append_own (l0 := 1) (zs := (pile (valid es) n ++ bun 1 ((3 * n : Nat) : Int) ((valid es).drop (3 * n))).map bz) (m := (pile (valid es) n).length + (bun 1 ((3 * n : Nat) : Int) ((valid es).drop (3 * n))).length) rfl Try.underlying115 Try.underlying115 ei67 (by first | (simp only [nf, Nat.beq] <;> rfl) | rfl) rfl (by simp only [List.length_map]) (by first | (simp only [nf, Nat.beq] <;> rfl) | rfl) (by exact map_one (f := bz) (fun _ => rfl)) (by exact map_one (f := bz) (fun _ => rfl)) (by rw [List.map_append]) (by simp) (by omega) (by first | (simp only [nf, Nat.beq] <;> rfl) | rfl) ?_
          refine n_assign rfl (by first | (simp only [nf, Nat.beq] <;> rfl) | rfl) ?_
          refine AOps.nil ?_
          refine AWP.region ?_
          refine n_move rfl (by first | (simp only [nf, Nat.beq] <;> rfl) | rfl) ?_
          first | refine n_iadd rfl (by first | (simp only [nf, Nat.beq] <;> rfl) | rfl) (by first | (simp only [nf, Nat.beq] <;> rfl) | rfl) rfl (by omega) (by omega) ?_ | refine n_ibin rfl (by first | (simp only [nf, Nat.beq] <;> rfl) | rfl) (by first | (simp only [nf, Nat.beq] <;> rfl) | rfl) rfl ?_
          refine n_assign rfl (by first | (simp only [nf, Nat.beq] <;> rfl) | rfl) ?_
          refine AOps.nil ?_
          refine ⟨n + 1, [.row (bun 1 ((3 * n : Nat) : Int) ((valid es).drop (3 * n))).length 3], by omega, ?_, ?_, by omega⟩
          · (repeat (first | exact FLe.empty _ | refine FLe.put ?_ ?_)) <;> first | (simp only [nf, Nat.beq]; done) | rfl | ((try simp only [nf, Nat.beq]); first | rfl | (rw [pile]; done) | (congr 2; omega; done))
          · rw [pile, List.length_append]; rfl
        · try simp only [nh] at hc4
          have hpp := pile_piece (V := (valid es)) n hn3
          refine AWP.exit ?_
          refine AWP.seq ?_
          refine AWP.region ?_
          refine n_assign rfl (by first | (simp only [nf, Nat.beq] <;> rfl) | rfl) ?_
          refine AOps.nil ?_
          refine AWP.seq ?_
          refine AWP.seq ?_
          refine AWP.adopt (t := 10) (m := 0) (S' := [.row (valid es).length 4, .row (pile (valid es) n).length 3, .row 0 4]) (by rfl) rfl rfl rfl ?_
          refine AWP.region ?_
          refine n_move rfl (by first | (simp only [nf, Nat.beq] <;> rfl) | rfl) ?_
          refine n_len rfl Try.underlying119 (by first | (simp only [nf, Nat.beq] <;> rfl) | rfl) (by first | rw [ints_length] | rw [List.length_map] | rfl) ?_
          refine n_move rfl (by first | (simp only [nf, Nat.beq] <;> rfl) | rfl) ?_
          refine AOps.nil ?_
          refine AWP.block ?_
          refine AWP.loop (α := Nat × Nat) (fun p => p.1 ≤ ns.length ∧ p.2 ≤ (valid es).length) (fun p => put (put (put (put (put (put empty 5 (.sl none ((valid es).map ez) (.own 0))) 8 (.sl none ((pile (valid es) n).map bz) (.own 1))) 10 (.sl none (((valid es).take p.2).map ez) (.own 2))) 46 (.sl none (ints .u16 ns) .ro)) 47 (vi (ns.length : Int))) 48 (vi (p.1 : Int))) (fun p => [.row (valid es).length 4, .row (pile (valid es) n).length 3, .row ((valid es).take p.2).length 4]) (fun p => ns.length - p.1) (0, 0) ?_ ?_ ?_ ?_
          · exact ⟨Nat.zero_le _, Nat.zero_le _⟩
          · (repeat (first | exact FLe.empty _ | refine FLe.put ?_ ?_)) <;> first | (simp only [nf, Nat.beq]; done) | rfl | ((try simp only [nf, Nat.beq]); first | rfl | (simp only [ints_length]; done) | (congr 2; omega; done))
          · rfl
          · rintro ⟨i, g⟩ ⟨hi, hg⟩
            dsimp only at hi hg ⊢
            refine AWP.seq ?_
            refine AWP.region ?_
            refine n_ibin rfl (by first | (simp only [nf, Nat.beq] <;> rfl) | rfl) (by first | (simp only [nf, Nat.beq] <;> rfl) | rfl) rfl ?_
            refine AOps.nil ?_
            refine AWP.seq ?_
            refine AWP.cond (by first | (simp only [nf, Nat.beq] <;> rfl) | rfl) (fun hc5 => ?_) (fun hc5 => ?_)
            · try simp only [nh] at hc5
              obtain ⟨m, hm⟩ : ∃ m : Nat, ns.getD i 0 = (m : Int) := ⟨(ns.getD i 0).toNat, by have := hns (ns.getD i 0) (by rw [List.getD_eq_getElem?_getD, List.getElem?_eq_getElem (by omega)]; exact List.getElem_mem _); omega⟩
              have hmb : m ≤ 65535 := by have := hns (ns.getD i 0) (by rw [List.getD_eq_getElem?_getD, List.getElem?_eq_getElem (by omega)]; exact List.getElem_mem _); omega
              refine AWP.skip ?_
              refine AWP.seq ?_
              refine AWP.block ?_
              refine AWP.seq ?_
              refine AWP.region ?_
              refine n_indexAddr rfl Try.underlying119 ti120 rfl (by first | (simp only [nf, Nat.beq] <;> rfl) | rfl) (by first | (simp only [nf, Nat.beq] <;> rfl) | rfl) (by omega) (by have h9 := ints_at .u16 ns i (by omega); rw [hm] at h9; exact h9) rfl ?_
              refine n_load rfl ti120 (by first | (simp only [nf, Nat.beq] <;> rfl) | rfl) (by first | (simp only [nf, Nat.beq] <;> rfl) | rfl) rfl (by first | (simp only [nf, Nat.beq] <;> rfl) | rfl) ?_
              refine n_assign rfl (by first | (simp only [nf, Nat.beq] <;> rfl) | rfl) ?_
              refine AOps.nil ?_
              refine AWP.seq ?_
              refine AWP.seq ?_
              refine AWP.region ?_
              refine n_move rfl (by first | (simp only [nf, Nat.beq] <;> rfl) | rfl) ?_
              refine n_len rfl Try.underlying115 (by first | (simp only [nf, Nat.beq] <;> rfl) | rfl) (by first | rw [ints_length] | rw [List.length_map] | rfl) ?_
              refine n_ibin rfl (by first | (simp only [nf, Nat.beq] <;> rfl) | rfl) (by first | (simp only [nf, Nat.beq] <;> rfl) | rfl) rfl ?_
              refine AOps.nil ?_
              refine AWP.cond (by first | (simp only [nf, Nat.beq] <;> rfl) | rfl) (fun hc6 => ?_) (fun hc6 => ?_)
              · try simp only [nh] at hc6
                refine AWP.seq ?_
                refine AWP.region ?_
                refine n_assign rfl (by first | (simp only [nf, Nat.beq] <;> rfl) | rfl) ?_
                refine AOps.nil ?_
                refine AWP.ret ?_
                refine fin_pure (.cons (rv_tmp (by first | (simp only [nf, Nat.beq] <;> rfl) | rfl)) .nil) (by first | (simp only [nf, Nat.beq] <;> rfl) | rfl) ?_
                first | exact ren_flat rfl rfl | exact ren_flat rfl (congrArg vb (by simp))
              · try simp only [nh] at hc6
                have hpn : (pile (valid es) n).length ≠ 0 := by intro h; rw [h] at hc6; simp at hc6
                have hml := Nat.mod_lt m (Nat.pos_of_ne_zero hpn)
                obtain ⟨b, hbj⟩ : ∃ b, (pile (valid es) n)[m % (pile (valid es) n).length]? = some b := ⟨_, List.getElem?_eq_getElem hml⟩
                have hpb := hpp b (List.mem_of_getElem? hbj)
                have hbl := piece_len hpb
                have hac := Mi.l_accept (((valid es).take g).length : Int) b.1 b.2.1 b.2.2 (by omega)
                obtain ⟨r, hr⟩ : ∃ r, r = accept (((valid es).take g).length : Int) b.1 b.2.1 b.2.2 := ⟨_, rfl⟩
                rw [← hr] at hac
                have hal := acc_len (((valid es).take g).length : Int) b.1 b.2.1 b.2.2
                rw [← hr] at hal
                refine AWP.skip ?_
                refine AWP.seq ?_
                refine AWP.seq ?_
                refine AWP.region ?_
                refine n_move rfl (by first | (simp only [nf, Nat.beq] <;> rfl) | rfl) ?_
                refine n_len rfl Try.underlying53 (by first | (simp only [nf, Nat.beq] <;> rfl) | rfl) (by first | rw [ints_length] | rw [List.length_map] | rfl) ?_
                refine n_move rfl (by first | (simp only [nf, Nat.beq] <;> rfl) | rfl) ?_
                refine n_move rfl (by first | (simp only [nf, Nat.beq] <;> rfl) | rfl) ?_
                first | refine n_conv rfl (by first | (simp only [nf, Nat.beq] <;> rfl) | rfl) (by rw [Try.underlying120]; rfl) Try.underlying3 (wrap_id (by first | omega | (simp only [loK]; omega)) (by first | omega | (simp only [hiK]; omega))) ?_ | refine n_conv rfl (by first | (simp only [nf, Nat.beq] <;> rfl) | rfl) (by rw [Try.underlying120]; rfl) Try.underlying3 rfl ?_
                refine n_move rfl (by first | (simp only [nf, Nat.beq] <;> rfl) | rfl) ?_
                refine n_len rfl Try.underlying115 (by first | (simp only [nf, Nat.beq] <;> rfl) | rfl) (by first | rw [ints_length] | rw [List.length_map] | rfl) ?_
                refine n_rem (c := ((m % (pile (valid es) n).length : Nat) : Int)) rfl (by first | (simp only [nf, Nat.beq] <;> rfl) | rfl) (by first | (simp only [nf, Nat.beq] <;> rfl) | rfl) (by omega) (by rw [Int.tmod_eq_emod_of_nonneg (by omega)]; exact (Int.natCast_emod _ _).symm) ?_
                refine n_indexAddr rfl Try.underlying115 ti67 rfl (by first | (simp only [nf, Nat.beq] <;> rfl) | rfl) (by first | (simp only [nf, Nat.beq] <;> rfl) | rfl) (by omega) (map_at bz hbj) rfl ?_
                refine n_load rfl ti67 (by first | (simp only [nf, Nat.beq] <;> rfl) | rfl) (by first | (simp only [nf, Nat.beq] <;> rfl) | rfl) rfl (by first | (simp only [nf, Nat.beq] <;> rfl) | rfl) ?_
                refine n_call0B rfl cf59 rfl (Eq.trans (by simp only [nl] <;> rfl) (by first | (simp only [nf, Nat.beq] <;> rfl) | rfl)) (by repeat (first | exact .nil | refine .cons ?_ ?_ | exact ren_ints | exact .lf (.val _) | exact .lf (lf_ints (.inl rfl)) | exact .bp ⟨rfl, rfl⟩ | exact .bp (.inl ⟨rfl, rfl⟩) | exact .bp (.inr ⟨rfl, rfl⟩) | exact .lf (D.flat_lf rfl) | exact ren_map (f := ez) (fun _ => rfl) | exact .lf (.agg (bz_lf _)) | exact ren_mapG (f := bz) bz_lf | exact .lf (lf_fn2 (lf_rp1 (f := ez) (fun _ => rfl)) lf_vi) | exact .lf (lf_fn3 lf_vi (lf_rp1 (f := ez) (fun _ => rfl)) lf_vi) | exact Bu.ren_chunk | exact Mt.ren_bun _ _ | exact Bu.ren_bz | exact ren_ez | exact ren_bun3)) (hac) (by first | exact .val _ | exact lf_ints (.inl rfl) | exact lf_ints (.inr rfl) | exact .any | exact D.flat_lf rfl | exact .tup (lf_cons (lf_map (f := ez) (fun _ => rfl) (.inl rfl)) (lf_cons (.val _) lf_nil)) | exact lf_map (f := ez) (fun _ => rfl) (.inl rfl) | exact lf_mapG (f := bz) bz_lf (.inl rfl) | exact lf_fn2 (lf_rp1 (f := ez) (fun _ => rfl)) lf_vi | exact lf_fn3 lf_vi (lf_rp1 (f := ez) (fun _ => rfl)) lf_vi) ?_
                refine n_move rfl (by first | (simp only [nf, Nat.beq] <;> rfl) | rfl) ?_
                refine n_extract rfl (by first | (simp only [nf, Nat.beq] <;> rfl) | rfl) rfl ?_
                refine n_extract rfl (by first | (simp only [nf, Nat.beq] <;> rfl) | rfl) rfl ?_
                refine n_assign rfl (by first | (simp only [nf, Nat.beq] <;> rfl) | rfl) ?_
                refine n_assign rfl (by first | (simp only [nf, Nat.beq] <;> rfl) | rfl) ?_
                refine AOps.nil ?_
                refine AWP.seq ?_
                refine AWP.region ?_
                refine n_move rfl (by first | (simp only [nf, Nat.beq] <;> rfl) | rfl) ?_
                refine n_ibin rfl (by first | (simp only [nf, Nat.beq] <;> rfl) | rfl) (by first | (simp only [nf, Nat.beq] <;> rfl) | rfl) rfl ?_
                refine AOps.nil ?_
                refine AWP.cond (by first | (simp only [nf, Nat.beq] <;> rfl) | rfl) (fun hc7 => ?_) (fun hc7 => ?_)
                · try simp only [nh] at hc7
                  obtain ⟨g2, hg2, hgl, htk⟩ := acc_piece hpb hg hr hc7
                  have hlg : ((valid es).take g2).length = g2 := by rw [List.length_take]; omega
                  have hse := Mt.eq_en ((valid es).take g2) (by omega)
                  refine AWP.region ?_
                  refine n_move rfl (by first | (simp only [nf, Nat.beq] <;> rfl) | rfl) ?_
                  refine n_move rfl (by first | (simp only [nf, Nat.beq] <;> rfl) | rfl) ?_
                  refine n_append_own (zs := ((valid es).take g2).map ez) (m := ((valid es).take g2).length) rfl Try.underlying53 Try.underlying53 ei56 (by first | (simp only [nf, Nat.beq] <;> rfl) | rfl) (by first | (simp only [nf, Nat.beq] <;> rfl) | rfl) (by simp only [List.length_map]) (by first | (simp only [nf, Nat.beq] <;> rfl) | rfl) (by exact map_one (f := ez) (fun _ => rfl)) (by exact map_one (f := ez) (fun _ => rfl)) (by rw [← List.map_append, htk]) (by rw [← htk]; simp) (by rw [hlg]; omega) (by first | (simp only [nf, Nat.beq] <;> rfl) | rfl) ?_
                  refine n_assign rfl (by first | (simp only [nf, Nat.beq] <;> rfl) | rfl) ?_
                  refine AOps.nil ?_
                  refine AWP.seq ?_
                  refine AWP.region ?_
                  refine n_move rfl (by first | (simp only [nf, Nat.beq] <;> rfl) | rfl) ?_
                  refine n_len rfl Try.underlying53 (by first | (simp only [nf, Nat.beq] <;> rfl) | rfl) (by first | rw [ints_length] | rw [List.length_map] | rfl) ?_
                  refine n_move rfl (by first | (simp only [nf, Nat.beq] <;> rfl) | rfl) ?_
                  refine n_len rfl Try.underlying53 (by first | (simp only [nf, Nat.beq] <;> rfl) | rfl) (by first | rw [ints_length] | rw [List.length_map] | rfl) ?_
                  refine n_ibin rfl (by first | (simp only [nf, Nat.beq] <;> rfl) | rfl) (by first | (simp only [nf, Nat.beq] <;> rfl) | rfl) rfl ?_
                  refine n_move rfl (by first | (simp only [nf, Nat.beq] <;> rfl) | rfl) ?_
                  refine AOps.name (u := 79) (fun z => .val (.bool z)) (by first | (simp only [nf, Nat.beq] <;> rfl) | rfl) (fun b79 hb79 => ?_)
                  refine n_soft (u := 79) (E := .val (.bool b79)) (!b79) rfl rfl rfl (by first | (simp only [nf, Nat.beq] <;> rfl) | rfl) (by cases b79 <;> first | (intro _; rfl) | (intro h; exact absurd h (by decide))) (by cases b79 <;> first | (intro h; exact absurd h (by decide)) | (intro _; exact ⟨_, rfl, by first | (intro h; cases h; done) | decide | simp⟩)) (fun h => by
                      cases b79 with
                      | true => exact absurd h (by first | decide | simp)
                      | false =>
                        refine n_move rfl (by first | (simp only [nf, Nat.beq] <;> rfl) | rfl) ?_
                        exact AOps.nil ⟨rfl, rfl, rfl⟩) ?_
                  refine n_soft (u := 79) (E := .val (.bool b79)) (!b79) rfl rfl rfl (by first | (simp only [nf, Nat.beq] <;> rfl) | rfl) (by cases b79 <;> first | (intro _; rfl) | (intro h; exact absurd h (by decide))) (by cases b79 <;> first | (intro h; exact absurd h (by decide)) | (intro _; exact ⟨_, rfl, by first | (intro h; cases h; done) | decide | simp⟩)) (fun h => by
                      cases b79 with
                      | true => exact absurd h (by first | decide | simp)
                      | false =>
                        refine n_move rfl (by first | (simp only [nf, Nat.beq] <;> rfl) | rfl) ?_
                        exact AOps.nil ⟨rfl, rfl, rfl⟩) ?_
                  refine n_soft (u := 79) (E := .val (.bool b79)) (!b79) rfl rfl rfl (by first | (simp only [nf, Nat.beq] <;> rfl) | rfl) (by cases b79 <;> first | (intro _; rfl) | (intro h; exact absurd h (by decide))) (by cases b79 <;> first | (intro h; exact absurd h (by decide)) | (intro _; exact ⟨_, rfl, by first | (intro h; cases h; done) | decide | simp⟩)) (fun h => by
                      cases b79 with
                      | true => exact absurd h (by first | decide | simp)
                      | false =>
                        refine n_move rfl (by first | (simp only [nf, Nat.beq] <;> rfl) | rfl) ?_
                        exact AOps.nil ⟨rfl, rfl, rfl⟩) ?_
                  refine n_soft (u := 79) (E := .val (.bool b79)) (!b79) rfl rfl rfl (by first | (simp only [nf, Nat.beq] <;> rfl) | rfl) (by cases b79 <;> first | (intro _; rfl) | (intro h; exact absurd h (by decide))) (by cases b79 <;> first | (intro h; exact absurd h (by decide)) | (intro _; exact ⟨_, rfl, by first | (intro h; cases h; done) | decide | simp⟩)) (fun h => by
                      cases b79 with
                      | true => exact absurd h (by first | decide | simp)
                      | false =>
                        refine n_len rfl Try.underlying53 (by first | (simp only [nf, Nat.beq] <;> rfl) | rfl) (by first | rw [ints_length] | rw [List.length_map] | rfl) ?_
                        exact AOps.nil ⟨rfl, rfl, rfl⟩) ?_
                  refine n_soft (u := 79) (E := .val (.bool b79)) (!b79) rfl rfl rfl (by first | (simp only [nf, Nat.beq] <;> rfl) | rfl) (by cases b79 <;> first | (intro _; rfl) | (intro h; exact absurd h (by decide))) (by cases b79 <;> first | (intro h; exact absurd h (by decide)) | (intro _; exact ⟨_, rfl, by first | (intro h; cases h; done) | decide | simp⟩)) (fun h => by
                      cases b79 with
                      | true => exact absurd h (by first | decide | simp)
                      | false =>
                        refine n_slice (h := ((valid es).take g2).length) (k := 0) (ys := ((valid es).take g2).map ez) rfl Try.underlying53 ti56 (by first | (simp only [nf, Nat.beq] <;> rfl) | rfl) (SB.some (by first | (simp only [nf, Nat.beq] <;> rfl) | rfl) (by omega)) SB.none (by omega) (by rw [List.length_map, hlg]; exact hgl) (by exact map_one (f := ez) (fun _ => rfl)) (by rw [List.drop_zero, ← List.map_take, hlg]) ?_
                        exact AOps.nil ⟨rfl, rfl, rfl⟩) ?_
                  refine n_soft (u := 79) (E := .val (.bool b79)) (!b79) rfl rfl rfl (by first | (simp only [nf, Nat.beq] <;> rfl) | rfl) (by cases b79 <;> first | (intro _; rfl) | (intro h; exact absurd h (by decide))) (by cases b79 <;> first | (intro h; exact absurd h (by decide)) | (intro _; exact ⟨_, rfl, by first | (intro h; cases h; done) | decide | simp⟩)) (fun h => by
                      cases b79 with
                      | true => exact absurd h (by first | decide | simp)
                      | false =>
                        refine n_call0B rfl cf63 rfl (Eq.trans (by simp only [nl] <;> rfl) (by first | (simp only [nf, Nat.beq] <;> rfl) | rfl)) (by repeat (first | exact .nil | refine .cons ?_ ?_ | exact ren_ints | exact .lf (.val _) | exact .lf (lf_ints (.inl rfl)) | exact .bp ⟨rfl, rfl⟩ | exact .bp (.inl ⟨rfl, rfl⟩) | exact .bp (.inr ⟨rfl, rfl⟩) | exact .lf (D.flat_lf rfl) | exact ren_map (f := ez) (fun _ => rfl) | exact .lf (.agg (bz_lf _)) | exact ren_mapG (f := bz) bz_lf | exact .lf (lf_fn2 (lf_rp1 (f := ez) (fun _ => rfl)) lf_vi) | exact .lf (lf_fn3 lf_vi (lf_rp1 (f := ez) (fun _ => rfl)) lf_vi) | exact Bu.ren_chunk | exact Mt.ren_bun _ _ | exact Bu.ren_bz | exact ren_ez | exact ren_bun3)) (hse) (by first | exact .val _ | exact lf_ints (.inl rfl) | exact lf_ints (.inr rfl) | exact .any | exact D.flat_lf rfl | exact .tup (lf_cons (lf_map (f := ez) (fun _ => rfl) (.inl rfl)) (lf_cons (.val _) lf_nil)) | exact lf_map (f := ez) (fun _ => rfl) (.inl rfl) | exact lf_mapG (f := bz) bz_lf (.inl rfl) | exact lf_fn2 (lf_rp1 (f := ez) (fun _ => rfl)) lf_vi | exact lf_fn3 lf_vi (lf_rp1 (f := ez) (fun _ => rfl)) lf_vi) ?_
                        exact AOps.nil ⟨rfl, rfl, rfl⟩) ?_
                  refine n_soft (u := 79) (E := .val (.bool b79)) (!b79) rfl rfl rfl (by first | (simp only [nf, Nat.beq] <;> rfl) | rfl) (by cases b79 <;> first | (intro _; rfl) | (intro h; exact absurd h (by decide))) (by cases b79 <;> first | (intro h; exact absurd h (by decide)) | (intro _; exact ⟨_, rfl, by first | (intro h; cases h; done) | decide | simp⟩)) (fun h => by
                      cases b79 with
                      | true => exact absurd h (by first | decide | simp)
                      | false =>
                        refine n_not rfl (by first | (simp only [nf, Nat.beq] <;> rfl) | rfl) rfl ?_
                        exact AOps.nil ⟨rfl, rfl, rfl⟩) ?_
                  refine n_pick_or rfl (by first | (simp only [nf, Nat.beq] <;> rfl) | rfl) (fun h => by cases b79 with | true => exact absurd h (by decide) | false => exact (by first | (simp only [nf, Nat.beq] <;> rfl) | rfl)) ?_
                  subst hb79
                  refine AOps.nil ?_
                  refine AWP.cond (by first | (simp only [nf, Nat.beq] <;> rfl) | rfl) (fun hc8 => ?_) (fun hc8 => ?_)
                  · try simp only [nh] at hc8
                    exfalso
                    simp [hlg] at hc8
                    try omega
                  · try simp only [nh] at hc8
                    refine AWP.skip ?_
                    refine AWP.region ?_
                    first | refine n_iadd rfl (by first | (simp only [nf, Nat.beq] <;> rfl) | rfl) (by first | (simp only [nf, Nat.beq] <;> rfl) | rfl) rfl (by omega) (by omega) ?_ | refine n_ibin rfl (by first | (simp only [nf, Nat.beq] <;> rfl) | rfl) (by first | (simp only [nf, Nat.beq] <;> rfl) | rfl) rfl ?_
                    refine n_move rfl (by first | (simp only [nf, Nat.beq] <;> rfl) | rfl) ?_
                    refine AOps.nil ?_
                    refine ⟨(i + 1, g2), ⟨by dsimp only; omega, by dsimp only; omega⟩, ?_, rfl, by dsimp only; omega⟩
                    (repeat (first | exact FLe.empty _ | refine FLe.put ?_ ?_)) <;> first | (simp only [nf, Nat.beq]; done) | rfl | ((try simp only [nf, Nat.beq]); first | rfl | (congr 2; omega; done))
                · try simp only [nh] at hc7
                  obtain ⟨g2, hg2⟩ : ∃ g2, g2 = g := ⟨_, rfl⟩
                  subst hg2
                  have hgl := hg
                  have hlg : ((valid es).take g2).length = g2 := by rw [List.length_take]; omega
                  have hse := Mt.eq_en ((valid es).take g2) (by omega)
                  refine AWP.skip ?_
                  refine AWP.seq ?_
                  refine AWP.region ?_
                  refine n_move rfl (by first | (simp only [nf, Nat.beq] <;> rfl) | rfl) ?_
                  refine n_len rfl Try.underlying53 (by first | (simp only [nf, Nat.beq] <;> rfl) | rfl) (by first | rw [ints_length] | rw [List.length_map] | rfl) ?_
                  refine n_move rfl (by first | (simp only [nf, Nat.beq] <;> rfl) | rfl) ?_
                  refine n_len rfl Try.underlying53 (by first | (simp only [nf, Nat.beq] <;> rfl) | rfl) (by first | rw [ints_length] | rw [List.length_map] | rfl) ?_
                  refine n_ibin rfl (by first | (simp only [nf, Nat.beq] <;> rfl) | rfl) (by first | (simp only [nf, Nat.beq] <;> rfl) | rfl) rfl ?_
                  refine n_move rfl (by first | (simp only [nf, Nat.beq] <;> rfl) | rfl) ?_
                  refine AOps.name (u := 79) (fun z => .val (.bool z)) (by first | (simp only [nf, Nat.beq] <;> rfl) | rfl) (fun b79 hb79 => ?_)
                  refine n_soft (u := 79) (E := .val (.bool b79)) (!b79) rfl rfl rfl (by first | (simp only [nf, Nat.beq] <;> rfl) | rfl) (by cases b79 <;> first | (intro _; rfl) | (intro h; exact absurd h (by decide))) (by cases b79 <;> first | (intro h; exact absurd h (by decide)) | (intro _; exact ⟨_, rfl, by first | (intro h; cases h; done) | decide | simp⟩)) (fun h => by
                      cases b79 with
                      | true => exact absurd h (by first | decide | simp)
                      | false =>
                        refine n_move rfl (by first | (simp only [nf, Nat.beq] <;> rfl) | rfl) ?_
                        exact AOps.nil ⟨rfl, rfl, rfl⟩) ?_
                  refine n_soft (u := 79) (E := .val (.bool b79)) (!b79) rfl rfl rfl (by first | (simp only [nf, Nat.beq] <;> rfl) | rfl) (by cases b79 <;> first | (intro _; rfl) | (intro h; exact absurd h (by decide))) (by cases b79 <;> first | (intro h; exact absurd h (by decide)) | (intro _; exact ⟨_, rfl, by first | (intro h; cases h; done) | decide | simp⟩)) (fun h => by
                      cases b79 with
                      | true => exact absurd h (by first | decide | simp)
                      | false =>
                        refine n_move rfl (by first | (simp only [nf, Nat.beq] <;> rfl) | rfl) ?_
                        exact AOps.nil ⟨rfl, rfl, rfl⟩) ?_
                  refine n_soft (u := 79) (E := .val (.bool b79)) (!b79) rfl rfl rfl (by first | (simp only [nf, Nat.beq] <;> rfl) | rfl) (by cases b79 <;> first | (intro _; rfl) | (intro h; exact absurd h (by decide))) (by cases b79 <;> first | (intro h; exact absurd h (by decide)) | (intro _; exact ⟨_, rfl, by first | (intro h; cases h; done) | decide | simp⟩)) (fun h => by
                      cases b79 with
                      | true => exact absurd h (by first | decide | simp)
                      | false =>
                        refine n_move rfl (by first | (simp only [nf, Nat.beq] <;> rfl) | rfl) ?_
                        exact AOps.nil ⟨rfl, rfl, rfl⟩) ?_
                  refine n_soft (u := 79) (E := .val (.bool b79)) (!b79) rfl rfl rfl (by first | (simp only [nf, Nat.beq] <;> rfl) | rfl) (by cases b79 <;> first | (intro _; rfl) | (intro h; exact absurd h (by decide))) (by cases b79 <;> first | (intro h; exact absurd h (by decide)) | (intro _; exact ⟨_, rfl, by first | (intro h; cases h; done) | decide | simp⟩)) (fun h => by
                      cases b79 with
                      | true => exact absurd h (by first | decide | simp)
                      | false =>
                        refine n_len rfl Try.underlying53 (by first | (simp only [nf, Nat.beq] <;> rfl) | rfl) (by first | rw [ints_length] | rw [List.length_map] | rfl) ?_
                        exact AOps.nil ⟨rfl, rfl, rfl⟩) ?_
                  refine n_soft (u := 79) (E := .val (.bool b79)) (!b79) rfl rfl rfl (by first | (simp only [nf, Nat.beq] <;> rfl) | rfl) (by cases b79 <;> first | (intro _; rfl) | (intro h; exact absurd h (by decide))) (by cases b79 <;> first | (intro h; exact absurd h (by decide)) | (intro _; exact ⟨_, rfl, by first | (intro h; cases h; done) | decide | simp⟩)) (fun h => by
                      cases b79 with
                      | true => exact absurd h (by first | decide | simp)
                      | false =>
                        refine n_slice (h := ((valid es).take g2).length) (k := 0) (ys := ((valid es).take g2).map ez) rfl Try.underlying53 ti56 (by first | (simp only [nf, Nat.beq] <;> rfl) | rfl) (SB.some (by first | (simp only [nf, Nat.beq] <;> rfl) | rfl) (by omega)) SB.none (by omega) (by rw [List.length_map, hlg]; exact hgl) (by exact map_one (f := ez) (fun _ => rfl)) (by rw [List.drop_zero, ← List.map_take, hlg]) ?_
                        exact AOps.nil ⟨rfl, rfl, rfl⟩) ?_
                  refine n_soft (u := 79) (E := .val (.bool b79)) (!b79) rfl rfl rfl (by first | (simp only [nf, Nat.beq] <;> rfl) | rfl) (by cases b79 <;> first | (intro _; rfl) | (intro h; exact absurd h (by decide))) (by cases b79 <;> first | (intro h; exact absurd h (by decide)) | (intro _; exact ⟨_, rfl, by first | (intro h; cases h; done) | decide | simp⟩)) (fun h => by
                      cases b79 with
                      | true => exact absurd h (by first | decide | simp)
                      | false =>
                        refine n_call0B rfl cf63 rfl (Eq.trans (by simp only [nl] <;> rfl) (by first | (simp only [nf, Nat.beq] <;> rfl) | rfl)) (by repeat (first | exact .nil | refine .cons ?_ ?_ | exact ren_ints | exact .lf (.val _) | exact .lf (lf_ints (.inl rfl)) | exact .bp ⟨rfl, rfl⟩ | exact .bp (.inl ⟨rfl, rfl⟩) | exact .bp (.inr ⟨rfl, rfl⟩) | exact .lf (D.flat_lf rfl) | exact ren_map (f := ez) (fun _ => rfl) | exact .lf (.agg (bz_lf _)) | exact ren_mapG (f := bz) bz_lf | exact .lf (lf_fn2 (lf_rp1 (f := ez) (fun _ => rfl)) lf_vi) | exact .lf (lf_fn3 lf_vi (lf_rp1 (f := ez) (fun _ => rfl)) lf_vi) | exact Bu.ren_chunk | exact Mt.ren_bun _ _ | exact Bu.ren_bz | exact ren_ez | exact ren_bun3)) (hse) (by first | exact .val _ | exact lf_ints (.inl rfl) | exact lf_ints (.inr rfl) | exact .any | exact D.flat_lf rfl | exact .tup (lf_cons (lf_map (f := ez) (fun _ => rfl) (.inl rfl)) (lf_cons (.val _) lf_nil)) | exact lf_map (f := ez) (fun _ => rfl) (.inl rfl) | exact lf_mapG (f := bz) bz_lf (.inl rfl) | exact lf_fn2 (lf_rp1 (f := ez) (fun _ => rfl)) lf_vi | exact lf_fn3 lf_vi (lf_rp1 (f := ez) (fun _ => rfl)) lf_vi) ?_
                        exact AOps.nil ⟨rfl, rfl, rfl⟩) ?_
                  refine n_soft (u := 79) (E := .val (.bool b79)) (!b79) rfl rfl rfl (by first | (simp only [nf, Nat.beq] <;> rfl) | rfl) (by cases b79 <;> first | (intro _; rfl) | (intro h; exact absurd h (by decide))) (by cases b79 <;> first | (intro h; exact absurd h (by decide)) | (intro _; exact ⟨_, rfl, by first | (intro h; cases h; done) | decide | simp⟩)) (fun h => by
                      cases b79 with
                      | true => exact absurd h (by first | decide | simp)
                      | false =>
                        refine n_not rfl (by first | (simp only [nf, Nat.beq] <;> rfl) | rfl) rfl ?_
                        exact AOps.nil ⟨rfl, rfl, rfl⟩) ?_
                  refine n_pick_or rfl (by first | (simp only [nf, Nat.beq] <;> rfl) | rfl) (fun h => by cases b79 with | true => exact absurd h (by decide) | false => exact (by first | (simp only [nf, Nat.beq] <;> rfl) | rfl)) ?_
                  subst hb79
                  refine AOps.nil ?_
                  refine AWP.cond (by first | (simp only [nf, Nat.beq] <;> rfl) | rfl) (fun hc9 => ?_) (fun hc9 => ?_)
                  · try simp only [nh] at hc9
                    exfalso
                    simp [hlg] at hc9
                    try omega
                  · try simp only [nh] at hc9
                    refine AWP.skip ?_
                    refine AWP.region ?_
                    first | refine n_iadd rfl (by first | (simp only [nf, Nat.beq] <;> rfl) | rfl) (by first | (simp only [nf, Nat.beq] <;> rfl) | rfl) rfl (by omega) (by omega) ?_ | refine n_ibin rfl (by first | (simp only [nf, Nat.beq] <;> rfl) | rfl) (by first | (simp only [nf, Nat.beq] <;> rfl) | rfl) rfl ?_
                    refine n_move rfl (by first | (simp only [nf, Nat.beq] <;> rfl) | rfl) ?_
                    refine AOps.nil ?_
                    refine ⟨(i + 1, g2), ⟨by dsimp only; omega, by dsimp only; omega⟩, ?_, rfl, by dsimp only; omega⟩
                    (repeat (first | exact FLe.empty _ | refine FLe.put ?_ ?_)) <;> first | (simp only [nf, Nat.beq]; done) | rfl | ((try simp only [nf, Nat.beq]); first | rfl | (congr 2; omega; done))
            · try simp only [nh] at hc5
              refine AWP.exit ?_
              refine AWP.seq ?_
              refine AWP.region ?_
              refine n_assign rfl (by first | (simp only [nf, Nat.beq] <;> rfl) | rfl) ?_
              refine AOps.nil ?_
              refine AWP.ret ?_
              refine fin_pure (.cons (rv_tmp (by first | (simp only [nf, Nat.beq] <;> rfl) | rfl)) .nil) (by first | (simp only [nf, Nat.beq] <;> rfl) | rfl) ?_
              first | exact ren_flat rfl rfl | exact ren_flat rfl (congrArg vb (by simp))

end Go.Proofs.Ytanfmpkjcoolmaa.Od
