/- Bundles. -/
import Derived.Test.YtanfmpkjcoolmaaMtA
import Derived.Test.YtanfmpkjcoolmaaMirrorBunPlain
import Derived.KernelRfl
set_option linter.unusedVariables false
set_option linter.unusedSimpArgs false
namespace Go.Proofs.Ytanfmpkjcoolmaa.Bu
open Go Go.Abs Go.Abs.Sd
attribute [local irreducible] AWP AOps Does

theorem cf189 : CF Try.prog 189 := ⟨_, Try.func189, by kernel_rfl, by kernel_rfl⟩
theorem cf202 : CF Try.prog 202 := ⟨_, Try.func202, by kernel_rfl, by kernel_rfl⟩
theorem cf266 : CF Try.prog 266 := ⟨_, Try.func266, by kernel_rfl, by kernel_rfl⟩
theorem cf267 : CF Try.prog 267 := ⟨_, Try.func267, by kernel_rfl, by kernel_rfl⟩
theorem cf284 : CF Try.prog 284 := ⟨_, Try.func284, by kernel_rfl, by kernel_rfl⟩
theorem cf63 : CF Try.prog 63 := ⟨_, Try.func63, by kernel_rfl, by kernel_rfl⟩
theorem ei56 : EI Try.prog 56 4 32 (.agg #[.int .i64 0, .int .i64 0, .int .i64 0, .int .i64 0]) := EI.of (by kernel_rfl) rfl rfl
theorem ei67 : EI Try.prog 67 3 40 (.agg #[.int .i64 0, .int .i64 0, .slice none 0 0]) := EI.of (by kernel_rfl) rfl rfl
theorem fd67_0 : FD Try.prog 67 0 3 0 := ⟨_, _, Try.underlying67, rfl, rfl, rfl⟩
theorem fd67_1 : FD Try.prog 67 1 2 1 := ⟨_, _, Try.underlying67, rfl, rfl, rfl⟩
theorem fd67_2 : FD Try.prog 67 2 53 2 := ⟨_, _, Try.underlying67, rfl, rfl, rfl⟩
theorem si67 : SI Try.prog 67 #[(0, 1), (1, 1), (2, 1)] (.agg #[.int .i64 0, .int .i64 0, .slice none 0 0]) := ⟨⟨_, Try.underlying67, fun w => by kernel_rfl⟩, by kernel_rfl⟩
theorem ti115 : TI Try.prog 115 1 false := ⟨by kernel_rfl, by kernel_rfl⟩
theorem ti2 : TI Try.prog 2 1 false := ⟨by kernel_rfl, by kernel_rfl⟩
theorem ti3 : TI Try.prog 3 1 false := ⟨by kernel_rfl, by kernel_rfl⟩
theorem ti300 : TI Try.prog 300 1 false := ⟨by kernel_rfl, by kernel_rfl⟩
theorem ti53 : TI Try.prog 53 1 false := ⟨by kernel_rfl, by kernel_rfl⟩
theorem ti56 : TI Try.prog 56 4 true := ⟨by kernel_rfl, by kernel_rfl⟩
theorem ti67 : TI Try.prog 67 3 true := ⟨by kernel_rfl, by kernel_rfl⟩
theorem zi115 : (Try.prog.info? 115).map (·.zero) = some (some (.slice none 0 0)) := by kernel_rfl
theorem zi2 : (Try.prog.info? 2).map (·.zero) = some (some (.int .i64 0)) := by kernel_rfl
theorem zi67 : (Try.prog.info? 67).map (·.zero) = some (some (.agg #[.int .i64 0, .int .i64 0, .slice none 0 0])) := by kernel_rfl

attribute [local irreducible] chunk cnt bun chunks accept chkB
theorem ren_chunk {ρ σ : Nat → Nat → Prop} {nl : Option Bool} {c : Cap} {l : List En} {k : Nat} : Ren ρ σ (.sl nl ((chunk l k).map ez) c) (.sl none ((chunk l k).map ez) .ro) := ren_map (f := ez) (fun _ => rfl)
theorem ren_bz {ρ σ : Nat → Nat → Prop} {nl : Option Bool} {c : Cap} {p q : Int} {l : List En} : Ren ρ σ (.agg [vi p, vi q, .sl nl (l.map ez) c]) (.agg (bz (p, q, l))) :=
  .agg rfl (RenAll.get (.cons (.lf (.val _)) (.cons (.lf (.val _)) (.cons (ren_map (f := ez) (fun _ => rfl)) .nil))))
theorem chunk_it (l : List En) (hn : l.length ≤ 1048576) : Iter Try.prog 284 [.rp [(.sl none (l.map ez) .ro)], .rp [vi 8]] [] ((chunks l).map fun c => [.sl none (c.map ez) .ro]) := by
  refine Iter.of_body (rvs := []) Try.func284 rfl rfl rfl rfl (fun yl J hY => ?_)
  refine AWP.seq ?_
  refine AWP.region ?_
  refine n_assign rfl (by first | (simp only [nf, Nat.beq] <;> rfl) | rfl) ?_
  refine AOps.nil ?_
  refine AWP.block ?_
  refine AWP.loop (α := Nat) (fun k => k ≤ cnt l) (fun k => put (put (put (put empty 0 (.val (.func (.yield yl) #[] #[]))) 1 (.rp [(.sl none (l.map ez) .ro)])) 2 (.rp [vi 8])) 4 (vi ((8 * k : Nat) : Int))) (fun k => [.seen J (some k)]) (fun k => cnt l - k) 0 ?_ ?_ ?_ ?_
  · exact Nat.zero_le _
  · (repeat (first | exact FLe.empty _ | refine FLe.put ?_ ?_)) <;> first | (simp only [nf, Nat.beq]; done) | rfl | ((try simp only [nf, Nat.beq]); first | rfl | (simp only [List.length_map]; done) | (congr 2; omega; done))
  · rfl
  · intro k hk
    try dsimp only at hk ⊢
    refine AWP.seq ?_
    refine AWP.seq ?_
    refine AWP.region ?_
    refine n_move rfl (by first | (simp only [nf, Nat.beq] <;> rfl) | rfl) ?_
    refine n_load rfl ti53 (by first | (simp only [nf, Nat.beq] <;> rfl) | rfl) (by first | (simp only [nf, Nat.beq] <;> rfl) | rfl) rfl (by first | (simp only [nf, Nat.beq] <;> rfl) | rfl) ?_
    refine n_len rfl Try.underlying53 (by first | (simp only [nf, Nat.beq] <;> rfl) | rfl) (by first | rw [ints_length] | rw [List.length_map] | rfl) ?_
    refine n_ibin rfl (by first | (simp only [nf, Nat.beq] <;> rfl) | rfl) (by first | (simp only [nf, Nat.beq] <;> rfl) | rfl) rfl ?_
    refine AOps.nil ?_
    refine AWP.cond (by first | (simp only [nf, Nat.beq] <;> rfl) | rfl) (fun hc1 => ?_) (fun hc1 => ?_)
    · try simp only [nh] at hc1
      have h8 : 8 * k < l.length := by omega
      have hkc := lt_cnt h8
      have hxy : ((chunks l).map fun c => [D.sl none (c.map ez) .ro])[k]? = some [.sl none ((chunk l k).map ez) .ro] := by rw [List.getElem?_map, chunks_at h8]; rfl
      refine AWP.skip ?_
      refine AWP.seq ?_
      refine AWP.block ?_
      refine AWP.seq ?_
      refine AWP.anyStill (by kernel_rfl) (by kernel_rfl) ?_
      refine Walk.still (rs := [2]) (by rfl) (by first | (simp only [nf, Nat.beq] <;> rfl) | rfl) (fun base => by
          refine n_load rfl ti3 (by first | (simp only [nf, Nat.beq] <;> rfl) | rfl) (by first | (simp only [nf, Nat.beq] <;> rfl) | rfl) rfl (by first | (simp only [nf, Nat.beq] <;> rfl) | rfl) ?_
          exact AOps.nil ⟨rfl, rfl, rfl⟩) ?_
      refine Walk.still (rs := [1]) (by rfl) (by first | (simp only [nf, Nat.beq] <;> rfl) | rfl) (fun base => by
          refine n_load rfl ti53 (by first | (simp only [nf, Nat.beq] <;> rfl) | rfl) (by first | (simp only [nf, Nat.beq] <;> rfl) | rfl) rfl (by first | (simp only [nf, Nat.beq] <;> rfl) | rfl) ?_
          exact AOps.nil ⟨rfl, rfl, rfl⟩) ?_
      refine Walk.still (rs := [4]) (by rfl) (by first | (simp only [nf, Nat.beq] <;> rfl) | rfl) (fun base => by
          refine n_move rfl (by first | (simp only [nf, Nat.beq] <;> rfl) | rfl) ?_
          exact AOps.nil ⟨rfl, rfl, rfl⟩) ?_
      refine Walk.still (rs := [14, 15]) (by rfl) (by first | (simp only [nf, Nat.beq] <;> rfl) | rfl) (fun base => by
          refine n_slice (h := (l.map ez).length) (k := 8 * k) (ys := (l.drop (8 * k)).map ez) rfl Try.underlying53 ti56 (by first | (simp only [nf, Nat.beq] <;> rfl) | rfl) SB.none (SB.some (by first | (simp only [nf, Nat.beq] <;> rfl) | rfl) (by omega)) (by rw [List.length_map]; omega) (Nat.le_refl _) (by exact map_one (f := ez) (fun _ => rfl)) (by rw [List.take_length, ← List.map_drop]) ?_
          exact AOps.nil ⟨rfl, rfl, rfl⟩) ?_
      refine Walk.still (rs := [16]) (by rfl) (by first | (simp only [nf, Nat.beq] <;> rfl) | rfl) (fun base => by
          refine n_len rfl Try.underlying53 (by first | (simp only [nf, Nat.beq] <;> rfl) | rfl) (by first | rw [ints_length] | rw [List.length_map] | rfl) ?_
          exact AOps.nil ⟨rfl, rfl, rfl⟩) ?_
      refine Walk.still (rs := [13, 17]) (by rfl) (by first | (simp only [nf, Nat.beq] <;> rfl) | rfl) (fun base => by
          refine n_min (T2 := #[]) (c := ((min 8 (l.length - 8 * k) : Nat) : Int)) rfl (by first | (simp only [nf, Nat.beq] <;> rfl) | rfl) (by first | (simp only [nf, Nat.beq] <;> rfl) | rfl) (by simp only [List.length_drop]; split <;> omega) ?_
          exact AOps.nil ⟨rfl, rfl, rfl⟩) ?_
      refine Walk.still (rs := [18]) (by rfl) (by first | (simp only [nf, Nat.beq] <;> rfl) | rfl) (fun base => by
          refine n_assign rfl (by first | (simp only [nf, Nat.beq] <;> rfl) | rfl) ?_
          exact AOps.nil ⟨rfl, rfl, rfl⟩) ?_
      refine Walk.done ?_
      refine AWP.seq ?_
      refine AWP.region ?_
      refine n_move rfl (by first | (simp only [nf, Nat.beq] <;> rfl) | rfl) ?_
      refine n_load rfl ti53 (by first | (simp only [nf, Nat.beq] <;> rfl) | rfl) (by first | (simp only [nf, Nat.beq] <;> rfl) | rfl) rfl (by first | (simp only [nf, Nat.beq] <;> rfl) | rfl) ?_
      refine n_move rfl (by first | (simp only [nf, Nat.beq] <;> rfl) | rfl) ?_
      refine n_move rfl (by first | (simp only [nf, Nat.beq] <;> rfl) | rfl) ?_
      refine n_move rfl (by first | (simp only [nf, Nat.beq] <;> rfl) | rfl) ?_
      first | refine n_iadd rfl (by first | (simp only [nf, Nat.beq] <;> rfl) | rfl) (by first | (simp only [nf, Nat.beq] <;> rfl) | rfl) rfl (by omega) (by omega) ?_ | refine n_ibin rfl (by first | (simp only [nf, Nat.beq] <;> rfl) | rfl) (by first | (simp only [nf, Nat.beq] <;> rfl) | rfl) rfl ?_
      refine n_move rfl (by first | (simp only [nf, Nat.beq] <;> rfl) | rfl) ?_
      refine n_move rfl (by first | (simp only [nf, Nat.beq] <;> rfl) | rfl) ?_
      first | refine n_iadd rfl (by first | (simp only [nf, Nat.beq] <;> rfl) | rfl) (by first | (simp only [nf, Nat.beq] <;> rfl) | rfl) rfl (by omega) (by omega) ?_ | refine n_ibin rfl (by first | (simp only [nf, Nat.beq] <;> rfl) | rfl) (by first | (simp only [nf, Nat.beq] <;> rfl) | rfl) rfl ?_
      refine n_slice3 (h := 8 * k + min 8 (l.length - 8 * k)) (k := 8 * k) (ys := (chunk l k).map ez) rfl Try.underlying53 ti56 (by first | (simp only [nf, Nat.beq] <;> rfl) | rfl) (SB.some (by first | (simp only [nf, Nat.beq] <;> rfl) | rfl) (by omega)) (SB.some (by first | (simp only [nf, Nat.beq] <;> rfl) | rfl) (by omega)) (SB.some (by first | (simp only [nf, Nat.beq] <;> rfl) | rfl) (by omega)) (by omega) (by rw [List.length_map]; omega) (by exact map_one (f := ez) (fun _ => rfl)) (by unfold chunk; rw [← List.map_take, ← List.map_drop]; congr 2; rw [List.take_eq_take_iff]; omega) ?_
      refine n_yield (l0 := 0) rfl (by first | (simp only [nf, Nat.beq] <;> rfl) | rfl) rfl hY hxy (Eq.trans (by simp only [nl] <;> rfl) (by first | (simp only [nf, Nat.beq] <;> rfl) | rfl)) (by repeat (first | exact .nil | refine .cons ?_ ?_ | exact ren_ints | exact .lf (.val _) | exact .lf (lf_ints (.inl rfl)) | exact .bp ⟨rfl, rfl⟩ | exact .bp (.inl ⟨rfl, rfl⟩) | exact .bp (.inr ⟨rfl, rfl⟩) | exact .lf (D.flat_lf rfl) | exact ren_map (f := ez) (fun _ => rfl) | exact .lf (.agg (bz_lf _)) | exact ren_mapG (f := bz) bz_lf | exact .lf (lf_fn2 (lf_rp1 (f := ez) (fun _ => rfl)) lf_vi) | exact .lf (lf_fn3 lf_vi (lf_rp1 (f := ez) (fun _ => rfl)) lf_vi) | exact ren_chunk | exact Mt.ren_bun _ _ | exact ren_bz)) rfl rfl ?_ ?_
      · refine n_not rfl (by first | (simp only [nf, Nat.beq] <;> rfl) | rfl) rfl ?_
        refine AOps.nil ?_
        refine AWP.cond_false (by first | (simp only [nf, Nat.beq] <;> rfl) | rfl) ?_
        refine AWP.skip ?_
        refine AWP.region ?_
        refine n_move rfl (by first | (simp only [nf, Nat.beq] <;> rfl) | rfl) ?_
        refine n_load rfl ti3 (by first | (simp only [nf, Nat.beq] <;> rfl) | rfl) (by first | (simp only [nf, Nat.beq] <;> rfl) | rfl) rfl (by first | (simp only [nf, Nat.beq] <;> rfl) | rfl) ?_
        first | refine n_iadd rfl (by first | (simp only [nf, Nat.beq] <;> rfl) | rfl) (by first | (simp only [nf, Nat.beq] <;> rfl) | rfl) rfl (by omega) (by omega) ?_ | refine n_ibin rfl (by first | (simp only [nf, Nat.beq] <;> rfl) | rfl) (by first | (simp only [nf, Nat.beq] <;> rfl) | rfl) rfl ?_
        refine n_assign rfl (by first | (simp only [nf, Nat.beq] <;> rfl) | rfl) ?_
        refine AOps.nil ?_
        refine ⟨k + 1, by omega, ?_, rfl, by omega⟩
        (repeat (first | exact FLe.empty _ | refine FLe.put ?_ ?_)) <;> first | (simp only [nf, Nat.beq]; done) | rfl | ((try simp only [nf, Nat.beq]); first | rfl | (simp only [List.length_map]; done) | (congr 2; omega; done))
      · refine n_not rfl (by first | (simp only [nf, Nat.beq] <;> rfl) | rfl) rfl ?_
        refine AOps.nil ?_
        refine AWP.cond_true (by first | (simp only [nf, Nat.beq] <;> rfl) | rfl) ?_
        refine AWP.ret ?_
        first | exact ⟨.inr rfl, [], _, .nil, .inr rfl, rfl⟩ | exact ⟨.inr rfl, [], _, .nil, .inl (by rw [List.length_map, chunks_len, ← hcc]), rfl⟩
    · try simp only [nh] at hc1
      have hcc := cnt_ge (l := l) (by omega) hk
      refine AWP.exit ?_
      first | exact ⟨.inl rfl, [], _, .nil, .inr rfl, rfl⟩ | exact ⟨.inl rfl, [], _, .nil, .inl (by rw [List.length_map, chunks_len, ← hcc]), rfl⟩

theorem l_chunk (l : List En) : Does Try.prog 267 [(.sl none (l.map ez) .ro), vi 8] [] (.fn (.func 284) [] [.rp [(.sl none (l.map ez) .ro)], .rp [vi 8]]) [] := by
  refine Does.of_body (rvs := [.tmp 4]) Try.func267 rfl rfl rfl rfl ?_
  refine AWP.seq ?_
  refine AWP.region ?_
  refine n_box rfl (by first | (simp only [nf, Nat.beq] <;> rfl) | rfl) rfl rfl (by first | (simp only [nf, Nat.beq] <;> rfl) | rfl) (by first | (simp only [nf, Nat.beq] <;> rfl) | rfl) ?_
  refine n_box rfl (by first | (simp only [nf, Nat.beq] <;> rfl) | rfl) rfl rfl (by first | (simp only [nf, Nat.beq] <;> rfl) | rfl) (by first | (simp only [nf, Nat.beq] <;> rfl) | rfl) ?_
  refine n_assign rfl (by first | (simp only [nf, Nat.beq] <;> rfl) | rfl) ?_
  refine AOps.nil ?_
  refine AWP.seq ?_
  refine AWP.seq ?_
  refine AWP.region ?_
  refine n_load rfl ti3 (by first | (simp only [nf, Nat.beq] <;> rfl) | rfl) (by first | (simp only [nf, Nat.beq] <;> rfl) | rfl) rfl (by first | (simp only [nf, Nat.beq] <;> rfl) | rfl) ?_
  refine n_ibin rfl (by first | (simp only [nf, Nat.beq] <;> rfl) | rfl) (by first | (simp only [nf, Nat.beq] <;> rfl) | rfl) rfl ?_
  refine AOps.nil ?_
  refine AWP.cond_false (by first | (simp only [nf, Nat.beq] <;> rfl) | rfl) ?_
  refine AWP.skip ?_
  refine AWP.seq ?_
  refine AWP.freeze (t := 2) (S' := [.lent, .box [vi 8]]) (by rfl) rfl rfl rfl ?_
  refine AWP.freeze (t := 3) (S' := [.lent, .lent]) (by rfl) rfl rfl rfl ?_
  refine AWP.region ?_
  refine n_makeFunc rfl (Eq.trans (by simp only [nl] <;> rfl) (by first | (simp only [nf, Nat.beq] <;> rfl) | rfl)) (Eq.trans (by simp only [nl] <;> rfl) (by first | (simp only [nf, Nat.beq] <;> rfl) | rfl)) ?_
  refine n_assign rfl (by first | (simp only [nf, Nat.beq] <;> rfl) | rfl) ?_
  refine AOps.nil ?_
  refine AWP.ret ?_
  refine fin_pure (.cons (rv_tmp (by first | (simp only [nf, Nat.beq] <;> rfl) | rfl)) .nil) (by first | (simp only [nf, Nat.beq] <;> rfl) | rfl) ?_
  exact .lf (lf_fn2 (lf_rp1 (f := ez) (fun _ => rfl)) lf_vi)

set_option maxHeartbeats 2000000 in
theorem bun_it (p q : Int) (l : List En) (hq : 0 ≤ q ∧ q ≤ 9007199254740992) (hn : l.length ≤ 1048576) : Iter Try.prog 266 [.rp [vi q], .rp [(.sl none (l.map ez) .ro)], .rp [vi p]] [] ((bun p q l).map fun b => [.agg (bz b)]) := by
  refine Iter.of_body (rvs := []) Try.func266 rfl rfl rfl rfl (fun yl J hY => ?_)
  have hck := l_chunk l
  refine AWP.seq ?_
  refine AWP.region ?_
  refine n_box rfl (by first | (simp only [nf, Nat.beq] <;> rfl) | rfl) rfl rfl (by first | (simp only [nf, Nat.beq] <;> rfl) | rfl) (by first | (simp only [nf, Nat.beq] <;> rfl) | rfl) ?_
  refine AOps.nil ?_
  refine AWP.scope ?_
  refine AWP.seq ?_
  refine AWP.region ?_
  refine n_load rfl ti2 (by first | (simp only [nf, Nat.beq] <;> rfl) | rfl) (by first | (simp only [nf, Nat.beq] <;> rfl) | rfl) rfl (by first | (simp only [nf, Nat.beq] <;> rfl) | rfl) ?_
  refine n_alloc rfl zi2 rfl (by first | (simp only [nf, Nat.beq] <;> rfl) | rfl) (by first | (simp only [nf, Nat.beq] <;> rfl) | rfl) ?_
  refine n_store ti2 (by first | (simp only [nf, Nat.beq] <;> rfl) | rfl) rfl (by first | (simp only [nf, Nat.beq] <;> rfl) | rfl) rfl (by first | (simp only [nf, Nat.beq] <;> rfl) | rfl) rfl rfl rfl (by first | (simp only [nf, Nat.beq] <;> rfl) | rfl) ?_
  refine AOps.nil ?_
  refine AWP.seq ?_
  refine AWP.label ?_
  refine AWP.seq ?_
  refine AWP.region ?_
  refine n_load rfl ti53 (by first | (simp only [nf, Nat.beq] <;> rfl) | rfl) (by first | (simp only [nf, Nat.beq] <;> rfl) | rfl) rfl (by first | (simp only [nf, Nat.beq] <;> rfl) | rfl) ?_
  refine n_call0B rfl cf267 rfl (Eq.trans (by simp only [nl] <;> rfl) (by first | (simp only [nf, Nat.beq] <;> rfl) | rfl)) (by repeat (first | exact .nil | refine .cons ?_ ?_ | exact ren_ints | exact .lf (.val _) | exact .lf (lf_ints (.inl rfl)) | exact .bp ⟨rfl, rfl⟩ | exact .bp (.inl ⟨rfl, rfl⟩) | exact .bp (.inr ⟨rfl, rfl⟩) | exact .lf (D.flat_lf rfl) | exact ren_map (f := ez) (fun _ => rfl) | exact .lf (.agg (bz_lf _)) | exact ren_mapG (f := bz) bz_lf | exact .lf (lf_fn2 (lf_rp1 (f := ez) (fun _ => rfl)) lf_vi) | exact .lf (lf_fn3 lf_vi (lf_rp1 (f := ez) (fun _ => rfl)) lf_vi) | exact ren_chunk | exact Mt.ren_bun _ _ | exact ren_bz)) (hck) (by first | exact .val _ | exact lf_ints (.inl rfl) | exact lf_ints (.inr rfl) | exact .any | exact D.flat_lf rfl | exact .tup (lf_cons (lf_map (f := ez) (fun _ => rfl) (.inl rfl)) (lf_cons (.val _) lf_nil)) | exact lf_map (f := ez) (fun _ => rfl) (.inl rfl) | exact lf_mapG (f := bz) bz_lf (.inl rfl) | exact lf_fn2 (lf_rp1 (f := ez) (fun _ => rfl)) lf_vi | exact lf_fn3 lf_vi (lf_rp1 (f := ez) (fun _ => rfl)) lf_vi) ?_
  refine AOps.nil ?_
  refine AWP.block ?_
  refine AWP.rangeFunc [] (fun k => [.seen J (some k), .box [(.val (.func (.yield yl) #[] #[]))], .box [vi (q + ((min (8 * (k)) l.length : Nat) : Int))]]) (fun c S' => c = .exit 0 ∧ ∃ o T, S' = [.seen J none, .box [(.val (.func (.yield yl) #[] #[]))], o] ++ T) (by first | (simp only [nf, Nat.beq] <;> rfl) | rfl) cf284 (chunk_it l hn) List.nodup_nil rfl (fun j ob h => by simp at h) (.cons (.lf (.rp (lf_rp1 (f := ez) (fun _ => rfl)))) (.cons (.lf (.rp lf_vi)) .nil)) (by simp only [lend, Nat.mul_zero, Nat.zero_min, Int.natCast_zero, Int.add_zero] <;> rfl) (by intro x hx; obtain ⟨p, _, rfl⟩ := List.mem_map.1 hx; rfl) (by intro x hx d hd; obtain ⟨p, _, rfl⟩ := List.mem_map.1 hx; simp only [List.mem_cons, List.not_mem_nil, or_false] at hd; subst hd; exact lf_map (f := ez) (fun _ => rfl) (.inl rfl)) (by decide) (fun _ => rfl) (fun k => un_cons trivial (un_cons (un_box rfl) (un_cons (un_box rfl) un_nil))) rfl rfl ?_ ?_ ?_
  · intro k x hxk
    obtain ⟨c, hc, rfl⟩ := map_some hxk
    have hkl := (List.getElem?_eq_some_iff.1 hc).1
    rw [chunks_len] at hkl
    have h8 := cnt_lt hkl
    rw [chunks_at h8] at hc
    cases hc
    have hle := chunk_le l k
    have hnx := chunk_next h8
    have hcl := Mi.clone (chunk l k) (by omega)
    have hxy : ((bun p q l).map fun b => [D.agg (bz b)])[k]? = some [.agg (bz (p, q + ((min (8 * k) l.length : Nat) : Int), chunk l k))] := by rw [List.getElem?_map, bun_at hkl]; rfl
    dsimp only [putPs]
    refine AWP.region ?_
    refine n_assign rfl (by first | (simp only [nf, Nat.beq] <;> rfl) | rfl) ?_
    refine AOps.nil ?_
    refine AWP.block ?_
    refine AWP.seq ?_
    refine AWP.seq ?_
    refine AWP.anyThen 6 (by kernel_rfl) (by kernel_rfl) rfl (by kernel_rfl) (by kernel_rfl) ?_
    refine Walk.still (rs := [4]) (by rfl) (by first | (simp only [nf, Nat.beq] <;> rfl) | rfl) (fun base => by
        refine n_load rfl ti300 (by first | (simp only [nf, Nat.beq] <;> rfl) | rfl) (by first | (simp only [nf, Nat.beq] <;> rfl) | rfl) rfl (by first | (simp only [nf, Nat.beq] <;> rfl) | rfl) ?_
        exact AOps.nil ⟨rfl, rfl, rfl⟩) ?_
    refine Walk.still (rs := [3]) (by rfl) (by first | (simp only [nf, Nat.beq] <;> rfl) | rfl) (fun base => by
        refine n_load rfl ti3 (by first | (simp only [nf, Nat.beq] <;> rfl) | rfl) (by first | (simp only [nf, Nat.beq] <;> rfl) | rfl) rfl (by first | (simp only [nf, Nat.beq] <;> rfl) | rfl) ?_
        exact AOps.nil ⟨rfl, rfl, rfl⟩) ?_
    refine Walk.still (rs := [5]) (by rfl) (by first | (simp only [nf, Nat.beq] <;> rfl) | rfl) (fun base => by
        refine n_load rfl ti2 (by first | (simp only [nf, Nat.beq] <;> rfl) | rfl) (by first | (simp only [nf, Nat.beq] <;> rfl) | rfl) rfl (by first | (simp only [nf, Nat.beq] <;> rfl) | rfl) ?_
        exact AOps.nil ⟨rfl, rfl, rfl⟩) ?_
    refine Walk.still (rs := [6]) (by rfl) (by first | (simp only [nf, Nat.beq] <;> rfl) | rfl) (fun base => by
        refine n_move rfl (by first | (simp only [nf, Nat.beq] <;> rfl) | rfl) ?_
        exact AOps.nil ⟨rfl, rfl, rfl⟩) ?_
    refine Walk.still (rs := [14]) (by rfl) (by first | (simp only [nf, Nat.beq] <;> rfl) | rfl) (fun base => by
        refine n_call0B rfl cf189 rfl (Eq.trans (by simp only [nl] <;> rfl) (by first | (simp only [nf, Nat.beq] <;> rfl) | rfl)) (by repeat (first | exact .nil | refine .cons ?_ ?_ | exact ren_ints | exact .lf (.val _) | exact .lf (lf_ints (.inl rfl)) | exact .bp ⟨rfl, rfl⟩ | exact .bp (.inl ⟨rfl, rfl⟩) | exact .bp (.inr ⟨rfl, rfl⟩) | exact .lf (D.flat_lf rfl) | exact ren_map (f := ez) (fun _ => rfl) | exact .lf (.agg (bz_lf _)) | exact ren_mapG (f := bz) bz_lf | exact .lf (lf_fn2 (lf_rp1 (f := ez) (fun _ => rfl)) lf_vi) | exact .lf (lf_fn3 lf_vi (lf_rp1 (f := ez) (fun _ => rfl)) lf_vi) | exact ren_chunk | exact Mt.ren_bun _ _ | exact ren_bz)) (hcl) (by first | exact .val _ | exact lf_ints (.inl rfl) | exact lf_ints (.inr rfl) | exact .any | exact D.flat_lf rfl | exact .tup (lf_cons (lf_map (f := ez) (fun _ => rfl) (.inl rfl)) (lf_cons (.val _) lf_nil)) | exact lf_map (f := ez) (fun _ => rfl) (.inl rfl) | exact lf_mapG (f := bz) bz_lf (.inl rfl) | exact lf_fn2 (lf_rp1 (f := ez) (fun _ => rfl)) lf_vi | exact lf_fn3 lf_vi (lf_rp1 (f := ez) (fun _ => rfl)) lf_vi) ?_
        exact AOps.nil ⟨rfl, rfl, rfl⟩) ?_
    refine Walk.still (rs := [12, 13, 15]) (by rfl) (by first | (simp only [nf, Nat.beq] <;> rfl) | rfl) (fun base => by
        refine n_build rfl si67 (Eq.trans (by simp only [nl] <;> rfl) (by first | (simp only [nf, Nat.beq] <;> rfl) | rfl)) (Eq.trans (by simp only [nl] <;> rfl) (by first | (simp only [nf, Nat.beq] <;> rfl) | rfl)) rfl ?_
        exact AOps.nil ⟨rfl, rfl, rfl⟩) ?_
    refine Walk.done ?_
    refine n_yield (l0 := 0) rfl (by first | (simp only [nf, Nat.beq] <;> rfl) | rfl) rfl hY hxy (Eq.trans (by simp only [nl] <;> rfl) (by first | (simp only [nf, Nat.beq] <;> rfl) | rfl)) (by repeat (first | exact .nil | refine .cons ?_ ?_ | exact ren_ints | exact .lf (.val _) | exact .lf (lf_ints (.inl rfl)) | exact .bp ⟨rfl, rfl⟩ | exact .bp (.inl ⟨rfl, rfl⟩) | exact .bp (.inr ⟨rfl, rfl⟩) | exact .lf (D.flat_lf rfl) | exact ren_map (f := ez) (fun _ => rfl) | exact .lf (.agg (bz_lf _)) | exact ren_mapG (f := bz) bz_lf | exact .lf (lf_fn2 (lf_rp1 (f := ez) (fun _ => rfl)) lf_vi) | exact .lf (lf_fn3 lf_vi (lf_rp1 (f := ez) (fun _ => rfl)) lf_vi) | exact ren_chunk | exact Mt.ren_bun _ _ | exact ren_bz)) rfl rfl ?_ ?_
    · refine n_not rfl (by first | (simp only [nf, Nat.beq] <;> rfl) | rfl) rfl ?_
      refine AOps.nil ?_
      refine AWP.cond_false (by first | (simp only [nf, Nat.beq] <;> rfl) | rfl) ?_
      refine AWP.skip ?_
      refine AWP.region ?_
      refine n_load rfl ti2 (by first | (simp only [nf, Nat.beq] <;> rfl) | rfl) (by first | (simp only [nf, Nat.beq] <;> rfl) | rfl) rfl (by first | (simp only [nf, Nat.beq] <;> rfl) | rfl) ?_
      refine n_move rfl (by first | (simp only [nf, Nat.beq] <;> rfl) | rfl) ?_
      refine n_len rfl Try.underlying53 (by first | (simp only [nf, Nat.beq] <;> rfl) | rfl) (by first | rw [ints_length] | rw [List.length_map] | rfl) ?_
      refine n_iadd rfl (by first | (simp only [nf, Nat.beq] <;> rfl) | rfl) (by first | (simp only [nf, Nat.beq] <;> rfl) | rfl) (c := q + ((min (8 * (k + 1)) l.length : Nat) : Int)) (by omega) (by omega) (by omega) ?_
      refine n_store ti2 (by first | (simp only [nf, Nat.beq] <;> rfl) | rfl) rfl (by first | (simp only [nf, Nat.beq] <;> rfl) | rfl) rfl (by first | (simp only [nf, Nat.beq] <;> rfl) | rfl) rfl rfl rfl (by first | (simp only [nf, Nat.beq] <;> rfl) | rfl) ?_
      refine AOps.nil ?_
      exact ⟨[], rfl⟩
    · refine n_not rfl (by first | (simp only [nf, Nat.beq] <;> rfl) | rfl) rfl ?_
      refine AOps.nil ?_
      refine AWP.cond_true (by first | (simp only [nf, Nat.beq] <;> rfl) | rfl) ?_
      refine AWP.exit ?_
      exact ⟨rfl, _, [], rfl⟩
  · first | exact ⟨.inl rfl, [], _, .nil, .inr rfl, rfl⟩ | exact ⟨.inl rfl, [], _, .nil, .inl (by rw [List.length_map, List.length_map, chunks_len, bun_len]), rfl⟩
  · rintro c S' ⟨rfl, o, T, rfl⟩
    refine ⟨by simp, ?_⟩
    refine AWP.exit ?_
    first | exact ⟨.inl rfl, [], _, .nil, .inr rfl, rfl⟩ | exact ⟨.inl rfl, [], _, .nil, .inl (by rw [List.length_map, List.length_map, chunks_len, bun_len]), rfl⟩

theorem l_bun (p q : Int) (l : List En) (hn : l.length ≤ 1048576) : Does Try.prog 202 [vi p, vi q, (.sl none (l.map ez) .ro)] [] (.fn (.func 266) [] [.rp [vi q], .rp [(.sl none (l.map ez) .ro)], .rp [vi p]]) [] := by
  refine Does.of_body (rvs := [.tmp 6]) Try.func202 rfl rfl rfl rfl ?_
  refine AWP.seq ?_
  refine AWP.region ?_
  refine n_box rfl (by first | (simp only [nf, Nat.beq] <;> rfl) | rfl) rfl rfl (by first | (simp only [nf, Nat.beq] <;> rfl) | rfl) (by first | (simp only [nf, Nat.beq] <;> rfl) | rfl) ?_
  refine n_box rfl (by first | (simp only [nf, Nat.beq] <;> rfl) | rfl) rfl rfl (by first | (simp only [nf, Nat.beq] <;> rfl) | rfl) (by first | (simp only [nf, Nat.beq] <;> rfl) | rfl) ?_
  refine n_box rfl (by first | (simp only [nf, Nat.beq] <;> rfl) | rfl) rfl rfl (by first | (simp only [nf, Nat.beq] <;> rfl) | rfl) (by first | (simp only [nf, Nat.beq] <;> rfl) | rfl) ?_
  refine n_assign rfl (by first | (simp only [nf, Nat.beq] <;> rfl) | rfl) ?_
  refine AOps.nil ?_
  refine AWP.seq ?_
  refine AWP.region ?_
  refine n_load rfl ti53 (by first | (simp only [nf, Nat.beq] <;> rfl) | rfl) (by first | (simp only [nf, Nat.beq] <;> rfl) | rfl) rfl (by first | (simp only [nf, Nat.beq] <;> rfl) | rfl) ?_
  refine n_call0B rfl cf189 rfl (Eq.trans (by simp only [nl] <;> rfl) (by first | (simp only [nf, Nat.beq] <;> rfl) | rfl)) (by repeat (first | exact .nil | refine .cons ?_ ?_ | exact ren_ints | exact .lf (.val _) | exact .lf (lf_ints (.inl rfl)) | exact .bp ⟨rfl, rfl⟩ | exact .bp (.inl ⟨rfl, rfl⟩) | exact .bp (.inr ⟨rfl, rfl⟩) | exact .lf (D.flat_lf rfl) | exact ren_map (f := ez) (fun _ => rfl) | exact .lf (.agg (bz_lf _)) | exact ren_mapG (f := bz) bz_lf | exact .lf (lf_fn2 (lf_rp1 (f := ez) (fun _ => rfl)) lf_vi) | exact .lf (lf_fn3 lf_vi (lf_rp1 (f := ez) (fun _ => rfl)) lf_vi) | exact ren_chunk | exact Mt.ren_bun _ _ | exact ren_bz)) (Mi.clone _ (by omega)) (by first | exact .val _ | exact lf_ints (.inl rfl) | exact lf_ints (.inr rfl) | exact .any | exact D.flat_lf rfl | exact .tup (lf_cons (lf_map (f := ez) (fun _ => rfl) (.inl rfl)) (lf_cons (.val _) lf_nil)) | exact lf_map (f := ez) (fun _ => rfl) (.inl rfl) | exact lf_mapG (f := bz) bz_lf (.inl rfl) | exact lf_fn2 (lf_rp1 (f := ez) (fun _ => rfl)) lf_vi | exact lf_fn3 lf_vi (lf_rp1 (f := ez) (fun _ => rfl)) lf_vi) ?_
  refine n_store ti53 (by first | (simp only [nf, Nat.beq] <;> rfl) | rfl) rfl (by first | (simp only [nf, Nat.beq] <;> rfl) | rfl) rfl (by first | (simp only [nf, Nat.beq] <;> rfl) | rfl) rfl rfl rfl (by first | (simp only [nf, Nat.beq] <;> rfl) | rfl) ?_
  refine AOps.nil ?_
  refine AWP.seq ?_
  refine AWP.freeze (t := 3) (S' := [.lent, .box [vi q], .box [(.sl none (l.map ez) .ro)]]) (by rfl) rfl rfl rfl ?_
  refine AWP.freeze (t := 4) (S' := [.lent, .lent, .box [(.sl none (l.map ez) .ro)]]) (by rfl) rfl rfl rfl ?_
  refine AWP.freeze (t := 5) (S' := [.lent, .lent, .lent]) (by rfl) rfl rfl rfl ?_
  refine AWP.region ?_
  refine n_makeFunc rfl (Eq.trans (by simp only [nl] <;> rfl) (by first | (simp only [nf, Nat.beq] <;> rfl) | rfl)) (Eq.trans (by simp only [nl] <;> rfl) (by first | (simp only [nf, Nat.beq] <;> rfl) | rfl)) ?_
  refine n_assign rfl (by first | (simp only [nf, Nat.beq] <;> rfl) | rfl) ?_
  refine AOps.nil ?_
  refine AWP.ret ?_
  refine fin_pure (.cons (rv_tmp (by first | (simp only [nf, Nat.beq] <;> rfl) | rfl)) .nil) (by first | (simp only [nf, Nat.beq] <;> rfl) | rfl) ?_
  exact .lf (lf_fn3 lf_vi (lf_rp1 (f := ez) (fun _ => rfl)) lf_vi)

set_option maxHeartbeats 2000000 in
theorem bundles (p q : Int) (l : List En) (hq : 0 ≤ q ∧ q ≤ 9007199254740992) (hn : l.length ≤ 1048576) : Does Try.prog 96 [vi p, vi q, (.sl none (l.map ez) .ro)] [] (.sl none ((bun p q l).map bz) (.own 0)) [.row (bun p q l).length 3] := by
  refine Does.of_body (rvs := [.tmp 6]) Try.func96 rfl rfl rfl rfl ?_
  have hbl := bun_len p q l
  have hcn : cnt l ≤ 1048576 := by unfold cnt; omega
  have hlb := l_bun p q l hn
  refine AWP.seq ?_
  refine AWP.region ?_
  refine n_assign rfl (by first | (simp only [nf, Nat.beq] <;> rfl) | rfl) ?_
  refine AOps.nil ?_
  refine AWP.seq ?_
  refine AWP.region ?_
  refine n_alloc rfl zi115 rfl (by first | (simp only [nf, Nat.beq] <;> rfl) | rfl) (by first | (simp only [nf, Nat.beq] <;> rfl) | rfl) ?_
  refine AOps.nil ?_
  refine AWP.seq ?_
  refine AWP.seq ?_
  refine AWP.adoptBox (j := 0) (i := 0) (m := 0) (sz := 3) (S' := [.box [.sl none [] (.own 1)], .row 0 3]) rfl rfl rfl rfl rfl ?_
  refine AWP.region ?_
  refine n_move rfl (by first | (simp only [nf, Nat.beq] <;> rfl) | rfl) ?_
  refine n_move rfl (by first | (simp only [nf, Nat.beq] <;> rfl) | rfl) ?_
  refine n_move rfl (by first | (simp only [nf, Nat.beq] <;> rfl) | rfl) ?_
  refine n_call0B rfl cf202 rfl (Eq.trans (by simp only [nl] <;> rfl) (by first | (simp only [nf, Nat.beq] <;> rfl) | rfl)) (by repeat (first | exact .nil | refine .cons ?_ ?_ | exact ren_ints | exact .lf (.val _) | exact .lf (lf_ints (.inl rfl)) | exact .bp ⟨rfl, rfl⟩ | exact .bp (.inl ⟨rfl, rfl⟩) | exact .bp (.inr ⟨rfl, rfl⟩) | exact .lf (D.flat_lf rfl) | exact ren_map (f := ez) (fun _ => rfl) | exact .lf (.agg (bz_lf _)) | exact ren_mapG (f := bz) bz_lf | exact .lf (lf_fn2 (lf_rp1 (f := ez) (fun _ => rfl)) lf_vi) | exact .lf (lf_fn3 lf_vi (lf_rp1 (f := ez) (fun _ => rfl)) lf_vi) | exact ren_chunk | exact Mt.ren_bun _ _ | exact ren_bz)) (hlb) (by first | exact .val _ | exact lf_ints (.inl rfl) | exact lf_ints (.inr rfl) | exact .any | exact D.flat_lf rfl | exact .tup (lf_cons (lf_map (f := ez) (fun _ => rfl) (.inl rfl)) (lf_cons (.val _) lf_nil)) | exact lf_map (f := ez) (fun _ => rfl) (.inl rfl) | exact lf_mapG (f := bz) bz_lf (.inl rfl) | exact lf_fn2 (lf_rp1 (f := ez) (fun _ => rfl)) lf_vi | exact lf_fn3 lf_vi (lf_rp1 (f := ez) (fun _ => rfl)) lf_vi) ?_
  refine AOps.nil ?_
  refine AWP.block ?_
  refine AWP.rangeFunc [] (fun k => [.box [.sl none (((bun p q l).take (k)).map bz) (.own 1)], .row ((bun p q l).take (k)).length 3]) (fun _ _ => False) (by first | (simp only [nf, Nat.beq] <;> rfl) | rfl) cf266 (bun_it p q l hq hn) List.nodup_nil rfl (fun j ob h => by simp at h) (.cons (.lf (.rp lf_vi)) (.cons (.lf (.rp (lf_rp1 (f := ez) (fun _ => rfl)))) (.cons (.lf (.rp lf_vi)) .nil))) rfl (by intro x hx; obtain ⟨p, _, rfl⟩ := List.mem_map.1 hx; rfl) (by intro x hx d hd; obtain ⟨p, _, rfl⟩ := List.mem_map.1 hx; simp only [List.mem_cons, List.not_mem_nil, or_false] at hd; subst hd; exact .agg (bz_lf p)) (by decide) (fun _ => rfl) (fun k => un_cons (fun d hd => by simp only [List.mem_cons, List.not_mem_nil, or_false] at hd; subst hd; exact .sl (fun x hx d hd => by obtain ⟨p, _, rfl⟩ := List.mem_map.1 hx; exact .lf (bz_lf p d hd)) (fun l e => by cases e; simp)) (un_cons trivial un_nil)) rfl rfl ?_ ?_ ?_
  · intro k x hxk
    obtain ⟨b, hp, rfl⟩ := map_some hxk
    have hkl := (List.getElem?_eq_some_iff.1 hp).1
    dsimp only [putPs]
    refine AWP.region ?_
    refine n_alloc rfl zi67 rfl (by first | (simp only [nf, Nat.beq] <;> rfl) | rfl) (by first | (simp only [nf, Nat.beq] <;> rfl) | rfl) ?_
    refine n_store ti67 (by first | (simp only [nf, Nat.beq] <;> rfl) | rfl) rfl (by first | (simp only [nf, Nat.beq] <;> rfl) | rfl) rfl (by first | (simp only [nf, Nat.beq] <;> rfl) | rfl) rfl rfl rfl (by first | (simp only [nf, Nat.beq] <;> rfl) | rfl) ?_
    refine AOps.nil ?_
    refine AWP.block ?_
    refine AWP.region ?_
    refine n_load rfl ti115 (by first | (simp only [nf, Nat.beq] <;> rfl) | rfl) (by first | (simp only [nf, Nat.beq] <;> rfl) | rfl) rfl (by first | (simp only [nf, Nat.beq] <;> rfl) | rfl) ?_
    refine n_load rfl ti67 (by first | (simp only [nf, Nat.beq] <;> rfl) | rfl) (by first | (simp only [nf, Nat.beq] <;> rfl) | rfl) rfl (by first | (simp only [nf, Nat.beq] <;> rfl) | rfl) ?_
    refine n_lit rfl Try.underlying115 ti67 zi67 rfl rfl (Eq.trans (by simp only [nl] <;> rfl) (by first | (simp only [nf, Nat.beq] <;> rfl) | rfl)) rfl (by first | (simp only [nf, Nat.beq] <;> rfl) | rfl) ?_
    refine n_append_own (zs := ((bun p q l).take (k + 1)).map bz) (m := ((bun p q l).take (k + 1)).length) rfl Try.underlying115 Try.underlying115 ei67 (by first | (simp only [nf, Nat.beq] <;> rfl) | rfl) (by first | (simp only [nf, Nat.beq] <;> rfl) | rfl) (by simp only [List.length_map]) (by first | (simp only [nf, Nat.beq] <;> rfl) | rfl) (by exact map_one (f := bz) (fun _ => rfl)) (by exact one_one rfl) (by rw [take_snoc hp]; simp) (by rw [take_snoc hp]; simp) (by rw [take_snoc hp]; simp only [List.length_append, List.length_take, List.length_cons, List.length_nil]; omega) (by first | (simp only [nf, Nat.beq] <;> rfl) | rfl) ?_
    refine n_store ti115 (by first | (simp only [nf, Nat.beq] <;> rfl) | rfl) rfl (by first | (simp only [nf, Nat.beq] <;> rfl) | rfl) rfl (by first | (simp only [nf, Nat.beq] <;> rfl) | rfl) rfl rfl rfl (by first | (simp only [nf, Nat.beq] <;> rfl) | rfl) ?_
    refine AOps.nil ?_
    exact ⟨[.box (bz b)], rfl⟩
  · rw [List.length_map]
    try dsimp only
    rw [List.take_length]
    refine AWP.seq ?_
    refine AWP.region ?_
    refine n_load rfl ti115 (by first | (simp only [nf, Nat.beq] <;> rfl) | rfl) (by first | (simp only [nf, Nat.beq] <;> rfl) | rfl) rfl (by first | (simp only [nf, Nat.beq] <;> rfl) | rfl) ?_
    refine n_assign rfl (by first | (simp only [nf, Nat.beq] <;> rfl) | rfl) ?_
    refine AOps.nil ?_
    refine AWP.ret ?_
    refine fin_own (.cons (rv_tmp (by first | (simp only [nf, Nat.beq] <;> rfl) | rfl)) .nil) (by first | (simp only [nf, Nat.beq] <;> rfl) | rfl) rfl ?_ ?_ ?_
    · exact fun x hx d hd => by obtain ⟨b, _, rfl⟩ := List.mem_map.1 hx; exact bz_lf b d hd
    · rfl
    · rfl
  · intro c S' h
    exact h.elim

set_option maxHeartbeats 2000000 in
theorem r_bundles (p q : Int) (l : List En) (hq : 0 ≤ q ∧ q ≤ 9007199254740992) (hn : l.length ≤ 1048576) : Does Try.prog 97 [vi p, vi q, (.sl none (l.map ez) .ro)] [] (.sl none ((bun p q l).map bz) .ro) [] := by
  refine Does.of_body (rvs := [.tmp 6]) Try.func97 rfl rfl rfl rfl ?_
  have hbl := bun_len p q l
  have hcn : cnt l ≤ 1048576 := by unfold cnt; omega
  refine AWP.seq ?_
  refine AWP.region ?_
  refine n_assign rfl (by first | (simp only [nf, Nat.beq] <;> rfl) | rfl) ?_
  refine AOps.nil ?_
  refine AWP.seq ?_
  refine AWP.region ?_
  refine n_assign rfl (by first | (simp only [nf, Nat.beq] <;> rfl) | rfl) ?_
  refine AOps.nil ?_
  refine AWP.seq ?_
  refine AWP.seq ?_
  refine AWP.adopt (t := 7) (m := 0) (S' := [.row 0 3]) (by rfl) rfl rfl rfl ?_
  refine AWP.region ?_
  refine n_assign rfl (by first | (simp only [nf, Nat.beq] <;> rfl) | rfl) ?_
  refine AOps.nil ?_
  refine AWP.block ?_
  refine AWP.loopX 1 (α := Nat) (fun k => k ≤ cnt l) (fun k => put (put (put (put (put empty 0 (vi p)) 1 (vi q)) 2 (.sl none (l.map ez) .ro)) 7 (.sl none (((bun p q l).take k).map bz) (.own 0))) 8 (vi ((8 * k : Nat) : Int))) (fun k => [.row ((bun p q l).take k).length 3]) (fun k => cnt l - k) 0 ?_ ?_ ?_ ?_ ?_ ?_ ?_
  · exact Nat.zero_le _
  · (repeat (first | exact FLe.empty _ | refine FLe.put ?_ ?_)) <;> first | (simp only [nf, Nat.beq]; done) | rfl | ((try simp only [nf, Nat.beq]); first | rfl | (simp only [List.length_map]; done) | (congr 2; omega; done))
  · rfl
  · exact fun _ => rfl
  · intro p hp; (try dsimp only); (repeat' (refine un_put ?_ ?_)) <;> first | exact un_empty | exact .bp (by decide) | exact .lf (D.flat_lf rfl) | exact .lf (lf_ints (.inl rfl)) | exact .lf (lf_map (fun _ => rfl) (.inl rfl)) | exact .sl (fun x hx d hd => by obtain ⟨p, _, rfl⟩ := List.mem_map.1 hx; exact .lf (bz_lf p d hd)) (fun l e => by cases e; decide)
  · intro p hp; (try dsimp only); repeat' (first | exact un_nil | refine un_cons ?_ ?_ | exact un_box rfl | exact trivial)
  · intro k hk
    try dsimp only at hk ⊢
    refine AWP.seq ?_
    refine AWP.seq ?_
    refine AWP.region ?_
    refine n_move rfl (by first | (simp only [nf, Nat.beq] <;> rfl) | rfl) ?_
    refine n_move rfl (by first | (simp only [nf, Nat.beq] <;> rfl) | rfl) ?_
    refine n_len rfl Try.underlying53 (by first | (simp only [nf, Nat.beq] <;> rfl) | rfl) (by first | rw [ints_length] | rw [List.length_map] | rfl) ?_
    refine n_ibin rfl (by first | (simp only [nf, Nat.beq] <;> rfl) | rfl) (by first | (simp only [nf, Nat.beq] <;> rfl) | rfl) rfl ?_
    refine AOps.nil ?_
    refine AWP.cond (by first | (simp only [nf, Nat.beq] <;> rfl) | rfl) (fun hc1 => ?_) (fun hc1 => ?_)
    · try simp only [nh] at hc1
      have h8 : 8 * k < l.length := by omega
      have hkc := lt_cnt h8
      have hb := bun_at (p := p) (q := q) hkc
      have hle := chunk_le l k
      have hcl := chunk_len h8
      have hmk : min (8 * k) l.length = 8 * k := by omega
      refine AWP.skip ?_
      refine AWP.seq ?_
      refine AWP.block ?_
      refine AWP.seq ?_
      refine AWP.region ?_
      refine n_assign rfl (by first | (simp only [nf, Nat.beq] <;> rfl) | rfl) ?_
      refine AOps.nil ?_
      refine AWP.region ?_
      refine n_move rfl (by first | (simp only [nf, Nat.beq] <;> rfl) | rfl) ?_
      refine n_move rfl (by first | (simp only [nf, Nat.beq] <;> rfl) | rfl) ?_
      refine n_move rfl (by first | (simp only [nf, Nat.beq] <;> rfl) | rfl) ?_
      refine n_move rfl (by first | (simp only [nf, Nat.beq] <;> rfl) | rfl) ?_
      first | refine n_iadd rfl (by first | (simp only [nf, Nat.beq] <;> rfl) | rfl) (by first | (simp only [nf, Nat.beq] <;> rfl) | rfl) rfl (by omega) (by omega) ?_ | refine n_ibin rfl (by first | (simp only [nf, Nat.beq] <;> rfl) | rfl) (by first | (simp only [nf, Nat.beq] <;> rfl) | rfl) rfl ?_
      refine n_move rfl (by first | (simp only [nf, Nat.beq] <;> rfl) | rfl) ?_
      refine n_move rfl (by first | (simp only [nf, Nat.beq] <;> rfl) | rfl) ?_
      refine n_move rfl (by first | (simp only [nf, Nat.beq] <;> rfl) | rfl) ?_
      refine n_move rfl (by first | (simp only [nf, Nat.beq] <;> rfl) | rfl) ?_
      first | refine n_iadd rfl (by first | (simp only [nf, Nat.beq] <;> rfl) | rfl) (by first | (simp only [nf, Nat.beq] <;> rfl) | rfl) rfl (by omega) (by omega) ?_ | refine n_ibin rfl (by first | (simp only [nf, Nat.beq] <;> rfl) | rfl) (by first | (simp only [nf, Nat.beq] <;> rfl) | rfl) rfl ?_
      refine n_move rfl (by first | (simp only [nf, Nat.beq] <;> rfl) | rfl) ?_
      refine n_len rfl Try.underlying53 (by first | (simp only [nf, Nat.beq] <;> rfl) | rfl) (by first | rw [ints_length] | rw [List.length_map] | rfl) ?_
      refine n_min (T2 := #[]) (c := ((min (8 * k + 8) l.length : Nat) : Int)) rfl (by first | (simp only [nf, Nat.beq] <;> rfl) | rfl) (by first | (simp only [nf, Nat.beq] <;> rfl) | rfl) (by split <;> omega) ?_
      refine n_slice (h := min (8 * k + 8) l.length) (k := 8 * k) (ys := (chunk l k).map ez) rfl Try.underlying53 ti56 (by first | (simp only [nf, Nat.beq] <;> rfl) | rfl) (SB.some (by first | (simp only [nf, Nat.beq] <;> rfl) | rfl) (by omega)) (SB.some (by first | (simp only [nf, Nat.beq] <;> rfl) | rfl) (by omega)) (by omega) (by rw [List.length_map]; omega) (by exact map_one (f := ez) (fun _ => rfl)) (by unfold chunk; rw [← List.map_take, ← List.map_drop]; congr 2; rw [List.take_eq_take_iff]; omega) ?_
      refine n_append_full (zs := (chunk l k).map ez) (m := (chunk l k).length) rfl Try.underlying53 Try.underlying53 ei56 (by first | (simp only [nf, Nat.beq] <;> rfl) | rfl) (by first | (simp only [nf, Nat.beq] <;> rfl) | rfl) (by intro x hx; cases hx) (by exact map_one (f := ez) (fun _ => rfl)) (by rw [List.nil_append]) (by simp) (by omega) rfl (by first | (simp only [nf, Nat.beq] <;> rfl) | rfl) ?_
      refine AOps.toRo ?_
      refine n_build rfl si67 (Eq.trans (by simp only [nl] <;> rfl) (by first | (simp only [nf, Nat.beq] <;> rfl) | rfl)) (Eq.trans (by simp only [nl] <;> rfl) (by first | (simp only [nf, Nat.beq] <;> rfl) | rfl)) rfl ?_
      refine n_lit rfl Try.underlying115 ti67 zi67 rfl rfl (Eq.trans (by simp only [nl] <;> rfl) (by first | (simp only [nf, Nat.beq] <;> rfl) | rfl)) rfl (by first | (simp only [nf, Nat.beq] <;> rfl) | rfl) ?_
      refine n_append_own (zs := ((bun p q l).take (k + 1)).map bz) (m := ((bun p q l).take (k + 1)).length) rfl Try.underlying115 Try.underlying115 ei67 (by first | (simp only [nf, Nat.beq] <;> rfl) | rfl) (by first | (simp only [nf, Nat.beq] <;> rfl) | rfl) (by simp only [List.length_map]) (by first | (simp only [nf, Nat.beq] <;> rfl) | rfl) (by exact map_one (f := bz) (fun _ => rfl)) (by exact one_one rfl) (by rw [take_snoc hb, hmk]; simp) (by rw [take_snoc hb]; simp) (by rw [take_snoc hb]; simp only [List.length_append, List.length_take, List.length_cons, List.length_nil]; omega) (by first | (simp only [nf, Nat.beq] <;> rfl) | rfl) ?_
      refine n_assign rfl (by first | (simp only [nf, Nat.beq] <;> rfl) | rfl) ?_
      refine AOps.nil ?_
      refine AWP.region ?_
      refine n_move rfl (by first | (simp only [nf, Nat.beq] <;> rfl) | rfl) ?_
      first | refine n_iadd rfl (by first | (simp only [nf, Nat.beq] <;> rfl) | rfl) (by first | (simp only [nf, Nat.beq] <;> rfl) | rfl) rfl (by omega) (by omega) ?_ | refine n_ibin rfl (by first | (simp only [nf, Nat.beq] <;> rfl) | rfl) (by first | (simp only [nf, Nat.beq] <;> rfl) | rfl) rfl ?_
      refine n_assign rfl (by first | (simp only [nf, Nat.beq] <;> rfl) | rfl) ?_
      refine AOps.nil ?_
      refine ⟨k + 1, _, by omega, ?_, rfl, by omega⟩
      (repeat (first | exact FLe.empty _ | refine FLe.put ?_ ?_)) <;> first | (simp only [nf, Nat.beq]; done) | rfl | ((try simp only [nf, Nat.beq]); first | rfl | (simp only [List.length_map]; done) | (congr 2; omega; done))
    · try simp only [nh] at hc1
      have hcc := cnt_ge (l := l) (by omega) hk
      subst hcc
      rw [show (bun p q l).take (cnt l) = bun p q l from List.take_of_length_le (by omega)]
      refine AWP.exit ?_
      refine AWP.seq ?_
      refine AWP.region ?_
      refine n_move rfl (by first | (simp only [nf, Nat.beq] <;> rfl) | rfl) ?_
      refine n_assign rfl (by first | (simp only [nf, Nat.beq] <;> rfl) | rfl) ?_
      refine AOps.nil ?_
      refine AWP.ret ?_
      refine fin_pure (.cons (rv_tmp (by first | (simp only [nf, Nat.beq] <;> rfl) | rfl)) .nil) (by first | (simp only [nf, Nat.beq] <;> rfl) | rfl) ?_
      exact ren_mapG (f := bz) bz_lf

theorem same_bun (b : Bn) (hn : b.2.2.length ≤ 1048576) : Does Try.prog 98 [.agg (bz b), .agg (bz b)] [] (vb true) [] := by
  refine Does.of_body (rvs := [.tmp 4]) Try.func98 rfl rfl rfl rfl ?_
  refine AWP.seq ?_
  refine AWP.region ?_
  refine n_box rfl (by first | (simp only [nf, Nat.beq] <;> rfl) | rfl) rfl rfl (by first | (simp only [nf, Nat.beq] <;> rfl) | rfl) (by first | (simp only [nf, Nat.beq] <;> rfl) | rfl) ?_
  refine n_box rfl (by first | (simp only [nf, Nat.beq] <;> rfl) | rfl) rfl rfl (by first | (simp only [nf, Nat.beq] <;> rfl) | rfl) (by first | (simp only [nf, Nat.beq] <;> rfl) | rfl) ?_
  refine n_assign rfl (by first | (simp only [nf, Nat.beq] <;> rfl) | rfl) ?_
  refine AOps.nil ?_
  refine AWP.seq ?_
  refine AWP.region ?_
  refine n_fieldAddr rfl fd67_0 ti3 rfl (by first | (simp only [nf, Nat.beq] <;> rfl) | rfl) rfl (by first | (simp only [nf, Nat.beq] <;> rfl) | rfl) ?_
  refine n_load rfl ti3 (by first | (simp only [nf, Nat.beq] <;> rfl) | rfl) (by first | (simp only [nf, Nat.beq] <;> rfl) | rfl) rfl (by first | (simp only [nf, Nat.beq] <;> rfl) | rfl) ?_
  refine n_fieldAddr rfl fd67_0 ti3 rfl (by first | (simp only [nf, Nat.beq] <;> rfl) | rfl) rfl (by first | (simp only [nf, Nat.beq] <;> rfl) | rfl) ?_
  refine n_load rfl ti3 (by first | (simp only [nf, Nat.beq] <;> rfl) | rfl) (by first | (simp only [nf, Nat.beq] <;> rfl) | rfl) rfl (by first | (simp only [nf, Nat.beq] <;> rfl) | rfl) ?_
  refine n_ibin rfl (by first | (simp only [nf, Nat.beq] <;> rfl) | rfl) (by first | (simp only [nf, Nat.beq] <;> rfl) | rfl) rfl ?_
  refine n_move rfl (by first | (simp only [nf, Nat.beq] <;> rfl) | rfl) ?_
  refine AOps.name (u := 10) (fun z => .val (.bool z)) (by first | (simp only [nf, Nat.beq] <;> rfl) | rfl) (fun b10 hb10 => ?_)
  refine n_soft (u := 10) (E := .val (.bool b10)) (b10) rfl rfl rfl (by first | (simp only [nf, Nat.beq] <;> rfl) | rfl) (by cases b10 <;> first | (intro _; rfl) | (intro h; exact absurd h (by decide))) (by cases b10 <;> first | (intro h; exact absurd h (by decide)) | (intro _; exact ⟨_, rfl, by first | (intro h; cases h; done) | decide | simp⟩)) (fun h => by
      cases b10 with
      | false => exact absurd h (by first | decide | simp)
      | true =>
        refine n_fieldAddr rfl fd67_1 ti2 rfl (by first | (simp only [nf, Nat.beq] <;> rfl) | rfl) rfl (by first | (simp only [nf, Nat.beq] <;> rfl) | rfl) ?_
        exact AOps.nil ⟨rfl, rfl, rfl⟩) ?_
  refine n_soft (u := 10) (E := .val (.bool b10)) (b10) rfl rfl rfl (by first | (simp only [nf, Nat.beq] <;> rfl) | rfl) (by cases b10 <;> first | (intro _; rfl) | (intro h; exact absurd h (by decide))) (by cases b10 <;> first | (intro h; exact absurd h (by decide)) | (intro _; exact ⟨_, rfl, by first | (intro h; cases h; done) | decide | simp⟩)) (fun h => by
      cases b10 with
      | false => exact absurd h (by first | decide | simp)
      | true =>
        refine n_load rfl ti2 (by first | (simp only [nf, Nat.beq] <;> rfl) | rfl) (by first | (simp only [nf, Nat.beq] <;> rfl) | rfl) rfl (by first | (simp only [nf, Nat.beq] <;> rfl) | rfl) ?_
        exact AOps.nil ⟨rfl, rfl, rfl⟩) ?_
  refine n_soft (u := 10) (E := .val (.bool b10)) (b10) rfl rfl rfl (by first | (simp only [nf, Nat.beq] <;> rfl) | rfl) (by cases b10 <;> first | (intro _; rfl) | (intro h; exact absurd h (by decide))) (by cases b10 <;> first | (intro h; exact absurd h (by decide)) | (intro _; exact ⟨_, rfl, by first | (intro h; cases h; done) | decide | simp⟩)) (fun h => by
      cases b10 with
      | false => exact absurd h (by first | decide | simp)
      | true =>
        refine n_fieldAddr rfl fd67_1 ti2 rfl (by first | (simp only [nf, Nat.beq] <;> rfl) | rfl) rfl (by first | (simp only [nf, Nat.beq] <;> rfl) | rfl) ?_
        exact AOps.nil ⟨rfl, rfl, rfl⟩) ?_
  refine n_soft (u := 10) (E := .val (.bool b10)) (b10) rfl rfl rfl (by first | (simp only [nf, Nat.beq] <;> rfl) | rfl) (by cases b10 <;> first | (intro _; rfl) | (intro h; exact absurd h (by decide))) (by cases b10 <;> first | (intro h; exact absurd h (by decide)) | (intro _; exact ⟨_, rfl, by first | (intro h; cases h; done) | decide | simp⟩)) (fun h => by
      cases b10 with
      | false => exact absurd h (by first | decide | simp)
      | true =>
        refine n_load rfl ti2 (by first | (simp only [nf, Nat.beq] <;> rfl) | rfl) (by first | (simp only [nf, Nat.beq] <;> rfl) | rfl) rfl (by first | (simp only [nf, Nat.beq] <;> rfl) | rfl) ?_
        exact AOps.nil ⟨rfl, rfl, rfl⟩) ?_
  refine n_soft (u := 10) (E := .val (.bool b10)) (b10) rfl rfl rfl (by first | (simp only [nf, Nat.beq] <;> rfl) | rfl) (by cases b10 <;> first | (intro _; rfl) | (intro h; exact absurd h (by decide))) (by cases b10 <;> first | (intro h; exact absurd h (by decide)) | (intro _; exact ⟨_, rfl, by first | (intro h; cases h; done) | decide | simp⟩)) (fun h => by
      cases b10 with
      | false => exact absurd h (by first | decide | simp)
      | true =>
        refine n_ibin rfl (by first | (simp only [nf, Nat.beq] <;> rfl) | rfl) (by first | (simp only [nf, Nat.beq] <;> rfl) | rfl) rfl ?_
        exact AOps.nil ⟨rfl, rfl, rfl⟩) ?_
  refine n_pick_and rfl (by first | (simp only [nf, Nat.beq] <;> rfl) | rfl) (fun h => by cases b10 with | false => exact absurd h (by decide) | true => exact (by first | (simp only [nf, Nat.beq] <;> rfl) | rfl)) ?_
  refine n_move rfl (by first | (simp only [nf, Nat.beq] <;> rfl) | rfl) ?_
  refine AOps.name (u := 17) (fun z => .val (.bool z)) (by first | (simp only [nf, Nat.beq] <;> rfl) | rfl) (fun b17 hb17 => ?_)
  refine n_soft (u := 17) (E := .val (.bool b17)) (b17) rfl rfl rfl (by first | (simp only [nf, Nat.beq] <;> rfl) | rfl) (by cases b17 <;> first | (intro _; rfl) | (intro h; exact absurd h (by decide))) (by cases b17 <;> first | (intro h; exact absurd h (by decide)) | (intro _; exact ⟨_, rfl, by first | (intro h; cases h; done) | decide | simp⟩)) (fun h => by
      cases b17 with
      | false => exact absurd h (by first | decide | simp)
      | true =>
        refine n_fieldAddr rfl fd67_2 ti53 rfl (by first | (simp only [nf, Nat.beq] <;> rfl) | rfl) rfl (by first | (simp only [nf, Nat.beq] <;> rfl) | rfl) ?_
        exact AOps.nil ⟨rfl, rfl, rfl⟩) ?_
  refine n_soft (u := 17) (E := .val (.bool b17)) (b17) rfl rfl rfl (by first | (simp only [nf, Nat.beq] <;> rfl) | rfl) (by cases b17 <;> first | (intro _; rfl) | (intro h; exact absurd h (by decide))) (by cases b17 <;> first | (intro h; exact absurd h (by decide)) | (intro _; exact ⟨_, rfl, by first | (intro h; cases h; done) | decide | simp⟩)) (fun h => by
      cases b17 with
      | false => exact absurd h (by first | decide | simp)
      | true =>
        refine n_load rfl ti53 (by first | (simp only [nf, Nat.beq] <;> rfl) | rfl) (by first | (simp only [nf, Nat.beq] <;> rfl) | rfl) rfl (by first | (simp only [nf, Nat.beq] <;> rfl) | rfl) ?_
        exact AOps.nil ⟨rfl, rfl, rfl⟩) ?_
  refine n_soft (u := 17) (E := .val (.bool b17)) (b17) rfl rfl rfl (by first | (simp only [nf, Nat.beq] <;> rfl) | rfl) (by cases b17 <;> first | (intro _; rfl) | (intro h; exact absurd h (by decide))) (by cases b17 <;> first | (intro h; exact absurd h (by decide)) | (intro _; exact ⟨_, rfl, by first | (intro h; cases h; done) | decide | simp⟩)) (fun h => by
      cases b17 with
      | false => exact absurd h (by first | decide | simp)
      | true =>
        refine n_fieldAddr rfl fd67_2 ti53 rfl (by first | (simp only [nf, Nat.beq] <;> rfl) | rfl) rfl (by first | (simp only [nf, Nat.beq] <;> rfl) | rfl) ?_
        exact AOps.nil ⟨rfl, rfl, rfl⟩) ?_
  refine n_soft (u := 17) (E := .val (.bool b17)) (b17) rfl rfl rfl (by first | (simp only [nf, Nat.beq] <;> rfl) | rfl) (by cases b17 <;> first | (intro _; rfl) | (intro h; exact absurd h (by decide))) (by cases b17 <;> first | (intro h; exact absurd h (by decide)) | (intro _; exact ⟨_, rfl, by first | (intro h; cases h; done) | decide | simp⟩)) (fun h => by
      cases b17 with
      | false => exact absurd h (by first | decide | simp)
      | true =>
        refine n_load rfl ti53 (by first | (simp only [nf, Nat.beq] <;> rfl) | rfl) (by first | (simp only [nf, Nat.beq] <;> rfl) | rfl) rfl (by first | (simp only [nf, Nat.beq] <;> rfl) | rfl) ?_
        exact AOps.nil ⟨rfl, rfl, rfl⟩) ?_
  refine n_soft (u := 17) (E := .val (.bool b17)) (b17) rfl rfl rfl (by first | (simp only [nf, Nat.beq] <;> rfl) | rfl) (by cases b17 <;> first | (intro _; rfl) | (intro h; exact absurd h (by decide))) (by cases b17 <;> first | (intro h; exact absurd h (by decide)) | (intro _; exact ⟨_, rfl, by first | (intro h; cases h; done) | decide | simp⟩)) (fun h => by
      cases b17 with
      | false => exact absurd h (by first | decide | simp)
      | true =>
        refine n_call0B rfl cf63 rfl (Eq.trans (by simp only [nl] <;> rfl) (by first | (simp only [nf, Nat.beq] <;> rfl) | rfl)) (by repeat (first | exact .nil | refine .cons ?_ ?_ | exact ren_ints | exact .lf (.val _) | exact .lf (lf_ints (.inl rfl)) | exact .bp ⟨rfl, rfl⟩ | exact .bp (.inl ⟨rfl, rfl⟩) | exact .bp (.inr ⟨rfl, rfl⟩) | exact .lf (D.flat_lf rfl) | exact ren_map (f := ez) (fun _ => rfl) | exact .lf (.agg (bz_lf _)) | exact ren_mapG (f := bz) bz_lf | exact .lf (lf_fn2 (lf_rp1 (f := ez) (fun _ => rfl)) lf_vi) | exact .lf (lf_fn3 lf_vi (lf_rp1 (f := ez) (fun _ => rfl)) lf_vi) | exact ren_chunk | exact Mt.ren_bun _ _ | exact ren_bz)) (Mt.eq_en b.2.2 hn) (by first | exact .val _ | exact lf_ints (.inl rfl) | exact lf_ints (.inr rfl) | exact .any | exact D.flat_lf rfl | exact .tup (lf_cons (lf_map (f := ez) (fun _ => rfl) (.inl rfl)) (lf_cons (.val _) lf_nil)) | exact lf_map (f := ez) (fun _ => rfl) (.inl rfl) | exact lf_mapG (f := bz) bz_lf (.inl rfl) | exact lf_fn2 (lf_rp1 (f := ez) (fun _ => rfl)) lf_vi | exact lf_fn3 lf_vi (lf_rp1 (f := ez) (fun _ => rfl)) lf_vi) ?_
        exact AOps.nil ⟨rfl, rfl, rfl⟩) ?_
  refine n_pick_and rfl (by first | (simp only [nf, Nat.beq] <;> rfl) | rfl) (fun h => by cases b17 with | false => exact absurd h (by decide) | true => exact (by first | (simp only [nf, Nat.beq] <;> rfl) | rfl)) ?_
  refine n_assign rfl (by first | (simp only [nf, Nat.beq] <;> rfl) | rfl) ?_
  subst hb10
  subst hb17
  refine AOps.nil ?_
  refine AWP.ret ?_
  refine fin_pure (.cons (rv_tmp (by first | (simp only [nf, Nat.beq] <;> rfl) | rfl)) .nil) (by first | (simp only [nf, Nat.beq] <;> rfl) | rfl) ?_
  exact ren_flat rfl (congrArg vb (by simp))

end Go.Proofs.Ytanfmpkjcoolmaa.Bu
