/- Law of bundles. -/
import Derived.Test.YtanfmpkjcoolmaaBuA
import Derived.KernelRfl
set_option linter.unusedVariables false
set_option linter.unusedSimpArgs false
namespace Go.Proofs.Ytanfmpkjcoolmaa.Bl
open Go Go.Abs Go.Abs.Sd
attribute [local irreducible] AWP AOps Does

theorem cf54 : CF Try.prog 54 := ⟨_, Try.func54, by kernel_rfl, by kernel_rfl⟩
theorem cf59 : CF Try.prog 59 := ⟨_, Try.func59, by kernel_rfl, by kernel_rfl⟩
theorem cf63 : CF Try.prog 63 := ⟨_, Try.func63, by kernel_rfl, by kernel_rfl⟩
theorem cf96 : CF Try.prog 96 := ⟨_, Try.func96, by kernel_rfl, by kernel_rfl⟩
theorem cf97 : CF Try.prog 97 := ⟨_, Try.func97, by kernel_rfl, by kernel_rfl⟩
theorem cf98 : CF Try.prog 98 := ⟨_, Try.func98, by kernel_rfl, by kernel_rfl⟩
theorem cf99 : CF Try.prog 99 := ⟨_, Try.func99, by kernel_rfl, by kernel_rfl⟩
theorem ei56 : EI Try.prog 56 4 32 (.agg #[.int .i64 0, .int .i64 0, .int .i64 0, .int .i64 0]) := EI.of (by kernel_rfl) rfl rfl
theorem fd67_1 : FD Try.prog 67 1 2 1 := ⟨_, _, Try.underlying67, rfl, rfl, rfl⟩
theorem fd67_2 : FD Try.prog 67 2 53 2 := ⟨_, _, Try.underlying67, rfl, rfl, rfl⟩
theorem ti2 : TI Try.prog 2 1 false := ⟨by kernel_rfl, by kernel_rfl⟩
theorem ti53 : TI Try.prog 53 1 false := ⟨by kernel_rfl, by kernel_rfl⟩
theorem ti67 : TI Try.prog 67 3 true := ⟨by kernel_rfl, by kernel_rfl⟩
theorem zi2 : (Try.prog.info? 2).map (·.zero) = some (some (.int .i64 0)) := by kernel_rfl
theorem zi67 : (Try.prog.info? 67).map (·.zero) = some (some (.agg #[.int .i64 0, .int .i64 0, .slice none 0 0])) := by kernel_rfl

attribute [local irreducible] chunk cnt bun chunks accept chkB
theorem ren_ez {ρ σ : Nat → Nat → Prop} {nl : Option Bool} {c : Cap} {l : List En} : Ren ρ σ (.sl nl (l.map ez) c) (.sl none (l.map ez) .ro) := ren_map (f := ez) (fun _ => rfl)
set_option maxHeartbeats 8000000 in
theorem Bundles_calls (p pos : Int) (l : List En) (hn : l.length ≤ 1048576) : Does Try.prog 15 [vi p, vi pos, (.sl none (l.map ez) .ro)] [] (vb true) [] := by
  refine Does.of_body (rvs := [.tmp 6]) Try.func15 rfl rfl rfl rfl ?_
  refine AWP.seq ?_
  refine AWP.region ?_
  refine n_assign rfl (by first | (simp only [nf, Nat.beq] <;> rfl) | rfl) ?_
  refine AOps.nil ?_
  refine AWP.seq ?_
  refine AWP.seq ?_
  refine AWP.region ?_
  refine n_call0B rfl cf54 rfl (Eq.trans (by simp only [nl] <;> rfl) (by first | (simp only [nf, Nat.beq] <;> rfl) | rfl)) (by repeat (first | exact .nil | refine .cons ?_ ?_ | exact ren_ints | exact .lf (.val _) | exact .lf (lf_ints (.inl rfl)) | exact .bp ⟨rfl, rfl⟩ | exact .bp (.inl ⟨rfl, rfl⟩) | exact .bp (.inr ⟨rfl, rfl⟩) | exact .lf (D.flat_lf rfl) | exact ren_map (f := ez) (fun _ => rfl) | exact .lf (.agg (bz_lf _)) | exact ren_mapG (f := bz) bz_lf | exact .lf (lf_fn2 (lf_rp1 (f := ez) (fun _ => rfl)) lf_vi) | exact .lf (lf_fn3 lf_vi (lf_rp1 (f := ez) (fun _ => rfl)) lf_vi) | exact Bu.ren_chunk | exact Mt.ren_bun _ _ | exact Bu.ren_bz | exact ren_ez)) (Mi.live) (by first | exact .val _ | exact lf_ints (.inl rfl) | exact lf_ints (.inr rfl) | exact .any | exact D.flat_lf rfl | exact .tup (lf_cons (lf_map (f := ez) (fun _ => rfl) (.inl rfl)) (lf_cons (.val _) lf_nil)) | exact lf_map (f := ez) (fun _ => rfl) (.inl rfl) | exact lf_mapG (f := bz) bz_lf (.inl rfl) | exact lf_fn2 (lf_rp1 (f := ez) (fun _ => rfl)) lf_vi | exact lf_fn3 lf_vi (lf_rp1 (f := ez) (fun _ => rfl)) lf_vi) ?_
  refine n_not rfl (by first | (simp only [nf, Nat.beq] <;> rfl) | rfl) rfl ?_
  refine AOps.nil ?_
  refine AWP.cond_false (by first | (simp only [nf, Nat.beq] <;> rfl) | rfl) ?_
  refine AWP.skip ?_
  refine AWP.seq ?_
  refine AWP.seq ?_
  refine AWP.region ?_
  refine n_move rfl (by first | (simp only [nf, Nat.beq] <;> rfl) | rfl) ?_
  refine n_ibin rfl (by first | (simp only [nf, Nat.beq] <;> rfl) | rfl) (by first | (simp only [nf, Nat.beq] <;> rfl) | rfl) rfl ?_
  refine n_move rfl (by first | (simp only [nf, Nat.beq] <;> rfl) | rfl) ?_
  refine AOps.name (u := 22) (fun z => .val (.bool z)) (by first | (simp only [nf, Nat.beq] <;> rfl) | rfl) (fun b22 hb22 => ?_)
  refine n_soft (u := 22) (E := .val (.bool b22)) (!b22) rfl rfl rfl (by first | (simp only [nf, Nat.beq] <;> rfl) | rfl) (by cases b22 <;> first | (intro _; rfl) | (intro h; exact absurd h (by decide))) (by cases b22 <;> first | (intro h; exact absurd h (by decide)) | (intro _; exact ⟨_, rfl, by first | (intro h; cases h; done) | decide | simp⟩)) (fun h => by
      cases b22 with
      | true => exact absurd h (by first | decide | simp)
      | false =>
        refine n_move rfl (by first | (simp only [nf, Nat.beq] <;> rfl) | rfl) ?_
        exact AOps.nil ⟨rfl, rfl, rfl⟩) ?_
  refine n_soft (u := 22) (E := .val (.bool b22)) (!b22) rfl rfl rfl (by first | (simp only [nf, Nat.beq] <;> rfl) | rfl) (by cases b22 <;> first | (intro _; rfl) | (intro h; exact absurd h (by decide))) (by cases b22 <;> first | (intro h; exact absurd h (by decide)) | (intro _; exact ⟨_, rfl, by first | (intro h; cases h; done) | decide | simp⟩)) (fun h => by
      cases b22 with
      | true => exact absurd h (by first | decide | simp)
      | false =>
        refine n_ibin rfl (by first | (simp only [nf, Nat.beq] <;> rfl) | rfl) (by first | (simp only [nf, Nat.beq] <;> rfl) | rfl) rfl ?_
        exact AOps.nil ⟨rfl, rfl, rfl⟩) ?_
  refine n_pick_or rfl (by first | (simp only [nf, Nat.beq] <;> rfl) | rfl) (fun h => by cases b22 with | true => exact absurd h (by decide) | false => exact (by first | (simp only [nf, Nat.beq] <;> rfl) | rfl)) ?_
  subst hb22
  refine AOps.nil ?_
  refine AWP.cond (by first | (simp only [nf, Nat.beq] <;> rfl) | rfl) (fun hc2 => ?_) (fun hc2 => ?_)
  · try simp only [nh] at hc2
    obtain ⟨q, hqb, hq⟩ : ∃ q : Int, (0 ≤ q ∧ q ≤ 9007199254740992) ∧ q = 0 := ⟨0, by omega, rfl⟩
    have hbu := Bu.bundles p q l hqb hn
    have hrb := Bu.r_bundles p q l hqb hn
    have hbl := bun_len p q l
    have hcn : cnt l ≤ 1048576 := by unfold cnt; omega
    refine AWP.region ?_
    refine n_assign rfl (by first | (simp only [nf, Nat.beq] <;> rfl) | rfl) ?_
    refine AOps.nil ?_
    refine AWP.seq ?_
    refine AWP.forget (tm' := put (put (put empty 0 (vi p)) 1 (vi q)) 2 (.sl none (l.map ez) .ro)) ?_ ?_
    · (repeat (first | exact FLe.empty _ | refine FLe.put ?_ ?_)) <;> first | (simp only [nf, Nat.beq]; done) | rfl | ((try simp only [nf, Nat.beq]); first | rfl | (rw [hq]; done) | (rw [hq]; rfl))
    refine AWP.region ?_
    refine n_move rfl (by first | (simp only [nf, Nat.beq] <;> rfl) | rfl) ?_
    refine n_move rfl (by first | (simp only [nf, Nat.beq] <;> rfl) | rfl) ?_
    refine n_move rfl (by first | (simp only [nf, Nat.beq] <;> rfl) | rfl) ?_
    refine n_callOwnB rfl cf96 rfl (Eq.trans (by simp only [nl] <;> rfl) (by first | (simp only [nf, Nat.beq] <;> rfl) | rfl)) (by repeat (first | exact .nil | refine .cons ?_ ?_ | exact ren_ints | exact .lf (.val _) | exact .lf (lf_ints (.inl rfl)) | exact .bp ⟨rfl, rfl⟩ | exact .bp (.inl ⟨rfl, rfl⟩) | exact .bp (.inr ⟨rfl, rfl⟩) | exact .lf (D.flat_lf rfl) | exact ren_map (f := ez) (fun _ => rfl) | exact .lf (.agg (bz_lf _)) | exact ren_mapG (f := bz) bz_lf | exact .lf (lf_fn2 (lf_rp1 (f := ez) (fun _ => rfl)) lf_vi) | exact .lf (lf_fn3 lf_vi (lf_rp1 (f := ez) (fun _ => rfl)) lf_vi) | exact Bu.ren_chunk | exact Mt.ren_bun _ _ | exact Bu.ren_bz | exact ren_ez)) (hbu) (by first | exact ints_lf _ _ | exact fun x hx d hd => by obtain ⟨b, _, rfl⟩ := List.mem_map.1 hx; exact bz_lf b d hd) rfl (by first | (simp only [nf, Nat.beq] <;> rfl) | rfl) ?_
    refine n_move rfl (by first | (simp only [nf, Nat.beq] <;> rfl) | rfl) ?_
    refine n_move rfl (by first | (simp only [nf, Nat.beq] <;> rfl) | rfl) ?_
    refine n_move rfl (by first | (simp only [nf, Nat.beq] <;> rfl) | rfl) ?_
    refine n_call0B rfl cf97 rfl (Eq.trans (by simp only [nl] <;> rfl) (by first | (simp only [nf, Nat.beq] <;> rfl) | rfl)) (by repeat (first | exact .nil | refine .cons ?_ ?_ | exact ren_ints | exact .lf (.val _) | exact .lf (lf_ints (.inl rfl)) | exact .bp ⟨rfl, rfl⟩ | exact .bp (.inl ⟨rfl, rfl⟩) | exact .bp (.inr ⟨rfl, rfl⟩) | exact .lf (D.flat_lf rfl) | exact ren_map (f := ez) (fun _ => rfl) | exact .lf (.agg (bz_lf _)) | exact ren_mapG (f := bz) bz_lf | exact .lf (lf_fn2 (lf_rp1 (f := ez) (fun _ => rfl)) lf_vi) | exact .lf (lf_fn3 lf_vi (lf_rp1 (f := ez) (fun _ => rfl)) lf_vi) | exact Bu.ren_chunk | exact Mt.ren_bun _ _ | exact Bu.ren_bz | exact ren_ez)) (hrb) (by first | exact .val _ | exact lf_ints (.inl rfl) | exact lf_ints (.inr rfl) | exact .any | exact D.flat_lf rfl | exact .tup (lf_cons (lf_map (f := ez) (fun _ => rfl) (.inl rfl)) (lf_cons (.val _) lf_nil)) | exact lf_map (f := ez) (fun _ => rfl) (.inl rfl) | exact lf_mapG (f := bz) bz_lf (.inl rfl) | exact lf_fn2 (lf_rp1 (f := ez) (fun _ => rfl)) lf_vi | exact lf_fn3 lf_vi (lf_rp1 (f := ez) (fun _ => rfl)) lf_vi) ?_
    refine n_assign rfl (by first | (simp only [nf, Nat.beq] <;> rfl) | rfl) ?_
    refine n_assign rfl (by first | (simp only [nf, Nat.beq] <;> rfl) | rfl) ?_
    refine AOps.nil ?_
    refine AWP.seq ?_
    refine AWP.seq ?_
    refine AWP.region ?_
    refine n_move rfl (by first | (simp only [nf, Nat.beq] <;> rfl) | rfl) ?_
    refine n_len rfl Try.underlying115 (by first | (simp only [nf, Nat.beq] <;> rfl) | rfl) (by first | rw [ints_length] | rw [List.length_map] | rfl) ?_
    refine n_move rfl (by first | (simp only [nf, Nat.beq] <;> rfl) | rfl) ?_
    refine n_len rfl Try.underlying115 (by first | (simp only [nf, Nat.beq] <;> rfl) | rfl) (by first | rw [ints_length] | rw [List.length_map] | rfl) ?_
    refine n_ibin rfl (by first | (simp only [nf, Nat.beq] <;> rfl) | rfl) (by first | (simp only [nf, Nat.beq] <;> rfl) | rfl) rfl ?_
    refine AOps.nil ?_
    refine AWP.cond (by first | (simp only [nf, Nat.beq] <;> rfl) | rfl) (fun hc3 => ?_) (fun hc3 => ?_)
    · try simp only [nh] at hc3
      exfalso
      simp at hc3
    · try simp only [nh] at hc3
      refine AWP.skip ?_
      refine AWP.seq ?_
      refine AWP.region ?_
      refine n_assign rfl (by first | (simp only [nf, Nat.beq] <;> rfl) | rfl) ?_
      refine AOps.nil ?_
      refine AWP.seq ?_
      refine AWP.seq ?_
      refine AWP.adopt (t := 9) (m := 0) (S' := [.row (bun p q l).length 3, .row 0 4]) (by rfl) rfl rfl rfl ?_
      refine AWP.region ?_
      refine n_move rfl (by first | (simp only [nf, Nat.beq] <;> rfl) | rfl) ?_
      refine n_len rfl Try.underlying115 (by first | (simp only [nf, Nat.beq] <;> rfl) | rfl) (by first | rw [ints_length] | rw [List.length_map] | rfl) ?_
      refine n_move rfl (by first | (simp only [nf, Nat.beq] <;> rfl) | rfl) ?_
      refine AOps.nil ?_
      refine AWP.block ?_
      refine AWP.loopX 2 (α := Nat) (fun k => k ≤ cnt l) (fun k => put (put (put (put (put (put (put (put empty 1 (vi q)) 2 (.sl none (l.map ez) .ro)) 7 (.sl none ((bun p q l).map bz) (.own 0))) 8 (.sl none ((bun p q l).map bz) .ro)) 9 (.sl none ((l.take (8 * (k))).map ez) (.own 1))) 39 (.sl none ((bun p q l).map bz) (.own 0))) 40 (vi ((bun p q l).length : Int))) 41 (vi (k : Int))) (fun k => [.row (bun p q l).length 3, .row (l.take (8 * k)).length 4]) (fun k => cnt l - k) 0 ?_ ?_ ?_ ?_ ?_ ?_ ?_
      · exact Nat.zero_le _
      · (repeat (first | exact FLe.empty _ | refine FLe.put ?_ ?_)) <;> first | (simp only [nf, Nat.beq]; done) | rfl | ((try simp only [nf, Nat.beq]); first | rfl | (simp only [List.length_map]; done) | (congr 2; omega; done))
      · rfl
      · exact fun _ => rfl
      · intro p hp; (try dsimp only); (repeat' (refine un_put ?_ ?_)) <;> first | exact un_empty | exact .bp (by decide) | exact .lf (D.flat_lf rfl) | exact .lf (lf_ints (.inl rfl)) | exact .lf (lf_map (fun _ => rfl) (.inl rfl)) | exact .lf (lf_mapG bz_lf (.inl rfl)) | exact .sl (fun x hx d hd => by obtain ⟨b, _, rfl⟩ := List.mem_map.1 hx; exact .lf (bz_lf b d hd)) (fun l e => by cases e; decide) | exact .sl (fun x hx d hd => by obtain ⟨b, _, rfl⟩ := List.mem_map.1 hx; exact .lf (flats_lf (by rfl) d hd)) (fun l e => by cases e; decide)
      · intro p hp; (try dsimp only); repeat' (first | exact un_nil | refine un_cons ?_ ?_ | exact un_box rfl | exact trivial)
      · intro k hk
        try dsimp only at hk ⊢
        refine AWP.seq ?_
        refine AWP.region ?_
        refine n_ibin rfl (by first | (simp only [nf, Nat.beq] <;> rfl) | rfl) (by first | (simp only [nf, Nat.beq] <;> rfl) | rfl) rfl ?_
        refine AOps.nil ?_
        refine AWP.seq ?_
        refine AWP.cond (by first | (simp only [nf, Nat.beq] <;> rfl) | rfl) (fun hc4 => ?_) (fun hc4 => ?_)
        · try simp only [nh] at hc4
          have hkc : k < cnt l := by omega
          have h8 := cnt_lt hkc
          have hb := bun_at (p := p) (q := q) hkc
          have hle := chunk_le l k
          have hsb := Bu.same_bun (p, q + ((min (8 * k) l.length : Nat) : Int), chunk l k) (by dsimp only; omega)
          obtain ⟨E, hE⟩ : ∃ E : List Int, E = [q, q + ((min (8 * k) l.length : Nat) : Int), q + ((min (8 * k) l.length : Nat) : Int) + 1, -1] := ⟨_, rfl⟩
          have hEl : E.length = 4 := by rw [hE]; rfl
          refine AWP.skip ?_
          refine AWP.seq ?_
          refine AWP.block ?_
          refine AWP.seq ?_
          refine AWP.region ?_
          refine n_move rfl (by first | (simp only [nf, Nat.beq] <;> rfl) | rfl) ?_
          refine n_indexAddr rfl Try.underlying115 ti67 rfl (by first | (simp only [nf, Nat.beq] <;> rfl) | rfl) (by first | (simp only [nf, Nat.beq] <;> rfl) | rfl) (by omega) (by first | exact ints_at _ _ _ (by omega) | exact ints_get _ _ _ (by omega) | exact map_at _ (by assumption) | rfl) rfl ?_
          refine n_load rfl ti67 (by first | (simp only [nf, Nat.beq] <;> rfl) | rfl) (by first | (simp only [nf, Nat.beq] <;> rfl) | rfl) rfl (by first | (simp only [nf, Nat.beq] <;> rfl) | rfl) ?_
          refine n_alloc rfl zi67 rfl (by first | (simp only [nf, Nat.beq] <;> rfl) | rfl) (by first | (simp only [nf, Nat.beq] <;> rfl) | rfl) ?_
          refine n_assign rfl (by first | (simp only [nf, Nat.beq] <;> rfl) | rfl) ?_
          refine n_store ti67 (by first | (simp only [nf, Nat.beq] <;> rfl) | rfl) rfl (by first | (simp only [nf, Nat.beq] <;> rfl) | rfl) rfl (by first | (simp only [nf, Nat.beq] <;> rfl) | rfl) rfl rfl rfl (by first | (simp only [nf, Nat.beq] <;> rfl) | rfl) ?_
          refine AOps.nil ?_
          refine AWP.seq ?_
          refine AWP.seq ?_
          refine AWP.anyStill (by kernel_rfl) (by kernel_rfl) ?_
          refine Walk.still (rs := [11]) (by rfl) (by first | (simp only [nf, Nat.beq] <;> rfl) | rfl) (fun base => by
              refine n_load rfl ti67 (by first | (simp only [nf, Nat.beq] <;> rfl) | rfl) (by first | (simp only [nf, Nat.beq] <;> rfl) | rfl) rfl (by first | (simp only [nf, Nat.beq] <;> rfl) | rfl) ?_
              exact AOps.nil ⟨rfl, rfl, rfl⟩) ?_
          refine Walk.still (rs := [8]) (by rfl) (by first | (simp only [nf, Nat.beq] <;> rfl) | rfl) (fun base => by
              refine n_move rfl (by first | (simp only [nf, Nat.beq] <;> rfl) | rfl) ?_
              exact AOps.nil ⟨rfl, rfl, rfl⟩) ?_
          refine Walk.still (rs := [10]) (by rfl) (by first | (simp only [nf, Nat.beq] <;> rfl) | rfl) (fun base => by
              refine n_move rfl (by first | (simp only [nf, Nat.beq] <;> rfl) | rfl) ?_
              exact AOps.nil ⟨rfl, rfl, rfl⟩) ?_
          refine Walk.still (rs := [47, 48]) (by rfl) (by first | (simp only [nf, Nat.beq] <;> rfl) | rfl) (fun base => by
              refine n_indexAddr rfl Try.underlying115 ti67 rfl (by first | (simp only [nf, Nat.beq] <;> rfl) | rfl) (by first | (simp only [nf, Nat.beq] <;> rfl) | rfl) (by omega) (by first | exact ints_at _ _ _ (by omega) | exact ints_get _ _ _ (by omega) | exact map_at _ (by assumption) | rfl) rfl ?_
              exact AOps.nil ⟨rfl, rfl, rfl⟩) ?_
          refine Walk.still (rs := [49]) (by rfl) (by first | (simp only [nf, Nat.beq] <;> rfl) | rfl) (fun base => by
              refine n_load rfl ti67 (by first | (simp only [nf, Nat.beq] <;> rfl) | rfl) (by first | (simp only [nf, Nat.beq] <;> rfl) | rfl) rfl (by first | (simp only [nf, Nat.beq] <;> rfl) | rfl) ?_
              exact AOps.nil ⟨rfl, rfl, rfl⟩) ?_
          refine Walk.still (rs := [46, 50]) (by rfl) (by first | (simp only [nf, Nat.beq] <;> rfl) | rfl) (fun base => by
              refine n_call0B rfl cf98 rfl (Eq.trans (by simp only [nl] <;> rfl) (by first | (simp only [nf, Nat.beq] <;> rfl) | rfl)) (by repeat (first | exact .nil | refine .cons ?_ ?_ | exact ren_ints | exact .lf (.val _) | exact .lf (lf_ints (.inl rfl)) | exact .bp ⟨rfl, rfl⟩ | exact .bp (.inl ⟨rfl, rfl⟩) | exact .bp (.inr ⟨rfl, rfl⟩) | exact .lf (D.flat_lf rfl) | exact ren_map (f := ez) (fun _ => rfl) | exact .lf (.agg (bz_lf _)) | exact ren_mapG (f := bz) bz_lf | exact .lf (lf_fn2 (lf_rp1 (f := ez) (fun _ => rfl)) lf_vi) | exact .lf (lf_fn3 lf_vi (lf_rp1 (f := ez) (fun _ => rfl)) lf_vi) | exact Bu.ren_chunk | exact Mt.ren_bun _ _ | exact Bu.ren_bz | exact ren_ez)) (hsb) (by first | exact .val _ | exact lf_ints (.inl rfl) | exact lf_ints (.inr rfl) | exact .any | exact D.flat_lf rfl | exact .tup (lf_cons (lf_map (f := ez) (fun _ => rfl) (.inl rfl)) (lf_cons (.val _) lf_nil)) | exact lf_map (f := ez) (fun _ => rfl) (.inl rfl) | exact lf_mapG (f := bz) bz_lf (.inl rfl) | exact lf_fn2 (lf_rp1 (f := ez) (fun _ => rfl)) lf_vi | exact lf_fn3 lf_vi (lf_rp1 (f := ez) (fun _ => rfl)) lf_vi) ?_
              exact AOps.nil ⟨rfl, rfl, rfl⟩) ?_
          refine Walk.still (rs := [51]) (by rfl) (by first | (simp only [nf, Nat.beq] <;> rfl) | rfl) (fun base => by
              refine n_not rfl (by first | (simp only [nf, Nat.beq] <;> rfl) | rfl) rfl ?_
              exact AOps.nil ⟨rfl, rfl, rfl⟩) ?_
          refine Walk.done ?_
          refine AWP.cond_false (by first | (simp only [nf, Nat.beq] <;> rfl) | rfl) ?_
          refine AWP.skip ?_
          refine AWP.seq ?_
          refine AWP.region ?_
          refine n_move rfl (by first | (simp only [nf, Nat.beq] <;> rfl) | rfl) ?_
          refine n_fieldAddr rfl fd67_2 ti53 rfl (by first | (simp only [nf, Nat.beq] <;> rfl) | rfl) rfl (by first | (simp only [nf, Nat.beq] <;> rfl) | rfl) ?_
          refine n_load rfl ti53 (by first | (simp only [nf, Nat.beq] <;> rfl) | rfl) (by first | (simp only [nf, Nat.beq] <;> rfl) | rfl) rfl (by first | (simp only [nf, Nat.beq] <;> rfl) | rfl) ?_
          refine n_append_own (zs := (l.take (8 * (k + 1))).map ez) (m := (l.take (8 * (k + 1))).length) rfl Try.underlying53 Try.underlying53 ei56 (by first | (simp only [nf, Nat.beq] <;> rfl) | rfl) (by first | (simp only [nf, Nat.beq] <;> rfl) | rfl) (by simp only [List.length_map]) (by first | (simp only [nf, Nat.beq] <;> rfl) | rfl) (by exact map_one (f := ez) (fun _ => rfl)) (by exact map_one (f := ez) (fun _ => rfl)) (by rw [← List.map_append, take_chunk]) (by rw [← take_chunk]; simp) (by simp only [List.length_take]; omega) (by first | (simp only [nf, Nat.beq] <;> rfl) | rfl) ?_
          refine n_assign rfl (by first | (simp only [nf, Nat.beq] <;> rfl) | rfl) ?_
          refine AOps.nil ?_
          refine AWP.seq ?_
          refine AWP.region ?_
          refine n_move rfl (by first | (simp only [nf, Nat.beq] <;> rfl) | rfl) ?_
          refine n_fieldAddr rfl fd67_1 ti2 rfl (by first | (simp only [nf, Nat.beq] <;> rfl) | rfl) rfl (by first | (simp only [nf, Nat.beq] <;> rfl) | rfl) ?_
          refine n_load rfl ti2 (by first | (simp only [nf, Nat.beq] <;> rfl) | rfl) (by first | (simp only [nf, Nat.beq] <;> rfl) | rfl) rfl (by first | (simp only [nf, Nat.beq] <;> rfl) | rfl) ?_
          refine n_fieldAddr rfl fd67_1 ti2 rfl (by first | (simp only [nf, Nat.beq] <;> rfl) | rfl) rfl (by first | (simp only [nf, Nat.beq] <;> rfl) | rfl) ?_
          refine n_load rfl ti2 (by first | (simp only [nf, Nat.beq] <;> rfl) | rfl) (by first | (simp only [nf, Nat.beq] <;> rfl) | rfl) rfl (by first | (simp only [nf, Nat.beq] <;> rfl) | rfl) ?_
          first | refine n_iadd rfl (by first | (simp only [nf, Nat.beq] <;> rfl) | rfl) (by first | (simp only [nf, Nat.beq] <;> rfl) | rfl) rfl (by omega) (by omega) ?_ | refine n_ibin rfl (by first | (simp only [nf, Nat.beq] <;> rfl) | rfl) (by first | (simp only [nf, Nat.beq] <;> rfl) | rfl) rfl ?_
          refine n_lit rfl Try.underlying77 ti2 zi2 rfl rfl (Eq.trans (by simp only [nl] <;> rfl) (by first | (simp only [nf, Nat.beq] <;> rfl) | rfl)) rfl (by first | (simp only [nf, Nat.beq] <;> rfl) | rfl) ?_
          refine n_len rfl Try.underlying77 (by first | (simp only [nf, Nat.beq] <;> rfl) | rfl) (by first | rw [ints_length] | rw [List.length_map] | rfl) ?_
          refine n_move rfl (by first | (simp only [nf, Nat.beq] <;> rfl) | rfl) ?_
          refine AOps.nil ?_
          refine AWP.block ?_
          refine AWP.loop (α := Nat) (fun j => j ≤ 4) (fun j => put (put (put (put (put (put (put (put (put (put (put (put empty 1 (vi q)) 2 (.sl none (l.map ez) .ro)) 7 (.sl none ((bun p q l).map bz) (.own 0))) 8 (.sl none ((bun p q l).map bz) .ro)) 9 (.sl none ((l.take (8 * (k + 1))).map ez) (.own 1))) 11 (.bp 2 0)) 39 (.sl none ((bun p q l).map bz) (.own 0))) 40 (vi ((bun p q l).length : Int))) 41 (vi (k : Int))) 63 (.sl (some false) (ints .i64 E) .full)) 64 (vi 4)) 65 (vi (j : Int))) (fun j => [.row (bun p q l).length 3, .row (l.take (8 * (k + 1))).length 4, .box (bz (p, q + ((min (8 * k) l.length : Nat) : Int), chunk l k))]) (fun j => 4 - j) 0 ?_ ?_ ?_ ?_
          · exact Nat.zero_le _
          · (repeat (first | exact FLe.empty _ | refine FLe.put ?_ ?_)) <;> first | (simp only [nf, Nat.beq]; done) | rfl | ((try simp only [nf, Nat.beq]); first | rfl | (simp only [List.length_map]; done) | (rw [hE]; rfl) | (congr 2; omega; done))
          · rfl
          · intro j hj
            try dsimp only at hj ⊢
            refine AWP.seq ?_
            refine AWP.region ?_
            refine n_ibin rfl (by first | (simp only [nf, Nat.beq] <;> rfl) | rfl) (by first | (simp only [nf, Nat.beq] <;> rfl) | rfl) rfl ?_
            refine AOps.nil ?_
            refine AWP.seq ?_
            refine AWP.cond (by first | (simp only [nf, Nat.beq] <;> rfl) | rfl) (fun hc6 => ?_) (fun hc6 => ?_)
            · try simp only [nh] at hc6
              have hac := Mi.l_accept (E.getD j 0) p (q + ((min (8 * k) l.length : Nat) : Int)) (chunk l k) (by omega)
              have har := Mi.r_accept (E.getD j 0) p (q + ((min (8 * k) l.length : Nat) : Int)) (chunk l k) (by omega)
              have hal := acc_len (E.getD j 0) p (q + ((min (8 * k) l.length : Nat) : Int)) (chunk l k)
              have hse := Mt.eq_en (accept (E.getD j 0) p (q + ((min (8 * k) l.length : Nat) : Int)) (chunk l k)).1 (by omega)
              refine AWP.skip ?_
              refine AWP.seq ?_
              refine AWP.block ?_
              refine AWP.seq ?_
              refine AWP.region ?_
              refine n_indexAddr rfl Try.underlying77 ti2 rfl (by first | (simp only [nf, Nat.beq] <;> rfl) | rfl) (by first | (simp only [nf, Nat.beq] <;> rfl) | rfl) (by omega) (by first | exact ints_at _ _ _ (by omega) | exact ints_get _ _ _ (by omega) | exact map_at _ (by assumption) | rfl) rfl ?_
              refine n_load rfl ti2 (by first | (simp only [nf, Nat.beq] <;> rfl) | rfl) (by first | (simp only [nf, Nat.beq] <;> rfl) | rfl) rfl (by first | (simp only [nf, Nat.beq] <;> rfl) | rfl) ?_
              refine n_assign rfl (by first | (simp only [nf, Nat.beq] <;> rfl) | rfl) ?_
              refine AOps.nil ?_
              refine AWP.seq ?_
              refine AWP.region ?_
              refine n_move rfl (by first | (simp only [nf, Nat.beq] <;> rfl) | rfl) ?_
              refine n_load rfl ti67 (by first | (simp only [nf, Nat.beq] <;> rfl) | rfl) (by first | (simp only [nf, Nat.beq] <;> rfl) | rfl) rfl (by first | (simp only [nf, Nat.beq] <;> rfl) | rfl) ?_
              refine n_call0B rfl cf59 rfl (Eq.trans (by simp only [nl] <;> rfl) (by first | (simp only [nf, Nat.beq] <;> rfl) | rfl)) (by repeat (first | exact .nil | refine .cons ?_ ?_ | exact ren_ints | exact .lf (.val _) | exact .lf (lf_ints (.inl rfl)) | exact .bp ⟨rfl, rfl⟩ | exact .bp (.inl ⟨rfl, rfl⟩) | exact .bp (.inr ⟨rfl, rfl⟩) | exact .lf (D.flat_lf rfl) | exact ren_map (f := ez) (fun _ => rfl) | exact .lf (.agg (bz_lf _)) | exact ren_mapG (f := bz) bz_lf | exact .lf (lf_fn2 (lf_rp1 (f := ez) (fun _ => rfl)) lf_vi) | exact .lf (lf_fn3 lf_vi (lf_rp1 (f := ez) (fun _ => rfl)) lf_vi) | exact Bu.ren_chunk | exact Mt.ren_bun _ _ | exact Bu.ren_bz | exact ren_ez)) (hac) (by first | exact .val _ | exact lf_ints (.inl rfl) | exact lf_ints (.inr rfl) | exact .any | exact D.flat_lf rfl | exact .tup (lf_cons (lf_map (f := ez) (fun _ => rfl) (.inl rfl)) (lf_cons (.val _) lf_nil)) | exact lf_map (f := ez) (fun _ => rfl) (.inl rfl) | exact lf_mapG (f := bz) bz_lf (.inl rfl) | exact lf_fn2 (lf_rp1 (f := ez) (fun _ => rfl)) lf_vi | exact lf_fn3 lf_vi (lf_rp1 (f := ez) (fun _ => rfl)) lf_vi) ?_
              refine n_move rfl (by first | (simp only [nf, Nat.beq] <;> rfl) | rfl) ?_
              refine n_extract rfl (by first | (simp only [nf, Nat.beq] <;> rfl) | rfl) rfl ?_
              refine n_extract rfl (by first | (simp only [nf, Nat.beq] <;> rfl) | rfl) rfl ?_
              refine n_assign rfl (by first | (simp only [nf, Nat.beq] <;> rfl) | rfl) ?_
              refine n_assign rfl (by first | (simp only [nf, Nat.beq] <;> rfl) | rfl) ?_
              refine AOps.nil ?_
              refine AWP.seq ?_
              refine AWP.region ?_
              refine n_move rfl (by first | (simp only [nf, Nat.beq] <;> rfl) | rfl) ?_
              refine n_load rfl ti67 (by first | (simp only [nf, Nat.beq] <;> rfl) | rfl) (by first | (simp only [nf, Nat.beq] <;> rfl) | rfl) rfl (by first | (simp only [nf, Nat.beq] <;> rfl) | rfl) ?_
              refine n_call0B rfl cf99 rfl (Eq.trans (by simp only [nl] <;> rfl) (by first | (simp only [nf, Nat.beq] <;> rfl) | rfl)) (by repeat (first | exact .nil | refine .cons ?_ ?_ | exact ren_ints | exact .lf (.val _) | exact .lf (lf_ints (.inl rfl)) | exact .bp ⟨rfl, rfl⟩ | exact .bp (.inl ⟨rfl, rfl⟩) | exact .bp (.inr ⟨rfl, rfl⟩) | exact .lf (D.flat_lf rfl) | exact ren_map (f := ez) (fun _ => rfl) | exact .lf (.agg (bz_lf _)) | exact ren_mapG (f := bz) bz_lf | exact .lf (lf_fn2 (lf_rp1 (f := ez) (fun _ => rfl)) lf_vi) | exact .lf (lf_fn3 lf_vi (lf_rp1 (f := ez) (fun _ => rfl)) lf_vi) | exact Bu.ren_chunk | exact Mt.ren_bun _ _ | exact Bu.ren_bz | exact ren_ez)) (har) (by first | exact .val _ | exact lf_ints (.inl rfl) | exact lf_ints (.inr rfl) | exact .any | exact D.flat_lf rfl | exact .tup (lf_cons (lf_map (f := ez) (fun _ => rfl) (.inl rfl)) (lf_cons (.val _) lf_nil)) | exact lf_map (f := ez) (fun _ => rfl) (.inl rfl) | exact lf_mapG (f := bz) bz_lf (.inl rfl) | exact lf_fn2 (lf_rp1 (f := ez) (fun _ => rfl)) lf_vi | exact lf_fn3 lf_vi (lf_rp1 (f := ez) (fun _ => rfl)) lf_vi) ?_
              refine n_move rfl (by first | (simp only [nf, Nat.beq] <;> rfl) | rfl) ?_
              refine n_extract rfl (by first | (simp only [nf, Nat.beq] <;> rfl) | rfl) rfl ?_
              refine n_extract rfl (by first | (simp only [nf, Nat.beq] <;> rfl) | rfl) rfl ?_
              refine n_assign rfl (by first | (simp only [nf, Nat.beq] <;> rfl) | rfl) ?_
              refine n_assign rfl (by first | (simp only [nf, Nat.beq] <;> rfl) | rfl) ?_
              refine AOps.nil ?_
              refine AWP.seq ?_
              refine AWP.region ?_
              refine n_move rfl (by first | (simp only [nf, Nat.beq] <;> rfl) | rfl) ?_
              refine n_move rfl (by first | (simp only [nf, Nat.beq] <;> rfl) | rfl) ?_
              refine n_ibin rfl (by first | (simp only [nf, Nat.beq] <;> rfl) | rfl) (by first | (simp only [nf, Nat.beq] <;> rfl) | rfl) rfl ?_
              refine n_move rfl (by first | (simp only [nf, Nat.beq] <;> rfl) | rfl) ?_
              refine AOps.name (u := 84) (fun z => .val (.bool z)) (by first | (simp only [nf, Nat.beq] <;> rfl) | rfl) (fun b84 hb84 => ?_)
              refine n_soft (u := 84) (E := .val (.bool b84)) (!b84) rfl rfl rfl (by first | (simp only [nf, Nat.beq] <;> rfl) | rfl) (by cases b84 <;> first | (intro _; rfl) | (intro h; exact absurd h (by decide))) (by cases b84 <;> first | (intro h; exact absurd h (by decide)) | (intro _; exact ⟨_, rfl, by first | (intro h; cases h; done) | decide | simp⟩)) (fun h => by
                  cases b84 with
                  | true => exact absurd h (by first | decide | simp)
                  | false =>
                    refine n_move rfl (by first | (simp only [nf, Nat.beq] <;> rfl) | rfl) ?_
                    exact AOps.nil ⟨rfl, rfl, rfl⟩) ?_
              refine n_soft (u := 84) (E := .val (.bool b84)) (!b84) rfl rfl rfl (by first | (simp only [nf, Nat.beq] <;> rfl) | rfl) (by cases b84 <;> first | (intro _; rfl) | (intro h; exact absurd h (by decide))) (by cases b84 <;> first | (intro h; exact absurd h (by decide)) | (intro _; exact ⟨_, rfl, by first | (intro h; cases h; done) | decide | simp⟩)) (fun h => by
                  cases b84 with
                  | true => exact absurd h (by first | decide | simp)
                  | false =>
                    refine n_move rfl (by first | (simp only [nf, Nat.beq] <;> rfl) | rfl) ?_
                    exact AOps.nil ⟨rfl, rfl, rfl⟩) ?_
              refine n_soft (u := 84) (E := .val (.bool b84)) (!b84) rfl rfl rfl (by first | (simp only [nf, Nat.beq] <;> rfl) | rfl) (by cases b84 <;> first | (intro _; rfl) | (intro h; exact absurd h (by decide))) (by cases b84 <;> first | (intro h; exact absurd h (by decide)) | (intro _; exact ⟨_, rfl, by first | (intro h; cases h; done) | decide | simp⟩)) (fun h => by
                  cases b84 with
                  | true => exact absurd h (by first | decide | simp)
                  | false =>
                    refine n_call0B rfl cf63 rfl (Eq.trans (by simp only [nl] <;> rfl) (by first | (simp only [nf, Nat.beq] <;> rfl) | rfl)) (by repeat (first | exact .nil | refine .cons ?_ ?_ | exact ren_ints | exact .lf (.val _) | exact .lf (lf_ints (.inl rfl)) | exact .bp ⟨rfl, rfl⟩ | exact .bp (.inl ⟨rfl, rfl⟩) | exact .bp (.inr ⟨rfl, rfl⟩) | exact .lf (D.flat_lf rfl) | exact ren_map (f := ez) (fun _ => rfl) | exact .lf (.agg (bz_lf _)) | exact ren_mapG (f := bz) bz_lf | exact .lf (lf_fn2 (lf_rp1 (f := ez) (fun _ => rfl)) lf_vi) | exact .lf (lf_fn3 lf_vi (lf_rp1 (f := ez) (fun _ => rfl)) lf_vi) | exact Bu.ren_chunk | exact Mt.ren_bun _ _ | exact Bu.ren_bz | exact ren_ez)) (hse) (by first | exact .val _ | exact lf_ints (.inl rfl) | exact lf_ints (.inr rfl) | exact .any | exact D.flat_lf rfl | exact .tup (lf_cons (lf_map (f := ez) (fun _ => rfl) (.inl rfl)) (lf_cons (.val _) lf_nil)) | exact lf_map (f := ez) (fun _ => rfl) (.inl rfl) | exact lf_mapG (f := bz) bz_lf (.inl rfl) | exact lf_fn2 (lf_rp1 (f := ez) (fun _ => rfl)) lf_vi | exact lf_fn3 lf_vi (lf_rp1 (f := ez) (fun _ => rfl)) lf_vi) ?_
                    exact AOps.nil ⟨rfl, rfl, rfl⟩) ?_
              refine n_soft (u := 84) (E := .val (.bool b84)) (!b84) rfl rfl rfl (by first | (simp only [nf, Nat.beq] <;> rfl) | rfl) (by cases b84 <;> first | (intro _; rfl) | (intro h; exact absurd h (by decide))) (by cases b84 <;> first | (intro h; exact absurd h (by decide)) | (intro _; exact ⟨_, rfl, by first | (intro h; cases h; done) | decide | simp⟩)) (fun h => by
                  cases b84 with
                  | true => exact absurd h (by first | decide | simp)
                  | false =>
                    refine n_not rfl (by first | (simp only [nf, Nat.beq] <;> rfl) | rfl) rfl ?_
                    exact AOps.nil ⟨rfl, rfl, rfl⟩) ?_
              refine n_pick_or rfl (by first | (simp only [nf, Nat.beq] <;> rfl) | rfl) (fun h => by cases b84 with | true => exact absurd h (by decide) | false => exact (by first | (simp only [nf, Nat.beq] <;> rfl) | rfl)) ?_
              subst hb84
              refine AOps.nil ?_
              refine AWP.cond (by first | (simp only [nf, Nat.beq] <;> rfl) | rfl) (fun hc7 => ?_) (fun hc7 => ?_)
              · try simp only [nh] at hc7
                exfalso
                simp at hc7
              · try simp only [nh] at hc7
                refine AWP.skip ?_
                refine AWP.region ?_
                first | refine n_iadd rfl (by first | (simp only [nf, Nat.beq] <;> rfl) | rfl) (by first | (simp only [nf, Nat.beq] <;> rfl) | rfl) rfl (by omega) (by omega) ?_ | refine n_ibin rfl (by first | (simp only [nf, Nat.beq] <;> rfl) | rfl) (by first | (simp only [nf, Nat.beq] <;> rfl) | rfl) rfl ?_
                refine n_move rfl (by first | (simp only [nf, Nat.beq] <;> rfl) | rfl) ?_
                refine AOps.nil ?_
                refine ⟨j + 1, by omega, ?_, rfl, by omega⟩
                (repeat (first | exact FLe.empty _ | refine FLe.put ?_ ?_)) <;> first | (simp only [nf, Nat.beq]; done) | rfl | ((try simp only [nf, Nat.beq]); first | rfl | (simp only [List.length_map]; done) | (rw [hE]; rfl) | (congr 2; omega; done))
            · try simp only [nh] at hc6
              refine AWP.exit ?_
              refine AWP.region ?_
              first | refine n_iadd rfl (by first | (simp only [nf, Nat.beq] <;> rfl) | rfl) (by first | (simp only [nf, Nat.beq] <;> rfl) | rfl) rfl (by omega) (by omega) ?_ | refine n_ibin rfl (by first | (simp only [nf, Nat.beq] <;> rfl) | rfl) (by first | (simp only [nf, Nat.beq] <;> rfl) | rfl) rfl ?_
              refine n_move rfl (by first | (simp only [nf, Nat.beq] <;> rfl) | rfl) ?_
              refine AOps.nil ?_
              refine ⟨k + 1, [.box (bz (p, q + ((min (8 * k) l.length : Nat) : Int), chunk l k))], by omega, ?_, rfl, by omega⟩
              (repeat (first | exact FLe.empty _ | refine FLe.put ?_ ?_)) <;> first | (simp only [nf, Nat.beq]; done) | rfl | ((try simp only [nf, Nat.beq]); first | rfl | (simp only [List.length_map]; done) | (congr 2; omega; done))
        · try simp only [nh] at hc4
          obtain rfl : k = cnt l := by omega
          rw [show l.take (8 * cnt l) = l from List.take_of_length_le (by unfold cnt; omega)]
          refine AWP.exit ?_
          refine AWP.seq ?_
          refine AWP.region ?_
          refine n_move rfl (by first | (simp only [nf, Nat.beq] <;> rfl) | rfl) ?_
          refine n_move rfl (by first | (simp only [nf, Nat.beq] <;> rfl) | rfl) ?_
          refine n_call0B rfl cf63 rfl (Eq.trans (by simp only [nl] <;> rfl) (by first | (simp only [nf, Nat.beq] <;> rfl) | rfl)) (by repeat (first | exact .nil | refine .cons ?_ ?_ | exact ren_ints | exact .lf (.val _) | exact .lf (lf_ints (.inl rfl)) | exact .bp ⟨rfl, rfl⟩ | exact .bp (.inl ⟨rfl, rfl⟩) | exact .bp (.inr ⟨rfl, rfl⟩) | exact .lf (D.flat_lf rfl) | exact ren_map (f := ez) (fun _ => rfl) | exact .lf (.agg (bz_lf _)) | exact ren_mapG (f := bz) bz_lf | exact .lf (lf_fn2 (lf_rp1 (f := ez) (fun _ => rfl)) lf_vi) | exact .lf (lf_fn3 lf_vi (lf_rp1 (f := ez) (fun _ => rfl)) lf_vi) | exact Bu.ren_chunk | exact Mt.ren_bun _ _ | exact Bu.ren_bz | exact ren_ez)) (Mt.eq_en l hn) (by first | exact .val _ | exact lf_ints (.inl rfl) | exact lf_ints (.inr rfl) | exact .any | exact D.flat_lf rfl | exact .tup (lf_cons (lf_map (f := ez) (fun _ => rfl) (.inl rfl)) (lf_cons (.val _) lf_nil)) | exact lf_map (f := ez) (fun _ => rfl) (.inl rfl) | exact lf_mapG (f := bz) bz_lf (.inl rfl) | exact lf_fn2 (lf_rp1 (f := ez) (fun _ => rfl)) lf_vi | exact lf_fn3 lf_vi (lf_rp1 (f := ez) (fun _ => rfl)) lf_vi) ?_
          refine n_assign rfl (by first | (simp only [nf, Nat.beq] <;> rfl) | rfl) ?_
          refine AOps.nil ?_
          refine AWP.ret ?_
          refine fin_pure (.cons (rv_tmp (by first | (simp only [nf, Nat.beq] <;> rfl) | rfl)) .nil) (by first | (simp only [nf, Nat.beq] <;> rfl) | rfl) ?_
          first | exact ren_flat rfl rfl | exact ren_flat rfl (congrArg vb (by simp))
  · try simp only [nh] at hc2
    obtain ⟨q, hqb, hq⟩ : ∃ q : Int, (0 ≤ q ∧ q ≤ 9007199254740992) ∧ q = pos := ⟨pos, by simp at hc2; omega, rfl⟩
    have hbu := Bu.bundles p q l hqb hn
    have hrb := Bu.r_bundles p q l hqb hn
    have hbl := bun_len p q l
    have hcn : cnt l ≤ 1048576 := by unfold cnt; omega
    refine AWP.skip ?_
    refine AWP.seq ?_
    refine AWP.forget (tm' := put (put (put empty 0 (vi p)) 1 (vi q)) 2 (.sl none (l.map ez) .ro)) ?_ ?_
    · (repeat (first | exact FLe.empty _ | refine FLe.put ?_ ?_)) <;> first | (simp only [nf, Nat.beq]; done) | rfl | ((try simp only [nf, Nat.beq]); first | rfl | (rw [hq]; done) | (rw [hq]; rfl))
    refine AWP.region ?_
    refine n_move rfl (by first | (simp only [nf, Nat.beq] <;> rfl) | rfl) ?_
    refine n_move rfl (by first | (simp only [nf, Nat.beq] <;> rfl) | rfl) ?_
    refine n_move rfl (by first | (simp only [nf, Nat.beq] <;> rfl) | rfl) ?_
    refine n_callOwnB rfl cf96 rfl (Eq.trans (by simp only [nl] <;> rfl) (by first | (simp only [nf, Nat.beq] <;> rfl) | rfl)) (by repeat (first | exact .nil | refine .cons ?_ ?_ | exact ren_ints | exact .lf (.val _) | exact .lf (lf_ints (.inl rfl)) | exact .bp ⟨rfl, rfl⟩ | exact .bp (.inl ⟨rfl, rfl⟩) | exact .bp (.inr ⟨rfl, rfl⟩) | exact .lf (D.flat_lf rfl) | exact ren_map (f := ez) (fun _ => rfl) | exact .lf (.agg (bz_lf _)) | exact ren_mapG (f := bz) bz_lf | exact .lf (lf_fn2 (lf_rp1 (f := ez) (fun _ => rfl)) lf_vi) | exact .lf (lf_fn3 lf_vi (lf_rp1 (f := ez) (fun _ => rfl)) lf_vi) | exact Bu.ren_chunk | exact Mt.ren_bun _ _ | exact Bu.ren_bz | exact ren_ez)) (hbu) (by first | exact ints_lf _ _ | exact fun x hx d hd => by obtain ⟨b, _, rfl⟩ := List.mem_map.1 hx; exact bz_lf b d hd) rfl (by first | (simp only [nf, Nat.beq] <;> rfl) | rfl) ?_
    refine n_move rfl (by first | (simp only [nf, Nat.beq] <;> rfl) | rfl) ?_
    refine n_move rfl (by first | (simp only [nf, Nat.beq] <;> rfl) | rfl) ?_
    refine n_move rfl (by first | (simp only [nf, Nat.beq] <;> rfl) | rfl) ?_
    refine n_call0B rfl cf97 rfl (Eq.trans (by simp only [nl] <;> rfl) (by first | (simp only [nf, Nat.beq] <;> rfl) | rfl)) (by repeat (first | exact .nil | refine .cons ?_ ?_ | exact ren_ints | exact .lf (.val _) | exact .lf (lf_ints (.inl rfl)) | exact .bp ⟨rfl, rfl⟩ | exact .bp (.inl ⟨rfl, rfl⟩) | exact .bp (.inr ⟨rfl, rfl⟩) | exact .lf (D.flat_lf rfl) | exact ren_map (f := ez) (fun _ => rfl) | exact .lf (.agg (bz_lf _)) | exact ren_mapG (f := bz) bz_lf | exact .lf (lf_fn2 (lf_rp1 (f := ez) (fun _ => rfl)) lf_vi) | exact .lf (lf_fn3 lf_vi (lf_rp1 (f := ez) (fun _ => rfl)) lf_vi) | exact Bu.ren_chunk | exact Mt.ren_bun _ _ | exact Bu.ren_bz | exact ren_ez)) (hrb) (by first | exact .val _ | exact lf_ints (.inl rfl) | exact lf_ints (.inr rfl) | exact .any | exact D.flat_lf rfl | exact .tup (lf_cons (lf_map (f := ez) (fun _ => rfl) (.inl rfl)) (lf_cons (.val _) lf_nil)) | exact lf_map (f := ez) (fun _ => rfl) (.inl rfl) | exact lf_mapG (f := bz) bz_lf (.inl rfl) | exact lf_fn2 (lf_rp1 (f := ez) (fun _ => rfl)) lf_vi | exact lf_fn3 lf_vi (lf_rp1 (f := ez) (fun _ => rfl)) lf_vi) ?_
    refine n_assign rfl (by first | (simp only [nf, Nat.beq] <;> rfl) | rfl) ?_
    refine n_assign rfl (by first | (simp only [nf, Nat.beq] <;> rfl) | rfl) ?_
    refine AOps.nil ?_
    refine AWP.seq ?_
    refine AWP.seq ?_
    refine AWP.region ?_
    refine n_move rfl (by first | (simp only [nf, Nat.beq] <;> rfl) | rfl) ?_
    refine n_len rfl Try.underlying115 (by first | (simp only [nf, Nat.beq] <;> rfl) | rfl) (by first | rw [ints_length] | rw [List.length_map] | rfl) ?_
    refine n_move rfl (by first | (simp only [nf, Nat.beq] <;> rfl) | rfl) ?_
    refine n_len rfl Try.underlying115 (by first | (simp only [nf, Nat.beq] <;> rfl) | rfl) (by first | rw [ints_length] | rw [List.length_map] | rfl) ?_
    refine n_ibin rfl (by first | (simp only [nf, Nat.beq] <;> rfl) | rfl) (by first | (simp only [nf, Nat.beq] <;> rfl) | rfl) rfl ?_
    refine AOps.nil ?_
    refine AWP.cond (by first | (simp only [nf, Nat.beq] <;> rfl) | rfl) (fun hc8 => ?_) (fun hc8 => ?_)
    · try simp only [nh] at hc8
      exfalso
      simp at hc8
    · try simp only [nh] at hc8
      refine AWP.skip ?_
      refine AWP.seq ?_
      refine AWP.region ?_
      refine n_assign rfl (by first | (simp only [nf, Nat.beq] <;> rfl) | rfl) ?_
      refine AOps.nil ?_
      refine AWP.seq ?_
      refine AWP.seq ?_
      refine AWP.adopt (t := 9) (m := 0) (S' := [.row (bun p q l).length 3, .row 0 4]) (by rfl) rfl rfl rfl ?_
      refine AWP.region ?_
      refine n_move rfl (by first | (simp only [nf, Nat.beq] <;> rfl) | rfl) ?_
      refine n_len rfl Try.underlying115 (by first | (simp only [nf, Nat.beq] <;> rfl) | rfl) (by first | rw [ints_length] | rw [List.length_map] | rfl) ?_
      refine n_move rfl (by first | (simp only [nf, Nat.beq] <;> rfl) | rfl) ?_
      refine AOps.nil ?_
      refine AWP.block ?_
      refine AWP.loopX 2 (α := Nat) (fun k => k ≤ cnt l) (fun k => put (put (put (put (put (put (put (put empty 1 (vi q)) 2 (.sl none (l.map ez) .ro)) 7 (.sl none ((bun p q l).map bz) (.own 0))) 8 (.sl none ((bun p q l).map bz) .ro)) 9 (.sl none ((l.take (8 * (k))).map ez) (.own 1))) 39 (.sl none ((bun p q l).map bz) (.own 0))) 40 (vi ((bun p q l).length : Int))) 41 (vi (k : Int))) (fun k => [.row (bun p q l).length 3, .row (l.take (8 * k)).length 4]) (fun k => cnt l - k) 0 ?_ ?_ ?_ ?_ ?_ ?_ ?_
      · exact Nat.zero_le _
      · (repeat (first | exact FLe.empty _ | refine FLe.put ?_ ?_)) <;> first | (simp only [nf, Nat.beq]; done) | rfl | ((try simp only [nf, Nat.beq]); first | rfl | (simp only [List.length_map]; done) | (congr 2; omega; done))
      · rfl
      · exact fun _ => rfl
      · intro p hp; (try dsimp only); (repeat' (refine un_put ?_ ?_)) <;> first | exact un_empty | exact .bp (by decide) | exact .lf (D.flat_lf rfl) | exact .lf (lf_ints (.inl rfl)) | exact .lf (lf_map (fun _ => rfl) (.inl rfl)) | exact .lf (lf_mapG bz_lf (.inl rfl)) | exact .sl (fun x hx d hd => by obtain ⟨b, _, rfl⟩ := List.mem_map.1 hx; exact .lf (bz_lf b d hd)) (fun l e => by cases e; decide) | exact .sl (fun x hx d hd => by obtain ⟨b, _, rfl⟩ := List.mem_map.1 hx; exact .lf (flats_lf (by rfl) d hd)) (fun l e => by cases e; decide)
      · intro p hp; (try dsimp only); repeat' (first | exact un_nil | refine un_cons ?_ ?_ | exact un_box rfl | exact trivial)
      · intro k hk
        try dsimp only at hk ⊢
        refine AWP.seq ?_
        refine AWP.region ?_
        refine n_ibin rfl (by first | (simp only [nf, Nat.beq] <;> rfl) | rfl) (by first | (simp only [nf, Nat.beq] <;> rfl) | rfl) rfl ?_
        refine AOps.nil ?_
        refine AWP.seq ?_
        refine AWP.cond (by first | (simp only [nf, Nat.beq] <;> rfl) | rfl) (fun hc9 => ?_) (fun hc9 => ?_)
        · try simp only [nh] at hc9
          have hkc : k < cnt l := by omega
          have h8 := cnt_lt hkc
          have hb := bun_at (p := p) (q := q) hkc
          have hle := chunk_le l k
          have hsb := Bu.same_bun (p, q + ((min (8 * k) l.length : Nat) : Int), chunk l k) (by dsimp only; omega)
          obtain ⟨E, hE⟩ : ∃ E : List Int, E = [q, q + ((min (8 * k) l.length : Nat) : Int), q + ((min (8 * k) l.length : Nat) : Int) + 1, -1] := ⟨_, rfl⟩
          have hEl : E.length = 4 := by rw [hE]; rfl
          refine AWP.skip ?_
          refine AWP.seq ?_
          refine AWP.block ?_
          refine AWP.seq ?_
          refine AWP.region ?_
          refine n_move rfl (by first | (simp only [nf, Nat.beq] <;> rfl) | rfl) ?_
          refine n_indexAddr rfl Try.underlying115 ti67 rfl (by first | (simp only [nf, Nat.beq] <;> rfl) | rfl) (by first | (simp only [nf, Nat.beq] <;> rfl) | rfl) (by omega) (by first | exact ints_at _ _ _ (by omega) | exact ints_get _ _ _ (by omega) | exact map_at _ (by assumption) | rfl) rfl ?_
          refine n_load rfl ti67 (by first | (simp only [nf, Nat.beq] <;> rfl) | rfl) (by first | (simp only [nf, Nat.beq] <;> rfl) | rfl) rfl (by first | (simp only [nf, Nat.beq] <;> rfl) | rfl) ?_
          refine n_alloc rfl zi67 rfl (by first | (simp only [nf, Nat.beq] <;> rfl) | rfl) (by first | (simp only [nf, Nat.beq] <;> rfl) | rfl) ?_
          refine n_assign rfl (by first | (simp only [nf, Nat.beq] <;> rfl) | rfl) ?_
          refine n_store ti67 (by first | (simp only [nf, Nat.beq] <;> rfl) | rfl) rfl (by first | (simp only [nf, Nat.beq] <;> rfl) | rfl) rfl (by first | (simp only [nf, Nat.beq] <;> rfl) | rfl) rfl rfl rfl (by first | (simp only [nf, Nat.beq] <;> rfl) | rfl) ?_
          refine AOps.nil ?_
          refine AWP.seq ?_
          refine AWP.seq ?_
          refine AWP.anyStill (by kernel_rfl) (by kernel_rfl) ?_
          refine Walk.still (rs := [11]) (by rfl) (by first | (simp only [nf, Nat.beq] <;> rfl) | rfl) (fun base => by
              refine n_load rfl ti67 (by first | (simp only [nf, Nat.beq] <;> rfl) | rfl) (by first | (simp only [nf, Nat.beq] <;> rfl) | rfl) rfl (by first | (simp only [nf, Nat.beq] <;> rfl) | rfl) ?_
              exact AOps.nil ⟨rfl, rfl, rfl⟩) ?_
          refine Walk.still (rs := [8]) (by rfl) (by first | (simp only [nf, Nat.beq] <;> rfl) | rfl) (fun base => by
              refine n_move rfl (by first | (simp only [nf, Nat.beq] <;> rfl) | rfl) ?_
              exact AOps.nil ⟨rfl, rfl, rfl⟩) ?_
          refine Walk.still (rs := [10]) (by rfl) (by first | (simp only [nf, Nat.beq] <;> rfl) | rfl) (fun base => by
              refine n_move rfl (by first | (simp only [nf, Nat.beq] <;> rfl) | rfl) ?_
              exact AOps.nil ⟨rfl, rfl, rfl⟩) ?_
          refine Walk.still (rs := [47, 48]) (by rfl) (by first | (simp only [nf, Nat.beq] <;> rfl) | rfl) (fun base => by
              refine n_indexAddr rfl Try.underlying115 ti67 rfl (by first | (simp only [nf, Nat.beq] <;> rfl) | rfl) (by first | (simp only [nf, Nat.beq] <;> rfl) | rfl) (by omega) (by first | exact ints_at _ _ _ (by omega) | exact ints_get _ _ _ (by omega) | exact map_at _ (by assumption) | rfl) rfl ?_
              exact AOps.nil ⟨rfl, rfl, rfl⟩) ?_
          refine Walk.still (rs := [49]) (by rfl) (by first | (simp only [nf, Nat.beq] <;> rfl) | rfl) (fun base => by
              refine n_load rfl ti67 (by first | (simp only [nf, Nat.beq] <;> rfl) | rfl) (by first | (simp only [nf, Nat.beq] <;> rfl) | rfl) rfl (by first | (simp only [nf, Nat.beq] <;> rfl) | rfl) ?_
              exact AOps.nil ⟨rfl, rfl, rfl⟩) ?_
          refine Walk.still (rs := [46, 50]) (by rfl) (by first | (simp only [nf, Nat.beq] <;> rfl) | rfl) (fun base => by
              refine n_call0B rfl cf98 rfl (Eq.trans (by simp only [nl] <;> rfl) (by first | (simp only [nf, Nat.beq] <;> rfl) | rfl)) (by repeat (first | exact .nil | refine .cons ?_ ?_ | exact ren_ints | exact .lf (.val _) | exact .lf (lf_ints (.inl rfl)) | exact .bp ⟨rfl, rfl⟩ | exact .bp (.inl ⟨rfl, rfl⟩) | exact .bp (.inr ⟨rfl, rfl⟩) | exact .lf (D.flat_lf rfl) | exact ren_map (f := ez) (fun _ => rfl) | exact .lf (.agg (bz_lf _)) | exact ren_mapG (f := bz) bz_lf | exact .lf (lf_fn2 (lf_rp1 (f := ez) (fun _ => rfl)) lf_vi) | exact .lf (lf_fn3 lf_vi (lf_rp1 (f := ez) (fun _ => rfl)) lf_vi) | exact Bu.ren_chunk | exact Mt.ren_bun _ _ | exact Bu.ren_bz | exact ren_ez)) (hsb) (by first | exact .val _ | exact lf_ints (.inl rfl) | exact lf_ints (.inr rfl) | exact .any | exact D.flat_lf rfl | exact .tup (lf_cons (lf_map (f := ez) (fun _ => rfl) (.inl rfl)) (lf_cons (.val _) lf_nil)) | exact lf_map (f := ez) (fun _ => rfl) (.inl rfl) | exact lf_mapG (f := bz) bz_lf (.inl rfl) | exact lf_fn2 (lf_rp1 (f := ez) (fun _ => rfl)) lf_vi | exact lf_fn3 lf_vi (lf_rp1 (f := ez) (fun _ => rfl)) lf_vi) ?_
              exact AOps.nil ⟨rfl, rfl, rfl⟩) ?_
          refine Walk.still (rs := [51]) (by rfl) (by first | (simp only [nf, Nat.beq] <;> rfl) | rfl) (fun base => by
              refine n_not rfl (by first | (simp only [nf, Nat.beq] <;> rfl) | rfl) rfl ?_
              exact AOps.nil ⟨rfl, rfl, rfl⟩) ?_
          refine Walk.done ?_
          refine AWP.cond_false (by first | (simp only [nf, Nat.beq] <;> rfl) | rfl) ?_
          refine AWP.skip ?_
          refine AWP.seq ?_
          refine AWP.region ?_
          refine n_move rfl (by first | (simp only [nf, Nat.beq] <;> rfl) | rfl) ?_
          refine n_fieldAddr rfl fd67_2 ti53 rfl (by first | (simp only [nf, Nat.beq] <;> rfl) | rfl) rfl (by first | (simp only [nf, Nat.beq] <;> rfl) | rfl) ?_
          refine n_load rfl ti53 (by first | (simp only [nf, Nat.beq] <;> rfl) | rfl) (by first | (simp only [nf, Nat.beq] <;> rfl) | rfl) rfl (by first | (simp only [nf, Nat.beq] <;> rfl) | rfl) ?_
          refine n_append_own (zs := (l.take (8 * (k + 1))).map ez) (m := (l.take (8 * (k + 1))).length) rfl Try.underlying53 Try.underlying53 ei56 (by first | (simp only [nf, Nat.beq] <;> rfl) | rfl) (by first | (simp only [nf, Nat.beq] <;> rfl) | rfl) (by simp only [List.length_map]) (by first | (simp only [nf, Nat.beq] <;> rfl) | rfl) (by exact map_one (f := ez) (fun _ => rfl)) (by exact map_one (f := ez) (fun _ => rfl)) (by rw [← List.map_append, take_chunk]) (by rw [← take_chunk]; simp) (by simp only [List.length_take]; omega) (by first | (simp only [nf, Nat.beq] <;> rfl) | rfl) ?_
          refine n_assign rfl (by first | (simp only [nf, Nat.beq] <;> rfl) | rfl) ?_
          refine AOps.nil ?_
          refine AWP.seq ?_
          refine AWP.region ?_
          refine n_move rfl (by first | (simp only [nf, Nat.beq] <;> rfl) | rfl) ?_
          refine n_fieldAddr rfl fd67_1 ti2 rfl (by first | (simp only [nf, Nat.beq] <;> rfl) | rfl) rfl (by first | (simp only [nf, Nat.beq] <;> rfl) | rfl) ?_
          refine n_load rfl ti2 (by first | (simp only [nf, Nat.beq] <;> rfl) | rfl) (by first | (simp only [nf, Nat.beq] <;> rfl) | rfl) rfl (by first | (simp only [nf, Nat.beq] <;> rfl) | rfl) ?_
          refine n_fieldAddr rfl fd67_1 ti2 rfl (by first | (simp only [nf, Nat.beq] <;> rfl) | rfl) rfl (by first | (simp only [nf, Nat.beq] <;> rfl) | rfl) ?_
          refine n_load rfl ti2 (by first | (simp only [nf, Nat.beq] <;> rfl) | rfl) (by first | (simp only [nf, Nat.beq] <;> rfl) | rfl) rfl (by first | (simp only [nf, Nat.beq] <;> rfl) | rfl) ?_
          first | refine n_iadd rfl (by first | (simp only [nf, Nat.beq] <;> rfl) | rfl) (by first | (simp only [nf, Nat.beq] <;> rfl) | rfl) rfl (by omega) (by omega) ?_ | refine n_ibin rfl (by first | (simp only [nf, Nat.beq] <;> rfl) | rfl) (by first | (simp only [nf, Nat.beq] <;> rfl) | rfl) rfl ?_
          refine n_lit rfl Try.underlying77 ti2 zi2 rfl rfl (Eq.trans (by simp only [nl] <;> rfl) (by first | (simp only [nf, Nat.beq] <;> rfl) | rfl)) rfl (by first | (simp only [nf, Nat.beq] <;> rfl) | rfl) ?_
          refine n_len rfl Try.underlying77 (by first | (simp only [nf, Nat.beq] <;> rfl) | rfl) (by first | rw [ints_length] | rw [List.length_map] | rfl) ?_
          refine n_move rfl (by first | (simp only [nf, Nat.beq] <;> rfl) | rfl) ?_
          refine AOps.nil ?_
          refine AWP.block ?_
          refine AWP.loop (α := Nat) (fun j => j ≤ 4) (fun j => put (put (put (put (put (put (put (put (put (put (put (put empty 1 (vi q)) 2 (.sl none (l.map ez) .ro)) 7 (.sl none ((bun p q l).map bz) (.own 0))) 8 (.sl none ((bun p q l).map bz) .ro)) 9 (.sl none ((l.take (8 * (k + 1))).map ez) (.own 1))) 11 (.bp 2 0)) 39 (.sl none ((bun p q l).map bz) (.own 0))) 40 (vi ((bun p q l).length : Int))) 41 (vi (k : Int))) 63 (.sl (some false) (ints .i64 E) .full)) 64 (vi 4)) 65 (vi (j : Int))) (fun j => [.row (bun p q l).length 3, .row (l.take (8 * (k + 1))).length 4, .box (bz (p, q + ((min (8 * k) l.length : Nat) : Int), chunk l k))]) (fun j => 4 - j) 0 ?_ ?_ ?_ ?_
          · exact Nat.zero_le _
          · (repeat (first | exact FLe.empty _ | refine FLe.put ?_ ?_)) <;> first | (simp only [nf, Nat.beq]; done) | rfl | ((try simp only [nf, Nat.beq]); first | rfl | (simp only [List.length_map]; done) | (rw [hE]; rfl) | (congr 2; omega; done))
          · rfl
          · intro j hj
            try dsimp only at hj ⊢
            refine AWP.seq ?_
            refine AWP.region ?_
            refine n_ibin rfl (by first | (simp only [nf, Nat.beq] <;> rfl) | rfl) (by first | (simp only [nf, Nat.beq] <;> rfl) | rfl) rfl ?_
            refine AOps.nil ?_
            refine AWP.seq ?_
            refine AWP.cond (by first | (simp only [nf, Nat.beq] <;> rfl) | rfl) (fun hc11 => ?_) (fun hc11 => ?_)
            · try simp only [nh] at hc11
              have hac := Mi.l_accept (E.getD j 0) p (q + ((min (8 * k) l.length : Nat) : Int)) (chunk l k) (by omega)
              have har := Mi.r_accept (E.getD j 0) p (q + ((min (8 * k) l.length : Nat) : Int)) (chunk l k) (by omega)
              have hal := acc_len (E.getD j 0) p (q + ((min (8 * k) l.length : Nat) : Int)) (chunk l k)
              have hse := Mt.eq_en (accept (E.getD j 0) p (q + ((min (8 * k) l.length : Nat) : Int)) (chunk l k)).1 (by omega)
              refine AWP.skip ?_
              refine AWP.seq ?_
              refine AWP.block ?_
              refine AWP.seq ?_
              refine AWP.region ?_
              refine n_indexAddr rfl Try.underlying77 ti2 rfl (by first | (simp only [nf, Nat.beq] <;> rfl) | rfl) (by first | (simp only [nf, Nat.beq] <;> rfl) | rfl) (by omega) (by first | exact ints_at _ _ _ (by omega) | exact ints_get _ _ _ (by omega) | exact map_at _ (by assumption) | rfl) rfl ?_
              refine n_load rfl ti2 (by first | (simp only [nf, Nat.beq] <;> rfl) | rfl) (by first | (simp only [nf, Nat.beq] <;> rfl) | rfl) rfl (by first | (simp only [nf, Nat.beq] <;> rfl) | rfl) ?_
              refine n_assign rfl (by first | (simp only [nf, Nat.beq] <;> rfl) | rfl) ?_
              refine AOps.nil ?_
              refine AWP.seq ?_
              refine AWP.region ?_
              refine n_move rfl (by first | (simp only [nf, Nat.beq] <;> rfl) | rfl) ?_
              refine n_load rfl ti67 (by first | (simp only [nf, Nat.beq] <;> rfl) | rfl) (by first | (simp only [nf, Nat.beq] <;> rfl) | rfl) rfl (by first | (simp only [nf, Nat.beq] <;> rfl) | rfl) ?_
              refine n_call0B rfl cf59 rfl (Eq.trans (by simp only [nl] <;> rfl) (by first | (simp only [nf, Nat.beq] <;> rfl) | rfl)) (by repeat (first | exact .nil | refine .cons ?_ ?_ | exact ren_ints | exact .lf (.val _) | exact .lf (lf_ints (.inl rfl)) | exact .bp ⟨rfl, rfl⟩ | exact .bp (.inl ⟨rfl, rfl⟩) | exact .bp (.inr ⟨rfl, rfl⟩) | exact .lf (D.flat_lf rfl) | exact ren_map (f := ez) (fun _ => rfl) | exact .lf (.agg (bz_lf _)) | exact ren_mapG (f := bz) bz_lf | exact .lf (lf_fn2 (lf_rp1 (f := ez) (fun _ => rfl)) lf_vi) | exact .lf (lf_fn3 lf_vi (lf_rp1 (f := ez) (fun _ => rfl)) lf_vi) | exact Bu.ren_chunk | exact Mt.ren_bun _ _ | exact Bu.ren_bz | exact ren_ez)) (hac) (by first | exact .val _ | exact lf_ints (.inl rfl) | exact lf_ints (.inr rfl) | exact .any | exact D.flat_lf rfl | exact .tup (lf_cons (lf_map (f := ez) (fun _ => rfl) (.inl rfl)) (lf_cons (.val _) lf_nil)) | exact lf_map (f := ez) (fun _ => rfl) (.inl rfl) | exact lf_mapG (f := bz) bz_lf (.inl rfl) | exact lf_fn2 (lf_rp1 (f := ez) (fun _ => rfl)) lf_vi | exact lf_fn3 lf_vi (lf_rp1 (f := ez) (fun _ => rfl)) lf_vi) ?_
              refine n_move rfl (by first | (simp only [nf, Nat.beq] <;> rfl) | rfl) ?_
              refine n_extract rfl (by first | (simp only [nf, Nat.beq] <;> rfl) | rfl) rfl ?_
              refine n_extract rfl (by first | (simp only [nf, Nat.beq] <;> rfl) | rfl) rfl ?_
              refine n_assign rfl (by first | (simp only [nf, Nat.beq] <;> rfl) | rfl) ?_
              refine n_assign rfl (by first | (simp only [nf, Nat.beq] <;> rfl) | rfl) ?_
              refine AOps.nil ?_
              refine AWP.seq ?_
              refine AWP.region ?_
              refine n_move rfl (by first | (simp only [nf, Nat.beq] <;> rfl) | rfl) ?_
              refine n_load rfl ti67 (by first | (simp only [nf, Nat.beq] <;> rfl) | rfl) (by first | (simp only [nf, Nat.beq] <;> rfl) | rfl) rfl (by first | (simp only [nf, Nat.beq] <;> rfl) | rfl) ?_
              refine n_call0B rfl cf99 rfl (Eq.trans (by simp only [nl] <;> rfl) (by first | (simp only [nf, Nat.beq] <;> rfl) | rfl)) (by repeat (first | exact .nil | refine .cons ?_ ?_ | exact ren_ints | exact .lf (.val _) | exact .lf (lf_ints (.inl rfl)) | exact .bp ⟨rfl, rfl⟩ | exact .bp (.inl ⟨rfl, rfl⟩) | exact .bp (.inr ⟨rfl, rfl⟩) | exact .lf (D.flat_lf rfl) | exact ren_map (f := ez) (fun _ => rfl) | exact .lf (.agg (bz_lf _)) | exact ren_mapG (f := bz) bz_lf | exact .lf (lf_fn2 (lf_rp1 (f := ez) (fun _ => rfl)) lf_vi) | exact .lf (lf_fn3 lf_vi (lf_rp1 (f := ez) (fun _ => rfl)) lf_vi) | exact Bu.ren_chunk | exact Mt.ren_bun _ _ | exact Bu.ren_bz | exact ren_ez)) (har) (by first | exact .val _ | exact lf_ints (.inl rfl) | exact lf_ints (.inr rfl) | exact .any | exact D.flat_lf rfl | exact .tup (lf_cons (lf_map (f := ez) (fun _ => rfl) (.inl rfl)) (lf_cons (.val _) lf_nil)) | exact lf_map (f := ez) (fun _ => rfl) (.inl rfl) | exact lf_mapG (f := bz) bz_lf (.inl rfl) | exact lf_fn2 (lf_rp1 (f := ez) (fun _ => rfl)) lf_vi | exact lf_fn3 lf_vi (lf_rp1 (f := ez) (fun _ => rfl)) lf_vi) ?_
              refine n_move rfl (by first | (simp only [nf, Nat.beq] <;> rfl) | rfl) ?_
              refine n_extract rfl (by first | (simp only [nf, Nat.beq] <;> rfl) | rfl) rfl ?_
              refine n_extract rfl (by first | (simp only [nf, Nat.beq] <;> rfl) | rfl) rfl ?_
              refine n_assign rfl (by first | (simp only [nf, Nat.beq] <;> rfl) | rfl) ?_
              refine n_assign rfl (by first | (simp only [nf, Nat.beq] <;> rfl) | rfl) ?_
              refine AOps.nil ?_
              refine AWP.seq ?_
              refine AWP.region ?_
              refine n_move rfl (by first | (simp only [nf, Nat.beq] <;> rfl) | rfl) ?_
              refine n_move rfl (by first | (simp only [nf, Nat.beq] <;> rfl) | rfl) ?_
              refine n_ibin rfl (by first | (simp only [nf, Nat.beq] <;> rfl) | rfl) (by first | (simp only [nf, Nat.beq] <;> rfl) | rfl) rfl ?_
              refine n_move rfl (by first | (simp only [nf, Nat.beq] <;> rfl) | rfl) ?_
              refine AOps.name (u := 84) (fun z => .val (.bool z)) (by first | (simp only [nf, Nat.beq] <;> rfl) | rfl) (fun b84 hb84 => ?_)
              refine n_soft (u := 84) (E := .val (.bool b84)) (!b84) rfl rfl rfl (by first | (simp only [nf, Nat.beq] <;> rfl) | rfl) (by cases b84 <;> first | (intro _; rfl) | (intro h; exact absurd h (by decide))) (by cases b84 <;> first | (intro h; exact absurd h (by decide)) | (intro _; exact ⟨_, rfl, by first | (intro h; cases h; done) | decide | simp⟩)) (fun h => by
                  cases b84 with
                  | true => exact absurd h (by first | decide | simp)
                  | false =>
                    refine n_move rfl (by first | (simp only [nf, Nat.beq] <;> rfl) | rfl) ?_
                    exact AOps.nil ⟨rfl, rfl, rfl⟩) ?_
              refine n_soft (u := 84) (E := .val (.bool b84)) (!b84) rfl rfl rfl (by first | (simp only [nf, Nat.beq] <;> rfl) | rfl) (by cases b84 <;> first | (intro _; rfl) | (intro h; exact absurd h (by decide))) (by cases b84 <;> first | (intro h; exact absurd h (by decide)) | (intro _; exact ⟨_, rfl, by first | (intro h; cases h; done) | decide | simp⟩)) (fun h => by
                  cases b84 with
                  | true => exact absurd h (by first | decide | simp)
                  | false =>
                    refine n_move rfl (by first | (simp only [nf, Nat.beq] <;> rfl) | rfl) ?_
                    exact AOps.nil ⟨rfl, rfl, rfl⟩) ?_
              refine n_soft (u := 84) (E := .val (.bool b84)) (!b84) rfl rfl rfl (by first | (simp only [nf, Nat.beq] <;> rfl) | rfl) (by cases b84 <;> first | (intro _; rfl) | (intro h; exact absurd h (by decide))) (by cases b84 <;> first | (intro h; exact absurd h (by decide)) | (intro _; exact ⟨_, rfl, by first | (intro h; cases h; done) | decide | simp⟩)) (fun h => by
                  cases b84 with
                  | true => exact absurd h (by first | decide | simp)
                  | false =>
                    refine n_call0B rfl cf63 rfl (Eq.trans (by simp only [nl] <;> rfl) (by first | (simp only [nf, Nat.beq] <;> rfl) | rfl)) (by repeat (first | exact .nil | refine .cons ?_ ?_ | exact ren_ints | exact .lf (.val _) | exact .lf (lf_ints (.inl rfl)) | exact .bp ⟨rfl, rfl⟩ | exact .bp (.inl ⟨rfl, rfl⟩) | exact .bp (.inr ⟨rfl, rfl⟩) | exact .lf (D.flat_lf rfl) | exact ren_map (f := ez) (fun _ => rfl) | exact .lf (.agg (bz_lf _)) | exact ren_mapG (f := bz) bz_lf | exact .lf (lf_fn2 (lf_rp1 (f := ez) (fun _ => rfl)) lf_vi) | exact .lf (lf_fn3 lf_vi (lf_rp1 (f := ez) (fun _ => rfl)) lf_vi) | exact Bu.ren_chunk | exact Mt.ren_bun _ _ | exact Bu.ren_bz | exact ren_ez)) (hse) (by first | exact .val _ | exact lf_ints (.inl rfl) | exact lf_ints (.inr rfl) | exact .any | exact D.flat_lf rfl | exact .tup (lf_cons (lf_map (f := ez) (fun _ => rfl) (.inl rfl)) (lf_cons (.val _) lf_nil)) | exact lf_map (f := ez) (fun _ => rfl) (.inl rfl) | exact lf_mapG (f := bz) bz_lf (.inl rfl) | exact lf_fn2 (lf_rp1 (f := ez) (fun _ => rfl)) lf_vi | exact lf_fn3 lf_vi (lf_rp1 (f := ez) (fun _ => rfl)) lf_vi) ?_
                    exact AOps.nil ⟨rfl, rfl, rfl⟩) ?_
              refine n_soft (u := 84) (E := .val (.bool b84)) (!b84) rfl rfl rfl (by first | (simp only [nf, Nat.beq] <;> rfl) | rfl) (by cases b84 <;> first | (intro _; rfl) | (intro h; exact absurd h (by decide))) (by cases b84 <;> first | (intro h; exact absurd h (by decide)) | (intro _; exact ⟨_, rfl, by first | (intro h; cases h; done) | decide | simp⟩)) (fun h => by
                  cases b84 with
                  | true => exact absurd h (by first | decide | simp)
                  | false =>
                    refine n_not rfl (by first | (simp only [nf, Nat.beq] <;> rfl) | rfl) rfl ?_
                    exact AOps.nil ⟨rfl, rfl, rfl⟩) ?_
              refine n_pick_or rfl (by first | (simp only [nf, Nat.beq] <;> rfl) | rfl) (fun h => by cases b84 with | true => exact absurd h (by decide) | false => exact (by first | (simp only [nf, Nat.beq] <;> rfl) | rfl)) ?_
              subst hb84
              refine AOps.nil ?_
              refine AWP.cond (by first | (simp only [nf, Nat.beq] <;> rfl) | rfl) (fun hc12 => ?_) (fun hc12 => ?_)
              · try simp only [nh] at hc12
                exfalso
                simp at hc12
              · try simp only [nh] at hc12
                refine AWP.skip ?_
                refine AWP.region ?_
                first | refine n_iadd rfl (by first | (simp only [nf, Nat.beq] <;> rfl) | rfl) (by first | (simp only [nf, Nat.beq] <;> rfl) | rfl) rfl (by omega) (by omega) ?_ | refine n_ibin rfl (by first | (simp only [nf, Nat.beq] <;> rfl) | rfl) (by first | (simp only [nf, Nat.beq] <;> rfl) | rfl) rfl ?_
                refine n_move rfl (by first | (simp only [nf, Nat.beq] <;> rfl) | rfl) ?_
                refine AOps.nil ?_
                refine ⟨j + 1, by omega, ?_, rfl, by omega⟩
                (repeat (first | exact FLe.empty _ | refine FLe.put ?_ ?_)) <;> first | (simp only [nf, Nat.beq]; done) | rfl | ((try simp only [nf, Nat.beq]); first | rfl | (simp only [List.length_map]; done) | (rw [hE]; rfl) | (congr 2; omega; done))
            · try simp only [nh] at hc11
              refine AWP.exit ?_
              refine AWP.region ?_
              first | refine n_iadd rfl (by first | (simp only [nf, Nat.beq] <;> rfl) | rfl) (by first | (simp only [nf, Nat.beq] <;> rfl) | rfl) rfl (by omega) (by omega) ?_ | refine n_ibin rfl (by first | (simp only [nf, Nat.beq] <;> rfl) | rfl) (by first | (simp only [nf, Nat.beq] <;> rfl) | rfl) rfl ?_
              refine n_move rfl (by first | (simp only [nf, Nat.beq] <;> rfl) | rfl) ?_
              refine AOps.nil ?_
              refine ⟨k + 1, [.box (bz (p, q + ((min (8 * k) l.length : Nat) : Int), chunk l k))], by omega, ?_, rfl, by omega⟩
              (repeat (first | exact FLe.empty _ | refine FLe.put ?_ ?_)) <;> first | (simp only [nf, Nat.beq]; done) | rfl | ((try simp only [nf, Nat.beq]); first | rfl | (simp only [List.length_map]; done) | (congr 2; omega; done))
        · try simp only [nh] at hc9
          obtain rfl : k = cnt l := by omega
          rw [show l.take (8 * cnt l) = l from List.take_of_length_le (by unfold cnt; omega)]
          refine AWP.exit ?_
          refine AWP.seq ?_
          refine AWP.region ?_
          refine n_move rfl (by first | (simp only [nf, Nat.beq] <;> rfl) | rfl) ?_
          refine n_move rfl (by first | (simp only [nf, Nat.beq] <;> rfl) | rfl) ?_
          refine n_call0B rfl cf63 rfl (Eq.trans (by simp only [nl] <;> rfl) (by first | (simp only [nf, Nat.beq] <;> rfl) | rfl)) (by repeat (first | exact .nil | refine .cons ?_ ?_ | exact ren_ints | exact .lf (.val _) | exact .lf (lf_ints (.inl rfl)) | exact .bp ⟨rfl, rfl⟩ | exact .bp (.inl ⟨rfl, rfl⟩) | exact .bp (.inr ⟨rfl, rfl⟩) | exact .lf (D.flat_lf rfl) | exact ren_map (f := ez) (fun _ => rfl) | exact .lf (.agg (bz_lf _)) | exact ren_mapG (f := bz) bz_lf | exact .lf (lf_fn2 (lf_rp1 (f := ez) (fun _ => rfl)) lf_vi) | exact .lf (lf_fn3 lf_vi (lf_rp1 (f := ez) (fun _ => rfl)) lf_vi) | exact Bu.ren_chunk | exact Mt.ren_bun _ _ | exact Bu.ren_bz | exact ren_ez)) (Mt.eq_en l hn) (by first | exact .val _ | exact lf_ints (.inl rfl) | exact lf_ints (.inr rfl) | exact .any | exact D.flat_lf rfl | exact .tup (lf_cons (lf_map (f := ez) (fun _ => rfl) (.inl rfl)) (lf_cons (.val _) lf_nil)) | exact lf_map (f := ez) (fun _ => rfl) (.inl rfl) | exact lf_mapG (f := bz) bz_lf (.inl rfl) | exact lf_fn2 (lf_rp1 (f := ez) (fun _ => rfl)) lf_vi | exact lf_fn3 lf_vi (lf_rp1 (f := ez) (fun _ => rfl)) lf_vi) ?_
          refine n_assign rfl (by first | (simp only [nf, Nat.beq] <;> rfl) | rfl) ?_
          refine AOps.nil ?_
          refine AWP.ret ?_
          refine fin_pure (.cons (rv_tmp (by first | (simp only [nf, Nat.beq] <;> rfl) | rfl)) .nil) (by first | (simp only [nf, Nat.beq] <;> rfl) | rfl) ?_
          first | exact ren_flat rfl rfl | exact ren_flat rfl (congrArg vb (by simp))

end Go.Proofs.Ytanfmpkjcoolmaa.Bl
