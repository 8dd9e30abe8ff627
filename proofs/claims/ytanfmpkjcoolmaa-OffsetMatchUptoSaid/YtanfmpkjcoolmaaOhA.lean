/- What is translated translates back. -/
import Derived.Test.YtanfmpkjcoolmaaOgA
set_option linter.unusedVariables false
set_option linter.unusedSimpArgs false
namespace Go.Proofs.Ytanfmpkjcoolmaa.Oh
open Go Go.Abs Go.Abs.Tb Of Og
attribute [local irreducible] AWP AOps Does

theorem cf139 : CF Try.prog 139 := ⟨_, Try.func139, by kernel_rfl, by kernel_rfl⟩
theorem cf140 : CF Try.prog 140 := ⟨_, Try.func140, by kernel_rfl, by kernel_rfl⟩
theorem cf141 : CF Try.prog 141 := ⟨_, Try.func141, by kernel_rfl, by kernel_rfl⟩
theorem cf158 : CF Try.prog 158 := ⟨_, Try.func158, by kernel_rfl, by kernel_rfl⟩
theorem cf160 : CF Try.prog 160 := ⟨_, Try.func160, by kernel_rfl, by kernel_rfl⟩
theorem cf223 : CF Try.prog 223 := ⟨_, Try.func223, by kernel_rfl, by kernel_rfl⟩
theorem cf224 : CF Try.prog 224 := ⟨_, Try.func224, by kernel_rfl, by kernel_rfl⟩
theorem fd188_0 : FD Try.prog 188 0 186 0 := ⟨_, _, Try.underlying188, rfl, rfl, rfl⟩
theorem fd188_1 : FD Try.prog 188 1 2 1 := ⟨_, _, Try.underlying188, rfl, rfl, rfl⟩
theorem fd200_0 : FD Try.prog 200 0 2 0 := ⟨_, _, Try.underlying200, rfl, rfl, rfl⟩
theorem fd200_1 : FD Try.prog 200 1 3 1 := ⟨_, _, Try.underlying200, rfl, rfl, rfl⟩
theorem fd200_3 : FD Try.prog 200 3 2 3 := ⟨_, _, Try.underlying200, rfl, rfl, rfl⟩
theorem si188 : SI Try.prog 188 #[(0, 1), (1, 1)] (.agg #[.slice none 0 0, .int .i64 0]) := ⟨⟨_, Try.underlying188, fun w => by kernel_rfl⟩, by kernel_rfl⟩
theorem si200 : SI Try.prog 200 #[(0, 1), (1, 1), (2, 1), (3, 1)] (.agg #[.int .i64 0, .int .i64 0, .int .i64 0, .int .i64 0]) := ⟨⟨_, Try.underlying200, fun w => by kernel_rfl⟩, by kernel_rfl⟩
theorem ti186 : TI Try.prog 186 1 false := ⟨by kernel_rfl, by kernel_rfl⟩
theorem ti188 : TI Try.prog 188 2 true := ⟨by kernel_rfl, by kernel_rfl⟩
theorem ti2 : TI Try.prog 2 1 false := ⟨by kernel_rfl, by kernel_rfl⟩
theorem ti200 : TI Try.prog 200 4 true := ⟨by kernel_rfl, by kernel_rfl⟩
theorem ti3 : TI Try.prog 3 1 false := ⟨by kernel_rfl, by kernel_rfl⟩
theorem zi188 : (Try.prog.info? 188).map (·.zero) = some (some (.agg #[.slice none 0 0, .int .i64 0])) := by kernel_rfl
theorem zi200 : (Try.prog.info? 200).map (·.zero) = some (some (.agg #[.int .i64 0, .int .i64 0, .int .i64 0, .int .i64 0])) := by kernel_rfl

attribute [local irreducible] Tb.nth Tb.fin Tb.last Tb.follows Tb.single Tb.good Tb.chk Tb.late Tb.com Tb.addT Tb.addE Tb.off Tb.errF Tb.pos Tb.errP Tb.may Tb.tr Tb.trE
set_option maxHeartbeats 2000000 in
theorem begun : Does Try.prog 139 [] [] (vb true) [] := by
  refine Does.of_body (rvs := [.tmp 0]) Try.func139 rfl rfl rfl rfl ?_
  have ho := l_off (bt 3) 1 (bt_len 3)
  have hp := l_pos (bt 3) 102 (bt_len 3)
  have hc := l_com (bt 3) bt5 (bt_len 3) (by decide)
  rw [may_same (bt_good 3)] at ho hp hc
  rw [bt_end.2.2.2.2.2, bt_end.2.2.2.2.1] at hc
  rw [bt_end.1, bt_end.2.1] at ho
  rw [bt_end.2.2.1, bt_end.2.2.2.1] at hp
  have hq : Does Try.prog 224 [.sl none ((bt 3).l.map spz) .ro, .sl none [[vi 1, vi 0, vi 0, vi 100], [vi 2, vi 1, vi 2, vi 102]] .ro] [] (vb true) [] := eq_sp (bt 3).l (bt_len 3)
  refine AWP.seq ?_
  refine AWP.region ?_
  refine n_assign rfl (by first|simp only[nf,Nat.beq]<;>rfl|rfl) ?_
  refine AOps.nil ?_
  refine AWP.seq ?_
  refine AWP.region ?_
  refine n_call0B rfl cf158 rfl (Eq.trans (by simp only [nl] <;> rfl) (by first|simp only[nf,Nat.beq]<;>rfl|rfl)) (by repeat (first | exact .nil | refine .cons ?_ ?_ | exact ren_ints | exact .lf (.val _) | exact .lf (lf_ints (.inl rfl)) | exact .bp ⟨rfl, rfl⟩ | exact .bp (.inl ⟨rfl, rfl⟩) | exact .bp (.inr ⟨rfl, rfl⟩) | exact .lf (D.flat_lf rfl) | exact ren_map (f := spz) (fun _ => rfl) | exact .lf (lf_tz _) | exact ren_tz | exact .lf (.fn (fun d h => by cases h) (fun d h => by cases h)) | exact .lf (lf_fnrp (lf_rp1 (f := spz) (fun _ => rfl))) | exact .ro (by intro x hx; simp only [List.mem_cons, List.not_mem_nil, or_false] at hx; rcases hx with rfl | rfl <;> exact flats_lf rfl))) (l_new _) (by first | exact .val _ | exact lf_ints (.inl rfl) | exact lf_ints (.inr rfl) | exact .any | exact D.flat_lf rfl | exact lf_map (f := spz) (fun _ => rfl) (.inl rfl) | exact lf_tz _ | exact .tup (lf_cons (lf_tz _) (lf_cons (.val _) lf_nil)) | exact lf_fnrp (lf_rp1 (f := spz) (fun _ => rfl))) ?_
  refine n_alloc rfl zi188 rfl (by first|simp only[nf,Nat.beq]<;>rfl|rfl) (by first|simp only[nf,Nat.beq]<;>rfl|rfl) ?_
  refine n_store ti188 (by first|simp only[nf,Nat.beq]<;>rfl|rfl) rfl (by first|simp only[nf,Nat.beq]<;>rfl|rfl) rfl (by first|simp only[nf,Nat.beq]<;>rfl|rfl) rfl rfl rfl (by first|simp only[nf,Nat.beq]<;>rfl|rfl) ?_
  refine AOps.nil ?_
  refine AWP.seq ?_
  refine AWP.seq ?_
  refine AWP.region ?_
  refine n_build rfl si200 (Eq.trans (by simp only [nl] <;> rfl) (by first|simp only[nf,Nat.beq]<;>rfl|rfl)) (Eq.trans (by simp only [nl] <;> rfl) (by first|simp only[nf,Nat.beq]<;>rfl|rfl)) rfl ?_
  refine n_build rfl si200 (Eq.trans (by simp only [nl] <;> rfl) (by first|simp only[nf,Nat.beq]<;>rfl|rfl)) (Eq.trans (by simp only [nl] <;> rfl) (by first|simp only[nf,Nat.beq]<;>rfl|rfl)) rfl ?_
  refine n_build rfl si200 (Eq.trans (by simp only [nl] <;> rfl) (by first|simp only[nf,Nat.beq]<;>rfl|rfl)) (Eq.trans (by simp only [nl] <;> rfl) (by first|simp only[nf,Nat.beq]<;>rfl|rfl)) rfl ?_
  refine n_lit rfl Try.underlying186 ti200 zi200 rfl rfl (Eq.trans (by simp only [nl] <;> rfl) (by first|simp only[nf,Nat.beq]<;>rfl|rfl)) rfl (by first|simp only[nf,Nat.beq]<;>rfl|rfl) ?_
  refine n_len rfl Try.underlying186 (by first|simp only[nf,Nat.beq]<;>rfl|rfl) (by first | rw [ints_length] | rw [List.length_map] | rfl) ?_
  refine n_move rfl (by first|simp only[nf,Nat.beq]<;>rfl|rfl) ?_
  refine AOps.nil ?_
  refine AWP.block ?_
  refine AWP.loopX 1 (α := Nat) (fun i => i ≤ 3) (fun i => put (put (put (put empty 1 (.bp 0 0)) 14 (.sl (some false) (bq.map spz) .full)) 15 (vi 3)) 16 (vi (i : Int))) (fun i => [.box [.sl none ((bt i).l.map spz) .ro, vi (bt i).n]]) (fun i => 3 - i) 0 ?_ ?_ ?_ ?_ ?_ ?_ ?_
  · exact Nat.zero_le _
  · (repeat (first | exact FLe.empty _ | refine FLe.put ?_ ?_)) <;> first | (simp only [nf, Nat.beq]; done) | rfl | ((try simp only [nf, Nat.beq]); first | rfl | (simp only [List.length_map]; done) | (congr 2; omega; done))
  · rfl
  · exact fun _ => rfl
  · intro p hp; (try dsimp only); (repeat' (refine un_put ?_ ?_)) <;> first | exact un_empty | exact .bp (by decide) | exact .lf (D.flat_lf rfl) | exact .lf (lf_ints (.inl rfl)) | exact .lf (.sl (by intro x hx; obtain ⟨p, _, rfl⟩ := List.mem_map.1 hx; exact flats_lf (by rfl)) (.inr rfl))
  · intro p hp; (try dsimp only); repeat' (first | exact un_nil | refine un_cons ?_ ?_ | exact un_box rfl | exact un_boxL (lf_cons (lf_map (f := spz) (fun _ => rfl) (.inl rfl)) (lf_cons (.val _) lf_nil)))
  · intro i hi
    try dsimp only at hi ⊢
    refine AWP.seq ?_
    refine AWP.region ?_
    refine n_ibin rfl (by first|simp only[nf,Nat.beq]<;>rfl|rfl) (by first|simp only[nf,Nat.beq]<;>rfl|rfl) rfl ?_
    refine AOps.nil ?_
    refine AWP.seq ?_
    refine AWP.cond (by first|simp only[nf,Nat.beq]<;>rfl|rfl) (fun hc1 => ?_) (fun hc1 => ?_)
    · try simp only [nh] at hc1
      have hi3 : i < 3 := by omega
      obtain ⟨x, hx, ha, hb, hn, hm⟩ := bt_add i hi3
      have hxl := map_at spz hx
      have had := l_add (bt i) x.e x.r x.o (bt_len i) (Int.le_trans (by decide) (bq_o x (List.mem_of_getElem? hx)))
      rw [hm, ha, hb] at had
      refine AWP.skip ?_
      refine AWP.seq ?_
      refine AWP.block ?_
      refine AWP.seq ?_
      refine AWP.region ?_
      refine n_move rfl (by first|simp only[nf,Nat.beq]<;>rfl|rfl) ?_
      refine n_indexAddr rfl Try.underlying186 ti200 rfl (by first|simp only[nf,Nat.beq]<;>rfl|rfl) (by first|simp only[nf,Nat.beq]<;>rfl|rfl) (by omega) (by exact hxl) rfl ?_
      refine n_load rfl ti200 (by first|simp only[nf,Nat.beq]<;>rfl|rfl) (by first|simp only[nf,Nat.beq]<;>rfl|rfl) rfl (by first|simp only[nf,Nat.beq]<;>rfl|rfl) ?_
      refine n_alloc rfl zi200 rfl (by first|simp only[nf,Nat.beq]<;>rfl|rfl) (by first|simp only[nf,Nat.beq]<;>rfl|rfl) ?_
      refine n_assign rfl (by first|simp only[nf,Nat.beq]<;>rfl|rfl) ?_
      refine n_store ti200 (by first|simp only[nf,Nat.beq]<;>rfl|rfl) rfl (by first|simp only[nf,Nat.beq]<;>rfl|rfl) rfl (by first|simp only[nf,Nat.beq]<;>rfl|rfl) rfl rfl rfl (by first|simp only[nf,Nat.beq]<;>rfl|rfl) ?_
      refine AOps.nil ?_
      refine AWP.seq ?_
      refine AWP.region ?_
      refine n_load rfl ti188 (by first|simp only[nf,Nat.beq]<;>rfl|rfl) (by first|simp only[nf,Nat.beq]<;>rfl|rfl) rfl (by first|simp only[nf,Nat.beq]<;>rfl|rfl) ?_
      refine n_fieldAddr rfl fd200_0 ti2 rfl (by first|simp only[nf,Nat.beq]<;>rfl|rfl) rfl (by first|simp only[nf,Nat.beq]<;>rfl|rfl) ?_
      refine n_load rfl ti2 (by first|simp only[nf,Nat.beq]<;>rfl|rfl) (by first|simp only[nf,Nat.beq]<;>rfl|rfl) rfl (by first|simp only[nf,Nat.beq]<;>rfl|rfl) ?_
      refine n_fieldAddr rfl fd200_1 ti3 rfl (by first|simp only[nf,Nat.beq]<;>rfl|rfl) rfl (by first|simp only[nf,Nat.beq]<;>rfl|rfl) ?_
      refine n_load rfl ti3 (by first|simp only[nf,Nat.beq]<;>rfl|rfl) (by first|simp only[nf,Nat.beq]<;>rfl|rfl) rfl (by first|simp only[nf,Nat.beq]<;>rfl|rfl) ?_
      refine n_fieldAddr rfl fd200_3 ti2 rfl (by first|simp only[nf,Nat.beq]<;>rfl|rfl) rfl (by first|simp only[nf,Nat.beq]<;>rfl|rfl) ?_
      refine n_load rfl ti2 (by first|simp only[nf,Nat.beq]<;>rfl|rfl) (by first|simp only[nf,Nat.beq]<;>rfl|rfl) rfl (by first|simp only[nf,Nat.beq]<;>rfl|rfl) ?_
      refine n_call0B rfl cf223 rfl (Eq.trans (by simp only [nl] <;> rfl) (by first|simp only[nf,Nat.beq]<;>rfl|rfl)) (by repeat (first | exact .nil | refine .cons ?_ ?_ | exact ren_ints | exact .lf (.val _) | exact .lf (lf_ints (.inl rfl)) | exact .bp ⟨rfl, rfl⟩ | exact .bp (.inl ⟨rfl, rfl⟩) | exact .bp (.inr ⟨rfl, rfl⟩) | exact .lf (D.flat_lf rfl) | exact ren_map (f := spz) (fun _ => rfl) | exact .lf (lf_tz _) | exact ren_tz | exact .lf (.fn (fun d h => by cases h) (fun d h => by cases h)) | exact .lf (lf_fnrp (lf_rp1 (f := spz) (fun _ => rfl))) | exact .ro (by intro x hx; simp only [List.mem_cons, List.not_mem_nil, or_false] at hx; rcases hx with rfl | rfl <;> exact flats_lf rfl))) (had) (by first | exact .val _ | exact lf_ints (.inl rfl) | exact lf_ints (.inr rfl) | exact .any | exact D.flat_lf rfl | exact lf_map (f := spz) (fun _ => rfl) (.inl rfl) | exact lf_tz _ | exact .tup (lf_cons (lf_tz _) (lf_cons (.val _) lf_nil)) | exact lf_fnrp (lf_rp1 (f := spz) (fun _ => rfl))) ?_
      refine n_move rfl (by first|simp only[nf,Nat.beq]<;>rfl|rfl) ?_
      refine n_extract rfl (by first|simp only[nf,Nat.beq]<;>rfl|rfl) rfl ?_
      refine n_extract rfl (by first|simp only[nf,Nat.beq]<;>rfl|rfl) rfl ?_
      refine n_alloc rfl zi188 rfl (by first|simp only[nf,Nat.beq]<;>rfl|rfl) (by first|simp only[nf,Nat.beq]<;>rfl|rfl) ?_
      refine n_store ti188 (by first|simp only[nf,Nat.beq]<;>rfl|rfl) rfl (by first|simp only[nf,Nat.beq]<;>rfl|rfl) rfl (by first|simp only[nf,Nat.beq]<;>rfl|rfl) rfl rfl rfl (by first|simp only[nf,Nat.beq]<;>rfl|rfl) ?_
      refine n_assign rfl (by first|simp only[nf,Nat.beq]<;>rfl|rfl) ?_
      refine AOps.nil ?_
      refine AWP.seq ?_
      refine AWP.seq ?_
      refine AWP.region ?_
      refine n_move rfl (by first|simp only[nf,Nat.beq]<;>rfl|rfl) ?_
      refine n_ibin rfl (by first|simp only[nf,Nat.beq]<;>rfl|rfl) (by first|simp only[nf,Nat.beq]<;>rfl|rfl) rfl ?_
      refine n_move rfl (by first|simp only[nf,Nat.beq]<;>rfl|rfl) ?_
      refine AOps.name (u := 34) (fun z => .val (.bool z)) (by first|simp only[nf,Nat.beq]<;>rfl|rfl) (fun b34 hb34 => ?_)
      refine n_soft (u := 34) (E := .val (.bool b34)) (!b34) rfl rfl rfl (by first|simp only[nf,Nat.beq]<;>rfl|rfl) (by cases b34 <;> first | (intro _; rfl) | (intro h; exact absurd h (by decide))) (by cases b34 <;> first | (intro h; exact absurd h (by decide)) | (intro _; exact ⟨_, rfl, by first | (intro h; cases h; done) | decide | simp⟩)) (fun h => by
          cases b34 with
          | true => exact absurd h (by first | decide | simp)
          | false =>
            refine n_fieldAddr rfl fd188_1 ti2 rfl (by first|simp only[nf,Nat.beq]<;>rfl|rfl) rfl (by first|simp only[nf,Nat.beq]<;>rfl|rfl) ?_
            exact AOps.nil ⟨rfl, rfl, rfl⟩) ?_
      refine n_soft (u := 34) (E := .val (.bool b34)) (!b34) rfl rfl rfl (by first|simp only[nf,Nat.beq]<;>rfl|rfl) (by cases b34 <;> first | (intro _; rfl) | (intro h; exact absurd h (by decide))) (by cases b34 <;> first | (intro h; exact absurd h (by decide)) | (intro _; exact ⟨_, rfl, by first | (intro h; cases h; done) | decide | simp⟩)) (fun h => by
          cases b34 with
          | true => exact absurd h (by first | decide | simp)
          | false =>
            refine n_load rfl ti2 (by first|simp only[nf,Nat.beq]<;>rfl|rfl) (by first|simp only[nf,Nat.beq]<;>rfl|rfl) rfl (by first|simp only[nf,Nat.beq]<;>rfl|rfl) ?_
            exact AOps.nil ⟨rfl, rfl, rfl⟩) ?_
      refine n_soft (u := 34) (E := .val (.bool b34)) (!b34) rfl rfl rfl (by first|simp only[nf,Nat.beq]<;>rfl|rfl) (by cases b34 <;> first | (intro _; rfl) | (intro h; exact absurd h (by decide))) (by cases b34 <;> first | (intro h; exact absurd h (by decide)) | (intro _; exact ⟨_, rfl, by first | (intro h; cases h; done) | decide | simp⟩)) (fun h => by
          cases b34 with
          | true => exact absurd h (by first | decide | simp)
          | false =>
            refine n_move rfl (by first|simp only[nf,Nat.beq]<;>rfl|rfl) ?_
            exact AOps.nil ⟨rfl, rfl, rfl⟩) ?_
      refine n_soft (u := 34) (E := .val (.bool b34)) (!b34) rfl rfl rfl (by first|simp only[nf,Nat.beq]<;>rfl|rfl) (by cases b34 <;> first | (intro _; rfl) | (intro h; exact absurd h (by decide))) (by cases b34 <;> first | (intro h; exact absurd h (by decide)) | (intro _; exact ⟨_, rfl, by first | (intro h; cases h; done) | decide | simp⟩)) (fun h => by
          cases b34 with
          | true => exact absurd h (by first | decide | simp)
          | false =>
            first | refine n_iadd rfl (by first|simp only[nf,Nat.beq]<;>rfl|rfl) (by first|simp only[nf,Nat.beq]<;>rfl|rfl) rfl (by omega) (by omega) ?_ | refine n_ibin rfl (by first|simp only[nf,Nat.beq]<;>rfl|rfl) (by first|simp only[nf,Nat.beq]<;>rfl|rfl) rfl ?_
            exact AOps.nil ⟨rfl, rfl, rfl⟩) ?_
      refine n_soft (u := 34) (E := .val (.bool b34)) (!b34) rfl rfl rfl (by first|simp only[nf,Nat.beq]<;>rfl|rfl) (by cases b34 <;> first | (intro _; rfl) | (intro h; exact absurd h (by decide))) (by cases b34 <;> first | (intro h; exact absurd h (by decide)) | (intro _; exact ⟨_, rfl, by first | (intro h; cases h; done) | decide | simp⟩)) (fun h => by
          cases b34 with
          | true => exact absurd h (by first | decide | simp)
          | false =>
            refine n_ibin rfl (by first|simp only[nf,Nat.beq]<;>rfl|rfl) (by first|simp only[nf,Nat.beq]<;>rfl|rfl) rfl ?_
            exact AOps.nil ⟨rfl, rfl, rfl⟩) ?_
      refine n_pick_or rfl (by first|simp only[nf,Nat.beq]<;>rfl|rfl) (fun h => by cases b34 with | true => exact absurd h (by decide) | false => exact (by first|simp only[nf,Nat.beq]<;>rfl|rfl)) ?_
      subst hb34
      refine AOps.nil ?_
      refine AWP.cond (by first|simp only[nf,Nat.beq]<;>rfl|rfl) (fun hc2 => ?_) (fun hc2 => ?_)
      · try simp only [nh] at hc2
        exfalso
        simp [hn] at hc2
      · try simp only [nh] at hc2
        refine AWP.skip ?_
        refine AWP.region ?_
        refine n_load rfl ti188 (by first|simp only[nf,Nat.beq]<;>rfl|rfl) (by first|simp only[nf,Nat.beq]<;>rfl|rfl) rfl (by first|simp only[nf,Nat.beq]<;>rfl|rfl) ?_
        refine n_store ti188 (by first|simp only[nf,Nat.beq]<;>rfl|rfl) rfl (by first|simp only[nf,Nat.beq]<;>rfl|rfl) rfl (by first|simp only[nf,Nat.beq]<;>rfl|rfl) rfl rfl rfl (by first|simp only[nf,Nat.beq]<;>rfl|rfl) ?_
        refine AOps.nil ?_
        refine AWP.region ?_
        first | refine n_iadd rfl (by first|simp only[nf,Nat.beq]<;>rfl|rfl) (by first|simp only[nf,Nat.beq]<;>rfl|rfl) rfl (by omega) (by omega) ?_ | refine n_ibin rfl (by first|simp only[nf,Nat.beq]<;>rfl|rfl) (by first|simp only[nf,Nat.beq]<;>rfl|rfl) rfl ?_
        refine n_move rfl (by first|simp only[nf,Nat.beq]<;>rfl|rfl) ?_
        refine AOps.nil ?_
        refine ⟨i + 1, [.box (spz x), .box [.sl none ((bt (i + 1)).l.map spz) .ro, vi (bt (i + 1)).n]], by omega, ?_, rfl, by omega⟩
        (repeat (first | exact FLe.empty _ | refine FLe.put ?_ ?_)) <;> first | (simp only [nf, Nat.beq]; done) | rfl | ((try simp only [nf, Nat.beq]); first | rfl | (simp only [List.length_map]; done) | (congr 2; omega; done))
    · try simp only [nh] at hc1
      obtain rfl : i = 3 := by omega
      refine AWP.exit ?_
      refine AWP.seq ?_
      refine AWP.region ?_
      refine n_load rfl ti188 (by first|simp only[nf,Nat.beq]<;>rfl|rfl) (by first|simp only[nf,Nat.beq]<;>rfl|rfl) rfl (by first|simp only[nf,Nat.beq]<;>rfl|rfl) ?_
      refine n_call0B rfl cf140 rfl (Eq.trans (by simp only [nl] <;> rfl) (by first|simp only[nf,Nat.beq]<;>rfl|rfl)) (by repeat (first | exact .nil | refine .cons ?_ ?_ | exact ren_ints | exact .lf (.val _) | exact .lf (lf_ints (.inl rfl)) | exact .bp ⟨rfl, rfl⟩ | exact .bp (.inl ⟨rfl, rfl⟩) | exact .bp (.inr ⟨rfl, rfl⟩) | exact .lf (D.flat_lf rfl) | exact ren_map (f := spz) (fun _ => rfl) | exact .lf (lf_tz _) | exact ren_tz | exact .lf (.fn (fun d h => by cases h) (fun d h => by cases h)) | exact .lf (lf_fnrp (lf_rp1 (f := spz) (fun _ => rfl))) | exact .ro (by intro x hx; simp only [List.mem_cons, List.not_mem_nil, or_false] at hx; rcases hx with rfl | rfl <;> exact flats_lf rfl))) (ho) (by first | exact .val _ | exact lf_ints (.inl rfl) | exact lf_ints (.inr rfl) | exact .any | exact D.flat_lf rfl | exact lf_map (f := spz) (fun _ => rfl) (.inl rfl) | exact lf_tz _ | exact .tup (lf_cons (lf_tz _) (lf_cons (.val _) lf_nil)) | exact lf_fnrp (lf_rp1 (f := spz) (fun _ => rfl))) ?_
      refine n_move rfl (by first|simp only[nf,Nat.beq]<;>rfl|rfl) ?_
      refine n_extract rfl (by first|simp only[nf,Nat.beq]<;>rfl|rfl) rfl ?_
      refine n_extract rfl (by first|simp only[nf,Nat.beq]<;>rfl|rfl) rfl ?_
      refine n_assign rfl (by first|simp only[nf,Nat.beq]<;>rfl|rfl) ?_
      refine n_assign rfl (by first|simp only[nf,Nat.beq]<;>rfl|rfl) ?_
      refine AOps.nil ?_
      refine AWP.seq ?_
      refine AWP.region ?_
      refine n_load rfl ti188 (by first|simp only[nf,Nat.beq]<;>rfl|rfl) (by first|simp only[nf,Nat.beq]<;>rfl|rfl) rfl (by first|simp only[nf,Nat.beq]<;>rfl|rfl) ?_
      refine n_call0B rfl cf141 rfl (Eq.trans (by simp only [nl] <;> rfl) (by first|simp only[nf,Nat.beq]<;>rfl|rfl)) (by repeat (first | exact .nil | refine .cons ?_ ?_ | exact ren_ints | exact .lf (.val _) | exact .lf (lf_ints (.inl rfl)) | exact .bp ⟨rfl, rfl⟩ | exact .bp (.inl ⟨rfl, rfl⟩) | exact .bp (.inr ⟨rfl, rfl⟩) | exact .lf (D.flat_lf rfl) | exact ren_map (f := spz) (fun _ => rfl) | exact .lf (lf_tz _) | exact ren_tz | exact .lf (.fn (fun d h => by cases h) (fun d h => by cases h)) | exact .lf (lf_fnrp (lf_rp1 (f := spz) (fun _ => rfl))) | exact .ro (by intro x hx; simp only [List.mem_cons, List.not_mem_nil, or_false] at hx; rcases hx with rfl | rfl <;> exact flats_lf rfl))) (hp) (by first | exact .val _ | exact lf_ints (.inl rfl) | exact lf_ints (.inr rfl) | exact .any | exact D.flat_lf rfl | exact lf_map (f := spz) (fun _ => rfl) (.inl rfl) | exact lf_tz _ | exact .tup (lf_cons (lf_tz _) (lf_cons (.val _) lf_nil)) | exact lf_fnrp (lf_rp1 (f := spz) (fun _ => rfl))) ?_
      refine n_move rfl (by first|simp only[nf,Nat.beq]<;>rfl|rfl) ?_
      refine n_extract rfl (by first|simp only[nf,Nat.beq]<;>rfl|rfl) rfl ?_
      refine n_extract rfl (by first|simp only[nf,Nat.beq]<;>rfl|rfl) rfl ?_
      refine n_assign rfl (by first|simp only[nf,Nat.beq]<;>rfl|rfl) ?_
      refine n_assign rfl (by first|simp only[nf,Nat.beq]<;>rfl|rfl) ?_
      refine AOps.nil ?_
      refine AWP.seq ?_
      refine AWP.anyStill (by kernel_rfl) (by kernel_rfl) ?_
      refine Walk.still (rs := [1]) (by rfl) (by first|simp only[nf,Nat.beq]<;>rfl|rfl) (fun base => by
          refine n_fieldAddr rfl fd188_0 ti186 rfl (by first|simp only[nf,Nat.beq]<;>rfl|rfl) rfl (by first|simp only[nf,Nat.beq]<;>rfl|rfl) ?_
          exact AOps.nil ⟨rfl, rfl, rfl⟩) ?_
      refine Walk.still (rs := [53]) (by rfl) (by first|simp only[nf,Nat.beq]<;>rfl|rfl) (fun base => by
          refine n_load rfl ti186 (by first|simp only[nf,Nat.beq]<;>rfl|rfl) (by first|simp only[nf,Nat.beq]<;>rfl|rfl) rfl (by first|simp only[nf,Nat.beq]<;>rfl|rfl) ?_
          exact AOps.nil ⟨rfl, rfl, rfl⟩) ?_
      refine Walk.still (rs := []) (by rfl) (by first|simp only[nf,Nat.beq]<;>rfl|rfl) (fun base => by
          refine n_build rfl si200 (Eq.trans (by simp only [nl] <;> rfl) (by first|simp only[nf,Nat.beq]<;>rfl|rfl)) (Eq.trans (by simp only [nl] <;> rfl) (by first|simp only[nf,Nat.beq]<;>rfl|rfl)) rfl ?_
          exact AOps.nil ⟨rfl, rfl, rfl⟩) ?_
      refine Walk.still (rs := []) (by rfl) (by first|simp only[nf,Nat.beq]<;>rfl|rfl) (fun base => by
          refine n_build rfl si200 (Eq.trans (by simp only [nl] <;> rfl) (by first|simp only[nf,Nat.beq]<;>rfl|rfl)) (Eq.trans (by simp only [nl] <;> rfl) (by first|simp only[nf,Nat.beq]<;>rfl|rfl)) rfl ?_
          exact AOps.nil ⟨rfl, rfl, rfl⟩) ?_
      refine Walk.still (rs := [55, 56]) (by rfl) (by first|simp only[nf,Nat.beq]<;>rfl|rfl) (fun base => by
          refine n_lit rfl Try.underlying186 ti200 zi200 rfl rfl (Eq.trans (by simp only [nl] <;> rfl) (by first|simp only[nf,Nat.beq]<;>rfl|rfl)) rfl (by first|simp only[nf,Nat.beq]<;>rfl|rfl) ?_
          exact AOps.nil ⟨rfl, rfl, rfl⟩) ?_
      refine Walk.still (rs := [54, 57]) (by rfl) (by first|simp only[nf,Nat.beq]<;>rfl|rfl) (fun base => by
          refine n_call0B rfl cf224 rfl (Eq.trans (by simp only [nl] <;> rfl) (by first|simp only[nf,Nat.beq]<;>rfl|rfl)) (by repeat (first | exact .nil | refine .cons ?_ ?_ | exact ren_ints | exact .lf (.val _) | exact .lf (lf_ints (.inl rfl)) | exact .bp ⟨rfl, rfl⟩ | exact .bp (.inl ⟨rfl, rfl⟩) | exact .bp (.inr ⟨rfl, rfl⟩) | exact .lf (D.flat_lf rfl) | exact ren_map (f := spz) (fun _ => rfl) | exact .lf (lf_tz _) | exact ren_tz | exact .lf (.fn (fun d h => by cases h) (fun d h => by cases h)) | exact .lf (lf_fnrp (lf_rp1 (f := spz) (fun _ => rfl))) | exact .ro (by intro x hx; simp only [List.mem_cons, List.not_mem_nil, or_false] at hx; rcases hx with rfl | rfl <;> exact flats_lf rfl))) (hq) (by first | exact .val _ | exact lf_ints (.inl rfl) | exact lf_ints (.inr rfl) | exact .any | exact D.flat_lf rfl | exact lf_map (f := spz) (fun _ => rfl) (.inl rfl) | exact lf_tz _ | exact .tup (lf_cons (lf_tz _) (lf_cons (.val _) lf_nil)) | exact lf_fnrp (lf_rp1 (f := spz) (fun _ => rfl))) ?_
          exact AOps.nil ⟨rfl, rfl, rfl⟩) ?_
      refine Walk.still (rs := [58]) (by rfl) (by first|simp only[nf,Nat.beq]<;>rfl|rfl) (fun base => by
          refine n_move rfl (by first|simp only[nf,Nat.beq]<;>rfl|rfl) ?_
          exact AOps.nil ⟨rfl, rfl, rfl⟩) ?_
      refine Walk.name (u := 59) (fun z => .val (.bool z)) (by first|simp only[nf,Nat.beq]<;>rfl|rfl) (fun b59 hb59 => ?_)
      refine Walk.still (rs := [6, 59]) (by rfl) (by first|simp only[nf,Nat.beq]<;>rfl|rfl) (fun base => by
          refine n_soft (u := 59) (E := .val (.bool b59)) (b59) rfl rfl rfl (by first|simp only[nf,Nat.beq]<;>rfl|rfl) (by cases b59 <;> first | (intro _; rfl) | (intro h; exact absurd h (by decide))) (by cases b59 <;> first | (intro h; exact absurd h (by decide)) | (intro _; exact ⟨_, rfl, by first | (intro h; cases h; done) | decide | simp⟩)) (fun h => by
              cases b59 with
              | false => exact absurd h (by first | decide | simp)
              | true =>
                refine n_move rfl (by first|simp only[nf,Nat.beq]<;>rfl|rfl) ?_
                exact AOps.nil ⟨rfl, rfl, rfl⟩) (AOps.nil ⟨rfl, rfl, rfl⟩)) ?_
      refine Walk.still (rs := [60, 59]) (by rfl) (by first|simp only[nf,Nat.beq]<;>rfl|rfl) (fun base => by
          refine n_soft (u := 59) (E := .val (.bool b59)) (b59) rfl rfl rfl (by first|simp only[nf,Nat.beq]<;>rfl|rfl) (by cases b59 <;> first | (intro _; rfl) | (intro h; exact absurd h (by decide))) (by cases b59 <;> first | (intro h; exact absurd h (by decide)) | (intro _; exact ⟨_, rfl, by first | (intro h; cases h; done) | decide | simp⟩)) (fun h => by
              cases b59 with
              | false => exact absurd h (by first | decide | simp)
              | true =>
                refine n_ibin rfl (by first|simp only[nf,Nat.beq]<;>rfl|rfl) (by first|simp only[nf,Nat.beq]<;>rfl|rfl) rfl ?_
                exact AOps.nil ⟨rfl, rfl, rfl⟩) (AOps.nil ⟨rfl, rfl, rfl⟩)) ?_
      refine Walk.still (rs := [59, 61]) (by rfl) (by first|simp only[nf,Nat.beq]<;>rfl|rfl) (fun base => by
          refine n_pick_and rfl (by first|simp only[nf,Nat.beq]<;>rfl|rfl) (fun h => by cases b59 with | false => exact absurd h (by decide) | true => exact (by first|simp only[nf,Nat.beq]<;>rfl|rfl)) ?_
          exact AOps.nil ⟨rfl, rfl, rfl⟩) ?_
      refine Walk.still (rs := [62]) (by rfl) (by first|simp only[nf,Nat.beq]<;>rfl|rfl) (fun base => by
          refine n_move rfl (by first|simp only[nf,Nat.beq]<;>rfl|rfl) ?_
          exact AOps.nil ⟨rfl, rfl, rfl⟩) ?_
      refine Walk.name (u := 63) (fun z => .val (.bool z)) (by first|simp only[nf,Nat.beq]<;>rfl|rfl) (fun b63 hb63 => ?_)
      refine Walk.still (rs := [7, 63]) (by rfl) (by first|simp only[nf,Nat.beq]<;>rfl|rfl) (fun base => by
          refine n_soft (u := 63) (E := .val (.bool b63)) (b63) rfl rfl rfl (by first|simp only[nf,Nat.beq]<;>rfl|rfl) (by cases b63 <;> first | (intro _; rfl) | (intro h; exact absurd h (by decide))) (by cases b63 <;> first | (intro h; exact absurd h (by decide)) | (intro _; exact ⟨_, rfl, by first | (intro h; cases h; done) | decide | simp⟩)) (fun h => by
              cases b63 with
              | false => exact absurd h (by first | decide | simp)
              | true =>
                refine n_move rfl (by first|simp only[nf,Nat.beq]<;>rfl|rfl) ?_
                exact AOps.nil ⟨rfl, rfl, rfl⟩) (AOps.nil ⟨rfl, rfl, rfl⟩)) ?_
      refine Walk.still (rs := [64, 63]) (by rfl) (by first|simp only[nf,Nat.beq]<;>rfl|rfl) (fun base => by
          refine n_soft (u := 63) (E := .val (.bool b63)) (b63) rfl rfl rfl (by first|simp only[nf,Nat.beq]<;>rfl|rfl) (by cases b63 <;> first | (intro _; rfl) | (intro h; exact absurd h (by decide))) (by cases b63 <;> first | (intro h; exact absurd h (by decide)) | (intro _; exact ⟨_, rfl, by first | (intro h; cases h; done) | decide | simp⟩)) (fun h => by
              cases b63 with
              | false => exact absurd h (by first | decide | simp)
              | true =>
                refine n_ibin rfl (by first|simp only[nf,Nat.beq]<;>rfl|rfl) (by first|simp only[nf,Nat.beq]<;>rfl|rfl) rfl ?_
                exact AOps.nil ⟨rfl, rfl, rfl⟩) (AOps.nil ⟨rfl, rfl, rfl⟩)) ?_
      refine Walk.still (rs := [63, 65]) (by rfl) (by first|simp only[nf,Nat.beq]<;>rfl|rfl) (fun base => by
          refine n_pick_and rfl (by first|simp only[nf,Nat.beq]<;>rfl|rfl) (fun h => by cases b63 with | false => exact absurd h (by decide) | true => exact (by first|simp only[nf,Nat.beq]<;>rfl|rfl)) ?_
          exact AOps.nil ⟨rfl, rfl, rfl⟩) ?_
      refine Walk.still (rs := [66]) (by rfl) (by first|simp only[nf,Nat.beq]<;>rfl|rfl) (fun base => by
          refine n_move rfl (by first|simp only[nf,Nat.beq]<;>rfl|rfl) ?_
          exact AOps.nil ⟨rfl, rfl, rfl⟩) ?_
      refine Walk.name (u := 67) (fun z => .val (.bool z)) (by first|simp only[nf,Nat.beq]<;>rfl|rfl) (fun b67 hb67 => ?_)
      refine Walk.still (rs := [8, 67]) (by rfl) (by first|simp only[nf,Nat.beq]<;>rfl|rfl) (fun base => by
          refine n_soft (u := 67) (E := .val (.bool b67)) (b67) rfl rfl rfl (by first|simp only[nf,Nat.beq]<;>rfl|rfl) (by cases b67 <;> first | (intro _; rfl) | (intro h; exact absurd h (by decide))) (by cases b67 <;> first | (intro h; exact absurd h (by decide)) | (intro _; exact ⟨_, rfl, by first | (intro h; cases h; done) | decide | simp⟩)) (fun h => by
              cases b67 with
              | false => exact absurd h (by first | decide | simp)
              | true =>
                refine n_move rfl (by first|simp only[nf,Nat.beq]<;>rfl|rfl) ?_
                exact AOps.nil ⟨rfl, rfl, rfl⟩) (AOps.nil ⟨rfl, rfl, rfl⟩)) ?_
      refine Walk.still (rs := [68, 67]) (by rfl) (by first|simp only[nf,Nat.beq]<;>rfl|rfl) (fun base => by
          refine n_soft (u := 67) (E := .val (.bool b67)) (b67) rfl rfl rfl (by first|simp only[nf,Nat.beq]<;>rfl|rfl) (by cases b67 <;> first | (intro _; rfl) | (intro h; exact absurd h (by decide))) (by cases b67 <;> first | (intro h; exact absurd h (by decide)) | (intro _; exact ⟨_, rfl, by first | (intro h; cases h; done) | decide | simp⟩)) (fun h => by
              cases b67 with
              | false => exact absurd h (by first | decide | simp)
              | true =>
                refine n_ibin rfl (by first|simp only[nf,Nat.beq]<;>rfl|rfl) (by first|simp only[nf,Nat.beq]<;>rfl|rfl) rfl ?_
                exact AOps.nil ⟨rfl, rfl, rfl⟩) (AOps.nil ⟨rfl, rfl, rfl⟩)) ?_
      refine Walk.still (rs := [67, 69]) (by rfl) (by first|simp only[nf,Nat.beq]<;>rfl|rfl) (fun base => by
          refine n_pick_and rfl (by first|simp only[nf,Nat.beq]<;>rfl|rfl) (fun h => by cases b67 with | false => exact absurd h (by decide) | true => exact (by first|simp only[nf,Nat.beq]<;>rfl|rfl)) ?_
          exact AOps.nil ⟨rfl, rfl, rfl⟩) ?_
      refine Walk.still (rs := [70]) (by rfl) (by first|simp only[nf,Nat.beq]<;>rfl|rfl) (fun base => by
          refine n_move rfl (by first|simp only[nf,Nat.beq]<;>rfl|rfl) ?_
          exact AOps.nil ⟨rfl, rfl, rfl⟩) ?_
      refine Walk.name (u := 71) (fun z => .val (.bool z)) (by first|simp only[nf,Nat.beq]<;>rfl|rfl) (fun b71 hb71 => ?_)
      refine Walk.still (rs := [9, 71]) (by rfl) (by first|simp only[nf,Nat.beq]<;>rfl|rfl) (fun base => by
          refine n_soft (u := 71) (E := .val (.bool b71)) (b71) rfl rfl rfl (by first|simp only[nf,Nat.beq]<;>rfl|rfl) (by cases b71 <;> first | (intro _; rfl) | (intro h; exact absurd h (by decide))) (by cases b71 <;> first | (intro h; exact absurd h (by decide)) | (intro _; exact ⟨_, rfl, by first | (intro h; cases h; done) | decide | simp⟩)) (fun h => by
              cases b71 with
              | false => exact absurd h (by first | decide | simp)
              | true =>
                refine n_move rfl (by first|simp only[nf,Nat.beq]<;>rfl|rfl) ?_
                exact AOps.nil ⟨rfl, rfl, rfl⟩) (AOps.nil ⟨rfl, rfl, rfl⟩)) ?_
      refine Walk.still (rs := [72, 71]) (by rfl) (by first|simp only[nf,Nat.beq]<;>rfl|rfl) (fun base => by
          refine n_soft (u := 71) (E := .val (.bool b71)) (b71) rfl rfl rfl (by first|simp only[nf,Nat.beq]<;>rfl|rfl) (by cases b71 <;> first | (intro _; rfl) | (intro h; exact absurd h (by decide))) (by cases b71 <;> first | (intro h; exact absurd h (by decide)) | (intro _; exact ⟨_, rfl, by first | (intro h; cases h; done) | decide | simp⟩)) (fun h => by
              cases b71 with
              | false => exact absurd h (by first | decide | simp)
              | true =>
                refine n_ibin rfl (by first|simp only[nf,Nat.beq]<;>rfl|rfl) (by first|simp only[nf,Nat.beq]<;>rfl|rfl) rfl ?_
                exact AOps.nil ⟨rfl, rfl, rfl⟩) (AOps.nil ⟨rfl, rfl, rfl⟩)) ?_
      refine Walk.still (rs := [71, 73]) (by rfl) (by first|simp only[nf,Nat.beq]<;>rfl|rfl) (fun base => by
          refine n_pick_and rfl (by first|simp only[nf,Nat.beq]<;>rfl|rfl) (fun h => by cases b71 with | false => exact absurd h (by decide) | true => exact (by first|simp only[nf,Nat.beq]<;>rfl|rfl)) ?_
          exact AOps.nil ⟨rfl, rfl, rfl⟩) ?_
      refine Walk.still (rs := [74]) (by rfl) (by first|simp only[nf,Nat.beq]<;>rfl|rfl) (fun base => by
          refine n_move rfl (by first|simp only[nf,Nat.beq]<;>rfl|rfl) ?_
          exact AOps.nil ⟨rfl, rfl, rfl⟩) ?_
      refine Walk.name (u := 75) (fun z => .val (.bool z)) (by first|simp only[nf,Nat.beq]<;>rfl|rfl) (fun b75 hb75 => ?_)
      refine Walk.still (rs := [1, 75]) (by rfl) (by first|simp only[nf,Nat.beq]<;>rfl|rfl) (fun base => by
          refine n_soft (u := 75) (E := .val (.bool b75)) (b75) rfl rfl rfl (by first|simp only[nf,Nat.beq]<;>rfl|rfl) (by cases b75 <;> first | (intro _; rfl) | (intro h; exact absurd h (by decide))) (by cases b75 <;> first | (intro h; exact absurd h (by decide)) | (intro _; exact ⟨_, rfl, by first | (intro h; cases h; done) | decide | simp⟩)) (fun h => by
              cases b75 with
              | false => exact absurd h (by first | decide | simp)
              | true =>
                refine n_load rfl ti188 (by first|simp only[nf,Nat.beq]<;>rfl|rfl) (by first|simp only[nf,Nat.beq]<;>rfl|rfl) rfl (by first|simp only[nf,Nat.beq]<;>rfl|rfl) ?_
                exact AOps.nil ⟨rfl, rfl, rfl⟩) (AOps.nil ⟨rfl, rfl, rfl⟩)) ?_
      refine Walk.still (rs := [1, 75]) (by rfl) (by first|simp only[nf,Nat.beq]<;>rfl|rfl) (fun base => by
          refine n_soft (u := 75) (E := .val (.bool b75)) (b75) rfl rfl rfl (by first|simp only[nf,Nat.beq]<;>rfl|rfl) (by cases b75 <;> first | (intro _; rfl) | (intro h; exact absurd h (by decide))) (by cases b75 <;> first | (intro h; exact absurd h (by decide)) | (intro _; exact ⟨_, rfl, by first | (intro h; cases h; done) | decide | simp⟩)) (fun h => by
              cases b75 with
              | false => exact absurd h (by first | decide | simp)
              | true =>
                refine n_fieldAddr rfl fd188_0 ti186 rfl (by first|simp only[nf,Nat.beq]<;>rfl|rfl) rfl (by first|simp only[nf,Nat.beq]<;>rfl|rfl) ?_
                exact AOps.nil ⟨rfl, rfl, rfl⟩) (AOps.nil ⟨rfl, rfl, rfl⟩)) ?_
      refine Walk.still (rs := [77, 75]) (by rfl) (by first|simp only[nf,Nat.beq]<;>rfl|rfl) (fun base => by
          refine n_soft (u := 75) (E := .val (.bool b75)) (b75) rfl rfl rfl (by first|simp only[nf,Nat.beq]<;>rfl|rfl) (by cases b75 <;> first | (intro _; rfl) | (intro h; exact absurd h (by decide))) (by cases b75 <;> first | (intro h; exact absurd h (by decide)) | (intro _; exact ⟨_, rfl, by first | (intro h; cases h; done) | decide | simp⟩)) (fun h => by
              cases b75 with
              | false => exact absurd h (by first | decide | simp)
              | true =>
                refine n_load rfl ti186 (by first|simp only[nf,Nat.beq]<;>rfl|rfl) (by first|simp only[nf,Nat.beq]<;>rfl|rfl) rfl (by first|simp only[nf,Nat.beq]<;>rfl|rfl) ?_
                exact AOps.nil ⟨rfl, rfl, rfl⟩) (AOps.nil ⟨rfl, rfl, rfl⟩)) ?_
      refine Walk.still (rs := [78, 75]) (by rfl) (by first|simp only[nf,Nat.beq]<;>rfl|rfl) (fun base => by
          refine n_soft (u := 75) (E := .val (.bool b75)) (b75) rfl rfl rfl (by first|simp only[nf,Nat.beq]<;>rfl|rfl) (by cases b75 <;> first | (intro _; rfl) | (intro h; exact absurd h (by decide))) (by cases b75 <;> first | (intro h; exact absurd h (by decide)) | (intro _; exact ⟨_, rfl, by first | (intro h; cases h; done) | decide | simp⟩)) (fun h => by
              cases b75 with
              | false => exact absurd h (by first | decide | simp)
              | true =>
                refine n_slice (h := 1) (ys := bt5.l.map spz) rfl Try.underlying186 ti200 (by first|simp only[nf,Nat.beq]<;>rfl|rfl) (SB.some (by first|simp only[nf,Nat.beq]<;>rfl|rfl) (by omega)) SB.none (by omega) (by decide) (by exact map_one (f := spz) (fun _ => rfl)) (by rfl) ?_
                exact AOps.nil ⟨rfl, rfl, rfl⟩) (AOps.nil ⟨rfl, rfl, rfl⟩)) ?_
      refine Walk.still (rs := [79, 75]) (by rfl) (by first|simp only[nf,Nat.beq]<;>rfl|rfl) (fun base => by
          refine n_soft (u := 75) (E := .val (.bool b75)) (b75) rfl rfl rfl (by first|simp only[nf,Nat.beq]<;>rfl|rfl) (by cases b75 <;> first | (intro _; rfl) | (intro h; exact absurd h (by decide))) (by cases b75 <;> first | (intro h; exact absurd h (by decide)) | (intro _; exact ⟨_, rfl, by first | (intro h; cases h; done) | decide | simp⟩)) (fun h => by
              cases b75 with
              | false => exact absurd h (by first | decide | simp)
              | true =>
                refine n_build rfl si188 (Eq.trans (by simp only [nl] <;> rfl) (by first|simp only[nf,Nat.beq]<;>rfl|rfl)) (Eq.trans (by simp only [nl] <;> rfl) (by first|simp only[nf,Nat.beq]<;>rfl|rfl)) rfl ?_
                exact AOps.nil ⟨rfl, rfl, rfl⟩) (AOps.nil ⟨rfl, rfl, rfl⟩)) ?_
      refine Walk.still (rs := [76, 80, 75]) (by rfl) (by first|simp only[nf,Nat.beq]<;>rfl|rfl) (fun base => by
          refine n_soft (u := 75) (E := .val (.bool b75)) (b75) rfl rfl rfl (by first|simp only[nf,Nat.beq]<;>rfl|rfl) (by cases b75 <;> first | (intro _; rfl) | (intro h; exact absurd h (by decide))) (by cases b75 <;> first | (intro h; exact absurd h (by decide)) | (intro _; exact ⟨_, rfl, by first | (intro h; cases h; done) | decide | simp⟩)) (fun h => by
              cases b75 with
              | false => exact absurd h (by first | decide | simp)
              | true =>
                refine n_call0B rfl cf160 rfl (Eq.trans (by simp only [nl] <;> rfl) (by first|simp only[nf,Nat.beq]<;>rfl|rfl)) (by repeat (first | exact .nil | refine .cons ?_ ?_ | exact ren_ints | exact .lf (.val _) | exact .lf (lf_ints (.inl rfl)) | exact .bp ⟨rfl, rfl⟩ | exact .bp (.inl ⟨rfl, rfl⟩) | exact .bp (.inr ⟨rfl, rfl⟩) | exact .lf (D.flat_lf rfl) | exact ren_map (f := spz) (fun _ => rfl) | exact .lf (lf_tz _) | exact ren_tz | exact .lf (.fn (fun d h => by cases h) (fun d h => by cases h)) | exact .lf (lf_fnrp (lf_rp1 (f := spz) (fun _ => rfl))) | exact .ro (by intro x hx; simp only [List.mem_cons, List.not_mem_nil, or_false] at hx; rcases hx with rfl | rfl <;> exact flats_lf rfl))) (hc) (by first | exact .val _ | exact lf_ints (.inl rfl) | exact lf_ints (.inr rfl) | exact .any | exact D.flat_lf rfl | exact lf_map (f := spz) (fun _ => rfl) (.inl rfl) | exact lf_tz _ | exact .tup (lf_cons (lf_tz _) (lf_cons (.val _) lf_nil)) | exact lf_fnrp (lf_rp1 (f := spz) (fun _ => rfl))) ?_
                exact AOps.nil ⟨rfl, rfl, rfl⟩) (AOps.nil ⟨rfl, rfl, rfl⟩)) ?_
      refine Walk.still (rs := [81, 75]) (by rfl) (by first|simp only[nf,Nat.beq]<;>rfl|rfl) (fun base => by
          refine n_soft (u := 75) (E := .val (.bool b75)) (b75) rfl rfl rfl (by first|simp only[nf,Nat.beq]<;>rfl|rfl) (by cases b75 <;> first | (intro _; rfl) | (intro h; exact absurd h (by decide))) (by cases b75 <;> first | (intro h; exact absurd h (by decide)) | (intro _; exact ⟨_, rfl, by first | (intro h; cases h; done) | decide | simp⟩)) (fun h => by
              cases b75 with
              | false => exact absurd h (by first | decide | simp)
              | true =>
                refine n_ibin rfl (by first|simp only[nf,Nat.beq]<;>rfl|rfl) (by first|simp only[nf,Nat.beq]<;>rfl|rfl) rfl ?_
                exact AOps.nil ⟨rfl, rfl, rfl⟩) (AOps.nil ⟨rfl, rfl, rfl⟩)) ?_
      refine Walk.still (rs := [75, 82]) (by rfl) (by first|simp only[nf,Nat.beq]<;>rfl|rfl) (fun base => by
          refine n_pick_and rfl (by first|simp only[nf,Nat.beq]<;>rfl|rfl) (fun h => by cases b75 with | false => exact absurd h (by decide) | true => exact (by first|simp only[nf,Nat.beq]<;>rfl|rfl)) ?_
          exact AOps.nil ⟨rfl, rfl, rfl⟩) ?_
      refine Walk.still (rs := [83]) (by rfl) (by first|simp only[nf,Nat.beq]<;>rfl|rfl) (fun base => by
          refine n_assign rfl (by first|simp only[nf,Nat.beq]<;>rfl|rfl) ?_
          exact AOps.nil ⟨rfl, rfl, rfl⟩) ?_
      subst hb59
      subst hb63
      subst hb67
      subst hb71
      subst hb75
      refine Walk.done ?_
      refine AWP.ret ?_
      refine fin_pure (.cons (rv_tmp (by first|simp only[nf,Nat.beq]<;>rfl|rfl)) .nil) (by first|simp only[nf,Nat.beq]<;>rfl|rfl) ?_
      first | exact ren_flat rfl rfl | exact ren_flat rfl (congrArg vb (by simp))

end Go.Proofs.Ytanfmpkjcoolmaa.Oh
