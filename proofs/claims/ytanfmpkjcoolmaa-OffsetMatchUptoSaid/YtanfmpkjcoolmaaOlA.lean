/- Tables cut, their heads dropped. -/
import Derived.Test.YtanfmpkjcoolmaaOhA
import Derived.Test.YtanfmpkjcoolmaaOffsetDoesPlain
set_option linter.unusedVariables false
set_option linter.unusedSimpArgs false
namespace Go.Proofs.Ytanfmpkjcoolmaa.Ol
open Go Go.Abs Go.Abs.Tb Of Og Oh
attribute [local irreducible] AWP AOps Does

theorem cf145 : CF Try.prog 145 := ⟨_, Try.func145, by kernel_rfl, by kernel_rfl⟩
theorem cf226 : CF Try.prog 226 := ⟨_, Try.func226, by kernel_rfl, by kernel_rfl⟩
theorem cf229 : CF Try.prog 229 := ⟨_, Try.func229, by kernel_rfl, by kernel_rfl⟩
theorem cf231 : CF Try.prog 231 := ⟨_, Try.func231, by kernel_rfl, by kernel_rfl⟩
theorem cf232 : CF Try.prog 232 := ⟨_, Try.func232, by kernel_rfl, by kernel_rfl⟩
theorem cf233 : CF Try.prog 233 := ⟨_, Try.func233, by kernel_rfl, by kernel_rfl⟩
theorem cf234 : CF Try.prog 234 := ⟨_, Try.func234, by kernel_rfl, by kernel_rfl⟩
theorem cf235 : CF Try.prog 235 := ⟨_, Try.func235, by kernel_rfl, by kernel_rfl⟩
theorem cf246 : CF Try.prog 246 := ⟨_, Try.func246, by kernel_rfl, by kernel_rfl⟩
theorem cf278 : CF Try.prog 278 := ⟨_, Try.func278, by kernel_rfl, by kernel_rfl⟩
theorem cf279 : CF Try.prog 279 := ⟨_, Try.func279, by kernel_rfl, by kernel_rfl⟩
theorem cf280 : CF Try.prog 280 := ⟨_, Try.func280, by kernel_rfl, by kernel_rfl⟩
theorem cf287 : CF Try.prog 287 := ⟨_, Try.func287, by kernel_rfl, by kernel_rfl⟩
theorem ei200 : EI Try.prog 200 4 32 (.agg #[.int .i64 0, .int .i64 0, .int .i64 0, .int .i64 0]) := EI.of (by kernel_rfl) rfl rfl
theorem fd188_0 : FD Try.prog 188 0 186 0 := ⟨_, _, Try.underlying188, rfl, rfl, rfl⟩
theorem fd188_1 : FD Try.prog 188 1 2 1 := ⟨_, _, Try.underlying188, rfl, rfl, rfl⟩
theorem fd200_0 : FD Try.prog 200 0 2 0 := ⟨_, _, Try.underlying200, rfl, rfl, rfl⟩
theorem fd200_1 : FD Try.prog 200 1 3 1 := ⟨_, _, Try.underlying200, rfl, rfl, rfl⟩
theorem fd200_2 : FD Try.prog 200 2 2 2 := ⟨_, _, Try.underlying200, rfl, rfl, rfl⟩
theorem fd200_3 : FD Try.prog 200 3 2 3 := ⟨_, _, Try.underlying200, rfl, rfl, rfl⟩
theorem si188 : SI Try.prog 188 #[(0, 1), (1, 1)] (.agg #[.slice none 0 0, .int .i64 0]) := ⟨⟨_, Try.underlying188, fun w => by kernel_rfl⟩, by kernel_rfl⟩
theorem si200 : SI Try.prog 200 #[(0, 1), (1, 1), (2, 1), (3, 1)] (.agg #[.int .i64 0, .int .i64 0, .int .i64 0, .int .i64 0]) := ⟨⟨_, Try.underlying200, fun w => by kernel_rfl⟩, by kernel_rfl⟩
theorem ti186 : TI Try.prog 186 1 false := ⟨by kernel_rfl, by kernel_rfl⟩
theorem ti188 : TI Try.prog 188 2 true := ⟨by kernel_rfl, by kernel_rfl⟩
theorem ti2 : TI Try.prog 2 1 false := ⟨by kernel_rfl, by kernel_rfl⟩
theorem ti200 : TI Try.prog 200 4 true := ⟨by kernel_rfl, by kernel_rfl⟩
theorem ti3 : TI Try.prog 3 1 false := ⟨by kernel_rfl, by kernel_rfl⟩
theorem zi188 : (Try.prog.info? 188).map (·.zero) = some (some (.agg #[.slice none 0 0, .int .i64 0])) := by kernel_rfl
theorem zi200 : (Try.prog.info? 200).map (·.zero) = some (some (.agg #[.int .i64 0, .int .i64 0, .int .i64 0, .int .i64 0])) := by kernel_rfl

theorem ren_nil0 {ρ σ : Nat → Nat → Prop} {nl : Option Bool} {c : Cap} : Ren ρ σ (.sl nl [] c) (.sl none [] .ro) := .ro (fun x h => by cases h)
theorem lf_nil0 {nl : Option Bool} : LF (.sl nl [] .ro) := .sl (fun x h => by cases h) (.inl rfl)
attribute [local irreducible] Tb.nth Tb.fin Tb.last Tb.follows Tb.single Tb.good Tb.chk Tb.lb Tb.kept Tb.zer
theorem cut1 (s : Sp) (x : Int) : Does Try.prog 280 [.agg (spz s), .rp [vi x]] [] (vb (decide (s.p ≥ x))) [] := by
  refine Does.of_body (rvs := [.tmp 3]) Try.func280 rfl rfl rfl rfl ?_
  refine AWP.seq ?_
  refine AWP.region ?_
  refine n_box rfl (by first|simp only[nf,Nat.beq]<;>rfl|rfl) rfl rfl (by first|simp only[nf,Nat.beq]<;>rfl|rfl) (by first|simp only[nf,Nat.beq]<;>rfl|rfl) ?_
  refine n_assign rfl (by first|simp only[nf,Nat.beq]<;>rfl|rfl) ?_
  refine AOps.nil ?_
  refine AWP.seq ?_
  refine AWP.region ?_
  refine n_fieldAddr rfl fd200_2 ti2 rfl (by first|simp only[nf,Nat.beq]<;>rfl|rfl) rfl (by first|simp only[nf,Nat.beq]<;>rfl|rfl) ?_
  refine n_load rfl ti2 (by first|simp only[nf,Nat.beq]<;>rfl|rfl) (by first|simp only[nf,Nat.beq]<;>rfl|rfl) rfl (by first|simp only[nf,Nat.beq]<;>rfl|rfl) ?_
  refine n_load rfl ti2 (by first|simp only[nf,Nat.beq]<;>rfl|rfl) (by first|simp only[nf,Nat.beq]<;>rfl|rfl) rfl (by first|simp only[nf,Nat.beq]<;>rfl|rfl) ?_
  refine n_ibin rfl (by first|simp only[nf,Nat.beq]<;>rfl|rfl) (by first|simp only[nf,Nat.beq]<;>rfl|rfl) rfl ?_
  refine n_assign rfl (by first|simp only[nf,Nat.beq]<;>rfl|rfl) ?_
  refine AOps.nil ?_
  refine AWP.ret ?_
  refine fin_pure (.cons (rv_tmp (by first|simp only[nf,Nat.beq]<;>rfl|rfl)) .nil) (by first|simp only[nf,Nat.beq]<;>rfl|rfl) ?_
  exact ren_flat rfl rfl

theorem ifn (t : Tb) (x : Int) (hg : t.good = true) : Does Try.prog 287 [(.sl none (t.l.map spz) .ro), (.fn (.func 280) [] [.rp [vi x]])] [] (vi (if t.lb x = t.l.length then -1 else (t.lb x : Int))) [] := by
  refine Does.of_body (rvs := [.tmp 4]) Try.func287 rfl rfl rfl rfl ?_
  have hgn := good_num hg
  obtain ⟨c1, c2, c3⟩ := lb_cut hg x
  refine AWP.seq ?_
  refine AWP.region ?_
  refine n_assign rfl (by first|simp only[nf,Nat.beq]<;>rfl|rfl) ?_
  refine AOps.nil ?_
  refine AWP.seq ?_
  refine AWP.seq ?_
  refine AWP.region ?_
  refine n_move rfl (by first|simp only[nf,Nat.beq]<;>rfl|rfl) ?_
  refine n_len rfl Try.underlying186 (by first|simp only[nf,Nat.beq]<;>rfl|rfl) (by first | rw [ints_length] | rw [List.length_map] | rfl) ?_
  refine n_move rfl (by first|simp only[nf,Nat.beq]<;>rfl|rfl) ?_
  refine AOps.nil ?_
  refine AWP.block ?_
  refine AWP.loop (α := Nat) (fun i => i ≤ t.l.length ∧ i ≤ t.lb x) (fun i => put (put (put (put empty 0 (.sl none (t.l.map spz) .ro)) 1 (.fn (.func 280) [] [.rp [vi x]])) 7 (vi (t.l.length : Int))) 8 (vi (i : Int))) (fun _ => []) (fun i => t.l.length - i) 0 ?_ ?_ ?_ ?_
  · exact ⟨Nat.zero_le _, Nat.zero_le _⟩
  · (repeat (first | exact FLe.empty _ | refine FLe.put ?_ ?_)) <;> first | (simp only [nf, Nat.beq]; done) | rfl | ((try simp only [nf, Nat.beq]); first | rfl | (simp only [List.length_map]; done) | (congr 2; omega; done))
  · rfl
  · rintro i ⟨hi, hj⟩
    try dsimp only at hi hj ⊢
    refine AWP.seq ?_
    refine AWP.region ?_
    refine n_ibin rfl (by first|simp only[nf,Nat.beq]<;>rfl|rfl) (by first|simp only[nf,Nat.beq]<;>rfl|rfl) rfl ?_
    refine AOps.nil ?_
    refine AWP.seq ?_
    refine AWP.cond (by first|simp only[nf,Nat.beq]<;>rfl|rfl) (fun hc1 => ?_) (fun hc1 => ?_)
    · try simp only [nh] at hc1
      have hil : i < t.l.length := by omega
      have hx := map_at spz (nth_at (t := t) hil)
      refine AWP.skip ?_
      refine AWP.seq ?_
      refine AWP.block ?_
      refine AWP.seq ?_
      refine AWP.region ?_
      refine n_move rfl (by first|simp only[nf,Nat.beq]<;>rfl|rfl) ?_
      refine n_assign rfl (by first|simp only[nf,Nat.beq]<;>rfl|rfl) ?_
      refine AOps.nil ?_
      refine AWP.seq ?_
      refine AWP.region ?_
      refine n_move rfl (by first|simp only[nf,Nat.beq]<;>rfl|rfl) ?_
      refine n_move rfl (by first|simp only[nf,Nat.beq]<;>rfl|rfl) ?_
      refine n_move rfl (by first|simp only[nf,Nat.beq]<;>rfl|rfl) ?_
      refine n_indexAddr rfl Try.underlying186 ti200 rfl (by first|simp only[nf,Nat.beq]<;>rfl|rfl) (by first|simp only[nf,Nat.beq]<;>rfl|rfl) (by omega) (by exact hx) rfl ?_
      refine n_load rfl ti200 (by first|simp only[nf,Nat.beq]<;>rfl|rfl) (by first|simp only[nf,Nat.beq]<;>rfl|rfl) rfl (by first|simp only[nf,Nat.beq]<;>rfl|rfl) ?_
      refine n_call0B rfl cf280 rfl (Eq.trans (by simp only [nl] <;> rfl) (by first|simp only[nf,Nat.beq]<;>rfl|rfl)) (by repeat (first | exact .nil | refine .cons ?_ ?_ | exact ren_ints | exact .lf (.val _) | exact .lf (lf_ints (.inl rfl)) | exact .bp ⟨rfl, rfl⟩ | exact .bp (.inl ⟨rfl, rfl⟩) | exact .bp (.inr ⟨rfl, rfl⟩) | exact ren_nil0 | exact .lf (lf_fnrp (lf_cons (.val _) lf_nil)) | exact .lf (.rp (lf_cons (.val _) lf_nil)) | exact .bs ⟨rfl, rfl⟩ | exact .lf (D.flat_lf rfl) | exact ren_map (f := spz) (fun _ => rfl) | exact .lf (lf_tz _) | exact ren_tz | exact .lf (.fn (fun d h => by cases h) (fun d h => by cases h)) | exact .lf (lf_fnrp (lf_rp1 (f := spz) (fun _ => rfl))) | exact .ro (by intro x hx; simp only [List.mem_cons, List.not_mem_nil, or_false] at hx; rcases hx with rfl | rfl <;> exact flats_lf rfl))) (cut1 (t.nth i) x) (by first | exact .val _ | exact lf_ints (.inl rfl) | exact lf_ints (.inr rfl) | exact .any | exact lf_nil0 | exact lf_fnrp (lf_cons (.val _) lf_nil) | exact D.flat_lf rfl | exact lf_map (f := spz) (fun _ => rfl) (.inl rfl) | exact lf_tz _ | exact .tup (lf_cons (lf_tz _) (lf_cons (.val _) lf_nil)) | exact lf_fnrp (lf_rp1 (f := spz) (fun _ => rfl))) ?_
      refine AOps.nil ?_
      refine AWP.cond (by first|simp only[nf,Nat.beq]<;>rfl|rfl) (fun hc2 => ?_) (fun hc2 => ?_)
      · try simp only [nh] at hc2
        have hge : t.lb x ≤ i := by rcases Nat.lt_or_ge i (t.lb x) with e | e; have := c2 i e; omega; exact e
        have hz : (if t.lb x = t.l.length then -1 else (t.lb x : Int)) = (i : Int) := by rw [if_neg (by omega)]; omega
        refine AWP.seq ?_
        refine AWP.region ?_
        refine n_move rfl (by first|simp only[nf,Nat.beq]<;>rfl|rfl) ?_
        refine n_assign rfl (by first|simp only[nf,Nat.beq]<;>rfl|rfl) ?_
        refine AOps.nil ?_
        refine AWP.ret ?_
        refine fin_pure (.cons (rv_tmp (by first|simp only[nf,Nat.beq]<;>rfl|rfl)) .nil) (by first|simp only[nf,Nat.beq]<;>rfl|rfl) ?_
        rw [hz]; exact ren_flat rfl rfl
      · try simp only [nh] at hc2
        have hlt : i < t.lb x := by rcases Nat.lt_or_ge i (t.lb x) with e | e; exact e; have := c3 i e hil; omega
        refine AWP.skip ?_
        refine AWP.region ?_
        first | refine n_iadd rfl (by first|simp only[nf,Nat.beq]<;>rfl|rfl) (by first|simp only[nf,Nat.beq]<;>rfl|rfl) rfl (by omega) (by omega) ?_ | refine n_ibin rfl (by first|simp only[nf,Nat.beq]<;>rfl|rfl) (by first|simp only[nf,Nat.beq]<;>rfl|rfl) rfl ?_
        refine n_move rfl (by first|simp only[nf,Nat.beq]<;>rfl|rfl) ?_
        refine AOps.nil ?_
        refine ⟨i + 1, ⟨by omega, by omega⟩, ?_, rfl, by omega⟩
        (repeat (first | exact FLe.empty _ | refine FLe.put ?_ ?_)) <;> first | (simp only [nf, Nat.beq]; done) | rfl | ((try simp only [nf, Nat.beq]); first | rfl | (simp only [List.length_map]; done) | (congr 2; omega; done))
    · try simp only [nh] at hc1
      have hz : (if t.lb x = t.l.length then -1 else (t.lb x : Int)) = -1 := if_pos (by omega)
      refine AWP.exit ?_
      refine AWP.seq ?_
      refine AWP.region ?_
      refine n_assign rfl (by first|simp only[nf,Nat.beq]<;>rfl|rfl) ?_
      refine AOps.nil ?_
      refine AWP.ret ?_
      refine fin_pure (.cons (rv_tmp (by first|simp only[nf,Nat.beq]<;>rfl|rfl)) .nil) (by first|simp only[nf,Nat.beq]<;>rfl|rfl) ?_
      rw [hz]; exact ren_flat rfl rfl

theorem l_cloneRo (t : Tb) (hl : t.l.length ≤ 1048576) : Does Try.prog 229 [tz t] [] (tz t) [] := by
  refine Does.of_body (rvs := [.cell 2 188]) Try.func229 rfl rfl rfl rfl ?_
  refine AWP.seq ?_
  refine AWP.region ?_
  refine n_box rfl (by first|simp only[nf,Nat.beq]<;>rfl|rfl) rfl rfl (by first|simp only[nf,Nat.beq]<;>rfl|rfl) (by first|simp only[nf,Nat.beq]<;>rfl|rfl) ?_
  refine n_alloc rfl zi188 rfl (by first|simp only[nf,Nat.beq]<;>rfl|rfl) (by first|simp only[nf,Nat.beq]<;>rfl|rfl) ?_
  refine AOps.nil ?_
  refine AWP.seq ?_
  refine AWP.region ?_
  refine n_fieldAddr rfl fd188_0 ti186 rfl (by first|simp only[nf,Nat.beq]<;>rfl|rfl) rfl (by first|simp only[nf,Nat.beq]<;>rfl|rfl) ?_
  refine n_load rfl ti186 (by first|simp only[nf,Nat.beq]<;>rfl|rfl) (by first|simp only[nf,Nat.beq]<;>rfl|rfl) rfl (by first|simp only[nf,Nat.beq]<;>rfl|rfl) ?_
  refine n_callRowR (r' := .sl none (t.l.map spz) (.own 2)) rfl cf278 rfl (Eq.trans (by simp only [nl] <;> rfl) (by first|simp only[nf,Nat.beq]<;>rfl|rfl)) (by repeat (first | exact .nil | refine .cons ?_ ?_ | exact ren_ints | exact .lf (.val _) | exact .lf (lf_ints (.inl rfl)) | exact .bp ⟨rfl, rfl⟩ | exact .bp (.inl ⟨rfl, rfl⟩) | exact .bp (.inr ⟨rfl, rfl⟩) | exact ren_nil0 | exact .lf (lf_fnrp (lf_cons (.val _) lf_nil)) | exact .lf (.rp (lf_cons (.val _) lf_nil)) | exact .bs ⟨rfl, rfl⟩ | exact .lf (D.flat_lf rfl) | exact ren_map (f := spz) (fun _ => rfl) | exact .lf (lf_tz _) | exact ren_tz | exact .lf (.fn (fun d h => by cases h) (fun d h => by cases h)) | exact .lf (lf_fnrp (lf_rp1 (f := spz) (fun _ => rfl))) | exact .ro (by intro x hx; simp only [List.mem_cons, List.not_mem_nil, or_false] at hx; rcases hx with rfl | rfl <;> exact flats_lf rfl))) (s_clone t.l hl) rfl (by exact .own (fun x hx d hd => by obtain ⟨p, _, rfl⟩ := List.mem_map.1 hx; exact flats_lf (by rfl) d hd) ⟨rfl, rfl⟩) (by first|simp only[nf,Nat.beq]<;>rfl|rfl) ?_
  refine n_fieldAddr rfl fd188_0 ti186 rfl (by first|simp only[nf,Nat.beq]<;>rfl|rfl) rfl (by first|simp only[nf,Nat.beq]<;>rfl|rfl) ?_
  refine n_store ti186 (by first|simp only[nf,Nat.beq]<;>rfl|rfl) rfl (by first|simp only[nf,Nat.beq]<;>rfl|rfl) rfl (by first|simp only[nf,Nat.beq]<;>rfl|rfl) rfl rfl rfl (by first|simp only[nf,Nat.beq]<;>rfl|rfl) ?_
  refine AOps.nil ?_
  refine AWP.seq ?_
  refine AWP.region ?_
  refine n_load rfl ti188 (by first|simp only[nf,Nat.beq]<;>rfl|rfl) (by first|simp only[nf,Nat.beq]<;>rfl|rfl) rfl (by first|simp only[nf,Nat.beq]<;>rfl|rfl) ?_
  refine n_store ti188 (by first|simp only[nf,Nat.beq]<;>rfl|rfl) rfl (by first|simp only[nf,Nat.beq]<;>rfl|rfl) rfl (by first|simp only[nf,Nat.beq]<;>rfl|rfl) rfl rfl rfl (by first|simp only[nf,Nat.beq]<;>rfl|rfl) ?_
  refine AOps.nil ?_
  refine AWP.ret ?_
  refine fin_pure (.cons (rv_cell ti188 (by first|simp only[nf,Nat.beq]<;>rfl|rfl) (by first|simp only[nf,Nat.beq]<;>rfl|rfl) rfl (by first|simp only[nf,Nat.beq]<;>rfl|rfl)) .nil) (by first|simp only[nf,Nat.beq]<;>rfl|rfl) ?_
  exact ren_tz

theorem s_cloneB (l : List Sp) (h0 : 0 < l.length) (hl : l.length ≤ 1048576) : Does Try.prog 278 [(.sl none (l.map spz) .ro)] [] (.bs 0 0 l.length) [.box (flat l)] := by
  refine Does.of_body (rvs := [.tmp 2]) Try.func278 rfl rfl rfl rfl ?_
  refine AWP.seq ?_
  refine AWP.region ?_
  refine n_assign rfl (by first|simp only[nf,Nat.beq]<;>rfl|rfl) ?_
  refine AOps.nil ?_
  refine AWP.seq ?_
  refine AWP.seq ?_
  refine AWP.region ?_
  refine n_move rfl (by first|simp only[nf,Nat.beq]<;>rfl|rfl) ?_
  refine n_eqnil rfl Try.underlying186 (by first|simp only[nf,Nat.beq]<;>rfl|rfl) (fun b1 hb1 he1 => ?_)
  refine AOps.nil ?_
  refine AWP.cond (by first|simp only[nf,Nat.beq]<;>rfl|rfl) (fun hc2 => ?_) (fun hc2 => ?_)
  · try simp only [nh] at hc2
    exfalso
    have hnil : l = [] := by simpa using he1 hc2
    rw [hnil] at h0
    simp at h0
  · try simp only [nh] at hc2
    refine AWP.skip ?_
    refine AWP.seq ?_
    refine AWP.region ?_
    refine n_lit rfl Try.underlying186 ti200 zi200 rfl rfl (Eq.trans (by simp only [nl] <;> rfl) (by first|simp only[nf,Nat.beq]<;>rfl|rfl)) rfl (by first|simp only[nf,Nat.beq]<;>rfl|rfl) ?_
    refine n_move rfl (by first|simp only[nf,Nat.beq]<;>rfl|rfl) ?_
    refine n_append_box (m := l.length) rfl Try.underlying186 Try.underlying186 ei200 (by first|simp only[nf,Nat.beq]<;>rfl|rfl) (by first|simp only[nf,Nat.beq]<;>rfl|rfl) (by intro x hx; cases hx) sp4 (by simp only [List.length_map, List.length_nil]; omega) (by simpa using h0) (by simp) rfl rfl (by first|simp only[nf,Nat.beq]<;>rfl|rfl) ?_
    refine n_assign rfl (by first|simp only[nf,Nat.beq]<;>rfl|rfl) ?_
    refine AOps.nil ?_
    refine AWP.ret ?_
    refine fin_newBs (.cons (rv_tmp (by first|simp only[nf,Nat.beq]<;>rfl|rfl)) .nil) (by first|simp only[nf,Nat.beq]<;>rfl|rfl) rfl ?_
    exact renAll_lf (flat_lf l)

theorem l_cloneB (t : Tb) (h0 : 0 < t.l.length) (hl : t.l.length ≤ 1048576) : Does Try.prog 229 [tz t] [] (.agg [.bs 0 0 t.l.length, vi t.n]) [.box (flat t.l)] := by
  refine Does.of_body (rvs := [.cell 2 188]) Try.func229 rfl rfl rfl rfl ?_
  refine AWP.seq ?_
  refine AWP.region ?_
  refine n_box rfl (by first|simp only[nf,Nat.beq]<;>rfl|rfl) rfl rfl (by first|simp only[nf,Nat.beq]<;>rfl|rfl) (by first|simp only[nf,Nat.beq]<;>rfl|rfl) ?_
  refine n_alloc rfl zi188 rfl (by first|simp only[nf,Nat.beq]<;>rfl|rfl) (by first|simp only[nf,Nat.beq]<;>rfl|rfl) ?_
  refine AOps.nil ?_
  refine AWP.seq ?_
  refine AWP.region ?_
  refine n_fieldAddr rfl fd188_0 ti186 rfl (by first|simp only[nf,Nat.beq]<;>rfl|rfl) rfl (by first|simp only[nf,Nat.beq]<;>rfl|rfl) ?_
  refine n_load rfl ti186 (by first|simp only[nf,Nat.beq]<;>rfl|rfl) (by first|simp only[nf,Nat.beq]<;>rfl|rfl) rfl (by first|simp only[nf,Nat.beq]<;>rfl|rfl) ?_
  refine n_callNewBs rfl cf278 rfl (Eq.trans (by simp only [nl] <;> rfl) (by first|simp only[nf,Nat.beq]<;>rfl|rfl)) (by repeat (first | exact .nil | refine .cons ?_ ?_ | exact ren_ints | exact .lf (.val _) | exact .lf (lf_ints (.inl rfl)) | exact .bp ⟨rfl, rfl⟩ | exact .bp (.inl ⟨rfl, rfl⟩) | exact .bp (.inr ⟨rfl, rfl⟩) | exact ren_nil0 | exact .lf (lf_fnrp (lf_cons (.val _) lf_nil)) | exact .lf (.rp (lf_cons (.val _) lf_nil)) | exact .bs ⟨rfl, rfl⟩ | exact .lf (D.flat_lf rfl) | exact ren_map (f := spz) (fun _ => rfl) | exact .lf (lf_tz _) | exact ren_tz | exact .lf (.fn (fun d h => by cases h) (fun d h => by cases h)) | exact .lf (lf_fnrp (lf_rp1 (f := spz) (fun _ => rfl))) | exact .ro (by intro x hx; simp only [List.mem_cons, List.not_mem_nil, or_false] at hx; rcases hx with rfl | rfl <;> exact flats_lf rfl))) (s_cloneB t.l h0 hl) (by exact flat_lf t.l) rfl (by first|simp only[nf,Nat.beq]<;>rfl|rfl) ?_
  refine n_fieldAddr rfl fd188_0 ti186 rfl (by first|simp only[nf,Nat.beq]<;>rfl|rfl) rfl (by first|simp only[nf,Nat.beq]<;>rfl|rfl) ?_
  refine n_store ti186 (by first|simp only[nf,Nat.beq]<;>rfl|rfl) rfl (by first|simp only[nf,Nat.beq]<;>rfl|rfl) rfl (by first|simp only[nf,Nat.beq]<;>rfl|rfl) rfl rfl rfl (by first|simp only[nf,Nat.beq]<;>rfl|rfl) ?_
  refine AOps.nil ?_
  refine AWP.seq ?_
  refine AWP.region ?_
  refine n_load rfl ti188 (by first|simp only[nf,Nat.beq]<;>rfl|rfl) (by first|simp only[nf,Nat.beq]<;>rfl|rfl) rfl (by first|simp only[nf,Nat.beq]<;>rfl|rfl) ?_
  refine n_store ti188 (by first|simp only[nf,Nat.beq]<;>rfl|rfl) rfl (by first|simp only[nf,Nat.beq]<;>rfl|rfl) rfl (by first|simp only[nf,Nat.beq]<;>rfl|rfl) rfl rfl rfl (by first|simp only[nf,Nat.beq]<;>rfl|rfl) ?_
  refine AOps.nil ?_
  refine AWP.ret ?_
  refine fin_newR (l := 2) (.cons (rv_cell ti188 (by first|simp only[nf,Nat.beq]<;>rfl|rfl) (by first|simp only[nf,Nat.beq]<;>rfl|rfl) rfl (by first|simp only[nf,Nat.beq]<;>rfl|rfl)) .nil) (by first|simp only[nf,Nat.beq]<;>rfl|rfl) ?_ rfl ?_
  · exact .agg rfl (RenAll.get (.cons (.bs ⟨rfl, rfl⟩) (.cons (.lf (.val _)) .nil)))
  · exact renAll_lf (flat_lf t.l)

set_option maxHeartbeats 2000000 in
theorem del (t : Tb) (x : Int) (hg : t.good = true) (h0 : 0 < t.l.length) : Does Try.prog 279 [.bs 0 0 t.l.length, (.fn (.func 280) [] [.rp [vi x]])] [.box (flat t.l)] (.bs 0 0 (t.lb x)) [.box (flat (t.l.take (t.lb x)) ++ zer (t.l.length - t.lb x))] := by
  refine Does.of_body (rvs := [.tmp 4]) Try.func279 rfl rfl rfl rfl ?_
  have hgn := good_num hg
  obtain ⟨c1, c2, c3⟩ := lb_cut hg x
  have hfn := ifn t x hg
  have hfl := flat_length t.l
  refine AWP.seq ?_
  refine AWP.region ?_
  refine n_assign rfl (by first|simp only[nf,Nat.beq]<;>rfl|rfl) ?_
  refine AOps.nil ?_
  refine AWP.seq ?_
  refine AWP.region ?_
  refine n_move rfl (by first|simp only[nf,Nat.beq]<;>rfl|rfl) ?_
  refine n_move rfl (by first|simp only[nf,Nat.beq]<;>rfl|rfl) ?_
  refine n_callPeek (l0 := 0) rfl cf287 rfl (Eq.trans (by simp only [nl] <;> rfl) (by first|simp only[nf,Nat.beq]<;>rfl|rfl)) rfl (by exact .cons (peek_sp rfl) (.cons (.ren (.lf (lf_fnrp (lf_cons (.val _) lf_nil)))) .nil)) (hfn) rfl ?_
  refine n_assign rfl (by first|simp only[nf,Nat.beq]<;>rfl|rfl) ?_
  refine AOps.nil ?_
  refine AWP.seq ?_
  refine AWP.seq ?_
  refine AWP.region ?_
  refine n_move rfl (by first|simp only[nf,Nat.beq]<;>rfl|rfl) ?_
  refine n_ibin rfl (by first|simp only[nf,Nat.beq]<;>rfl|rfl) (by first|simp only[nf,Nat.beq]<;>rfl|rfl) rfl ?_
  refine AOps.nil ?_
  refine AWP.cond (by first|simp only[nf,Nat.beq]<;>rfl|rfl) (fun hc1 => ?_) (fun hc1 => ?_)
  · try simp only [nh] at hc1
    have hk : t.lb x = t.l.length := by split at hc1; assumption; omega
    refine AWP.seq ?_
    refine AWP.region ?_
    refine n_move rfl (by first|simp only[nf,Nat.beq]<;>rfl|rfl) ?_
    refine n_assign rfl (by first|simp only[nf,Nat.beq]<;>rfl|rfl) ?_
    refine AOps.nil ?_
    refine AWP.ret ?_
    refine fin_boxBs (.cons (rv_tmp (by first|simp only[nf,Nat.beq]<;>rfl|rfl)) .nil) (by first|simp only[nf,Nat.beq]<;>rfl|rfl) ?_ rfl ?_
    · first | rfl | exact hk.symm
    · first | exact renAll_lf (cut_lf _ _) | (rw [← cut_whole hk]; exact renAll_lf (flat_lf _))
  · try simp only [nh] at hc1
    have hk : ¬ t.lb x = t.l.length := by intro hk; rw [if_pos hk] at hc1; exact hc1 rfl
    rw [if_neg hk]
    refine AWP.skip ?_
    refine AWP.seq ?_
    refine AWP.seq ?_
    refine AWP.region ?_
    refine n_move rfl (by first|simp only[nf,Nat.beq]<;>rfl|rfl) ?_
    first | refine n_iadd rfl (by first|simp only[nf,Nat.beq]<;>rfl|rfl) (by first|simp only[nf,Nat.beq]<;>rfl|rfl) rfl (by omega) (by omega) ?_ | refine n_ibin rfl (by first|simp only[nf,Nat.beq]<;>rfl|rfl) (by first|simp only[nf,Nat.beq]<;>rfl|rfl) rfl ?_
    refine n_assign rfl (by first|simp only[nf,Nat.beq]<;>rfl|rfl) ?_
    refine AOps.nil ?_
    refine AWP.block ?_
    refine AWP.loopX 1 (α := Nat) (fun j => t.lb x < j ∧ j ≤ t.l.length) (fun j => put (put (put (put empty 0 (.bs 0 0 t.l.length)) 1 (.fn (.func 280) [] [.rp [vi x]])) 5 (vi (t.lb x : Int))) 6 (vi (j : Int))) (fun _ => [.box (flat t.l)]) (fun j => t.l.length - j) (t.lb x + 1) ?_ ?_ ?_ ?_ ?_ ?_ ?_
    · exact ⟨by omega, by omega⟩
    · (repeat (first | exact FLe.empty _ | refine FLe.put ?_ ?_)) <;> first | (simp only [nf, Nat.beq]; done) | rfl | ((try simp only [nf, Nat.beq]); first | rfl | (simp only [List.length_map]; done) | (congr 2; omega; done))
    · rfl
    · exact fun _ => rfl
    · intro p hp; (try dsimp only); (repeat' (refine un_put ?_ ?_)) <;> first | exact un_empty | exact .bp (by decide) | exact .lf (D.flat_lf rfl) | exact .lf (lf_ints (.inl rfl)) | exact .bs (by decide) | exact .lf (lf_fnrp (lf_cons (.val _) lf_nil))
    · intro p hp; (try dsimp only); repeat' (first | exact un_nil | refine un_cons ?_ ?_ | exact un_box rfl | exact un_boxL (flat_lf t.l))
    · rintro j ⟨hj1, hj2⟩
      try dsimp only at hj1 hj2 ⊢
      refine AWP.seq ?_
      refine AWP.seq ?_
      refine AWP.region ?_
      refine n_move rfl (by first|simp only[nf,Nat.beq]<;>rfl|rfl) ?_
      refine n_move rfl (by first|simp only[nf,Nat.beq]<;>rfl|rfl) ?_
      refine n_bsLen rfl Try.underlying186 (by first|simp only[nf,Nat.beq]<;>rfl|rfl) ?_
      refine n_ibin rfl (by first|simp only[nf,Nat.beq]<;>rfl|rfl) (by first|simp only[nf,Nat.beq]<;>rfl|rfl) rfl ?_
      refine AOps.nil ?_
      refine AWP.cond (by first|simp only[nf,Nat.beq]<;>rfl|rfl) (fun hc2 => ?_) (fun hc2 => ?_)
      · try simp only [nh] at hc2
        have hjl : j < t.l.length := by omega
        have hge := c3 j (by omega) hjl
        refine AWP.skip ?_
        refine AWP.seq ?_
        refine AWP.block ?_
        refine AWP.seq ?_
        refine AWP.region ?_
        refine n_move rfl (by first|simp only[nf,Nat.beq]<;>rfl|rfl) ?_
        refine n_move rfl (by first|simp only[nf,Nat.beq]<;>rfl|rfl) ?_
        refine n_bsIndexAddr (q := j * 4) rfl Try.underlying186 ti200 (by first|simp only[nf,Nat.beq]<;>rfl|rfl) (by first|simp only[nf,Nat.beq]<;>rfl|rfl) (by omega) (by omega) (by omega) ?_
        refine n_load (p := .bp 0 (j * 4)) (cs := (flat t.l).drop (j * 4)) (d := .agg (spz (t.nth j))) rfl ti200 (by first|simp only[nf,Nat.beq]<;>rfl|rfl) rfl (by rw [List.length_drop, hfl]; exact Nat.ble_eq_true_of_le (by show 4 ≤ _; omega)) (by show D.agg (((flat t.l).drop (j * 4)).take 4) = _; rw [flat_at hjl]) ?_
        refine n_alloc rfl zi200 rfl (by first|simp only[nf,Nat.beq]<;>rfl|rfl) (by first|simp only[nf,Nat.beq]<;>rfl|rfl) ?_
        refine n_store ti200 (by first|simp only[nf,Nat.beq]<;>rfl|rfl) rfl (by first|simp only[nf,Nat.beq]<;>rfl|rfl) rfl (by first|simp only[nf,Nat.beq]<;>rfl|rfl) rfl rfl rfl (by first|simp only[nf,Nat.beq]<;>rfl|rfl) ?_
        refine AOps.nil ?_
        refine AWP.seq ?_
        refine AWP.region ?_
        refine n_move rfl (by first|simp only[nf,Nat.beq]<;>rfl|rfl) ?_
        refine n_load rfl ti200 (by first|simp only[nf,Nat.beq]<;>rfl|rfl) (by first|simp only[nf,Nat.beq]<;>rfl|rfl) rfl (by first|simp only[nf,Nat.beq]<;>rfl|rfl) ?_
        refine n_call0B rfl cf280 rfl (Eq.trans (by simp only [nl] <;> rfl) (by first|simp only[nf,Nat.beq]<;>rfl|rfl)) (by repeat (first | exact .nil | refine .cons ?_ ?_ | exact ren_ints | exact .lf (.val _) | exact .lf (lf_ints (.inl rfl)) | exact .bp ⟨rfl, rfl⟩ | exact .bp (.inl ⟨rfl, rfl⟩) | exact .bp (.inr ⟨rfl, rfl⟩) | exact ren_nil0 | exact .lf (lf_fnrp (lf_cons (.val _) lf_nil)) | exact .lf (.rp (lf_cons (.val _) lf_nil)) | exact .bs ⟨rfl, rfl⟩ | exact .lf (D.flat_lf rfl) | exact ren_map (f := spz) (fun _ => rfl) | exact .lf (lf_tz _) | exact ren_tz | exact .lf (.fn (fun d h => by cases h) (fun d h => by cases h)) | exact .lf (lf_fnrp (lf_rp1 (f := spz) (fun _ => rfl))) | exact .ro (by intro x hx; simp only [List.mem_cons, List.not_mem_nil, or_false] at hx; rcases hx with rfl | rfl <;> exact flats_lf rfl))) (cut1 (t.nth j) x) (by first | exact .val _ | exact lf_ints (.inl rfl) | exact lf_ints (.inr rfl) | exact .any | exact lf_nil0 | exact lf_fnrp (lf_cons (.val _) lf_nil) | exact D.flat_lf rfl | exact lf_map (f := spz) (fun _ => rfl) (.inl rfl) | exact lf_tz _ | exact .tup (lf_cons (lf_tz _) (lf_cons (.val _) lf_nil)) | exact lf_fnrp (lf_rp1 (f := spz) (fun _ => rfl))) ?_
        refine n_not rfl (by first|simp only[nf,Nat.beq]<;>rfl|rfl) rfl ?_
        refine AOps.nil ?_
        refine AWP.cond (by first|simp only[nf,Nat.beq]<;>rfl|rfl) (fun hc3 => ?_) (fun hc3 => ?_)
        · try simp only [nh] at hc3
          exfalso
          simp at hc3
          omega
        · try simp only [nh] at hc3
          refine AWP.skip ?_
          refine AWP.region ?_
          refine n_move rfl (by first|simp only[nf,Nat.beq]<;>rfl|rfl) ?_
          first | refine n_iadd rfl (by first|simp only[nf,Nat.beq]<;>rfl|rfl) (by first|simp only[nf,Nat.beq]<;>rfl|rfl) rfl (by omega) (by omega) ?_ | refine n_ibin rfl (by first|simp only[nf,Nat.beq]<;>rfl|rfl) (by first|simp only[nf,Nat.beq]<;>rfl|rfl) rfl ?_
          refine n_assign rfl (by first|simp only[nf,Nat.beq]<;>rfl|rfl) ?_
          refine AOps.nil ?_
          refine ⟨j + 1, [.box (spz (t.nth j))], ⟨by omega, by omega⟩, ?_, rfl, by omega⟩
          (repeat (first | exact FLe.empty _ | refine FLe.put ?_ ?_)) <;> first | (simp only [nf, Nat.beq]; done) | rfl | ((try simp only [nf, Nat.beq]); first | rfl | (simp only [List.length_map]; done) | (congr 2; omega; done))
      · try simp only [nh] at hc2
        refine AWP.exit ?_
        refine AWP.seq ?_
        refine AWP.region ?_
        refine n_move rfl (by first|simp only[nf,Nat.beq]<;>rfl|rfl) ?_
        refine n_move rfl (by first|simp only[nf,Nat.beq]<;>rfl|rfl) ?_
        refine n_bsSlice (q := t.lb x * 4) (m := t.l.length - t.lb x) rfl Try.underlying186 ti200 (by first|simp only[nf,Nat.beq]<;>rfl|rfl) SB.none (SB.some (k := t.lb x) (by first|simp only[nf,Nat.beq]<;>rfl|rfl) rfl) (.inr (by omega)) (by omega) (by omega) rfl ?_
        refine n_bsClear (zs := z4) (S' := [.box (flat (t.l.take (t.lb x)) ++ zer (t.l.length - t.lb x))]) rfl Try.underlying186 ei200 (by first|simp only[nf,Nat.beq]<;>rfl|rfl) (by omega) rfl (by rw [hfl]; omega) rfl (by simp only [nf] <;> rfl) (by show [Ob.box (splice _ _ _)] = _; rw [cut_cells (by omega)]) ?_
        refine AOps.nil ?_
        refine AWP.seq ?_
        refine AWP.region ?_
        refine n_move rfl (by first|simp only[nf,Nat.beq]<;>rfl|rfl) ?_
        refine n_move rfl (by first|simp only[nf,Nat.beq]<;>rfl|rfl) ?_
        refine n_bsSlice (q := 0) (m := t.lb x) rfl Try.underlying186 ti200 (by first|simp only[nf,Nat.beq]<;>rfl|rfl) (SB.some (k := t.lb x) (by first|simp only[nf,Nat.beq]<;>rfl|rfl) rfl) SB.none (.inl rfl) (by omega) (by omega) (by omega) ?_
        refine n_assign rfl (by first|simp only[nf,Nat.beq]<;>rfl|rfl) ?_
        refine AOps.nil ?_
        refine AWP.ret ?_
        refine fin_boxBs (.cons (rv_tmp (by first|simp only[nf,Nat.beq]<;>rfl|rfl)) .nil) (by first|simp only[nf,Nat.beq]<;>rfl|rfl) ?_ rfl ?_
        · first | rfl | exact hk.symm
        · first | exact renAll_lf (cut_lf _ _) | (rw [← cut_whole hk]; exact renAll_lf (flat_lf _))

theorem del0 (x : Int) : Does Try.prog 279 [.sl none [] .ro, (.fn (.func 280) [] [.rp [vi x]])] [] (.sl none [] .ro) [] := by
  refine Does.of_body (rvs := [.tmp 4]) Try.func279 rfl rfl rfl rfl ?_
  have hg0 : (⟨[], 0⟩ : Tb).good = true := by unfold Tb.good; decide
  have hfn := ifn ⟨[], 0⟩ x hg0
  have hc := (lb_cut hg0 x).1
  have hc0 : (⟨[], 0⟩ : Tb).lb x = 0 := Nat.le_zero.1 hc
  rw [if_pos (by rw [hc0]; rfl)] at hfn
  simp only [List.map_nil] at hfn
  refine AWP.seq ?_
  refine AWP.region ?_
  refine n_assign rfl (by first|simp only[nf,Nat.beq]<;>rfl|rfl) ?_
  refine AOps.nil ?_
  refine AWP.seq ?_
  refine AWP.region ?_
  refine n_move rfl (by first|simp only[nf,Nat.beq]<;>rfl|rfl) ?_
  refine n_move rfl (by first|simp only[nf,Nat.beq]<;>rfl|rfl) ?_
  refine n_call0B rfl cf287 rfl (Eq.trans (by simp only [nl] <;> rfl) (by first|simp only[nf,Nat.beq]<;>rfl|rfl)) (by repeat (first | exact .nil | refine .cons ?_ ?_ | exact ren_ints | exact .lf (.val _) | exact .lf (lf_ints (.inl rfl)) | exact .bp ⟨rfl, rfl⟩ | exact .bp (.inl ⟨rfl, rfl⟩) | exact .bp (.inr ⟨rfl, rfl⟩) | exact ren_nil0 | exact .lf (lf_fnrp (lf_cons (.val _) lf_nil)) | exact .lf (.rp (lf_cons (.val _) lf_nil)) | exact .bs ⟨rfl, rfl⟩ | exact .lf (D.flat_lf rfl) | exact ren_map (f := spz) (fun _ => rfl) | exact .lf (lf_tz _) | exact ren_tz | exact .lf (.fn (fun d h => by cases h) (fun d h => by cases h)) | exact .lf (lf_fnrp (lf_rp1 (f := spz) (fun _ => rfl))) | exact .ro (by intro x hx; simp only [List.mem_cons, List.not_mem_nil, or_false] at hx; rcases hx with rfl | rfl <;> exact flats_lf rfl))) (hfn) (by first | exact .val _ | exact lf_ints (.inl rfl) | exact lf_ints (.inr rfl) | exact .any | exact lf_nil0 | exact lf_fnrp (lf_cons (.val _) lf_nil) | exact D.flat_lf rfl | exact lf_map (f := spz) (fun _ => rfl) (.inl rfl) | exact lf_tz _ | exact .tup (lf_cons (lf_tz _) (lf_cons (.val _) lf_nil)) | exact lf_fnrp (lf_rp1 (f := spz) (fun _ => rfl))) ?_
  refine n_assign rfl (by first|simp only[nf,Nat.beq]<;>rfl|rfl) ?_
  refine AOps.nil ?_
  refine AWP.seq ?_
  refine AWP.seq ?_
  refine AWP.region ?_
  refine n_move rfl (by first|simp only[nf,Nat.beq]<;>rfl|rfl) ?_
  refine n_ibin rfl (by first|simp only[nf,Nat.beq]<;>rfl|rfl) (by first|simp only[nf,Nat.beq]<;>rfl|rfl) rfl ?_
  refine AOps.nil ?_
  refine AWP.cond_true (by first|simp only[nf,Nat.beq]<;>rfl|rfl) ?_
  refine AWP.seq ?_
  refine AWP.region ?_
  refine n_move rfl (by first|simp only[nf,Nat.beq]<;>rfl|rfl) ?_
  refine n_assign rfl (by first|simp only[nf,Nat.beq]<;>rfl|rfl) ?_
  refine AOps.nil ?_
  refine AWP.ret ?_
  refine fin_pure (.cons (rv_tmp (by first|simp only[nf,Nat.beq]<;>rfl|rfl)) .nil) (by first|simp only[nf,Nat.beq]<;>rfl|rfl) ?_
  exact .ro (fun x h => by cases h)

set_option maxHeartbeats 2000000 in
theorem l_cut1 (t : Tb) (x : Int) (hl : t.l.length ≤ 1048576) (h0 : 0 < t.may.l.length) : Does Try.prog 245 [tz t, vi x] [] (.tup [tz (t.may.cutT x), vi (t.may.cutE x)]) [] := by
  refine Does.of_body (rvs := [.cell 4 188, .tmp 5]) Try.func245 rfl rfl rfl rfl ?_
  have hml := may_len (t := t)
  have hm := l_may t hl
  have hg := may_good t
  obtain ⟨u, hu⟩ : ∃ u, u = t.may := ⟨_, rfl⟩
  rw [← hu] at hm hg hml
  have hgn := good_num hg
  have hbg := l_begin u (by omega)
  rw [← hu] at h0
  have hcb := l_cloneB u h0 (by omega)
  have hdl := del u x hg h0
  refine AWP.seq ?_
  refine AWP.region ?_
  refine n_box rfl (by first|simp only[nf,Nat.beq]<;>rfl|rfl) rfl rfl (by first|simp only[nf,Nat.beq]<;>rfl|rfl) (by first|simp only[nf,Nat.beq]<;>rfl|rfl) ?_
  refine n_box rfl (by first|simp only[nf,Nat.beq]<;>rfl|rfl) rfl rfl (by first|simp only[nf,Nat.beq]<;>rfl|rfl) (by first|simp only[nf,Nat.beq]<;>rfl|rfl) ?_
  refine n_alloc rfl zi188 rfl (by first|simp only[nf,Nat.beq]<;>rfl|rfl) (by first|simp only[nf,Nat.beq]<;>rfl|rfl) ?_
  refine n_assign rfl (by first|simp only[nf,Nat.beq]<;>rfl|rfl) ?_
  refine AOps.nil ?_
  refine AWP.seq ?_
  refine AWP.region ?_
  refine n_load rfl ti188 (by first|simp only[nf,Nat.beq]<;>rfl|rfl) (by first|simp only[nf,Nat.beq]<;>rfl|rfl) rfl (by first|simp only[nf,Nat.beq]<;>rfl|rfl) ?_
  refine n_call0B rfl cf226 rfl (Eq.trans (by simp only [nl] <;> rfl) (by first|simp only[nf,Nat.beq]<;>rfl|rfl)) (by repeat (first | exact .nil | refine .cons ?_ ?_ | exact ren_ints | exact .lf (.val _) | exact .lf (lf_ints (.inl rfl)) | exact .bp ⟨rfl, rfl⟩ | exact .bp (.inl ⟨rfl, rfl⟩) | exact .bp (.inr ⟨rfl, rfl⟩) | exact ren_nil0 | exact .lf (lf_fnrp (lf_cons (.val _) lf_nil)) | exact .lf (.rp (lf_cons (.val _) lf_nil)) | exact .bs ⟨rfl, rfl⟩ | exact .lf (D.flat_lf rfl) | exact ren_map (f := spz) (fun _ => rfl) | exact .lf (lf_tz _) | exact ren_tz | exact .lf (.fn (fun d h => by cases h) (fun d h => by cases h)) | exact .lf (lf_fnrp (lf_rp1 (f := spz) (fun _ => rfl))) | exact .ro (by intro x hx; simp only [List.mem_cons, List.not_mem_nil, or_false] at hx; rcases hx with rfl | rfl <;> exact flats_lf rfl))) (hm) (by first | exact .val _ | exact lf_ints (.inl rfl) | exact lf_ints (.inr rfl) | exact .any | exact lf_nil0 | exact lf_fnrp (lf_cons (.val _) lf_nil) | exact D.flat_lf rfl | exact lf_map (f := spz) (fun _ => rfl) (.inl rfl) | exact lf_tz _ | exact .tup (lf_cons (lf_tz _) (lf_cons (.val _) lf_nil)) | exact lf_fnrp (lf_rp1 (f := spz) (fun _ => rfl))) ?_
  refine n_callNewR (r' := .agg [.bs 3 0 u.l.length, vi u.n]) rfl cf229 rfl (Eq.trans (by simp only [nl] <;> rfl) (by first|simp only[nf,Nat.beq]<;>rfl|rfl)) (by repeat (first | exact .nil | refine .cons ?_ ?_ | exact ren_ints | exact .lf (.val _) | exact .lf (lf_ints (.inl rfl)) | exact .bp ⟨rfl, rfl⟩ | exact .bp (.inl ⟨rfl, rfl⟩) | exact .bp (.inr ⟨rfl, rfl⟩) | exact ren_nil0 | exact .lf (lf_fnrp (lf_cons (.val _) lf_nil)) | exact .lf (.rp (lf_cons (.val _) lf_nil)) | exact .bs ⟨rfl, rfl⟩ | exact .lf (D.flat_lf rfl) | exact ren_map (f := spz) (fun _ => rfl) | exact .lf (lf_tz _) | exact ren_tz | exact .lf (.fn (fun d h => by cases h) (fun d h => by cases h)) | exact .lf (lf_fnrp (lf_rp1 (f := spz) (fun _ => rfl))) | exact .ro (by intro x hx; simp only [List.mem_cons, List.not_mem_nil, or_false] at hx; rcases hx with rfl | rfl <;> exact flats_lf rfl))) (hcb) (flat_lf u.l) rfl (by exact .agg rfl (RenAll.get (.cons (.bs ⟨rfl, rfl⟩) (.cons (.lf (.val _)) .nil)))) (by first|simp only[nf,Nat.beq]<;>rfl|rfl) ?_
  refine n_alloc rfl zi188 rfl (by first|simp only[nf,Nat.beq]<;>rfl|rfl) (by first|simp only[nf,Nat.beq]<;>rfl|rfl) ?_
  refine n_store ti188 (by first|simp only[nf,Nat.beq]<;>rfl|rfl) rfl (by first|simp only[nf,Nat.beq]<;>rfl|rfl) rfl (by first|simp only[nf,Nat.beq]<;>rfl|rfl) rfl rfl rfl (by first|simp only[nf,Nat.beq]<;>rfl|rfl) ?_
  refine AOps.nil ?_
  refine AWP.seq ?_
  refine AWP.seq ?_
  refine AWP.anyStill (by kernel_rfl) (by kernel_rfl) ?_
  refine Walk.still (rs := [3]) (by rfl) (by first|simp only[nf,Nat.beq]<;>rfl|rfl) (fun base => by
      refine n_load rfl ti2 (by first|simp only[nf,Nat.beq]<;>rfl|rfl) (by first|simp only[nf,Nat.beq]<;>rfl|rfl) rfl (by first|simp only[nf,Nat.beq]<;>rfl|rfl) ?_
      exact AOps.nil ⟨rfl, rfl, rfl⟩) ?_
  refine Walk.still (rs := [6]) (by rfl) (by first|simp only[nf,Nat.beq]<;>rfl|rfl) (fun base => by
      refine n_load rfl ti188 (by first|simp only[nf,Nat.beq]<;>rfl|rfl) (by first|simp only[nf,Nat.beq]<;>rfl|rfl) rfl (by first|simp only[nf,Nat.beq]<;>rfl|rfl) ?_
      exact AOps.nil ⟨rfl, rfl, rfl⟩) ?_
  refine Walk.still (rs := [11]) (by rfl) (by first|simp only[nf,Nat.beq]<;>rfl|rfl) (fun base => by
      refine n_callPeek (l0 := 3) rfl cf246 rfl (Eq.trans (by simp only [nl] <;> rfl) (by first|simp only[nf,Nat.beq]<;>rfl|rfl)) rfl (by exact .cons (peek_two (peek_sp rfl) (.ren (.lf (.val _)))) .nil) (hbg) rfl ?_
      exact AOps.nil ⟨rfl, rfl, rfl⟩) ?_
  refine Walk.still (rs := [10, 12]) (by rfl) (by first|simp only[nf,Nat.beq]<;>rfl|rfl) (fun base => by
      refine n_ibin rfl (by first|simp only[nf,Nat.beq]<;>rfl|rfl) (by first|simp only[nf,Nat.beq]<;>rfl|rfl) rfl ?_
      exact AOps.nil ⟨rfl, rfl, rfl⟩) ?_
  refine Walk.still (rs := [13]) (by rfl) (by first|simp only[nf,Nat.beq]<;>rfl|rfl) (fun base => by
      refine n_move rfl (by first|simp only[nf,Nat.beq]<;>rfl|rfl) ?_
      exact AOps.nil ⟨rfl, rfl, rfl⟩) ?_
  refine Walk.name (u := 14) (fun z => .val (.bool z)) (by first|simp only[nf,Nat.beq]<;>rfl|rfl) (fun b14 hb14 => ?_)
  refine Walk.still (rs := [3, 14]) (by rfl) (by first|simp only[nf,Nat.beq]<;>rfl|rfl) (fun base => by
      refine n_soft (u := 14) (E := .val (.bool b14)) (!b14) rfl rfl rfl (by first|simp only[nf,Nat.beq]<;>rfl|rfl) (by cases b14 <;> first | (intro _; rfl) | (intro h; exact absurd h (by decide))) (by cases b14 <;> first | (intro h; exact absurd h (by decide)) | (intro _; exact ⟨_, rfl, by first | (intro h; cases h; done) | decide | simp⟩)) (fun h => by
          cases b14 with
          | true => exact absurd h (by first | decide | simp)
          | false =>
            refine n_load rfl ti2 (by first|simp only[nf,Nat.beq]<;>rfl|rfl) (by first|simp only[nf,Nat.beq]<;>rfl|rfl) rfl (by first|simp only[nf,Nat.beq]<;>rfl|rfl) ?_
            exact AOps.nil ⟨rfl, rfl, rfl⟩) (AOps.nil ⟨rfl, rfl, rfl⟩)) ?_
  refine Walk.still (rs := [6, 14]) (by rfl) (by first|simp only[nf,Nat.beq]<;>rfl|rfl) (fun base => by
      refine n_soft (u := 14) (E := .val (.bool b14)) (!b14) rfl rfl rfl (by first|simp only[nf,Nat.beq]<;>rfl|rfl) (by cases b14 <;> first | (intro _; rfl) | (intro h; exact absurd h (by decide))) (by cases b14 <;> first | (intro h; exact absurd h (by decide)) | (intro _; exact ⟨_, rfl, by first | (intro h; cases h; done) | decide | simp⟩)) (fun h => by
          cases b14 with
          | true => exact absurd h (by first | decide | simp)
          | false =>
            refine n_fieldAddr rfl fd188_1 ti2 rfl (by first|simp only[nf,Nat.beq]<;>rfl|rfl) rfl (by first|simp only[nf,Nat.beq]<;>rfl|rfl) ?_
            exact AOps.nil ⟨rfl, rfl, rfl⟩) (AOps.nil ⟨rfl, rfl, rfl⟩)) ?_
  refine Walk.still (rs := [16, 14]) (by rfl) (by first|simp only[nf,Nat.beq]<;>rfl|rfl) (fun base => by
      refine n_soft (u := 14) (E := .val (.bool b14)) (!b14) rfl rfl rfl (by first|simp only[nf,Nat.beq]<;>rfl|rfl) (by cases b14 <;> first | (intro _; rfl) | (intro h; exact absurd h (by decide))) (by cases b14 <;> first | (intro h; exact absurd h (by decide)) | (intro _; exact ⟨_, rfl, by first | (intro h; cases h; done) | decide | simp⟩)) (fun h => by
          cases b14 with
          | true => exact absurd h (by first | decide | simp)
          | false =>
            refine n_load rfl ti2 (by first|simp only[nf,Nat.beq]<;>rfl|rfl) (by first|simp only[nf,Nat.beq]<;>rfl|rfl) rfl (by first|simp only[nf,Nat.beq]<;>rfl|rfl) ?_
            exact AOps.nil ⟨rfl, rfl, rfl⟩) (AOps.nil ⟨rfl, rfl, rfl⟩)) ?_
  refine Walk.still (rs := [15, 17, 14]) (by rfl) (by first|simp only[nf,Nat.beq]<;>rfl|rfl) (fun base => by
      refine n_soft (u := 14) (E := .val (.bool b14)) (!b14) rfl rfl rfl (by first|simp only[nf,Nat.beq]<;>rfl|rfl) (by cases b14 <;> first | (intro _; rfl) | (intro h; exact absurd h (by decide))) (by cases b14 <;> first | (intro h; exact absurd h (by decide)) | (intro _; exact ⟨_, rfl, by first | (intro h; cases h; done) | decide | simp⟩)) (fun h => by
          cases b14 with
          | true => exact absurd h (by first | decide | simp)
          | false =>
            refine n_ibin rfl (by first|simp only[nf,Nat.beq]<;>rfl|rfl) (by first|simp only[nf,Nat.beq]<;>rfl|rfl) rfl ?_
            exact AOps.nil ⟨rfl, rfl, rfl⟩) (AOps.nil ⟨rfl, rfl, rfl⟩)) ?_
  refine Walk.still (rs := [14, 18]) (by rfl) (by first|simp only[nf,Nat.beq]<;>rfl|rfl) (fun base => by
      refine n_pick_or rfl (by first|simp only[nf,Nat.beq]<;>rfl|rfl) (fun h => by cases b14 with | true => exact absurd h (by decide) | false => exact (by first|simp only[nf,Nat.beq]<;>rfl|rfl)) ?_
      exact AOps.nil ⟨rfl, rfl, rfl⟩) ?_
  subst hb14
  refine Walk.done ?_
  refine AWP.cond (by first|simp only[nf,Nat.beq]<;>rfl|rfl) (fun hc1 => ?_) (fun hc1 => ?_)
  · try simp only [nh] at hc1
    have hz : u.cutE x = 1 ∧ u.cutT x = u := by have hh : x < u.start ∨ x > u.n := by { first | (simp at hc1; omega) | (simp at hc1; exact hc1) }; unfold cutE cutT; rw [if_pos hh, if_pos hh]; exact ⟨rfl, rfl⟩
    refine AWP.seq ?_
    refine AWP.freezeBx (j := 3) (j' := 4) (i := 0) (n := u.l.length) (sz := 4) (xs := u.l.map spz) (b := []) (S' := [.box [(.sl none (t.l.map spz) .ro), vi t.n], .box [vi x], .box [.sl (some true) [] .full, vi 0], .lent, .box [(.sl none (u.l.map spz) .ro), vi u.n]]) rfl rfl rfl rfl (by simp) (by simp) sp4 (flat_one _) rfl ?_
    refine AWP.region ?_
    refine n_load rfl ti188 (by first|simp only[nf,Nat.beq]<;>rfl|rfl) (by first|simp only[nf,Nat.beq]<;>rfl|rfl) rfl (by first|simp only[nf,Nat.beq]<;>rfl|rfl) ?_
    refine n_store ti188 (by first|simp only[nf,Nat.beq]<;>rfl|rfl) rfl (by first|simp only[nf,Nat.beq]<;>rfl|rfl) rfl (by first|simp only[nf,Nat.beq]<;>rfl|rfl) rfl rfl rfl (by first|simp only[nf,Nat.beq]<;>rfl|rfl) ?_
    refine n_assign rfl (by first|simp only[nf,Nat.beq]<;>rfl|rfl) ?_
    refine AOps.nil ?_
    refine AWP.ret ?_
    refine fin_pure (.cons (rv_cell ti188 (by first|simp only[nf,Nat.beq]<;>rfl|rfl) (by first|simp only[nf,Nat.beq]<;>rfl|rfl) rfl (by first|simp only[nf,Nat.beq]<;>rfl|rfl)) (.cons (rv_tmp (by first|simp only[nf,Nat.beq]<;>rfl|rfl)) .nil)) (by first|simp only[nf,Nat.beq]<;>rfl|rfl) ?_
    rw [← hu, hz.1, hz.2]; exact .tup rfl (RenAll.get (.cons (by first | exact ren_tz | exact .lf (lf_tz _)) (.cons (.lf (.val _)) .nil)))
  · try simp only [nh] at hc1
    have hh : ¬ (x < u.start ∨ x > u.n) := by simp at hc1; omega
    have hz : u.cutE x = 0 ∧ u.cutT x = ⟨u.l.take (u.lb x), x⟩ := by unfold cutE cutT; rw [if_neg hh, if_neg hh]; exact ⟨rfl, rfl⟩
    refine AWP.skip ?_
    refine AWP.seq ?_
    refine AWP.region ?_
    refine n_load rfl ti2 (by first|simp only[nf,Nat.beq]<;>rfl|rfl) (by first|simp only[nf,Nat.beq]<;>rfl|rfl) rfl (by first|simp only[nf,Nat.beq]<;>rfl|rfl) ?_
    refine n_fieldAddr rfl fd188_1 ti2 rfl (by first|simp only[nf,Nat.beq]<;>rfl|rfl) rfl (by first|simp only[nf,Nat.beq]<;>rfl|rfl) ?_
    refine n_store ti2 (by first|simp only[nf,Nat.beq]<;>rfl|rfl) rfl (by first|simp only[nf,Nat.beq]<;>rfl|rfl) rfl (by first|simp only[nf,Nat.beq]<;>rfl|rfl) rfl rfl rfl (by first|simp only[nf,Nat.beq]<;>rfl|rfl) ?_
    refine AOps.nil ?_
    refine AWP.seq ?_
    refine AWP.freeze (t := 3) (S' := [.box [(.sl none (t.l.map spz) .ro), vi t.n], .lent, .box [.sl (some true) [] .full, vi 0], .box (flat u.l), .box [.bs 3 0 u.l.length, vi x]]) (by first|simp only[nf,Nat.beq]<;>rfl|rfl) rfl rfl rfl ?_
    refine AWP.region ?_
    refine n_fieldAddr rfl fd188_0 ti186 rfl (by first|simp only[nf,Nat.beq]<;>rfl|rfl) rfl (by first|simp only[nf,Nat.beq]<;>rfl|rfl) ?_
    refine n_load rfl ti186 (by first|simp only[nf,Nat.beq]<;>rfl|rfl) (by first|simp only[nf,Nat.beq]<;>rfl|rfl) rfl (by first|simp only[nf,Nat.beq]<;>rfl|rfl) ?_
    refine n_makeFunc rfl (Eq.trans (by simp only [nl] <;> rfl) (by first|simp only[nf,Nat.beq]<;>rfl|rfl)) (Eq.trans (by simp only [nl] <;> rfl) (by first|simp only[nf,Nat.beq]<;>rfl|rfl)) ?_
    refine n_callBoxBs (l0 := 3) rfl cf279 rfl (Eq.trans (by simp only [nl] <;> rfl) (by first|simp only[nf,Nat.beq]<;>rfl|rfl)) (by repeat (first | exact .nil | refine .cons ?_ ?_ | exact ren_ints | exact .lf (.val _) | exact .lf (lf_ints (.inl rfl)) | exact .bp ⟨rfl, rfl⟩ | exact .bp (.inl ⟨rfl, rfl⟩) | exact .bp (.inr ⟨rfl, rfl⟩) | exact ren_nil0 | exact .lf (lf_fnrp (lf_cons (.val _) lf_nil)) | exact .lf (.rp (lf_cons (.val _) lf_nil)) | exact .bs ⟨rfl, rfl⟩ | exact .lf (D.flat_lf rfl) | exact ren_map (f := spz) (fun _ => rfl) | exact .lf (lf_tz _) | exact ren_tz | exact .lf (.fn (fun d h => by cases h) (fun d h => by cases h)) | exact .lf (lf_fnrp (lf_rp1 (f := spz) (fun _ => rfl))) | exact .ro (by intro x hx; simp only [List.mem_cons, List.not_mem_nil, or_false] at hx; rcases hx with rfl | rfl <;> exact flats_lf rfl))) rfl (by exact renAll_lf (flat_lf _)) (hdl) (by exact cut_lf _ _) (by first|simp only[nf,Nat.beq]<;>rfl|rfl) ?_
    refine n_fieldAddr rfl fd188_0 ti186 rfl (by first|simp only[nf,Nat.beq]<;>rfl|rfl) rfl (by first|simp only[nf,Nat.beq]<;>rfl|rfl) ?_
    refine n_store ti186 (by first|simp only[nf,Nat.beq]<;>rfl|rfl) rfl (by first|simp only[nf,Nat.beq]<;>rfl|rfl) rfl (by first|simp only[nf,Nat.beq]<;>rfl|rfl) rfl rfl rfl (by first|simp only[nf,Nat.beq]<;>rfl|rfl) ?_
    refine AOps.nil ?_
    refine AWP.seq ?_
    refine AWP.freezeBx (j := 3) (j' := 4) (i := 0) (n := u.lb x) (sz := 4) (xs := (u.l.take (u.lb x)).map spz) (b := zer (u.l.length - u.lb x)) (S' := [.box [(.sl none (t.l.map spz) .ro), vi t.n], .lent, .box [.sl (some true) [] .full, vi 0], .lent, .box [.sl none ((u.l.take (u.lb x)).map spz) .ro, vi x]]) rfl rfl rfl rfl rfl (by rw [List.length_map, List.length_take]; exact Nat.min_eq_left (lb_cut hg x).1) sp4 (flat_one _) rfl ?_
    refine AWP.region ?_
    refine n_load rfl ti188 (by first|simp only[nf,Nat.beq]<;>rfl|rfl) (by first|simp only[nf,Nat.beq]<;>rfl|rfl) rfl (by first|simp only[nf,Nat.beq]<;>rfl|rfl) ?_
    refine n_store ti188 (by first|simp only[nf,Nat.beq]<;>rfl|rfl) rfl (by first|simp only[nf,Nat.beq]<;>rfl|rfl) rfl (by first|simp only[nf,Nat.beq]<;>rfl|rfl) rfl rfl rfl (by first|simp only[nf,Nat.beq]<;>rfl|rfl) ?_
    refine n_assign rfl (by first|simp only[nf,Nat.beq]<;>rfl|rfl) ?_
    refine AOps.nil ?_
    refine AWP.ret ?_
    refine fin_pure (.cons (rv_cell ti188 (by first|simp only[nf,Nat.beq]<;>rfl|rfl) (by first|simp only[nf,Nat.beq]<;>rfl|rfl) rfl (by first|simp only[nf,Nat.beq]<;>rfl|rfl)) (.cons (rv_tmp (by first|simp only[nf,Nat.beq]<;>rfl|rfl)) .nil)) (by first|simp only[nf,Nat.beq]<;>rfl|rfl) ?_
    rw [← hu, hz.1, hz.2]; exact .tup rfl (RenAll.get (.cons (by first | exact ren_tz | exact .lf (lf_tz _)) (.cons (.lf (.val _)) .nil)))

set_option maxHeartbeats 2000000 in
theorem l_cut0 (t : Tb) (x : Int) (hl : t.l.length ≤ 1048576) (h0 : t.may.l = []) : Does Try.prog 245 [tz t, vi x] [] (.tup [tz (t.may.cutT x), vi (t.may.cutE x)]) [] := by
  refine Does.of_body (rvs := [.cell 4 188, .tmp 5]) Try.func245 rfl rfl rfl rfl ?_
  have hml := may_len (t := t)
  have hm := l_may t hl
  have hg := may_good t
  obtain ⟨u, hu⟩ : ∃ u, u = t.may := ⟨_, rfl⟩
  rw [← hu] at hm hg hml
  have hgn := good_num hg
  have hbg := l_begin u (by omega)
  rw [← hu] at h0
  have hcb := l_cloneRo u (by omega)
  have hdl := del0 x
  have htk : u.l.take (u.lb x) = [] := by rw [h0]; simp
  refine AWP.seq ?_
  refine AWP.region ?_
  refine n_box rfl (by first|simp only[nf,Nat.beq]<;>rfl|rfl) rfl rfl (by first|simp only[nf,Nat.beq]<;>rfl|rfl) (by first|simp only[nf,Nat.beq]<;>rfl|rfl) ?_
  refine n_box rfl (by first|simp only[nf,Nat.beq]<;>rfl|rfl) rfl rfl (by first|simp only[nf,Nat.beq]<;>rfl|rfl) (by first|simp only[nf,Nat.beq]<;>rfl|rfl) ?_
  refine n_alloc rfl zi188 rfl (by first|simp only[nf,Nat.beq]<;>rfl|rfl) (by first|simp only[nf,Nat.beq]<;>rfl|rfl) ?_
  refine n_assign rfl (by first|simp only[nf,Nat.beq]<;>rfl|rfl) ?_
  refine AOps.nil ?_
  refine AWP.seq ?_
  refine AWP.region ?_
  refine n_load rfl ti188 (by first|simp only[nf,Nat.beq]<;>rfl|rfl) (by first|simp only[nf,Nat.beq]<;>rfl|rfl) rfl (by first|simp only[nf,Nat.beq]<;>rfl|rfl) ?_
  refine n_call0B rfl cf226 rfl (Eq.trans (by simp only [nl] <;> rfl) (by first|simp only[nf,Nat.beq]<;>rfl|rfl)) (by repeat (first | exact .nil | refine .cons ?_ ?_ | exact ren_ints | exact .lf (.val _) | exact .lf (lf_ints (.inl rfl)) | exact .bp ⟨rfl, rfl⟩ | exact .bp (.inl ⟨rfl, rfl⟩) | exact .bp (.inr ⟨rfl, rfl⟩) | exact ren_nil0 | exact .lf (lf_fnrp (lf_cons (.val _) lf_nil)) | exact .lf (.rp (lf_cons (.val _) lf_nil)) | exact .bs ⟨rfl, rfl⟩ | exact .lf (D.flat_lf rfl) | exact ren_map (f := spz) (fun _ => rfl) | exact .lf (lf_tz _) | exact ren_tz | exact .lf (.fn (fun d h => by cases h) (fun d h => by cases h)) | exact .lf (lf_fnrp (lf_rp1 (f := spz) (fun _ => rfl))) | exact .ro (by intro x hx; simp only [List.mem_cons, List.not_mem_nil, or_false] at hx; rcases hx with rfl | rfl <;> exact flats_lf rfl))) (hm) (by first | exact .val _ | exact lf_ints (.inl rfl) | exact lf_ints (.inr rfl) | exact .any | exact lf_nil0 | exact lf_fnrp (lf_cons (.val _) lf_nil) | exact D.flat_lf rfl | exact lf_map (f := spz) (fun _ => rfl) (.inl rfl) | exact lf_tz _ | exact .tup (lf_cons (lf_tz _) (lf_cons (.val _) lf_nil)) | exact lf_fnrp (lf_rp1 (f := spz) (fun _ => rfl))) ?_
  refine n_call0B rfl cf229 rfl (Eq.trans (by simp only [nl] <;> rfl) (by first|simp only[nf,Nat.beq]<;>rfl|rfl)) (by repeat (first | exact .nil | refine .cons ?_ ?_ | exact ren_ints | exact .lf (.val _) | exact .lf (lf_ints (.inl rfl)) | exact .bp ⟨rfl, rfl⟩ | exact .bp (.inl ⟨rfl, rfl⟩) | exact .bp (.inr ⟨rfl, rfl⟩) | exact ren_nil0 | exact .lf (lf_fnrp (lf_cons (.val _) lf_nil)) | exact .lf (.rp (lf_cons (.val _) lf_nil)) | exact .bs ⟨rfl, rfl⟩ | exact .lf (D.flat_lf rfl) | exact ren_map (f := spz) (fun _ => rfl) | exact .lf (lf_tz _) | exact ren_tz | exact .lf (.fn (fun d h => by cases h) (fun d h => by cases h)) | exact .lf (lf_fnrp (lf_rp1 (f := spz) (fun _ => rfl))) | exact .ro (by intro x hx; simp only [List.mem_cons, List.not_mem_nil, or_false] at hx; rcases hx with rfl | rfl <;> exact flats_lf rfl))) (hcb) (by first | exact .val _ | exact lf_ints (.inl rfl) | exact lf_ints (.inr rfl) | exact .any | exact lf_nil0 | exact lf_fnrp (lf_cons (.val _) lf_nil) | exact D.flat_lf rfl | exact lf_map (f := spz) (fun _ => rfl) (.inl rfl) | exact lf_tz _ | exact .tup (lf_cons (lf_tz _) (lf_cons (.val _) lf_nil)) | exact lf_fnrp (lf_rp1 (f := spz) (fun _ => rfl))) ?_
  refine n_alloc rfl zi188 rfl (by first|simp only[nf,Nat.beq]<;>rfl|rfl) (by first|simp only[nf,Nat.beq]<;>rfl|rfl) ?_
  refine n_store ti188 (by first|simp only[nf,Nat.beq]<;>rfl|rfl) rfl (by first|simp only[nf,Nat.beq]<;>rfl|rfl) rfl (by first|simp only[nf,Nat.beq]<;>rfl|rfl) rfl rfl rfl (by first|simp only[nf,Nat.beq]<;>rfl|rfl) ?_
  refine AOps.nil ?_
  refine AWP.seq ?_
  refine AWP.seq ?_
  refine AWP.anyStill (by kernel_rfl) (by kernel_rfl) ?_
  refine Walk.still (rs := [3]) (by rfl) (by first|simp only[nf,Nat.beq]<;>rfl|rfl) (fun base => by
      refine n_load rfl ti2 (by first|simp only[nf,Nat.beq]<;>rfl|rfl) (by first|simp only[nf,Nat.beq]<;>rfl|rfl) rfl (by first|simp only[nf,Nat.beq]<;>rfl|rfl) ?_
      exact AOps.nil ⟨rfl, rfl, rfl⟩) ?_
  refine Walk.still (rs := [6]) (by rfl) (by first|simp only[nf,Nat.beq]<;>rfl|rfl) (fun base => by
      refine n_load rfl ti188 (by first|simp only[nf,Nat.beq]<;>rfl|rfl) (by first|simp only[nf,Nat.beq]<;>rfl|rfl) rfl (by first|simp only[nf,Nat.beq]<;>rfl|rfl) ?_
      exact AOps.nil ⟨rfl, rfl, rfl⟩) ?_
  refine Walk.still (rs := [11]) (by rfl) (by first|simp only[nf,Nat.beq]<;>rfl|rfl) (fun base => by
      refine n_call0B rfl cf246 rfl (Eq.trans (by simp only [nl] <;> rfl) (by first|simp only[nf,Nat.beq]<;>rfl|rfl)) (by repeat (first | exact .nil | refine .cons ?_ ?_ | exact ren_ints | exact .lf (.val _) | exact .lf (lf_ints (.inl rfl)) | exact .bp ⟨rfl, rfl⟩ | exact .bp (.inl ⟨rfl, rfl⟩) | exact .bp (.inr ⟨rfl, rfl⟩) | exact ren_nil0 | exact .lf (lf_fnrp (lf_cons (.val _) lf_nil)) | exact .lf (.rp (lf_cons (.val _) lf_nil)) | exact .bs ⟨rfl, rfl⟩ | exact .lf (D.flat_lf rfl) | exact ren_map (f := spz) (fun _ => rfl) | exact .lf (lf_tz _) | exact ren_tz | exact .lf (.fn (fun d h => by cases h) (fun d h => by cases h)) | exact .lf (lf_fnrp (lf_rp1 (f := spz) (fun _ => rfl))) | exact .ro (by intro x hx; simp only [List.mem_cons, List.not_mem_nil, or_false] at hx; rcases hx with rfl | rfl <;> exact flats_lf rfl))) (hbg) (by first | exact .val _ | exact lf_ints (.inl rfl) | exact lf_ints (.inr rfl) | exact .any | exact lf_nil0 | exact lf_fnrp (lf_cons (.val _) lf_nil) | exact D.flat_lf rfl | exact lf_map (f := spz) (fun _ => rfl) (.inl rfl) | exact lf_tz _ | exact .tup (lf_cons (lf_tz _) (lf_cons (.val _) lf_nil)) | exact lf_fnrp (lf_rp1 (f := spz) (fun _ => rfl))) ?_
      exact AOps.nil ⟨rfl, rfl, rfl⟩) ?_
  refine Walk.still (rs := [10, 12]) (by rfl) (by first|simp only[nf,Nat.beq]<;>rfl|rfl) (fun base => by
      refine n_ibin rfl (by first|simp only[nf,Nat.beq]<;>rfl|rfl) (by first|simp only[nf,Nat.beq]<;>rfl|rfl) rfl ?_
      exact AOps.nil ⟨rfl, rfl, rfl⟩) ?_
  refine Walk.still (rs := [13]) (by rfl) (by first|simp only[nf,Nat.beq]<;>rfl|rfl) (fun base => by
      refine n_move rfl (by first|simp only[nf,Nat.beq]<;>rfl|rfl) ?_
      exact AOps.nil ⟨rfl, rfl, rfl⟩) ?_
  refine Walk.name (u := 14) (fun z => .val (.bool z)) (by first|simp only[nf,Nat.beq]<;>rfl|rfl) (fun b14 hb14 => ?_)
  refine Walk.still (rs := [3, 14]) (by rfl) (by first|simp only[nf,Nat.beq]<;>rfl|rfl) (fun base => by
      refine n_soft (u := 14) (E := .val (.bool b14)) (!b14) rfl rfl rfl (by first|simp only[nf,Nat.beq]<;>rfl|rfl) (by cases b14 <;> first | (intro _; rfl) | (intro h; exact absurd h (by decide))) (by cases b14 <;> first | (intro h; exact absurd h (by decide)) | (intro _; exact ⟨_, rfl, by first | (intro h; cases h; done) | decide | simp⟩)) (fun h => by
          cases b14 with
          | true => exact absurd h (by first | decide | simp)
          | false =>
            refine n_load rfl ti2 (by first|simp only[nf,Nat.beq]<;>rfl|rfl) (by first|simp only[nf,Nat.beq]<;>rfl|rfl) rfl (by first|simp only[nf,Nat.beq]<;>rfl|rfl) ?_
            exact AOps.nil ⟨rfl, rfl, rfl⟩) (AOps.nil ⟨rfl, rfl, rfl⟩)) ?_
  refine Walk.still (rs := [6, 14]) (by rfl) (by first|simp only[nf,Nat.beq]<;>rfl|rfl) (fun base => by
      refine n_soft (u := 14) (E := .val (.bool b14)) (!b14) rfl rfl rfl (by first|simp only[nf,Nat.beq]<;>rfl|rfl) (by cases b14 <;> first | (intro _; rfl) | (intro h; exact absurd h (by decide))) (by cases b14 <;> first | (intro h; exact absurd h (by decide)) | (intro _; exact ⟨_, rfl, by first | (intro h; cases h; done) | decide | simp⟩)) (fun h => by
          cases b14 with
          | true => exact absurd h (by first | decide | simp)
          | false =>
            refine n_fieldAddr rfl fd188_1 ti2 rfl (by first|simp only[nf,Nat.beq]<;>rfl|rfl) rfl (by first|simp only[nf,Nat.beq]<;>rfl|rfl) ?_
            exact AOps.nil ⟨rfl, rfl, rfl⟩) (AOps.nil ⟨rfl, rfl, rfl⟩)) ?_
  refine Walk.still (rs := [16, 14]) (by rfl) (by first|simp only[nf,Nat.beq]<;>rfl|rfl) (fun base => by
      refine n_soft (u := 14) (E := .val (.bool b14)) (!b14) rfl rfl rfl (by first|simp only[nf,Nat.beq]<;>rfl|rfl) (by cases b14 <;> first | (intro _; rfl) | (intro h; exact absurd h (by decide))) (by cases b14 <;> first | (intro h; exact absurd h (by decide)) | (intro _; exact ⟨_, rfl, by first | (intro h; cases h; done) | decide | simp⟩)) (fun h => by
          cases b14 with
          | true => exact absurd h (by first | decide | simp)
          | false =>
            refine n_load rfl ti2 (by first|simp only[nf,Nat.beq]<;>rfl|rfl) (by first|simp only[nf,Nat.beq]<;>rfl|rfl) rfl (by first|simp only[nf,Nat.beq]<;>rfl|rfl) ?_
            exact AOps.nil ⟨rfl, rfl, rfl⟩) (AOps.nil ⟨rfl, rfl, rfl⟩)) ?_
  refine Walk.still (rs := [15, 17, 14]) (by rfl) (by first|simp only[nf,Nat.beq]<;>rfl|rfl) (fun base => by
      refine n_soft (u := 14) (E := .val (.bool b14)) (!b14) rfl rfl rfl (by first|simp only[nf,Nat.beq]<;>rfl|rfl) (by cases b14 <;> first | (intro _; rfl) | (intro h; exact absurd h (by decide))) (by cases b14 <;> first | (intro h; exact absurd h (by decide)) | (intro _; exact ⟨_, rfl, by first | (intro h; cases h; done) | decide | simp⟩)) (fun h => by
          cases b14 with
          | true => exact absurd h (by first | decide | simp)
          | false =>
            refine n_ibin rfl (by first|simp only[nf,Nat.beq]<;>rfl|rfl) (by first|simp only[nf,Nat.beq]<;>rfl|rfl) rfl ?_
            exact AOps.nil ⟨rfl, rfl, rfl⟩) (AOps.nil ⟨rfl, rfl, rfl⟩)) ?_
  refine Walk.still (rs := [14, 18]) (by rfl) (by first|simp only[nf,Nat.beq]<;>rfl|rfl) (fun base => by
      refine n_pick_or rfl (by first|simp only[nf,Nat.beq]<;>rfl|rfl) (fun h => by cases b14 with | true => exact absurd h (by decide) | false => exact (by first|simp only[nf,Nat.beq]<;>rfl|rfl)) ?_
      exact AOps.nil ⟨rfl, rfl, rfl⟩) ?_
  subst hb14
  refine Walk.done ?_
  refine AWP.cond (by first|simp only[nf,Nat.beq]<;>rfl|rfl) (fun hc1 => ?_) (fun hc1 => ?_)
  · try simp only [nh] at hc1
    have hz : u.cutE x = 1 ∧ u.cutT x = u := by have hh : x < u.start ∨ x > u.n := by { first | (simp at hc1; omega) | (simp at hc1; exact hc1) }; unfold cutE cutT; rw [if_pos hh, if_pos hh]; exact ⟨rfl, rfl⟩
    refine AWP.seq ?_
    refine AWP.region ?_
    refine n_load rfl ti188 (by first|simp only[nf,Nat.beq]<;>rfl|rfl) (by first|simp only[nf,Nat.beq]<;>rfl|rfl) rfl (by first|simp only[nf,Nat.beq]<;>rfl|rfl) ?_
    refine n_store ti188 (by first|simp only[nf,Nat.beq]<;>rfl|rfl) rfl (by first|simp only[nf,Nat.beq]<;>rfl|rfl) rfl (by first|simp only[nf,Nat.beq]<;>rfl|rfl) rfl rfl rfl (by first|simp only[nf,Nat.beq]<;>rfl|rfl) ?_
    refine n_assign rfl (by first|simp only[nf,Nat.beq]<;>rfl|rfl) ?_
    refine AOps.nil ?_
    refine AWP.ret ?_
    refine fin_pure (.cons (rv_cell ti188 (by first|simp only[nf,Nat.beq]<;>rfl|rfl) (by first|simp only[nf,Nat.beq]<;>rfl|rfl) rfl (by first|simp only[nf,Nat.beq]<;>rfl|rfl)) (.cons (rv_tmp (by first|simp only[nf,Nat.beq]<;>rfl|rfl)) .nil)) (by first|simp only[nf,Nat.beq]<;>rfl|rfl) ?_
    rw [← hu, hz.1, hz.2]; (try rw [htk]); exact .tup rfl (RenAll.get (.cons (by first | exact ren_tz | exact ren_tz0 rfl | exact .lf (lf_tz _)) (.cons (.lf (.val _)) .nil)))
  · try simp only [nh] at hc1
    have hh : ¬ (x < u.start ∨ x > u.n) := by simp at hc1; omega
    have hz : u.cutE x = 0 ∧ u.cutT x = ⟨u.l.take (u.lb x), x⟩ := by unfold cutE cutT; rw [if_neg hh, if_neg hh]; exact ⟨rfl, rfl⟩
    refine AWP.skip ?_
    refine AWP.seq ?_
    refine AWP.region ?_
    refine n_load rfl ti2 (by first|simp only[nf,Nat.beq]<;>rfl|rfl) (by first|simp only[nf,Nat.beq]<;>rfl|rfl) rfl (by first|simp only[nf,Nat.beq]<;>rfl|rfl) ?_
    refine n_fieldAddr rfl fd188_1 ti2 rfl (by first|simp only[nf,Nat.beq]<;>rfl|rfl) rfl (by first|simp only[nf,Nat.beq]<;>rfl|rfl) ?_
    refine n_store ti2 (by first|simp only[nf,Nat.beq]<;>rfl|rfl) rfl (by first|simp only[nf,Nat.beq]<;>rfl|rfl) rfl (by first|simp only[nf,Nat.beq]<;>rfl|rfl) rfl rfl rfl (by first|simp only[nf,Nat.beq]<;>rfl|rfl) ?_
    refine AOps.nil ?_
    refine AWP.seq ?_
    refine AWP.freeze (t := 3) (S' := [.box [(.sl none (t.l.map spz) .ro), vi t.n], .lent, .box [.sl (some true) [] .full, vi 0], .box [(.sl none (u.l.map spz) .ro), vi x]]) (by first|simp only[nf,Nat.beq]<;>rfl|rfl) rfl rfl rfl ?_
    simp only [h0, List.map_nil]
    refine AWP.region ?_
    refine n_fieldAddr rfl fd188_0 ti186 rfl (by first|simp only[nf,Nat.beq]<;>rfl|rfl) rfl (by first|simp only[nf,Nat.beq]<;>rfl|rfl) ?_
    refine n_load rfl ti186 (by first|simp only[nf,Nat.beq]<;>rfl|rfl) (by first|simp only[nf,Nat.beq]<;>rfl|rfl) rfl (by first|simp only[nf,Nat.beq]<;>rfl|rfl) ?_
    refine n_makeFunc rfl (Eq.trans (by simp only [nl] <;> rfl) (by first|simp only[nf,Nat.beq]<;>rfl|rfl)) (Eq.trans (by simp only [nl] <;> rfl) (by first|simp only[nf,Nat.beq]<;>rfl|rfl)) ?_
    refine n_call0B rfl cf279 rfl (Eq.trans (by simp only [nl] <;> rfl) (by first|simp only[nf,Nat.beq]<;>rfl|rfl)) (by repeat (first | exact .nil | refine .cons ?_ ?_ | exact ren_ints | exact .lf (.val _) | exact .lf (lf_ints (.inl rfl)) | exact .bp ⟨rfl, rfl⟩ | exact .bp (.inl ⟨rfl, rfl⟩) | exact .bp (.inr ⟨rfl, rfl⟩) | exact ren_nil0 | exact .lf (lf_fnrp (lf_cons (.val _) lf_nil)) | exact .lf (.rp (lf_cons (.val _) lf_nil)) | exact .bs ⟨rfl, rfl⟩ | exact .lf (D.flat_lf rfl) | exact ren_map (f := spz) (fun _ => rfl) | exact .lf (lf_tz _) | exact ren_tz | exact .lf (.fn (fun d h => by cases h) (fun d h => by cases h)) | exact .lf (lf_fnrp (lf_rp1 (f := spz) (fun _ => rfl))) | exact .ro (by intro x hx; simp only [List.mem_cons, List.not_mem_nil, or_false] at hx; rcases hx with rfl | rfl <;> exact flats_lf rfl))) (hdl) (by first | exact .val _ | exact lf_ints (.inl rfl) | exact lf_ints (.inr rfl) | exact .any | exact lf_nil0 | exact lf_fnrp (lf_cons (.val _) lf_nil) | exact D.flat_lf rfl | exact lf_map (f := spz) (fun _ => rfl) (.inl rfl) | exact lf_tz _ | exact .tup (lf_cons (lf_tz _) (lf_cons (.val _) lf_nil)) | exact lf_fnrp (lf_rp1 (f := spz) (fun _ => rfl))) ?_
    refine n_fieldAddr rfl fd188_0 ti186 rfl (by first|simp only[nf,Nat.beq]<;>rfl|rfl) rfl (by first|simp only[nf,Nat.beq]<;>rfl|rfl) ?_
    refine n_store ti186 (by first|simp only[nf,Nat.beq]<;>rfl|rfl) rfl (by first|simp only[nf,Nat.beq]<;>rfl|rfl) rfl (by first|simp only[nf,Nat.beq]<;>rfl|rfl) rfl rfl rfl (by first|simp only[nf,Nat.beq]<;>rfl|rfl) ?_
    refine AOps.nil ?_
    refine AWP.seq ?_
    refine AWP.region ?_
    refine n_load rfl ti188 (by first|simp only[nf,Nat.beq]<;>rfl|rfl) (by first|simp only[nf,Nat.beq]<;>rfl|rfl) rfl (by first|simp only[nf,Nat.beq]<;>rfl|rfl) ?_
    refine n_store ti188 (by first|simp only[nf,Nat.beq]<;>rfl|rfl) rfl (by first|simp only[nf,Nat.beq]<;>rfl|rfl) rfl (by first|simp only[nf,Nat.beq]<;>rfl|rfl) rfl rfl rfl (by first|simp only[nf,Nat.beq]<;>rfl|rfl) ?_
    refine n_assign rfl (by first|simp only[nf,Nat.beq]<;>rfl|rfl) ?_
    refine AOps.nil ?_
    refine AWP.ret ?_
    refine fin_pure (.cons (rv_cell ti188 (by first|simp only[nf,Nat.beq]<;>rfl|rfl) (by first|simp only[nf,Nat.beq]<;>rfl|rfl) rfl (by first|simp only[nf,Nat.beq]<;>rfl|rfl)) (.cons (rv_tmp (by first|simp only[nf,Nat.beq]<;>rfl|rfl)) .nil)) (by first|simp only[nf,Nat.beq]<;>rfl|rfl) ?_
    rw [← hu, hz.1, hz.2]; (try rw [htk]); exact .tup rfl (RenAll.get (.cons (by first | exact ren_tz | exact ren_tz0 rfl | exact .lf (lf_tz _)) (.cons (.lf (.val _)) .nil)))

theorem l_cut (t : Tb) (x : Int) (hl : t.l.length ≤ 1048576) : Does Try.prog 245 [tz t, vi x] [] (.tup [tz (t.may.cutT x), vi (t.may.cutE x)]) [] := by
  rcases hq : t.may.l with _ | ⟨a, l⟩
  · exact l_cut0 t x hl hq
  · exact l_cut1 t x hl (by rw [hq]; simp)
end Go.Proofs.Ytanfmpkjcoolmaa.Ol
