/- The walks of package offset. -/
import Derived.Test.YtanfmpkjcoolmaaOfA
set_option linter.unusedVariables false
set_option linter.unusedSimpArgs false
namespace Go.Proofs.Ytanfmpkjcoolmaa.Of
open Go Go.Abs Go.Abs.Tb
attribute [local irreducible] AWP AOps Does

set_option maxHeartbeats 2000000 in
theorem l_find (t : Tb) (x : Int) (hg : t.good = true) : Does Try.prog 225 [tz t, vi x] [] (.tup [.agg (spz (if t.errF x ≠ 0 then (⟨0, 0, 0, 0⟩ : Sp) else t.nth (t.idx x))), vi (t.errF x)]) [] := by
  refine Does.of_body (rvs := [.cell 4 200, .tmp 5]) Try.func225 rfl rfl rfl rfl ?_
  have hgn := good_num hg
  have hsp := start_pos hg
  have hbg := l_begin t (by omega)
  refine AWP.seq ?_
  refine AWP.region ?_
  refine n_box rfl (by first|simp only[nf,Nat.beq]<;>rfl|rfl) rfl rfl (by first|simp only[nf,Nat.beq]<;>rfl|rfl) (by first|simp only[nf,Nat.beq]<;>rfl|rfl) ?_
  refine n_alloc rfl zi200 rfl (by first|simp only[nf,Nat.beq]<;>rfl|rfl) (by first|simp only[nf,Nat.beq]<;>rfl|rfl) ?_
  refine n_assign rfl (by first|simp only[nf,Nat.beq]<;>rfl|rfl) ?_
  refine AOps.nil ?_
  refine AWP.seq ?_
  refine AWP.block ?_
  refine AWP.seq ?_
  refine AWP.region ?_
  refine n_move rfl (by first|simp only[nf,Nat.beq]<;>rfl|rfl) ?_
  refine n_load rfl ti188 (by first|simp only[nf,Nat.beq]<;>rfl|rfl) (by first|simp only[nf,Nat.beq]<;>rfl|rfl) rfl (by first|simp only[nf,Nat.beq]<;>rfl|rfl) ?_
  refine n_call0B rfl cf246 rfl (Eq.trans (by simp only [nl] <;> rfl) (by first|simp only[nf,Nat.beq]<;>rfl|rfl)) (by repeat (first | exact .nil | refine .cons ?_ ?_ | exact ren_ints | exact .lf (.val _) | exact .lf (lf_ints (.inl rfl)) | exact .bp ⟨rfl, rfl⟩ | exact .bp (.inl ⟨rfl, rfl⟩) | exact .bp (.inr ⟨rfl, rfl⟩) | exact .lf (D.flat_lf rfl) | exact ren_map (f := spz) (fun _ => rfl) | exact .lf (lf_tz _) | exact ren_tz | exact .lf (.fn (fun d h => by cases h) (fun d h => by cases h)))) (hbg) (by first | exact .val _ | exact lf_ints (.inl rfl) | exact lf_ints (.inr rfl) | exact .any | exact D.flat_lf rfl | exact lf_map (f := spz) (fun _ => rfl) (.inl rfl) | exact lf_tz _ | exact .tup (lf_cons (lf_tz _) (lf_cons (.val _) lf_nil))) ?_
  refine n_ibin rfl (by first|simp only[nf,Nat.beq]<;>rfl|rfl) (by first|simp only[nf,Nat.beq]<;>rfl|rfl) rfl ?_
  refine n_assign rfl (by first|simp only[nf,Nat.beq]<;>rfl|rfl) ?_
  refine AOps.nil ?_
  refine AWP.cond (by first|simp only[nf,Nat.beq]<;>rfl|rfl) (fun hc1 => ?_) (fun hc1 => ?_)
  · try simp only [nh] at hc1
    have hz : t.errF x = 7 := by unfold errF; rw [if_pos hc1]
    refine AWP.seq ?_
    refine AWP.region ?_
    refine n_build rfl si200 (Eq.trans (by simp only [nl] <;> rfl) (by first|simp only[nf,Nat.beq]<;>rfl|rfl)) (Eq.trans (by simp only [nl] <;> rfl) (by first|simp only[nf,Nat.beq]<;>rfl|rfl)) rfl ?_
    refine n_store ti200 (by first|simp only[nf,Nat.beq]<;>rfl|rfl) rfl (by first|simp only[nf,Nat.beq]<;>rfl|rfl) rfl (by first|simp only[nf,Nat.beq]<;>rfl|rfl) rfl rfl rfl (by first|simp only[nf,Nat.beq]<;>rfl|rfl) ?_
    refine n_assign rfl (by first|simp only[nf,Nat.beq]<;>rfl|rfl) ?_
    refine AOps.nil ?_
    refine AWP.ret ?_
    refine fin_pure (.cons (rv_cell ti200 (by first|simp only[nf,Nat.beq]<;>rfl|rfl) (by first|simp only[nf,Nat.beq]<;>rfl|rfl) rfl (by first|simp only[nf,Nat.beq]<;>rfl|rfl)) (.cons (rv_tmp (by first|simp only[nf,Nat.beq]<;>rfl|rfl)) .nil)) (by first|simp only[nf,Nat.beq]<;>rfl|rfl) ?_
    rw [hz]; exact ren_flat rfl (by simp)
  · try simp only [nh] at hc1
    have hge := hc1
    refine AWP.seq ?_
    refine AWP.region ?_
    refine n_move rfl (by first|simp only[nf,Nat.beq]<;>rfl|rfl) ?_
    refine n_fieldAddr rfl fd188_1 ti2 rfl (by first|simp only[nf,Nat.beq]<;>rfl|rfl) rfl (by first|simp only[nf,Nat.beq]<;>rfl|rfl) ?_
    refine n_load rfl ti2 (by first|simp only[nf,Nat.beq]<;>rfl|rfl) (by first|simp only[nf,Nat.beq]<;>rfl|rfl) rfl (by first|simp only[nf,Nat.beq]<;>rfl|rfl) ?_
    refine n_ibin rfl (by first|simp only[nf,Nat.beq]<;>rfl|rfl) (by first|simp only[nf,Nat.beq]<;>rfl|rfl) rfl ?_
    refine n_assign rfl (by first|simp only[nf,Nat.beq]<;>rfl|rfl) ?_
    refine AOps.nil ?_
    refine AWP.cond (by first|simp only[nf,Nat.beq]<;>rfl|rfl) (fun hc2 => ?_) (fun hc2 => ?_)
    · try simp only [nh] at hc2
      have hz : t.errF x = 4 := by unfold errF; rw [if_neg hge, if_pos hc2]
      refine AWP.seq ?_
      refine AWP.region ?_
      refine n_build rfl si200 (Eq.trans (by simp only [nl] <;> rfl) (by first|simp only[nf,Nat.beq]<;>rfl|rfl)) (Eq.trans (by simp only [nl] <;> rfl) (by first|simp only[nf,Nat.beq]<;>rfl|rfl)) rfl ?_
      refine n_store ti200 (by first|simp only[nf,Nat.beq]<;>rfl|rfl) rfl (by first|simp only[nf,Nat.beq]<;>rfl|rfl) rfl (by first|simp only[nf,Nat.beq]<;>rfl|rfl) rfl rfl rfl (by first|simp only[nf,Nat.beq]<;>rfl|rfl) ?_
      refine n_assign rfl (by first|simp only[nf,Nat.beq]<;>rfl|rfl) ?_
      refine AOps.nil ?_
      refine AWP.ret ?_
      refine fin_pure (.cons (rv_cell ti200 (by first|simp only[nf,Nat.beq]<;>rfl|rfl) (by first|simp only[nf,Nat.beq]<;>rfl|rfl) rfl (by first|simp only[nf,Nat.beq]<;>rfl|rfl)) (.cons (rv_tmp (by first|simp only[nf,Nat.beq]<;>rfl|rfl)) .nil)) (by first|simp only[nf,Nat.beq]<;>rfl|rfl) ?_
      rw [hz]; exact ren_flat rfl (by simp)
    · try simp only [nh] at hc2
      have hz : t.errF x = 0 := by unfold errF; rw [if_neg hge, if_neg hc2]
      have hid := idx_in hg (x := x) (by omega) (by omega)
      have hbs := bsearch t x hg ⟨by omega, by omega⟩
      have hxi := map_at spz (nth_at (t := t) hid.1)
      refine AWP.skip ?_
      refine AWP.seq ?_
      refine AWP.region ?_
      refine n_fieldAddr rfl fd188_0 ti186 rfl (by first|simp only[nf,Nat.beq]<;>rfl|rfl) rfl (by first|simp only[nf,Nat.beq]<;>rfl|rfl) ?_
      refine n_load rfl ti186 (by first|simp only[nf,Nat.beq]<;>rfl|rfl) (by first|simp only[nf,Nat.beq]<;>rfl|rfl) rfl (by first|simp only[nf,Nat.beq]<;>rfl|rfl) ?_
      refine n_move rfl (by first|simp only[nf,Nat.beq]<;>rfl|rfl) ?_
      refine n_call0B rfl cf275 rfl (Eq.trans (by simp only [nl] <;> rfl) (by first|simp only[nf,Nat.beq]<;>rfl|rfl)) (by repeat (first | exact .nil | refine .cons ?_ ?_ | exact ren_ints | exact .lf (.val _) | exact .lf (lf_ints (.inl rfl)) | exact .bp ⟨rfl, rfl⟩ | exact .bp (.inl ⟨rfl, rfl⟩) | exact .bp (.inr ⟨rfl, rfl⟩) | exact .lf (D.flat_lf rfl) | exact ren_map (f := spz) (fun _ => rfl) | exact .lf (lf_tz _) | exact ren_tz | exact .lf (.fn (fun d h => by cases h) (fun d h => by cases h)))) (hbs) (by first | exact .val _ | exact lf_ints (.inl rfl) | exact lf_ints (.inr rfl) | exact .any | exact D.flat_lf rfl | exact lf_map (f := spz) (fun _ => rfl) (.inl rfl) | exact lf_tz _ | exact .tup (lf_cons (lf_tz _) (lf_cons (.val _) lf_nil))) ?_
      refine n_move rfl (by first|simp only[nf,Nat.beq]<;>rfl|rfl) ?_
      refine n_extract rfl (by first|simp only[nf,Nat.beq]<;>rfl|rfl) rfl ?_
      refine n_extract rfl (by first|simp only[nf,Nat.beq]<;>rfl|rfl) rfl ?_
      refine n_assign rfl (by first|simp only[nf,Nat.beq]<;>rfl|rfl) ?_
      refine n_assign rfl (by first|simp only[nf,Nat.beq]<;>rfl|rfl) ?_
      refine AOps.nil ?_
      refine AWP.seq ?_
      refine AWP.seq ?_
      refine AWP.region ?_
      refine n_move rfl (by first|simp only[nf,Nat.beq]<;>rfl|rfl) ?_
      refine n_not rfl (by first|simp only[nf,Nat.beq]<;>rfl|rfl) rfl ?_
      refine AOps.nil ?_
      refine AWP.cond (by first|simp only[nf,Nat.beq]<;>rfl|rfl) (fun hc3 => ?_) (fun hc3 => ?_)
      · try simp only [nh] at hc3
        have hii : t.idx x + 1 = t.lb x := idx_no hg (by omega) (by omega) (fun g => by simp at hc3; exact absurd g.2 (hc3 g.1))
        rw [show ((t.idx x : Nat) : Int) = (t.lb x : Int) - 1 by omega] at hxi
        refine AWP.region ?_
        refine n_move rfl (by first|simp only[nf,Nat.beq]<;>rfl|rfl) ?_
        first | refine n_isub rfl (by first|simp only[nf,Nat.beq]<;>rfl|rfl) (by first|simp only[nf,Nat.beq]<;>rfl|rfl) rfl (by omega) (by omega) ?_ | refine n_ibin rfl (by first|simp only[nf,Nat.beq]<;>rfl|rfl) (by first|simp only[nf,Nat.beq]<;>rfl|rfl) rfl ?_
        refine n_assign rfl (by first|simp only[nf,Nat.beq]<;>rfl|rfl) ?_
        refine AOps.nil ?_
        refine AWP.seq ?_
        refine AWP.region ?_
        refine n_fieldAddr rfl fd188_0 ti186 rfl (by first|simp only[nf,Nat.beq]<;>rfl|rfl) rfl (by first|simp only[nf,Nat.beq]<;>rfl|rfl) ?_
        refine n_load rfl ti186 (by first|simp only[nf,Nat.beq]<;>rfl|rfl) (by first|simp only[nf,Nat.beq]<;>rfl|rfl) rfl (by first|simp only[nf,Nat.beq]<;>rfl|rfl) ?_
        refine n_move rfl (by first|simp only[nf,Nat.beq]<;>rfl|rfl) ?_
        refine n_indexAddr rfl Try.underlying186 ti200 rfl (by first|simp only[nf,Nat.beq]<;>rfl|rfl) (by first|simp only[nf,Nat.beq]<;>rfl|rfl) (by omega) (by exact hxi) rfl ?_
        refine n_load rfl ti200 (by first|simp only[nf,Nat.beq]<;>rfl|rfl) (by first|simp only[nf,Nat.beq]<;>rfl|rfl) rfl (by first|simp only[nf,Nat.beq]<;>rfl|rfl) ?_
        refine n_store ti200 (by first|simp only[nf,Nat.beq]<;>rfl|rfl) rfl (by first|simp only[nf,Nat.beq]<;>rfl|rfl) rfl (by first|simp only[nf,Nat.beq]<;>rfl|rfl) rfl rfl rfl (by first|simp only[nf,Nat.beq]<;>rfl|rfl) ?_
        refine n_assign rfl (by first|simp only[nf,Nat.beq]<;>rfl|rfl) ?_
        refine AOps.nil ?_
        refine AWP.ret ?_
        refine fin_pure (.cons (rv_cell ti200 (by first|simp only[nf,Nat.beq]<;>rfl|rfl) (by first|simp only[nf,Nat.beq]<;>rfl|rfl) rfl (by first|simp only[nf,Nat.beq]<;>rfl|rfl)) (.cons (rv_tmp (by first|simp only[nf,Nat.beq]<;>rfl|rfl)) .nil)) (by first|simp only[nf,Nat.beq]<;>rfl|rfl) ?_
        rw [hz]; exact ren_flat rfl (by simp)
      · try simp only [nh] at hc3
        have hii : t.idx x = t.lb x := idx_yes (by simpa using hc3)
        rw [show ((t.idx x : Nat) : Int) = (t.lb x : Int) by omega] at hxi
        refine AWP.skip ?_
        refine AWP.seq ?_
        refine AWP.region ?_
        refine n_fieldAddr rfl fd188_0 ti186 rfl (by first|simp only[nf,Nat.beq]<;>rfl|rfl) rfl (by first|simp only[nf,Nat.beq]<;>rfl|rfl) ?_
        refine n_load rfl ti186 (by first|simp only[nf,Nat.beq]<;>rfl|rfl) (by first|simp only[nf,Nat.beq]<;>rfl|rfl) rfl (by first|simp only[nf,Nat.beq]<;>rfl|rfl) ?_
        refine n_move rfl (by first|simp only[nf,Nat.beq]<;>rfl|rfl) ?_
        refine n_indexAddr rfl Try.underlying186 ti200 rfl (by first|simp only[nf,Nat.beq]<;>rfl|rfl) (by first|simp only[nf,Nat.beq]<;>rfl|rfl) (by omega) (by exact hxi) rfl ?_
        refine n_load rfl ti200 (by first|simp only[nf,Nat.beq]<;>rfl|rfl) (by first|simp only[nf,Nat.beq]<;>rfl|rfl) rfl (by first|simp only[nf,Nat.beq]<;>rfl|rfl) ?_
        refine n_store ti200 (by first|simp only[nf,Nat.beq]<;>rfl|rfl) rfl (by first|simp only[nf,Nat.beq]<;>rfl|rfl) rfl (by first|simp only[nf,Nat.beq]<;>rfl|rfl) rfl rfl rfl (by first|simp only[nf,Nat.beq]<;>rfl|rfl) ?_
        refine n_assign rfl (by first|simp only[nf,Nat.beq]<;>rfl|rfl) ?_
        refine AOps.nil ?_
        refine AWP.ret ?_
        refine fin_pure (.cons (rv_cell ti200 (by first|simp only[nf,Nat.beq]<;>rfl|rfl) (by first|simp only[nf,Nat.beq]<;>rfl|rfl) rfl (by first|simp only[nf,Nat.beq]<;>rfl|rfl)) (.cons (rv_tmp (by first|simp only[nf,Nat.beq]<;>rfl|rfl)) .nil)) (by first|simp only[nf,Nat.beq]<;>rfl|rfl) ?_
        rw [hz]; exact ren_flat rfl (by simp)

set_option maxHeartbeats 2000000 in
theorem r_find (t : Tb) (x : Int) (hg : t.good = true) : Does Try.prog 237 [tz t, vi x] [] (.tup [vi (if t.errF x ≠ 0 then 0 else (t.idx x : Int)), vi (t.errF x)]) [] := by
  refine Does.of_body (rvs := [.tmp 4, .tmp 5]) Try.func237 rfl rfl rfl rfl ?_
  have hgn := good_num hg
  have hsp := start_pos hg
  have hbg := r_begin t (by omega)
  refine AWP.seq ?_
  refine AWP.region ?_
  refine n_box rfl (by first|simp only[nf,Nat.beq]<;>rfl|rfl) rfl rfl (by first|simp only[nf,Nat.beq]<;>rfl|rfl) (by first|simp only[nf,Nat.beq]<;>rfl|rfl) ?_
  refine n_assign rfl (by first|simp only[nf,Nat.beq]<;>rfl|rfl) ?_
  refine n_assign rfl (by first|simp only[nf,Nat.beq]<;>rfl|rfl) ?_
  refine AOps.nil ?_
  refine AWP.seq ?_
  refine AWP.seq ?_
  refine AWP.region ?_
  refine n_move rfl (by first|simp only[nf,Nat.beq]<;>rfl|rfl) ?_
  refine n_load rfl ti188 (by first|simp only[nf,Nat.beq]<;>rfl|rfl) (by first|simp only[nf,Nat.beq]<;>rfl|rfl) rfl (by first|simp only[nf,Nat.beq]<;>rfl|rfl) ?_
  refine n_call0B rfl cf145 rfl (Eq.trans (by simp only [nl] <;> rfl) (by first|simp only[nf,Nat.beq]<;>rfl|rfl)) (by repeat (first | exact .nil | refine .cons ?_ ?_ | exact ren_ints | exact .lf (.val _) | exact .lf (lf_ints (.inl rfl)) | exact .bp ⟨rfl, rfl⟩ | exact .bp (.inl ⟨rfl, rfl⟩) | exact .bp (.inr ⟨rfl, rfl⟩) | exact .lf (D.flat_lf rfl) | exact ren_map (f := spz) (fun _ => rfl) | exact .lf (lf_tz _) | exact ren_tz | exact .lf (.fn (fun d h => by cases h) (fun d h => by cases h)))) (hbg) (by first | exact .val _ | exact lf_ints (.inl rfl) | exact lf_ints (.inr rfl) | exact .any | exact D.flat_lf rfl | exact lf_map (f := spz) (fun _ => rfl) (.inl rfl) | exact lf_tz _ | exact .tup (lf_cons (lf_tz _) (lf_cons (.val _) lf_nil))) ?_
  refine n_ibin rfl (by first|simp only[nf,Nat.beq]<;>rfl|rfl) (by first|simp only[nf,Nat.beq]<;>rfl|rfl) rfl ?_
  refine AOps.nil ?_
  refine AWP.cond (by first|simp only[nf,Nat.beq]<;>rfl|rfl) (fun hc1 => ?_) (fun hc1 => ?_)
  · try simp only [nh] at hc1
    have hz : t.errF x = 7 := by unfold errF; rw [if_pos hc1]
    refine AWP.seq ?_
    refine AWP.region ?_
    refine n_assign rfl (by first|simp only[nf,Nat.beq]<;>rfl|rfl) ?_
    refine n_assign rfl (by first|simp only[nf,Nat.beq]<;>rfl|rfl) ?_
    refine AOps.nil ?_
    refine AWP.ret ?_
    refine fin_pure (.cons (rv_tmp (by first|simp only[nf,Nat.beq]<;>rfl|rfl)) (.cons (rv_tmp (by first|simp only[nf,Nat.beq]<;>rfl|rfl)) .nil)) (by first|simp only[nf,Nat.beq]<;>rfl|rfl) ?_
    rw [hz]; first | (rw [hie]; exact ren_flat rfl (by simp)) | exact ren_flat rfl (by simp)
  · try simp only [nh] at hc1
    have hge := hc1
    refine AWP.skip ?_
    refine AWP.seq ?_
    refine AWP.seq ?_
    refine AWP.region ?_
    refine n_assign rfl (by first|simp only[nf,Nat.beq]<;>rfl|rfl) ?_
    refine AOps.nil ?_
    refine AWP.block ?_
    refine AWP.loop (α := Nat) (fun i => i ≤ t.l.length ∧ ∀ j, j < i → t.fin j ≤ x) (fun i => put (put (put empty 1 (vi x)) 2 (.bp 0 0)) 6 (vi (i : Int))) (fun _ => [.box [(.sl none (t.l.map spz) .ro), vi t.n]]) (fun i => t.l.length - i) 0 ?_ ?_ ?_ ?_
    · exact ⟨Nat.zero_le _, fun j h => by omega⟩
    · (repeat (first | exact FLe.empty _ | refine FLe.put ?_ ?_)) <;> first | (simp only [nf, Nat.beq]; done) | rfl | ((try simp only [nf, Nat.beq]); first | rfl | (simp only [List.length_map]; done) | (congr 2; omega; done))
    · rfl
    · rintro i ⟨hi, hj⟩
      try dsimp only at hi hj ⊢
      refine AWP.seq ?_
      refine AWP.seq ?_
      refine AWP.region ?_
      refine n_move rfl (by first|simp only[nf,Nat.beq]<;>rfl|rfl) ?_
      refine n_fieldAddr rfl fd188_0 ti186 rfl (by first|simp only[nf,Nat.beq]<;>rfl|rfl) rfl (by first|simp only[nf,Nat.beq]<;>rfl|rfl) ?_
      refine n_load rfl ti186 (by first|simp only[nf,Nat.beq]<;>rfl|rfl) (by first|simp only[nf,Nat.beq]<;>rfl|rfl) rfl (by first|simp only[nf,Nat.beq]<;>rfl|rfl) ?_
      refine n_len rfl Try.underlying186 (by first|simp only[nf,Nat.beq]<;>rfl|rfl) (by first | rw [ints_length] | rw [List.length_map] | rfl) ?_
      refine n_ibin rfl (by first|simp only[nf,Nat.beq]<;>rfl|rfl) (by first|simp only[nf,Nat.beq]<;>rfl|rfl) rfl ?_
      refine AOps.nil ?_
      refine AWP.cond (by first|simp only[nf,Nat.beq]<;>rfl|rfl) (fun hc2 => ?_) (fun hc2 => ?_)
      · try simp only [nh] at hc2
        have hil : i < t.l.length := by omega
        have hen := r_end t i hil (by omega)
        refine AWP.skip ?_
        refine AWP.seq ?_
        refine AWP.block ?_
        refine AWP.seq ?_
        refine AWP.region ?_
        refine n_move rfl (by first|simp only[nf,Nat.beq]<;>rfl|rfl) ?_
        refine n_load rfl ti188 (by first|simp only[nf,Nat.beq]<;>rfl|rfl) (by first|simp only[nf,Nat.beq]<;>rfl|rfl) rfl (by first|simp only[nf,Nat.beq]<;>rfl|rfl) ?_
        refine n_move rfl (by first|simp only[nf,Nat.beq]<;>rfl|rfl) ?_
        refine n_call0B rfl cf234 rfl (Eq.trans (by simp only [nl] <;> rfl) (by first|simp only[nf,Nat.beq]<;>rfl|rfl)) (by repeat (first | exact .nil | refine .cons ?_ ?_ | exact ren_ints | exact .lf (.val _) | exact .lf (lf_ints (.inl rfl)) | exact .bp ⟨rfl, rfl⟩ | exact .bp (.inl ⟨rfl, rfl⟩) | exact .bp (.inr ⟨rfl, rfl⟩) | exact .lf (D.flat_lf rfl) | exact ren_map (f := spz) (fun _ => rfl) | exact .lf (lf_tz _) | exact ren_tz | exact .lf (.fn (fun d h => by cases h) (fun d h => by cases h)))) (hen) (by first | exact .val _ | exact lf_ints (.inl rfl) | exact lf_ints (.inr rfl) | exact .any | exact D.flat_lf rfl | exact lf_map (f := spz) (fun _ => rfl) (.inl rfl) | exact lf_tz _ | exact .tup (lf_cons (lf_tz _) (lf_cons (.val _) lf_nil))) ?_
        refine n_ibin rfl (by first|simp only[nf,Nat.beq]<;>rfl|rfl) (by first|simp only[nf,Nat.beq]<;>rfl|rfl) rfl ?_
        refine AOps.nil ?_
        refine AWP.cond (by first|simp only[nf,Nat.beq]<;>rfl|rfl) (fun hc3 => ?_) (fun hc3 => ?_)
        · try simp only [nh] at hc3
          have hpi : (t.nth i).p ≤ x := by rcases Nat.eq_zero_or_pos i with e | e; have h0 := start_good hg; rw [if_neg (by omega)] at h0; rw [e]; omega; have h8 := hj (i - 1) (by omega); rw [fin_next (by omega), show i - 1 + 1 = i by omega] at h8; exact h8
          have hlt : x < t.n := by rcases Nat.lt_or_ge (i + 1) t.l.length with e | e; rw [fin_next e] at hc3; have h8 := rise hg (i := t.l.length - 1) (by omega); rw [fin_last (by omega)] at h8; rcases Nat.eq_or_lt_of_le (show i + 1 ≤ t.l.length - 1 by omega) with h7 | h7; rw [← h7] at h8; omega; have h6 := rises' hg h7 (by omega); omega; rw [fin_last (by omega)] at hc3; exact hc3
          have hz : t.errF x = 0 := by unfold errF; rw [if_neg hge, if_neg (by omega)]
          have hie := idx_eq hg (by omega) hlt hil hpi hc3
          refine AWP.seq ?_
          refine AWP.region ?_
          refine n_move rfl (by first|simp only[nf,Nat.beq]<;>rfl|rfl) ?_
          refine n_assign rfl (by first|simp only[nf,Nat.beq]<;>rfl|rfl) ?_
          refine n_assign rfl (by first|simp only[nf,Nat.beq]<;>rfl|rfl) ?_
          refine AOps.nil ?_
          refine AWP.ret ?_
          refine fin_pure (.cons (rv_tmp (by first|simp only[nf,Nat.beq]<;>rfl|rfl)) (.cons (rv_tmp (by first|simp only[nf,Nat.beq]<;>rfl|rfl)) .nil)) (by first|simp only[nf,Nat.beq]<;>rfl|rfl) ?_
          rw [hz]; first | (rw [hie]; exact ren_flat rfl (by simp)) | exact ren_flat rfl (by simp)
        · try simp only [nh] at hc3
          refine AWP.skip ?_
          refine AWP.region ?_
          refine n_move rfl (by first|simp only[nf,Nat.beq]<;>rfl|rfl) ?_
          first | refine n_iadd rfl (by first|simp only[nf,Nat.beq]<;>rfl|rfl) (by first|simp only[nf,Nat.beq]<;>rfl|rfl) rfl (by omega) (by omega) ?_ | refine n_ibin rfl (by first|simp only[nf,Nat.beq]<;>rfl|rfl) (by first|simp only[nf,Nat.beq]<;>rfl|rfl) rfl ?_
          refine n_assign rfl (by first|simp only[nf,Nat.beq]<;>rfl|rfl) ?_
          refine AOps.nil ?_
          refine ⟨i + 1, ⟨by omega, fun j hj1 => ?_⟩, ?_, rfl, by omega⟩
          · rcases Nat.lt_or_ge j i with h9 | h9
            · exact hj j h9
            · obtain rfl : j = i := by omega
              omega
          · (repeat (first | exact FLe.empty _ | refine FLe.put ?_ ?_)) <;> first | (simp only [nf, Nat.beq]; done) | rfl | ((try simp only [nf, Nat.beq]); first | rfl | (simp only [List.length_map]; done) | (congr 2; omega; done))
      · try simp only [nh] at hc2
        obtain rfl : i = t.l.length := by omega
        have hz : t.errF x = 4 := by unfold errF; rw [if_neg hge, if_pos]; have h0 := start_good hg; by_cases h9 : t.l.length = 0; rw [if_pos h9] at h0; omega; have h8 := hj (t.l.length - 1) (by omega); rw [fin_last (by omega)] at h8; exact h8
        refine AWP.exit ?_
        refine AWP.seq ?_
        refine AWP.region ?_
        refine n_assign rfl (by first|simp only[nf,Nat.beq]<;>rfl|rfl) ?_
        refine n_assign rfl (by first|simp only[nf,Nat.beq]<;>rfl|rfl) ?_
        refine AOps.nil ?_
        refine AWP.ret ?_
        refine fin_pure (.cons (rv_tmp (by first|simp only[nf,Nat.beq]<;>rfl|rfl)) (.cons (rv_tmp (by first|simp only[nf,Nat.beq]<;>rfl|rfl)) .nil)) (by first|simp only[nf,Nat.beq]<;>rfl|rfl) ?_
        rw [hz]; first | (rw [hie]; exact ren_flat rfl (by simp)) | exact ren_flat rfl (by simp)

theorem l_at (t : Tb) (x : Int) (hl : t.l.length ≤ 1048576) : Does Try.prog 249 [tz t, vi x] [] (.tup [vi (t.may.spAt x).e, vi (t.may.spAt x).r, vi (t.may.errF x)]) [] := by
  refine Does.of_body (rvs := [.tmp 4, .tmp 5, .tmp 6]) Try.func249 rfl rfl rfl rfl ?_
  have hml := may_len (t := t)
  have hm := l_may t hl
  have hg := may_good t
  have hfi := l_find t.may x hg
  obtain ⟨u, hu⟩ : ∃ u, u = t.may := ⟨_, rfl⟩
  rw [← hu] at hm hfi hg hml
  refine AWP.seq ?_
  refine AWP.region ?_
  refine n_box rfl (by first|simp only[nf,Nat.beq]<;>rfl|rfl) rfl rfl (by first|simp only[nf,Nat.beq]<;>rfl|rfl) (by first|simp only[nf,Nat.beq]<;>rfl|rfl) ?_
  refine n_assign rfl (by first|simp only[nf,Nat.beq]<;>rfl|rfl) ?_
  refine n_assign rfl (by first|simp only[nf,Nat.beq]<;>rfl|rfl) ?_
  refine n_assign rfl (by first|simp only[nf,Nat.beq]<;>rfl|rfl) ?_
  refine AOps.nil ?_
  refine AWP.seq ?_
  refine AWP.region ?_
  refine n_load rfl ti188 (by first|simp only[nf,Nat.beq]<;>rfl|rfl) (by first|simp only[nf,Nat.beq]<;>rfl|rfl) rfl (by first|simp only[nf,Nat.beq]<;>rfl|rfl) ?_
  refine n_call0B rfl cf226 rfl (Eq.trans (by simp only [nl] <;> rfl) (by first|simp only[nf,Nat.beq]<;>rfl|rfl)) (by repeat (first | exact .nil | refine .cons ?_ ?_ | exact ren_ints | exact .lf (.val _) | exact .lf (lf_ints (.inl rfl)) | exact .bp ⟨rfl, rfl⟩ | exact .bp (.inl ⟨rfl, rfl⟩) | exact .bp (.inr ⟨rfl, rfl⟩) | exact .lf (D.flat_lf rfl) | exact ren_map (f := spz) (fun _ => rfl) | exact .lf (lf_tz _) | exact ren_tz | exact .lf (.fn (fun d h => by cases h) (fun d h => by cases h)))) (hm) (by first | exact .val _ | exact lf_ints (.inl rfl) | exact lf_ints (.inr rfl) | exact .any | exact D.flat_lf rfl | exact lf_map (f := spz) (fun _ => rfl) (.inl rfl) | exact lf_tz _ | exact .tup (lf_cons (lf_tz _) (lf_cons (.val _) lf_nil))) ?_
  refine n_move rfl (by first|simp only[nf,Nat.beq]<;>rfl|rfl) ?_
  refine n_call0B rfl cf225 rfl (Eq.trans (by simp only [nl] <;> rfl) (by first|simp only[nf,Nat.beq]<;>rfl|rfl)) (by repeat (first | exact .nil | refine .cons ?_ ?_ | exact ren_ints | exact .lf (.val _) | exact .lf (lf_ints (.inl rfl)) | exact .bp ⟨rfl, rfl⟩ | exact .bp (.inl ⟨rfl, rfl⟩) | exact .bp (.inr ⟨rfl, rfl⟩) | exact .lf (D.flat_lf rfl) | exact ren_map (f := spz) (fun _ => rfl) | exact .lf (lf_tz _) | exact ren_tz | exact .lf (.fn (fun d h => by cases h) (fun d h => by cases h)))) (hfi) (by first | exact .val _ | exact lf_ints (.inl rfl) | exact lf_ints (.inr rfl) | exact .any | exact D.flat_lf rfl | exact lf_map (f := spz) (fun _ => rfl) (.inl rfl) | exact lf_tz _ | exact .tup (lf_cons (lf_tz _) (lf_cons (.val _) lf_nil))) ?_
  refine n_move rfl (by first|simp only[nf,Nat.beq]<;>rfl|rfl) ?_
  refine n_extract rfl (by first|simp only[nf,Nat.beq]<;>rfl|rfl) rfl ?_
  refine n_extract rfl (by first|simp only[nf,Nat.beq]<;>rfl|rfl) rfl ?_
  refine n_alloc rfl zi200 rfl (by first|simp only[nf,Nat.beq]<;>rfl|rfl) (by first|simp only[nf,Nat.beq]<;>rfl|rfl) ?_
  refine n_store ti200 (by first|simp only[nf,Nat.beq]<;>rfl|rfl) rfl (by first|simp only[nf,Nat.beq]<;>rfl|rfl) rfl (by first|simp only[nf,Nat.beq]<;>rfl|rfl) rfl rfl rfl (by first|simp only[nf,Nat.beq]<;>rfl|rfl) ?_
  refine n_assign rfl (by first|simp only[nf,Nat.beq]<;>rfl|rfl) ?_
  refine AOps.nil ?_
  refine AWP.seq ?_
  refine AWP.anyStill (by kernel_rfl) (by kernel_rfl) ?_
  refine Walk.still (rs := [7]) (by rfl) (by first|simp only[nf,Nat.beq]<;>rfl|rfl) (fun base => by
      refine n_fieldAddr rfl fd200_0 ti2 rfl (by first|simp only[nf,Nat.beq]<;>rfl|rfl) rfl (by first|simp only[nf,Nat.beq]<;>rfl|rfl) ?_
      exact AOps.nil ⟨rfl, rfl, rfl⟩) ?_
  refine Walk.still (rs := [16]) (by rfl) (by first|simp only[nf,Nat.beq]<;>rfl|rfl) (fun base => by
      refine n_load rfl ti2 (by first|simp only[nf,Nat.beq]<;>rfl|rfl) (by first|simp only[nf,Nat.beq]<;>rfl|rfl) rfl (by first|simp only[nf,Nat.beq]<;>rfl|rfl) ?_
      exact AOps.nil ⟨rfl, rfl, rfl⟩) ?_
  refine Walk.still (rs := [7]) (by rfl) (by first|simp only[nf,Nat.beq]<;>rfl|rfl) (fun base => by
      refine n_fieldAddr rfl fd200_1 ti3 rfl (by first|simp only[nf,Nat.beq]<;>rfl|rfl) rfl (by first|simp only[nf,Nat.beq]<;>rfl|rfl) ?_
      exact AOps.nil ⟨rfl, rfl, rfl⟩) ?_
  refine Walk.still (rs := [18]) (by rfl) (by first|simp only[nf,Nat.beq]<;>rfl|rfl) (fun base => by
      refine n_load rfl ti3 (by first|simp only[nf,Nat.beq]<;>rfl|rfl) (by first|simp only[nf,Nat.beq]<;>rfl|rfl) rfl (by first|simp only[nf,Nat.beq]<;>rfl|rfl) ?_
      exact AOps.nil ⟨rfl, rfl, rfl⟩) ?_
  refine Walk.still (rs := [8]) (by rfl) (by first|simp only[nf,Nat.beq]<;>rfl|rfl) (fun base => by
      refine n_move rfl (by first|simp only[nf,Nat.beq]<;>rfl|rfl) ?_
      exact AOps.nil ⟨rfl, rfl, rfl⟩) ?_
  refine Walk.still (rs := [17]) (by rfl) (by first|simp only[nf,Nat.beq]<;>rfl|rfl) (fun base => by
      refine n_assign rfl (by first|simp only[nf,Nat.beq]<;>rfl|rfl) ?_
      exact AOps.nil ⟨rfl, rfl, rfl⟩) ?_
  refine Walk.still (rs := [19]) (by rfl) (by first|simp only[nf,Nat.beq]<;>rfl|rfl) (fun base => by
      refine n_assign rfl (by first|simp only[nf,Nat.beq]<;>rfl|rfl) ?_
      exact AOps.nil ⟨rfl, rfl, rfl⟩) ?_
  refine Walk.still (rs := [20]) (by rfl) (by first|simp only[nf,Nat.beq]<;>rfl|rfl) (fun base => by
      refine n_assign rfl (by first|simp only[nf,Nat.beq]<;>rfl|rfl) ?_
      exact AOps.nil ⟨rfl, rfl, rfl⟩) ?_
  refine Walk.done ?_
  refine AWP.ret ?_
  refine fin_pure (.cons (rv_tmp (by first|simp only[nf,Nat.beq]<;>rfl|rfl)) (.cons (rv_tmp (by first|simp only[nf,Nat.beq]<;>rfl|rfl)) (.cons (rv_tmp (by first|simp only[nf,Nat.beq]<;>rfl|rfl)) .nil))) (by first|simp only[nf,Nat.beq]<;>rfl|rfl) ?_
  rw [← hu]; exact ren_flat rfl (by unfold spAt ze; rfl)

theorem r_at (t : Tb) (x : Int) (hl : t.l.length ≤ 1048576) : Does Try.prog 147 [tz t, vi x] [] (.tup [vi (t.may.spAt x).e, vi (t.may.spAt x).r, vi (t.may.errF x)]) [] := by
  refine Does.of_body (rvs := [.tmp 4, .tmp 5, .tmp 6]) Try.func147 rfl rfl rfl rfl ?_
  have hml := may_len (t := t)
  have hm := r_may t hl
  have hg := may_good t
  have hfi := r_find t.may x hg
  obtain ⟨u, hu⟩ : ∃ u, u = t.may := ⟨_, rfl⟩
  rw [← hu] at hm hfi hg hml
  refine AWP.seq ?_
  refine AWP.region ?_
  refine n_box rfl (by first|simp only[nf,Nat.beq]<;>rfl|rfl) rfl rfl (by first|simp only[nf,Nat.beq]<;>rfl|rfl) (by first|simp only[nf,Nat.beq]<;>rfl|rfl) ?_
  refine n_assign rfl (by first|simp only[nf,Nat.beq]<;>rfl|rfl) ?_
  refine n_assign rfl (by first|simp only[nf,Nat.beq]<;>rfl|rfl) ?_
  refine n_assign rfl (by first|simp only[nf,Nat.beq]<;>rfl|rfl) ?_
  refine AOps.nil ?_
  refine AWP.seq ?_
  refine AWP.region ?_
  refine n_load rfl ti188 (by first|simp only[nf,Nat.beq]<;>rfl|rfl) (by first|simp only[nf,Nat.beq]<;>rfl|rfl) rfl (by first|simp only[nf,Nat.beq]<;>rfl|rfl) ?_
  refine n_call0B rfl cf232 rfl (Eq.trans (by simp only [nl] <;> rfl) (by first|simp only[nf,Nat.beq]<;>rfl|rfl)) (by repeat (first | exact .nil | refine .cons ?_ ?_ | exact ren_ints | exact .lf (.val _) | exact .lf (lf_ints (.inl rfl)) | exact .bp ⟨rfl, rfl⟩ | exact .bp (.inl ⟨rfl, rfl⟩) | exact .bp (.inr ⟨rfl, rfl⟩) | exact .lf (D.flat_lf rfl) | exact ren_map (f := spz) (fun _ => rfl) | exact .lf (lf_tz _) | exact ren_tz | exact .lf (.fn (fun d h => by cases h) (fun d h => by cases h)))) (hm) (by first | exact .val _ | exact lf_ints (.inl rfl) | exact lf_ints (.inr rfl) | exact .any | exact D.flat_lf rfl | exact lf_map (f := spz) (fun _ => rfl) (.inl rfl) | exact lf_tz _ | exact .tup (lf_cons (lf_tz _) (lf_cons (.val _) lf_nil))) ?_
  refine n_store ti188 (by first|simp only[nf,Nat.beq]<;>rfl|rfl) rfl (by first|simp only[nf,Nat.beq]<;>rfl|rfl) rfl (by first|simp only[nf,Nat.beq]<;>rfl|rfl) rfl rfl rfl (by first|simp only[nf,Nat.beq]<;>rfl|rfl) ?_
  refine AOps.nil ?_
  refine AWP.seq ?_
  refine AWP.region ?_
  refine n_load rfl ti188 (by first|simp only[nf,Nat.beq]<;>rfl|rfl) (by first|simp only[nf,Nat.beq]<;>rfl|rfl) rfl (by first|simp only[nf,Nat.beq]<;>rfl|rfl) ?_
  refine n_move rfl (by first|simp only[nf,Nat.beq]<;>rfl|rfl) ?_
  refine n_call0B rfl cf237 rfl (Eq.trans (by simp only [nl] <;> rfl) (by first|simp only[nf,Nat.beq]<;>rfl|rfl)) (by repeat (first | exact .nil | refine .cons ?_ ?_ | exact ren_ints | exact .lf (.val _) | exact .lf (lf_ints (.inl rfl)) | exact .bp ⟨rfl, rfl⟩ | exact .bp (.inl ⟨rfl, rfl⟩) | exact .bp (.inr ⟨rfl, rfl⟩) | exact .lf (D.flat_lf rfl) | exact ren_map (f := spz) (fun _ => rfl) | exact .lf (lf_tz _) | exact ren_tz | exact .lf (.fn (fun d h => by cases h) (fun d h => by cases h)))) (hfi) (by first | exact .val _ | exact lf_ints (.inl rfl) | exact lf_ints (.inr rfl) | exact .any | exact D.flat_lf rfl | exact lf_map (f := spz) (fun _ => rfl) (.inl rfl) | exact lf_tz _ | exact .tup (lf_cons (lf_tz _) (lf_cons (.val _) lf_nil))) ?_
  refine n_move rfl (by first|simp only[nf,Nat.beq]<;>rfl|rfl) ?_
  refine n_extract rfl (by first|simp only[nf,Nat.beq]<;>rfl|rfl) rfl ?_
  refine n_extract rfl (by first|simp only[nf,Nat.beq]<;>rfl|rfl) rfl ?_
  refine n_assign rfl (by first|simp only[nf,Nat.beq]<;>rfl|rfl) ?_
  refine n_assign rfl (by first|simp only[nf,Nat.beq]<;>rfl|rfl) ?_
  refine AOps.nil ?_
  refine AWP.seq ?_
  refine AWP.seq ?_
  refine AWP.region ?_
  refine n_move rfl (by first|simp only[nf,Nat.beq]<;>rfl|rfl) ?_
  refine n_ibin rfl (by first|simp only[nf,Nat.beq]<;>rfl|rfl) (by first|simp only[nf,Nat.beq]<;>rfl|rfl) rfl ?_
  refine AOps.nil ?_
  refine AWP.cond (by first|simp only[nf,Nat.beq]<;>rfl|rfl) (fun hc1 => ?_) (fun hc1 => ?_)
  · try simp only [nh] at hc1
    have hz : u.spAt x = ze := by unfold spAt; rw [if_pos hc1]
    have hw : u.errF x = u.errF x := rfl
    refine AWP.seq ?_
    refine AWP.region ?_
    refine n_move rfl (by first|simp only[nf,Nat.beq]<;>rfl|rfl) ?_
    refine n_assign rfl (by first|simp only[nf,Nat.beq]<;>rfl|rfl) ?_
    refine n_assign rfl (by first|simp only[nf,Nat.beq]<;>rfl|rfl) ?_
    refine n_assign rfl (by first|simp only[nf,Nat.beq]<;>rfl|rfl) ?_
    refine AOps.nil ?_
    refine AWP.ret ?_
    refine fin_pure (.cons (rv_tmp (by first|simp only[nf,Nat.beq]<;>rfl|rfl)) (.cons (rv_tmp (by first|simp only[nf,Nat.beq]<;>rfl|rfl)) (.cons (rv_tmp (by first|simp only[nf,Nat.beq]<;>rfl|rfl)) .nil))) (by first|simp only[nf,Nat.beq]<;>rfl|rfl) ?_
    rw [← hu, hz, hw]; exact ren_flat rfl rfl
  · try simp only [nh] at hc1
    have hez := errF_zero (by simpa using hc1)
    have hid := idx_in hg hez.1 hez.2
    have hni := nth_in hg hid.1
    have hgn := good_num hg
    have hsp := start_pos hg
    have he0 : u.errF x = 0 := by simpa using hc1
    have hz : u.spAt x = u.nth (u.idx x) := by unfold spAt; rw [if_neg (by simp [he0])]
    have hw := he0
    have hx := map_at spz (nth_at (t := u) hid.1)
    rw [if_neg (by simp [he0])]
    refine AWP.skip ?_
    refine AWP.seq ?_
    refine AWP.anyStill (by kernel_rfl) (by kernel_rfl) ?_
    refine Walk.still (rs := [2]) (by rfl) (by first|simp only[nf,Nat.beq]<;>rfl|rfl) (fun base => by
        refine n_fieldAddr rfl fd188_0 ti186 rfl (by first|simp only[nf,Nat.beq]<;>rfl|rfl) rfl (by first|simp only[nf,Nat.beq]<;>rfl|rfl) ?_
        exact AOps.nil ⟨rfl, rfl, rfl⟩) ?_
    refine Walk.still (rs := [20]) (by rfl) (by first|simp only[nf,Nat.beq]<;>rfl|rfl) (fun base => by
        refine n_load rfl ti186 (by first|simp only[nf,Nat.beq]<;>rfl|rfl) (by first|simp only[nf,Nat.beq]<;>rfl|rfl) rfl (by first|simp only[nf,Nat.beq]<;>rfl|rfl) ?_
        exact AOps.nil ⟨rfl, rfl, rfl⟩) ?_
    refine Walk.still (rs := [7]) (by rfl) (by first|simp only[nf,Nat.beq]<;>rfl|rfl) (fun base => by
        refine n_move rfl (by first|simp only[nf,Nat.beq]<;>rfl|rfl) ?_
        exact AOps.nil ⟨rfl, rfl, rfl⟩) ?_
    refine Walk.still (rs := [21, 22]) (by rfl) (by first|simp only[nf,Nat.beq]<;>rfl|rfl) (fun base => by
        refine n_indexAddr rfl Try.underlying186 ti200 rfl (by first|simp only[nf,Nat.beq]<;>rfl|rfl) (by first|simp only[nf,Nat.beq]<;>rfl|rfl) (by omega) (by exact hx) rfl ?_
        exact AOps.nil ⟨rfl, rfl, rfl⟩) ?_
    refine Walk.still (rs := [23]) (by rfl) (by first|simp only[nf,Nat.beq]<;>rfl|rfl) (fun base => by
        refine n_fieldAddr rfl fd200_0 ti2 rfl (by first|simp only[nf,Nat.beq]<;>rfl|rfl) rfl (by first|simp only[nf,Nat.beq]<;>rfl|rfl) ?_
        exact AOps.nil ⟨rfl, rfl, rfl⟩) ?_
    refine Walk.still (rs := [24]) (by rfl) (by first|simp only[nf,Nat.beq]<;>rfl|rfl) (fun base => by
        refine n_load rfl ti2 (by first|simp only[nf,Nat.beq]<;>rfl|rfl) (by first|simp only[nf,Nat.beq]<;>rfl|rfl) rfl (by first|simp only[nf,Nat.beq]<;>rfl|rfl) ?_
        exact AOps.nil ⟨rfl, rfl, rfl⟩) ?_
    refine Walk.still (rs := [2]) (by rfl) (by first|simp only[nf,Nat.beq]<;>rfl|rfl) (fun base => by
        refine n_fieldAddr rfl fd188_0 ti186 rfl (by first|simp only[nf,Nat.beq]<;>rfl|rfl) rfl (by first|simp only[nf,Nat.beq]<;>rfl|rfl) ?_
        exact AOps.nil ⟨rfl, rfl, rfl⟩) ?_
    refine Walk.still (rs := [26]) (by rfl) (by first|simp only[nf,Nat.beq]<;>rfl|rfl) (fun base => by
        refine n_load rfl ti186 (by first|simp only[nf,Nat.beq]<;>rfl|rfl) (by first|simp only[nf,Nat.beq]<;>rfl|rfl) rfl (by first|simp only[nf,Nat.beq]<;>rfl|rfl) ?_
        exact AOps.nil ⟨rfl, rfl, rfl⟩) ?_
    refine Walk.still (rs := [7]) (by rfl) (by first|simp only[nf,Nat.beq]<;>rfl|rfl) (fun base => by
        refine n_move rfl (by first|simp only[nf,Nat.beq]<;>rfl|rfl) ?_
        exact AOps.nil ⟨rfl, rfl, rfl⟩) ?_
    refine Walk.still (rs := [27, 28]) (by rfl) (by first|simp only[nf,Nat.beq]<;>rfl|rfl) (fun base => by
        refine n_indexAddr rfl Try.underlying186 ti200 rfl (by first|simp only[nf,Nat.beq]<;>rfl|rfl) (by first|simp only[nf,Nat.beq]<;>rfl|rfl) (by omega) (by exact hx) rfl ?_
        exact AOps.nil ⟨rfl, rfl, rfl⟩) ?_
    refine Walk.still (rs := [29]) (by rfl) (by first|simp only[nf,Nat.beq]<;>rfl|rfl) (fun base => by
        refine n_fieldAddr rfl fd200_1 ti3 rfl (by first|simp only[nf,Nat.beq]<;>rfl|rfl) rfl (by first|simp only[nf,Nat.beq]<;>rfl|rfl) ?_
        exact AOps.nil ⟨rfl, rfl, rfl⟩) ?_
    refine Walk.still (rs := [30]) (by rfl) (by first|simp only[nf,Nat.beq]<;>rfl|rfl) (fun base => by
        refine n_load rfl ti3 (by first|simp only[nf,Nat.beq]<;>rfl|rfl) (by first|simp only[nf,Nat.beq]<;>rfl|rfl) rfl (by first|simp only[nf,Nat.beq]<;>rfl|rfl) ?_
        exact AOps.nil ⟨rfl, rfl, rfl⟩) ?_
    refine Walk.still (rs := [25]) (by rfl) (by first|simp only[nf,Nat.beq]<;>rfl|rfl) (fun base => by
        refine n_assign rfl (by first|simp only[nf,Nat.beq]<;>rfl|rfl) ?_
        exact AOps.nil ⟨rfl, rfl, rfl⟩) ?_
    refine Walk.still (rs := [31]) (by rfl) (by first|simp only[nf,Nat.beq]<;>rfl|rfl) (fun base => by
        refine n_assign rfl (by first|simp only[nf,Nat.beq]<;>rfl|rfl) ?_
        exact AOps.nil ⟨rfl, rfl, rfl⟩) ?_
    refine Walk.still (rs := []) (by rfl) (by first|simp only[nf,Nat.beq]<;>rfl|rfl) (fun base => by
        refine n_assign rfl (by first|simp only[nf,Nat.beq]<;>rfl|rfl) ?_
        exact AOps.nil ⟨rfl, rfl, rfl⟩) ?_
    refine Walk.done ?_
    refine AWP.ret ?_
    refine fin_pure (.cons (rv_tmp (by first|simp only[nf,Nat.beq]<;>rfl|rfl)) (.cons (rv_tmp (by first|simp only[nf,Nat.beq]<;>rfl|rfl)) (.cons (rv_tmp (by first|simp only[nf,Nat.beq]<;>rfl|rfl)) .nil))) (by first|simp only[nf,Nat.beq]<;>rfl|rfl) ?_
    rw [← hu, hz, hw]; exact ren_flat rfl rfl

theorem l_off (t : Tb) (x : Int) (hl : t.l.length ≤ 1048576) : Does Try.prog 140 [tz t, vi x] [] (.tup [vi (t.may.off x), vi (t.may.errF x)]) [] := by
  refine Does.of_body (rvs := [.tmp 4, .tmp 5]) Try.func140 rfl rfl rfl rfl ?_
  have hml := may_len (t := t)
  have hm := l_may t hl
  have hg := may_good t
  have hfi := l_find t.may x hg
  obtain ⟨u, hu⟩ : ∃ u, u = t.may := ⟨_, rfl⟩
  rw [← hu] at hm hfi hg hml
  refine AWP.seq ?_
  refine AWP.region ?_
  refine n_box rfl (by first|simp only[nf,Nat.beq]<;>rfl|rfl) rfl rfl (by first|simp only[nf,Nat.beq]<;>rfl|rfl) (by first|simp only[nf,Nat.beq]<;>rfl|rfl) ?_
  refine n_assign rfl (by first|simp only[nf,Nat.beq]<;>rfl|rfl) ?_
  refine n_assign rfl (by first|simp only[nf,Nat.beq]<;>rfl|rfl) ?_
  refine AOps.nil ?_
  refine AWP.seq ?_
  refine AWP.region ?_
  refine n_load rfl ti188 (by first|simp only[nf,Nat.beq]<;>rfl|rfl) (by first|simp only[nf,Nat.beq]<;>rfl|rfl) rfl (by first|simp only[nf,Nat.beq]<;>rfl|rfl) ?_
  refine n_call0B rfl cf226 rfl (Eq.trans (by simp only [nl] <;> rfl) (by first|simp only[nf,Nat.beq]<;>rfl|rfl)) (by repeat (first | exact .nil | refine .cons ?_ ?_ | exact ren_ints | exact .lf (.val _) | exact .lf (lf_ints (.inl rfl)) | exact .bp ⟨rfl, rfl⟩ | exact .bp (.inl ⟨rfl, rfl⟩) | exact .bp (.inr ⟨rfl, rfl⟩) | exact .lf (D.flat_lf rfl) | exact ren_map (f := spz) (fun _ => rfl) | exact .lf (lf_tz _) | exact ren_tz | exact .lf (.fn (fun d h => by cases h) (fun d h => by cases h)))) (hm) (by first | exact .val _ | exact lf_ints (.inl rfl) | exact lf_ints (.inr rfl) | exact .any | exact D.flat_lf rfl | exact lf_map (f := spz) (fun _ => rfl) (.inl rfl) | exact lf_tz _ | exact .tup (lf_cons (lf_tz _) (lf_cons (.val _) lf_nil))) ?_
  refine n_move rfl (by first|simp only[nf,Nat.beq]<;>rfl|rfl) ?_
  refine n_call0B rfl cf225 rfl (Eq.trans (by simp only [nl] <;> rfl) (by first|simp only[nf,Nat.beq]<;>rfl|rfl)) (by repeat (first | exact .nil | refine .cons ?_ ?_ | exact ren_ints | exact .lf (.val _) | exact .lf (lf_ints (.inl rfl)) | exact .bp ⟨rfl, rfl⟩ | exact .bp (.inl ⟨rfl, rfl⟩) | exact .bp (.inr ⟨rfl, rfl⟩) | exact .lf (D.flat_lf rfl) | exact ren_map (f := spz) (fun _ => rfl) | exact .lf (lf_tz _) | exact ren_tz | exact .lf (.fn (fun d h => by cases h) (fun d h => by cases h)))) (hfi) (by first | exact .val _ | exact lf_ints (.inl rfl) | exact lf_ints (.inr rfl) | exact .any | exact D.flat_lf rfl | exact lf_map (f := spz) (fun _ => rfl) (.inl rfl) | exact lf_tz _ | exact .tup (lf_cons (lf_tz _) (lf_cons (.val _) lf_nil))) ?_
  refine n_move rfl (by first|simp only[nf,Nat.beq]<;>rfl|rfl) ?_
  refine n_extract rfl (by first|simp only[nf,Nat.beq]<;>rfl|rfl) rfl ?_
  refine n_extract rfl (by first|simp only[nf,Nat.beq]<;>rfl|rfl) rfl ?_
  refine n_alloc rfl zi200 rfl (by first|simp only[nf,Nat.beq]<;>rfl|rfl) (by first|simp only[nf,Nat.beq]<;>rfl|rfl) ?_
  refine n_store ti200 (by first|simp only[nf,Nat.beq]<;>rfl|rfl) rfl (by first|simp only[nf,Nat.beq]<;>rfl|rfl) rfl (by first|simp only[nf,Nat.beq]<;>rfl|rfl) rfl rfl rfl (by first|simp only[nf,Nat.beq]<;>rfl|rfl) ?_
  refine n_assign rfl (by first|simp only[nf,Nat.beq]<;>rfl|rfl) ?_
  refine AOps.nil ?_
  refine AWP.seq ?_
  refine AWP.seq ?_
  refine AWP.region ?_
  refine n_move rfl (by first|simp only[nf,Nat.beq]<;>rfl|rfl) ?_
  refine n_ibin rfl (by first|simp only[nf,Nat.beq]<;>rfl|rfl) (by first|simp only[nf,Nat.beq]<;>rfl|rfl) rfl ?_
  refine AOps.nil ?_
  refine AWP.cond (by first|simp only[nf,Nat.beq]<;>rfl|rfl) (fun hc1 => ?_) (fun hc1 => ?_)
  · try simp only [nh] at hc1
    have hz : u.off x = 0 := by unfold off; rw [if_pos hc1]
    have hw : u.errF x = u.errF x := rfl
    refine AWP.seq ?_
    refine AWP.region ?_
    refine n_move rfl (by first|simp only[nf,Nat.beq]<;>rfl|rfl) ?_
    refine n_assign rfl (by first|simp only[nf,Nat.beq]<;>rfl|rfl) ?_
    refine n_assign rfl (by first|simp only[nf,Nat.beq]<;>rfl|rfl) ?_
    refine AOps.nil ?_
    refine AWP.ret ?_
    refine fin_pure (.cons (rv_tmp (by first|simp only[nf,Nat.beq]<;>rfl|rfl)) (.cons (rv_tmp (by first|simp only[nf,Nat.beq]<;>rfl|rfl)) .nil)) (by first|simp only[nf,Nat.beq]<;>rfl|rfl) ?_
    rw [← hu, hz, hw]; exact ren_flat rfl rfl
  · try simp only [nh] at hc1
    have hez := errF_zero (by simpa using hc1)
    have hid := idx_in hg hez.1 hez.2
    have hni := nth_in hg hid.1
    have hgn := good_num hg
    have hsp := start_pos hg
    have he0 : u.errF x = 0 := by simpa using hc1
    have hz : u.off x = (u.nth (u.idx x)).o + (x - (u.nth (u.idx x)).p) := by unfold off; rw [if_neg (by simp [he0])]
    have hw := he0
    rw [if_neg (by simp [he0])]
    refine AWP.skip ?_
    refine AWP.seq ?_
    refine AWP.region ?_
    refine n_fieldAddr rfl fd200_3 ti2 rfl (by first|simp only[nf,Nat.beq]<;>rfl|rfl) rfl (by first|simp only[nf,Nat.beq]<;>rfl|rfl) ?_
    refine n_load rfl ti2 (by first|simp only[nf,Nat.beq]<;>rfl|rfl) (by first|simp only[nf,Nat.beq]<;>rfl|rfl) rfl (by first|simp only[nf,Nat.beq]<;>rfl|rfl) ?_
    refine n_move rfl (by first|simp only[nf,Nat.beq]<;>rfl|rfl) ?_
    refine n_fieldAddr rfl fd200_2 ti2 rfl (by first|simp only[nf,Nat.beq]<;>rfl|rfl) rfl (by first|simp only[nf,Nat.beq]<;>rfl|rfl) ?_
    refine n_load rfl ti2 (by first|simp only[nf,Nat.beq]<;>rfl|rfl) (by first|simp only[nf,Nat.beq]<;>rfl|rfl) rfl (by first|simp only[nf,Nat.beq]<;>rfl|rfl) ?_
    first | refine n_isub rfl (by first|simp only[nf,Nat.beq]<;>rfl|rfl) (by first|simp only[nf,Nat.beq]<;>rfl|rfl) rfl (by omega) (by omega) ?_ | refine n_ibin rfl (by first|simp only[nf,Nat.beq]<;>rfl|rfl) (by first|simp only[nf,Nat.beq]<;>rfl|rfl) rfl ?_
    first | refine n_iadd rfl (by first|simp only[nf,Nat.beq]<;>rfl|rfl) (by first|simp only[nf,Nat.beq]<;>rfl|rfl) rfl (by omega) (by omega) ?_ | refine n_ibin rfl (by first|simp only[nf,Nat.beq]<;>rfl|rfl) (by first|simp only[nf,Nat.beq]<;>rfl|rfl) rfl ?_
    refine n_assign rfl (by first|simp only[nf,Nat.beq]<;>rfl|rfl) ?_
    refine n_assign rfl (by first|simp only[nf,Nat.beq]<;>rfl|rfl) ?_
    refine AOps.nil ?_
    refine AWP.ret ?_
    refine fin_pure (.cons (rv_tmp (by first|simp only[nf,Nat.beq]<;>rfl|rfl)) (.cons (rv_tmp (by first|simp only[nf,Nat.beq]<;>rfl|rfl)) .nil)) (by first|simp only[nf,Nat.beq]<;>rfl|rfl) ?_
    rw [← hu, hz, hw]; exact ren_flat rfl rfl

theorem r_off (t : Tb) (x : Int) (hl : t.l.length ≤ 1048576) : Does Try.prog 148 [tz t, vi x] [] (.tup [vi (t.may.off x), vi (t.may.errF x)]) [] := by
  refine Does.of_body (rvs := [.tmp 4, .tmp 5]) Try.func148 rfl rfl rfl rfl ?_
  have hml := may_len (t := t)
  have hm := r_may t hl
  have hg := may_good t
  have hfi := r_find t.may x hg
  obtain ⟨u, hu⟩ : ∃ u, u = t.may := ⟨_, rfl⟩
  rw [← hu] at hm hfi hg hml
  refine AWP.seq ?_
  refine AWP.region ?_
  refine n_box rfl (by first|simp only[nf,Nat.beq]<;>rfl|rfl) rfl rfl (by first|simp only[nf,Nat.beq]<;>rfl|rfl) (by first|simp only[nf,Nat.beq]<;>rfl|rfl) ?_
  refine n_assign rfl (by first|simp only[nf,Nat.beq]<;>rfl|rfl) ?_
  refine n_assign rfl (by first|simp only[nf,Nat.beq]<;>rfl|rfl) ?_
  refine AOps.nil ?_
  refine AWP.seq ?_
  refine AWP.region ?_
  refine n_load rfl ti188 (by first|simp only[nf,Nat.beq]<;>rfl|rfl) (by first|simp only[nf,Nat.beq]<;>rfl|rfl) rfl (by first|simp only[nf,Nat.beq]<;>rfl|rfl) ?_
  refine n_call0B rfl cf232 rfl (Eq.trans (by simp only [nl] <;> rfl) (by first|simp only[nf,Nat.beq]<;>rfl|rfl)) (by repeat (first | exact .nil | refine .cons ?_ ?_ | exact ren_ints | exact .lf (.val _) | exact .lf (lf_ints (.inl rfl)) | exact .bp ⟨rfl, rfl⟩ | exact .bp (.inl ⟨rfl, rfl⟩) | exact .bp (.inr ⟨rfl, rfl⟩) | exact .lf (D.flat_lf rfl) | exact ren_map (f := spz) (fun _ => rfl) | exact .lf (lf_tz _) | exact ren_tz | exact .lf (.fn (fun d h => by cases h) (fun d h => by cases h)))) (hm) (by first | exact .val _ | exact lf_ints (.inl rfl) | exact lf_ints (.inr rfl) | exact .any | exact D.flat_lf rfl | exact lf_map (f := spz) (fun _ => rfl) (.inl rfl) | exact lf_tz _ | exact .tup (lf_cons (lf_tz _) (lf_cons (.val _) lf_nil))) ?_
  refine n_store ti188 (by first|simp only[nf,Nat.beq]<;>rfl|rfl) rfl (by first|simp only[nf,Nat.beq]<;>rfl|rfl) rfl (by first|simp only[nf,Nat.beq]<;>rfl|rfl) rfl rfl rfl (by first|simp only[nf,Nat.beq]<;>rfl|rfl) ?_
  refine AOps.nil ?_
  refine AWP.seq ?_
  refine AWP.region ?_
  refine n_load rfl ti188 (by first|simp only[nf,Nat.beq]<;>rfl|rfl) (by first|simp only[nf,Nat.beq]<;>rfl|rfl) rfl (by first|simp only[nf,Nat.beq]<;>rfl|rfl) ?_
  refine n_move rfl (by first|simp only[nf,Nat.beq]<;>rfl|rfl) ?_
  refine n_call0B rfl cf237 rfl (Eq.trans (by simp only [nl] <;> rfl) (by first|simp only[nf,Nat.beq]<;>rfl|rfl)) (by repeat (first | exact .nil | refine .cons ?_ ?_ | exact ren_ints | exact .lf (.val _) | exact .lf (lf_ints (.inl rfl)) | exact .bp ⟨rfl, rfl⟩ | exact .bp (.inl ⟨rfl, rfl⟩) | exact .bp (.inr ⟨rfl, rfl⟩) | exact .lf (D.flat_lf rfl) | exact ren_map (f := spz) (fun _ => rfl) | exact .lf (lf_tz _) | exact ren_tz | exact .lf (.fn (fun d h => by cases h) (fun d h => by cases h)))) (hfi) (by first | exact .val _ | exact lf_ints (.inl rfl) | exact lf_ints (.inr rfl) | exact .any | exact D.flat_lf rfl | exact lf_map (f := spz) (fun _ => rfl) (.inl rfl) | exact lf_tz _ | exact .tup (lf_cons (lf_tz _) (lf_cons (.val _) lf_nil))) ?_
  refine n_move rfl (by first|simp only[nf,Nat.beq]<;>rfl|rfl) ?_
  refine n_extract rfl (by first|simp only[nf,Nat.beq]<;>rfl|rfl) rfl ?_
  refine n_extract rfl (by first|simp only[nf,Nat.beq]<;>rfl|rfl) rfl ?_
  refine n_assign rfl (by first|simp only[nf,Nat.beq]<;>rfl|rfl) ?_
  refine n_assign rfl (by first|simp only[nf,Nat.beq]<;>rfl|rfl) ?_
  refine AOps.nil ?_
  refine AWP.seq ?_
  refine AWP.seq ?_
  refine AWP.region ?_
  refine n_move rfl (by first|simp only[nf,Nat.beq]<;>rfl|rfl) ?_
  refine n_ibin rfl (by first|simp only[nf,Nat.beq]<;>rfl|rfl) (by first|simp only[nf,Nat.beq]<;>rfl|rfl) rfl ?_
  refine AOps.nil ?_
  refine AWP.cond (by first|simp only[nf,Nat.beq]<;>rfl|rfl) (fun hc1 => ?_) (fun hc1 => ?_)
  · try simp only [nh] at hc1
    have hz : u.off x = 0 := by unfold off; rw [if_pos hc1]
    have hw : u.errF x = u.errF x := rfl
    refine AWP.seq ?_
    refine AWP.region ?_
    refine n_move rfl (by first|simp only[nf,Nat.beq]<;>rfl|rfl) ?_
    refine n_assign rfl (by first|simp only[nf,Nat.beq]<;>rfl|rfl) ?_
    refine n_assign rfl (by first|simp only[nf,Nat.beq]<;>rfl|rfl) ?_
    refine AOps.nil ?_
    refine AWP.ret ?_
    refine fin_pure (.cons (rv_tmp (by first|simp only[nf,Nat.beq]<;>rfl|rfl)) (.cons (rv_tmp (by first|simp only[nf,Nat.beq]<;>rfl|rfl)) .nil)) (by first|simp only[nf,Nat.beq]<;>rfl|rfl) ?_
    rw [← hu, hz, hw]; exact ren_flat rfl rfl
  · try simp only [nh] at hc1
    have hez := errF_zero (by simpa using hc1)
    have hid := idx_in hg hez.1 hez.2
    have hni := nth_in hg hid.1
    have hgn := good_num hg
    have hsp := start_pos hg
    have he0 : u.errF x = 0 := by simpa using hc1
    have hz : u.off x = (u.nth (u.idx x)).o + (x - (u.nth (u.idx x)).p) := by unfold off; rw [if_neg (by simp [he0])]
    have hw := he0
    have hx := map_at spz (nth_at (t := u) hid.1)
    rw [if_neg (by simp [he0])]
    refine AWP.skip ?_
    refine AWP.seq ?_
    refine AWP.anyStill (by kernel_rfl) (by kernel_rfl) ?_
    refine Walk.still (rs := [2]) (by rfl) (by first|simp only[nf,Nat.beq]<;>rfl|rfl) (fun base => by
        refine n_fieldAddr rfl fd188_0 ti186 rfl (by first|simp only[nf,Nat.beq]<;>rfl|rfl) rfl (by first|simp only[nf,Nat.beq]<;>rfl|rfl) ?_
        exact AOps.nil ⟨rfl, rfl, rfl⟩) ?_
    refine Walk.still (rs := [19]) (by rfl) (by first|simp only[nf,Nat.beq]<;>rfl|rfl) (fun base => by
        refine n_load rfl ti186 (by first|simp only[nf,Nat.beq]<;>rfl|rfl) (by first|simp only[nf,Nat.beq]<;>rfl|rfl) rfl (by first|simp only[nf,Nat.beq]<;>rfl|rfl) ?_
        exact AOps.nil ⟨rfl, rfl, rfl⟩) ?_
    refine Walk.still (rs := [6]) (by rfl) (by first|simp only[nf,Nat.beq]<;>rfl|rfl) (fun base => by
        refine n_move rfl (by first|simp only[nf,Nat.beq]<;>rfl|rfl) ?_
        exact AOps.nil ⟨rfl, rfl, rfl⟩) ?_
    refine Walk.still (rs := [20, 21]) (by rfl) (by first|simp only[nf,Nat.beq]<;>rfl|rfl) (fun base => by
        refine n_indexAddr rfl Try.underlying186 ti200 rfl (by first|simp only[nf,Nat.beq]<;>rfl|rfl) (by first|simp only[nf,Nat.beq]<;>rfl|rfl) (by omega) (by exact hx) rfl ?_
        exact AOps.nil ⟨rfl, rfl, rfl⟩) ?_
    refine Walk.still (rs := [22]) (by rfl) (by first|simp only[nf,Nat.beq]<;>rfl|rfl) (fun base => by
        refine n_fieldAddr rfl fd200_3 ti2 rfl (by first|simp only[nf,Nat.beq]<;>rfl|rfl) rfl (by first|simp only[nf,Nat.beq]<;>rfl|rfl) ?_
        exact AOps.nil ⟨rfl, rfl, rfl⟩) ?_
    refine Walk.still (rs := [23]) (by rfl) (by first|simp only[nf,Nat.beq]<;>rfl|rfl) (fun base => by
        refine n_load rfl ti2 (by first|simp only[nf,Nat.beq]<;>rfl|rfl) (by first|simp only[nf,Nat.beq]<;>rfl|rfl) rfl (by first|simp only[nf,Nat.beq]<;>rfl|rfl) ?_
        exact AOps.nil ⟨rfl, rfl, rfl⟩) ?_
    refine Walk.still (rs := [1]) (by rfl) (by first|simp only[nf,Nat.beq]<;>rfl|rfl) (fun base => by
        refine n_move rfl (by first|simp only[nf,Nat.beq]<;>rfl|rfl) ?_
        exact AOps.nil ⟨rfl, rfl, rfl⟩) ?_
    refine Walk.still (rs := [2]) (by rfl) (by first|simp only[nf,Nat.beq]<;>rfl|rfl) (fun base => by
        refine n_fieldAddr rfl fd188_0 ti186 rfl (by first|simp only[nf,Nat.beq]<;>rfl|rfl) rfl (by first|simp only[nf,Nat.beq]<;>rfl|rfl) ?_
        exact AOps.nil ⟨rfl, rfl, rfl⟩) ?_
    refine Walk.still (rs := [26]) (by rfl) (by first|simp only[nf,Nat.beq]<;>rfl|rfl) (fun base => by
        refine n_load rfl ti186 (by first|simp only[nf,Nat.beq]<;>rfl|rfl) (by first|simp only[nf,Nat.beq]<;>rfl|rfl) rfl (by first|simp only[nf,Nat.beq]<;>rfl|rfl) ?_
        exact AOps.nil ⟨rfl, rfl, rfl⟩) ?_
    refine Walk.still (rs := [6]) (by rfl) (by first|simp only[nf,Nat.beq]<;>rfl|rfl) (fun base => by
        refine n_move rfl (by first|simp only[nf,Nat.beq]<;>rfl|rfl) ?_
        exact AOps.nil ⟨rfl, rfl, rfl⟩) ?_
    refine Walk.still (rs := [27, 28]) (by rfl) (by first|simp only[nf,Nat.beq]<;>rfl|rfl) (fun base => by
        refine n_indexAddr rfl Try.underlying186 ti200 rfl (by first|simp only[nf,Nat.beq]<;>rfl|rfl) (by first|simp only[nf,Nat.beq]<;>rfl|rfl) (by omega) (by exact hx) rfl ?_
        exact AOps.nil ⟨rfl, rfl, rfl⟩) ?_
    refine Walk.still (rs := [29]) (by rfl) (by first|simp only[nf,Nat.beq]<;>rfl|rfl) (fun base => by
        refine n_fieldAddr rfl fd200_2 ti2 rfl (by first|simp only[nf,Nat.beq]<;>rfl|rfl) rfl (by first|simp only[nf,Nat.beq]<;>rfl|rfl) ?_
        exact AOps.nil ⟨rfl, rfl, rfl⟩) ?_
    refine Walk.still (rs := [30]) (by rfl) (by first|simp only[nf,Nat.beq]<;>rfl|rfl) (fun base => by
        refine n_load rfl ti2 (by first|simp only[nf,Nat.beq]<;>rfl|rfl) (by first|simp only[nf,Nat.beq]<;>rfl|rfl) rfl (by first|simp only[nf,Nat.beq]<;>rfl|rfl) ?_
        exact AOps.nil ⟨rfl, rfl, rfl⟩) ?_
    refine Walk.still (rs := [25, 31]) (by rfl) (by first|simp only[nf,Nat.beq]<;>rfl|rfl) (fun base => by
        first | refine n_isub rfl (by first|simp only[nf,Nat.beq]<;>rfl|rfl) (by first|simp only[nf,Nat.beq]<;>rfl|rfl) rfl (by omega) (by omega) ?_ | refine n_ibin rfl (by first|simp only[nf,Nat.beq]<;>rfl|rfl) (by first|simp only[nf,Nat.beq]<;>rfl|rfl) rfl ?_
        exact AOps.nil ⟨rfl, rfl, rfl⟩) ?_
    refine Walk.still (rs := [24, 32]) (by rfl) (by first|simp only[nf,Nat.beq]<;>rfl|rfl) (fun base => by
        first | refine n_iadd rfl (by first|simp only[nf,Nat.beq]<;>rfl|rfl) (by first|simp only[nf,Nat.beq]<;>rfl|rfl) rfl (by omega) (by omega) ?_ | refine n_ibin rfl (by first|simp only[nf,Nat.beq]<;>rfl|rfl) (by first|simp only[nf,Nat.beq]<;>rfl|rfl) rfl ?_
        exact AOps.nil ⟨rfl, rfl, rfl⟩) ?_
    refine Walk.still (rs := [33]) (by rfl) (by first|simp only[nf,Nat.beq]<;>rfl|rfl) (fun base => by
        refine n_assign rfl (by first|simp only[nf,Nat.beq]<;>rfl|rfl) ?_
        exact AOps.nil ⟨rfl, rfl, rfl⟩) ?_
    refine Walk.still (rs := []) (by rfl) (by first|simp only[nf,Nat.beq]<;>rfl|rfl) (fun base => by
        refine n_assign rfl (by first|simp only[nf,Nat.beq]<;>rfl|rfl) ?_
        exact AOps.nil ⟨rfl, rfl, rfl⟩) ?_
    refine Walk.done ?_
    refine AWP.ret ?_
    refine fin_pure (.cons (rv_tmp (by first|simp only[nf,Nat.beq]<;>rfl|rfl)) (.cons (rv_tmp (by first|simp only[nf,Nat.beq]<;>rfl|rfl)) .nil)) (by first|simp only[nf,Nat.beq]<;>rfl|rfl) ?_
    rw [← hu, hz, hw]; exact ren_flat rfl rfl

set_option maxHeartbeats 2000000 in
theorem r_pos (t : Tb) (x : Int) (hl : t.l.length ≤ 1048576) : Does Try.prog 250 [tz t, vi x] [] (.tup [vi (t.may.pos x), vi (t.may.errP x)]) [] := by
  refine Does.of_body (rvs := [.tmp 4, .tmp 5]) Try.func250 rfl rfl rfl rfl ?_
  have hml := may_len (t := t)
  have hm := r_may t hl
  have hg := may_good t
  obtain ⟨u, hu⟩ : ∃ u, u = t.may := ⟨_, rfl⟩
  rw [← hu] at hm hg hml
  have hgn := good_num hg
  refine AWP.seq ?_
  refine AWP.region ?_
  refine n_box rfl (by first|simp only[nf,Nat.beq]<;>rfl|rfl) rfl rfl (by first|simp only[nf,Nat.beq]<;>rfl|rfl) (by first|simp only[nf,Nat.beq]<;>rfl|rfl) ?_
  refine n_assign rfl (by first|simp only[nf,Nat.beq]<;>rfl|rfl) ?_
  refine n_assign rfl (by first|simp only[nf,Nat.beq]<;>rfl|rfl) ?_
  refine AOps.nil ?_
  refine AWP.seq ?_
  refine AWP.region ?_
  refine n_load rfl ti188 (by first|simp only[nf,Nat.beq]<;>rfl|rfl) (by first|simp only[nf,Nat.beq]<;>rfl|rfl) rfl (by first|simp only[nf,Nat.beq]<;>rfl|rfl) ?_
  refine n_call0B rfl cf232 rfl (Eq.trans (by simp only [nl] <;> rfl) (by first|simp only[nf,Nat.beq]<;>rfl|rfl)) (by repeat (first | exact .nil | refine .cons ?_ ?_ | exact ren_ints | exact .lf (.val _) | exact .lf (lf_ints (.inl rfl)) | exact .bp ⟨rfl, rfl⟩ | exact .bp (.inl ⟨rfl, rfl⟩) | exact .bp (.inr ⟨rfl, rfl⟩) | exact .lf (D.flat_lf rfl) | exact ren_map (f := spz) (fun _ => rfl) | exact .lf (lf_tz _) | exact ren_tz | exact .lf (.fn (fun d h => by cases h) (fun d h => by cases h)))) (hm) (by first | exact .val _ | exact lf_ints (.inl rfl) | exact lf_ints (.inr rfl) | exact .any | exact D.flat_lf rfl | exact lf_map (f := spz) (fun _ => rfl) (.inl rfl) | exact lf_tz _ | exact .tup (lf_cons (lf_tz _) (lf_cons (.val _) lf_nil))) ?_
  refine n_store ti188 (by first|simp only[nf,Nat.beq]<;>rfl|rfl) rfl (by first|simp only[nf,Nat.beq]<;>rfl|rfl) rfl (by first|simp only[nf,Nat.beq]<;>rfl|rfl) rfl rfl rfl (by first|simp only[nf,Nat.beq]<;>rfl|rfl) ?_
  refine AOps.nil ?_
  refine AWP.seq ?_
  refine AWP.seq ?_
  refine AWP.region ?_
  refine n_fieldAddr rfl fd188_0 ti186 rfl (by first|simp only[nf,Nat.beq]<;>rfl|rfl) rfl (by first|simp only[nf,Nat.beq]<;>rfl|rfl) ?_
  refine n_load rfl ti186 (by first|simp only[nf,Nat.beq]<;>rfl|rfl) (by first|simp only[nf,Nat.beq]<;>rfl|rfl) rfl (by first|simp only[nf,Nat.beq]<;>rfl|rfl) ?_
  refine n_len rfl Try.underlying186 (by first|simp only[nf,Nat.beq]<;>rfl|rfl) (by first | rw [ints_length] | rw [List.length_map] | rfl) ?_
  refine n_ibin rfl (by first|simp only[nf,Nat.beq]<;>rfl|rfl) (by first|simp only[nf,Nat.beq]<;>rfl|rfl) rfl ?_
  refine n_move rfl (by first|simp only[nf,Nat.beq]<;>rfl|rfl) ?_
  refine AOps.split (u := 13) (by first|simp only[nf,Nat.beq]<;>rfl|rfl) (fun hg1 => ?_) (fun hg1 => ?_)
  · try simp only [nh] at hg1
    have hz := pos_first (t := u) (x := x) (.inl (by omega))
    refine n_guard_no rfl rfl rfl (by first|simp only[nf,Nat.beq]<;>rfl|rfl) rfl ?_
    refine n_guard_no rfl rfl rfl (by first|simp only[nf,Nat.beq]<;>rfl|rfl) rfl ?_
    refine n_guard_no rfl rfl rfl (by first|simp only[nf,Nat.beq]<;>rfl|rfl) rfl ?_
    refine n_guard_no rfl rfl rfl (by first|simp only[nf,Nat.beq]<;>rfl|rfl) rfl ?_
    refine n_guard_no rfl rfl rfl (by first|simp only[nf,Nat.beq]<;>rfl|rfl) rfl ?_
    refine n_guard_no rfl rfl rfl (by first|simp only[nf,Nat.beq]<;>rfl|rfl) rfl ?_
    refine n_guard_no rfl rfl rfl (by first|simp only[nf,Nat.beq]<;>rfl|rfl) rfl ?_
    refine n_pick rfl (by first|simp only[nf,Nat.beq]<;>rfl|rfl) (by first|simp only[nf,Nat.beq]<;>rfl|rfl) ?_
    refine AOps.nil ?_
    refine AWP.cond_true (by first|simp only[nf,Nat.beq]<;>rfl|rfl) ?_
    refine AWP.seq ?_
    refine AWP.region ?_
    refine n_assign rfl (by first|simp only[nf,Nat.beq]<;>rfl|rfl) ?_
    refine n_assign rfl (by first|simp only[nf,Nat.beq]<;>rfl|rfl) ?_
    refine AOps.nil ?_
    refine AWP.ret ?_
    refine fin_pure (.cons (rv_tmp (by first|simp only[nf,Nat.beq]<;>rfl|rfl)) (.cons (rv_tmp (by first|simp only[nf,Nat.beq]<;>rfl|rfl)) .nil)) (by first|simp only[nf,Nat.beq]<;>rfl|rfl) ?_
    rw [← hu, hz.1, hz.2]; exact ren_flat rfl rfl
  · try simp only [nh] at hg1
    have hlp : 0 < u.l.length := by omega
    have hx0 := map_at spz (nth_at (t := u) hlp)
    refine n_guard_yes rfl rfl rfl (by first|simp only[nf,Nat.beq]<;>rfl|rfl) rfl ?_
    refine n_move rfl (by first|simp only[nf,Nat.beq]<;>rfl|rfl) ?_
    refine n_guard_yes rfl rfl rfl (by first|simp only[nf,Nat.beq]<;>rfl|rfl) rfl ?_
    refine n_fieldAddr rfl fd188_0 ti186 rfl (by first|simp only[nf,Nat.beq]<;>rfl|rfl) rfl (by first|simp only[nf,Nat.beq]<;>rfl|rfl) ?_
    refine n_guard_yes rfl rfl rfl (by first|simp only[nf,Nat.beq]<;>rfl|rfl) rfl ?_
    refine n_load rfl ti186 (by first|simp only[nf,Nat.beq]<;>rfl|rfl) (by first|simp only[nf,Nat.beq]<;>rfl|rfl) rfl (by first|simp only[nf,Nat.beq]<;>rfl|rfl) ?_
    refine n_guard_yes rfl rfl rfl (by first|simp only[nf,Nat.beq]<;>rfl|rfl) rfl ?_
    refine n_indexAddr rfl Try.underlying186 ti200 rfl (by first|simp only[nf,Nat.beq]<;>rfl|rfl) (by first|simp only[nf,Nat.beq]<;>rfl|rfl) (by omega) (by exact hx0) rfl ?_
    refine n_guard_yes rfl rfl rfl (by first|simp only[nf,Nat.beq]<;>rfl|rfl) rfl ?_
    refine n_fieldAddr rfl fd200_3 ti2 rfl (by first|simp only[nf,Nat.beq]<;>rfl|rfl) rfl (by first|simp only[nf,Nat.beq]<;>rfl|rfl) ?_
    refine n_guard_yes rfl rfl rfl (by first|simp only[nf,Nat.beq]<;>rfl|rfl) rfl ?_
    refine n_load rfl ti2 (by first|simp only[nf,Nat.beq]<;>rfl|rfl) (by first|simp only[nf,Nat.beq]<;>rfl|rfl) rfl (by first|simp only[nf,Nat.beq]<;>rfl|rfl) ?_
    refine n_guard_yes rfl rfl rfl (by first|simp only[nf,Nat.beq]<;>rfl|rfl) rfl ?_
    refine n_ibin rfl (by first|simp only[nf,Nat.beq]<;>rfl|rfl) (by first|simp only[nf,Nat.beq]<;>rfl|rfl) rfl ?_
    refine n_pick rfl (by first|simp only[nf,Nat.beq]<;>rfl|rfl) (by first|simp only[nf,Nat.beq]<;>rfl|rfl) ?_
    refine AOps.nil ?_
    refine AWP.cond (by first|simp only[nf,Nat.beq]<;>rfl|rfl) (fun hc3 => ?_) (fun hc3 => ?_)
    · try simp only [nh] at hc3
      have hz := pos_first (t := u) (x := x) (.inr (by simpa using hc3))
      refine AWP.seq ?_
      refine AWP.region ?_
      refine n_assign rfl (by first|simp only[nf,Nat.beq]<;>rfl|rfl) ?_
      refine n_assign rfl (by first|simp only[nf,Nat.beq]<;>rfl|rfl) ?_
      refine AOps.nil ?_
      refine AWP.ret ?_
      refine fin_pure (.cons (rv_tmp (by first|simp only[nf,Nat.beq]<;>rfl|rfl)) (.cons (rv_tmp (by first|simp only[nf,Nat.beq]<;>rfl|rfl)) .nil)) (by first|simp only[nf,Nat.beq]<;>rfl|rfl) ?_
      rw [← hu, hz.1, hz.2]; exact ren_flat rfl rfl
    · try simp only [nh] at hc3
      have hfo : ¬ (u.l.length = 0 ∨ x < (u.nth 0).o) := by simp at hc3; omega
      refine AWP.skip ?_
      refine AWP.seq ?_
      refine AWP.seq ?_
      refine AWP.region ?_
      refine n_assign rfl (by first|simp only[nf,Nat.beq]<;>rfl|rfl) ?_
      refine AOps.nil ?_
      refine AWP.block ?_
      refine AWP.loop (α := Nat) (fun i => i ≤ u.l.length ∧ ∀ j, j < i → ¬ u.oin x j) (fun i => put (put (put empty 1 (vi x)) 2 (.bp 0 0)) 6 (vi (i : Int))) (fun _ => [.box [(.sl none (u.l.map spz) .ro), vi u.n]]) (fun i => u.l.length - i) 0 ?_ ?_ ?_ ?_
      · exact ⟨Nat.zero_le _, fun j h => by omega⟩
      · (repeat (first | exact FLe.empty _ | refine FLe.put ?_ ?_)) <;> first | (simp only [nf, Nat.beq]; done) | rfl | ((try simp only [nf, Nat.beq]); first | rfl | (simp only [List.length_map]; done) | (congr 2; omega; done))
      · rfl
      · rintro i ⟨hi, hj⟩
        try dsimp only at hi hj ⊢
        refine AWP.seq ?_
        refine AWP.seq ?_
        refine AWP.region ?_
        refine n_move rfl (by first|simp only[nf,Nat.beq]<;>rfl|rfl) ?_
        refine n_fieldAddr rfl fd188_0 ti186 rfl (by first|simp only[nf,Nat.beq]<;>rfl|rfl) rfl (by first|simp only[nf,Nat.beq]<;>rfl|rfl) ?_
        refine n_load rfl ti186 (by first|simp only[nf,Nat.beq]<;>rfl|rfl) (by first|simp only[nf,Nat.beq]<;>rfl|rfl) rfl (by first|simp only[nf,Nat.beq]<;>rfl|rfl) ?_
        refine n_len rfl Try.underlying186 (by first|simp only[nf,Nat.beq]<;>rfl|rfl) (by first | rw [ints_length] | rw [List.length_map] | rfl) ?_
        refine n_ibin rfl (by first|simp only[nf,Nat.beq]<;>rfl|rfl) (by first|simp only[nf,Nat.beq]<;>rfl|rfl) rfl ?_
        refine AOps.nil ?_
        refine AWP.cond (by first|simp only[nf,Nat.beq]<;>rfl|rfl) (fun hc4 => ?_) (fun hc4 => ?_)
        · try simp only [nh] at hc4
          have hil : i < u.l.length := by omega
          have hx := map_at spz (nth_at (t := u) hil)
          have hla := r_last u i (single_in (num_iff.2 hgn.1) hil (okAt_iff.1 (good_at hg hil)).1) (by omega)
          have hni := nth_in hg hil
          have hlb := single_last (num_iff.2 hgn.1) hil (okAt_iff.1 (good_at hg hil)).1
          refine AWP.skip ?_
          refine AWP.seq ?_
          refine AWP.block ?_
          refine AWP.seq ?_
          refine AWP.region ?_
          refine n_move rfl (by first|simp only[nf,Nat.beq]<;>rfl|rfl) ?_
          refine n_fieldAddr rfl fd188_0 ti186 rfl (by first|simp only[nf,Nat.beq]<;>rfl|rfl) rfl (by first|simp only[nf,Nat.beq]<;>rfl|rfl) ?_
          refine n_load rfl ti186 (by first|simp only[nf,Nat.beq]<;>rfl|rfl) (by first|simp only[nf,Nat.beq]<;>rfl|rfl) rfl (by first|simp only[nf,Nat.beq]<;>rfl|rfl) ?_
          refine n_move rfl (by first|simp only[nf,Nat.beq]<;>rfl|rfl) ?_
          refine n_indexAddr rfl Try.underlying186 ti200 rfl (by first|simp only[nf,Nat.beq]<;>rfl|rfl) (by first|simp only[nf,Nat.beq]<;>rfl|rfl) (by omega) (by exact hx) rfl ?_
          refine n_fieldAddr rfl fd200_3 ti2 rfl (by first|simp only[nf,Nat.beq]<;>rfl|rfl) rfl (by first|simp only[nf,Nat.beq]<;>rfl|rfl) ?_
          refine n_load rfl ti2 (by first|simp only[nf,Nat.beq]<;>rfl|rfl) (by first|simp only[nf,Nat.beq]<;>rfl|rfl) rfl (by first|simp only[nf,Nat.beq]<;>rfl|rfl) ?_
          refine n_ibin rfl (by first|simp only[nf,Nat.beq]<;>rfl|rfl) (by first|simp only[nf,Nat.beq]<;>rfl|rfl) rfl ?_
          refine n_move rfl (by first|simp only[nf,Nat.beq]<;>rfl|rfl) ?_
          refine AOps.name (u := 37) (fun z => .val (.bool z)) (by first|simp only[nf,Nat.beq]<;>rfl|rfl) (fun b37 hb37 => ?_)
          refine n_soft (u := 37) (E := .val (.bool b37)) (b37) rfl rfl rfl (by first|simp only[nf,Nat.beq]<;>rfl|rfl) (by cases b37 <;> first | (intro _; rfl) | (intro h; exact absurd h (by decide))) (by cases b37 <;> first | (intro h; exact absurd h (by decide)) | (intro _; exact ⟨_, rfl, by first | (intro h; cases h; done) | decide | simp⟩)) (fun h => by
              cases b37 with
              | false => exact absurd h (by first | decide | simp)
              | true =>
                refine n_move rfl (by first|simp only[nf,Nat.beq]<;>rfl|rfl) ?_
                exact AOps.nil ⟨rfl, rfl, rfl⟩) ?_
          refine n_soft (u := 37) (E := .val (.bool b37)) (b37) rfl rfl rfl (by first|simp only[nf,Nat.beq]<;>rfl|rfl) (by cases b37 <;> first | (intro _; rfl) | (intro h; exact absurd h (by decide))) (by cases b37 <;> first | (intro h; exact absurd h (by decide)) | (intro _; exact ⟨_, rfl, by first | (intro h; cases h; done) | decide | simp⟩)) (fun h => by
              cases b37 with
              | false => exact absurd h (by first | decide | simp)
              | true =>
                refine n_load rfl ti188 (by first|simp only[nf,Nat.beq]<;>rfl|rfl) (by first|simp only[nf,Nat.beq]<;>rfl|rfl) rfl (by first|simp only[nf,Nat.beq]<;>rfl|rfl) ?_
                exact AOps.nil ⟨rfl, rfl, rfl⟩) ?_
          refine n_soft (u := 37) (E := .val (.bool b37)) (b37) rfl rfl rfl (by first|simp only[nf,Nat.beq]<;>rfl|rfl) (by cases b37 <;> first | (intro _; rfl) | (intro h; exact absurd h (by decide))) (by cases b37 <;> first | (intro h; exact absurd h (by decide)) | (intro _; exact ⟨_, rfl, by first | (intro h; cases h; done) | decide | simp⟩)) (fun h => by
              cases b37 with
              | false => exact absurd h (by first | decide | simp)
              | true =>
                refine n_move rfl (by first|simp only[nf,Nat.beq]<;>rfl|rfl) ?_
                exact AOps.nil ⟨rfl, rfl, rfl⟩) ?_
          refine n_soft (u := 37) (E := .val (.bool b37)) (b37) rfl rfl rfl (by first|simp only[nf,Nat.beq]<;>rfl|rfl) (by cases b37 <;> first | (intro _; rfl) | (intro h; exact absurd h (by decide))) (by cases b37 <;> first | (intro h; exact absurd h (by decide)) | (intro _; exact ⟨_, rfl, by first | (intro h; cases h; done) | decide | simp⟩)) (fun h => by
              cases b37 with
              | false => exact absurd h (by first | decide | simp)
              | true =>
                refine n_call0B rfl cf235 rfl (Eq.trans (by simp only [nl] <;> rfl) (by first|simp only[nf,Nat.beq]<;>rfl|rfl)) (by repeat (first | exact .nil | refine .cons ?_ ?_ | exact ren_ints | exact .lf (.val _) | exact .lf (lf_ints (.inl rfl)) | exact .bp ⟨rfl, rfl⟩ | exact .bp (.inl ⟨rfl, rfl⟩) | exact .bp (.inr ⟨rfl, rfl⟩) | exact .lf (D.flat_lf rfl) | exact ren_map (f := spz) (fun _ => rfl) | exact .lf (lf_tz _) | exact ren_tz | exact .lf (.fn (fun d h => by cases h) (fun d h => by cases h)))) (hla) (by first | exact .val _ | exact lf_ints (.inl rfl) | exact lf_ints (.inr rfl) | exact .any | exact D.flat_lf rfl | exact lf_map (f := spz) (fun _ => rfl) (.inl rfl) | exact lf_tz _ | exact .tup (lf_cons (lf_tz _) (lf_cons (.val _) lf_nil))) ?_
                exact AOps.nil ⟨rfl, rfl, rfl⟩) ?_
          refine n_soft (u := 37) (E := .val (.bool b37)) (b37) rfl rfl rfl (by first|simp only[nf,Nat.beq]<;>rfl|rfl) (by cases b37 <;> first | (intro _; rfl) | (intro h; exact absurd h (by decide))) (by cases b37 <;> first | (intro h; exact absurd h (by decide)) | (intro _; exact ⟨_, rfl, by first | (intro h; cases h; done) | decide | simp⟩)) (fun h => by
              cases b37 with
              | false => exact absurd h (by first | decide | simp)
              | true =>
                refine n_ibin rfl (by first|simp only[nf,Nat.beq]<;>rfl|rfl) (by first|simp only[nf,Nat.beq]<;>rfl|rfl) rfl ?_
                exact AOps.nil ⟨rfl, rfl, rfl⟩) ?_
          refine n_pick_and rfl (by first|simp only[nf,Nat.beq]<;>rfl|rfl) (fun h => by cases b37 with | false => exact absurd h (by decide) | true => exact (by first|simp only[nf,Nat.beq]<;>rfl|rfl)) ?_
          subst hb37
          refine AOps.nil ?_
          refine AWP.cond (by first|simp only[nf,Nat.beq]<;>rfl|rfl) (fun hc5 => ?_) (fun hc5 => ?_)
          · try simp only [nh] at hc5
            have ho : u.oin x i := by unfold oin; simp at hc5; omega
            have hz := pos_found hg hil ho
            obtain ⟨ho1, ho2⟩ := ho
            refine AWP.seq ?_
            refine AWP.anyStill (by kernel_rfl) (by kernel_rfl) ?_
            refine Walk.still (rs := [2]) (by rfl) (by first|simp only[nf,Nat.beq]<;>rfl|rfl) (fun base => by
                refine n_fieldAddr rfl fd188_0 ti186 rfl (by first|simp only[nf,Nat.beq]<;>rfl|rfl) rfl (by first|simp only[nf,Nat.beq]<;>rfl|rfl) ?_
                exact AOps.nil ⟨rfl, rfl, rfl⟩) ?_
            refine Walk.still (rs := [44]) (by rfl) (by first|simp only[nf,Nat.beq]<;>rfl|rfl) (fun base => by
                refine n_load rfl ti186 (by first|simp only[nf,Nat.beq]<;>rfl|rfl) (by first|simp only[nf,Nat.beq]<;>rfl|rfl) rfl (by first|simp only[nf,Nat.beq]<;>rfl|rfl) ?_
                exact AOps.nil ⟨rfl, rfl, rfl⟩) ?_
            refine Walk.still (rs := [6]) (by rfl) (by first|simp only[nf,Nat.beq]<;>rfl|rfl) (fun base => by
                refine n_move rfl (by first|simp only[nf,Nat.beq]<;>rfl|rfl) ?_
                exact AOps.nil ⟨rfl, rfl, rfl⟩) ?_
            refine Walk.still (rs := [45, 46]) (by rfl) (by first|simp only[nf,Nat.beq]<;>rfl|rfl) (fun base => by
                refine n_indexAddr rfl Try.underlying186 ti200 rfl (by first|simp only[nf,Nat.beq]<;>rfl|rfl) (by first|simp only[nf,Nat.beq]<;>rfl|rfl) (by omega) (by exact hx) rfl ?_
                exact AOps.nil ⟨rfl, rfl, rfl⟩) ?_
            refine Walk.still (rs := [47]) (by rfl) (by first|simp only[nf,Nat.beq]<;>rfl|rfl) (fun base => by
                refine n_fieldAddr rfl fd200_2 ti2 rfl (by first|simp only[nf,Nat.beq]<;>rfl|rfl) rfl (by first|simp only[nf,Nat.beq]<;>rfl|rfl) ?_
                exact AOps.nil ⟨rfl, rfl, rfl⟩) ?_
            refine Walk.still (rs := [48]) (by rfl) (by first|simp only[nf,Nat.beq]<;>rfl|rfl) (fun base => by
                refine n_load rfl ti2 (by first|simp only[nf,Nat.beq]<;>rfl|rfl) (by first|simp only[nf,Nat.beq]<;>rfl|rfl) rfl (by first|simp only[nf,Nat.beq]<;>rfl|rfl) ?_
                exact AOps.nil ⟨rfl, rfl, rfl⟩) ?_
            refine Walk.still (rs := [1]) (by rfl) (by first|simp only[nf,Nat.beq]<;>rfl|rfl) (fun base => by
                refine n_move rfl (by first|simp only[nf,Nat.beq]<;>rfl|rfl) ?_
                exact AOps.nil ⟨rfl, rfl, rfl⟩) ?_
            refine Walk.still (rs := [2]) (by rfl) (by first|simp only[nf,Nat.beq]<;>rfl|rfl) (fun base => by
                refine n_fieldAddr rfl fd188_0 ti186 rfl (by first|simp only[nf,Nat.beq]<;>rfl|rfl) rfl (by first|simp only[nf,Nat.beq]<;>rfl|rfl) ?_
                exact AOps.nil ⟨rfl, rfl, rfl⟩) ?_
            refine Walk.still (rs := [51]) (by rfl) (by first|simp only[nf,Nat.beq]<;>rfl|rfl) (fun base => by
                refine n_load rfl ti186 (by first|simp only[nf,Nat.beq]<;>rfl|rfl) (by first|simp only[nf,Nat.beq]<;>rfl|rfl) rfl (by first|simp only[nf,Nat.beq]<;>rfl|rfl) ?_
                exact AOps.nil ⟨rfl, rfl, rfl⟩) ?_
            refine Walk.still (rs := [6]) (by rfl) (by first|simp only[nf,Nat.beq]<;>rfl|rfl) (fun base => by
                refine n_move rfl (by first|simp only[nf,Nat.beq]<;>rfl|rfl) ?_
                exact AOps.nil ⟨rfl, rfl, rfl⟩) ?_
            refine Walk.still (rs := [52, 53]) (by rfl) (by first|simp only[nf,Nat.beq]<;>rfl|rfl) (fun base => by
                refine n_indexAddr rfl Try.underlying186 ti200 rfl (by first|simp only[nf,Nat.beq]<;>rfl|rfl) (by first|simp only[nf,Nat.beq]<;>rfl|rfl) (by omega) (by exact hx) rfl ?_
                exact AOps.nil ⟨rfl, rfl, rfl⟩) ?_
            refine Walk.still (rs := [54]) (by rfl) (by first|simp only[nf,Nat.beq]<;>rfl|rfl) (fun base => by
                refine n_fieldAddr rfl fd200_3 ti2 rfl (by first|simp only[nf,Nat.beq]<;>rfl|rfl) rfl (by first|simp only[nf,Nat.beq]<;>rfl|rfl) ?_
                exact AOps.nil ⟨rfl, rfl, rfl⟩) ?_
            refine Walk.still (rs := [55]) (by rfl) (by first|simp only[nf,Nat.beq]<;>rfl|rfl) (fun base => by
                refine n_load rfl ti2 (by first|simp only[nf,Nat.beq]<;>rfl|rfl) (by first|simp only[nf,Nat.beq]<;>rfl|rfl) rfl (by first|simp only[nf,Nat.beq]<;>rfl|rfl) ?_
                exact AOps.nil ⟨rfl, rfl, rfl⟩) ?_
            refine Walk.still (rs := [50, 56]) (by rfl) (by first|simp only[nf,Nat.beq]<;>rfl|rfl) (fun base => by
                first | refine n_isub rfl (by first|simp only[nf,Nat.beq]<;>rfl|rfl) (by first|simp only[nf,Nat.beq]<;>rfl|rfl) rfl (by omega) (by omega) ?_ | refine n_ibin rfl (by first|simp only[nf,Nat.beq]<;>rfl|rfl) (by first|simp only[nf,Nat.beq]<;>rfl|rfl) rfl ?_
                exact AOps.nil ⟨rfl, rfl, rfl⟩) ?_
            refine Walk.still (rs := [49, 57]) (by rfl) (by first|simp only[nf,Nat.beq]<;>rfl|rfl) (fun base => by
                first | refine n_iadd rfl (by first|simp only[nf,Nat.beq]<;>rfl|rfl) (by first|simp only[nf,Nat.beq]<;>rfl|rfl) rfl (by omega) (by omega) ?_ | refine n_ibin rfl (by first|simp only[nf,Nat.beq]<;>rfl|rfl) (by first|simp only[nf,Nat.beq]<;>rfl|rfl) rfl ?_
                exact AOps.nil ⟨rfl, rfl, rfl⟩) ?_
            refine Walk.still (rs := [58]) (by rfl) (by first|simp only[nf,Nat.beq]<;>rfl|rfl) (fun base => by
                refine n_assign rfl (by first|simp only[nf,Nat.beq]<;>rfl|rfl) ?_
                exact AOps.nil ⟨rfl, rfl, rfl⟩) ?_
            refine Walk.still (rs := []) (by rfl) (by first|simp only[nf,Nat.beq]<;>rfl|rfl) (fun base => by
                refine n_assign rfl (by first|simp only[nf,Nat.beq]<;>rfl|rfl) ?_
                exact AOps.nil ⟨rfl, rfl, rfl⟩) ?_
            refine Walk.done ?_
            refine AWP.ret ?_
            refine fin_pure (.cons (rv_tmp (by first|simp only[nf,Nat.beq]<;>rfl|rfl)) (.cons (rv_tmp (by first|simp only[nf,Nat.beq]<;>rfl|rfl)) .nil)) (by first|simp only[nf,Nat.beq]<;>rfl|rfl) ?_
            rw [← hu, hz.1, hz.2]; exact ren_flat rfl rfl
          · try simp only [nh] at hc5
            have hno : ¬ u.oin x i := by unfold oin; simp at hc5; omega
            refine AWP.skip ?_
            refine AWP.region ?_
            refine n_move rfl (by first|simp only[nf,Nat.beq]<;>rfl|rfl) ?_
            first | refine n_iadd rfl (by first|simp only[nf,Nat.beq]<;>rfl|rfl) (by first|simp only[nf,Nat.beq]<;>rfl|rfl) rfl (by omega) (by omega) ?_ | refine n_ibin rfl (by first|simp only[nf,Nat.beq]<;>rfl|rfl) (by first|simp only[nf,Nat.beq]<;>rfl|rfl) rfl ?_
            refine n_assign rfl (by first|simp only[nf,Nat.beq]<;>rfl|rfl) ?_
            refine AOps.nil ?_
            refine ⟨i + 1, ⟨by omega, fun j hj1 => ?_⟩, ?_, rfl, by omega⟩
            · rcases Nat.lt_or_ge j i with h9 | h9
              · exact hj j h9
              · obtain rfl : j = i := by omega
                exact hno
            · (repeat (first | exact FLe.empty _ | refine FLe.put ?_ ?_)) <;> first | (simp only [nf, Nat.beq]; done) | rfl | ((try simp only [nf, Nat.beq]); first | rfl | (simp only [List.length_map]; done) | (congr 2; omega; done))
        · try simp only [nh] at hc4
          obtain rfl : i = u.l.length := by omega
          have hz := pos_none hfo hj
          refine AWP.exit ?_
          refine AWP.seq ?_
          refine AWP.region ?_
          refine n_assign rfl (by first|simp only[nf,Nat.beq]<;>rfl|rfl) ?_
          refine n_assign rfl (by first|simp only[nf,Nat.beq]<;>rfl|rfl) ?_
          refine AOps.nil ?_
          refine AWP.ret ?_
          refine fin_pure (.cons (rv_tmp (by first|simp only[nf,Nat.beq]<;>rfl|rfl)) (.cons (rv_tmp (by first|simp only[nf,Nat.beq]<;>rfl|rfl)) .nil)) (by first|simp only[nf,Nat.beq]<;>rfl|rfl) ?_
          rw [← hu, hz.1, hz.2]; exact ren_flat rfl rfl

theorem back_it (t : Tb) (hl : t.l.length ≤ 1048576) : Iter Try.prog 286 [.rp [(.sl none (t.l.map spz) .ro)]] [] (t.back.map (fun e : Int × Sp => [vi e.1, D.agg (spz e.2)])) := by
  refine Iter.of_body (rvs := []) Try.func286 rfl rfl rfl rfl (fun yl J hY => ?_)
  refine AWP.seq ?_
  refine AWP.region ?_
  refine n_load rfl ti186 (by first|simp only[nf,Nat.beq]<;>rfl|rfl) (by first|simp only[nf,Nat.beq]<;>rfl|rfl) rfl (by first|simp only[nf,Nat.beq]<;>rfl|rfl) ?_
  refine n_len rfl Try.underlying186 (by first|simp only[nf,Nat.beq]<;>rfl|rfl) (by first | rw [ints_length] | rw [List.length_map] | rfl) ?_
  first | refine n_isub rfl (by first|simp only[nf,Nat.beq]<;>rfl|rfl) (by first|simp only[nf,Nat.beq]<;>rfl|rfl) rfl (by omega) (by omega) ?_ | refine n_ibin rfl (by first|simp only[nf,Nat.beq]<;>rfl|rfl) (by first|simp only[nf,Nat.beq]<;>rfl|rfl) rfl ?_
  refine n_assign rfl (by first|simp only[nf,Nat.beq]<;>rfl|rfl) ?_
  refine AOps.nil ?_
  refine AWP.block ?_
  refine AWP.loop (α := Nat) (fun k => k ≤ t.l.length) (fun k => put (put (put empty 0 (.val (.func (.yield yl) #[] #[]))) 1 (.rp [(.sl none (t.l.map spz) .ro)])) 3 (vi ((t.l.length : Int) - 1 - (k : Int)))) (fun k => [.seen J (some k)]) (fun k => t.l.length - k) 0 ?_ ?_ ?_ ?_
  · exact Nat.zero_le _
  · (repeat (first | exact FLe.empty _ | refine FLe.put ?_ ?_)) <;> first | (simp only [nf, Nat.beq]; done) | rfl | ((try simp only [nf, Nat.beq]); first | rfl | (simp only [List.length_map]; done) | (congr 2; omega; done))
  · rfl
  · intro k hk
    try dsimp only at hk ⊢
    refine AWP.seq ?_
    refine AWP.seq ?_
    refine AWP.region ?_
    refine n_move rfl (by first|simp only[nf,Nat.beq]<;>rfl|rfl) ?_
    refine n_ibin rfl (by first|simp only[nf,Nat.beq]<;>rfl|rfl) (by first|simp only[nf,Nat.beq]<;>rfl|rfl) rfl ?_
    refine AOps.nil ?_
    refine AWP.cond (by first|simp only[nf,Nat.beq]<;>rfl|rfl) (fun hc1 => ?_) (fun hc1 => ?_)
    · try simp only [nh] at hc1
      have hkl : k < t.l.length := by omega
      have hx := map_at spz (nth_at (t := t) (i := t.l.length - 1 - k) (by omega))
      rw [show (((t.l.length - 1 - k : Nat)) : Int) = (t.l.length : Int) - 1 - (k : Int) by omega] at hx
      have hxy : (t.back.map (fun e : Int × Sp => [vi e.1, D.agg (spz e.2)]))[k]? = some [vi ((t.l.length : Int) - 1 - (k : Int)), .agg (spz (t.nth (t.l.length - 1 - k)))] := by rw [List.getElem?_map, back_at hkl, show (((t.l.length - 1 - k : Nat)) : Int) = (t.l.length : Int) - 1 - (k : Int) by omega]; rfl
      refine AWP.skip ?_
      refine AWP.seq ?_
      refine AWP.block ?_
      refine AWP.seq ?_
      refine AWP.region ?_
      refine n_move rfl (by first|simp only[nf,Nat.beq]<;>rfl|rfl) ?_
      refine n_move rfl (by first|simp only[nf,Nat.beq]<;>rfl|rfl) ?_
      refine n_load rfl ti186 (by first|simp only[nf,Nat.beq]<;>rfl|rfl) (by first|simp only[nf,Nat.beq]<;>rfl|rfl) rfl (by first|simp only[nf,Nat.beq]<;>rfl|rfl) ?_
      refine n_move rfl (by first|simp only[nf,Nat.beq]<;>rfl|rfl) ?_
      refine n_indexAddr rfl Try.underlying186 ti200 rfl (by first|simp only[nf,Nat.beq]<;>rfl|rfl) (by first|simp only[nf,Nat.beq]<;>rfl|rfl) (by omega) (by exact hx) rfl ?_
      refine n_load rfl ti200 (by first|simp only[nf,Nat.beq]<;>rfl|rfl) (by first|simp only[nf,Nat.beq]<;>rfl|rfl) rfl (by first|simp only[nf,Nat.beq]<;>rfl|rfl) ?_
      refine n_yield (l0 := 0) rfl (by first|simp only[nf,Nat.beq]<;>rfl|rfl) rfl hY hxy (Eq.trans (by simp only [nl] <;> rfl) (by first|simp only[nf,Nat.beq]<;>rfl|rfl)) (by repeat (first | exact .nil | refine .cons ?_ ?_ | exact ren_ints | exact .lf (.val _) | exact .lf (lf_ints (.inl rfl)) | exact .bp ⟨rfl, rfl⟩ | exact .bp (.inl ⟨rfl, rfl⟩) | exact .bp (.inr ⟨rfl, rfl⟩) | exact .lf (D.flat_lf rfl) | exact ren_map (f := spz) (fun _ => rfl) | exact .lf (lf_tz _) | exact ren_tz | exact .lf (.fn (fun d h => by cases h) (fun d h => by cases h)))) rfl rfl ?_ ?_
      · refine n_not rfl (by first|simp only[nf,Nat.beq]<;>rfl|rfl) rfl ?_
        refine AOps.nil ?_
        refine AWP.cond_false (by first|simp only[nf,Nat.beq]<;>rfl|rfl) ?_
        refine AWP.skip ?_
        refine AWP.region ?_
        refine n_move rfl (by first|simp only[nf,Nat.beq]<;>rfl|rfl) ?_
        first | refine n_isub rfl (by first|simp only[nf,Nat.beq]<;>rfl|rfl) (by first|simp only[nf,Nat.beq]<;>rfl|rfl) rfl (by omega) (by omega) ?_ | refine n_ibin rfl (by first|simp only[nf,Nat.beq]<;>rfl|rfl) (by first|simp only[nf,Nat.beq]<;>rfl|rfl) rfl ?_
        refine n_assign rfl (by first|simp only[nf,Nat.beq]<;>rfl|rfl) ?_
        refine AOps.nil ?_
        refine ⟨k + 1, by omega, ?_, rfl, by omega⟩
        (repeat (first | exact FLe.empty _ | refine FLe.put ?_ ?_)) <;> first | (simp only [nf, Nat.beq]; done) | rfl | ((try simp only [nf, Nat.beq]); first | rfl | (simp only [List.length_map]; done) | (congr 2; omega; done))
      · refine n_not rfl (by first|simp only[nf,Nat.beq]<;>rfl|rfl) rfl ?_
        refine AOps.nil ?_
        refine AWP.cond_true (by first|simp only[nf,Nat.beq]<;>rfl|rfl) ?_
        refine AWP.ret ?_
        first | exact ⟨.inr rfl, [], _, .nil, .inr rfl, rfl⟩ | exact ⟨.inr rfl, [], _, .nil, .inl (by rw [List.length_map, back_len]), rfl⟩
    · try simp only [nh] at hc1
      obtain rfl : k = t.l.length := by omega
      refine AWP.exit ?_
      first | exact ⟨.inl rfl, [], _, .nil, .inr rfl, rfl⟩ | exact ⟨.inl rfl, [], _, .nil, .inl (by rw [List.length_map, back_len]), rfl⟩

theorem s_backward (t : Tb) : Does Try.prog 277 [(.sl none (t.l.map spz) .ro)] [] (.fn (.func 286) [] [.rp [(.sl none (t.l.map spz) .ro)]]) [] := by
  refine Does.of_body (rvs := [.tmp 2]) Try.func277 rfl rfl rfl rfl ?_
  refine AWP.seq ?_
  refine AWP.region ?_
  refine n_box rfl (by first|simp only[nf,Nat.beq]<;>rfl|rfl) rfl rfl (by first|simp only[nf,Nat.beq]<;>rfl|rfl) (by first|simp only[nf,Nat.beq]<;>rfl|rfl) ?_
  refine n_assign rfl (by first|simp only[nf,Nat.beq]<;>rfl|rfl) ?_
  refine AOps.nil ?_
  refine AWP.seq ?_
  refine AWP.freeze (t := 1) (S' := [.lent]) (by rfl) rfl rfl rfl ?_
  refine AWP.region ?_
  refine n_makeFunc rfl (Eq.trans (by simp only [nl] <;> rfl) (by first|simp only[nf,Nat.beq]<;>rfl|rfl)) (Eq.trans (by simp only [nl] <;> rfl) (by first|simp only[nf,Nat.beq]<;>rfl|rfl)) ?_
  refine n_assign rfl (by first|simp only[nf,Nat.beq]<;>rfl|rfl) ?_
  refine AOps.nil ?_
  refine AWP.ret ?_
  refine fin_pure (.cons (rv_tmp (by first|simp only[nf,Nat.beq]<;>rfl|rfl)) .nil) (by first|simp only[nf,Nat.beq]<;>rfl|rfl) ?_
  exact .lf (lf_fnrp (lf_rp1 (f := spz) (fun _ => rfl)))

theorem l_backward (t : Tb) : Does Try.prog 227 [(.sl none (t.l.map spz) .ro)] [] (.fn (.func 286) [] [.rp [(.sl none (t.l.map spz) .ro)]]) [] := by
  refine Does.of_body (rvs := [.tmp 2]) Try.func227 rfl rfl rfl rfl ?_
  refine AWP.seq ?_
  refine AWP.region ?_
  refine n_assign rfl (by first|simp only[nf,Nat.beq]<;>rfl|rfl) ?_
  refine AOps.nil ?_
  refine AWP.seq ?_
  refine AWP.region ?_
  refine n_move rfl (by first|simp only[nf,Nat.beq]<;>rfl|rfl) ?_
  refine n_call0B rfl cf277 rfl (Eq.trans (by simp only [nl] <;> rfl) (by first|simp only[nf,Nat.beq]<;>rfl|rfl)) (by repeat (first | exact .nil | refine .cons ?_ ?_ | exact ren_ints | exact .lf (.val _) | exact .lf (lf_ints (.inl rfl)) | exact .bp ⟨rfl, rfl⟩ | exact .bp (.inl ⟨rfl, rfl⟩) | exact .bp (.inr ⟨rfl, rfl⟩) | exact .lf (D.flat_lf rfl) | exact ren_map (f := spz) (fun _ => rfl) | exact .lf (lf_tz _) | exact ren_tz | exact .lf (.fn (fun d h => by cases h) (fun d h => by cases h)) | exact .lf (lf_fnrp (lf_rp1 (f := spz) (fun _ => rfl))))) (s_backward t) (by first | exact .val _ | exact lf_ints (.inl rfl) | exact lf_ints (.inr rfl) | exact .any | exact D.flat_lf rfl | exact lf_map (f := spz) (fun _ => rfl) (.inl rfl) | exact lf_tz _ | exact .tup (lf_cons (lf_tz _) (lf_cons (.val _) lf_nil)) | exact lf_fnrp (lf_rp1 (f := spz) (fun _ => rfl))) ?_
  refine n_assign rfl (by first|simp only[nf,Nat.beq]<;>rfl|rfl) ?_
  refine AOps.nil ?_
  refine AWP.ret ?_
  refine fin_pure (.cons (rv_tmp (by first|simp only[nf,Nat.beq]<;>rfl|rfl)) .nil) (by first|simp only[nf,Nat.beq]<;>rfl|rfl) ?_
  exact .lf (lf_fnrp (lf_rp1 (f := spz) (fun _ => rfl)))

end Go.Proofs.Ytanfmpkjcoolmaa.Of
