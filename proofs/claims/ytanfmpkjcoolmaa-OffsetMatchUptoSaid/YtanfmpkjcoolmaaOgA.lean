/- More walks of package offset. -/
import Derived.Test.YtanfmpkjcoolmaaOfB
import Derived.Test.YtanfmpkjcoolmaaOffsetPlain2
import Derived.Test.YtanfmpkjcoolmaaEventPlain5
import Derived.Test.YtanfmpkjcoolmaaAbsZi
set_option linter.unusedVariables false
set_option linter.unusedSimpArgs false
namespace Go.Proofs.Ytanfmpkjcoolmaa.Og
open Go Go.Abs Go.Abs.Tb Of
attribute [local irreducible] AWP AOps Does

theorem cf140 : CF Try.prog 140 := ⟨_, Try.func140, by kernel_rfl, by kernel_rfl⟩
theorem cf141 : CF Try.prog 141 := ⟨_, Try.func141, by kernel_rfl, by kernel_rfl⟩
theorem cf160 : CF Try.prog 160 := ⟨_, Try.func160, by kernel_rfl, by kernel_rfl⟩
theorem cf225 : CF Try.prog 225 := ⟨_, Try.func225, by kernel_rfl, by kernel_rfl⟩
theorem cf226 : CF Try.prog 226 := ⟨_, Try.func226, by kernel_rfl, by kernel_rfl⟩
theorem cf227 : CF Try.prog 227 := ⟨_, Try.func227, by kernel_rfl, by kernel_rfl⟩
theorem cf228 : CF Try.prog 228 := ⟨_, Try.func228, by kernel_rfl, by kernel_rfl⟩
theorem cf229 : CF Try.prog 229 := ⟨_, Try.func229, by kernel_rfl, by kernel_rfl⟩
theorem cf231 : CF Try.prog 231 := ⟨_, Try.func231, by kernel_rfl, by kernel_rfl⟩
theorem cf243 : CF Try.prog 243 := ⟨_, Try.func243, by kernel_rfl, by kernel_rfl⟩
theorem cf246 : CF Try.prog 246 := ⟨_, Try.func246, by kernel_rfl, by kernel_rfl⟩
theorem cf247 : CF Try.prog 247 := ⟨_, Try.func247, by kernel_rfl, by kernel_rfl⟩
theorem cf248 : CF Try.prog 248 := ⟨_, Try.func248, by kernel_rfl, by kernel_rfl⟩
theorem cf278 : CF Try.prog 278 := ⟨_, Try.func278, by kernel_rfl, by kernel_rfl⟩
theorem cf286 : CF Try.prog 286 := ⟨_, Try.func286, by kernel_rfl, by kernel_rfl⟩
theorem ei200 : EI Try.prog 200 4 32 (.agg #[.int .i64 0, .int .i64 0, .int .i64 0, .int .i64 0]) := EI.of (by kernel_rfl) rfl rfl
theorem fd188_0 : FD Try.prog 188 0 186 0 := ⟨_, _, Try.underlying188, rfl, rfl, rfl⟩
theorem fd188_1 : FD Try.prog 188 1 2 1 := ⟨_, _, Try.underlying188, rfl, rfl, rfl⟩
theorem fd200_0 : FD Try.prog 200 0 2 0 := ⟨_, _, Try.underlying200, rfl, rfl, rfl⟩
theorem fd200_1 : FD Try.prog 200 1 3 1 := ⟨_, _, Try.underlying200, rfl, rfl, rfl⟩
theorem fd200_2 : FD Try.prog 200 2 2 2 := ⟨_, _, Try.underlying200, rfl, rfl, rfl⟩
theorem fd200_3 : FD Try.prog 200 3 2 3 := ⟨_, _, Try.underlying200, rfl, rfl, rfl⟩
theorem si200 : SI Try.prog 200 #[(0, 1), (1, 1), (2, 1), (3, 1)] (.agg #[.int .i64 0, .int .i64 0, .int .i64 0, .int .i64 0]) := ⟨⟨_, Try.underlying200, fun w => by kernel_rfl⟩, by kernel_rfl⟩
theorem si295 : SI Try.prog 295 #[(0, 1), (1, 1)] (.agg #[.int .i64 0, .int .i64 0]) := ⟨⟨_, Try.underlying295, fun w => by kernel_rfl⟩, by kernel_rfl⟩
theorem ti186 : TI Try.prog 186 1 false := ⟨by kernel_rfl, by kernel_rfl⟩
theorem ti188 : TI Try.prog 188 2 true := ⟨by kernel_rfl, by kernel_rfl⟩
theorem ti2 : TI Try.prog 2 1 false := ⟨by kernel_rfl, by kernel_rfl⟩
theorem ti200 : TI Try.prog 200 4 true := ⟨by kernel_rfl, by kernel_rfl⟩
theorem ti28 : TI Try.prog 28 1 false := ⟨by kernel_rfl, by kernel_rfl⟩
theorem ti295 : TI Try.prog 295 2 true := ⟨by kernel_rfl, by kernel_rfl⟩
theorem ti3 : TI Try.prog 3 1 false := ⟨by kernel_rfl, by kernel_rfl⟩
theorem zi188 : (Try.prog.info? 188).map (·.zero) = some (some (.agg #[.slice none 0 0, .int .i64 0])) := by kernel_rfl
theorem zi2 : (Try.prog.info? 2).map (·.zero) = some (some (.int .i64 0)) := by kernel_rfl
theorem zi200 : (Try.prog.info? 200).map (·.zero) = some (some (.agg #[.int .i64 0, .int .i64 0, .int .i64 0, .int .i64 0])) := by kernel_rfl
theorem zi28 : (Try.prog.info? 28).map (·.zero) = some (some (.int .i64 0)) := by kernel_rfl
theorem zi295 : (Try.prog.info? 295).map (·.zero) = some (some (.agg #[.int .i64 0, .int .i64 0])) := by kernel_rfl

attribute [local irreducible] Tb.nth Tb.fin Tb.last Tb.follows Tb.single Tb.good Tb.chk Tb.late
set_option maxHeartbeats 2000000 in
theorem l_pos (t : Tb) (x : Int) (hl : t.l.length ≤ 1048576) : Does Try.prog 141 [tz t, vi x] [] (.tup [vi (t.may.pos x), vi (t.may.errP x)]) [] := by
  refine Does.of_body (rvs := [.cell 4 2, .cell 5 28]) Try.func141 rfl rfl rfl rfl ?_
  have hml := may_len (t := t)
  have hm := l_may t hl
  have hg := may_good t
  obtain ⟨u, hu⟩ : ∃ u, u = t.may := ⟨_, rfl⟩
  rw [← hu] at hm hg hml
  have hgn := good_num hg
  refine AWP.seq ?_
  refine AWP.region ?_
  refine n_box rfl (by first|simp only[nf,Nat.beq]<;>rfl|rfl) rfl rfl (by first|simp only[nf,Nat.beq]<;>rfl|rfl) (by first|simp only[nf,Nat.beq]<;>rfl|rfl) ?_
  refine n_box rfl (by first|simp only[nf,Nat.beq]<;>rfl|rfl) rfl rfl (by first|simp only[nf,Nat.beq]<;>rfl|rfl) (by first|simp only[nf,Nat.beq]<;>rfl|rfl) ?_
  refine n_alloc rfl zi2 rfl (by first|simp only[nf,Nat.beq]<;>rfl|rfl) (by first|simp only[nf,Nat.beq]<;>rfl|rfl) ?_
  refine n_alloc rfl zi28 rfl (by first|simp only[nf,Nat.beq]<;>rfl|rfl) (by first|simp only[nf,Nat.beq]<;>rfl|rfl) ?_
  refine AOps.nil ?_
  refine AWP.seq ?_
  refine AWP.region ?_
  refine n_load rfl ti188 (by first|simp only[nf,Nat.beq]<;>rfl|rfl) (by first|simp only[nf,Nat.beq]<;>rfl|rfl) rfl (by first|simp only[nf,Nat.beq]<;>rfl|rfl) ?_
  refine n_call0B rfl cf226 rfl (Eq.trans (by simp only [nl] <;> rfl) (by first|simp only[nf,Nat.beq]<;>rfl|rfl)) (by repeat (first | exact .nil | refine .cons ?_ ?_ | exact ren_ints | exact .lf (.val _) | exact .lf (lf_ints (.inl rfl)) | exact .bp ⟨rfl, rfl⟩ | exact .bp (.inl ⟨rfl, rfl⟩) | exact .bp (.inr ⟨rfl, rfl⟩) | exact .lf (D.flat_lf rfl) | exact ren_map (f := spz) (fun _ => rfl) | exact .lf (lf_tz _) | exact ren_tz | exact .lf (.fn (fun d h => by cases h) (fun d h => by cases h)) | exact .lf (lf_fnrp (lf_rp1 (f := spz) (fun _ => rfl))))) (hm) (by first | exact .val _ | exact lf_ints (.inl rfl) | exact lf_ints (.inr rfl) | exact .any | exact D.flat_lf rfl | exact lf_map (f := spz) (fun _ => rfl) (.inl rfl) | exact lf_tz _ | exact .tup (lf_cons (lf_tz _) (lf_cons (.val _) lf_nil)) | exact lf_fnrp (lf_rp1 (f := spz) (fun _ => rfl))) ?_
  refine n_store ti188 (by first|simp only[nf,Nat.beq]<;>rfl|rfl) rfl (by first|simp only[nf,Nat.beq]<;>rfl|rfl) rfl (by first|simp only[nf,Nat.beq]<;>rfl|rfl) rfl rfl rfl (by first|simp only[nf,Nat.beq]<;>rfl|rfl) ?_
  refine AOps.nil ?_
  refine AWP.seq ?_
  refine AWP.seq ?_
  refine AWP.anyStill (by kernel_rfl) (by kernel_rfl) ?_
  refine Walk.still (rs := [2]) (by rfl) (by first|simp only[nf,Nat.beq]<;>rfl|rfl) (fun base => by
      refine n_fieldAddr rfl fd188_0 ti186 rfl (by first|simp only[nf,Nat.beq]<;>rfl|rfl) rfl (by first|simp only[nf,Nat.beq]<;>rfl|rfl) ?_
      exact AOps.nil ⟨rfl, rfl, rfl⟩) ?_
  refine Walk.still (rs := [10]) (by rfl) (by first|simp only[nf,Nat.beq]<;>rfl|rfl) (fun base => by
      refine n_load rfl ti186 (by first|simp only[nf,Nat.beq]<;>rfl|rfl) (by first|simp only[nf,Nat.beq]<;>rfl|rfl) rfl (by first|simp only[nf,Nat.beq]<;>rfl|rfl) ?_
      exact AOps.nil ⟨rfl, rfl, rfl⟩) ?_
  refine Walk.still (rs := [11]) (by rfl) (by first|simp only[nf,Nat.beq]<;>rfl|rfl) (fun base => by
      refine n_len rfl Try.underlying186 (by first|simp only[nf,Nat.beq]<;>rfl|rfl) (by first | rw [ints_length] | rw [List.length_map] | rfl) ?_
      exact AOps.nil ⟨rfl, rfl, rfl⟩) ?_
  refine Walk.still (rs := [12]) (by rfl) (by first|simp only[nf,Nat.beq]<;>rfl|rfl) (fun base => by
      refine n_ibin rfl (by first|simp only[nf,Nat.beq]<;>rfl|rfl) (by first|simp only[nf,Nat.beq]<;>rfl|rfl) rfl ?_
      exact AOps.nil ⟨rfl, rfl, rfl⟩) ?_
  refine Walk.still (rs := [13]) (by rfl) (by first|simp only[nf,Nat.beq]<;>rfl|rfl) (fun base => by
      refine n_move rfl (by first|simp only[nf,Nat.beq]<;>rfl|rfl) ?_
      exact AOps.nil ⟨rfl, rfl, rfl⟩) ?_
  refine Walk.split (u := 14) (by first|simp only[nf,Nat.beq]<;>rfl|rfl) (fun hg1 => ?_) (fun hg1 => ?_)
  · try simp only [nh] at hg1
    have hz := pos_first (t := u) (x := x) (.inl (by omega))
    refine Walk.still (rs := [14]) (by rfl) (by first|simp only[nf,Nat.beq]<;>rfl|rfl) (fun base => by
        refine n_guard_no rfl rfl rfl (by first|simp only[nf,Nat.beq]<;>rfl|rfl) rfl ?_
        exact AOps.nil ⟨rfl, rfl, rfl⟩) ?_
    refine Walk.still (rs := [14]) (by rfl) (by first|simp only[nf,Nat.beq]<;>rfl|rfl) (fun base => by
        refine n_guard_no rfl rfl rfl (by first|simp only[nf,Nat.beq]<;>rfl|rfl) rfl ?_
        exact AOps.nil ⟨rfl, rfl, rfl⟩) ?_
    refine Walk.still (rs := [14]) (by rfl) (by first|simp only[nf,Nat.beq]<;>rfl|rfl) (fun base => by
        refine n_guard_no rfl rfl rfl (by first|simp only[nf,Nat.beq]<;>rfl|rfl) rfl ?_
        exact AOps.nil ⟨rfl, rfl, rfl⟩) ?_
    refine Walk.still (rs := [14]) (by rfl) (by first|simp only[nf,Nat.beq]<;>rfl|rfl) (fun base => by
        refine n_guard_no rfl rfl rfl (by first|simp only[nf,Nat.beq]<;>rfl|rfl) rfl ?_
        exact AOps.nil ⟨rfl, rfl, rfl⟩) ?_
    refine Walk.still (rs := [14]) (by rfl) (by first|simp only[nf,Nat.beq]<;>rfl|rfl) (fun base => by
        refine n_guard_no rfl rfl rfl (by first|simp only[nf,Nat.beq]<;>rfl|rfl) rfl ?_
        exact AOps.nil ⟨rfl, rfl, rfl⟩) ?_
    refine Walk.still (rs := [14]) (by rfl) (by first|simp only[nf,Nat.beq]<;>rfl|rfl) (fun base => by
        refine n_guard_no rfl rfl rfl (by first|simp only[nf,Nat.beq]<;>rfl|rfl) rfl ?_
        exact AOps.nil ⟨rfl, rfl, rfl⟩) ?_
    refine Walk.still (rs := [14]) (by rfl) (by first|simp only[nf,Nat.beq]<;>rfl|rfl) (fun base => by
        refine n_guard_no rfl rfl rfl (by first|simp only[nf,Nat.beq]<;>rfl|rfl) rfl ?_
        exact AOps.nil ⟨rfl, rfl, rfl⟩) ?_
    refine Walk.still (rs := [14, 21]) (by rfl) (by first|simp only[nf,Nat.beq]<;>rfl|rfl) (fun base => by
        refine n_pick rfl (by first|simp only[nf,Nat.beq]<;>rfl|rfl) (by first|simp only[nf,Nat.beq]<;>rfl|rfl) ?_
        exact AOps.nil ⟨rfl, rfl, rfl⟩) ?_
    refine Walk.done ?_
    refine AWP.cond_true (by first|simp only[nf,Nat.beq]<;>rfl|rfl) ?_
    refine AWP.seq ?_
    refine AWP.region ?_
    refine n_store ti2 (by first|simp only[nf,Nat.beq]<;>rfl|rfl) rfl (by first|simp only[nf,Nat.beq]<;>rfl|rfl) rfl (by first|simp only[nf,Nat.beq]<;>rfl|rfl) rfl rfl rfl (by first|simp only[nf,Nat.beq]<;>rfl|rfl) ?_
    refine n_store ti28 (by first|simp only[nf,Nat.beq]<;>rfl|rfl) rfl (by first|simp only[nf,Nat.beq]<;>rfl|rfl) rfl (by first|simp only[nf,Nat.beq]<;>rfl|rfl) rfl rfl rfl (by first|simp only[nf,Nat.beq]<;>rfl|rfl) ?_
    refine AOps.nil ?_
    refine AWP.ret ?_
    refine fin_pure (.cons (rv_cell ti2 (by first|simp only[nf,Nat.beq]<;>rfl|rfl) (by first|simp only[nf,Nat.beq]<;>rfl|rfl) rfl (by first|simp only[nf,Nat.beq]<;>rfl|rfl)) (.cons (rv_cell ti28 (by first|simp only[nf,Nat.beq]<;>rfl|rfl) (by first|simp only[nf,Nat.beq]<;>rfl|rfl) rfl (by first|simp only[nf,Nat.beq]<;>rfl|rfl)) .nil)) (by first|simp only[nf,Nat.beq]<;>rfl|rfl) ?_
    rw [← hu]; first | exact ren_flat rfl rfl | (rw [hz.1, hz.2]; exact ren_flat rfl rfl)
  · try simp only [nh] at hg1
    have hlp : 0 < u.l.length := by omega
    have hx0 := map_at spz (nth_at (t := u) hlp)
    refine Walk.still (rs := [3, 14]) (by rfl) (by first|simp only[nf,Nat.beq]<;>rfl|rfl) (fun base => by
        refine n_guard_yes rfl rfl rfl (by first|simp only[nf,Nat.beq]<;>rfl|rfl) rfl ?_
        refine n_load rfl ti2 (by first|simp only[nf,Nat.beq]<;>rfl|rfl) (by first|simp only[nf,Nat.beq]<;>rfl|rfl) rfl (by first|simp only[nf,Nat.beq]<;>rfl|rfl) ?_
        exact AOps.nil ⟨rfl, rfl, rfl⟩) ?_
    refine Walk.still (rs := [2, 14]) (by rfl) (by first|simp only[nf,Nat.beq]<;>rfl|rfl) (fun base => by
        refine n_guard_yes rfl rfl rfl (by first|simp only[nf,Nat.beq]<;>rfl|rfl) rfl ?_
        refine n_fieldAddr rfl fd188_0 ti186 rfl (by first|simp only[nf,Nat.beq]<;>rfl|rfl) rfl (by first|simp only[nf,Nat.beq]<;>rfl|rfl) ?_
        exact AOps.nil ⟨rfl, rfl, rfl⟩) ?_
    refine Walk.still (rs := [16, 14]) (by rfl) (by first|simp only[nf,Nat.beq]<;>rfl|rfl) (fun base => by
        refine n_guard_yes rfl rfl rfl (by first|simp only[nf,Nat.beq]<;>rfl|rfl) rfl ?_
        refine n_load rfl ti186 (by first|simp only[nf,Nat.beq]<;>rfl|rfl) (by first|simp only[nf,Nat.beq]<;>rfl|rfl) rfl (by first|simp only[nf,Nat.beq]<;>rfl|rfl) ?_
        exact AOps.nil ⟨rfl, rfl, rfl⟩) ?_
    refine Walk.still (rs := [17, 14]) (by rfl) (by first|simp only[nf,Nat.beq]<;>rfl|rfl) (fun base => by
        refine n_guard_yes rfl rfl rfl (by first|simp only[nf,Nat.beq]<;>rfl|rfl) rfl ?_
        refine n_indexAddr rfl Try.underlying186 ti200 rfl (by first|simp only[nf,Nat.beq]<;>rfl|rfl) (by first|simp only[nf,Nat.beq]<;>rfl|rfl) (by omega) (by exact hx0) rfl ?_
        exact AOps.nil ⟨rfl, rfl, rfl⟩) ?_
    refine Walk.still (rs := [18, 14]) (by rfl) (by first|simp only[nf,Nat.beq]<;>rfl|rfl) (fun base => by
        refine n_guard_yes rfl rfl rfl (by first|simp only[nf,Nat.beq]<;>rfl|rfl) rfl ?_
        refine n_fieldAddr rfl fd200_3 ti2 rfl (by first|simp only[nf,Nat.beq]<;>rfl|rfl) rfl (by first|simp only[nf,Nat.beq]<;>rfl|rfl) ?_
        exact AOps.nil ⟨rfl, rfl, rfl⟩) ?_
    refine Walk.still (rs := [19, 14]) (by rfl) (by first|simp only[nf,Nat.beq]<;>rfl|rfl) (fun base => by
        refine n_guard_yes rfl rfl rfl (by first|simp only[nf,Nat.beq]<;>rfl|rfl) rfl ?_
        refine n_load rfl ti2 (by first|simp only[nf,Nat.beq]<;>rfl|rfl) (by first|simp only[nf,Nat.beq]<;>rfl|rfl) rfl (by first|simp only[nf,Nat.beq]<;>rfl|rfl) ?_
        exact AOps.nil ⟨rfl, rfl, rfl⟩) ?_
    refine Walk.still (rs := [15, 20, 14]) (by rfl) (by first|simp only[nf,Nat.beq]<;>rfl|rfl) (fun base => by
        refine n_guard_yes rfl rfl rfl (by first|simp only[nf,Nat.beq]<;>rfl|rfl) rfl ?_
        refine n_ibin rfl (by first|simp only[nf,Nat.beq]<;>rfl|rfl) (by first|simp only[nf,Nat.beq]<;>rfl|rfl) rfl ?_
        exact AOps.nil ⟨rfl, rfl, rfl⟩) ?_
    refine Walk.still (rs := [14, 21]) (by rfl) (by first|simp only[nf,Nat.beq]<;>rfl|rfl) (fun base => by
        refine n_pick rfl (by first|simp only[nf,Nat.beq]<;>rfl|rfl) (by first|simp only[nf,Nat.beq]<;>rfl|rfl) ?_
        exact AOps.nil ⟨rfl, rfl, rfl⟩) ?_
    refine Walk.done ?_
    refine AWP.cond (by first|simp only[nf,Nat.beq]<;>rfl|rfl) (fun hc3 => ?_) (fun hc3 => ?_)
    · try simp only [nh] at hc3
      have hz := pos_first (t := u) (x := x) (.inr (by simpa using hc3))
      refine AWP.seq ?_
      refine AWP.region ?_
      refine n_store ti2 (by first|simp only[nf,Nat.beq]<;>rfl|rfl) rfl (by first|simp only[nf,Nat.beq]<;>rfl|rfl) rfl (by first|simp only[nf,Nat.beq]<;>rfl|rfl) rfl rfl rfl (by first|simp only[nf,Nat.beq]<;>rfl|rfl) ?_
      refine n_store ti28 (by first|simp only[nf,Nat.beq]<;>rfl|rfl) rfl (by first|simp only[nf,Nat.beq]<;>rfl|rfl) rfl (by first|simp only[nf,Nat.beq]<;>rfl|rfl) rfl rfl rfl (by first|simp only[nf,Nat.beq]<;>rfl|rfl) ?_
      refine AOps.nil ?_
      refine AWP.ret ?_
      refine fin_pure (.cons (rv_cell ti2 (by first|simp only[nf,Nat.beq]<;>rfl|rfl) (by first|simp only[nf,Nat.beq]<;>rfl|rfl) rfl (by first|simp only[nf,Nat.beq]<;>rfl|rfl)) (.cons (rv_cell ti28 (by first|simp only[nf,Nat.beq]<;>rfl|rfl) (by first|simp only[nf,Nat.beq]<;>rfl|rfl) rfl (by first|simp only[nf,Nat.beq]<;>rfl|rfl)) .nil)) (by first|simp only[nf,Nat.beq]<;>rfl|rfl) ?_
      rw [← hu]; first | exact ren_flat rfl rfl | (rw [hz.1, hz.2]; exact ren_flat rfl rfl)
    · try simp only [nh] at hc3
      have hfo : ¬ (u.l.length = 0 ∨ x < (u.nth 0).o) := by simp at hc3; omega
      refine AWP.skip ?_
      refine AWP.seq ?_
      refine AWP.seq ?_
      refine AWP.region ?_
      refine n_fieldAddr rfl fd188_0 ti186 rfl (by first|simp only[nf,Nat.beq]<;>rfl|rfl) rfl (by first|simp only[nf,Nat.beq]<;>rfl|rfl) ?_
      refine n_load rfl ti186 (by first|simp only[nf,Nat.beq]<;>rfl|rfl) (by first|simp only[nf,Nat.beq]<;>rfl|rfl) rfl (by first|simp only[nf,Nat.beq]<;>rfl|rfl) ?_
      refine n_call0B rfl cf227 rfl (Eq.trans (by simp only [nl] <;> rfl) (by first|simp only[nf,Nat.beq]<;>rfl|rfl)) (by repeat (first | exact .nil | refine .cons ?_ ?_ | exact ren_ints | exact .lf (.val _) | exact .lf (lf_ints (.inl rfl)) | exact .bp ⟨rfl, rfl⟩ | exact .bp (.inl ⟨rfl, rfl⟩) | exact .bp (.inr ⟨rfl, rfl⟩) | exact .lf (D.flat_lf rfl) | exact ren_map (f := spz) (fun _ => rfl) | exact .lf (lf_tz _) | exact ren_tz | exact .lf (.fn (fun d h => by cases h) (fun d h => by cases h)) | exact .lf (lf_fnrp (lf_rp1 (f := spz) (fun _ => rfl))))) (l_backward u) (by first | exact .val _ | exact lf_ints (.inl rfl) | exact lf_ints (.inr rfl) | exact .any | exact D.flat_lf rfl | exact lf_map (f := spz) (fun _ => rfl) (.inl rfl) | exact lf_tz _ | exact .tup (lf_cons (lf_tz _) (lf_cons (.val _) lf_nil)) | exact lf_fnrp (lf_rp1 (f := spz) (fun _ => rfl))) ?_
      refine AOps.nil ?_
      refine AWP.block ?_
      refine AWP.rangeFunc [] (fun k => if u.late x k then [.box [(.sl none (u.l.map spz) .ro), vi u.n], .box [vi x], .box [vi 0], .box [vi 0]] else [Never, Never, Never, Never]) (fun c S' => c = .ret ∧ ∃ T, S' = [.box [(.sl none (u.l.map spz) .ro), vi u.n], .box [vi x], .box [vi (u.pos x)], .box [vi (u.errP x)]] ++ T) (by first|simp only[nf,Nat.beq]<;>rfl|rfl) cf286 (back_it u (by omega)) List.nodup_nil rfl (fun j ob h => by simp at h) (.cons (.lf (.rp (lf_rp1 (f := spz) (fun _ => rfl)))) .nil) (by rw [if_pos (late_zero _ _)]; rfl) (by intro x hx; obtain ⟨p, _, rfl⟩ := List.mem_map.1 hx; rfl) (by intro x hx d hd; obtain ⟨p, _, rfl⟩ := List.mem_map.1 hx; simp only [List.mem_cons, List.not_mem_nil, or_false] at hd; rcases hd with rfl | rfl; exact .val _; exact D.flat_lf rfl) (by decide) (fun k => by split <;> rfl) (fun k => by split; exact un_cons (un_boxL (lf_cons (lf_map (f := spz) (fun _ => rfl) (.inl rfl)) (lf_cons (.val _) lf_nil))) (un_cons (un_box rfl) (un_cons (un_box rfl) (un_cons (un_box rfl) un_nil))); exact un_cons trivial (un_cons trivial (un_cons trivial (un_cons trivial un_nil)))) rfl rfl ?_ ?_ ?_
      · intro k y hyk
        obtain ⟨hkl, rfl⟩ := back_some hyk
        dsimp only [putPs]
        refine (Classical.em (u.late x k)).elim (fun hk => ?_) (fun hk => by rw [if_neg hk]; exact AWP.never (j := 0) rfl)
        rw [if_pos hk]
        obtain ⟨i, hi⟩ : ∃ i, i = u.l.length - 1 - k := ⟨_, rfl⟩
        rw [← hi]
        have hil : i < u.l.length := by omega
        refine AWP.seq ?_
        refine AWP.region ?_
        refine n_assign rfl (by first|simp only[nf,Nat.beq]<;>rfl|rfl) ?_
        refine AOps.nil ?_
        refine AWP.region ?_
        refine n_alloc rfl zi200 rfl (by first|simp only[nf,Nat.beq]<;>rfl|rfl) (by first|simp only[nf,Nat.beq]<;>rfl|rfl) ?_
        refine n_store ti200 (by first|simp only[nf,Nat.beq]<;>rfl|rfl) rfl (by first|simp only[nf,Nat.beq]<;>rfl|rfl) rfl (by first|simp only[nf,Nat.beq]<;>rfl|rfl) rfl rfl rfl (by first|simp only[nf,Nat.beq]<;>rfl|rfl) ?_
        refine AOps.nil ?_
        refine AWP.block ?_
        refine AWP.seq ?_
        refine AWP.region ?_
        refine n_load rfl ti2 (by first|simp only[nf,Nat.beq]<;>rfl|rfl) (by first|simp only[nf,Nat.beq]<;>rfl|rfl) rfl (by first|simp only[nf,Nat.beq]<;>rfl|rfl) ?_
        refine n_fieldAddr rfl fd200_3 ti2 rfl (by first|simp only[nf,Nat.beq]<;>rfl|rfl) rfl (by first|simp only[nf,Nat.beq]<;>rfl|rfl) ?_
        refine n_load rfl ti2 (by first|simp only[nf,Nat.beq]<;>rfl|rfl) (by first|simp only[nf,Nat.beq]<;>rfl|rfl) rfl (by first|simp only[nf,Nat.beq]<;>rfl|rfl) ?_
        refine n_ibin rfl (by first|simp only[nf,Nat.beq]<;>rfl|rfl) (by first|simp only[nf,Nat.beq]<;>rfl|rfl) rfl ?_
        refine AOps.nil ?_
        refine AWP.cond (by first|simp only[nf,Nat.beq]<;>rfl|rfl) (fun hc4 => ?_) (fun hc4 => ?_)
        · try simp only [nh] at hc4
          have hni := nth_in hg hil
          have hsg := (okAt_iff.1 (good_at hg hil)).1
          have hla := l_last u i (single_in (num_iff.2 hgn.1) hil hsg) (by omega)
          have hlb := single_last (num_iff.2 hgn.1) hil hsg
          refine AWP.seq ?_
          refine AWP.seq ?_
          refine AWP.anyStill (by kernel_rfl) (by kernel_rfl) ?_
          refine Walk.still (rs := [3]) (by rfl) (by first|simp only[nf,Nat.beq]<;>rfl|rfl) (fun base => by
              refine n_load rfl ti2 (by first|simp only[nf,Nat.beq]<;>rfl|rfl) (by first|simp only[nf,Nat.beq]<;>rfl|rfl) rfl (by first|simp only[nf,Nat.beq]<;>rfl|rfl) ?_
              exact AOps.nil ⟨rfl, rfl, rfl⟩) ?_
          refine Walk.still (rs := [2]) (by rfl) (by first|simp only[nf,Nat.beq]<;>rfl|rfl) (fun base => by
              refine n_load rfl ti188 (by first|simp only[nf,Nat.beq]<;>rfl|rfl) (by first|simp only[nf,Nat.beq]<;>rfl|rfl) rfl (by first|simp only[nf,Nat.beq]<;>rfl|rfl) ?_
              exact AOps.nil ⟨rfl, rfl, rfl⟩) ?_
          refine Walk.still (rs := [6]) (by rfl) (by first|simp only[nf,Nat.beq]<;>rfl|rfl) (fun base => by
              refine n_move rfl (by first|simp only[nf,Nat.beq]<;>rfl|rfl) ?_
              exact AOps.nil ⟨rfl, rfl, rfl⟩) ?_
          refine Walk.still (rs := [33, 34]) (by rfl) (by first|simp only[nf,Nat.beq]<;>rfl|rfl) (fun base => by
              refine n_call0B rfl cf228 rfl (Eq.trans (by simp only [nl] <;> rfl) (by first|simp only[nf,Nat.beq]<;>rfl|rfl)) (by repeat (first | exact .nil | refine .cons ?_ ?_ | exact ren_ints | exact .lf (.val _) | exact .lf (lf_ints (.inl rfl)) | exact .bp ⟨rfl, rfl⟩ | exact .bp (.inl ⟨rfl, rfl⟩) | exact .bp (.inr ⟨rfl, rfl⟩) | exact .lf (D.flat_lf rfl) | exact ren_map (f := spz) (fun _ => rfl) | exact .lf (lf_tz _) | exact ren_tz | exact .lf (.fn (fun d h => by cases h) (fun d h => by cases h)) | exact .lf (lf_fnrp (lf_rp1 (f := spz) (fun _ => rfl))))) (hla) (by first | exact .val _ | exact lf_ints (.inl rfl) | exact lf_ints (.inr rfl) | exact .any | exact D.flat_lf rfl | exact lf_map (f := spz) (fun _ => rfl) (.inl rfl) | exact lf_tz _ | exact .tup (lf_cons (lf_tz _) (lf_cons (.val _) lf_nil)) | exact lf_fnrp (lf_rp1 (f := spz) (fun _ => rfl))) ?_
              exact AOps.nil ⟨rfl, rfl, rfl⟩) ?_
          refine Walk.still (rs := [32, 35]) (by rfl) (by first|simp only[nf,Nat.beq]<;>rfl|rfl) (fun base => by
              refine n_ibin rfl (by first|simp only[nf,Nat.beq]<;>rfl|rfl) (by first|simp only[nf,Nat.beq]<;>rfl|rfl) rfl ?_
              exact AOps.nil ⟨rfl, rfl, rfl⟩) ?_
          refine Walk.done ?_
          refine AWP.cond (by first|simp only[nf,Nat.beq]<;>rfl|rfl) (fun hc5 => ?_) (fun hc5 => ?_)
          · try simp only [nh] at hc5
            have hz := pos_none hfo (late_no hg hkl hk (by rw [← hi]; omega) (by rw [← hi]; omega))
            refine AWP.seq ?_
            refine AWP.region ?_
            refine n_store ti2 (by first|simp only[nf,Nat.beq]<;>rfl|rfl) rfl (by first|simp only[nf,Nat.beq]<;>rfl|rfl) rfl (by first|simp only[nf,Nat.beq]<;>rfl|rfl) rfl rfl rfl (by first|simp only[nf,Nat.beq]<;>rfl|rfl) ?_
            refine n_store ti28 (by first|simp only[nf,Nat.beq]<;>rfl|rfl) rfl (by first|simp only[nf,Nat.beq]<;>rfl|rfl) rfl (by first|simp only[nf,Nat.beq]<;>rfl|rfl) rfl rfl rfl (by first|simp only[nf,Nat.beq]<;>rfl|rfl) ?_
            refine AOps.nil ?_
            refine AWP.ret ?_
            exact ⟨rfl, [.box (spz (u.nth i))], by rw [hz.1, hz.2]; rfl⟩
          · try simp only [nh] at hc5
            have hz := pos_found hg hil (x := x) ⟨by omega, by omega⟩
            refine AWP.skip ?_
            refine AWP.seq ?_
            refine AWP.region ?_
            refine n_fieldAddr rfl fd200_2 ti2 rfl (by first|simp only[nf,Nat.beq]<;>rfl|rfl) rfl (by first|simp only[nf,Nat.beq]<;>rfl|rfl) ?_
            refine n_load rfl ti2 (by first|simp only[nf,Nat.beq]<;>rfl|rfl) (by first|simp only[nf,Nat.beq]<;>rfl|rfl) rfl (by first|simp only[nf,Nat.beq]<;>rfl|rfl) ?_
            refine n_load rfl ti2 (by first|simp only[nf,Nat.beq]<;>rfl|rfl) (by first|simp only[nf,Nat.beq]<;>rfl|rfl) rfl (by first|simp only[nf,Nat.beq]<;>rfl|rfl) ?_
            refine n_fieldAddr rfl fd200_3 ti2 rfl (by first|simp only[nf,Nat.beq]<;>rfl|rfl) rfl (by first|simp only[nf,Nat.beq]<;>rfl|rfl) ?_
            refine n_load rfl ti2 (by first|simp only[nf,Nat.beq]<;>rfl|rfl) (by first|simp only[nf,Nat.beq]<;>rfl|rfl) rfl (by first|simp only[nf,Nat.beq]<;>rfl|rfl) ?_
            first | refine n_isub rfl (by first|simp only[nf,Nat.beq]<;>rfl|rfl) (by first|simp only[nf,Nat.beq]<;>rfl|rfl) rfl (by omega) (by omega) ?_ | refine n_ibin rfl (by first|simp only[nf,Nat.beq]<;>rfl|rfl) (by first|simp only[nf,Nat.beq]<;>rfl|rfl) rfl ?_
            first | refine n_iadd rfl (by first|simp only[nf,Nat.beq]<;>rfl|rfl) (by first|simp only[nf,Nat.beq]<;>rfl|rfl) rfl (by omega) (by omega) ?_ | refine n_ibin rfl (by first|simp only[nf,Nat.beq]<;>rfl|rfl) (by first|simp only[nf,Nat.beq]<;>rfl|rfl) rfl ?_
            refine n_store ti2 (by first|simp only[nf,Nat.beq]<;>rfl|rfl) rfl (by first|simp only[nf,Nat.beq]<;>rfl|rfl) rfl (by first|simp only[nf,Nat.beq]<;>rfl|rfl) rfl rfl rfl (by first|simp only[nf,Nat.beq]<;>rfl|rfl) ?_
            refine n_store ti28 (by first|simp only[nf,Nat.beq]<;>rfl|rfl) rfl (by first|simp only[nf,Nat.beq]<;>rfl|rfl) rfl (by first|simp only[nf,Nat.beq]<;>rfl|rfl) rfl rfl rfl (by first|simp only[nf,Nat.beq]<;>rfl|rfl) ?_
            refine AOps.nil ?_
            refine AWP.ret ?_
            exact ⟨rfl, [.box (spz (u.nth i))], by rw [hz.1, hz.2]; rfl⟩
        · try simp only [nh] at hc4
          have hks : u.late x (k + 1) := late_succ hk (by rw [← hi]; omega)
          refine AWP.skip ?_
          exact ⟨[.box (spz (u.nth i))], by dsimp only; rw [if_pos hks]; rfl⟩
      · rw [List.length_map, back_len]
        try dsimp only
        refine (Classical.em (u.late x u.l.length)).elim (fun hk => ?_) (fun hk => by rw [if_neg hk]; exact AWP.never (j := 0) rfl)
        rw [if_pos hk]
        have hz := pos_none hfo (late_all hk)
        refine AWP.seq ?_
        refine AWP.region ?_
        refine n_store ti2 (by first|simp only[nf,Nat.beq]<;>rfl|rfl) rfl (by first|simp only[nf,Nat.beq]<;>rfl|rfl) rfl (by first|simp only[nf,Nat.beq]<;>rfl|rfl) rfl rfl rfl (by first|simp only[nf,Nat.beq]<;>rfl|rfl) ?_
        refine n_store ti28 (by first|simp only[nf,Nat.beq]<;>rfl|rfl) rfl (by first|simp only[nf,Nat.beq]<;>rfl|rfl) rfl (by first|simp only[nf,Nat.beq]<;>rfl|rfl) rfl rfl rfl (by first|simp only[nf,Nat.beq]<;>rfl|rfl) ?_
        refine AOps.nil ?_
        refine AWP.ret ?_
        refine fin_pure (.cons (rv_cell ti2 (by first|simp only[nf,Nat.beq]<;>rfl|rfl) (by first|simp only[nf,Nat.beq]<;>rfl|rfl) rfl (by first|simp only[nf,Nat.beq]<;>rfl|rfl)) (.cons (rv_cell ti28 (by first|simp only[nf,Nat.beq]<;>rfl|rfl) (by first|simp only[nf,Nat.beq]<;>rfl|rfl) rfl (by first|simp only[nf,Nat.beq]<;>rfl|rfl)) .nil)) (by first|simp only[nf,Nat.beq]<;>rfl|rfl) ?_
        rw [← hu]; first | exact ren_flat rfl rfl | (rw [hz.1, hz.2]; exact ren_flat rfl rfl)
      · rintro c S' ⟨rfl, T, rfl⟩
        refine ⟨by simp, ?_⟩
        refine AWP.ret ?_
        refine fin_pure (.cons (rv_cell ti2 (by first|simp only[nf,Nat.beq]<;>rfl|rfl) (by first|simp only[nf,Nat.beq]<;>rfl|rfl) rfl (by first|simp only[nf,Nat.beq]<;>rfl|rfl)) (.cons (rv_cell ti28 (by first|simp only[nf,Nat.beq]<;>rfl|rfl) (by first|simp only[nf,Nat.beq]<;>rfl|rfl) rfl (by first|simp only[nf,Nat.beq]<;>rfl|rfl)) .nil)) (by first|simp only[nf,Nat.beq]<;>rfl|rfl) ?_
        rw [← hu]; first | exact ren_flat rfl rfl | (rw [hz.1, hz.2]; exact ren_flat rfl rfl)

theorem l_of (s : Sp) : Does Try.prog 247 [.agg (spz s)] [] (.agg [vi s.e, vi s.r]) [] := by
  refine Does.of_body (rvs := [.cell 2 295]) Try.func247 rfl rfl rfl rfl ?_
  refine AWP.seq ?_
  refine AWP.region ?_
  refine n_box rfl (by first|simp only[nf,Nat.beq]<;>rfl|rfl) rfl rfl (by first|simp only[nf,Nat.beq]<;>rfl|rfl) (by first|simp only[nf,Nat.beq]<;>rfl|rfl) ?_
  refine n_alloc rfl zi295 rfl (by first|simp only[nf,Nat.beq]<;>rfl|rfl) (by first|simp only[nf,Nat.beq]<;>rfl|rfl) ?_
  refine AOps.nil ?_
  refine AWP.seq ?_
  refine AWP.region ?_
  refine n_fieldAddr rfl fd200_0 ti2 rfl (by first|simp only[nf,Nat.beq]<;>rfl|rfl) rfl (by first|simp only[nf,Nat.beq]<;>rfl|rfl) ?_
  refine n_load rfl ti2 (by first|simp only[nf,Nat.beq]<;>rfl|rfl) (by first|simp only[nf,Nat.beq]<;>rfl|rfl) rfl (by first|simp only[nf,Nat.beq]<;>rfl|rfl) ?_
  refine n_fieldAddr rfl fd200_1 ti3 rfl (by first|simp only[nf,Nat.beq]<;>rfl|rfl) rfl (by first|simp only[nf,Nat.beq]<;>rfl|rfl) ?_
  refine n_load rfl ti3 (by first|simp only[nf,Nat.beq]<;>rfl|rfl) (by first|simp only[nf,Nat.beq]<;>rfl|rfl) rfl (by first|simp only[nf,Nat.beq]<;>rfl|rfl) ?_
  refine n_build rfl si295 (Eq.trans (by simp only [nl] <;> rfl) (by first|simp only[nf,Nat.beq]<;>rfl|rfl)) (Eq.trans (by simp only [nl] <;> rfl) (by first|simp only[nf,Nat.beq]<;>rfl|rfl)) rfl ?_
  refine n_store ti295 (by first|simp only[nf,Nat.beq]<;>rfl|rfl) rfl (by first|simp only[nf,Nat.beq]<;>rfl|rfl) rfl (by first|simp only[nf,Nat.beq]<;>rfl|rfl) rfl rfl rfl (by first|simp only[nf,Nat.beq]<;>rfl|rfl) ?_
  refine AOps.nil ?_
  refine AWP.ret ?_
  refine fin_pure (.cons (rv_cell ti295 (by first|simp only[nf,Nat.beq]<;>rfl|rfl) (by first|simp only[nf,Nat.beq]<;>rfl|rfl) rfl (by first|simp only[nf,Nat.beq]<;>rfl|rfl)) .nil) (by first|simp only[nf,Nat.beq]<;>rfl|rfl) ?_
  exact ren_flat rfl rfl

theorem l_behind (t : Tb) (x : Int) (hg : t.good = true) (h1 : t.start ≤ x) (h2 : x < t.n) : Does Try.prog 248 [tz t, vi x] [] (vi (t.beh x)) [] := by
  refine Does.of_body (rvs := [.tmp 4]) Try.func248 rfl rfl rfl rfl ?_
  have hgn := good_num hg
  have hid := idx_in hg h1 h2
  refine AWP.seq ?_
  refine AWP.region ?_
  refine n_box rfl (by first|simp only[nf,Nat.beq]<;>rfl|rfl) rfl rfl (by first|simp only[nf,Nat.beq]<;>rfl|rfl) (by first|simp only[nf,Nat.beq]<;>rfl|rfl) ?_
  refine n_assign rfl (by first|simp only[nf,Nat.beq]<;>rfl|rfl) ?_
  refine AOps.nil ?_
  refine AWP.seq ?_
  refine AWP.seq ?_
  refine AWP.region ?_
  refine n_fieldAddr rfl fd188_0 ti186 rfl (by first|simp only[nf,Nat.beq]<;>rfl|rfl) rfl (by first|simp only[nf,Nat.beq]<;>rfl|rfl) ?_
  refine n_load rfl ti186 (by first|simp only[nf,Nat.beq]<;>rfl|rfl) (by first|simp only[nf,Nat.beq]<;>rfl|rfl) rfl (by first|simp only[nf,Nat.beq]<;>rfl|rfl) ?_
  refine n_len rfl Try.underlying186 (by first|simp only[nf,Nat.beq]<;>rfl|rfl) (by first | rw [ints_length] | rw [List.length_map] | rfl) ?_
  refine n_move rfl (by first|simp only[nf,Nat.beq]<;>rfl|rfl) ?_
  refine AOps.nil ?_
  refine AWP.block ?_
  refine AWP.loop (α := Nat) (fun i => i ≤ t.l.length ∧ ∀ j, j < i → t.fin j ≤ x) (fun i => put (put (put (put empty 1 (vi x)) 2 (.bp 0 0)) 8 (vi (t.l.length : Int))) 9 (vi (i : Int))) (fun _ => [.box [(.sl none (t.l.map spz) .ro), vi t.n]]) (fun i => t.l.length - i) 0 ?_ ?_ ?_ ?_
  · exact ⟨Nat.zero_le _, fun j h => by omega⟩
  · (repeat (first | exact FLe.empty _ | refine FLe.put ?_ ?_)) <;> first | (simp only [nf, Nat.beq]; done) | rfl | ((try simp only [nf, Nat.beq]); first | rfl | (simp only [List.length_map]; done) | (congr 2; omega; done))
  · rfl
  · rintro i ⟨hi, hj⟩
    try dsimp only at hi hj ⊢
    refine AWP.seq ?_
    refine AWP.region ?_
    refine n_ibin rfl (by first|simp only[nf,Nat.beq]<;>rfl|rfl) (by first|simp only[nf,Nat.beq]<;>rfl|rfl) rfl ?_
    refine AOps.nil ?_
    refine AWP.seq ?_
    refine AWP.cond (by first|simp only[nf,Nat.beq]<;>rfl|rfl) (fun hc1 => ?_) (fun hc1 => ?_)
    · try simp only [nh] at hc1
      have hil : i < t.l.length := by omega
      have hen := l_end t i hil (by omega)
      refine AWP.skip ?_
      refine AWP.seq ?_
      refine AWP.block ?_
      refine AWP.seq ?_
      refine AWP.region ?_
      refine n_move rfl (by first|simp only[nf,Nat.beq]<;>rfl|rfl) ?_
      refine n_assign rfl (by first|simp only[nf,Nat.beq]<;>rfl|rfl) ?_
      refine AOps.nil ?_
      refine AWP.seq ?_
      refine AWP.region ?_
      refine n_load rfl ti188 (by first|simp only[nf,Nat.beq]<;>rfl|rfl) (by first|simp only[nf,Nat.beq]<;>rfl|rfl) rfl (by first|simp only[nf,Nat.beq]<;>rfl|rfl) ?_
      refine n_move rfl (by first|simp only[nf,Nat.beq]<;>rfl|rfl) ?_
      refine n_call0B rfl cf231 rfl (Eq.trans (by simp only [nl] <;> rfl) (by first|simp only[nf,Nat.beq]<;>rfl|rfl)) (by repeat (first | exact .nil | refine .cons ?_ ?_ | exact ren_ints | exact .lf (.val _) | exact .lf (lf_ints (.inl rfl)) | exact .bp ⟨rfl, rfl⟩ | exact .bp (.inl ⟨rfl, rfl⟩) | exact .bp (.inr ⟨rfl, rfl⟩) | exact .lf (D.flat_lf rfl) | exact ren_map (f := spz) (fun _ => rfl) | exact .lf (lf_tz _) | exact ren_tz | exact .lf (.fn (fun d h => by cases h) (fun d h => by cases h)) | exact .lf (lf_fnrp (lf_rp1 (f := spz) (fun _ => rfl))))) (hen) (by first | exact .val _ | exact lf_ints (.inl rfl) | exact lf_ints (.inr rfl) | exact .any | exact D.flat_lf rfl | exact lf_map (f := spz) (fun _ => rfl) (.inl rfl) | exact lf_tz _ | exact .tup (lf_cons (lf_tz _) (lf_cons (.val _) lf_nil)) | exact lf_fnrp (lf_rp1 (f := spz) (fun _ => rfl))) ?_
      refine n_move rfl (by first|simp only[nf,Nat.beq]<;>rfl|rfl) ?_
      refine n_ibin rfl (by first|simp only[nf,Nat.beq]<;>rfl|rfl) (by first|simp only[nf,Nat.beq]<;>rfl|rfl) rfl ?_
      refine AOps.nil ?_
      refine AWP.cond (by first|simp only[nf,Nat.beq]<;>rfl|rfl) (fun hc2 => ?_) (fun hc2 => ?_)
      · try simp only [nh] at hc2
        have hpi : (t.nth i).p ≤ x := by rcases Nat.eq_zero_or_pos i with e | e; have h0 := start_good hg; rw [if_neg (by omega)] at h0; rw [e]; omega; have h8 := hj (i - 1) (by omega); rw [fin_next (by omega), show i - 1 + 1 = i by omega] at h8; exact h8
        have hie := idx_eq hg h1 h2 hil hpi hc2
        refine AWP.seq ?_
        refine AWP.region ?_
        refine n_load rfl ti188 (by first|simp only[nf,Nat.beq]<;>rfl|rfl) (by first|simp only[nf,Nat.beq]<;>rfl|rfl) rfl (by first|simp only[nf,Nat.beq]<;>rfl|rfl) ?_
        refine n_move rfl (by first|simp only[nf,Nat.beq]<;>rfl|rfl) ?_
        refine n_call0B rfl cf231 rfl (Eq.trans (by simp only [nl] <;> rfl) (by first|simp only[nf,Nat.beq]<;>rfl|rfl)) (by repeat (first | exact .nil | refine .cons ?_ ?_ | exact ren_ints | exact .lf (.val _) | exact .lf (lf_ints (.inl rfl)) | exact .bp ⟨rfl, rfl⟩ | exact .bp (.inl ⟨rfl, rfl⟩) | exact .bp (.inr ⟨rfl, rfl⟩) | exact .lf (D.flat_lf rfl) | exact ren_map (f := spz) (fun _ => rfl) | exact .lf (lf_tz _) | exact ren_tz | exact .lf (.fn (fun d h => by cases h) (fun d h => by cases h)) | exact .lf (lf_fnrp (lf_rp1 (f := spz) (fun _ => rfl))))) (hen) (by first | exact .val _ | exact lf_ints (.inl rfl) | exact lf_ints (.inr rfl) | exact .any | exact D.flat_lf rfl | exact lf_map (f := spz) (fun _ => rfl) (.inl rfl) | exact lf_tz _ | exact .tup (lf_cons (lf_tz _) (lf_cons (.val _) lf_nil)) | exact lf_fnrp (lf_rp1 (f := spz) (fun _ => rfl))) ?_
        refine n_assign rfl (by first|simp only[nf,Nat.beq]<;>rfl|rfl) ?_
        refine AOps.nil ?_
        refine AWP.ret ?_
        refine fin_pure (.cons (rv_tmp (by first|simp only[nf,Nat.beq]<;>rfl|rfl)) .nil) (by first|simp only[nf,Nat.beq]<;>rfl|rfl) ?_
        unfold beh; rw [hie]; exact ren_flat rfl rfl
      · try simp only [nh] at hc2
        refine AWP.skip ?_
        refine AWP.region ?_
        first | refine n_iadd rfl (by first|simp only[nf,Nat.beq]<;>rfl|rfl) (by first|simp only[nf,Nat.beq]<;>rfl|rfl) rfl (by omega) (by omega) ?_ | refine n_ibin rfl (by first|simp only[nf,Nat.beq]<;>rfl|rfl) (by first|simp only[nf,Nat.beq]<;>rfl|rfl) rfl ?_
        refine n_move rfl (by first|simp only[nf,Nat.beq]<;>rfl|rfl) ?_
        refine AOps.nil ?_
        refine ⟨i + 1, ⟨by omega, fun j hj1 => ?_⟩, ?_, rfl, by omega⟩
        · rcases Nat.lt_or_ge j i with h9 | h9
          · exact hj j h9
          · obtain rfl : j = i := by omega
            omega
        · (repeat (first | exact FLe.empty _ | refine FLe.put ?_ ?_)) <;> first | (simp only [nf, Nat.beq]; done) | rfl | ((try simp only [nf, Nat.beq]); first | rfl | (simp only [List.length_map]; done) | (congr 2; omega; done))
    · try simp only [nh] at hc1
      exfalso
      obtain rfl : i = t.l.length := by omega
      have h8 := hj _ hid.1
      have h9 := hid.2.2.1
      omega

set_option maxHeartbeats 2000000 in
theorem l_com (a b : Tb) (hla : a.l.length ≤ 1048576) (hlb : b.l.length ≤ 1048576) : Does Try.prog 160 [tz a, tz b] [] (vi (com a.may b.may)) [] := by
  refine Does.of_body (rvs := [.tmp 4]) Try.func160 rfl rfl rfl rfl ?_
  have ha := l_may a hla
  have hb := l_may b hlb
  have hga := may_good a
  have hgb := may_good b
  obtain ⟨u, hu⟩ : ∃ u, u = a.may := ⟨_, rfl⟩
  obtain ⟨v, hv⟩ : ∃ v, v = b.may := ⟨_, rfl⟩
  rw [← hu] at ha hga
  rw [← hv] at hb hgb
  have hgu := good_num hga
  have hgv := good_num hgb
  have hbu := l_begin u (by omega)
  have hbv := l_begin v (by omega)
  have hsu := start_pos hga
  have hsv := start_pos hgb
  refine AWP.seq ?_
  refine AWP.region ?_
  refine n_box rfl (by first|simp only[nf,Nat.beq]<;>rfl|rfl) rfl rfl (by first|simp only[nf,Nat.beq]<;>rfl|rfl) (by first|simp only[nf,Nat.beq]<;>rfl|rfl) ?_
  refine n_box rfl (by first|simp only[nf,Nat.beq]<;>rfl|rfl) rfl rfl (by first|simp only[nf,Nat.beq]<;>rfl|rfl) (by first|simp only[nf,Nat.beq]<;>rfl|rfl) ?_
  refine n_assign rfl (by first|simp only[nf,Nat.beq]<;>rfl|rfl) ?_
  refine AOps.nil ?_
  refine AWP.seq ?_
  refine AWP.anyT [4, 5] (fun p => match p with | [false, false] => [.box [(.sl none (a.l.map spz) .ro), vi a.n], .box [(.sl none (b.l.map spz) .ro), vi b.n]] | [true, false] => [.box [(.sl none (u.l.map spz) .ro), vi u.n], .box [(.sl none (b.l.map spz) .ro), vi b.n]] | [false, true] => [.box [(.sl none (a.l.map spz) .ro), vi a.n], .box [(.sl none (v.l.map spz) .ro), vi v.n]] | [true, true] => [.box [(.sl none (u.l.map spz) .ro), vi u.n], .box [(.sl none (v.l.map spz) .ro), vi v.n]] | _ => []) (by kernel_rfl) (by kernel_rfl) rfl rfl ?_
  refine Walk.cases [([false, false], [.box [(.sl none (a.l.map spz) .ro), vi a.n], .box [(.sl none (b.l.map spz) .ro), vi b.n]], [.box [(.sl none (a.l.map spz) .ro), vi a.n], .box [(.sl none (b.l.map spz) .ro), vi b.n]])] (by rfl) (by kernel_rfl) (rs := [2]) (by rfl) (by first|simp only[nf,Nat.beq]<;>rfl|rfl) (fun base => ⟨
      ⟨rfl, rfl, by
        refine n_load rfl ti188 (by first|simp only[nf,Nat.beq]<;>rfl|rfl) (by first|simp only[nf,Nat.beq]<;>rfl|rfl) rfl (by first|simp only[nf,Nat.beq]<;>rfl|rfl) ?_
        exact AOps.nil ⟨rfl, rfl, rfl⟩⟩,
      trivial⟩) ?_
  refine Walk.cases [([false, false], [.box [(.sl none (a.l.map spz) .ro), vi a.n], .box [(.sl none (b.l.map spz) .ro), vi b.n]], [.box [(.sl none (a.l.map spz) .ro), vi a.n], .box [(.sl none (b.l.map spz) .ro), vi b.n]])] (by rfl) (by kernel_rfl) (rs := [11]) (by rfl) (by first|simp only[nf,Nat.beq]<;>rfl|rfl) (fun base => ⟨
      ⟨rfl, rfl, by
        refine n_call0B rfl cf226 rfl (Eq.trans (by simp only [nl] <;> rfl) (by first|simp only[nf,Nat.beq]<;>rfl|rfl)) (by repeat (first | exact .nil | refine .cons ?_ ?_ | exact ren_ints | exact .lf (.val _) | exact .lf (lf_ints (.inl rfl)) | exact .bp ⟨rfl, rfl⟩ | exact .bp (.inl ⟨rfl, rfl⟩) | exact .bp (.inr ⟨rfl, rfl⟩) | exact .lf (D.flat_lf rfl) | exact ren_map (f := spz) (fun _ => rfl) | exact .lf (lf_tz _) | exact ren_tz | exact .lf (.fn (fun d h => by cases h) (fun d h => by cases h)) | exact .lf (lf_fnrp (lf_rp1 (f := spz) (fun _ => rfl))))) (ha) (by first | exact .val _ | exact lf_ints (.inl rfl) | exact lf_ints (.inr rfl) | exact .any | exact D.flat_lf rfl | exact lf_map (f := spz) (fun _ => rfl) (.inl rfl) | exact lf_tz _ | exact .tup (lf_cons (lf_tz _) (lf_cons (.val _) lf_nil)) | exact lf_fnrp (lf_rp1 (f := spz) (fun _ => rfl))) ?_
        exact AOps.nil ⟨rfl, rfl, rfl⟩⟩,
      trivial⟩) ?_
  refine Walk.cases [([false, false], [.box [(.sl none (a.l.map spz) .ro), vi a.n], .box [(.sl none (b.l.map spz) .ro), vi b.n]], [.box [(.sl none (a.l.map spz) .ro), vi a.n], .box [(.sl none (b.l.map spz) .ro), vi b.n]])] (by rfl) (by kernel_rfl) (rs := [3]) (by rfl) (by first|simp only[nf,Nat.beq]<;>rfl|rfl) (fun base => ⟨
      ⟨rfl, rfl, by
        refine n_load rfl ti188 (by first|simp only[nf,Nat.beq]<;>rfl|rfl) (by first|simp only[nf,Nat.beq]<;>rfl|rfl) rfl (by first|simp only[nf,Nat.beq]<;>rfl|rfl) ?_
        exact AOps.nil ⟨rfl, rfl, rfl⟩⟩,
      trivial⟩) ?_
  refine Walk.cases [([false, false], [.box [(.sl none (a.l.map spz) .ro), vi a.n], .box [(.sl none (b.l.map spz) .ro), vi b.n]], [.box [(.sl none (a.l.map spz) .ro), vi a.n], .box [(.sl none (b.l.map spz) .ro), vi b.n]])] (by rfl) (by kernel_rfl) (rs := [13]) (by rfl) (by first|simp only[nf,Nat.beq]<;>rfl|rfl) (fun base => ⟨
      ⟨rfl, rfl, by
        refine n_call0B rfl cf226 rfl (Eq.trans (by simp only [nl] <;> rfl) (by first|simp only[nf,Nat.beq]<;>rfl|rfl)) (by repeat (first | exact .nil | refine .cons ?_ ?_ | exact ren_ints | exact .lf (.val _) | exact .lf (lf_ints (.inl rfl)) | exact .bp ⟨rfl, rfl⟩ | exact .bp (.inl ⟨rfl, rfl⟩) | exact .bp (.inr ⟨rfl, rfl⟩) | exact .lf (D.flat_lf rfl) | exact ren_map (f := spz) (fun _ => rfl) | exact .lf (lf_tz _) | exact ren_tz | exact .lf (.fn (fun d h => by cases h) (fun d h => by cases h)) | exact .lf (lf_fnrp (lf_rp1 (f := spz) (fun _ => rfl))))) (hb) (by first | exact .val _ | exact lf_ints (.inl rfl) | exact lf_ints (.inr rfl) | exact .any | exact D.flat_lf rfl | exact lf_map (f := spz) (fun _ => rfl) (.inl rfl) | exact lf_tz _ | exact .tup (lf_cons (lf_tz _) (lf_cons (.val _) lf_nil)) | exact lf_fnrp (lf_rp1 (f := spz) (fun _ => rfl))) ?_
        exact AOps.nil ⟨rfl, rfl, rfl⟩⟩,
      trivial⟩) ?_
  refine Walk.cases (d := .any) [([false, false], [.box [(.sl none (a.l.map spz) .ro), vi a.n], .box [(.sl none (b.l.map spz) .ro), vi b.n]], [.box [(.sl none (u.l.map spz) .ro), vi u.n], .box [(.sl none (b.l.map spz) .ro), vi b.n]])] (by rfl) (by kernel_rfl) (rs := [2, 12]) (by rfl) (by first|simp only[nf,Nat.beq]<;>rfl|rfl) (fun base => ⟨
      ⟨rfl, rfl, by
        refine n_store ti188 (by first|simp only[nf,Nat.beq]<;>rfl|rfl) rfl (by first|simp only[nf,Nat.beq]<;>rfl|rfl) rfl (by first|simp only[nf,Nat.beq]<;>rfl|rfl) rfl rfl rfl (by first|simp only[nf,Nat.beq]<;>rfl|rfl) ?_
        exact AOps.nil ⟨rfl, rfl, rfl⟩⟩,
      trivial⟩) ?_
  refine Walk.cases (d := .any) [([true, false], [.box [(.sl none (u.l.map spz) .ro), vi u.n], .box [(.sl none (b.l.map spz) .ro), vi b.n]], [.box [(.sl none (u.l.map spz) .ro), vi u.n], .box [(.sl none (v.l.map spz) .ro), vi v.n]])] (by rfl) (by kernel_rfl) (rs := [3, 14]) (by rfl) (by first|simp only[nf,Nat.beq]<;>rfl|rfl) (fun base => ⟨
      ⟨rfl, rfl, by
        refine n_store ti188 (by first|simp only[nf,Nat.beq]<;>rfl|rfl) rfl (by first|simp only[nf,Nat.beq]<;>rfl|rfl) rfl (by first|simp only[nf,Nat.beq]<;>rfl|rfl) rfl rfl rfl (by first|simp only[nf,Nat.beq]<;>rfl|rfl) ?_
        exact AOps.nil ⟨rfl, rfl, rfl⟩⟩,
      trivial⟩) ?_
  refine Walk.done ?_
  refine AWP.seq ?_
  refine AWP.region ?_
  refine n_fieldAddr rfl fd188_1 ti2 rfl (by first|simp only[nf,Nat.beq]<;>rfl|rfl) rfl (by first|simp only[nf,Nat.beq]<;>rfl|rfl) ?_
  refine n_load rfl ti2 (by first|simp only[nf,Nat.beq]<;>rfl|rfl) (by first|simp only[nf,Nat.beq]<;>rfl|rfl) rfl (by first|simp only[nf,Nat.beq]<;>rfl|rfl) ?_
  refine n_fieldAddr rfl fd188_1 ti2 rfl (by first|simp only[nf,Nat.beq]<;>rfl|rfl) rfl (by first|simp only[nf,Nat.beq]<;>rfl|rfl) ?_
  refine n_load rfl ti2 (by first|simp only[nf,Nat.beq]<;>rfl|rfl) (by first|simp only[nf,Nat.beq]<;>rfl|rfl) rfl (by first|simp only[nf,Nat.beq]<;>rfl|rfl) ?_
  refine n_min (T2 := #[]) (c := hi u v) rfl (by first|simp only[nf,Nat.beq]<;>rfl|rfl) (by first|simp only[nf,Nat.beq]<;>rfl|rfl) rfl ?_
  refine n_assign rfl (by first|simp only[nf,Nat.beq]<;>rfl|rfl) ?_
  refine AOps.nil ?_
  refine AWP.seq ?_
  refine AWP.seq ?_
  refine AWP.anyStill (by kernel_rfl) (by kernel_rfl) ?_
  refine Walk.still (rs := [2]) (by rfl) (by first|simp only[nf,Nat.beq]<;>rfl|rfl) (fun base => by
      refine n_load rfl ti188 (by first|simp only[nf,Nat.beq]<;>rfl|rfl) (by first|simp only[nf,Nat.beq]<;>rfl|rfl) rfl (by first|simp only[nf,Nat.beq]<;>rfl|rfl) ?_
      exact AOps.nil ⟨rfl, rfl, rfl⟩) ?_
  refine Walk.still (rs := [20]) (by rfl) (by first|simp only[nf,Nat.beq]<;>rfl|rfl) (fun base => by
      refine n_call0B rfl cf246 rfl (Eq.trans (by simp only [nl] <;> rfl) (by first|simp only[nf,Nat.beq]<;>rfl|rfl)) (by repeat (first | exact .nil | refine .cons ?_ ?_ | exact ren_ints | exact .lf (.val _) | exact .lf (lf_ints (.inl rfl)) | exact .bp ⟨rfl, rfl⟩ | exact .bp (.inl ⟨rfl, rfl⟩) | exact .bp (.inr ⟨rfl, rfl⟩) | exact .lf (D.flat_lf rfl) | exact ren_map (f := spz) (fun _ => rfl) | exact .lf (lf_tz _) | exact ren_tz | exact .lf (.fn (fun d h => by cases h) (fun d h => by cases h)) | exact .lf (lf_fnrp (lf_rp1 (f := spz) (fun _ => rfl))))) (hbu) (by first | exact .val _ | exact lf_ints (.inl rfl) | exact lf_ints (.inr rfl) | exact .any | exact D.flat_lf rfl | exact lf_map (f := spz) (fun _ => rfl) (.inl rfl) | exact lf_tz _ | exact .tup (lf_cons (lf_tz _) (lf_cons (.val _) lf_nil)) | exact lf_fnrp (lf_rp1 (f := spz) (fun _ => rfl))) ?_
      exact AOps.nil ⟨rfl, rfl, rfl⟩) ?_
  refine Walk.still (rs := [3]) (by rfl) (by first|simp only[nf,Nat.beq]<;>rfl|rfl) (fun base => by
      refine n_load rfl ti188 (by first|simp only[nf,Nat.beq]<;>rfl|rfl) (by first|simp only[nf,Nat.beq]<;>rfl|rfl) rfl (by first|simp only[nf,Nat.beq]<;>rfl|rfl) ?_
      exact AOps.nil ⟨rfl, rfl, rfl⟩) ?_
  refine Walk.still (rs := [22]) (by rfl) (by first|simp only[nf,Nat.beq]<;>rfl|rfl) (fun base => by
      refine n_call0B rfl cf246 rfl (Eq.trans (by simp only [nl] <;> rfl) (by first|simp only[nf,Nat.beq]<;>rfl|rfl)) (by repeat (first | exact .nil | refine .cons ?_ ?_ | exact ren_ints | exact .lf (.val _) | exact .lf (lf_ints (.inl rfl)) | exact .bp ⟨rfl, rfl⟩ | exact .bp (.inl ⟨rfl, rfl⟩) | exact .bp (.inr ⟨rfl, rfl⟩) | exact .lf (D.flat_lf rfl) | exact ren_map (f := spz) (fun _ => rfl) | exact .lf (lf_tz _) | exact ren_tz | exact .lf (.fn (fun d h => by cases h) (fun d h => by cases h)) | exact .lf (lf_fnrp (lf_rp1 (f := spz) (fun _ => rfl))))) (hbv) (by first | exact .val _ | exact lf_ints (.inl rfl) | exact lf_ints (.inr rfl) | exact .any | exact D.flat_lf rfl | exact lf_map (f := spz) (fun _ => rfl) (.inl rfl) | exact lf_tz _ | exact .tup (lf_cons (lf_tz _) (lf_cons (.val _) lf_nil)) | exact lf_fnrp (lf_rp1 (f := spz) (fun _ => rfl))) ?_
      exact AOps.nil ⟨rfl, rfl, rfl⟩) ?_
  refine Walk.still (rs := [21, 23]) (by rfl) (by first|simp only[nf,Nat.beq]<;>rfl|rfl) (fun base => by
      refine n_max (T2 := #[]) (c := lo u v) rfl (by first|simp only[nf,Nat.beq]<;>rfl|rfl) (by first|simp only[nf,Nat.beq]<;>rfl|rfl) rfl ?_
      exact AOps.nil ⟨rfl, rfl, rfl⟩) ?_
  refine Walk.still (rs := [24]) (by rfl) (by first|simp only[nf,Nat.beq]<;>rfl|rfl) (fun base => by
      refine n_assign rfl (by first|simp only[nf,Nat.beq]<;>rfl|rfl) ?_
      exact AOps.nil ⟨rfl, rfl, rfl⟩) ?_
  refine Walk.done ?_
  refine AWP.block ?_
  refine AWP.loopX 2 (α := Int) (fun n => lo u v ≤ n ∧ (n ≤ hi u v ∨ n = lo u v) ∧ ∀ x, lo u v ≤ x → x < n → u.whose x = v.whose x) (fun n => put (put (put (put empty 2 (.bp 0 0)) 3 (.bp 1 0)) 5 (vi (hi u v))) 6 (vi n)) (fun _ => [.box [(.sl none (u.l.map spz) .ro), vi u.n], .box [(.sl none (v.l.map spz) .ro), vi v.n]]) (fun n => (hi u v - n).toNat) (lo u v) ?_ ?_ ?_ ?_ ?_ ?_ ?_
  · exact ⟨Int.le_refl _, .inr rfl, fun x h1 h2 => by omega⟩
  · (repeat (first | exact FLe.empty _ | refine FLe.put ?_ ?_)) <;> first | (simp only [nf, Nat.beq]; done) | rfl | ((try simp only [nf, Nat.beq]); first | rfl | (simp only [List.length_map]; done) | (congr 2; omega; done))
  · rfl
  · exact fun _ => rfl
  · intro p hp; (try dsimp only); (repeat' (refine un_put ?_ ?_)) <;> first | exact un_empty | exact .bp (by decide) | exact .lf (D.flat_lf rfl) | exact .lf (lf_ints (.inl rfl))
  · intro p hp; (try dsimp only); repeat' (first | exact un_nil | refine un_cons ?_ ?_ | exact un_box rfl | exact un_boxL (lf_cons (lf_map (f := spz) (fun _ => rfl) (.inl rfl)) (lf_cons (.val _) lf_nil)))
  · rintro n ⟨hn1, hn2, hn3⟩
    try dsimp only at hn1 hn2 hn3 ⊢
    refine AWP.seq ?_
    refine AWP.seq ?_
    refine AWP.region ?_
    refine n_move rfl (by first|simp only[nf,Nat.beq]<;>rfl|rfl) ?_
    refine n_move rfl (by first|simp only[nf,Nat.beq]<;>rfl|rfl) ?_
    refine n_ibin rfl (by first|simp only[nf,Nat.beq]<;>rfl|rfl) (by first|simp only[nf,Nat.beq]<;>rfl|rfl) rfl ?_
    refine AOps.nil ?_
    refine AWP.cond (by first|simp only[nf,Nat.beq]<;>rfl|rfl) (fun hc1 => ?_) (fun hc1 => ?_)
    · try simp only [nh] at hc1
      have hlt : n < hi u v := by simpa using hc1
      have hls := lo_start hn1
      have hle := hi_end hlt
      have hfu := l_find u n hga
      have hfv := l_find v n hgb
      obtain ⟨eu, su⟩ := spAt_in hls.1 hle.1
      obtain ⟨ev, sv⟩ := spAt_in hls.2 hle.2
      rw [if_neg (by simp [eu]), eu] at hfu
      rw [if_neg (by simp [ev]), ev] at hfv
      have hbeu := l_behind u n hga hls.1 hle.1
      have hbev := l_behind v n hgb hls.2 hle.2
      have hgtu := beh_gt hga hls.1 hle.1
      have hgtv := beh_gt hgb hls.2 hle.2
      refine AWP.skip ?_
      refine AWP.block ?_
      refine AWP.seq ?_
      refine AWP.region ?_
      refine n_load rfl ti188 (by first|simp only[nf,Nat.beq]<;>rfl|rfl) (by first|simp only[nf,Nat.beq]<;>rfl|rfl) rfl (by first|simp only[nf,Nat.beq]<;>rfl|rfl) ?_
      refine n_move rfl (by first|simp only[nf,Nat.beq]<;>rfl|rfl) ?_
      refine n_call0B rfl cf225 rfl (Eq.trans (by simp only [nl] <;> rfl) (by first|simp only[nf,Nat.beq]<;>rfl|rfl)) (by repeat (first | exact .nil | refine .cons ?_ ?_ | exact ren_ints | exact .lf (.val _) | exact .lf (lf_ints (.inl rfl)) | exact .bp ⟨rfl, rfl⟩ | exact .bp (.inl ⟨rfl, rfl⟩) | exact .bp (.inr ⟨rfl, rfl⟩) | exact .lf (D.flat_lf rfl) | exact ren_map (f := spz) (fun _ => rfl) | exact .lf (lf_tz _) | exact ren_tz | exact .lf (.fn (fun d h => by cases h) (fun d h => by cases h)) | exact .lf (lf_fnrp (lf_rp1 (f := spz) (fun _ => rfl))))) (hfu) (by first | exact .val _ | exact lf_ints (.inl rfl) | exact lf_ints (.inr rfl) | exact .any | exact D.flat_lf rfl | exact lf_map (f := spz) (fun _ => rfl) (.inl rfl) | exact lf_tz _ | exact .tup (lf_cons (lf_tz _) (lf_cons (.val _) lf_nil)) | exact lf_fnrp (lf_rp1 (f := spz) (fun _ => rfl))) ?_
      refine n_move rfl (by first|simp only[nf,Nat.beq]<;>rfl|rfl) ?_
      refine n_extract rfl (by first|simp only[nf,Nat.beq]<;>rfl|rfl) rfl ?_
      refine n_extract rfl (by first|simp only[nf,Nat.beq]<;>rfl|rfl) rfl ?_
      refine n_alloc rfl zi200 rfl (by first|simp only[nf,Nat.beq]<;>rfl|rfl) (by first|simp only[nf,Nat.beq]<;>rfl|rfl) ?_
      refine n_store ti200 (by first|simp only[nf,Nat.beq]<;>rfl|rfl) rfl (by first|simp only[nf,Nat.beq]<;>rfl|rfl) rfl (by first|simp only[nf,Nat.beq]<;>rfl|rfl) rfl rfl rfl (by first|simp only[nf,Nat.beq]<;>rfl|rfl) ?_
      refine n_assign rfl (by first|simp only[nf,Nat.beq]<;>rfl|rfl) ?_
      refine AOps.nil ?_
      refine AWP.seq ?_
      refine AWP.region ?_
      refine n_load rfl ti188 (by first|simp only[nf,Nat.beq]<;>rfl|rfl) (by first|simp only[nf,Nat.beq]<;>rfl|rfl) rfl (by first|simp only[nf,Nat.beq]<;>rfl|rfl) ?_
      refine n_move rfl (by first|simp only[nf,Nat.beq]<;>rfl|rfl) ?_
      refine n_call0B rfl cf225 rfl (Eq.trans (by simp only [nl] <;> rfl) (by first|simp only[nf,Nat.beq]<;>rfl|rfl)) (by repeat (first | exact .nil | refine .cons ?_ ?_ | exact ren_ints | exact .lf (.val _) | exact .lf (lf_ints (.inl rfl)) | exact .bp ⟨rfl, rfl⟩ | exact .bp (.inl ⟨rfl, rfl⟩) | exact .bp (.inr ⟨rfl, rfl⟩) | exact .lf (D.flat_lf rfl) | exact ren_map (f := spz) (fun _ => rfl) | exact .lf (lf_tz _) | exact ren_tz | exact .lf (.fn (fun d h => by cases h) (fun d h => by cases h)) | exact .lf (lf_fnrp (lf_rp1 (f := spz) (fun _ => rfl))))) (hfv) (by first | exact .val _ | exact lf_ints (.inl rfl) | exact lf_ints (.inr rfl) | exact .any | exact D.flat_lf rfl | exact lf_map (f := spz) (fun _ => rfl) (.inl rfl) | exact lf_tz _ | exact .tup (lf_cons (lf_tz _) (lf_cons (.val _) lf_nil)) | exact lf_fnrp (lf_rp1 (f := spz) (fun _ => rfl))) ?_
      refine n_move rfl (by first|simp only[nf,Nat.beq]<;>rfl|rfl) ?_
      refine n_extract rfl (by first|simp only[nf,Nat.beq]<;>rfl|rfl) rfl ?_
      refine n_extract rfl (by first|simp only[nf,Nat.beq]<;>rfl|rfl) rfl ?_
      refine n_alloc rfl zi200 rfl (by first|simp only[nf,Nat.beq]<;>rfl|rfl) (by first|simp only[nf,Nat.beq]<;>rfl|rfl) ?_
      refine n_store ti200 (by first|simp only[nf,Nat.beq]<;>rfl|rfl) rfl (by first|simp only[nf,Nat.beq]<;>rfl|rfl) rfl (by first|simp only[nf,Nat.beq]<;>rfl|rfl) rfl rfl rfl (by first|simp only[nf,Nat.beq]<;>rfl|rfl) ?_
      refine n_assign rfl (by first|simp only[nf,Nat.beq]<;>rfl|rfl) ?_
      refine AOps.nil ?_
      refine AWP.seq ?_
      refine AWP.seq ?_
      refine AWP.anyStill (by kernel_rfl) (by kernel_rfl) ?_
      refine Walk.still (rs := [7]) (by rfl) (by first|simp only[nf,Nat.beq]<;>rfl|rfl) (fun base => by
          refine n_load rfl ti200 (by first|simp only[nf,Nat.beq]<;>rfl|rfl) (by first|simp only[nf,Nat.beq]<;>rfl|rfl) rfl (by first|simp only[nf,Nat.beq]<;>rfl|rfl) ?_
          exact AOps.nil ⟨rfl, rfl, rfl⟩) ?_
      refine Walk.still (rs := [40]) (by rfl) (by first|simp only[nf,Nat.beq]<;>rfl|rfl) (fun base => by
          refine n_call0B rfl cf247 rfl (Eq.trans (by simp only [nl] <;> rfl) (by first|simp only[nf,Nat.beq]<;>rfl|rfl)) (by repeat (first | exact .nil | refine .cons ?_ ?_ | exact ren_ints | exact .lf (.val _) | exact .lf (lf_ints (.inl rfl)) | exact .bp ⟨rfl, rfl⟩ | exact .bp (.inl ⟨rfl, rfl⟩) | exact .bp (.inr ⟨rfl, rfl⟩) | exact .lf (D.flat_lf rfl) | exact ren_map (f := spz) (fun _ => rfl) | exact .lf (lf_tz _) | exact ren_tz | exact .lf (.fn (fun d h => by cases h) (fun d h => by cases h)) | exact .lf (lf_fnrp (lf_rp1 (f := spz) (fun _ => rfl))))) (l_of _) (by first | exact .val _ | exact lf_ints (.inl rfl) | exact lf_ints (.inr rfl) | exact .any | exact D.flat_lf rfl | exact lf_map (f := spz) (fun _ => rfl) (.inl rfl) | exact lf_tz _ | exact .tup (lf_cons (lf_tz _) (lf_cons (.val _) lf_nil)) | exact lf_fnrp (lf_rp1 (f := spz) (fun _ => rfl))) ?_
          exact AOps.nil ⟨rfl, rfl, rfl⟩) ?_
      refine Walk.still (rs := [9]) (by rfl) (by first|simp only[nf,Nat.beq]<;>rfl|rfl) (fun base => by
          refine n_load rfl ti200 (by first|simp only[nf,Nat.beq]<;>rfl|rfl) (by first|simp only[nf,Nat.beq]<;>rfl|rfl) rfl (by first|simp only[nf,Nat.beq]<;>rfl|rfl) ?_
          exact AOps.nil ⟨rfl, rfl, rfl⟩) ?_
      refine Walk.still (rs := [42]) (by rfl) (by first|simp only[nf,Nat.beq]<;>rfl|rfl) (fun base => by
          refine n_call0B rfl cf247 rfl (Eq.trans (by simp only [nl] <;> rfl) (by first|simp only[nf,Nat.beq]<;>rfl|rfl)) (by repeat (first | exact .nil | refine .cons ?_ ?_ | exact ren_ints | exact .lf (.val _) | exact .lf (lf_ints (.inl rfl)) | exact .bp ⟨rfl, rfl⟩ | exact .bp (.inl ⟨rfl, rfl⟩) | exact .bp (.inr ⟨rfl, rfl⟩) | exact .lf (D.flat_lf rfl) | exact ren_map (f := spz) (fun _ => rfl) | exact .lf (lf_tz _) | exact ren_tz | exact .lf (.fn (fun d h => by cases h) (fun d h => by cases h)) | exact .lf (lf_fnrp (lf_rp1 (f := spz) (fun _ => rfl))))) (l_of _) (by first | exact .val _ | exact lf_ints (.inl rfl) | exact lf_ints (.inr rfl) | exact .any | exact D.flat_lf rfl | exact lf_map (f := spz) (fun _ => rfl) (.inl rfl) | exact lf_tz _ | exact .tup (lf_cons (lf_tz _) (lf_cons (.val _) lf_nil)) | exact lf_fnrp (lf_rp1 (f := spz) (fun _ => rfl))) ?_
          exact AOps.nil ⟨rfl, rfl, rfl⟩) ?_
      refine Walk.still (rs := [41, 43]) (by rfl) (by first|simp only[nf,Nat.beq]<;>rfl|rfl) (fun base => by
          refine n_stne rfl (by first|simp only[nf,Nat.beq]<;>rfl|rfl) (by first|simp only[nf,Nat.beq]<;>rfl|rfl) rfl rfl Try.underlying295 (by kernel_rfl) (by kernel_rfl) (.int rfl ti2 Try.underlying2 rfl rfl (.int rfl ti3 Try.underlying3 rfl rfl .nil)) rfl ?_
          exact AOps.nil ⟨rfl, rfl, rfl⟩) ?_
      refine Walk.done ?_
      refine AWP.cond (by first|simp only[nf,Nat.beq]<;>rfl|rfl) (fun hc2 => ?_) (fun hc2 => ?_)
      · try simp only [nh] at hc2
        have hz : com u v = n := com_at hn1 hlt hn3 (by unfold whose; rw [su, sv]; intro h; rw [Prod.mk.injEq] at h; simp [h.1, h.2] at hc2)
        refine AWP.seq ?_
        refine AWP.region ?_
        refine n_move rfl (by first|simp only[nf,Nat.beq]<;>rfl|rfl) ?_
        refine n_assign rfl (by first|simp only[nf,Nat.beq]<;>rfl|rfl) ?_
        refine AOps.nil ?_
        refine AWP.ret ?_
        refine fin_pure (.cons (rv_tmp (by first|simp only[nf,Nat.beq]<;>rfl|rfl)) .nil) (by first|simp only[nf,Nat.beq]<;>rfl|rfl) ?_
        rw [← hu, ← hv, hz]; exact ren_flat rfl rfl
      · try simp only [nh] at hc2
        have hw : u.whose n = v.whose n := by unfold whose; rw [su, sv]; ((try simp at hc2)); rw [hc2.1, hc2.2]
        refine AWP.skip ?_
        refine AWP.anyStill (by kernel_rfl) (by kernel_rfl) ?_
        refine Walk.still (rs := [2]) (by rfl) (by first|simp only[nf,Nat.beq]<;>rfl|rfl) (fun base => by
            refine n_load rfl ti188 (by first|simp only[nf,Nat.beq]<;>rfl|rfl) (by first|simp only[nf,Nat.beq]<;>rfl|rfl) rfl (by first|simp only[nf,Nat.beq]<;>rfl|rfl) ?_
            exact AOps.nil ⟨rfl, rfl, rfl⟩) ?_
        refine Walk.still (rs := [6]) (by rfl) (by first|simp only[nf,Nat.beq]<;>rfl|rfl) (fun base => by
            refine n_move rfl (by first|simp only[nf,Nat.beq]<;>rfl|rfl) ?_
            exact AOps.nil ⟨rfl, rfl, rfl⟩) ?_
        refine Walk.still (rs := [46, 47]) (by rfl) (by first|simp only[nf,Nat.beq]<;>rfl|rfl) (fun base => by
            refine n_call0B rfl cf248 rfl (Eq.trans (by simp only [nl] <;> rfl) (by first|simp only[nf,Nat.beq]<;>rfl|rfl)) (by repeat (first | exact .nil | refine .cons ?_ ?_ | exact ren_ints | exact .lf (.val _) | exact .lf (lf_ints (.inl rfl)) | exact .bp ⟨rfl, rfl⟩ | exact .bp (.inl ⟨rfl, rfl⟩) | exact .bp (.inr ⟨rfl, rfl⟩) | exact .lf (D.flat_lf rfl) | exact ren_map (f := spz) (fun _ => rfl) | exact .lf (lf_tz _) | exact ren_tz | exact .lf (.fn (fun d h => by cases h) (fun d h => by cases h)) | exact .lf (lf_fnrp (lf_rp1 (f := spz) (fun _ => rfl))))) (hbeu) (by first | exact .val _ | exact lf_ints (.inl rfl) | exact lf_ints (.inr rfl) | exact .any | exact D.flat_lf rfl | exact lf_map (f := spz) (fun _ => rfl) (.inl rfl) | exact lf_tz _ | exact .tup (lf_cons (lf_tz _) (lf_cons (.val _) lf_nil)) | exact lf_fnrp (lf_rp1 (f := spz) (fun _ => rfl))) ?_
            exact AOps.nil ⟨rfl, rfl, rfl⟩) ?_
        refine Walk.still (rs := [3]) (by rfl) (by first|simp only[nf,Nat.beq]<;>rfl|rfl) (fun base => by
            refine n_load rfl ti188 (by first|simp only[nf,Nat.beq]<;>rfl|rfl) (by first|simp only[nf,Nat.beq]<;>rfl|rfl) rfl (by first|simp only[nf,Nat.beq]<;>rfl|rfl) ?_
            exact AOps.nil ⟨rfl, rfl, rfl⟩) ?_
        refine Walk.still (rs := [6]) (by rfl) (by first|simp only[nf,Nat.beq]<;>rfl|rfl) (fun base => by
            refine n_move rfl (by first|simp only[nf,Nat.beq]<;>rfl|rfl) ?_
            exact AOps.nil ⟨rfl, rfl, rfl⟩) ?_
        refine Walk.still (rs := [49, 50]) (by rfl) (by first|simp only[nf,Nat.beq]<;>rfl|rfl) (fun base => by
            refine n_call0B rfl cf248 rfl (Eq.trans (by simp only [nl] <;> rfl) (by first|simp only[nf,Nat.beq]<;>rfl|rfl)) (by repeat (first | exact .nil | refine .cons ?_ ?_ | exact ren_ints | exact .lf (.val _) | exact .lf (lf_ints (.inl rfl)) | exact .bp ⟨rfl, rfl⟩ | exact .bp (.inl ⟨rfl, rfl⟩) | exact .bp (.inr ⟨rfl, rfl⟩) | exact .lf (D.flat_lf rfl) | exact ren_map (f := spz) (fun _ => rfl) | exact .lf (lf_tz _) | exact ren_tz | exact .lf (.fn (fun d h => by cases h) (fun d h => by cases h)) | exact .lf (lf_fnrp (lf_rp1 (f := spz) (fun _ => rfl))))) (hbev) (by first | exact .val _ | exact lf_ints (.inl rfl) | exact lf_ints (.inr rfl) | exact .any | exact D.flat_lf rfl | exact lf_map (f := spz) (fun _ => rfl) (.inl rfl) | exact lf_tz _ | exact .tup (lf_cons (lf_tz _) (lf_cons (.val _) lf_nil)) | exact lf_fnrp (lf_rp1 (f := spz) (fun _ => rfl))) ?_
            exact AOps.nil ⟨rfl, rfl, rfl⟩) ?_
        refine Walk.still (rs := [48, 51]) (by rfl) (by first|simp only[nf,Nat.beq]<;>rfl|rfl) (fun base => by
            refine n_min (T2 := #[]) (c := if v.beh n < u.beh n then v.beh n else u.beh n) rfl (by first|simp only[nf,Nat.beq]<;>rfl|rfl) (by first|simp only[nf,Nat.beq]<;>rfl|rfl) rfl ?_
            exact AOps.nil ⟨rfl, rfl, rfl⟩) ?_
        refine Walk.still (rs := [52]) (by rfl) (by first|simp only[nf,Nat.beq]<;>rfl|rfl) (fun base => by
            refine n_assign rfl (by first|simp only[nf,Nat.beq]<;>rfl|rfl) ?_
            exact AOps.nil ⟨rfl, rfl, rfl⟩) ?_
        refine Walk.done ?_
        refine ⟨(if v.beh n < u.beh n then v.beh n else u.beh n), [.box (spz (u.nth (u.idx n))), .box (spz (v.nth (v.idx n)))], ⟨by split <;> omega, .inl ?_, fun x h1 h2 => ?_⟩, ?_, rfl, ?_⟩
        · have := hi_le (a := u) (b := v) (n := if v.beh n < u.beh n then v.beh n else u.beh n) (by split <;> omega) (by split <;> omega); exact this
        · rcases Int.lt_or_le x n with h9 | h9
          · exact hn3 x h1 h9
          · exact com_step hga hgb hn1 hlt hw h9 h2
        · (repeat (first | exact FLe.empty _ | refine FLe.put ?_ ?_)) <;> first | (simp only [nf, Nat.beq]; done) | rfl | ((try simp only [nf, Nat.beq]); first | rfl | (simp only [List.length_map]; done) | (congr 2; omega; done))
        · have h7 : n < if v.beh n < u.beh n then v.beh n else u.beh n := by split <;> omega
          omega
    · try simp only [nh] at hc1
      have hz : com u v = hi u v := com_all (fun x h1 h2 => hn3 x h1 (by simp at hc1; omega))
      refine AWP.exit ?_
      refine AWP.seq ?_
      refine AWP.region ?_
      refine n_move rfl (by first|simp only[nf,Nat.beq]<;>rfl|rfl) ?_
      refine n_assign rfl (by first|simp only[nf,Nat.beq]<;>rfl|rfl) ?_
      refine AOps.nil ?_
      refine AWP.ret ?_
      refine fin_pure (.cons (rv_tmp (by first|simp only[nf,Nat.beq]<;>rfl|rfl)) .nil) (by first|simp only[nf,Nat.beq]<;>rfl|rfl) ?_
      rw [← hu, ← hv, hz]; exact ren_flat rfl rfl

theorem s_clone (l : List Sp) (hl : l.length ≤ 1048576) : Does Try.prog 278 [(.sl none (l.map spz) .ro)] [] (.sl none (l.map spz) (.own 0)) [.row l.length 4] := by
  refine Does.of_body (rvs := [.tmp 2]) Try.func278 rfl rfl rfl rfl ?_
  refine AWP.seq ?_
  refine AWP.region ?_
  refine n_assign rfl (by first|simp only[nf,Nat.beq]<;>rfl|rfl) ?_
  refine AOps.nil ?_
  refine AWP.seq ?_
  refine AWP.seq ?_
  refine AWP.region ?_
  refine n_move rfl (by first|simp only[nf,Nat.beq]<;>rfl|rfl) ?_
  refine n_eqnil rfl Try.underlying186 (by first|simp only[nf,Nat.beq]<;>rfl|rfl) (fun b1 hb1 he1 => ?_)
  refine AOps.nil ?_
  refine AWP.cond (by first|simp only[nf,Nat.beq]<;>rfl|rfl) (fun hc2 => ?_) (fun hc2 => ?_)
  · try simp only [nh] at hc2
    obtain rfl : l = [] := by simpa using he1 hc2
    refine AWP.seq ?_
    refine AWP.region ?_
    refine n_assign rfl (by first|simp only[nf,Nat.beq]<;>rfl|rfl) ?_
    refine AOps.nil ?_
    refine AWP.adopt (t := 2) (n := 0) (m := 0) (sz := 4) (S' := [.row 0 4]) (by first|simp only[nf,Nat.beq]<;>rfl|rfl) rfl rfl rfl ?_
    refine AWP.ret ?_
    refine fin_own (.cons (rv_tmp (by first|simp only[nf,Nat.beq]<;>rfl|rfl)) .nil) (by first|simp only[nf,Nat.beq]<;>rfl|rfl) rfl ?_ ?_ ?_
    · first | (exact fun x h => by cases h) | (intro x hx d hd; obtain ⟨p, _, rfl⟩ := List.mem_map.1 hx; exact flats_lf (by rfl) d hd)
    · first | rfl | simp
    · first | rfl | simp
  · try simp only [nh] at hc2
    refine AWP.skip ?_
    refine AWP.seq ?_
    refine AWP.region ?_
    refine n_lit rfl Try.underlying186 ti200 zi200 rfl rfl (Eq.trans (by simp only [nl] <;> rfl) (by first|simp only[nf,Nat.beq]<;>rfl|rfl)) rfl (by first|simp only[nf,Nat.beq]<;>rfl|rfl) ?_
    refine n_move rfl (by first|simp only[nf,Nat.beq]<;>rfl|rfl) ?_
    refine n_append_full rfl Try.underlying186 Try.underlying186 ei200 (by first|simp only[nf,Nat.beq]<;>rfl|rfl) (by first|simp only[nf,Nat.beq]<;>rfl|rfl) (by intro x hx; cases hx) (by exact map_one (f := spz) (fun _ => rfl)) (by first|simp only[nf,Nat.beq]<;>rfl|rfl) rfl (by simp only [List.length_map, List.length_nil]; omega) rfl (by first|simp only[nf,Nat.beq]<;>rfl|rfl) ?_
    refine n_assign rfl (by first|simp only[nf,Nat.beq]<;>rfl|rfl) ?_
    refine AOps.nil ?_
    refine AWP.ret ?_
    refine fin_own (.cons (rv_tmp (by first|simp only[nf,Nat.beq]<;>rfl|rfl)) .nil) (by first|simp only[nf,Nat.beq]<;>rfl|rfl) rfl ?_ ?_ ?_
    · first | (exact fun x h => by cases h) | (intro x hx d hd; obtain ⟨p, _, rfl⟩ := List.mem_map.1 hx; exact flats_lf (by rfl) d hd)
    · first | rfl | simp
    · first | rfl | simp

theorem l_clone (t : Tb) (hl : t.l.length ≤ 1048576) : Does Try.prog 229 [tz t] [] (.agg [.sl none (t.l.map spz) (.own 0), vi t.n]) [.row t.l.length 4] := by
  refine Does.of_body (rvs := [.cell 2 188]) Try.func229 rfl rfl rfl rfl ?_
  refine AWP.seq ?_
  refine AWP.region ?_
  refine n_box rfl (by first|simp only[nf,Nat.beq]<;>rfl|rfl) rfl rfl (by first|simp only[nf,Nat.beq]<;>rfl|rfl) (by first|simp only[nf,Nat.beq]<;>rfl|rfl) ?_
  refine n_alloc rfl zi188 rfl (by first|simp only[nf,Nat.beq]<;>rfl|rfl) (by first|simp only[nf,Nat.beq]<;>rfl|rfl) ?_
  refine AOps.nil ?_
  refine AWP.seq ?_
  refine AWP.region ?_
  refine n_fieldAddr rfl fd188_0 ti186 rfl (by first|simp only[nf,Nat.beq]<;>rfl|rfl) rfl (by first|simp only[nf,Nat.beq]<;>rfl|rfl) ?_
  refine n_load rfl ti186 (by first|simp only[nf,Nat.beq]<;>rfl|rfl) (by first|simp only[nf,Nat.beq]<;>rfl|rfl) rfl (by first|simp only[nf,Nat.beq]<;>rfl|rfl) ?_
  refine n_callRowR (r' := .sl none (t.l.map spz) (.own 2)) rfl cf278 rfl (Eq.trans (by simp only [nl] <;> rfl) (by first|simp only[nf,Nat.beq]<;>rfl|rfl)) (by repeat (first | exact .nil | refine .cons ?_ ?_ | exact ren_ints | exact .lf (.val _) | exact .lf (lf_ints (.inl rfl)) | exact .bp ⟨rfl, rfl⟩ | exact .bp (.inl ⟨rfl, rfl⟩) | exact .bp (.inr ⟨rfl, rfl⟩) | exact .lf (D.flat_lf rfl) | exact ren_map (f := spz) (fun _ => rfl) | exact .lf (lf_tz _) | exact ren_tz | exact .lf (.fn (fun d h => by cases h) (fun d h => by cases h)) | exact .lf (lf_fnrp (lf_rp1 (f := spz) (fun _ => rfl))))) (s_clone t.l hl) rfl (by exact .own (fun x hx d hd => by obtain ⟨p, _, rfl⟩ := List.mem_map.1 hx; exact flats_lf (by rfl) d hd) ⟨rfl, rfl⟩) (by first|simp only[nf,Nat.beq]<;>rfl|rfl) ?_
  refine n_fieldAddr rfl fd188_0 ti186 rfl (by first|simp only[nf,Nat.beq]<;>rfl|rfl) rfl (by first|simp only[nf,Nat.beq]<;>rfl|rfl) ?_
  refine n_store ti186 (by first|simp only[nf,Nat.beq]<;>rfl|rfl) rfl (by first|simp only[nf,Nat.beq]<;>rfl|rfl) rfl (by first|simp only[nf,Nat.beq]<;>rfl|rfl) rfl rfl rfl (by first|simp only[nf,Nat.beq]<;>rfl|rfl) ?_
  refine AOps.nil ?_
  refine AWP.seq ?_
  refine AWP.region ?_
  refine n_load rfl ti188 (by first|simp only[nf,Nat.beq]<;>rfl|rfl) (by first|simp only[nf,Nat.beq]<;>rfl|rfl) rfl (by first|simp only[nf,Nat.beq]<;>rfl|rfl) ?_
  refine n_store ti188 (by first|simp only[nf,Nat.beq]<;>rfl|rfl) rfl (by first|simp only[nf,Nat.beq]<;>rfl|rfl) rfl (by first|simp only[nf,Nat.beq]<;>rfl|rfl) rfl rfl rfl (by first|simp only[nf,Nat.beq]<;>rfl|rfl) ?_
  refine AOps.nil ?_
  refine AWP.ret ?_
  refine fin_rowR (l := 2) (.cons (rv_cell ti188 (by first|simp only[nf,Nat.beq]<;>rfl|rfl) (by first|simp only[nf,Nat.beq]<;>rfl|rfl) rfl (by first|simp only[nf,Nat.beq]<;>rfl|rfl)) .nil) (by first|simp only[nf,Nat.beq]<;>rfl|rfl) ?_ rfl rfl
  exact .agg rfl (RenAll.get (.cons (.own (fun x hx d hd => by obtain ⟨p, _, rfl⟩ := List.mem_map.1 hx; exact flats_lf (by rfl) d hd) ⟨rfl, rfl⟩) (.cons (.lf (.val _)) .nil)))

set_option maxHeartbeats 4000000 in
theorem l_add (t : Tb) (e r o : Int) (hl : t.l.length ≤ 1048576) (ho : -9223372036854775808 ≤ o) : Does Try.prog 223 [tz t, vi e, vi r, vi o] [] (.tup [tz (t.may.addT e r o), vi (t.may.addE e r o)]) [] := by
  refine Does.of_body (rvs := [.cell 8 188, .tmp 9]) Try.func223 rfl rfl rfl rfl ?_
  have hml := may_len (t := t)
  have hm := l_may t hl
  have hg := may_good t
  obtain ⟨u, hu⟩ : ∃ u, u = t.may := ⟨_, rfl⟩
  rw [← hu] at hm hg hml
  have hgn := good_num hg
  have hcl := l_clone u (by omega)
  refine AWP.seq ?_
  refine AWP.region ?_
  refine n_box rfl (by first|simp only[nf,Nat.beq]<;>rfl|rfl) rfl rfl (by first|simp only[nf,Nat.beq]<;>rfl|rfl) (by first|simp only[nf,Nat.beq]<;>rfl|rfl) ?_
  refine n_alloc rfl zi188 rfl (by first|simp only[nf,Nat.beq]<;>rfl|rfl) (by first|simp only[nf,Nat.beq]<;>rfl|rfl) ?_
  refine n_assign rfl (by first|simp only[nf,Nat.beq]<;>rfl|rfl) ?_
  refine AOps.nil ?_
  refine AWP.seq ?_
  refine AWP.region ?_
  refine n_load rfl ti188 (by first|simp only[nf,Nat.beq]<;>rfl|rfl) (by first|simp only[nf,Nat.beq]<;>rfl|rfl) rfl (by first|simp only[nf,Nat.beq]<;>rfl|rfl) ?_
  refine n_call0B rfl cf226 rfl (Eq.trans (by simp only [nl] <;> rfl) (by first|simp only[nf,Nat.beq]<;>rfl|rfl)) (by repeat (first | exact .nil | refine .cons ?_ ?_ | exact ren_ints | exact .lf (.val _) | exact .lf (lf_ints (.inl rfl)) | exact .bp ⟨rfl, rfl⟩ | exact .bp (.inl ⟨rfl, rfl⟩) | exact .bp (.inr ⟨rfl, rfl⟩) | exact .lf (D.flat_lf rfl) | exact ren_map (f := spz) (fun _ => rfl) | exact .lf (lf_tz _) | exact ren_tz | exact .lf (.fn (fun d h => by cases h) (fun d h => by cases h)) | exact .lf (lf_fnrp (lf_rp1 (f := spz) (fun _ => rfl))))) (hm) (by first | exact .val _ | exact lf_ints (.inl rfl) | exact lf_ints (.inr rfl) | exact .any | exact D.flat_lf rfl | exact lf_map (f := spz) (fun _ => rfl) (.inl rfl) | exact lf_tz _ | exact .tup (lf_cons (lf_tz _) (lf_cons (.val _) lf_nil)) | exact lf_fnrp (lf_rp1 (f := spz) (fun _ => rfl))) ?_
  refine n_store ti188 (by first|simp only[nf,Nat.beq]<;>rfl|rfl) rfl (by first|simp only[nf,Nat.beq]<;>rfl|rfl) rfl (by first|simp only[nf,Nat.beq]<;>rfl|rfl) rfl rfl rfl (by first|simp only[nf,Nat.beq]<;>rfl|rfl) ?_
  refine AOps.nil ?_
  refine AWP.seq ?_
  refine AWP.region ?_
  refine n_load rfl ti188 (by first|simp only[nf,Nat.beq]<;>rfl|rfl) (by first|simp only[nf,Nat.beq]<;>rfl|rfl) rfl (by first|simp only[nf,Nat.beq]<;>rfl|rfl) ?_
  refine n_callRowR (r' := .agg [.sl none (u.l.map spz) (.own 2), vi u.n]) rfl cf229 rfl (Eq.trans (by simp only [nl] <;> rfl) (by first|simp only[nf,Nat.beq]<;>rfl|rfl)) (by repeat (first | exact .nil | refine .cons ?_ ?_ | exact ren_ints | exact .lf (.val _) | exact .lf (lf_ints (.inl rfl)) | exact .bp ⟨rfl, rfl⟩ | exact .bp (.inl ⟨rfl, rfl⟩) | exact .bp (.inr ⟨rfl, rfl⟩) | exact .lf (D.flat_lf rfl) | exact ren_map (f := spz) (fun _ => rfl) | exact .lf (lf_tz _) | exact ren_tz | exact .lf (.fn (fun d h => by cases h) (fun d h => by cases h)) | exact .lf (lf_fnrp (lf_rp1 (f := spz) (fun _ => rfl))))) (hcl) rfl (by exact .agg rfl (RenAll.get (.cons (.own (fun x hx d hd => by obtain ⟨p, _, rfl⟩ := List.mem_map.1 hx; exact flats_lf (by rfl) d hd) ⟨rfl, rfl⟩) (.cons (.lf (.val _)) .nil)))) (by first|simp only[nf,Nat.beq]<;>rfl|rfl) ?_
  refine n_alloc rfl zi188 rfl (by first|simp only[nf,Nat.beq]<;>rfl|rfl) (by first|simp only[nf,Nat.beq]<;>rfl|rfl) ?_
  refine n_store ti188 (by first|simp only[nf,Nat.beq]<;>rfl|rfl) rfl (by first|simp only[nf,Nat.beq]<;>rfl|rfl) rfl (by first|simp only[nf,Nat.beq]<;>rfl|rfl) rfl rfl rfl (by first|simp only[nf,Nat.beq]<;>rfl|rfl) ?_
  refine AOps.nil ?_
  refine AWP.seq ?_
  refine AWP.block ?_
  refine AWP.seq ?_
  refine AWP.region ?_
  refine n_move rfl (by first|simp only[nf,Nat.beq]<;>rfl|rfl) ?_
  refine n_ibin rfl (by first|simp only[nf,Nat.beq]<;>rfl|rfl) (by first|simp only[nf,Nat.beq]<;>rfl|rfl) rfl ?_
  refine n_move rfl (by first|simp only[nf,Nat.beq]<;>rfl|rfl) ?_
  refine AOps.name (u := 20) (fun z => .val (.bool z)) (by first|simp only[nf,Nat.beq]<;>rfl|rfl) (fun b20 hb20 => ?_)
  refine n_soft (u := 20) (E := .val (.bool b20)) (!b20) rfl rfl rfl (by first|simp only[nf,Nat.beq]<;>rfl|rfl) (by cases b20 <;> first | (intro _; rfl) | (intro h; exact absurd h (by decide))) (by cases b20 <;> first | (intro h; exact absurd h (by decide)) | (intro _; exact ⟨_, rfl, by first | (intro h; cases h; done) | decide | simp⟩)) (fun h => by
      cases b20 with
      | true => exact absurd h (by first | decide | simp)
      | false =>
        refine n_move rfl (by first|simp only[nf,Nat.beq]<;>rfl|rfl) ?_
        exact AOps.nil ⟨rfl, rfl, rfl⟩) ?_
  refine n_soft (u := 20) (E := .val (.bool b20)) (!b20) rfl rfl rfl (by first|simp only[nf,Nat.beq]<;>rfl|rfl) (by cases b20 <;> first | (intro _; rfl) | (intro h; exact absurd h (by decide))) (by cases b20 <;> first | (intro h; exact absurd h (by decide)) | (intro _; exact ⟨_, rfl, by first | (intro h; cases h; done) | decide | simp⟩)) (fun h => by
      cases b20 with
      | true => exact absurd h (by first | decide | simp)
      | false =>
        refine n_ibin rfl (by first|simp only[nf,Nat.beq]<;>rfl|rfl) (by first|simp only[nf,Nat.beq]<;>rfl|rfl) rfl ?_
        exact AOps.nil ⟨rfl, rfl, rfl⟩) ?_
  refine n_pick_or rfl (by first|simp only[nf,Nat.beq]<;>rfl|rfl) (fun h => by cases b20 with | true => exact absurd h (by decide) | false => exact (by first|simp only[nf,Nat.beq]<;>rfl|rfl)) ?_
  refine n_move rfl (by first|simp only[nf,Nat.beq]<;>rfl|rfl) ?_
  refine AOps.name (u := 24) (fun z => .val (.bool z)) (by first|simp only[nf,Nat.beq]<;>rfl|rfl) (fun b24 hb24 => ?_)
  refine n_soft (u := 24) (E := .val (.bool b24)) (!b24) rfl rfl rfl (by first|simp only[nf,Nat.beq]<;>rfl|rfl) (by cases b24 <;> first | (intro _; rfl) | (intro h; exact absurd h (by decide))) (by cases b24 <;> first | (intro h; exact absurd h (by decide)) | (intro _; exact ⟨_, rfl, by first | (intro h; cases h; done) | decide | simp⟩)) (fun h => by
      cases b24 with
      | true => exact absurd h (by first | decide | simp)
      | false =>
        refine n_move rfl (by first|simp only[nf,Nat.beq]<;>rfl|rfl) ?_
        exact AOps.nil ⟨rfl, rfl, rfl⟩) ?_
  refine n_soft (u := 24) (E := .val (.bool b24)) (!b24) rfl rfl rfl (by first|simp only[nf,Nat.beq]<;>rfl|rfl) (by cases b24 <;> first | (intro _; rfl) | (intro h; exact absurd h (by decide))) (by cases b24 <;> first | (intro h; exact absurd h (by decide)) | (intro _; exact ⟨_, rfl, by first | (intro h; cases h; done) | decide | simp⟩)) (fun h => by
      cases b24 with
      | true => exact absurd h (by first | decide | simp)
      | false =>
        refine n_ibin rfl (by first|simp only[nf,Nat.beq]<;>rfl|rfl) (by first|simp only[nf,Nat.beq]<;>rfl|rfl) rfl ?_
        exact AOps.nil ⟨rfl, rfl, rfl⟩) ?_
  refine n_pick_or rfl (by first|simp only[nf,Nat.beq]<;>rfl|rfl) (fun h => by cases b24 with | true => exact absurd h (by decide) | false => exact (by first|simp only[nf,Nat.beq]<;>rfl|rfl)) ?_
  refine n_move rfl (by first|simp only[nf,Nat.beq]<;>rfl|rfl) ?_
  refine AOps.name (u := 28) (fun z => .val (.bool z)) (by first|simp only[nf,Nat.beq]<;>rfl|rfl) (fun b28 hb28 => ?_)
  refine n_soft (u := 28) (E := .val (.bool b28)) (!b28) rfl rfl rfl (by first|simp only[nf,Nat.beq]<;>rfl|rfl) (by cases b28 <;> first | (intro _; rfl) | (intro h; exact absurd h (by decide))) (by cases b28 <;> first | (intro h; exact absurd h (by decide)) | (intro _; exact ⟨_, rfl, by first | (intro h; cases h; done) | decide | simp⟩)) (fun h => by
      cases b28 with
      | true => exact absurd h (by first | decide | simp)
      | false =>
        refine n_move rfl (by first|simp only[nf,Nat.beq]<;>rfl|rfl) ?_
        exact AOps.nil ⟨rfl, rfl, rfl⟩) ?_
  refine n_soft (u := 28) (E := .val (.bool b28)) (!b28) rfl rfl rfl (by first|simp only[nf,Nat.beq]<;>rfl|rfl) (by cases b28 <;> first | (intro _; rfl) | (intro h; exact absurd h (by decide))) (by cases b28 <;> first | (intro h; exact absurd h (by decide)) | (intro _; exact ⟨_, rfl, by first | (intro h; cases h; done) | decide | simp⟩)) (fun h => by
      cases b28 with
      | true => exact absurd h (by first | decide | simp)
      | false =>
        refine n_ibin rfl (by first|simp only[nf,Nat.beq]<;>rfl|rfl) (by first|simp only[nf,Nat.beq]<;>rfl|rfl) rfl ?_
        exact AOps.nil ⟨rfl, rfl, rfl⟩) ?_
  refine n_pick_or rfl (by first|simp only[nf,Nat.beq]<;>rfl|rfl) (fun h => by cases b28 with | true => exact absurd h (by decide) | false => exact (by first|simp only[nf,Nat.beq]<;>rfl|rfl)) ?_
  refine n_move rfl (by first|simp only[nf,Nat.beq]<;>rfl|rfl) ?_
  refine AOps.name (u := 32) (fun z => .val (.bool z)) (by first|simp only[nf,Nat.beq]<;>rfl|rfl) (fun b32 hb32 => ?_)
  refine n_soft (u := 32) (E := .val (.bool b32)) (!b32) rfl rfl rfl (by first|simp only[nf,Nat.beq]<;>rfl|rfl) (by cases b32 <;> first | (intro _; rfl) | (intro h; exact absurd h (by decide))) (by cases b32 <;> first | (intro h; exact absurd h (by decide)) | (intro _; exact ⟨_, rfl, by first | (intro h; cases h; done) | decide | simp⟩)) (fun h => by
      cases b32 with
      | true => exact absurd h (by first | decide | simp)
      | false =>
        refine n_move rfl (by first|simp only[nf,Nat.beq]<;>rfl|rfl) ?_
        exact AOps.nil ⟨rfl, rfl, rfl⟩) ?_
  refine n_soft (u := 32) (E := .val (.bool b32)) (!b32) rfl rfl rfl (by first|simp only[nf,Nat.beq]<;>rfl|rfl) (by cases b32 <;> first | (intro _; rfl) | (intro h; exact absurd h (by decide))) (by cases b32 <;> first | (intro h; exact absurd h (by decide)) | (intro _; exact ⟨_, rfl, by first | (intro h; cases h; done) | decide | simp⟩)) (fun h => by
      cases b32 with
      | true => exact absurd h (by first | decide | simp)
      | false =>
        refine n_call0B rfl cf243 rfl (Eq.trans (by simp only [nl] <;> rfl) (by first|simp only[nf,Nat.beq]<;>rfl|rfl)) (by repeat (first | exact .nil | refine .cons ?_ ?_ | exact ren_ints | exact .lf (.val _) | exact .lf (lf_ints (.inl rfl)) | exact .bp ⟨rfl, rfl⟩ | exact .bp (.inl ⟨rfl, rfl⟩) | exact .bp (.inr ⟨rfl, rfl⟩) | exact .lf (D.flat_lf rfl) | exact ren_map (f := spz) (fun _ => rfl) | exact .lf (lf_tz _) | exact ren_tz | exact .lf (.fn (fun d h => by cases h) (fun d h => by cases h)) | exact .lf (lf_fnrp (lf_rp1 (f := spz) (fun _ => rfl))))) (l_num _) (by first | exact .val _ | exact lf_ints (.inl rfl) | exact lf_ints (.inr rfl) | exact .any | exact D.flat_lf rfl | exact lf_map (f := spz) (fun _ => rfl) (.inl rfl) | exact lf_tz _ | exact .tup (lf_cons (lf_tz _) (lf_cons (.val _) lf_nil)) | exact lf_fnrp (lf_rp1 (f := spz) (fun _ => rfl))) ?_
        exact AOps.nil ⟨rfl, rfl, rfl⟩) ?_
  refine n_soft (u := 32) (E := .val (.bool b32)) (!b32) rfl rfl rfl (by first|simp only[nf,Nat.beq]<;>rfl|rfl) (by cases b32 <;> first | (intro _; rfl) | (intro h; exact absurd h (by decide))) (by cases b32 <;> first | (intro h; exact absurd h (by decide)) | (intro _; exact ⟨_, rfl, by first | (intro h; cases h; done) | decide | simp⟩)) (fun h => by
      cases b32 with
      | true => exact absurd h (by first | decide | simp)
      | false =>
        refine n_not rfl (by first|simp only[nf,Nat.beq]<;>rfl|rfl) rfl ?_
        exact AOps.nil ⟨rfl, rfl, rfl⟩) ?_
  refine n_pick_or rfl (by first|simp only[nf,Nat.beq]<;>rfl|rfl) (fun h => by cases b32 with | true => exact absurd h (by decide) | false => exact (by first|simp only[nf,Nat.beq]<;>rfl|rfl)) ?_
  refine n_assign rfl (by first|simp only[nf,Nat.beq]<;>rfl|rfl) ?_
  subst hb20
  subst hb24
  subst hb28
  subst hb32
  refine AOps.nil ?_
  refine AWP.cond (by first|simp only[nf,Nat.beq]<;>rfl|rfl) (fun hc1 => ?_) (fun hc1 => ?_)
  · try simp only [nh] at hc1
    have hz : u.addE e r o = 1 := by unfold addE; rw [if_pos]; simp at hc1; grind
    have hzt : u.addT e r o = u := by unfold addT; rw [if_pos (by simp [hz])]
    refine AWP.seq ?_
    refine AWP.region ?_
    refine n_load rfl ti188 (by first|simp only[nf,Nat.beq]<;>rfl|rfl) (by first|simp only[nf,Nat.beq]<;>rfl|rfl) rfl (by first|simp only[nf,Nat.beq]<;>rfl|rfl) ?_
    refine n_store ti188 (by first|simp only[nf,Nat.beq]<;>rfl|rfl) rfl (by first|simp only[nf,Nat.beq]<;>rfl|rfl) rfl (by first|simp only[nf,Nat.beq]<;>rfl|rfl) rfl rfl rfl (by first|simp only[nf,Nat.beq]<;>rfl|rfl) ?_
    refine n_assign rfl (by first|simp only[nf,Nat.beq]<;>rfl|rfl) ?_
    refine AOps.nil ?_
    refine AWP.ret ?_
    refine fin_pure (.cons (rv_cell ti188 (by first|simp only[nf,Nat.beq]<;>rfl|rfl) (by first|simp only[nf,Nat.beq]<;>rfl|rfl) rfl (by first|simp only[nf,Nat.beq]<;>rfl|rfl)) (.cons (rv_tmp (by first|simp only[nf,Nat.beq]<;>rfl|rfl)) .nil)) (by first|simp only[nf,Nat.beq]<;>rfl|rfl) ?_
    rw [← hu, hz, hzt]
    exact .tup rfl (RenAll.get (.cons ren_tz (.cons (.lf (.val _)) .nil)))
  · try simp only [nh] at hc1
    have hq1 : ¬ (e < 1 ∨ e > 9007199254740992 ∨ r < 0 ∨ r ≥ 2 ∨ num o = false) := fun h => by simp at hc1; rcases h with h | h | h | h | h <;> first | omega | (rw [h] at hc1; simp at hc1)
    have hno : num o = true := by simp at hq1; exact hq1.2.2.2.2
    rw [num_iff] at hno
    refine AWP.seq ?_
    refine AWP.region ?_
    refine n_fieldAddr rfl fd188_1 ti2 rfl (by first|simp only[nf,Nat.beq]<;>rfl|rfl) rfl (by first|simp only[nf,Nat.beq]<;>rfl|rfl) ?_
    refine n_load rfl ti2 (by first|simp only[nf,Nat.beq]<;>rfl|rfl) (by first|simp only[nf,Nat.beq]<;>rfl|rfl) rfl (by first|simp only[nf,Nat.beq]<;>rfl|rfl) ?_
    refine n_ibin rfl (by first|simp only[nf,Nat.beq]<;>rfl|rfl) (by first|simp only[nf,Nat.beq]<;>rfl|rfl) rfl ?_
    refine n_assign rfl (by first|simp only[nf,Nat.beq]<;>rfl|rfl) ?_
    refine AOps.nil ?_
    refine AWP.cond (by first|simp only[nf,Nat.beq]<;>rfl|rfl) (fun hc2 => ?_) (fun hc2 => ?_)
    · try simp only [nh] at hc2
      have hz : u.addE e r o = 6 := by unfold addE; rw [if_neg hq1, if_pos hc2]
      have hzt : u.addT e r o = u := by unfold addT; rw [if_pos (by simp [hz])]
      refine AWP.seq ?_
      refine AWP.region ?_
      refine n_load rfl ti188 (by first|simp only[nf,Nat.beq]<;>rfl|rfl) (by first|simp only[nf,Nat.beq]<;>rfl|rfl) rfl (by first|simp only[nf,Nat.beq]<;>rfl|rfl) ?_
      refine n_store ti188 (by first|simp only[nf,Nat.beq]<;>rfl|rfl) rfl (by first|simp only[nf,Nat.beq]<;>rfl|rfl) rfl (by first|simp only[nf,Nat.beq]<;>rfl|rfl) rfl rfl rfl (by first|simp only[nf,Nat.beq]<;>rfl|rfl) ?_
      refine n_assign rfl (by first|simp only[nf,Nat.beq]<;>rfl|rfl) ?_
      refine AOps.nil ?_
      refine AWP.ret ?_
      refine fin_pure (.cons (rv_cell ti188 (by first|simp only[nf,Nat.beq]<;>rfl|rfl) (by first|simp only[nf,Nat.beq]<;>rfl|rfl) rfl (by first|simp only[nf,Nat.beq]<;>rfl|rfl)) (.cons (rv_tmp (by first|simp only[nf,Nat.beq]<;>rfl|rfl)) .nil)) (by first|simp only[nf,Nat.beq]<;>rfl|rfl) ?_
      rw [← hu, hz, hzt]
      exact .tup rfl (RenAll.get (.cons ren_tz (.cons (.lf (.val _)) .nil)))
    · try simp only [nh] at hc2
      have hq2 : ¬ u.n = 9007199254740992 := hc2
      refine AWP.skip ?_
      refine AWP.seq ?_
      refine AWP.seq ?_
      refine AWP.region ?_
      refine n_fieldAddr rfl fd188_0 ti186 rfl (by first|simp only[nf,Nat.beq]<;>rfl|rfl) rfl (by first|simp only[nf,Nat.beq]<;>rfl|rfl) ?_
      refine n_load rfl ti186 (by first|simp only[nf,Nat.beq]<;>rfl|rfl) (by first|simp only[nf,Nat.beq]<;>rfl|rfl) rfl (by first|simp only[nf,Nat.beq]<;>rfl|rfl) ?_
      refine n_len rfl Try.underlying186 (by first|simp only[nf,Nat.beq]<;>rfl|rfl) (by first | rw [ints_length] | rw [List.length_map] | rfl) ?_
      refine n_assign rfl (by first|simp only[nf,Nat.beq]<;>rfl|rfl) ?_
      refine AOps.nil ?_
      refine AWP.seq ?_
      refine AWP.region ?_
      refine n_move rfl (by first|simp only[nf,Nat.beq]<;>rfl|rfl) ?_
      refine n_ibin rfl (by first|simp only[nf,Nat.beq]<;>rfl|rfl) (by first|simp only[nf,Nat.beq]<;>rfl|rfl) rfl ?_
      refine AOps.nil ?_
      refine AWP.cond (by first|simp only[nf,Nat.beq]<;>rfl|rfl) (fun hc3 => ?_) (fun hc3 => ?_)
      · try simp only [nh] at hc3
        have hlp : 0 < u.l.length := by omega
        have hq3 : ¬ u.l.length = 0 := by omega
        have hi1 : (((u.l.length - 1) : Nat) : Int) = (u.l.length : Int) - 1 := by omega
        have hx1 := map_at spz (nth_at (t := u) (i := (u.l.length - 1)) (by omega))
        have hsg := (okAt_iff.1 (good_at hg (i := (u.l.length - 1)) (by omega))).1
        have hla := l_last u (u.l.length - 1) (single_in (num_iff.2 hgn.1) (by omega) hsg) (by omega)
        have hlb := single_last (num_iff.2 hgn.1) (by omega) hsg
        rw [hi1] at hx1 hla
        refine AWP.seq ?_
        refine AWP.region ?_
        refine n_fieldAddr rfl fd188_0 ti186 rfl (by first|simp only[nf,Nat.beq]<;>rfl|rfl) rfl (by first|simp only[nf,Nat.beq]<;>rfl|rfl) ?_
        refine n_load rfl ti186 (by first|simp only[nf,Nat.beq]<;>rfl|rfl) (by first|simp only[nf,Nat.beq]<;>rfl|rfl) rfl (by first|simp only[nf,Nat.beq]<;>rfl|rfl) ?_
        refine n_move rfl (by first|simp only[nf,Nat.beq]<;>rfl|rfl) ?_
        first | refine n_isub rfl (by first|simp only[nf,Nat.beq]<;>rfl|rfl) (by first|simp only[nf,Nat.beq]<;>rfl|rfl) rfl (by omega) (by omega) ?_ | refine n_ibin rfl (by first|simp only[nf,Nat.beq]<;>rfl|rfl) (by first|simp only[nf,Nat.beq]<;>rfl|rfl) rfl ?_
        refine n_indexAddr rfl Try.underlying186 ti200 rfl (by first|simp only[nf,Nat.beq]<;>rfl|rfl) (by first|simp only[nf,Nat.beq]<;>rfl|rfl) (by omega) (by exact hx1) rfl ?_
        refine n_load rfl ti200 (by first|simp only[nf,Nat.beq]<;>rfl|rfl) (by first|simp only[nf,Nat.beq]<;>rfl|rfl) rfl (by first|simp only[nf,Nat.beq]<;>rfl|rfl) ?_
        refine n_alloc rfl zi200 rfl (by first|simp only[nf,Nat.beq]<;>rfl|rfl) (by first|simp only[nf,Nat.beq]<;>rfl|rfl) ?_
        refine n_store ti200 (by first|simp only[nf,Nat.beq]<;>rfl|rfl) rfl (by first|simp only[nf,Nat.beq]<;>rfl|rfl) rfl (by first|simp only[nf,Nat.beq]<;>rfl|rfl) rfl rfl rfl (by first|simp only[nf,Nat.beq]<;>rfl|rfl) ?_
        refine AOps.nil ?_
        refine AWP.seq ?_
        refine AWP.seq ?_
        refine AWP.region ?_
        refine n_move rfl (by first|simp only[nf,Nat.beq]<;>rfl|rfl) ?_
        refine n_fieldAddr rfl fd200_0 ti2 rfl (by first|simp only[nf,Nat.beq]<;>rfl|rfl) rfl (by first|simp only[nf,Nat.beq]<;>rfl|rfl) ?_
        refine n_load rfl ti2 (by first|simp only[nf,Nat.beq]<;>rfl|rfl) (by first|simp only[nf,Nat.beq]<;>rfl|rfl) rfl (by first|simp only[nf,Nat.beq]<;>rfl|rfl) ?_
        refine n_ibin rfl (by first|simp only[nf,Nat.beq]<;>rfl|rfl) (by first|simp only[nf,Nat.beq]<;>rfl|rfl) rfl ?_
        refine n_move rfl (by first|simp only[nf,Nat.beq]<;>rfl|rfl) ?_
        refine AOps.name (u := 58) (fun z => .val (.bool z)) (by first|simp only[nf,Nat.beq]<;>rfl|rfl) (fun b58 hb58 => ?_)
        refine n_soft (u := 58) (E := .val (.bool b58)) (!b58) rfl rfl rfl (by first|simp only[nf,Nat.beq]<;>rfl|rfl) (by cases b58 <;> first | (intro _; rfl) | (intro h; exact absurd h (by decide))) (by cases b58 <;> first | (intro h; exact absurd h (by decide)) | (intro _; exact ⟨_, rfl, by first | (intro h; cases h; done) | decide | simp⟩)) (fun h => by
            cases b58 with
            | true => exact absurd h (by first | decide | simp)
            | false =>
              refine n_move rfl (by first|simp only[nf,Nat.beq]<;>rfl|rfl) ?_
              exact AOps.nil ⟨rfl, rfl, rfl⟩) ?_
        refine n_soft (u := 58) (E := .val (.bool b58)) (!b58) rfl rfl rfl (by first|simp only[nf,Nat.beq]<;>rfl|rfl) (by cases b58 <;> first | (intro _; rfl) | (intro h; exact absurd h (by decide))) (by cases b58 <;> first | (intro h; exact absurd h (by decide)) | (intro _; exact ⟨_, rfl, by first | (intro h; cases h; done) | decide | simp⟩)) (fun h => by
            cases b58 with
            | true => exact absurd h (by first | decide | simp)
            | false =>
              refine n_fieldAddr rfl fd200_0 ti2 rfl (by first|simp only[nf,Nat.beq]<;>rfl|rfl) rfl (by first|simp only[nf,Nat.beq]<;>rfl|rfl) ?_
              exact AOps.nil ⟨rfl, rfl, rfl⟩) ?_
        refine n_soft (u := 58) (E := .val (.bool b58)) (!b58) rfl rfl rfl (by first|simp only[nf,Nat.beq]<;>rfl|rfl) (by cases b58 <;> first | (intro _; rfl) | (intro h; exact absurd h (by decide))) (by cases b58 <;> first | (intro h; exact absurd h (by decide)) | (intro _; exact ⟨_, rfl, by first | (intro h; cases h; done) | decide | simp⟩)) (fun h => by
            cases b58 with
            | true => exact absurd h (by first | decide | simp)
            | false =>
              refine n_load rfl ti2 (by first|simp only[nf,Nat.beq]<;>rfl|rfl) (by first|simp only[nf,Nat.beq]<;>rfl|rfl) rfl (by first|simp only[nf,Nat.beq]<;>rfl|rfl) ?_
              exact AOps.nil ⟨rfl, rfl, rfl⟩) ?_
        refine n_soft (u := 58) (E := .val (.bool b58)) (!b58) rfl rfl rfl (by first|simp only[nf,Nat.beq]<;>rfl|rfl) (by cases b58 <;> first | (intro _; rfl) | (intro h; exact absurd h (by decide))) (by cases b58 <;> first | (intro h; exact absurd h (by decide)) | (intro _; exact ⟨_, rfl, by first | (intro h; cases h; done) | decide | simp⟩)) (fun h => by
            cases b58 with
            | true => exact absurd h (by first | decide | simp)
            | false =>
              refine n_ibin rfl (by first|simp only[nf,Nat.beq]<;>rfl|rfl) (by first|simp only[nf,Nat.beq]<;>rfl|rfl) rfl ?_
              exact AOps.nil ⟨rfl, rfl, rfl⟩) ?_
        refine n_soft (u := 58) (E := .val (.bool b58)) (!b58) rfl rfl rfl (by first|simp only[nf,Nat.beq]<;>rfl|rfl) (by cases b58 <;> first | (intro _; rfl) | (intro h; exact absurd h (by decide))) (by cases b58 <;> first | (intro h; exact absurd h (by decide)) | (intro _; exact ⟨_, rfl, by first | (intro h; cases h; done) | decide | simp⟩)) (fun h => by
            cases b58 with
            | true => exact absurd h (by first | decide | simp)
            | false =>
              refine n_move rfl (by first|simp only[nf,Nat.beq]<;>rfl|rfl) ?_
              exact AOps.nil ⟨rfl, rfl, rfl⟩) ?_
        refine AOps.name (u := 63) (fun z => bif (!b58) then .val (.bool z) else .val undef) (by first|simp only[nf,Nat.beq]<;>rfl|rfl) (fun b63 hb63 => ?_)
        refine n_soft (u := 63) (E := bif (!b58) then .val (.bool b63) else .val undef) (!b58 && b63) rfl rfl rfl (by first|simp only[nf,Nat.beq]<;>rfl|rfl) (by cases b58 <;> cases b63 <;> first | (intro _; rfl) | (intro h; exact absurd h (by decide))) (by cases b58 <;> cases b63 <;> first | (intro h; exact absurd h (by decide)) | (intro _; exact ⟨_, rfl, by first | (intro h; cases h; done) | decide | simp⟩)) (fun h => by
            cases b58 with
            | true => exact absurd h (by first | decide | simp)
            | false =>
              cases b63 with
              | false => exact absurd h (by first | decide | simp)
              | true =>
                refine n_move rfl (by first|simp only[nf,Nat.beq]<;>rfl|rfl) ?_
                exact AOps.nil ⟨rfl, rfl, rfl⟩) ?_
        refine n_soft (u := 63) (E := bif (!b58) then .val (.bool b63) else .val undef) (!b58 && b63) rfl rfl rfl (by first|simp only[nf,Nat.beq]<;>rfl|rfl) (by cases b58 <;> cases b63 <;> first | (intro _; rfl) | (intro h; exact absurd h (by decide))) (by cases b58 <;> cases b63 <;> first | (intro h; exact absurd h (by decide)) | (intro _; exact ⟨_, rfl, by first | (intro h; cases h; done) | decide | simp⟩)) (fun h => by
            cases b58 with
            | true => exact absurd h (by first | decide | simp)
            | false =>
              cases b63 with
              | false => exact absurd h (by first | decide | simp)
              | true =>
                refine n_fieldAddr rfl fd200_1 ti3 rfl (by first|simp only[nf,Nat.beq]<;>rfl|rfl) rfl (by first|simp only[nf,Nat.beq]<;>rfl|rfl) ?_
                exact AOps.nil ⟨rfl, rfl, rfl⟩) ?_
        refine n_soft (u := 63) (E := bif (!b58) then .val (.bool b63) else .val undef) (!b58 && b63) rfl rfl rfl (by first|simp only[nf,Nat.beq]<;>rfl|rfl) (by cases b58 <;> cases b63 <;> first | (intro _; rfl) | (intro h; exact absurd h (by decide))) (by cases b58 <;> cases b63 <;> first | (intro h; exact absurd h (by decide)) | (intro _; exact ⟨_, rfl, by first | (intro h; cases h; done) | decide | simp⟩)) (fun h => by
            cases b58 with
            | true => exact absurd h (by first | decide | simp)
            | false =>
              cases b63 with
              | false => exact absurd h (by first | decide | simp)
              | true =>
                refine n_load rfl ti3 (by first|simp only[nf,Nat.beq]<;>rfl|rfl) (by first|simp only[nf,Nat.beq]<;>rfl|rfl) rfl (by first|simp only[nf,Nat.beq]<;>rfl|rfl) ?_
                exact AOps.nil ⟨rfl, rfl, rfl⟩) ?_
        refine n_soft (u := 63) (E := bif (!b58) then .val (.bool b63) else .val undef) (!b58 && b63) rfl rfl rfl (by first|simp only[nf,Nat.beq]<;>rfl|rfl) (by cases b58 <;> cases b63 <;> first | (intro _; rfl) | (intro h; exact absurd h (by decide))) (by cases b58 <;> cases b63 <;> first | (intro h; exact absurd h (by decide)) | (intro _; exact ⟨_, rfl, by first | (intro h; cases h; done) | decide | simp⟩)) (fun h => by
            cases b58 with
            | true => exact absurd h (by first | decide | simp)
            | false =>
              cases b63 with
              | false => exact absurd h (by first | decide | simp)
              | true =>
                refine n_ibin rfl (by first|simp only[nf,Nat.beq]<;>rfl|rfl) (by first|simp only[nf,Nat.beq]<;>rfl|rfl) rfl ?_
                exact AOps.nil ⟨rfl, rfl, rfl⟩) ?_
        refine n_soft (u := 58) (E := .val (.bool b58)) (!b58) rfl rfl rfl (by first|simp only[nf,Nat.beq]<;>rfl|rfl) (by cases b58 <;> first | (intro _; rfl) | (intro h; exact absurd h (by decide))) (by cases b58 <;> first | (intro h; exact absurd h (by decide)) | (intro _; exact ⟨_, rfl, by first | (intro h; cases h; done) | decide | simp⟩)) (fun h => by
            cases b58 with
            | true => exact absurd h (by first | decide | simp)
            | false =>
              refine n_pick_and rfl (by first|simp only[nf,Nat.beq]<;>rfl|rfl) (fun h => by cases b63 with | false => exact absurd h (by decide) | true => exact (by first|simp only[nf,Nat.beq]<;>rfl|rfl)) ?_
              exact AOps.nil ⟨rfl, rfl, rfl⟩) ?_
        refine n_pick_or rfl (by first|simp only[nf,Nat.beq]<;>rfl|rfl) (fun h => by cases b58 with | true => exact absurd h (by decide) | false => exact (by first|simp only[nf,Nat.beq]<;>rfl|rfl)) ?_
        refine n_move rfl (by first|simp only[nf,Nat.beq]<;>rfl|rfl) ?_
        refine AOps.name (u := 70) (fun z => .val (.bool z)) (by first|simp only[nf,Nat.beq]<;>rfl|rfl) (fun b70 hb70 => ?_)
        refine n_soft (u := 70) (E := .val (.bool b70)) (!b70) rfl rfl rfl (by first|simp only[nf,Nat.beq]<;>rfl|rfl) (by cases b70 <;> first | (intro _; rfl) | (intro h; exact absurd h (by decide))) (by cases b70 <;> first | (intro h; exact absurd h (by decide)) | (intro _; exact ⟨_, rfl, by first | (intro h; cases h; done) | decide | simp⟩)) (fun h => by
            cases b70 with
            | true => exact absurd h (by first | decide | simp)
            | false =>
              refine n_move rfl (by first|simp only[nf,Nat.beq]<;>rfl|rfl) ?_
              exact AOps.nil ⟨rfl, rfl, rfl⟩) ?_
        refine n_soft (u := 70) (E := .val (.bool b70)) (!b70) rfl rfl rfl (by first|simp only[nf,Nat.beq]<;>rfl|rfl) (by cases b70 <;> first | (intro _; rfl) | (intro h; exact absurd h (by decide))) (by cases b70 <;> first | (intro h; exact absurd h (by decide)) | (intro _; exact ⟨_, rfl, by first | (intro h; cases h; done) | decide | simp⟩)) (fun h => by
            cases b70 with
            | true => exact absurd h (by first | decide | simp)
            | false =>
              refine n_load rfl ti188 (by first|simp only[nf,Nat.beq]<;>rfl|rfl) (by first|simp only[nf,Nat.beq]<;>rfl|rfl) rfl (by first|simp only[nf,Nat.beq]<;>rfl|rfl) ?_
              exact AOps.nil ⟨rfl, rfl, rfl⟩) ?_
        refine n_soft (u := 70) (E := .val (.bool b70)) (!b70) rfl rfl rfl (by first|simp only[nf,Nat.beq]<;>rfl|rfl) (by cases b70 <;> first | (intro _; rfl) | (intro h; exact absurd h (by decide))) (by cases b70 <;> first | (intro h; exact absurd h (by decide)) | (intro _; exact ⟨_, rfl, by first | (intro h; cases h; done) | decide | simp⟩)) (fun h => by
            cases b70 with
            | true => exact absurd h (by first | decide | simp)
            | false =>
              refine n_move rfl (by first|simp only[nf,Nat.beq]<;>rfl|rfl) ?_
              exact AOps.nil ⟨rfl, rfl, rfl⟩) ?_
        refine n_soft (u := 70) (E := .val (.bool b70)) (!b70) rfl rfl rfl (by first|simp only[nf,Nat.beq]<;>rfl|rfl) (by cases b70 <;> first | (intro _; rfl) | (intro h; exact absurd h (by decide))) (by cases b70 <;> first | (intro h; exact absurd h (by decide)) | (intro _; exact ⟨_, rfl, by first | (intro h; cases h; done) | decide | simp⟩)) (fun h => by
            cases b70 with
            | true => exact absurd h (by first | decide | simp)
            | false =>
              first | refine n_isub rfl (by first|simp only[nf,Nat.beq]<;>rfl|rfl) (by first|simp only[nf,Nat.beq]<;>rfl|rfl) rfl (by omega) (by omega) ?_ | refine n_ibin rfl (by first|simp only[nf,Nat.beq]<;>rfl|rfl) (by first|simp only[nf,Nat.beq]<;>rfl|rfl) rfl ?_
              exact AOps.nil ⟨rfl, rfl, rfl⟩) ?_
        refine n_soft (u := 70) (E := .val (.bool b70)) (!b70) rfl rfl rfl (by first|simp only[nf,Nat.beq]<;>rfl|rfl) (by cases b70 <;> first | (intro _; rfl) | (intro h; exact absurd h (by decide))) (by cases b70 <;> first | (intro h; exact absurd h (by decide)) | (intro _; exact ⟨_, rfl, by first | (intro h; cases h; done) | decide | simp⟩)) (fun h => by
            cases b70 with
            | true => exact absurd h (by first | decide | simp)
            | false =>
              refine n_call0B rfl cf228 rfl (Eq.trans (by simp only [nl] <;> rfl) (by first|simp only[nf,Nat.beq]<;>rfl|rfl)) (by repeat (first | exact .nil | refine .cons ?_ ?_ | exact ren_ints | exact .lf (.val _) | exact .lf (lf_ints (.inl rfl)) | exact .bp ⟨rfl, rfl⟩ | exact .bp (.inl ⟨rfl, rfl⟩) | exact .bp (.inr ⟨rfl, rfl⟩) | exact .lf (D.flat_lf rfl) | exact ren_map (f := spz) (fun _ => rfl) | exact .lf (lf_tz _) | exact ren_tz | exact .lf (.fn (fun d h => by cases h) (fun d h => by cases h)) | exact .lf (lf_fnrp (lf_rp1 (f := spz) (fun _ => rfl))))) (hla) (by first | exact .val _ | exact lf_ints (.inl rfl) | exact lf_ints (.inr rfl) | exact .any | exact D.flat_lf rfl | exact lf_map (f := spz) (fun _ => rfl) (.inl rfl) | exact lf_tz _ | exact .tup (lf_cons (lf_tz _) (lf_cons (.val _) lf_nil)) | exact lf_fnrp (lf_rp1 (f := spz) (fun _ => rfl))) ?_
              exact AOps.nil ⟨rfl, rfl, rfl⟩) ?_
        refine n_soft (u := 70) (E := .val (.bool b70)) (!b70) rfl rfl rfl (by first|simp only[nf,Nat.beq]<;>rfl|rfl) (by cases b70 <;> first | (intro _; rfl) | (intro h; exact absurd h (by decide))) (by cases b70 <;> first | (intro h; exact absurd h (by decide)) | (intro _; exact ⟨_, rfl, by first | (intro h; cases h; done) | decide | simp⟩)) (fun h => by
            cases b70 with
            | true => exact absurd h (by first | decide | simp)
            | false =>
              refine n_ibin rfl (by first|simp only[nf,Nat.beq]<;>rfl|rfl) (by first|simp only[nf,Nat.beq]<;>rfl|rfl) rfl ?_
              exact AOps.nil ⟨rfl, rfl, rfl⟩) ?_
        refine n_pick_or rfl (by first|simp only[nf,Nat.beq]<;>rfl|rfl) (fun h => by cases b70 with | true => exact absurd h (by decide) | false => exact (by first|simp only[nf,Nat.beq]<;>rfl|rfl)) ?_
        subst hb58
        subst hb63
        subst hb70
        refine AOps.nil ?_
        refine AWP.cond (by first|simp only[nf,Nat.beq]<;>rfl|rfl) (fun hc4 => ?_) (fun hc4 => ?_)
        · try simp only [nh] at hc4
          have hz : u.addE e r o = 7 := by unfold addE; rw [if_neg hq1, if_neg hq2, if_neg hq3, if_pos]; simp at hc4; grind
          have hzt : u.addT e r o = u := by unfold addT; rw [if_pos (by simp [hz])]
          refine AWP.seq ?_
          refine AWP.region ?_
          refine n_load rfl ti188 (by first|simp only[nf,Nat.beq]<;>rfl|rfl) (by first|simp only[nf,Nat.beq]<;>rfl|rfl) rfl (by first|simp only[nf,Nat.beq]<;>rfl|rfl) ?_
          refine n_store ti188 (by first|simp only[nf,Nat.beq]<;>rfl|rfl) rfl (by first|simp only[nf,Nat.beq]<;>rfl|rfl) rfl (by first|simp only[nf,Nat.beq]<;>rfl|rfl) rfl rfl rfl (by first|simp only[nf,Nat.beq]<;>rfl|rfl) ?_
          refine n_assign rfl (by first|simp only[nf,Nat.beq]<;>rfl|rfl) ?_
          refine AOps.nil ?_
          refine AWP.ret ?_
          refine fin_pure (.cons (rv_cell ti188 (by first|simp only[nf,Nat.beq]<;>rfl|rfl) (by first|simp only[nf,Nat.beq]<;>rfl|rfl) rfl (by first|simp only[nf,Nat.beq]<;>rfl|rfl)) (.cons (rv_tmp (by first|simp only[nf,Nat.beq]<;>rfl|rfl)) .nil)) (by first|simp only[nf,Nat.beq]<;>rfl|rfl) ?_
          rw [← hu, hz, hzt]
          exact .tup rfl (RenAll.get (.cons ren_tz (.cons (.lf (.val _)) .nil)))
        · try simp only [nh] at hc4
          have hq4 : ¬ (e < (u.nth (u.l.length - 1)).e ∨ (e = (u.nth (u.l.length - 1)).e ∧ r ≠ (u.nth (u.l.length - 1)).r) ∨ o ≤ u.last (u.l.length - 1)) := by simp at hc4; grind
          refine AWP.skip ?_
          refine AWP.seq ?_
          refine AWP.seq ?_
          refine AWP.region ?_
          refine n_move rfl (by first|simp only[nf,Nat.beq]<;>rfl|rfl) ?_
          refine n_fieldAddr rfl fd200_0 ti2 rfl (by first|simp only[nf,Nat.beq]<;>rfl|rfl) rfl (by first|simp only[nf,Nat.beq]<;>rfl|rfl) ?_
          refine n_load rfl ti2 (by first|simp only[nf,Nat.beq]<;>rfl|rfl) (by first|simp only[nf,Nat.beq]<;>rfl|rfl) rfl (by first|simp only[nf,Nat.beq]<;>rfl|rfl) ?_
          refine n_ibin rfl (by first|simp only[nf,Nat.beq]<;>rfl|rfl) (by first|simp only[nf,Nat.beq]<;>rfl|rfl) rfl ?_
          refine n_move rfl (by first|simp only[nf,Nat.beq]<;>rfl|rfl) ?_
          refine AOps.name (u := 83) (fun z => .val (.bool z)) (by first|simp only[nf,Nat.beq]<;>rfl|rfl) (fun b83 hb83 => ?_)
          refine n_soft (u := 83) (E := .val (.bool b83)) (b83) rfl rfl rfl (by first|simp only[nf,Nat.beq]<;>rfl|rfl) (by cases b83 <;> first | (intro _; rfl) | (intro h; exact absurd h (by decide))) (by cases b83 <;> first | (intro h; exact absurd h (by decide)) | (intro _; exact ⟨_, rfl, by first | (intro h; cases h; done) | decide | simp⟩)) (fun h => by
              cases b83 with
              | false => exact absurd h (by first | decide | simp)
              | true =>
                refine n_move rfl (by first|simp only[nf,Nat.beq]<;>rfl|rfl) ?_
                exact AOps.nil ⟨rfl, rfl, rfl⟩) ?_
          refine n_soft (u := 83) (E := .val (.bool b83)) (b83) rfl rfl rfl (by first|simp only[nf,Nat.beq]<;>rfl|rfl) (by cases b83 <;> first | (intro _; rfl) | (intro h; exact absurd h (by decide))) (by cases b83 <;> first | (intro h; exact absurd h (by decide)) | (intro _; exact ⟨_, rfl, by first | (intro h; cases h; done) | decide | simp⟩)) (fun h => by
              cases b83 with
              | false => exact absurd h (by first | decide | simp)
              | true =>
                refine n_fieldAddr rfl fd200_1 ti3 rfl (by first|simp only[nf,Nat.beq]<;>rfl|rfl) rfl (by first|simp only[nf,Nat.beq]<;>rfl|rfl) ?_
                exact AOps.nil ⟨rfl, rfl, rfl⟩) ?_
          refine n_soft (u := 83) (E := .val (.bool b83)) (b83) rfl rfl rfl (by first|simp only[nf,Nat.beq]<;>rfl|rfl) (by cases b83 <;> first | (intro _; rfl) | (intro h; exact absurd h (by decide))) (by cases b83 <;> first | (intro h; exact absurd h (by decide)) | (intro _; exact ⟨_, rfl, by first | (intro h; cases h; done) | decide | simp⟩)) (fun h => by
              cases b83 with
              | false => exact absurd h (by first | decide | simp)
              | true =>
                refine n_load rfl ti3 (by first|simp only[nf,Nat.beq]<;>rfl|rfl) (by first|simp only[nf,Nat.beq]<;>rfl|rfl) rfl (by first|simp only[nf,Nat.beq]<;>rfl|rfl) ?_
                exact AOps.nil ⟨rfl, rfl, rfl⟩) ?_
          refine n_soft (u := 83) (E := .val (.bool b83)) (b83) rfl rfl rfl (by first|simp only[nf,Nat.beq]<;>rfl|rfl) (by cases b83 <;> first | (intro _; rfl) | (intro h; exact absurd h (by decide))) (by cases b83 <;> first | (intro h; exact absurd h (by decide)) | (intro _; exact ⟨_, rfl, by first | (intro h; cases h; done) | decide | simp⟩)) (fun h => by
              cases b83 with
              | false => exact absurd h (by first | decide | simp)
              | true =>
                refine n_ibin rfl (by first|simp only[nf,Nat.beq]<;>rfl|rfl) (by first|simp only[nf,Nat.beq]<;>rfl|rfl) rfl ?_
                exact AOps.nil ⟨rfl, rfl, rfl⟩) ?_
          refine n_pick_and rfl (by first|simp only[nf,Nat.beq]<;>rfl|rfl) (fun h => by cases b83 with | false => exact absurd h (by decide) | true => exact (by first|simp only[nf,Nat.beq]<;>rfl|rfl)) ?_
          refine n_move rfl (by first|simp only[nf,Nat.beq]<;>rfl|rfl) ?_
          refine AOps.name (u := 89) (fun z => .val (.bool z)) (by first|simp only[nf,Nat.beq]<;>rfl|rfl) (fun b89 hb89 => ?_)
          refine n_soft (u := 89) (E := .val (.bool b89)) (b89) rfl rfl rfl (by first|simp only[nf,Nat.beq]<;>rfl|rfl) (by cases b89 <;> first | (intro _; rfl) | (intro h; exact absurd h (by decide))) (by cases b89 <;> first | (intro h; exact absurd h (by decide)) | (intro _; exact ⟨_, rfl, by first | (intro h; cases h; done) | decide | simp⟩)) (fun h => by
              cases b89 with
              | false => exact absurd h (by first | decide | simp)
              | true =>
                refine n_move rfl (by first|simp only[nf,Nat.beq]<;>rfl|rfl) ?_
                exact AOps.nil ⟨rfl, rfl, rfl⟩) ?_
          refine n_soft (u := 89) (E := .val (.bool b89)) (b89) rfl rfl rfl (by first|simp only[nf,Nat.beq]<;>rfl|rfl) (by cases b89 <;> first | (intro _; rfl) | (intro h; exact absurd h (by decide))) (by cases b89 <;> first | (intro h; exact absurd h (by decide)) | (intro _; exact ⟨_, rfl, by first | (intro h; cases h; done) | decide | simp⟩)) (fun h => by
              cases b89 with
              | false => exact absurd h (by first | decide | simp)
              | true =>
                first | refine n_isub rfl (by first|simp only[nf,Nat.beq]<;>rfl|rfl) (by first|simp only[nf,Nat.beq]<;>rfl|rfl) rfl (by omega) (by omega) ?_ | refine n_ibin rfl (by first|simp only[nf,Nat.beq]<;>rfl|rfl) (by first|simp only[nf,Nat.beq]<;>rfl|rfl) rfl ?_
                exact AOps.nil ⟨rfl, rfl, rfl⟩) ?_
          refine n_soft (u := 89) (E := .val (.bool b89)) (b89) rfl rfl rfl (by first|simp only[nf,Nat.beq]<;>rfl|rfl) (by cases b89 <;> first | (intro _; rfl) | (intro h; exact absurd h (by decide))) (by cases b89 <;> first | (intro h; exact absurd h (by decide)) | (intro _; exact ⟨_, rfl, by first | (intro h; cases h; done) | decide | simp⟩)) (fun h => by
              cases b89 with
              | false => exact absurd h (by first | decide | simp)
              | true =>
                refine n_load rfl ti188 (by first|simp only[nf,Nat.beq]<;>rfl|rfl) (by first|simp only[nf,Nat.beq]<;>rfl|rfl) rfl (by first|simp only[nf,Nat.beq]<;>rfl|rfl) ?_
                exact AOps.nil ⟨rfl, rfl, rfl⟩) ?_
          refine n_soft (u := 89) (E := .val (.bool b89)) (b89) rfl rfl rfl (by first|simp only[nf,Nat.beq]<;>rfl|rfl) (by cases b89 <;> first | (intro _; rfl) | (intro h; exact absurd h (by decide))) (by cases b89 <;> first | (intro h; exact absurd h (by decide)) | (intro _; exact ⟨_, rfl, by first | (intro h; cases h; done) | decide | simp⟩)) (fun h => by
              cases b89 with
              | false => exact absurd h (by first | decide | simp)
              | true =>
                refine n_move rfl (by first|simp only[nf,Nat.beq]<;>rfl|rfl) ?_
                exact AOps.nil ⟨rfl, rfl, rfl⟩) ?_
          refine n_soft (u := 89) (E := .val (.bool b89)) (b89) rfl rfl rfl (by first|simp only[nf,Nat.beq]<;>rfl|rfl) (by cases b89 <;> first | (intro _; rfl) | (intro h; exact absurd h (by decide))) (by cases b89 <;> first | (intro h; exact absurd h (by decide)) | (intro _; exact ⟨_, rfl, by first | (intro h; cases h; done) | decide | simp⟩)) (fun h => by
              cases b89 with
              | false => exact absurd h (by first | decide | simp)
              | true =>
                first | refine n_isub rfl (by first|simp only[nf,Nat.beq]<;>rfl|rfl) (by first|simp only[nf,Nat.beq]<;>rfl|rfl) rfl (by omega) (by omega) ?_ | refine n_ibin rfl (by first|simp only[nf,Nat.beq]<;>rfl|rfl) (by first|simp only[nf,Nat.beq]<;>rfl|rfl) rfl ?_
                exact AOps.nil ⟨rfl, rfl, rfl⟩) ?_
          refine n_soft (u := 89) (E := .val (.bool b89)) (b89) rfl rfl rfl (by first|simp only[nf,Nat.beq]<;>rfl|rfl) (by cases b89 <;> first | (intro _; rfl) | (intro h; exact absurd h (by decide))) (by cases b89 <;> first | (intro h; exact absurd h (by decide)) | (intro _; exact ⟨_, rfl, by first | (intro h; cases h; done) | decide | simp⟩)) (fun h => by
              cases b89 with
              | false => exact absurd h (by first | decide | simp)
              | true =>
                refine n_call0B rfl cf228 rfl (Eq.trans (by simp only [nl] <;> rfl) (by first|simp only[nf,Nat.beq]<;>rfl|rfl)) (by repeat (first | exact .nil | refine .cons ?_ ?_ | exact ren_ints | exact .lf (.val _) | exact .lf (lf_ints (.inl rfl)) | exact .bp ⟨rfl, rfl⟩ | exact .bp (.inl ⟨rfl, rfl⟩) | exact .bp (.inr ⟨rfl, rfl⟩) | exact .lf (D.flat_lf rfl) | exact ren_map (f := spz) (fun _ => rfl) | exact .lf (lf_tz _) | exact ren_tz | exact .lf (.fn (fun d h => by cases h) (fun d h => by cases h)) | exact .lf (lf_fnrp (lf_rp1 (f := spz) (fun _ => rfl))))) (hla) (by first | exact .val _ | exact lf_ints (.inl rfl) | exact lf_ints (.inr rfl) | exact .any | exact D.flat_lf rfl | exact lf_map (f := spz) (fun _ => rfl) (.inl rfl) | exact lf_tz _ | exact .tup (lf_cons (lf_tz _) (lf_cons (.val _) lf_nil)) | exact lf_fnrp (lf_rp1 (f := spz) (fun _ => rfl))) ?_
                exact AOps.nil ⟨rfl, rfl, rfl⟩) ?_
          refine n_soft (u := 89) (E := .val (.bool b89)) (b89) rfl rfl rfl (by first|simp only[nf,Nat.beq]<;>rfl|rfl) (by cases b89 <;> first | (intro _; rfl) | (intro h; exact absurd h (by decide))) (by cases b89 <;> first | (intro h; exact absurd h (by decide)) | (intro _; exact ⟨_, rfl, by first | (intro h; cases h; done) | decide | simp⟩)) (fun h => by
              cases b89 with
              | false => exact absurd h (by first | decide | simp)
              | true =>
                refine n_ibin rfl (by first|simp only[nf,Nat.beq]<;>rfl|rfl) (by first|simp only[nf,Nat.beq]<;>rfl|rfl) rfl ?_
                exact AOps.nil ⟨rfl, rfl, rfl⟩) ?_
          refine n_pick_and rfl (by first|simp only[nf,Nat.beq]<;>rfl|rfl) (fun h => by cases b89 with | false => exact absurd h (by decide) | true => exact (by first|simp only[nf,Nat.beq]<;>rfl|rfl)) ?_
          subst hb83
          subst hb89
          refine AOps.nil ?_
          refine AWP.cond (by first|simp only[nf,Nat.beq]<;>rfl|rfl) (fun hc5 => ?_) (fun hc5 => ?_)
          · try simp only [nh] at hc5
            have hj : e = (u.nth (u.l.length - 1)).e ∧ o - 1 = u.last (u.l.length - 1) := by ((try simp at hc5)); grind
            have hz : u.addE e r o = 0 := by unfold addE; rw [if_neg hq1, if_neg hq2, if_neg hq3, if_neg hq4, if_pos hj]
            have hzt : u.addT e r o = ⟨u.l, u.n + 1⟩ := by unfold addT; rw [if_neg (by simp [hz]), if_pos ⟨hlp, hj⟩]
            refine AWP.seq ?_
            refine AWP.region ?_
            refine n_fieldAddr rfl fd188_1 ti2 rfl (by first|simp only[nf,Nat.beq]<;>rfl|rfl) rfl (by first|simp only[nf,Nat.beq]<;>rfl|rfl) ?_
            refine n_load rfl ti2 (by first|simp only[nf,Nat.beq]<;>rfl|rfl) (by first|simp only[nf,Nat.beq]<;>rfl|rfl) rfl (by first|simp only[nf,Nat.beq]<;>rfl|rfl) ?_
            first | refine n_iadd rfl (by first|simp only[nf,Nat.beq]<;>rfl|rfl) (by first|simp only[nf,Nat.beq]<;>rfl|rfl) rfl (by omega) (by omega) ?_ | refine n_ibin rfl (by first|simp only[nf,Nat.beq]<;>rfl|rfl) (by first|simp only[nf,Nat.beq]<;>rfl|rfl) rfl ?_
            refine n_fieldAddr rfl fd188_1 ti2 rfl (by first|simp only[nf,Nat.beq]<;>rfl|rfl) rfl (by first|simp only[nf,Nat.beq]<;>rfl|rfl) ?_
            refine n_store ti2 (by first|simp only[nf,Nat.beq]<;>rfl|rfl) rfl (by first|simp only[nf,Nat.beq]<;>rfl|rfl) rfl (by first|simp only[nf,Nat.beq]<;>rfl|rfl) rfl rfl rfl (by first|simp only[nf,Nat.beq]<;>rfl|rfl) ?_
            refine AOps.nil ?_
            refine AWP.seq ?_
            refine AWP.region ?_
            refine n_load rfl ti188 (by first|simp only[nf,Nat.beq]<;>rfl|rfl) (by first|simp only[nf,Nat.beq]<;>rfl|rfl) rfl (by first|simp only[nf,Nat.beq]<;>rfl|rfl) ?_
            refine n_store ti188 (by first|simp only[nf,Nat.beq]<;>rfl|rfl) rfl (by first|simp only[nf,Nat.beq]<;>rfl|rfl) rfl (by first|simp only[nf,Nat.beq]<;>rfl|rfl) rfl rfl rfl (by first|simp only[nf,Nat.beq]<;>rfl|rfl) ?_
            refine n_assign rfl (by first|simp only[nf,Nat.beq]<;>rfl|rfl) ?_
            refine AOps.nil ?_
            refine AWP.ret ?_
            refine fin_pure (.cons (rv_cell ti188 (by first|simp only[nf,Nat.beq]<;>rfl|rfl) (by first|simp only[nf,Nat.beq]<;>rfl|rfl) rfl (by first|simp only[nf,Nat.beq]<;>rfl|rfl)) (.cons (rv_tmp (by first|simp only[nf,Nat.beq]<;>rfl|rfl)) .nil)) (by first|simp only[nf,Nat.beq]<;>rfl|rfl) ?_
            rw [← hu, hz, hzt]
            exact .tup rfl (RenAll.get (.cons ren_tz (.cons (.lf (.val _)) .nil)))
          · try simp only [nh] at hc5
            have hq5 : ¬ (e = (u.nth (u.l.length - 1)).e ∧ o - 1 = u.last (u.l.length - 1)) := by simp at hc5; grind
            have hnj : ¬ u.joins e o := fun h => hq5 h.2
            refine AWP.skip ?_
            refine AWP.seq ?_
            refine AWP.region ?_
            refine n_move rfl (by first|simp only[nf,Nat.beq]<;>rfl|rfl) ?_
            refine n_ibin rfl (by first|simp only[nf,Nat.beq]<;>rfl|rfl) (by first|simp only[nf,Nat.beq]<;>rfl|rfl) rfl ?_
            refine AOps.nil ?_
            refine AWP.cond (by first|simp only[nf,Nat.beq]<;>rfl|rfl) (fun hc6 => ?_) (fun hc6 => ?_)
            · try simp only [nh] at hc6
              have hz : u.addE e r o = 3 := by unfold addE; rw [if_neg hq1, if_neg hq2, if_neg hq3, if_neg hq4, if_neg hq5, if_pos (by omega)]
              have hzt : u.addT e r o = u := by unfold addT; rw [if_pos (by simp [hz])]
              refine AWP.seq ?_
              refine AWP.region ?_
              refine n_load rfl ti188 (by first|simp only[nf,Nat.beq]<;>rfl|rfl) (by first|simp only[nf,Nat.beq]<;>rfl|rfl) rfl (by first|simp only[nf,Nat.beq]<;>rfl|rfl) ?_
              refine n_store ti188 (by first|simp only[nf,Nat.beq]<;>rfl|rfl) rfl (by first|simp only[nf,Nat.beq]<;>rfl|rfl) rfl (by first|simp only[nf,Nat.beq]<;>rfl|rfl) rfl rfl rfl (by first|simp only[nf,Nat.beq]<;>rfl|rfl) ?_
              refine n_assign rfl (by first|simp only[nf,Nat.beq]<;>rfl|rfl) ?_
              refine AOps.nil ?_
              refine AWP.ret ?_
              refine fin_pure (.cons (rv_cell ti188 (by first|simp only[nf,Nat.beq]<;>rfl|rfl) (by first|simp only[nf,Nat.beq]<;>rfl|rfl) rfl (by first|simp only[nf,Nat.beq]<;>rfl|rfl)) (.cons (rv_tmp (by first|simp only[nf,Nat.beq]<;>rfl|rfl)) .nil)) (by first|simp only[nf,Nat.beq]<;>rfl|rfl) ?_
              rw [← hu, hz, hzt]
              exact .tup rfl (RenAll.get (.cons ren_tz (.cons (.lf (.val _)) .nil)))
            · try simp only [nh] at hc6
              have hz : u.addE e r o = 0 := by unfold addE; rw [if_neg hq1, if_neg hq2, if_neg hq3, if_neg hq4, if_neg hq5, if_neg (by omega)]
              have hzt : u.addT e r o = ⟨u.l ++ [⟨e, r, u.n, o⟩], u.n + 1⟩ := by unfold addT; rw [if_neg (by simp [hz]), if_neg hnj]
              refine AWP.skip ?_
              refine AWP.seq ?_
              refine AWP.region ?_
              refine n_fieldAddr rfl fd188_0 ti186 rfl (by first|simp only[nf,Nat.beq]<;>rfl|rfl) rfl (by first|simp only[nf,Nat.beq]<;>rfl|rfl) ?_
              refine n_load rfl ti186 (by first|simp only[nf,Nat.beq]<;>rfl|rfl) (by first|simp only[nf,Nat.beq]<;>rfl|rfl) rfl (by first|simp only[nf,Nat.beq]<;>rfl|rfl) ?_
              refine n_move rfl (by first|simp only[nf,Nat.beq]<;>rfl|rfl) ?_
              refine n_move rfl (by first|simp only[nf,Nat.beq]<;>rfl|rfl) ?_
              refine n_fieldAddr rfl fd188_1 ti2 rfl (by first|simp only[nf,Nat.beq]<;>rfl|rfl) rfl (by first|simp only[nf,Nat.beq]<;>rfl|rfl) ?_
              refine n_load rfl ti2 (by first|simp only[nf,Nat.beq]<;>rfl|rfl) (by first|simp only[nf,Nat.beq]<;>rfl|rfl) rfl (by first|simp only[nf,Nat.beq]<;>rfl|rfl) ?_
              refine n_move rfl (by first|simp only[nf,Nat.beq]<;>rfl|rfl) ?_
              refine n_build rfl si200 (Eq.trans (by simp only [nl] <;> rfl) (by first|simp only[nf,Nat.beq]<;>rfl|rfl)) (Eq.trans (by simp only [nl] <;> rfl) (by first|simp only[nf,Nat.beq]<;>rfl|rfl)) rfl ?_
              refine n_lit rfl Try.underlying186 ti200 zi200 rfl rfl (Eq.trans (by simp only [nl] <;> rfl) (by first|simp only[nf,Nat.beq]<;>rfl|rfl)) rfl (by first|simp only[nf,Nat.beq]<;>rfl|rfl) ?_
              refine n_append_own (zs := (u.l ++ [(⟨e, r, u.n, o⟩ : Sp)]).map spz) (m := u.l.length + 1) rfl Try.underlying186 Try.underlying186 ei200 (by first|simp only[nf,Nat.beq]<;>rfl|rfl) (by first|simp only[nf,Nat.beq]<;>rfl|rfl) (by simp only [List.length_map]) (by first|simp only[nf,Nat.beq]<;>rfl|rfl) (by exact map_one (f := spz) (fun _ => rfl)) (by exact one_one rfl) (by simp) (by simp) (by omega) (by first|simp only[nf,Nat.beq]<;>rfl|rfl) ?_
              refine n_fieldAddr rfl fd188_0 ti186 rfl (by first|simp only[nf,Nat.beq]<;>rfl|rfl) rfl (by first|simp only[nf,Nat.beq]<;>rfl|rfl) ?_
              refine n_store ti186 (by first|simp only[nf,Nat.beq]<;>rfl|rfl) rfl (by first|simp only[nf,Nat.beq]<;>rfl|rfl) rfl (by first|simp only[nf,Nat.beq]<;>rfl|rfl) rfl rfl rfl (by first|simp only[nf,Nat.beq]<;>rfl|rfl) ?_
              refine AOps.nil ?_
              refine AWP.seq ?_
              refine AWP.region ?_
              refine n_fieldAddr rfl fd188_1 ti2 rfl (by first|simp only[nf,Nat.beq]<;>rfl|rfl) rfl (by first|simp only[nf,Nat.beq]<;>rfl|rfl) ?_
              refine n_load rfl ti2 (by first|simp only[nf,Nat.beq]<;>rfl|rfl) (by first|simp only[nf,Nat.beq]<;>rfl|rfl) rfl (by first|simp only[nf,Nat.beq]<;>rfl|rfl) ?_
              first | refine n_iadd rfl (by first|simp only[nf,Nat.beq]<;>rfl|rfl) (by first|simp only[nf,Nat.beq]<;>rfl|rfl) rfl (by omega) (by omega) ?_ | refine n_ibin rfl (by first|simp only[nf,Nat.beq]<;>rfl|rfl) (by first|simp only[nf,Nat.beq]<;>rfl|rfl) rfl ?_
              refine n_fieldAddr rfl fd188_1 ti2 rfl (by first|simp only[nf,Nat.beq]<;>rfl|rfl) rfl (by first|simp only[nf,Nat.beq]<;>rfl|rfl) ?_
              refine n_store ti2 (by first|simp only[nf,Nat.beq]<;>rfl|rfl) rfl (by first|simp only[nf,Nat.beq]<;>rfl|rfl) rfl (by first|simp only[nf,Nat.beq]<;>rfl|rfl) rfl rfl rfl (by first|simp only[nf,Nat.beq]<;>rfl|rfl) ?_
              refine AOps.nil ?_
              refine AWP.seq ?_
              refine AWP.region ?_
              refine n_load rfl ti188 (by first|simp only[nf,Nat.beq]<;>rfl|rfl) (by first|simp only[nf,Nat.beq]<;>rfl|rfl) rfl (by first|simp only[nf,Nat.beq]<;>rfl|rfl) ?_
              refine n_store ti188 (by first|simp only[nf,Nat.beq]<;>rfl|rfl) rfl (by first|simp only[nf,Nat.beq]<;>rfl|rfl) rfl (by first|simp only[nf,Nat.beq]<;>rfl|rfl) rfl rfl rfl (by first|simp only[nf,Nat.beq]<;>rfl|rfl) ?_
              refine n_assign rfl (by first|simp only[nf,Nat.beq]<;>rfl|rfl) ?_
              refine AOps.nil ?_
              refine AWP.ret ?_
              refine fin_pure (.cons (rv_cell ti188 (by first|simp only[nf,Nat.beq]<;>rfl|rfl) (by first|simp only[nf,Nat.beq]<;>rfl|rfl) rfl (by first|simp only[nf,Nat.beq]<;>rfl|rfl)) (.cons (rv_tmp (by first|simp only[nf,Nat.beq]<;>rfl|rfl)) .nil)) (by first|simp only[nf,Nat.beq]<;>rfl|rfl) ?_
              rw [← hu, hz, hzt]
              exact .tup rfl (RenAll.get (.cons ren_tz (.cons (.lf (.val _)) .nil)))
      · try simp only [nh] at hc3
        have hq3 : u.l.length = 0 := by omega
        have hz : u.addE e r o = 0 := by unfold addE; rw [if_neg hq1, if_neg hq2, if_pos hq3]
        have hnj : ¬ u.joins e o := fun h => by have := h.1; omega
        have hzt : u.addT e r o = ⟨u.l ++ [⟨e, r, u.n, o⟩], u.n + 1⟩ := by unfold addT; rw [if_neg (by simp [hz]), if_neg hnj]
        refine AWP.skip ?_
        refine AWP.seq ?_
        refine AWP.region ?_
        refine n_fieldAddr rfl fd188_0 ti186 rfl (by first|simp only[nf,Nat.beq]<;>rfl|rfl) rfl (by first|simp only[nf,Nat.beq]<;>rfl|rfl) ?_
        refine n_load rfl ti186 (by first|simp only[nf,Nat.beq]<;>rfl|rfl) (by first|simp only[nf,Nat.beq]<;>rfl|rfl) rfl (by first|simp only[nf,Nat.beq]<;>rfl|rfl) ?_
        refine n_move rfl (by first|simp only[nf,Nat.beq]<;>rfl|rfl) ?_
        refine n_move rfl (by first|simp only[nf,Nat.beq]<;>rfl|rfl) ?_
        refine n_fieldAddr rfl fd188_1 ti2 rfl (by first|simp only[nf,Nat.beq]<;>rfl|rfl) rfl (by first|simp only[nf,Nat.beq]<;>rfl|rfl) ?_
        refine n_load rfl ti2 (by first|simp only[nf,Nat.beq]<;>rfl|rfl) (by first|simp only[nf,Nat.beq]<;>rfl|rfl) rfl (by first|simp only[nf,Nat.beq]<;>rfl|rfl) ?_
        refine n_move rfl (by first|simp only[nf,Nat.beq]<;>rfl|rfl) ?_
        refine n_build rfl si200 (Eq.trans (by simp only [nl] <;> rfl) (by first|simp only[nf,Nat.beq]<;>rfl|rfl)) (Eq.trans (by simp only [nl] <;> rfl) (by first|simp only[nf,Nat.beq]<;>rfl|rfl)) rfl ?_
        refine n_lit rfl Try.underlying186 ti200 zi200 rfl rfl (Eq.trans (by simp only [nl] <;> rfl) (by first|simp only[nf,Nat.beq]<;>rfl|rfl)) rfl (by first|simp only[nf,Nat.beq]<;>rfl|rfl) ?_
        refine n_append_own (zs := (u.l ++ [(⟨e, r, u.n, o⟩ : Sp)]).map spz) (m := u.l.length + 1) rfl Try.underlying186 Try.underlying186 ei200 (by first|simp only[nf,Nat.beq]<;>rfl|rfl) (by first|simp only[nf,Nat.beq]<;>rfl|rfl) (by simp only [List.length_map]) (by first|simp only[nf,Nat.beq]<;>rfl|rfl) (by exact map_one (f := spz) (fun _ => rfl)) (by exact one_one rfl) (by simp) (by simp) (by omega) (by first|simp only[nf,Nat.beq]<;>rfl|rfl) ?_
        refine n_fieldAddr rfl fd188_0 ti186 rfl (by first|simp only[nf,Nat.beq]<;>rfl|rfl) rfl (by first|simp only[nf,Nat.beq]<;>rfl|rfl) ?_
        refine n_store ti186 (by first|simp only[nf,Nat.beq]<;>rfl|rfl) rfl (by first|simp only[nf,Nat.beq]<;>rfl|rfl) rfl (by first|simp only[nf,Nat.beq]<;>rfl|rfl) rfl rfl rfl (by first|simp only[nf,Nat.beq]<;>rfl|rfl) ?_
        refine AOps.nil ?_
        refine AWP.seq ?_
        refine AWP.region ?_
        refine n_fieldAddr rfl fd188_1 ti2 rfl (by first|simp only[nf,Nat.beq]<;>rfl|rfl) rfl (by first|simp only[nf,Nat.beq]<;>rfl|rfl) ?_
        refine n_load rfl ti2 (by first|simp only[nf,Nat.beq]<;>rfl|rfl) (by first|simp only[nf,Nat.beq]<;>rfl|rfl) rfl (by first|simp only[nf,Nat.beq]<;>rfl|rfl) ?_
        first | refine n_iadd rfl (by first|simp only[nf,Nat.beq]<;>rfl|rfl) (by first|simp only[nf,Nat.beq]<;>rfl|rfl) rfl (by omega) (by omega) ?_ | refine n_ibin rfl (by first|simp only[nf,Nat.beq]<;>rfl|rfl) (by first|simp only[nf,Nat.beq]<;>rfl|rfl) rfl ?_
        refine n_fieldAddr rfl fd188_1 ti2 rfl (by first|simp only[nf,Nat.beq]<;>rfl|rfl) rfl (by first|simp only[nf,Nat.beq]<;>rfl|rfl) ?_
        refine n_store ti2 (by first|simp only[nf,Nat.beq]<;>rfl|rfl) rfl (by first|simp only[nf,Nat.beq]<;>rfl|rfl) rfl (by first|simp only[nf,Nat.beq]<;>rfl|rfl) rfl rfl rfl (by first|simp only[nf,Nat.beq]<;>rfl|rfl) ?_
        refine AOps.nil ?_
        refine AWP.seq ?_
        refine AWP.region ?_
        refine n_load rfl ti188 (by first|simp only[nf,Nat.beq]<;>rfl|rfl) (by first|simp only[nf,Nat.beq]<;>rfl|rfl) rfl (by first|simp only[nf,Nat.beq]<;>rfl|rfl) ?_
        refine n_store ti188 (by first|simp only[nf,Nat.beq]<;>rfl|rfl) rfl (by first|simp only[nf,Nat.beq]<;>rfl|rfl) rfl (by first|simp only[nf,Nat.beq]<;>rfl|rfl) rfl rfl rfl (by first|simp only[nf,Nat.beq]<;>rfl|rfl) ?_
        refine n_assign rfl (by first|simp only[nf,Nat.beq]<;>rfl|rfl) ?_
        refine AOps.nil ?_
        refine AWP.ret ?_
        refine fin_pure (.cons (rv_cell ti188 (by first|simp only[nf,Nat.beq]<;>rfl|rfl) (by first|simp only[nf,Nat.beq]<;>rfl|rfl) rfl (by first|simp only[nf,Nat.beq]<;>rfl|rfl)) (.cons (rv_tmp (by first|simp only[nf,Nat.beq]<;>rfl|rfl)) .nil)) (by first|simp only[nf,Nat.beq]<;>rfl|rfl) ?_
        rw [← hu, hz, hzt]
        exact .tup rfl (RenAll.get (.cons ren_tz (.cons (.lf (.val _)) .nil)))

theorem eq_sp (l : List Sp) (hn : l.length ≤ 1048576) : Does Try.prog 224 [(.sl none (l.map spz) .ro), (.sl none (l.map spz) .ro)] [] (vb true) [] := by
  refine Does.of_body (rvs := [.tmp 4]) Try.func224 rfl rfl rfl rfl ?_
  refine AWP.seq ?_
  refine AWP.region ?_
  refine n_assign rfl (by first|simp only[nf,Nat.beq]<;>rfl|rfl) ?_
  refine AOps.nil ?_
  refine AWP.seq ?_
  refine AWP.seq ?_
  refine AWP.region ?_
  refine n_move rfl (by first|simp only[nf,Nat.beq]<;>rfl|rfl) ?_
  refine n_len rfl Try.underlying186 (by first|simp only[nf,Nat.beq]<;>rfl|rfl) (by first | rw [ints_length] | rw [List.length_map] | rfl) ?_
  refine n_move rfl (by first|simp only[nf,Nat.beq]<;>rfl|rfl) ?_
  refine n_len rfl Try.underlying186 (by first|simp only[nf,Nat.beq]<;>rfl|rfl) (by first | rw [ints_length] | rw [List.length_map] | rfl) ?_
  refine n_ibin rfl (by first|simp only[nf,Nat.beq]<;>rfl|rfl) (by first|simp only[nf,Nat.beq]<;>rfl|rfl) rfl ?_
  refine AOps.nil ?_
  refine AWP.cond (by first|simp only[nf,Nat.beq]<;>rfl|rfl) (fun hc1 => ?_) (fun hc1 => ?_)
  · try simp only [nh] at hc1
    exfalso
    simp at hc1
  · try simp only [nh] at hc1
    refine AWP.skip ?_
    refine AWP.seq ?_
    refine AWP.seq ?_
    refine AWP.region ?_
    refine n_move rfl (by first|simp only[nf,Nat.beq]<;>rfl|rfl) ?_
    refine n_len rfl Try.underlying186 (by first|simp only[nf,Nat.beq]<;>rfl|rfl) (by first | rw [ints_length] | rw [List.length_map] | rfl) ?_
    refine n_move rfl (by first|simp only[nf,Nat.beq]<;>rfl|rfl) ?_
    refine AOps.nil ?_
    refine AWP.block ?_
    refine AWP.loop (α := Nat) (fun i => i ≤ l.length) (fun i => put (put (put (put empty 0 (.sl none (l.map spz) .ro)) 1 (.sl none (l.map spz) .ro)) 12 (vi (l.length : Int))) 13 (vi (i : Int))) (fun _ => []) (fun i => l.length - i) 0 ?_ ?_ ?_ ?_
    · exact Nat.zero_le _
    · (repeat (first | exact FLe.empty _ | refine FLe.put ?_ ?_)) <;> first | (simp only [nf, Nat.beq]; done) | rfl | (try simp only [nf, Nat.beq]; first | rfl | (simp only [List.length_map]; done) | (simp only [ints_length]; done) | (congr 2; omega))
    · rfl
    · intro i hi
      try dsimp only at hi ⊢
      refine AWP.seq ?_
      refine AWP.region ?_
      refine n_ibin rfl (by first|simp only[nf,Nat.beq]<;>rfl|rfl) (by first|simp only[nf,Nat.beq]<;>rfl|rfl) rfl ?_
      refine AOps.nil ?_
      refine AWP.seq ?_
      refine AWP.cond (by first|simp only[nf,Nat.beq]<;>rfl|rfl) (fun hc2 => ?_) (fun hc2 => ?_)
      · try simp only [nh] at hc2
        obtain ⟨x, hx⟩ : ∃ x, l[i]? = some x := ⟨_, List.getElem?_eq_getElem (by omega)⟩
        refine AWP.skip ?_
        refine AWP.seq ?_
        refine AWP.block ?_
        refine AWP.seq ?_
        refine AWP.region ?_
        refine n_move rfl (by first|simp only[nf,Nat.beq]<;>rfl|rfl) ?_
        refine n_assign rfl (by first|simp only[nf,Nat.beq]<;>rfl|rfl) ?_
        refine AOps.nil ?_
        refine AWP.seq ?_
        refine AWP.anyStill (by kernel_rfl) (by kernel_rfl) ?_
        refine Walk.still (rs := [0]) (by rfl) (by first|simp only[nf,Nat.beq]<;>rfl|rfl) (fun base => by
            refine n_move rfl (by first|simp only[nf,Nat.beq]<;>rfl|rfl) ?_
            exact AOps.nil ⟨rfl, rfl, rfl⟩) ?_
        refine Walk.still (rs := [5]) (by rfl) (by first|simp only[nf,Nat.beq]<;>rfl|rfl) (fun base => by
            refine n_move rfl (by first|simp only[nf,Nat.beq]<;>rfl|rfl) ?_
            exact AOps.nil ⟨rfl, rfl, rfl⟩) ?_
        refine Walk.still (rs := [16, 17]) (by rfl) (by first|simp only[nf,Nat.beq]<;>rfl|rfl) (fun base => by
            refine n_indexAddr rfl Try.underlying186 ti200 rfl (by first|simp only[nf,Nat.beq]<;>rfl|rfl) (by first|simp only[nf,Nat.beq]<;>rfl|rfl) (by omega) (by first | exact ints_at _ _ _ (by omega) | exact ints_get _ _ _ (by omega) | exact map_at _ (by assumption) | rfl) rfl ?_
            exact AOps.nil ⟨rfl, rfl, rfl⟩) ?_
        refine Walk.still (rs := [18]) (by rfl) (by first|simp only[nf,Nat.beq]<;>rfl|rfl) (fun base => by
            refine n_load rfl ti200 (by first|simp only[nf,Nat.beq]<;>rfl|rfl) (by first|simp only[nf,Nat.beq]<;>rfl|rfl) rfl (by first|simp only[nf,Nat.beq]<;>rfl|rfl) ?_
            exact AOps.nil ⟨rfl, rfl, rfl⟩) ?_
        refine Walk.still (rs := [1]) (by rfl) (by first|simp only[nf,Nat.beq]<;>rfl|rfl) (fun base => by
            refine n_move rfl (by first|simp only[nf,Nat.beq]<;>rfl|rfl) ?_
            exact AOps.nil ⟨rfl, rfl, rfl⟩) ?_
        refine Walk.still (rs := [5]) (by rfl) (by first|simp only[nf,Nat.beq]<;>rfl|rfl) (fun base => by
            refine n_move rfl (by first|simp only[nf,Nat.beq]<;>rfl|rfl) ?_
            exact AOps.nil ⟨rfl, rfl, rfl⟩) ?_
        refine Walk.still (rs := [20, 21]) (by rfl) (by first|simp only[nf,Nat.beq]<;>rfl|rfl) (fun base => by
            refine n_indexAddr rfl Try.underlying186 ti200 rfl (by first|simp only[nf,Nat.beq]<;>rfl|rfl) (by first|simp only[nf,Nat.beq]<;>rfl|rfl) (by omega) (by first | exact ints_at _ _ _ (by omega) | exact ints_get _ _ _ (by omega) | exact map_at _ (by assumption) | rfl) rfl ?_
            exact AOps.nil ⟨rfl, rfl, rfl⟩) ?_
        refine Walk.still (rs := [22]) (by rfl) (by first|simp only[nf,Nat.beq]<;>rfl|rfl) (fun base => by
            refine n_load rfl ti200 (by first|simp only[nf,Nat.beq]<;>rfl|rfl) (by first|simp only[nf,Nat.beq]<;>rfl|rfl) rfl (by first|simp only[nf,Nat.beq]<;>rfl|rfl) ?_
            exact AOps.nil ⟨rfl, rfl, rfl⟩) ?_
        refine Walk.still (rs := [19, 23]) (by rfl) (by first|simp only[nf,Nat.beq]<;>rfl|rfl) (fun base => by
            refine n_stne rfl (by first|simp only[nf,Nat.beq]<;>rfl|rfl) (by first|simp only[nf,Nat.beq]<;>rfl|rfl) rfl rfl Try.underlying200 (by kernel_rfl) (by kernel_rfl) (.int rfl ti2 Try.underlying2 rfl rfl (.int rfl ti3 Try.underlying3 rfl rfl (.int rfl ti2 Try.underlying2 rfl rfl (.int rfl ti2 Try.underlying2 rfl rfl .nil)))) rfl ?_
            exact AOps.nil ⟨rfl, rfl, rfl⟩) ?_
        refine Walk.done ?_
        refine AWP.cond (by first|simp only[nf,Nat.beq]<;>rfl|rfl) (fun hc3 => ?_) (fun hc3 => ?_)
        · try simp only [nh] at hc3
          exfalso
          simp at hc3
        · try simp only [nh] at hc3
          refine AWP.skip ?_
          refine AWP.region ?_
          first | refine n_iadd rfl (by first|simp only[nf,Nat.beq]<;>rfl|rfl) (by first|simp only[nf,Nat.beq]<;>rfl|rfl) rfl (by omega) (by omega) ?_ | refine n_ibin rfl (by first|simp only[nf,Nat.beq]<;>rfl|rfl) (by first|simp only[nf,Nat.beq]<;>rfl|rfl) rfl ?_
          refine n_move rfl (by first|simp only[nf,Nat.beq]<;>rfl|rfl) ?_
          refine AOps.nil ?_
          refine ⟨i + 1, by omega, ?_, rfl, by omega⟩
          (repeat (first | exact FLe.empty _ | refine FLe.put ?_ ?_)) <;> first | (simp only [nf, Nat.beq]; done) | rfl | (try simp only [nf, Nat.beq]; first | rfl | (simp only [List.length_map]; done) | (simp only [ints_length]; done) | (congr 2; omega))
      · try simp only [nh] at hc2
        refine AWP.exit ?_
        refine AWP.seq ?_
        refine AWP.region ?_
        refine n_assign rfl (by first|simp only[nf,Nat.beq]<;>rfl|rfl) ?_
        refine AOps.nil ?_
        refine AWP.ret ?_
        refine fin_pure (.cons (rv_tmp (by first|simp only[nf,Nat.beq]<;>rfl|rfl)) .nil) (by first|simp only[nf,Nat.beq]<;>rfl|rfl) ?_
        exact ren_flat rfl rfl

end Go.Proofs.Ytanfmpkjcoolmaa.Og
