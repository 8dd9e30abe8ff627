/- What any table says and becomes. -/
import Derived.Test.YtanfmpkjcoolmaaOlA
set_option linter.unusedVariables false
set_option linter.unusedSimpArgs false
namespace Go.Proofs.Ytanfmpkjcoolmaa.Om
open Go Go.Abs Go.Abs.Tb Of Og Oh Ol
attribute [local irreducible] AWP AOps Does

theorem cf139 : CF Try.prog 139 := ⟨_, Try.func139, by kernel_rfl, by kernel_rfl⟩
theorem cf140 : CF Try.prog 140 := ⟨_, Try.func140, by kernel_rfl, by kernel_rfl⟩
theorem cf141 : CF Try.prog 141 := ⟨_, Try.func141, by kernel_rfl, by kernel_rfl⟩
theorem cf145 : CF Try.prog 145 := ⟨_, Try.func145, by kernel_rfl, by kernel_rfl⟩
theorem cf146 : CF Try.prog 146 := ⟨_, Try.func146, by kernel_rfl, by kernel_rfl⟩
theorem cf147 : CF Try.prog 147 := ⟨_, Try.func147, by kernel_rfl, by kernel_rfl⟩
theorem cf148 : CF Try.prog 148 := ⟨_, Try.func148, by kernel_rfl, by kernel_rfl⟩
theorem cf158 : CF Try.prog 158 := ⟨_, Try.func158, by kernel_rfl, by kernel_rfl⟩
theorem cf162 : CF Try.prog 162 := ⟨_, Try.func162, by kernel_rfl, by kernel_rfl⟩
theorem cf163 : CF Try.prog 163 := ⟨_, Try.func163, by kernel_rfl, by kernel_rfl⟩
theorem cf164 : CF Try.prog 164 := ⟨_, Try.func164, by kernel_rfl, by kernel_rfl⟩
theorem cf165 : CF Try.prog 165 := ⟨_, Try.func165, by kernel_rfl, by kernel_rfl⟩
theorem cf223 : CF Try.prog 223 := ⟨_, Try.func223, by kernel_rfl, by kernel_rfl⟩
theorem cf245 : CF Try.prog 245 := ⟨_, Try.func245, by kernel_rfl, by kernel_rfl⟩
theorem cf246 : CF Try.prog 246 := ⟨_, Try.func246, by kernel_rfl, by kernel_rfl⟩
theorem cf249 : CF Try.prog 249 := ⟨_, Try.func249, by kernel_rfl, by kernel_rfl⟩
theorem cf250 : CF Try.prog 250 := ⟨_, Try.func250, by kernel_rfl, by kernel_rfl⟩
theorem cf251 : CF Try.prog 251 := ⟨_, Try.func251, by kernel_rfl, by kernel_rfl⟩
theorem cf252 : CF Try.prog 252 := ⟨_, Try.func252, by kernel_rfl, by kernel_rfl⟩
theorem cf253 : CF Try.prog 253 := ⟨_, Try.func253, by kernel_rfl, by kernel_rfl⟩
theorem cf254 : CF Try.prog 254 := ⟨_, Try.func254, by kernel_rfl, by kernel_rfl⟩
theorem cf255 : CF Try.prog 255 := ⟨_, Try.func255, by kernel_rfl, by kernel_rfl⟩
theorem fd188_0 : FD Try.prog 188 0 186 0 := ⟨_, _, Try.underlying188, rfl, rfl, rfl⟩
theorem fd188_1 : FD Try.prog 188 1 2 1 := ⟨_, _, Try.underlying188, rfl, rfl, rfl⟩
theorem fd230_0 : FD Try.prog 230 0 3 0 := ⟨_, _, Try.underlying230, rfl, rfl, rfl⟩
theorem fd230_1 : FD Try.prog 230 1 2 1 := ⟨_, _, Try.underlying230, rfl, rfl, rfl⟩
theorem fd230_2 : FD Try.prog 230 2 3 2 := ⟨_, _, Try.underlying230, rfl, rfl, rfl⟩
theorem fd230_3 : FD Try.prog 230 3 2 3 := ⟨_, _, Try.underlying230, rfl, rfl, rfl⟩
theorem ti186 : TI Try.prog 186 1 false := ⟨by kernel_rfl, by kernel_rfl⟩
theorem ti188 : TI Try.prog 188 2 true := ⟨by kernel_rfl, by kernel_rfl⟩
theorem ti2 : TI Try.prog 2 1 false := ⟨by kernel_rfl, by kernel_rfl⟩
theorem ti200 : TI Try.prog 200 4 true := ⟨by kernel_rfl, by kernel_rfl⟩
theorem ti230 : TI Try.prog 230 4 true := ⟨by kernel_rfl, by kernel_rfl⟩
theorem ti3 : TI Try.prog 3 1 false := ⟨by kernel_rfl, by kernel_rfl⟩
theorem zi188 : (Try.prog.info? 188).map (·.zero) = some (some (.agg #[.slice none 0 0, .int .i64 0])) := by kernel_rfl
theorem zi230 : (Try.prog.info? 230).map (·.zero) = some (some (.agg #[.int .i64 0, .int .i64 0, .int .i64 0, .int .i64 0])) := by kernel_rfl

attribute [local irreducible] Tb.nth Tb.good Tb.chk Tb.may Tb.start Tb.pos Tb.errP Tb.errF Tb.off Tb.spAt Tb.addT Tb.addE Tb.cutT Tb.cutE Tb.dropT Tb.doT Tb.after
theorem r_same (t : Tb) (hl : t.l.length ≤ 1048576) : Does Try.prog 162 [tz t, tz t] [] (vb true) [] := by
  refine Does.of_body (rvs := [.tmp 4]) Try.func162 rfl rfl rfl rfl ?_
  refine AWP.seq ?_
  refine AWP.region ?_
  refine n_box rfl (by first|simp only[nf,Nat.beq]<;>rfl|rfl) rfl rfl (by first|simp only[nf,Nat.beq]<;>rfl|rfl) (by first|simp only[nf,Nat.beq]<;>rfl|rfl) ?_
  refine n_box rfl (by first|simp only[nf,Nat.beq]<;>rfl|rfl) rfl rfl (by first|simp only[nf,Nat.beq]<;>rfl|rfl) (by first|simp only[nf,Nat.beq]<;>rfl|rfl) ?_
  refine n_assign rfl (by first|simp only[nf,Nat.beq]<;>rfl|rfl) ?_
  refine AOps.nil ?_
  refine AWP.seq ?_
  refine AWP.seq ?_
  refine AWP.region ?_
  refine n_fieldAddr rfl fd188_1 ti2 rfl (by first|simp only[nf,Nat.beq]<;>rfl|rfl) rfl (by first|simp only[nf,Nat.beq]<;>rfl|rfl) ?_
  refine n_load rfl ti2 (by first|simp only[nf,Nat.beq]<;>rfl|rfl) (by first|simp only[nf,Nat.beq]<;>rfl|rfl) rfl (by first|simp only[nf,Nat.beq]<;>rfl|rfl) ?_
  refine n_fieldAddr rfl fd188_1 ti2 rfl (by first|simp only[nf,Nat.beq]<;>rfl|rfl) rfl (by first|simp only[nf,Nat.beq]<;>rfl|rfl) ?_
  refine n_load rfl ti2 (by first|simp only[nf,Nat.beq]<;>rfl|rfl) (by first|simp only[nf,Nat.beq]<;>rfl|rfl) rfl (by first|simp only[nf,Nat.beq]<;>rfl|rfl) ?_
  refine n_ibin rfl (by first|simp only[nf,Nat.beq]<;>rfl|rfl) (by first|simp only[nf,Nat.beq]<;>rfl|rfl) rfl ?_
  refine n_move rfl (by first|simp only[nf,Nat.beq]<;>rfl|rfl) ?_
  refine AOps.name (u := 11) (fun z => .val (.bool z)) (by first|simp only[nf,Nat.beq]<;>rfl|rfl) (fun b11 hb11 => ?_)
  refine n_soft (u := 11) (E := .val (.bool b11)) (!b11) rfl rfl rfl (by first|simp only[nf,Nat.beq]<;>rfl|rfl) (by cases b11 <;> first | (intro _; rfl) | (intro h; exact absurd h (by decide))) (by cases b11 <;> first | (intro h; exact absurd h (by decide)) | (intro _; exact ⟨_, rfl, by first | (intro h; cases h; done) | decide | simp⟩)) (fun h => by
      cases b11 with
      | true => exact absurd h (by first | decide | simp)
      | false =>
        refine n_fieldAddr rfl fd188_0 ti186 rfl (by first|simp only[nf,Nat.beq]<;>rfl|rfl) rfl (by first|simp only[nf,Nat.beq]<;>rfl|rfl) ?_
        exact AOps.nil ⟨rfl, rfl, rfl⟩) ?_
  refine n_soft (u := 11) (E := .val (.bool b11)) (!b11) rfl rfl rfl (by first|simp only[nf,Nat.beq]<;>rfl|rfl) (by cases b11 <;> first | (intro _; rfl) | (intro h; exact absurd h (by decide))) (by cases b11 <;> first | (intro h; exact absurd h (by decide)) | (intro _; exact ⟨_, rfl, by first | (intro h; cases h; done) | decide | simp⟩)) (fun h => by
      cases b11 with
      | true => exact absurd h (by first | decide | simp)
      | false =>
        refine n_load rfl ti186 (by first|simp only[nf,Nat.beq]<;>rfl|rfl) (by first|simp only[nf,Nat.beq]<;>rfl|rfl) rfl (by first|simp only[nf,Nat.beq]<;>rfl|rfl) ?_
        exact AOps.nil ⟨rfl, rfl, rfl⟩) ?_
  refine n_soft (u := 11) (E := .val (.bool b11)) (!b11) rfl rfl rfl (by first|simp only[nf,Nat.beq]<;>rfl|rfl) (by cases b11 <;> first | (intro _; rfl) | (intro h; exact absurd h (by decide))) (by cases b11 <;> first | (intro h; exact absurd h (by decide)) | (intro _; exact ⟨_, rfl, by first | (intro h; cases h; done) | decide | simp⟩)) (fun h => by
      cases b11 with
      | true => exact absurd h (by first | decide | simp)
      | false =>
        refine n_len rfl Try.underlying186 (by first|simp only[nf,Nat.beq]<;>rfl|rfl) (by first | rw [ints_length] | rw [List.length_map] | rfl) ?_
        exact AOps.nil ⟨rfl, rfl, rfl⟩) ?_
  refine n_soft (u := 11) (E := .val (.bool b11)) (!b11) rfl rfl rfl (by first|simp only[nf,Nat.beq]<;>rfl|rfl) (by cases b11 <;> first | (intro _; rfl) | (intro h; exact absurd h (by decide))) (by cases b11 <;> first | (intro h; exact absurd h (by decide)) | (intro _; exact ⟨_, rfl, by first | (intro h; cases h; done) | decide | simp⟩)) (fun h => by
      cases b11 with
      | true => exact absurd h (by first | decide | simp)
      | false =>
        refine n_fieldAddr rfl fd188_0 ti186 rfl (by first|simp only[nf,Nat.beq]<;>rfl|rfl) rfl (by first|simp only[nf,Nat.beq]<;>rfl|rfl) ?_
        exact AOps.nil ⟨rfl, rfl, rfl⟩) ?_
  refine n_soft (u := 11) (E := .val (.bool b11)) (!b11) rfl rfl rfl (by first|simp only[nf,Nat.beq]<;>rfl|rfl) (by cases b11 <;> first | (intro _; rfl) | (intro h; exact absurd h (by decide))) (by cases b11 <;> first | (intro h; exact absurd h (by decide)) | (intro _; exact ⟨_, rfl, by first | (intro h; cases h; done) | decide | simp⟩)) (fun h => by
      cases b11 with
      | true => exact absurd h (by first | decide | simp)
      | false =>
        refine n_load rfl ti186 (by first|simp only[nf,Nat.beq]<;>rfl|rfl) (by first|simp only[nf,Nat.beq]<;>rfl|rfl) rfl (by first|simp only[nf,Nat.beq]<;>rfl|rfl) ?_
        exact AOps.nil ⟨rfl, rfl, rfl⟩) ?_
  refine n_soft (u := 11) (E := .val (.bool b11)) (!b11) rfl rfl rfl (by first|simp only[nf,Nat.beq]<;>rfl|rfl) (by cases b11 <;> first | (intro _; rfl) | (intro h; exact absurd h (by decide))) (by cases b11 <;> first | (intro h; exact absurd h (by decide)) | (intro _; exact ⟨_, rfl, by first | (intro h; cases h; done) | decide | simp⟩)) (fun h => by
      cases b11 with
      | true => exact absurd h (by first | decide | simp)
      | false =>
        refine n_len rfl Try.underlying186 (by first|simp only[nf,Nat.beq]<;>rfl|rfl) (by first | rw [ints_length] | rw [List.length_map] | rfl) ?_
        exact AOps.nil ⟨rfl, rfl, rfl⟩) ?_
  refine n_soft (u := 11) (E := .val (.bool b11)) (!b11) rfl rfl rfl (by first|simp only[nf,Nat.beq]<;>rfl|rfl) (by cases b11 <;> first | (intro _; rfl) | (intro h; exact absurd h (by decide))) (by cases b11 <;> first | (intro h; exact absurd h (by decide)) | (intro _; exact ⟨_, rfl, by first | (intro h; cases h; done) | decide | simp⟩)) (fun h => by
      cases b11 with
      | true => exact absurd h (by first | decide | simp)
      | false =>
        refine n_ibin rfl (by first|simp only[nf,Nat.beq]<;>rfl|rfl) (by first|simp only[nf,Nat.beq]<;>rfl|rfl) rfl ?_
        exact AOps.nil ⟨rfl, rfl, rfl⟩) ?_
  refine n_pick_or rfl (by first|simp only[nf,Nat.beq]<;>rfl|rfl) (fun h => by cases b11 with | true => exact absurd h (by decide) | false => exact (by first|simp only[nf,Nat.beq]<;>rfl|rfl)) ?_
  subst hb11
  refine AOps.nil ?_
  refine AWP.cond (by first|simp only[nf,Nat.beq]<;>rfl|rfl) (fun hc1 => ?_) (fun hc1 => ?_)
  · try simp only [nh] at hc1
    exfalso
    simp at hc1
  · try simp only [nh] at hc1
    refine AWP.skip ?_
    refine AWP.seq ?_
    refine AWP.seq ?_
    refine AWP.region ?_
    refine n_assign rfl (by first|simp only[nf,Nat.beq]<;>rfl|rfl) ?_
    refine AOps.nil ?_
    refine AWP.block ?_
    refine AWP.loop (α := Nat) (fun i => i ≤ t.l.length) (fun i => put (put (put empty 2 (.bp 0 0)) 3 (.bp 1 0)) 5 (vi (i : Int))) (fun _ => [.box [(.sl none (t.l.map spz) .ro), vi t.n], .box [(.sl none (t.l.map spz) .ro), vi t.n]]) (fun i => t.l.length - i) 0 ?_ ?_ ?_ ?_
    · exact Nat.zero_le _
    · (repeat (first | exact FLe.empty _ | refine FLe.put ?_ ?_)) <;> first | (simp only [nf, Nat.beq]; done) | rfl | ((try simp only [nf, Nat.beq]); first | rfl | (simp only [List.length_map]; done) | (congr 2; omega; done))
    · rfl
    · intro i hi
      try dsimp only at hi ⊢
      refine AWP.seq ?_
      refine AWP.seq ?_
      refine AWP.region ?_
      refine n_move rfl (by first|simp only[nf,Nat.beq]<;>rfl|rfl) ?_
      refine n_fieldAddr rfl fd188_0 ti186 rfl (by first|simp only[nf,Nat.beq]<;>rfl|rfl) rfl (by first|simp only[nf,Nat.beq]<;>rfl|rfl) ?_
      refine n_load rfl ti186 (by first|simp only[nf,Nat.beq]<;>rfl|rfl) (by first|simp only[nf,Nat.beq]<;>rfl|rfl) rfl (by first|simp only[nf,Nat.beq]<;>rfl|rfl) ?_
      refine n_len rfl Try.underlying186 (by first|simp only[nf,Nat.beq]<;>rfl|rfl) (by first | rw [ints_length] | rw [List.length_map] | rfl) ?_
      refine n_ibin rfl (by first|simp only[nf,Nat.beq]<;>rfl|rfl) (by first|simp only[nf,Nat.beq]<;>rfl|rfl) rfl ?_
      refine AOps.nil ?_
      refine AWP.cond (by first|simp only[nf,Nat.beq]<;>rfl|rfl) (fun hc2 => ?_) (fun hc2 => ?_)
      · try simp only [nh] at hc2
        have hx := map_at spz (nth_at (t := t) (i := i) (by omega))
        refine AWP.skip ?_
        refine AWP.seq ?_
        refine AWP.block ?_
        refine AWP.seq ?_
        refine AWP.anyStill (by kernel_rfl) (by kernel_rfl) ?_
        refine Walk.still (rs := [2]) (by rfl) (by first|simp only[nf,Nat.beq]<;>rfl|rfl) (fun base => by
            refine n_fieldAddr rfl fd188_0 ti186 rfl (by first|simp only[nf,Nat.beq]<;>rfl|rfl) rfl (by first|simp only[nf,Nat.beq]<;>rfl|rfl) ?_
            exact AOps.nil ⟨rfl, rfl, rfl⟩) ?_
        refine Walk.still (rs := [27]) (by rfl) (by first|simp only[nf,Nat.beq]<;>rfl|rfl) (fun base => by
            refine n_load rfl ti186 (by first|simp only[nf,Nat.beq]<;>rfl|rfl) (by first|simp only[nf,Nat.beq]<;>rfl|rfl) rfl (by first|simp only[nf,Nat.beq]<;>rfl|rfl) ?_
            exact AOps.nil ⟨rfl, rfl, rfl⟩) ?_
        refine Walk.still (rs := [5]) (by rfl) (by first|simp only[nf,Nat.beq]<;>rfl|rfl) (fun base => by
            refine n_move rfl (by first|simp only[nf,Nat.beq]<;>rfl|rfl) ?_
            exact AOps.nil ⟨rfl, rfl, rfl⟩) ?_
        refine Walk.still (rs := [28, 29]) (by rfl) (by first|simp only[nf,Nat.beq]<;>rfl|rfl) (fun base => by
            refine n_indexAddr rfl Try.underlying186 ti200 rfl (by first|simp only[nf,Nat.beq]<;>rfl|rfl) (by first|simp only[nf,Nat.beq]<;>rfl|rfl) (by omega) (by exact hx) rfl ?_
            exact AOps.nil ⟨rfl, rfl, rfl⟩) ?_
        refine Walk.still (rs := [30]) (by rfl) (by first|simp only[nf,Nat.beq]<;>rfl|rfl) (fun base => by
            refine n_load rfl ti200 (by first|simp only[nf,Nat.beq]<;>rfl|rfl) (by first|simp only[nf,Nat.beq]<;>rfl|rfl) rfl (by first|simp only[nf,Nat.beq]<;>rfl|rfl) ?_
            exact AOps.nil ⟨rfl, rfl, rfl⟩) ?_
        refine Walk.still (rs := [3]) (by rfl) (by first|simp only[nf,Nat.beq]<;>rfl|rfl) (fun base => by
            refine n_fieldAddr rfl fd188_0 ti186 rfl (by first|simp only[nf,Nat.beq]<;>rfl|rfl) rfl (by first|simp only[nf,Nat.beq]<;>rfl|rfl) ?_
            exact AOps.nil ⟨rfl, rfl, rfl⟩) ?_
        refine Walk.still (rs := [32]) (by rfl) (by first|simp only[nf,Nat.beq]<;>rfl|rfl) (fun base => by
            refine n_load rfl ti186 (by first|simp only[nf,Nat.beq]<;>rfl|rfl) (by first|simp only[nf,Nat.beq]<;>rfl|rfl) rfl (by first|simp only[nf,Nat.beq]<;>rfl|rfl) ?_
            exact AOps.nil ⟨rfl, rfl, rfl⟩) ?_
        refine Walk.still (rs := [5]) (by rfl) (by first|simp only[nf,Nat.beq]<;>rfl|rfl) (fun base => by
            refine n_move rfl (by first|simp only[nf,Nat.beq]<;>rfl|rfl) ?_
            exact AOps.nil ⟨rfl, rfl, rfl⟩) ?_
        refine Walk.still (rs := [33, 34]) (by rfl) (by first|simp only[nf,Nat.beq]<;>rfl|rfl) (fun base => by
            refine n_indexAddr rfl Try.underlying186 ti200 rfl (by first|simp only[nf,Nat.beq]<;>rfl|rfl) (by first|simp only[nf,Nat.beq]<;>rfl|rfl) (by omega) (by exact hx) rfl ?_
            exact AOps.nil ⟨rfl, rfl, rfl⟩) ?_
        refine Walk.still (rs := [35]) (by rfl) (by first|simp only[nf,Nat.beq]<;>rfl|rfl) (fun base => by
            refine n_load rfl ti200 (by first|simp only[nf,Nat.beq]<;>rfl|rfl) (by first|simp only[nf,Nat.beq]<;>rfl|rfl) rfl (by first|simp only[nf,Nat.beq]<;>rfl|rfl) ?_
            exact AOps.nil ⟨rfl, rfl, rfl⟩) ?_
        refine Walk.still (rs := [31, 36]) (by rfl) (by first|simp only[nf,Nat.beq]<;>rfl|rfl) (fun base => by
            refine n_stne rfl (by first|simp only[nf,Nat.beq]<;>rfl|rfl) (by first|simp only[nf,Nat.beq]<;>rfl|rfl) rfl rfl Try.underlying200 (by kernel_rfl) (by kernel_rfl) (.int rfl ti2 Try.underlying2 rfl rfl (.int rfl ti3 Try.underlying3 rfl rfl (.int rfl ti2 Try.underlying2 rfl rfl (.int rfl ti2 Try.underlying2 rfl rfl .nil)))) rfl ?_
            exact AOps.nil ⟨rfl, rfl, rfl⟩) ?_
        refine Walk.done ?_
        refine AWP.cond (by first|simp only[nf,Nat.beq]<;>rfl|rfl) (fun hc3 => ?_) (fun hc3 => ?_)
        · try simp only [nh] at hc3
          exfalso
          simp at hc3
        · try simp only [nh] at hc3
          refine AWP.skip ?_
          refine AWP.region ?_
          refine n_move rfl (by first|simp only[nf,Nat.beq]<;>rfl|rfl) ?_
          first | refine n_iadd rfl (by first|simp only[nf,Nat.beq]<;>rfl|rfl) (by first|simp only[nf,Nat.beq]<;>rfl|rfl) rfl (by omega) (by omega) ?_ | refine n_ibin rfl (by first|simp only[nf,Nat.beq]<;>rfl|rfl) (by first|simp only[nf,Nat.beq]<;>rfl|rfl) rfl ?_
          refine n_assign rfl (by first|simp only[nf,Nat.beq]<;>rfl|rfl) ?_
          refine AOps.nil ?_
          refine ⟨i + 1, by omega, ?_, rfl, by omega⟩
          (repeat (first | exact FLe.empty _ | refine FLe.put ?_ ?_)) <;> first | (simp only [nf, Nat.beq]; done) | rfl | ((try simp only [nf, Nat.beq]); first | rfl | (simp only [List.length_map]; done) | (congr 2; omega; done))
      · try simp only [nh] at hc2
        refine AWP.exit ?_
        refine AWP.seq ?_
        refine AWP.region ?_
        refine n_assign rfl (by first|simp only[nf,Nat.beq]<;>rfl|rfl) ?_
        refine AOps.nil ?_
        refine AWP.ret ?_
        refine fin_pure (.cons (rv_tmp (by first|simp only[nf,Nat.beq]<;>rfl|rfl)) .nil) (by first|simp only[nf,Nat.beq]<;>rfl|rfl) ?_
        exact ren_flat rfl rfl

set_option maxHeartbeats 2000000 in
theorem asks (t : Tb) (p n : Int) (hl : t.l.length ≤ 1048576) : Does Try.prog 164 [tz t, vi p, vi n] [] (vb true) [] := by
  refine Does.of_body (rvs := [.tmp 6]) Try.func164 rfl rfl rfl rfl ?_
  refine AWP.seq ?_
  refine AWP.region ?_
  refine n_box rfl (by first|simp only[nf,Nat.beq]<;>rfl|rfl) rfl rfl (by first|simp only[nf,Nat.beq]<;>rfl|rfl) (by first|simp only[nf,Nat.beq]<;>rfl|rfl) ?_
  refine n_assign rfl (by first|simp only[nf,Nat.beq]<;>rfl|rfl) ?_
  refine AOps.nil ?_
  refine AWP.seq ?_
  refine AWP.region ?_
  refine n_load rfl ti188 (by first|simp only[nf,Nat.beq]<;>rfl|rfl) (by first|simp only[nf,Nat.beq]<;>rfl|rfl) rfl (by first|simp only[nf,Nat.beq]<;>rfl|rfl) ?_
  refine n_move rfl (by first|simp only[nf,Nat.beq]<;>rfl|rfl) ?_
  refine n_call0B rfl cf249 rfl (Eq.trans (by simp only [nl] <;> rfl) (by first|simp only[nf,Nat.beq]<;>rfl|rfl)) (by repeat (first | exact .nil | refine .cons ?_ ?_ | exact ren_ints | exact .lf (.val _) | exact .lf (lf_ints (.inl rfl)) | exact .bp ⟨rfl, rfl⟩ | exact .bp (.inl ⟨rfl, rfl⟩) | exact .bp (.inr ⟨rfl, rfl⟩) | exact .lf (lf_tz _) | exact .lf (.agg (flats_lf rfl)) | exact ren_nil0 | exact .lf (lf_fnrp (lf_cons (.val _) lf_nil)) | exact .lf (.rp (lf_cons (.val _) lf_nil)) | exact .bs ⟨rfl, rfl⟩ | exact .lf (D.flat_lf rfl) | exact ren_map (f := spz) (fun _ => rfl) | exact ren_tz | exact .lf (.fn (fun d h => by cases h) (fun d h => by cases h)) | exact .lf (lf_fnrp (lf_rp1 (f := spz) (fun _ => rfl))) | exact .ro (by intro x hx; simp only [List.mem_cons, List.not_mem_nil, or_false] at hx; rcases hx with rfl | rfl <;> exact flats_lf rfl))) (l_at _ _ (by omega)) (by first | exact .val _ | exact lf_ints (.inl rfl) | exact lf_ints (.inr rfl) | exact .any | exact .tup (lf_cons (lf_tz _) (lf_cons (.val _) lf_nil)) | exact lf_nil0 | exact lf_fnrp (lf_cons (.val _) lf_nil) | exact D.flat_lf rfl | exact lf_map (f := spz) (fun _ => rfl) (.inl rfl) | exact lf_tz _ | exact lf_fnrp (lf_rp1 (f := spz) (fun _ => rfl))) ?_
  refine n_move rfl (by first|simp only[nf,Nat.beq]<;>rfl|rfl) ?_
  refine n_extract rfl (by first|simp only[nf,Nat.beq]<;>rfl|rfl) rfl ?_
  refine n_extract rfl (by first|simp only[nf,Nat.beq]<;>rfl|rfl) rfl ?_
  refine n_extract rfl (by first|simp only[nf,Nat.beq]<;>rfl|rfl) rfl ?_
  refine n_assign rfl (by first|simp only[nf,Nat.beq]<;>rfl|rfl) ?_
  refine n_assign rfl (by first|simp only[nf,Nat.beq]<;>rfl|rfl) ?_
  refine n_assign rfl (by first|simp only[nf,Nat.beq]<;>rfl|rfl) ?_
  refine AOps.nil ?_
  refine AWP.seq ?_
  refine AWP.region ?_
  refine n_load rfl ti188 (by first|simp only[nf,Nat.beq]<;>rfl|rfl) (by first|simp only[nf,Nat.beq]<;>rfl|rfl) rfl (by first|simp only[nf,Nat.beq]<;>rfl|rfl) ?_
  refine n_move rfl (by first|simp only[nf,Nat.beq]<;>rfl|rfl) ?_
  refine n_call0B rfl cf147 rfl (Eq.trans (by simp only [nl] <;> rfl) (by first|simp only[nf,Nat.beq]<;>rfl|rfl)) (by repeat (first | exact .nil | refine .cons ?_ ?_ | exact ren_ints | exact .lf (.val _) | exact .lf (lf_ints (.inl rfl)) | exact .bp ⟨rfl, rfl⟩ | exact .bp (.inl ⟨rfl, rfl⟩) | exact .bp (.inr ⟨rfl, rfl⟩) | exact .lf (lf_tz _) | exact .lf (.agg (flats_lf rfl)) | exact ren_nil0 | exact .lf (lf_fnrp (lf_cons (.val _) lf_nil)) | exact .lf (.rp (lf_cons (.val _) lf_nil)) | exact .bs ⟨rfl, rfl⟩ | exact .lf (D.flat_lf rfl) | exact ren_map (f := spz) (fun _ => rfl) | exact ren_tz | exact .lf (.fn (fun d h => by cases h) (fun d h => by cases h)) | exact .lf (lf_fnrp (lf_rp1 (f := spz) (fun _ => rfl))) | exact .ro (by intro x hx; simp only [List.mem_cons, List.not_mem_nil, or_false] at hx; rcases hx with rfl | rfl <;> exact flats_lf rfl))) (r_at _ _ (by omega)) (by first | exact .val _ | exact lf_ints (.inl rfl) | exact lf_ints (.inr rfl) | exact .any | exact .tup (lf_cons (lf_tz _) (lf_cons (.val _) lf_nil)) | exact lf_nil0 | exact lf_fnrp (lf_cons (.val _) lf_nil) | exact D.flat_lf rfl | exact lf_map (f := spz) (fun _ => rfl) (.inl rfl) | exact lf_tz _ | exact lf_fnrp (lf_rp1 (f := spz) (fun _ => rfl))) ?_
  refine n_move rfl (by first|simp only[nf,Nat.beq]<;>rfl|rfl) ?_
  refine n_extract rfl (by first|simp only[nf,Nat.beq]<;>rfl|rfl) rfl ?_
  refine n_extract rfl (by first|simp only[nf,Nat.beq]<;>rfl|rfl) rfl ?_
  refine n_extract rfl (by first|simp only[nf,Nat.beq]<;>rfl|rfl) rfl ?_
  refine n_assign rfl (by first|simp only[nf,Nat.beq]<;>rfl|rfl) ?_
  refine n_assign rfl (by first|simp only[nf,Nat.beq]<;>rfl|rfl) ?_
  refine n_assign rfl (by first|simp only[nf,Nat.beq]<;>rfl|rfl) ?_
  refine AOps.nil ?_
  refine AWP.seq ?_
  refine AWP.region ?_
  refine n_load rfl ti188 (by first|simp only[nf,Nat.beq]<;>rfl|rfl) (by first|simp only[nf,Nat.beq]<;>rfl|rfl) rfl (by first|simp only[nf,Nat.beq]<;>rfl|rfl) ?_
  refine n_move rfl (by first|simp only[nf,Nat.beq]<;>rfl|rfl) ?_
  refine n_call0B rfl cf140 rfl (Eq.trans (by simp only [nl] <;> rfl) (by first|simp only[nf,Nat.beq]<;>rfl|rfl)) (by repeat (first | exact .nil | refine .cons ?_ ?_ | exact ren_ints | exact .lf (.val _) | exact .lf (lf_ints (.inl rfl)) | exact .bp ⟨rfl, rfl⟩ | exact .bp (.inl ⟨rfl, rfl⟩) | exact .bp (.inr ⟨rfl, rfl⟩) | exact .lf (lf_tz _) | exact .lf (.agg (flats_lf rfl)) | exact ren_nil0 | exact .lf (lf_fnrp (lf_cons (.val _) lf_nil)) | exact .lf (.rp (lf_cons (.val _) lf_nil)) | exact .bs ⟨rfl, rfl⟩ | exact .lf (D.flat_lf rfl) | exact ren_map (f := spz) (fun _ => rfl) | exact ren_tz | exact .lf (.fn (fun d h => by cases h) (fun d h => by cases h)) | exact .lf (lf_fnrp (lf_rp1 (f := spz) (fun _ => rfl))) | exact .ro (by intro x hx; simp only [List.mem_cons, List.not_mem_nil, or_false] at hx; rcases hx with rfl | rfl <;> exact flats_lf rfl))) (l_off _ _ (by omega)) (by first | exact .val _ | exact lf_ints (.inl rfl) | exact lf_ints (.inr rfl) | exact .any | exact .tup (lf_cons (lf_tz _) (lf_cons (.val _) lf_nil)) | exact lf_nil0 | exact lf_fnrp (lf_cons (.val _) lf_nil) | exact D.flat_lf rfl | exact lf_map (f := spz) (fun _ => rfl) (.inl rfl) | exact lf_tz _ | exact lf_fnrp (lf_rp1 (f := spz) (fun _ => rfl))) ?_
  refine n_move rfl (by first|simp only[nf,Nat.beq]<;>rfl|rfl) ?_
  refine n_extract rfl (by first|simp only[nf,Nat.beq]<;>rfl|rfl) rfl ?_
  refine n_extract rfl (by first|simp only[nf,Nat.beq]<;>rfl|rfl) rfl ?_
  refine n_assign rfl (by first|simp only[nf,Nat.beq]<;>rfl|rfl) ?_
  refine n_assign rfl (by first|simp only[nf,Nat.beq]<;>rfl|rfl) ?_
  refine AOps.nil ?_
  refine AWP.seq ?_
  refine AWP.region ?_
  refine n_load rfl ti188 (by first|simp only[nf,Nat.beq]<;>rfl|rfl) (by first|simp only[nf,Nat.beq]<;>rfl|rfl) rfl (by first|simp only[nf,Nat.beq]<;>rfl|rfl) ?_
  refine n_move rfl (by first|simp only[nf,Nat.beq]<;>rfl|rfl) ?_
  refine n_call0B rfl cf148 rfl (Eq.trans (by simp only [nl] <;> rfl) (by first|simp only[nf,Nat.beq]<;>rfl|rfl)) (by repeat (first | exact .nil | refine .cons ?_ ?_ | exact ren_ints | exact .lf (.val _) | exact .lf (lf_ints (.inl rfl)) | exact .bp ⟨rfl, rfl⟩ | exact .bp (.inl ⟨rfl, rfl⟩) | exact .bp (.inr ⟨rfl, rfl⟩) | exact .lf (lf_tz _) | exact .lf (.agg (flats_lf rfl)) | exact ren_nil0 | exact .lf (lf_fnrp (lf_cons (.val _) lf_nil)) | exact .lf (.rp (lf_cons (.val _) lf_nil)) | exact .bs ⟨rfl, rfl⟩ | exact .lf (D.flat_lf rfl) | exact ren_map (f := spz) (fun _ => rfl) | exact ren_tz | exact .lf (.fn (fun d h => by cases h) (fun d h => by cases h)) | exact .lf (lf_fnrp (lf_rp1 (f := spz) (fun _ => rfl))) | exact .ro (by intro x hx; simp only [List.mem_cons, List.not_mem_nil, or_false] at hx; rcases hx with rfl | rfl <;> exact flats_lf rfl))) (r_off _ _ (by omega)) (by first | exact .val _ | exact lf_ints (.inl rfl) | exact lf_ints (.inr rfl) | exact .any | exact .tup (lf_cons (lf_tz _) (lf_cons (.val _) lf_nil)) | exact lf_nil0 | exact lf_fnrp (lf_cons (.val _) lf_nil) | exact D.flat_lf rfl | exact lf_map (f := spz) (fun _ => rfl) (.inl rfl) | exact lf_tz _ | exact lf_fnrp (lf_rp1 (f := spz) (fun _ => rfl))) ?_
  refine n_move rfl (by first|simp only[nf,Nat.beq]<;>rfl|rfl) ?_
  refine n_extract rfl (by first|simp only[nf,Nat.beq]<;>rfl|rfl) rfl ?_
  refine n_extract rfl (by first|simp only[nf,Nat.beq]<;>rfl|rfl) rfl ?_
  refine n_assign rfl (by first|simp only[nf,Nat.beq]<;>rfl|rfl) ?_
  refine n_assign rfl (by first|simp only[nf,Nat.beq]<;>rfl|rfl) ?_
  refine AOps.nil ?_
  refine AWP.seq ?_
  refine AWP.region ?_
  refine n_load rfl ti188 (by first|simp only[nf,Nat.beq]<;>rfl|rfl) (by first|simp only[nf,Nat.beq]<;>rfl|rfl) rfl (by first|simp only[nf,Nat.beq]<;>rfl|rfl) ?_
  refine n_move rfl (by first|simp only[nf,Nat.beq]<;>rfl|rfl) ?_
  refine n_call0B rfl cf141 rfl (Eq.trans (by simp only [nl] <;> rfl) (by first|simp only[nf,Nat.beq]<;>rfl|rfl)) (by repeat (first | exact .nil | refine .cons ?_ ?_ | exact ren_ints | exact .lf (.val _) | exact .lf (lf_ints (.inl rfl)) | exact .bp ⟨rfl, rfl⟩ | exact .bp (.inl ⟨rfl, rfl⟩) | exact .bp (.inr ⟨rfl, rfl⟩) | exact .lf (lf_tz _) | exact .lf (.agg (flats_lf rfl)) | exact ren_nil0 | exact .lf (lf_fnrp (lf_cons (.val _) lf_nil)) | exact .lf (.rp (lf_cons (.val _) lf_nil)) | exact .bs ⟨rfl, rfl⟩ | exact .lf (D.flat_lf rfl) | exact ren_map (f := spz) (fun _ => rfl) | exact ren_tz | exact .lf (.fn (fun d h => by cases h) (fun d h => by cases h)) | exact .lf (lf_fnrp (lf_rp1 (f := spz) (fun _ => rfl))) | exact .ro (by intro x hx; simp only [List.mem_cons, List.not_mem_nil, or_false] at hx; rcases hx with rfl | rfl <;> exact flats_lf rfl))) (l_pos _ _ (by omega)) (by first | exact .val _ | exact lf_ints (.inl rfl) | exact lf_ints (.inr rfl) | exact .any | exact .tup (lf_cons (lf_tz _) (lf_cons (.val _) lf_nil)) | exact lf_nil0 | exact lf_fnrp (lf_cons (.val _) lf_nil) | exact D.flat_lf rfl | exact lf_map (f := spz) (fun _ => rfl) (.inl rfl) | exact lf_tz _ | exact lf_fnrp (lf_rp1 (f := spz) (fun _ => rfl))) ?_
  refine n_move rfl (by first|simp only[nf,Nat.beq]<;>rfl|rfl) ?_
  refine n_extract rfl (by first|simp only[nf,Nat.beq]<;>rfl|rfl) rfl ?_
  refine n_extract rfl (by first|simp only[nf,Nat.beq]<;>rfl|rfl) rfl ?_
  refine n_assign rfl (by first|simp only[nf,Nat.beq]<;>rfl|rfl) ?_
  refine n_assign rfl (by first|simp only[nf,Nat.beq]<;>rfl|rfl) ?_
  refine AOps.nil ?_
  refine AWP.seq ?_
  refine AWP.region ?_
  refine n_load rfl ti188 (by first|simp only[nf,Nat.beq]<;>rfl|rfl) (by first|simp only[nf,Nat.beq]<;>rfl|rfl) rfl (by first|simp only[nf,Nat.beq]<;>rfl|rfl) ?_
  refine n_move rfl (by first|simp only[nf,Nat.beq]<;>rfl|rfl) ?_
  refine n_call0B rfl cf250 rfl (Eq.trans (by simp only [nl] <;> rfl) (by first|simp only[nf,Nat.beq]<;>rfl|rfl)) (by repeat (first | exact .nil | refine .cons ?_ ?_ | exact ren_ints | exact .lf (.val _) | exact .lf (lf_ints (.inl rfl)) | exact .bp ⟨rfl, rfl⟩ | exact .bp (.inl ⟨rfl, rfl⟩) | exact .bp (.inr ⟨rfl, rfl⟩) | exact .lf (lf_tz _) | exact .lf (.agg (flats_lf rfl)) | exact ren_nil0 | exact .lf (lf_fnrp (lf_cons (.val _) lf_nil)) | exact .lf (.rp (lf_cons (.val _) lf_nil)) | exact .bs ⟨rfl, rfl⟩ | exact .lf (D.flat_lf rfl) | exact ren_map (f := spz) (fun _ => rfl) | exact ren_tz | exact .lf (.fn (fun d h => by cases h) (fun d h => by cases h)) | exact .lf (lf_fnrp (lf_rp1 (f := spz) (fun _ => rfl))) | exact .ro (by intro x hx; simp only [List.mem_cons, List.not_mem_nil, or_false] at hx; rcases hx with rfl | rfl <;> exact flats_lf rfl))) (r_pos _ _ (by omega)) (by first | exact .val _ | exact lf_ints (.inl rfl) | exact lf_ints (.inr rfl) | exact .any | exact .tup (lf_cons (lf_tz _) (lf_cons (.val _) lf_nil)) | exact lf_nil0 | exact lf_fnrp (lf_cons (.val _) lf_nil) | exact D.flat_lf rfl | exact lf_map (f := spz) (fun _ => rfl) (.inl rfl) | exact lf_tz _ | exact lf_fnrp (lf_rp1 (f := spz) (fun _ => rfl))) ?_
  refine n_move rfl (by first|simp only[nf,Nat.beq]<;>rfl|rfl) ?_
  refine n_extract rfl (by first|simp only[nf,Nat.beq]<;>rfl|rfl) rfl ?_
  refine n_extract rfl (by first|simp only[nf,Nat.beq]<;>rfl|rfl) rfl ?_
  refine n_assign rfl (by first|simp only[nf,Nat.beq]<;>rfl|rfl) ?_
  refine n_assign rfl (by first|simp only[nf,Nat.beq]<;>rfl|rfl) ?_
  refine AOps.nil ?_
  refine AWP.seq ?_
  refine AWP.anyStill (by kernel_rfl) (by kernel_rfl) ?_
  refine Walk.still (rs := [7]) (by rfl) (by first|simp only[nf,Nat.beq]<;>rfl|rfl) (fun base => by
      refine n_move rfl (by first|simp only[nf,Nat.beq]<;>rfl|rfl) ?_
      exact AOps.nil ⟨rfl, rfl, rfl⟩) ?_
  refine Walk.still (rs := [10]) (by rfl) (by first|simp only[nf,Nat.beq]<;>rfl|rfl) (fun base => by
      refine n_move rfl (by first|simp only[nf,Nat.beq]<;>rfl|rfl) ?_
      exact AOps.nil ⟨rfl, rfl, rfl⟩) ?_
  refine Walk.still (rs := [59, 60]) (by rfl) (by first|simp only[nf,Nat.beq]<;>rfl|rfl) (fun base => by
      refine n_ibin rfl (by first|simp only[nf,Nat.beq]<;>rfl|rfl) (by first|simp only[nf,Nat.beq]<;>rfl|rfl) rfl ?_
      exact AOps.nil ⟨rfl, rfl, rfl⟩) ?_
  refine Walk.still (rs := [61]) (by rfl) (by first|simp only[nf,Nat.beq]<;>rfl|rfl) (fun base => by
      refine n_move rfl (by first|simp only[nf,Nat.beq]<;>rfl|rfl) ?_
      exact AOps.nil ⟨rfl, rfl, rfl⟩) ?_
  refine Walk.name (u := 62) (fun z => .val (.bool z)) (by first|simp only[nf,Nat.beq]<;>rfl|rfl) (fun b62 hb62 => ?_)
  refine Walk.still (rs := [8, 62]) (by rfl) (by first|simp only[nf,Nat.beq]<;>rfl|rfl) (fun base => by
      refine n_soft (u := 62) (E := .val (.bool b62)) (b62) rfl rfl rfl (by first|simp only[nf,Nat.beq]<;>rfl|rfl) (by cases b62 <;> first | (intro _; rfl) | (intro h; exact absurd h (by decide))) (by cases b62 <;> first | (intro h; exact absurd h (by decide)) | (intro _; exact ⟨_, rfl, by first | (intro h; cases h; done) | decide | simp⟩)) (fun h => by
          cases b62 with
          | false => exact absurd h (by first | decide | simp)
          | true =>
            refine n_move rfl (by first|simp only[nf,Nat.beq]<;>rfl|rfl) ?_
            exact AOps.nil ⟨rfl, rfl, rfl⟩) (AOps.nil ⟨rfl, rfl, rfl⟩)) ?_
  refine Walk.still (rs := [11, 62]) (by rfl) (by first|simp only[nf,Nat.beq]<;>rfl|rfl) (fun base => by
      refine n_soft (u := 62) (E := .val (.bool b62)) (b62) rfl rfl rfl (by first|simp only[nf,Nat.beq]<;>rfl|rfl) (by cases b62 <;> first | (intro _; rfl) | (intro h; exact absurd h (by decide))) (by cases b62 <;> first | (intro h; exact absurd h (by decide)) | (intro _; exact ⟨_, rfl, by first | (intro h; cases h; done) | decide | simp⟩)) (fun h => by
          cases b62 with
          | false => exact absurd h (by first | decide | simp)
          | true =>
            refine n_move rfl (by first|simp only[nf,Nat.beq]<;>rfl|rfl) ?_
            exact AOps.nil ⟨rfl, rfl, rfl⟩) (AOps.nil ⟨rfl, rfl, rfl⟩)) ?_
  refine Walk.still (rs := [63, 64, 62]) (by rfl) (by first|simp only[nf,Nat.beq]<;>rfl|rfl) (fun base => by
      refine n_soft (u := 62) (E := .val (.bool b62)) (b62) rfl rfl rfl (by first|simp only[nf,Nat.beq]<;>rfl|rfl) (by cases b62 <;> first | (intro _; rfl) | (intro h; exact absurd h (by decide))) (by cases b62 <;> first | (intro h; exact absurd h (by decide)) | (intro _; exact ⟨_, rfl, by first | (intro h; cases h; done) | decide | simp⟩)) (fun h => by
          cases b62 with
          | false => exact absurd h (by first | decide | simp)
          | true =>
            refine n_ibin rfl (by first|simp only[nf,Nat.beq]<;>rfl|rfl) (by first|simp only[nf,Nat.beq]<;>rfl|rfl) rfl ?_
            exact AOps.nil ⟨rfl, rfl, rfl⟩) (AOps.nil ⟨rfl, rfl, rfl⟩)) ?_
  refine Walk.still (rs := [62, 65]) (by rfl) (by first|simp only[nf,Nat.beq]<;>rfl|rfl) (fun base => by
      refine n_pick_and rfl (by first|simp only[nf,Nat.beq]<;>rfl|rfl) (fun h => by cases b62 with | false => exact absurd h (by decide) | true => exact (by first|simp only[nf,Nat.beq]<;>rfl|rfl)) ?_
      exact AOps.nil ⟨rfl, rfl, rfl⟩) ?_
  refine Walk.still (rs := [66]) (by rfl) (by first|simp only[nf,Nat.beq]<;>rfl|rfl) (fun base => by
      refine n_move rfl (by first|simp only[nf,Nat.beq]<;>rfl|rfl) ?_
      exact AOps.nil ⟨rfl, rfl, rfl⟩) ?_
  refine Walk.name (u := 67) (fun z => .val (.bool z)) (by first|simp only[nf,Nat.beq]<;>rfl|rfl) (fun b67 hb67 => ?_)
  refine Walk.still (rs := [9, 67]) (by rfl) (by first|simp only[nf,Nat.beq]<;>rfl|rfl) (fun base => by
      refine n_soft (u := 67) (E := .val (.bool b67)) (b67) rfl rfl rfl (by first|simp only[nf,Nat.beq]<;>rfl|rfl) (by cases b67 <;> first | (intro _; rfl) | (intro h; exact absurd h (by decide))) (by cases b67 <;> first | (intro h; exact absurd h (by decide)) | (intro _; exact ⟨_, rfl, by first | (intro h; cases h; done) | decide | simp⟩)) (fun h => by
          cases b67 with
          | false => exact absurd h (by first | decide | simp)
          | true =>
            refine n_move rfl (by first|simp only[nf,Nat.beq]<;>rfl|rfl) ?_
            exact AOps.nil ⟨rfl, rfl, rfl⟩) (AOps.nil ⟨rfl, rfl, rfl⟩)) ?_
  refine Walk.still (rs := [12, 67]) (by rfl) (by first|simp only[nf,Nat.beq]<;>rfl|rfl) (fun base => by
      refine n_soft (u := 67) (E := .val (.bool b67)) (b67) rfl rfl rfl (by first|simp only[nf,Nat.beq]<;>rfl|rfl) (by cases b67 <;> first | (intro _; rfl) | (intro h; exact absurd h (by decide))) (by cases b67 <;> first | (intro h; exact absurd h (by decide)) | (intro _; exact ⟨_, rfl, by first | (intro h; cases h; done) | decide | simp⟩)) (fun h => by
          cases b67 with
          | false => exact absurd h (by first | decide | simp)
          | true =>
            refine n_move rfl (by first|simp only[nf,Nat.beq]<;>rfl|rfl) ?_
            exact AOps.nil ⟨rfl, rfl, rfl⟩) (AOps.nil ⟨rfl, rfl, rfl⟩)) ?_
  refine Walk.still (rs := [68, 69, 67]) (by rfl) (by first|simp only[nf,Nat.beq]<;>rfl|rfl) (fun base => by
      refine n_soft (u := 67) (E := .val (.bool b67)) (b67) rfl rfl rfl (by first|simp only[nf,Nat.beq]<;>rfl|rfl) (by cases b67 <;> first | (intro _; rfl) | (intro h; exact absurd h (by decide))) (by cases b67 <;> first | (intro h; exact absurd h (by decide)) | (intro _; exact ⟨_, rfl, by first | (intro h; cases h; done) | decide | simp⟩)) (fun h => by
          cases b67 with
          | false => exact absurd h (by first | decide | simp)
          | true =>
            refine n_ibin rfl (by first|simp only[nf,Nat.beq]<;>rfl|rfl) (by first|simp only[nf,Nat.beq]<;>rfl|rfl) rfl ?_
            exact AOps.nil ⟨rfl, rfl, rfl⟩) (AOps.nil ⟨rfl, rfl, rfl⟩)) ?_
  refine Walk.still (rs := [67, 70]) (by rfl) (by first|simp only[nf,Nat.beq]<;>rfl|rfl) (fun base => by
      refine n_pick_and rfl (by first|simp only[nf,Nat.beq]<;>rfl|rfl) (fun h => by cases b67 with | false => exact absurd h (by decide) | true => exact (by first|simp only[nf,Nat.beq]<;>rfl|rfl)) ?_
      exact AOps.nil ⟨rfl, rfl, rfl⟩) ?_
  refine Walk.still (rs := [71]) (by rfl) (by first|simp only[nf,Nat.beq]<;>rfl|rfl) (fun base => by
      refine n_move rfl (by first|simp only[nf,Nat.beq]<;>rfl|rfl) ?_
      exact AOps.nil ⟨rfl, rfl, rfl⟩) ?_
  refine Walk.name (u := 72) (fun z => .val (.bool z)) (by first|simp only[nf,Nat.beq]<;>rfl|rfl) (fun b72 hb72 => ?_)
  refine Walk.still (rs := [13, 72]) (by rfl) (by first|simp only[nf,Nat.beq]<;>rfl|rfl) (fun base => by
      refine n_soft (u := 72) (E := .val (.bool b72)) (b72) rfl rfl rfl (by first|simp only[nf,Nat.beq]<;>rfl|rfl) (by cases b72 <;> first | (intro _; rfl) | (intro h; exact absurd h (by decide))) (by cases b72 <;> first | (intro h; exact absurd h (by decide)) | (intro _; exact ⟨_, rfl, by first | (intro h; cases h; done) | decide | simp⟩)) (fun h => by
          cases b72 with
          | false => exact absurd h (by first | decide | simp)
          | true =>
            refine n_move rfl (by first|simp only[nf,Nat.beq]<;>rfl|rfl) ?_
            exact AOps.nil ⟨rfl, rfl, rfl⟩) (AOps.nil ⟨rfl, rfl, rfl⟩)) ?_
  refine Walk.still (rs := [15, 72]) (by rfl) (by first|simp only[nf,Nat.beq]<;>rfl|rfl) (fun base => by
      refine n_soft (u := 72) (E := .val (.bool b72)) (b72) rfl rfl rfl (by first|simp only[nf,Nat.beq]<;>rfl|rfl) (by cases b72 <;> first | (intro _; rfl) | (intro h; exact absurd h (by decide))) (by cases b72 <;> first | (intro h; exact absurd h (by decide)) | (intro _; exact ⟨_, rfl, by first | (intro h; cases h; done) | decide | simp⟩)) (fun h => by
          cases b72 with
          | false => exact absurd h (by first | decide | simp)
          | true =>
            refine n_move rfl (by first|simp only[nf,Nat.beq]<;>rfl|rfl) ?_
            exact AOps.nil ⟨rfl, rfl, rfl⟩) (AOps.nil ⟨rfl, rfl, rfl⟩)) ?_
  refine Walk.still (rs := [73, 74, 72]) (by rfl) (by first|simp only[nf,Nat.beq]<;>rfl|rfl) (fun base => by
      refine n_soft (u := 72) (E := .val (.bool b72)) (b72) rfl rfl rfl (by first|simp only[nf,Nat.beq]<;>rfl|rfl) (by cases b72 <;> first | (intro _; rfl) | (intro h; exact absurd h (by decide))) (by cases b72 <;> first | (intro h; exact absurd h (by decide)) | (intro _; exact ⟨_, rfl, by first | (intro h; cases h; done) | decide | simp⟩)) (fun h => by
          cases b72 with
          | false => exact absurd h (by first | decide | simp)
          | true =>
            refine n_ibin rfl (by first|simp only[nf,Nat.beq]<;>rfl|rfl) (by first|simp only[nf,Nat.beq]<;>rfl|rfl) rfl ?_
            exact AOps.nil ⟨rfl, rfl, rfl⟩) (AOps.nil ⟨rfl, rfl, rfl⟩)) ?_
  refine Walk.still (rs := [72, 75]) (by rfl) (by first|simp only[nf,Nat.beq]<;>rfl|rfl) (fun base => by
      refine n_pick_and rfl (by first|simp only[nf,Nat.beq]<;>rfl|rfl) (fun h => by cases b72 with | false => exact absurd h (by decide) | true => exact (by first|simp only[nf,Nat.beq]<;>rfl|rfl)) ?_
      exact AOps.nil ⟨rfl, rfl, rfl⟩) ?_
  refine Walk.still (rs := [76]) (by rfl) (by first|simp only[nf,Nat.beq]<;>rfl|rfl) (fun base => by
      refine n_move rfl (by first|simp only[nf,Nat.beq]<;>rfl|rfl) ?_
      exact AOps.nil ⟨rfl, rfl, rfl⟩) ?_
  refine Walk.name (u := 77) (fun z => .val (.bool z)) (by first|simp only[nf,Nat.beq]<;>rfl|rfl) (fun b77 hb77 => ?_)
  refine Walk.still (rs := [14, 77]) (by rfl) (by first|simp only[nf,Nat.beq]<;>rfl|rfl) (fun base => by
      refine n_soft (u := 77) (E := .val (.bool b77)) (b77) rfl rfl rfl (by first|simp only[nf,Nat.beq]<;>rfl|rfl) (by cases b77 <;> first | (intro _; rfl) | (intro h; exact absurd h (by decide))) (by cases b77 <;> first | (intro h; exact absurd h (by decide)) | (intro _; exact ⟨_, rfl, by first | (intro h; cases h; done) | decide | simp⟩)) (fun h => by
          cases b77 with
          | false => exact absurd h (by first | decide | simp)
          | true =>
            refine n_move rfl (by first|simp only[nf,Nat.beq]<;>rfl|rfl) ?_
            exact AOps.nil ⟨rfl, rfl, rfl⟩) (AOps.nil ⟨rfl, rfl, rfl⟩)) ?_
  refine Walk.still (rs := [16, 77]) (by rfl) (by first|simp only[nf,Nat.beq]<;>rfl|rfl) (fun base => by
      refine n_soft (u := 77) (E := .val (.bool b77)) (b77) rfl rfl rfl (by first|simp only[nf,Nat.beq]<;>rfl|rfl) (by cases b77 <;> first | (intro _; rfl) | (intro h; exact absurd h (by decide))) (by cases b77 <;> first | (intro h; exact absurd h (by decide)) | (intro _; exact ⟨_, rfl, by first | (intro h; cases h; done) | decide | simp⟩)) (fun h => by
          cases b77 with
          | false => exact absurd h (by first | decide | simp)
          | true =>
            refine n_move rfl (by first|simp only[nf,Nat.beq]<;>rfl|rfl) ?_
            exact AOps.nil ⟨rfl, rfl, rfl⟩) (AOps.nil ⟨rfl, rfl, rfl⟩)) ?_
  refine Walk.still (rs := [78, 79, 77]) (by rfl) (by first|simp only[nf,Nat.beq]<;>rfl|rfl) (fun base => by
      refine n_soft (u := 77) (E := .val (.bool b77)) (b77) rfl rfl rfl (by first|simp only[nf,Nat.beq]<;>rfl|rfl) (by cases b77 <;> first | (intro _; rfl) | (intro h; exact absurd h (by decide))) (by cases b77 <;> first | (intro h; exact absurd h (by decide)) | (intro _; exact ⟨_, rfl, by first | (intro h; cases h; done) | decide | simp⟩)) (fun h => by
          cases b77 with
          | false => exact absurd h (by first | decide | simp)
          | true =>
            refine n_ibin rfl (by first|simp only[nf,Nat.beq]<;>rfl|rfl) (by first|simp only[nf,Nat.beq]<;>rfl|rfl) rfl ?_
            exact AOps.nil ⟨rfl, rfl, rfl⟩) (AOps.nil ⟨rfl, rfl, rfl⟩)) ?_
  refine Walk.still (rs := [77, 80]) (by rfl) (by first|simp only[nf,Nat.beq]<;>rfl|rfl) (fun base => by
      refine n_pick_and rfl (by first|simp only[nf,Nat.beq]<;>rfl|rfl) (fun h => by cases b77 with | false => exact absurd h (by decide) | true => exact (by first|simp only[nf,Nat.beq]<;>rfl|rfl)) ?_
      exact AOps.nil ⟨rfl, rfl, rfl⟩) ?_
  refine Walk.still (rs := [81]) (by rfl) (by first|simp only[nf,Nat.beq]<;>rfl|rfl) (fun base => by
      refine n_move rfl (by first|simp only[nf,Nat.beq]<;>rfl|rfl) ?_
      exact AOps.nil ⟨rfl, rfl, rfl⟩) ?_
  refine Walk.name (u := 82) (fun z => .val (.bool z)) (by first|simp only[nf,Nat.beq]<;>rfl|rfl) (fun b82 hb82 => ?_)
  refine Walk.still (rs := [17, 82]) (by rfl) (by first|simp only[nf,Nat.beq]<;>rfl|rfl) (fun base => by
      refine n_soft (u := 82) (E := .val (.bool b82)) (b82) rfl rfl rfl (by first|simp only[nf,Nat.beq]<;>rfl|rfl) (by cases b82 <;> first | (intro _; rfl) | (intro h; exact absurd h (by decide))) (by cases b82 <;> first | (intro h; exact absurd h (by decide)) | (intro _; exact ⟨_, rfl, by first | (intro h; cases h; done) | decide | simp⟩)) (fun h => by
          cases b82 with
          | false => exact absurd h (by first | decide | simp)
          | true =>
            refine n_move rfl (by first|simp only[nf,Nat.beq]<;>rfl|rfl) ?_
            exact AOps.nil ⟨rfl, rfl, rfl⟩) (AOps.nil ⟨rfl, rfl, rfl⟩)) ?_
  refine Walk.still (rs := [19, 82]) (by rfl) (by first|simp only[nf,Nat.beq]<;>rfl|rfl) (fun base => by
      refine n_soft (u := 82) (E := .val (.bool b82)) (b82) rfl rfl rfl (by first|simp only[nf,Nat.beq]<;>rfl|rfl) (by cases b82 <;> first | (intro _; rfl) | (intro h; exact absurd h (by decide))) (by cases b82 <;> first | (intro h; exact absurd h (by decide)) | (intro _; exact ⟨_, rfl, by first | (intro h; cases h; done) | decide | simp⟩)) (fun h => by
          cases b82 with
          | false => exact absurd h (by first | decide | simp)
          | true =>
            refine n_move rfl (by first|simp only[nf,Nat.beq]<;>rfl|rfl) ?_
            exact AOps.nil ⟨rfl, rfl, rfl⟩) (AOps.nil ⟨rfl, rfl, rfl⟩)) ?_
  refine Walk.still (rs := [83, 84, 82]) (by rfl) (by first|simp only[nf,Nat.beq]<;>rfl|rfl) (fun base => by
      refine n_soft (u := 82) (E := .val (.bool b82)) (b82) rfl rfl rfl (by first|simp only[nf,Nat.beq]<;>rfl|rfl) (by cases b82 <;> first | (intro _; rfl) | (intro h; exact absurd h (by decide))) (by cases b82 <;> first | (intro h; exact absurd h (by decide)) | (intro _; exact ⟨_, rfl, by first | (intro h; cases h; done) | decide | simp⟩)) (fun h => by
          cases b82 with
          | false => exact absurd h (by first | decide | simp)
          | true =>
            refine n_ibin rfl (by first|simp only[nf,Nat.beq]<;>rfl|rfl) (by first|simp only[nf,Nat.beq]<;>rfl|rfl) rfl ?_
            exact AOps.nil ⟨rfl, rfl, rfl⟩) (AOps.nil ⟨rfl, rfl, rfl⟩)) ?_
  refine Walk.still (rs := [82, 85]) (by rfl) (by first|simp only[nf,Nat.beq]<;>rfl|rfl) (fun base => by
      refine n_pick_and rfl (by first|simp only[nf,Nat.beq]<;>rfl|rfl) (fun h => by cases b82 with | false => exact absurd h (by decide) | true => exact (by first|simp only[nf,Nat.beq]<;>rfl|rfl)) ?_
      exact AOps.nil ⟨rfl, rfl, rfl⟩) ?_
  refine Walk.still (rs := [86]) (by rfl) (by first|simp only[nf,Nat.beq]<;>rfl|rfl) (fun base => by
      refine n_move rfl (by first|simp only[nf,Nat.beq]<;>rfl|rfl) ?_
      exact AOps.nil ⟨rfl, rfl, rfl⟩) ?_
  refine Walk.name (u := 87) (fun z => .val (.bool z)) (by first|simp only[nf,Nat.beq]<;>rfl|rfl) (fun b87 hb87 => ?_)
  refine Walk.still (rs := [18, 87]) (by rfl) (by first|simp only[nf,Nat.beq]<;>rfl|rfl) (fun base => by
      refine n_soft (u := 87) (E := .val (.bool b87)) (b87) rfl rfl rfl (by first|simp only[nf,Nat.beq]<;>rfl|rfl) (by cases b87 <;> first | (intro _; rfl) | (intro h; exact absurd h (by decide))) (by cases b87 <;> first | (intro h; exact absurd h (by decide)) | (intro _; exact ⟨_, rfl, by first | (intro h; cases h; done) | decide | simp⟩)) (fun h => by
          cases b87 with
          | false => exact absurd h (by first | decide | simp)
          | true =>
            refine n_move rfl (by first|simp only[nf,Nat.beq]<;>rfl|rfl) ?_
            exact AOps.nil ⟨rfl, rfl, rfl⟩) (AOps.nil ⟨rfl, rfl, rfl⟩)) ?_
  refine Walk.still (rs := [20, 87]) (by rfl) (by first|simp only[nf,Nat.beq]<;>rfl|rfl) (fun base => by
      refine n_soft (u := 87) (E := .val (.bool b87)) (b87) rfl rfl rfl (by first|simp only[nf,Nat.beq]<;>rfl|rfl) (by cases b87 <;> first | (intro _; rfl) | (intro h; exact absurd h (by decide))) (by cases b87 <;> first | (intro h; exact absurd h (by decide)) | (intro _; exact ⟨_, rfl, by first | (intro h; cases h; done) | decide | simp⟩)) (fun h => by
          cases b87 with
          | false => exact absurd h (by first | decide | simp)
          | true =>
            refine n_move rfl (by first|simp only[nf,Nat.beq]<;>rfl|rfl) ?_
            exact AOps.nil ⟨rfl, rfl, rfl⟩) (AOps.nil ⟨rfl, rfl, rfl⟩)) ?_
  refine Walk.still (rs := [88, 89, 87]) (by rfl) (by first|simp only[nf,Nat.beq]<;>rfl|rfl) (fun base => by
      refine n_soft (u := 87) (E := .val (.bool b87)) (b87) rfl rfl rfl (by first|simp only[nf,Nat.beq]<;>rfl|rfl) (by cases b87 <;> first | (intro _; rfl) | (intro h; exact absurd h (by decide))) (by cases b87 <;> first | (intro h; exact absurd h (by decide)) | (intro _; exact ⟨_, rfl, by first | (intro h; cases h; done) | decide | simp⟩)) (fun h => by
          cases b87 with
          | false => exact absurd h (by first | decide | simp)
          | true =>
            refine n_ibin rfl (by first|simp only[nf,Nat.beq]<;>rfl|rfl) (by first|simp only[nf,Nat.beq]<;>rfl|rfl) rfl ?_
            exact AOps.nil ⟨rfl, rfl, rfl⟩) (AOps.nil ⟨rfl, rfl, rfl⟩)) ?_
  refine Walk.still (rs := [87, 90]) (by rfl) (by first|simp only[nf,Nat.beq]<;>rfl|rfl) (fun base => by
      refine n_pick_and rfl (by first|simp only[nf,Nat.beq]<;>rfl|rfl) (fun h => by cases b87 with | false => exact absurd h (by decide) | true => exact (by first|simp only[nf,Nat.beq]<;>rfl|rfl)) ?_
      exact AOps.nil ⟨rfl, rfl, rfl⟩) ?_
  refine Walk.still (rs := [91]) (by rfl) (by first|simp only[nf,Nat.beq]<;>rfl|rfl) (fun base => by
      refine n_move rfl (by first|simp only[nf,Nat.beq]<;>rfl|rfl) ?_
      exact AOps.nil ⟨rfl, rfl, rfl⟩) ?_
  refine Walk.name (u := 92) (fun z => .val (.bool z)) (by first|simp only[nf,Nat.beq]<;>rfl|rfl) (fun b92 hb92 => ?_)
  refine Walk.still (rs := [3, 92]) (by rfl) (by first|simp only[nf,Nat.beq]<;>rfl|rfl) (fun base => by
      refine n_soft (u := 92) (E := .val (.bool b92)) (b92) rfl rfl rfl (by first|simp only[nf,Nat.beq]<;>rfl|rfl) (by cases b92 <;> first | (intro _; rfl) | (intro h; exact absurd h (by decide))) (by cases b92 <;> first | (intro h; exact absurd h (by decide)) | (intro _; exact ⟨_, rfl, by first | (intro h; cases h; done) | decide | simp⟩)) (fun h => by
          cases b92 with
          | false => exact absurd h (by first | decide | simp)
          | true =>
            refine n_load rfl ti188 (by first|simp only[nf,Nat.beq]<;>rfl|rfl) (by first|simp only[nf,Nat.beq]<;>rfl|rfl) rfl (by first|simp only[nf,Nat.beq]<;>rfl|rfl) ?_
            exact AOps.nil ⟨rfl, rfl, rfl⟩) (AOps.nil ⟨rfl, rfl, rfl⟩)) ?_
  refine Walk.still (rs := [93, 92]) (by rfl) (by first|simp only[nf,Nat.beq]<;>rfl|rfl) (fun base => by
      refine n_soft (u := 92) (E := .val (.bool b92)) (b92) rfl rfl rfl (by first|simp only[nf,Nat.beq]<;>rfl|rfl) (by cases b92 <;> first | (intro _; rfl) | (intro h; exact absurd h (by decide))) (by cases b92 <;> first | (intro h; exact absurd h (by decide)) | (intro _; exact ⟨_, rfl, by first | (intro h; cases h; done) | decide | simp⟩)) (fun h => by
          cases b92 with
          | false => exact absurd h (by first | decide | simp)
          | true =>
            refine n_call0B rfl cf251 rfl (Eq.trans (by simp only [nl] <;> rfl) (by first|simp only[nf,Nat.beq]<;>rfl|rfl)) (by repeat (first | exact .nil | refine .cons ?_ ?_ | exact ren_ints | exact .lf (.val _) | exact .lf (lf_ints (.inl rfl)) | exact .bp ⟨rfl, rfl⟩ | exact .bp (.inl ⟨rfl, rfl⟩) | exact .bp (.inr ⟨rfl, rfl⟩) | exact .lf (lf_tz _) | exact .lf (.agg (flats_lf rfl)) | exact ren_nil0 | exact .lf (lf_fnrp (lf_cons (.val _) lf_nil)) | exact .lf (.rp (lf_cons (.val _) lf_nil)) | exact .bs ⟨rfl, rfl⟩ | exact .lf (D.flat_lf rfl) | exact ren_map (f := spz) (fun _ => rfl) | exact ren_tz | exact .lf (.fn (fun d h => by cases h) (fun d h => by cases h)) | exact .lf (lf_fnrp (lf_rp1 (f := spz) (fun _ => rfl))) | exact .ro (by intro x hx; simp only [List.mem_cons, List.not_mem_nil, or_false] at hx; rcases hx with rfl | rfl <;> exact flats_lf rfl))) (l_chk _ (by omega)) (by first | exact .val _ | exact lf_ints (.inl rfl) | exact lf_ints (.inr rfl) | exact .any | exact .tup (lf_cons (lf_tz _) (lf_cons (.val _) lf_nil)) | exact lf_nil0 | exact lf_fnrp (lf_cons (.val _) lf_nil) | exact D.flat_lf rfl | exact lf_map (f := spz) (fun _ => rfl) (.inl rfl) | exact lf_tz _ | exact lf_fnrp (lf_rp1 (f := spz) (fun _ => rfl))) ?_
            exact AOps.nil ⟨rfl, rfl, rfl⟩) (AOps.nil ⟨rfl, rfl, rfl⟩)) ?_
  refine Walk.still (rs := [3, 92]) (by rfl) (by first|simp only[nf,Nat.beq]<;>rfl|rfl) (fun base => by
      refine n_soft (u := 92) (E := .val (.bool b92)) (b92) rfl rfl rfl (by first|simp only[nf,Nat.beq]<;>rfl|rfl) (by cases b92 <;> first | (intro _; rfl) | (intro h; exact absurd h (by decide))) (by cases b92 <;> first | (intro h; exact absurd h (by decide)) | (intro _; exact ⟨_, rfl, by first | (intro h; cases h; done) | decide | simp⟩)) (fun h => by
          cases b92 with
          | false => exact absurd h (by first | decide | simp)
          | true =>
            refine n_load rfl ti188 (by first|simp only[nf,Nat.beq]<;>rfl|rfl) (by first|simp only[nf,Nat.beq]<;>rfl|rfl) rfl (by first|simp only[nf,Nat.beq]<;>rfl|rfl) ?_
            exact AOps.nil ⟨rfl, rfl, rfl⟩) (AOps.nil ⟨rfl, rfl, rfl⟩)) ?_
  refine Walk.still (rs := [95, 92]) (by rfl) (by first|simp only[nf,Nat.beq]<;>rfl|rfl) (fun base => by
      refine n_soft (u := 92) (E := .val (.bool b92)) (b92) rfl rfl rfl (by first|simp only[nf,Nat.beq]<;>rfl|rfl) (by cases b92 <;> first | (intro _; rfl) | (intro h; exact absurd h (by decide))) (by cases b92 <;> first | (intro h; exact absurd h (by decide)) | (intro _; exact ⟨_, rfl, by first | (intro h; cases h; done) | decide | simp⟩)) (fun h => by
          cases b92 with
          | false => exact absurd h (by first | decide | simp)
          | true =>
            refine n_call0B rfl cf146 rfl (Eq.trans (by simp only [nl] <;> rfl) (by first|simp only[nf,Nat.beq]<;>rfl|rfl)) (by repeat (first | exact .nil | refine .cons ?_ ?_ | exact ren_ints | exact .lf (.val _) | exact .lf (lf_ints (.inl rfl)) | exact .bp ⟨rfl, rfl⟩ | exact .bp (.inl ⟨rfl, rfl⟩) | exact .bp (.inr ⟨rfl, rfl⟩) | exact .lf (lf_tz _) | exact .lf (.agg (flats_lf rfl)) | exact ren_nil0 | exact .lf (lf_fnrp (lf_cons (.val _) lf_nil)) | exact .lf (.rp (lf_cons (.val _) lf_nil)) | exact .bs ⟨rfl, rfl⟩ | exact .lf (D.flat_lf rfl) | exact ren_map (f := spz) (fun _ => rfl) | exact ren_tz | exact .lf (.fn (fun d h => by cases h) (fun d h => by cases h)) | exact .lf (lf_fnrp (lf_rp1 (f := spz) (fun _ => rfl))) | exact .ro (by intro x hx; simp only [List.mem_cons, List.not_mem_nil, or_false] at hx; rcases hx with rfl | rfl <;> exact flats_lf rfl))) (r_chk _ (by omega)) (by first | exact .val _ | exact lf_ints (.inl rfl) | exact lf_ints (.inr rfl) | exact .any | exact .tup (lf_cons (lf_tz _) (lf_cons (.val _) lf_nil)) | exact lf_nil0 | exact lf_fnrp (lf_cons (.val _) lf_nil) | exact D.flat_lf rfl | exact lf_map (f := spz) (fun _ => rfl) (.inl rfl) | exact lf_tz _ | exact lf_fnrp (lf_rp1 (f := spz) (fun _ => rfl))) ?_
            exact AOps.nil ⟨rfl, rfl, rfl⟩) (AOps.nil ⟨rfl, rfl, rfl⟩)) ?_
  refine Walk.still (rs := [94, 96, 92]) (by rfl) (by first|simp only[nf,Nat.beq]<;>rfl|rfl) (fun base => by
      refine n_soft (u := 92) (E := .val (.bool b92)) (b92) rfl rfl rfl (by first|simp only[nf,Nat.beq]<;>rfl|rfl) (by cases b92 <;> first | (intro _; rfl) | (intro h; exact absurd h (by decide))) (by cases b92 <;> first | (intro h; exact absurd h (by decide)) | (intro _; exact ⟨_, rfl, by first | (intro h; cases h; done) | decide | simp⟩)) (fun h => by
          cases b92 with
          | false => exact absurd h (by first | decide | simp)
          | true =>
            refine n_ibin rfl (by first|simp only[nf,Nat.beq]<;>rfl|rfl) (by first|simp only[nf,Nat.beq]<;>rfl|rfl) rfl ?_
            exact AOps.nil ⟨rfl, rfl, rfl⟩) (AOps.nil ⟨rfl, rfl, rfl⟩)) ?_
  refine Walk.still (rs := [92, 97]) (by rfl) (by first|simp only[nf,Nat.beq]<;>rfl|rfl) (fun base => by
      refine n_pick_and rfl (by first|simp only[nf,Nat.beq]<;>rfl|rfl) (fun h => by cases b92 with | false => exact absurd h (by decide) | true => exact (by first|simp only[nf,Nat.beq]<;>rfl|rfl)) ?_
      exact AOps.nil ⟨rfl, rfl, rfl⟩) ?_
  refine Walk.still (rs := [98]) (by rfl) (by first|simp only[nf,Nat.beq]<;>rfl|rfl) (fun base => by
      refine n_move rfl (by first|simp only[nf,Nat.beq]<;>rfl|rfl) ?_
      exact AOps.nil ⟨rfl, rfl, rfl⟩) ?_
  refine Walk.name (u := 99) (fun z => .val (.bool z)) (by first|simp only[nf,Nat.beq]<;>rfl|rfl) (fun b99 hb99 => ?_)
  refine Walk.still (rs := [3, 99]) (by rfl) (by first|simp only[nf,Nat.beq]<;>rfl|rfl) (fun base => by
      refine n_soft (u := 99) (E := .val (.bool b99)) (b99) rfl rfl rfl (by first|simp only[nf,Nat.beq]<;>rfl|rfl) (by cases b99 <;> first | (intro _; rfl) | (intro h; exact absurd h (by decide))) (by cases b99 <;> first | (intro h; exact absurd h (by decide)) | (intro _; exact ⟨_, rfl, by first | (intro h; cases h; done) | decide | simp⟩)) (fun h => by
          cases b99 with
          | false => exact absurd h (by first | decide | simp)
          | true =>
            refine n_load rfl ti188 (by first|simp only[nf,Nat.beq]<;>rfl|rfl) (by first|simp only[nf,Nat.beq]<;>rfl|rfl) rfl (by first|simp only[nf,Nat.beq]<;>rfl|rfl) ?_
            exact AOps.nil ⟨rfl, rfl, rfl⟩) (AOps.nil ⟨rfl, rfl, rfl⟩)) ?_
  refine Walk.still (rs := [100, 99]) (by rfl) (by first|simp only[nf,Nat.beq]<;>rfl|rfl) (fun base => by
      refine n_soft (u := 99) (E := .val (.bool b99)) (b99) rfl rfl rfl (by first|simp only[nf,Nat.beq]<;>rfl|rfl) (by cases b99 <;> first | (intro _; rfl) | (intro h; exact absurd h (by decide))) (by cases b99 <;> first | (intro h; exact absurd h (by decide)) | (intro _; exact ⟨_, rfl, by first | (intro h; cases h; done) | decide | simp⟩)) (fun h => by
          cases b99 with
          | false => exact absurd h (by first | decide | simp)
          | true =>
            refine n_call0B rfl cf246 rfl (Eq.trans (by simp only [nl] <;> rfl) (by first|simp only[nf,Nat.beq]<;>rfl|rfl)) (by repeat (first | exact .nil | refine .cons ?_ ?_ | exact ren_ints | exact .lf (.val _) | exact .lf (lf_ints (.inl rfl)) | exact .bp ⟨rfl, rfl⟩ | exact .bp (.inl ⟨rfl, rfl⟩) | exact .bp (.inr ⟨rfl, rfl⟩) | exact .lf (lf_tz _) | exact .lf (.agg (flats_lf rfl)) | exact ren_nil0 | exact .lf (lf_fnrp (lf_cons (.val _) lf_nil)) | exact .lf (.rp (lf_cons (.val _) lf_nil)) | exact .bs ⟨rfl, rfl⟩ | exact .lf (D.flat_lf rfl) | exact ren_map (f := spz) (fun _ => rfl) | exact ren_tz | exact .lf (.fn (fun d h => by cases h) (fun d h => by cases h)) | exact .lf (lf_fnrp (lf_rp1 (f := spz) (fun _ => rfl))) | exact .ro (by intro x hx; simp only [List.mem_cons, List.not_mem_nil, or_false] at hx; rcases hx with rfl | rfl <;> exact flats_lf rfl))) (l_begin _ (by omega)) (by first | exact .val _ | exact lf_ints (.inl rfl) | exact lf_ints (.inr rfl) | exact .any | exact .tup (lf_cons (lf_tz _) (lf_cons (.val _) lf_nil)) | exact lf_nil0 | exact lf_fnrp (lf_cons (.val _) lf_nil) | exact D.flat_lf rfl | exact lf_map (f := spz) (fun _ => rfl) (.inl rfl) | exact lf_tz _ | exact lf_fnrp (lf_rp1 (f := spz) (fun _ => rfl))) ?_
            exact AOps.nil ⟨rfl, rfl, rfl⟩) (AOps.nil ⟨rfl, rfl, rfl⟩)) ?_
  refine Walk.still (rs := [3, 99]) (by rfl) (by first|simp only[nf,Nat.beq]<;>rfl|rfl) (fun base => by
      refine n_soft (u := 99) (E := .val (.bool b99)) (b99) rfl rfl rfl (by first|simp only[nf,Nat.beq]<;>rfl|rfl) (by cases b99 <;> first | (intro _; rfl) | (intro h; exact absurd h (by decide))) (by cases b99 <;> first | (intro h; exact absurd h (by decide)) | (intro _; exact ⟨_, rfl, by first | (intro h; cases h; done) | decide | simp⟩)) (fun h => by
          cases b99 with
          | false => exact absurd h (by first | decide | simp)
          | true =>
            refine n_load rfl ti188 (by first|simp only[nf,Nat.beq]<;>rfl|rfl) (by first|simp only[nf,Nat.beq]<;>rfl|rfl) rfl (by first|simp only[nf,Nat.beq]<;>rfl|rfl) ?_
            exact AOps.nil ⟨rfl, rfl, rfl⟩) (AOps.nil ⟨rfl, rfl, rfl⟩)) ?_
  refine Walk.still (rs := [102, 99]) (by rfl) (by first|simp only[nf,Nat.beq]<;>rfl|rfl) (fun base => by
      refine n_soft (u := 99) (E := .val (.bool b99)) (b99) rfl rfl rfl (by first|simp only[nf,Nat.beq]<;>rfl|rfl) (by cases b99 <;> first | (intro _; rfl) | (intro h; exact absurd h (by decide))) (by cases b99 <;> first | (intro h; exact absurd h (by decide)) | (intro _; exact ⟨_, rfl, by first | (intro h; cases h; done) | decide | simp⟩)) (fun h => by
          cases b99 with
          | false => exact absurd h (by first | decide | simp)
          | true =>
            refine n_call0B rfl cf145 rfl (Eq.trans (by simp only [nl] <;> rfl) (by first|simp only[nf,Nat.beq]<;>rfl|rfl)) (by repeat (first | exact .nil | refine .cons ?_ ?_ | exact ren_ints | exact .lf (.val _) | exact .lf (lf_ints (.inl rfl)) | exact .bp ⟨rfl, rfl⟩ | exact .bp (.inl ⟨rfl, rfl⟩) | exact .bp (.inr ⟨rfl, rfl⟩) | exact .lf (lf_tz _) | exact .lf (.agg (flats_lf rfl)) | exact ren_nil0 | exact .lf (lf_fnrp (lf_cons (.val _) lf_nil)) | exact .lf (.rp (lf_cons (.val _) lf_nil)) | exact .bs ⟨rfl, rfl⟩ | exact .lf (D.flat_lf rfl) | exact ren_map (f := spz) (fun _ => rfl) | exact ren_tz | exact .lf (.fn (fun d h => by cases h) (fun d h => by cases h)) | exact .lf (lf_fnrp (lf_rp1 (f := spz) (fun _ => rfl))) | exact .ro (by intro x hx; simp only [List.mem_cons, List.not_mem_nil, or_false] at hx; rcases hx with rfl | rfl <;> exact flats_lf rfl))) (r_begin _ (by omega)) (by first | exact .val _ | exact lf_ints (.inl rfl) | exact lf_ints (.inr rfl) | exact .any | exact .tup (lf_cons (lf_tz _) (lf_cons (.val _) lf_nil)) | exact lf_nil0 | exact lf_fnrp (lf_cons (.val _) lf_nil) | exact D.flat_lf rfl | exact lf_map (f := spz) (fun _ => rfl) (.inl rfl) | exact lf_tz _ | exact lf_fnrp (lf_rp1 (f := spz) (fun _ => rfl))) ?_
            exact AOps.nil ⟨rfl, rfl, rfl⟩) (AOps.nil ⟨rfl, rfl, rfl⟩)) ?_
  refine Walk.still (rs := [101, 103, 99]) (by rfl) (by first|simp only[nf,Nat.beq]<;>rfl|rfl) (fun base => by
      refine n_soft (u := 99) (E := .val (.bool b99)) (b99) rfl rfl rfl (by first|simp only[nf,Nat.beq]<;>rfl|rfl) (by cases b99 <;> first | (intro _; rfl) | (intro h; exact absurd h (by decide))) (by cases b99 <;> first | (intro h; exact absurd h (by decide)) | (intro _; exact ⟨_, rfl, by first | (intro h; cases h; done) | decide | simp⟩)) (fun h => by
          cases b99 with
          | false => exact absurd h (by first | decide | simp)
          | true =>
            refine n_ibin rfl (by first|simp only[nf,Nat.beq]<;>rfl|rfl) (by first|simp only[nf,Nat.beq]<;>rfl|rfl) rfl ?_
            exact AOps.nil ⟨rfl, rfl, rfl⟩) (AOps.nil ⟨rfl, rfl, rfl⟩)) ?_
  refine Walk.still (rs := [99, 104]) (by rfl) (by first|simp only[nf,Nat.beq]<;>rfl|rfl) (fun base => by
      refine n_pick_and rfl (by first|simp only[nf,Nat.beq]<;>rfl|rfl) (fun h => by cases b99 with | false => exact absurd h (by decide) | true => exact (by first|simp only[nf,Nat.beq]<;>rfl|rfl)) ?_
      exact AOps.nil ⟨rfl, rfl, rfl⟩) ?_
  refine Walk.still (rs := [105]) (by rfl) (by first|simp only[nf,Nat.beq]<;>rfl|rfl) (fun base => by
      refine n_assign rfl (by first|simp only[nf,Nat.beq]<;>rfl|rfl) ?_
      exact AOps.nil ⟨rfl, rfl, rfl⟩) ?_
  subst hb62
  subst hb67
  subst hb72
  subst hb77
  subst hb82
  subst hb87
  subst hb92
  subst hb99
  refine Walk.done ?_
  refine AWP.ret ?_
  refine fin_pure (.cons (rv_tmp (by first|simp only[nf,Nat.beq]<;>rfl|rfl)) .nil) (by first|simp only[nf,Nat.beq]<;>rfl|rfl) ?_
  first | exact ren_flat rfl rfl | exact ren_flat rfl (congrArg vb (by simp))

set_option maxHeartbeats 2000000 in
theorem does (t : Tb) (o : Opr) (hl : t.l.length ≤ 1048576) (ho : okO o) : Does Try.prog 165 [tz t, .agg (oz o)] [] (.tup [tz (t.doT o), vb true]) [] := by
  refine Does.of_body (rvs := [.cell 4 188, .tmp 5]) Try.func165 rfl rfl rfl rfl ?_
  have hsm := r_same (t.doT o) (doT_len t o)
  refine AWP.seq ?_
  refine AWP.region ?_
  refine n_box rfl (by first|simp only[nf,Nat.beq]<;>rfl|rfl) rfl rfl (by first|simp only[nf,Nat.beq]<;>rfl|rfl) (by first|simp only[nf,Nat.beq]<;>rfl|rfl) ?_
  refine n_box rfl (by first|simp only[nf,Nat.beq]<;>rfl|rfl) rfl rfl (by first|simp only[nf,Nat.beq]<;>rfl|rfl) (by first|simp only[nf,Nat.beq]<;>rfl|rfl) ?_
  refine n_alloc rfl zi188 rfl (by first|simp only[nf,Nat.beq]<;>rfl|rfl) (by first|simp only[nf,Nat.beq]<;>rfl|rfl) ?_
  refine n_assign rfl (by first|simp only[nf,Nat.beq]<;>rfl|rfl) ?_
  refine AOps.nil ?_
  refine AWP.seq ?_
  refine AWP.region ?_
  refine n_alloc rfl zi188 rfl (by first|simp only[nf,Nat.beq]<;>rfl|rfl) (by first|simp only[nf,Nat.beq]<;>rfl|rfl) ?_
  refine n_alloc rfl zi188 rfl (by first|simp only[nf,Nat.beq]<;>rfl|rfl) (by first|simp only[nf,Nat.beq]<;>rfl|rfl) ?_
  refine AOps.nil ?_
  refine AWP.seq ?_
  refine AWP.region ?_
  refine n_assign rfl (by first|simp only[nf,Nat.beq]<;>rfl|rfl) ?_
  refine n_assign rfl (by first|simp only[nf,Nat.beq]<;>rfl|rfl) ?_
  refine AOps.nil ?_
  refine AWP.seq ?_
  refine AWP.seq ?_
  refine AWP.region ?_
  refine n_fieldAddr rfl fd230_0 ti3 rfl (by first|simp only[nf,Nat.beq]<;>rfl|rfl) rfl (by first|simp only[nf,Nat.beq]<;>rfl|rfl) ?_
  refine n_load rfl ti3 (by first|simp only[nf,Nat.beq]<;>rfl|rfl) (by first|simp only[nf,Nat.beq]<;>rfl|rfl) rfl (by first|simp only[nf,Nat.beq]<;>rfl|rfl) ?_
  refine AOps.nil ?_
  refine AWP.block ?_
  refine AWP.seq ?_
  refine AWP.region ?_
  refine n_ibin rfl (by first|simp only[nf,Nat.beq]<;>rfl|rfl) (by first|simp only[nf,Nat.beq]<;>rfl|rfl) rfl ?_
  refine n_assign rfl (by first|simp only[nf,Nat.beq]<;>rfl|rfl) ?_
  refine AOps.nil ?_
  refine AWP.cond (by first|simp only[nf,Nat.beq]<;>rfl|rfl) (fun hc1 => ?_) (fun hc1 => ?_)
  · try simp only [nh] at hc1
    have hd : t.doT o = t.may.addT o.e o.r o.x := by unfold doT; rw [if_pos hc1]
    have hx1 := l_add t o.e o.r o.x hl ho.1
    have hx2 := r_add t o.e o.r o.x hl ho.1
    rw [← hd] at hx1 hx2
    refine AWP.seq ?_
    refine AWP.region ?_
    refine n_load rfl ti188 (by first|simp only[nf,Nat.beq]<;>rfl|rfl) (by first|simp only[nf,Nat.beq]<;>rfl|rfl) rfl (by first|simp only[nf,Nat.beq]<;>rfl|rfl) ?_
    refine n_fieldAddr rfl fd230_1 ti2 rfl (by first|simp only[nf,Nat.beq]<;>rfl|rfl) rfl (by first|simp only[nf,Nat.beq]<;>rfl|rfl) ?_
    refine n_load rfl ti2 (by first|simp only[nf,Nat.beq]<;>rfl|rfl) (by first|simp only[nf,Nat.beq]<;>rfl|rfl) rfl (by first|simp only[nf,Nat.beq]<;>rfl|rfl) ?_
    refine n_fieldAddr rfl fd230_2 ti3 rfl (by first|simp only[nf,Nat.beq]<;>rfl|rfl) rfl (by first|simp only[nf,Nat.beq]<;>rfl|rfl) ?_
    refine n_load rfl ti3 (by first|simp only[nf,Nat.beq]<;>rfl|rfl) (by first|simp only[nf,Nat.beq]<;>rfl|rfl) rfl (by first|simp only[nf,Nat.beq]<;>rfl|rfl) ?_
    refine n_fieldAddr rfl fd230_3 ti2 rfl (by first|simp only[nf,Nat.beq]<;>rfl|rfl) rfl (by first|simp only[nf,Nat.beq]<;>rfl|rfl) ?_
    refine n_load rfl ti2 (by first|simp only[nf,Nat.beq]<;>rfl|rfl) (by first|simp only[nf,Nat.beq]<;>rfl|rfl) rfl (by first|simp only[nf,Nat.beq]<;>rfl|rfl) ?_
    refine n_call0B rfl cf223 rfl (Eq.trans (by simp only [nl] <;> rfl) (by first|simp only[nf,Nat.beq]<;>rfl|rfl)) (by repeat (first | exact .nil | refine .cons ?_ ?_ | exact ren_ints | exact .lf (.val _) | exact .lf (lf_ints (.inl rfl)) | exact .bp ⟨rfl, rfl⟩ | exact .bp (.inl ⟨rfl, rfl⟩) | exact .bp (.inr ⟨rfl, rfl⟩) | exact .lf (lf_tz _) | exact .lf (.agg (flats_lf rfl)) | exact ren_nil0 | exact .lf (lf_fnrp (lf_cons (.val _) lf_nil)) | exact .lf (.rp (lf_cons (.val _) lf_nil)) | exact .bs ⟨rfl, rfl⟩ | exact .lf (D.flat_lf rfl) | exact ren_map (f := spz) (fun _ => rfl) | exact ren_tz | exact .lf (.fn (fun d h => by cases h) (fun d h => by cases h)) | exact .lf (lf_fnrp (lf_rp1 (f := spz) (fun _ => rfl))) | exact .ro (by intro x hx; simp only [List.mem_cons, List.not_mem_nil, or_false] at hx; rcases hx with rfl | rfl <;> exact flats_lf rfl))) (hx1) (by first | exact .val _ | exact lf_ints (.inl rfl) | exact lf_ints (.inr rfl) | exact .any | exact .tup (lf_cons (lf_tz _) (lf_cons (.val _) lf_nil)) | exact lf_nil0 | exact lf_fnrp (lf_cons (.val _) lf_nil) | exact D.flat_lf rfl | exact lf_map (f := spz) (fun _ => rfl) (.inl rfl) | exact lf_tz _ | exact lf_fnrp (lf_rp1 (f := spz) (fun _ => rfl))) ?_
    refine n_move rfl (by first|simp only[nf,Nat.beq]<;>rfl|rfl) ?_
    refine n_extract rfl (by first|simp only[nf,Nat.beq]<;>rfl|rfl) rfl ?_
    refine n_extract rfl (by first|simp only[nf,Nat.beq]<;>rfl|rfl) rfl ?_
    refine n_store ti188 (by first|simp only[nf,Nat.beq]<;>rfl|rfl) rfl (by first|simp only[nf,Nat.beq]<;>rfl|rfl) rfl (by first|simp only[nf,Nat.beq]<;>rfl|rfl) rfl rfl rfl (by first|simp only[nf,Nat.beq]<;>rfl|rfl) ?_
    refine n_assign rfl (by first|simp only[nf,Nat.beq]<;>rfl|rfl) ?_
    refine AOps.nil ?_
    refine AWP.region ?_
    refine n_load rfl ti188 (by first|simp only[nf,Nat.beq]<;>rfl|rfl) (by first|simp only[nf,Nat.beq]<;>rfl|rfl) rfl (by first|simp only[nf,Nat.beq]<;>rfl|rfl) ?_
    refine n_fieldAddr rfl fd230_1 ti2 rfl (by first|simp only[nf,Nat.beq]<;>rfl|rfl) rfl (by first|simp only[nf,Nat.beq]<;>rfl|rfl) ?_
    refine n_load rfl ti2 (by first|simp only[nf,Nat.beq]<;>rfl|rfl) (by first|simp only[nf,Nat.beq]<;>rfl|rfl) rfl (by first|simp only[nf,Nat.beq]<;>rfl|rfl) ?_
    refine n_fieldAddr rfl fd230_2 ti3 rfl (by first|simp only[nf,Nat.beq]<;>rfl|rfl) rfl (by first|simp only[nf,Nat.beq]<;>rfl|rfl) ?_
    refine n_load rfl ti3 (by first|simp only[nf,Nat.beq]<;>rfl|rfl) (by first|simp only[nf,Nat.beq]<;>rfl|rfl) rfl (by first|simp only[nf,Nat.beq]<;>rfl|rfl) ?_
    refine n_fieldAddr rfl fd230_3 ti2 rfl (by first|simp only[nf,Nat.beq]<;>rfl|rfl) rfl (by first|simp only[nf,Nat.beq]<;>rfl|rfl) ?_
    refine n_load rfl ti2 (by first|simp only[nf,Nat.beq]<;>rfl|rfl) (by first|simp only[nf,Nat.beq]<;>rfl|rfl) rfl (by first|simp only[nf,Nat.beq]<;>rfl|rfl) ?_
    refine n_call0B rfl cf252 rfl (Eq.trans (by simp only [nl] <;> rfl) (by first|simp only[nf,Nat.beq]<;>rfl|rfl)) (by repeat (first | exact .nil | refine .cons ?_ ?_ | exact ren_ints | exact .lf (.val _) | exact .lf (lf_ints (.inl rfl)) | exact .bp ⟨rfl, rfl⟩ | exact .bp (.inl ⟨rfl, rfl⟩) | exact .bp (.inr ⟨rfl, rfl⟩) | exact .lf (lf_tz _) | exact .lf (.agg (flats_lf rfl)) | exact ren_nil0 | exact .lf (lf_fnrp (lf_cons (.val _) lf_nil)) | exact .lf (.rp (lf_cons (.val _) lf_nil)) | exact .bs ⟨rfl, rfl⟩ | exact .lf (D.flat_lf rfl) | exact ren_map (f := spz) (fun _ => rfl) | exact ren_tz | exact .lf (.fn (fun d h => by cases h) (fun d h => by cases h)) | exact .lf (lf_fnrp (lf_rp1 (f := spz) (fun _ => rfl))) | exact .ro (by intro x hx; simp only [List.mem_cons, List.not_mem_nil, or_false] at hx; rcases hx with rfl | rfl <;> exact flats_lf rfl))) (hx2) (by first | exact .val _ | exact lf_ints (.inl rfl) | exact lf_ints (.inr rfl) | exact .any | exact .tup (lf_cons (lf_tz _) (lf_cons (.val _) lf_nil)) | exact lf_nil0 | exact lf_fnrp (lf_cons (.val _) lf_nil) | exact D.flat_lf rfl | exact lf_map (f := spz) (fun _ => rfl) (.inl rfl) | exact lf_tz _ | exact lf_fnrp (lf_rp1 (f := spz) (fun _ => rfl))) ?_
    refine n_move rfl (by first|simp only[nf,Nat.beq]<;>rfl|rfl) ?_
    refine n_extract rfl (by first|simp only[nf,Nat.beq]<;>rfl|rfl) rfl ?_
    refine n_extract rfl (by first|simp only[nf,Nat.beq]<;>rfl|rfl) rfl ?_
    refine n_store ti188 (by first|simp only[nf,Nat.beq]<;>rfl|rfl) rfl (by first|simp only[nf,Nat.beq]<;>rfl|rfl) rfl (by first|simp only[nf,Nat.beq]<;>rfl|rfl) rfl rfl rfl (by first|simp only[nf,Nat.beq]<;>rfl|rfl) ?_
    refine n_assign rfl (by first|simp only[nf,Nat.beq]<;>rfl|rfl) ?_
    refine AOps.nil ?_
    refine AWP.seq ?_
    refine AWP.any1 9 [.box [(.sl none (t.l.map spz) .ro), vi t.n], .box (oz o), .box [.sl none ((t.doT o).l.map spz) .ro, vi (t.doT o).n], .box [.sl none ((t.doT o).l.map spz) .ro, vi (t.doT o).n], .box [.sl none ((t.doT o).l.map spz) .ro, vi (t.doT o).n]] (by kernel_rfl) (by kernel_rfl) (by kernel_rfl) ?_
    refine Walk.ahead [9] (by rfl) (by kernel_rfl) (by rfl) (rs := [6]) (by rfl) (by first|simp only[nf,Nat.beq]<;>rfl|rfl) (fun base => by
        refine n_load rfl ti188 (by first|simp only[nf,Nat.beq]<;>rfl|rfl) (by first|simp only[nf,Nat.beq]<;>rfl|rfl) rfl (by first|simp only[nf,Nat.beq]<;>rfl|rfl) ?_
        exact AOps.nil ⟨rfl, rfl, rfl⟩) ?_
    refine Walk.ahead [3, 4, 9] (by rfl) (by kernel_rfl) (by rfl) (rs := [6]) (by rfl) (by first|simp only[nf,Nat.beq]<;>rfl|rfl) (fun base => by
        refine n_load rfl ti188 (by first|simp only[nf,Nat.beq]<;>rfl|rfl) (by first|simp only[nf,Nat.beq]<;>rfl|rfl) rfl (by first|simp only[nf,Nat.beq]<;>rfl|rfl) ?_
        exact AOps.nil ⟨rfl, rfl, rfl⟩) ?_
    refine Walk.ahead [3, 4, 9] (by rfl) (by kernel_rfl) (by rfl) (rs := [7]) (by rfl) (by first|simp only[nf,Nat.beq]<;>rfl|rfl) (fun base => by
        refine n_load rfl ti188 (by first|simp only[nf,Nat.beq]<;>rfl|rfl) (by first|simp only[nf,Nat.beq]<;>rfl|rfl) rfl (by first|simp only[nf,Nat.beq]<;>rfl|rfl) ?_
        exact AOps.nil ⟨rfl, rfl, rfl⟩) ?_
    refine Walk.ahead [4, 9] (by rfl) (by kernel_rfl) (by rfl) (rs := [67, 68]) (by rfl) (by first|simp only[nf,Nat.beq]<;>rfl|rfl) (fun base => by
        refine n_call0B rfl cf162 rfl (Eq.trans (by simp only [nl] <;> rfl) (by first|simp only[nf,Nat.beq]<;>rfl|rfl)) (by repeat (first | exact .nil | refine .cons ?_ ?_ | exact ren_ints | exact .lf (.val _) | exact .lf (lf_ints (.inl rfl)) | exact .bp ⟨rfl, rfl⟩ | exact .bp (.inl ⟨rfl, rfl⟩) | exact .bp (.inr ⟨rfl, rfl⟩) | exact .lf (lf_tz _) | exact .lf (.agg (flats_lf rfl)) | exact ren_nil0 | exact .lf (lf_fnrp (lf_cons (.val _) lf_nil)) | exact .lf (.rp (lf_cons (.val _) lf_nil)) | exact .bs ⟨rfl, rfl⟩ | exact .lf (D.flat_lf rfl) | exact ren_map (f := spz) (fun _ => rfl) | exact ren_tz | exact .lf (.fn (fun d h => by cases h) (fun d h => by cases h)) | exact .lf (lf_fnrp (lf_rp1 (f := spz) (fun _ => rfl))) | exact .ro (by intro x hx; simp only [List.mem_cons, List.not_mem_nil, or_false] at hx; rcases hx with rfl | rfl <;> exact flats_lf rfl))) (hsm) (by first | exact .val _ | exact lf_ints (.inl rfl) | exact lf_ints (.inr rfl) | exact .any | exact .tup (lf_cons (lf_tz _) (lf_cons (.val _) lf_nil)) | exact lf_nil0 | exact lf_fnrp (lf_cons (.val _) lf_nil) | exact D.flat_lf rfl | exact lf_map (f := spz) (fun _ => rfl) (.inl rfl) | exact lf_tz _ | exact lf_fnrp (lf_rp1 (f := spz) (fun _ => rfl))) ?_
        exact AOps.nil ⟨rfl, rfl, rfl⟩) ?_
    refine Walk.ahead [9] (by rfl) (by kernel_rfl) (by rfl) (rs := [69]) (by rfl) (by first|simp only[nf,Nat.beq]<;>rfl|rfl) (fun base => by
        refine n_move rfl (by first|simp only[nf,Nat.beq]<;>rfl|rfl) ?_
        exact AOps.nil ⟨rfl, rfl, rfl⟩) ?_
    refine Walk.name (u := 70) (fun z => .val (.bool z)) (by first|simp only[nf,Nat.beq]<;>rfl|rfl) (fun b70 hb70 => ?_)
    refine Walk.both (by rfl) (rs := [8, 70]) (by rfl) (by first|simp only[nf,Nat.beq]<;>rfl|rfl) (fun base S' hS' => by
        rcases hS' with rfl | rfl
        all_goals
          refine n_soft (u := 70) (E := .val (.bool b70)) (b70) rfl rfl rfl (by first|simp only[nf,Nat.beq]<;>rfl|rfl) (by cases b70 <;> first | (intro _; rfl) | (intro h; exact absurd h (by decide))) (by cases b70 <;> first | (intro h; exact absurd h (by decide)) | (intro _; exact ⟨_, rfl, by first | (intro h; cases h; done) | decide | simp⟩)) (fun h => by
              cases b70 with
              | false => exact absurd h (by first | decide | simp)
              | true =>
                refine n_move rfl (by first|simp only[nf,Nat.beq]<;>rfl|rfl) ?_
                exact AOps.nil ⟨rfl, rfl, rfl⟩) (AOps.nil ⟨rfl, rfl, rfl⟩)) ?_
    refine Walk.both (by rfl) (rs := [9, 70]) (by rfl) (by first|simp only[nf,Nat.beq]<;>rfl|rfl) (fun base S' hS' => by
        rcases hS' with rfl | rfl
        all_goals
          refine n_soft (u := 70) (E := .val (.bool b70)) (b70) rfl rfl rfl (by first|simp only[nf,Nat.beq]<;>rfl|rfl) (by cases b70 <;> first | (intro _; rfl) | (intro h; exact absurd h (by decide))) (by cases b70 <;> first | (intro h; exact absurd h (by decide)) | (intro _; exact ⟨_, rfl, by first | (intro h; cases h; done) | decide | simp⟩)) (fun h => by
              cases b70 with
              | false => exact absurd h (by first | decide | simp)
              | true =>
                refine n_move rfl (by first|simp only[nf,Nat.beq]<;>rfl|rfl) ?_
                exact AOps.nil ⟨rfl, rfl, rfl⟩) (AOps.nil ⟨rfl, rfl, rfl⟩)) ?_
    refine Walk.both (by rfl) (rs := [71, 72, 70]) (by rfl) (by first|simp only[nf,Nat.beq]<;>rfl|rfl) (fun base S' hS' => by
        rcases hS' with rfl | rfl
        all_goals
          refine n_soft (u := 70) (E := .val (.bool b70)) (b70) rfl rfl rfl (by first|simp only[nf,Nat.beq]<;>rfl|rfl) (by cases b70 <;> first | (intro _; rfl) | (intro h; exact absurd h (by decide))) (by cases b70 <;> first | (intro h; exact absurd h (by decide)) | (intro _; exact ⟨_, rfl, by first | (intro h; cases h; done) | decide | simp⟩)) (fun h => by
              cases b70 with
              | false => exact absurd h (by first | decide | simp)
              | true =>
                refine n_ibin rfl (by first|simp only[nf,Nat.beq]<;>rfl|rfl) (by first|simp only[nf,Nat.beq]<;>rfl|rfl) rfl ?_
                exact AOps.nil ⟨rfl, rfl, rfl⟩) (AOps.nil ⟨rfl, rfl, rfl⟩)) ?_
    refine Walk.both (by rfl) (rs := [70, 73]) (by rfl) (by first|simp only[nf,Nat.beq]<;>rfl|rfl) (fun base S' hS' => by
        rcases hS' with rfl | rfl
        all_goals
          refine n_pick_and rfl (by first|simp only[nf,Nat.beq]<;>rfl|rfl) (fun h => by cases b70 with | false => exact absurd h (by decide) | true => exact (by first|simp only[nf,Nat.beq]<;>rfl|rfl)) ?_
          exact AOps.nil ⟨rfl, rfl, rfl⟩) ?_
    refine Walk.writes (d := .any) (by rfl) (rs := [4, 66]) (by rfl) (by first|simp only[nf,Nat.beq]<;>rfl|rfl) (fun base => by
        refine n_store ti188 (by first|simp only[nf,Nat.beq]<;>rfl|rfl) rfl (by first|simp only[nf,Nat.beq]<;>rfl|rfl) rfl (by first|simp only[nf,Nat.beq]<;>rfl|rfl) rfl rfl rfl (by first|simp only[nf,Nat.beq]<;>rfl|rfl) ?_
        exact AOps.nil ⟨rfl, rfl, rfl⟩) ?_
    refine Walk.behind [10] (by rfl) (by rfl) (by kernel_rfl) (by rfl) (rs := [74]) (by rfl) (by first|simp only[nf,Nat.beq]<;>rfl|rfl) (fun base => by
        refine n_assign rfl (by first|simp only[nf,Nat.beq]<;>rfl|rfl) ?_
        exact AOps.nil ⟨rfl, rfl, rfl⟩) ?_
    subst hb70
    refine Walk.done ?_
    refine AWP.ret ?_
    refine fin_pure (.cons (rv_cell ti188 (by first|simp only[nf,Nat.beq]<;>rfl|rfl) (by first|simp only[nf,Nat.beq]<;>rfl|rfl) rfl (by first|simp only[nf,Nat.beq]<;>rfl|rfl)) (.cons (rv_tmp (by first|simp only[nf,Nat.beq]<;>rfl|rfl)) .nil)) (by first|simp only[nf,Nat.beq]<;>rfl|rfl) ?_
    first | exact .tup rfl (RenAll.get (.cons (.lf (lf_tz _)) (.cons (ren_flat rfl rfl) .nil))) | exact .tup rfl (RenAll.get (.cons (.lf (lf_tz _)) (.cons (ren_flat rfl (congrArg vb (by simp))) .nil)))
  · try simp only [nh] at hc1
    have hn0 : ¬ o.d = 0 := hc1
    refine AWP.seq ?_
    refine AWP.region ?_
    refine n_ibin rfl (by first|simp only[nf,Nat.beq]<;>rfl|rfl) (by first|simp only[nf,Nat.beq]<;>rfl|rfl) rfl ?_
    refine n_assign rfl (by first|simp only[nf,Nat.beq]<;>rfl|rfl) ?_
    refine AOps.nil ?_
    refine AWP.cond (by first|simp only[nf,Nat.beq]<;>rfl|rfl) (fun hc2 => ?_) (fun hc2 => ?_)
    · try simp only [nh] at hc2
      have hd : t.doT o = t.may.cutT o.x := by unfold doT; rw [if_neg hn0, if_pos hc2]
      have hx1 := l_cut t o.x hl
      have hx2 := r_cut t o.x hl
      rw [← hd] at hx1 hx2
      refine AWP.seq ?_
      refine AWP.region ?_
      refine n_load rfl ti188 (by first|simp only[nf,Nat.beq]<;>rfl|rfl) (by first|simp only[nf,Nat.beq]<;>rfl|rfl) rfl (by first|simp only[nf,Nat.beq]<;>rfl|rfl) ?_
      refine n_fieldAddr rfl fd230_3 ti2 rfl (by first|simp only[nf,Nat.beq]<;>rfl|rfl) rfl (by first|simp only[nf,Nat.beq]<;>rfl|rfl) ?_
      refine n_load rfl ti2 (by first|simp only[nf,Nat.beq]<;>rfl|rfl) (by first|simp only[nf,Nat.beq]<;>rfl|rfl) rfl (by first|simp only[nf,Nat.beq]<;>rfl|rfl) ?_
      refine n_call0B rfl cf245 rfl (Eq.trans (by simp only [nl] <;> rfl) (by first|simp only[nf,Nat.beq]<;>rfl|rfl)) (by repeat (first | exact .nil | refine .cons ?_ ?_ | exact ren_ints | exact .lf (.val _) | exact .lf (lf_ints (.inl rfl)) | exact .bp ⟨rfl, rfl⟩ | exact .bp (.inl ⟨rfl, rfl⟩) | exact .bp (.inr ⟨rfl, rfl⟩) | exact .lf (lf_tz _) | exact .lf (.agg (flats_lf rfl)) | exact ren_nil0 | exact .lf (lf_fnrp (lf_cons (.val _) lf_nil)) | exact .lf (.rp (lf_cons (.val _) lf_nil)) | exact .bs ⟨rfl, rfl⟩ | exact .lf (D.flat_lf rfl) | exact ren_map (f := spz) (fun _ => rfl) | exact ren_tz | exact .lf (.fn (fun d h => by cases h) (fun d h => by cases h)) | exact .lf (lf_fnrp (lf_rp1 (f := spz) (fun _ => rfl))) | exact .ro (by intro x hx; simp only [List.mem_cons, List.not_mem_nil, or_false] at hx; rcases hx with rfl | rfl <;> exact flats_lf rfl))) (hx1) (by first | exact .val _ | exact lf_ints (.inl rfl) | exact lf_ints (.inr rfl) | exact .any | exact .tup (lf_cons (lf_tz _) (lf_cons (.val _) lf_nil)) | exact lf_nil0 | exact lf_fnrp (lf_cons (.val _) lf_nil) | exact D.flat_lf rfl | exact lf_map (f := spz) (fun _ => rfl) (.inl rfl) | exact lf_tz _ | exact lf_fnrp (lf_rp1 (f := spz) (fun _ => rfl))) ?_
      refine n_move rfl (by first|simp only[nf,Nat.beq]<;>rfl|rfl) ?_
      refine n_extract rfl (by first|simp only[nf,Nat.beq]<;>rfl|rfl) rfl ?_
      refine n_extract rfl (by first|simp only[nf,Nat.beq]<;>rfl|rfl) rfl ?_
      refine n_store ti188 (by first|simp only[nf,Nat.beq]<;>rfl|rfl) rfl (by first|simp only[nf,Nat.beq]<;>rfl|rfl) rfl (by first|simp only[nf,Nat.beq]<;>rfl|rfl) rfl rfl rfl (by first|simp only[nf,Nat.beq]<;>rfl|rfl) ?_
      refine n_assign rfl (by first|simp only[nf,Nat.beq]<;>rfl|rfl) ?_
      refine AOps.nil ?_
      refine AWP.region ?_
      refine n_load rfl ti188 (by first|simp only[nf,Nat.beq]<;>rfl|rfl) (by first|simp only[nf,Nat.beq]<;>rfl|rfl) rfl (by first|simp only[nf,Nat.beq]<;>rfl|rfl) ?_
      refine n_fieldAddr rfl fd230_3 ti2 rfl (by first|simp only[nf,Nat.beq]<;>rfl|rfl) rfl (by first|simp only[nf,Nat.beq]<;>rfl|rfl) ?_
      refine n_load rfl ti2 (by first|simp only[nf,Nat.beq]<;>rfl|rfl) (by first|simp only[nf,Nat.beq]<;>rfl|rfl) rfl (by first|simp only[nf,Nat.beq]<;>rfl|rfl) ?_
      refine n_call0B rfl cf253 rfl (Eq.trans (by simp only [nl] <;> rfl) (by first|simp only[nf,Nat.beq]<;>rfl|rfl)) (by repeat (first | exact .nil | refine .cons ?_ ?_ | exact ren_ints | exact .lf (.val _) | exact .lf (lf_ints (.inl rfl)) | exact .bp ⟨rfl, rfl⟩ | exact .bp (.inl ⟨rfl, rfl⟩) | exact .bp (.inr ⟨rfl, rfl⟩) | exact .lf (lf_tz _) | exact .lf (.agg (flats_lf rfl)) | exact ren_nil0 | exact .lf (lf_fnrp (lf_cons (.val _) lf_nil)) | exact .lf (.rp (lf_cons (.val _) lf_nil)) | exact .bs ⟨rfl, rfl⟩ | exact .lf (D.flat_lf rfl) | exact ren_map (f := spz) (fun _ => rfl) | exact ren_tz | exact .lf (.fn (fun d h => by cases h) (fun d h => by cases h)) | exact .lf (lf_fnrp (lf_rp1 (f := spz) (fun _ => rfl))) | exact .ro (by intro x hx; simp only [List.mem_cons, List.not_mem_nil, or_false] at hx; rcases hx with rfl | rfl <;> exact flats_lf rfl))) (hx2) (by first | exact .val _ | exact lf_ints (.inl rfl) | exact lf_ints (.inr rfl) | exact .any | exact .tup (lf_cons (lf_tz _) (lf_cons (.val _) lf_nil)) | exact lf_nil0 | exact lf_fnrp (lf_cons (.val _) lf_nil) | exact D.flat_lf rfl | exact lf_map (f := spz) (fun _ => rfl) (.inl rfl) | exact lf_tz _ | exact lf_fnrp (lf_rp1 (f := spz) (fun _ => rfl))) ?_
      refine n_move rfl (by first|simp only[nf,Nat.beq]<;>rfl|rfl) ?_
      refine n_extract rfl (by first|simp only[nf,Nat.beq]<;>rfl|rfl) rfl ?_
      refine n_extract rfl (by first|simp only[nf,Nat.beq]<;>rfl|rfl) rfl ?_
      refine n_store ti188 (by first|simp only[nf,Nat.beq]<;>rfl|rfl) rfl (by first|simp only[nf,Nat.beq]<;>rfl|rfl) rfl (by first|simp only[nf,Nat.beq]<;>rfl|rfl) rfl rfl rfl (by first|simp only[nf,Nat.beq]<;>rfl|rfl) ?_
      refine n_assign rfl (by first|simp only[nf,Nat.beq]<;>rfl|rfl) ?_
      refine AOps.nil ?_
      refine AWP.seq ?_
      refine AWP.any1 9 [.box [(.sl none (t.l.map spz) .ro), vi t.n], .box (oz o), .box [.sl none ((t.doT o).l.map spz) .ro, vi (t.doT o).n], .box [.sl none ((t.doT o).l.map spz) .ro, vi (t.doT o).n], .box [.sl none ((t.doT o).l.map spz) .ro, vi (t.doT o).n]] (by kernel_rfl) (by kernel_rfl) (by kernel_rfl) ?_
      refine Walk.ahead [9] (by rfl) (by kernel_rfl) (by rfl) (rs := [6]) (by rfl) (by first|simp only[nf,Nat.beq]<;>rfl|rfl) (fun base => by
          refine n_load rfl ti188 (by first|simp only[nf,Nat.beq]<;>rfl|rfl) (by first|simp only[nf,Nat.beq]<;>rfl|rfl) rfl (by first|simp only[nf,Nat.beq]<;>rfl|rfl) ?_
          exact AOps.nil ⟨rfl, rfl, rfl⟩) ?_
      refine Walk.ahead [3, 4, 9] (by rfl) (by kernel_rfl) (by rfl) (rs := [6]) (by rfl) (by first|simp only[nf,Nat.beq]<;>rfl|rfl) (fun base => by
          refine n_load rfl ti188 (by first|simp only[nf,Nat.beq]<;>rfl|rfl) (by first|simp only[nf,Nat.beq]<;>rfl|rfl) rfl (by first|simp only[nf,Nat.beq]<;>rfl|rfl) ?_
          exact AOps.nil ⟨rfl, rfl, rfl⟩) ?_
      refine Walk.ahead [3, 4, 9] (by rfl) (by kernel_rfl) (by rfl) (rs := [7]) (by rfl) (by first|simp only[nf,Nat.beq]<;>rfl|rfl) (fun base => by
          refine n_load rfl ti188 (by first|simp only[nf,Nat.beq]<;>rfl|rfl) (by first|simp only[nf,Nat.beq]<;>rfl|rfl) rfl (by first|simp only[nf,Nat.beq]<;>rfl|rfl) ?_
          exact AOps.nil ⟨rfl, rfl, rfl⟩) ?_
      refine Walk.ahead [4, 9] (by rfl) (by kernel_rfl) (by rfl) (rs := [67, 68]) (by rfl) (by first|simp only[nf,Nat.beq]<;>rfl|rfl) (fun base => by
          refine n_call0B rfl cf162 rfl (Eq.trans (by simp only [nl] <;> rfl) (by first|simp only[nf,Nat.beq]<;>rfl|rfl)) (by repeat (first | exact .nil | refine .cons ?_ ?_ | exact ren_ints | exact .lf (.val _) | exact .lf (lf_ints (.inl rfl)) | exact .bp ⟨rfl, rfl⟩ | exact .bp (.inl ⟨rfl, rfl⟩) | exact .bp (.inr ⟨rfl, rfl⟩) | exact .lf (lf_tz _) | exact .lf (.agg (flats_lf rfl)) | exact ren_nil0 | exact .lf (lf_fnrp (lf_cons (.val _) lf_nil)) | exact .lf (.rp (lf_cons (.val _) lf_nil)) | exact .bs ⟨rfl, rfl⟩ | exact .lf (D.flat_lf rfl) | exact ren_map (f := spz) (fun _ => rfl) | exact ren_tz | exact .lf (.fn (fun d h => by cases h) (fun d h => by cases h)) | exact .lf (lf_fnrp (lf_rp1 (f := spz) (fun _ => rfl))) | exact .ro (by intro x hx; simp only [List.mem_cons, List.not_mem_nil, or_false] at hx; rcases hx with rfl | rfl <;> exact flats_lf rfl))) (hsm) (by first | exact .val _ | exact lf_ints (.inl rfl) | exact lf_ints (.inr rfl) | exact .any | exact .tup (lf_cons (lf_tz _) (lf_cons (.val _) lf_nil)) | exact lf_nil0 | exact lf_fnrp (lf_cons (.val _) lf_nil) | exact D.flat_lf rfl | exact lf_map (f := spz) (fun _ => rfl) (.inl rfl) | exact lf_tz _ | exact lf_fnrp (lf_rp1 (f := spz) (fun _ => rfl))) ?_
          exact AOps.nil ⟨rfl, rfl, rfl⟩) ?_
      refine Walk.ahead [9] (by rfl) (by kernel_rfl) (by rfl) (rs := [69]) (by rfl) (by first|simp only[nf,Nat.beq]<;>rfl|rfl) (fun base => by
          refine n_move rfl (by first|simp only[nf,Nat.beq]<;>rfl|rfl) ?_
          exact AOps.nil ⟨rfl, rfl, rfl⟩) ?_
      refine Walk.name (u := 70) (fun z => .val (.bool z)) (by first|simp only[nf,Nat.beq]<;>rfl|rfl) (fun b70 hb70 => ?_)
      refine Walk.both (by rfl) (rs := [8, 70]) (by rfl) (by first|simp only[nf,Nat.beq]<;>rfl|rfl) (fun base S' hS' => by
          rcases hS' with rfl | rfl
          all_goals
            refine n_soft (u := 70) (E := .val (.bool b70)) (b70) rfl rfl rfl (by first|simp only[nf,Nat.beq]<;>rfl|rfl) (by cases b70 <;> first | (intro _; rfl) | (intro h; exact absurd h (by decide))) (by cases b70 <;> first | (intro h; exact absurd h (by decide)) | (intro _; exact ⟨_, rfl, by first | (intro h; cases h; done) | decide | simp⟩)) (fun h => by
                cases b70 with
                | false => exact absurd h (by first | decide | simp)
                | true =>
                  refine n_move rfl (by first|simp only[nf,Nat.beq]<;>rfl|rfl) ?_
                  exact AOps.nil ⟨rfl, rfl, rfl⟩) (AOps.nil ⟨rfl, rfl, rfl⟩)) ?_
      refine Walk.both (by rfl) (rs := [9, 70]) (by rfl) (by first|simp only[nf,Nat.beq]<;>rfl|rfl) (fun base S' hS' => by
          rcases hS' with rfl | rfl
          all_goals
            refine n_soft (u := 70) (E := .val (.bool b70)) (b70) rfl rfl rfl (by first|simp only[nf,Nat.beq]<;>rfl|rfl) (by cases b70 <;> first | (intro _; rfl) | (intro h; exact absurd h (by decide))) (by cases b70 <;> first | (intro h; exact absurd h (by decide)) | (intro _; exact ⟨_, rfl, by first | (intro h; cases h; done) | decide | simp⟩)) (fun h => by
                cases b70 with
                | false => exact absurd h (by first | decide | simp)
                | true =>
                  refine n_move rfl (by first|simp only[nf,Nat.beq]<;>rfl|rfl) ?_
                  exact AOps.nil ⟨rfl, rfl, rfl⟩) (AOps.nil ⟨rfl, rfl, rfl⟩)) ?_
      refine Walk.both (by rfl) (rs := [71, 72, 70]) (by rfl) (by first|simp only[nf,Nat.beq]<;>rfl|rfl) (fun base S' hS' => by
          rcases hS' with rfl | rfl
          all_goals
            refine n_soft (u := 70) (E := .val (.bool b70)) (b70) rfl rfl rfl (by first|simp only[nf,Nat.beq]<;>rfl|rfl) (by cases b70 <;> first | (intro _; rfl) | (intro h; exact absurd h (by decide))) (by cases b70 <;> first | (intro h; exact absurd h (by decide)) | (intro _; exact ⟨_, rfl, by first | (intro h; cases h; done) | decide | simp⟩)) (fun h => by
                cases b70 with
                | false => exact absurd h (by first | decide | simp)
                | true =>
                  refine n_ibin rfl (by first|simp only[nf,Nat.beq]<;>rfl|rfl) (by first|simp only[nf,Nat.beq]<;>rfl|rfl) rfl ?_
                  exact AOps.nil ⟨rfl, rfl, rfl⟩) (AOps.nil ⟨rfl, rfl, rfl⟩)) ?_
      refine Walk.both (by rfl) (rs := [70, 73]) (by rfl) (by first|simp only[nf,Nat.beq]<;>rfl|rfl) (fun base S' hS' => by
          rcases hS' with rfl | rfl
          all_goals
            refine n_pick_and rfl (by first|simp only[nf,Nat.beq]<;>rfl|rfl) (fun h => by cases b70 with | false => exact absurd h (by decide) | true => exact (by first|simp only[nf,Nat.beq]<;>rfl|rfl)) ?_
            exact AOps.nil ⟨rfl, rfl, rfl⟩) ?_
      refine Walk.writes (d := .any) (by rfl) (rs := [4, 66]) (by rfl) (by first|simp only[nf,Nat.beq]<;>rfl|rfl) (fun base => by
          refine n_store ti188 (by first|simp only[nf,Nat.beq]<;>rfl|rfl) rfl (by first|simp only[nf,Nat.beq]<;>rfl|rfl) rfl (by first|simp only[nf,Nat.beq]<;>rfl|rfl) rfl rfl rfl (by first|simp only[nf,Nat.beq]<;>rfl|rfl) ?_
          exact AOps.nil ⟨rfl, rfl, rfl⟩) ?_
      refine Walk.behind [10] (by rfl) (by rfl) (by kernel_rfl) (by rfl) (rs := [74]) (by rfl) (by first|simp only[nf,Nat.beq]<;>rfl|rfl) (fun base => by
          refine n_assign rfl (by first|simp only[nf,Nat.beq]<;>rfl|rfl) ?_
          exact AOps.nil ⟨rfl, rfl, rfl⟩) ?_
      subst hb70
      refine Walk.done ?_
      refine AWP.ret ?_
      refine fin_pure (.cons (rv_cell ti188 (by first|simp only[nf,Nat.beq]<;>rfl|rfl) (by first|simp only[nf,Nat.beq]<;>rfl|rfl) rfl (by first|simp only[nf,Nat.beq]<;>rfl|rfl)) (.cons (rv_tmp (by first|simp only[nf,Nat.beq]<;>rfl|rfl)) .nil)) (by first|simp only[nf,Nat.beq]<;>rfl|rfl) ?_
      first | exact .tup rfl (RenAll.get (.cons (.lf (lf_tz _)) (.cons (ren_flat rfl rfl) .nil))) | exact .tup rfl (RenAll.get (.cons (.lf (lf_tz _)) (.cons (ren_flat rfl (congrArg vb (by simp))) .nil)))
    · try simp only [nh] at hc2
      have hd : t.doT o = t.may.dropT o.x := by unfold doT; rw [if_neg hn0, if_neg hc2]
      have hx1 := l_drop t o.x hl
      have hx2 := r_drop t o.x hl
      rw [← hd] at hx1 hx2
      refine AWP.seq ?_
      refine AWP.region ?_
      refine n_load rfl ti188 (by first|simp only[nf,Nat.beq]<;>rfl|rfl) (by first|simp only[nf,Nat.beq]<;>rfl|rfl) rfl (by first|simp only[nf,Nat.beq]<;>rfl|rfl) ?_
      refine n_fieldAddr rfl fd230_3 ti2 rfl (by first|simp only[nf,Nat.beq]<;>rfl|rfl) rfl (by first|simp only[nf,Nat.beq]<;>rfl|rfl) ?_
      refine n_load rfl ti2 (by first|simp only[nf,Nat.beq]<;>rfl|rfl) (by first|simp only[nf,Nat.beq]<;>rfl|rfl) rfl (by first|simp only[nf,Nat.beq]<;>rfl|rfl) ?_
      refine n_call0B rfl cf254 rfl (Eq.trans (by simp only [nl] <;> rfl) (by first|simp only[nf,Nat.beq]<;>rfl|rfl)) (by repeat (first | exact .nil | refine .cons ?_ ?_ | exact ren_ints | exact .lf (.val _) | exact .lf (lf_ints (.inl rfl)) | exact .bp ⟨rfl, rfl⟩ | exact .bp (.inl ⟨rfl, rfl⟩) | exact .bp (.inr ⟨rfl, rfl⟩) | exact .lf (lf_tz _) | exact .lf (.agg (flats_lf rfl)) | exact ren_nil0 | exact .lf (lf_fnrp (lf_cons (.val _) lf_nil)) | exact .lf (.rp (lf_cons (.val _) lf_nil)) | exact .bs ⟨rfl, rfl⟩ | exact .lf (D.flat_lf rfl) | exact ren_map (f := spz) (fun _ => rfl) | exact ren_tz | exact .lf (.fn (fun d h => by cases h) (fun d h => by cases h)) | exact .lf (lf_fnrp (lf_rp1 (f := spz) (fun _ => rfl))) | exact .ro (by intro x hx; simp only [List.mem_cons, List.not_mem_nil, or_false] at hx; rcases hx with rfl | rfl <;> exact flats_lf rfl))) (hx1) (by first | exact .val _ | exact lf_ints (.inl rfl) | exact lf_ints (.inr rfl) | exact .any | exact .tup (lf_cons (lf_tz _) (lf_cons (.val _) lf_nil)) | exact lf_nil0 | exact lf_fnrp (lf_cons (.val _) lf_nil) | exact D.flat_lf rfl | exact lf_map (f := spz) (fun _ => rfl) (.inl rfl) | exact lf_tz _ | exact lf_fnrp (lf_rp1 (f := spz) (fun _ => rfl))) ?_
      refine n_move rfl (by first|simp only[nf,Nat.beq]<;>rfl|rfl) ?_
      refine n_extract rfl (by first|simp only[nf,Nat.beq]<;>rfl|rfl) rfl ?_
      refine n_extract rfl (by first|simp only[nf,Nat.beq]<;>rfl|rfl) rfl ?_
      refine n_store ti188 (by first|simp only[nf,Nat.beq]<;>rfl|rfl) rfl (by first|simp only[nf,Nat.beq]<;>rfl|rfl) rfl (by first|simp only[nf,Nat.beq]<;>rfl|rfl) rfl rfl rfl (by first|simp only[nf,Nat.beq]<;>rfl|rfl) ?_
      refine n_assign rfl (by first|simp only[nf,Nat.beq]<;>rfl|rfl) ?_
      refine AOps.nil ?_
      refine AWP.region ?_
      refine n_load rfl ti188 (by first|simp only[nf,Nat.beq]<;>rfl|rfl) (by first|simp only[nf,Nat.beq]<;>rfl|rfl) rfl (by first|simp only[nf,Nat.beq]<;>rfl|rfl) ?_
      refine n_fieldAddr rfl fd230_3 ti2 rfl (by first|simp only[nf,Nat.beq]<;>rfl|rfl) rfl (by first|simp only[nf,Nat.beq]<;>rfl|rfl) ?_
      refine n_load rfl ti2 (by first|simp only[nf,Nat.beq]<;>rfl|rfl) (by first|simp only[nf,Nat.beq]<;>rfl|rfl) rfl (by first|simp only[nf,Nat.beq]<;>rfl|rfl) ?_
      refine n_call0B rfl cf255 rfl (Eq.trans (by simp only [nl] <;> rfl) (by first|simp only[nf,Nat.beq]<;>rfl|rfl)) (by repeat (first | exact .nil | refine .cons ?_ ?_ | exact ren_ints | exact .lf (.val _) | exact .lf (lf_ints (.inl rfl)) | exact .bp ⟨rfl, rfl⟩ | exact .bp (.inl ⟨rfl, rfl⟩) | exact .bp (.inr ⟨rfl, rfl⟩) | exact .lf (lf_tz _) | exact .lf (.agg (flats_lf rfl)) | exact ren_nil0 | exact .lf (lf_fnrp (lf_cons (.val _) lf_nil)) | exact .lf (.rp (lf_cons (.val _) lf_nil)) | exact .bs ⟨rfl, rfl⟩ | exact .lf (D.flat_lf rfl) | exact ren_map (f := spz) (fun _ => rfl) | exact ren_tz | exact .lf (.fn (fun d h => by cases h) (fun d h => by cases h)) | exact .lf (lf_fnrp (lf_rp1 (f := spz) (fun _ => rfl))) | exact .ro (by intro x hx; simp only [List.mem_cons, List.not_mem_nil, or_false] at hx; rcases hx with rfl | rfl <;> exact flats_lf rfl))) (hx2) (by first | exact .val _ | exact lf_ints (.inl rfl) | exact lf_ints (.inr rfl) | exact .any | exact .tup (lf_cons (lf_tz _) (lf_cons (.val _) lf_nil)) | exact lf_nil0 | exact lf_fnrp (lf_cons (.val _) lf_nil) | exact D.flat_lf rfl | exact lf_map (f := spz) (fun _ => rfl) (.inl rfl) | exact lf_tz _ | exact lf_fnrp (lf_rp1 (f := spz) (fun _ => rfl))) ?_
      refine n_move rfl (by first|simp only[nf,Nat.beq]<;>rfl|rfl) ?_
      refine n_extract rfl (by first|simp only[nf,Nat.beq]<;>rfl|rfl) rfl ?_
      refine n_extract rfl (by first|simp only[nf,Nat.beq]<;>rfl|rfl) rfl ?_
      refine n_store ti188 (by first|simp only[nf,Nat.beq]<;>rfl|rfl) rfl (by first|simp only[nf,Nat.beq]<;>rfl|rfl) rfl (by first|simp only[nf,Nat.beq]<;>rfl|rfl) rfl rfl rfl (by first|simp only[nf,Nat.beq]<;>rfl|rfl) ?_
      refine n_assign rfl (by first|simp only[nf,Nat.beq]<;>rfl|rfl) ?_
      refine AOps.nil ?_
      refine AWP.seq ?_
      refine AWP.any1 9 [.box [(.sl none (t.l.map spz) .ro), vi t.n], .box (oz o), .box [.sl none ((t.doT o).l.map spz) .ro, vi (t.doT o).n], .box [.sl none ((t.doT o).l.map spz) .ro, vi (t.doT o).n], .box [.sl none ((t.doT o).l.map spz) .ro, vi (t.doT o).n]] (by kernel_rfl) (by kernel_rfl) (by kernel_rfl) ?_
      refine Walk.ahead [9] (by rfl) (by kernel_rfl) (by rfl) (rs := [6]) (by rfl) (by first|simp only[nf,Nat.beq]<;>rfl|rfl) (fun base => by
          refine n_load rfl ti188 (by first|simp only[nf,Nat.beq]<;>rfl|rfl) (by first|simp only[nf,Nat.beq]<;>rfl|rfl) rfl (by first|simp only[nf,Nat.beq]<;>rfl|rfl) ?_
          exact AOps.nil ⟨rfl, rfl, rfl⟩) ?_
      refine Walk.ahead [3, 4, 9] (by rfl) (by kernel_rfl) (by rfl) (rs := [6]) (by rfl) (by first|simp only[nf,Nat.beq]<;>rfl|rfl) (fun base => by
          refine n_load rfl ti188 (by first|simp only[nf,Nat.beq]<;>rfl|rfl) (by first|simp only[nf,Nat.beq]<;>rfl|rfl) rfl (by first|simp only[nf,Nat.beq]<;>rfl|rfl) ?_
          exact AOps.nil ⟨rfl, rfl, rfl⟩) ?_
      refine Walk.ahead [3, 4, 9] (by rfl) (by kernel_rfl) (by rfl) (rs := [7]) (by rfl) (by first|simp only[nf,Nat.beq]<;>rfl|rfl) (fun base => by
          refine n_load rfl ti188 (by first|simp only[nf,Nat.beq]<;>rfl|rfl) (by first|simp only[nf,Nat.beq]<;>rfl|rfl) rfl (by first|simp only[nf,Nat.beq]<;>rfl|rfl) ?_
          exact AOps.nil ⟨rfl, rfl, rfl⟩) ?_
      refine Walk.ahead [4, 9] (by rfl) (by kernel_rfl) (by rfl) (rs := [67, 68]) (by rfl) (by first|simp only[nf,Nat.beq]<;>rfl|rfl) (fun base => by
          refine n_call0B rfl cf162 rfl (Eq.trans (by simp only [nl] <;> rfl) (by first|simp only[nf,Nat.beq]<;>rfl|rfl)) (by repeat (first | exact .nil | refine .cons ?_ ?_ | exact ren_ints | exact .lf (.val _) | exact .lf (lf_ints (.inl rfl)) | exact .bp ⟨rfl, rfl⟩ | exact .bp (.inl ⟨rfl, rfl⟩) | exact .bp (.inr ⟨rfl, rfl⟩) | exact .lf (lf_tz _) | exact .lf (.agg (flats_lf rfl)) | exact ren_nil0 | exact .lf (lf_fnrp (lf_cons (.val _) lf_nil)) | exact .lf (.rp (lf_cons (.val _) lf_nil)) | exact .bs ⟨rfl, rfl⟩ | exact .lf (D.flat_lf rfl) | exact ren_map (f := spz) (fun _ => rfl) | exact ren_tz | exact .lf (.fn (fun d h => by cases h) (fun d h => by cases h)) | exact .lf (lf_fnrp (lf_rp1 (f := spz) (fun _ => rfl))) | exact .ro (by intro x hx; simp only [List.mem_cons, List.not_mem_nil, or_false] at hx; rcases hx with rfl | rfl <;> exact flats_lf rfl))) (hsm) (by first | exact .val _ | exact lf_ints (.inl rfl) | exact lf_ints (.inr rfl) | exact .any | exact .tup (lf_cons (lf_tz _) (lf_cons (.val _) lf_nil)) | exact lf_nil0 | exact lf_fnrp (lf_cons (.val _) lf_nil) | exact D.flat_lf rfl | exact lf_map (f := spz) (fun _ => rfl) (.inl rfl) | exact lf_tz _ | exact lf_fnrp (lf_rp1 (f := spz) (fun _ => rfl))) ?_
          exact AOps.nil ⟨rfl, rfl, rfl⟩) ?_
      refine Walk.ahead [9] (by rfl) (by kernel_rfl) (by rfl) (rs := [69]) (by rfl) (by first|simp only[nf,Nat.beq]<;>rfl|rfl) (fun base => by
          refine n_move rfl (by first|simp only[nf,Nat.beq]<;>rfl|rfl) ?_
          exact AOps.nil ⟨rfl, rfl, rfl⟩) ?_
      refine Walk.name (u := 70) (fun z => .val (.bool z)) (by first|simp only[nf,Nat.beq]<;>rfl|rfl) (fun b70 hb70 => ?_)
      refine Walk.both (by rfl) (rs := [8, 70]) (by rfl) (by first|simp only[nf,Nat.beq]<;>rfl|rfl) (fun base S' hS' => by
          rcases hS' with rfl | rfl
          all_goals
            refine n_soft (u := 70) (E := .val (.bool b70)) (b70) rfl rfl rfl (by first|simp only[nf,Nat.beq]<;>rfl|rfl) (by cases b70 <;> first | (intro _; rfl) | (intro h; exact absurd h (by decide))) (by cases b70 <;> first | (intro h; exact absurd h (by decide)) | (intro _; exact ⟨_, rfl, by first | (intro h; cases h; done) | decide | simp⟩)) (fun h => by
                cases b70 with
                | false => exact absurd h (by first | decide | simp)
                | true =>
                  refine n_move rfl (by first|simp only[nf,Nat.beq]<;>rfl|rfl) ?_
                  exact AOps.nil ⟨rfl, rfl, rfl⟩) (AOps.nil ⟨rfl, rfl, rfl⟩)) ?_
      refine Walk.both (by rfl) (rs := [9, 70]) (by rfl) (by first|simp only[nf,Nat.beq]<;>rfl|rfl) (fun base S' hS' => by
          rcases hS' with rfl | rfl
          all_goals
            refine n_soft (u := 70) (E := .val (.bool b70)) (b70) rfl rfl rfl (by first|simp only[nf,Nat.beq]<;>rfl|rfl) (by cases b70 <;> first | (intro _; rfl) | (intro h; exact absurd h (by decide))) (by cases b70 <;> first | (intro h; exact absurd h (by decide)) | (intro _; exact ⟨_, rfl, by first | (intro h; cases h; done) | decide | simp⟩)) (fun h => by
                cases b70 with
                | false => exact absurd h (by first | decide | simp)
                | true =>
                  refine n_move rfl (by first|simp only[nf,Nat.beq]<;>rfl|rfl) ?_
                  exact AOps.nil ⟨rfl, rfl, rfl⟩) (AOps.nil ⟨rfl, rfl, rfl⟩)) ?_
      refine Walk.both (by rfl) (rs := [71, 72, 70]) (by rfl) (by first|simp only[nf,Nat.beq]<;>rfl|rfl) (fun base S' hS' => by
          rcases hS' with rfl | rfl
          all_goals
            refine n_soft (u := 70) (E := .val (.bool b70)) (b70) rfl rfl rfl (by first|simp only[nf,Nat.beq]<;>rfl|rfl) (by cases b70 <;> first | (intro _; rfl) | (intro h; exact absurd h (by decide))) (by cases b70 <;> first | (intro h; exact absurd h (by decide)) | (intro _; exact ⟨_, rfl, by first | (intro h; cases h; done) | decide | simp⟩)) (fun h => by
                cases b70 with
                | false => exact absurd h (by first | decide | simp)
                | true =>
                  refine n_ibin rfl (by first|simp only[nf,Nat.beq]<;>rfl|rfl) (by first|simp only[nf,Nat.beq]<;>rfl|rfl) rfl ?_
                  exact AOps.nil ⟨rfl, rfl, rfl⟩) (AOps.nil ⟨rfl, rfl, rfl⟩)) ?_
      refine Walk.both (by rfl) (rs := [70, 73]) (by rfl) (by first|simp only[nf,Nat.beq]<;>rfl|rfl) (fun base S' hS' => by
          rcases hS' with rfl | rfl
          all_goals
            refine n_pick_and rfl (by first|simp only[nf,Nat.beq]<;>rfl|rfl) (fun h => by cases b70 with | false => exact absurd h (by decide) | true => exact (by first|simp only[nf,Nat.beq]<;>rfl|rfl)) ?_
            exact AOps.nil ⟨rfl, rfl, rfl⟩) ?_
      refine Walk.writes (d := .any) (by rfl) (rs := [4, 66]) (by rfl) (by first|simp only[nf,Nat.beq]<;>rfl|rfl) (fun base => by
          refine n_store ti188 (by first|simp only[nf,Nat.beq]<;>rfl|rfl) rfl (by first|simp only[nf,Nat.beq]<;>rfl|rfl) rfl (by first|simp only[nf,Nat.beq]<;>rfl|rfl) rfl rfl rfl (by first|simp only[nf,Nat.beq]<;>rfl|rfl) ?_
          exact AOps.nil ⟨rfl, rfl, rfl⟩) ?_
      refine Walk.behind [10] (by rfl) (by rfl) (by kernel_rfl) (by rfl) (rs := [74]) (by rfl) (by first|simp only[nf,Nat.beq]<;>rfl|rfl) (fun base => by
          refine n_assign rfl (by first|simp only[nf,Nat.beq]<;>rfl|rfl) ?_
          exact AOps.nil ⟨rfl, rfl, rfl⟩) ?_
      subst hb70
      refine Walk.done ?_
      refine AWP.ret ?_
      refine fin_pure (.cons (rv_cell ti188 (by first|simp only[nf,Nat.beq]<;>rfl|rfl) (by first|simp only[nf,Nat.beq]<;>rfl|rfl) rfl (by first|simp only[nf,Nat.beq]<;>rfl|rfl)) (.cons (rv_tmp (by first|simp only[nf,Nat.beq]<;>rfl|rfl)) .nil)) (by first|simp only[nf,Nat.beq]<;>rfl|rfl) ?_
      first | exact .tup rfl (RenAll.get (.cons (.lf (lf_tz _)) (.cons (ren_flat rfl rfl) .nil))) | exact .tup rfl (RenAll.get (.cons (.lf (lf_tz _)) (.cons (ren_flat rfl (congrArg vb (by simp))) .nil)))

set_option maxHeartbeats 2000000 in
theorem Does_calls (t : Tb) (ops : List Opr) (p n : Int) (hl : t.l.length ≤ 1048576) (hn : ops.length ≤ 1048576) (hok : ∀ o ∈ ops, okO o) : Does Try.prog 32 [tz t, (.sl none (ops.map oz) .ro), vi p, vi n] [] (vb true) [] := by
  refine Does.of_body (rvs := [.tmp 8]) Try.func32 rfl rfl rfl rfl ?_
  have hnw := r_same (Tb.new n) (by simp [Tb.new])
  have h00 : t.after (ops.take 0) = t := by unfold after; rfl
  refine AWP.seq ?_
  refine AWP.region ?_
  refine n_box rfl (by first|simp only[nf,Nat.beq]<;>rfl|rfl) rfl rfl (by first|simp only[nf,Nat.beq]<;>rfl|rfl) (by first|simp only[nf,Nat.beq]<;>rfl|rfl) ?_
  refine n_assign rfl (by first|simp only[nf,Nat.beq]<;>rfl|rfl) ?_
  refine AOps.nil ?_
  refine AWP.seq ?_
  refine AWP.seq ?_
  refine AWP.region ?_
  refine n_call0B rfl cf139 rfl (Eq.trans (by simp only [nl] <;> rfl) (by first|simp only[nf,Nat.beq]<;>rfl|rfl)) (by repeat (first | exact .nil | refine .cons ?_ ?_ | exact ren_ints | exact .lf (.val _) | exact .lf (lf_ints (.inl rfl)) | exact .bp ⟨rfl, rfl⟩ | exact .bp (.inl ⟨rfl, rfl⟩) | exact .bp (.inr ⟨rfl, rfl⟩) | exact .lf (lf_tz _) | exact .lf (.agg (flats_lf rfl)) | exact ren_nil0 | exact .lf (lf_fnrp (lf_cons (.val _) lf_nil)) | exact .lf (.rp (lf_cons (.val _) lf_nil)) | exact .bs ⟨rfl, rfl⟩ | exact .lf (D.flat_lf rfl) | exact ren_map (f := spz) (fun _ => rfl) | exact ren_tz | exact .lf (.fn (fun d h => by cases h) (fun d h => by cases h)) | exact .lf (lf_fnrp (lf_rp1 (f := spz) (fun _ => rfl))) | exact .ro (by intro x hx; simp only [List.mem_cons, List.not_mem_nil, or_false] at hx; rcases hx with rfl | rfl <;> exact flats_lf rfl))) (Oh.begun) (by first | exact .val _ | exact lf_ints (.inl rfl) | exact lf_ints (.inr rfl) | exact .any | exact .tup (lf_cons (lf_tz _) (lf_cons (.val _) lf_nil)) | exact lf_nil0 | exact lf_fnrp (lf_cons (.val _) lf_nil) | exact D.flat_lf rfl | exact lf_map (f := spz) (fun _ => rfl) (.inl rfl) | exact lf_tz _ | exact lf_fnrp (lf_rp1 (f := spz) (fun _ => rfl))) ?_
  refine n_not rfl (by first|simp only[nf,Nat.beq]<;>rfl|rfl) rfl ?_
  refine n_move rfl (by first|simp only[nf,Nat.beq]<;>rfl|rfl) ?_
  refine AOps.name (u := 14) (fun z => .val (.bool z)) (by first|simp only[nf,Nat.beq]<;>rfl|rfl) (fun b14 hb14 => ?_)
  refine n_soft (u := 14) (E := .val (.bool b14)) (!b14) rfl rfl rfl (by first|simp only[nf,Nat.beq]<;>rfl|rfl) (by cases b14 <;> first | (intro _; rfl) | (intro h; exact absurd h (by decide))) (by cases b14 <;> first | (intro h; exact absurd h (by decide)) | (intro _; exact ⟨_, rfl, by first | (intro h; cases h; done) | decide | simp⟩)) (fun h => by
      cases b14 with
      | true => exact absurd h (by first | decide | simp)
      | false =>
        refine n_move rfl (by first|simp only[nf,Nat.beq]<;>rfl|rfl) ?_
        exact AOps.nil ⟨rfl, rfl, rfl⟩) ?_
  refine n_soft (u := 14) (E := .val (.bool b14)) (!b14) rfl rfl rfl (by first|simp only[nf,Nat.beq]<;>rfl|rfl) (by cases b14 <;> first | (intro _; rfl) | (intro h; exact absurd h (by decide))) (by cases b14 <;> first | (intro h; exact absurd h (by decide)) | (intro _; exact ⟨_, rfl, by first | (intro h; cases h; done) | decide | simp⟩)) (fun h => by
      cases b14 with
      | true => exact absurd h (by first | decide | simp)
      | false =>
        refine n_call0B rfl cf158 rfl (Eq.trans (by simp only [nl] <;> rfl) (by first|simp only[nf,Nat.beq]<;>rfl|rfl)) (by repeat (first | exact .nil | refine .cons ?_ ?_ | exact ren_ints | exact .lf (.val _) | exact .lf (lf_ints (.inl rfl)) | exact .bp ⟨rfl, rfl⟩ | exact .bp (.inl ⟨rfl, rfl⟩) | exact .bp (.inr ⟨rfl, rfl⟩) | exact .lf (lf_tz _) | exact .lf (.agg (flats_lf rfl)) | exact ren_nil0 | exact .lf (lf_fnrp (lf_cons (.val _) lf_nil)) | exact .lf (.rp (lf_cons (.val _) lf_nil)) | exact .bs ⟨rfl, rfl⟩ | exact .lf (D.flat_lf rfl) | exact ren_map (f := spz) (fun _ => rfl) | exact ren_tz | exact .lf (.fn (fun d h => by cases h) (fun d h => by cases h)) | exact .lf (lf_fnrp (lf_rp1 (f := spz) (fun _ => rfl))) | exact .ro (by intro x hx; simp only [List.mem_cons, List.not_mem_nil, or_false] at hx; rcases hx with rfl | rfl <;> exact flats_lf rfl))) (l_new _) (by first | exact .val _ | exact lf_ints (.inl rfl) | exact lf_ints (.inr rfl) | exact .any | exact .tup (lf_cons (lf_tz _) (lf_cons (.val _) lf_nil)) | exact lf_nil0 | exact lf_fnrp (lf_cons (.val _) lf_nil) | exact D.flat_lf rfl | exact lf_map (f := spz) (fun _ => rfl) (.inl rfl) | exact lf_tz _ | exact lf_fnrp (lf_rp1 (f := spz) (fun _ => rfl))) ?_
        exact AOps.nil ⟨rfl, rfl, rfl⟩) ?_
  refine n_soft (u := 14) (E := .val (.bool b14)) (!b14) rfl rfl rfl (by first|simp only[nf,Nat.beq]<;>rfl|rfl) (by cases b14 <;> first | (intro _; rfl) | (intro h; exact absurd h (by decide))) (by cases b14 <;> first | (intro h; exact absurd h (by decide)) | (intro _; exact ⟨_, rfl, by first | (intro h; cases h; done) | decide | simp⟩)) (fun h => by
      cases b14 with
      | true => exact absurd h (by first | decide | simp)
      | false =>
        refine n_move rfl (by first|simp only[nf,Nat.beq]<;>rfl|rfl) ?_
        exact AOps.nil ⟨rfl, rfl, rfl⟩) ?_
  refine n_soft (u := 14) (E := .val (.bool b14)) (!b14) rfl rfl rfl (by first|simp only[nf,Nat.beq]<;>rfl|rfl) (by cases b14 <;> first | (intro _; rfl) | (intro h; exact absurd h (by decide))) (by cases b14 <;> first | (intro h; exact absurd h (by decide)) | (intro _; exact ⟨_, rfl, by first | (intro h; cases h; done) | decide | simp⟩)) (fun h => by
      cases b14 with
      | true => exact absurd h (by first | decide | simp)
      | false =>
        refine n_call0B rfl cf163 rfl (Eq.trans (by simp only [nl] <;> rfl) (by first|simp only[nf,Nat.beq]<;>rfl|rfl)) (by repeat (first | exact .nil | refine .cons ?_ ?_ | exact ren_ints | exact .lf (.val _) | exact .lf (lf_ints (.inl rfl)) | exact .bp ⟨rfl, rfl⟩ | exact .bp (.inl ⟨rfl, rfl⟩) | exact .bp (.inr ⟨rfl, rfl⟩) | exact .lf (lf_tz _) | exact .lf (.agg (flats_lf rfl)) | exact ren_nil0 | exact .lf (lf_fnrp (lf_cons (.val _) lf_nil)) | exact .lf (.rp (lf_cons (.val _) lf_nil)) | exact .bs ⟨rfl, rfl⟩ | exact .lf (D.flat_lf rfl) | exact ren_map (f := spz) (fun _ => rfl) | exact ren_tz | exact .lf (.fn (fun d h => by cases h) (fun d h => by cases h)) | exact .lf (lf_fnrp (lf_rp1 (f := spz) (fun _ => rfl))) | exact .ro (by intro x hx; simp only [List.mem_cons, List.not_mem_nil, or_false] at hx; rcases hx with rfl | rfl <;> exact flats_lf rfl))) (r_new _) (by first | exact .val _ | exact lf_ints (.inl rfl) | exact lf_ints (.inr rfl) | exact .any | exact .tup (lf_cons (lf_tz _) (lf_cons (.val _) lf_nil)) | exact lf_nil0 | exact lf_fnrp (lf_cons (.val _) lf_nil) | exact D.flat_lf rfl | exact lf_map (f := spz) (fun _ => rfl) (.inl rfl) | exact lf_tz _ | exact lf_fnrp (lf_rp1 (f := spz) (fun _ => rfl))) ?_
        exact AOps.nil ⟨rfl, rfl, rfl⟩) ?_
  refine n_soft (u := 14) (E := .val (.bool b14)) (!b14) rfl rfl rfl (by first|simp only[nf,Nat.beq]<;>rfl|rfl) (by cases b14 <;> first | (intro _; rfl) | (intro h; exact absurd h (by decide))) (by cases b14 <;> first | (intro h; exact absurd h (by decide)) | (intro _; exact ⟨_, rfl, by first | (intro h; cases h; done) | decide | simp⟩)) (fun h => by
      cases b14 with
      | true => exact absurd h (by first | decide | simp)
      | false =>
        refine n_call0B rfl cf162 rfl (Eq.trans (by simp only [nl] <;> rfl) (by first|simp only[nf,Nat.beq]<;>rfl|rfl)) (by repeat (first | exact .nil | refine .cons ?_ ?_ | exact ren_ints | exact .lf (.val _) | exact .lf (lf_ints (.inl rfl)) | exact .bp ⟨rfl, rfl⟩ | exact .bp (.inl ⟨rfl, rfl⟩) | exact .bp (.inr ⟨rfl, rfl⟩) | exact .lf (lf_tz _) | exact .lf (.agg (flats_lf rfl)) | exact ren_nil0 | exact .lf (lf_fnrp (lf_cons (.val _) lf_nil)) | exact .lf (.rp (lf_cons (.val _) lf_nil)) | exact .bs ⟨rfl, rfl⟩ | exact .lf (D.flat_lf rfl) | exact ren_map (f := spz) (fun _ => rfl) | exact ren_tz | exact .lf (.fn (fun d h => by cases h) (fun d h => by cases h)) | exact .lf (lf_fnrp (lf_rp1 (f := spz) (fun _ => rfl))) | exact .ro (by intro x hx; simp only [List.mem_cons, List.not_mem_nil, or_false] at hx; rcases hx with rfl | rfl <;> exact flats_lf rfl))) (hnw) (by first | exact .val _ | exact lf_ints (.inl rfl) | exact lf_ints (.inr rfl) | exact .any | exact .tup (lf_cons (lf_tz _) (lf_cons (.val _) lf_nil)) | exact lf_nil0 | exact lf_fnrp (lf_cons (.val _) lf_nil) | exact D.flat_lf rfl | exact lf_map (f := spz) (fun _ => rfl) (.inl rfl) | exact lf_tz _ | exact lf_fnrp (lf_rp1 (f := spz) (fun _ => rfl))) ?_
        exact AOps.nil ⟨rfl, rfl, rfl⟩) ?_
  refine n_soft (u := 14) (E := .val (.bool b14)) (!b14) rfl rfl rfl (by first|simp only[nf,Nat.beq]<;>rfl|rfl) (by cases b14 <;> first | (intro _; rfl) | (intro h; exact absurd h (by decide))) (by cases b14 <;> first | (intro h; exact absurd h (by decide)) | (intro _; exact ⟨_, rfl, by first | (intro h; cases h; done) | decide | simp⟩)) (fun h => by
      cases b14 with
      | true => exact absurd h (by first | decide | simp)
      | false =>
        refine n_not rfl (by first|simp only[nf,Nat.beq]<;>rfl|rfl) rfl ?_
        exact AOps.nil ⟨rfl, rfl, rfl⟩) ?_
  refine n_pick_or rfl (by first|simp only[nf,Nat.beq]<;>rfl|rfl) (fun h => by cases b14 with | true => exact absurd h (by decide) | false => exact (by first|simp only[nf,Nat.beq]<;>rfl|rfl)) ?_
  refine n_move rfl (by first|simp only[nf,Nat.beq]<;>rfl|rfl) ?_
  refine AOps.name (u := 22) (fun z => .val (.bool z)) (by first|simp only[nf,Nat.beq]<;>rfl|rfl) (fun b22 hb22 => ?_)
  refine n_soft (u := 22) (E := .val (.bool b22)) (!b22) rfl rfl rfl (by first|simp only[nf,Nat.beq]<;>rfl|rfl) (by cases b22 <;> first | (intro _; rfl) | (intro h; exact absurd h (by decide))) (by cases b22 <;> first | (intro h; exact absurd h (by decide)) | (intro _; exact ⟨_, rfl, by first | (intro h; cases h; done) | decide | simp⟩)) (fun h => by
      cases b22 with
      | true => exact absurd h (by first | decide | simp)
      | false =>
        refine n_load rfl ti188 (by first|simp only[nf,Nat.beq]<;>rfl|rfl) (by first|simp only[nf,Nat.beq]<;>rfl|rfl) rfl (by first|simp only[nf,Nat.beq]<;>rfl|rfl) ?_
        exact AOps.nil ⟨rfl, rfl, rfl⟩) ?_
  refine n_soft (u := 22) (E := .val (.bool b22)) (!b22) rfl rfl rfl (by first|simp only[nf,Nat.beq]<;>rfl|rfl) (by cases b22 <;> first | (intro _; rfl) | (intro h; exact absurd h (by decide))) (by cases b22 <;> first | (intro h; exact absurd h (by decide)) | (intro _; exact ⟨_, rfl, by first | (intro h; cases h; done) | decide | simp⟩)) (fun h => by
      cases b22 with
      | true => exact absurd h (by first | decide | simp)
      | false =>
        refine n_move rfl (by first|simp only[nf,Nat.beq]<;>rfl|rfl) ?_
        exact AOps.nil ⟨rfl, rfl, rfl⟩) ?_
  refine n_soft (u := 22) (E := .val (.bool b22)) (!b22) rfl rfl rfl (by first|simp only[nf,Nat.beq]<;>rfl|rfl) (by cases b22 <;> first | (intro _; rfl) | (intro h; exact absurd h (by decide))) (by cases b22 <;> first | (intro h; exact absurd h (by decide)) | (intro _; exact ⟨_, rfl, by first | (intro h; cases h; done) | decide | simp⟩)) (fun h => by
      cases b22 with
      | true => exact absurd h (by first | decide | simp)
      | false =>
        refine n_move rfl (by first|simp only[nf,Nat.beq]<;>rfl|rfl) ?_
        exact AOps.nil ⟨rfl, rfl, rfl⟩) ?_
  refine n_soft (u := 22) (E := .val (.bool b22)) (!b22) rfl rfl rfl (by first|simp only[nf,Nat.beq]<;>rfl|rfl) (by cases b22 <;> first | (intro _; rfl) | (intro h; exact absurd h (by decide))) (by cases b22 <;> first | (intro h; exact absurd h (by decide)) | (intro _; exact ⟨_, rfl, by first | (intro h; cases h; done) | decide | simp⟩)) (fun h => by
      cases b22 with
      | true => exact absurd h (by first | decide | simp)
      | false =>
        refine n_call0B rfl cf164 rfl (Eq.trans (by simp only [nl] <;> rfl) (by first|simp only[nf,Nat.beq]<;>rfl|rfl)) (by repeat (first | exact .nil | refine .cons ?_ ?_ | exact ren_ints | exact .lf (.val _) | exact .lf (lf_ints (.inl rfl)) | exact .bp ⟨rfl, rfl⟩ | exact .bp (.inl ⟨rfl, rfl⟩) | exact .bp (.inr ⟨rfl, rfl⟩) | exact .lf (lf_tz _) | exact .lf (.agg (flats_lf rfl)) | exact ren_nil0 | exact .lf (lf_fnrp (lf_cons (.val _) lf_nil)) | exact .lf (.rp (lf_cons (.val _) lf_nil)) | exact .bs ⟨rfl, rfl⟩ | exact .lf (D.flat_lf rfl) | exact ren_map (f := spz) (fun _ => rfl) | exact ren_tz | exact .lf (.fn (fun d h => by cases h) (fun d h => by cases h)) | exact .lf (lf_fnrp (lf_rp1 (f := spz) (fun _ => rfl))) | exact .ro (by intro x hx; simp only [List.mem_cons, List.not_mem_nil, or_false] at hx; rcases hx with rfl | rfl <;> exact flats_lf rfl))) (asks _ _ _ (by omega)) (by first | exact .val _ | exact lf_ints (.inl rfl) | exact lf_ints (.inr rfl) | exact .any | exact .tup (lf_cons (lf_tz _) (lf_cons (.val _) lf_nil)) | exact lf_nil0 | exact lf_fnrp (lf_cons (.val _) lf_nil) | exact D.flat_lf rfl | exact lf_map (f := spz) (fun _ => rfl) (.inl rfl) | exact lf_tz _ | exact lf_fnrp (lf_rp1 (f := spz) (fun _ => rfl))) ?_
        exact AOps.nil ⟨rfl, rfl, rfl⟩) ?_
  refine n_soft (u := 22) (E := .val (.bool b22)) (!b22) rfl rfl rfl (by first|simp only[nf,Nat.beq]<;>rfl|rfl) (by cases b22 <;> first | (intro _; rfl) | (intro h; exact absurd h (by decide))) (by cases b22 <;> first | (intro h; exact absurd h (by decide)) | (intro _; exact ⟨_, rfl, by first | (intro h; cases h; done) | decide | simp⟩)) (fun h => by
      cases b22 with
      | true => exact absurd h (by first | decide | simp)
      | false =>
        refine n_not rfl (by first|simp only[nf,Nat.beq]<;>rfl|rfl) rfl ?_
        exact AOps.nil ⟨rfl, rfl, rfl⟩) ?_
  refine n_pick_or rfl (by first|simp only[nf,Nat.beq]<;>rfl|rfl) (fun h => by cases b22 with | true => exact absurd h (by decide) | false => exact (by first|simp only[nf,Nat.beq]<;>rfl|rfl)) ?_
  subst hb14
  subst hb22
  refine AOps.nil ?_
  refine AWP.cond (by first|simp only[nf,Nat.beq]<;>rfl|rfl) (fun hc1 => ?_) (fun hc1 => ?_)
  · try simp only [nh] at hc1
    exfalso
    simp at hc1
  · try simp only [nh] at hc1
    refine AWP.skip ?_
    refine AWP.seq ?_
    refine AWP.seq ?_
    refine AWP.region ?_
    refine n_move rfl (by first|simp only[nf,Nat.beq]<;>rfl|rfl) ?_
    refine n_len rfl Try.underlying226 (by first|simp only[nf,Nat.beq]<;>rfl|rfl) (by first | rw [ints_length] | rw [List.length_map] | rfl) ?_
    refine n_move rfl (by first|simp only[nf,Nat.beq]<;>rfl|rfl) ?_
    refine AOps.nil ?_
    refine AWP.block ?_
    refine AWP.loopX 1 (α := Nat) (fun i => i ≤ ops.length) (fun i => put (put (put (put (put (put empty 2 (vi p)) 3 (vi n)) 4 (.bp 0 0)) 29 (.sl none (ops.map oz) .ro)) 30 (vi (ops.length : Int))) 31 (vi (i : Int))) (fun i => [.box [.sl none ((t.after (ops.take i)).l.map spz) .ro, vi (t.after (ops.take i)).n]]) (fun i => ops.length - i) 0 ?_ ?_ ?_ ?_ ?_ ?_ ?_
    · exact Nat.zero_le _
    · (repeat (first | exact FLe.empty _ | refine FLe.put ?_ ?_)) <;> first | (simp only [nf, Nat.beq]; done) | rfl | ((try simp only [nf, Nat.beq]); first | rfl | (simp only [List.length_map]; done) | (congr 2; omega; done))
    · rw [h00]
    · exact fun _ => rfl
    · intro p hp; (try dsimp only); (repeat' (refine un_put ?_ ?_)) <;> first | exact un_empty | exact .bp (by decide) | exact .lf (D.flat_lf rfl) | exact .lf (lf_ints (.inl rfl)) | exact .lf (lf_map (f := oz) (fun _ => rfl) (.inl rfl))
    · intro p hp; (try dsimp only); repeat' (first | exact un_nil | refine un_cons ?_ ?_ | exact un_box rfl | exact un_boxL (lf_cons (lf_map (f := spz) (fun _ => rfl) (.inl rfl)) (lf_cons (.val _) lf_nil)))
    · intro i hi
      try dsimp only at hi ⊢
      have hli := after_len (l := ops) hl i hi
      refine AWP.seq ?_
      refine AWP.region ?_
      refine n_ibin rfl (by first|simp only[nf,Nat.beq]<;>rfl|rfl) (by first|simp only[nf,Nat.beq]<;>rfl|rfl) rfl ?_
      refine AOps.nil ?_
      refine AWP.seq ?_
      refine AWP.cond (by first|simp only[nf,Nat.beq]<;>rfl|rfl) (fun hc2 => ?_) (fun hc2 => ?_)
      · try simp only [nh] at hc2
        obtain ⟨o, hx⟩ : ∃ o, ops[i]? = some o := ⟨_, List.getElem?_eq_getElem (by omega)⟩
        have hxo := map_at oz hx
        have hdo := does (t.after (ops.take i)) o hli (hok o (List.mem_of_getElem? hx))
        have hdl := doT_len (t.after (ops.take i)) o
        refine AWP.skip ?_
        refine AWP.seq ?_
        refine AWP.block ?_
        refine AWP.seq ?_
        refine AWP.region ?_
        refine n_indexAddr rfl Try.underlying226 ti230 rfl (by first|simp only[nf,Nat.beq]<;>rfl|rfl) (by first|simp only[nf,Nat.beq]<;>rfl|rfl) (by omega) (by exact hxo) rfl ?_
        refine n_load rfl ti230 (by first|simp only[nf,Nat.beq]<;>rfl|rfl) (by first|simp only[nf,Nat.beq]<;>rfl|rfl) rfl (by first|simp only[nf,Nat.beq]<;>rfl|rfl) ?_
        refine n_alloc rfl zi230 rfl (by first|simp only[nf,Nat.beq]<;>rfl|rfl) (by first|simp only[nf,Nat.beq]<;>rfl|rfl) ?_
        refine n_store ti230 (by first|simp only[nf,Nat.beq]<;>rfl|rfl) rfl (by first|simp only[nf,Nat.beq]<;>rfl|rfl) rfl (by first|simp only[nf,Nat.beq]<;>rfl|rfl) rfl rfl rfl (by first|simp only[nf,Nat.beq]<;>rfl|rfl) ?_
        refine AOps.nil ?_
        refine AWP.seq ?_
        refine AWP.region ?_
        refine n_assign rfl (by first|simp only[nf,Nat.beq]<;>rfl|rfl) ?_
        refine AOps.nil ?_
        refine AWP.seq ?_
        refine AWP.region ?_
        refine n_load rfl ti188 (by first|simp only[nf,Nat.beq]<;>rfl|rfl) (by first|simp only[nf,Nat.beq]<;>rfl|rfl) rfl (by first|simp only[nf,Nat.beq]<;>rfl|rfl) ?_
        refine n_load rfl ti230 (by first|simp only[nf,Nat.beq]<;>rfl|rfl) (by first|simp only[nf,Nat.beq]<;>rfl|rfl) rfl (by first|simp only[nf,Nat.beq]<;>rfl|rfl) ?_
        refine n_call0B rfl cf165 rfl (Eq.trans (by simp only [nl] <;> rfl) (by first|simp only[nf,Nat.beq]<;>rfl|rfl)) (by repeat (first | exact .nil | refine .cons ?_ ?_ | exact ren_ints | exact .lf (.val _) | exact .lf (lf_ints (.inl rfl)) | exact .bp ⟨rfl, rfl⟩ | exact .bp (.inl ⟨rfl, rfl⟩) | exact .bp (.inr ⟨rfl, rfl⟩) | exact .lf (lf_tz _) | exact .lf (.agg (flats_lf rfl)) | exact ren_nil0 | exact .lf (lf_fnrp (lf_cons (.val _) lf_nil)) | exact .lf (.rp (lf_cons (.val _) lf_nil)) | exact .bs ⟨rfl, rfl⟩ | exact .lf (D.flat_lf rfl) | exact ren_map (f := spz) (fun _ => rfl) | exact ren_tz | exact .lf (.fn (fun d h => by cases h) (fun d h => by cases h)) | exact .lf (lf_fnrp (lf_rp1 (f := spz) (fun _ => rfl))) | exact .ro (by intro x hx; simp only [List.mem_cons, List.not_mem_nil, or_false] at hx; rcases hx with rfl | rfl <;> exact flats_lf rfl))) (hdo) (by first | exact .val _ | exact lf_ints (.inl rfl) | exact lf_ints (.inr rfl) | exact .any | exact .tup (lf_cons (lf_tz _) (lf_cons (.val _) lf_nil)) | exact lf_nil0 | exact lf_fnrp (lf_cons (.val _) lf_nil) | exact D.flat_lf rfl | exact lf_map (f := spz) (fun _ => rfl) (.inl rfl) | exact lf_tz _ | exact lf_fnrp (lf_rp1 (f := spz) (fun _ => rfl))) ?_
        refine n_move rfl (by first|simp only[nf,Nat.beq]<;>rfl|rfl) ?_
        refine n_extract rfl (by first|simp only[nf,Nat.beq]<;>rfl|rfl) rfl ?_
        refine n_extract rfl (by first|simp only[nf,Nat.beq]<;>rfl|rfl) rfl ?_
        refine n_store ti188 (by first|simp only[nf,Nat.beq]<;>rfl|rfl) rfl (by first|simp only[nf,Nat.beq]<;>rfl|rfl) rfl (by first|simp only[nf,Nat.beq]<;>rfl|rfl) rfl rfl rfl (by first|simp only[nf,Nat.beq]<;>rfl|rfl) ?_
        refine n_assign rfl (by first|simp only[nf,Nat.beq]<;>rfl|rfl) ?_
        refine AOps.nil ?_
        refine AWP.seq ?_
        refine AWP.region ?_
        refine n_move rfl (by first|simp only[nf,Nat.beq]<;>rfl|rfl) ?_
        refine n_not rfl (by first|simp only[nf,Nat.beq]<;>rfl|rfl) rfl ?_
        refine n_move rfl (by first|simp only[nf,Nat.beq]<;>rfl|rfl) ?_
        refine AOps.name (u := 43) (fun z => .val (.bool z)) (by first|simp only[nf,Nat.beq]<;>rfl|rfl) (fun b43 hb43 => ?_)
        refine n_soft (u := 43) (E := .val (.bool b43)) (!b43) rfl rfl rfl (by first|simp only[nf,Nat.beq]<;>rfl|rfl) (by cases b43 <;> first | (intro _; rfl) | (intro h; exact absurd h (by decide))) (by cases b43 <;> first | (intro h; exact absurd h (by decide)) | (intro _; exact ⟨_, rfl, by first | (intro h; cases h; done) | decide | simp⟩)) (fun h => by
            cases b43 with
            | true => exact absurd h (by first | decide | simp)
            | false =>
              refine n_load rfl ti188 (by first|simp only[nf,Nat.beq]<;>rfl|rfl) (by first|simp only[nf,Nat.beq]<;>rfl|rfl) rfl (by first|simp only[nf,Nat.beq]<;>rfl|rfl) ?_
              exact AOps.nil ⟨rfl, rfl, rfl⟩) ?_
        refine n_soft (u := 43) (E := .val (.bool b43)) (!b43) rfl rfl rfl (by first|simp only[nf,Nat.beq]<;>rfl|rfl) (by cases b43 <;> first | (intro _; rfl) | (intro h; exact absurd h (by decide))) (by cases b43 <;> first | (intro h; exact absurd h (by decide)) | (intro _; exact ⟨_, rfl, by first | (intro h; cases h; done) | decide | simp⟩)) (fun h => by
            cases b43 with
            | true => exact absurd h (by first | decide | simp)
            | false =>
              refine n_move rfl (by first|simp only[nf,Nat.beq]<;>rfl|rfl) ?_
              exact AOps.nil ⟨rfl, rfl, rfl⟩) ?_
        refine n_soft (u := 43) (E := .val (.bool b43)) (!b43) rfl rfl rfl (by first|simp only[nf,Nat.beq]<;>rfl|rfl) (by cases b43 <;> first | (intro _; rfl) | (intro h; exact absurd h (by decide))) (by cases b43 <;> first | (intro h; exact absurd h (by decide)) | (intro _; exact ⟨_, rfl, by first | (intro h; cases h; done) | decide | simp⟩)) (fun h => by
            cases b43 with
            | true => exact absurd h (by first | decide | simp)
            | false =>
              refine n_move rfl (by first|simp only[nf,Nat.beq]<;>rfl|rfl) ?_
              exact AOps.nil ⟨rfl, rfl, rfl⟩) ?_
        refine n_soft (u := 43) (E := .val (.bool b43)) (!b43) rfl rfl rfl (by first|simp only[nf,Nat.beq]<;>rfl|rfl) (by cases b43 <;> first | (intro _; rfl) | (intro h; exact absurd h (by decide))) (by cases b43 <;> first | (intro h; exact absurd h (by decide)) | (intro _; exact ⟨_, rfl, by first | (intro h; cases h; done) | decide | simp⟩)) (fun h => by
            cases b43 with
            | true => exact absurd h (by first | decide | simp)
            | false =>
              refine n_call0B rfl cf164 rfl (Eq.trans (by simp only [nl] <;> rfl) (by first|simp only[nf,Nat.beq]<;>rfl|rfl)) (by repeat (first | exact .nil | refine .cons ?_ ?_ | exact ren_ints | exact .lf (.val _) | exact .lf (lf_ints (.inl rfl)) | exact .bp ⟨rfl, rfl⟩ | exact .bp (.inl ⟨rfl, rfl⟩) | exact .bp (.inr ⟨rfl, rfl⟩) | exact .lf (lf_tz _) | exact .lf (.agg (flats_lf rfl)) | exact ren_nil0 | exact .lf (lf_fnrp (lf_cons (.val _) lf_nil)) | exact .lf (.rp (lf_cons (.val _) lf_nil)) | exact .bs ⟨rfl, rfl⟩ | exact .lf (D.flat_lf rfl) | exact ren_map (f := spz) (fun _ => rfl) | exact ren_tz | exact .lf (.fn (fun d h => by cases h) (fun d h => by cases h)) | exact .lf (lf_fnrp (lf_rp1 (f := spz) (fun _ => rfl))) | exact .ro (by intro x hx; simp only [List.mem_cons, List.not_mem_nil, or_false] at hx; rcases hx with rfl | rfl <;> exact flats_lf rfl))) (asks _ _ _ (by omega)) (by first | exact .val _ | exact lf_ints (.inl rfl) | exact lf_ints (.inr rfl) | exact .any | exact .tup (lf_cons (lf_tz _) (lf_cons (.val _) lf_nil)) | exact lf_nil0 | exact lf_fnrp (lf_cons (.val _) lf_nil) | exact D.flat_lf rfl | exact lf_map (f := spz) (fun _ => rfl) (.inl rfl) | exact lf_tz _ | exact lf_fnrp (lf_rp1 (f := spz) (fun _ => rfl))) ?_
              exact AOps.nil ⟨rfl, rfl, rfl⟩) ?_
        refine n_soft (u := 43) (E := .val (.bool b43)) (!b43) rfl rfl rfl (by first|simp only[nf,Nat.beq]<;>rfl|rfl) (by cases b43 <;> first | (intro _; rfl) | (intro h; exact absurd h (by decide))) (by cases b43 <;> first | (intro h; exact absurd h (by decide)) | (intro _; exact ⟨_, rfl, by first | (intro h; cases h; done) | decide | simp⟩)) (fun h => by
            cases b43 with
            | true => exact absurd h (by first | decide | simp)
            | false =>
              refine n_not rfl (by first|simp only[nf,Nat.beq]<;>rfl|rfl) rfl ?_
              exact AOps.nil ⟨rfl, rfl, rfl⟩) ?_
        refine n_pick_or rfl (by first|simp only[nf,Nat.beq]<;>rfl|rfl) (fun h => by cases b43 with | true => exact absurd h (by decide) | false => exact (by first|simp only[nf,Nat.beq]<;>rfl|rfl)) ?_
        refine n_move rfl (by first|simp only[nf,Nat.beq]<;>rfl|rfl) ?_
        refine AOps.name (u := 50) (fun z => .val (.bool z)) (by first|simp only[nf,Nat.beq]<;>rfl|rfl) (fun b50 hb50 => ?_)
        refine n_soft (u := 50) (E := .val (.bool b50)) (!b50) rfl rfl rfl (by first|simp only[nf,Nat.beq]<;>rfl|rfl) (by cases b50 <;> first | (intro _; rfl) | (intro h; exact absurd h (by decide))) (by cases b50 <;> first | (intro h; exact absurd h (by decide)) | (intro _; exact ⟨_, rfl, by first | (intro h; cases h; done) | decide | simp⟩)) (fun h => by
            cases b50 with
            | true => exact absurd h (by first | decide | simp)
            | false =>
              refine n_load rfl ti188 (by first|simp only[nf,Nat.beq]<;>rfl|rfl) (by first|simp only[nf,Nat.beq]<;>rfl|rfl) rfl (by first|simp only[nf,Nat.beq]<;>rfl|rfl) ?_
              exact AOps.nil ⟨rfl, rfl, rfl⟩) ?_
        refine n_soft (u := 50) (E := .val (.bool b50)) (!b50) rfl rfl rfl (by first|simp only[nf,Nat.beq]<;>rfl|rfl) (by cases b50 <;> first | (intro _; rfl) | (intro h; exact absurd h (by decide))) (by cases b50 <;> first | (intro h; exact absurd h (by decide)) | (intro _; exact ⟨_, rfl, by first | (intro h; cases h; done) | decide | simp⟩)) (fun h => by
            cases b50 with
            | true => exact absurd h (by first | decide | simp)
            | false =>
              refine n_fieldAddr rfl fd230_3 ti2 rfl (by first|simp only[nf,Nat.beq]<;>rfl|rfl) rfl (by first|simp only[nf,Nat.beq]<;>rfl|rfl) ?_
              exact AOps.nil ⟨rfl, rfl, rfl⟩) ?_
        refine n_soft (u := 50) (E := .val (.bool b50)) (!b50) rfl rfl rfl (by first|simp only[nf,Nat.beq]<;>rfl|rfl) (by cases b50 <;> first | (intro _; rfl) | (intro h; exact absurd h (by decide))) (by cases b50 <;> first | (intro h; exact absurd h (by decide)) | (intro _; exact ⟨_, rfl, by first | (intro h; cases h; done) | decide | simp⟩)) (fun h => by
            cases b50 with
            | true => exact absurd h (by first | decide | simp)
            | false =>
              refine n_load rfl ti2 (by first|simp only[nf,Nat.beq]<;>rfl|rfl) (by first|simp only[nf,Nat.beq]<;>rfl|rfl) rfl (by first|simp only[nf,Nat.beq]<;>rfl|rfl) ?_
              exact AOps.nil ⟨rfl, rfl, rfl⟩) ?_
        refine n_soft (u := 50) (E := .val (.bool b50)) (!b50) rfl rfl rfl (by first|simp only[nf,Nat.beq]<;>rfl|rfl) (by cases b50 <;> first | (intro _; rfl) | (intro h; exact absurd h (by decide))) (by cases b50 <;> first | (intro h; exact absurd h (by decide)) | (intro _; exact ⟨_, rfl, by first | (intro h; cases h; done) | decide | simp⟩)) (fun h => by
            cases b50 with
            | true => exact absurd h (by first | decide | simp)
            | false =>
              refine n_fieldAddr rfl fd230_3 ti2 rfl (by first|simp only[nf,Nat.beq]<;>rfl|rfl) rfl (by first|simp only[nf,Nat.beq]<;>rfl|rfl) ?_
              exact AOps.nil ⟨rfl, rfl, rfl⟩) ?_
        refine n_soft (u := 50) (E := .val (.bool b50)) (!b50) rfl rfl rfl (by first|simp only[nf,Nat.beq]<;>rfl|rfl) (by cases b50 <;> first | (intro _; rfl) | (intro h; exact absurd h (by decide))) (by cases b50 <;> first | (intro h; exact absurd h (by decide)) | (intro _; exact ⟨_, rfl, by first | (intro h; cases h; done) | decide | simp⟩)) (fun h => by
            cases b50 with
            | true => exact absurd h (by first | decide | simp)
            | false =>
              refine n_load rfl ti2 (by first|simp only[nf,Nat.beq]<;>rfl|rfl) (by first|simp only[nf,Nat.beq]<;>rfl|rfl) rfl (by first|simp only[nf,Nat.beq]<;>rfl|rfl) ?_
              exact AOps.nil ⟨rfl, rfl, rfl⟩) ?_
        refine n_soft (u := 50) (E := .val (.bool b50)) (!b50) rfl rfl rfl (by first|simp only[nf,Nat.beq]<;>rfl|rfl) (by cases b50 <;> first | (intro _; rfl) | (intro h; exact absurd h (by decide))) (by cases b50 <;> first | (intro h; exact absurd h (by decide)) | (intro _; exact ⟨_, rfl, by first | (intro h; cases h; done) | decide | simp⟩)) (fun h => by
            cases b50 with
            | true => exact absurd h (by first | decide | simp)
            | false =>
              refine n_call0B rfl cf164 rfl (Eq.trans (by simp only [nl] <;> rfl) (by first|simp only[nf,Nat.beq]<;>rfl|rfl)) (by repeat (first | exact .nil | refine .cons ?_ ?_ | exact ren_ints | exact .lf (.val _) | exact .lf (lf_ints (.inl rfl)) | exact .bp ⟨rfl, rfl⟩ | exact .bp (.inl ⟨rfl, rfl⟩) | exact .bp (.inr ⟨rfl, rfl⟩) | exact .lf (lf_tz _) | exact .lf (.agg (flats_lf rfl)) | exact ren_nil0 | exact .lf (lf_fnrp (lf_cons (.val _) lf_nil)) | exact .lf (.rp (lf_cons (.val _) lf_nil)) | exact .bs ⟨rfl, rfl⟩ | exact .lf (D.flat_lf rfl) | exact ren_map (f := spz) (fun _ => rfl) | exact ren_tz | exact .lf (.fn (fun d h => by cases h) (fun d h => by cases h)) | exact .lf (lf_fnrp (lf_rp1 (f := spz) (fun _ => rfl))) | exact .ro (by intro x hx; simp only [List.mem_cons, List.not_mem_nil, or_false] at hx; rcases hx with rfl | rfl <;> exact flats_lf rfl))) (asks _ _ _ (by omega)) (by first | exact .val _ | exact lf_ints (.inl rfl) | exact lf_ints (.inr rfl) | exact .any | exact .tup (lf_cons (lf_tz _) (lf_cons (.val _) lf_nil)) | exact lf_nil0 | exact lf_fnrp (lf_cons (.val _) lf_nil) | exact D.flat_lf rfl | exact lf_map (f := spz) (fun _ => rfl) (.inl rfl) | exact lf_tz _ | exact lf_fnrp (lf_rp1 (f := spz) (fun _ => rfl))) ?_
              exact AOps.nil ⟨rfl, rfl, rfl⟩) ?_
        refine n_soft (u := 50) (E := .val (.bool b50)) (!b50) rfl rfl rfl (by first|simp only[nf,Nat.beq]<;>rfl|rfl) (by cases b50 <;> first | (intro _; rfl) | (intro h; exact absurd h (by decide))) (by cases b50 <;> first | (intro h; exact absurd h (by decide)) | (intro _; exact ⟨_, rfl, by first | (intro h; cases h; done) | decide | simp⟩)) (fun h => by
            cases b50 with
            | true => exact absurd h (by first | decide | simp)
            | false =>
              refine n_not rfl (by first|simp only[nf,Nat.beq]<;>rfl|rfl) rfl ?_
              exact AOps.nil ⟨rfl, rfl, rfl⟩) ?_
        refine n_pick_or rfl (by first|simp only[nf,Nat.beq]<;>rfl|rfl) (fun h => by cases b50 with | true => exact absurd h (by decide) | false => exact (by first|simp only[nf,Nat.beq]<;>rfl|rfl)) ?_
        subst hb43
        subst hb50
        refine AOps.nil ?_
        refine AWP.cond (by first|simp only[nf,Nat.beq]<;>rfl|rfl) (fun hc3 => ?_) (fun hc3 => ?_)
        · try simp only [nh] at hc3
          exfalso
          simp at hc3
        · try simp only [nh] at hc3
          refine AWP.skip ?_
          refine AWP.region ?_
          first | refine n_iadd rfl (by first|simp only[nf,Nat.beq]<;>rfl|rfl) (by first|simp only[nf,Nat.beq]<;>rfl|rfl) rfl (by omega) (by omega) ?_ | refine n_ibin rfl (by first|simp only[nf,Nat.beq]<;>rfl|rfl) (by first|simp only[nf,Nat.beq]<;>rfl|rfl) rfl ?_
          refine n_move rfl (by first|simp only[nf,Nat.beq]<;>rfl|rfl) ?_
          refine AOps.nil ?_
          refine ⟨i + 1, [.box (oz o)], by omega, ?_, by rw [after_next hx]; rfl, by omega⟩
          (repeat (first | exact FLe.empty _ | refine FLe.put ?_ ?_)) <;> first | (simp only [nf, Nat.beq]; done) | rfl | ((try simp only [nf, Nat.beq]); first | rfl | (simp only [List.length_map]; done) | (congr 2; omega; done))
      · try simp only [nh] at hc2
        refine AWP.exit ?_
        refine AWP.seq ?_
        refine AWP.region ?_
        refine n_assign rfl (by first|simp only[nf,Nat.beq]<;>rfl|rfl) ?_
        refine AOps.nil ?_
        refine AWP.ret ?_
        refine fin_pure (.cons (rv_tmp (by first|simp only[nf,Nat.beq]<;>rfl|rfl)) .nil) (by first|simp only[nf,Nat.beq]<;>rfl|rfl) ?_
        first | exact ren_flat rfl rfl | exact ren_flat rfl (congrArg vb (by simp))

end Go.Proofs.Ytanfmpkjcoolmaa.Om
