/- Package offset. -/
import Derived.Test.YtanfmpkjcoolmaaGreatPlainA
import Derived.Test.YtanfmpkjcoolmaaGreatProg
import Derived.KernelRfl
set_option linter.unusedVariables false
set_option linter.unusedSimpArgs false
namespace Go.Proofs.YtanfmpkjcoolmaaGreat.Of
open Go Go.Abs Go.Abs.Tb
attribute [local irreducible] AWP AOps Does

theorem n0OfZ {α : Type} {a b : α} (h : a = b := by first|simp only[nf,Nat.beq]<;>rfl|rfl) : a = b := h
theorem e1OfZ {α : Type} {a b : α} (h : a = b := by exact Eq.trans (by simp only [nl] <;> rfl) n0OfZ) : a = b := h
theorem r2OfZ {ρ σ : Nat → Nat → Prop} {a b : List D} (h : RenAll ρ σ a b := by repeat (first | exact .nil | refine .cons ?_ ?_ | exact ren_ints | exact .lf (.val _) | exact .lf (lf_ints (.inl rfl)) | exact .bp ⟨rfl, rfl⟩ | exact .bp (.inl ⟨rfl, rfl⟩) | exact .bp (.inr ⟨rfl, rfl⟩) | exact .lf (D.flat_lf rfl) | exact ren_map (f := spz) (fun _ => rfl) | exact .lf (lf_tz _) | exact ren_tz | exact .lf (.fn (fun d h => by cases h) (fun d h => by cases h)))) : RenAll ρ σ a b := h
theorem l3OfZ {d : D} (h : LF d := by first | exact .val _ | exact lf_ints (.inl rfl) | exact lf_ints (.inr rfl) | exact .any | exact D.flat_lf rfl | exact lf_map (f := spz) (fun _ => rfl) (.inl rfl) | exact lf_tz _ | exact .tup (lf_cons (lf_tz _) (lf_cons (.val _) lf_nil))) : LF d := h
theorem cf106 : CF Tryz.prog 106 := ⟨_, Tryz.func106, by kernel_rfl, by kernel_rfl⟩
theorem cf107 : CF Tryz.prog 107 := ⟨_, Tryz.func107, by kernel_rfl, by kernel_rfl⟩
theorem cf108 : CF Tryz.prog 108 := ⟨_, Tryz.func108, by kernel_rfl, by kernel_rfl⟩
theorem cf113 : CF Tryz.prog 113 := ⟨_, Tryz.func113, by kernel_rfl, by kernel_rfl⟩
theorem fd49_0 : FD Tryz.prog 49 0 47 0 := ⟨_, _, Tryz.underlying49, rfl, rfl, rfl⟩
theorem fd49_1 : FD Tryz.prog 49 1 2 1 := ⟨_, _, Tryz.underlying49, rfl, rfl, rfl⟩
theorem fd51_0 : FD Tryz.prog 51 0 2 0 := ⟨_, _, Tryz.underlying51, rfl, rfl, rfl⟩
theorem fd51_1 : FD Tryz.prog 51 1 3 1 := ⟨_, _, Tryz.underlying51, rfl, rfl, rfl⟩
theorem fd51_2 : FD Tryz.prog 51 2 2 2 := ⟨_, _, Tryz.underlying51, rfl, rfl, rfl⟩
theorem fd51_3 : FD Tryz.prog 51 3 2 3 := ⟨_, _, Tryz.underlying51, rfl, rfl, rfl⟩
theorem ti2 : TI Tryz.prog 2 1 false := ⟨by kernel_rfl, by kernel_rfl⟩
theorem ti3 : TI Tryz.prog 3 1 false := ⟨by kernel_rfl, by kernel_rfl⟩
theorem ti47 : TI Tryz.prog 47 1 false := ⟨by kernel_rfl, by kernel_rfl⟩
theorem ti49 : TI Tryz.prog 49 2 true := ⟨by kernel_rfl, by kernel_rfl⟩
theorem ti51 : TI Tryz.prog 51 4 true := ⟨by kernel_rfl, by kernel_rfl⟩
theorem zi51 : (Tryz.prog.info? 51).map (·.zero) = some (some (.agg #[.int .i64 0, .int .i64 0, .int .i64 0, .int .i64 0])) := by kernel_rfl

attribute [local irreducible] Tb.nth Tb.fin Tb.last Tb.follows Tb.single Tb.good Tb.chk
theorem l_num (n : Int) : Does Tryz.prog 106 [vi n] [] (vb (num n)) [] := by
 refine Does.of_body (rvs := [.tmp 2]) Tryz.func106 rfl rfl rfl rfl ?_
 refine AWP.sr ?_
 refine n_assign rfl n0OfZ ?_
 refine AOps.nil ?_
 refine AWP.sr ?_
 refine n_move rfl n0OfZ ?_
 refine n_ibin rfl n0OfZ n0OfZ rfl ?_
 refine n_move rfl n0OfZ ?_
 refine AOps.name (u := 5) (fun z => .val (.bool z)) n0OfZ (fun b5 hb5 => ?_)
 refine n_softT b5 rfl rfl rfl n0OfZ (fun h => by
  subst h
  refine n_move rfl n0OfZ ?_
  exact AOps.nil ⟨rfl, rfl, rfl⟩) ?_
 refine n_softT b5 rfl rfl rfl n0OfZ (fun h => by
  subst h
  refine n_ibin rfl n0OfZ n0OfZ rfl ?_
  exact AOps.nil ⟨rfl, rfl, rfl⟩) ?_
 refine n_pick_and rfl n0OfZ (fun h => by cases b5 with | false => exact absurd h (by decide) | true => exact n0OfZ) ?_
 refine n_assign rfl n0OfZ ?_
 subst hb5
 refine AOps.nil ?_
 refine AWP.ret ?_
 refine fin_pure (.cons (rv_tmp n0OfZ) .nil) n0OfZ ?_
 exact ren_flat rfl (congrArg vb (by simp [num]))

theorem l_end (t : Tb) (i : Nat) (hi : i < t.l.length) (hn : t.l.length ≤ 1048576) : Does Tryz.prog 113 [tz t, vi (i : Int)] [] (vi (t.fin i)) [] := by
 refine Does.of_body (rvs := [.tmp 4]) Tryz.func113 rfl rfl rfl rfl ?_
 refine AWP.sr ?_
 refine n_box rfl n0OfZ rfl rfl n0OfZ n0OfZ ?_
 refine n_assign rfl n0OfZ ?_
 refine AOps.nil ?_
 refine AWP.seq ?_
 refine AWP.sr ?_
 refine n_move rfl n0OfZ ?_
 first | refine n_iadd rfl n0OfZ n0OfZ rfl (by omega) (by omega) ?_ | refine n_ibin rfl n0OfZ n0OfZ rfl ?_
 refine n_fieldAddr rfl fd49_0 ti47 rfl n0OfZ rfl n0OfZ ?_
 refine n_load rfl ti47 n0OfZ n0OfZ rfl n0OfZ ?_
 refine n_len rfl Tryz.underlying47 n0OfZ (by first | rw [ints_length] | rw [List.length_map] | rfl) ?_
 refine n_ibin rfl n0OfZ n0OfZ rfl ?_
 refine AOps.nil ?_
 refine AWP.cond n0OfZ (fun hc1 => ?_) (fun hc1 => ?_)
 · try simp only [nh] at hc1
   have hf : t.fin i = (t.nth (i + 1)).p := by unfold fin; rw [if_pos (by omega)]
   have hx := map_at spz (nth_at (t := t) (i := i + 1) (by omega))
   rw [show (((i + 1 : Nat) : Int)) = (i : Int) + 1 from rfl] at hx
   refine AWP.sr ?_
   refine n_fieldAddr rfl fd49_0 ti47 rfl n0OfZ rfl n0OfZ ?_
   refine n_load rfl ti47 n0OfZ n0OfZ rfl n0OfZ ?_
   refine n_move rfl n0OfZ ?_
   first | refine n_iadd rfl n0OfZ n0OfZ rfl (by omega) (by omega) ?_ | refine n_ibin rfl n0OfZ n0OfZ rfl ?_
   refine n_indexAddr rfl Tryz.underlying47 ti51 rfl n0OfZ n0OfZ (by omega) (by exact hx) rfl ?_
   refine n_fieldAddr rfl fd51_2 ti2 rfl n0OfZ rfl n0OfZ ?_
   refine n_load rfl ti2 n0OfZ n0OfZ rfl n0OfZ ?_
   refine n_assign rfl n0OfZ ?_
   refine AOps.nil ?_
   refine AWP.ret ?_
   refine fin_pure (.cons (rv_tmp n0OfZ) .nil) n0OfZ ?_
   rw [hf]; exact ren_flat rfl rfl
 · try simp only [nh] at hc1
   have hf : t.fin i = t.n := by unfold fin; rw [if_neg (by omega)]
   refine AWP.skip ?_
   refine AWP.sr ?_
   refine n_fieldAddr rfl fd49_1 ti2 rfl n0OfZ rfl n0OfZ ?_
   refine n_load rfl ti2 n0OfZ n0OfZ rfl n0OfZ ?_
   refine n_assign rfl n0OfZ ?_
   refine AOps.nil ?_
   refine AWP.ret ?_
   refine fin_pure (.cons (rv_tmp n0OfZ) .nil) n0OfZ ?_
   rw [hf]; exact ren_flat rfl rfl

theorem l_last (t : Tb) (i : Nat) (hb : t.InB i) (hn : t.l.length ≤ 1048576) : Does Tryz.prog 108 [tz t, vi (i : Int)] [] (vi (t.last i)) [] := by
 refine Does.of_body (rvs := [.tmp 4]) Tryz.func108 rfl rfl rfl rfl ?_
 obtain ⟨hi, hp, ho, hf⟩ := hb
 have hx := map_at spz (nth_at (t := t) hi)
 have hen := l_end t i hi hn
 have hla : t.last i = (t.nth i).o + (t.fin i - (t.nth i).p - 1) := by unfold last; rfl
 refine AWP.sr ?_
 refine n_box rfl n0OfZ rfl rfl n0OfZ n0OfZ ?_
 refine n_assign rfl n0OfZ ?_
 refine AOps.nil ?_
 refine AWP.sr ?_
 refine n_fieldAddr rfl fd49_0 ti47 rfl n0OfZ rfl n0OfZ ?_
 refine n_load rfl ti47 n0OfZ n0OfZ rfl n0OfZ ?_
 refine n_move rfl n0OfZ ?_
 refine n_indexAddr rfl Tryz.underlying47 ti51 rfl n0OfZ n0OfZ (by omega) (by exact hx) rfl ?_
 refine n_load rfl ti51 n0OfZ n0OfZ rfl n0OfZ ?_
 refine n_alloc rfl zi51 rfl n0OfZ n0OfZ ?_
 refine n_store ti51 n0OfZ rfl n0OfZ rfl n0OfZ rfl rfl rfl n0OfZ ?_
 refine AOps.nil ?_
 refine AWP.seq ?_
 refine AWP.anyStill (by kernel_rfl) (by kernel_rfl) ?_
 refine Walk.still (rs := [5]) (by rfl) n0OfZ (fun base => by
  refine n_fieldAddr rfl fd51_3 ti2 rfl n0OfZ rfl n0OfZ ?_
  exact AOps.nil ⟨rfl, rfl, rfl⟩) ?_
 refine Walk.still (rs := [11]) (by rfl) n0OfZ (fun base => by
  refine n_load rfl ti2 n0OfZ n0OfZ rfl n0OfZ ?_
  exact AOps.nil ⟨rfl, rfl, rfl⟩) ?_
 refine Walk.still (rs := [2]) (by rfl) n0OfZ (fun base => by
  refine n_load rfl ti49 n0OfZ n0OfZ rfl n0OfZ ?_
  exact AOps.nil ⟨rfl, rfl, rfl⟩) ?_
 refine Walk.still (rs := [1]) (by rfl) n0OfZ (fun base => by
  refine n_move rfl n0OfZ ?_
  exact AOps.nil ⟨rfl, rfl, rfl⟩) ?_
 refine Walk.still (rs := [13, 14]) (by rfl) n0OfZ (fun base => by
  refine n_call0B rfl cf113 rfl e1OfZ r2OfZ (hen) l3OfZ ?_
  exact AOps.nil ⟨rfl, rfl, rfl⟩) ?_
 refine Walk.still (rs := [5]) (by rfl) n0OfZ (fun base => by
  refine n_fieldAddr rfl fd51_2 ti2 rfl n0OfZ rfl n0OfZ ?_
  exact AOps.nil ⟨rfl, rfl, rfl⟩) ?_
 refine Walk.still (rs := [16]) (by rfl) n0OfZ (fun base => by
  refine n_load rfl ti2 n0OfZ n0OfZ rfl n0OfZ ?_
  exact AOps.nil ⟨rfl, rfl, rfl⟩) ?_
 refine Walk.still (rs := [15, 17]) (by rfl) n0OfZ (fun base => by
  first | refine n_isub rfl n0OfZ n0OfZ rfl (by omega) (by omega) ?_ | refine n_ibin rfl n0OfZ n0OfZ rfl ?_
  exact AOps.nil ⟨rfl, rfl, rfl⟩) ?_
 refine Walk.still (rs := [18]) (by rfl) n0OfZ (fun base => by
  first | refine n_isub rfl n0OfZ n0OfZ rfl (by omega) (by omega) ?_ | refine n_ibin rfl n0OfZ n0OfZ rfl ?_
  exact AOps.nil ⟨rfl, rfl, rfl⟩) ?_
 refine Walk.still (rs := [12, 19]) (by rfl) n0OfZ (fun base => by
  first | refine n_iadd rfl n0OfZ n0OfZ rfl (by omega) (by omega) ?_ | refine n_ibin rfl n0OfZ n0OfZ rfl ?_
  exact AOps.nil ⟨rfl, rfl, rfl⟩) ?_
 refine Walk.still (rs := [20]) (by rfl) n0OfZ (fun base => by
  refine n_assign rfl n0OfZ ?_
  exact AOps.nil ⟨rfl, rfl, rfl⟩) ?_
 refine Walk.done ?_
 refine AWP.ret ?_
 refine fin_pure (.cons (rv_tmp n0OfZ) .nil) n0OfZ ?_
 rw [hla]; refine ren_flat rfl (congrArg vi ?_); omega

set_option maxHeartbeats 2000000 in
theorem l_single (t : Tb) (i : Nat) (hi : i < t.l.length) (hn : num t.n = true) (hl : t.l.length ≤ 1048576) : Does Tryz.prog 107 [tz t, vi (i : Int)] [] (vb (t.single i)) [] := by
 refine Does.of_body (rvs := [.tmp 4]) Tryz.func107 rfl rfl rfl rfl ?_
 have hx := map_at spz (nth_at (t := t) hi)
 refine AWP.sr ?_
 refine n_box rfl n0OfZ rfl rfl n0OfZ n0OfZ ?_
 refine n_assign rfl n0OfZ ?_
 refine AOps.nil ?_
 refine AWP.sr ?_
 refine n_fieldAddr rfl fd49_0 ti47 rfl n0OfZ rfl n0OfZ ?_
 refine n_load rfl ti47 n0OfZ n0OfZ rfl n0OfZ ?_
 refine n_move rfl n0OfZ ?_
 refine n_indexAddr rfl Tryz.underlying47 ti51 rfl n0OfZ n0OfZ (by omega) (by exact hx) rfl ?_
 refine n_load rfl ti51 n0OfZ n0OfZ rfl n0OfZ ?_
 refine n_alloc rfl zi51 rfl n0OfZ n0OfZ ?_
 refine n_store ti51 n0OfZ rfl n0OfZ rfl n0OfZ rfl rfl rfl n0OfZ ?_
 refine AOps.nil ?_
 refine AWP.seq ?_
 refine AWP.sr ?_
 refine n_fieldAddr rfl fd51_0 ti2 rfl n0OfZ rfl n0OfZ ?_
 refine n_load rfl ti2 n0OfZ n0OfZ rfl n0OfZ ?_
 refine n_ibin rfl n0OfZ n0OfZ rfl ?_
 refine n_move rfl n0OfZ ?_
 refine AOps.name (u := 14) (fun z => .val (.bool z)) n0OfZ (fun b14 hb14 => ?_)
 refine n_softF b14 rfl rfl rfl n0OfZ (fun h => by
  subst h
  refine n_fieldAddr rfl fd51_0 ti2 rfl n0OfZ rfl n0OfZ ?_
  exact AOps.nil ⟨rfl, rfl, rfl⟩) ?_
 refine n_softF b14 rfl rfl rfl n0OfZ (fun h => by
  subst h
  refine n_load rfl ti2 n0OfZ n0OfZ rfl n0OfZ ?_
  exact AOps.nil ⟨rfl, rfl, rfl⟩) ?_
 refine n_softF b14 rfl rfl rfl n0OfZ (fun h => by
  subst h
  refine n_ibin rfl n0OfZ n0OfZ rfl ?_
  exact AOps.nil ⟨rfl, rfl, rfl⟩) ?_
 refine n_pick_or rfl n0OfZ (fun h => by cases b14 with | true => exact absurd h (by decide) | false => exact n0OfZ) ?_
 refine n_move rfl n0OfZ ?_
 refine AOps.name (u := 19) (fun z => .val (.bool z)) n0OfZ (fun b19 hb19 => ?_)
 refine n_softF b19 rfl rfl rfl n0OfZ (fun h => by
  subst h
  refine n_fieldAddr rfl fd51_1 ti3 rfl n0OfZ rfl n0OfZ ?_
  exact AOps.nil ⟨rfl, rfl, rfl⟩) ?_
 refine n_softF b19 rfl rfl rfl n0OfZ (fun h => by
  subst h
  refine n_load rfl ti3 n0OfZ n0OfZ rfl n0OfZ ?_
  exact AOps.nil ⟨rfl, rfl, rfl⟩) ?_
 refine n_softF b19 rfl rfl rfl n0OfZ (fun h => by
  subst h
  refine n_ibin rfl n0OfZ n0OfZ rfl ?_
  exact AOps.nil ⟨rfl, rfl, rfl⟩) ?_
 refine n_pick_or rfl n0OfZ (fun h => by cases b19 with | true => exact absurd h (by decide) | false => exact n0OfZ) ?_
 refine n_move rfl n0OfZ ?_
 refine AOps.name (u := 24) (fun z => .val (.bool z)) n0OfZ (fun b24 hb24 => ?_)
 refine n_softF b24 rfl rfl rfl n0OfZ (fun h => by
  subst h
  refine n_fieldAddr rfl fd51_1 ti3 rfl n0OfZ rfl n0OfZ ?_
  exact AOps.nil ⟨rfl, rfl, rfl⟩) ?_
 refine n_softF b24 rfl rfl rfl n0OfZ (fun h => by
  subst h
  refine n_load rfl ti3 n0OfZ n0OfZ rfl n0OfZ ?_
  exact AOps.nil ⟨rfl, rfl, rfl⟩) ?_
 refine n_softF b24 rfl rfl rfl n0OfZ (fun h => by
  subst h
  refine n_ibin rfl n0OfZ n0OfZ rfl ?_
  exact AOps.nil ⟨rfl, rfl, rfl⟩) ?_
 refine n_pick_or rfl n0OfZ (fun h => by cases b24 with | true => exact absurd h (by decide) | false => exact n0OfZ) ?_
 refine n_move rfl n0OfZ ?_
 refine AOps.name (u := 29) (fun z => .val (.bool z)) n0OfZ (fun b29 hb29 => ?_)
 refine n_softF b29 rfl rfl rfl n0OfZ (fun h => by
  subst h
  refine n_fieldAddr rfl fd51_2 ti2 rfl n0OfZ rfl n0OfZ ?_
  exact AOps.nil ⟨rfl, rfl, rfl⟩) ?_
 refine n_softF b29 rfl rfl rfl n0OfZ (fun h => by
  subst h
  refine n_load rfl ti2 n0OfZ n0OfZ rfl n0OfZ ?_
  exact AOps.nil ⟨rfl, rfl, rfl⟩) ?_
 refine n_softF b29 rfl rfl rfl n0OfZ (fun h => by
  subst h
  refine n_call0B rfl cf106 rfl e1OfZ r2OfZ (l_num _) l3OfZ ?_
  exact AOps.nil ⟨rfl, rfl, rfl⟩) ?_
 refine n_softF b29 rfl rfl rfl n0OfZ (fun h => by
  subst h
  refine n_not rfl n0OfZ rfl ?_
  exact AOps.nil ⟨rfl, rfl, rfl⟩) ?_
 refine n_pick_or rfl n0OfZ (fun h => by cases b29 with | true => exact absurd h (by decide) | false => exact n0OfZ) ?_
 refine n_move rfl n0OfZ ?_
 refine AOps.name (u := 35) (fun z => .val (.bool z)) n0OfZ (fun b35 hb35 => ?_)
 refine n_softF b35 rfl rfl rfl n0OfZ (fun h => by
  subst h
  refine n_fieldAddr rfl fd51_3 ti2 rfl n0OfZ rfl n0OfZ ?_
  exact AOps.nil ⟨rfl, rfl, rfl⟩) ?_
 refine n_softF b35 rfl rfl rfl n0OfZ (fun h => by
  subst h
  refine n_load rfl ti2 n0OfZ n0OfZ rfl n0OfZ ?_
  exact AOps.nil ⟨rfl, rfl, rfl⟩) ?_
 refine n_softF b35 rfl rfl rfl n0OfZ (fun h => by
  subst h
  refine n_call0B rfl cf106 rfl e1OfZ r2OfZ (l_num _) l3OfZ ?_
  exact AOps.nil ⟨rfl, rfl, rfl⟩) ?_
 refine n_softF b35 rfl rfl rfl n0OfZ (fun h => by
  subst h
  refine n_not rfl n0OfZ rfl ?_
  exact AOps.nil ⟨rfl, rfl, rfl⟩) ?_
 refine n_pick_or rfl n0OfZ (fun h => by cases b35 with | true => exact absurd h (by decide) | false => exact n0OfZ) ?_
 subst hb14
 subst hb19
 subst hb24
 subst hb29
 subst hb35
 refine AOps.nil ?_
 refine AWP.cond n0OfZ (fun hc1 => ?_) (fun hc1 => ?_)
 · try simp only [nh] at hc1
   have hs : sp1 (t.nth i) = false := by cases hq : sp1 (t.nth i) with | false => rfl | true => exfalso; rw [sp1_iff] at hq; simp [num] at hc1; omega
   have hz : t.single i = false := by unfold single; rw [hs]; rfl
   refine AWP.sr ?_
   refine n_assign rfl n0OfZ ?_
   refine AOps.nil ?_
   refine AWP.ret ?_
   refine fin_pure (.cons (rv_tmp n0OfZ) .nil) n0OfZ ?_
   first | (rw [hz]; exact ren_flat rfl rfl) | exact ren_flat rfl (congrArg vb (by unfold single wide; rw [hs, hnx]; simp))
 · try simp only [nh] at hc1
   have hs : sp1 (t.nth i) = true := by rw [sp1_iff]; simp [num] at hc1; omega
   refine AWP.skip ?_
   refine AWP.seq ?_
   refine AWP.sr ?_
   refine n_move rfl n0OfZ ?_
   first | refine n_iadd rfl n0OfZ n0OfZ rfl (by omega) (by omega) ?_ | refine n_ibin rfl n0OfZ n0OfZ rfl ?_
   refine n_fieldAddr rfl fd49_0 ti47 rfl n0OfZ rfl n0OfZ ?_
   refine n_load rfl ti47 n0OfZ n0OfZ rfl n0OfZ ?_
   refine n_len rfl Tryz.underlying47 n0OfZ (by first | rw [ints_length] | rw [List.length_map] | rfl) ?_
   refine n_ibin rfl n0OfZ n0OfZ rfl ?_
   refine n_move rfl n0OfZ ?_
   refine AOps.split (u := 47) n0OfZ (fun hg2 => ?_) (fun hg2 => ?_)
   · try simp only [nh] at hg2
     have hx1 := map_at spz (nth_at (t := t) (i := i + 1) (by omega))
     rw [show (((i + 1 : Nat) : Int)) = (i : Int) + 1 from rfl] at hx1
     refine n_guard_yes rfl rfl rfl n0OfZ rfl ?_
     refine n_fieldAddr rfl fd49_0 ti47 rfl n0OfZ rfl n0OfZ ?_
     refine n_guard_yes rfl rfl rfl n0OfZ rfl ?_
     refine n_load rfl ti47 n0OfZ n0OfZ rfl n0OfZ ?_
     refine n_guard_yes rfl rfl rfl n0OfZ rfl ?_
     refine n_move rfl n0OfZ ?_
     refine n_guard_yes rfl rfl rfl n0OfZ rfl ?_
     first | refine n_iadd rfl n0OfZ n0OfZ rfl (by omega) (by omega) ?_ | refine n_ibin rfl n0OfZ n0OfZ rfl ?_
     refine n_guard_yes rfl rfl rfl n0OfZ rfl ?_
     refine n_indexAddr rfl Tryz.underlying47 ti51 rfl n0OfZ n0OfZ (by omega) (by exact hx1) rfl ?_
     refine n_guard_yes rfl rfl rfl n0OfZ rfl ?_
     refine n_fieldAddr rfl fd51_2 ti2 rfl n0OfZ rfl n0OfZ ?_
     refine n_guard_yes rfl rfl rfl n0OfZ rfl ?_
     refine n_load rfl ti2 n0OfZ n0OfZ rfl n0OfZ ?_
     refine n_guard_yes rfl rfl rfl n0OfZ rfl ?_
     refine n_call0B rfl cf106 rfl e1OfZ r2OfZ (l_num _) l3OfZ ?_
     refine n_guard_yes rfl rfl rfl n0OfZ rfl ?_
     refine n_not rfl n0OfZ rfl ?_
     refine n_pick rfl n0OfZ n0OfZ ?_
     refine AOps.nil ?_
     refine AWP.cond n0OfZ (fun hc3 => ?_) (fun hc3 => ?_)
     · try simp only [nh] at hc3
       have hz : t.single i = false := by unfold single; rw [show (decide (t.l.length ≤ i + 1) || num (t.nth (i + 1)).p) = false by rw [Bool.or_eq_false_iff, decide_eq_false_iff_not]; exact ⟨by omega, by simpa using hc3⟩]; simp
       refine AWP.sr ?_
       refine n_assign rfl n0OfZ ?_
       refine AOps.nil ?_
       refine AWP.ret ?_
       refine fin_pure (.cons (rv_tmp n0OfZ) .nil) n0OfZ ?_
       first | (rw [hz]; exact ren_flat rfl rfl) | exact ren_flat rfl (congrArg vb (by unfold single wide; rw [hs, hnx]; simp))
     try simp only [nh] at hc3
     have hnx : (decide (t.l.length ≤ i + 1) || num (t.nth (i + 1)).p) = true := by rw [Bool.or_eq_true]; right; simpa using hc3
     have hib := inb_of hn hi hs hnx
     have hla := l_last t i hib hl
     have hen := l_end t i hi hl
     refine AWP.skip ?_
     refine AWP.seq ?_
     refine AWP.anyStill (by kernel_rfl) (by kernel_rfl) ?_
     refine Walk.still (rs := [2]) (by rfl) n0OfZ (fun base => by
      refine n_load rfl ti49 n0OfZ n0OfZ rfl n0OfZ ?_
      exact AOps.nil ⟨rfl, rfl, rfl⟩) ?_
     refine Walk.still (rs := [1]) (by rfl) n0OfZ (fun base => by
      refine n_move rfl n0OfZ ?_
      exact AOps.nil ⟨rfl, rfl, rfl⟩) ?_
     refine Walk.still (rs := [58, 59]) (by rfl) n0OfZ (fun base => by
      refine n_call0B rfl cf113 rfl e1OfZ r2OfZ (hen) l3OfZ ?_
      exact AOps.nil ⟨rfl, rfl, rfl⟩) ?_
     refine Walk.still (rs := [5]) (by rfl) n0OfZ (fun base => by
      refine n_fieldAddr rfl fd51_2 ti2 rfl n0OfZ rfl n0OfZ ?_
      exact AOps.nil ⟨rfl, rfl, rfl⟩) ?_
     refine Walk.still (rs := [61]) (by rfl) n0OfZ (fun base => by
      refine n_load rfl ti2 n0OfZ n0OfZ rfl n0OfZ ?_
      exact AOps.nil ⟨rfl, rfl, rfl⟩) ?_
     refine Walk.still (rs := [60, 62]) (by rfl) n0OfZ (fun base => by
      refine n_ibin rfl n0OfZ n0OfZ rfl ?_
      exact AOps.nil ⟨rfl, rfl, rfl⟩) ?_
     refine Walk.still (rs := [63]) (by rfl) n0OfZ (fun base => by
      refine n_move rfl n0OfZ ?_
      exact AOps.nil ⟨rfl, rfl, rfl⟩) ?_
     refine Walk.name (u := 64) (fun z => .val (.bool z)) n0OfZ (fun b64 hb64 => ?_)
     refine Walk.still (rs := [2, 64]) (by rfl) n0OfZ (fun base => by
      refine n_softT b64 rfl rfl rfl n0OfZ (fun h => by
       subst h
       refine n_load rfl ti49 n0OfZ n0OfZ rfl n0OfZ ?_
       exact AOps.nil ⟨rfl, rfl, rfl⟩) (AOps.nil ⟨rfl, rfl, rfl⟩)) ?_
     refine Walk.still (rs := [1, 64]) (by rfl) n0OfZ (fun base => by
      refine n_softT b64 rfl rfl rfl n0OfZ (fun h => by
       subst h
       refine n_move rfl n0OfZ ?_
       exact AOps.nil ⟨rfl, rfl, rfl⟩) (AOps.nil ⟨rfl, rfl, rfl⟩)) ?_
     refine Walk.still (rs := [65, 66, 64]) (by rfl) n0OfZ (fun base => by
      refine n_softT b64 rfl rfl rfl n0OfZ (fun h => by
       subst h
       refine n_call0B rfl cf108 rfl e1OfZ r2OfZ (hla) l3OfZ ?_
       exact AOps.nil ⟨rfl, rfl, rfl⟩) (AOps.nil ⟨rfl, rfl, rfl⟩)) ?_
     refine Walk.still (rs := [67, 64]) (by rfl) n0OfZ (fun base => by
      refine n_softT b64 rfl rfl rfl n0OfZ (fun h => by
       subst h
       refine n_ibin rfl n0OfZ n0OfZ rfl ?_
       exact AOps.nil ⟨rfl, rfl, rfl⟩) (AOps.nil ⟨rfl, rfl, rfl⟩)) ?_
     refine Walk.still (rs := [64, 68]) (by rfl) n0OfZ (fun base => by
      refine n_pick_and rfl n0OfZ (fun h => by cases b64 with | false => exact absurd h (by decide) | true => exact n0OfZ) ?_
      exact AOps.nil ⟨rfl, rfl, rfl⟩) ?_
     refine Walk.still (rs := [69]) (by rfl) n0OfZ (fun base => by
      refine n_assign rfl n0OfZ ?_
      exact AOps.nil ⟨rfl, rfl, rfl⟩) ?_
     subst hb64
     refine Walk.done ?_
     refine AWP.ret ?_
     refine fin_pure (.cons (rv_tmp n0OfZ) .nil) n0OfZ ?_
     first | (rw [hz]; exact ren_flat rfl rfl) | exact ren_flat rfl (congrArg vb (by unfold single wide; rw [hs, hnx]; simp))
   · try simp only [nh] at hg2
     have hnx : (decide (t.l.length ≤ i + 1) || num (t.nth (i + 1)).p) = true := by rw [Bool.or_eq_true, decide_eq_true_eq]; left; omega
     have hib := inb_of hn hi hs hnx
     have hla := l_last t i hib hl
     have hen := l_end t i hi hl
     refine n_guard_no rfl rfl rfl n0OfZ rfl ?_
     refine n_guard_no rfl rfl rfl n0OfZ rfl ?_
     refine n_guard_no rfl rfl rfl n0OfZ rfl ?_
     refine n_guard_no rfl rfl rfl n0OfZ rfl ?_
     refine n_guard_no rfl rfl rfl n0OfZ rfl ?_
     refine n_guard_no rfl rfl rfl n0OfZ rfl ?_
     refine n_guard_no rfl rfl rfl n0OfZ rfl ?_
     refine n_guard_no rfl rfl rfl n0OfZ rfl ?_
     refine n_guard_no rfl rfl rfl n0OfZ rfl ?_
     refine n_pick rfl n0OfZ n0OfZ ?_
     refine AOps.nil ?_
     refine AWP.cond_false n0OfZ ?_
     refine AWP.skip ?_
     refine AWP.seq ?_
     refine AWP.anyStill (by kernel_rfl) (by kernel_rfl) ?_
     refine Walk.still (rs := [2]) (by rfl) n0OfZ (fun base => by
      refine n_load rfl ti49 n0OfZ n0OfZ rfl n0OfZ ?_
      exact AOps.nil ⟨rfl, rfl, rfl⟩) ?_
     refine Walk.still (rs := [1]) (by rfl) n0OfZ (fun base => by
      refine n_move rfl n0OfZ ?_
      exact AOps.nil ⟨rfl, rfl, rfl⟩) ?_
     refine Walk.still (rs := [58, 59]) (by rfl) n0OfZ (fun base => by
      refine n_call0B rfl cf113 rfl e1OfZ r2OfZ (hen) l3OfZ ?_
      exact AOps.nil ⟨rfl, rfl, rfl⟩) ?_
     refine Walk.still (rs := [5]) (by rfl) n0OfZ (fun base => by
      refine n_fieldAddr rfl fd51_2 ti2 rfl n0OfZ rfl n0OfZ ?_
      exact AOps.nil ⟨rfl, rfl, rfl⟩) ?_
     refine Walk.still (rs := [61]) (by rfl) n0OfZ (fun base => by
      refine n_load rfl ti2 n0OfZ n0OfZ rfl n0OfZ ?_
      exact AOps.nil ⟨rfl, rfl, rfl⟩) ?_
     refine Walk.still (rs := [60, 62]) (by rfl) n0OfZ (fun base => by
      refine n_ibin rfl n0OfZ n0OfZ rfl ?_
      exact AOps.nil ⟨rfl, rfl, rfl⟩) ?_
     refine Walk.still (rs := [63]) (by rfl) n0OfZ (fun base => by
      refine n_move rfl n0OfZ ?_
      exact AOps.nil ⟨rfl, rfl, rfl⟩) ?_
     refine Walk.name (u := 64) (fun z => .val (.bool z)) n0OfZ (fun b64 hb64 => ?_)
     refine Walk.still (rs := [2, 64]) (by rfl) n0OfZ (fun base => by
      refine n_softT b64 rfl rfl rfl n0OfZ (fun h => by
       subst h
       refine n_load rfl ti49 n0OfZ n0OfZ rfl n0OfZ ?_
       exact AOps.nil ⟨rfl, rfl, rfl⟩) (AOps.nil ⟨rfl, rfl, rfl⟩)) ?_
     refine Walk.still (rs := [1, 64]) (by rfl) n0OfZ (fun base => by
      refine n_softT b64 rfl rfl rfl n0OfZ (fun h => by
       subst h
       refine n_move rfl n0OfZ ?_
       exact AOps.nil ⟨rfl, rfl, rfl⟩) (AOps.nil ⟨rfl, rfl, rfl⟩)) ?_
     refine Walk.still (rs := [65, 66, 64]) (by rfl) n0OfZ (fun base => by
      refine n_softT b64 rfl rfl rfl n0OfZ (fun h => by
       subst h
       refine n_call0B rfl cf108 rfl e1OfZ r2OfZ (hla) l3OfZ ?_
       exact AOps.nil ⟨rfl, rfl, rfl⟩) (AOps.nil ⟨rfl, rfl, rfl⟩)) ?_
     refine Walk.still (rs := [67, 64]) (by rfl) n0OfZ (fun base => by
      refine n_softT b64 rfl rfl rfl n0OfZ (fun h => by
       subst h
       refine n_ibin rfl n0OfZ n0OfZ rfl ?_
       exact AOps.nil ⟨rfl, rfl, rfl⟩) (AOps.nil ⟨rfl, rfl, rfl⟩)) ?_
     refine Walk.still (rs := [64, 68]) (by rfl) n0OfZ (fun base => by
      refine n_pick_and rfl n0OfZ (fun h => by cases b64 with | false => exact absurd h (by decide) | true => exact n0OfZ) ?_
      exact AOps.nil ⟨rfl, rfl, rfl⟩) ?_
     refine Walk.still (rs := [69]) (by rfl) n0OfZ (fun base => by
      refine n_assign rfl n0OfZ ?_
      exact AOps.nil ⟨rfl, rfl, rfl⟩) ?_
     subst hb64
     refine Walk.done ?_
     refine AWP.ret ?_
     refine fin_pure (.cons (rv_tmp n0OfZ) .nil) n0OfZ ?_
     first | (rw [hz]; exact ren_flat rfl rfl) | exact ren_flat rfl (congrArg vb (by unfold single wide; rw [hs, hnx]; simp))

set_option maxHeartbeats 4000000 in
theorem l_chk (t : Tb) (hl : t.l.length ≤ 1048576) : Does Tryz.prog 91 [tz t] [] (vi t.chk) [] := by
 refine Does.of_body (rvs := [.tmp 2]) Tryz.func91 rfl rfl rfl rfl ?_
 refine AWP.sr ?_
 refine n_box rfl n0OfZ rfl rfl n0OfZ n0OfZ ?_
 refine n_assign rfl n0OfZ ?_
 refine AOps.nil ?_
 refine AWP.seq ?_
 refine AWP.sr ?_
 refine n_fieldAddr rfl fd49_1 ti2 rfl n0OfZ rfl n0OfZ ?_
 refine n_load rfl ti2 n0OfZ n0OfZ rfl n0OfZ ?_
 refine n_call0B rfl cf106 rfl e1OfZ r2OfZ (l_num _) l3OfZ ?_
 refine n_not rfl n0OfZ rfl ?_
 refine n_move rfl n0OfZ ?_
 refine AOps.name (u := 11) (fun z => .val (.bool z)) n0OfZ (fun b11 hb11 => ?_)
 refine n_softF b11 rfl rfl rfl n0OfZ (fun h => by
  subst h
  refine n_fieldAddr rfl fd49_0 ti47 rfl n0OfZ rfl n0OfZ ?_
  exact AOps.nil ⟨rfl, rfl, rfl⟩) ?_
 refine n_softF b11 rfl rfl rfl n0OfZ (fun h => by
  subst h
  refine n_load rfl ti47 n0OfZ n0OfZ rfl n0OfZ ?_
  exact AOps.nil ⟨rfl, rfl, rfl⟩) ?_
 refine n_softF b11 rfl rfl rfl n0OfZ (fun h => by
  subst h
  refine n_len rfl Tryz.underlying47 n0OfZ (by first | rw [ints_length] | rw [List.length_map] | rfl) ?_
  exact AOps.nil ⟨rfl, rfl, rfl⟩) ?_
 refine n_softF b11 rfl rfl rfl n0OfZ (fun h => by
  subst h
  refine n_ibin rfl n0OfZ n0OfZ rfl ?_
  exact AOps.nil ⟨rfl, rfl, rfl⟩) ?_
 refine n_pick_or rfl n0OfZ (fun h => by cases b11 with | true => exact absurd h (by decide) | false => exact n0OfZ) ?_
 subst hb11
 refine AOps.nil ?_
 refine AWP.cond n0OfZ (fun hc1 => ?_) (fun hc1 => ?_)
 · try simp only [nh] at hc1
   have hz : t.chk = 200 := chk_num (by simp at hc1; rcases hc1 with h | h; left; exact h; right; omega)
   refine AWP.sr ?_
   refine n_assign rfl n0OfZ ?_
   refine AOps.nil ?_
   refine AWP.ret ?_
   refine fin_pure (.cons (rv_tmp n0OfZ) .nil) n0OfZ ?_
   first | (rw [hz]; exact ren_flat rfl rfl) | (have hz : t.chk = 200 := chk_no hil (okAt_false (fun h => by rw [okAt_iff] at h; have h8 := h.2; omega)); rw [hz]; exact ren_flat rfl rfl)
 · try simp only [nh] at hc1
   have hnn : num t.n = true ∧ t.l.length ≤ 4096 := by simp at hc1; exact ⟨hc1.1, by omega⟩
   refine AWP.skip ?_
   refine AWP.seq ?_
   refine AWP.sr ?_
   refine n_fieldAddr rfl fd49_0 ti47 rfl n0OfZ rfl n0OfZ ?_
   refine n_load rfl ti47 n0OfZ n0OfZ rfl n0OfZ ?_
   refine n_len rfl Tryz.underlying47 n0OfZ (by first | rw [ints_length] | rw [List.length_map] | rfl) ?_
   refine n_move rfl n0OfZ ?_
   refine AOps.nil ?_
   refine AWP.block ?_
   refine AWP.loopX 1 (α := Nat) (fun i => i ≤ t.l.length ∧ ∀ j, j < i → t.okAt j = true) (fun i => put (put (put (put empty 1 (.bp 0 0)) 18 (.sl none (t.l.map spz) .ro)) 19 (vi (t.l.length : Int))) 20 (vi (i : Int))) (fun _ => [.box [(.sl none (t.l.map spz) .ro), vi t.n]]) (fun i => t.l.length - i) 0 ?_ ?_ ?_ ?_ ?_ ?_ ?_
   · exact ⟨Nat.zero_le _, fun j h => by omega⟩
   · (repeat (first | exact FLe.empty _ | refine FLe.put ?_ ?_)) <;> first | (simp only [nf, Nat.beq]; done) | rfl | ((try simp only [nf, Nat.beq]); first | rfl | (simp only [List.length_map]; done) | (congr 2; omega; done))
   · rfl
   · exact fun _ => rfl
   · intro p hp; (try dsimp only); (repeat' (refine un_put ?_ ?_)) <;> first | exact un_empty | exact .bp (by decide) | exact .lf (D.flat_lf rfl) | exact .lf (lf_ints (.inl rfl)) | exact .lf (lf_map (fun _ => rfl) (.inl rfl))
   · intro p hp; (try dsimp only); repeat' (first | exact un_nil | refine un_cons ?_ ?_ | exact un_box rfl | exact un_boxL (lf_cons (lf_map (f := spz) (fun _ => rfl) (.inl rfl)) (lf_cons (.val _) lf_nil)))
   · rintro i ⟨hi, hj⟩
     try dsimp only at hi hj ⊢
     refine AWP.sr ?_
     refine n_ibin rfl n0OfZ n0OfZ rfl ?_
     refine AOps.nil ?_
     refine AWP.seq ?_
     refine AWP.cond n0OfZ (fun hc2 => ?_) (fun hc2 => ?_)
     · try simp only [nh] at hc2
       have hil : i < t.l.length := by omega
       have hx := map_at spz (nth_at (t := t) hil)
       have hsg := l_single t i hil hnn.1 hl
       refine AWP.skip ?_
       refine AWP.seq ?_
       refine AWP.block ?_
       refine AWP.sr ?_
       refine n_move rfl n0OfZ ?_
       refine n_indexAddr rfl Tryz.underlying47 ti51 rfl n0OfZ n0OfZ (by omega) (by exact hx) rfl ?_
       refine n_load rfl ti51 n0OfZ n0OfZ rfl n0OfZ ?_
       refine n_alloc rfl zi51 rfl n0OfZ n0OfZ ?_
       refine n_assign rfl n0OfZ ?_
       refine n_store ti51 n0OfZ rfl n0OfZ rfl n0OfZ rfl rfl rfl n0OfZ ?_
       refine AOps.nil ?_
       refine AWP.seq ?_
       refine AWP.sr ?_
       refine n_load rfl ti49 n0OfZ n0OfZ rfl n0OfZ ?_
       refine n_move rfl n0OfZ ?_
       refine n_call0B rfl cf107 rfl e1OfZ r2OfZ (hsg) l3OfZ ?_
       refine n_not rfl n0OfZ rfl ?_
       refine AOps.nil ?_
       refine AWP.cond n0OfZ (fun hc3 => ?_) (fun hc3 => ?_)
       · try simp only [nh] at hc3
         have hz : t.chk = 200 := chk_no hil (okAt_false (fun h => by rw [okAt_iff] at h; have := h.1; simp [this] at hc3))
         refine AWP.sr ?_
         refine n_assign rfl n0OfZ ?_
         refine AOps.nil ?_
         refine AWP.ret ?_
         refine fin_pure (.cons (rv_tmp n0OfZ) .nil) n0OfZ ?_
         first | (rw [hz]; exact ren_flat rfl rfl) | (have hz : t.chk = 200 := chk_no hil (okAt_false (fun h => by rw [okAt_iff] at h; have h8 := h.2; omega)); rw [hz]; exact ren_flat rfl rfl)
       try simp only [nh] at hc3
       have hsi : t.single i = true := by simpa using hc3
       refine AWP.skip ?_
       refine AWP.seq ?_
       refine AWP.sr ?_
       refine n_move rfl n0OfZ ?_
       refine n_ibin rfl n0OfZ n0OfZ rfl ?_
       refine AOps.nil ?_
       refine AWP.cond n0OfZ (fun hc4 => ?_) (fun hc4 => ?_)
       · try simp only [nh] at hc4
         refine AWP.exit ?_
         refine AWP.region ?_
         first | refine n_iadd rfl n0OfZ n0OfZ rfl (by omega) (by omega) ?_ | refine n_ibin rfl n0OfZ n0OfZ rfl ?_
         refine n_move rfl n0OfZ ?_
         refine AOps.nil ?_
         refine ⟨i + 1, _, ⟨by omega, fun j hj1 => ?_⟩, ?_, rfl, by omega⟩
         · rcases Nat.lt_or_ge j i with h9 | h9
           · exact hj j h9
           obtain rfl : j = i := by omega
           rw [okAt_iff]; refine ⟨hsi, ?_⟩; first | omega | (exfalso; simp_all; done) | (simp only [Bool.and_eq_false_iff, beq_eq_false_iff_ne, bne_eq_false_iff_eq, ne_eq] at *; omega) | grind
         (repeat (first | exact FLe.empty _ | refine FLe.put ?_ ?_)) <;> first | (simp only [nf, Nat.beq]; done) | rfl | ((try simp only [nf, Nat.beq]); first | rfl | (simp only [List.length_map]; done) | (congr 2; omega; done))
       try simp only [nh] at hc4
       have hi1 : ((i - 1 : Nat) : Int) = (i : Int) - 1 := by omega
       have hx1 := map_at spz (nth_at (t := t) (i := i - 1) (by omega))
       rw [hi1] at hx1
       have hla := l_last t (i - 1) (single_in hnn.1 (by omega) (okAt_iff.1 (hj (i - 1) (by omega))).1) hl
       rw [hi1] at hla
       have hlb := single_last hnn.1 (by omega) (okAt_iff.1 (hj (i - 1) (by omega))).1
       refine AWP.skip ?_
       refine AWP.sr ?_
       refine n_fieldAddr rfl fd49_0 ti47 rfl n0OfZ rfl n0OfZ ?_
       refine n_load rfl ti47 n0OfZ n0OfZ rfl n0OfZ ?_
       refine n_move rfl n0OfZ ?_
       first | refine n_isub rfl n0OfZ n0OfZ rfl (by omega) (by omega) ?_ | refine n_ibin rfl n0OfZ n0OfZ rfl ?_
       refine n_indexAddr rfl Tryz.underlying47 ti51 rfl n0OfZ n0OfZ (by omega) (by exact hx1) rfl ?_
       refine n_load rfl ti51 n0OfZ n0OfZ rfl n0OfZ ?_
       refine n_alloc rfl zi51 rfl n0OfZ n0OfZ ?_
       refine n_store ti51 n0OfZ rfl n0OfZ rfl n0OfZ rfl rfl rfl n0OfZ ?_
       refine AOps.nil ?_
       refine AWP.sr ?_
       refine n_fieldAddr rfl fd51_0 ti2 rfl n0OfZ rfl n0OfZ ?_
       refine n_load rfl ti2 n0OfZ n0OfZ rfl n0OfZ ?_
       refine n_fieldAddr rfl fd51_0 ti2 rfl n0OfZ rfl n0OfZ ?_
       refine n_load rfl ti2 n0OfZ n0OfZ rfl n0OfZ ?_
       refine n_ibin rfl n0OfZ n0OfZ rfl ?_
       refine n_move rfl n0OfZ ?_
       refine AOps.name (u := 42) (fun z => .val (.bool z)) n0OfZ (fun b42 hb42 => ?_)
       refine n_softT b42 rfl rfl rfl n0OfZ (fun h => by
        subst h
        refine n_fieldAddr rfl fd51_1 ti3 rfl n0OfZ rfl n0OfZ ?_
        exact AOps.nil ⟨rfl, rfl, rfl⟩) ?_
       refine n_softT b42 rfl rfl rfl n0OfZ (fun h => by
        subst h
        refine n_load rfl ti3 n0OfZ n0OfZ rfl n0OfZ ?_
        exact AOps.nil ⟨rfl, rfl, rfl⟩) ?_
       refine n_softT b42 rfl rfl rfl n0OfZ (fun h => by
        subst h
        refine n_fieldAddr rfl fd51_1 ti3 rfl n0OfZ rfl n0OfZ ?_
        exact AOps.nil ⟨rfl, rfl, rfl⟩) ?_
       refine n_softT b42 rfl rfl rfl n0OfZ (fun h => by
        subst h
        refine n_load rfl ti3 n0OfZ n0OfZ rfl n0OfZ ?_
        exact AOps.nil ⟨rfl, rfl, rfl⟩) ?_
       refine n_softT b42 rfl rfl rfl n0OfZ (fun h => by
        subst h
        refine n_ibin rfl n0OfZ n0OfZ rfl ?_
        exact AOps.nil ⟨rfl, rfl, rfl⟩) ?_
       refine n_pick_and rfl n0OfZ (fun h => by cases b42 with | false => exact absurd h (by decide) | true => exact n0OfZ) ?_
       refine n_assign rfl n0OfZ ?_
       subst hb42
       refine AOps.nil ?_
       refine AWP.block ?_
       refine AWP.seq ?_
       refine AWP.sr ?_
       refine n_fieldAddr rfl fd51_0 ti2 rfl n0OfZ rfl n0OfZ ?_
       refine n_load rfl ti2 n0OfZ n0OfZ rfl n0OfZ ?_
       refine n_fieldAddr rfl fd51_0 ti2 rfl n0OfZ rfl n0OfZ ?_
       refine n_load rfl ti2 n0OfZ n0OfZ rfl n0OfZ ?_
       refine n_ibin rfl n0OfZ n0OfZ rfl ?_
       refine n_assign rfl n0OfZ ?_
       refine AOps.nil ?_
       refine AWP.cond n0OfZ (fun hc5 => ?_) (fun hc5 => ?_)
       · try simp only [nh] at hc5
         refine AWP.skip ?_
         refine AWP.cond n0OfZ (fun hc6 => ?_) (fun hc6 => ?_)
         · try simp only [nh] at hc6
           refine AWP.sr ?_
           refine n_assign rfl n0OfZ ?_
           refine AOps.nil ?_
           refine AWP.ret ?_
           refine fin_pure (.cons (rv_tmp n0OfZ) .nil) n0OfZ ?_
           first | (rw [hz]; exact ren_flat rfl rfl) | (have hz : t.chk = 200 := chk_no hil (okAt_false (fun h => by rw [okAt_iff] at h; have h8 := h.2; omega)); rw [hz]; exact ren_flat rfl rfl)
         try simp only [nh] at hc6
         refine AWP.skip ?_
         refine AWP.region ?_
         first | refine n_iadd rfl n0OfZ n0OfZ rfl (by omega) (by omega) ?_ | refine n_ibin rfl n0OfZ n0OfZ rfl ?_
         refine n_move rfl n0OfZ ?_
         refine AOps.nil ?_
         refine ⟨i + 1, _, ⟨by omega, fun j hj1 => ?_⟩, ?_, rfl, by omega⟩
         · rcases Nat.lt_or_ge j i with h9 | h9
           · exact hj j h9
           obtain rfl : j = i := by omega
           rw [okAt_iff]; refine ⟨hsi, ?_⟩; first | omega | (exfalso; simp_all; done) | (simp only [Bool.and_eq_false_iff, beq_eq_false_iff_ne, bne_eq_false_iff_eq, ne_eq] at *; omega) | grind
         (repeat (first | exact FLe.empty _ | refine FLe.put ?_ ?_)) <;> first | (simp only [nf, Nat.beq]; done) | rfl | ((try simp only [nf, Nat.beq]); first | rfl | (simp only [List.length_map]; done) | (congr 2; omega; done))
       try simp only [nh] at hc5
       refine AWP.sr ?_
       refine n_fieldAddr rfl fd51_0 ti2 rfl n0OfZ rfl n0OfZ ?_
       refine n_load rfl ti2 n0OfZ n0OfZ rfl n0OfZ ?_
       refine n_fieldAddr rfl fd51_0 ti2 rfl n0OfZ rfl n0OfZ ?_
       refine n_load rfl ti2 n0OfZ n0OfZ rfl n0OfZ ?_
       refine n_ibin rfl n0OfZ n0OfZ rfl ?_
       refine n_move rfl n0OfZ ?_
       refine AOps.name (u := 60) (fun z => .val (.bool z)) n0OfZ (fun b60 hb60 => ?_)
       refine n_softT b60 rfl rfl rfl n0OfZ (fun h => by
        subst h
        refine n_fieldAddr rfl fd51_1 ti3 rfl n0OfZ rfl n0OfZ ?_
        exact AOps.nil ⟨rfl, rfl, rfl⟩) ?_
       refine n_softT b60 rfl rfl rfl n0OfZ (fun h => by
        subst h
        refine n_load rfl ti3 n0OfZ n0OfZ rfl n0OfZ ?_
        exact AOps.nil ⟨rfl, rfl, rfl⟩) ?_
       refine n_softT b60 rfl rfl rfl n0OfZ (fun h => by
        subst h
        refine n_fieldAddr rfl fd51_1 ti3 rfl n0OfZ rfl n0OfZ ?_
        exact AOps.nil ⟨rfl, rfl, rfl⟩) ?_
       refine n_softT b60 rfl rfl rfl n0OfZ (fun h => by
        subst h
        refine n_load rfl ti3 n0OfZ n0OfZ rfl n0OfZ ?_
        exact AOps.nil ⟨rfl, rfl, rfl⟩) ?_
       refine n_softT b60 rfl rfl rfl n0OfZ (fun h => by
        subst h
        refine n_ibin rfl n0OfZ n0OfZ rfl ?_
        exact AOps.nil ⟨rfl, rfl, rfl⟩) ?_
       refine n_pick_and rfl n0OfZ (fun h => by cases b60 with | false => exact absurd h (by decide) | true => exact n0OfZ) ?_
       refine n_assign rfl n0OfZ ?_
       subst hb60
       refine AOps.nil ?_
       refine AWP.cond n0OfZ (fun hc7 => ?_) (fun hc7 => ?_)
       · try simp only [nh] at hc7
         refine AWP.skip ?_
         refine AWP.cond n0OfZ (fun hc8 => ?_) (fun hc8 => ?_)
         · try simp only [nh] at hc8
           refine AWP.sr ?_
           refine n_assign rfl n0OfZ ?_
           refine AOps.nil ?_
           refine AWP.ret ?_
           refine fin_pure (.cons (rv_tmp n0OfZ) .nil) n0OfZ ?_
           first | (rw [hz]; exact ren_flat rfl rfl) | (have hz : t.chk = 200 := chk_no hil (okAt_false (fun h => by rw [okAt_iff] at h; have h8 := h.2; omega)); rw [hz]; exact ren_flat rfl rfl)
         try simp only [nh] at hc8
         refine AWP.skip ?_
         refine AWP.region ?_
         first | refine n_iadd rfl n0OfZ n0OfZ rfl (by omega) (by omega) ?_ | refine n_ibin rfl n0OfZ n0OfZ rfl ?_
         refine n_move rfl n0OfZ ?_
         refine AOps.nil ?_
         refine ⟨i + 1, _, ⟨by omega, fun j hj1 => ?_⟩, ?_, rfl, by omega⟩
         · rcases Nat.lt_or_ge j i with h9 | h9
           · exact hj j h9
           obtain rfl : j = i := by omega
           rw [okAt_iff]; refine ⟨hsi, ?_⟩; first | omega | (exfalso; simp_all; done) | (simp only [Bool.and_eq_false_iff, beq_eq_false_iff_ne, bne_eq_false_iff_eq, ne_eq] at *; omega) | grind
         (repeat (first | exact FLe.empty _ | refine FLe.put ?_ ?_)) <;> first | (simp only [nf, Nat.beq]; done) | rfl | ((try simp only [nf, Nat.beq]); first | rfl | (simp only [List.length_map]; done) | (congr 2; omega; done))
       try simp only [nh] at hc7
       refine AWP.seq ?_
       refine AWP.anyStill (by kernel_rfl) (by kernel_rfl) ?_
       refine Walk.still (rs := [4]) (by rfl) n0OfZ (fun base => by
        refine n_fieldAddr rfl fd51_3 ti2 rfl n0OfZ rfl n0OfZ ?_
        exact AOps.nil ⟨rfl, rfl, rfl⟩) ?_
       refine Walk.still (rs := [67]) (by rfl) n0OfZ (fun base => by
        refine n_load rfl ti2 n0OfZ n0OfZ rfl n0OfZ ?_
        exact AOps.nil ⟨rfl, rfl, rfl⟩) ?_
       refine Walk.still (rs := [1]) (by rfl) n0OfZ (fun base => by
        refine n_load rfl ti49 n0OfZ n0OfZ rfl n0OfZ ?_
        exact AOps.nil ⟨rfl, rfl, rfl⟩) ?_
       refine Walk.still (rs := [3]) (by rfl) n0OfZ (fun base => by
        refine n_move rfl n0OfZ ?_
        exact AOps.nil ⟨rfl, rfl, rfl⟩) ?_
       refine Walk.still (rs := [70]) (by rfl) n0OfZ (fun base => by
        first | refine n_isub rfl n0OfZ n0OfZ rfl (by omega) (by omega) ?_ | refine n_ibin rfl n0OfZ n0OfZ rfl ?_
        exact AOps.nil ⟨rfl, rfl, rfl⟩) ?_
       refine Walk.still (rs := [69, 71]) (by rfl) n0OfZ (fun base => by
        refine n_call0B rfl cf108 rfl e1OfZ r2OfZ (hla) l3OfZ ?_
        exact AOps.nil ⟨rfl, rfl, rfl⟩) ?_
       refine Walk.still (rs := [68, 72]) (by rfl) n0OfZ (fun base => by
        refine n_ibin rfl n0OfZ n0OfZ rfl ?_
        exact AOps.nil ⟨rfl, rfl, rfl⟩) ?_
       refine Walk.still (rs := [73]) (by rfl) n0OfZ (fun base => by
        refine n_assign rfl n0OfZ ?_
        exact AOps.nil ⟨rfl, rfl, rfl⟩) ?_
       refine Walk.done ?_
       refine AWP.cond n0OfZ (fun hc9 => ?_) (fun hc9 => ?_)
       · try simp only [nh] at hc9
         refine AWP.skip ?_
         refine AWP.cond n0OfZ (fun hc10 => ?_) (fun hc10 => ?_)
         · try simp only [nh] at hc10
           refine AWP.sr ?_
           refine n_assign rfl n0OfZ ?_
           refine AOps.nil ?_
           refine AWP.ret ?_
           refine fin_pure (.cons (rv_tmp n0OfZ) .nil) n0OfZ ?_
           first | (rw [hz]; exact ren_flat rfl rfl) | (have hz : t.chk = 200 := chk_no hil (okAt_false (fun h => by rw [okAt_iff] at h; have h8 := h.2; omega)); rw [hz]; exact ren_flat rfl rfl)
         try simp only [nh] at hc10
         refine AWP.skip ?_
         refine AWP.region ?_
         first | refine n_iadd rfl n0OfZ n0OfZ rfl (by omega) (by omega) ?_ | refine n_ibin rfl n0OfZ n0OfZ rfl ?_
         refine n_move rfl n0OfZ ?_
         refine AOps.nil ?_
         refine ⟨i + 1, _, ⟨by omega, fun j hj1 => ?_⟩, ?_, rfl, by omega⟩
         · rcases Nat.lt_or_ge j i with h9 | h9
           · exact hj j h9
           obtain rfl : j = i := by omega
           rw [okAt_iff]; refine ⟨hsi, ?_⟩; first | omega | (exfalso; simp_all; done) | (simp only [Bool.and_eq_false_iff, beq_eq_false_iff_ne, bne_eq_false_iff_eq, ne_eq] at *; omega) | grind
         (repeat (first | exact FLe.empty _ | refine FLe.put ?_ ?_)) <;> first | (simp only [nf, Nat.beq]; done) | rfl | ((try simp only [nf, Nat.beq]); first | rfl | (simp only [List.length_map]; done) | (congr 2; omega; done))
       try simp only [nh] at hc9
       refine AWP.anyStill (by kernel_rfl) (by kernel_rfl) ?_
       refine Walk.still (rs := [6]) (by rfl) n0OfZ (fun base => by
        refine n_move rfl n0OfZ ?_
        exact AOps.nil ⟨rfl, rfl, rfl⟩) ?_
       refine Walk.still (rs := [74]) (by rfl) n0OfZ (fun base => by
        refine n_move rfl n0OfZ ?_
        exact AOps.nil ⟨rfl, rfl, rfl⟩) ?_
       refine Walk.name (u := 75) (fun z => .val (.bool z)) n0OfZ (fun b75 hb75 => ?_)
       refine Walk.still (rs := [4, 75]) (by rfl) n0OfZ (fun base => by
        refine n_softT b75 rfl rfl rfl n0OfZ (fun h => by
         subst h
         refine n_fieldAddr rfl fd51_3 ti2 rfl n0OfZ rfl n0OfZ ?_
         exact AOps.nil ⟨rfl, rfl, rfl⟩) (AOps.nil ⟨rfl, rfl, rfl⟩)) ?_
       refine Walk.still (rs := [76, 75]) (by rfl) n0OfZ (fun base => by
        refine n_softT b75 rfl rfl rfl n0OfZ (fun h => by
         subst h
         refine n_load rfl ti2 n0OfZ n0OfZ rfl n0OfZ ?_
         exact AOps.nil ⟨rfl, rfl, rfl⟩) (AOps.nil ⟨rfl, rfl, rfl⟩)) ?_
       refine Walk.still (rs := [1, 75]) (by rfl) n0OfZ (fun base => by
        refine n_softT b75 rfl rfl rfl n0OfZ (fun h => by
         subst h
         refine n_load rfl ti49 n0OfZ n0OfZ rfl n0OfZ ?_
         exact AOps.nil ⟨rfl, rfl, rfl⟩) (AOps.nil ⟨rfl, rfl, rfl⟩)) ?_
       refine Walk.still (rs := [3, 75]) (by rfl) n0OfZ (fun base => by
        refine n_softT b75 rfl rfl rfl n0OfZ (fun h => by
         subst h
         refine n_move rfl n0OfZ ?_
         exact AOps.nil ⟨rfl, rfl, rfl⟩) (AOps.nil ⟨rfl, rfl, rfl⟩)) ?_
       refine Walk.still (rs := [79, 75]) (by rfl) n0OfZ (fun base => by
        refine n_softT b75 rfl rfl rfl n0OfZ (fun h => by
         subst h
         first | refine n_isub rfl n0OfZ n0OfZ rfl (by omega) (by omega) ?_ | refine n_ibin rfl n0OfZ n0OfZ rfl ?_
         exact AOps.nil ⟨rfl, rfl, rfl⟩) (AOps.nil ⟨rfl, rfl, rfl⟩)) ?_
       refine Walk.still (rs := [78, 80, 75]) (by rfl) n0OfZ (fun base => by
        refine n_softT b75 rfl rfl rfl n0OfZ (fun h => by
         subst h
         refine n_call0B rfl cf108 rfl e1OfZ r2OfZ (hla) l3OfZ ?_
         exact AOps.nil ⟨rfl, rfl, rfl⟩) (AOps.nil ⟨rfl, rfl, rfl⟩)) ?_
       refine Walk.still (rs := [81, 75]) (by rfl) n0OfZ (fun base => by
        refine n_softT b75 rfl rfl rfl n0OfZ (fun h => by
         subst h
         first | refine n_iadd rfl n0OfZ n0OfZ rfl (by omega) (by omega) ?_ | refine n_ibin rfl n0OfZ n0OfZ rfl ?_
         exact AOps.nil ⟨rfl, rfl, rfl⟩) (AOps.nil ⟨rfl, rfl, rfl⟩)) ?_
       refine Walk.still (rs := [77, 82, 75]) (by rfl) n0OfZ (fun base => by
        refine n_softT b75 rfl rfl rfl n0OfZ (fun h => by
         subst h
         refine n_ibin rfl n0OfZ n0OfZ rfl ?_
         exact AOps.nil ⟨rfl, rfl, rfl⟩) (AOps.nil ⟨rfl, rfl, rfl⟩)) ?_
       refine Walk.still (rs := [75, 83]) (by rfl) n0OfZ (fun base => by
        refine n_pick_and rfl n0OfZ (fun h => by cases b75 with | false => exact absurd h (by decide) | true => exact n0OfZ) ?_
        exact AOps.nil ⟨rfl, rfl, rfl⟩) ?_
       refine Walk.still (rs := [84]) (by rfl) n0OfZ (fun base => by
        refine n_assign rfl n0OfZ ?_
        exact AOps.nil ⟨rfl, rfl, rfl⟩) ?_
       subst hb75
       refine Walk.done ?_
       refine AWP.cond n0OfZ (fun hc11 => ?_) (fun hc11 => ?_)
       · try simp only [nh] at hc11
         refine AWP.sr ?_
         refine n_assign rfl n0OfZ ?_
         refine AOps.nil ?_
         refine AWP.ret ?_
         refine fin_pure (.cons (rv_tmp n0OfZ) .nil) n0OfZ ?_
         first | (rw [hz]; exact ren_flat rfl rfl) | (have hz : t.chk = 200 := chk_no hil (okAt_false (fun h => by rw [okAt_iff] at h; have h8 := h.2; omega)); rw [hz]; exact ren_flat rfl rfl)
       try simp only [nh] at hc11
       refine AWP.skip ?_
       refine AWP.region ?_
       first | refine n_iadd rfl n0OfZ n0OfZ rfl (by omega) (by omega) ?_ | refine n_ibin rfl n0OfZ n0OfZ rfl ?_
       refine n_move rfl n0OfZ ?_
       refine AOps.nil ?_
       refine ⟨i + 1, _, ⟨by omega, fun j hj1 => ?_⟩, ?_, rfl, by omega⟩
       · rcases Nat.lt_or_ge j i with h9 | h9
         · exact hj j h9
         obtain rfl : j = i := by omega
         rw [okAt_iff]; refine ⟨hsi, ?_⟩; first | omega | (exfalso; simp_all; done) | (simp only [Bool.and_eq_false_iff, beq_eq_false_iff_ne, bne_eq_false_iff_eq, ne_eq] at *; omega) | grind
       (repeat (first | exact FLe.empty _ | refine FLe.put ?_ ?_)) <;> first | (simp only [nf, Nat.beq]; done) | rfl | ((try simp only [nf, Nat.beq]); first | rfl | (simp only [List.length_map]; done) | (congr 2; omega; done))
     · try simp only [nh] at hc2
       obtain rfl : i = t.l.length := by omega
       have hz : t.chk = 0 := chk_yes hnn.1 hnn.2 hj
       refine AWP.exit ?_
       refine AWP.sr ?_
       refine n_assign rfl n0OfZ ?_
       refine AOps.nil ?_
       refine AWP.ret ?_
       refine fin_pure (.cons (rv_tmp n0OfZ) .nil) n0OfZ ?_
       first | (rw [hz]; exact ren_flat rfl rfl) | (have hz : t.chk = 200 := chk_no hil (okAt_false (fun h => by rw [okAt_iff] at h; have h8 := h.2; omega)); rw [hz]; exact ren_flat rfl rfl)

end Go.Proofs.YtanfmpkjcoolmaaGreat.Of
