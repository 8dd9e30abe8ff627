/- Package mirror. -/
import Derived.Test.YtanfmpkjcoolmaaGreatPlainA
import Derived.Test.YtanfmpkjcoolmaaGreatAbsN
import Derived.Test.YtanfmpkjcoolmaaGreatProg
import Derived.KernelRfl
set_option linter.unusedVariables false
set_option linter.unusedSimpArgs false
namespace Go.Proofs.YtanfmpkjcoolmaaGreat.Mi
open Go Go.Abs Go.Abs.Sd
attribute [local irreducible] AWP AOps Does

theorem n0MiZ {α : Type} {a b : α} (h : a = b := by first|simp only[nf,Nat.beq]<;>rfl|rfl) : a = b := h
theorem e1MiZ {α : Type} {a b : α} (h : a = b := by exact Eq.trans (by simp only [nl] <;> rfl) n0MiZ) : a = b := h
theorem r2MiZ {ρ σ : Nat → Nat → Prop} {a b : List D} (h : RenAll ρ σ a b := by repeat (first | exact .nil | refine .cons ?_ ?_ | exact ren_ints | exact .lf (.val _) | exact .lf (lf_ints (.inl rfl)) | exact .bp ⟨rfl, rfl⟩ | exact .bp (.inl ⟨rfl, rfl⟩) | exact .bp (.inr ⟨rfl, rfl⟩) | exact .lf (D.flat_lf rfl) | exact ren_eqints rfl)) : RenAll ρ σ a b := h
theorem l3MiZ {d : D} (h : LF d := by first | exact .val _ | exact lf_ints (.inl rfl) | exact lf_ints (.inr rfl) | exact .any | exact D.flat_lf rfl) : LF d := h
theorem cf110 : CF Tryz.prog 110 := ⟨_, Tryz.func110, by kernel_rfl, by kernel_rfl⟩
theorem cf93 : CF Tryz.prog 93 := ⟨_, Tryz.func93, by kernel_rfl, by kernel_rfl⟩
theorem cf94 : CF Tryz.prog 94 := ⟨_, Tryz.func94, by kernel_rfl, by kernel_rfl⟩
theorem ei46 : EI Tryz.prog 46 4 32 (.agg #[.int .i64 0, .int .i64 0, .int .i64 0, .int .i64 0]) := EI.of (by kernel_rfl) rfl rfl
theorem fd110_0 : FD Tryz.prog 110 0 3 0 := ⟨_, _, Tryz.underlying110, rfl, rfl, rfl⟩
theorem fd110_1 : FD Tryz.prog 110 1 2 1 := ⟨_, _, Tryz.underlying110, rfl, rfl, rfl⟩
theorem fd110_2 : FD Tryz.prog 110 2 30 2 := ⟨_, _, Tryz.underlying110, rfl, rfl, rfl⟩
theorem fd46_0 : FD Tryz.prog 46 0 2 0 := ⟨_, _, Tryz.underlying46, rfl, rfl, rfl⟩
theorem fd46_1 : FD Tryz.prog 46 1 3 1 := ⟨_, _, Tryz.underlying46, rfl, rfl, rfl⟩
theorem ti2 : TI Tryz.prog 2 1 false := ⟨by kernel_rfl, by kernel_rfl⟩
theorem ti3 : TI Tryz.prog 3 1 false := ⟨by kernel_rfl, by kernel_rfl⟩
theorem ti30 : TI Tryz.prog 30 1 false := ⟨by kernel_rfl, by kernel_rfl⟩
theorem ti46 : TI Tryz.prog 46 4 true := ⟨by kernel_rfl, by kernel_rfl⟩
theorem zi46 : (Tryz.prog.info? 46).map (·.zero) = some (some (.agg #[.int .i64 0, .int .i64 0, .int .i64 0, .int .i64 0])) := by kernel_rfl

abbrev vi (n : Int) : D := .val (.int .i64 n)
abbrev vb (b : Bool) : D := .val (.bool b)
theorem rises_upto {l : List Int} (h : ∀ j, j + 1 < l.length → ¬ l.getD (j + 1) 0 < l.getD j 0) : rises l = true := by
 unfold rises
 rw [List.all_eq_true]
 intro i hi
 have := h i (by have := List.mem_range.1 hi; omega)
 simp only [decide_eq_true_eq]
 omega
theorem m_num (n : Int) : Does Tryz.prog 93 [vi n] [] (vb (decide (n ≥ 0) && decide (n ≤ 9007199254740992))) [] := by
 refine Does.of_body (rvs := [.tmp 2]) Tryz.func93 rfl rfl rfl rfl ?_
 refine AWP.sr ?_
 refine n_assign rfl n0MiZ ?_
 refine AOps.nil ?_
 refine AWP.sr ?_
 refine n_move rfl n0MiZ ?_
 refine n_ibin rfl n0MiZ n0MiZ rfl ?_
 refine n_move rfl n0MiZ ?_
 refine AOps.name (u := 5) (fun z => .val (.bool z)) n0MiZ (fun b5 hb5 => ?_)
 refine n_softT b5 rfl rfl rfl n0MiZ (fun h => by
  subst h
  refine n_move rfl n0MiZ ?_
  exact AOps.nil ⟨rfl, rfl, rfl⟩) ?_
 refine n_softT b5 rfl rfl rfl n0MiZ (fun h => by
  subst h
  refine n_ibin rfl n0MiZ n0MiZ rfl ?_
  exact AOps.nil ⟨rfl, rfl, rfl⟩) ?_
 refine n_pick_and rfl n0MiZ (fun h => by cases b5 with | false => exact absurd h (by decide) | true => exact n0MiZ) ?_
 refine n_assign rfl n0MiZ ?_
 subst hb5
 refine AOps.nil ?_
 refine AWP.ret ?_
 refine fin_pure (.cons (rv_tmp n0MiZ) .nil) n0MiZ ?_
 exact ren_flat rfl rfl

theorem m_pos (n : Int) : Does Tryz.prog 110 [vi n] [] (vb (decide (n ≥ 1) && decide (n ≤ 9007199254740992))) [] := by
 refine Does.of_body (rvs := [.tmp 2]) Tryz.func110 rfl rfl rfl rfl ?_
 refine AWP.sr ?_
 refine n_assign rfl n0MiZ ?_
 refine AOps.nil ?_
 refine AWP.sr ?_
 refine n_move rfl n0MiZ ?_
 refine n_ibin rfl n0MiZ n0MiZ rfl ?_
 refine n_move rfl n0MiZ ?_
 refine AOps.name (u := 5) (fun z => .val (.bool z)) n0MiZ (fun b5 hb5 => ?_)
 refine n_softT b5 rfl rfl rfl n0MiZ (fun h => by
  subst h
  refine n_move rfl n0MiZ ?_
  exact AOps.nil ⟨rfl, rfl, rfl⟩) ?_
 refine n_softT b5 rfl rfl rfl n0MiZ (fun h => by
  subst h
  refine n_ibin rfl n0MiZ n0MiZ rfl ?_
  exact AOps.nil ⟨rfl, rfl, rfl⟩) ?_
 refine n_pick_and rfl n0MiZ (fun h => by cases b5 with | false => exact absurd h (by decide) | true => exact n0MiZ) ?_
 refine n_assign rfl n0MiZ ?_
 subst hb5
 refine AOps.nil ?_
 refine AWP.ret ?_
 refine fin_pure (.cons (rv_tmp n0MiZ) .nil) n0MiZ ?_
 exact ren_flat rfl rfl

theorem l_entry (x : En) : Does Tryz.prog 94 [.agg (ez x)] [] (vi x.chk) [] := by
 refine Does.of_body (rvs := [.tmp 2]) Tryz.func94 rfl rfl rfl rfl ?_
 refine AWP.sr ?_
 refine n_box rfl n0MiZ rfl rfl n0MiZ n0MiZ ?_
 refine n_assign rfl n0MiZ ?_
 refine AOps.nil ?_
 refine AWP.seq ?_
 refine AWP.sr ?_
 refine n_fieldAddr rfl fd46_0 ti2 rfl n0MiZ rfl n0MiZ ?_
 refine n_load rfl ti2 n0MiZ n0MiZ rfl n0MiZ ?_
 refine n_call0B rfl cf110 rfl e1MiZ r2MiZ (m_pos _) l3MiZ ?_
 refine n_not rfl n0MiZ rfl ?_
 refine n_move rfl n0MiZ ?_
 refine AOps.name (u := 7) (fun z => .val (.bool z)) n0MiZ (fun b7 hb7 => ?_)
 refine n_softF b7 rfl rfl rfl n0MiZ (fun h => by
  subst h
  refine n_fieldAddr rfl fd46_1 ti3 rfl n0MiZ rfl n0MiZ ?_
  exact AOps.nil ⟨rfl, rfl, rfl⟩) ?_
 refine n_softF b7 rfl rfl rfl n0MiZ (fun h => by
  subst h
  refine n_load rfl ti3 n0MiZ n0MiZ rfl n0MiZ ?_
  exact AOps.nil ⟨rfl, rfl, rfl⟩) ?_
 refine n_softF b7 rfl rfl rfl n0MiZ (fun h => by
  subst h
  refine n_ibin rfl n0MiZ n0MiZ rfl ?_
  exact AOps.nil ⟨rfl, rfl, rfl⟩) ?_
 refine n_pick_or rfl n0MiZ (fun h => by cases b7 with | true => exact absurd h (by decide) | false => exact n0MiZ) ?_
 refine n_move rfl n0MiZ ?_
 refine AOps.name (u := 12) (fun z => .val (.bool z)) n0MiZ (fun b12 hb12 => ?_)
 refine n_softF b12 rfl rfl rfl n0MiZ (fun h => by
  subst h
  refine n_fieldAddr rfl fd46_1 ti3 rfl n0MiZ rfl n0MiZ ?_
  exact AOps.nil ⟨rfl, rfl, rfl⟩) ?_
 refine n_softF b12 rfl rfl rfl n0MiZ (fun h => by
  subst h
  refine n_load rfl ti3 n0MiZ n0MiZ rfl n0MiZ ?_
  exact AOps.nil ⟨rfl, rfl, rfl⟩) ?_
 refine n_softF b12 rfl rfl rfl n0MiZ (fun h => by
  subst h
  refine n_ibin rfl n0MiZ n0MiZ rfl ?_
  exact AOps.nil ⟨rfl, rfl, rfl⟩) ?_
 refine n_pick_or rfl n0MiZ (fun h => by cases b12 with | true => exact absurd h (by decide) | false => exact n0MiZ) ?_
 subst hb7
 subst hb12
 refine AOps.nil ?_
 refine AWP.cond n0MiZ (fun hc1 => ?_) (fun hc1 => ?_)
 · try simp only [nh] at hc1
   refine AWP.sr ?_
   refine n_assign rfl n0MiZ ?_
   refine AOps.nil ?_
   refine AWP.ret ?_
   refine fin_pure (.cons (rv_tmp n0MiZ) .nil) n0MiZ ?_
   refine ren_flat rfl ?_; congr 2; grind [En.chk]
 · try simp only [nh] at hc1
   refine AWP.skip ?_
   refine AWP.sr ?_
   refine n_assign rfl n0MiZ ?_
   refine AOps.nil ?_
   refine AWP.ret ?_
   refine fin_pure (.cons (rv_tmp n0MiZ) .nil) n0MiZ ?_
   refine ren_flat rfl ?_; congr 2; grind [En.chk]

theorem l_bundle (p q : Int) (l : List En) (hl : l.length ≤ 1099511627776) : Does Tryz.prog 72 [.agg [vi p, vi q, (.sl none (l.map ez) .ro)]] [] (vi (chkB p q l)) [] := by
 refine Does.of_body (rvs := [.tmp 2]) Tryz.func72 rfl rfl rfl rfl ?_
 refine AWP.sr ?_
 refine n_box rfl n0MiZ rfl rfl n0MiZ n0MiZ ?_
 refine n_assign rfl n0MiZ ?_
 refine AOps.nil ?_
 refine AWP.sr ?_
 refine n_fieldAddr rfl fd110_2 ti30 rfl n0MiZ rfl n0MiZ ?_
 refine n_load rfl ti30 n0MiZ n0MiZ rfl n0MiZ ?_
 refine n_len rfl Tryz.underlying30 n0MiZ (by first | rw [ints_length] | rw [List.length_map] | rfl) ?_
 refine n_assign rfl n0MiZ ?_
 refine AOps.nil ?_
 refine AWP.seq ?_
 refine AWP.sr ?_
 refine n_fieldAddr rfl fd110_0 ti3 rfl n0MiZ rfl n0MiZ ?_
 refine n_load rfl ti3 n0MiZ n0MiZ rfl n0MiZ ?_
 refine n_ibin rfl n0MiZ n0MiZ rfl ?_
 refine n_move rfl n0MiZ ?_
 refine AOps.name (u := 13) (fun z => .val (.bool z)) n0MiZ (fun b13 hb13 => ?_)
 refine n_softF b13 rfl rfl rfl n0MiZ (fun h => by
  subst h
  refine n_fieldAddr rfl fd110_0 ti3 rfl n0MiZ rfl n0MiZ ?_
  exact AOps.nil ⟨rfl, rfl, rfl⟩) ?_
 refine n_softF b13 rfl rfl rfl n0MiZ (fun h => by
  subst h
  refine n_load rfl ti3 n0MiZ n0MiZ rfl n0MiZ ?_
  exact AOps.nil ⟨rfl, rfl, rfl⟩) ?_
 refine n_softF b13 rfl rfl rfl n0MiZ (fun h => by
  subst h
  refine n_ibin rfl n0MiZ n0MiZ rfl ?_
  exact AOps.nil ⟨rfl, rfl, rfl⟩) ?_
 refine n_pick_or rfl n0MiZ (fun h => by cases b13 with | true => exact absurd h (by decide) | false => exact n0MiZ) ?_
 refine n_move rfl n0MiZ ?_
 refine AOps.name (u := 18) (fun z => .val (.bool z)) n0MiZ (fun b18 hb18 => ?_)
 refine n_softF b18 rfl rfl rfl n0MiZ (fun h => by
  subst h
  refine n_fieldAddr rfl fd110_1 ti2 rfl n0MiZ rfl n0MiZ ?_
  exact AOps.nil ⟨rfl, rfl, rfl⟩) ?_
 refine n_softF b18 rfl rfl rfl n0MiZ (fun h => by
  subst h
  refine n_load rfl ti2 n0MiZ n0MiZ rfl n0MiZ ?_
  exact AOps.nil ⟨rfl, rfl, rfl⟩) ?_
 refine n_softF b18 rfl rfl rfl n0MiZ (fun h => by
  subst h
  refine n_call0B rfl cf93 rfl e1MiZ r2MiZ (m_num _) l3MiZ ?_
  exact AOps.nil ⟨rfl, rfl, rfl⟩) ?_
 refine n_softF b18 rfl rfl rfl n0MiZ (fun h => by
  subst h
  refine n_not rfl n0MiZ rfl ?_
  exact AOps.nil ⟨rfl, rfl, rfl⟩) ?_
 refine n_pick_or rfl n0MiZ (fun h => by cases b18 with | true => exact absurd h (by decide) | false => exact n0MiZ) ?_
 refine n_move rfl n0MiZ ?_
 refine AOps.name (u := 24) (fun z => .val (.bool z)) n0MiZ (fun b24 hb24 => ?_)
 refine n_softF b24 rfl rfl rfl n0MiZ (fun h => by
  subst h
  refine n_move rfl n0MiZ ?_
  exact AOps.nil ⟨rfl, rfl, rfl⟩) ?_
 refine n_softF b24 rfl rfl rfl n0MiZ (fun h => by
  subst h
  refine n_ibin rfl n0MiZ n0MiZ rfl ?_
  exact AOps.nil ⟨rfl, rfl, rfl⟩) ?_
 refine n_pick_or rfl n0MiZ (fun h => by cases b24 with | true => exact absurd h (by decide) | false => exact n0MiZ) ?_
 refine n_move rfl n0MiZ ?_
 refine AOps.name (u := 28) (fun z => .val (.bool z)) n0MiZ (fun b28 hb28 => ?_)
 refine n_softF b28 rfl rfl rfl n0MiZ (fun h => by
  subst h
  refine n_move rfl n0MiZ ?_
  exact AOps.nil ⟨rfl, rfl, rfl⟩) ?_
 refine n_softF b28 rfl rfl rfl n0MiZ (fun h => by
  subst h
  refine n_ibin rfl n0MiZ n0MiZ rfl ?_
  exact AOps.nil ⟨rfl, rfl, rfl⟩) ?_
 refine n_pick_or rfl n0MiZ (fun h => by cases b28 with | true => exact absurd h (by decide) | false => exact n0MiZ) ?_
 refine n_move rfl n0MiZ ?_
 refine AOps.name (u := 32) (fun z => .val (.bool z)) n0MiZ (fun b32 hb32 => ?_)
 refine n_softF b32 rfl rfl rfl n0MiZ (fun h => by
  subst h
  refine n_move rfl n0MiZ ?_
  exact AOps.nil ⟨rfl, rfl, rfl⟩) ?_
 refine n_softF b32 rfl rfl rfl n0MiZ (fun h => by
  subst h
  refine n_fieldAddr rfl fd110_1 ti2 rfl n0MiZ rfl n0MiZ ?_
  exact AOps.nil ⟨rfl, rfl, rfl⟩) ?_
 refine n_softF b32 rfl rfl rfl n0MiZ (fun h => by
  subst h
  refine n_load rfl ti2 n0MiZ n0MiZ rfl n0MiZ ?_
  exact AOps.nil ⟨rfl, rfl, rfl⟩) ?_
 refine n_softF b32 rfl rfl rfl n0MiZ (fun h => by
  subst h
  have hq : 0 ≤ q ∧ q ≤ 9007199254740992 := by grind
  refine n_isub rfl n0MiZ n0MiZ rfl (by omega) (by omega) ?_
  exact AOps.nil ⟨rfl, rfl, rfl⟩) ?_
 refine n_softF b32 rfl rfl rfl n0MiZ (fun h => by
  subst h
  refine n_ibin rfl n0MiZ n0MiZ rfl ?_
  exact AOps.nil ⟨rfl, rfl, rfl⟩) ?_
 refine n_pick_or rfl n0MiZ (fun h => by cases b32 with | true => exact absurd h (by decide) | false => exact n0MiZ) ?_
 subst hb13
 subst hb18
 subst hb24
 subst hb28
 subst hb32
 refine AOps.nil ?_
 refine AWP.cond n0MiZ (fun hc1 => ?_) (fun hc1 => ?_)
 · try simp only [nh] at hc1
   refine AWP.sr ?_
   refine n_assign rfl n0MiZ ?_
   refine AOps.nil ?_
   refine AWP.ret ?_
   refine fin_pure (.cons (rv_tmp n0MiZ) .nil) n0MiZ ?_
   refine ren_flat rfl ?_; congr 2; (try simp only [List.length_map] at *); grind [chkB]
 · try simp only [nh] at hc1
   refine AWP.skip ?_
   refine AWP.seq ?_
   refine AWP.sr ?_
   refine n_fieldAddr rfl fd110_2 ti30 rfl n0MiZ rfl n0MiZ ?_
   refine n_load rfl ti30 n0MiZ n0MiZ rfl n0MiZ ?_
   refine n_len rfl Tryz.underlying30 n0MiZ (by first | rw [ints_length] | rw [List.length_map] | rfl) ?_
   refine n_move rfl n0MiZ ?_
   refine AOps.nil ?_
   refine AWP.block ?_
   refine AWP.loopX 1 (α := Nat) (fun i => i ≤ l.length ∧ ∀ (j : Nat) (x : En), j < i → l[j]? = some x → x.chk = 0) (fun i => put (put (put (put empty 1 (.bp 0 0)) 40 (.sl none (l.map ez) .ro)) 41 (vi (l.length : Int))) 42 (vi (i : Int))) (fun _ => [.box [vi p, vi q, (.sl none (l.map ez) .ro)]]) (fun i => l.length - i) 0 ?_ ?_ ?_ ?_ ?_ ?_ ?_
   · exact ⟨Nat.zero_le _, fun j x h _ => by omega⟩
   · (repeat (first | exact FLe.empty _ | refine FLe.put ?_ ?_)) <;> first | (simp only [nf, Nat.beq]; done) | rfl | (try simp only [nf, Nat.beq]; simp)
   · rfl
   · exact fun _ => rfl
   · intro p hp; (try dsimp only); (repeat' (refine un_put ?_ ?_)) <;> first | exact un_empty | exact .bp (by decide) | exact .lf (D.flat_lf rfl) | exact .lf (lf_ints (.inl rfl)) | exact .lf (lf_map (fun _ => rfl) (.inl rfl))
   · intro p hp; (try dsimp only); repeat' (first | exact un_nil | refine un_cons ?_ ?_ | exact un_box rfl | exact un_boxL lf_bundle)
   · rintro i ⟨hi, hj⟩
     try dsimp only at hi hj ⊢
     refine AWP.sr ?_
     refine n_ibin rfl n0MiZ n0MiZ rfl ?_
     refine AOps.nil ?_
     refine AWP.seq ?_
     refine AWP.cond n0MiZ (fun hc2 => ?_) (fun hc2 => ?_)
     · try simp only [nh] at hc2
       try simp only [List.length_map] at hc2
       obtain ⟨x, hx⟩ : ∃ x, l[i]? = some x := ⟨_, List.getElem?_eq_getElem (by first | omega | (simp only [List.length_map] at hc2; omega))⟩
       refine AWP.skip ?_
       refine AWP.seq ?_
       refine AWP.block ?_
       refine AWP.sr ?_
       refine n_indexAddr rfl Tryz.underlying30 ti46 rfl n0MiZ n0MiZ (by omega) (by first | exact ints_at _ _ _ (by omega) | exact ints_get _ _ _ (by omega) | exact map_at _ (by assumption) | rfl) rfl ?_
       refine n_load rfl ti46 n0MiZ n0MiZ rfl n0MiZ ?_
       refine n_alloc rfl zi46 rfl n0MiZ n0MiZ ?_
       refine n_store ti46 n0MiZ rfl n0MiZ rfl n0MiZ rfl rfl rfl n0MiZ ?_
       refine AOps.nil ?_
       refine AWP.sr ?_
       refine n_load rfl ti46 n0MiZ n0MiZ rfl n0MiZ ?_
       refine n_call0B rfl cf94 rfl e1MiZ r2MiZ (l_entry _) l3MiZ ?_
       refine n_assign rfl n0MiZ ?_
       refine AOps.nil ?_
       refine AWP.sr ?_
       refine n_move rfl n0MiZ ?_
       refine n_ibin rfl n0MiZ n0MiZ rfl ?_
       refine AOps.nil ?_
       refine AWP.cond n0MiZ (fun hc3 => ?_) (fun hc3 => ?_)
       · try simp only [nh] at hc3
         have hy := any_yes hx (by assumption)
         have h1 := En.chk_one (x := x) (by assumption)
         refine AWP.sr ?_
         refine n_move rfl n0MiZ ?_
         refine n_assign rfl n0MiZ ?_
         refine AOps.nil ?_
         refine AWP.ret ?_
         refine fin_pure (.cons (rv_tmp n0MiZ) .nil) n0MiZ ?_
         refine ren_flat rfl ?_; congr 2; (try simp only [List.length_map] at *); grind [chkB]
       try simp only [nh] at hc3
       refine AWP.skip ?_
       refine AWP.region ?_
       first | refine n_iadd rfl n0MiZ n0MiZ rfl (by omega) (by omega) ?_ | refine n_ibin rfl n0MiZ n0MiZ rfl ?_
       refine n_move rfl n0MiZ ?_
       refine AOps.nil ?_
       refine ⟨i + 1, _, ⟨by omega, fun j y h hy => ?_⟩, ?_, rfl, by omega⟩
       · by_cases e : j = i
         · subst e; rw [hx] at hy; cases hy; assumption
         exact hj j y (by omega) hy
       (repeat (first | exact FLe.empty _ | refine FLe.put ?_ ?_)) <;> first | (simp only [nf, Nat.beq]; done) | rfl | (try simp only [nf, Nat.beq]; first | (simp only [List.length_map]; done) | (congr 2; omega))
     · try simp only [nh] at hc2
       try simp only [List.length_map] at hc2
       have hn := any_no (l := l) (fun j x h => hj j x (by first | omega | (simp only [List.length_map] at hc2; omega)))
       refine AWP.exit ?_
       refine AWP.sr ?_
       refine n_assign rfl n0MiZ ?_
       refine AOps.nil ?_
       refine AWP.ret ?_
       refine fin_pure (.cons (rv_tmp n0MiZ) .nil) n0MiZ ?_
       refine ren_flat rfl ?_; congr 2; (try simp only [List.length_map] at *); grind [chkB]

end Go.Proofs.YtanfmpkjcoolmaaGreat.Mi
