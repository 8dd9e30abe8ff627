/- Which lists are the same. -/
import Derived.Test.YtanfmpkjcoolmaaGreatPlainA
import Derived.Test.YtanfmpkjcoolmaaGreatPkZ
set_option linter.unusedVariables false
set_option linter.unusedSimpArgs false
namespace Go.Proofs.YtanfmpkjcoolmaaGreat.Wa
open Go Go.Abs Go.Proofs.YtanfmpkjcoolmaaGreat.Pk
attribute [local irreducible] AWP AOps Does

theorem n0WaA {α : Type} {a b : α} (h : a = b := by first|simp only[nf,Nat.beq]<;>rfl|rfl) : a = b := h
theorem cf30 : CF Tryz.prog 30 := ⟨_, Tryz.func30, by kernel_rfl, by kernel_rfl⟩
theorem cf63 : CF Tryz.prog 63 := ⟨_, Tryz.func63, by kernel_rfl, by kernel_rfl⟩
theorem fd49_0 : FD Tryz.prog 49 0 47 0 := ⟨_, _, Tryz.underlying49, rfl, rfl, rfl⟩
theorem fd49_1 : FD Tryz.prog 49 1 2 1 := ⟨_, _, Tryz.underlying49, rfl, rfl, rfl⟩
theorem ti2 : TI Tryz.prog 2 1 false := ⟨by kernel_rfl, by kernel_rfl⟩
theorem ti3 : TI Tryz.prog 3 1 false := ⟨by kernel_rfl, by kernel_rfl⟩
theorem ti44 : TI Tryz.prog 44 2 true := ⟨by kernel_rfl, by kernel_rfl⟩
theorem ti46 : TI Tryz.prog 46 4 true := ⟨by kernel_rfl, by kernel_rfl⟩
theorem ti47 : TI Tryz.prog 47 1 false := ⟨by kernel_rfl, by kernel_rfl⟩
theorem ti49 : TI Tryz.prog 49 2 true := ⟨by kernel_rfl, by kernel_rfl⟩
theorem ti51 : TI Tryz.prog 51 4 true := ⟨by kernel_rfl, by kernel_rfl⟩
theorem zi49 : (Tryz.prog.info? 49).map (·.zero) = some (some (.agg #[.slice none 0 0, .int .i64 0])) := by kernel_rfl

theorem e_int (l m : List Int) (hl : l.length ≤ 1048576) (hm : m.length ≤ 1048576) : Does Tryz.prog 28 [(.sl none (l.map q1) .ro), (.sl none (m.map q1) .ro)] [] (vb (decide (l = m))) [] := by
 refine Does.of_body (rvs := [.tmp 4]) Tryz.func28 rfl rfl rfl rfl ?_
 refine AWP.sr ?_
 refine n_assign rfl n0WaA ?_
 refine AOps.nil ?_
 refine AWP.seq ?_
 refine AWP.sr ?_
 refine n_move rfl n0WaA ?_
 refine n_len rfl Tryz.underlying24 n0WaA (by first | rw [ints_length] | rw [List.length_map] | rfl) ?_
 refine n_move rfl n0WaA ?_
 refine n_len rfl Tryz.underlying24 n0WaA (by first | rw [ints_length] | rw [List.length_map] | rfl) ?_
 refine n_ibin rfl n0WaA n0WaA rfl ?_
 refine AOps.nil ?_
 refine AWP.cond n0WaA (fun hc1 => ?_) (fun hc1 => ?_)
 · try simp only [nh] at hc1
   have hr : decide (l = m) = false := decide_eq_false (ne_len (by (try simp at hc1); omega))
   rw [hr]
   refine AWP.sr ?_
   refine n_assign rfl n0WaA ?_
   refine AOps.nil ?_
   refine AWP.ret ?_
   refine fin_pure (.cons (rv_tmp n0WaA) .nil) n0WaA ?_
   exact ren_flat rfl rfl
 · try simp only [nh] at hc1
   have hlm : l.length = m.length := by { (try simp at hc1); omega }
   refine AWP.skip ?_
   refine AWP.seq ?_
   refine AWP.sr ?_
   refine n_move rfl n0WaA ?_
   refine n_len rfl Tryz.underlying24 n0WaA (by first | rw [ints_length] | rw [List.length_map] | rfl) ?_
   refine n_move rfl n0WaA ?_
   refine AOps.nil ?_
   refine AWP.block ?_
   refine AWP.loop (α := Nat) (fun i => i ≤ l.length ∧ l.take i = m.take i) (fun i => put (put (put (put empty 0 (.sl none (l.map q1) .ro)) 1 (.sl none (m.map q1) .ro)) 12 (vi (l.length : Int))) 13 (vi (i : Int))) (fun _ => []) (fun i => l.length - i) 0 ?_ ?_ ?_ ?_
   · exact ⟨Nat.zero_le _, rfl⟩
   · (repeat (first | exact FLe.empty _ | refine FLe.put ?_ ?_)) <;> first | (simp only [nf, Nat.beq]; done) | rfl | ((try simp only [nf, Nat.beq]); first | rfl | (simp only [List.length_map]; done) | (congr 2; omega; done))
   · rfl
   · rintro i ⟨hi, hE⟩
     try dsimp only at hi hE ⊢
     refine AWP.sr ?_
     refine n_ibin rfl n0WaA n0WaA rfl ?_
     refine AOps.nil ?_
     refine AWP.seq ?_
     refine AWP.cond n0WaA (fun hc2 => ?_) (fun hc2 => ?_)
     · try simp only [nh] at hc2
       obtain ⟨x, hx0⟩ : ∃ x, l[i]? = some x := ⟨_, List.getElem?_eq_getElem (by omega)⟩
       obtain ⟨y, hy0⟩ : ∃ y, m[i]? = some y := ⟨_, List.getElem?_eq_getElem (by omega)⟩
       have hx := map_at q1 hx0
       have hy := map_at q1 hy0
       refine AWP.skip ?_
       refine AWP.seq ?_
       refine AWP.block ?_
       refine AWP.sr ?_
       refine n_move rfl n0WaA ?_
       refine n_assign rfl n0WaA ?_
       refine AOps.nil ?_
       refine AWP.seq ?_
       refine AWP.anyStill (by kernel_rfl) (by kernel_rfl) ?_
       refine Walk.still (rs := [0]) (by rfl) n0WaA (fun base => by
        refine n_move rfl n0WaA ?_
        exact AOps.nil ⟨rfl, rfl, rfl⟩) ?_
       refine Walk.still (rs := [5]) (by rfl) n0WaA (fun base => by
        refine n_move rfl n0WaA ?_
        exact AOps.nil ⟨rfl, rfl, rfl⟩) ?_
       refine Walk.still (rs := [16, 17]) (by rfl) n0WaA (fun base => by
        refine n_indexAddr rfl Tryz.underlying24 ti2 rfl n0WaA n0WaA (by omega) (by exact hx) rfl ?_
        exact AOps.nil ⟨rfl, rfl, rfl⟩) ?_
       refine Walk.still (rs := [18]) (by rfl) n0WaA (fun base => by
        refine n_load rfl ti2 n0WaA n0WaA rfl n0WaA ?_
        exact AOps.nil ⟨rfl, rfl, rfl⟩) ?_
       refine Walk.still (rs := [1]) (by rfl) n0WaA (fun base => by
        refine n_move rfl n0WaA ?_
        exact AOps.nil ⟨rfl, rfl, rfl⟩) ?_
       refine Walk.still (rs := [5]) (by rfl) n0WaA (fun base => by
        refine n_move rfl n0WaA ?_
        exact AOps.nil ⟨rfl, rfl, rfl⟩) ?_
       refine Walk.still (rs := [20, 21]) (by rfl) n0WaA (fun base => by
        refine n_indexAddr rfl Tryz.underlying24 ti2 rfl n0WaA n0WaA (by omega) (by exact hy) rfl ?_
        exact AOps.nil ⟨rfl, rfl, rfl⟩) ?_
       refine Walk.still (rs := [22]) (by rfl) n0WaA (fun base => by
        refine n_load rfl ti2 n0WaA n0WaA rfl n0WaA ?_
        exact AOps.nil ⟨rfl, rfl, rfl⟩) ?_
       refine Walk.still (rs := [19, 23]) (by rfl) n0WaA (fun base => by
        refine n_ibin rfl n0WaA n0WaA rfl ?_
        exact AOps.nil ⟨rfl, rfl, rfl⟩) ?_
       refine Walk.done ?_
       refine AWP.cond n0WaA (fun hc3 => ?_) (fun hc3 => ?_)
       · try simp only [nh] at hc3
         have hr : decide (l = m) = false := decide_eq_false (ne_at hx0 hy0 (by rintro rfl; (try simp at hc3); try contradiction))
         rw [hr]
         refine AWP.sr ?_
         refine n_assign rfl n0WaA ?_
         refine AOps.nil ?_
         refine AWP.ret ?_
         refine fin_pure (.cons (rv_tmp n0WaA) .nil) n0WaA ?_
         exact ren_flat rfl rfl
       try simp only [nh] at hc3
       have hxy : x = y := by { (try simp at hc3); grind }
       refine AWP.skip ?_
       refine AWP.region ?_
       first | refine n_iadd rfl n0WaA n0WaA rfl (by omega) (by omega) ?_ | refine n_ibin rfl n0WaA n0WaA rfl ?_
       refine n_move rfl n0WaA ?_
       refine AOps.nil ?_
       refine ⟨i + 1, ⟨by omega, eq_take hE hx0 (by rw [hxy]; exact hy0)⟩, ?_, rfl, by omega⟩
       (repeat (first | exact FLe.empty _ | refine FLe.put ?_ ?_)) <;> first | (simp only [nf, Nat.beq]; done) | rfl | ((try simp only [nf, Nat.beq]); first | rfl | (simp only [List.length_map]; done) | (congr 2; omega; done))
     · try simp only [nh] at hc2
       obtain rfl : i = l.length := by omega
       have hr : decide (l = m) = true := decide_eq_true (eq_all hlm hE)
       rw [hr]
       refine AWP.exit ?_
       refine AWP.sr ?_
       refine n_assign rfl n0WaA ?_
       refine AOps.nil ?_
       refine AWP.ret ?_
       refine fin_pure (.cons (rv_tmp n0WaA) .nil) n0WaA ?_
       exact ren_flat rfl rfl

theorem e_rec (l m : List (Int × Int)) (hl : l.length ≤ 1048576) (hm : m.length ≤ 1048576) : Does Tryz.prog 62 [(.sl none (l.map q2) .ro), (.sl none (m.map q2) .ro)] [] (vb (decide (l = m))) [] := by
 refine Does.of_body (rvs := [.tmp 4]) Tryz.func62 rfl rfl rfl rfl ?_
 refine AWP.sr ?_
 refine n_assign rfl n0WaA ?_
 refine AOps.nil ?_
 refine AWP.seq ?_
 refine AWP.sr ?_
 refine n_move rfl n0WaA ?_
 refine n_len rfl Tryz.underlying23 n0WaA (by first | rw [ints_length] | rw [List.length_map] | rfl) ?_
 refine n_move rfl n0WaA ?_
 refine n_len rfl Tryz.underlying23 n0WaA (by first | rw [ints_length] | rw [List.length_map] | rfl) ?_
 refine n_ibin rfl n0WaA n0WaA rfl ?_
 refine AOps.nil ?_
 refine AWP.cond n0WaA (fun hc1 => ?_) (fun hc1 => ?_)
 · try simp only [nh] at hc1
   have hr : decide (l = m) = false := decide_eq_false (ne_len (by (try simp at hc1); omega))
   rw [hr]
   refine AWP.sr ?_
   refine n_assign rfl n0WaA ?_
   refine AOps.nil ?_
   refine AWP.ret ?_
   refine fin_pure (.cons (rv_tmp n0WaA) .nil) n0WaA ?_
   exact ren_flat rfl rfl
 · try simp only [nh] at hc1
   have hlm : l.length = m.length := by { (try simp at hc1); omega }
   refine AWP.skip ?_
   refine AWP.seq ?_
   refine AWP.sr ?_
   refine n_move rfl n0WaA ?_
   refine n_len rfl Tryz.underlying23 n0WaA (by first | rw [ints_length] | rw [List.length_map] | rfl) ?_
   refine n_move rfl n0WaA ?_
   refine AOps.nil ?_
   refine AWP.block ?_
   refine AWP.loop (α := Nat) (fun i => i ≤ l.length ∧ l.take i = m.take i) (fun i => put (put (put (put empty 0 (.sl none (l.map q2) .ro)) 1 (.sl none (m.map q2) .ro)) 12 (vi (l.length : Int))) 13 (vi (i : Int))) (fun _ => []) (fun i => l.length - i) 0 ?_ ?_ ?_ ?_
   · exact ⟨Nat.zero_le _, rfl⟩
   · (repeat (first | exact FLe.empty _ | refine FLe.put ?_ ?_)) <;> first | (simp only [nf, Nat.beq]; done) | rfl | ((try simp only [nf, Nat.beq]); first | rfl | (simp only [List.length_map]; done) | (congr 2; omega; done))
   · rfl
   · rintro i ⟨hi, hE⟩
     try dsimp only at hi hE ⊢
     refine AWP.sr ?_
     refine n_ibin rfl n0WaA n0WaA rfl ?_
     refine AOps.nil ?_
     refine AWP.seq ?_
     refine AWP.cond n0WaA (fun hc2 => ?_) (fun hc2 => ?_)
     · try simp only [nh] at hc2
       obtain ⟨x, hx0⟩ : ∃ x, l[i]? = some x := ⟨_, List.getElem?_eq_getElem (by omega)⟩
       obtain ⟨y, hy0⟩ : ∃ y, m[i]? = some y := ⟨_, List.getElem?_eq_getElem (by omega)⟩
       have hx := map_at q2 hx0
       have hy := map_at q2 hy0
       refine AWP.skip ?_
       refine AWP.seq ?_
       refine AWP.block ?_
       refine AWP.sr ?_
       refine n_move rfl n0WaA ?_
       refine n_assign rfl n0WaA ?_
       refine AOps.nil ?_
       refine AWP.seq ?_
       refine AWP.anyStill (by kernel_rfl) (by kernel_rfl) ?_
       refine Walk.still (rs := [0]) (by rfl) n0WaA (fun base => by
        refine n_move rfl n0WaA ?_
        exact AOps.nil ⟨rfl, rfl, rfl⟩) ?_
       refine Walk.still (rs := [5]) (by rfl) n0WaA (fun base => by
        refine n_move rfl n0WaA ?_
        exact AOps.nil ⟨rfl, rfl, rfl⟩) ?_
       refine Walk.still (rs := [16, 17]) (by rfl) n0WaA (fun base => by
        refine n_indexAddr rfl Tryz.underlying23 ti44 rfl n0WaA n0WaA (by omega) (by exact hx) rfl ?_
        exact AOps.nil ⟨rfl, rfl, rfl⟩) ?_
       refine Walk.still (rs := [18]) (by rfl) n0WaA (fun base => by
        refine n_load rfl ti44 n0WaA n0WaA rfl n0WaA ?_
        exact AOps.nil ⟨rfl, rfl, rfl⟩) ?_
       refine Walk.still (rs := [1]) (by rfl) n0WaA (fun base => by
        refine n_move rfl n0WaA ?_
        exact AOps.nil ⟨rfl, rfl, rfl⟩) ?_
       refine Walk.still (rs := [5]) (by rfl) n0WaA (fun base => by
        refine n_move rfl n0WaA ?_
        exact AOps.nil ⟨rfl, rfl, rfl⟩) ?_
       refine Walk.still (rs := [20, 21]) (by rfl) n0WaA (fun base => by
        refine n_indexAddr rfl Tryz.underlying23 ti44 rfl n0WaA n0WaA (by omega) (by exact hy) rfl ?_
        exact AOps.nil ⟨rfl, rfl, rfl⟩) ?_
       refine Walk.still (rs := [22]) (by rfl) n0WaA (fun base => by
        refine n_load rfl ti44 n0WaA n0WaA rfl n0WaA ?_
        exact AOps.nil ⟨rfl, rfl, rfl⟩) ?_
       refine Walk.still (rs := [19, 23]) (by rfl) n0WaA (fun base => by
        refine n_stne rfl n0WaA n0WaA rfl rfl Tryz.underlying44 (by kernel_rfl) (by kernel_rfl) (.int rfl ti2 Tryz.underlying2 rfl rfl (.int rfl ti2 Tryz.underlying2 rfl rfl .nil)) rfl ?_
        exact AOps.nil ⟨rfl, rfl, rfl⟩) ?_
       refine Walk.done ?_
       refine AWP.cond n0WaA (fun hc3 => ?_) (fun hc3 => ?_)
       · try simp only [nh] at hc3
         have hr : decide (l = m) = false := decide_eq_false (ne_at hx0 hy0 (by rintro rfl; (try simp at hc3); try contradiction))
         rw [hr]
         refine AWP.sr ?_
         refine n_assign rfl n0WaA ?_
         refine AOps.nil ?_
         refine AWP.ret ?_
         refine fin_pure (.cons (rv_tmp n0WaA) .nil) n0WaA ?_
         exact ren_flat rfl rfl
       try simp only [nh] at hc3
       have hxy : x = y := by { (try simp at hc3); grind }
       refine AWP.skip ?_
       refine AWP.region ?_
       first | refine n_iadd rfl n0WaA n0WaA rfl (by omega) (by omega) ?_ | refine n_ibin rfl n0WaA n0WaA rfl ?_
       refine n_move rfl n0WaA ?_
       refine AOps.nil ?_
       refine ⟨i + 1, ⟨by omega, eq_take hE hx0 (by rw [hxy]; exact hy0)⟩, ?_, rfl, by omega⟩
       (repeat (first | exact FLe.empty _ | refine FLe.put ?_ ?_)) <;> first | (simp only [nf, Nat.beq]; done) | rfl | ((try simp only [nf, Nat.beq]); first | rfl | (simp only [List.length_map]; done) | (congr 2; omega; done))
     · try simp only [nh] at hc2
       obtain rfl : i = l.length := by omega
       have hr : decide (l = m) = true := decide_eq_true (eq_all hlm hE)
       rw [hr]
       refine AWP.exit ?_
       refine AWP.sr ?_
       refine n_assign rfl n0WaA ?_
       refine AOps.nil ?_
       refine AWP.ret ?_
       refine fin_pure (.cons (rv_tmp n0WaA) .nil) n0WaA ?_
       exact ren_flat rfl rfl

theorem e_ent (l m : List Q4) (hl : l.length ≤ 1048576) (hm : m.length ≤ 1048576) : Does Tryz.prog 31 [(.sl none (l.map q4) .ro), (.sl none (m.map q4) .ro)] [] (vb (decide (l = m))) [] := by
 refine Does.of_body (rvs := [.tmp 4]) Tryz.func31 rfl rfl rfl rfl ?_
 refine AWP.sr ?_
 refine n_assign rfl n0WaA ?_
 refine AOps.nil ?_
 refine AWP.seq ?_
 refine AWP.sr ?_
 refine n_move rfl n0WaA ?_
 refine n_len rfl Tryz.underlying30 n0WaA (by first | rw [ints_length] | rw [List.length_map] | rfl) ?_
 refine n_move rfl n0WaA ?_
 refine n_len rfl Tryz.underlying30 n0WaA (by first | rw [ints_length] | rw [List.length_map] | rfl) ?_
 refine n_ibin rfl n0WaA n0WaA rfl ?_
 refine AOps.nil ?_
 refine AWP.cond n0WaA (fun hc1 => ?_) (fun hc1 => ?_)
 · try simp only [nh] at hc1
   have hr : decide (l = m) = false := decide_eq_false (ne_len (by (try simp at hc1); omega))
   rw [hr]
   refine AWP.sr ?_
   refine n_assign rfl n0WaA ?_
   refine AOps.nil ?_
   refine AWP.ret ?_
   refine fin_pure (.cons (rv_tmp n0WaA) .nil) n0WaA ?_
   exact ren_flat rfl rfl
 · try simp only [nh] at hc1
   have hlm : l.length = m.length := by { (try simp at hc1); omega }
   refine AWP.skip ?_
   refine AWP.seq ?_
   refine AWP.sr ?_
   refine n_move rfl n0WaA ?_
   refine n_len rfl Tryz.underlying30 n0WaA (by first | rw [ints_length] | rw [List.length_map] | rfl) ?_
   refine n_move rfl n0WaA ?_
   refine AOps.nil ?_
   refine AWP.block ?_
   refine AWP.loop (α := Nat) (fun i => i ≤ l.length ∧ l.take i = m.take i) (fun i => put (put (put (put empty 0 (.sl none (l.map q4) .ro)) 1 (.sl none (m.map q4) .ro)) 12 (vi (l.length : Int))) 13 (vi (i : Int))) (fun _ => []) (fun i => l.length - i) 0 ?_ ?_ ?_ ?_
   · exact ⟨Nat.zero_le _, rfl⟩
   · (repeat (first | exact FLe.empty _ | refine FLe.put ?_ ?_)) <;> first | (simp only [nf, Nat.beq]; done) | rfl | ((try simp only [nf, Nat.beq]); first | rfl | (simp only [List.length_map]; done) | (congr 2; omega; done))
   · rfl
   · rintro i ⟨hi, hE⟩
     try dsimp only at hi hE ⊢
     refine AWP.sr ?_
     refine n_ibin rfl n0WaA n0WaA rfl ?_
     refine AOps.nil ?_
     refine AWP.seq ?_
     refine AWP.cond n0WaA (fun hc2 => ?_) (fun hc2 => ?_)
     · try simp only [nh] at hc2
       obtain ⟨x, hx0⟩ : ∃ x, l[i]? = some x := ⟨_, List.getElem?_eq_getElem (by omega)⟩
       obtain ⟨y, hy0⟩ : ∃ y, m[i]? = some y := ⟨_, List.getElem?_eq_getElem (by omega)⟩
       have hx := map_at q4 hx0
       have hy := map_at q4 hy0
       refine AWP.skip ?_
       refine AWP.seq ?_
       refine AWP.block ?_
       refine AWP.sr ?_
       refine n_move rfl n0WaA ?_
       refine n_assign rfl n0WaA ?_
       refine AOps.nil ?_
       refine AWP.seq ?_
       refine AWP.anyStill (by kernel_rfl) (by kernel_rfl) ?_
       refine Walk.still (rs := [0]) (by rfl) n0WaA (fun base => by
        refine n_move rfl n0WaA ?_
        exact AOps.nil ⟨rfl, rfl, rfl⟩) ?_
       refine Walk.still (rs := [5]) (by rfl) n0WaA (fun base => by
        refine n_move rfl n0WaA ?_
        exact AOps.nil ⟨rfl, rfl, rfl⟩) ?_
       refine Walk.still (rs := [16, 17]) (by rfl) n0WaA (fun base => by
        refine n_indexAddr rfl Tryz.underlying30 ti46 rfl n0WaA n0WaA (by omega) (by exact hx) rfl ?_
        exact AOps.nil ⟨rfl, rfl, rfl⟩) ?_
       refine Walk.still (rs := [18]) (by rfl) n0WaA (fun base => by
        refine n_load rfl ti46 n0WaA n0WaA rfl n0WaA ?_
        exact AOps.nil ⟨rfl, rfl, rfl⟩) ?_
       refine Walk.still (rs := [1]) (by rfl) n0WaA (fun base => by
        refine n_move rfl n0WaA ?_
        exact AOps.nil ⟨rfl, rfl, rfl⟩) ?_
       refine Walk.still (rs := [5]) (by rfl) n0WaA (fun base => by
        refine n_move rfl n0WaA ?_
        exact AOps.nil ⟨rfl, rfl, rfl⟩) ?_
       refine Walk.still (rs := [20, 21]) (by rfl) n0WaA (fun base => by
        refine n_indexAddr rfl Tryz.underlying30 ti46 rfl n0WaA n0WaA (by omega) (by exact hy) rfl ?_
        exact AOps.nil ⟨rfl, rfl, rfl⟩) ?_
       refine Walk.still (rs := [22]) (by rfl) n0WaA (fun base => by
        refine n_load rfl ti46 n0WaA n0WaA rfl n0WaA ?_
        exact AOps.nil ⟨rfl, rfl, rfl⟩) ?_
       refine Walk.still (rs := [19, 23]) (by rfl) n0WaA (fun base => by
        refine n_stne rfl n0WaA n0WaA rfl rfl Tryz.underlying46 (by kernel_rfl) (by kernel_rfl) (.int rfl ti2 Tryz.underlying2 rfl rfl (.int rfl ti3 Tryz.underlying3 rfl rfl (.struct rfl ti44 Tryz.underlying44 (by kernel_rfl) rfl rfl (.int rfl ti2 Tryz.underlying2 rfl rfl (.int rfl ti2 Tryz.underlying2 rfl rfl .nil)) .nil))) rfl ?_
        exact AOps.nil ⟨rfl, rfl, rfl⟩) ?_
       refine Walk.done ?_
       refine AWP.cond n0WaA (fun hc3 => ?_) (fun hc3 => ?_)
       · try simp only [nh] at hc3
         have hr : decide (l = m) = false := decide_eq_false (ne_at hx0 hy0 (by rintro rfl; (try simp at hc3); try contradiction))
         rw [hr]
         refine AWP.sr ?_
         refine n_assign rfl n0WaA ?_
         refine AOps.nil ?_
         refine AWP.ret ?_
         refine fin_pure (.cons (rv_tmp n0WaA) .nil) n0WaA ?_
         exact ren_flat rfl rfl
       try simp only [nh] at hc3
       have hxy : x = y := by { (try simp at hc3); grind }
       refine AWP.skip ?_
       refine AWP.region ?_
       first | refine n_iadd rfl n0WaA n0WaA rfl (by omega) (by omega) ?_ | refine n_ibin rfl n0WaA n0WaA rfl ?_
       refine n_move rfl n0WaA ?_
       refine AOps.nil ?_
       refine ⟨i + 1, ⟨by omega, eq_take hE hx0 (by rw [hxy]; exact hy0)⟩, ?_, rfl, by omega⟩
       (repeat (first | exact FLe.empty _ | refine FLe.put ?_ ?_)) <;> first | (simp only [nf, Nat.beq]; done) | rfl | ((try simp only [nf, Nat.beq]); first | rfl | (simp only [List.length_map]; done) | (congr 2; omega; done))
     · try simp only [nh] at hc2
       obtain rfl : i = l.length := by omega
       have hr : decide (l = m) = true := decide_eq_true (eq_all hlm hE)
       rw [hr]
       refine AWP.exit ?_
       refine AWP.sr ?_
       refine n_assign rfl n0WaA ?_
       refine AOps.nil ?_
       refine AWP.ret ?_
       refine fin_pure (.cons (rv_tmp n0WaA) .nil) n0WaA ?_
       exact ren_flat rfl rfl

theorem e_span (l m : List Q4) (hl : l.length ≤ 1048576) (hm : m.length ≤ 1048576) : Does Tryz.prog 63 [(.sl none (l.map q4) .ro), (.sl none (m.map q4) .ro)] [] (vb (decide (l = m))) [] := by
 refine Does.of_body (rvs := [.tmp 4]) Tryz.func63 rfl rfl rfl rfl ?_
 refine AWP.sr ?_
 refine n_assign rfl n0WaA ?_
 refine AOps.nil ?_
 refine AWP.seq ?_
 refine AWP.sr ?_
 refine n_move rfl n0WaA ?_
 refine n_len rfl Tryz.underlying47 n0WaA (by first | rw [ints_length] | rw [List.length_map] | rfl) ?_
 refine n_move rfl n0WaA ?_
 refine n_len rfl Tryz.underlying47 n0WaA (by first | rw [ints_length] | rw [List.length_map] | rfl) ?_
 refine n_ibin rfl n0WaA n0WaA rfl ?_
 refine AOps.nil ?_
 refine AWP.cond n0WaA (fun hc1 => ?_) (fun hc1 => ?_)
 · try simp only [nh] at hc1
   have hr : decide (l = m) = false := decide_eq_false (ne_len (by (try simp at hc1); omega))
   rw [hr]
   refine AWP.sr ?_
   refine n_assign rfl n0WaA ?_
   refine AOps.nil ?_
   refine AWP.ret ?_
   refine fin_pure (.cons (rv_tmp n0WaA) .nil) n0WaA ?_
   exact ren_flat rfl rfl
 · try simp only [nh] at hc1
   have hlm : l.length = m.length := by { (try simp at hc1); omega }
   refine AWP.skip ?_
   refine AWP.seq ?_
   refine AWP.sr ?_
   refine n_move rfl n0WaA ?_
   refine n_len rfl Tryz.underlying47 n0WaA (by first | rw [ints_length] | rw [List.length_map] | rfl) ?_
   refine n_move rfl n0WaA ?_
   refine AOps.nil ?_
   refine AWP.block ?_
   refine AWP.loop (α := Nat) (fun i => i ≤ l.length ∧ l.take i = m.take i) (fun i => put (put (put (put empty 0 (.sl none (l.map q4) .ro)) 1 (.sl none (m.map q4) .ro)) 12 (vi (l.length : Int))) 13 (vi (i : Int))) (fun _ => []) (fun i => l.length - i) 0 ?_ ?_ ?_ ?_
   · exact ⟨Nat.zero_le _, rfl⟩
   · (repeat (first | exact FLe.empty _ | refine FLe.put ?_ ?_)) <;> first | (simp only [nf, Nat.beq]; done) | rfl | ((try simp only [nf, Nat.beq]); first | rfl | (simp only [List.length_map]; done) | (congr 2; omega; done))
   · rfl
   · rintro i ⟨hi, hE⟩
     try dsimp only at hi hE ⊢
     refine AWP.sr ?_
     refine n_ibin rfl n0WaA n0WaA rfl ?_
     refine AOps.nil ?_
     refine AWP.seq ?_
     refine AWP.cond n0WaA (fun hc2 => ?_) (fun hc2 => ?_)
     · try simp only [nh] at hc2
       obtain ⟨x, hx0⟩ : ∃ x, l[i]? = some x := ⟨_, List.getElem?_eq_getElem (by omega)⟩
       obtain ⟨y, hy0⟩ : ∃ y, m[i]? = some y := ⟨_, List.getElem?_eq_getElem (by omega)⟩
       have hx := map_at q4 hx0
       have hy := map_at q4 hy0
       refine AWP.skip ?_
       refine AWP.seq ?_
       refine AWP.block ?_
       refine AWP.sr ?_
       refine n_move rfl n0WaA ?_
       refine n_assign rfl n0WaA ?_
       refine AOps.nil ?_
       refine AWP.seq ?_
       refine AWP.anyStill (by kernel_rfl) (by kernel_rfl) ?_
       refine Walk.still (rs := [0]) (by rfl) n0WaA (fun base => by
        refine n_move rfl n0WaA ?_
        exact AOps.nil ⟨rfl, rfl, rfl⟩) ?_
       refine Walk.still (rs := [5]) (by rfl) n0WaA (fun base => by
        refine n_move rfl n0WaA ?_
        exact AOps.nil ⟨rfl, rfl, rfl⟩) ?_
       refine Walk.still (rs := [16, 17]) (by rfl) n0WaA (fun base => by
        refine n_indexAddr rfl Tryz.underlying47 ti51 rfl n0WaA n0WaA (by omega) (by exact hx) rfl ?_
        exact AOps.nil ⟨rfl, rfl, rfl⟩) ?_
       refine Walk.still (rs := [18]) (by rfl) n0WaA (fun base => by
        refine n_load rfl ti51 n0WaA n0WaA rfl n0WaA ?_
        exact AOps.nil ⟨rfl, rfl, rfl⟩) ?_
       refine Walk.still (rs := [1]) (by rfl) n0WaA (fun base => by
        refine n_move rfl n0WaA ?_
        exact AOps.nil ⟨rfl, rfl, rfl⟩) ?_
       refine Walk.still (rs := [5]) (by rfl) n0WaA (fun base => by
        refine n_move rfl n0WaA ?_
        exact AOps.nil ⟨rfl, rfl, rfl⟩) ?_
       refine Walk.still (rs := [20, 21]) (by rfl) n0WaA (fun base => by
        refine n_indexAddr rfl Tryz.underlying47 ti51 rfl n0WaA n0WaA (by omega) (by exact hy) rfl ?_
        exact AOps.nil ⟨rfl, rfl, rfl⟩) ?_
       refine Walk.still (rs := [22]) (by rfl) n0WaA (fun base => by
        refine n_load rfl ti51 n0WaA n0WaA rfl n0WaA ?_
        exact AOps.nil ⟨rfl, rfl, rfl⟩) ?_
       refine Walk.still (rs := [19, 23]) (by rfl) n0WaA (fun base => by
        refine n_stne rfl n0WaA n0WaA rfl rfl Tryz.underlying51 (by kernel_rfl) (by kernel_rfl) (.int rfl ti2 Tryz.underlying2 rfl rfl (.int rfl ti3 Tryz.underlying3 rfl rfl (.int rfl ti2 Tryz.underlying2 rfl rfl (.int rfl ti2 Tryz.underlying2 rfl rfl .nil)))) rfl ?_
        exact AOps.nil ⟨rfl, rfl, rfl⟩) ?_
       refine Walk.done ?_
       refine AWP.cond n0WaA (fun hc3 => ?_) (fun hc3 => ?_)
       · try simp only [nh] at hc3
         have hr : decide (l = m) = false := decide_eq_false (ne_at hx0 hy0 (by rintro rfl; (try simp at hc3); try contradiction))
         rw [hr]
         refine AWP.sr ?_
         refine n_assign rfl n0WaA ?_
         refine AOps.nil ?_
         refine AWP.ret ?_
         refine fin_pure (.cons (rv_tmp n0WaA) .nil) n0WaA ?_
         exact ren_flat rfl rfl
       try simp only [nh] at hc3
       have hxy : x = y := by { (try simp at hc3); grind }
       refine AWP.skip ?_
       refine AWP.region ?_
       first | refine n_iadd rfl n0WaA n0WaA rfl (by omega) (by omega) ?_ | refine n_ibin rfl n0WaA n0WaA rfl ?_
       refine n_move rfl n0WaA ?_
       refine AOps.nil ?_
       refine ⟨i + 1, ⟨by omega, eq_take hE hx0 (by rw [hxy]; exact hy0)⟩, ?_, rfl, by omega⟩
       (repeat (first | exact FLe.empty _ | refine FLe.put ?_ ?_)) <;> first | (simp only [nf, Nat.beq]; done) | rfl | ((try simp only [nf, Nat.beq]); first | rfl | (simp only [List.length_map]; done) | (congr 2; omega; done))
     · try simp only [nh] at hc2
       obtain rfl : i = l.length := by omega
       have hr : decide (l = m) = true := decide_eq_true (eq_all hlm hE)
       rw [hr]
       refine AWP.exit ?_
       refine AWP.sr ?_
       refine n_assign rfl n0WaA ?_
       refine AOps.nil ?_
       refine AWP.ret ?_
       refine fin_pure (.cons (rv_tmp n0WaA) .nil) n0WaA ?_
       exact ren_flat rfl rfl

theorem r_int (l m : List Int) (hl : l.length ≤ 1048576) (hm : m.length ≤ 1048576) : Does Tryz.prog 24 [(.sl none (l.map q1) .ro), (.sl none (m.map q1) .ro)] [] (vb (decide (l = m))) [] := by
 refine Does.of_body (rvs := [.tmp 4]) Tryz.func24 rfl rfl rfl rfl ?_
 refine AWP.sr ?_
 refine n_assign rfl n0WaA ?_
 refine AOps.nil ?_
 refine AWP.seq ?_
 refine AWP.sr ?_
 refine n_move rfl n0WaA ?_
 refine n_len rfl Tryz.underlying24 n0WaA (by first | rw [ints_length] | rw [List.length_map] | rfl) ?_
 refine n_move rfl n0WaA ?_
 refine n_len rfl Tryz.underlying24 n0WaA (by first | rw [ints_length] | rw [List.length_map] | rfl) ?_
 refine n_ibin rfl n0WaA n0WaA rfl ?_
 refine AOps.nil ?_
 refine AWP.cond n0WaA (fun hc1 => ?_) (fun hc1 => ?_)
 · try simp only [nh] at hc1
   have hr : decide (l = m) = false := decide_eq_false (ne_len (by (try simp at hc1); omega))
   rw [hr]
   refine AWP.sr ?_
   refine n_assign rfl n0WaA ?_
   refine AOps.nil ?_
   refine AWP.ret ?_
   refine fin_pure (.cons (rv_tmp n0WaA) .nil) n0WaA ?_
   exact ren_flat rfl rfl
 · try simp only [nh] at hc1
   have hlm : l.length = m.length := by { (try simp at hc1); omega }
   refine AWP.skip ?_
   refine AWP.seq ?_
   refine AWP.sr ?_
   refine n_assign rfl n0WaA ?_
   refine AOps.nil ?_
   refine AWP.block ?_
   refine AWP.loop (α := Nat) (fun i => i ≤ l.length ∧ l.take i = m.take i) (fun i => put (put (put empty 0 (.sl none (l.map q1) .ro)) 1 (.sl none (m.map q1) .ro)) 5 (vi (i : Int))) (fun _ => []) (fun i => l.length - i) 0 ?_ ?_ ?_ ?_
   · exact ⟨Nat.zero_le _, rfl⟩
   · (repeat (first | exact FLe.empty _ | refine FLe.put ?_ ?_)) <;> first | (simp only [nf, Nat.beq]; done) | rfl | ((try simp only [nf, Nat.beq]); first | rfl | (simp only [List.length_map]; done) | (congr 2; omega; done))
   · rfl
   · rintro i ⟨hi, hE⟩
     try dsimp only at hi hE ⊢
     refine AWP.seq ?_
     refine AWP.sr ?_
     refine n_move rfl n0WaA ?_
     refine n_move rfl n0WaA ?_
     refine n_len rfl Tryz.underlying24 n0WaA (by first | rw [ints_length] | rw [List.length_map] | rfl) ?_
     refine n_ibin rfl n0WaA n0WaA rfl ?_
     refine AOps.nil ?_
     refine AWP.cond n0WaA (fun hc2 => ?_) (fun hc2 => ?_)
     · try simp only [nh] at hc2
       obtain ⟨x, hx0⟩ : ∃ x, l[i]? = some x := ⟨_, List.getElem?_eq_getElem (by omega)⟩
       obtain ⟨y, hy0⟩ : ∃ y, m[i]? = some y := ⟨_, List.getElem?_eq_getElem (by omega)⟩
       have hx := map_at q1 hx0
       have hy := map_at q1 hy0
       refine AWP.skip ?_
       refine AWP.seq ?_
       refine AWP.block ?_
       refine AWP.seq ?_
       refine AWP.anyStill (by kernel_rfl) (by kernel_rfl) ?_
       refine Walk.still (rs := [0]) (by rfl) n0WaA (fun base => by
        refine n_move rfl n0WaA ?_
        exact AOps.nil ⟨rfl, rfl, rfl⟩) ?_
       refine Walk.still (rs := [5]) (by rfl) n0WaA (fun base => by
        refine n_move rfl n0WaA ?_
        exact AOps.nil ⟨rfl, rfl, rfl⟩) ?_
       refine Walk.still (rs := [17, 18]) (by rfl) n0WaA (fun base => by
        refine n_indexAddr rfl Tryz.underlying24 ti2 rfl n0WaA n0WaA (by omega) (by exact hx) rfl ?_
        exact AOps.nil ⟨rfl, rfl, rfl⟩) ?_
       refine Walk.still (rs := [19]) (by rfl) n0WaA (fun base => by
        refine n_load rfl ti2 n0WaA n0WaA rfl n0WaA ?_
        exact AOps.nil ⟨rfl, rfl, rfl⟩) ?_
       refine Walk.still (rs := [1]) (by rfl) n0WaA (fun base => by
        refine n_move rfl n0WaA ?_
        exact AOps.nil ⟨rfl, rfl, rfl⟩) ?_
       refine Walk.still (rs := [5]) (by rfl) n0WaA (fun base => by
        refine n_move rfl n0WaA ?_
        exact AOps.nil ⟨rfl, rfl, rfl⟩) ?_
       refine Walk.still (rs := [21, 22]) (by rfl) n0WaA (fun base => by
        refine n_indexAddr rfl Tryz.underlying24 ti2 rfl n0WaA n0WaA (by omega) (by exact hy) rfl ?_
        exact AOps.nil ⟨rfl, rfl, rfl⟩) ?_
       refine Walk.still (rs := [23]) (by rfl) n0WaA (fun base => by
        refine n_load rfl ti2 n0WaA n0WaA rfl n0WaA ?_
        exact AOps.nil ⟨rfl, rfl, rfl⟩) ?_
       refine Walk.still (rs := [20, 24]) (by rfl) n0WaA (fun base => by
        refine n_ibin rfl n0WaA n0WaA rfl ?_
        exact AOps.nil ⟨rfl, rfl, rfl⟩) ?_
       refine Walk.done ?_
       refine AWP.cond n0WaA (fun hc3 => ?_) (fun hc3 => ?_)
       · try simp only [nh] at hc3
         have hr : decide (l = m) = false := decide_eq_false (ne_at hx0 hy0 (by rintro rfl; (try simp at hc3); try contradiction))
         rw [hr]
         refine AWP.sr ?_
         refine n_assign rfl n0WaA ?_
         refine AOps.nil ?_
         refine AWP.ret ?_
         refine fin_pure (.cons (rv_tmp n0WaA) .nil) n0WaA ?_
         exact ren_flat rfl rfl
       try simp only [nh] at hc3
       have hxy : x = y := by { (try simp at hc3); grind }
       refine AWP.skip ?_
       refine AWP.region ?_
       refine n_move rfl n0WaA ?_
       first | refine n_iadd rfl n0WaA n0WaA rfl (by omega) (by omega) ?_ | refine n_ibin rfl n0WaA n0WaA rfl ?_
       refine n_assign rfl n0WaA ?_
       refine AOps.nil ?_
       refine ⟨i + 1, ⟨by omega, eq_take hE hx0 (by rw [hxy]; exact hy0)⟩, ?_, rfl, by omega⟩
       (repeat (first | exact FLe.empty _ | refine FLe.put ?_ ?_)) <;> first | (simp only [nf, Nat.beq]; done) | rfl | ((try simp only [nf, Nat.beq]); first | rfl | (simp only [List.length_map]; done) | (congr 2; omega; done))
     · try simp only [nh] at hc2
       obtain rfl : i = l.length := by omega
       have hr : decide (l = m) = true := decide_eq_true (eq_all hlm hE)
       rw [hr]
       refine AWP.exit ?_
       refine AWP.sr ?_
       refine n_assign rfl n0WaA ?_
       refine AOps.nil ?_
       refine AWP.ret ?_
       refine fin_pure (.cons (rv_tmp n0WaA) .nil) n0WaA ?_
       exact ren_flat rfl rfl

theorem r_rec (l m : List (Int × Int)) (hl : l.length ≤ 1048576) (hm : m.length ≤ 1048576) : Does Tryz.prog 61 [(.sl none (l.map q2) .ro), (.sl none (m.map q2) .ro)] [] (vb (decide (l = m))) [] := by
 refine Does.of_body (rvs := [.tmp 4]) Tryz.func61 rfl rfl rfl rfl ?_
 refine AWP.sr ?_
 refine n_assign rfl n0WaA ?_
 refine AOps.nil ?_
 refine AWP.seq ?_
 refine AWP.sr ?_
 refine n_move rfl n0WaA ?_
 refine n_len rfl Tryz.underlying23 n0WaA (by first | rw [ints_length] | rw [List.length_map] | rfl) ?_
 refine n_move rfl n0WaA ?_
 refine n_len rfl Tryz.underlying23 n0WaA (by first | rw [ints_length] | rw [List.length_map] | rfl) ?_
 refine n_ibin rfl n0WaA n0WaA rfl ?_
 refine AOps.nil ?_
 refine AWP.cond n0WaA (fun hc1 => ?_) (fun hc1 => ?_)
 · try simp only [nh] at hc1
   have hr : decide (l = m) = false := decide_eq_false (ne_len (by (try simp at hc1); omega))
   rw [hr]
   refine AWP.sr ?_
   refine n_assign rfl n0WaA ?_
   refine AOps.nil ?_
   refine AWP.ret ?_
   refine fin_pure (.cons (rv_tmp n0WaA) .nil) n0WaA ?_
   exact ren_flat rfl rfl
 · try simp only [nh] at hc1
   have hlm : l.length = m.length := by { (try simp at hc1); omega }
   refine AWP.skip ?_
   refine AWP.seq ?_
   refine AWP.sr ?_
   refine n_assign rfl n0WaA ?_
   refine AOps.nil ?_
   refine AWP.block ?_
   refine AWP.loop (α := Nat) (fun i => i ≤ l.length ∧ l.take i = m.take i) (fun i => put (put (put empty 0 (.sl none (l.map q2) .ro)) 1 (.sl none (m.map q2) .ro)) 5 (vi (i : Int))) (fun _ => []) (fun i => l.length - i) 0 ?_ ?_ ?_ ?_
   · exact ⟨Nat.zero_le _, rfl⟩
   · (repeat (first | exact FLe.empty _ | refine FLe.put ?_ ?_)) <;> first | (simp only [nf, Nat.beq]; done) | rfl | ((try simp only [nf, Nat.beq]); first | rfl | (simp only [List.length_map]; done) | (congr 2; omega; done))
   · rfl
   · rintro i ⟨hi, hE⟩
     try dsimp only at hi hE ⊢
     refine AWP.seq ?_
     refine AWP.sr ?_
     refine n_move rfl n0WaA ?_
     refine n_move rfl n0WaA ?_
     refine n_len rfl Tryz.underlying23 n0WaA (by first | rw [ints_length] | rw [List.length_map] | rfl) ?_
     refine n_ibin rfl n0WaA n0WaA rfl ?_
     refine AOps.nil ?_
     refine AWP.cond n0WaA (fun hc2 => ?_) (fun hc2 => ?_)
     · try simp only [nh] at hc2
       obtain ⟨x, hx0⟩ : ∃ x, l[i]? = some x := ⟨_, List.getElem?_eq_getElem (by omega)⟩
       obtain ⟨y, hy0⟩ : ∃ y, m[i]? = some y := ⟨_, List.getElem?_eq_getElem (by omega)⟩
       have hx := map_at q2 hx0
       have hy := map_at q2 hy0
       refine AWP.skip ?_
       refine AWP.seq ?_
       refine AWP.block ?_
       refine AWP.seq ?_
       refine AWP.anyStill (by kernel_rfl) (by kernel_rfl) ?_
       refine Walk.still (rs := [0]) (by rfl) n0WaA (fun base => by
        refine n_move rfl n0WaA ?_
        exact AOps.nil ⟨rfl, rfl, rfl⟩) ?_
       refine Walk.still (rs := [5]) (by rfl) n0WaA (fun base => by
        refine n_move rfl n0WaA ?_
        exact AOps.nil ⟨rfl, rfl, rfl⟩) ?_
       refine Walk.still (rs := [17, 18]) (by rfl) n0WaA (fun base => by
        refine n_indexAddr rfl Tryz.underlying23 ti44 rfl n0WaA n0WaA (by omega) (by exact hx) rfl ?_
        exact AOps.nil ⟨rfl, rfl, rfl⟩) ?_
       refine Walk.still (rs := [19]) (by rfl) n0WaA (fun base => by
        refine n_load rfl ti44 n0WaA n0WaA rfl n0WaA ?_
        exact AOps.nil ⟨rfl, rfl, rfl⟩) ?_
       refine Walk.still (rs := [1]) (by rfl) n0WaA (fun base => by
        refine n_move rfl n0WaA ?_
        exact AOps.nil ⟨rfl, rfl, rfl⟩) ?_
       refine Walk.still (rs := [5]) (by rfl) n0WaA (fun base => by
        refine n_move rfl n0WaA ?_
        exact AOps.nil ⟨rfl, rfl, rfl⟩) ?_
       refine Walk.still (rs := [21, 22]) (by rfl) n0WaA (fun base => by
        refine n_indexAddr rfl Tryz.underlying23 ti44 rfl n0WaA n0WaA (by omega) (by exact hy) rfl ?_
        exact AOps.nil ⟨rfl, rfl, rfl⟩) ?_
       refine Walk.still (rs := [23]) (by rfl) n0WaA (fun base => by
        refine n_load rfl ti44 n0WaA n0WaA rfl n0WaA ?_
        exact AOps.nil ⟨rfl, rfl, rfl⟩) ?_
       refine Walk.still (rs := [20, 24]) (by rfl) n0WaA (fun base => by
        refine n_stne rfl n0WaA n0WaA rfl rfl Tryz.underlying44 (by kernel_rfl) (by kernel_rfl) (.int rfl ti2 Tryz.underlying2 rfl rfl (.int rfl ti2 Tryz.underlying2 rfl rfl .nil)) rfl ?_
        exact AOps.nil ⟨rfl, rfl, rfl⟩) ?_
       refine Walk.done ?_
       refine AWP.cond n0WaA (fun hc3 => ?_) (fun hc3 => ?_)
       · try simp only [nh] at hc3
         have hr : decide (l = m) = false := decide_eq_false (ne_at hx0 hy0 (by rintro rfl; (try simp at hc3); try contradiction))
         rw [hr]
         refine AWP.sr ?_
         refine n_assign rfl n0WaA ?_
         refine AOps.nil ?_
         refine AWP.ret ?_
         refine fin_pure (.cons (rv_tmp n0WaA) .nil) n0WaA ?_
         exact ren_flat rfl rfl
       try simp only [nh] at hc3
       have hxy : x = y := by { (try simp at hc3); grind }
       refine AWP.skip ?_
       refine AWP.region ?_
       refine n_move rfl n0WaA ?_
       first | refine n_iadd rfl n0WaA n0WaA rfl (by omega) (by omega) ?_ | refine n_ibin rfl n0WaA n0WaA rfl ?_
       refine n_assign rfl n0WaA ?_
       refine AOps.nil ?_
       refine ⟨i + 1, ⟨by omega, eq_take hE hx0 (by rw [hxy]; exact hy0)⟩, ?_, rfl, by omega⟩
       (repeat (first | exact FLe.empty _ | refine FLe.put ?_ ?_)) <;> first | (simp only [nf, Nat.beq]; done) | rfl | ((try simp only [nf, Nat.beq]); first | rfl | (simp only [List.length_map]; done) | (congr 2; omega; done))
     · try simp only [nh] at hc2
       obtain rfl : i = l.length := by omega
       have hr : decide (l = m) = true := decide_eq_true (eq_all hlm hE)
       rw [hr]
       refine AWP.exit ?_
       refine AWP.sr ?_
       refine n_assign rfl n0WaA ?_
       refine AOps.nil ?_
       refine AWP.ret ?_
       refine fin_pure (.cons (rv_tmp n0WaA) .nil) n0WaA ?_
       exact ren_flat rfl rfl

theorem r_ent (l m : List Q4) (hl : l.length ≤ 1048576) (hm : m.length ≤ 1048576) : Does Tryz.prog 25 [(.sl none (l.map q4) .ro), (.sl none (m.map q4) .ro)] [] (vb (decide (l = m))) [] := by
 refine Does.of_body (rvs := [.tmp 4]) Tryz.func25 rfl rfl rfl rfl ?_
 refine AWP.sr ?_
 refine n_assign rfl n0WaA ?_
 refine AOps.nil ?_
 refine AWP.seq ?_
 refine AWP.sr ?_
 refine n_move rfl n0WaA ?_
 refine n_len rfl Tryz.underlying30 n0WaA (by first | rw [ints_length] | rw [List.length_map] | rfl) ?_
 refine n_move rfl n0WaA ?_
 refine n_len rfl Tryz.underlying30 n0WaA (by first | rw [ints_length] | rw [List.length_map] | rfl) ?_
 refine n_ibin rfl n0WaA n0WaA rfl ?_
 refine AOps.nil ?_
 refine AWP.cond n0WaA (fun hc1 => ?_) (fun hc1 => ?_)
 · try simp only [nh] at hc1
   have hr : decide (l = m) = false := decide_eq_false (ne_len (by (try simp at hc1); omega))
   rw [hr]
   refine AWP.sr ?_
   refine n_assign rfl n0WaA ?_
   refine AOps.nil ?_
   refine AWP.ret ?_
   refine fin_pure (.cons (rv_tmp n0WaA) .nil) n0WaA ?_
   exact ren_flat rfl rfl
 · try simp only [nh] at hc1
   have hlm : l.length = m.length := by { (try simp at hc1); omega }
   refine AWP.skip ?_
   refine AWP.seq ?_
   refine AWP.sr ?_
   refine n_assign rfl n0WaA ?_
   refine AOps.nil ?_
   refine AWP.block ?_
   refine AWP.loop (α := Nat) (fun i => i ≤ l.length ∧ l.take i = m.take i) (fun i => put (put (put empty 0 (.sl none (l.map q4) .ro)) 1 (.sl none (m.map q4) .ro)) 5 (vi (i : Int))) (fun _ => []) (fun i => l.length - i) 0 ?_ ?_ ?_ ?_
   · exact ⟨Nat.zero_le _, rfl⟩
   · (repeat (first | exact FLe.empty _ | refine FLe.put ?_ ?_)) <;> first | (simp only [nf, Nat.beq]; done) | rfl | ((try simp only [nf, Nat.beq]); first | rfl | (simp only [List.length_map]; done) | (congr 2; omega; done))
   · rfl
   · rintro i ⟨hi, hE⟩
     try dsimp only at hi hE ⊢
     refine AWP.seq ?_
     refine AWP.sr ?_
     refine n_move rfl n0WaA ?_
     refine n_move rfl n0WaA ?_
     refine n_len rfl Tryz.underlying30 n0WaA (by first | rw [ints_length] | rw [List.length_map] | rfl) ?_
     refine n_ibin rfl n0WaA n0WaA rfl ?_
     refine AOps.nil ?_
     refine AWP.cond n0WaA (fun hc2 => ?_) (fun hc2 => ?_)
     · try simp only [nh] at hc2
       obtain ⟨x, hx0⟩ : ∃ x, l[i]? = some x := ⟨_, List.getElem?_eq_getElem (by omega)⟩
       obtain ⟨y, hy0⟩ : ∃ y, m[i]? = some y := ⟨_, List.getElem?_eq_getElem (by omega)⟩
       have hx := map_at q4 hx0
       have hy := map_at q4 hy0
       refine AWP.skip ?_
       refine AWP.seq ?_
       refine AWP.block ?_
       refine AWP.seq ?_
       refine AWP.anyStill (by kernel_rfl) (by kernel_rfl) ?_
       refine Walk.still (rs := [0]) (by rfl) n0WaA (fun base => by
        refine n_move rfl n0WaA ?_
        exact AOps.nil ⟨rfl, rfl, rfl⟩) ?_
       refine Walk.still (rs := [5]) (by rfl) n0WaA (fun base => by
        refine n_move rfl n0WaA ?_
        exact AOps.nil ⟨rfl, rfl, rfl⟩) ?_
       refine Walk.still (rs := [17, 18]) (by rfl) n0WaA (fun base => by
        refine n_indexAddr rfl Tryz.underlying30 ti46 rfl n0WaA n0WaA (by omega) (by exact hx) rfl ?_
        exact AOps.nil ⟨rfl, rfl, rfl⟩) ?_
       refine Walk.still (rs := [19]) (by rfl) n0WaA (fun base => by
        refine n_load rfl ti46 n0WaA n0WaA rfl n0WaA ?_
        exact AOps.nil ⟨rfl, rfl, rfl⟩) ?_
       refine Walk.still (rs := [1]) (by rfl) n0WaA (fun base => by
        refine n_move rfl n0WaA ?_
        exact AOps.nil ⟨rfl, rfl, rfl⟩) ?_
       refine Walk.still (rs := [5]) (by rfl) n0WaA (fun base => by
        refine n_move rfl n0WaA ?_
        exact AOps.nil ⟨rfl, rfl, rfl⟩) ?_
       refine Walk.still (rs := [21, 22]) (by rfl) n0WaA (fun base => by
        refine n_indexAddr rfl Tryz.underlying30 ti46 rfl n0WaA n0WaA (by omega) (by exact hy) rfl ?_
        exact AOps.nil ⟨rfl, rfl, rfl⟩) ?_
       refine Walk.still (rs := [23]) (by rfl) n0WaA (fun base => by
        refine n_load rfl ti46 n0WaA n0WaA rfl n0WaA ?_
        exact AOps.nil ⟨rfl, rfl, rfl⟩) ?_
       refine Walk.still (rs := [20, 24]) (by rfl) n0WaA (fun base => by
        refine n_stne rfl n0WaA n0WaA rfl rfl Tryz.underlying46 (by kernel_rfl) (by kernel_rfl) (.int rfl ti2 Tryz.underlying2 rfl rfl (.int rfl ti3 Tryz.underlying3 rfl rfl (.struct rfl ti44 Tryz.underlying44 (by kernel_rfl) rfl rfl (.int rfl ti2 Tryz.underlying2 rfl rfl (.int rfl ti2 Tryz.underlying2 rfl rfl .nil)) .nil))) rfl ?_
        exact AOps.nil ⟨rfl, rfl, rfl⟩) ?_
       refine Walk.done ?_
       refine AWP.cond n0WaA (fun hc3 => ?_) (fun hc3 => ?_)
       · try simp only [nh] at hc3
         have hr : decide (l = m) = false := decide_eq_false (ne_at hx0 hy0 (by rintro rfl; (try simp at hc3); try contradiction))
         rw [hr]
         refine AWP.sr ?_
         refine n_assign rfl n0WaA ?_
         refine AOps.nil ?_
         refine AWP.ret ?_
         refine fin_pure (.cons (rv_tmp n0WaA) .nil) n0WaA ?_
         exact ren_flat rfl rfl
       try simp only [nh] at hc3
       have hxy : x = y := by { (try simp at hc3); grind }
       refine AWP.skip ?_
       refine AWP.region ?_
       refine n_move rfl n0WaA ?_
       first | refine n_iadd rfl n0WaA n0WaA rfl (by omega) (by omega) ?_ | refine n_ibin rfl n0WaA n0WaA rfl ?_
       refine n_assign rfl n0WaA ?_
       refine AOps.nil ?_
       refine ⟨i + 1, ⟨by omega, eq_take hE hx0 (by rw [hxy]; exact hy0)⟩, ?_, rfl, by omega⟩
       (repeat (first | exact FLe.empty _ | refine FLe.put ?_ ?_)) <;> first | (simp only [nf, Nat.beq]; done) | rfl | ((try simp only [nf, Nat.beq]); first | rfl | (simp only [List.length_map]; done) | (congr 2; omega; done))
     · try simp only [nh] at hc2
       obtain rfl : i = l.length := by omega
       have hr : decide (l = m) = true := decide_eq_true (eq_all hlm hE)
       rw [hr]
       refine AWP.exit ?_
       refine AWP.sr ?_
       refine n_assign rfl n0WaA ?_
       refine AOps.nil ?_
       refine AWP.ret ?_
       refine fin_pure (.cons (rv_tmp n0WaA) .nil) n0WaA ?_
       exact ren_flat rfl rfl

theorem r_tab (t u : List Q4 × Int) (hl : t.1.length ≤ 1048576) (hm : u.1.length ≤ 1048576) : Does Tryz.prog 26 [.agg (qt t), .agg (qt u)] [] (vb (decide (t = u))) [] := by
 refine Does.of_body (rvs := [.tmp 4]) Tryz.func26 rfl rfl rfl rfl ?_
 refine AWP.sr ?_
 refine n_box rfl n0WaA rfl rfl n0WaA n0WaA ?_
 refine n_box rfl n0WaA rfl rfl n0WaA n0WaA ?_
 refine n_assign rfl n0WaA ?_
 refine AOps.nil ?_
 refine AWP.seq ?_
 refine AWP.sr ?_
 refine n_fieldAddr rfl fd49_1 ti2 rfl n0WaA rfl n0WaA ?_
 refine n_load rfl ti2 n0WaA n0WaA rfl n0WaA ?_
 refine n_fieldAddr rfl fd49_1 ti2 rfl n0WaA rfl n0WaA ?_
 refine n_load rfl ti2 n0WaA n0WaA rfl n0WaA ?_
 refine n_ibin rfl n0WaA n0WaA rfl ?_
 refine n_move rfl n0WaA ?_
 refine AOps.name (u := 11) (fun z => .val (.bool z)) n0WaA (fun b11 hb11 => ?_)
 refine n_softF b11 rfl rfl rfl n0WaA (fun h => by
  subst h
  refine n_fieldAddr rfl fd49_0 ti47 rfl n0WaA rfl n0WaA ?_
  exact AOps.nil ⟨rfl, rfl, rfl⟩) ?_
 refine n_softF b11 rfl rfl rfl n0WaA (fun h => by
  subst h
  refine n_load rfl ti47 n0WaA n0WaA rfl n0WaA ?_
  exact AOps.nil ⟨rfl, rfl, rfl⟩) ?_
 refine n_softF b11 rfl rfl rfl n0WaA (fun h => by
  subst h
  refine n_len rfl Tryz.underlying47 n0WaA (by first | rw [ints_length] | rw [List.length_map] | rfl) ?_
  exact AOps.nil ⟨rfl, rfl, rfl⟩) ?_
 refine n_softF b11 rfl rfl rfl n0WaA (fun h => by
  subst h
  refine n_fieldAddr rfl fd49_0 ti47 rfl n0WaA rfl n0WaA ?_
  exact AOps.nil ⟨rfl, rfl, rfl⟩) ?_
 refine n_softF b11 rfl rfl rfl n0WaA (fun h => by
  subst h
  refine n_load rfl ti47 n0WaA n0WaA rfl n0WaA ?_
  exact AOps.nil ⟨rfl, rfl, rfl⟩) ?_
 refine n_softF b11 rfl rfl rfl n0WaA (fun h => by
  subst h
  refine n_len rfl Tryz.underlying47 n0WaA (by first | rw [ints_length] | rw [List.length_map] | rfl) ?_
  exact AOps.nil ⟨rfl, rfl, rfl⟩) ?_
 refine n_softF b11 rfl rfl rfl n0WaA (fun h => by
  subst h
  refine n_ibin rfl n0WaA n0WaA rfl ?_
  exact AOps.nil ⟨rfl, rfl, rfl⟩) ?_
 refine n_pick_or rfl n0WaA (fun h => by cases b11 with | true => exact absurd h (by decide) | false => exact n0WaA) ?_
 subst hb11
 refine AOps.nil ?_
 refine AWP.cond n0WaA (fun hc1 => ?_) (fun hc1 => ?_)
 · try simp only [nh] at hc1
   have hr : decide (t = u) = false := decide_eq_false (by rintro rfl; simp at hc1)
   rw [hr]
   refine AWP.sr ?_
   refine n_assign rfl n0WaA ?_
   refine AOps.nil ?_
   refine AWP.ret ?_
   refine fin_pure (.cons (rv_tmp n0WaA) .nil) n0WaA ?_
   exact ren_flat rfl rfl
 · try simp only [nh] at hc1
   have hlm : t.1.length = u.1.length := by { (try simp at hc1); grind }
   have hnn : t.2 = u.2 := by { (try simp at hc1); grind }
   refine AWP.skip ?_
   refine AWP.seq ?_
   refine AWP.sr ?_
   refine n_assign rfl n0WaA ?_
   refine AOps.nil ?_
   refine AWP.block ?_
   refine AWP.loop (α := Nat) (fun i => i ≤ t.1.length ∧ t.1.take i = u.1.take i) (fun i => put (put (put empty 2 (.bp 0 0)) 3 (.bp 1 0)) 5 (vi (i : Int))) (fun _ => [Ob.box (qt t), Ob.box (qt u)]) (fun i => t.1.length - i) 0 ?_ ?_ ?_ ?_
   · exact ⟨Nat.zero_le _, rfl⟩
   · (repeat (first | exact FLe.empty _ | refine FLe.put ?_ ?_)) <;> first | (simp only [nf, Nat.beq]; done) | rfl | ((try simp only [nf, Nat.beq]); first | rfl | (simp only [List.length_map]; done) | (congr 2; omega; done))
   · rfl
   · rintro i ⟨hi, hE⟩
     try dsimp only at hi hE ⊢
     refine AWP.seq ?_
     refine AWP.sr ?_
     refine n_move rfl n0WaA ?_
     refine n_fieldAddr rfl fd49_0 ti47 rfl n0WaA rfl n0WaA ?_
     refine n_load rfl ti47 n0WaA n0WaA rfl n0WaA ?_
     refine n_len rfl Tryz.underlying47 n0WaA (by first | rw [ints_length] | rw [List.length_map] | rfl) ?_
     refine n_ibin rfl n0WaA n0WaA rfl ?_
     refine AOps.nil ?_
     refine AWP.cond n0WaA (fun hc2 => ?_) (fun hc2 => ?_)
     · try simp only [nh] at hc2
       obtain ⟨x, hx0⟩ : ∃ x, t.1[i]? = some x := ⟨_, List.getElem?_eq_getElem (by omega)⟩
       obtain ⟨y, hy0⟩ : ∃ y, u.1[i]? = some y := ⟨_, List.getElem?_eq_getElem (by omega)⟩
       have hx := map_at q4 hx0
       have hy := map_at q4 hy0
       refine AWP.skip ?_
       refine AWP.seq ?_
       refine AWP.block ?_
       refine AWP.seq ?_
       refine AWP.anyStill (by kernel_rfl) (by kernel_rfl) ?_
       refine Walk.still (rs := [2]) (by rfl) n0WaA (fun base => by
        refine n_fieldAddr rfl fd49_0 ti47 rfl n0WaA rfl n0WaA ?_
        exact AOps.nil ⟨rfl, rfl, rfl⟩) ?_
       refine Walk.still (rs := [27]) (by rfl) n0WaA (fun base => by
        refine n_load rfl ti47 n0WaA n0WaA rfl n0WaA ?_
        exact AOps.nil ⟨rfl, rfl, rfl⟩) ?_
       refine Walk.still (rs := [5]) (by rfl) n0WaA (fun base => by
        refine n_move rfl n0WaA ?_
        exact AOps.nil ⟨rfl, rfl, rfl⟩) ?_
       refine Walk.still (rs := [28, 29]) (by rfl) n0WaA (fun base => by
        refine n_indexAddr rfl Tryz.underlying47 ti51 rfl n0WaA n0WaA (by omega) (by exact hx) rfl ?_
        exact AOps.nil ⟨rfl, rfl, rfl⟩) ?_
       refine Walk.still (rs := [30]) (by rfl) n0WaA (fun base => by
        refine n_load rfl ti51 n0WaA n0WaA rfl n0WaA ?_
        exact AOps.nil ⟨rfl, rfl, rfl⟩) ?_
       refine Walk.still (rs := [3]) (by rfl) n0WaA (fun base => by
        refine n_fieldAddr rfl fd49_0 ti47 rfl n0WaA rfl n0WaA ?_
        exact AOps.nil ⟨rfl, rfl, rfl⟩) ?_
       refine Walk.still (rs := [32]) (by rfl) n0WaA (fun base => by
        refine n_load rfl ti47 n0WaA n0WaA rfl n0WaA ?_
        exact AOps.nil ⟨rfl, rfl, rfl⟩) ?_
       refine Walk.still (rs := [5]) (by rfl) n0WaA (fun base => by
        refine n_move rfl n0WaA ?_
        exact AOps.nil ⟨rfl, rfl, rfl⟩) ?_
       refine Walk.still (rs := [33, 34]) (by rfl) n0WaA (fun base => by
        refine n_indexAddr rfl Tryz.underlying47 ti51 rfl n0WaA n0WaA (by omega) (by exact hy) rfl ?_
        exact AOps.nil ⟨rfl, rfl, rfl⟩) ?_
       refine Walk.still (rs := [35]) (by rfl) n0WaA (fun base => by
        refine n_load rfl ti51 n0WaA n0WaA rfl n0WaA ?_
        exact AOps.nil ⟨rfl, rfl, rfl⟩) ?_
       refine Walk.still (rs := [31, 36]) (by rfl) n0WaA (fun base => by
        refine n_stne rfl n0WaA n0WaA rfl rfl Tryz.underlying51 (by kernel_rfl) (by kernel_rfl) (.int rfl ti2 Tryz.underlying2 rfl rfl (.int rfl ti3 Tryz.underlying3 rfl rfl (.int rfl ti2 Tryz.underlying2 rfl rfl (.int rfl ti2 Tryz.underlying2 rfl rfl .nil)))) rfl ?_
        exact AOps.nil ⟨rfl, rfl, rfl⟩) ?_
       refine Walk.done ?_
       refine AWP.cond n0WaA (fun hc3 => ?_) (fun hc3 => ?_)
       · try simp only [nh] at hc3
         have hr : decide (t = u) = false := decide_eq_false (fun e => ne_at hx0 hy0 (by rintro rfl; (try simp at hc3); try contradiction) (congrArg Prod.fst e))
         rw [hr]
         refine AWP.sr ?_
         refine n_assign rfl n0WaA ?_
         refine AOps.nil ?_
         refine AWP.ret ?_
         refine fin_pure (.cons (rv_tmp n0WaA) .nil) n0WaA ?_
         exact ren_flat rfl rfl
       try simp only [nh] at hc3
       have hxy : x = y := by { (try simp at hc3); grind }
       refine AWP.skip ?_
       refine AWP.region ?_
       refine n_move rfl n0WaA ?_
       first | refine n_iadd rfl n0WaA n0WaA rfl (by omega) (by omega) ?_ | refine n_ibin rfl n0WaA n0WaA rfl ?_
       refine n_assign rfl n0WaA ?_
       refine AOps.nil ?_
       refine ⟨i + 1, ⟨by omega, eq_take hE hx0 (by rw [hxy]; exact hy0)⟩, ?_, rfl, by omega⟩
       (repeat (first | exact FLe.empty _ | refine FLe.put ?_ ?_)) <;> first | (simp only [nf, Nat.beq]; done) | rfl | ((try simp only [nf, Nat.beq]); first | rfl | (simp only [List.length_map]; done) | (congr 2; omega; done))
     · try simp only [nh] at hc2
       obtain rfl : i = t.1.length := by omega
       have hr : decide (t = u) = true := decide_eq_true (Prod.ext (eq_all hlm hE) hnn)
       rw [hr]
       refine AWP.exit ?_
       refine AWP.sr ?_
       refine n_assign rfl n0WaA ?_
       refine AOps.nil ?_
       refine AWP.ret ?_
       refine fin_pure (.cons (rv_tmp n0WaA) .nil) n0WaA ?_
       exact ren_flat rfl rfl

theorem e_tab (t u : List Q4 × Int) (hl : t.1.length ≤ 1048576) (hm : u.1.length ≤ 1048576) : Does Tryz.prog 30 [.agg (qt t), .agg (qt u)] [] (vb (decide (t = u))) [] := by
 refine Does.of_body (rvs := [.tmp 4]) Tryz.func30 rfl rfl rfl rfl ?_
 refine AWP.sr ?_
 refine n_box rfl n0WaA rfl rfl n0WaA n0WaA ?_
 refine n_box rfl n0WaA rfl rfl n0WaA n0WaA ?_
 refine n_assign rfl n0WaA ?_
 refine AOps.nil ?_
 refine AWP.sr ?_
 refine n_fieldAddr rfl fd49_1 ti2 rfl n0WaA rfl n0WaA ?_
 refine n_load rfl ti2 n0WaA n0WaA rfl n0WaA ?_
 refine n_fieldAddr rfl fd49_1 ti2 rfl n0WaA rfl n0WaA ?_
 refine n_load rfl ti2 n0WaA n0WaA rfl n0WaA ?_
 refine n_ibin rfl n0WaA n0WaA rfl ?_
 refine n_move rfl n0WaA ?_
 refine AOps.name (u := 10) (fun z => .val (.bool z)) n0WaA (fun b10 hb10 => ?_)
 refine n_softT b10 rfl rfl rfl n0WaA (fun h => by
  subst h
  refine n_fieldAddr rfl fd49_0 ti47 rfl n0WaA rfl n0WaA ?_
  exact AOps.nil ⟨rfl, rfl, rfl⟩) ?_
 refine n_softT b10 rfl rfl rfl n0WaA (fun h => by
  subst h
  refine n_load rfl ti47 n0WaA n0WaA rfl n0WaA ?_
  exact AOps.nil ⟨rfl, rfl, rfl⟩) ?_
 refine n_softT b10 rfl rfl rfl n0WaA (fun h => by
  subst h
  refine n_fieldAddr rfl fd49_0 ti47 rfl n0WaA rfl n0WaA ?_
  exact AOps.nil ⟨rfl, rfl, rfl⟩) ?_
 refine n_softT b10 rfl rfl rfl n0WaA (fun h => by
  subst h
  refine n_load rfl ti47 n0WaA n0WaA rfl n0WaA ?_
  exact AOps.nil ⟨rfl, rfl, rfl⟩) ?_
 refine n_softT b10 rfl rfl rfl n0WaA (fun h => by
  subst h
  refine n_call0B rfl cf63 rfl (Eq.trans (by simp only [nl] <;> rfl) n0WaA) (by repeat (first | exact .nil | refine .cons ?_ ?_ | exact ren_ints | exact .lf (.val _) | exact .lf (lf_ints (.inl rfl)) | exact .bp ⟨rfl, rfl⟩ | exact .bp (.inl ⟨rfl, rfl⟩) | exact .bp (.inr ⟨rfl, rfl⟩) | exact ren_map (f := q1) (fun _ => rfl) | exact ren_map (f := q2) (fun _ => rfl) | exact ren_map (f := q4) (fun _ => rfl) | exact .lf (D.flat_lf rfl) | exact ren_lits rfl)) (e_span t.1 u.1 hl hm) (by first | exact .val _ | exact lf_ints (.inl rfl) | exact lf_ints (.inr rfl) | exact .any | exact D.flat_lf rfl) ?_
  exact AOps.nil ⟨rfl, rfl, rfl⟩) ?_
 refine n_pick_and rfl n0WaA (fun h => by cases b10 with | false => exact absurd h (by decide) | true => exact n0WaA) ?_
 refine n_assign rfl n0WaA ?_
 subst hb10
 refine AOps.nil ?_
 refine AWP.ret ?_
 refine fin_pure (.cons (rv_tmp n0WaA) .nil) n0WaA ?_
 exact ren_flat rfl (congrArg vb (by rcases t with ⟨t1, t2⟩; rcases u with ⟨u1, u2⟩; simp; grind))

theorem qt_lf (t : List Q4 × Int) : ∀ d ∈ qt t, LF d := lf_cons (lf_mapG (fun q d hd => by simp only [q4, List.mem_cons, List.not_mem_nil, or_false] at hd; rcases hd with rfl | rfl | rfl | rfl <;> exact .val _) (.inl rfl)) (lf_cons (.val _) lf_nil)
theorem lf_fnz {f : FuncId} : LF (.fn (.func f) [] []) := .fn (fun d h => by cases h) (fun d h => by cases h)
theorem e_tabs (l m : List (List Q4 × Int)) (hl : l.length ≤ 1048576) (hm : m.length ≤ 1048576) (hl2 : ∀ t ∈ l, t.1.length ≤ 1048576) (hm2 : ∀ t ∈ m, t.1.length ≤ 1048576) : Does Tryz.prog 29 [(.sl none (l.map qt) .ro), (.sl none (m.map qt) .ro), (.fn (.func 30) [] [])] [] (vb (decide (l = m))) [] := by
 refine Does.of_body (rvs := [.tmp 6]) Tryz.func29 rfl rfl rfl rfl ?_
 refine AWP.sr ?_
 refine n_assign rfl n0WaA ?_
 refine AOps.nil ?_
 refine AWP.seq ?_
 refine AWP.sr ?_
 refine n_move rfl n0WaA ?_
 refine n_len rfl Tryz.underlying29 n0WaA (by first | rw [ints_length] | rw [List.length_map] | rfl) ?_
 refine n_move rfl n0WaA ?_
 refine n_len rfl Tryz.underlying29 n0WaA (by first | rw [ints_length] | rw [List.length_map] | rfl) ?_
 refine n_ibin rfl n0WaA n0WaA rfl ?_
 refine AOps.nil ?_
 refine AWP.cond n0WaA (fun hc1 => ?_) (fun hc1 => ?_)
 · try simp only [nh] at hc1
   have hr : decide (l = m) = false := decide_eq_false (ne_len (by (try simp at hc1); omega))
   rw [hr]
   refine AWP.sr ?_
   refine n_assign rfl n0WaA ?_
   refine AOps.nil ?_
   refine AWP.ret ?_
   refine fin_pure (.cons (rv_tmp n0WaA) .nil) n0WaA ?_
   exact ren_flat rfl rfl
 · try simp only [nh] at hc1
   have hlm : l.length = m.length := by { (try simp at hc1); omega }
   refine AWP.skip ?_
   refine AWP.seq ?_
   refine AWP.sr ?_
   refine n_move rfl n0WaA ?_
   refine n_len rfl Tryz.underlying29 n0WaA (by first | rw [ints_length] | rw [List.length_map] | rfl) ?_
   refine n_move rfl n0WaA ?_
   refine AOps.nil ?_
   refine AWP.block ?_
   refine AWP.loopX 0 (α := Nat) (fun i => i ≤ l.length ∧ l.take i = m.take i) (fun i => put (put (put (put (put (put empty 0 (.sl none (l.map qt) .ro)) 1 (.sl none (m.map qt) .ro)) 2 (.fn (.func 30) [] [])) 15 (.sl none (l.map qt) .ro)) 16 (vi (l.length : Int))) 17 (vi (i : Int))) (fun i => []) (fun i => l.length - i) 0 ?_ ?_ ?_ ?_ ?_ ?_ ?_
   · exact ⟨Nat.zero_le _, rfl⟩
   · (repeat (first | exact FLe.empty _ | refine FLe.put ?_ ?_)) <;> first | (simp only [nf, Nat.beq]; done) | rfl | ((try simp only [nf, Nat.beq]); first | rfl | (simp only [List.length_map]; done) | (congr 2; omega; done))
   · rfl
   · exact fun _ => rfl
   · intro p hp; (try dsimp only); (repeat' (refine un_put ?_ ?_)) <;> first | exact un_empty | exact .bp (by decide) | exact .lf (D.flat_lf rfl) | exact .lf (lf_ints (.inl rfl)) | exact .lf (lf_mapG qt_lf (.inl rfl)) | exact .lf lf_fnz
   · intro p hp; (try dsimp only); repeat' (first | exact un_nil | refine un_cons ?_ ?_ | exact un_box rfl)
   · rintro i ⟨hi, hE⟩
     try dsimp only at hi hE ⊢
     refine AWP.sr ?_
     refine n_ibin rfl n0WaA n0WaA rfl ?_
     refine AOps.nil ?_
     refine AWP.seq ?_
     refine AWP.cond n0WaA (fun hc2 => ?_) (fun hc2 => ?_)
     · try simp only [nh] at hc2
       obtain ⟨x, hx0⟩ : ∃ x, l[i]? = some x := ⟨_, List.getElem?_eq_getElem (by omega)⟩
       obtain ⟨y, hy0⟩ : ∃ y, m[i]? = some y := ⟨_, List.getElem?_eq_getElem (by omega)⟩
       have hx := map_at qt hx0
       have hy := map_at qt hy0
       refine AWP.skip ?_
       refine AWP.seq ?_
       refine AWP.block ?_
       refine AWP.sr ?_
       refine n_move rfl n0WaA ?_
       refine n_indexAddr rfl Tryz.underlying29 ti49 rfl n0WaA n0WaA (by omega) (by exact hx) rfl ?_
       refine n_load rfl ti49 n0WaA n0WaA rfl n0WaA ?_
       refine n_alloc rfl zi49 rfl n0WaA n0WaA ?_
       refine n_assign rfl n0WaA ?_
       refine n_store ti49 n0WaA rfl n0WaA rfl n0WaA rfl rfl rfl n0WaA ?_
       refine AOps.nil ?_
       refine AWP.sr ?_
       refine n_move rfl n0WaA ?_
       refine n_move rfl n0WaA ?_
       refine n_indexAddr rfl Tryz.underlying29 ti49 rfl n0WaA n0WaA (by omega) (by exact hy) rfl ?_
       refine n_load rfl ti49 n0WaA n0WaA rfl n0WaA ?_
       refine n_alloc rfl zi49 rfl n0WaA n0WaA ?_
       refine n_store ti49 n0WaA rfl n0WaA rfl n0WaA rfl rfl rfl n0WaA ?_
       refine AOps.nil ?_
       refine AWP.sr ?_
       refine n_move rfl n0WaA ?_
       refine n_load rfl ti49 n0WaA n0WaA rfl n0WaA ?_
       refine n_load rfl ti49 n0WaA n0WaA rfl n0WaA ?_
       refine n_call0B rfl cf30 rfl (Eq.trans (by simp only [nl] <;> rfl) n0WaA) (by repeat (first | exact .nil | refine .cons ?_ ?_ | exact ren_ints | exact .lf (.val _) | exact .lf (lf_ints (.inl rfl)) | exact .bp ⟨rfl, rfl⟩ | exact .bp (.inl ⟨rfl, rfl⟩) | exact .bp (.inr ⟨rfl, rfl⟩) | exact .lf (.agg (qt_lf _)) | exact .lf lf_fnz | exact ren_map (f := q1) (fun _ => rfl) | exact ren_map (f := q2) (fun _ => rfl) | exact ren_map (f := q4) (fun _ => rfl) | exact .lf (D.flat_lf rfl) | exact ren_lits rfl)) (e_tab x y (hl2 x (List.mem_of_getElem? hx0)) (hm2 y (List.mem_of_getElem? hy0))) (by first | exact .val _ | exact lf_ints (.inl rfl) | exact lf_ints (.inr rfl) | exact .any | exact .agg (qt_lf _) | exact D.flat_lf rfl) ?_
       refine n_not rfl n0WaA rfl ?_
       refine AOps.nil ?_
       refine AWP.cond n0WaA (fun hc3 => ?_) (fun hc3 => ?_)
       · try simp only [nh] at hc3
         have hr : decide (l = m) = false := decide_eq_false (ne_at hx0 hy0 (by rintro rfl; simp at hc3))
         rw [hr]
         refine AWP.sr ?_
         refine n_assign rfl n0WaA ?_
         refine AOps.nil ?_
         refine AWP.ret ?_
         refine fin_pure (.cons (rv_tmp n0WaA) .nil) n0WaA ?_
         exact ren_flat rfl rfl
       try simp only [nh] at hc3
       have hxy : x = y := by { (try simp at hc3); exact hc3 }
       refine AWP.skip ?_
       refine AWP.region ?_
       first | refine n_iadd rfl n0WaA n0WaA rfl (by omega) (by omega) ?_ | refine n_ibin rfl n0WaA n0WaA rfl ?_
       refine n_move rfl n0WaA ?_
       refine AOps.nil ?_
       refine ⟨i + 1, [Ob.box (qt x), Ob.box (qt y)], ⟨by omega, eq_take hE hx0 (by rw [hxy]; exact hy0)⟩, ?_, rfl, by omega⟩
       (repeat (first | exact FLe.empty _ | refine FLe.put ?_ ?_)) <;> first | (simp only [nf, Nat.beq]; done) | rfl | ((try simp only [nf, Nat.beq]); first | rfl | (simp only [List.length_map]; done) | (congr 2; omega; done))
     · try simp only [nh] at hc2
       obtain rfl : i = l.length := by omega
       have hr : decide (l = m) = true := decide_eq_true (eq_all hlm hE)
       rw [hr]
       refine AWP.exit ?_
       refine AWP.sr ?_
       refine n_assign rfl n0WaA ?_
       refine AOps.nil ?_
       refine AWP.ret ?_
       refine fin_pure (.cons (rv_tmp n0WaA) .nil) n0WaA ?_
       exact ren_flat rfl rfl

end Go.Proofs.YtanfmpkjcoolmaaGreat.Wa
