/- Pack. -/
import Derived.Test.YtanfmpkjcoolmaaGreatPlainA
import Derived.Test.YtanfmpkjcoolmaaGreatProg
import Derived.KernelRfl
set_option linter.unusedVariables false
set_option linter.unusedSimpArgs false
namespace Go.Proofs.YtanfmpkjcoolmaaGreat.Pk
open Go Go.Abs
attribute [local irreducible] AWP AOps Does

theorem n0PkZ {α : Type} {a b : α} (h : a = b := by first|simp only[nf,Nat.beq]<;>rfl|rfl) : a = b := h
theorem n1PkZ {α : Type} {a b : α} (h : a = b := by first|simp only[ints_take,ints_drop,List.take_length,ints_length,List.drop_zero]<;>rfl|rfl) : a = b := h
theorem e2PkZ {α : Type} {a b : α} (h : a = b := by exact Eq.trans (by simp only [nl] <;> rfl) n0PkZ) : a = b := h
theorem r3PkZ {ρ σ : Nat → Nat → Prop} {a b : List D} (h : RenAll ρ σ a b := by repeat (first | exact .nil | refine .cons ?_ ?_ | exact ren_ints | exact .lf (.val _) | exact .lf (lf_ints (.inl rfl)) | exact .bp ⟨rfl, rfl⟩ | exact .bp (.inl ⟨rfl, rfl⟩) | exact .bp (.inr ⟨rfl, rfl⟩) | exact .lf (D.flat_lf rfl) | exact ren_lits rfl)) : RenAll ρ σ a b := h
theorem x4PkZ {a : List D} (h : ∀ d ∈ a, LF d := by repeat (first | exact lf_nil | refine lf_cons ?_ ?_ | exact .val _ | exact lf_ints (.inl rfl))) : ∀ d ∈ a, LF d := h
theorem l5PkZ {d : D} (h : LF d := by first | exact .val _ | exact lf_ints (.inl rfl) | exact lf_ints (.inr rfl) | exact .any | exact D.flat_lf rfl) : LF d := h
theorem cf13 : CF Tryz.prog 13 := ⟨_, Tryz.func13, by kernel_rfl, by kernel_rfl⟩
theorem cf41 : CF Tryz.prog 41 := ⟨_, Tryz.func41, by kernel_rfl, by kernel_rfl⟩
theorem cf42 : CF Tryz.prog 42 := ⟨_, Tryz.func42, by kernel_rfl, by kernel_rfl⟩
theorem cf43 : CF Tryz.prog 43 := ⟨_, Tryz.func43, by kernel_rfl, by kernel_rfl⟩
theorem cf49 : CF Tryz.prog 49 := ⟨_, Tryz.func49, by kernel_rfl, by kernel_rfl⟩
theorem cf50 : CF Tryz.prog 50 := ⟨_, Tryz.func50, by kernel_rfl, by kernel_rfl⟩
theorem cf60 : CF Tryz.prog 60 := ⟨_, Tryz.func60, by kernel_rfl, by kernel_rfl⟩
theorem cf77 : CF Tryz.prog 77 := ⟨_, Tryz.func77, by kernel_rfl, by kernel_rfl⟩
theorem cf78 : CF Tryz.prog 78 := ⟨_, Tryz.func78, by kernel_rfl, by kernel_rfl⟩
theorem cf79 : CF Tryz.prog 79 := ⟨_, Tryz.func79, by kernel_rfl, by kernel_rfl⟩
theorem cf95 : CF Tryz.prog 95 := ⟨_, Tryz.func95, by kernel_rfl, by kernel_rfl⟩
theorem ei5 : EI Tryz.prog 5 1 1 (.int .u8 0) := EI.of (by kernel_rfl) rfl rfl
theorem fd90_0 : FD Tryz.prog 90 0 31 0 := ⟨_, _, Tryz.underlying90, rfl, rfl, rfl⟩
theorem fd90_1 : FD Tryz.prog 90 1 22 1 := ⟨_, _, Tryz.underlying90, rfl, rfl, rfl⟩
theorem fd90_2 : FD Tryz.prog 90 2 4 2 := ⟨_, _, Tryz.underlying90, rfl, rfl, rfl⟩
theorem si90 : SI Tryz.prog 90 #[(0, 1), (1, 1), (2, 1)] (.agg #[.slice none 0 0, .int .i64 0, .bool false]) := ⟨⟨_, Tryz.underlying90, fun w => by kernel_rfl⟩, by kernel_rfl⟩
theorem ti2 : TI Tryz.prog 2 1 false := ⟨by kernel_rfl, by kernel_rfl⟩
theorem ti22 : TI Tryz.prog 22 1 false := ⟨by kernel_rfl, by kernel_rfl⟩
theorem ti31 : TI Tryz.prog 31 1 false := ⟨by kernel_rfl, by kernel_rfl⟩
theorem ti4 : TI Tryz.prog 4 1 false := ⟨by kernel_rfl, by kernel_rfl⟩
theorem ti5 : TI Tryz.prog 5 1 false := ⟨by kernel_rfl, by kernel_rfl⟩
theorem zi2 : (Tryz.prog.info? 2).map (·.zero) = some (some (.int .i64 0)) := by kernel_rfl
theorem zi5 : (Tryz.prog.info? 5).map (·.zero) = some (some (.int .u8 0)) := by kernel_rfl

def I64 (n : Int) : Prop := -9223372036854775808 ≤ n ∧ n ≤ 9223372036854775807
theorem p_natural (n : Int) (h0 : -9223372036854775808 ≤ n) (h1 : n ≤ 9223372036854775807) : Does Tryz.prog 42 [vi n] [] (.val (.int .u64 (natN n : Int))) [] := by
 refine Does.of_body (rvs := [.tmp 2]) Tryz.func42 rfl rfl rfl rfl ?_
 refine AWP.sr ?_
 refine n_assign rfl n0PkZ ?_
 refine AOps.nil ?_
 refine AWP.sr ?_
 refine n_move rfl n0PkZ ?_
 first | refine n_conv rfl n0PkZ (by rw [Tryz.underlying2]; rfl) Tryz.underlying81 (wrap_id (by first | omega | (simp only [loK]; omega)) (by first | omega | (simp only [hiK]; omega))) ?_ | refine n_conv rfl n0PkZ (by rw [Tryz.underlying2]; rfl) Tryz.underlying81 rfl ?_
 refine n_shl rfl n0PkZ n0PkZ (by first | decide | omega) rfl ?_
 refine n_move rfl n0PkZ ?_
 refine n_shr rfl n0PkZ n0PkZ (by first | decide | omega) rfl ?_
 first | refine n_conv rfl n0PkZ (by rw [Tryz.underlying2]; rfl) Tryz.underlying81 (wrap_id (by first | omega | (simp only [loK]; omega)) (by first | omega | (simp only [hiK]; omega))) ?_ | refine n_conv rfl n0PkZ (by rw [Tryz.underlying2]; rfl) Tryz.underlying81 rfl ?_
 refine n_ibin rfl n0PkZ n0PkZ rfl ?_
 refine n_assign rfl n0PkZ ?_
 refine AOps.nil ?_
 refine AWP.ret ?_
 refine fin_pure (.cons (rv_tmp n0PkZ) .nil) n0PkZ ?_
 rw [natural_eq h0 h1]
 exact .lf (.val _)

theorem p_size (n : Int) (h0 : -9223372036854775808 ≤ n) (h1 : n ≤ 9223372036854775807) : Does Tryz.prog 43 [vi n] [] (vi (sizeN (natN n) : Int)) [] := by
 refine Does.of_body (rvs := [.tmp 2]) Tryz.func43 rfl rfl rfl rfl ?_
 have hlt := natN_lt h0 h1
 have hs := sizeN_le10 hlt
 refine AWP.sr ?_
 refine n_assign rfl n0PkZ ?_
 refine AOps.nil ?_
 refine AWP.sr ?_
 refine n_assign rfl n0PkZ ?_
 refine AOps.nil ?_
 refine AWP.seq ?_
 refine AWP.sr ?_
 refine n_move rfl n0PkZ ?_
 refine n_call0B rfl cf42 rfl e2PkZ r3PkZ (p_natural _ h0 h1) l5PkZ ?_
 refine n_assign rfl n0PkZ ?_
 refine AOps.nil ?_
 refine AWP.block ?_
 refine AWP.loop (α := Nat × Nat) (fun p => 1 ≤ p.1 ∧ p.2 < 18446744073709551616 ∧ p.1 + sizeN p.2 = 1 + sizeN (natN n)) (fun p => put (put empty 3 (.val (.int .i64 (p.1 : Int)))) 4 (.val (.int .u64 (p.2 : Int)))) (fun _ => []) (fun p => p.2) (1, natN n) ?_ ?_ ?_ ?_
 · exact ⟨Nat.le_refl _, hlt, rfl⟩
 · (repeat (first | exact FLe.empty _ | refine FLe.put ?_ ?_)) <;> first | (simp only [nf, Nat.beq]; done) | rfl | (try simp only [nf, Nat.beq]; simp)
 · rfl
 · rintro ⟨k, u⟩ ⟨hk, hu, he⟩
   dsimp only at hk hu he ⊢
   have hp := sizeN_pos u
   refine AWP.seq ?_
   refine AWP.sr ?_
   refine n_move rfl n0PkZ ?_
   refine n_ibin rfl n0PkZ n0PkZ rfl ?_
   refine AOps.nil ?_
   refine AWP.cond n0PkZ (fun hc1 => ?_) (fun hc1 => ?_)
   · try simp only [nh] at hc1
     refine AWP.skip ?_
     refine AWP.seq ?_
     refine AWP.block ?_
     refine AWP.region ?_
     refine n_move rfl n0PkZ ?_
     first | refine n_iadd rfl n0PkZ n0PkZ rfl (by omega) (by omega) ?_ | refine n_ibin rfl n0PkZ n0PkZ rfl ?_
     refine n_assign rfl n0PkZ ?_
     refine AOps.nil ?_
     refine AWP.region ?_
     refine n_move rfl n0PkZ ?_
     refine n_shr rfl n0PkZ n0PkZ (by first | decide | omega) rfl ?_
     refine n_assign rfl n0PkZ ?_
     refine AOps.nil ?_
     rw [sizeN_big (by omega)] at he
     refine ⟨(k + 1, u / 128), ⟨by omega, by dsimp only; omega, by dsimp only; omega⟩, ?_, rfl, by dsimp only; omega⟩
     refine FLe.put (FLe.put (FLe.empty _) ?_) ?_
     · dsimp only [put, Nat.beq, cond]; rfl
     dsimp only [put, Nat.beq, cond]
     rw [shr7]
   · try simp only [nh] at hc1
     refine AWP.exit ?_
     refine AWP.sr ?_
     refine n_move rfl n0PkZ ?_
     refine n_assign rfl n0PkZ ?_
     refine AOps.nil ?_
     refine AWP.ret ?_
     refine fin_pure (.cons (rv_tmp n0PkZ) .nil) n0PkZ ?_
     rw [sizeN_small (by omega)] at he
     rw [show (k : Int) = (sizeN (natN n) : Int) by omega]
     exact .lf (.val _)

theorem p_clip (b : List Int) : Does Tryz.prog 41 [bys b] [] (.sl none (ints .u8 b) .full) [] := by
 refine Does.of_body (rvs := [.tmp 2]) Tryz.func41 rfl rfl rfl rfl ?_
 refine AWP.sr ?_
 refine n_assign rfl n0PkZ ?_
 refine AOps.nil ?_
 refine AWP.sr ?_
 refine n_move rfl n0PkZ ?_
 refine n_move rfl n0PkZ ?_
 refine n_len rfl Tryz.underlying31 n0PkZ (by first | rw [ints_length] | rw [List.length_map] | rfl) ?_
 refine n_move rfl n0PkZ ?_
 refine n_len rfl Tryz.underlying31 n0PkZ (by first | rw [ints_length] | rw [List.length_map] | rfl) ?_
 refine n_slice3 rfl Tryz.underlying31 ti5 n0PkZ (SB.some n0PkZ (by first | rfl | omega)) (SB.some n0PkZ (by first | rfl | omega)) SB.none (by first | omega | (simp only [ints_length]; omega)) (by first | omega | (simp only [ints_length]; omega) | exact Nat.le_refl _) (ints_one _ _) n1PkZ ?_
 refine n_assign rfl n0PkZ ?_
 refine AOps.nil ?_
 refine AWP.ret ?_
 refine fin_pure (.cons (rv_tmp n0PkZ) .nil) n0PkZ ?_
 exact .nl (ints_lf _ _) (.inr rfl)

theorem forms_len (l : List Int) (hl : ∀ n ∈ l, I64 n) : (forms l).length ≤ 10 * l.length := by
 induction l with
 | nil => simp [forms]
 | cons n l ih =>
  have h := hl n (by simp)
  have := ih (fun m hm => hl m (by simp [hm]))
  have e : (form n).length ≤ 10 := by unfold form; rw [formN_length]; exact sizeN_le10 (natN_lt h.1 h.2)
  simp only [forms, List.flatMap_cons, List.length_append, List.length_cons] at *
  omega
theorem take_at {l : List Int} {i : Nat} (h : i < l.length) : l.take (i + 1) = l.take i ++ [l.getD i 0] := by
 rw [List.take_succ_eq_append_getElem h, List.getD_eq_getElem?_getD, List.getElem?_eq_getElem h]; rfl
theorem at_I64 {l : List Int} (hl : ∀ n ∈ l, I64 n) {i : Nat} (h : i < l.length) : I64 (l.getD i 0) := by
 rw [List.getD_eq_getElem?_getD, List.getElem?_eq_getElem h]; exact hl _ (List.getElem_mem h)
theorem forms_take {l : List Int} {i : Nat} (h : i < l.length) : forms (l.take (i + 1)) = forms (l.take i) ++ form (l.getD i 0) := by
 rw [take_at h]; simp [forms]
/-- The first digits that are put. -/
def part (u s k : Nat) : List Int := (List.range (s - k)).map fun i => ((u / 128 ^ (s - i) % 128 + 128 : Nat) : Int)
theorem part_zero (u s : Nat) : part u s s = [] := by simp [part]
theorem part_succ (u s k : Nat) (h : k + 1 ≤ s) : part u s k = part u s (k + 1) ++ [((u / 128 ^ (k + 1) % 128 + 128 : Nat) : Int)] := by
 unfold part
 rw [show s - k = s - (k + 1) + 1 by omega, List.range_succ, List.map_append]
 congr 1
 simp only [List.map_cons, List.map_nil]
 rw [show s - (s - (k + 1)) = k + 1 by omega]
theorem part_form (n : Int) (s : Nat) (h : sizeN (natN n) = s + 1) : part (natN n) s 0 ++ [((natN n % 128 : Nat) : Int)] = form n := by
 unfold form formN
 rw [hiD_take s _ h]
 rfl
theorem part_len (u s k : Nat) : (part u s k).length = s - k := by simp [part]

theorem p_int (b l : List Int) (hl : ∀ n ∈ l, I64 n) (hb : b.length + 10 * l.length ≤ 140737488355328) : Does Tryz.prog 13 [bys b, .sl none (ints .i64 l) .ro] [] (.sl none (ints .u8 (b ++ forms l)) (.own 0)) [.row (b ++ forms l).length 1] := by
 refine Does.of_body (rvs := [.tmp 4]) Tryz.func13 rfl rfl rfl rfl ?_
 have hb1 : l.length ≤ 140737488355328 := by omega
 refine AWP.sr ?_
 refine n_assign rfl n0PkZ ?_
 refine AOps.nil ?_
 refine AWP.sr ?_
 refine n_move rfl n0PkZ ?_
 refine n_call0B rfl cf41 rfl e2PkZ r3PkZ (p_clip _) l5PkZ ?_
 refine n_assign rfl n0PkZ ?_
 refine AOps.nil ?_
 refine AWP.seq ?_
 refine AWP.seq ?_
 refine AWP.adopt (t := 5) (S' := [.row b.length 1]) n0PkZ rfl (ints_length _ _) rfl ?_
 refine AWP.region ?_
 refine n_move rfl n0PkZ ?_
 refine n_len rfl Tryz.underlying24 n0PkZ (by first | rw [ints_length] | rw [List.length_map] | rfl) ?_
 refine n_move rfl n0PkZ ?_
 refine AOps.nil ?_
 refine AWP.block ?_
 refine AWP.loop (α := Nat) (fun p => p ≤ l.length) (fun p => put (put (put (put empty 5 (.sl none (ints .u8 (b ++ forms (l.take p))) (.own 0))) 12 (.sl none (ints .i64 l) .ro)) 13 (.val (.int .i64 (l.length : Int)))) 14 (.val (.int .i64 (p : Int)))) (fun p => [.row (b ++ forms (l.take p)).length 1]) (fun p => l.length - p) 0 ?_ ?_ ?_ ?_
 · exact Nat.zero_le _
 · (repeat (first | exact FLe.empty _ | refine FLe.put ?_ ?_)) <;> first | (simp only [nf, Nat.beq]; done) | rfl | (try simp only [nf, Nat.beq]; simp [forms])
 · simp [forms]
 · intro i hi
   try dsimp only at hi ⊢
   refine AWP.sr ?_
   refine n_ibin rfl n0PkZ n0PkZ rfl ?_
   refine AOps.nil ?_
   refine AWP.seq ?_
   refine AWP.cond n0PkZ (fun hc1 => ?_) (fun hc1 => ?_)
   · try simp only [nh] at hc1
     have hi : i < l.length := by omega
     have hn := at_I64 hl hi
     obtain ⟨h0, h1⟩ := hn
     have hfl : (forms (l.take i)).length + 10 ≤ 10 * l.length := by have := forms_len (l.take i) (fun n hn => hl n (List.mem_of_mem_take hn)); rw [List.length_take] at this; omega
     obtain ⟨s, hs⟩ : ∃ s, sizeN (natN (l.getD i 0)) = s + 1 := ⟨sizeN (natN (l.getD i 0)) - 1, by have := sizeN_pos (natN (l.getD i 0)); omega⟩
     have hs9 : s ≤ 9 := by have := sizeN_le10 (natN_lt h0 h1); omega
     have hfin : b ++ forms (l.take i) ++ part (natN (l.getD i 0)) s 0 ++ [bitsI .and .u8 (IntKind.u8.wrap (natN (l.getD i 0) : Int)) 127] = b ++ forms (l.take (i + 1)) := by rw [digit_lo, List.append_assoc, part_form _ s hs, forms_take hi, List.append_assoc]
     refine AWP.skip ?_
     refine AWP.seq ?_
     refine AWP.block ?_
     refine AWP.sr ?_
     refine n_indexAddr rfl Tryz.underlying24 ti2 rfl n0PkZ n0PkZ (by omega) (by first | exact ints_at _ _ _ (by omega) | exact ints_get _ _ _ (by omega) | exact map_at _ (by assumption) | rfl) rfl ?_
     refine n_load rfl ti2 n0PkZ n0PkZ rfl n0PkZ ?_
     refine n_assign rfl n0PkZ ?_
     refine AOps.nil ?_
     refine AWP.sr ?_
     refine n_move rfl n0PkZ ?_
     refine n_call0B rfl cf42 rfl e2PkZ r3PkZ (p_natural _ h0 h1) l5PkZ ?_
     refine n_assign rfl n0PkZ ?_
     refine AOps.nil ?_
     refine AWP.seq ?_
     refine AWP.sr ?_
     refine n_move rfl n0PkZ ?_
     refine n_call0B rfl cf43 rfl e2PkZ r3PkZ (p_size _ h0 h1) l5PkZ ?_
     first | refine n_isub rfl n0PkZ n0PkZ rfl (by omega) (by omega) ?_ | refine n_ibin rfl n0PkZ n0PkZ rfl ?_
     refine n_assign rfl n0PkZ ?_
     refine AOps.nil ?_
     refine AWP.block ?_
     refine AWP.loop (α := Nat) (fun k => k ≤ s) (fun k => put (put (put (put (put (put empty 5 (.sl none (ints .u8 (b ++ forms (l.take i) ++ part (natN (l.getD i 0)) s k)) (.own 0))) 8 (.val (.int .u64 (natN (l.getD i 0) : Int)))) 9 (.val (.int .i64 (k : Int)))) 12 (.sl none (ints .i64 l) .ro)) 13 (.val (.int .i64 (l.length : Int)))) 14 (.val (.int .i64 (i : Int)))) (fun k => [.row (b ++ forms (l.take i) ++ part (natN (l.getD i 0)) s k).length 1]) (fun k => k) s ?_ ?_ ?_ ?_
     · exact Nat.le_refl _
     · (repeat (first | exact FLe.empty _ | refine FLe.put ?_ ?_)) <;> first | (simp only [nf, Nat.beq]; done) | rfl | (try simp only [nf, Nat.beq]; first | simp only [part_zero, List.append_nil] | (congr 2; omega))
     · simp only [part_zero, List.append_nil]
     intro k hk
     try dsimp only at hk ⊢
     have hpl := part_len (natN (l.getD i 0)) s k
     refine AWP.seq ?_
     refine AWP.sr ?_
     refine n_move rfl n0PkZ ?_
     refine n_ibin rfl n0PkZ n0PkZ rfl ?_
     refine AOps.nil ?_
     refine AWP.cond n0PkZ (fun hc2 => ?_) (fun hc2 => ?_)
     · try simp only [nh] at hc2
       have hlen : (b ++ forms (l.take i) ++ part (natN (l.getD i 0)) s k).length + 1 ≤ 140737488355328 := by rw [List.length_append, List.length_append, hpl]; omega
       refine AWP.skip ?_
       refine AWP.seq ?_
       refine AWP.block ?_
       refine AWP.region ?_
       refine n_move rfl n0PkZ ?_
       refine n_move rfl n0PkZ ?_
       refine n_move rfl n0PkZ ?_
       first | refine n_imul rfl n0PkZ n0PkZ rfl (by omega) (by omega) ?_ | refine n_ibin rfl n0PkZ n0PkZ rfl ?_
       refine n_shr rfl n0PkZ n0PkZ (by first | decide | omega) rfl ?_
       first | refine n_conv rfl n0PkZ (by rw [Tryz.underlying81]; rfl) Tryz.underlying5 (wrap_id (by first | omega | (simp only [loK]; omega)) (by first | omega | (simp only [hiK]; omega))) ?_ | refine n_conv rfl n0PkZ (by rw [Tryz.underlying81]; rfl) Tryz.underlying5 rfl ?_
       refine n_ibin rfl n0PkZ n0PkZ rfl ?_
       refine n_lit rfl Tryz.underlying31 ti5 zi5 rfl rfl e2PkZ rfl n0PkZ ?_
       first | refine n_append_own rfl Tryz.underlying31 Tryz.underlying31 ei5 n0PkZ rfl (by first | rfl | rw [ints_length]) n0PkZ (by first | exact ints_one _ _ | simp) (by first | exact ints_one _ _ | simp) (by first | exact ints_snoc _ _ _ | exact ints_append _ _ _ | rfl) (by simp only [ints_length, List.length_cons, List.length_nil] <;> rfl) (by omega) n0PkZ ?_ | refine n_append_full rfl Tryz.underlying31 Tryz.underlying31 ei5 n0PkZ n0PkZ (by first | exact ints_one _ _ | simp) (by first | exact ints_one _ _ | simp) (by first | exact ints_snoc _ _ _ | exact ints_append _ _ _ | rfl) (by simp only [ints_length, List.length_cons, List.length_nil] <;> rfl) (by omega) rfl n0PkZ ?_
       refine n_assign rfl n0PkZ ?_
       refine AOps.nil ?_
       refine AWP.region ?_
       refine n_move rfl n0PkZ ?_
       first | refine n_isub rfl n0PkZ n0PkZ rfl (by omega) (by omega) ?_ | refine n_ibin rfl n0PkZ n0PkZ rfl ?_
       refine n_assign rfl n0PkZ ?_
       refine AOps.nil ?_
       obtain ⟨k, rfl⟩ : ∃ m, k = m + 1 := ⟨k - 1, by omega⟩
       refine ⟨k, by omega, ?_, ?_, by omega⟩
       · (repeat (first | exact FLe.empty _ | refine FLe.put ?_ ?_)) <;> first | (simp only [nf, Nat.beq]; done) | rfl | (try simp only [nf, Nat.beq]; first | (congr 2; omega) | (rw [part_succ (natN (l.getD i 0)) s k (by omega), ← List.append_assoc, ← digit_hi _ (k + 1) (by omega)] <;> rfl))
       rw [part_succ (natN (l.getD i 0)) s k (by omega)]; simp only [List.length_append, List.length_cons, List.length_nil]; rfl
     try simp only [nh] at hc2
     obtain rfl : k = 0 := by omega
     have hlen : (b ++ forms (l.take i) ++ part (natN (l.getD i 0)) s 0).length + 1 ≤ 140737488355328 := by rw [List.length_append, List.length_append, hpl]; omega
     refine AWP.exit ?_
     refine AWP.region ?_
     refine n_move rfl n0PkZ ?_
     refine n_move rfl n0PkZ ?_
     first | refine n_conv rfl n0PkZ (by rw [Tryz.underlying81]; rfl) Tryz.underlying5 (wrap_id (by first | omega | (simp only [loK]; omega)) (by first | omega | (simp only [hiK]; omega))) ?_ | refine n_conv rfl n0PkZ (by rw [Tryz.underlying81]; rfl) Tryz.underlying5 rfl ?_
     refine n_ibin rfl n0PkZ n0PkZ rfl ?_
     refine n_lit rfl Tryz.underlying31 ti5 zi5 rfl rfl e2PkZ rfl n0PkZ ?_
     first | refine n_append_own rfl Tryz.underlying31 Tryz.underlying31 ei5 n0PkZ rfl (by first | rfl | rw [ints_length]) n0PkZ (by first | exact ints_one _ _ | simp) (by first | exact ints_one _ _ | simp) (by first | exact ints_snoc _ _ _ | exact ints_append _ _ _ | rfl) (by simp only [ints_length, List.length_cons, List.length_nil] <;> rfl) (by omega) n0PkZ ?_ | refine n_append_full rfl Tryz.underlying31 Tryz.underlying31 ei5 n0PkZ n0PkZ (by first | exact ints_one _ _ | simp) (by first | exact ints_one _ _ | simp) (by first | exact ints_snoc _ _ _ | exact ints_append _ _ _ | rfl) (by simp only [ints_length, List.length_cons, List.length_nil] <;> rfl) (by omega) rfl n0PkZ ?_
     refine n_assign rfl n0PkZ ?_
     refine AOps.nil ?_
     refine AWP.region ?_
     first | refine n_iadd rfl n0PkZ n0PkZ rfl (by omega) (by omega) ?_ | refine n_ibin rfl n0PkZ n0PkZ rfl ?_
     refine n_move rfl n0PkZ ?_
     refine AOps.nil ?_
     refine ⟨i + 1, by omega, ?_, ?_, by omega⟩
     · (repeat (first | exact FLe.empty _ | refine FLe.put ?_ ?_)) <;> first | (simp only [nf, Nat.beq]; done) | rfl | (try simp only [nf, Nat.beq]; first | rw [hfin] | (congr 2; omega))
     rw [← hfin]; simp only [List.length_append, List.length_cons, List.length_nil]
   · try simp only [nh] at hc1
     obtain rfl : i = l.length := by omega
     refine AWP.exit ?_
     refine AWP.sr ?_
     refine n_move rfl n0PkZ ?_
     refine n_assign rfl n0PkZ ?_
     refine AOps.nil ?_
     refine AWP.ret ?_
     refine fin_own (.cons (rv_tmp n0PkZ) .nil) n0PkZ rfl ?_ ?_ ?_
     · exact ints_lf _ _
     · rw [List.take_length]
     · rw [List.take_length]

theorem i64_len {x : List Int} (h : L40 x) : ∀ n ∈ [(x.length : Int)], I64 n := by
 intro n hn
 simp only [List.mem_cons, List.not_mem_nil, or_false] at hn
 subst hn
 exact ⟨by omega, by omega⟩
theorem p_str (b x : List Int) (hb : b.length ≤ 70368744177664) (hx : L40 x) : Does Tryz.prog 15 [bys b, bys x] [] (.sl none (ints .u8 (b ++ forms [(x.length : Int)] ++ x)) (.own 0)) [.row (b ++ forms [(x.length : Int)] ++ x).length 1] := by
 refine Does.of_body (rvs := [.tmp 4]) Tryz.func15 rfl rfl rfl rfl ?_
 have h10 := forms_len _ (i64_len hx)
 have hxx := hx
 simp only [List.length_cons, List.length_nil] at h10
 have hal : (b ++ forms [(x.length : Int)]).length = b.length + (forms [(x.length : Int)]).length := List.length_append
 refine AWP.sr ?_
 refine n_assign rfl n0PkZ ?_
 refine AOps.nil ?_
 refine AWP.sr ?_
 refine n_move rfl n0PkZ ?_
 refine n_move rfl n0PkZ ?_
 refine n_len rfl Tryz.underlying31 n0PkZ (by first | rw [ints_length] | rw [List.length_map] | rfl) ?_
 refine n_lit rfl Tryz.underlying24 ti2 zi2 rfl rfl e2PkZ rfl n0PkZ ?_
 refine n_callOwnB rfl cf13 rfl e2PkZ r3PkZ (p_int b [(x.length : Int)] (i64_len hx) (by simp only [List.length_cons, List.length_nil]; omega)) (by first | exact ints_lf _ _) rfl n0PkZ ?_
 refine n_move rfl n0PkZ ?_
 first | refine n_append_own rfl Tryz.underlying31 Tryz.underlying31 ei5 n0PkZ rfl (by first | rfl | rw [ints_length]) n0PkZ (by first | exact ints_one _ _ | simp) (by first | exact ints_one _ _ | simp) (by first | exact ints_snoc _ _ _ | exact ints_append _ _ _ | rfl) (by simp only [ints_length, List.length_cons, List.length_nil] <;> rfl) (by omega) n0PkZ ?_ | refine n_append_full rfl Tryz.underlying31 Tryz.underlying31 ei5 n0PkZ n0PkZ (by first | exact ints_one _ _ | simp) (by first | exact ints_one _ _ | simp) (by first | exact ints_snoc _ _ _ | exact ints_append _ _ _ | rfl) (by simp only [ints_length, List.length_cons, List.length_nil] <;> rfl) (by omega) rfl n0PkZ ?_
 refine n_assign rfl n0PkZ ?_
 refine AOps.nil ?_
 refine AWP.ret ?_
 refine fin_own (.cons (rv_tmp n0PkZ) .nil) n0PkZ rfl ?_ ?_ ?_
 · exact ints_lf _ _
 · rfl
 · simp only [List.length_append]

theorem p_signed (u : Nat) (h : u < 18446744073709551616) : Does Tryz.prog 95 [.val (.int .u64 (u : Int))] [] (vi (numberN u)) [] := by
 refine Does.of_body (rvs := [.tmp 2]) Tryz.func95 rfl rfl rfl rfl ?_
 refine AWP.sr ?_
 refine n_assign rfl n0PkZ ?_
 refine AOps.nil ?_
 refine AWP.sr ?_
 refine n_move rfl n0PkZ ?_
 refine n_shr rfl n0PkZ n0PkZ (by first | decide | omega) rfl ?_
 first | refine n_conv rfl n0PkZ (by rw [Tryz.underlying81]; rfl) Tryz.underlying2 (wrap_id (by first | omega | (simp only [loK]; omega)) (by first | omega | (simp only [hiK]; omega))) ?_ | refine n_conv rfl n0PkZ (by rw [Tryz.underlying81]; rfl) Tryz.underlying2 rfl ?_
 refine n_move rfl n0PkZ ?_
 refine n_ibin rfl n0PkZ n0PkZ rfl ?_
 first | refine n_conv rfl n0PkZ (by rw [Tryz.underlying81]; rfl) Tryz.underlying2 (wrap_id (by first | omega | (simp only [loK]; omega)) (by first | omega | (simp only [hiK]; omega))) ?_ | refine n_conv rfl n0PkZ (by rw [Tryz.underlying81]; rfl) Tryz.underlying2 rfl ?_
 refine n_neg rfl n0PkZ rfl ?_
 refine n_ibin rfl n0PkZ n0PkZ rfl ?_
 refine n_assign rfl n0PkZ ?_
 refine AOps.nil ?_
 refine AWP.ret ?_
 refine fin_pure (.cons (rv_tmp n0PkZ) .nil) n0PkZ ?_
 rw [signed_eq u h]
 exact .lf (.val _)

theorem p_first (b : List Int) (hb : Byt b) (hl : L40 b) : Does Tryz.prog 78 [bys b] [] (.tup [vi (firstP b).1, vi ((firstP b).2.1 : Int), vi (firstP b).2.2]) [] := by
 refine Does.of_body (rvs := [.tmp 2, .tmp 3, .tmp 4]) Tryz.func78 rfl rfl rfl rfl ?_
 refine AWP.sr ?_
 refine n_assign rfl n0PkZ ?_
 refine n_assign rfl n0PkZ ?_
 refine n_assign rfl n0PkZ ?_
 refine AOps.nil ?_
 refine AWP.sr ?_
 refine n_assign rfl n0PkZ ?_
 refine AOps.nil ?_
 refine AWP.sr ?_
 refine n_assign rfl n0PkZ ?_
 refine AOps.nil ?_
 refine AWP.block ?_
 refine AWP.loop (α := Nat × Nat) (fun p => p.1 ≤ b.length ∧ p.2 < 18446744073709551616 ∧ firstG p.2 p.1 (b.drop p.1) = firstP b) (fun p => put (put (put empty 0 (bys b)) 5 (.val (.int .u64 (p.2 : Int)))) 6 (vi (p.1 : Int))) (fun _ => []) (fun p => b.length - p.1) (0, 0) ?_ ?_ ?_ ?_
 · exact ⟨Nat.zero_le _, by omega, rfl⟩
 · (repeat (first | exact FLe.empty _ | refine FLe.put ?_ ?_)) <;> first | (simp only [nf, Nat.beq]; done) | rfl | (try simp only [nf, Nat.beq]; simp)
 · rfl
 · rintro ⟨i, u⟩ ⟨hi, hu, he⟩
   dsimp only at hi hu he ⊢
   refine AWP.seq ?_
   refine AWP.block ?_
   refine AWP.seq ?_
   refine AWP.block ?_
   refine AWP.sr ?_
   refine n_move rfl n0PkZ ?_
   refine n_move rfl n0PkZ ?_
   refine n_len rfl Tryz.underlying31 n0PkZ (by first | rw [ints_length] | rw [List.length_map] | rfl) ?_
   refine n_ibin rfl n0PkZ n0PkZ rfl ?_
   refine n_assign rfl n0PkZ ?_
   refine AOps.nil ?_
   refine AWP.cond n0PkZ (fun hc1 => ?_) (fun hc1 => ?_)
   · try simp only [nh] at hc1
     have hr : firstP b = (0, 0, 10) := by rw [← he, List.drop_eq_nil_of_le (by omega)]; rfl
     refine AWP.sr ?_
     refine n_assign rfl n0PkZ ?_
     refine n_assign rfl n0PkZ ?_
     refine n_assign rfl n0PkZ ?_
     refine AOps.nil ?_
     refine AWP.ret ?_
     refine fin_pure (.cons (rv_tmp n0PkZ) (.cons (rv_tmp n0PkZ) (.cons (rv_tmp n0PkZ) .nil))) n0PkZ ?_
     refine ren_flat rfl ?_; rw [hr]; first | rfl | (simp only [D.tup.injEq, List.cons.injEq, D.val.injEq, Value.int.injEq, true_and, and_true]; omega)
   · try simp only [nh] at hc1
     have hi : i < b.length := by omega
     rw [drop_at hi, firstG_cons] at he
     have hc := hb.at hi
     refine AWP.sr ?_
     refine n_move rfl n0PkZ ?_
     refine n_ibin rfl n0PkZ n0PkZ rfl ?_
     refine n_move rfl n0PkZ ?_
     refine AOps.name (u := 17) (fun z => .val (.bool z)) n0PkZ (fun b17 hb17 => ?_)
     refine n_softT b17 rfl rfl rfl n0PkZ (fun h => by
      subst h
      refine n_move rfl n0PkZ ?_
      exact AOps.nil ⟨rfl, rfl, rfl⟩) ?_
     refine n_softT b17 rfl rfl rfl n0PkZ (fun h => by
      subst h
      refine n_move rfl n0PkZ ?_
      exact AOps.nil ⟨rfl, rfl, rfl⟩) ?_
     refine n_softT b17 rfl rfl rfl n0PkZ (fun h => by
      subst h
      refine n_indexAddr rfl Tryz.underlying31 ti5 rfl n0PkZ n0PkZ (by omega) (by first | exact ints_at _ _ _ (by omega) | exact ints_get _ _ _ (by omega) | exact map_at _ (by assumption) | rfl) rfl ?_
      exact AOps.nil ⟨rfl, rfl, rfl⟩) ?_
     refine n_softT b17 rfl rfl rfl n0PkZ (fun h => by
      subst h
      refine n_load rfl ti5 n0PkZ n0PkZ rfl n0PkZ ?_
      exact AOps.nil ⟨rfl, rfl, rfl⟩) ?_
     refine n_softT b17 rfl rfl rfl n0PkZ (fun h => by
      subst h
      refine n_ibin rfl n0PkZ n0PkZ rfl ?_
      exact AOps.nil ⟨rfl, rfl, rfl⟩) ?_
     refine n_pick_and rfl n0PkZ (fun h => by cases b17 with | false => exact absurd h (by decide) | true => exact n0PkZ) ?_
     refine n_move rfl n0PkZ ?_
     refine AOps.name (u := 24) (fun z => .val (.bool z)) n0PkZ (fun b24 hb24 => ?_)
     refine n_softF b24 rfl rfl rfl n0PkZ (fun h => by
      subst h
      refine n_move rfl n0PkZ ?_
      exact AOps.nil ⟨rfl, rfl, rfl⟩) ?_
     refine n_softF b24 rfl rfl rfl n0PkZ (fun h => by
      subst h
      refine n_ibin rfl n0PkZ n0PkZ rfl ?_
      exact AOps.nil ⟨rfl, rfl, rfl⟩) ?_
     refine n_pick_or rfl n0PkZ (fun h => by cases b24 with | true => exact absurd h (by decide) | false => exact n0PkZ) ?_
     refine n_assign rfl n0PkZ ?_
     subst hb17
     subst hb24
     refine AOps.nil ?_
     refine AWP.cond n0PkZ (fun hc2 => ?_) (fun hc2 => ?_)
     · try simp only [nh] at hc2
       simp only [Bool.or_eq_true, Bool.or_eq_false_iff, Bool.and_eq_true, Bool.and_eq_false_iff, beq_iff_eq, beq_eq_false_iff_ne, ne_eq, decide_eq_true_eq, decide_eq_false_iff_not, gt_iff_lt, ge_iff_le] at hc2
       have hr : firstP b = (0, 0, 11) := by rw [← he, if_pos (by omega)]
       refine AWP.sr ?_
       refine n_assign rfl n0PkZ ?_
       refine n_assign rfl n0PkZ ?_
       refine n_assign rfl n0PkZ ?_
       refine AOps.nil ?_
       refine AWP.ret ?_
       refine fin_pure (.cons (rv_tmp n0PkZ) (.cons (rv_tmp n0PkZ) (.cons (rv_tmp n0PkZ) .nil))) n0PkZ ?_
       refine ren_flat rfl ?_; rw [hr]; first | rfl | (simp only [D.tup.injEq, List.cons.injEq, D.val.injEq, Value.int.injEq, true_and, and_true]; omega)
     · try simp only [nh] at hc2
       simp only [Bool.or_eq_true, Bool.or_eq_false_iff, Bool.and_eq_true, Bool.and_eq_false_iff, beq_iff_eq, beq_eq_false_iff_ne, ne_eq, decide_eq_true_eq, decide_eq_false_iff_not, gt_iff_lt, ge_iff_le] at hc2
       rw [if_neg (by omega)] at he
       have hq := bitsI_conv_u8 _ hc.1 hc.2
       refine AWP.skip ?_
       refine AWP.sr ?_
       refine n_move rfl n0PkZ ?_
       refine n_shl rfl n0PkZ n0PkZ (by first | decide | omega) rfl ?_
       refine n_move rfl n0PkZ ?_
       refine n_move rfl n0PkZ ?_
       refine n_indexAddr rfl Tryz.underlying31 ti5 rfl n0PkZ n0PkZ (by omega) (by first | exact ints_at _ _ _ (by omega) | exact ints_get _ _ _ (by omega) | exact map_at _ (by assumption) | rfl) rfl ?_
       refine n_load rfl ti5 n0PkZ n0PkZ rfl n0PkZ ?_
       refine n_ibin rfl n0PkZ n0PkZ rfl ?_
       first | refine n_conv rfl n0PkZ (by rw [Tryz.underlying5]; rfl) Tryz.underlying81 (wrap_id (by first | omega | (simp only [loK]; omega)) (by first | omega | (simp only [hiK]; omega))) ?_ | refine n_conv rfl n0PkZ (by rw [Tryz.underlying5]; rfl) Tryz.underlying81 rfl ?_
       refine n_ibin rfl n0PkZ n0PkZ (v := .int .u64 ((u * 128 + (b.getD i 0 % 128).toNat : Nat) : Int)) (by simp only [ibin]; rw [shl7or u _ (by omega) hc.1 hc.2]) ?_
       refine n_assign rfl n0PkZ ?_
       refine AOps.nil ?_
       refine AWP.sr ?_
       refine n_move rfl n0PkZ ?_
       refine n_move rfl n0PkZ ?_
       refine n_indexAddr rfl Tryz.underlying31 ti5 rfl n0PkZ n0PkZ (by omega) (by first | exact ints_at _ _ _ (by omega) | exact ints_get _ _ _ (by omega) | exact map_at _ (by assumption) | rfl) rfl ?_
       refine n_load rfl ti5 n0PkZ n0PkZ rfl n0PkZ ?_
       refine n_ibin rfl n0PkZ n0PkZ rfl ?_
       refine AOps.nil ?_
       refine AWP.cond n0PkZ (fun hc3 => ?_) (fun hc3 => ?_)
       · try simp only [nh] at hc3
         have hr : firstP b = (numberN (u * 128 + (b.getD i 0 % 128).toNat), i + 1, 0) := by rw [← he, if_pos (by omega)]
         refine AWP.sr ?_
         refine n_move rfl n0PkZ ?_
         refine n_call0B rfl cf95 rfl e2PkZ r3PkZ (p_signed (u * 128 + (b.getD i 0 % 128).toNat) (by omega)) l5PkZ ?_
         refine n_move rfl n0PkZ ?_
         first | refine n_iadd rfl n0PkZ n0PkZ rfl (by omega) (by omega) ?_ | refine n_ibin rfl n0PkZ n0PkZ rfl ?_
         refine n_assign rfl n0PkZ ?_
         refine n_assign rfl n0PkZ ?_
         refine n_assign rfl n0PkZ ?_
         refine AOps.nil ?_
         refine AWP.ret ?_
         refine fin_pure (.cons (rv_tmp n0PkZ) (.cons (rv_tmp n0PkZ) (.cons (rv_tmp n0PkZ) .nil))) n0PkZ ?_
         refine ren_flat rfl ?_; rw [hr]; first | rfl | (simp only [D.tup.injEq, List.cons.injEq, D.val.injEq, Value.int.injEq, true_and, and_true]; omega)
       · try simp only [nh] at hc3
         rw [if_neg (by omega)] at he
         refine AWP.skip ?_
         refine AWP.region ?_
         refine n_move rfl n0PkZ ?_
         first | refine n_iadd rfl n0PkZ n0PkZ rfl (by omega) (by omega) ?_ | refine n_ibin rfl n0PkZ n0PkZ rfl ?_
         refine n_assign rfl n0PkZ ?_
         refine AOps.nil ?_
         refine ⟨(i + 1, u * 128 + (b.getD i 0 % 128).toNat), ⟨by dsimp only; omega, by dsimp only; omega, by dsimp only; exact he⟩, ?_, rfl, by dsimp only; omega⟩
         (repeat (first | exact FLe.empty _ | refine FLe.put ?_ ?_)) <;> first | (simp only [nf, Nat.beq]; done) | rfl | (try simp only [nf, Nat.beq]; first | rfl | (congr 2; omega))

theorem b_equal (a b : List Int) (ha : Byt a) (hb : Byt b) : Does Tryz.prog 9 [bys a, bys b] [] (vb (decide (a = b))) [] := by
 refine Does.of_body (rvs := [.tmp 4]) Tryz.func9 rfl rfl rfl rfl ?_
 refine AWP.sr ?_
 refine n_assign rfl n0PkZ ?_
 refine AOps.nil ?_
 refine AWP.sr ?_
 refine n_move rfl n0PkZ ?_
 refine n_toStr rfl Tryz.underlying31 Tryz.underlying5 Tryz.underlying9 n0PkZ ?_
 refine n_move rfl n0PkZ ?_
 refine n_toStr rfl Tryz.underlying31 Tryz.underlying5 Tryz.underlying9 n0PkZ ?_
 refine n_streq rfl n0PkZ n0PkZ (by first | exact ha | exact hb) (by first | exact ha | exact hb) rfl ?_
 refine n_assign rfl n0PkZ ?_
 refine AOps.nil ?_
 refine AWP.ret ?_
 refine fin_pure (.cons (rv_tmp n0PkZ) .nil) n0PkZ ?_
 exact ren_flat rfl rfl

theorem b_clone (b : List Int) (hl : L40 b) : Does Tryz.prog 35 [bys b] [] (bys b) [] := by
 refine Does.of_body (rvs := [.tmp 2]) Tryz.func35 rfl rfl rfl rfl ?_
 refine AWP.sr ?_
 refine n_assign rfl n0PkZ ?_
 refine AOps.nil ?_
 refine AWP.seq ?_
 refine AWP.sr ?_
 refine n_move rfl n0PkZ ?_
 refine n_eqnil rfl Tryz.underlying31 n0PkZ (fun b1 hb1 he1 => ?_)
 refine AOps.nil ?_
 refine AWP.cond n0PkZ (fun hc2 => ?_) (fun hc2 => ?_)
 · try simp only [nh] at hc2
   have hz : ints .u8 b = [] := by first | exact he1 hc2 | (apply he1; simpa using hc2)
   refine AWP.sr ?_
   refine n_assign rfl n0PkZ ?_
   refine AOps.nil ?_
   refine AWP.ret ?_
   refine fin_pure (.cons (rv_tmp n0PkZ) .nil) n0PkZ ?_
   first | exact ren_ints | (show Ren No No _ (.sl none (ints .u8 b) .ro); rw [hz]; exact .ro (fun x h => by cases h))
 · try simp only [nh] at hc2
   refine AWP.skip ?_
   refine AWP.sr ?_
   refine n_lit rfl Tryz.underlying31 ti5 zi5 rfl rfl e2PkZ rfl n0PkZ ?_
   refine n_move rfl n0PkZ ?_
   first | refine n_append_own rfl Tryz.underlying31 Tryz.underlying31 ei5 n0PkZ rfl (by first | rfl | rw [ints_length]) n0PkZ (by first | exact ints_one _ _ | simp) (by first | exact ints_one _ _ | simp) (by first | exact ints_snoc _ _ _ | exact ints_append _ _ _ | rfl) (by simp only [ints_length, List.length_cons, List.length_nil] <;> rfl) (by omega) n0PkZ ?_ | refine n_append_full rfl Tryz.underlying31 Tryz.underlying31 ei5 n0PkZ n0PkZ (by first | exact ints_one _ _ | simp) (by first | exact ints_one _ _ | simp) (by first | exact ints_snoc _ _ _ | exact ints_append _ _ _ | rfl) (by simp only [ints_length, List.length_cons, List.length_nil] <;> rfl) (by omega) rfl n0PkZ ?_
   refine n_assign rfl n0PkZ ?_
   refine AOps.nil ?_
   refine AWP.ret ?_
   refine fin_pure (.cons (rv_tmp n0PkZ) .nil) n0PkZ ?_
   first | exact ren_ints | (show Ren No No _ (.sl none (ints .u8 b) .ro); rw [hz]; exact .ro (fun x h => by cases h))

theorem s_clone (b : List Int) (hl : L40 b) : Does Tryz.prog 49 [bys b] [] (bys b) [] := by
 refine Does.of_body (rvs := [.tmp 2]) Tryz.func49 rfl rfl rfl rfl ?_
 refine AWP.sr ?_
 refine n_assign rfl n0PkZ ?_
 refine AOps.nil ?_
 refine AWP.seq ?_
 refine AWP.sr ?_
 refine n_move rfl n0PkZ ?_
 refine n_eqnil rfl Tryz.underlying31 n0PkZ (fun b1 hb1 he1 => ?_)
 refine AOps.nil ?_
 refine AWP.cond n0PkZ (fun hc2 => ?_) (fun hc2 => ?_)
 · try simp only [nh] at hc2
   have hz : ints .u8 b = [] := by first | exact he1 hc2 | (apply he1; simpa using hc2)
   refine AWP.sr ?_
   refine n_assign rfl n0PkZ ?_
   refine AOps.nil ?_
   refine AWP.ret ?_
   refine fin_pure (.cons (rv_tmp n0PkZ) .nil) n0PkZ ?_
   first | exact ren_ints | (show Ren No No _ (.sl none (ints .u8 b) .ro); rw [hz]; exact .ro (fun x h => by cases h))
 · try simp only [nh] at hc2
   refine AWP.skip ?_
   refine AWP.sr ?_
   refine n_lit rfl Tryz.underlying31 ti5 zi5 rfl rfl e2PkZ rfl n0PkZ ?_
   refine n_move rfl n0PkZ ?_
   first | refine n_append_own rfl Tryz.underlying31 Tryz.underlying31 ei5 n0PkZ rfl (by first | rfl | rw [ints_length]) n0PkZ (by first | exact ints_one _ _ | simp) (by first | exact ints_one _ _ | simp) (by first | exact ints_snoc _ _ _ | exact ints_append _ _ _ | rfl) (by simp only [ints_length, List.length_cons, List.length_nil] <;> rfl) (by omega) n0PkZ ?_ | refine n_append_full rfl Tryz.underlying31 Tryz.underlying31 ei5 n0PkZ n0PkZ (by first | exact ints_one _ _ | simp) (by first | exact ints_one _ _ | simp) (by first | exact ints_snoc _ _ _ | exact ints_append _ _ _ | rfl) (by simp only [ints_length, List.length_cons, List.length_nil] <;> rfl) (by omega) rfl n0PkZ ?_
   refine n_assign rfl n0PkZ ?_
   refine AOps.nil ?_
   refine AWP.ret ?_
   refine fin_pure (.cons (rv_tmp n0PkZ) .nil) n0PkZ ?_
   first | exact ren_ints | (show Ren No No _ (.sl none (ints .u8 b) .ro); rw [hz]; exact .ro (fun x h => by cases h))

theorem hiD_step {u : Nat} (h : u ≠ 0) (out : List Int) : hiD (u / 128) ++ (((u % 128 + 128 : Nat) : Int) :: out) = hiD u ++ out := by
 rw [hiD_pos h]; simp
theorem form_bd {n : Int} (h : I64 n) : (form n).length ≤ 10 := by unfold form; rw [formN_length]; exact sizeN_le10 (natN_lt h.1 h.2)
theorem u_err (b : List Int) (e : Int)  : Does Tryz.prog 60 [.bp 0 0] [.box (Up.z ⟨b, e⟩)] (vi e) [.box (Up.z ⟨b, e⟩)] := by
 refine Does.of_body (rvs := [.tmp 2]) Tryz.func60 rfl rfl rfl rfl ?_
 refine AWP.sr ?_
 refine n_assign rfl n0PkZ ?_
 refine AOps.nil ?_
 refine AWP.seq ?_
 refine AWP.sr ?_
 refine n_move rfl n0PkZ ?_
 refine n_ptreq rfl Tryz.underlying60 n0PkZ rfl ?_
 refine n_move rfl n0PkZ ?_
 refine AOps.name (u := 5) (fun z => .val (.bool z)) n0PkZ (fun b5 hb5 => ?_)
 refine n_softF b5 rfl rfl rfl n0PkZ (fun h => by
  subst h
  refine n_move rfl n0PkZ ?_
  exact AOps.nil ⟨rfl, rfl, rfl⟩) ?_
 refine n_softF b5 rfl rfl rfl n0PkZ (fun h => by
  subst h
  refine n_nilCheck rfl n0PkZ rfl ?_
  exact AOps.nil ⟨rfl, rfl, rfl⟩) ?_
 refine n_softF b5 rfl rfl rfl n0PkZ (fun h => by
  subst h
  refine n_fieldAddr rfl fd90_2 ti4 rfl n0PkZ rfl n0PkZ ?_
  exact AOps.nil ⟨rfl, rfl, rfl⟩) ?_
 refine n_softF b5 rfl rfl rfl n0PkZ (fun h => by
  subst h
  refine n_load rfl ti4 n0PkZ n0PkZ rfl n0PkZ ?_
  exact AOps.nil ⟨rfl, rfl, rfl⟩) ?_
 refine n_softF b5 rfl rfl rfl n0PkZ (fun h => by
  subst h
  refine n_not rfl n0PkZ rfl ?_
  exact AOps.nil ⟨rfl, rfl, rfl⟩) ?_
 refine n_pick_or rfl n0PkZ (fun h => by cases b5 with | true => exact absurd h (by decide) | false => exact n0PkZ) ?_
 subst hb5
 refine AOps.nil ?_
 refine AWP.cond_false n0PkZ ?_
 refine AWP.skip ?_
 refine AWP.sr ?_
 refine n_move rfl n0PkZ ?_
 refine n_nilCheck rfl n0PkZ rfl ?_
 refine n_fieldAddr rfl fd90_1 ti22 rfl n0PkZ rfl n0PkZ ?_
 refine n_load rfl ti22 n0PkZ n0PkZ rfl n0PkZ ?_
 refine n_assign rfl n0PkZ ?_
 refine AOps.nil ?_
 refine AWP.ret ?_
 refine fin_box (.cons (rv_tmp n0PkZ) .nil) n0PkZ ?_ rfl ?_
 · first | exact ren_flat rfl rfl | (refine ren_flat rfl ?_; simp)
 · exact renU rfl rfl

theorem u_stuck (b : List Int) (e : Int)  : Does Tryz.prog 77 [.bp 0 0] [.box (Up.z ⟨b, e⟩)] (vb (e != 0)) [.box (Up.z ⟨b, e⟩)] := by
 refine Does.of_body (rvs := [.tmp 2]) Tryz.func77 rfl rfl rfl rfl ?_
 refine AWP.sr ?_
 refine n_assign rfl n0PkZ ?_
 refine AOps.nil ?_
 refine AWP.sr ?_
 refine n_move rfl n0PkZ ?_
 refine n_callBoxB rfl cf60 rfl e2PkZ r3PkZ (by rfl) r3PkZ (u_err _ _) x4PkZ l5PkZ n0PkZ ?_
 refine n_ibin rfl n0PkZ n0PkZ rfl ?_
 refine n_assign rfl n0PkZ ?_
 refine AOps.nil ?_
 refine AWP.ret ?_
 refine fin_box (.cons (rv_tmp n0PkZ) .nil) n0PkZ ?_ rfl ?_
 · first | exact ren_flat rfl rfl | (refine ren_flat rfl ?_; simp)
 · exact renU rfl rfl

theorem u_close (b : List Int) (e : Int)  : Does Tryz.prog 22 [.bp 0 0] [.box (Up.z ⟨b, e⟩)] (vi (Up.close ⟨b, e⟩)) [.box (Up.z ⟨b, e⟩)] := by
 refine Does.of_body (rvs := [.tmp 2]) Tryz.func22 rfl rfl rfl rfl ?_
 refine AWP.sr ?_
 refine n_assign rfl n0PkZ ?_
 refine AOps.nil ?_
 refine AWP.seq ?_
 refine AWP.sr ?_
 refine n_move rfl n0PkZ ?_
 refine n_callBoxB rfl cf60 rfl e2PkZ r3PkZ (by rfl) r3PkZ (u_err _ _) x4PkZ l5PkZ n0PkZ ?_
 refine n_assign rfl n0PkZ ?_
 refine AOps.nil ?_
 refine AWP.sr ?_
 refine n_move rfl n0PkZ ?_
 refine n_ibin rfl n0PkZ n0PkZ rfl ?_
 refine AOps.nil ?_
 refine AWP.cond n0PkZ (fun hc1 => ?_) (fun hc1 => ?_)
 · try simp only [nh] at hc1
   refine AWP.sr ?_
   refine n_move rfl n0PkZ ?_
   refine n_assign rfl n0PkZ ?_
   refine AOps.nil ?_
   refine AWP.ret ?_
   refine fin_box (.cons (rv_tmp n0PkZ) .nil) n0PkZ ?_ rfl ?_
   · refine ren_flat rfl ?_; unfold Up.close; simp_all
   exact renU rfl rfl
 · try simp only [nh] at hc1
   refine AWP.skip ?_
   refine AWP.seq ?_
   refine AWP.sr ?_
   refine n_move rfl n0PkZ ?_
   refine n_nilCheck rfl n0PkZ rfl ?_
   refine n_fieldAddr rfl fd90_0 ti31 rfl n0PkZ rfl n0PkZ ?_
   refine n_load rfl ti31 n0PkZ n0PkZ rfl n0PkZ ?_
   refine n_len rfl Tryz.underlying31 n0PkZ (by first | rw [ints_length] | rw [List.length_map] | rfl) ?_
   refine n_ibin rfl n0PkZ n0PkZ rfl ?_
   refine AOps.nil ?_
   refine AWP.cond n0PkZ (fun hc2 => ?_) (fun hc2 => ?_)
   · try simp only [nh] at hc2
     refine AWP.sr ?_
     refine n_assign rfl n0PkZ ?_
     refine AOps.nil ?_
     refine AWP.ret ?_
     refine fin_box (.cons (rv_tmp n0PkZ) .nil) n0PkZ ?_ rfl ?_
     · refine ren_flat rfl ?_; unfold Up.close; simp_all
     exact renU rfl rfl
   · try simp only [nh] at hc2
     refine AWP.skip ?_
     refine AWP.sr ?_
     refine n_assign rfl n0PkZ ?_
     refine AOps.nil ?_
     refine AWP.ret ?_
     refine fin_box (.cons (rv_tmp n0PkZ) .nil) n0PkZ ?_ rfl ?_
     · refine ren_flat rfl ?_; unfold Up.close; simp_all
     · exact renU rfl rfl

theorem u_spoil (b : List Int) (e : Int) (x : Int) : Does Tryz.prog 79 [.bp 0 0, vi x] [.box (Up.z ⟨b, e⟩)] (.tup []) [.box (Up.z ⟨b, if e = 0 then x else e⟩)] := by
 refine Does.of_body (rvs := []) Tryz.func79 rfl rfl rfl rfl ?_
 refine AWP.sr ?_
 refine n_move rfl n0PkZ ?_
 refine n_callBoxB rfl cf77 rfl e2PkZ r3PkZ (by rfl) r3PkZ (u_stuck _ _) x4PkZ l5PkZ n0PkZ ?_
 refine n_not rfl n0PkZ rfl ?_
 refine AOps.nil ?_
 refine AWP.cond n0PkZ (fun hc1 => ?_) (fun hc1 => ?_)
 · try simp only [nh] at hc1
   refine AWP.region ?_
   refine n_move rfl n0PkZ ?_
   refine n_move rfl n0PkZ ?_
   refine n_nilCheck rfl n0PkZ rfl ?_
   refine n_fieldAddr rfl fd90_1 ti22 rfl n0PkZ rfl n0PkZ ?_
   refine n_store ti22 n0PkZ rfl n0PkZ rfl n0PkZ rfl rfl rfl n0PkZ ?_
   refine AOps.nil ?_
   refine Fin.normal ?_
   refine fin_box .nil n0PkZ ?_ rfl ?_
   · exact ren_flat rfl rfl
   exact renU rfl (by simp_all)
 · try simp only [nh] at hc1
   refine AWP.skip ?_
   refine Fin.normal ?_
   refine fin_box .nil n0PkZ ?_ rfl ?_
   · exact ren_flat rfl rfl
   · exact renU rfl (by simp_all)

theorem u_int (b : List Int) (e : Int) (lo hi : Int) (hb : Byt b) (hl : L40 b) : Does Tryz.prog 50 [.bp 0 0, vi lo, vi hi] [.box (Up.z ⟨b, e⟩)] (vi (Up.int ⟨b, e⟩ lo hi).1) [.box (Up.z ⟨(Up.int ⟨b, e⟩ lo hi).2.b, (Up.int ⟨b, e⟩ lo hi).2.e⟩)] := by
 refine Does.of_body (rvs := [.tmp 6]) Tryz.func50 rfl rfl rfl rfl ?_
 have hbd := @firstP_bd b
 have her := firstG_err b 0 0
 refine AWP.sr ?_
 refine n_assign rfl n0PkZ ?_
 refine AOps.nil ?_
 refine AWP.seq ?_
 refine AWP.sr ?_
 refine n_move rfl n0PkZ ?_
 refine n_callBoxB rfl cf77 rfl e2PkZ r3PkZ (by rfl) r3PkZ (u_stuck _ _) x4PkZ l5PkZ n0PkZ ?_
 refine AOps.nil ?_
 refine AWP.cond n0PkZ (fun hc1 => ?_) (fun hc1 => ?_)
 · try simp only [nh] at hc1
   refine AWP.sr ?_
   refine n_assign rfl n0PkZ ?_
   refine AOps.nil ?_
   refine AWP.ret ?_
   refine fin_box (.cons (rv_tmp n0PkZ) .nil) n0PkZ ?_ rfl ?_
   · refine ren_flat rfl (congrArg vi ?_); (try simp only [Up.int]); grind
   refine renU ?_ ?_ <;> (try simp only [Up.int]) <;> grind
 · try simp only [nh] at hc1
   refine AWP.skip ?_
   refine AWP.sr ?_
   refine n_move rfl n0PkZ ?_
   refine n_nilCheck rfl n0PkZ rfl ?_
   refine n_fieldAddr rfl fd90_0 ti31 rfl n0PkZ rfl n0PkZ ?_
   refine n_load rfl ti31 n0PkZ n0PkZ rfl n0PkZ ?_
   refine n_call0B rfl cf78 rfl e2PkZ r3PkZ (p_first _ (by assumption) (by assumption)) l5PkZ ?_
   refine n_move rfl n0PkZ ?_
   refine n_extract rfl n0PkZ rfl ?_
   refine n_extract rfl n0PkZ rfl ?_
   refine n_extract rfl n0PkZ rfl ?_
   refine n_assign rfl n0PkZ ?_
   refine n_assign rfl n0PkZ ?_
   refine n_assign rfl n0PkZ ?_
   refine AOps.nil ?_
   refine AWP.seq ?_
   refine AWP.sr ?_
   refine n_move rfl n0PkZ ?_
   refine n_ibin rfl n0PkZ n0PkZ rfl ?_
   refine n_move rfl n0PkZ ?_
   refine AOps.name (u := 23) (fun z => .val (.bool z)) n0PkZ (fun b23 hb23 => ?_)
   refine n_softT b23 rfl rfl rfl n0PkZ (fun h => by
    subst h
    refine n_move rfl n0PkZ ?_
    exact AOps.nil ⟨rfl, rfl, rfl⟩) ?_
   refine n_softT b23 rfl rfl rfl n0PkZ (fun h => by
    subst h
    refine n_move rfl n0PkZ ?_
    exact AOps.nil ⟨rfl, rfl, rfl⟩) ?_
   refine n_softT b23 rfl rfl rfl n0PkZ (fun h => by
    subst h
    refine n_ibin rfl n0PkZ n0PkZ rfl ?_
    exact AOps.nil ⟨rfl, rfl, rfl⟩) ?_
   refine n_softT b23 rfl rfl rfl n0PkZ (fun h => by
    subst h
    refine n_move rfl n0PkZ ?_
    exact AOps.nil ⟨rfl, rfl, rfl⟩) ?_
   refine AOps.name (u := 27) (fun z => bif (b23) then .val (.bool z) else .val undef) n0PkZ (fun b27 hb27 => ?_)
   refine n_soft (u := 27) (E := bif (b23) then .val (.bool b27) else .val undef) (b23 && !b27) rfl rfl rfl n0PkZ (by cases b23 <;> cases b27 <;> first | (intro _; rfl) | (intro h; exact absurd h (by decide))) (by cases b23 <;> cases b27 <;> first | (intro h; exact absurd h (by decide)) | (intro _; exact ⟨_, rfl, by first | (intro h; cases h; done) | decide | simp⟩)) (fun h => by
    cases b23 with
    | false => exact absurd h (by first | decide | simp)
    | true =>
     cases b27 with
     | true => exact absurd h (by first | decide | simp)
     | false =>
      refine n_move rfl n0PkZ ?_
      exact AOps.nil ⟨rfl, rfl, rfl⟩) ?_
   refine n_soft (u := 27) (E := bif (b23) then .val (.bool b27) else .val undef) (b23 && !b27) rfl rfl rfl n0PkZ (by cases b23 <;> cases b27 <;> first | (intro _; rfl) | (intro h; exact absurd h (by decide))) (by cases b23 <;> cases b27 <;> first | (intro h; exact absurd h (by decide)) | (intro _; exact ⟨_, rfl, by first | (intro h; cases h; done) | decide | simp⟩)) (fun h => by
    cases b23 with
    | false => exact absurd h (by first | decide | simp)
    | true =>
     cases b27 with
     | true => exact absurd h (by first | decide | simp)
     | false =>
      refine n_move rfl n0PkZ ?_
      exact AOps.nil ⟨rfl, rfl, rfl⟩) ?_
   refine n_soft (u := 27) (E := bif (b23) then .val (.bool b27) else .val undef) (b23 && !b27) rfl rfl rfl n0PkZ (by cases b23 <;> cases b27 <;> first | (intro _; rfl) | (intro h; exact absurd h (by decide))) (by cases b23 <;> cases b27 <;> first | (intro h; exact absurd h (by decide)) | (intro _; exact ⟨_, rfl, by first | (intro h; cases h; done) | decide | simp⟩)) (fun h => by
    cases b23 with
    | false => exact absurd h (by first | decide | simp)
    | true =>
     cases b27 with
     | true => exact absurd h (by first | decide | simp)
     | false =>
      refine n_ibin rfl n0PkZ n0PkZ rfl ?_
      exact AOps.nil ⟨rfl, rfl, rfl⟩) ?_
   refine n_softT b23 rfl rfl rfl n0PkZ (fun h => by
    subst h
    refine n_pick_or rfl n0PkZ (fun h => by cases b27 with | true => exact absurd h (by decide) | false => exact n0PkZ) ?_
    exact AOps.nil ⟨rfl, rfl, rfl⟩) ?_
   refine n_pick_and rfl n0PkZ (fun h => by cases b23 with | false => exact absurd h (by decide) | true => exact n0PkZ) ?_
   subst hb23
   subst hb27
   refine AOps.nil ?_
   refine AWP.cond n0PkZ (fun hc2 => ?_) (fun hc2 => ?_)
   · try simp only [nh] at hc2
     refine AWP.region ?_
     refine n_assign rfl n0PkZ ?_
     refine AOps.nil ?_
     refine AWP.seq ?_
     refine AWP.sr ?_
     refine n_move rfl n0PkZ ?_
     refine n_ibin rfl n0PkZ n0PkZ rfl ?_
     refine AOps.nil ?_
     refine AWP.cond n0PkZ (fun hc3 => ?_) (fun hc3 => ?_)
     · try simp only [nh] at hc3
       refine AWP.sr ?_
       refine n_move rfl n0PkZ ?_
       refine n_move rfl n0PkZ ?_
       refine n_callBoxB rfl cf79 rfl e2PkZ r3PkZ (by rfl) r3PkZ (u_spoil _ _ _) x4PkZ l5PkZ n0PkZ ?_
       refine AOps.nil ?_
       refine AWP.sr ?_
       refine n_assign rfl n0PkZ ?_
       refine AOps.nil ?_
       refine AWP.ret ?_
       refine fin_box (.cons (rv_tmp n0PkZ) .nil) n0PkZ ?_ rfl ?_
       · refine ren_flat rfl (congrArg vi ?_); (try simp only [Up.int]); grind
       refine renU ?_ ?_ <;> (try simp only [Up.int]) <;> grind
     try simp only [nh] at hc3
     refine AWP.skip ?_
     refine AWP.sr ?_
     refine n_move rfl n0PkZ ?_
     refine n_move rfl n0PkZ ?_
     refine n_nilCheck rfl n0PkZ rfl ?_
     refine n_fieldAddr rfl fd90_0 ti31 rfl n0PkZ rfl n0PkZ ?_
     refine n_load rfl ti31 n0PkZ n0PkZ rfl n0PkZ ?_
     refine n_move rfl n0PkZ ?_
     refine n_slice rfl Tryz.underlying31 ti5 n0PkZ SB.none (SB.some n0PkZ (by first | rfl | omega)) (by first | omega | (simp only [ints_length]; omega)) (by first | omega | (simp only [ints_length]; omega) | exact Nat.le_refl _) (ints_one _ _) n1PkZ ?_
     refine n_nilCheck rfl n0PkZ rfl ?_
     refine n_fieldAddr rfl fd90_0 ti31 rfl n0PkZ rfl n0PkZ ?_
     refine n_store ti31 n0PkZ rfl n0PkZ rfl n0PkZ rfl rfl rfl n0PkZ ?_
     refine AOps.nil ?_
     refine AWP.sr ?_
     refine n_move rfl n0PkZ ?_
     refine n_assign rfl n0PkZ ?_
     refine AOps.nil ?_
     refine AWP.ret ?_
     refine fin_box (.cons (rv_tmp n0PkZ) .nil) n0PkZ ?_ rfl ?_
     · refine ren_flat rfl (congrArg vi ?_); (try simp only [Up.int]); grind
     refine renU ?_ ?_ <;> (try simp only [Up.int]) <;> grind
   · try simp only [nh] at hc2
     refine AWP.skip ?_
     refine AWP.seq ?_
     refine AWP.sr ?_
     refine n_move rfl n0PkZ ?_
     refine n_ibin rfl n0PkZ n0PkZ rfl ?_
     refine AOps.nil ?_
     refine AWP.cond n0PkZ (fun hc4 => ?_) (fun hc4 => ?_)
     · try simp only [nh] at hc4
       refine AWP.sr ?_
       refine n_move rfl n0PkZ ?_
       refine n_move rfl n0PkZ ?_
       refine n_callBoxB rfl cf79 rfl e2PkZ r3PkZ (by rfl) r3PkZ (u_spoil _ _ _) x4PkZ l5PkZ n0PkZ ?_
       refine AOps.nil ?_
       refine AWP.sr ?_
       refine n_assign rfl n0PkZ ?_
       refine AOps.nil ?_
       refine AWP.ret ?_
       refine fin_box (.cons (rv_tmp n0PkZ) .nil) n0PkZ ?_ rfl ?_
       · refine ren_flat rfl (congrArg vi ?_); (try simp only [Up.int]); grind
       refine renU ?_ ?_ <;> (try simp only [Up.int]) <;> grind
     · try simp only [nh] at hc4
       refine AWP.skip ?_
       refine AWP.sr ?_
       refine n_move rfl n0PkZ ?_
       refine n_move rfl n0PkZ ?_
       refine n_nilCheck rfl n0PkZ rfl ?_
       refine n_fieldAddr rfl fd90_0 ti31 rfl n0PkZ rfl n0PkZ ?_
       refine n_load rfl ti31 n0PkZ n0PkZ rfl n0PkZ ?_
       refine n_move rfl n0PkZ ?_
       refine n_slice rfl Tryz.underlying31 ti5 n0PkZ SB.none (SB.some n0PkZ (by first | rfl | omega)) (by first | omega | (simp only [ints_length]; omega)) (by first | omega | (simp only [ints_length]; omega) | exact Nat.le_refl _) (ints_one _ _) n1PkZ ?_
       refine n_nilCheck rfl n0PkZ rfl ?_
       refine n_fieldAddr rfl fd90_0 ti31 rfl n0PkZ rfl n0PkZ ?_
       refine n_store ti31 n0PkZ rfl n0PkZ rfl n0PkZ rfl rfl rfl n0PkZ ?_
       refine AOps.nil ?_
       refine AWP.sr ?_
       refine n_move rfl n0PkZ ?_
       refine n_assign rfl n0PkZ ?_
       refine AOps.nil ?_
       refine AWP.ret ?_
       refine fin_box (.cons (rv_tmp n0PkZ) .nil) n0PkZ ?_ rfl ?_
       · refine ren_flat rfl (congrArg vi ?_); (try simp only [Up.int]); grind
       · refine renU ?_ ?_ <;> (try simp only [Up.int]) <;> grind

theorem u_flag (b : List Int) (e : Int) (hb : Byt b) (hl : L40 b) : Does Tryz.prog 53 [.bp 0 0] [.box (Up.z ⟨b, e⟩)] (vb ((Up.int ⟨b, e⟩ 0 1).1 == 1)) [.box (Up.z ⟨(Up.int ⟨b, e⟩ 0 1).2.b, (Up.int ⟨b, e⟩ 0 1).2.e⟩)] := by
 refine Does.of_body (rvs := [.tmp 2]) Tryz.func53 rfl rfl rfl rfl ?_
 refine AWP.sr ?_
 refine n_assign rfl n0PkZ ?_
 refine AOps.nil ?_
 refine AWP.sr ?_
 refine n_move rfl n0PkZ ?_
 refine n_callBoxB rfl cf50 rfl e2PkZ r3PkZ (by rfl) r3PkZ (u_int _ _ _ _ (by assumption) (by assumption)) x4PkZ l5PkZ n0PkZ ?_
 refine n_ibin rfl n0PkZ n0PkZ rfl ?_
 refine n_assign rfl n0PkZ ?_
 refine AOps.nil ?_
 refine AWP.ret ?_
 refine fin_box (.cons (rv_tmp n0PkZ) .nil) n0PkZ ?_ rfl ?_
 · first | exact ren_flat rfl rfl | (refine ren_flat rfl ?_; simp)
 · exact renU rfl rfl

theorem Up.int_in {u : Up} {lo hi : Int} (h : (u.int lo hi).2.e = 0) : u.e = 0 ∧ lo ≤ (u.int lo hi).1 ∧ (u.int lo hi).1 ≤ hi := by
 simp only [Up.int] at *
 grind
theorem u_str (b : List Int) (e : Int) (m : Int) (hm : -9223372036854775808 ≤ m ∧ m ≤ 9223372036854775807) (hb : Byt b) (hl : L40 b) : Does Tryz.prog 84 [.bp 0 0, vi m] [.box (Up.z ⟨b, e⟩)] (bys (Up.str ⟨b, e⟩ m).1) [.box (Up.z ⟨(Up.str ⟨b, e⟩ m).2.b, (Up.str ⟨b, e⟩ m).2.e⟩)] := by
 refine Does.of_body (rvs := [.tmp 4]) Tryz.func84 rfl rfl rfl rfl ?_
 have hok := Up.int_ok (u := ⟨b, e⟩) ⟨hb, hl⟩ 0 (max 0 m)
 have hin := @Up.int_in ⟨b, e⟩ 0 (max 0 m)
 obtain ⟨n, hn⟩ : ∃ n, n = (Up.int ⟨b, e⟩ 0 (max 0 m)).1 := ⟨_, rfl⟩
 obtain ⟨b1, hb1⟩ : ∃ b1, b1 = (Up.int ⟨b, e⟩ 0 (max 0 m)).2.b := ⟨_, rfl⟩
 obtain ⟨e1, he1⟩ : ∃ e1, e1 = (Up.int ⟨b, e⟩ 0 (max 0 m)).2.e := ⟨_, rfl⟩
 obtain ⟨ho1, ho2⟩ := hok
 rw [← hb1] at ho1 ho2
 rw [← hn, ← he1] at hin
 have hu := u_int b e 0 (max 0 m) hb hl
 rw [← hn, ← hb1, ← he1] at hu
 refine AWP.sr ?_
 refine n_assign rfl n0PkZ ?_
 refine AOps.nil ?_
 refine AWP.sr ?_
 refine n_move rfl n0PkZ ?_
 refine n_move rfl n0PkZ ?_
 refine n_max (T2 := #[]) rfl n0PkZ n0PkZ (c := max 0 m) (by split <;> omega) ?_
 refine n_callBoxB rfl cf50 rfl e2PkZ r3PkZ (by rfl) r3PkZ (hu) x4PkZ l5PkZ n0PkZ ?_
 refine n_assign rfl n0PkZ ?_
 refine AOps.nil ?_
 refine AWP.seq ?_
 refine AWP.sr ?_
 refine n_move rfl n0PkZ ?_
 refine n_callBoxB rfl cf77 rfl e2PkZ r3PkZ (by rfl) r3PkZ (u_stuck _ _) x4PkZ l5PkZ n0PkZ ?_
 refine n_not rfl n0PkZ rfl ?_
 refine n_move rfl n0PkZ ?_
 refine AOps.name (u := 14) (fun z => .val (.bool z)) n0PkZ (fun b14 hb14 => ?_)
 refine n_softT b14 rfl rfl rfl n0PkZ (fun h => by
  subst h
  refine n_move rfl n0PkZ ?_
  exact AOps.nil ⟨rfl, rfl, rfl⟩) ?_
 refine n_softT b14 rfl rfl rfl n0PkZ (fun h => by
  subst h
  refine n_move rfl n0PkZ ?_
  exact AOps.nil ⟨rfl, rfl, rfl⟩) ?_
 refine n_softT b14 rfl rfl rfl n0PkZ (fun h => by
  subst h
  refine n_nilCheck rfl n0PkZ rfl ?_
  exact AOps.nil ⟨rfl, rfl, rfl⟩) ?_
 refine n_softT b14 rfl rfl rfl n0PkZ (fun h => by
  subst h
  refine n_fieldAddr rfl fd90_0 ti31 rfl n0PkZ rfl n0PkZ ?_
  exact AOps.nil ⟨rfl, rfl, rfl⟩) ?_
 refine n_softT b14 rfl rfl rfl n0PkZ (fun h => by
  subst h
  refine n_load rfl ti31 n0PkZ n0PkZ rfl n0PkZ ?_
  exact AOps.nil ⟨rfl, rfl, rfl⟩) ?_
 refine n_softT b14 rfl rfl rfl n0PkZ (fun h => by
  subst h
  refine n_len rfl Tryz.underlying31 n0PkZ (by first | rw [ints_length] | rw [List.length_map] | rfl) ?_
  exact AOps.nil ⟨rfl, rfl, rfl⟩) ?_
 refine n_softT b14 rfl rfl rfl n0PkZ (fun h => by
  subst h
  refine n_ibin rfl n0PkZ n0PkZ rfl ?_
  exact AOps.nil ⟨rfl, rfl, rfl⟩) ?_
 refine n_pick_and rfl n0PkZ (fun h => by cases b14 with | false => exact absurd h (by decide) | true => exact n0PkZ) ?_
 subst hb14
 refine AOps.nil ?_
 refine AWP.cond n0PkZ (fun hc1 => ?_) (fun hc1 => ?_)
 · try simp only [nh] at hc1
   have hq := hc1
   refine AWP.region ?_
   refine n_move rfl n0PkZ ?_
   refine n_callBoxB rfl cf79 rfl e2PkZ r3PkZ (by rfl) r3PkZ (u_spoil _ _ _) x4PkZ l5PkZ n0PkZ ?_
   refine AOps.nil ?_
   refine AWP.seq ?_
   refine AWP.sr ?_
   refine n_move rfl n0PkZ ?_
   refine n_callBoxB rfl cf77 rfl e2PkZ r3PkZ (by rfl) r3PkZ (u_stuck _ _) x4PkZ l5PkZ n0PkZ ?_
   refine AOps.nil ?_
   refine AWP.cond n0PkZ (fun hc2 => ?_) (fun hc2 => ?_)
   · try simp only [nh] at hc2
     have hne := hc2
     refine AWP.sr ?_
     refine n_assign rfl n0PkZ ?_
     refine AOps.nil ?_
     refine AWP.ret ?_
     refine fin_box (.cons (rv_tmp n0PkZ) .nil) n0PkZ ?_ rfl ?_
     · first | (have hz : (Up.str ⟨b, e⟩ m).1 = [] := by (simp only [Up.str]; grind)); (show Ren No No _ (.sl none (ints .u8 _) .ro)); rw [hz]; exact .ro (fun x h => by cases h) | (refine ren_lits ?_; congr 1; simp only [Up.str]; grind)
     refine renU ?_ ?_ <;> (try simp only [Up.str]) <;> grind
   try simp only [nh] at hc2
   have h0 : e1 = 0 := by grind
   have hle : n ≤ b1.length := by grind
   obtain ⟨h1, h2, h3⟩ := hin h0
   obtain ⟨k, hk⟩ : ∃ k : Nat, n = (k : Int) := ⟨n.toNat, by omega⟩
   subst hk
   refine AWP.skip ?_
   refine AWP.sr ?_
   refine n_move rfl n0PkZ ?_
   refine n_nilCheck rfl n0PkZ rfl ?_
   refine n_fieldAddr rfl fd90_0 ti31 rfl n0PkZ rfl n0PkZ ?_
   refine n_load rfl ti31 n0PkZ n0PkZ rfl n0PkZ ?_
   refine n_move rfl n0PkZ ?_
   refine n_slice rfl Tryz.underlying31 ti5 n0PkZ (SB.some n0PkZ (by first | rfl | omega)) SB.none (by first | omega | (simp only [ints_length]; omega)) (by first | omega | (simp only [ints_length]; omega) | exact Nat.le_refl _) (ints_one _ _) n1PkZ ?_
   refine n_call0B rfl cf49 rfl e2PkZ r3PkZ (s_clone _ (by first | assumption | (simp only [L40, List.length_take, List.length_drop] at *; omega))) l5PkZ ?_
   refine n_assign rfl n0PkZ ?_
   refine AOps.nil ?_
   refine AWP.sr ?_
   refine n_move rfl n0PkZ ?_
   refine n_move rfl n0PkZ ?_
   refine n_nilCheck rfl n0PkZ rfl ?_
   refine n_fieldAddr rfl fd90_0 ti31 rfl n0PkZ rfl n0PkZ ?_
   refine n_load rfl ti31 n0PkZ n0PkZ rfl n0PkZ ?_
   refine n_move rfl n0PkZ ?_
   refine n_slice rfl Tryz.underlying31 ti5 n0PkZ SB.none (SB.some n0PkZ (by first | rfl | omega)) (by first | omega | (simp only [ints_length]; omega)) (by first | omega | (simp only [ints_length]; omega) | exact Nat.le_refl _) (ints_one _ _) n1PkZ ?_
   refine n_nilCheck rfl n0PkZ rfl ?_
   refine n_fieldAddr rfl fd90_0 ti31 rfl n0PkZ rfl n0PkZ ?_
   refine n_store ti31 n0PkZ rfl n0PkZ rfl n0PkZ rfl rfl rfl n0PkZ ?_
   refine AOps.nil ?_
   refine AWP.sr ?_
   refine n_move rfl n0PkZ ?_
   refine n_assign rfl n0PkZ ?_
   refine AOps.nil ?_
   refine AWP.ret ?_
   refine fin_box (.cons (rv_tmp n0PkZ) .nil) n0PkZ ?_ rfl ?_
   · first | (have hz : (Up.str ⟨b, e⟩ m).1 = [] := by (simp only [Up.str]; grind)); (show Ren No No _ (.sl none (ints .u8 _) .ro)); rw [hz]; exact .ro (fun x h => by cases h) | (refine ren_lits ?_; congr 1; simp only [Up.str]; grind)
   refine renU ?_ ?_ <;> (try simp only [Up.str]) <;> grind
 · try simp only [nh] at hc1
   have hq := hc1
   refine AWP.skip ?_
   refine AWP.seq ?_
   refine AWP.sr ?_
   refine n_move rfl n0PkZ ?_
   refine n_callBoxB rfl cf77 rfl e2PkZ r3PkZ (by rfl) r3PkZ (u_stuck _ _) x4PkZ l5PkZ n0PkZ ?_
   refine AOps.nil ?_
   refine AWP.cond n0PkZ (fun hc3 => ?_) (fun hc3 => ?_)
   · try simp only [nh] at hc3
     have hne := hc3
     refine AWP.sr ?_
     refine n_assign rfl n0PkZ ?_
     refine AOps.nil ?_
     refine AWP.ret ?_
     refine fin_box (.cons (rv_tmp n0PkZ) .nil) n0PkZ ?_ rfl ?_
     · first | (have hz : (Up.str ⟨b, e⟩ m).1 = [] := by (simp only [Up.str]; grind)); (show Ren No No _ (.sl none (ints .u8 _) .ro)); rw [hz]; exact .ro (fun x h => by cases h) | (refine ren_lits ?_; congr 1; simp only [Up.str]; grind)
     refine renU ?_ ?_ <;> (try simp only [Up.str]) <;> grind
   · try simp only [nh] at hc3
     have h0 : e1 = 0 := by grind
     have hle : n ≤ b1.length := by grind
     obtain ⟨h1, h2, h3⟩ := hin h0
     obtain ⟨k, hk⟩ : ∃ k : Nat, n = (k : Int) := ⟨n.toNat, by omega⟩
     subst hk
     refine AWP.skip ?_
     refine AWP.sr ?_
     refine n_move rfl n0PkZ ?_
     refine n_nilCheck rfl n0PkZ rfl ?_
     refine n_fieldAddr rfl fd90_0 ti31 rfl n0PkZ rfl n0PkZ ?_
     refine n_load rfl ti31 n0PkZ n0PkZ rfl n0PkZ ?_
     refine n_move rfl n0PkZ ?_
     refine n_slice rfl Tryz.underlying31 ti5 n0PkZ (SB.some n0PkZ (by first | rfl | omega)) SB.none (by first | omega | (simp only [ints_length]; omega)) (by first | omega | (simp only [ints_length]; omega) | exact Nat.le_refl _) (ints_one _ _) n1PkZ ?_
     refine n_call0B rfl cf49 rfl e2PkZ r3PkZ (s_clone _ (by first | assumption | (simp only [L40, List.length_take, List.length_drop] at *; omega))) l5PkZ ?_
     refine n_assign rfl n0PkZ ?_
     refine AOps.nil ?_
     refine AWP.sr ?_
     refine n_move rfl n0PkZ ?_
     refine n_move rfl n0PkZ ?_
     refine n_nilCheck rfl n0PkZ rfl ?_
     refine n_fieldAddr rfl fd90_0 ti31 rfl n0PkZ rfl n0PkZ ?_
     refine n_load rfl ti31 n0PkZ n0PkZ rfl n0PkZ ?_
     refine n_move rfl n0PkZ ?_
     refine n_slice rfl Tryz.underlying31 ti5 n0PkZ SB.none (SB.some n0PkZ (by first | rfl | omega)) (by first | omega | (simp only [ints_length]; omega)) (by first | omega | (simp only [ints_length]; omega) | exact Nat.le_refl _) (ints_one _ _) n1PkZ ?_
     refine n_nilCheck rfl n0PkZ rfl ?_
     refine n_fieldAddr rfl fd90_0 ti31 rfl n0PkZ rfl n0PkZ ?_
     refine n_store ti31 n0PkZ rfl n0PkZ rfl n0PkZ rfl rfl rfl n0PkZ ?_
     refine AOps.nil ?_
     refine AWP.sr ?_
     refine n_move rfl n0PkZ ?_
     refine n_assign rfl n0PkZ ?_
     refine AOps.nil ?_
     refine AWP.ret ?_
     refine fin_box (.cons (rv_tmp n0PkZ) .nil) n0PkZ ?_ rfl ?_
     · first | (have hz : (Up.str ⟨b, e⟩ m).1 = [] := by (simp only [Up.str]; grind)); (show Ren No No _ (.sl none (ints .u8 _) .ro)); rw [hz]; exact .ro (fun x h => by cases h) | (refine ren_lits ?_; congr 1; simp only [Up.str]; grind)
     · refine renU ?_ ?_ <;> (try simp only [Up.str]) <;> grind

theorem u_open (b : List Int) (hl : L40 b) : Does Tryz.prog 20 [bys b] [] (.bp 0 0) [.box (Up.z ⟨b, 0⟩)] := by
 refine Does.of_body (rvs := [.tmp 2]) Tryz.func20 rfl rfl rfl rfl ?_
 refine AWP.sr ?_
 refine n_assign rfl n0PkZ ?_
 refine AOps.nil ?_
 refine AWP.sr ?_
 refine n_move rfl n0PkZ ?_
 refine n_call0B rfl cf49 rfl e2PkZ r3PkZ (s_clone _ (by first | assumption | (simp only [L40, List.length_take, List.length_drop] at *; omega))) l5PkZ ?_
 refine n_build rfl si90 e2PkZ e2PkZ rfl ?_
 refine n_box rfl n0PkZ rfl rfl n0PkZ n0PkZ ?_
 refine n_assign rfl n0PkZ ?_
 refine AOps.nil ?_
 refine AWP.ret ?_
 refine fin_new (.cons (rv_tmp n0PkZ) .nil) n0PkZ rfl ?_
 exact renU rfl rfl

end Go.Proofs.YtanfmpkjcoolmaaGreat.Pk
