/- The walks of package pack. -/
import Derived.Test.YtanfmpkjcoolmaaPackPlain2
import Derived.Test.YtanfmpkjcoolmaaProg
import Derived.KernelRfl
set_option linter.unusedVariables false
set_option linter.unusedSimpArgs false
namespace Go.Proofs.Ytanfmpkjcoolmaa.Pk
open Go Go.Abs
attribute [local irreducible] AWP AOps Does

theorem cf103 : CF Try.prog 103 := ⟨_, Try.func103, by kernel_rfl, by kernel_rfl⟩
theorem cf104 : CF Try.prog 104 := ⟨_, Try.func104, by kernel_rfl, by kernel_rfl⟩
theorem cf191 : CF Try.prog 191 := ⟨_, Try.func191, by kernel_rfl, by kernel_rfl⟩
theorem cf192 : CF Try.prog 192 := ⟨_, Try.func192, by kernel_rfl, by kernel_rfl⟩
theorem cf193 : CF Try.prog 193 := ⟨_, Try.func193, by kernel_rfl, by kernel_rfl⟩
theorem cf197 : CF Try.prog 197 := ⟨_, Try.func197, by kernel_rfl, by kernel_rfl⟩
theorem cf198 : CF Try.prog 198 := ⟨_, Try.func198, by kernel_rfl, by kernel_rfl⟩
theorem cf201 : CF Try.prog 201 := ⟨_, Try.func201, by kernel_rfl, by kernel_rfl⟩
theorem cf206 : CF Try.prog 206 := ⟨_, Try.func206, by kernel_rfl, by kernel_rfl⟩
theorem cf207 : CF Try.prog 207 := ⟨_, Try.func207, by kernel_rfl, by kernel_rfl⟩
theorem cf265 : CF Try.prog 265 := ⟨_, Try.func265, by kernel_rfl, by kernel_rfl⟩
theorem cf36 : CF Try.prog 36 := ⟨_, Try.func36, by kernel_rfl, by kernel_rfl⟩
theorem cf73 : CF Try.prog 73 := ⟨_, Try.func73, by kernel_rfl, by kernel_rfl⟩
theorem cf74 : CF Try.prog 74 := ⟨_, Try.func74, by kernel_rfl, by kernel_rfl⟩
theorem cf75 : CF Try.prog 75 := ⟨_, Try.func75, by kernel_rfl, by kernel_rfl⟩
theorem cf76 : CF Try.prog 76 := ⟨_, Try.func76, by kernel_rfl, by kernel_rfl⟩
theorem cf85 : CF Try.prog 85 := ⟨_, Try.func85, by kernel_rfl, by kernel_rfl⟩
theorem cf86 : CF Try.prog 86 := ⟨_, Try.func86, by kernel_rfl, by kernel_rfl⟩
theorem cf93 : CF Try.prog 93 := ⟨_, Try.func93, by kernel_rfl, by kernel_rfl⟩
theorem ei5 : EI Try.prog 5 1 1 (.int .u8 0) := EI.of (by kernel_rfl) rfl rfl
theorem fd108_0 : FD Try.prog 108 0 22 0 := ⟨_, _, Try.underlying108, rfl, rfl, rfl⟩
theorem fd108_1 : FD Try.prog 108 1 28 1 := ⟨_, _, Try.underlying108, rfl, rfl, rfl⟩
theorem fd111_0 : FD Try.prog 111 0 22 0 := ⟨_, _, Try.underlying111, rfl, rfl, rfl⟩
theorem fd111_1 : FD Try.prog 111 1 28 1 := ⟨_, _, Try.underlying111, rfl, rfl, rfl⟩
theorem fd111_2 : FD Try.prog 111 2 4 2 := ⟨_, _, Try.underlying111, rfl, rfl, rfl⟩
theorem si108 : SI Try.prog 108 #[(0, 1), (1, 1)] (.agg #[.slice none 0 0, .int .i64 0]) := ⟨⟨_, Try.underlying108, fun w => by kernel_rfl⟩, by kernel_rfl⟩
theorem si111 : SI Try.prog 111 #[(0, 1), (1, 1), (2, 1)] (.agg #[.slice none 0 0, .int .i64 0, .bool false]) := ⟨⟨_, Try.underlying111, fun w => by kernel_rfl⟩, by kernel_rfl⟩
theorem ti2 : TI Try.prog 2 1 false := ⟨by kernel_rfl, by kernel_rfl⟩
theorem ti22 : TI Try.prog 22 1 false := ⟨by kernel_rfl, by kernel_rfl⟩
theorem ti28 : TI Try.prog 28 1 false := ⟨by kernel_rfl, by kernel_rfl⟩
theorem ti4 : TI Try.prog 4 1 false := ⟨by kernel_rfl, by kernel_rfl⟩
theorem ti5 : TI Try.prog 5 1 false := ⟨by kernel_rfl, by kernel_rfl⟩
theorem zi2 : (Try.prog.info? 2).map (·.zero) = some (some (.int .i64 0)) := by kernel_rfl
theorem zi5 : (Try.prog.info? 5).map (·.zero) = some (some (.int .u8 0)) := by kernel_rfl

def I64 (n : Int) : Prop := -9223372036854775808 ≤ n ∧ n ≤ 9223372036854775807
theorem p_natural (n : Int) (h0 : -9223372036854775808 ≤ n) (h1 : n ≤ 9223372036854775807) : Does Try.prog 191 [vi n] [] (.val (.int .u64 (natN n : Int))) [] := by
  refine Does.of_body (rvs := [.tmp 2]) Try.func191 rfl rfl rfl rfl ?_
  refine AWP.seq ?_
  refine AWP.region ?_
  refine n_assign rfl (by first|simp only[nf,Nat.beq]<;>rfl|rfl) ?_
  refine AOps.nil ?_
  refine AWP.seq ?_
  refine AWP.region ?_
  refine n_move rfl (by first|simp only[nf,Nat.beq]<;>rfl|rfl) ?_
  first | refine n_conv rfl (by first|simp only[nf,Nat.beq]<;>rfl|rfl) (by rw [Try.underlying2]; rfl) Try.underlying249 (wrap_id (by first | omega | (simp only [loK]; omega)) (by first | omega | (simp only [hiK]; omega))) ?_ | refine n_conv rfl (by first|simp only[nf,Nat.beq]<;>rfl|rfl) (by rw [Try.underlying2]; rfl) Try.underlying249 rfl ?_
  refine n_shl rfl (by first|simp only[nf,Nat.beq]<;>rfl|rfl) (by first|simp only[nf,Nat.beq]<;>rfl|rfl) (by first | decide | omega) rfl ?_
  refine n_move rfl (by first|simp only[nf,Nat.beq]<;>rfl|rfl) ?_
  refine n_shr rfl (by first|simp only[nf,Nat.beq]<;>rfl|rfl) (by first|simp only[nf,Nat.beq]<;>rfl|rfl) (by first | decide | omega) rfl ?_
  first | refine n_conv rfl (by first|simp only[nf,Nat.beq]<;>rfl|rfl) (by rw [Try.underlying2]; rfl) Try.underlying249 (wrap_id (by first | omega | (simp only [loK]; omega)) (by first | omega | (simp only [hiK]; omega))) ?_ | refine n_conv rfl (by first|simp only[nf,Nat.beq]<;>rfl|rfl) (by rw [Try.underlying2]; rfl) Try.underlying249 rfl ?_
  refine n_ibin rfl (by first|simp only[nf,Nat.beq]<;>rfl|rfl) (by first|simp only[nf,Nat.beq]<;>rfl|rfl) rfl ?_
  refine n_assign rfl (by first|simp only[nf,Nat.beq]<;>rfl|rfl) ?_
  refine AOps.nil ?_
  refine AWP.ret ?_
  refine fin_pure (.cons (rv_tmp (by first|simp only[nf,Nat.beq]<;>rfl|rfl)) .nil) (by first|simp only[nf,Nat.beq]<;>rfl|rfl) ?_
  rw [natural_eq h0 h1]
  exact .lf (.val _)

theorem p_size (n : Int) (h0 : -9223372036854775808 ≤ n) (h1 : n ≤ 9223372036854775807) : Does Try.prog 73 [vi n] [] (vi (sizeN (natN n) : Int)) [] := by
  refine Does.of_body (rvs := [.tmp 2]) Try.func73 rfl rfl rfl rfl ?_
  have hlt := natN_lt h0 h1
  have hs := sizeN_le10 hlt
  refine AWP.seq ?_
  refine AWP.region ?_
  refine n_assign rfl (by first|simp only[nf,Nat.beq]<;>rfl|rfl) ?_
  refine AOps.nil ?_
  refine AWP.seq ?_
  refine AWP.region ?_
  refine n_assign rfl (by first|simp only[nf,Nat.beq]<;>rfl|rfl) ?_
  refine AOps.nil ?_
  refine AWP.seq ?_
  refine AWP.seq ?_
  refine AWP.region ?_
  refine n_move rfl (by first|simp only[nf,Nat.beq]<;>rfl|rfl) ?_
  refine n_call0B rfl cf191 rfl (Eq.trans (by simp only [nl] <;> rfl) (by first|simp only[nf,Nat.beq]<;>rfl|rfl)) (by repeat (first | exact .nil | refine .cons ?_ ?_ | exact ren_ints | exact .lf (.val _) | exact .lf (lf_ints (.inl rfl)) | exact .bp ⟨rfl, rfl⟩ | exact .bp (.inl ⟨rfl, rfl⟩) | exact .bp (.inr ⟨rfl, rfl⟩) | exact .lf (D.flat_lf rfl) | exact ren_lits rfl)) (p_natural _ h0 h1) (by first | exact .val _ | exact lf_ints (.inl rfl) | exact lf_ints (.inr rfl) | exact .any | exact D.flat_lf rfl) ?_
  refine n_assign rfl (by first|simp only[nf,Nat.beq]<;>rfl|rfl) ?_
  refine AOps.nil ?_
  refine AWP.block ?_
  refine AWP.loop (α := Nat × Nat) (fun p => 1 ≤ p.1 ∧ p.2 < 18446744073709551616 ∧ p.1 + sizeN p.2 = 1 + sizeN (natN n)) (fun p => put (put empty 3 (.val (.int .i64 (p.1 : Int)))) 4 (.val (.int .u64 (p.2 : Int)))) (fun _ => []) (fun p => p.2) (1, natN n) ?_ ?_ ?_ ?_
  · exact ⟨Nat.le_refl _, hlt, rfl⟩
  · (repeat (first | exact FLe.empty _ | refine FLe.put ?_ ?_)) <;> first | (simp only [nf, Nat.beq]; done) | rfl | (try simp only [nf, Nat.beq]; simp)
  · rfl
  · rintro ⟨k, u⟩ ⟨hk, hu, he⟩
    dsimp only at hk hu he ⊢
    have hp := sizeN_pos u
    refine AWP.seq ?_
    refine AWP.seq ?_
    refine AWP.region ?_
    refine n_move rfl (by first|simp only[nf,Nat.beq]<;>rfl|rfl) ?_
    refine n_ibin rfl (by first|simp only[nf,Nat.beq]<;>rfl|rfl) (by first|simp only[nf,Nat.beq]<;>rfl|rfl) rfl ?_
    refine AOps.nil ?_
    refine AWP.cond (by first|simp only[nf,Nat.beq]<;>rfl|rfl) (fun hc1 => ?_) (fun hc1 => ?_)
    · try simp only [nh] at hc1
      refine AWP.skip ?_
      refine AWP.seq ?_
      refine AWP.block ?_
      refine AWP.region ?_
      refine n_move rfl (by first|simp only[nf,Nat.beq]<;>rfl|rfl) ?_
      first | refine n_iadd rfl (by first|simp only[nf,Nat.beq]<;>rfl|rfl) (by first|simp only[nf,Nat.beq]<;>rfl|rfl) rfl (by omega) (by omega) ?_ | refine n_ibin rfl (by first|simp only[nf,Nat.beq]<;>rfl|rfl) (by first|simp only[nf,Nat.beq]<;>rfl|rfl) rfl ?_
      refine n_assign rfl (by first|simp only[nf,Nat.beq]<;>rfl|rfl) ?_
      refine AOps.nil ?_
      refine AWP.region ?_
      refine n_move rfl (by first|simp only[nf,Nat.beq]<;>rfl|rfl) ?_
      refine n_shr rfl (by first|simp only[nf,Nat.beq]<;>rfl|rfl) (by first|simp only[nf,Nat.beq]<;>rfl|rfl) (by first | decide | omega) rfl ?_
      refine n_assign rfl (by first|simp only[nf,Nat.beq]<;>rfl|rfl) ?_
      refine AOps.nil ?_
      rw [sizeN_big (by omega)] at he
      refine ⟨(k + 1, u / 128), ⟨by omega, by dsimp only; omega, by dsimp only; omega⟩, ?_, rfl, by dsimp only; omega⟩
      refine FLe.put (FLe.put (FLe.empty _) ?_) ?_
      · dsimp only [put, Nat.beq, cond]; rfl
      · dsimp only [put, Nat.beq, cond]
        rw [shr7]
    · try simp only [nh] at hc1
      refine AWP.exit ?_
      refine AWP.seq ?_
      refine AWP.region ?_
      refine n_move rfl (by first|simp only[nf,Nat.beq]<;>rfl|rfl) ?_
      refine n_assign rfl (by first|simp only[nf,Nat.beq]<;>rfl|rfl) ?_
      refine AOps.nil ?_
      refine AWP.ret ?_
      refine fin_pure (.cons (rv_tmp (by first|simp only[nf,Nat.beq]<;>rfl|rfl)) .nil) (by first|simp only[nf,Nat.beq]<;>rfl|rfl) ?_
      rw [sizeN_small (by omega)] at he
      rw [show (k : Int) = (sizeN (natN n) : Int) by omega]
      exact .lf (.val _)

theorem p_clip (b : List Int) : Does Try.prog 192 [bys b] [] (.sl none (ints .u8 b) .full) [] := by
  refine Does.of_body (rvs := [.tmp 2]) Try.func192 rfl rfl rfl rfl ?_
  refine AWP.seq ?_
  refine AWP.region ?_
  refine n_assign rfl (by first|simp only[nf,Nat.beq]<;>rfl|rfl) ?_
  refine AOps.nil ?_
  refine AWP.seq ?_
  refine AWP.region ?_
  refine n_move rfl (by first|simp only[nf,Nat.beq]<;>rfl|rfl) ?_
  refine n_move rfl (by first|simp only[nf,Nat.beq]<;>rfl|rfl) ?_
  refine n_len rfl Try.underlying22 (by first|simp only[nf,Nat.beq]<;>rfl|rfl) (by first | rw [ints_length] | rfl) ?_
  refine n_move rfl (by first|simp only[nf,Nat.beq]<;>rfl|rfl) ?_
  refine n_len rfl Try.underlying22 (by first|simp only[nf,Nat.beq]<;>rfl|rfl) (by first | rw [ints_length] | rfl) ?_
  refine n_slice3 rfl Try.underlying22 ti5 (by first|simp only[nf,Nat.beq]<;>rfl|rfl) (SB.some (by first|simp only[nf,Nat.beq]<;>rfl|rfl) (by first | rfl | omega)) (SB.some (by first|simp only[nf,Nat.beq]<;>rfl|rfl) (by first | rfl | omega)) SB.none (by first | omega | (simp only [ints_length]; omega)) (by first | omega | (simp only [ints_length]; omega) | exact Nat.le_refl _) (ints_one _ _) (by first | (simp only [ints_take, ints_drop, List.take_length, ints_length, List.drop_zero] <;> rfl) | rfl) ?_
  refine n_assign rfl (by first|simp only[nf,Nat.beq]<;>rfl|rfl) ?_
  refine AOps.nil ?_
  refine AWP.ret ?_
  refine fin_pure (.cons (rv_tmp (by first|simp only[nf,Nat.beq]<;>rfl|rfl)) .nil) (by first|simp only[nf,Nat.beq]<;>rfl|rfl) ?_
  exact .nl (ints_lf _ _) (.inr rfl)

theorem forms_len (l : List Int) (hl : ∀ n ∈ l, I64 n) : (forms l).length ≤ 10 * l.length := by
  induction l with
  | nil => simp [forms]
  | cons n l ih =>
    have h := hl n (by simp)
    have := ih (fun m hm => hl m (by simp [hm]))
    have e : (form n).length ≤ 10 := by unfold form; rw [formN_length]; exact sizeN_le10 (natN_lt h.1 h.2)
    simp only [forms, List.flatMap_cons, List.length_append, List.length_cons] at *
    omega
theorem take_at {l : List Int} {i : Nat} (h : i < l.length) : l.take (i + 1) = l.take i ++ [l.getD i 0] := by
  rw [List.take_succ_eq_append_getElem h, List.getD_eq_getElem?_getD, List.getElem?_eq_getElem h]; rfl
theorem at_I64 {l : List Int} (hl : ∀ n ∈ l, I64 n) {i : Nat} (h : i < l.length) : I64 (l.getD i 0) := by
  rw [List.getD_eq_getElem?_getD, List.getElem?_eq_getElem h]; exact hl _ (List.getElem_mem h)
theorem forms_take {l : List Int} {i : Nat} (h : i < l.length) : forms (l.take (i + 1)) = forms (l.take i) ++ form (l.getD i 0) := by
  rw [take_at h]; simp [forms]
/-- The first digits that are put. -/
def part (u s k : Nat) : List Int := (List.range (s - k)).map fun i => ((u / 128 ^ (s - i) % 128 + 128 : Nat) : Int)
theorem part_zero (u s : Nat) : part u s s = [] := by simp [part]
theorem part_succ (u s k : Nat) (h : k + 1 ≤ s) : part u s k = part u s (k + 1) ++ [((u / 128 ^ (k + 1) % 128 + 128 : Nat) : Int)] := by
  unfold part
  rw [show s - k = s - (k + 1) + 1 by omega, List.range_succ, List.map_append]
  congr 1
  simp only [List.map_cons, List.map_nil]
  rw [show s - (s - (k + 1)) = k + 1 by omega]
theorem part_form (n : Int) (s : Nat) (h : sizeN (natN n) = s + 1) : part (natN n) s 0 ++ [((natN n % 128 : Nat) : Int)] = form n := by
  unfold form formN
  rw [hiD_take s _ h]
  rfl
theorem part_len (u s k : Nat) : (part u s k).length = s - k := by simp [part]

theorem p_int (b l : List Int) (hl : ∀ n ∈ l, I64 n) (hb : b.length + 10 * l.length ≤ 140737488355328) : Does Try.prog 75 [bys b, .sl none (ints .i64 l) .ro] [] (.sl none (ints .u8 (b ++ forms l)) (.own 0)) [.row (b ++ forms l).length 1] := by
  refine Does.of_body (rvs := [.tmp 4]) Try.func75 rfl rfl rfl rfl ?_
  have hb1 : l.length ≤ 140737488355328 := by omega
  refine AWP.seq ?_
  refine AWP.region ?_
  refine n_assign rfl (by first|simp only[nf,Nat.beq]<;>rfl|rfl) ?_
  refine AOps.nil ?_
  refine AWP.seq ?_
  refine AWP.region ?_
  refine n_move rfl (by first|simp only[nf,Nat.beq]<;>rfl|rfl) ?_
  refine n_call0B rfl cf192 rfl (Eq.trans (by simp only [nl] <;> rfl) (by first|simp only[nf,Nat.beq]<;>rfl|rfl)) (by repeat (first | exact .nil | refine .cons ?_ ?_ | exact ren_ints | exact .lf (.val _) | exact .lf (lf_ints (.inl rfl)) | exact .bp ⟨rfl, rfl⟩ | exact .bp (.inl ⟨rfl, rfl⟩) | exact .bp (.inr ⟨rfl, rfl⟩) | exact .lf (D.flat_lf rfl) | exact ren_lits rfl)) (p_clip _) (by first | exact .val _ | exact lf_ints (.inl rfl) | exact lf_ints (.inr rfl) | exact .any | exact D.flat_lf rfl) ?_
  refine n_assign rfl (by first|simp only[nf,Nat.beq]<;>rfl|rfl) ?_
  refine AOps.nil ?_
  refine AWP.seq ?_
  refine AWP.seq ?_
  refine AWP.adopt (t := 5) (S' := [.row b.length 1]) (by first|simp only[nf,Nat.beq]<;>rfl|rfl) rfl (ints_length _ _) rfl ?_
  refine AWP.region ?_
  refine n_move rfl (by first|simp only[nf,Nat.beq]<;>rfl|rfl) ?_
  refine n_len rfl Try.underlying77 (by first|simp only[nf,Nat.beq]<;>rfl|rfl) (by first | rw [ints_length] | rfl) ?_
  refine n_move rfl (by first|simp only[nf,Nat.beq]<;>rfl|rfl) ?_
  refine AOps.nil ?_
  refine AWP.block ?_
  refine AWP.loop (α := Nat) (fun p => p ≤ l.length) (fun p => put (put (put (put empty 5 (.sl none (ints .u8 (b ++ forms (l.take p))) (.own 0))) 12 (.sl none (ints .i64 l) .ro)) 13 (.val (.int .i64 (l.length : Int)))) 14 (.val (.int .i64 (p : Int)))) (fun p => [.row (b ++ forms (l.take p)).length 1]) (fun p => l.length - p) 0 ?_ ?_ ?_ ?_
  · exact Nat.zero_le _
  · (repeat (first | exact FLe.empty _ | refine FLe.put ?_ ?_)) <;> first | (simp only [nf, Nat.beq]; done) | rfl | (try simp only [nf, Nat.beq]; simp [forms])
  · simp [forms]
  · intro i hi
    try dsimp only at hi ⊢
    refine AWP.seq ?_
    refine AWP.region ?_
    refine n_ibin rfl (by first|simp only[nf,Nat.beq]<;>rfl|rfl) (by first|simp only[nf,Nat.beq]<;>rfl|rfl) rfl ?_
    refine AOps.nil ?_
    refine AWP.seq ?_
    refine AWP.cond (by first|simp only[nf,Nat.beq]<;>rfl|rfl) (fun hc1 => ?_) (fun hc1 => ?_)
    · try simp only [nh] at hc1
      have hi : i < l.length := by omega
      have hn := at_I64 hl hi
      obtain ⟨h0, h1⟩ := hn
      have hfl : (forms (l.take i)).length + 10 ≤ 10 * l.length := by have := forms_len (l.take i) (fun n hn => hl n (List.mem_of_mem_take hn)); rw [List.length_take] at this; omega
      obtain ⟨s, hs⟩ : ∃ s, sizeN (natN (l.getD i 0)) = s + 1 := ⟨sizeN (natN (l.getD i 0)) - 1, by have := sizeN_pos (natN (l.getD i 0)); omega⟩
      have hs9 : s ≤ 9 := by have := sizeN_le10 (natN_lt h0 h1); omega
      have hfin : b ++ forms (l.take i) ++ part (natN (l.getD i 0)) s 0 ++ [bitsI .and .u8 (IntKind.u8.wrap (natN (l.getD i 0) : Int)) 127] = b ++ forms (l.take (i + 1)) := by rw [digit_lo, List.append_assoc, part_form _ s hs, forms_take hi, List.append_assoc]
      refine AWP.skip ?_
      refine AWP.seq ?_
      refine AWP.block ?_
      refine AWP.seq ?_
      refine AWP.region ?_
      refine n_indexAddr rfl Try.underlying77 ti2 rfl (by first|simp only[nf,Nat.beq]<;>rfl|rfl) (by first|simp only[nf,Nat.beq]<;>rfl|rfl) (by omega) (by first | exact ints_at _ _ _ (by omega) | exact ints_get _ _ _ (by omega) | exact map_at _ (by assumption) | rfl) rfl ?_
      refine n_load rfl ti2 (by first|simp only[nf,Nat.beq]<;>rfl|rfl) (by first|simp only[nf,Nat.beq]<;>rfl|rfl) rfl (by first|simp only[nf,Nat.beq]<;>rfl|rfl) ?_
      refine n_assign rfl (by first|simp only[nf,Nat.beq]<;>rfl|rfl) ?_
      refine AOps.nil ?_
      refine AWP.seq ?_
      refine AWP.region ?_
      refine n_move rfl (by first|simp only[nf,Nat.beq]<;>rfl|rfl) ?_
      refine n_call0B rfl cf191 rfl (Eq.trans (by simp only [nl] <;> rfl) (by first|simp only[nf,Nat.beq]<;>rfl|rfl)) (by repeat (first | exact .nil | refine .cons ?_ ?_ | exact ren_ints | exact .lf (.val _) | exact .lf (lf_ints (.inl rfl)) | exact .bp ⟨rfl, rfl⟩ | exact .bp (.inl ⟨rfl, rfl⟩) | exact .bp (.inr ⟨rfl, rfl⟩) | exact .lf (D.flat_lf rfl) | exact ren_lits rfl)) (p_natural _ h0 h1) (by first | exact .val _ | exact lf_ints (.inl rfl) | exact lf_ints (.inr rfl) | exact .any | exact D.flat_lf rfl) ?_
      refine n_assign rfl (by first|simp only[nf,Nat.beq]<;>rfl|rfl) ?_
      refine AOps.nil ?_
      refine AWP.seq ?_
      refine AWP.seq ?_
      refine AWP.region ?_
      refine n_move rfl (by first|simp only[nf,Nat.beq]<;>rfl|rfl) ?_
      refine n_call0B rfl cf73 rfl (Eq.trans (by simp only [nl] <;> rfl) (by first|simp only[nf,Nat.beq]<;>rfl|rfl)) (by repeat (first | exact .nil | refine .cons ?_ ?_ | exact ren_ints | exact .lf (.val _) | exact .lf (lf_ints (.inl rfl)) | exact .bp ⟨rfl, rfl⟩ | exact .bp (.inl ⟨rfl, rfl⟩) | exact .bp (.inr ⟨rfl, rfl⟩) | exact .lf (D.flat_lf rfl) | exact ren_lits rfl)) (p_size _ h0 h1) (by first | exact .val _ | exact lf_ints (.inl rfl) | exact lf_ints (.inr rfl) | exact .any | exact D.flat_lf rfl) ?_
      first | refine n_isub rfl (by first|simp only[nf,Nat.beq]<;>rfl|rfl) (by first|simp only[nf,Nat.beq]<;>rfl|rfl) rfl (by omega) (by omega) ?_ | refine n_ibin rfl (by first|simp only[nf,Nat.beq]<;>rfl|rfl) (by first|simp only[nf,Nat.beq]<;>rfl|rfl) rfl ?_
      refine n_assign rfl (by first|simp only[nf,Nat.beq]<;>rfl|rfl) ?_
      refine AOps.nil ?_
      refine AWP.block ?_
      refine AWP.loop (α := Nat) (fun k => k ≤ s) (fun k => put (put (put (put (put (put empty 5 (.sl none (ints .u8 (b ++ forms (l.take i) ++ part (natN (l.getD i 0)) s k)) (.own 0))) 8 (.val (.int .u64 (natN (l.getD i 0) : Int)))) 9 (.val (.int .i64 (k : Int)))) 12 (.sl none (ints .i64 l) .ro)) 13 (.val (.int .i64 (l.length : Int)))) 14 (.val (.int .i64 (i : Int)))) (fun k => [.row (b ++ forms (l.take i) ++ part (natN (l.getD i 0)) s k).length 1]) (fun k => k) s ?_ ?_ ?_ ?_
      · exact Nat.le_refl _
      · (repeat (first | exact FLe.empty _ | refine FLe.put ?_ ?_)) <;> first | (simp only [nf, Nat.beq]; done) | rfl | (try simp only [nf, Nat.beq]; first | simp only [part_zero, List.append_nil] | (congr 2; omega))
      · simp only [part_zero, List.append_nil]
      · intro k hk
        try dsimp only at hk ⊢
        have hpl := part_len (natN (l.getD i 0)) s k
        refine AWP.seq ?_
        refine AWP.seq ?_
        refine AWP.region ?_
        refine n_move rfl (by first|simp only[nf,Nat.beq]<;>rfl|rfl) ?_
        refine n_ibin rfl (by first|simp only[nf,Nat.beq]<;>rfl|rfl) (by first|simp only[nf,Nat.beq]<;>rfl|rfl) rfl ?_
        refine AOps.nil ?_
        refine AWP.cond (by first|simp only[nf,Nat.beq]<;>rfl|rfl) (fun hc2 => ?_) (fun hc2 => ?_)
        · try simp only [nh] at hc2
          have hlen : (b ++ forms (l.take i) ++ part (natN (l.getD i 0)) s k).length + 1 ≤ 140737488355328 := by rw [List.length_append, List.length_append, hpl]; omega
          refine AWP.skip ?_
          refine AWP.seq ?_
          refine AWP.block ?_
          refine AWP.region ?_
          refine n_move rfl (by first|simp only[nf,Nat.beq]<;>rfl|rfl) ?_
          refine n_move rfl (by first|simp only[nf,Nat.beq]<;>rfl|rfl) ?_
          refine n_move rfl (by first|simp only[nf,Nat.beq]<;>rfl|rfl) ?_
          first | refine n_imul rfl (by first|simp only[nf,Nat.beq]<;>rfl|rfl) (by first|simp only[nf,Nat.beq]<;>rfl|rfl) rfl (by omega) (by omega) ?_ | refine n_ibin rfl (by first|simp only[nf,Nat.beq]<;>rfl|rfl) (by first|simp only[nf,Nat.beq]<;>rfl|rfl) rfl ?_
          refine n_shr rfl (by first|simp only[nf,Nat.beq]<;>rfl|rfl) (by first|simp only[nf,Nat.beq]<;>rfl|rfl) (by first | decide | omega) rfl ?_
          first | refine n_conv rfl (by first|simp only[nf,Nat.beq]<;>rfl|rfl) (by rw [Try.underlying249]; rfl) Try.underlying5 (wrap_id (by first | omega | (simp only [loK]; omega)) (by first | omega | (simp only [hiK]; omega))) ?_ | refine n_conv rfl (by first|simp only[nf,Nat.beq]<;>rfl|rfl) (by rw [Try.underlying249]; rfl) Try.underlying5 rfl ?_
          refine n_ibin rfl (by first|simp only[nf,Nat.beq]<;>rfl|rfl) (by first|simp only[nf,Nat.beq]<;>rfl|rfl) rfl ?_
          refine n_lit rfl Try.underlying22 ti5 zi5 rfl rfl (Eq.trans (by simp only [nl] <;> rfl) (by first|simp only[nf,Nat.beq]<;>rfl|rfl)) rfl (by first|simp only[nf,Nat.beq]<;>rfl|rfl) ?_
          first | refine n_append_own rfl Try.underlying22 Try.underlying22 ei5 (by first|simp only[nf,Nat.beq]<;>rfl|rfl) rfl (by first | rfl | rw [ints_length]) (by first|simp only[nf,Nat.beq]<;>rfl|rfl) (by first | exact ints_one _ _ | simp) (by first | exact ints_one _ _ | simp) (by first | exact ints_snoc _ _ _ | exact ints_append _ _ _ | rfl) (by simp only [ints_length, List.length_cons, List.length_nil] <;> rfl) (by omega) (by first|simp only[nf,Nat.beq]<;>rfl|rfl) ?_ | refine n_append_full rfl Try.underlying22 Try.underlying22 ei5 (by first|simp only[nf,Nat.beq]<;>rfl|rfl) (by first|simp only[nf,Nat.beq]<;>rfl|rfl) (by first | exact ints_one _ _ | simp) (by first | exact ints_one _ _ | simp) (by first | exact ints_snoc _ _ _ | exact ints_append _ _ _ | rfl) (by simp only [ints_length, List.length_cons, List.length_nil] <;> rfl) (by omega) rfl (by first|simp only[nf,Nat.beq]<;>rfl|rfl) ?_
          refine n_assign rfl (by first|simp only[nf,Nat.beq]<;>rfl|rfl) ?_
          refine AOps.nil ?_
          refine AWP.region ?_
          refine n_move rfl (by first|simp only[nf,Nat.beq]<;>rfl|rfl) ?_
          first | refine n_isub rfl (by first|simp only[nf,Nat.beq]<;>rfl|rfl) (by first|simp only[nf,Nat.beq]<;>rfl|rfl) rfl (by omega) (by omega) ?_ | refine n_ibin rfl (by first|simp only[nf,Nat.beq]<;>rfl|rfl) (by first|simp only[nf,Nat.beq]<;>rfl|rfl) rfl ?_
          refine n_assign rfl (by first|simp only[nf,Nat.beq]<;>rfl|rfl) ?_
          refine AOps.nil ?_
          obtain ⟨k, rfl⟩ : ∃ m, k = m + 1 := ⟨k - 1, by omega⟩
          refine ⟨k, by omega, ?_, ?_, by omega⟩
          · (repeat (first | exact FLe.empty _ | refine FLe.put ?_ ?_)) <;> first | (simp only [nf, Nat.beq]; done) | rfl | (try simp only [nf, Nat.beq]; first | (congr 2; omega) | (rw [part_succ (natN (l.getD i 0)) s k (by omega), ← List.append_assoc, ← digit_hi _ (k + 1) (by omega)] <;> rfl))
          · rw [part_succ (natN (l.getD i 0)) s k (by omega)]; simp only [List.length_append, List.length_cons, List.length_nil]; rfl
        · try simp only [nh] at hc2
          obtain rfl : k = 0 := by omega
          have hlen : (b ++ forms (l.take i) ++ part (natN (l.getD i 0)) s 0).length + 1 ≤ 140737488355328 := by rw [List.length_append, List.length_append, hpl]; omega
          refine AWP.exit ?_
          refine AWP.region ?_
          refine n_move rfl (by first|simp only[nf,Nat.beq]<;>rfl|rfl) ?_
          refine n_move rfl (by first|simp only[nf,Nat.beq]<;>rfl|rfl) ?_
          first | refine n_conv rfl (by first|simp only[nf,Nat.beq]<;>rfl|rfl) (by rw [Try.underlying249]; rfl) Try.underlying5 (wrap_id (by first | omega | (simp only [loK]; omega)) (by first | omega | (simp only [hiK]; omega))) ?_ | refine n_conv rfl (by first|simp only[nf,Nat.beq]<;>rfl|rfl) (by rw [Try.underlying249]; rfl) Try.underlying5 rfl ?_
          refine n_ibin rfl (by first|simp only[nf,Nat.beq]<;>rfl|rfl) (by first|simp only[nf,Nat.beq]<;>rfl|rfl) rfl ?_
          refine n_lit rfl Try.underlying22 ti5 zi5 rfl rfl (Eq.trans (by simp only [nl] <;> rfl) (by first|simp only[nf,Nat.beq]<;>rfl|rfl)) rfl (by first|simp only[nf,Nat.beq]<;>rfl|rfl) ?_
          first | refine n_append_own rfl Try.underlying22 Try.underlying22 ei5 (by first|simp only[nf,Nat.beq]<;>rfl|rfl) rfl (by first | rfl | rw [ints_length]) (by first|simp only[nf,Nat.beq]<;>rfl|rfl) (by first | exact ints_one _ _ | simp) (by first | exact ints_one _ _ | simp) (by first | exact ints_snoc _ _ _ | exact ints_append _ _ _ | rfl) (by simp only [ints_length, List.length_cons, List.length_nil] <;> rfl) (by omega) (by first|simp only[nf,Nat.beq]<;>rfl|rfl) ?_ | refine n_append_full rfl Try.underlying22 Try.underlying22 ei5 (by first|simp only[nf,Nat.beq]<;>rfl|rfl) (by first|simp only[nf,Nat.beq]<;>rfl|rfl) (by first | exact ints_one _ _ | simp) (by first | exact ints_one _ _ | simp) (by first | exact ints_snoc _ _ _ | exact ints_append _ _ _ | rfl) (by simp only [ints_length, List.length_cons, List.length_nil] <;> rfl) (by omega) rfl (by first|simp only[nf,Nat.beq]<;>rfl|rfl) ?_
          refine n_assign rfl (by first|simp only[nf,Nat.beq]<;>rfl|rfl) ?_
          refine AOps.nil ?_
          refine AWP.region ?_
          first | refine n_iadd rfl (by first|simp only[nf,Nat.beq]<;>rfl|rfl) (by first|simp only[nf,Nat.beq]<;>rfl|rfl) rfl (by omega) (by omega) ?_ | refine n_ibin rfl (by first|simp only[nf,Nat.beq]<;>rfl|rfl) (by first|simp only[nf,Nat.beq]<;>rfl|rfl) rfl ?_
          refine n_move rfl (by first|simp only[nf,Nat.beq]<;>rfl|rfl) ?_
          refine AOps.nil ?_
          refine ⟨i + 1, by omega, ?_, ?_, by omega⟩
          · (repeat (first | exact FLe.empty _ | refine FLe.put ?_ ?_)) <;> first | (simp only [nf, Nat.beq]; done) | rfl | (try simp only [nf, Nat.beq]; first | rw [hfin] | (congr 2; omega))
          · rw [← hfin]; simp only [List.length_append, List.length_cons, List.length_nil]
    · try simp only [nh] at hc1
      obtain rfl : i = l.length := by omega
      refine AWP.exit ?_
      refine AWP.seq ?_
      refine AWP.region ?_
      refine n_move rfl (by first|simp only[nf,Nat.beq]<;>rfl|rfl) ?_
      refine n_assign rfl (by first|simp only[nf,Nat.beq]<;>rfl|rfl) ?_
      refine AOps.nil ?_
      refine AWP.ret ?_
      refine fin_own (.cons (rv_tmp (by first|simp only[nf,Nat.beq]<;>rfl|rfl)) .nil) (by first|simp only[nf,Nat.beq]<;>rfl|rfl) rfl ?_ ?_ ?_
      · exact ints_lf _ _
      · rw [List.take_length]
      · rw [List.take_length]

theorem i64_len {x : List Int} (h : L40 x) : ∀ n ∈ [(x.length : Int)], I64 n := by
  intro n hn
  simp only [List.mem_cons, List.not_mem_nil, or_false] at hn
  subst hn
  exact ⟨by omega, by omega⟩
theorem p_str (b x : List Int) (hb : b.length ≤ 70368744177664) (hx : L40 x) : Does Try.prog 77 [bys b, bys x] [] (.sl none (ints .u8 (b ++ forms [(x.length : Int)] ++ x)) (.own 0)) [.row (b ++ forms [(x.length : Int)] ++ x).length 1] := by
  refine Does.of_body (rvs := [.tmp 4]) Try.func77 rfl rfl rfl rfl ?_
  have h10 := forms_len _ (i64_len hx)
  have hxx := hx
  simp only [List.length_cons, List.length_nil] at h10
  have hal : (b ++ forms [(x.length : Int)]).length = b.length + (forms [(x.length : Int)]).length := List.length_append
  refine AWP.seq ?_
  refine AWP.region ?_
  refine n_assign rfl (by first|simp only[nf,Nat.beq]<;>rfl|rfl) ?_
  refine AOps.nil ?_
  refine AWP.seq ?_
  refine AWP.region ?_
  refine n_move rfl (by first|simp only[nf,Nat.beq]<;>rfl|rfl) ?_
  refine n_move rfl (by first|simp only[nf,Nat.beq]<;>rfl|rfl) ?_
  refine n_len rfl Try.underlying22 (by first|simp only[nf,Nat.beq]<;>rfl|rfl) (by first | rw [ints_length] | rfl) ?_
  refine n_lit rfl Try.underlying77 ti2 zi2 rfl rfl (Eq.trans (by simp only [nl] <;> rfl) (by first|simp only[nf,Nat.beq]<;>rfl|rfl)) rfl (by first|simp only[nf,Nat.beq]<;>rfl|rfl) ?_
  refine n_callOwnB rfl cf75 rfl (Eq.trans (by simp only [nl] <;> rfl) (by first|simp only[nf,Nat.beq]<;>rfl|rfl)) (by repeat (first | exact .nil | refine .cons ?_ ?_ | exact ren_ints | exact .lf (.val _) | exact .lf (lf_ints (.inl rfl)) | exact .bp ⟨rfl, rfl⟩ | exact .bp (.inl ⟨rfl, rfl⟩) | exact .bp (.inr ⟨rfl, rfl⟩) | exact .lf (D.flat_lf rfl) | exact ren_lits rfl)) (p_int b [(x.length : Int)] (i64_len hx) (by simp only [List.length_cons, List.length_nil]; omega)) (by first | exact ints_lf _ _) rfl (by first|simp only[nf,Nat.beq]<;>rfl|rfl) ?_
  refine n_move rfl (by first|simp only[nf,Nat.beq]<;>rfl|rfl) ?_
  first | refine n_append_own rfl Try.underlying22 Try.underlying22 ei5 (by first|simp only[nf,Nat.beq]<;>rfl|rfl) rfl (by first | rfl | rw [ints_length]) (by first|simp only[nf,Nat.beq]<;>rfl|rfl) (by first | exact ints_one _ _ | simp) (by first | exact ints_one _ _ | simp) (by first | exact ints_snoc _ _ _ | exact ints_append _ _ _ | rfl) (by simp only [ints_length, List.length_cons, List.length_nil] <;> rfl) (by omega) (by first|simp only[nf,Nat.beq]<;>rfl|rfl) ?_ | refine n_append_full rfl Try.underlying22 Try.underlying22 ei5 (by first|simp only[nf,Nat.beq]<;>rfl|rfl) (by first|simp only[nf,Nat.beq]<;>rfl|rfl) (by first | exact ints_one _ _ | simp) (by first | exact ints_one _ _ | simp) (by first | exact ints_snoc _ _ _ | exact ints_append _ _ _ | rfl) (by simp only [ints_length, List.length_cons, List.length_nil] <;> rfl) (by omega) rfl (by first|simp only[nf,Nat.beq]<;>rfl|rfl) ?_
  refine n_assign rfl (by first|simp only[nf,Nat.beq]<;>rfl|rfl) ?_
  refine AOps.nil ?_
  refine AWP.ret ?_
  refine fin_own (.cons (rv_tmp (by first|simp only[nf,Nat.beq]<;>rfl|rfl)) .nil) (by first|simp only[nf,Nat.beq]<;>rfl|rfl) rfl ?_ ?_ ?_
  · exact ints_lf _ _
  · rfl
  · simp only [List.length_append]

theorem p_signed (u : Nat) (h : u < 18446744073709551616) : Does Try.prog 206 [.val (.int .u64 (u : Int))] [] (vi (numberN u)) [] := by
  refine Does.of_body (rvs := [.tmp 2]) Try.func206 rfl rfl rfl rfl ?_
  refine AWP.seq ?_
  refine AWP.region ?_
  refine n_assign rfl (by first|simp only[nf,Nat.beq]<;>rfl|rfl) ?_
  refine AOps.nil ?_
  refine AWP.seq ?_
  refine AWP.region ?_
  refine n_move rfl (by first|simp only[nf,Nat.beq]<;>rfl|rfl) ?_
  refine n_shr rfl (by first|simp only[nf,Nat.beq]<;>rfl|rfl) (by first|simp only[nf,Nat.beq]<;>rfl|rfl) (by first | decide | omega) rfl ?_
  first | refine n_conv rfl (by first|simp only[nf,Nat.beq]<;>rfl|rfl) (by rw [Try.underlying249]; rfl) Try.underlying2 (wrap_id (by first | omega | (simp only [loK]; omega)) (by first | omega | (simp only [hiK]; omega))) ?_ | refine n_conv rfl (by first|simp only[nf,Nat.beq]<;>rfl|rfl) (by rw [Try.underlying249]; rfl) Try.underlying2 rfl ?_
  refine n_move rfl (by first|simp only[nf,Nat.beq]<;>rfl|rfl) ?_
  refine n_ibin rfl (by first|simp only[nf,Nat.beq]<;>rfl|rfl) (by first|simp only[nf,Nat.beq]<;>rfl|rfl) rfl ?_
  first | refine n_conv rfl (by first|simp only[nf,Nat.beq]<;>rfl|rfl) (by rw [Try.underlying249]; rfl) Try.underlying2 (wrap_id (by first | omega | (simp only [loK]; omega)) (by first | omega | (simp only [hiK]; omega))) ?_ | refine n_conv rfl (by first|simp only[nf,Nat.beq]<;>rfl|rfl) (by rw [Try.underlying249]; rfl) Try.underlying2 rfl ?_
  refine n_neg rfl (by first|simp only[nf,Nat.beq]<;>rfl|rfl) rfl ?_
  refine n_ibin rfl (by first|simp only[nf,Nat.beq]<;>rfl|rfl) (by first|simp only[nf,Nat.beq]<;>rfl|rfl) rfl ?_
  refine n_assign rfl (by first|simp only[nf,Nat.beq]<;>rfl|rfl) ?_
  refine AOps.nil ?_
  refine AWP.ret ?_
  refine fin_pure (.cons (rv_tmp (by first|simp only[nf,Nat.beq]<;>rfl|rfl)) .nil) (by first|simp only[nf,Nat.beq]<;>rfl|rfl) ?_
  rw [signed_eq u h]
  exact .lf (.val _)

theorem p_first (b : List Int) (hb : Byt b) (hl : L40 b) : Does Try.prog 103 [bys b] [] (.tup [vi (firstP b).1, vi ((firstP b).2.1 : Int), vi (firstP b).2.2]) [] := by
  refine Does.of_body (rvs := [.tmp 2, .tmp 3, .tmp 4]) Try.func103 rfl rfl rfl rfl ?_
  refine AWP.seq ?_
  refine AWP.region ?_
  refine n_assign rfl (by first|simp only[nf,Nat.beq]<;>rfl|rfl) ?_
  refine n_assign rfl (by first|simp only[nf,Nat.beq]<;>rfl|rfl) ?_
  refine n_assign rfl (by first|simp only[nf,Nat.beq]<;>rfl|rfl) ?_
  refine AOps.nil ?_
  refine AWP.seq ?_
  refine AWP.region ?_
  refine n_assign rfl (by first|simp only[nf,Nat.beq]<;>rfl|rfl) ?_
  refine AOps.nil ?_
  refine AWP.seq ?_
  refine AWP.region ?_
  refine n_assign rfl (by first|simp only[nf,Nat.beq]<;>rfl|rfl) ?_
  refine AOps.nil ?_
  refine AWP.block ?_
  refine AWP.loop (α := Nat × Nat) (fun p => p.1 ≤ b.length ∧ p.2 < 18446744073709551616 ∧ firstG p.2 p.1 (b.drop p.1) = firstP b) (fun p => put (put (put empty 0 (bys b)) 5 (.val (.int .u64 (p.2 : Int)))) 6 (vi (p.1 : Int))) (fun _ => []) (fun p => b.length - p.1) (0, 0) ?_ ?_ ?_ ?_
  · exact ⟨Nat.zero_le _, by omega, rfl⟩
  · (repeat (first | exact FLe.empty _ | refine FLe.put ?_ ?_)) <;> first | (simp only [nf, Nat.beq]; done) | rfl | (try simp only [nf, Nat.beq]; simp)
  · rfl
  · rintro ⟨i, u⟩ ⟨hi, hu, he⟩
    dsimp only at hi hu he ⊢
    refine AWP.seq ?_
    refine AWP.block ?_
    refine AWP.seq ?_
    refine AWP.block ?_
    refine AWP.seq ?_
    refine AWP.region ?_
    refine n_move rfl (by first|simp only[nf,Nat.beq]<;>rfl|rfl) ?_
    refine n_move rfl (by first|simp only[nf,Nat.beq]<;>rfl|rfl) ?_
    refine n_len rfl Try.underlying22 (by first|simp only[nf,Nat.beq]<;>rfl|rfl) (by first | rw [ints_length] | rfl) ?_
    refine n_ibin rfl (by first|simp only[nf,Nat.beq]<;>rfl|rfl) (by first|simp only[nf,Nat.beq]<;>rfl|rfl) rfl ?_
    refine n_assign rfl (by first|simp only[nf,Nat.beq]<;>rfl|rfl) ?_
    refine AOps.nil ?_
    refine AWP.cond (by first|simp only[nf,Nat.beq]<;>rfl|rfl) (fun hc1 => ?_) (fun hc1 => ?_)
    · try simp only [nh] at hc1
      have hr : firstP b = (0, 0, 10) := by rw [← he, List.drop_eq_nil_of_le (by omega)]; rfl
      refine AWP.seq ?_
      refine AWP.region ?_
      refine n_assign rfl (by first|simp only[nf,Nat.beq]<;>rfl|rfl) ?_
      refine n_assign rfl (by first|simp only[nf,Nat.beq]<;>rfl|rfl) ?_
      refine n_assign rfl (by first|simp only[nf,Nat.beq]<;>rfl|rfl) ?_
      refine AOps.nil ?_
      refine AWP.ret ?_
      refine fin_pure (.cons (rv_tmp (by first|simp only[nf,Nat.beq]<;>rfl|rfl)) (.cons (rv_tmp (by first|simp only[nf,Nat.beq]<;>rfl|rfl)) (.cons (rv_tmp (by first|simp only[nf,Nat.beq]<;>rfl|rfl)) .nil))) (by first|simp only[nf,Nat.beq]<;>rfl|rfl) ?_
      refine ren_flat rfl ?_; rw [hr]; first | rfl | (simp only [D.tup.injEq, List.cons.injEq, D.val.injEq, Value.int.injEq, true_and, and_true]; omega)
    · try simp only [nh] at hc1
      have hi : i < b.length := by omega
      rw [drop_at hi, firstG_cons] at he
      have hc := hb.at hi
      refine AWP.seq ?_
      refine AWP.region ?_
      refine n_move rfl (by first|simp only[nf,Nat.beq]<;>rfl|rfl) ?_
      refine n_ibin rfl (by first|simp only[nf,Nat.beq]<;>rfl|rfl) (by first|simp only[nf,Nat.beq]<;>rfl|rfl) rfl ?_
      refine n_move rfl (by first|simp only[nf,Nat.beq]<;>rfl|rfl) ?_
      refine AOps.name (u := 17) (fun z => .val (.bool z)) (by first|simp only[nf,Nat.beq]<;>rfl|rfl) (fun b17 hb17 => ?_)
      refine n_soft (u := 17) (E := .val (.bool b17)) (b17) rfl rfl rfl (by first|simp only[nf,Nat.beq]<;>rfl|rfl) (by cases b17 <;> first | (intro _; rfl) | (intro h; exact absurd h (by decide))) (by cases b17 <;> first | (intro h; exact absurd h (by decide)) | (intro _; exact ⟨_, rfl, by first | (intro h; cases h; done) | decide | simp⟩)) (fun h => by
          cases b17 with
          | false => exact absurd h (by first | decide | simp)
          | true =>
            refine n_move rfl (by first|simp only[nf,Nat.beq]<;>rfl|rfl) ?_
            exact AOps.nil ⟨rfl, rfl, rfl⟩) ?_
      refine n_soft (u := 17) (E := .val (.bool b17)) (b17) rfl rfl rfl (by first|simp only[nf,Nat.beq]<;>rfl|rfl) (by cases b17 <;> first | (intro _; rfl) | (intro h; exact absurd h (by decide))) (by cases b17 <;> first | (intro h; exact absurd h (by decide)) | (intro _; exact ⟨_, rfl, by first | (intro h; cases h; done) | decide | simp⟩)) (fun h => by
          cases b17 with
          | false => exact absurd h (by first | decide | simp)
          | true =>
            refine n_move rfl (by first|simp only[nf,Nat.beq]<;>rfl|rfl) ?_
            exact AOps.nil ⟨rfl, rfl, rfl⟩) ?_
      refine n_soft (u := 17) (E := .val (.bool b17)) (b17) rfl rfl rfl (by first|simp only[nf,Nat.beq]<;>rfl|rfl) (by cases b17 <;> first | (intro _; rfl) | (intro h; exact absurd h (by decide))) (by cases b17 <;> first | (intro h; exact absurd h (by decide)) | (intro _; exact ⟨_, rfl, by first | (intro h; cases h; done) | decide | simp⟩)) (fun h => by
          cases b17 with
          | false => exact absurd h (by first | decide | simp)
          | true =>
            refine n_indexAddr rfl Try.underlying22 ti5 rfl (by first|simp only[nf,Nat.beq]<;>rfl|rfl) (by first|simp only[nf,Nat.beq]<;>rfl|rfl) (by omega) (by first | exact ints_at _ _ _ (by omega) | exact ints_get _ _ _ (by omega) | exact map_at _ (by assumption) | rfl) rfl ?_
            exact AOps.nil ⟨rfl, rfl, rfl⟩) ?_
      refine n_soft (u := 17) (E := .val (.bool b17)) (b17) rfl rfl rfl (by first|simp only[nf,Nat.beq]<;>rfl|rfl) (by cases b17 <;> first | (intro _; rfl) | (intro h; exact absurd h (by decide))) (by cases b17 <;> first | (intro h; exact absurd h (by decide)) | (intro _; exact ⟨_, rfl, by first | (intro h; cases h; done) | decide | simp⟩)) (fun h => by
          cases b17 with
          | false => exact absurd h (by first | decide | simp)
          | true =>
            refine n_load rfl ti5 (by first|simp only[nf,Nat.beq]<;>rfl|rfl) (by first|simp only[nf,Nat.beq]<;>rfl|rfl) rfl (by first|simp only[nf,Nat.beq]<;>rfl|rfl) ?_
            exact AOps.nil ⟨rfl, rfl, rfl⟩) ?_
      refine n_soft (u := 17) (E := .val (.bool b17)) (b17) rfl rfl rfl (by first|simp only[nf,Nat.beq]<;>rfl|rfl) (by cases b17 <;> first | (intro _; rfl) | (intro h; exact absurd h (by decide))) (by cases b17 <;> first | (intro h; exact absurd h (by decide)) | (intro _; exact ⟨_, rfl, by first | (intro h; cases h; done) | decide | simp⟩)) (fun h => by
          cases b17 with
          | false => exact absurd h (by first | decide | simp)
          | true =>
            refine n_ibin rfl (by first|simp only[nf,Nat.beq]<;>rfl|rfl) (by first|simp only[nf,Nat.beq]<;>rfl|rfl) rfl ?_
            exact AOps.nil ⟨rfl, rfl, rfl⟩) ?_
      refine n_pick_and rfl (by first|simp only[nf,Nat.beq]<;>rfl|rfl) (fun h => by cases b17 with | false => exact absurd h (by decide) | true => exact (by first|simp only[nf,Nat.beq]<;>rfl|rfl)) ?_
      refine n_move rfl (by first|simp only[nf,Nat.beq]<;>rfl|rfl) ?_
      refine AOps.name (u := 24) (fun z => .val (.bool z)) (by first|simp only[nf,Nat.beq]<;>rfl|rfl) (fun b24 hb24 => ?_)
      refine n_soft (u := 24) (E := .val (.bool b24)) (!b24) rfl rfl rfl (by first|simp only[nf,Nat.beq]<;>rfl|rfl) (by cases b24 <;> first | (intro _; rfl) | (intro h; exact absurd h (by decide))) (by cases b24 <;> first | (intro h; exact absurd h (by decide)) | (intro _; exact ⟨_, rfl, by first | (intro h; cases h; done) | decide | simp⟩)) (fun h => by
          cases b24 with
          | true => exact absurd h (by first | decide | simp)
          | false =>
            refine n_move rfl (by first|simp only[nf,Nat.beq]<;>rfl|rfl) ?_
            exact AOps.nil ⟨rfl, rfl, rfl⟩) ?_
      refine n_soft (u := 24) (E := .val (.bool b24)) (!b24) rfl rfl rfl (by first|simp only[nf,Nat.beq]<;>rfl|rfl) (by cases b24 <;> first | (intro _; rfl) | (intro h; exact absurd h (by decide))) (by cases b24 <;> first | (intro h; exact absurd h (by decide)) | (intro _; exact ⟨_, rfl, by first | (intro h; cases h; done) | decide | simp⟩)) (fun h => by
          cases b24 with
          | true => exact absurd h (by first | decide | simp)
          | false =>
            refine n_ibin rfl (by first|simp only[nf,Nat.beq]<;>rfl|rfl) (by first|simp only[nf,Nat.beq]<;>rfl|rfl) rfl ?_
            exact AOps.nil ⟨rfl, rfl, rfl⟩) ?_
      refine n_pick_or rfl (by first|simp only[nf,Nat.beq]<;>rfl|rfl) (fun h => by cases b24 with | true => exact absurd h (by decide) | false => exact (by first|simp only[nf,Nat.beq]<;>rfl|rfl)) ?_
      refine n_assign rfl (by first|simp only[nf,Nat.beq]<;>rfl|rfl) ?_
      subst hb17
      subst hb24
      refine AOps.nil ?_
      refine AWP.cond (by first|simp only[nf,Nat.beq]<;>rfl|rfl) (fun hc2 => ?_) (fun hc2 => ?_)
      · try simp only [nh] at hc2
        simp only [Bool.or_eq_true, Bool.or_eq_false_iff, Bool.and_eq_true, Bool.and_eq_false_iff, beq_iff_eq, beq_eq_false_iff_ne, ne_eq, decide_eq_true_eq, decide_eq_false_iff_not, gt_iff_lt, ge_iff_le] at hc2
        have hr : firstP b = (0, 0, 11) := by rw [← he, if_pos (by omega)]
        refine AWP.seq ?_
        refine AWP.region ?_
        refine n_assign rfl (by first|simp only[nf,Nat.beq]<;>rfl|rfl) ?_
        refine n_assign rfl (by first|simp only[nf,Nat.beq]<;>rfl|rfl) ?_
        refine n_assign rfl (by first|simp only[nf,Nat.beq]<;>rfl|rfl) ?_
        refine AOps.nil ?_
        refine AWP.ret ?_
        refine fin_pure (.cons (rv_tmp (by first|simp only[nf,Nat.beq]<;>rfl|rfl)) (.cons (rv_tmp (by first|simp only[nf,Nat.beq]<;>rfl|rfl)) (.cons (rv_tmp (by first|simp only[nf,Nat.beq]<;>rfl|rfl)) .nil))) (by first|simp only[nf,Nat.beq]<;>rfl|rfl) ?_
        refine ren_flat rfl ?_; rw [hr]; first | rfl | (simp only [D.tup.injEq, List.cons.injEq, D.val.injEq, Value.int.injEq, true_and, and_true]; omega)
      · try simp only [nh] at hc2
        simp only [Bool.or_eq_true, Bool.or_eq_false_iff, Bool.and_eq_true, Bool.and_eq_false_iff, beq_iff_eq, beq_eq_false_iff_ne, ne_eq, decide_eq_true_eq, decide_eq_false_iff_not, gt_iff_lt, ge_iff_le] at hc2
        rw [if_neg (by omega)] at he
        have hq := bitsI_conv_u8 _ hc.1 hc.2
        refine AWP.skip ?_
        refine AWP.seq ?_
        refine AWP.region ?_
        refine n_move rfl (by first|simp only[nf,Nat.beq]<;>rfl|rfl) ?_
        refine n_shl rfl (by first|simp only[nf,Nat.beq]<;>rfl|rfl) (by first|simp only[nf,Nat.beq]<;>rfl|rfl) (by first | decide | omega) rfl ?_
        refine n_move rfl (by first|simp only[nf,Nat.beq]<;>rfl|rfl) ?_
        refine n_move rfl (by first|simp only[nf,Nat.beq]<;>rfl|rfl) ?_
        refine n_indexAddr rfl Try.underlying22 ti5 rfl (by first|simp only[nf,Nat.beq]<;>rfl|rfl) (by first|simp only[nf,Nat.beq]<;>rfl|rfl) (by omega) (by first | exact ints_at _ _ _ (by omega) | exact ints_get _ _ _ (by omega) | exact map_at _ (by assumption) | rfl) rfl ?_
        refine n_load rfl ti5 (by first|simp only[nf,Nat.beq]<;>rfl|rfl) (by first|simp only[nf,Nat.beq]<;>rfl|rfl) rfl (by first|simp only[nf,Nat.beq]<;>rfl|rfl) ?_
        refine n_ibin rfl (by first|simp only[nf,Nat.beq]<;>rfl|rfl) (by first|simp only[nf,Nat.beq]<;>rfl|rfl) rfl ?_
        first | refine n_conv rfl (by first|simp only[nf,Nat.beq]<;>rfl|rfl) (by rw [Try.underlying5]; rfl) Try.underlying249 (wrap_id (by first | omega | (simp only [loK]; omega)) (by first | omega | (simp only [hiK]; omega))) ?_ | refine n_conv rfl (by first|simp only[nf,Nat.beq]<;>rfl|rfl) (by rw [Try.underlying5]; rfl) Try.underlying249 rfl ?_
        refine n_ibin rfl (by first|simp only[nf,Nat.beq]<;>rfl|rfl) (by first|simp only[nf,Nat.beq]<;>rfl|rfl) (v := .int .u64 ((u * 128 + (b.getD i 0 % 128).toNat : Nat) : Int)) (by simp only [ibin]; rw [shl7or u _ (by omega) hc.1 hc.2]) ?_
        refine n_assign rfl (by first|simp only[nf,Nat.beq]<;>rfl|rfl) ?_
        refine AOps.nil ?_
        refine AWP.seq ?_
        refine AWP.region ?_
        refine n_move rfl (by first|simp only[nf,Nat.beq]<;>rfl|rfl) ?_
        refine n_move rfl (by first|simp only[nf,Nat.beq]<;>rfl|rfl) ?_
        refine n_indexAddr rfl Try.underlying22 ti5 rfl (by first|simp only[nf,Nat.beq]<;>rfl|rfl) (by first|simp only[nf,Nat.beq]<;>rfl|rfl) (by omega) (by first | exact ints_at _ _ _ (by omega) | exact ints_get _ _ _ (by omega) | exact map_at _ (by assumption) | rfl) rfl ?_
        refine n_load rfl ti5 (by first|simp only[nf,Nat.beq]<;>rfl|rfl) (by first|simp only[nf,Nat.beq]<;>rfl|rfl) rfl (by first|simp only[nf,Nat.beq]<;>rfl|rfl) ?_
        refine n_ibin rfl (by first|simp only[nf,Nat.beq]<;>rfl|rfl) (by first|simp only[nf,Nat.beq]<;>rfl|rfl) rfl ?_
        refine AOps.nil ?_
        refine AWP.cond (by first|simp only[nf,Nat.beq]<;>rfl|rfl) (fun hc3 => ?_) (fun hc3 => ?_)
        · try simp only [nh] at hc3
          have hr : firstP b = (numberN (u * 128 + (b.getD i 0 % 128).toNat), i + 1, 0) := by rw [← he, if_pos (by omega)]
          refine AWP.seq ?_
          refine AWP.region ?_
          refine n_move rfl (by first|simp only[nf,Nat.beq]<;>rfl|rfl) ?_
          refine n_call0B rfl cf206 rfl (Eq.trans (by simp only [nl] <;> rfl) (by first|simp only[nf,Nat.beq]<;>rfl|rfl)) (by repeat (first | exact .nil | refine .cons ?_ ?_ | exact ren_ints | exact .lf (.val _) | exact .lf (lf_ints (.inl rfl)) | exact .bp ⟨rfl, rfl⟩ | exact .bp (.inl ⟨rfl, rfl⟩) | exact .bp (.inr ⟨rfl, rfl⟩) | exact .lf (D.flat_lf rfl) | exact ren_lits rfl)) (p_signed (u * 128 + (b.getD i 0 % 128).toNat) (by omega)) (by first | exact .val _ | exact lf_ints (.inl rfl) | exact lf_ints (.inr rfl) | exact .any | exact D.flat_lf rfl) ?_
          refine n_move rfl (by first|simp only[nf,Nat.beq]<;>rfl|rfl) ?_
          first | refine n_iadd rfl (by first|simp only[nf,Nat.beq]<;>rfl|rfl) (by first|simp only[nf,Nat.beq]<;>rfl|rfl) rfl (by omega) (by omega) ?_ | refine n_ibin rfl (by first|simp only[nf,Nat.beq]<;>rfl|rfl) (by first|simp only[nf,Nat.beq]<;>rfl|rfl) rfl ?_
          refine n_assign rfl (by first|simp only[nf,Nat.beq]<;>rfl|rfl) ?_
          refine n_assign rfl (by first|simp only[nf,Nat.beq]<;>rfl|rfl) ?_
          refine n_assign rfl (by first|simp only[nf,Nat.beq]<;>rfl|rfl) ?_
          refine AOps.nil ?_
          refine AWP.ret ?_
          refine fin_pure (.cons (rv_tmp (by first|simp only[nf,Nat.beq]<;>rfl|rfl)) (.cons (rv_tmp (by first|simp only[nf,Nat.beq]<;>rfl|rfl)) (.cons (rv_tmp (by first|simp only[nf,Nat.beq]<;>rfl|rfl)) .nil))) (by first|simp only[nf,Nat.beq]<;>rfl|rfl) ?_
          refine ren_flat rfl ?_; rw [hr]; first | rfl | (simp only [D.tup.injEq, List.cons.injEq, D.val.injEq, Value.int.injEq, true_and, and_true]; omega)
        · try simp only [nh] at hc3
          rw [if_neg (by omega)] at he
          refine AWP.skip ?_
          refine AWP.region ?_
          refine n_move rfl (by first|simp only[nf,Nat.beq]<;>rfl|rfl) ?_
          first | refine n_iadd rfl (by first|simp only[nf,Nat.beq]<;>rfl|rfl) (by first|simp only[nf,Nat.beq]<;>rfl|rfl) rfl (by omega) (by omega) ?_ | refine n_ibin rfl (by first|simp only[nf,Nat.beq]<;>rfl|rfl) (by first|simp only[nf,Nat.beq]<;>rfl|rfl) rfl ?_
          refine n_assign rfl (by first|simp only[nf,Nat.beq]<;>rfl|rfl) ?_
          refine AOps.nil ?_
          refine ⟨(i + 1, u * 128 + (b.getD i 0 % 128).toNat), ⟨by dsimp only; omega, by dsimp only; omega, by dsimp only; exact he⟩, ?_, rfl, by dsimp only; omega⟩
          (repeat (first | exact FLe.empty _ | refine FLe.put ?_ ?_)) <;> first | (simp only [nf, Nat.beq]; done) | rfl | (try simp only [nf, Nat.beq]; first | rfl | (congr 2; omega))

theorem r_number (u : Nat) (h : u < 18446744073709551616) : Does Try.prog 207 [.val (.int .u64 (u : Int))] [] (vi (numberN u)) [] := by
  refine Does.of_body (rvs := [.tmp 2]) Try.func207 rfl rfl rfl rfl ?_
  refine AWP.seq ?_
  refine AWP.region ?_
  refine n_assign rfl (by first|simp only[nf,Nat.beq]<;>rfl|rfl) ?_
  refine AOps.nil ?_
  refine AWP.seq ?_
  refine AWP.seq ?_
  refine AWP.region ?_
  refine n_move rfl (by first|simp only[nf,Nat.beq]<;>rfl|rfl) ?_
  refine n_rem rfl (by first|simp only[nf,Nat.beq]<;>rfl|rfl) (by first|simp only[nf,Nat.beq]<;>rfl|rfl) (by decide) (c := ((u % 2 : Nat) : Int)) (by rw [Int.tmod_eq_emod_of_nonneg (by omega)]; omega) ?_
  refine n_ibin rfl (by first|simp only[nf,Nat.beq]<;>rfl|rfl) (by first|simp only[nf,Nat.beq]<;>rfl|rfl) rfl ?_
  refine AOps.nil ?_
  refine AWP.cond (by first|simp only[nf,Nat.beq]<;>rfl|rfl) (fun hc1 => ?_) (fun hc1 => ?_)
  · try simp only [nh] at hc1
    refine AWP.seq ?_
    refine AWP.region ?_
    refine n_move rfl (by first|simp only[nf,Nat.beq]<;>rfl|rfl) ?_
    refine n_quo rfl (by first|simp only[nf,Nat.beq]<;>rfl|rfl) (by first|simp only[nf,Nat.beq]<;>rfl|rfl) (by decide) (c := ((u / 2 : Nat) : Int)) (by rw [Int.tdiv_eq_ediv_of_nonneg (by omega), wrap_u64]; omega) ?_
    first | refine n_conv rfl (by first|simp only[nf,Nat.beq]<;>rfl|rfl) (by rw [Try.underlying249]; rfl) Try.underlying2 (wrap_id (by first | omega | (simp only [loK]; omega)) (by first | omega | (simp only [hiK]; omega))) ?_ | refine n_conv rfl (by first|simp only[nf,Nat.beq]<;>rfl|rfl) (by rw [Try.underlying249]; rfl) Try.underlying2 rfl ?_
    refine n_assign rfl (by first|simp only[nf,Nat.beq]<;>rfl|rfl) ?_
    refine AOps.nil ?_
    refine AWP.ret ?_
    refine fin_pure (.cons (rv_tmp (by first|simp only[nf,Nat.beq]<;>rfl|rfl)) .nil) (by first|simp only[nf,Nat.beq]<;>rfl|rfl) ?_
    refine ren_flat rfl ?_; unfold numberN; first | rw [if_pos (by omega)] | rw [if_neg (by omega)]
  · try simp only [nh] at hc1
    refine AWP.skip ?_
    refine AWP.seq ?_
    refine AWP.region ?_
    refine n_move rfl (by first|simp only[nf,Nat.beq]<;>rfl|rfl) ?_
    refine n_quo rfl (by first|simp only[nf,Nat.beq]<;>rfl|rfl) (by first|simp only[nf,Nat.beq]<;>rfl|rfl) (by decide) (c := ((u / 2 : Nat) : Int)) (by rw [Int.tdiv_eq_ediv_of_nonneg (by omega), wrap_u64]; omega) ?_
    first | refine n_conv rfl (by first|simp only[nf,Nat.beq]<;>rfl|rfl) (by rw [Try.underlying249]; rfl) Try.underlying2 (wrap_id (by first | omega | (simp only [loK]; omega)) (by first | omega | (simp only [hiK]; omega))) ?_ | refine n_conv rfl (by first|simp only[nf,Nat.beq]<;>rfl|rfl) (by rw [Try.underlying249]; rfl) Try.underlying2 rfl ?_
    refine n_neg rfl (by first|simp only[nf,Nat.beq]<;>rfl|rfl) (c := -((u / 2 : Nat) : Int)) (by rw [wrap_id (by simp only [loK]; omega) (by simp only [hiK]; omega)]; omega) ?_
    first | refine n_isub rfl (by first|simp only[nf,Nat.beq]<;>rfl|rfl) (by first|simp only[nf,Nat.beq]<;>rfl|rfl) rfl (by omega) (by omega) ?_ | refine n_ibin rfl (by first|simp only[nf,Nat.beq]<;>rfl|rfl) (by first|simp only[nf,Nat.beq]<;>rfl|rfl) rfl ?_
    refine n_assign rfl (by first|simp only[nf,Nat.beq]<;>rfl|rfl) ?_
    refine AOps.nil ?_
    refine AWP.ret ?_
    refine fin_pure (.cons (rv_tmp (by first|simp only[nf,Nat.beq]<;>rfl|rfl)) .nil) (by first|simp only[nf,Nat.beq]<;>rfl|rfl) ?_
    refine ren_flat rfl ?_; unfold numberN; first | rw [if_pos (by omega)] | rw [if_neg (by omega)]

theorem r_first (b : List Int) (hb : Byt b) (hl : L40 b) : Does Try.prog 104 [bys b] [] (.tup [vi (firstP b).1, vi ((firstP b).2.1 : Int), vi (firstP b).2.2]) [] := by
  refine Does.of_body (rvs := [.tmp 2, .tmp 3, .tmp 4]) Try.func104 rfl rfl rfl rfl ?_
  refine AWP.seq ?_
  refine AWP.region ?_
  refine n_assign rfl (by first|simp only[nf,Nat.beq]<;>rfl|rfl) ?_
  refine n_assign rfl (by first|simp only[nf,Nat.beq]<;>rfl|rfl) ?_
  refine n_assign rfl (by first|simp only[nf,Nat.beq]<;>rfl|rfl) ?_
  refine AOps.nil ?_
  refine AWP.seq ?_
  refine AWP.region ?_
  refine n_assign rfl (by first|simp only[nf,Nat.beq]<;>rfl|rfl) ?_
  refine AOps.nil ?_
  refine AWP.seq ?_
  refine AWP.seq ?_
  refine AWP.region ?_
  refine n_assign rfl (by first|simp only[nf,Nat.beq]<;>rfl|rfl) ?_
  refine AOps.nil ?_
  refine AWP.block ?_
  refine AWP.loop (α := Nat × Nat) (fun p => p.1 ≤ b.length ∧ p.2 < 18446744073709551616 ∧ firstG p.2 p.1 (b.drop p.1) = firstP b) (fun p => put (put (put empty 0 (bys b)) 5 (.val (.int .u64 (p.2 : Int)))) 6 (vi (p.1 : Int))) (fun _ => []) (fun p => b.length - p.1) (0, 0) ?_ ?_ ?_ ?_
  · exact ⟨Nat.zero_le _, by omega, rfl⟩
  · (repeat (first | exact FLe.empty _ | refine FLe.put ?_ ?_)) <;> first | (simp only [nf, Nat.beq]; done) | rfl | (try simp only [nf, Nat.beq]; simp)
  · rfl
  · rintro ⟨i, u⟩ ⟨hi, hu, he⟩
    dsimp only at hi hu he ⊢
    refine AWP.seq ?_
    refine AWP.seq ?_
    refine AWP.region ?_
    refine n_move rfl (by first|simp only[nf,Nat.beq]<;>rfl|rfl) ?_
    refine n_move rfl (by first|simp only[nf,Nat.beq]<;>rfl|rfl) ?_
    refine n_len rfl Try.underlying22 (by first|simp only[nf,Nat.beq]<;>rfl|rfl) (by first | rw [ints_length] | rfl) ?_
    refine n_ibin rfl (by first|simp only[nf,Nat.beq]<;>rfl|rfl) (by first|simp only[nf,Nat.beq]<;>rfl|rfl) rfl ?_
    refine AOps.nil ?_
    refine AWP.cond (by first|simp only[nf,Nat.beq]<;>rfl|rfl) (fun hc1 => ?_) (fun hc1 => ?_)
    · try simp only [nh] at hc1
      have hi : i < b.length := by omega
      rw [drop_at hi, firstG_cons] at he
      have hc := hb.at hi
      refine AWP.skip ?_
      refine AWP.seq ?_
      refine AWP.block ?_
      refine AWP.seq ?_
      refine AWP.seq ?_
      refine AWP.region ?_
      refine n_move rfl (by first|simp only[nf,Nat.beq]<;>rfl|rfl) ?_
      refine n_ibin rfl (by first|simp only[nf,Nat.beq]<;>rfl|rfl) (by first|simp only[nf,Nat.beq]<;>rfl|rfl) rfl ?_
      refine n_move rfl (by first|simp only[nf,Nat.beq]<;>rfl|rfl) ?_
      refine AOps.name (u := 15) (fun z => .val (.bool z)) (by first|simp only[nf,Nat.beq]<;>rfl|rfl) (fun b15 hb15 => ?_)
      refine n_soft (u := 15) (E := .val (.bool b15)) (b15) rfl rfl rfl (by first|simp only[nf,Nat.beq]<;>rfl|rfl) (by cases b15 <;> first | (intro _; rfl) | (intro h; exact absurd h (by decide))) (by cases b15 <;> first | (intro h; exact absurd h (by decide)) | (intro _; exact ⟨_, rfl, by first | (intro h; cases h; done) | decide | simp⟩)) (fun h => by
          cases b15 with
          | false => exact absurd h (by first | decide | simp)
          | true =>
            refine n_move rfl (by first|simp only[nf,Nat.beq]<;>rfl|rfl) ?_
            exact AOps.nil ⟨rfl, rfl, rfl⟩) ?_
      refine n_soft (u := 15) (E := .val (.bool b15)) (b15) rfl rfl rfl (by first|simp only[nf,Nat.beq]<;>rfl|rfl) (by cases b15 <;> first | (intro _; rfl) | (intro h; exact absurd h (by decide))) (by cases b15 <;> first | (intro h; exact absurd h (by decide)) | (intro _; exact ⟨_, rfl, by first | (intro h; cases h; done) | decide | simp⟩)) (fun h => by
          cases b15 with
          | false => exact absurd h (by first | decide | simp)
          | true =>
            refine n_move rfl (by first|simp only[nf,Nat.beq]<;>rfl|rfl) ?_
            exact AOps.nil ⟨rfl, rfl, rfl⟩) ?_
      refine n_soft (u := 15) (E := .val (.bool b15)) (b15) rfl rfl rfl (by first|simp only[nf,Nat.beq]<;>rfl|rfl) (by cases b15 <;> first | (intro _; rfl) | (intro h; exact absurd h (by decide))) (by cases b15 <;> first | (intro h; exact absurd h (by decide)) | (intro _; exact ⟨_, rfl, by first | (intro h; cases h; done) | decide | simp⟩)) (fun h => by
          cases b15 with
          | false => exact absurd h (by first | decide | simp)
          | true =>
            refine n_indexAddr rfl Try.underlying22 ti5 rfl (by first|simp only[nf,Nat.beq]<;>rfl|rfl) (by first|simp only[nf,Nat.beq]<;>rfl|rfl) (by omega) (by first | exact ints_at _ _ _ (by omega) | exact ints_get _ _ _ (by omega) | exact map_at _ (by assumption) | rfl) rfl ?_
            exact AOps.nil ⟨rfl, rfl, rfl⟩) ?_
      refine n_soft (u := 15) (E := .val (.bool b15)) (b15) rfl rfl rfl (by first|simp only[nf,Nat.beq]<;>rfl|rfl) (by cases b15 <;> first | (intro _; rfl) | (intro h; exact absurd h (by decide))) (by cases b15 <;> first | (intro h; exact absurd h (by decide)) | (intro _; exact ⟨_, rfl, by first | (intro h; cases h; done) | decide | simp⟩)) (fun h => by
          cases b15 with
          | false => exact absurd h (by first | decide | simp)
          | true =>
            refine n_load rfl ti5 (by first|simp only[nf,Nat.beq]<;>rfl|rfl) (by first|simp only[nf,Nat.beq]<;>rfl|rfl) rfl (by first|simp only[nf,Nat.beq]<;>rfl|rfl) ?_
            exact AOps.nil ⟨rfl, rfl, rfl⟩) ?_
      refine n_soft (u := 15) (E := .val (.bool b15)) (b15) rfl rfl rfl (by first|simp only[nf,Nat.beq]<;>rfl|rfl) (by cases b15 <;> first | (intro _; rfl) | (intro h; exact absurd h (by decide))) (by cases b15 <;> first | (intro h; exact absurd h (by decide)) | (intro _; exact ⟨_, rfl, by first | (intro h; cases h; done) | decide | simp⟩)) (fun h => by
          cases b15 with
          | false => exact absurd h (by first | decide | simp)
          | true =>
            refine n_ibin rfl (by first|simp only[nf,Nat.beq]<;>rfl|rfl) (by first|simp only[nf,Nat.beq]<;>rfl|rfl) rfl ?_
            exact AOps.nil ⟨rfl, rfl, rfl⟩) ?_
      refine n_pick_and rfl (by first|simp only[nf,Nat.beq]<;>rfl|rfl) (fun h => by cases b15 with | false => exact absurd h (by decide) | true => exact (by first|simp only[nf,Nat.beq]<;>rfl|rfl)) ?_
      refine n_move rfl (by first|simp only[nf,Nat.beq]<;>rfl|rfl) ?_
      refine AOps.name (u := 22) (fun z => .val (.bool z)) (by first|simp only[nf,Nat.beq]<;>rfl|rfl) (fun b22 hb22 => ?_)
      refine n_soft (u := 22) (E := .val (.bool b22)) (!b22) rfl rfl rfl (by first|simp only[nf,Nat.beq]<;>rfl|rfl) (by cases b22 <;> first | (intro _; rfl) | (intro h; exact absurd h (by decide))) (by cases b22 <;> first | (intro h; exact absurd h (by decide)) | (intro _; exact ⟨_, rfl, by first | (intro h; cases h; done) | decide | simp⟩)) (fun h => by
          cases b22 with
          | true => exact absurd h (by first | decide | simp)
          | false =>
            refine n_move rfl (by first|simp only[nf,Nat.beq]<;>rfl|rfl) ?_
            exact AOps.nil ⟨rfl, rfl, rfl⟩) ?_
      refine n_soft (u := 22) (E := .val (.bool b22)) (!b22) rfl rfl rfl (by first|simp only[nf,Nat.beq]<;>rfl|rfl) (by cases b22 <;> first | (intro _; rfl) | (intro h; exact absurd h (by decide))) (by cases b22 <;> first | (intro h; exact absurd h (by decide)) | (intro _; exact ⟨_, rfl, by first | (intro h; cases h; done) | decide | simp⟩)) (fun h => by
          cases b22 with
          | true => exact absurd h (by first | decide | simp)
          | false =>
            refine n_ibin rfl (by first|simp only[nf,Nat.beq]<;>rfl|rfl) (by first|simp only[nf,Nat.beq]<;>rfl|rfl) rfl ?_
            exact AOps.nil ⟨rfl, rfl, rfl⟩) ?_
      refine n_pick_or rfl (by first|simp only[nf,Nat.beq]<;>rfl|rfl) (fun h => by cases b22 with | true => exact absurd h (by decide) | false => exact (by first|simp only[nf,Nat.beq]<;>rfl|rfl)) ?_
      subst hb15
      subst hb22
      refine AOps.nil ?_
      refine AWP.cond (by first|simp only[nf,Nat.beq]<;>rfl|rfl) (fun hc2 => ?_) (fun hc2 => ?_)
      · try simp only [nh] at hc2
        simp only [Bool.or_eq_true, Bool.or_eq_false_iff, Bool.and_eq_true, Bool.and_eq_false_iff, beq_iff_eq, beq_eq_false_iff_ne, ne_eq, decide_eq_true_eq, decide_eq_false_iff_not, gt_iff_lt, ge_iff_le] at hc2
        have hr : firstP b = (0, 0, 11) := by rw [← he, if_pos (by omega)]
        refine AWP.seq ?_
        refine AWP.region ?_
        refine n_assign rfl (by first|simp only[nf,Nat.beq]<;>rfl|rfl) ?_
        refine n_assign rfl (by first|simp only[nf,Nat.beq]<;>rfl|rfl) ?_
        refine n_assign rfl (by first|simp only[nf,Nat.beq]<;>rfl|rfl) ?_
        refine AOps.nil ?_
        refine AWP.ret ?_
        refine fin_pure (.cons (rv_tmp (by first|simp only[nf,Nat.beq]<;>rfl|rfl)) (.cons (rv_tmp (by first|simp only[nf,Nat.beq]<;>rfl|rfl)) (.cons (rv_tmp (by first|simp only[nf,Nat.beq]<;>rfl|rfl)) .nil))) (by first|simp only[nf,Nat.beq]<;>rfl|rfl) ?_
        refine ren_flat rfl ?_; rw [hr]; first | rfl | (simp only [D.tup.injEq, List.cons.injEq, D.val.injEq, Value.int.injEq, true_and, and_true]; omega)
      · try simp only [nh] at hc2
        simp only [Bool.or_eq_true, Bool.or_eq_false_iff, Bool.and_eq_true, Bool.and_eq_false_iff, beq_iff_eq, beq_eq_false_iff_ne, ne_eq, decide_eq_true_eq, decide_eq_false_iff_not, gt_iff_lt, ge_iff_le] at hc2
        rw [if_neg (by omega)] at he
        have hq := bitsI_conv_u8 _ hc.1 hc.2
        refine AWP.skip ?_
        refine AWP.seq ?_
        refine AWP.region ?_
        refine n_move rfl (by first|simp only[nf,Nat.beq]<;>rfl|rfl) ?_
        refine n_ibin rfl (by first|simp only[nf,Nat.beq]<;>rfl|rfl) (by first|simp only[nf,Nat.beq]<;>rfl|rfl) (v := .int .u64 ((u * 128 : Nat) : Int)) (by simp only [ibin]; rw [wrap_u64]; congr 2; omega) ?_
        refine n_move rfl (by first|simp only[nf,Nat.beq]<;>rfl|rfl) ?_
        refine n_move rfl (by first|simp only[nf,Nat.beq]<;>rfl|rfl) ?_
        refine n_indexAddr rfl Try.underlying22 ti5 rfl (by first|simp only[nf,Nat.beq]<;>rfl|rfl) (by first|simp only[nf,Nat.beq]<;>rfl|rfl) (by omega) (by first | exact ints_at _ _ _ (by omega) | exact ints_get _ _ _ (by omega) | exact map_at _ (by assumption) | rfl) rfl ?_
        refine n_load rfl ti5 (by first|simp only[nf,Nat.beq]<;>rfl|rfl) (by first|simp only[nf,Nat.beq]<;>rfl|rfl) rfl (by first|simp only[nf,Nat.beq]<;>rfl|rfl) ?_
        refine n_rem rfl (by first|simp only[nf,Nat.beq]<;>rfl|rfl) (by first|simp only[nf,Nat.beq]<;>rfl|rfl) (by decide) (c := ((b.getD i 0 % 128).toNat : Int)) (by rw [Int.tmod_eq_emod_of_nonneg hc.1]; omega) ?_
        first | refine n_conv rfl (by first|simp only[nf,Nat.beq]<;>rfl|rfl) (by rw [Try.underlying5]; rfl) Try.underlying249 (wrap_id (by first | omega | (simp only [loK]; omega)) (by first | omega | (simp only [hiK]; omega))) ?_ | refine n_conv rfl (by first|simp only[nf,Nat.beq]<;>rfl|rfl) (by rw [Try.underlying5]; rfl) Try.underlying249 rfl ?_
        refine n_ibin rfl (by first|simp only[nf,Nat.beq]<;>rfl|rfl) (by first|simp only[nf,Nat.beq]<;>rfl|rfl) (v := .int .u64 ((u * 128 + (b.getD i 0 % 128).toNat : Nat) : Int)) (by simp only [ibin]; rw [wrap_u64]; congr 2; omega) ?_
        refine n_assign rfl (by first|simp only[nf,Nat.beq]<;>rfl|rfl) ?_
        refine AOps.nil ?_
        refine AWP.seq ?_
        refine AWP.region ?_
        refine n_move rfl (by first|simp only[nf,Nat.beq]<;>rfl|rfl) ?_
        refine n_move rfl (by first|simp only[nf,Nat.beq]<;>rfl|rfl) ?_
        refine n_indexAddr rfl Try.underlying22 ti5 rfl (by first|simp only[nf,Nat.beq]<;>rfl|rfl) (by first|simp only[nf,Nat.beq]<;>rfl|rfl) (by omega) (by first | exact ints_at _ _ _ (by omega) | exact ints_get _ _ _ (by omega) | exact map_at _ (by assumption) | rfl) rfl ?_
        refine n_load rfl ti5 (by first|simp only[nf,Nat.beq]<;>rfl|rfl) (by first|simp only[nf,Nat.beq]<;>rfl|rfl) rfl (by first|simp only[nf,Nat.beq]<;>rfl|rfl) ?_
        refine n_ibin rfl (by first|simp only[nf,Nat.beq]<;>rfl|rfl) (by first|simp only[nf,Nat.beq]<;>rfl|rfl) rfl ?_
        refine AOps.nil ?_
        refine AWP.cond (by first|simp only[nf,Nat.beq]<;>rfl|rfl) (fun hc3 => ?_) (fun hc3 => ?_)
        · try simp only [nh] at hc3
          have hr : firstP b = (numberN (u * 128 + (b.getD i 0 % 128).toNat), i + 1, 0) := by rw [← he, if_pos (by omega)]
          refine AWP.seq ?_
          refine AWP.region ?_
          refine n_move rfl (by first|simp only[nf,Nat.beq]<;>rfl|rfl) ?_
          refine n_call0B rfl cf207 rfl (Eq.trans (by simp only [nl] <;> rfl) (by first|simp only[nf,Nat.beq]<;>rfl|rfl)) (by repeat (first | exact .nil | refine .cons ?_ ?_ | exact ren_ints | exact .lf (.val _) | exact .lf (lf_ints (.inl rfl)) | exact .bp ⟨rfl, rfl⟩ | exact .bp (.inl ⟨rfl, rfl⟩) | exact .bp (.inr ⟨rfl, rfl⟩) | exact .lf (D.flat_lf rfl) | exact ren_lits rfl)) (r_number (u * 128 + (b.getD i 0 % 128).toNat) (by omega)) (by first | exact .val _ | exact lf_ints (.inl rfl) | exact lf_ints (.inr rfl) | exact .any | exact D.flat_lf rfl) ?_
          refine n_move rfl (by first|simp only[nf,Nat.beq]<;>rfl|rfl) ?_
          first | refine n_iadd rfl (by first|simp only[nf,Nat.beq]<;>rfl|rfl) (by first|simp only[nf,Nat.beq]<;>rfl|rfl) rfl (by omega) (by omega) ?_ | refine n_ibin rfl (by first|simp only[nf,Nat.beq]<;>rfl|rfl) (by first|simp only[nf,Nat.beq]<;>rfl|rfl) rfl ?_
          refine n_assign rfl (by first|simp only[nf,Nat.beq]<;>rfl|rfl) ?_
          refine n_assign rfl (by first|simp only[nf,Nat.beq]<;>rfl|rfl) ?_
          refine n_assign rfl (by first|simp only[nf,Nat.beq]<;>rfl|rfl) ?_
          refine AOps.nil ?_
          refine AWP.ret ?_
          refine fin_pure (.cons (rv_tmp (by first|simp only[nf,Nat.beq]<;>rfl|rfl)) (.cons (rv_tmp (by first|simp only[nf,Nat.beq]<;>rfl|rfl)) (.cons (rv_tmp (by first|simp only[nf,Nat.beq]<;>rfl|rfl)) .nil))) (by first|simp only[nf,Nat.beq]<;>rfl|rfl) ?_
          refine ren_flat rfl ?_; rw [hr]; first | rfl | (simp only [D.tup.injEq, List.cons.injEq, D.val.injEq, Value.int.injEq, true_and, and_true]; omega)
        · try simp only [nh] at hc3
          rw [if_neg (by omega)] at he
          refine AWP.skip ?_
          refine AWP.region ?_
          refine n_move rfl (by first|simp only[nf,Nat.beq]<;>rfl|rfl) ?_
          first | refine n_iadd rfl (by first|simp only[nf,Nat.beq]<;>rfl|rfl) (by first|simp only[nf,Nat.beq]<;>rfl|rfl) rfl (by omega) (by omega) ?_ | refine n_ibin rfl (by first|simp only[nf,Nat.beq]<;>rfl|rfl) (by first|simp only[nf,Nat.beq]<;>rfl|rfl) rfl ?_
          refine n_assign rfl (by first|simp only[nf,Nat.beq]<;>rfl|rfl) ?_
          refine AOps.nil ?_
          refine ⟨(i + 1, u * 128 + (b.getD i 0 % 128).toNat), ⟨by dsimp only; omega, by dsimp only; omega, by dsimp only; exact he⟩, ?_, rfl, by dsimp only; omega⟩
          (repeat (first | exact FLe.empty _ | refine FLe.put ?_ ?_)) <;> first | (simp only [nf, Nat.beq]; done) | rfl | (try simp only [nf, Nat.beq]; first | rfl | (congr 2; omega))
    · try simp only [nh] at hc1
      have hr : firstP b = (0, 0, 10) := by rw [← he, List.drop_eq_nil_of_le (by omega)]; rfl
      refine AWP.exit ?_
      refine AWP.seq ?_
      refine AWP.region ?_
      refine n_assign rfl (by first|simp only[nf,Nat.beq]<;>rfl|rfl) ?_
      refine n_assign rfl (by first|simp only[nf,Nat.beq]<;>rfl|rfl) ?_
      refine n_assign rfl (by first|simp only[nf,Nat.beq]<;>rfl|rfl) ?_
      refine AOps.nil ?_
      refine AWP.ret ?_
      refine fin_pure (.cons (rv_tmp (by first|simp only[nf,Nat.beq]<;>rfl|rfl)) (.cons (rv_tmp (by first|simp only[nf,Nat.beq]<;>rfl|rfl)) (.cons (rv_tmp (by first|simp only[nf,Nat.beq]<;>rfl|rfl)) .nil))) (by first|simp only[nf,Nat.beq]<;>rfl|rfl) ?_
      refine ren_flat rfl ?_; rw [hr]; first | rfl | (simp only [D.tup.injEq, List.cons.injEq, D.val.injEq, Value.int.injEq, true_and, and_true]; omega)

theorem b_equal (a b : List Int) (ha : Byt a) (hb : Byt b) : Does Try.prog 40 [bys a, bys b] [] (vb (decide (a = b))) [] := by
  refine Does.of_body (rvs := [.tmp 4]) Try.func40 rfl rfl rfl rfl ?_
  refine AWP.seq ?_
  refine AWP.region ?_
  refine n_assign rfl (by first|simp only[nf,Nat.beq]<;>rfl|rfl) ?_
  refine AOps.nil ?_
  refine AWP.seq ?_
  refine AWP.region ?_
  refine n_move rfl (by first|simp only[nf,Nat.beq]<;>rfl|rfl) ?_
  refine n_toStr rfl Try.underlying22 Try.underlying5 Try.underlying9 (by first|simp only[nf,Nat.beq]<;>rfl|rfl) ?_
  refine n_move rfl (by first|simp only[nf,Nat.beq]<;>rfl|rfl) ?_
  refine n_toStr rfl Try.underlying22 Try.underlying5 Try.underlying9 (by first|simp only[nf,Nat.beq]<;>rfl|rfl) ?_
  refine n_streq rfl (by first|simp only[nf,Nat.beq]<;>rfl|rfl) (by first|simp only[nf,Nat.beq]<;>rfl|rfl) (by first | exact ha | exact hb) (by first | exact ha | exact hb) rfl ?_
  refine n_assign rfl (by first|simp only[nf,Nat.beq]<;>rfl|rfl) ?_
  refine AOps.nil ?_
  refine AWP.ret ?_
  refine fin_pure (.cons (rv_tmp (by first|simp only[nf,Nat.beq]<;>rfl|rfl)) .nil) (by first|simp only[nf,Nat.beq]<;>rfl|rfl) ?_
  exact ren_flat rfl rfl

theorem b_clone (b : List Int) (hl : L40 b) : Does Try.prog 95 [bys b] [] (bys b) [] := by
  refine Does.of_body (rvs := [.tmp 2]) Try.func95 rfl rfl rfl rfl ?_
  refine AWP.seq ?_
  refine AWP.region ?_
  refine n_assign rfl (by first|simp only[nf,Nat.beq]<;>rfl|rfl) ?_
  refine AOps.nil ?_
  refine AWP.seq ?_
  refine AWP.seq ?_
  refine AWP.region ?_
  refine n_move rfl (by first|simp only[nf,Nat.beq]<;>rfl|rfl) ?_
  refine n_eqnil rfl Try.underlying22 (by first|simp only[nf,Nat.beq]<;>rfl|rfl) (fun b1 hb1 he1 => ?_)
  refine AOps.nil ?_
  refine AWP.cond (by first|simp only[nf,Nat.beq]<;>rfl|rfl) (fun hc2 => ?_) (fun hc2 => ?_)
  · try simp only [nh] at hc2
    have hz : ints .u8 b = [] := by first | exact he1 hc2 | (apply he1; simpa using hc2)
    refine AWP.seq ?_
    refine AWP.region ?_
    refine n_assign rfl (by first|simp only[nf,Nat.beq]<;>rfl|rfl) ?_
    refine AOps.nil ?_
    refine AWP.ret ?_
    refine fin_pure (.cons (rv_tmp (by first|simp only[nf,Nat.beq]<;>rfl|rfl)) .nil) (by first|simp only[nf,Nat.beq]<;>rfl|rfl) ?_
    first | exact ren_ints | (show Ren No No _ (.sl none (ints .u8 b) .ro); rw [hz]; exact .ro (fun x h => by cases h))
  · try simp only [nh] at hc2
    refine AWP.skip ?_
    refine AWP.seq ?_
    refine AWP.region ?_
    refine n_lit rfl Try.underlying22 ti5 zi5 rfl rfl (Eq.trans (by simp only [nl] <;> rfl) (by first|simp only[nf,Nat.beq]<;>rfl|rfl)) rfl (by first|simp only[nf,Nat.beq]<;>rfl|rfl) ?_
    refine n_move rfl (by first|simp only[nf,Nat.beq]<;>rfl|rfl) ?_
    first | refine n_append_own rfl Try.underlying22 Try.underlying22 ei5 (by first|simp only[nf,Nat.beq]<;>rfl|rfl) rfl (by first | rfl | rw [ints_length]) (by first|simp only[nf,Nat.beq]<;>rfl|rfl) (by first | exact ints_one _ _ | simp) (by first | exact ints_one _ _ | simp) (by first | exact ints_snoc _ _ _ | exact ints_append _ _ _ | rfl) (by simp only [ints_length, List.length_cons, List.length_nil] <;> rfl) (by omega) (by first|simp only[nf,Nat.beq]<;>rfl|rfl) ?_ | refine n_append_full rfl Try.underlying22 Try.underlying22 ei5 (by first|simp only[nf,Nat.beq]<;>rfl|rfl) (by first|simp only[nf,Nat.beq]<;>rfl|rfl) (by first | exact ints_one _ _ | simp) (by first | exact ints_one _ _ | simp) (by first | exact ints_snoc _ _ _ | exact ints_append _ _ _ | rfl) (by simp only [ints_length, List.length_cons, List.length_nil] <;> rfl) (by omega) rfl (by first|simp only[nf,Nat.beq]<;>rfl|rfl) ?_
    refine n_assign rfl (by first|simp only[nf,Nat.beq]<;>rfl|rfl) ?_
    refine AOps.nil ?_
    refine AWP.ret ?_
    refine fin_pure (.cons (rv_tmp (by first|simp only[nf,Nat.beq]<;>rfl|rfl)) .nil) (by first|simp only[nf,Nat.beq]<;>rfl|rfl) ?_
    first | exact ren_ints | (show Ren No No _ (.sl none (ints .u8 b) .ro); rw [hz]; exact .ro (fun x h => by cases h))

theorem s_clone (b : List Int) (hl : L40 b) : Does Try.prog 36 [bys b] [] (bys b) [] := by
  refine Does.of_body (rvs := [.tmp 2]) Try.func36 rfl rfl rfl rfl ?_
  refine AWP.seq ?_
  refine AWP.region ?_
  refine n_assign rfl (by first|simp only[nf,Nat.beq]<;>rfl|rfl) ?_
  refine AOps.nil ?_
  refine AWP.seq ?_
  refine AWP.seq ?_
  refine AWP.region ?_
  refine n_move rfl (by first|simp only[nf,Nat.beq]<;>rfl|rfl) ?_
  refine n_eqnil rfl Try.underlying22 (by first|simp only[nf,Nat.beq]<;>rfl|rfl) (fun b1 hb1 he1 => ?_)
  refine AOps.nil ?_
  refine AWP.cond (by first|simp only[nf,Nat.beq]<;>rfl|rfl) (fun hc2 => ?_) (fun hc2 => ?_)
  · try simp only [nh] at hc2
    have hz : ints .u8 b = [] := by first | exact he1 hc2 | (apply he1; simpa using hc2)
    refine AWP.seq ?_
    refine AWP.region ?_
    refine n_assign rfl (by first|simp only[nf,Nat.beq]<;>rfl|rfl) ?_
    refine AOps.nil ?_
    refine AWP.ret ?_
    refine fin_pure (.cons (rv_tmp (by first|simp only[nf,Nat.beq]<;>rfl|rfl)) .nil) (by first|simp only[nf,Nat.beq]<;>rfl|rfl) ?_
    first | exact ren_ints | (show Ren No No _ (.sl none (ints .u8 b) .ro); rw [hz]; exact .ro (fun x h => by cases h))
  · try simp only [nh] at hc2
    refine AWP.skip ?_
    refine AWP.seq ?_
    refine AWP.region ?_
    refine n_lit rfl Try.underlying22 ti5 zi5 rfl rfl (Eq.trans (by simp only [nl] <;> rfl) (by first|simp only[nf,Nat.beq]<;>rfl|rfl)) rfl (by first|simp only[nf,Nat.beq]<;>rfl|rfl) ?_
    refine n_move rfl (by first|simp only[nf,Nat.beq]<;>rfl|rfl) ?_
    first | refine n_append_own rfl Try.underlying22 Try.underlying22 ei5 (by first|simp only[nf,Nat.beq]<;>rfl|rfl) rfl (by first | rfl | rw [ints_length]) (by first|simp only[nf,Nat.beq]<;>rfl|rfl) (by first | exact ints_one _ _ | simp) (by first | exact ints_one _ _ | simp) (by first | exact ints_snoc _ _ _ | exact ints_append _ _ _ | rfl) (by simp only [ints_length, List.length_cons, List.length_nil] <;> rfl) (by omega) (by first|simp only[nf,Nat.beq]<;>rfl|rfl) ?_ | refine n_append_full rfl Try.underlying22 Try.underlying22 ei5 (by first|simp only[nf,Nat.beq]<;>rfl|rfl) (by first|simp only[nf,Nat.beq]<;>rfl|rfl) (by first | exact ints_one _ _ | simp) (by first | exact ints_one _ _ | simp) (by first | exact ints_snoc _ _ _ | exact ints_append _ _ _ | rfl) (by simp only [ints_length, List.length_cons, List.length_nil] <;> rfl) (by omega) rfl (by first|simp only[nf,Nat.beq]<;>rfl|rfl) ?_
    refine n_assign rfl (by first|simp only[nf,Nat.beq]<;>rfl|rfl) ?_
    refine AOps.nil ?_
    refine AWP.ret ?_
    refine fin_pure (.cons (rv_tmp (by first|simp only[nf,Nat.beq]<;>rfl|rfl)) .nil) (by first|simp only[nf,Nat.beq]<;>rfl|rfl) ?_
    first | exact ren_ints | (show Ren No No _ (.sl none (ints .u8 b) .ro); rw [hz]; exact .ro (fun x h => by cases h))

theorem r_natural (n : Int) (hn : I64 n) : Does Try.prog 265 [vi n] [] (.val (.int .u64 (natN n : Int))) [] := by
  refine Does.of_body (rvs := [.tmp 2]) Try.func265 rfl rfl rfl rfl ?_
  obtain ⟨h0, h1⟩ := hn
  refine AWP.seq ?_
  refine AWP.region ?_
  refine n_assign rfl (by first|simp only[nf,Nat.beq]<;>rfl|rfl) ?_
  refine AOps.nil ?_
  refine AWP.seq ?_
  refine AWP.seq ?_
  refine AWP.region ?_
  refine n_move rfl (by first|simp only[nf,Nat.beq]<;>rfl|rfl) ?_
  refine n_ibin rfl (by first|simp only[nf,Nat.beq]<;>rfl|rfl) (by first|simp only[nf,Nat.beq]<;>rfl|rfl) rfl ?_
  refine AOps.nil ?_
  refine AWP.cond (by first|simp only[nf,Nat.beq]<;>rfl|rfl) (fun hc1 => ?_) (fun hc1 => ?_)
  · try simp only [nh] at hc1
    refine AWP.seq ?_
    refine AWP.region ?_
    refine n_move rfl (by first|simp only[nf,Nat.beq]<;>rfl|rfl) ?_
    first | refine n_conv rfl (by first|simp only[nf,Nat.beq]<;>rfl|rfl) (by rw [Try.underlying2]; rfl) Try.underlying249 (wrap_id (by first | omega | (simp only [loK]; omega)) (by first | omega | (simp only [hiK]; omega))) ?_ | refine n_conv rfl (by first|simp only[nf,Nat.beq]<;>rfl|rfl) (by rw [Try.underlying2]; rfl) Try.underlying249 rfl ?_
    refine n_ibin rfl (by first|simp only[nf,Nat.beq]<;>rfl|rfl) (by first|simp only[nf,Nat.beq]<;>rfl|rfl) (v := .int .u64 (natN n : Int)) (by simp only [ibin]; rw [wrap_u64]; unfold natN; congr 2; split <;> omega) ?_
    refine n_assign rfl (by first|simp only[nf,Nat.beq]<;>rfl|rfl) ?_
    refine AOps.nil ?_
    refine AWP.ret ?_
    refine fin_pure (.cons (rv_tmp (by first|simp only[nf,Nat.beq]<;>rfl|rfl)) .nil) (by first|simp only[nf,Nat.beq]<;>rfl|rfl) ?_
    exact ren_flat rfl rfl
  · try simp only [nh] at hc1
    refine AWP.skip ?_
    refine AWP.seq ?_
    refine AWP.region ?_
    refine n_move rfl (by first|simp only[nf,Nat.beq]<;>rfl|rfl) ?_
    first | refine n_iadd rfl (by first|simp only[nf,Nat.beq]<;>rfl|rfl) (by first|simp only[nf,Nat.beq]<;>rfl|rfl) rfl (by omega) (by omega) ?_ | refine n_ibin rfl (by first|simp only[nf,Nat.beq]<;>rfl|rfl) (by first|simp only[nf,Nat.beq]<;>rfl|rfl) rfl ?_
    refine n_neg rfl (by first|simp only[nf,Nat.beq]<;>rfl|rfl) (c := -n - 1) (by rw [wrap_id (by simp only [loK]; omega) (by simp only [hiK]; omega)]; omega) ?_
    first | refine n_conv rfl (by first|simp only[nf,Nat.beq]<;>rfl|rfl) (by rw [Try.underlying2]; rfl) Try.underlying249 (wrap_id (by first | omega | (simp only [loK]; omega)) (by first | omega | (simp only [hiK]; omega))) ?_ | refine n_conv rfl (by first|simp only[nf,Nat.beq]<;>rfl|rfl) (by rw [Try.underlying2]; rfl) Try.underlying249 rfl ?_
    refine n_ibin rfl (by first|simp only[nf,Nat.beq]<;>rfl|rfl) (by first|simp only[nf,Nat.beq]<;>rfl|rfl) (v := .int .u64 ((2 * (-n - 1).toNat : Nat) : Int)) (by simp only [ibin]; rw [wrap_u64]; congr 2; omega) ?_
    refine n_ibin rfl (by first|simp only[nf,Nat.beq]<;>rfl|rfl) (by first|simp only[nf,Nat.beq]<;>rfl|rfl) (v := .int .u64 (natN n : Int)) (by simp only [ibin]; rw [wrap_u64]; unfold natN; congr 2; split <;> omega) ?_
    refine n_assign rfl (by first|simp only[nf,Nat.beq]<;>rfl|rfl) ?_
    refine AOps.nil ?_
    refine AWP.ret ?_
    refine fin_pure (.cons (rv_tmp (by first|simp only[nf,Nat.beq]<;>rfl|rfl)) .nil) (by first|simp only[nf,Nat.beq]<;>rfl|rfl) ?_
    exact ren_flat rfl rfl

theorem hiD_step {u : Nat} (h : u ≠ 0) (out : List Int) : hiD (u / 128) ++ (((u % 128 + 128 : Nat) : Int) :: out) = hiD u ++ out := by
  rw [hiD_pos h]; simp
theorem form_bd {n : Int} (h : I64 n) : (form n).length ≤ 10 := by unfold form; rw [formN_length]; exact sizeN_le10 (natN_lt h.1 h.2)
theorem r_form (n : Int) (hn : I64 n) : Does Try.prog 193 [vi n] [] (bys (form n)) [] := by
  refine Does.of_body (rvs := [.tmp 2]) Try.func193 rfl rfl rfl rfl ?_
  have hN := natN_lt hn.1 hn.2
  have hfl := form_bd hn
  refine AWP.seq ?_
  refine AWP.region ?_
  refine n_assign rfl (by first|simp only[nf,Nat.beq]<;>rfl|rfl) ?_
  refine AOps.nil ?_
  refine AWP.seq ?_
  refine AWP.region ?_
  refine n_move rfl (by first|simp only[nf,Nat.beq]<;>rfl|rfl) ?_
  refine n_call0B rfl cf265 rfl (Eq.trans (by simp only [nl] <;> rfl) (by first|simp only[nf,Nat.beq]<;>rfl|rfl)) (by repeat (first | exact .nil | refine .cons ?_ ?_ | exact ren_ints | exact .lf (.val _) | exact .lf (lf_ints (.inl rfl)) | exact .bp ⟨rfl, rfl⟩ | exact .bp (.inl ⟨rfl, rfl⟩) | exact .bp (.inr ⟨rfl, rfl⟩) | exact .lf (D.flat_lf rfl) | exact ren_lits rfl)) (r_natural _ hn) (by first | exact .val _ | exact lf_ints (.inl rfl) | exact lf_ints (.inr rfl) | exact .any | exact D.flat_lf rfl) ?_
  refine n_assign rfl (by first|simp only[nf,Nat.beq]<;>rfl|rfl) ?_
  refine AOps.nil ?_
  refine AWP.seq ?_
  refine AWP.region ?_
  refine n_move rfl (by first|simp only[nf,Nat.beq]<;>rfl|rfl) ?_
  refine n_rem rfl (by first|simp only[nf,Nat.beq]<;>rfl|rfl) (by first|simp only[nf,Nat.beq]<;>rfl|rfl) (by decide) (c := ((natN n % 128 : Nat) : Int)) (by rw [Int.tmod_eq_emod_of_nonneg (by omega)]; omega) ?_
  first | refine n_conv rfl (by first|simp only[nf,Nat.beq]<;>rfl|rfl) (by rw [Try.underlying249]; rfl) Try.underlying5 (wrap_id (by first | omega | (simp only [loK]; omega)) (by first | omega | (simp only [hiK]; omega))) ?_ | refine n_conv rfl (by first|simp only[nf,Nat.beq]<;>rfl|rfl) (by rw [Try.underlying249]; rfl) Try.underlying5 rfl ?_
  refine n_lit rfl Try.underlying22 ti5 zi5 rfl rfl (Eq.trans (by simp only [nl] <;> rfl) (by first|simp only[nf,Nat.beq]<;>rfl|rfl)) rfl (by first|simp only[nf,Nat.beq]<;>rfl|rfl) ?_
  refine n_assignRo rfl (by first|simp only[nf,Nat.beq]<;>rfl|rfl) ?_
  refine AOps.nil ?_
  refine AWP.seq ?_
  refine AWP.seq ?_
  refine AWP.region ?_
  refine n_move rfl (by first|simp only[nf,Nat.beq]<;>rfl|rfl) ?_
  refine n_quo rfl (by first|simp only[nf,Nat.beq]<;>rfl|rfl) (by first|simp only[nf,Nat.beq]<;>rfl|rfl) (by decide) (c := ((natN n / 128 : Nat) : Int)) (by rw [Int.tdiv_eq_ediv_of_nonneg (by omega), wrap_u64]; omega) ?_
  refine n_assign rfl (by first|simp only[nf,Nat.beq]<;>rfl|rfl) ?_
  refine AOps.nil ?_
  refine AWP.block ?_
  refine AWP.loopX 0 (α := Nat × List Int) (fun p => p.1 < 18446744073709551616 ∧ hiD p.1 ++ p.2 = form n) (fun p => put (put empty 3 (.val (.int .u64 (p.1 : Int)))) 4 (bys p.2)) (fun _ => []) (fun p => p.1) (natN n / 128, [((natN n % 128 : Nat) : Int)]) ?_ ?_ ?_ ?_ ?_ ?_ ?_
  · exact ⟨by dsimp only; omega, rfl⟩
  · (repeat (first | exact FLe.empty _ | refine FLe.put ?_ ?_)) <;> first | (simp only [nf, Nat.beq]; done) | rfl | (try simp only [nf, Nat.beq]; rfl)
  · rfl
  · exact fun _ => rfl
  · intro p hp; (try dsimp only); (repeat' (refine un_put ?_ ?_)) <;> first | exact un_empty | exact .bp (by decide) | exact .lf (D.flat_lf rfl) | exact .lf (lf_ints (.inl rfl))
  · intro p hp; (try dsimp only); repeat' (first | exact un_nil | refine un_cons ?_ ?_ | exact un_box rfl)
  · rintro ⟨u, out⟩ ⟨hu, he⟩
    dsimp only at hu he ⊢
    have hol : out.length ≤ 10 := by rw [← he, List.length_append] at hfl; omega
    refine AWP.seq ?_
    refine AWP.seq ?_
    refine AWP.region ?_
    refine n_move rfl (by first|simp only[nf,Nat.beq]<;>rfl|rfl) ?_
    refine n_ibin rfl (by first|simp only[nf,Nat.beq]<;>rfl|rfl) (by first|simp only[nf,Nat.beq]<;>rfl|rfl) rfl ?_
    refine AOps.nil ?_
    refine AWP.cond (by first|simp only[nf,Nat.beq]<;>rfl|rfl) (fun hc1 => ?_) (fun hc1 => ?_)
    · try simp only [nh] at hc1
      have hne : u ≠ 0 := by omega
      refine AWP.skip ?_
      refine AWP.seq ?_
      refine AWP.block ?_
      refine AWP.region ?_
      refine n_move rfl (by first|simp only[nf,Nat.beq]<;>rfl|rfl) ?_
      refine n_rem rfl (by first|simp only[nf,Nat.beq]<;>rfl|rfl) (by first|simp only[nf,Nat.beq]<;>rfl|rfl) (by decide) (c := ((u % 128 : Nat) : Int)) (by rw [Int.tmod_eq_emod_of_nonneg (by omega)]; omega) ?_
      first | refine n_conv rfl (by first|simp only[nf,Nat.beq]<;>rfl|rfl) (by rw [Try.underlying249]; rfl) Try.underlying5 (wrap_id (by first | omega | (simp only [loK]; omega)) (by first | omega | (simp only [hiK]; omega))) ?_ | refine n_conv rfl (by first|simp only[nf,Nat.beq]<;>rfl|rfl) (by rw [Try.underlying249]; rfl) Try.underlying5 rfl ?_
      refine n_ibin rfl (by first|simp only[nf,Nat.beq]<;>rfl|rfl) (by first|simp only[nf,Nat.beq]<;>rfl|rfl) (v := .int .u8 ((u % 128 + 128 : Nat) : Int)) (by simp only [ibin]; rw [wrap_u8]; congr 2; omega) ?_
      refine n_lit rfl Try.underlying22 ti5 zi5 rfl rfl (Eq.trans (by simp only [nl] <;> rfl) (by first|simp only[nf,Nat.beq]<;>rfl|rfl)) rfl (by first|simp only[nf,Nat.beq]<;>rfl|rfl) ?_
      refine n_move rfl (by first|simp only[nf,Nat.beq]<;>rfl|rfl) ?_
      first | refine n_append_own rfl Try.underlying22 Try.underlying22 ei5 (by first|simp only[nf,Nat.beq]<;>rfl|rfl) rfl (by first | rfl | rw [ints_length]) (by first|simp only[nf,Nat.beq]<;>rfl|rfl) (by first | exact ints_one _ _ | simp) (by first | exact ints_one _ _ | simp) (by first | exact ints_snoc _ _ _ | exact ints_append _ _ _ | rfl) (by simp only [ints_length, List.length_cons, List.length_nil] <;> rfl) (by omega) (by first|simp only[nf,Nat.beq]<;>rfl|rfl) ?_ | refine n_append_full rfl Try.underlying22 Try.underlying22 ei5 (by first|simp only[nf,Nat.beq]<;>rfl|rfl) (by first|simp only[nf,Nat.beq]<;>rfl|rfl) (by first | exact ints_one _ _ | simp) (by first | exact ints_one _ _ | simp) (by first | exact ints_snoc _ _ _ | exact ints_append _ _ _ | rfl) (by simp only [ints_length, List.length_cons, List.length_nil] <;> rfl) (by omega) rfl (by first|simp only[nf,Nat.beq]<;>rfl|rfl) ?_
      refine n_assignRo rfl (by first|simp only[nf,Nat.beq]<;>rfl|rfl) ?_
      refine AOps.nil ?_
      refine AWP.region ?_
      refine n_move rfl (by first|simp only[nf,Nat.beq]<;>rfl|rfl) ?_
      refine n_quo rfl (by first|simp only[nf,Nat.beq]<;>rfl|rfl) (by first|simp only[nf,Nat.beq]<;>rfl|rfl) (by decide) (c := ((u / 128 : Nat) : Int)) (by rw [Int.tdiv_eq_ediv_of_nonneg (by omega), wrap_u64]; omega) ?_
      refine n_assign rfl (by first|simp only[nf,Nat.beq]<;>rfl|rfl) ?_
      refine AOps.nil ?_
      refine ⟨(u / 128, ((u % 128 + 128 : Nat) : Int) :: out), _, ⟨by dsimp only; omega, by dsimp only; rw [hiD_step hne]; exact he⟩, ?_, rfl, by dsimp only; omega⟩
      (repeat (first | exact FLe.empty _ | refine FLe.put ?_ ?_)) <;> first | (simp only [nf, Nat.beq]; done) | rfl | (try simp only [nf, Nat.beq]; rfl)
    · try simp only [nh] at hc1
      obtain rfl : u = 0 := by omega
      rw [hiD_zero, List.nil_append] at he
      subst he
      refine AWP.exit ?_
      refine AWP.seq ?_
      refine AWP.region ?_
      refine n_move rfl (by first|simp only[nf,Nat.beq]<;>rfl|rfl) ?_
      refine n_assign rfl (by first|simp only[nf,Nat.beq]<;>rfl|rfl) ?_
      refine AOps.nil ?_
      refine AWP.ret ?_
      refine fin_pure (.cons (rv_tmp (by first|simp only[nf,Nat.beq]<;>rfl|rfl)) .nil) (by first|simp only[nf,Nat.beq]<;>rfl|rfl) ?_
      exact ren_ints

theorem r_int (b l : List Int) (hl : ∀ n ∈ l, I64 n) (hb : b.length + 10 * l.length ≤ 140737488355328) : Does Try.prog 76 [bys b, .sl none (ints .i64 l) .ro] [] (.sl none (ints .u8 (b ++ forms l)) (.own 0)) [.row (b ++ forms l).length 1] := by
  refine Does.of_body (rvs := [.tmp 4]) Try.func76 rfl rfl rfl rfl ?_
  have hb1 : l.length ≤ 140737488355328 := by omega
  refine AWP.seq ?_
  refine AWP.region ?_
  refine n_assign rfl (by first|simp only[nf,Nat.beq]<;>rfl|rfl) ?_
  refine AOps.nil ?_
  refine AWP.seq ?_
  refine AWP.region ?_
  refine n_assign rfl (by first|simp only[nf,Nat.beq]<;>rfl|rfl) ?_
  refine AOps.nil ?_
  refine AWP.seq ?_
  refine AWP.region ?_
  refine n_move rfl (by first|simp only[nf,Nat.beq]<;>rfl|rfl) ?_
  refine n_move rfl (by first|simp only[nf,Nat.beq]<;>rfl|rfl) ?_
  first | refine n_append_own rfl Try.underlying22 Try.underlying22 ei5 (by first|simp only[nf,Nat.beq]<;>rfl|rfl) rfl (by first | rfl | rw [ints_length]) (by first|simp only[nf,Nat.beq]<;>rfl|rfl) (by first | exact ints_one _ _ | simp) (by first | exact ints_one _ _ | simp) (by first | exact ints_snoc _ _ _ | exact ints_append _ _ _ | rfl) (by simp only [ints_length, List.length_cons, List.length_nil] <;> rfl) (by omega) (by first|simp only[nf,Nat.beq]<;>rfl|rfl) ?_ | refine n_append_full rfl Try.underlying22 Try.underlying22 ei5 (by first|simp only[nf,Nat.beq]<;>rfl|rfl) (by first|simp only[nf,Nat.beq]<;>rfl|rfl) (by first | exact ints_one _ _ | simp) (by first | exact ints_one _ _ | simp) (by first | exact ints_snoc _ _ _ | exact ints_append _ _ _ | rfl) (by simp only [ints_length, List.length_cons, List.length_nil] <;> rfl) (by omega) rfl (by first|simp only[nf,Nat.beq]<;>rfl|rfl) ?_
  refine n_assign rfl (by first|simp only[nf,Nat.beq]<;>rfl|rfl) ?_
  refine AOps.nil ?_
  refine AWP.seq ?_
  refine AWP.seq ?_
  refine AWP.region ?_
  refine n_assign rfl (by first|simp only[nf,Nat.beq]<;>rfl|rfl) ?_
  refine AOps.nil ?_
  refine AWP.block ?_
  refine AWP.loop (α := Nat) (fun i => i ≤ l.length) (fun i => put (put (put empty 1 (.sl none (ints .i64 l) .ro)) 5 (.sl none (ints .u8 (b ++ forms (l.take i))) (.own 0))) 6 (vi (i : Int))) (fun i => [.row (b ++ forms (l.take i)).length 1]) (fun i => l.length - i) 0 ?_ ?_ ?_ ?_
  · exact Nat.zero_le _
  · (repeat (first | exact FLe.empty _ | refine FLe.put ?_ ?_)) <;> first | (simp only [nf, Nat.beq]; done) | rfl | (try simp only [nf, Nat.beq]; simp [forms])
  · simp [forms]
  · intro i hi
    try dsimp only at hi ⊢
    refine AWP.seq ?_
    refine AWP.seq ?_
    refine AWP.region ?_
    refine n_move rfl (by first|simp only[nf,Nat.beq]<;>rfl|rfl) ?_
    refine n_move rfl (by first|simp only[nf,Nat.beq]<;>rfl|rfl) ?_
    refine n_len rfl Try.underlying77 (by first|simp only[nf,Nat.beq]<;>rfl|rfl) (by first | rw [ints_length] | rfl) ?_
    refine n_ibin rfl (by first|simp only[nf,Nat.beq]<;>rfl|rfl) (by first|simp only[nf,Nat.beq]<;>rfl|rfl) rfl ?_
    refine AOps.nil ?_
    refine AWP.cond (by first|simp only[nf,Nat.beq]<;>rfl|rfl) (fun hc1 => ?_) (fun hc1 => ?_)
    · try simp only [nh] at hc1
      have hi : i < l.length := by omega
      have hn := at_I64 hl hi
      have hfl : (forms (l.take i)).length + 10 ≤ 10 * l.length := by have := forms_len (l.take i) (fun n hn => hl n (List.mem_of_mem_take hn)); rw [List.length_take] at this; omega
      have hf1 := form_bd hn
      have hfin : b ++ forms (l.take i) ++ form (l.getD i 0) = b ++ forms (l.take (i + 1)) := by rw [forms_take hi, List.append_assoc]
      have hal : (b ++ forms (l.take i)).length = b.length + (forms (l.take i)).length := List.length_append
      refine AWP.skip ?_
      refine AWP.seq ?_
      refine AWP.block ?_
      refine AWP.region ?_
      refine n_move rfl (by first|simp only[nf,Nat.beq]<;>rfl|rfl) ?_
      refine n_move rfl (by first|simp only[nf,Nat.beq]<;>rfl|rfl) ?_
      refine n_move rfl (by first|simp only[nf,Nat.beq]<;>rfl|rfl) ?_
      refine n_indexAddr rfl Try.underlying77 ti2 rfl (by first|simp only[nf,Nat.beq]<;>rfl|rfl) (by first|simp only[nf,Nat.beq]<;>rfl|rfl) (by omega) (by first | exact ints_at _ _ _ (by omega) | exact ints_get _ _ _ (by omega) | exact map_at _ (by assumption) | rfl) rfl ?_
      refine n_load rfl ti2 (by first|simp only[nf,Nat.beq]<;>rfl|rfl) (by first|simp only[nf,Nat.beq]<;>rfl|rfl) rfl (by first|simp only[nf,Nat.beq]<;>rfl|rfl) ?_
      refine n_call0B rfl cf193 rfl (Eq.trans (by simp only [nl] <;> rfl) (by first|simp only[nf,Nat.beq]<;>rfl|rfl)) (by repeat (first | exact .nil | refine .cons ?_ ?_ | exact ren_ints | exact .lf (.val _) | exact .lf (lf_ints (.inl rfl)) | exact .bp ⟨rfl, rfl⟩ | exact .bp (.inl ⟨rfl, rfl⟩) | exact .bp (.inr ⟨rfl, rfl⟩) | exact .lf (D.flat_lf rfl) | exact ren_lits rfl)) (r_form _ hn) (by first | exact .val _ | exact lf_ints (.inl rfl) | exact lf_ints (.inr rfl) | exact .any | exact D.flat_lf rfl) ?_
      first | refine n_append_own rfl Try.underlying22 Try.underlying22 ei5 (by first|simp only[nf,Nat.beq]<;>rfl|rfl) rfl (by first | rfl | rw [ints_length]) (by first|simp only[nf,Nat.beq]<;>rfl|rfl) (by first | exact ints_one _ _ | simp) (by first | exact ints_one _ _ | simp) (by first | exact ints_snoc _ _ _ | exact ints_append _ _ _ | rfl) (by simp only [ints_length, List.length_cons, List.length_nil] <;> rfl) (by omega) (by first|simp only[nf,Nat.beq]<;>rfl|rfl) ?_ | refine n_append_full rfl Try.underlying22 Try.underlying22 ei5 (by first|simp only[nf,Nat.beq]<;>rfl|rfl) (by first|simp only[nf,Nat.beq]<;>rfl|rfl) (by first | exact ints_one _ _ | simp) (by first | exact ints_one _ _ | simp) (by first | exact ints_snoc _ _ _ | exact ints_append _ _ _ | rfl) (by simp only [ints_length, List.length_cons, List.length_nil] <;> rfl) (by omega) rfl (by first|simp only[nf,Nat.beq]<;>rfl|rfl) ?_
      refine n_assign rfl (by first|simp only[nf,Nat.beq]<;>rfl|rfl) ?_
      refine AOps.nil ?_
      refine AWP.region ?_
      refine n_move rfl (by first|simp only[nf,Nat.beq]<;>rfl|rfl) ?_
      first | refine n_iadd rfl (by first|simp only[nf,Nat.beq]<;>rfl|rfl) (by first|simp only[nf,Nat.beq]<;>rfl|rfl) rfl (by omega) (by omega) ?_ | refine n_ibin rfl (by first|simp only[nf,Nat.beq]<;>rfl|rfl) (by first|simp only[nf,Nat.beq]<;>rfl|rfl) rfl ?_
      refine n_assign rfl (by first|simp only[nf,Nat.beq]<;>rfl|rfl) ?_
      refine AOps.nil ?_
      refine ⟨i + 1, by omega, ?_, ?_, by omega⟩
      · (repeat (first | exact FLe.empty _ | refine FLe.put ?_ ?_)) <;> first | (simp only [nf, Nat.beq]; done) | rfl | (try simp only [nf, Nat.beq]; first | rw [hfin] | (congr 2; omega))
      · rw [← hfin]; simp only [List.length_append]
    · try simp only [nh] at hc1
      obtain rfl : i = l.length := by omega
      refine AWP.exit ?_
      refine AWP.seq ?_
      refine AWP.region ?_
      refine n_move rfl (by first|simp only[nf,Nat.beq]<;>rfl|rfl) ?_
      refine n_assign rfl (by first|simp only[nf,Nat.beq]<;>rfl|rfl) ?_
      refine AOps.nil ?_
      refine AWP.ret ?_
      refine fin_own (.cons (rv_tmp (by first|simp only[nf,Nat.beq]<;>rfl|rfl)) .nil) (by first|simp only[nf,Nat.beq]<;>rfl|rfl) rfl ?_ ?_ ?_
      · exact ints_lf _ _
      · rw [List.take_length]
      · rw [List.take_length]

theorem r_one (b : List Int) (n : Int) (hn : I64 n) (hb : b.length ≤ 70368744177664) : Does Try.prog 74 [bys b, vi n] [] (.sl none (ints .u8 (b ++ forms [n])) (.own 0)) [.row (b ++ forms [n]).length 1] := by
  refine Does.of_body (rvs := [.tmp 4]) Try.func74 rfl rfl rfl rfl ?_
  refine AWP.seq ?_
  refine AWP.region ?_
  refine n_assign rfl (by first|simp only[nf,Nat.beq]<;>rfl|rfl) ?_
  refine AOps.nil ?_
  refine AWP.seq ?_
  refine AWP.region ?_
  refine n_move rfl (by first|simp only[nf,Nat.beq]<;>rfl|rfl) ?_
  refine n_move rfl (by first|simp only[nf,Nat.beq]<;>rfl|rfl) ?_
  refine n_lit rfl Try.underlying77 ti2 zi2 rfl rfl (Eq.trans (by simp only [nl] <;> rfl) (by first|simp only[nf,Nat.beq]<;>rfl|rfl)) rfl (by first|simp only[nf,Nat.beq]<;>rfl|rfl) ?_
  refine n_callOwnB rfl cf76 rfl (Eq.trans (by simp only [nl] <;> rfl) (by first|simp only[nf,Nat.beq]<;>rfl|rfl)) (by repeat (first | exact .nil | refine .cons ?_ ?_ | exact ren_ints | exact .lf (.val _) | exact .lf (lf_ints (.inl rfl)) | exact .bp ⟨rfl, rfl⟩ | exact .bp (.inl ⟨rfl, rfl⟩) | exact .bp (.inr ⟨rfl, rfl⟩) | exact .lf (D.flat_lf rfl) | exact ren_lits rfl)) (r_int b [n] (fun m hm => by simp at hm; subst hm; exact hn) (by simp only [List.length_cons, List.length_nil]; omega)) (by first | exact ints_lf _ _) rfl (by first|simp only[nf,Nat.beq]<;>rfl|rfl) ?_
  refine n_assign rfl (by first|simp only[nf,Nat.beq]<;>rfl|rfl) ?_
  refine AOps.nil ?_
  refine AWP.ret ?_
  refine fin_own (.cons (rv_tmp (by first|simp only[nf,Nat.beq]<;>rfl|rfl)) .nil) (by first|simp only[nf,Nat.beq]<;>rfl|rfl) rfl ?_ ?_ ?_
  · exact ints_lf _ _
  · rfl
  · rfl

theorem r_str (b x : List Int) (hb : b.length ≤ 70368744177664) (hx : L40 x) : Does Try.prog 78 [bys b, bys x] [] (.sl none (ints .u8 (b ++ forms [(x.length : Int)] ++ x)) (.own 0)) [.row (b ++ forms [(x.length : Int)] ++ x).length 1] := by
  refine Does.of_body (rvs := [.tmp 4]) Try.func78 rfl rfl rfl rfl ?_
  have h10 := forms_len _ (i64_len hx)
  have hxx := hx
  simp only [List.length_cons, List.length_nil] at h10
  have hal : (b ++ forms [(x.length : Int)]).length = b.length + (forms [(x.length : Int)]).length := List.length_append
  refine AWP.seq ?_
  refine AWP.region ?_
  refine n_assign rfl (by first|simp only[nf,Nat.beq]<;>rfl|rfl) ?_
  refine AOps.nil ?_
  refine AWP.seq ?_
  refine AWP.region ?_
  refine n_move rfl (by first|simp only[nf,Nat.beq]<;>rfl|rfl) ?_
  refine n_move rfl (by first|simp only[nf,Nat.beq]<;>rfl|rfl) ?_
  refine n_len rfl Try.underlying22 (by first|simp only[nf,Nat.beq]<;>rfl|rfl) (by first | rw [ints_length] | rfl) ?_
  refine n_callOwnB rfl cf74 rfl (Eq.trans (by simp only [nl] <;> rfl) (by first|simp only[nf,Nat.beq]<;>rfl|rfl)) (by repeat (first | exact .nil | refine .cons ?_ ?_ | exact ren_ints | exact .lf (.val _) | exact .lf (lf_ints (.inl rfl)) | exact .bp ⟨rfl, rfl⟩ | exact .bp (.inl ⟨rfl, rfl⟩) | exact .bp (.inr ⟨rfl, rfl⟩) | exact .lf (D.flat_lf rfl) | exact ren_lits rfl)) (r_one b (x.length : Int) (i64_len hx _ (by simp)) hb) (by first | exact ints_lf _ _) rfl (by first|simp only[nf,Nat.beq]<;>rfl|rfl) ?_
  refine n_move rfl (by first|simp only[nf,Nat.beq]<;>rfl|rfl) ?_
  first | refine n_append_own rfl Try.underlying22 Try.underlying22 ei5 (by first|simp only[nf,Nat.beq]<;>rfl|rfl) rfl (by first | rfl | rw [ints_length]) (by first|simp only[nf,Nat.beq]<;>rfl|rfl) (by first | exact ints_one _ _ | simp) (by first | exact ints_one _ _ | simp) (by first | exact ints_snoc _ _ _ | exact ints_append _ _ _ | rfl) (by simp only [ints_length, List.length_cons, List.length_nil] <;> rfl) (by omega) (by first|simp only[nf,Nat.beq]<;>rfl|rfl) ?_ | refine n_append_full rfl Try.underlying22 Try.underlying22 ei5 (by first|simp only[nf,Nat.beq]<;>rfl|rfl) (by first|simp only[nf,Nat.beq]<;>rfl|rfl) (by first | exact ints_one _ _ | simp) (by first | exact ints_one _ _ | simp) (by first | exact ints_snoc _ _ _ | exact ints_append _ _ _ | rfl) (by simp only [ints_length, List.length_cons, List.length_nil] <;> rfl) (by omega) rfl (by first|simp only[nf,Nat.beq]<;>rfl|rfl) ?_
  refine n_assign rfl (by first|simp only[nf,Nat.beq]<;>rfl|rfl) ?_
  refine AOps.nil ?_
  refine AWP.ret ?_
  refine fin_own (.cons (rv_tmp (by first|simp only[nf,Nat.beq]<;>rfl|rfl)) .nil) (by first|simp only[nf,Nat.beq]<;>rfl|rfl) rfl ?_ ?_ ?_
  · exact ints_lf _ _
  · rfl
  · simp only [List.length_append]

theorem u_err (b : List Int) (e : Int)  : Does Try.prog 86 [.bp 0 0] [.box (Up.z ⟨b, e⟩)] (vi e) [.box (Up.z ⟨b, e⟩)] := by
  refine Does.of_body (rvs := [.tmp 2]) Try.func86 rfl rfl rfl rfl ?_
  refine AWP.seq ?_
  refine AWP.region ?_
  refine n_assign rfl (by first|simp only[nf,Nat.beq]<;>rfl|rfl) ?_
  refine AOps.nil ?_
  refine AWP.seq ?_
  refine AWP.seq ?_
  refine AWP.region ?_
  refine n_move rfl (by first|simp only[nf,Nat.beq]<;>rfl|rfl) ?_
  refine n_ptreq rfl Try.underlying94 (by first|simp only[nf,Nat.beq]<;>rfl|rfl) rfl ?_
  refine n_move rfl (by first|simp only[nf,Nat.beq]<;>rfl|rfl) ?_
  refine AOps.name (u := 5) (fun z => .val (.bool z)) (by first|simp only[nf,Nat.beq]<;>rfl|rfl) (fun b5 hb5 => ?_)
  refine n_soft (u := 5) (E := .val (.bool b5)) (!b5) rfl rfl rfl (by first|simp only[nf,Nat.beq]<;>rfl|rfl) (by cases b5 <;> first | (intro _; rfl) | (intro h; exact absurd h (by decide))) (by cases b5 <;> first | (intro h; exact absurd h (by decide)) | (intro _; exact ⟨_, rfl, by first | (intro h; cases h; done) | decide | simp⟩)) (fun h => by
      cases b5 with
      | true => exact absurd h (by first | decide | simp)
      | false =>
        refine n_move rfl (by first|simp only[nf,Nat.beq]<;>rfl|rfl) ?_
        exact AOps.nil ⟨rfl, rfl, rfl⟩) ?_
  refine n_soft (u := 5) (E := .val (.bool b5)) (!b5) rfl rfl rfl (by first|simp only[nf,Nat.beq]<;>rfl|rfl) (by cases b5 <;> first | (intro _; rfl) | (intro h; exact absurd h (by decide))) (by cases b5 <;> first | (intro h; exact absurd h (by decide)) | (intro _; exact ⟨_, rfl, by first | (intro h; cases h; done) | decide | simp⟩)) (fun h => by
      cases b5 with
      | true => exact absurd h (by first | decide | simp)
      | false =>
        refine n_nilCheck rfl (by first|simp only[nf,Nat.beq]<;>rfl|rfl) rfl ?_
        exact AOps.nil ⟨rfl, rfl, rfl⟩) ?_
  refine n_soft (u := 5) (E := .val (.bool b5)) (!b5) rfl rfl rfl (by first|simp only[nf,Nat.beq]<;>rfl|rfl) (by cases b5 <;> first | (intro _; rfl) | (intro h; exact absurd h (by decide))) (by cases b5 <;> first | (intro h; exact absurd h (by decide)) | (intro _; exact ⟨_, rfl, by first | (intro h; cases h; done) | decide | simp⟩)) (fun h => by
      cases b5 with
      | true => exact absurd h (by first | decide | simp)
      | false =>
        refine n_fieldAddr rfl fd111_2 ti4 rfl (by first|simp only[nf,Nat.beq]<;>rfl|rfl) rfl (by first|simp only[nf,Nat.beq]<;>rfl|rfl) ?_
        exact AOps.nil ⟨rfl, rfl, rfl⟩) ?_
  refine n_soft (u := 5) (E := .val (.bool b5)) (!b5) rfl rfl rfl (by first|simp only[nf,Nat.beq]<;>rfl|rfl) (by cases b5 <;> first | (intro _; rfl) | (intro h; exact absurd h (by decide))) (by cases b5 <;> first | (intro h; exact absurd h (by decide)) | (intro _; exact ⟨_, rfl, by first | (intro h; cases h; done) | decide | simp⟩)) (fun h => by
      cases b5 with
      | true => exact absurd h (by first | decide | simp)
      | false =>
        refine n_load rfl ti4 (by first|simp only[nf,Nat.beq]<;>rfl|rfl) (by first|simp only[nf,Nat.beq]<;>rfl|rfl) rfl (by first|simp only[nf,Nat.beq]<;>rfl|rfl) ?_
        exact AOps.nil ⟨rfl, rfl, rfl⟩) ?_
  refine n_soft (u := 5) (E := .val (.bool b5)) (!b5) rfl rfl rfl (by first|simp only[nf,Nat.beq]<;>rfl|rfl) (by cases b5 <;> first | (intro _; rfl) | (intro h; exact absurd h (by decide))) (by cases b5 <;> first | (intro h; exact absurd h (by decide)) | (intro _; exact ⟨_, rfl, by first | (intro h; cases h; done) | decide | simp⟩)) (fun h => by
      cases b5 with
      | true => exact absurd h (by first | decide | simp)
      | false =>
        refine n_not rfl (by first|simp only[nf,Nat.beq]<;>rfl|rfl) rfl ?_
        exact AOps.nil ⟨rfl, rfl, rfl⟩) ?_
  refine n_pick_or rfl (by first|simp only[nf,Nat.beq]<;>rfl|rfl) (fun h => by cases b5 with | true => exact absurd h (by decide) | false => exact (by first|simp only[nf,Nat.beq]<;>rfl|rfl)) ?_
  subst hb5
  refine AOps.nil ?_
  refine AWP.cond_false (by first|simp only[nf,Nat.beq]<;>rfl|rfl) ?_
  refine AWP.skip ?_
  refine AWP.seq ?_
  refine AWP.region ?_
  refine n_move rfl (by first|simp only[nf,Nat.beq]<;>rfl|rfl) ?_
  refine n_nilCheck rfl (by first|simp only[nf,Nat.beq]<;>rfl|rfl) rfl ?_
  refine n_fieldAddr rfl fd111_1 ti28 rfl (by first|simp only[nf,Nat.beq]<;>rfl|rfl) rfl (by first|simp only[nf,Nat.beq]<;>rfl|rfl) ?_
  refine n_load rfl ti28 (by first|simp only[nf,Nat.beq]<;>rfl|rfl) (by first|simp only[nf,Nat.beq]<;>rfl|rfl) rfl (by first|simp only[nf,Nat.beq]<;>rfl|rfl) ?_
  refine n_assign rfl (by first|simp only[nf,Nat.beq]<;>rfl|rfl) ?_
  refine AOps.nil ?_
  refine AWP.ret ?_
  refine fin_box (.cons (rv_tmp (by first|simp only[nf,Nat.beq]<;>rfl|rfl)) .nil) (by first|simp only[nf,Nat.beq]<;>rfl|rfl) ?_ rfl ?_
  · first | exact ren_flat rfl rfl | (refine ren_flat rfl ?_; simp)
  · exact renU rfl rfl

theorem u_stuck (b : List Int) (e : Int)  : Does Try.prog 197 [.bp 0 0] [.box (Up.z ⟨b, e⟩)] (vb (e != 0)) [.box (Up.z ⟨b, e⟩)] := by
  refine Does.of_body (rvs := [.tmp 2]) Try.func197 rfl rfl rfl rfl ?_
  refine AWP.seq ?_
  refine AWP.region ?_
  refine n_assign rfl (by first|simp only[nf,Nat.beq]<;>rfl|rfl) ?_
  refine AOps.nil ?_
  refine AWP.seq ?_
  refine AWP.region ?_
  refine n_move rfl (by first|simp only[nf,Nat.beq]<;>rfl|rfl) ?_
  refine n_callBoxB rfl cf86 rfl (Eq.trans (by simp only [nl] <;> rfl) (by first|simp only[nf,Nat.beq]<;>rfl|rfl)) (by repeat (first | exact .nil | refine .cons ?_ ?_ | exact ren_ints | exact .lf (.val _) | exact .lf (lf_ints (.inl rfl)) | exact .bp ⟨rfl, rfl⟩ | exact .bp (.inl ⟨rfl, rfl⟩) | exact .bp (.inr ⟨rfl, rfl⟩) | exact .lf (D.flat_lf rfl) | exact ren_lits rfl)) (by rfl) (by repeat (first | exact .nil | refine .cons ?_ ?_ | exact ren_ints | exact .lf (.val _) | exact .lf (lf_ints (.inl rfl)) | exact .bp ⟨rfl, rfl⟩ | exact .bp (.inl ⟨rfl, rfl⟩) | exact .bp (.inr ⟨rfl, rfl⟩) | exact .lf (D.flat_lf rfl) | exact ren_lits rfl)) (u_err _ _) (by repeat (first | exact lf_nil | refine lf_cons ?_ ?_ | exact .val _ | exact lf_ints (.inl rfl))) (by first | exact .val _ | exact lf_ints (.inl rfl) | exact lf_ints (.inr rfl) | exact .any | exact D.flat_lf rfl) (by first|simp only[nf,Nat.beq]<;>rfl|rfl) ?_
  refine n_ibin rfl (by first|simp only[nf,Nat.beq]<;>rfl|rfl) (by first|simp only[nf,Nat.beq]<;>rfl|rfl) rfl ?_
  refine n_assign rfl (by first|simp only[nf,Nat.beq]<;>rfl|rfl) ?_
  refine AOps.nil ?_
  refine AWP.ret ?_
  refine fin_box (.cons (rv_tmp (by first|simp only[nf,Nat.beq]<;>rfl|rfl)) .nil) (by first|simp only[nf,Nat.beq]<;>rfl|rfl) ?_ rfl ?_
  · first | exact ren_flat rfl rfl | (refine ren_flat rfl ?_; simp)
  · exact renU rfl rfl

theorem u_close (b : List Int) (e : Int)  : Does Try.prog 91 [.bp 0 0] [.box (Up.z ⟨b, e⟩)] (vi (Up.close ⟨b, e⟩)) [.box (Up.z ⟨b, e⟩)] := by
  refine Does.of_body (rvs := [.tmp 2]) Try.func91 rfl rfl rfl rfl ?_
  refine AWP.seq ?_
  refine AWP.region ?_
  refine n_assign rfl (by first|simp only[nf,Nat.beq]<;>rfl|rfl) ?_
  refine AOps.nil ?_
  refine AWP.seq ?_
  refine AWP.seq ?_
  refine AWP.region ?_
  refine n_move rfl (by first|simp only[nf,Nat.beq]<;>rfl|rfl) ?_
  refine n_callBoxB rfl cf86 rfl (Eq.trans (by simp only [nl] <;> rfl) (by first|simp only[nf,Nat.beq]<;>rfl|rfl)) (by repeat (first | exact .nil | refine .cons ?_ ?_ | exact ren_ints | exact .lf (.val _) | exact .lf (lf_ints (.inl rfl)) | exact .bp ⟨rfl, rfl⟩ | exact .bp (.inl ⟨rfl, rfl⟩) | exact .bp (.inr ⟨rfl, rfl⟩) | exact .lf (D.flat_lf rfl) | exact ren_lits rfl)) (by rfl) (by repeat (first | exact .nil | refine .cons ?_ ?_ | exact ren_ints | exact .lf (.val _) | exact .lf (lf_ints (.inl rfl)) | exact .bp ⟨rfl, rfl⟩ | exact .bp (.inl ⟨rfl, rfl⟩) | exact .bp (.inr ⟨rfl, rfl⟩) | exact .lf (D.flat_lf rfl) | exact ren_lits rfl)) (u_err _ _) (by repeat (first | exact lf_nil | refine lf_cons ?_ ?_ | exact .val _ | exact lf_ints (.inl rfl))) (by first | exact .val _ | exact lf_ints (.inl rfl) | exact lf_ints (.inr rfl) | exact .any | exact D.flat_lf rfl) (by first|simp only[nf,Nat.beq]<;>rfl|rfl) ?_
  refine n_assign rfl (by first|simp only[nf,Nat.beq]<;>rfl|rfl) ?_
  refine AOps.nil ?_
  refine AWP.seq ?_
  refine AWP.region ?_
  refine n_move rfl (by first|simp only[nf,Nat.beq]<;>rfl|rfl) ?_
  refine n_ibin rfl (by first|simp only[nf,Nat.beq]<;>rfl|rfl) (by first|simp only[nf,Nat.beq]<;>rfl|rfl) rfl ?_
  refine AOps.nil ?_
  refine AWP.cond (by first|simp only[nf,Nat.beq]<;>rfl|rfl) (fun hc1 => ?_) (fun hc1 => ?_)
  · try simp only [nh] at hc1
    refine AWP.seq ?_
    refine AWP.region ?_
    refine n_move rfl (by first|simp only[nf,Nat.beq]<;>rfl|rfl) ?_
    refine n_assign rfl (by first|simp only[nf,Nat.beq]<;>rfl|rfl) ?_
    refine AOps.nil ?_
    refine AWP.ret ?_
    refine fin_box (.cons (rv_tmp (by first|simp only[nf,Nat.beq]<;>rfl|rfl)) .nil) (by first|simp only[nf,Nat.beq]<;>rfl|rfl) ?_ rfl ?_
    · refine ren_flat rfl ?_; unfold Up.close; simp_all
    · exact renU rfl rfl
  · try simp only [nh] at hc1
    refine AWP.skip ?_
    refine AWP.seq ?_
    refine AWP.seq ?_
    refine AWP.region ?_
    refine n_move rfl (by first|simp only[nf,Nat.beq]<;>rfl|rfl) ?_
    refine n_nilCheck rfl (by first|simp only[nf,Nat.beq]<;>rfl|rfl) rfl ?_
    refine n_fieldAddr rfl fd111_0 ti22 rfl (by first|simp only[nf,Nat.beq]<;>rfl|rfl) rfl (by first|simp only[nf,Nat.beq]<;>rfl|rfl) ?_
    refine n_load rfl ti22 (by first|simp only[nf,Nat.beq]<;>rfl|rfl) (by first|simp only[nf,Nat.beq]<;>rfl|rfl) rfl (by first|simp only[nf,Nat.beq]<;>rfl|rfl) ?_
    refine n_len rfl Try.underlying22 (by first|simp only[nf,Nat.beq]<;>rfl|rfl) (by first | rw [ints_length] | rfl) ?_
    refine n_ibin rfl (by first|simp only[nf,Nat.beq]<;>rfl|rfl) (by first|simp only[nf,Nat.beq]<;>rfl|rfl) rfl ?_
    refine AOps.nil ?_
    refine AWP.cond (by first|simp only[nf,Nat.beq]<;>rfl|rfl) (fun hc2 => ?_) (fun hc2 => ?_)
    · try simp only [nh] at hc2
      refine AWP.seq ?_
      refine AWP.region ?_
      refine n_assign rfl (by first|simp only[nf,Nat.beq]<;>rfl|rfl) ?_
      refine AOps.nil ?_
      refine AWP.ret ?_
      refine fin_box (.cons (rv_tmp (by first|simp only[nf,Nat.beq]<;>rfl|rfl)) .nil) (by first|simp only[nf,Nat.beq]<;>rfl|rfl) ?_ rfl ?_
      · refine ren_flat rfl ?_; unfold Up.close; simp_all
      · exact renU rfl rfl
    · try simp only [nh] at hc2
      refine AWP.skip ?_
      refine AWP.seq ?_
      refine AWP.region ?_
      refine n_assign rfl (by first|simp only[nf,Nat.beq]<;>rfl|rfl) ?_
      refine AOps.nil ?_
      refine AWP.ret ?_
      refine fin_box (.cons (rv_tmp (by first|simp only[nf,Nat.beq]<;>rfl|rfl)) .nil) (by first|simp only[nf,Nat.beq]<;>rfl|rfl) ?_ rfl ?_
      · refine ren_flat rfl ?_; unfold Up.close; simp_all
      · exact renU rfl rfl

theorem u_spoil (b : List Int) (e : Int) (x : Int) : Does Try.prog 93 [.bp 0 0, vi x] [.box (Up.z ⟨b, e⟩)] (.tup []) [.box (Up.z ⟨b, if e = 0 then x else e⟩)] := by
  refine Does.of_body (rvs := []) Try.func93 rfl rfl rfl rfl ?_
  refine AWP.seq ?_
  refine AWP.region ?_
  refine n_move rfl (by first|simp only[nf,Nat.beq]<;>rfl|rfl) ?_
  refine n_callBoxB rfl cf197 rfl (Eq.trans (by simp only [nl] <;> rfl) (by first|simp only[nf,Nat.beq]<;>rfl|rfl)) (by repeat (first | exact .nil | refine .cons ?_ ?_ | exact ren_ints | exact .lf (.val _) | exact .lf (lf_ints (.inl rfl)) | exact .bp ⟨rfl, rfl⟩ | exact .bp (.inl ⟨rfl, rfl⟩) | exact .bp (.inr ⟨rfl, rfl⟩) | exact .lf (D.flat_lf rfl) | exact ren_lits rfl)) (by rfl) (by repeat (first | exact .nil | refine .cons ?_ ?_ | exact ren_ints | exact .lf (.val _) | exact .lf (lf_ints (.inl rfl)) | exact .bp ⟨rfl, rfl⟩ | exact .bp (.inl ⟨rfl, rfl⟩) | exact .bp (.inr ⟨rfl, rfl⟩) | exact .lf (D.flat_lf rfl) | exact ren_lits rfl)) (u_stuck _ _) (by repeat (first | exact lf_nil | refine lf_cons ?_ ?_ | exact .val _ | exact lf_ints (.inl rfl))) (by first | exact .val _ | exact lf_ints (.inl rfl) | exact lf_ints (.inr rfl) | exact .any | exact D.flat_lf rfl) (by first|simp only[nf,Nat.beq]<;>rfl|rfl) ?_
  refine n_not rfl (by first|simp only[nf,Nat.beq]<;>rfl|rfl) rfl ?_
  refine AOps.nil ?_
  refine AWP.cond (by first|simp only[nf,Nat.beq]<;>rfl|rfl) (fun hc1 => ?_) (fun hc1 => ?_)
  · try simp only [nh] at hc1
    refine AWP.region ?_
    refine n_move rfl (by first|simp only[nf,Nat.beq]<;>rfl|rfl) ?_
    refine n_move rfl (by first|simp only[nf,Nat.beq]<;>rfl|rfl) ?_
    refine n_nilCheck rfl (by first|simp only[nf,Nat.beq]<;>rfl|rfl) rfl ?_
    refine n_fieldAddr rfl fd111_1 ti28 rfl (by first|simp only[nf,Nat.beq]<;>rfl|rfl) rfl (by first|simp only[nf,Nat.beq]<;>rfl|rfl) ?_
    refine n_store ti28 (by first|simp only[nf,Nat.beq]<;>rfl|rfl) rfl (by first|simp only[nf,Nat.beq]<;>rfl|rfl) rfl (by first|simp only[nf,Nat.beq]<;>rfl|rfl) rfl rfl rfl (by first|simp only[nf,Nat.beq]<;>rfl|rfl) ?_
    refine AOps.nil ?_
    refine Fin.normal ?_
    refine fin_box .nil (by first|simp only[nf,Nat.beq]<;>rfl|rfl) ?_ rfl ?_
    · exact ren_flat rfl rfl
    · exact renU rfl (by simp_all)
  · try simp only [nh] at hc1
    refine AWP.skip ?_
    refine Fin.normal ?_
    refine fin_box .nil (by first|simp only[nf,Nat.beq]<;>rfl|rfl) ?_ rfl ?_
    · exact ren_flat rfl rfl
    · exact renU rfl (by simp_all)

theorem u_int (b : List Int) (e : Int) (lo hi : Int) (hb : Byt b) (hl : L40 b) : Does Try.prog 85 [.bp 0 0, vi lo, vi hi] [.box (Up.z ⟨b, e⟩)] (vi (Up.int ⟨b, e⟩ lo hi).1) [.box (Up.z ⟨(Up.int ⟨b, e⟩ lo hi).2.b, (Up.int ⟨b, e⟩ lo hi).2.e⟩)] := by
  refine Does.of_body (rvs := [.tmp 6]) Try.func85 rfl rfl rfl rfl ?_
  have hbd := @firstP_bd b
  have her := firstG_err b 0 0
  refine AWP.seq ?_
  refine AWP.region ?_
  refine n_assign rfl (by first|simp only[nf,Nat.beq]<;>rfl|rfl) ?_
  refine AOps.nil ?_
  refine AWP.seq ?_
  refine AWP.seq ?_
  refine AWP.region ?_
  refine n_move rfl (by first|simp only[nf,Nat.beq]<;>rfl|rfl) ?_
  refine n_callBoxB rfl cf197 rfl (Eq.trans (by simp only [nl] <;> rfl) (by first|simp only[nf,Nat.beq]<;>rfl|rfl)) (by repeat (first | exact .nil | refine .cons ?_ ?_ | exact ren_ints | exact .lf (.val _) | exact .lf (lf_ints (.inl rfl)) | exact .bp ⟨rfl, rfl⟩ | exact .bp (.inl ⟨rfl, rfl⟩) | exact .bp (.inr ⟨rfl, rfl⟩) | exact .lf (D.flat_lf rfl) | exact ren_lits rfl)) (by rfl) (by repeat (first | exact .nil | refine .cons ?_ ?_ | exact ren_ints | exact .lf (.val _) | exact .lf (lf_ints (.inl rfl)) | exact .bp ⟨rfl, rfl⟩ | exact .bp (.inl ⟨rfl, rfl⟩) | exact .bp (.inr ⟨rfl, rfl⟩) | exact .lf (D.flat_lf rfl) | exact ren_lits rfl)) (u_stuck _ _) (by repeat (first | exact lf_nil | refine lf_cons ?_ ?_ | exact .val _ | exact lf_ints (.inl rfl))) (by first | exact .val _ | exact lf_ints (.inl rfl) | exact lf_ints (.inr rfl) | exact .any | exact D.flat_lf rfl) (by first|simp only[nf,Nat.beq]<;>rfl|rfl) ?_
  refine AOps.nil ?_
  refine AWP.cond (by first|simp only[nf,Nat.beq]<;>rfl|rfl) (fun hc1 => ?_) (fun hc1 => ?_)
  · try simp only [nh] at hc1
    refine AWP.seq ?_
    refine AWP.region ?_
    refine n_assign rfl (by first|simp only[nf,Nat.beq]<;>rfl|rfl) ?_
    refine AOps.nil ?_
    refine AWP.ret ?_
    refine fin_box (.cons (rv_tmp (by first|simp only[nf,Nat.beq]<;>rfl|rfl)) .nil) (by first|simp only[nf,Nat.beq]<;>rfl|rfl) ?_ rfl ?_
    · refine ren_flat rfl (congrArg vi ?_); (try simp only [Up.int]); grind
    · refine renU ?_ ?_ <;> (try simp only [Up.int]) <;> grind
  · try simp only [nh] at hc1
    refine AWP.skip ?_
    refine AWP.seq ?_
    refine AWP.region ?_
    refine n_move rfl (by first|simp only[nf,Nat.beq]<;>rfl|rfl) ?_
    refine n_nilCheck rfl (by first|simp only[nf,Nat.beq]<;>rfl|rfl) rfl ?_
    refine n_fieldAddr rfl fd111_0 ti22 rfl (by first|simp only[nf,Nat.beq]<;>rfl|rfl) rfl (by first|simp only[nf,Nat.beq]<;>rfl|rfl) ?_
    refine n_load rfl ti22 (by first|simp only[nf,Nat.beq]<;>rfl|rfl) (by first|simp only[nf,Nat.beq]<;>rfl|rfl) rfl (by first|simp only[nf,Nat.beq]<;>rfl|rfl) ?_
    refine n_call0B rfl cf103 rfl (Eq.trans (by simp only [nl] <;> rfl) (by first|simp only[nf,Nat.beq]<;>rfl|rfl)) (by repeat (first | exact .nil | refine .cons ?_ ?_ | exact ren_ints | exact .lf (.val _) | exact .lf (lf_ints (.inl rfl)) | exact .bp ⟨rfl, rfl⟩ | exact .bp (.inl ⟨rfl, rfl⟩) | exact .bp (.inr ⟨rfl, rfl⟩) | exact .lf (D.flat_lf rfl) | exact ren_lits rfl)) (p_first _ (by assumption) (by assumption)) (by first | exact .val _ | exact lf_ints (.inl rfl) | exact lf_ints (.inr rfl) | exact .any | exact D.flat_lf rfl) ?_
    refine n_move rfl (by first|simp only[nf,Nat.beq]<;>rfl|rfl) ?_
    refine n_extract rfl (by first|simp only[nf,Nat.beq]<;>rfl|rfl) rfl ?_
    refine n_extract rfl (by first|simp only[nf,Nat.beq]<;>rfl|rfl) rfl ?_
    refine n_extract rfl (by first|simp only[nf,Nat.beq]<;>rfl|rfl) rfl ?_
    refine n_assign rfl (by first|simp only[nf,Nat.beq]<;>rfl|rfl) ?_
    refine n_assign rfl (by first|simp only[nf,Nat.beq]<;>rfl|rfl) ?_
    refine n_assign rfl (by first|simp only[nf,Nat.beq]<;>rfl|rfl) ?_
    refine AOps.nil ?_
    refine AWP.seq ?_
    refine AWP.seq ?_
    refine AWP.region ?_
    refine n_move rfl (by first|simp only[nf,Nat.beq]<;>rfl|rfl) ?_
    refine n_ibin rfl (by first|simp only[nf,Nat.beq]<;>rfl|rfl) (by first|simp only[nf,Nat.beq]<;>rfl|rfl) rfl ?_
    refine n_move rfl (by first|simp only[nf,Nat.beq]<;>rfl|rfl) ?_
    refine AOps.name (u := 23) (fun z => .val (.bool z)) (by first|simp only[nf,Nat.beq]<;>rfl|rfl) (fun b23 hb23 => ?_)
    refine n_soft (u := 23) (E := .val (.bool b23)) (b23) rfl rfl rfl (by first|simp only[nf,Nat.beq]<;>rfl|rfl) (by cases b23 <;> first | (intro _; rfl) | (intro h; exact absurd h (by decide))) (by cases b23 <;> first | (intro h; exact absurd h (by decide)) | (intro _; exact ⟨_, rfl, by first | (intro h; cases h; done) | decide | simp⟩)) (fun h => by
        cases b23 with
        | false => exact absurd h (by first | decide | simp)
        | true =>
          refine n_move rfl (by first|simp only[nf,Nat.beq]<;>rfl|rfl) ?_
          exact AOps.nil ⟨rfl, rfl, rfl⟩) ?_
    refine n_soft (u := 23) (E := .val (.bool b23)) (b23) rfl rfl rfl (by first|simp only[nf,Nat.beq]<;>rfl|rfl) (by cases b23 <;> first | (intro _; rfl) | (intro h; exact absurd h (by decide))) (by cases b23 <;> first | (intro h; exact absurd h (by decide)) | (intro _; exact ⟨_, rfl, by first | (intro h; cases h; done) | decide | simp⟩)) (fun h => by
        cases b23 with
        | false => exact absurd h (by first | decide | simp)
        | true =>
          refine n_move rfl (by first|simp only[nf,Nat.beq]<;>rfl|rfl) ?_
          exact AOps.nil ⟨rfl, rfl, rfl⟩) ?_
    refine n_soft (u := 23) (E := .val (.bool b23)) (b23) rfl rfl rfl (by first|simp only[nf,Nat.beq]<;>rfl|rfl) (by cases b23 <;> first | (intro _; rfl) | (intro h; exact absurd h (by decide))) (by cases b23 <;> first | (intro h; exact absurd h (by decide)) | (intro _; exact ⟨_, rfl, by first | (intro h; cases h; done) | decide | simp⟩)) (fun h => by
        cases b23 with
        | false => exact absurd h (by first | decide | simp)
        | true =>
          refine n_ibin rfl (by first|simp only[nf,Nat.beq]<;>rfl|rfl) (by first|simp only[nf,Nat.beq]<;>rfl|rfl) rfl ?_
          exact AOps.nil ⟨rfl, rfl, rfl⟩) ?_
    refine n_soft (u := 23) (E := .val (.bool b23)) (b23) rfl rfl rfl (by first|simp only[nf,Nat.beq]<;>rfl|rfl) (by cases b23 <;> first | (intro _; rfl) | (intro h; exact absurd h (by decide))) (by cases b23 <;> first | (intro h; exact absurd h (by decide)) | (intro _; exact ⟨_, rfl, by first | (intro h; cases h; done) | decide | simp⟩)) (fun h => by
        cases b23 with
        | false => exact absurd h (by first | decide | simp)
        | true =>
          refine n_move rfl (by first|simp only[nf,Nat.beq]<;>rfl|rfl) ?_
          exact AOps.nil ⟨rfl, rfl, rfl⟩) ?_
    refine AOps.name (u := 27) (fun z => bif (b23) then .val (.bool z) else .val undef) (by first|simp only[nf,Nat.beq]<;>rfl|rfl) (fun b27 hb27 => ?_)
    refine n_soft (u := 27) (E := bif (b23) then .val (.bool b27) else .val undef) (b23 && !b27) rfl rfl rfl (by first|simp only[nf,Nat.beq]<;>rfl|rfl) (by cases b23 <;> cases b27 <;> first | (intro _; rfl) | (intro h; exact absurd h (by decide))) (by cases b23 <;> cases b27 <;> first | (intro h; exact absurd h (by decide)) | (intro _; exact ⟨_, rfl, by first | (intro h; cases h; done) | decide | simp⟩)) (fun h => by
        cases b23 with
        | false => exact absurd h (by first | decide | simp)
        | true =>
          cases b27 with
          | true => exact absurd h (by first | decide | simp)
          | false =>
            refine n_move rfl (by first|simp only[nf,Nat.beq]<;>rfl|rfl) ?_
            exact AOps.nil ⟨rfl, rfl, rfl⟩) ?_
    refine n_soft (u := 27) (E := bif (b23) then .val (.bool b27) else .val undef) (b23 && !b27) rfl rfl rfl (by first|simp only[nf,Nat.beq]<;>rfl|rfl) (by cases b23 <;> cases b27 <;> first | (intro _; rfl) | (intro h; exact absurd h (by decide))) (by cases b23 <;> cases b27 <;> first | (intro h; exact absurd h (by decide)) | (intro _; exact ⟨_, rfl, by first | (intro h; cases h; done) | decide | simp⟩)) (fun h => by
        cases b23 with
        | false => exact absurd h (by first | decide | simp)
        | true =>
          cases b27 with
          | true => exact absurd h (by first | decide | simp)
          | false =>
            refine n_move rfl (by first|simp only[nf,Nat.beq]<;>rfl|rfl) ?_
            exact AOps.nil ⟨rfl, rfl, rfl⟩) ?_
    refine n_soft (u := 27) (E := bif (b23) then .val (.bool b27) else .val undef) (b23 && !b27) rfl rfl rfl (by first|simp only[nf,Nat.beq]<;>rfl|rfl) (by cases b23 <;> cases b27 <;> first | (intro _; rfl) | (intro h; exact absurd h (by decide))) (by cases b23 <;> cases b27 <;> first | (intro h; exact absurd h (by decide)) | (intro _; exact ⟨_, rfl, by first | (intro h; cases h; done) | decide | simp⟩)) (fun h => by
        cases b23 with
        | false => exact absurd h (by first | decide | simp)
        | true =>
          cases b27 with
          | true => exact absurd h (by first | decide | simp)
          | false =>
            refine n_ibin rfl (by first|simp only[nf,Nat.beq]<;>rfl|rfl) (by first|simp only[nf,Nat.beq]<;>rfl|rfl) rfl ?_
            exact AOps.nil ⟨rfl, rfl, rfl⟩) ?_
    refine n_soft (u := 23) (E := .val (.bool b23)) (b23) rfl rfl rfl (by first|simp only[nf,Nat.beq]<;>rfl|rfl) (by cases b23 <;> first | (intro _; rfl) | (intro h; exact absurd h (by decide))) (by cases b23 <;> first | (intro h; exact absurd h (by decide)) | (intro _; exact ⟨_, rfl, by first | (intro h; cases h; done) | decide | simp⟩)) (fun h => by
        cases b23 with
        | false => exact absurd h (by first | decide | simp)
        | true =>
          refine n_pick_or rfl (by first|simp only[nf,Nat.beq]<;>rfl|rfl) (fun h => by cases b27 with | true => exact absurd h (by decide) | false => exact (by first|simp only[nf,Nat.beq]<;>rfl|rfl)) ?_
          exact AOps.nil ⟨rfl, rfl, rfl⟩) ?_
    refine n_pick_and rfl (by first|simp only[nf,Nat.beq]<;>rfl|rfl) (fun h => by cases b23 with | false => exact absurd h (by decide) | true => exact (by first|simp only[nf,Nat.beq]<;>rfl|rfl)) ?_
    subst hb23
    subst hb27
    refine AOps.nil ?_
    refine AWP.cond (by first|simp only[nf,Nat.beq]<;>rfl|rfl) (fun hc2 => ?_) (fun hc2 => ?_)
    · try simp only [nh] at hc2
      refine AWP.region ?_
      refine n_assign rfl (by first|simp only[nf,Nat.beq]<;>rfl|rfl) ?_
      refine AOps.nil ?_
      refine AWP.seq ?_
      refine AWP.seq ?_
      refine AWP.region ?_
      refine n_move rfl (by first|simp only[nf,Nat.beq]<;>rfl|rfl) ?_
      refine n_ibin rfl (by first|simp only[nf,Nat.beq]<;>rfl|rfl) (by first|simp only[nf,Nat.beq]<;>rfl|rfl) rfl ?_
      refine AOps.nil ?_
      refine AWP.cond (by first|simp only[nf,Nat.beq]<;>rfl|rfl) (fun hc3 => ?_) (fun hc3 => ?_)
      · try simp only [nh] at hc3
        refine AWP.seq ?_
        refine AWP.region ?_
        refine n_move rfl (by first|simp only[nf,Nat.beq]<;>rfl|rfl) ?_
        refine n_move rfl (by first|simp only[nf,Nat.beq]<;>rfl|rfl) ?_
        refine n_callBoxB rfl cf93 rfl (Eq.trans (by simp only [nl] <;> rfl) (by first|simp only[nf,Nat.beq]<;>rfl|rfl)) (by repeat (first | exact .nil | refine .cons ?_ ?_ | exact ren_ints | exact .lf (.val _) | exact .lf (lf_ints (.inl rfl)) | exact .bp ⟨rfl, rfl⟩ | exact .bp (.inl ⟨rfl, rfl⟩) | exact .bp (.inr ⟨rfl, rfl⟩) | exact .lf (D.flat_lf rfl) | exact ren_lits rfl)) (by rfl) (by repeat (first | exact .nil | refine .cons ?_ ?_ | exact ren_ints | exact .lf (.val _) | exact .lf (lf_ints (.inl rfl)) | exact .bp ⟨rfl, rfl⟩ | exact .bp (.inl ⟨rfl, rfl⟩) | exact .bp (.inr ⟨rfl, rfl⟩) | exact .lf (D.flat_lf rfl) | exact ren_lits rfl)) (u_spoil _ _ _) (by repeat (first | exact lf_nil | refine lf_cons ?_ ?_ | exact .val _ | exact lf_ints (.inl rfl))) (by first | exact .val _ | exact lf_ints (.inl rfl) | exact lf_ints (.inr rfl) | exact .any | exact D.flat_lf rfl) (by first|simp only[nf,Nat.beq]<;>rfl|rfl) ?_
        refine AOps.nil ?_
        refine AWP.seq ?_
        refine AWP.region ?_
        refine n_assign rfl (by first|simp only[nf,Nat.beq]<;>rfl|rfl) ?_
        refine AOps.nil ?_
        refine AWP.ret ?_
        refine fin_box (.cons (rv_tmp (by first|simp only[nf,Nat.beq]<;>rfl|rfl)) .nil) (by first|simp only[nf,Nat.beq]<;>rfl|rfl) ?_ rfl ?_
        · refine ren_flat rfl (congrArg vi ?_); (try simp only [Up.int]); grind
        · refine renU ?_ ?_ <;> (try simp only [Up.int]) <;> grind
      · try simp only [nh] at hc3
        refine AWP.skip ?_
        refine AWP.seq ?_
        refine AWP.region ?_
        refine n_move rfl (by first|simp only[nf,Nat.beq]<;>rfl|rfl) ?_
        refine n_move rfl (by first|simp only[nf,Nat.beq]<;>rfl|rfl) ?_
        refine n_nilCheck rfl (by first|simp only[nf,Nat.beq]<;>rfl|rfl) rfl ?_
        refine n_fieldAddr rfl fd111_0 ti22 rfl (by first|simp only[nf,Nat.beq]<;>rfl|rfl) rfl (by first|simp only[nf,Nat.beq]<;>rfl|rfl) ?_
        refine n_load rfl ti22 (by first|simp only[nf,Nat.beq]<;>rfl|rfl) (by first|simp only[nf,Nat.beq]<;>rfl|rfl) rfl (by first|simp only[nf,Nat.beq]<;>rfl|rfl) ?_
        refine n_move rfl (by first|simp only[nf,Nat.beq]<;>rfl|rfl) ?_
        refine n_slice rfl Try.underlying22 ti5 (by first|simp only[nf,Nat.beq]<;>rfl|rfl) SB.none (SB.some (by first|simp only[nf,Nat.beq]<;>rfl|rfl) (by first | rfl | omega)) (by first | omega | (simp only [ints_length]; omega)) (by first | omega | (simp only [ints_length]; omega) | exact Nat.le_refl _) (ints_one _ _) (by first | (simp only [ints_take, ints_drop, List.take_length, ints_length, List.drop_zero] <;> rfl) | rfl) ?_
        refine n_nilCheck rfl (by first|simp only[nf,Nat.beq]<;>rfl|rfl) rfl ?_
        refine n_fieldAddr rfl fd111_0 ti22 rfl (by first|simp only[nf,Nat.beq]<;>rfl|rfl) rfl (by first|simp only[nf,Nat.beq]<;>rfl|rfl) ?_
        refine n_store ti22 (by first|simp only[nf,Nat.beq]<;>rfl|rfl) rfl (by first|simp only[nf,Nat.beq]<;>rfl|rfl) rfl (by first|simp only[nf,Nat.beq]<;>rfl|rfl) rfl rfl rfl (by first|simp only[nf,Nat.beq]<;>rfl|rfl) ?_
        refine AOps.nil ?_
        refine AWP.seq ?_
        refine AWP.region ?_
        refine n_move rfl (by first|simp only[nf,Nat.beq]<;>rfl|rfl) ?_
        refine n_assign rfl (by first|simp only[nf,Nat.beq]<;>rfl|rfl) ?_
        refine AOps.nil ?_
        refine AWP.ret ?_
        refine fin_box (.cons (rv_tmp (by first|simp only[nf,Nat.beq]<;>rfl|rfl)) .nil) (by first|simp only[nf,Nat.beq]<;>rfl|rfl) ?_ rfl ?_
        · refine ren_flat rfl (congrArg vi ?_); (try simp only [Up.int]); grind
        · refine renU ?_ ?_ <;> (try simp only [Up.int]) <;> grind
    · try simp only [nh] at hc2
      refine AWP.skip ?_
      refine AWP.seq ?_
      refine AWP.seq ?_
      refine AWP.region ?_
      refine n_move rfl (by first|simp only[nf,Nat.beq]<;>rfl|rfl) ?_
      refine n_ibin rfl (by first|simp only[nf,Nat.beq]<;>rfl|rfl) (by first|simp only[nf,Nat.beq]<;>rfl|rfl) rfl ?_
      refine AOps.nil ?_
      refine AWP.cond (by first|simp only[nf,Nat.beq]<;>rfl|rfl) (fun hc4 => ?_) (fun hc4 => ?_)
      · try simp only [nh] at hc4
        refine AWP.seq ?_
        refine AWP.region ?_
        refine n_move rfl (by first|simp only[nf,Nat.beq]<;>rfl|rfl) ?_
        refine n_move rfl (by first|simp only[nf,Nat.beq]<;>rfl|rfl) ?_
        refine n_callBoxB rfl cf93 rfl (Eq.trans (by simp only [nl] <;> rfl) (by first|simp only[nf,Nat.beq]<;>rfl|rfl)) (by repeat (first | exact .nil | refine .cons ?_ ?_ | exact ren_ints | exact .lf (.val _) | exact .lf (lf_ints (.inl rfl)) | exact .bp ⟨rfl, rfl⟩ | exact .bp (.inl ⟨rfl, rfl⟩) | exact .bp (.inr ⟨rfl, rfl⟩) | exact .lf (D.flat_lf rfl) | exact ren_lits rfl)) (by rfl) (by repeat (first | exact .nil | refine .cons ?_ ?_ | exact ren_ints | exact .lf (.val _) | exact .lf (lf_ints (.inl rfl)) | exact .bp ⟨rfl, rfl⟩ | exact .bp (.inl ⟨rfl, rfl⟩) | exact .bp (.inr ⟨rfl, rfl⟩) | exact .lf (D.flat_lf rfl) | exact ren_lits rfl)) (u_spoil _ _ _) (by repeat (first | exact lf_nil | refine lf_cons ?_ ?_ | exact .val _ | exact lf_ints (.inl rfl))) (by first | exact .val _ | exact lf_ints (.inl rfl) | exact lf_ints (.inr rfl) | exact .any | exact D.flat_lf rfl) (by first|simp only[nf,Nat.beq]<;>rfl|rfl) ?_
        refine AOps.nil ?_
        refine AWP.seq ?_
        refine AWP.region ?_
        refine n_assign rfl (by first|simp only[nf,Nat.beq]<;>rfl|rfl) ?_
        refine AOps.nil ?_
        refine AWP.ret ?_
        refine fin_box (.cons (rv_tmp (by first|simp only[nf,Nat.beq]<;>rfl|rfl)) .nil) (by first|simp only[nf,Nat.beq]<;>rfl|rfl) ?_ rfl ?_
        · refine ren_flat rfl (congrArg vi ?_); (try simp only [Up.int]); grind
        · refine renU ?_ ?_ <;> (try simp only [Up.int]) <;> grind
      · try simp only [nh] at hc4
        refine AWP.skip ?_
        refine AWP.seq ?_
        refine AWP.region ?_
        refine n_move rfl (by first|simp only[nf,Nat.beq]<;>rfl|rfl) ?_
        refine n_move rfl (by first|simp only[nf,Nat.beq]<;>rfl|rfl) ?_
        refine n_nilCheck rfl (by first|simp only[nf,Nat.beq]<;>rfl|rfl) rfl ?_
        refine n_fieldAddr rfl fd111_0 ti22 rfl (by first|simp only[nf,Nat.beq]<;>rfl|rfl) rfl (by first|simp only[nf,Nat.beq]<;>rfl|rfl) ?_
        refine n_load rfl ti22 (by first|simp only[nf,Nat.beq]<;>rfl|rfl) (by first|simp only[nf,Nat.beq]<;>rfl|rfl) rfl (by first|simp only[nf,Nat.beq]<;>rfl|rfl) ?_
        refine n_move rfl (by first|simp only[nf,Nat.beq]<;>rfl|rfl) ?_
        refine n_slice rfl Try.underlying22 ti5 (by first|simp only[nf,Nat.beq]<;>rfl|rfl) SB.none (SB.some (by first|simp only[nf,Nat.beq]<;>rfl|rfl) (by first | rfl | omega)) (by first | omega | (simp only [ints_length]; omega)) (by first | omega | (simp only [ints_length]; omega) | exact Nat.le_refl _) (ints_one _ _) (by first | (simp only [ints_take, ints_drop, List.take_length, ints_length, List.drop_zero] <;> rfl) | rfl) ?_
        refine n_nilCheck rfl (by first|simp only[nf,Nat.beq]<;>rfl|rfl) rfl ?_
        refine n_fieldAddr rfl fd111_0 ti22 rfl (by first|simp only[nf,Nat.beq]<;>rfl|rfl) rfl (by first|simp only[nf,Nat.beq]<;>rfl|rfl) ?_
        refine n_store ti22 (by first|simp only[nf,Nat.beq]<;>rfl|rfl) rfl (by first|simp only[nf,Nat.beq]<;>rfl|rfl) rfl (by first|simp only[nf,Nat.beq]<;>rfl|rfl) rfl rfl rfl (by first|simp only[nf,Nat.beq]<;>rfl|rfl) ?_
        refine AOps.nil ?_
        refine AWP.seq ?_
        refine AWP.region ?_
        refine n_move rfl (by first|simp only[nf,Nat.beq]<;>rfl|rfl) ?_
        refine n_assign rfl (by first|simp only[nf,Nat.beq]<;>rfl|rfl) ?_
        refine AOps.nil ?_
        refine AWP.ret ?_
        refine fin_box (.cons (rv_tmp (by first|simp only[nf,Nat.beq]<;>rfl|rfl)) .nil) (by first|simp only[nf,Nat.beq]<;>rfl|rfl) ?_ rfl ?_
        · refine ren_flat rfl (congrArg vi ?_); (try simp only [Up.int]); grind
        · refine renU ?_ ?_ <;> (try simp only [Up.int]) <;> grind

theorem Up.int_in {u : Up} {lo hi : Int} (h : (u.int lo hi).2.e = 0) : u.e = 0 ∧ lo ≤ (u.int lo hi).1 ∧ (u.int lo hi).1 ≤ hi := by
  simp only [Up.int] at *
  grind
theorem u_str (b : List Int) (e : Int) (m : Int) (hm : -9223372036854775808 ≤ m ∧ m ≤ 9223372036854775807) (hb : Byt b) (hl : L40 b) : Does Try.prog 87 [.bp 0 0, vi m] [.box (Up.z ⟨b, e⟩)] (bys (Up.str ⟨b, e⟩ m).1) [.box (Up.z ⟨(Up.str ⟨b, e⟩ m).2.b, (Up.str ⟨b, e⟩ m).2.e⟩)] := by
  refine Does.of_body (rvs := [.tmp 4]) Try.func87 rfl rfl rfl rfl ?_
  have hok := Up.int_ok (u := ⟨b, e⟩) ⟨hb, hl⟩ 0 (max 0 m)
  have hin := @Up.int_in ⟨b, e⟩ 0 (max 0 m)
  obtain ⟨n, hn⟩ : ∃ n, n = (Up.int ⟨b, e⟩ 0 (max 0 m)).1 := ⟨_, rfl⟩
  obtain ⟨b1, hb1⟩ : ∃ b1, b1 = (Up.int ⟨b, e⟩ 0 (max 0 m)).2.b := ⟨_, rfl⟩
  obtain ⟨e1, he1⟩ : ∃ e1, e1 = (Up.int ⟨b, e⟩ 0 (max 0 m)).2.e := ⟨_, rfl⟩
  obtain ⟨ho1, ho2⟩ := hok
  rw [← hb1] at ho1 ho2
  rw [← hn, ← he1] at hin
  have hu := u_int b e 0 (max 0 m) hb hl
  rw [← hn, ← hb1, ← he1] at hu
  refine AWP.seq ?_
  refine AWP.region ?_
  refine n_assign rfl (by first|simp only[nf,Nat.beq]<;>rfl|rfl) ?_
  refine AOps.nil ?_
  refine AWP.seq ?_
  refine AWP.region ?_
  refine n_move rfl (by first|simp only[nf,Nat.beq]<;>rfl|rfl) ?_
  refine n_move rfl (by first|simp only[nf,Nat.beq]<;>rfl|rfl) ?_
  refine n_max (T2 := #[]) rfl (by first|simp only[nf,Nat.beq]<;>rfl|rfl) (by first|simp only[nf,Nat.beq]<;>rfl|rfl) (c := max 0 m) (by split <;> omega) ?_
  refine n_callBoxB rfl cf85 rfl (Eq.trans (by simp only [nl] <;> rfl) (by first|simp only[nf,Nat.beq]<;>rfl|rfl)) (by repeat (first | exact .nil | refine .cons ?_ ?_ | exact ren_ints | exact .lf (.val _) | exact .lf (lf_ints (.inl rfl)) | exact .bp ⟨rfl, rfl⟩ | exact .bp (.inl ⟨rfl, rfl⟩) | exact .bp (.inr ⟨rfl, rfl⟩) | exact .lf (D.flat_lf rfl) | exact ren_lits rfl)) (by rfl) (by repeat (first | exact .nil | refine .cons ?_ ?_ | exact ren_ints | exact .lf (.val _) | exact .lf (lf_ints (.inl rfl)) | exact .bp ⟨rfl, rfl⟩ | exact .bp (.inl ⟨rfl, rfl⟩) | exact .bp (.inr ⟨rfl, rfl⟩) | exact .lf (D.flat_lf rfl) | exact ren_lits rfl)) (hu) (by repeat (first | exact lf_nil | refine lf_cons ?_ ?_ | exact .val _ | exact lf_ints (.inl rfl))) (by first | exact .val _ | exact lf_ints (.inl rfl) | exact lf_ints (.inr rfl) | exact .any | exact D.flat_lf rfl) (by first|simp only[nf,Nat.beq]<;>rfl|rfl) ?_
  refine n_assign rfl (by first|simp only[nf,Nat.beq]<;>rfl|rfl) ?_
  refine AOps.nil ?_
  refine AWP.seq ?_
  refine AWP.seq ?_
  refine AWP.region ?_
  refine n_move rfl (by first|simp only[nf,Nat.beq]<;>rfl|rfl) ?_
  refine n_callBoxB rfl cf197 rfl (Eq.trans (by simp only [nl] <;> rfl) (by first|simp only[nf,Nat.beq]<;>rfl|rfl)) (by repeat (first | exact .nil | refine .cons ?_ ?_ | exact ren_ints | exact .lf (.val _) | exact .lf (lf_ints (.inl rfl)) | exact .bp ⟨rfl, rfl⟩ | exact .bp (.inl ⟨rfl, rfl⟩) | exact .bp (.inr ⟨rfl, rfl⟩) | exact .lf (D.flat_lf rfl) | exact ren_lits rfl)) (by rfl) (by repeat (first | exact .nil | refine .cons ?_ ?_ | exact ren_ints | exact .lf (.val _) | exact .lf (lf_ints (.inl rfl)) | exact .bp ⟨rfl, rfl⟩ | exact .bp (.inl ⟨rfl, rfl⟩) | exact .bp (.inr ⟨rfl, rfl⟩) | exact .lf (D.flat_lf rfl) | exact ren_lits rfl)) (u_stuck _ _) (by repeat (first | exact lf_nil | refine lf_cons ?_ ?_ | exact .val _ | exact lf_ints (.inl rfl))) (by first | exact .val _ | exact lf_ints (.inl rfl) | exact lf_ints (.inr rfl) | exact .any | exact D.flat_lf rfl) (by first|simp only[nf,Nat.beq]<;>rfl|rfl) ?_
  refine n_not rfl (by first|simp only[nf,Nat.beq]<;>rfl|rfl) rfl ?_
  refine n_move rfl (by first|simp only[nf,Nat.beq]<;>rfl|rfl) ?_
  refine AOps.name (u := 14) (fun z => .val (.bool z)) (by first|simp only[nf,Nat.beq]<;>rfl|rfl) (fun b14 hb14 => ?_)
  refine n_soft (u := 14) (E := .val (.bool b14)) (b14) rfl rfl rfl (by first|simp only[nf,Nat.beq]<;>rfl|rfl) (by cases b14 <;> first | (intro _; rfl) | (intro h; exact absurd h (by decide))) (by cases b14 <;> first | (intro h; exact absurd h (by decide)) | (intro _; exact ⟨_, rfl, by first | (intro h; cases h; done) | decide | simp⟩)) (fun h => by
      cases b14 with
      | false => exact absurd h (by first | decide | simp)
      | true =>
        refine n_move rfl (by first|simp only[nf,Nat.beq]<;>rfl|rfl) ?_
        exact AOps.nil ⟨rfl, rfl, rfl⟩) ?_
  refine n_soft (u := 14) (E := .val (.bool b14)) (b14) rfl rfl rfl (by first|simp only[nf,Nat.beq]<;>rfl|rfl) (by cases b14 <;> first | (intro _; rfl) | (intro h; exact absurd h (by decide))) (by cases b14 <;> first | (intro h; exact absurd h (by decide)) | (intro _; exact ⟨_, rfl, by first | (intro h; cases h; done) | decide | simp⟩)) (fun h => by
      cases b14 with
      | false => exact absurd h (by first | decide | simp)
      | true =>
        refine n_move rfl (by first|simp only[nf,Nat.beq]<;>rfl|rfl) ?_
        exact AOps.nil ⟨rfl, rfl, rfl⟩) ?_
  refine n_soft (u := 14) (E := .val (.bool b14)) (b14) rfl rfl rfl (by first|simp only[nf,Nat.beq]<;>rfl|rfl) (by cases b14 <;> first | (intro _; rfl) | (intro h; exact absurd h (by decide))) (by cases b14 <;> first | (intro h; exact absurd h (by decide)) | (intro _; exact ⟨_, rfl, by first | (intro h; cases h; done) | decide | simp⟩)) (fun h => by
      cases b14 with
      | false => exact absurd h (by first | decide | simp)
      | true =>
        refine n_nilCheck rfl (by first|simp only[nf,Nat.beq]<;>rfl|rfl) rfl ?_
        exact AOps.nil ⟨rfl, rfl, rfl⟩) ?_
  refine n_soft (u := 14) (E := .val (.bool b14)) (b14) rfl rfl rfl (by first|simp only[nf,Nat.beq]<;>rfl|rfl) (by cases b14 <;> first | (intro _; rfl) | (intro h; exact absurd h (by decide))) (by cases b14 <;> first | (intro h; exact absurd h (by decide)) | (intro _; exact ⟨_, rfl, by first | (intro h; cases h; done) | decide | simp⟩)) (fun h => by
      cases b14 with
      | false => exact absurd h (by first | decide | simp)
      | true =>
        refine n_fieldAddr rfl fd111_0 ti22 rfl (by first|simp only[nf,Nat.beq]<;>rfl|rfl) rfl (by first|simp only[nf,Nat.beq]<;>rfl|rfl) ?_
        exact AOps.nil ⟨rfl, rfl, rfl⟩) ?_
  refine n_soft (u := 14) (E := .val (.bool b14)) (b14) rfl rfl rfl (by first|simp only[nf,Nat.beq]<;>rfl|rfl) (by cases b14 <;> first | (intro _; rfl) | (intro h; exact absurd h (by decide))) (by cases b14 <;> first | (intro h; exact absurd h (by decide)) | (intro _; exact ⟨_, rfl, by first | (intro h; cases h; done) | decide | simp⟩)) (fun h => by
      cases b14 with
      | false => exact absurd h (by first | decide | simp)
      | true =>
        refine n_load rfl ti22 (by first|simp only[nf,Nat.beq]<;>rfl|rfl) (by first|simp only[nf,Nat.beq]<;>rfl|rfl) rfl (by first|simp only[nf,Nat.beq]<;>rfl|rfl) ?_
        exact AOps.nil ⟨rfl, rfl, rfl⟩) ?_
  refine n_soft (u := 14) (E := .val (.bool b14)) (b14) rfl rfl rfl (by first|simp only[nf,Nat.beq]<;>rfl|rfl) (by cases b14 <;> first | (intro _; rfl) | (intro h; exact absurd h (by decide))) (by cases b14 <;> first | (intro h; exact absurd h (by decide)) | (intro _; exact ⟨_, rfl, by first | (intro h; cases h; done) | decide | simp⟩)) (fun h => by
      cases b14 with
      | false => exact absurd h (by first | decide | simp)
      | true =>
        refine n_len rfl Try.underlying22 (by first|simp only[nf,Nat.beq]<;>rfl|rfl) (by first | rw [ints_length] | rfl) ?_
        exact AOps.nil ⟨rfl, rfl, rfl⟩) ?_
  refine n_soft (u := 14) (E := .val (.bool b14)) (b14) rfl rfl rfl (by first|simp only[nf,Nat.beq]<;>rfl|rfl) (by cases b14 <;> first | (intro _; rfl) | (intro h; exact absurd h (by decide))) (by cases b14 <;> first | (intro h; exact absurd h (by decide)) | (intro _; exact ⟨_, rfl, by first | (intro h; cases h; done) | decide | simp⟩)) (fun h => by
      cases b14 with
      | false => exact absurd h (by first | decide | simp)
      | true =>
        refine n_ibin rfl (by first|simp only[nf,Nat.beq]<;>rfl|rfl) (by first|simp only[nf,Nat.beq]<;>rfl|rfl) rfl ?_
        exact AOps.nil ⟨rfl, rfl, rfl⟩) ?_
  refine n_pick_and rfl (by first|simp only[nf,Nat.beq]<;>rfl|rfl) (fun h => by cases b14 with | false => exact absurd h (by decide) | true => exact (by first|simp only[nf,Nat.beq]<;>rfl|rfl)) ?_
  subst hb14
  refine AOps.nil ?_
  refine AWP.cond (by first|simp only[nf,Nat.beq]<;>rfl|rfl) (fun hc1 => ?_) (fun hc1 => ?_)
  · try simp only [nh] at hc1
    have hq := hc1
    refine AWP.region ?_
    refine n_move rfl (by first|simp only[nf,Nat.beq]<;>rfl|rfl) ?_
    refine n_callBoxB rfl cf93 rfl (Eq.trans (by simp only [nl] <;> rfl) (by first|simp only[nf,Nat.beq]<;>rfl|rfl)) (by repeat (first | exact .nil | refine .cons ?_ ?_ | exact ren_ints | exact .lf (.val _) | exact .lf (lf_ints (.inl rfl)) | exact .bp ⟨rfl, rfl⟩ | exact .bp (.inl ⟨rfl, rfl⟩) | exact .bp (.inr ⟨rfl, rfl⟩) | exact .lf (D.flat_lf rfl) | exact ren_lits rfl)) (by rfl) (by repeat (first | exact .nil | refine .cons ?_ ?_ | exact ren_ints | exact .lf (.val _) | exact .lf (lf_ints (.inl rfl)) | exact .bp ⟨rfl, rfl⟩ | exact .bp (.inl ⟨rfl, rfl⟩) | exact .bp (.inr ⟨rfl, rfl⟩) | exact .lf (D.flat_lf rfl) | exact ren_lits rfl)) (u_spoil _ _ _) (by repeat (first | exact lf_nil | refine lf_cons ?_ ?_ | exact .val _ | exact lf_ints (.inl rfl))) (by first | exact .val _ | exact lf_ints (.inl rfl) | exact lf_ints (.inr rfl) | exact .any | exact D.flat_lf rfl) (by first|simp only[nf,Nat.beq]<;>rfl|rfl) ?_
    refine AOps.nil ?_
    refine AWP.seq ?_
    refine AWP.seq ?_
    refine AWP.region ?_
    refine n_move rfl (by first|simp only[nf,Nat.beq]<;>rfl|rfl) ?_
    refine n_callBoxB rfl cf197 rfl (Eq.trans (by simp only [nl] <;> rfl) (by first|simp only[nf,Nat.beq]<;>rfl|rfl)) (by repeat (first | exact .nil | refine .cons ?_ ?_ | exact ren_ints | exact .lf (.val _) | exact .lf (lf_ints (.inl rfl)) | exact .bp ⟨rfl, rfl⟩ | exact .bp (.inl ⟨rfl, rfl⟩) | exact .bp (.inr ⟨rfl, rfl⟩) | exact .lf (D.flat_lf rfl) | exact ren_lits rfl)) (by rfl) (by repeat (first | exact .nil | refine .cons ?_ ?_ | exact ren_ints | exact .lf (.val _) | exact .lf (lf_ints (.inl rfl)) | exact .bp ⟨rfl, rfl⟩ | exact .bp (.inl ⟨rfl, rfl⟩) | exact .bp (.inr ⟨rfl, rfl⟩) | exact .lf (D.flat_lf rfl) | exact ren_lits rfl)) (u_stuck _ _) (by repeat (first | exact lf_nil | refine lf_cons ?_ ?_ | exact .val _ | exact lf_ints (.inl rfl))) (by first | exact .val _ | exact lf_ints (.inl rfl) | exact lf_ints (.inr rfl) | exact .any | exact D.flat_lf rfl) (by first|simp only[nf,Nat.beq]<;>rfl|rfl) ?_
    refine AOps.nil ?_
    refine AWP.cond (by first|simp only[nf,Nat.beq]<;>rfl|rfl) (fun hc2 => ?_) (fun hc2 => ?_)
    · try simp only [nh] at hc2
      have hne := hc2
      refine AWP.seq ?_
      refine AWP.region ?_
      refine n_assign rfl (by first|simp only[nf,Nat.beq]<;>rfl|rfl) ?_
      refine AOps.nil ?_
      refine AWP.ret ?_
      refine fin_box (.cons (rv_tmp (by first|simp only[nf,Nat.beq]<;>rfl|rfl)) .nil) (by first|simp only[nf,Nat.beq]<;>rfl|rfl) ?_ rfl ?_
      · first | (have hz : (Up.str ⟨b, e⟩ m).1 = [] := by (simp only [Up.str]; grind)); (show Ren No No _ (.sl none (ints .u8 _) .ro)); rw [hz]; exact .ro (fun x h => by cases h) | (refine ren_lits ?_; congr 1; simp only [Up.str]; grind)
      · refine renU ?_ ?_ <;> (try simp only [Up.str]) <;> grind
    · try simp only [nh] at hc2
      have h0 : e1 = 0 := by grind
      have hle : n ≤ b1.length := by grind
      obtain ⟨h1, h2, h3⟩ := hin h0
      obtain ⟨k, hk⟩ : ∃ k : Nat, n = (k : Int) := ⟨n.toNat, by omega⟩
      subst hk
      refine AWP.skip ?_
      refine AWP.seq ?_
      refine AWP.region ?_
      refine n_move rfl (by first|simp only[nf,Nat.beq]<;>rfl|rfl) ?_
      refine n_nilCheck rfl (by first|simp only[nf,Nat.beq]<;>rfl|rfl) rfl ?_
      refine n_fieldAddr rfl fd111_0 ti22 rfl (by first|simp only[nf,Nat.beq]<;>rfl|rfl) rfl (by first|simp only[nf,Nat.beq]<;>rfl|rfl) ?_
      refine n_load rfl ti22 (by first|simp only[nf,Nat.beq]<;>rfl|rfl) (by first|simp only[nf,Nat.beq]<;>rfl|rfl) rfl (by first|simp only[nf,Nat.beq]<;>rfl|rfl) ?_
      refine n_move rfl (by first|simp only[nf,Nat.beq]<;>rfl|rfl) ?_
      refine n_slice rfl Try.underlying22 ti5 (by first|simp only[nf,Nat.beq]<;>rfl|rfl) (SB.some (by first|simp only[nf,Nat.beq]<;>rfl|rfl) (by first | rfl | omega)) SB.none (by first | omega | (simp only [ints_length]; omega)) (by first | omega | (simp only [ints_length]; omega) | exact Nat.le_refl _) (ints_one _ _) (by first | (simp only [ints_take, ints_drop, List.take_length, ints_length, List.drop_zero] <;> rfl) | rfl) ?_
      refine n_call0B rfl cf36 rfl (Eq.trans (by simp only [nl] <;> rfl) (by first|simp only[nf,Nat.beq]<;>rfl|rfl)) (by repeat (first | exact .nil | refine .cons ?_ ?_ | exact ren_ints | exact .lf (.val _) | exact .lf (lf_ints (.inl rfl)) | exact .bp ⟨rfl, rfl⟩ | exact .bp (.inl ⟨rfl, rfl⟩) | exact .bp (.inr ⟨rfl, rfl⟩) | exact .lf (D.flat_lf rfl) | exact ren_lits rfl)) (s_clone _ (by first | assumption | (simp only [L40, List.length_take, List.length_drop] at *; omega))) (by first | exact .val _ | exact lf_ints (.inl rfl) | exact lf_ints (.inr rfl) | exact .any | exact D.flat_lf rfl) ?_
      refine n_assign rfl (by first|simp only[nf,Nat.beq]<;>rfl|rfl) ?_
      refine AOps.nil ?_
      refine AWP.seq ?_
      refine AWP.region ?_
      refine n_move rfl (by first|simp only[nf,Nat.beq]<;>rfl|rfl) ?_
      refine n_move rfl (by first|simp only[nf,Nat.beq]<;>rfl|rfl) ?_
      refine n_nilCheck rfl (by first|simp only[nf,Nat.beq]<;>rfl|rfl) rfl ?_
      refine n_fieldAddr rfl fd111_0 ti22 rfl (by first|simp only[nf,Nat.beq]<;>rfl|rfl) rfl (by first|simp only[nf,Nat.beq]<;>rfl|rfl) ?_
      refine n_load rfl ti22 (by first|simp only[nf,Nat.beq]<;>rfl|rfl) (by first|simp only[nf,Nat.beq]<;>rfl|rfl) rfl (by first|simp only[nf,Nat.beq]<;>rfl|rfl) ?_
      refine n_move rfl (by first|simp only[nf,Nat.beq]<;>rfl|rfl) ?_
      refine n_slice rfl Try.underlying22 ti5 (by first|simp only[nf,Nat.beq]<;>rfl|rfl) SB.none (SB.some (by first|simp only[nf,Nat.beq]<;>rfl|rfl) (by first | rfl | omega)) (by first | omega | (simp only [ints_length]; omega)) (by first | omega | (simp only [ints_length]; omega) | exact Nat.le_refl _) (ints_one _ _) (by first | (simp only [ints_take, ints_drop, List.take_length, ints_length, List.drop_zero] <;> rfl) | rfl) ?_
      refine n_nilCheck rfl (by first|simp only[nf,Nat.beq]<;>rfl|rfl) rfl ?_
      refine n_fieldAddr rfl fd111_0 ti22 rfl (by first|simp only[nf,Nat.beq]<;>rfl|rfl) rfl (by first|simp only[nf,Nat.beq]<;>rfl|rfl) ?_
      refine n_store ti22 (by first|simp only[nf,Nat.beq]<;>rfl|rfl) rfl (by first|simp only[nf,Nat.beq]<;>rfl|rfl) rfl (by first|simp only[nf,Nat.beq]<;>rfl|rfl) rfl rfl rfl (by first|simp only[nf,Nat.beq]<;>rfl|rfl) ?_
      refine AOps.nil ?_
      refine AWP.seq ?_
      refine AWP.region ?_
      refine n_move rfl (by first|simp only[nf,Nat.beq]<;>rfl|rfl) ?_
      refine n_assign rfl (by first|simp only[nf,Nat.beq]<;>rfl|rfl) ?_
      refine AOps.nil ?_
      refine AWP.ret ?_
      refine fin_box (.cons (rv_tmp (by first|simp only[nf,Nat.beq]<;>rfl|rfl)) .nil) (by first|simp only[nf,Nat.beq]<;>rfl|rfl) ?_ rfl ?_
      · first | (have hz : (Up.str ⟨b, e⟩ m).1 = [] := by (simp only [Up.str]; grind)); (show Ren No No _ (.sl none (ints .u8 _) .ro)); rw [hz]; exact .ro (fun x h => by cases h) | (refine ren_lits ?_; congr 1; simp only [Up.str]; grind)
      · refine renU ?_ ?_ <;> (try simp only [Up.str]) <;> grind
  · try simp only [nh] at hc1
    have hq := hc1
    refine AWP.skip ?_
    refine AWP.seq ?_
    refine AWP.seq ?_
    refine AWP.region ?_
    refine n_move rfl (by first|simp only[nf,Nat.beq]<;>rfl|rfl) ?_
    refine n_callBoxB rfl cf197 rfl (Eq.trans (by simp only [nl] <;> rfl) (by first|simp only[nf,Nat.beq]<;>rfl|rfl)) (by repeat (first | exact .nil | refine .cons ?_ ?_ | exact ren_ints | exact .lf (.val _) | exact .lf (lf_ints (.inl rfl)) | exact .bp ⟨rfl, rfl⟩ | exact .bp (.inl ⟨rfl, rfl⟩) | exact .bp (.inr ⟨rfl, rfl⟩) | exact .lf (D.flat_lf rfl) | exact ren_lits rfl)) (by rfl) (by repeat (first | exact .nil | refine .cons ?_ ?_ | exact ren_ints | exact .lf (.val _) | exact .lf (lf_ints (.inl rfl)) | exact .bp ⟨rfl, rfl⟩ | exact .bp (.inl ⟨rfl, rfl⟩) | exact .bp (.inr ⟨rfl, rfl⟩) | exact .lf (D.flat_lf rfl) | exact ren_lits rfl)) (u_stuck _ _) (by repeat (first | exact lf_nil | refine lf_cons ?_ ?_ | exact .val _ | exact lf_ints (.inl rfl))) (by first | exact .val _ | exact lf_ints (.inl rfl) | exact lf_ints (.inr rfl) | exact .any | exact D.flat_lf rfl) (by first|simp only[nf,Nat.beq]<;>rfl|rfl) ?_
    refine AOps.nil ?_
    refine AWP.cond (by first|simp only[nf,Nat.beq]<;>rfl|rfl) (fun hc3 => ?_) (fun hc3 => ?_)
    · try simp only [nh] at hc3
      have hne := hc3
      refine AWP.seq ?_
      refine AWP.region ?_
      refine n_assign rfl (by first|simp only[nf,Nat.beq]<;>rfl|rfl) ?_
      refine AOps.nil ?_
      refine AWP.ret ?_
      refine fin_box (.cons (rv_tmp (by first|simp only[nf,Nat.beq]<;>rfl|rfl)) .nil) (by first|simp only[nf,Nat.beq]<;>rfl|rfl) ?_ rfl ?_
      · first | (have hz : (Up.str ⟨b, e⟩ m).1 = [] := by (simp only [Up.str]; grind)); (show Ren No No _ (.sl none (ints .u8 _) .ro)); rw [hz]; exact .ro (fun x h => by cases h) | (refine ren_lits ?_; congr 1; simp only [Up.str]; grind)
      · refine renU ?_ ?_ <;> (try simp only [Up.str]) <;> grind
    · try simp only [nh] at hc3
      have h0 : e1 = 0 := by grind
      have hle : n ≤ b1.length := by grind
      obtain ⟨h1, h2, h3⟩ := hin h0
      obtain ⟨k, hk⟩ : ∃ k : Nat, n = (k : Int) := ⟨n.toNat, by omega⟩
      subst hk
      refine AWP.skip ?_
      refine AWP.seq ?_
      refine AWP.region ?_
      refine n_move rfl (by first|simp only[nf,Nat.beq]<;>rfl|rfl) ?_
      refine n_nilCheck rfl (by first|simp only[nf,Nat.beq]<;>rfl|rfl) rfl ?_
      refine n_fieldAddr rfl fd111_0 ti22 rfl (by first|simp only[nf,Nat.beq]<;>rfl|rfl) rfl (by first|simp only[nf,Nat.beq]<;>rfl|rfl) ?_
      refine n_load rfl ti22 (by first|simp only[nf,Nat.beq]<;>rfl|rfl) (by first|simp only[nf,Nat.beq]<;>rfl|rfl) rfl (by first|simp only[nf,Nat.beq]<;>rfl|rfl) ?_
      refine n_move rfl (by first|simp only[nf,Nat.beq]<;>rfl|rfl) ?_
      refine n_slice rfl Try.underlying22 ti5 (by first|simp only[nf,Nat.beq]<;>rfl|rfl) (SB.some (by first|simp only[nf,Nat.beq]<;>rfl|rfl) (by first | rfl | omega)) SB.none (by first | omega | (simp only [ints_length]; omega)) (by first | omega | (simp only [ints_length]; omega) | exact Nat.le_refl _) (ints_one _ _) (by first | (simp only [ints_take, ints_drop, List.take_length, ints_length, List.drop_zero] <;> rfl) | rfl) ?_
      refine n_call0B rfl cf36 rfl (Eq.trans (by simp only [nl] <;> rfl) (by first|simp only[nf,Nat.beq]<;>rfl|rfl)) (by repeat (first | exact .nil | refine .cons ?_ ?_ | exact ren_ints | exact .lf (.val _) | exact .lf (lf_ints (.inl rfl)) | exact .bp ⟨rfl, rfl⟩ | exact .bp (.inl ⟨rfl, rfl⟩) | exact .bp (.inr ⟨rfl, rfl⟩) | exact .lf (D.flat_lf rfl) | exact ren_lits rfl)) (s_clone _ (by first | assumption | (simp only [L40, List.length_take, List.length_drop] at *; omega))) (by first | exact .val _ | exact lf_ints (.inl rfl) | exact lf_ints (.inr rfl) | exact .any | exact D.flat_lf rfl) ?_
      refine n_assign rfl (by first|simp only[nf,Nat.beq]<;>rfl|rfl) ?_
      refine AOps.nil ?_
      refine AWP.seq ?_
      refine AWP.region ?_
      refine n_move rfl (by first|simp only[nf,Nat.beq]<;>rfl|rfl) ?_
      refine n_move rfl (by first|simp only[nf,Nat.beq]<;>rfl|rfl) ?_
      refine n_nilCheck rfl (by first|simp only[nf,Nat.beq]<;>rfl|rfl) rfl ?_
      refine n_fieldAddr rfl fd111_0 ti22 rfl (by first|simp only[nf,Nat.beq]<;>rfl|rfl) rfl (by first|simp only[nf,Nat.beq]<;>rfl|rfl) ?_
      refine n_load rfl ti22 (by first|simp only[nf,Nat.beq]<;>rfl|rfl) (by first|simp only[nf,Nat.beq]<;>rfl|rfl) rfl (by first|simp only[nf,Nat.beq]<;>rfl|rfl) ?_
      refine n_move rfl (by first|simp only[nf,Nat.beq]<;>rfl|rfl) ?_
      refine n_slice rfl Try.underlying22 ti5 (by first|simp only[nf,Nat.beq]<;>rfl|rfl) SB.none (SB.some (by first|simp only[nf,Nat.beq]<;>rfl|rfl) (by first | rfl | omega)) (by first | omega | (simp only [ints_length]; omega)) (by first | omega | (simp only [ints_length]; omega) | exact Nat.le_refl _) (ints_one _ _) (by first | (simp only [ints_take, ints_drop, List.take_length, ints_length, List.drop_zero] <;> rfl) | rfl) ?_
      refine n_nilCheck rfl (by first|simp only[nf,Nat.beq]<;>rfl|rfl) rfl ?_
      refine n_fieldAddr rfl fd111_0 ti22 rfl (by first|simp only[nf,Nat.beq]<;>rfl|rfl) rfl (by first|simp only[nf,Nat.beq]<;>rfl|rfl) ?_
      refine n_store ti22 (by first|simp only[nf,Nat.beq]<;>rfl|rfl) rfl (by first|simp only[nf,Nat.beq]<;>rfl|rfl) rfl (by first|simp only[nf,Nat.beq]<;>rfl|rfl) rfl rfl rfl (by first|simp only[nf,Nat.beq]<;>rfl|rfl) ?_
      refine AOps.nil ?_
      refine AWP.seq ?_
      refine AWP.region ?_
      refine n_move rfl (by first|simp only[nf,Nat.beq]<;>rfl|rfl) ?_
      refine n_assign rfl (by first|simp only[nf,Nat.beq]<;>rfl|rfl) ?_
      refine AOps.nil ?_
      refine AWP.ret ?_
      refine fin_box (.cons (rv_tmp (by first|simp only[nf,Nat.beq]<;>rfl|rfl)) .nil) (by first|simp only[nf,Nat.beq]<;>rfl|rfl) ?_ rfl ?_
      · first | (have hz : (Up.str ⟨b, e⟩ m).1 = [] := by (simp only [Up.str]; grind)); (show Ren No No _ (.sl none (ints .u8 _) .ro)); rw [hz]; exact .ro (fun x h => by cases h) | (refine ren_lits ?_; congr 1; simp only [Up.str]; grind)
      · refine renU ?_ ?_ <;> (try simp only [Up.str]) <;> grind

theorem ru_spoil (b : List Int) (e : Int) (hc : e ≠ 0 → b = []) (x : Int) : Does Try.prog 201 [.bp 0 0, vi x] [.box (Up.rz ⟨b, e⟩)] (.tup []) [.box (Up.rz ⟨(Up.spoil ⟨b, e⟩ x).clr.b, (Up.spoil ⟨b, e⟩ x).clr.e⟩)] := by
  refine Does.of_body (rvs := []) Try.func201 rfl rfl rfl rfl ?_
  refine AWP.seq ?_
  refine AWP.seq ?_
  refine AWP.region ?_
  refine n_move rfl (by first|simp only[nf,Nat.beq]<;>rfl|rfl) ?_
  refine n_nilCheck rfl (by first|simp only[nf,Nat.beq]<;>rfl|rfl) rfl ?_
  refine n_fieldAddr rfl fd108_1 ti28 rfl (by first|simp only[nf,Nat.beq]<;>rfl|rfl) rfl (by first|simp only[nf,Nat.beq]<;>rfl|rfl) ?_
  refine n_load rfl ti28 (by first|simp only[nf,Nat.beq]<;>rfl|rfl) (by first|simp only[nf,Nat.beq]<;>rfl|rfl) rfl (by first|simp only[nf,Nat.beq]<;>rfl|rfl) ?_
  refine n_ibin rfl (by first|simp only[nf,Nat.beq]<;>rfl|rfl) (by first|simp only[nf,Nat.beq]<;>rfl|rfl) rfl ?_
  refine AOps.nil ?_
  refine AWP.cond (by first|simp only[nf,Nat.beq]<;>rfl|rfl) (fun hc1 => ?_) (fun hc1 => ?_)
  · try simp only [nh] at hc1
    refine AWP.region ?_
    refine n_move rfl (by first|simp only[nf,Nat.beq]<;>rfl|rfl) ?_
    refine n_move rfl (by first|simp only[nf,Nat.beq]<;>rfl|rfl) ?_
    refine n_nilCheck rfl (by first|simp only[nf,Nat.beq]<;>rfl|rfl) rfl ?_
    refine n_fieldAddr rfl fd108_1 ti28 rfl (by first|simp only[nf,Nat.beq]<;>rfl|rfl) rfl (by first|simp only[nf,Nat.beq]<;>rfl|rfl) ?_
    refine n_store ti28 (by first|simp only[nf,Nat.beq]<;>rfl|rfl) rfl (by first|simp only[nf,Nat.beq]<;>rfl|rfl) rfl (by first|simp only[nf,Nat.beq]<;>rfl|rfl) rfl rfl rfl (by first|simp only[nf,Nat.beq]<;>rfl|rfl) ?_
    refine AOps.nil ?_
    refine AWP.seq ?_
    refine AWP.region ?_
    refine n_move rfl (by first|simp only[nf,Nat.beq]<;>rfl|rfl) ?_
    refine n_nilCheck rfl (by first|simp only[nf,Nat.beq]<;>rfl|rfl) rfl ?_
    refine n_fieldAddr rfl fd108_1 ti28 rfl (by first|simp only[nf,Nat.beq]<;>rfl|rfl) rfl (by first|simp only[nf,Nat.beq]<;>rfl|rfl) ?_
    refine n_load rfl ti28 (by first|simp only[nf,Nat.beq]<;>rfl|rfl) (by first|simp only[nf,Nat.beq]<;>rfl|rfl) rfl (by first|simp only[nf,Nat.beq]<;>rfl|rfl) ?_
    refine n_ibin rfl (by first|simp only[nf,Nat.beq]<;>rfl|rfl) (by first|simp only[nf,Nat.beq]<;>rfl|rfl) rfl ?_
    refine AOps.nil ?_
    refine AWP.cond (by first|simp only[nf,Nat.beq]<;>rfl|rfl) (fun hc2 => ?_) (fun hc2 => ?_)
    · try simp only [nh] at hc2
      refine AWP.region ?_
      refine n_move rfl (by first|simp only[nf,Nat.beq]<;>rfl|rfl) ?_
      refine n_nilCheck rfl (by first|simp only[nf,Nat.beq]<;>rfl|rfl) rfl ?_
      refine n_fieldAddr rfl fd108_0 ti22 rfl (by first|simp only[nf,Nat.beq]<;>rfl|rfl) rfl (by first|simp only[nf,Nat.beq]<;>rfl|rfl) ?_
      refine n_store ti22 (by first|simp only[nf,Nat.beq]<;>rfl|rfl) rfl (by first|simp only[nf,Nat.beq]<;>rfl|rfl) rfl (by first|simp only[nf,Nat.beq]<;>rfl|rfl) rfl rfl rfl (by first|simp only[nf,Nat.beq]<;>rfl|rfl) ?_
      refine AOps.nil ?_
      refine Fin.normal ?_
      refine fin_box .nil (by first|simp only[nf,Nat.beq]<;>rfl|rfl) ?_ rfl ?_
      · first | exact ren_flat rfl rfl | (refine ren_flat rfl (congrArg vi ?_); (try simp only [Up.spoil]); grind)
      · first | refine renR ?_ ?_ <;> (try simp only [Up.spoil, Up.clr]) <;> grind | refine renR0 ?_ ?_ <;> (try simp only [Up.spoil, Up.clr]) <;> grind
    · try simp only [nh] at hc2
      refine AWP.skip ?_
      refine Fin.normal ?_
      refine fin_box .nil (by first|simp only[nf,Nat.beq]<;>rfl|rfl) ?_ rfl ?_
      · first | exact ren_flat rfl rfl | (refine ren_flat rfl (congrArg vi ?_); (try simp only [Up.spoil]); grind)
      · first | refine renR ?_ ?_ <;> (try simp only [Up.spoil, Up.clr]) <;> grind | refine renR0 ?_ ?_ <;> (try simp only [Up.spoil, Up.clr]) <;> grind
  · try simp only [nh] at hc1
    refine AWP.skip ?_
    refine AWP.seq ?_
    refine AWP.region ?_
    refine n_move rfl (by first|simp only[nf,Nat.beq]<;>rfl|rfl) ?_
    refine n_nilCheck rfl (by first|simp only[nf,Nat.beq]<;>rfl|rfl) rfl ?_
    refine n_fieldAddr rfl fd108_1 ti28 rfl (by first|simp only[nf,Nat.beq]<;>rfl|rfl) rfl (by first|simp only[nf,Nat.beq]<;>rfl|rfl) ?_
    refine n_load rfl ti28 (by first|simp only[nf,Nat.beq]<;>rfl|rfl) (by first|simp only[nf,Nat.beq]<;>rfl|rfl) rfl (by first|simp only[nf,Nat.beq]<;>rfl|rfl) ?_
    refine n_ibin rfl (by first|simp only[nf,Nat.beq]<;>rfl|rfl) (by first|simp only[nf,Nat.beq]<;>rfl|rfl) rfl ?_
    refine AOps.nil ?_
    refine AWP.cond (by first|simp only[nf,Nat.beq]<;>rfl|rfl) (fun hc3 => ?_) (fun hc3 => ?_)
    · try simp only [nh] at hc3
      refine AWP.region ?_
      refine n_move rfl (by first|simp only[nf,Nat.beq]<;>rfl|rfl) ?_
      refine n_nilCheck rfl (by first|simp only[nf,Nat.beq]<;>rfl|rfl) rfl ?_
      refine n_fieldAddr rfl fd108_0 ti22 rfl (by first|simp only[nf,Nat.beq]<;>rfl|rfl) rfl (by first|simp only[nf,Nat.beq]<;>rfl|rfl) ?_
      refine n_store ti22 (by first|simp only[nf,Nat.beq]<;>rfl|rfl) rfl (by first|simp only[nf,Nat.beq]<;>rfl|rfl) rfl (by first|simp only[nf,Nat.beq]<;>rfl|rfl) rfl rfl rfl (by first|simp only[nf,Nat.beq]<;>rfl|rfl) ?_
      refine AOps.nil ?_
      refine Fin.normal ?_
      refine fin_box .nil (by first|simp only[nf,Nat.beq]<;>rfl|rfl) ?_ rfl ?_
      · first | exact ren_flat rfl rfl | (refine ren_flat rfl (congrArg vi ?_); (try simp only [Up.spoil]); grind)
      · first | refine renR ?_ ?_ <;> (try simp only [Up.spoil, Up.clr]) <;> grind | refine renR0 ?_ ?_ <;> (try simp only [Up.spoil, Up.clr]) <;> grind
    · try simp only [nh] at hc3
      refine AWP.skip ?_
      refine Fin.normal ?_
      refine fin_box .nil (by first|simp only[nf,Nat.beq]<;>rfl|rfl) ?_ rfl ?_
      · first | exact ren_flat rfl rfl | (refine ren_flat rfl (congrArg vi ?_); (try simp only [Up.spoil]); grind)
      · first | refine renR ?_ ?_ <;> (try simp only [Up.spoil, Up.clr]) <;> grind | refine renR0 ?_ ?_ <;> (try simp only [Up.spoil, Up.clr]) <;> grind

theorem ru_close (b : List Int) (e : Int) (hc : e ≠ 0 → b = [])  : Does Try.prog 92 [.bp 0 0] [.box (Up.rz ⟨b, e⟩)] (vi (Up.close ⟨b, e⟩)) [.box (Up.rz ⟨b, e⟩)] := by
  refine Does.of_body (rvs := [.tmp 2]) Try.func92 rfl rfl rfl rfl ?_
  refine AWP.seq ?_
  refine AWP.region ?_
  refine n_assign rfl (by first|simp only[nf,Nat.beq]<;>rfl|rfl) ?_
  refine AOps.nil ?_
  refine AWP.seq ?_
  refine AWP.seq ?_
  refine AWP.region ?_
  refine n_move rfl (by first|simp only[nf,Nat.beq]<;>rfl|rfl) ?_
  refine n_nilCheck rfl (by first|simp only[nf,Nat.beq]<;>rfl|rfl) rfl ?_
  refine n_fieldAddr rfl fd108_1 ti28 rfl (by first|simp only[nf,Nat.beq]<;>rfl|rfl) rfl (by first|simp only[nf,Nat.beq]<;>rfl|rfl) ?_
  refine n_load rfl ti28 (by first|simp only[nf,Nat.beq]<;>rfl|rfl) (by first|simp only[nf,Nat.beq]<;>rfl|rfl) rfl (by first|simp only[nf,Nat.beq]<;>rfl|rfl) ?_
  refine n_ibin rfl (by first|simp only[nf,Nat.beq]<;>rfl|rfl) (by first|simp only[nf,Nat.beq]<;>rfl|rfl) rfl ?_
  refine n_move rfl (by first|simp only[nf,Nat.beq]<;>rfl|rfl) ?_
  refine AOps.name (u := 8) (fun z => .val (.bool z)) (by first|simp only[nf,Nat.beq]<;>rfl|rfl) (fun b8 hb8 => ?_)
  refine n_soft (u := 8) (E := .val (.bool b8)) (b8) rfl rfl rfl (by first|simp only[nf,Nat.beq]<;>rfl|rfl) (by cases b8 <;> first | (intro _; rfl) | (intro h; exact absurd h (by decide))) (by cases b8 <;> first | (intro h; exact absurd h (by decide)) | (intro _; exact ⟨_, rfl, by first | (intro h; cases h; done) | decide | simp⟩)) (fun h => by
      cases b8 with
      | false => exact absurd h (by first | decide | simp)
      | true =>
        refine n_move rfl (by first|simp only[nf,Nat.beq]<;>rfl|rfl) ?_
        exact AOps.nil ⟨rfl, rfl, rfl⟩) ?_
  refine n_soft (u := 8) (E := .val (.bool b8)) (b8) rfl rfl rfl (by first|simp only[nf,Nat.beq]<;>rfl|rfl) (by cases b8 <;> first | (intro _; rfl) | (intro h; exact absurd h (by decide))) (by cases b8 <;> first | (intro h; exact absurd h (by decide)) | (intro _; exact ⟨_, rfl, by first | (intro h; cases h; done) | decide | simp⟩)) (fun h => by
      cases b8 with
      | false => exact absurd h (by first | decide | simp)
      | true =>
        refine n_nilCheck rfl (by first|simp only[nf,Nat.beq]<;>rfl|rfl) rfl ?_
        exact AOps.nil ⟨rfl, rfl, rfl⟩) ?_
  refine n_soft (u := 8) (E := .val (.bool b8)) (b8) rfl rfl rfl (by first|simp only[nf,Nat.beq]<;>rfl|rfl) (by cases b8 <;> first | (intro _; rfl) | (intro h; exact absurd h (by decide))) (by cases b8 <;> first | (intro h; exact absurd h (by decide)) | (intro _; exact ⟨_, rfl, by first | (intro h; cases h; done) | decide | simp⟩)) (fun h => by
      cases b8 with
      | false => exact absurd h (by first | decide | simp)
      | true =>
        refine n_fieldAddr rfl fd108_0 ti22 rfl (by first|simp only[nf,Nat.beq]<;>rfl|rfl) rfl (by first|simp only[nf,Nat.beq]<;>rfl|rfl) ?_
        exact AOps.nil ⟨rfl, rfl, rfl⟩) ?_
  refine n_soft (u := 8) (E := .val (.bool b8)) (b8) rfl rfl rfl (by first|simp only[nf,Nat.beq]<;>rfl|rfl) (by cases b8 <;> first | (intro _; rfl) | (intro h; exact absurd h (by decide))) (by cases b8 <;> first | (intro h; exact absurd h (by decide)) | (intro _; exact ⟨_, rfl, by first | (intro h; cases h; done) | decide | simp⟩)) (fun h => by
      cases b8 with
      | false => exact absurd h (by first | decide | simp)
      | true =>
        refine n_load rfl ti22 (by first|simp only[nf,Nat.beq]<;>rfl|rfl) (by first|simp only[nf,Nat.beq]<;>rfl|rfl) rfl (by first|simp only[nf,Nat.beq]<;>rfl|rfl) ?_
        exact AOps.nil ⟨rfl, rfl, rfl⟩) ?_
  refine n_soft (u := 8) (E := .val (.bool b8)) (b8) rfl rfl rfl (by first|simp only[nf,Nat.beq]<;>rfl|rfl) (by cases b8 <;> first | (intro _; rfl) | (intro h; exact absurd h (by decide))) (by cases b8 <;> first | (intro h; exact absurd h (by decide)) | (intro _; exact ⟨_, rfl, by first | (intro h; cases h; done) | decide | simp⟩)) (fun h => by
      cases b8 with
      | false => exact absurd h (by first | decide | simp)
      | true =>
        refine n_len rfl Try.underlying22 (by first|simp only[nf,Nat.beq]<;>rfl|rfl) (by first | rw [ints_length] | rfl) ?_
        exact AOps.nil ⟨rfl, rfl, rfl⟩) ?_
  refine n_soft (u := 8) (E := .val (.bool b8)) (b8) rfl rfl rfl (by first|simp only[nf,Nat.beq]<;>rfl|rfl) (by cases b8 <;> first | (intro _; rfl) | (intro h; exact absurd h (by decide))) (by cases b8 <;> first | (intro h; exact absurd h (by decide)) | (intro _; exact ⟨_, rfl, by first | (intro h; cases h; done) | decide | simp⟩)) (fun h => by
      cases b8 with
      | false => exact absurd h (by first | decide | simp)
      | true =>
        refine n_ibin rfl (by first|simp only[nf,Nat.beq]<;>rfl|rfl) (by first|simp only[nf,Nat.beq]<;>rfl|rfl) rfl ?_
        exact AOps.nil ⟨rfl, rfl, rfl⟩) ?_
  refine n_pick_and rfl (by first|simp only[nf,Nat.beq]<;>rfl|rfl) (fun h => by cases b8 with | false => exact absurd h (by decide) | true => exact (by first|simp only[nf,Nat.beq]<;>rfl|rfl)) ?_
  subst hb8
  refine AOps.nil ?_
  refine AWP.cond (by first|simp only[nf,Nat.beq]<;>rfl|rfl) (fun hc1 => ?_) (fun hc1 => ?_)
  · try simp only [nh] at hc1
    refine AWP.seq ?_
    refine AWP.region ?_
    refine n_assign rfl (by first|simp only[nf,Nat.beq]<;>rfl|rfl) ?_
    refine AOps.nil ?_
    refine AWP.ret ?_
    refine fin_box (.cons (rv_tmp (by first|simp only[nf,Nat.beq]<;>rfl|rfl)) .nil) (by first|simp only[nf,Nat.beq]<;>rfl|rfl) ?_ rfl ?_
    · first | exact ren_flat rfl rfl | (refine ren_flat rfl (congrArg vi ?_); (try simp only [Up.close]); grind)
    · first | refine renR ?_ ?_ <;> (try simp only [Up.close, Up.clr]) <;> grind | refine renR0 ?_ ?_ <;> (try simp only [Up.close, Up.clr]) <;> grind
  · try simp only [nh] at hc1
    refine AWP.skip ?_
    refine AWP.seq ?_
    refine AWP.region ?_
    refine n_move rfl (by first|simp only[nf,Nat.beq]<;>rfl|rfl) ?_
    refine n_nilCheck rfl (by first|simp only[nf,Nat.beq]<;>rfl|rfl) rfl ?_
    refine n_fieldAddr rfl fd108_1 ti28 rfl (by first|simp only[nf,Nat.beq]<;>rfl|rfl) rfl (by first|simp only[nf,Nat.beq]<;>rfl|rfl) ?_
    refine n_load rfl ti28 (by first|simp only[nf,Nat.beq]<;>rfl|rfl) (by first|simp only[nf,Nat.beq]<;>rfl|rfl) rfl (by first|simp only[nf,Nat.beq]<;>rfl|rfl) ?_
    refine n_assign rfl (by first|simp only[nf,Nat.beq]<;>rfl|rfl) ?_
    refine AOps.nil ?_
    refine AWP.ret ?_
    refine fin_box (.cons (rv_tmp (by first|simp only[nf,Nat.beq]<;>rfl|rfl)) .nil) (by first|simp only[nf,Nat.beq]<;>rfl|rfl) ?_ rfl ?_
    · first | exact ren_flat rfl rfl | (refine ren_flat rfl (congrArg vi ?_); (try simp only [Up.close]); grind)
    · first | refine renR ?_ ?_ <;> (try simp only [Up.close, Up.clr]) <;> grind | refine renR0 ?_ ?_ <;> (try simp only [Up.close, Up.clr]) <;> grind

theorem ru_int (b : List Int) (e : Int) (hc : e ≠ 0 → b = []) (lo hi : Int) (hb : Byt b) (hl : L40 b) : Does Try.prog 198 [.bp 0 0, vi lo, vi hi] [.box (Up.rz ⟨b, e⟩)] (vi (Up.int ⟨b, e⟩ lo hi).1) [.box (Up.rz ⟨(Up.int ⟨b, e⟩ lo hi).2.clr.b, (Up.int ⟨b, e⟩ lo hi).2.clr.e⟩)] := by
  refine Does.of_body (rvs := [.tmp 6]) Try.func198 rfl rfl rfl rfl ?_
  have hbd := @firstP_bd b
  have her := firstG_err b 0 0
  refine AWP.seq ?_
  refine AWP.region ?_
  refine n_assign rfl (by first|simp only[nf,Nat.beq]<;>rfl|rfl) ?_
  refine AOps.nil ?_
  refine AWP.seq ?_
  refine AWP.seq ?_
  refine AWP.region ?_
  refine n_move rfl (by first|simp only[nf,Nat.beq]<;>rfl|rfl) ?_
  refine n_nilCheck rfl (by first|simp only[nf,Nat.beq]<;>rfl|rfl) rfl ?_
  refine n_fieldAddr rfl fd108_1 ti28 rfl (by first|simp only[nf,Nat.beq]<;>rfl|rfl) rfl (by first|simp only[nf,Nat.beq]<;>rfl|rfl) ?_
  refine n_load rfl ti28 (by first|simp only[nf,Nat.beq]<;>rfl|rfl) (by first|simp only[nf,Nat.beq]<;>rfl|rfl) rfl (by first|simp only[nf,Nat.beq]<;>rfl|rfl) ?_
  refine n_ibin rfl (by first|simp only[nf,Nat.beq]<;>rfl|rfl) (by first|simp only[nf,Nat.beq]<;>rfl|rfl) rfl ?_
  refine AOps.nil ?_
  refine AWP.cond (by first|simp only[nf,Nat.beq]<;>rfl|rfl) (fun hc1 => ?_) (fun hc1 => ?_)
  · try simp only [nh] at hc1
    refine AWP.seq ?_
    refine AWP.region ?_
    refine n_assign rfl (by first|simp only[nf,Nat.beq]<;>rfl|rfl) ?_
    refine AOps.nil ?_
    refine AWP.ret ?_
    refine fin_box (.cons (rv_tmp (by first|simp only[nf,Nat.beq]<;>rfl|rfl)) .nil) (by first|simp only[nf,Nat.beq]<;>rfl|rfl) ?_ rfl ?_
    · first | exact ren_flat rfl rfl | (refine ren_flat rfl (congrArg vi ?_); (try simp only [Up.spoil, Up.int]); grind)
    · first | refine renR ?_ ?_ <;> (try simp only [Up.spoil, Up.int, Up.clr]) <;> grind | refine renR0 ?_ ?_ <;> (try simp only [Up.spoil, Up.int, Up.clr]) <;> grind
  · try simp only [nh] at hc1
    refine AWP.skip ?_
    refine AWP.seq ?_
    refine AWP.region ?_
    refine n_move rfl (by first|simp only[nf,Nat.beq]<;>rfl|rfl) ?_
    refine n_nilCheck rfl (by first|simp only[nf,Nat.beq]<;>rfl|rfl) rfl ?_
    refine n_fieldAddr rfl fd108_0 ti22 rfl (by first|simp only[nf,Nat.beq]<;>rfl|rfl) rfl (by first|simp only[nf,Nat.beq]<;>rfl|rfl) ?_
    refine n_load rfl ti22 (by first|simp only[nf,Nat.beq]<;>rfl|rfl) (by first|simp only[nf,Nat.beq]<;>rfl|rfl) rfl (by first|simp only[nf,Nat.beq]<;>rfl|rfl) ?_
    refine n_call0B rfl cf104 rfl (Eq.trans (by simp only [nl] <;> rfl) (by first|simp only[nf,Nat.beq]<;>rfl|rfl)) (by repeat (first | exact .nil | refine .cons ?_ ?_ | exact ren_ints | exact .lf (.val _) | exact .lf (lf_ints (.inl rfl)) | exact .bp ⟨rfl, rfl⟩ | exact .bp (.inl ⟨rfl, rfl⟩) | exact .bp (.inr ⟨rfl, rfl⟩) | exact .lf (D.flat_lf rfl) | exact ren_lits rfl)) (r_first _ (by assumption) (by assumption)) (by first | exact .val _ | exact lf_ints (.inl rfl) | exact lf_ints (.inr rfl) | exact .any | exact D.flat_lf rfl) ?_
    refine n_move rfl (by first|simp only[nf,Nat.beq]<;>rfl|rfl) ?_
    refine n_extract rfl (by first|simp only[nf,Nat.beq]<;>rfl|rfl) rfl ?_
    refine n_extract rfl (by first|simp only[nf,Nat.beq]<;>rfl|rfl) rfl ?_
    refine n_extract rfl (by first|simp only[nf,Nat.beq]<;>rfl|rfl) rfl ?_
    refine n_assign rfl (by first|simp only[nf,Nat.beq]<;>rfl|rfl) ?_
    refine n_assign rfl (by first|simp only[nf,Nat.beq]<;>rfl|rfl) ?_
    refine n_assign rfl (by first|simp only[nf,Nat.beq]<;>rfl|rfl) ?_
    refine AOps.nil ?_
    refine AWP.seq ?_
    refine AWP.seq ?_
    refine AWP.region ?_
    refine n_move rfl (by first|simp only[nf,Nat.beq]<;>rfl|rfl) ?_
    refine n_ibin rfl (by first|simp only[nf,Nat.beq]<;>rfl|rfl) (by first|simp only[nf,Nat.beq]<;>rfl|rfl) rfl ?_
    refine n_move rfl (by first|simp only[nf,Nat.beq]<;>rfl|rfl) ?_
    refine AOps.name (u := 26) (fun z => .val (.bool z)) (by first|simp only[nf,Nat.beq]<;>rfl|rfl) (fun b26 hb26 => ?_)
    refine n_soft (u := 26) (E := .val (.bool b26)) (b26) rfl rfl rfl (by first|simp only[nf,Nat.beq]<;>rfl|rfl) (by cases b26 <;> first | (intro _; rfl) | (intro h; exact absurd h (by decide))) (by cases b26 <;> first | (intro h; exact absurd h (by decide)) | (intro _; exact ⟨_, rfl, by first | (intro h; cases h; done) | decide | simp⟩)) (fun h => by
        cases b26 with
        | false => exact absurd h (by first | decide | simp)
        | true =>
          refine n_move rfl (by first|simp only[nf,Nat.beq]<;>rfl|rfl) ?_
          exact AOps.nil ⟨rfl, rfl, rfl⟩) ?_
    refine n_soft (u := 26) (E := .val (.bool b26)) (b26) rfl rfl rfl (by first|simp only[nf,Nat.beq]<;>rfl|rfl) (by cases b26 <;> first | (intro _; rfl) | (intro h; exact absurd h (by decide))) (by cases b26 <;> first | (intro h; exact absurd h (by decide)) | (intro _; exact ⟨_, rfl, by first | (intro h; cases h; done) | decide | simp⟩)) (fun h => by
        cases b26 with
        | false => exact absurd h (by first | decide | simp)
        | true =>
          refine n_move rfl (by first|simp only[nf,Nat.beq]<;>rfl|rfl) ?_
          exact AOps.nil ⟨rfl, rfl, rfl⟩) ?_
    refine n_soft (u := 26) (E := .val (.bool b26)) (b26) rfl rfl rfl (by first|simp only[nf,Nat.beq]<;>rfl|rfl) (by cases b26 <;> first | (intro _; rfl) | (intro h; exact absurd h (by decide))) (by cases b26 <;> first | (intro h; exact absurd h (by decide)) | (intro _; exact ⟨_, rfl, by first | (intro h; cases h; done) | decide | simp⟩)) (fun h => by
        cases b26 with
        | false => exact absurd h (by first | decide | simp)
        | true =>
          refine n_ibin rfl (by first|simp only[nf,Nat.beq]<;>rfl|rfl) (by first|simp only[nf,Nat.beq]<;>rfl|rfl) rfl ?_
          exact AOps.nil ⟨rfl, rfl, rfl⟩) ?_
    refine n_soft (u := 26) (E := .val (.bool b26)) (b26) rfl rfl rfl (by first|simp only[nf,Nat.beq]<;>rfl|rfl) (by cases b26 <;> first | (intro _; rfl) | (intro h; exact absurd h (by decide))) (by cases b26 <;> first | (intro h; exact absurd h (by decide)) | (intro _; exact ⟨_, rfl, by first | (intro h; cases h; done) | decide | simp⟩)) (fun h => by
        cases b26 with
        | false => exact absurd h (by first | decide | simp)
        | true =>
          refine n_move rfl (by first|simp only[nf,Nat.beq]<;>rfl|rfl) ?_
          exact AOps.nil ⟨rfl, rfl, rfl⟩) ?_
    refine AOps.name (u := 30) (fun z => bif (b26) then .val (.bool z) else .val undef) (by first|simp only[nf,Nat.beq]<;>rfl|rfl) (fun b30 hb30 => ?_)
    refine n_soft (u := 30) (E := bif (b26) then .val (.bool b30) else .val undef) (b26 && !b30) rfl rfl rfl (by first|simp only[nf,Nat.beq]<;>rfl|rfl) (by cases b26 <;> cases b30 <;> first | (intro _; rfl) | (intro h; exact absurd h (by decide))) (by cases b26 <;> cases b30 <;> first | (intro h; exact absurd h (by decide)) | (intro _; exact ⟨_, rfl, by first | (intro h; cases h; done) | decide | simp⟩)) (fun h => by
        cases b26 with
        | false => exact absurd h (by first | decide | simp)
        | true =>
          cases b30 with
          | true => exact absurd h (by first | decide | simp)
          | false =>
            refine n_move rfl (by first|simp only[nf,Nat.beq]<;>rfl|rfl) ?_
            exact AOps.nil ⟨rfl, rfl, rfl⟩) ?_
    refine n_soft (u := 30) (E := bif (b26) then .val (.bool b30) else .val undef) (b26 && !b30) rfl rfl rfl (by first|simp only[nf,Nat.beq]<;>rfl|rfl) (by cases b26 <;> cases b30 <;> first | (intro _; rfl) | (intro h; exact absurd h (by decide))) (by cases b26 <;> cases b30 <;> first | (intro h; exact absurd h (by decide)) | (intro _; exact ⟨_, rfl, by first | (intro h; cases h; done) | decide | simp⟩)) (fun h => by
        cases b26 with
        | false => exact absurd h (by first | decide | simp)
        | true =>
          cases b30 with
          | true => exact absurd h (by first | decide | simp)
          | false =>
            refine n_move rfl (by first|simp only[nf,Nat.beq]<;>rfl|rfl) ?_
            exact AOps.nil ⟨rfl, rfl, rfl⟩) ?_
    refine n_soft (u := 30) (E := bif (b26) then .val (.bool b30) else .val undef) (b26 && !b30) rfl rfl rfl (by first|simp only[nf,Nat.beq]<;>rfl|rfl) (by cases b26 <;> cases b30 <;> first | (intro _; rfl) | (intro h; exact absurd h (by decide))) (by cases b26 <;> cases b30 <;> first | (intro h; exact absurd h (by decide)) | (intro _; exact ⟨_, rfl, by first | (intro h; cases h; done) | decide | simp⟩)) (fun h => by
        cases b26 with
        | false => exact absurd h (by first | decide | simp)
        | true =>
          cases b30 with
          | true => exact absurd h (by first | decide | simp)
          | false =>
            refine n_ibin rfl (by first|simp only[nf,Nat.beq]<;>rfl|rfl) (by first|simp only[nf,Nat.beq]<;>rfl|rfl) rfl ?_
            exact AOps.nil ⟨rfl, rfl, rfl⟩) ?_
    refine n_soft (u := 26) (E := .val (.bool b26)) (b26) rfl rfl rfl (by first|simp only[nf,Nat.beq]<;>rfl|rfl) (by cases b26 <;> first | (intro _; rfl) | (intro h; exact absurd h (by decide))) (by cases b26 <;> first | (intro h; exact absurd h (by decide)) | (intro _; exact ⟨_, rfl, by first | (intro h; cases h; done) | decide | simp⟩)) (fun h => by
        cases b26 with
        | false => exact absurd h (by first | decide | simp)
        | true =>
          refine n_pick_or rfl (by first|simp only[nf,Nat.beq]<;>rfl|rfl) (fun h => by cases b30 with | true => exact absurd h (by decide) | false => exact (by first|simp only[nf,Nat.beq]<;>rfl|rfl)) ?_
          exact AOps.nil ⟨rfl, rfl, rfl⟩) ?_
    refine n_pick_and rfl (by first|simp only[nf,Nat.beq]<;>rfl|rfl) (fun h => by cases b26 with | false => exact absurd h (by decide) | true => exact (by first|simp only[nf,Nat.beq]<;>rfl|rfl)) ?_
    subst hb26
    subst hb30
    refine AOps.nil ?_
    refine AWP.cond (by first|simp only[nf,Nat.beq]<;>rfl|rfl) (fun hc2 => ?_) (fun hc2 => ?_)
    · try simp only [nh] at hc2
      refine AWP.region ?_
      refine n_assign rfl (by first|simp only[nf,Nat.beq]<;>rfl|rfl) ?_
      refine AOps.nil ?_
      refine AWP.seq ?_
      refine AWP.seq ?_
      refine AWP.region ?_
      refine n_move rfl (by first|simp only[nf,Nat.beq]<;>rfl|rfl) ?_
      refine n_ibin rfl (by first|simp only[nf,Nat.beq]<;>rfl|rfl) (by first|simp only[nf,Nat.beq]<;>rfl|rfl) rfl ?_
      refine AOps.nil ?_
      refine AWP.cond (by first|simp only[nf,Nat.beq]<;>rfl|rfl) (fun hc3 => ?_) (fun hc3 => ?_)
      · try simp only [nh] at hc3
        refine AWP.seq ?_
        refine AWP.region ?_
        refine n_move rfl (by first|simp only[nf,Nat.beq]<;>rfl|rfl) ?_
        refine n_move rfl (by first|simp only[nf,Nat.beq]<;>rfl|rfl) ?_
        refine n_callBoxB rfl cf201 rfl (Eq.trans (by simp only [nl] <;> rfl) (by first|simp only[nf,Nat.beq]<;>rfl|rfl)) (by repeat (first | exact .nil | refine .cons ?_ ?_ | exact ren_ints | exact .lf (.val _) | exact .lf (lf_ints (.inl rfl)) | exact .bp ⟨rfl, rfl⟩ | exact .bp (.inl ⟨rfl, rfl⟩) | exact .bp (.inr ⟨rfl, rfl⟩) | exact .lf (D.flat_lf rfl) | exact ren_lits rfl)) (by rfl) (by repeat (first | exact .nil | refine .cons ?_ ?_ | exact ren_ints | exact .lf (.val _) | exact .lf (lf_ints (.inl rfl)) | exact .bp ⟨rfl, rfl⟩ | exact .bp (.inl ⟨rfl, rfl⟩) | exact .bp (.inr ⟨rfl, rfl⟩) | exact .lf (D.flat_lf rfl) | exact ren_lits rfl)) (ru_spoil _ _ (by grind) _) (by repeat (first | exact lf_nil | refine lf_cons ?_ ?_ | exact .val _ | exact lf_ints (.inl rfl))) (by first | exact .val _ | exact lf_ints (.inl rfl) | exact lf_ints (.inr rfl) | exact .any | exact D.flat_lf rfl) (by first|simp only[nf,Nat.beq]<;>rfl|rfl) ?_
        refine AOps.nil ?_
        refine AWP.seq ?_
        refine AWP.region ?_
        refine n_assign rfl (by first|simp only[nf,Nat.beq]<;>rfl|rfl) ?_
        refine AOps.nil ?_
        refine AWP.ret ?_
        refine fin_box (.cons (rv_tmp (by first|simp only[nf,Nat.beq]<;>rfl|rfl)) .nil) (by first|simp only[nf,Nat.beq]<;>rfl|rfl) ?_ rfl ?_
        · first | exact ren_flat rfl rfl | (refine ren_flat rfl (congrArg vi ?_); (try simp only [Up.spoil, Up.int]); grind)
        · first | refine renR ?_ ?_ <;> (try simp only [Up.spoil, Up.int, Up.clr]) <;> grind | refine renR0 ?_ ?_ <;> (try simp only [Up.spoil, Up.int, Up.clr]) <;> grind
      · try simp only [nh] at hc3
        refine AWP.skip ?_
        refine AWP.seq ?_
        refine AWP.region ?_
        refine n_move rfl (by first|simp only[nf,Nat.beq]<;>rfl|rfl) ?_
        refine n_move rfl (by first|simp only[nf,Nat.beq]<;>rfl|rfl) ?_
        refine n_nilCheck rfl (by first|simp only[nf,Nat.beq]<;>rfl|rfl) rfl ?_
        refine n_fieldAddr rfl fd108_0 ti22 rfl (by first|simp only[nf,Nat.beq]<;>rfl|rfl) rfl (by first|simp only[nf,Nat.beq]<;>rfl|rfl) ?_
        refine n_load rfl ti22 (by first|simp only[nf,Nat.beq]<;>rfl|rfl) (by first|simp only[nf,Nat.beq]<;>rfl|rfl) rfl (by first|simp only[nf,Nat.beq]<;>rfl|rfl) ?_
        refine n_move rfl (by first|simp only[nf,Nat.beq]<;>rfl|rfl) ?_
        refine n_slice rfl Try.underlying22 ti5 (by first|simp only[nf,Nat.beq]<;>rfl|rfl) SB.none (SB.some (by first|simp only[nf,Nat.beq]<;>rfl|rfl) (by first | rfl | omega)) (by first | omega | (simp only [ints_length]; omega)) (by first | omega | (simp only [ints_length]; omega) | exact Nat.le_refl _) (ints_one _ _) (by first | (simp only [ints_take, ints_drop, List.take_length, ints_length, List.drop_zero] <;> rfl) | rfl) ?_
        refine n_nilCheck rfl (by first|simp only[nf,Nat.beq]<;>rfl|rfl) rfl ?_
        refine n_fieldAddr rfl fd108_0 ti22 rfl (by first|simp only[nf,Nat.beq]<;>rfl|rfl) rfl (by first|simp only[nf,Nat.beq]<;>rfl|rfl) ?_
        refine n_store ti22 (by first|simp only[nf,Nat.beq]<;>rfl|rfl) rfl (by first|simp only[nf,Nat.beq]<;>rfl|rfl) rfl (by first|simp only[nf,Nat.beq]<;>rfl|rfl) rfl rfl rfl (by first|simp only[nf,Nat.beq]<;>rfl|rfl) ?_
        refine AOps.nil ?_
        refine AWP.seq ?_
        refine AWP.region ?_
        refine n_move rfl (by first|simp only[nf,Nat.beq]<;>rfl|rfl) ?_
        refine n_assign rfl (by first|simp only[nf,Nat.beq]<;>rfl|rfl) ?_
        refine AOps.nil ?_
        refine AWP.ret ?_
        refine fin_box (.cons (rv_tmp (by first|simp only[nf,Nat.beq]<;>rfl|rfl)) .nil) (by first|simp only[nf,Nat.beq]<;>rfl|rfl) ?_ rfl ?_
        · first | exact ren_flat rfl rfl | (refine ren_flat rfl (congrArg vi ?_); (try simp only [Up.spoil, Up.int]); grind)
        · first | refine renR ?_ ?_ <;> (try simp only [Up.spoil, Up.int, Up.clr]) <;> grind | refine renR0 ?_ ?_ <;> (try simp only [Up.spoil, Up.int, Up.clr]) <;> grind
    · try simp only [nh] at hc2
      refine AWP.skip ?_
      refine AWP.seq ?_
      refine AWP.seq ?_
      refine AWP.region ?_
      refine n_move rfl (by first|simp only[nf,Nat.beq]<;>rfl|rfl) ?_
      refine n_ibin rfl (by first|simp only[nf,Nat.beq]<;>rfl|rfl) (by first|simp only[nf,Nat.beq]<;>rfl|rfl) rfl ?_
      refine AOps.nil ?_
      refine AWP.cond (by first|simp only[nf,Nat.beq]<;>rfl|rfl) (fun hc4 => ?_) (fun hc4 => ?_)
      · try simp only [nh] at hc4
        refine AWP.seq ?_
        refine AWP.region ?_
        refine n_move rfl (by first|simp only[nf,Nat.beq]<;>rfl|rfl) ?_
        refine n_move rfl (by first|simp only[nf,Nat.beq]<;>rfl|rfl) ?_
        refine n_callBoxB rfl cf201 rfl (Eq.trans (by simp only [nl] <;> rfl) (by first|simp only[nf,Nat.beq]<;>rfl|rfl)) (by repeat (first | exact .nil | refine .cons ?_ ?_ | exact ren_ints | exact .lf (.val _) | exact .lf (lf_ints (.inl rfl)) | exact .bp ⟨rfl, rfl⟩ | exact .bp (.inl ⟨rfl, rfl⟩) | exact .bp (.inr ⟨rfl, rfl⟩) | exact .lf (D.flat_lf rfl) | exact ren_lits rfl)) (by rfl) (by repeat (first | exact .nil | refine .cons ?_ ?_ | exact ren_ints | exact .lf (.val _) | exact .lf (lf_ints (.inl rfl)) | exact .bp ⟨rfl, rfl⟩ | exact .bp (.inl ⟨rfl, rfl⟩) | exact .bp (.inr ⟨rfl, rfl⟩) | exact .lf (D.flat_lf rfl) | exact ren_lits rfl)) (ru_spoil _ _ (by grind) _) (by repeat (first | exact lf_nil | refine lf_cons ?_ ?_ | exact .val _ | exact lf_ints (.inl rfl))) (by first | exact .val _ | exact lf_ints (.inl rfl) | exact lf_ints (.inr rfl) | exact .any | exact D.flat_lf rfl) (by first|simp only[nf,Nat.beq]<;>rfl|rfl) ?_
        refine AOps.nil ?_
        refine AWP.seq ?_
        refine AWP.region ?_
        refine n_assign rfl (by first|simp only[nf,Nat.beq]<;>rfl|rfl) ?_
        refine AOps.nil ?_
        refine AWP.ret ?_
        refine fin_box (.cons (rv_tmp (by first|simp only[nf,Nat.beq]<;>rfl|rfl)) .nil) (by first|simp only[nf,Nat.beq]<;>rfl|rfl) ?_ rfl ?_
        · first | exact ren_flat rfl rfl | (refine ren_flat rfl (congrArg vi ?_); (try simp only [Up.spoil, Up.int]); grind)
        · first | refine renR ?_ ?_ <;> (try simp only [Up.spoil, Up.int, Up.clr]) <;> grind | refine renR0 ?_ ?_ <;> (try simp only [Up.spoil, Up.int, Up.clr]) <;> grind
      · try simp only [nh] at hc4
        refine AWP.skip ?_
        refine AWP.seq ?_
        refine AWP.region ?_
        refine n_move rfl (by first|simp only[nf,Nat.beq]<;>rfl|rfl) ?_
        refine n_move rfl (by first|simp only[nf,Nat.beq]<;>rfl|rfl) ?_
        refine n_nilCheck rfl (by first|simp only[nf,Nat.beq]<;>rfl|rfl) rfl ?_
        refine n_fieldAddr rfl fd108_0 ti22 rfl (by first|simp only[nf,Nat.beq]<;>rfl|rfl) rfl (by first|simp only[nf,Nat.beq]<;>rfl|rfl) ?_
        refine n_load rfl ti22 (by first|simp only[nf,Nat.beq]<;>rfl|rfl) (by first|simp only[nf,Nat.beq]<;>rfl|rfl) rfl (by first|simp only[nf,Nat.beq]<;>rfl|rfl) ?_
        refine n_move rfl (by first|simp only[nf,Nat.beq]<;>rfl|rfl) ?_
        refine n_slice rfl Try.underlying22 ti5 (by first|simp only[nf,Nat.beq]<;>rfl|rfl) SB.none (SB.some (by first|simp only[nf,Nat.beq]<;>rfl|rfl) (by first | rfl | omega)) (by first | omega | (simp only [ints_length]; omega)) (by first | omega | (simp only [ints_length]; omega) | exact Nat.le_refl _) (ints_one _ _) (by first | (simp only [ints_take, ints_drop, List.take_length, ints_length, List.drop_zero] <;> rfl) | rfl) ?_
        refine n_nilCheck rfl (by first|simp only[nf,Nat.beq]<;>rfl|rfl) rfl ?_
        refine n_fieldAddr rfl fd108_0 ti22 rfl (by first|simp only[nf,Nat.beq]<;>rfl|rfl) rfl (by first|simp only[nf,Nat.beq]<;>rfl|rfl) ?_
        refine n_store ti22 (by first|simp only[nf,Nat.beq]<;>rfl|rfl) rfl (by first|simp only[nf,Nat.beq]<;>rfl|rfl) rfl (by first|simp only[nf,Nat.beq]<;>rfl|rfl) rfl rfl rfl (by first|simp only[nf,Nat.beq]<;>rfl|rfl) ?_
        refine AOps.nil ?_
        refine AWP.seq ?_
        refine AWP.region ?_
        refine n_move rfl (by first|simp only[nf,Nat.beq]<;>rfl|rfl) ?_
        refine n_assign rfl (by first|simp only[nf,Nat.beq]<;>rfl|rfl) ?_
        refine AOps.nil ?_
        refine AWP.ret ?_
        refine fin_box (.cons (rv_tmp (by first|simp only[nf,Nat.beq]<;>rfl|rfl)) .nil) (by first|simp only[nf,Nat.beq]<;>rfl|rfl) ?_ rfl ?_
        · first | exact ren_flat rfl rfl | (refine ren_flat rfl (congrArg vi ?_); (try simp only [Up.spoil, Up.int]); grind)
        · first | refine renR ?_ ?_ <;> (try simp only [Up.spoil, Up.int, Up.clr]) <;> grind | refine renR0 ?_ ?_ <;> (try simp only [Up.spoil, Up.int, Up.clr]) <;> grind

theorem u_open (b : List Int) (hl : L40 b) : Does Try.prog 84 [bys b] [] (.bp 0 0) [.box (Up.z ⟨b, 0⟩)] := by
  refine Does.of_body (rvs := [.tmp 2]) Try.func84 rfl rfl rfl rfl ?_
  refine AWP.seq ?_
  refine AWP.region ?_
  refine n_assign rfl (by first|simp only[nf,Nat.beq]<;>rfl|rfl) ?_
  refine AOps.nil ?_
  refine AWP.seq ?_
  refine AWP.region ?_
  refine n_move rfl (by first|simp only[nf,Nat.beq]<;>rfl|rfl) ?_
  refine n_call0B rfl cf36 rfl (Eq.trans (by simp only [nl] <;> rfl) (by first|simp only[nf,Nat.beq]<;>rfl|rfl)) (by repeat (first | exact .nil | refine .cons ?_ ?_ | exact ren_ints | exact .lf (.val _) | exact .lf (lf_ints (.inl rfl)) | exact .bp ⟨rfl, rfl⟩ | exact .bp (.inl ⟨rfl, rfl⟩) | exact .bp (.inr ⟨rfl, rfl⟩) | exact .lf (D.flat_lf rfl) | exact ren_lits rfl)) (s_clone _ (by first | assumption | (simp only [L40, List.length_take, List.length_drop] at *; omega))) (by first | exact .val _ | exact lf_ints (.inl rfl) | exact lf_ints (.inr rfl) | exact .any | exact D.flat_lf rfl) ?_
  refine n_build rfl si111 (Eq.trans (by simp only [nl] <;> rfl) (by first|simp only[nf,Nat.beq]<;>rfl|rfl)) (Eq.trans (by simp only [nl] <;> rfl) (by first|simp only[nf,Nat.beq]<;>rfl|rfl)) rfl ?_
  refine n_box rfl (by first|simp only[nf,Nat.beq]<;>rfl|rfl) rfl rfl (by first|simp only[nf,Nat.beq]<;>rfl|rfl) (by first|simp only[nf,Nat.beq]<;>rfl|rfl) ?_
  refine n_assign rfl (by first|simp only[nf,Nat.beq]<;>rfl|rfl) ?_
  refine AOps.nil ?_
  refine AWP.ret ?_
  refine fin_new (.cons (rv_tmp (by first|simp only[nf,Nat.beq]<;>rfl|rfl)) .nil) (by first|simp only[nf,Nat.beq]<;>rfl|rfl) rfl ?_
  exact renU rfl rfl

theorem ru_open (b : List Int) (hl : L40 b) : Does Try.prog 89 [bys b] [] (.bp 0 0) [.box (Up.rz ⟨b, 0⟩)] := by
  refine Does.of_body (rvs := [.tmp 2]) Try.func89 rfl rfl rfl rfl ?_
  refine AWP.seq ?_
  refine AWP.region ?_
  refine n_assign rfl (by first|simp only[nf,Nat.beq]<;>rfl|rfl) ?_
  refine AOps.nil ?_
  refine AWP.seq ?_
  refine AWP.region ?_
  refine n_move rfl (by first|simp only[nf,Nat.beq]<;>rfl|rfl) ?_
  refine n_build rfl si108 (Eq.trans (by simp only [nl] <;> rfl) (by first|simp only[nf,Nat.beq]<;>rfl|rfl)) (Eq.trans (by simp only [nl] <;> rfl) (by first|simp only[nf,Nat.beq]<;>rfl|rfl)) rfl ?_
  refine n_box rfl (by first|simp only[nf,Nat.beq]<;>rfl|rfl) rfl rfl (by first|simp only[nf,Nat.beq]<;>rfl|rfl) (by first|simp only[nf,Nat.beq]<;>rfl|rfl) ?_
  refine n_assign rfl (by first|simp only[nf,Nat.beq]<;>rfl|rfl) ?_
  refine AOps.nil ?_
  refine AWP.ret ?_
  refine fin_new (.cons (rv_tmp (by first|simp only[nf,Nat.beq]<;>rfl|rfl)) .nil) (by first|simp only[nf,Nat.beq]<;>rfl|rfl) rfl ?_
  exact renR rfl rfl

theorem spoil10 {b : List Int} {e : Int} (h : e = 0) : (Up.spoil ⟨b, e⟩ 10).clr = ⟨[], 10⟩ := by simp [Up.spoil, Up.clr, h]
theorem clr_two (b : List Int) (e : Int) : ∃ b2, Up.clr ⟨b, e⟩ = ⟨b2, e⟩ ∧ (e = 0 → b2 = b) ∧ (e ≠ 0 → b2 = []) := by
  by_cases h : e = 0
  · exact ⟨b, Up.clr_b h, fun _ => rfl, fun k => absurd h k⟩
  · exact ⟨[], Up.clr_n h, fun k => absurd k h, fun _ => rfl⟩
theorem ru_str (b : List Int) (e : Int) (hc : e ≠ 0 → b = []) (m : Int) (hm : -9223372036854775808 ≤ m ∧ m ≤ 9223372036854775807) (hb : Byt b) (hl : L40 b) : Does Try.prog 199 [.bp 0 0, vi m] [.box (Up.rz ⟨b, e⟩)] (bys (Up.str ⟨b, e⟩ m).1) [.box (Up.rz ⟨(Up.str ⟨b, e⟩ m).2.clr.b, (Up.str ⟨b, e⟩ m).2.clr.e⟩)] := by
  refine Does.of_body (rvs := [.tmp 4]) Try.func199 rfl rfl rfl rfl ?_
  have hok := Up.int_ok (u := ⟨b, e⟩) ⟨hb, hl⟩ 0 (max 0 m)
  have hin := @Up.int_in ⟨b, e⟩ 0 (max 0 m)
  have hu := ru_int b e hc 0 (max 0 m) hb hl
  obtain ⟨u1, hu1⟩ : ∃ u1, u1 = (Up.int ⟨b, e⟩ 0 (max 0 m)).2 := ⟨_, rfl⟩
  obtain ⟨n, hn⟩ : ∃ n, n = (Up.int ⟨b, e⟩ 0 (max 0 m)).1 := ⟨_, rfl⟩
  rw [← hn, ← hu1] at hin hu
  rw [← hu1] at hok
  obtain ⟨b1, e1⟩ := u1
  obtain ⟨ho1, ho2⟩ := hok
  have hS : Up.str ⟨b, e⟩ m = if e1 ≠ 0 then ([], ⟨b1, e1⟩) else if n > b1.length then ([], ⟨b1, 10⟩) else (b1.take n.toNat, ⟨b1.drop n.toNat, 0⟩) := by simp only [Up.str, ← hn, ← hu1]
  obtain ⟨b2, hb2, hb3, hb4⟩ := clr_two b1 e1
  rw [hb2] at hu
  dsimp only at *
  refine AWP.seq ?_
  refine AWP.region ?_
  refine n_assign rfl (by first|simp only[nf,Nat.beq]<;>rfl|rfl) ?_
  refine AOps.nil ?_
  refine AWP.seq ?_
  refine AWP.region ?_
  refine n_move rfl (by first|simp only[nf,Nat.beq]<;>rfl|rfl) ?_
  refine n_move rfl (by first|simp only[nf,Nat.beq]<;>rfl|rfl) ?_
  refine n_max (T2 := #[]) rfl (by first|simp only[nf,Nat.beq]<;>rfl|rfl) (by first|simp only[nf,Nat.beq]<;>rfl|rfl) (c := max 0 m) (by split <;> omega) ?_
  refine n_callBoxB rfl cf198 rfl (Eq.trans (by simp only [nl] <;> rfl) (by first|simp only[nf,Nat.beq]<;>rfl|rfl)) (by repeat (first | exact .nil | refine .cons ?_ ?_ | exact ren_ints | exact .lf (.val _) | exact .lf (lf_ints (.inl rfl)) | exact .bp ⟨rfl, rfl⟩ | exact .bp (.inl ⟨rfl, rfl⟩) | exact .bp (.inr ⟨rfl, rfl⟩) | exact .lf (D.flat_lf rfl) | exact ren_lits rfl)) (by rfl) (by repeat (first | exact .nil | refine .cons ?_ ?_ | exact ren_ints | exact .lf (.val _) | exact .lf (lf_ints (.inl rfl)) | exact .bp ⟨rfl, rfl⟩ | exact .bp (.inl ⟨rfl, rfl⟩) | exact .bp (.inr ⟨rfl, rfl⟩) | exact .lf (D.flat_lf rfl) | exact ren_lits rfl)) (hu) (by repeat (first | exact lf_nil | refine lf_cons ?_ ?_ | exact .val _ | exact lf_ints (.inl rfl))) (by first | exact .val _ | exact lf_ints (.inl rfl) | exact lf_ints (.inr rfl) | exact .any | exact D.flat_lf rfl) (by first|simp only[nf,Nat.beq]<;>rfl|rfl) ?_
  refine n_assign rfl (by first|simp only[nf,Nat.beq]<;>rfl|rfl) ?_
  refine AOps.nil ?_
  refine AWP.seq ?_
  refine AWP.seq ?_
  refine AWP.region ?_
  refine n_move rfl (by first|simp only[nf,Nat.beq]<;>rfl|rfl) ?_
  refine n_nilCheck rfl (by first|simp only[nf,Nat.beq]<;>rfl|rfl) rfl ?_
  refine n_fieldAddr rfl fd108_1 ti28 rfl (by first|simp only[nf,Nat.beq]<;>rfl|rfl) rfl (by first|simp only[nf,Nat.beq]<;>rfl|rfl) ?_
  refine n_load rfl ti28 (by first|simp only[nf,Nat.beq]<;>rfl|rfl) (by first|simp only[nf,Nat.beq]<;>rfl|rfl) rfl (by first|simp only[nf,Nat.beq]<;>rfl|rfl) ?_
  refine n_ibin rfl (by first|simp only[nf,Nat.beq]<;>rfl|rfl) (by first|simp only[nf,Nat.beq]<;>rfl|rfl) rfl ?_
  refine n_move rfl (by first|simp only[nf,Nat.beq]<;>rfl|rfl) ?_
  refine AOps.name (u := 16) (fun z => .val (.bool z)) (by first|simp only[nf,Nat.beq]<;>rfl|rfl) (fun b16 hb16 => ?_)
  refine n_soft (u := 16) (E := .val (.bool b16)) (b16) rfl rfl rfl (by first|simp only[nf,Nat.beq]<;>rfl|rfl) (by cases b16 <;> first | (intro _; rfl) | (intro h; exact absurd h (by decide))) (by cases b16 <;> first | (intro h; exact absurd h (by decide)) | (intro _; exact ⟨_, rfl, by first | (intro h; cases h; done) | decide | simp⟩)) (fun h => by
      cases b16 with
      | false => exact absurd h (by first | decide | simp)
      | true =>
        refine n_move rfl (by first|simp only[nf,Nat.beq]<;>rfl|rfl) ?_
        exact AOps.nil ⟨rfl, rfl, rfl⟩) ?_
  refine n_soft (u := 16) (E := .val (.bool b16)) (b16) rfl rfl rfl (by first|simp only[nf,Nat.beq]<;>rfl|rfl) (by cases b16 <;> first | (intro _; rfl) | (intro h; exact absurd h (by decide))) (by cases b16 <;> first | (intro h; exact absurd h (by decide)) | (intro _; exact ⟨_, rfl, by first | (intro h; cases h; done) | decide | simp⟩)) (fun h => by
      cases b16 with
      | false => exact absurd h (by first | decide | simp)
      | true =>
        refine n_move rfl (by first|simp only[nf,Nat.beq]<;>rfl|rfl) ?_
        exact AOps.nil ⟨rfl, rfl, rfl⟩) ?_
  refine n_soft (u := 16) (E := .val (.bool b16)) (b16) rfl rfl rfl (by first|simp only[nf,Nat.beq]<;>rfl|rfl) (by cases b16 <;> first | (intro _; rfl) | (intro h; exact absurd h (by decide))) (by cases b16 <;> first | (intro h; exact absurd h (by decide)) | (intro _; exact ⟨_, rfl, by first | (intro h; cases h; done) | decide | simp⟩)) (fun h => by
      cases b16 with
      | false => exact absurd h (by first | decide | simp)
      | true =>
        refine n_nilCheck rfl (by first|simp only[nf,Nat.beq]<;>rfl|rfl) rfl ?_
        exact AOps.nil ⟨rfl, rfl, rfl⟩) ?_
  refine n_soft (u := 16) (E := .val (.bool b16)) (b16) rfl rfl rfl (by first|simp only[nf,Nat.beq]<;>rfl|rfl) (by cases b16 <;> first | (intro _; rfl) | (intro h; exact absurd h (by decide))) (by cases b16 <;> first | (intro h; exact absurd h (by decide)) | (intro _; exact ⟨_, rfl, by first | (intro h; cases h; done) | decide | simp⟩)) (fun h => by
      cases b16 with
      | false => exact absurd h (by first | decide | simp)
      | true =>
        refine n_fieldAddr rfl fd108_0 ti22 rfl (by first|simp only[nf,Nat.beq]<;>rfl|rfl) rfl (by first|simp only[nf,Nat.beq]<;>rfl|rfl) ?_
        exact AOps.nil ⟨rfl, rfl, rfl⟩) ?_
  refine n_soft (u := 16) (E := .val (.bool b16)) (b16) rfl rfl rfl (by first|simp only[nf,Nat.beq]<;>rfl|rfl) (by cases b16 <;> first | (intro _; rfl) | (intro h; exact absurd h (by decide))) (by cases b16 <;> first | (intro h; exact absurd h (by decide)) | (intro _; exact ⟨_, rfl, by first | (intro h; cases h; done) | decide | simp⟩)) (fun h => by
      cases b16 with
      | false => exact absurd h (by first | decide | simp)
      | true =>
        refine n_load rfl ti22 (by first|simp only[nf,Nat.beq]<;>rfl|rfl) (by first|simp only[nf,Nat.beq]<;>rfl|rfl) rfl (by first|simp only[nf,Nat.beq]<;>rfl|rfl) ?_
        exact AOps.nil ⟨rfl, rfl, rfl⟩) ?_
  refine n_soft (u := 16) (E := .val (.bool b16)) (b16) rfl rfl rfl (by first|simp only[nf,Nat.beq]<;>rfl|rfl) (by cases b16 <;> first | (intro _; rfl) | (intro h; exact absurd h (by decide))) (by cases b16 <;> first | (intro h; exact absurd h (by decide)) | (intro _; exact ⟨_, rfl, by first | (intro h; cases h; done) | decide | simp⟩)) (fun h => by
      cases b16 with
      | false => exact absurd h (by first | decide | simp)
      | true =>
        refine n_len rfl Try.underlying22 (by first|simp only[nf,Nat.beq]<;>rfl|rfl) (by first | rw [ints_length] | rfl) ?_
        exact AOps.nil ⟨rfl, rfl, rfl⟩) ?_
  refine n_soft (u := 16) (E := .val (.bool b16)) (b16) rfl rfl rfl (by first|simp only[nf,Nat.beq]<;>rfl|rfl) (by cases b16 <;> first | (intro _; rfl) | (intro h; exact absurd h (by decide))) (by cases b16 <;> first | (intro h; exact absurd h (by decide)) | (intro _; exact ⟨_, rfl, by first | (intro h; cases h; done) | decide | simp⟩)) (fun h => by
      cases b16 with
      | false => exact absurd h (by first | decide | simp)
      | true =>
        refine n_ibin rfl (by first|simp only[nf,Nat.beq]<;>rfl|rfl) (by first|simp only[nf,Nat.beq]<;>rfl|rfl) rfl ?_
        exact AOps.nil ⟨rfl, rfl, rfl⟩) ?_
  refine n_pick_and rfl (by first|simp only[nf,Nat.beq]<;>rfl|rfl) (fun h => by cases b16 with | false => exact absurd h (by decide) | true => exact (by first|simp only[nf,Nat.beq]<;>rfl|rfl)) ?_
  subst hb16
  refine AOps.nil ?_
  refine AWP.cond (by first|simp only[nf,Nat.beq]<;>rfl|rfl) (fun hc1 => ?_) (fun hc1 => ?_)
  · try simp only [nh] at hc1
    have hq := hc1
    have hsp := ru_spoil b2 e1 hb4 10
    rw [spoil10 (by grind)] at hsp
    dsimp only at hsp
    refine AWP.region ?_
    refine n_move rfl (by first|simp only[nf,Nat.beq]<;>rfl|rfl) ?_
    refine n_callBoxB rfl cf201 rfl (Eq.trans (by simp only [nl] <;> rfl) (by first|simp only[nf,Nat.beq]<;>rfl|rfl)) (by repeat (first | exact .nil | refine .cons ?_ ?_ | exact ren_ints | exact .lf (.val _) | exact .lf (lf_ints (.inl rfl)) | exact .bp ⟨rfl, rfl⟩ | exact .bp (.inl ⟨rfl, rfl⟩) | exact .bp (.inr ⟨rfl, rfl⟩) | exact .lf (D.flat_lf rfl) | exact ren_lits rfl)) (by rfl) (by repeat (first | exact .nil | refine .cons ?_ ?_ | exact ren_ints | exact .lf (.val _) | exact .lf (lf_ints (.inl rfl)) | exact .bp ⟨rfl, rfl⟩ | exact .bp (.inl ⟨rfl, rfl⟩) | exact .bp (.inr ⟨rfl, rfl⟩) | exact .lf (D.flat_lf rfl) | exact ren_lits rfl)) (hsp) (by repeat (first | exact lf_nil | refine lf_cons ?_ ?_ | exact .val _ | exact lf_ints (.inl rfl))) (by first | exact .val _ | exact lf_ints (.inl rfl) | exact lf_ints (.inr rfl) | exact .any | exact D.flat_lf rfl) (by first|simp only[nf,Nat.beq]<;>rfl|rfl) ?_
    refine AOps.nil ?_
    refine AWP.seq ?_
    refine AWP.seq ?_
    refine AWP.region ?_
    refine n_move rfl (by first|simp only[nf,Nat.beq]<;>rfl|rfl) ?_
    refine n_nilCheck rfl (by first|simp only[nf,Nat.beq]<;>rfl|rfl) rfl ?_
    refine n_fieldAddr rfl fd108_1 ti28 rfl (by first|simp only[nf,Nat.beq]<;>rfl|rfl) rfl (by first|simp only[nf,Nat.beq]<;>rfl|rfl) ?_
    refine n_load rfl ti28 (by first|simp only[nf,Nat.beq]<;>rfl|rfl) (by first|simp only[nf,Nat.beq]<;>rfl|rfl) rfl (by first|simp only[nf,Nat.beq]<;>rfl|rfl) ?_
    refine n_ibin rfl (by first|simp only[nf,Nat.beq]<;>rfl|rfl) (by first|simp only[nf,Nat.beq]<;>rfl|rfl) rfl ?_
    refine AOps.nil ?_
    refine AWP.cond (by first|simp only[nf,Nat.beq]<;>rfl|rfl) (fun hc2 => ?_) (fun hc2 => ?_)
    · try simp only [nh] at hc2
      have hne := hc2
      refine AWP.seq ?_
      refine AWP.region ?_
      refine n_assign rfl (by first|simp only[nf,Nat.beq]<;>rfl|rfl) ?_
      refine AOps.nil ?_
      refine AWP.ret ?_
      refine fin_box (.cons (rv_tmp (by first|simp only[nf,Nat.beq]<;>rfl|rfl)) .nil) (by first|simp only[nf,Nat.beq]<;>rfl|rfl) ?_ rfl ?_
      · first | (have hz : (Up.str ⟨b, e⟩ m).1 = [] := by (rw [hS]; grind)); (show Ren No No _ (.sl none (ints .u8 _) .ro)); rw [hz]; exact .ro (fun x h => by cases h) | (refine ren_lits ?_; congr 1; rw [hS]; grind)
      · first | (refine renR0 ?_ ?_ <;> rw [hS] <;> (try simp only [Up.clr]) <;> grind) | (refine renR ?_ ?_ <;> rw [hS] <;> (try simp only [Up.clr]) <;> grind)
    · try simp only [nh] at hc2
      have h0 : e1 = 0 := by grind
      have he2 : b2 = b1 := hb3 h0
      have hle : n ≤ b1.length := by grind
      obtain ⟨h1, h2, h3⟩ := hin h0
      obtain ⟨k, hk⟩ : ∃ k : Nat, n = (k : Int) := ⟨n.toNat, by omega⟩
      subst hk he2
      have htl := List.length_take_le k b2
      refine AWP.skip ?_
      refine AWP.seq ?_
      refine AWP.region ?_
      refine n_assign rfl (by first|simp only[nf,Nat.beq]<;>rfl|rfl) ?_
      refine AOps.nil ?_
      refine AWP.seq ?_
      refine AWP.region ?_
      refine n_move rfl (by first|simp only[nf,Nat.beq]<;>rfl|rfl) ?_
      refine n_move rfl (by first|simp only[nf,Nat.beq]<;>rfl|rfl) ?_
      refine n_nilCheck rfl (by first|simp only[nf,Nat.beq]<;>rfl|rfl) rfl ?_
      refine n_fieldAddr rfl fd108_0 ti22 rfl (by first|simp only[nf,Nat.beq]<;>rfl|rfl) rfl (by first|simp only[nf,Nat.beq]<;>rfl|rfl) ?_
      refine n_load rfl ti22 (by first|simp only[nf,Nat.beq]<;>rfl|rfl) (by first|simp only[nf,Nat.beq]<;>rfl|rfl) rfl (by first|simp only[nf,Nat.beq]<;>rfl|rfl) ?_
      refine n_move rfl (by first|simp only[nf,Nat.beq]<;>rfl|rfl) ?_
      refine n_slice rfl Try.underlying22 ti5 (by first|simp only[nf,Nat.beq]<;>rfl|rfl) (SB.some (by first|simp only[nf,Nat.beq]<;>rfl|rfl) (by first | rfl | omega)) SB.none (by first | omega | (simp only [ints_length]; omega)) (by first | omega | (simp only [ints_length]; omega) | exact Nat.le_refl _) (ints_one _ _) (by first | (simp only [ints_take, ints_drop, List.take_length, ints_length, List.drop_zero] <;> rfl) | rfl) ?_
      first | refine n_append_own rfl Try.underlying22 Try.underlying22 ei5 (by first|simp only[nf,Nat.beq]<;>rfl|rfl) rfl (by first | rfl | rw [ints_length]) (by first|simp only[nf,Nat.beq]<;>rfl|rfl) (by first | exact ints_one _ _ | simp) (by first | exact ints_one _ _ | simp) (by first | exact ints_snoc _ _ _ | exact ints_append _ _ _ | rfl) (by simp only [ints_length, List.length_cons, List.length_nil] <;> rfl) (by omega) (by first|simp only[nf,Nat.beq]<;>rfl|rfl) ?_ | refine n_append_full rfl Try.underlying22 Try.underlying22 ei5 (by first|simp only[nf,Nat.beq]<;>rfl|rfl) (by first|simp only[nf,Nat.beq]<;>rfl|rfl) (by first | exact ints_one _ _ | simp) (by first | exact ints_one _ _ | simp) (by first | exact ints_snoc _ _ _ | exact ints_append _ _ _ | rfl) (by simp only [ints_length, List.length_cons, List.length_nil] <;> rfl) (by omega) rfl (by first|simp only[nf,Nat.beq]<;>rfl|rfl) ?_
      refine n_assign rfl (by first|simp only[nf,Nat.beq]<;>rfl|rfl) ?_
      refine AOps.nil ?_
      refine AWP.seq ?_
      refine AWP.region ?_
      refine n_move rfl (by first|simp only[nf,Nat.beq]<;>rfl|rfl) ?_
      refine n_move rfl (by first|simp only[nf,Nat.beq]<;>rfl|rfl) ?_
      refine n_nilCheck rfl (by first|simp only[nf,Nat.beq]<;>rfl|rfl) rfl ?_
      refine n_fieldAddr rfl fd108_0 ti22 rfl (by first|simp only[nf,Nat.beq]<;>rfl|rfl) rfl (by first|simp only[nf,Nat.beq]<;>rfl|rfl) ?_
      refine n_load rfl ti22 (by first|simp only[nf,Nat.beq]<;>rfl|rfl) (by first|simp only[nf,Nat.beq]<;>rfl|rfl) rfl (by first|simp only[nf,Nat.beq]<;>rfl|rfl) ?_
      refine n_move rfl (by first|simp only[nf,Nat.beq]<;>rfl|rfl) ?_
      refine n_slice rfl Try.underlying22 ti5 (by first|simp only[nf,Nat.beq]<;>rfl|rfl) SB.none (SB.some (by first|simp only[nf,Nat.beq]<;>rfl|rfl) (by first | rfl | omega)) (by first | omega | (simp only [ints_length]; omega)) (by first | omega | (simp only [ints_length]; omega) | exact Nat.le_refl _) (ints_one _ _) (by first | (simp only [ints_take, ints_drop, List.take_length, ints_length, List.drop_zero] <;> rfl) | rfl) ?_
      refine n_nilCheck rfl (by first|simp only[nf,Nat.beq]<;>rfl|rfl) rfl ?_
      refine n_fieldAddr rfl fd108_0 ti22 rfl (by first|simp only[nf,Nat.beq]<;>rfl|rfl) rfl (by first|simp only[nf,Nat.beq]<;>rfl|rfl) ?_
      refine n_store ti22 (by first|simp only[nf,Nat.beq]<;>rfl|rfl) rfl (by first|simp only[nf,Nat.beq]<;>rfl|rfl) rfl (by first|simp only[nf,Nat.beq]<;>rfl|rfl) rfl rfl rfl (by first|simp only[nf,Nat.beq]<;>rfl|rfl) ?_
      refine AOps.nil ?_
      refine AWP.seq ?_
      refine AWP.region ?_
      refine n_move rfl (by first|simp only[nf,Nat.beq]<;>rfl|rfl) ?_
      refine n_assign rfl (by first|simp only[nf,Nat.beq]<;>rfl|rfl) ?_
      refine AOps.nil ?_
      refine AWP.ret ?_
      refine fin_box (.cons (rv_tmp (by first|simp only[nf,Nat.beq]<;>rfl|rfl)) .nil) (by first|simp only[nf,Nat.beq]<;>rfl|rfl) ?_ rfl ?_
      · first | (have hz : (Up.str ⟨b, e⟩ m).1 = [] := by (rw [hS]; grind)); (show Ren No No _ (.sl none (ints .u8 _) .ro)); rw [hz]; exact .ro (fun x h => by cases h) | (refine ren_lits ?_; congr 1; rw [hS]; grind)
      · first | (refine renR0 ?_ ?_ <;> rw [hS] <;> (try simp only [Up.clr]) <;> grind) | (refine renR ?_ ?_ <;> rw [hS] <;> (try simp only [Up.clr]) <;> grind)
  · try simp only [nh] at hc1
    have hq := hc1
    refine AWP.skip ?_
    refine AWP.seq ?_
    refine AWP.seq ?_
    refine AWP.region ?_
    refine n_move rfl (by first|simp only[nf,Nat.beq]<;>rfl|rfl) ?_
    refine n_nilCheck rfl (by first|simp only[nf,Nat.beq]<;>rfl|rfl) rfl ?_
    refine n_fieldAddr rfl fd108_1 ti28 rfl (by first|simp only[nf,Nat.beq]<;>rfl|rfl) rfl (by first|simp only[nf,Nat.beq]<;>rfl|rfl) ?_
    refine n_load rfl ti28 (by first|simp only[nf,Nat.beq]<;>rfl|rfl) (by first|simp only[nf,Nat.beq]<;>rfl|rfl) rfl (by first|simp only[nf,Nat.beq]<;>rfl|rfl) ?_
    refine n_ibin rfl (by first|simp only[nf,Nat.beq]<;>rfl|rfl) (by first|simp only[nf,Nat.beq]<;>rfl|rfl) rfl ?_
    refine AOps.nil ?_
    refine AWP.cond (by first|simp only[nf,Nat.beq]<;>rfl|rfl) (fun hc3 => ?_) (fun hc3 => ?_)
    · try simp only [nh] at hc3
      have hne := hc3
      refine AWP.seq ?_
      refine AWP.region ?_
      refine n_assign rfl (by first|simp only[nf,Nat.beq]<;>rfl|rfl) ?_
      refine AOps.nil ?_
      refine AWP.ret ?_
      refine fin_box (.cons (rv_tmp (by first|simp only[nf,Nat.beq]<;>rfl|rfl)) .nil) (by first|simp only[nf,Nat.beq]<;>rfl|rfl) ?_ rfl ?_
      · first | (have hz : (Up.str ⟨b, e⟩ m).1 = [] := by (rw [hS]; grind)); (show Ren No No _ (.sl none (ints .u8 _) .ro)); rw [hz]; exact .ro (fun x h => by cases h) | (refine ren_lits ?_; congr 1; rw [hS]; grind)
      · first | (refine renR0 ?_ ?_ <;> rw [hS] <;> (try simp only [Up.clr]) <;> grind) | (refine renR ?_ ?_ <;> rw [hS] <;> (try simp only [Up.clr]) <;> grind)
    · try simp only [nh] at hc3
      have h0 : e1 = 0 := by grind
      have he2 : b2 = b1 := hb3 h0
      have hle : n ≤ b1.length := by grind
      obtain ⟨h1, h2, h3⟩ := hin h0
      obtain ⟨k, hk⟩ : ∃ k : Nat, n = (k : Int) := ⟨n.toNat, by omega⟩
      subst hk he2
      have htl := List.length_take_le k b2
      refine AWP.skip ?_
      refine AWP.seq ?_
      refine AWP.region ?_
      refine n_assign rfl (by first|simp only[nf,Nat.beq]<;>rfl|rfl) ?_
      refine AOps.nil ?_
      refine AWP.seq ?_
      refine AWP.region ?_
      refine n_move rfl (by first|simp only[nf,Nat.beq]<;>rfl|rfl) ?_
      refine n_move rfl (by first|simp only[nf,Nat.beq]<;>rfl|rfl) ?_
      refine n_nilCheck rfl (by first|simp only[nf,Nat.beq]<;>rfl|rfl) rfl ?_
      refine n_fieldAddr rfl fd108_0 ti22 rfl (by first|simp only[nf,Nat.beq]<;>rfl|rfl) rfl (by first|simp only[nf,Nat.beq]<;>rfl|rfl) ?_
      refine n_load rfl ti22 (by first|simp only[nf,Nat.beq]<;>rfl|rfl) (by first|simp only[nf,Nat.beq]<;>rfl|rfl) rfl (by first|simp only[nf,Nat.beq]<;>rfl|rfl) ?_
      refine n_move rfl (by first|simp only[nf,Nat.beq]<;>rfl|rfl) ?_
      refine n_slice rfl Try.underlying22 ti5 (by first|simp only[nf,Nat.beq]<;>rfl|rfl) (SB.some (by first|simp only[nf,Nat.beq]<;>rfl|rfl) (by first | rfl | omega)) SB.none (by first | omega | (simp only [ints_length]; omega)) (by first | omega | (simp only [ints_length]; omega) | exact Nat.le_refl _) (ints_one _ _) (by first | (simp only [ints_take, ints_drop, List.take_length, ints_length, List.drop_zero] <;> rfl) | rfl) ?_
      first | refine n_append_own rfl Try.underlying22 Try.underlying22 ei5 (by first|simp only[nf,Nat.beq]<;>rfl|rfl) rfl (by first | rfl | rw [ints_length]) (by first|simp only[nf,Nat.beq]<;>rfl|rfl) (by first | exact ints_one _ _ | simp) (by first | exact ints_one _ _ | simp) (by first | exact ints_snoc _ _ _ | exact ints_append _ _ _ | rfl) (by simp only [ints_length, List.length_cons, List.length_nil] <;> rfl) (by omega) (by first|simp only[nf,Nat.beq]<;>rfl|rfl) ?_ | refine n_append_full rfl Try.underlying22 Try.underlying22 ei5 (by first|simp only[nf,Nat.beq]<;>rfl|rfl) (by first|simp only[nf,Nat.beq]<;>rfl|rfl) (by first | exact ints_one _ _ | simp) (by first | exact ints_one _ _ | simp) (by first | exact ints_snoc _ _ _ | exact ints_append _ _ _ | rfl) (by simp only [ints_length, List.length_cons, List.length_nil] <;> rfl) (by omega) rfl (by first|simp only[nf,Nat.beq]<;>rfl|rfl) ?_
      refine n_assign rfl (by first|simp only[nf,Nat.beq]<;>rfl|rfl) ?_
      refine AOps.nil ?_
      refine AWP.seq ?_
      refine AWP.region ?_
      refine n_move rfl (by first|simp only[nf,Nat.beq]<;>rfl|rfl) ?_
      refine n_move rfl (by first|simp only[nf,Nat.beq]<;>rfl|rfl) ?_
      refine n_nilCheck rfl (by first|simp only[nf,Nat.beq]<;>rfl|rfl) rfl ?_
      refine n_fieldAddr rfl fd108_0 ti22 rfl (by first|simp only[nf,Nat.beq]<;>rfl|rfl) rfl (by first|simp only[nf,Nat.beq]<;>rfl|rfl) ?_
      refine n_load rfl ti22 (by first|simp only[nf,Nat.beq]<;>rfl|rfl) (by first|simp only[nf,Nat.beq]<;>rfl|rfl) rfl (by first|simp only[nf,Nat.beq]<;>rfl|rfl) ?_
      refine n_move rfl (by first|simp only[nf,Nat.beq]<;>rfl|rfl) ?_
      refine n_slice rfl Try.underlying22 ti5 (by first|simp only[nf,Nat.beq]<;>rfl|rfl) SB.none (SB.some (by first|simp only[nf,Nat.beq]<;>rfl|rfl) (by first | rfl | omega)) (by first | omega | (simp only [ints_length]; omega)) (by first | omega | (simp only [ints_length]; omega) | exact Nat.le_refl _) (ints_one _ _) (by first | (simp only [ints_take, ints_drop, List.take_length, ints_length, List.drop_zero] <;> rfl) | rfl) ?_
      refine n_nilCheck rfl (by first|simp only[nf,Nat.beq]<;>rfl|rfl) rfl ?_
      refine n_fieldAddr rfl fd108_0 ti22 rfl (by first|simp only[nf,Nat.beq]<;>rfl|rfl) rfl (by first|simp only[nf,Nat.beq]<;>rfl|rfl) ?_
      refine n_store ti22 (by first|simp only[nf,Nat.beq]<;>rfl|rfl) rfl (by first|simp only[nf,Nat.beq]<;>rfl|rfl) rfl (by first|simp only[nf,Nat.beq]<;>rfl|rfl) rfl rfl rfl (by first|simp only[nf,Nat.beq]<;>rfl|rfl) ?_
      refine AOps.nil ?_
      refine AWP.seq ?_
      refine AWP.region ?_
      refine n_move rfl (by first|simp only[nf,Nat.beq]<;>rfl|rfl) ?_
      refine n_assign rfl (by first|simp only[nf,Nat.beq]<;>rfl|rfl) ?_
      refine AOps.nil ?_
      refine AWP.ret ?_
      refine fin_box (.cons (rv_tmp (by first|simp only[nf,Nat.beq]<;>rfl|rfl)) .nil) (by first|simp only[nf,Nat.beq]<;>rfl|rfl) ?_ rfl ?_
      · first | (have hz : (Up.str ⟨b, e⟩ m).1 = [] := by (rw [hS]; grind)); (show Ren No No _ (.sl none (ints .u8 _) .ro)); rw [hz]; exact .ro (fun x h => by cases h) | (refine ren_lits ?_; congr 1; rw [hS]; grind)
      · first | (refine renR0 ?_ ?_ <;> rw [hS] <;> (try simp only [Up.clr]) <;> grind) | (refine renR ?_ ?_ <;> rw [hS] <;> (try simp only [Up.clr]) <;> grind)

end Go.Proofs.Ytanfmpkjcoolmaa.Pk
