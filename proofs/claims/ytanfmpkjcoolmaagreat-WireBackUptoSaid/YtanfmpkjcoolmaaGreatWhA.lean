/- Lists, transactions, tables, entries put. -/
import Derived.Test.YtanfmpkjcoolmaaGreatPlainA
import Derived.Test.YtanfmpkjcoolmaaGreatWbA
import Derived.Test.YtanfmpkjcoolmaaGreatOjZ
import Derived.Test.YtanfmpkjcoolmaaGreatMbZ
set_option linter.unusedVariables false
set_option linter.unusedSimpArgs false
namespace Go.Proofs.YtanfmpkjcoolmaaGreat.Wh
open Go Go.Abs Go.Proofs.YtanfmpkjcoolmaaGreat.Pk Wa Wb
attribute [local irreducible] AWP AOps Does

theorem n0WhA {α : Type} {a b : α} (h : a = b := by first|simp only[nf,Nat.beq]<;>rfl|rfl) : a = b := h
theorem e1WhA {α : Type} {a b : α} (h : a = b := by exact Eq.trans (by simp only [nl] <;> rfl) n0WhA) : a = b := h
theorem r2WhA {ρ σ : Nat → Nat → Prop} {a b : List D} (h : RenAll ρ σ a b := by repeat (first | exact .nil | refine .cons ?_ ?_ | exact ren_ints | exact .lf (.val _) | exact .lf (lf_ints (.inl rfl)) | exact .bp ⟨rfl, rfl⟩ | exact .bp (.inl ⟨rfl, rfl⟩) | exact .bp (.inr ⟨rfl, rfl⟩) | exact ren_mapG qt_lf | exact .lf (.agg (qt_lf _)) | exact .lf (txz_lf _) | exact ren_bys0 rfl | exact .lf lf_fnz | exact ren_map (f := q1) (fun _ => rfl) | exact ren_map (f := q2) (fun _ => rfl) | exact ren_map (f := q4) (fun _ => rfl) | exact .lf (D.flat_lf rfl) | exact ren_lits rfl)) : RenAll ρ σ a b := h
theorem l3WhA {d : D} (h : LF d := by first | exact .val _ | exact lf_ints (.inl rfl) | exact lf_ints (.inr rfl) | exact .any | exact .tup (lf_cons (lf_ints (.inl rfl)) (lf_cons (.val _) lf_nil)) | exact .agg (qt_lf _) | exact D.flat_lf rfl) : LF d := h
theorem cf13 : CF Tryz.prog 13 := ⟨_, Tryz.func13, by kernel_rfl, by kernel_rfl⟩
theorem cf15 : CF Tryz.prog 15 := ⟨_, Tryz.func15, by kernel_rfl, by kernel_rfl⟩
theorem cf18 : CF Tryz.prog 18 := ⟨_, Tryz.func18, by kernel_rfl, by kernel_rfl⟩
theorem cf44 : CF Tryz.prog 44 := ⟨_, Tryz.func44, by kernel_rfl, by kernel_rfl⟩
theorem cf46 : CF Tryz.prog 46 := ⟨_, Tryz.func46, by kernel_rfl, by kernel_rfl⟩
theorem cf48 : CF Tryz.prog 48 := ⟨_, Tryz.func48, by kernel_rfl, by kernel_rfl⟩
theorem cf73 : CF Tryz.prog 73 := ⟨_, Tryz.func73, by kernel_rfl, by kernel_rfl⟩
theorem cf74 : CF Tryz.prog 74 := ⟨_, Tryz.func74, by kernel_rfl, by kernel_rfl⟩
theorem cf75 : CF Tryz.prog 75 := ⟨_, Tryz.func75, by kernel_rfl, by kernel_rfl⟩
theorem cf76 : CF Tryz.prog 76 := ⟨_, Tryz.func76, by kernel_rfl, by kernel_rfl⟩
theorem fd26_0 : FD Tryz.prog 26 0 2 0 := ⟨_, _, Tryz.underlying26, rfl, rfl, rfl⟩
theorem fd26_1 : FD Tryz.prog 26 1 2 1 := ⟨_, _, Tryz.underlying26, rfl, rfl, rfl⟩
theorem fd26_2 : FD Tryz.prog 26 2 2 2 := ⟨_, _, Tryz.underlying26, rfl, rfl, rfl⟩
theorem fd26_3 : FD Tryz.prog 26 3 23 3 := ⟨_, _, Tryz.underlying26, rfl, rfl, rfl⟩
theorem fd26_4 : FD Tryz.prog 26 4 24 4 := ⟨_, _, Tryz.underlying26, rfl, rfl, rfl⟩
theorem fd44_0 : FD Tryz.prog 44 0 2 0 := ⟨_, _, Tryz.underlying44, rfl, rfl, rfl⟩
theorem fd44_1 : FD Tryz.prog 44 1 2 1 := ⟨_, _, Tryz.underlying44, rfl, rfl, rfl⟩
theorem ti2 : TI Tryz.prog 2 1 false := ⟨by kernel_rfl, by kernel_rfl⟩
theorem ti23 : TI Tryz.prog 23 1 false := ⟨by kernel_rfl, by kernel_rfl⟩
theorem ti24 : TI Tryz.prog 24 1 false := ⟨by kernel_rfl, by kernel_rfl⟩
theorem ti26 : TI Tryz.prog 26 5 true := ⟨by kernel_rfl, by kernel_rfl⟩
theorem ti44 : TI Tryz.prog 44 2 true := ⟨by kernel_rfl, by kernel_rfl⟩
theorem ti46 : TI Tryz.prog 46 4 true := ⟨by kernel_rfl, by kernel_rfl⟩
theorem ti49 : TI Tryz.prog 49 2 true := ⟨by kernel_rfl, by kernel_rfl⟩
theorem zi2 : (Tryz.prog.info? 2).map (·.zero) = some (some (.int .i64 0)) := by kernel_rfl
theorem zi44 : (Tryz.prog.info? 44).map (·.zero) = some (some (.agg #[.int .i64 0, .int .i64 0])) := by kernel_rfl
theorem zi46 : (Tryz.prog.info? 46).map (·.zero) = some (some (.agg #[.int .i64 0, .int .i64 0, .int .i64 0, .int .i64 0])) := by kernel_rfl
theorem zi49 : (Tryz.prog.info? 49).map (·.zero) = some (some (.agg #[.slice none 0 0, .int .i64 0])) := by kernel_rfl

theorem bys_lf (b : List Int) : LF (bys b) := lf_ints (.inl rfl)
theorem form_le {n : Int} (h : I64 n) : (form n).length ≤ 10 := form_bd h
theorem p_intR (b l : List Int) (hl : ∀ n ∈ l, I64 n) (hb : b.length + 10 * l.length ≤ 140737488355328) : Does Tryz.prog 13 [bys b, .sl none (ints .i64 l) .ro] [] (bys (b ++ forms l)) [] := (p_int b l hl hb).toRo (fun g w v r => r.asRo) (bys_lf _)
theorem p_strR (b x : List Int) (hb : b.length ≤ 70368744177664) (hx : L40 x) : Does Tryz.prog 15 [bys b, bys x] [] (bys (b ++ (form (x.length : Int) ++ x))) [] := by
 have h := (p_str b x hb hx).toRo (fun g w v r => r.asRo) (bys_lf _)
 rw [show b ++ forms [(x.length : Int)] ++ x = b ++ (form (x.length : Int) ++ x) by simp [forms]] at h
 exact h
theorem p_oneR (b : List Int) (n : Int) (hn : I64 n) (hb : b.length ≤ 70368744177664) : Does Tryz.prog 13 [bys b, .sl none (ints .i64 [n]) .ro] [] (bys (b ++ form n)) [] := by
 have h := p_intR b [n] (fun m hm => by simp at hm; subst hm; exact hn) (by simp; omega)
 rw [show forms [n] = form n by simp [forms]] at h
 exact h
theorem putNum (b : List Int) (n : Int) (hn : I64 n) (hb : b.length ≤ 70368744177664) : Does Tryz.prog 18 [bys b, vi n] [] (bys (b ++ form n)) [] := by
 refine Does.of_body (rvs := [.tmp 4]) Tryz.func18 rfl rfl rfl rfl ?_
 refine AWP.sr ?_
 refine n_assign rfl n0WhA ?_
 refine AOps.nil ?_
 refine AWP.sr ?_
 refine n_move rfl n0WhA ?_
 refine n_move rfl n0WhA ?_
 refine n_lit rfl Tryz.underlying24 ti2 zi2 rfl rfl e1WhA rfl n0WhA ?_
 refine n_call0B rfl cf13 rfl e1WhA r2WhA (p_oneR b n hn hb) l3WhA ?_
 refine n_assign rfl n0WhA ?_
 refine AOps.nil ?_
 refine AWP.ret ?_
 refine fin_pure (.cons (rv_tmp n0WhA) .nil) n0WhA ?_
 exact ren_ints

theorem flat_le {α : Type} {F : α → List Int} {l : List α} {b x : List Int} {c : Nat} (hb : b.length ≤ 35184372088832) (h10 : x.length ≤ 10) (hf : ∀ a ∈ l, (F a).length ≤ c) : ∀ i, i ≤ l.length → (b ++ x ++ (l.take i).flatMap F).length ≤ 35184372088832 + 10 + c * i := by
 intro i hi
 have key : ∀ m : List α, (∀ a ∈ m, (F a).length ≤ c) → (m.flatMap F).length ≤ c * m.length := by
  intro m hm
  induction m with
  | nil => simp
  | cons a m ih =>
   have h1 := hm a (List.mem_cons_self ..)
   have h2 := ih (fun d hd => hm d (List.mem_cons_of_mem _ hd))
   rw [List.flatMap_cons, List.length_append, List.length_cons, Nat.mul_succ]; omega
 have := key (l.take i) (fun a ha => hf a (List.mem_of_mem_take ha))
 rw [List.length_take, Nat.min_eq_left hi] at this
 rw [List.length_append, List.length_append]; omega
theorem tab_len (t : List Q4 × Int) : (tabC.put t).length ≤ 1000000 := by
 show (form (((toTb t).bytes.length : Nat) : Int) ++ (toTb t).bytes).length ≤ _
 have h : (toTb t).bytes.length ≤ 163860 := by
  unfold Tb.bytes; split
  · simp
  rename_i h; exact Tb.forms_small (Tb.good_chk.1 (by simpa using h)) _
 have h2 := form_le (n := (((toTb t).bytes.length : Nat) : Int)) ⟨by omega, by omega⟩
 rw [List.length_append]; omega
theorem ent_len (x : Q4) (ho : (toEn x).okE) : (entC.put x).length ≤ 1000000 := by
 show (form (((toEn x).bytes.length : Nat) : Int) ++ (toEn x).bytes).length ≤ _
 have h : (toEn x).bytes.length ≤ 40 := by
  unfold En.bytes; split
  · simp
  rename_i h
  have := forms_len' (toEn x).four (En.four_i64 ho (by simpa using h))
  simp only [En.four, List.length_cons, List.length_nil] at *
  omega
 have h2 := form_le (n := (((toEn x).bytes.length : Nat) : Int)) ⟨by omega, by omega⟩
 rw [List.length_append]; omega
theorem listNum (b : List Int) (l : List Int) (hb : b.length ≤ 35184372088832) (hn : ∀ n ∈ l, I64 n) (hl : l.length ≤ 1048576) : Does Tryz.prog 17 [bys b, (.sl none (l.map q1) .ro), (.fn (.func 18) [] [])] [] (bys (b ++ form (l.length : Int) ++ l.flatMap form)) [] := by
 refine Does.of_body (rvs := [.tmp 6]) Tryz.func17 rfl rfl rfl rfl ?_
 have hI : I64 (l.length : Int) := ⟨by omega, by omega⟩
 have h10 := form_le hI
 have hp := p_oneR b (l.length : Int) hI (by omega)
 have hf : ∀ n ∈ l, (form n).length ≤ 10 := fun n h => form_le (hn n h)
 have hlen : ∀ i, i ≤ l.length → (b ++ form (l.length : Int) ++ (l.take i).flatMap form).length ≤ 35184372088832 + 10 + 10 * i := flat_le hb h10 hf
 refine AWP.sr ?_
 refine n_assign rfl n0WhA ?_
 refine AOps.nil ?_
 refine AWP.sr ?_
 refine n_move rfl n0WhA ?_
 refine n_move rfl n0WhA ?_
 refine n_len rfl Tryz.underlying24 n0WhA (by first | rw [ints_length] | rw [List.length_map] | rfl) ?_
 refine n_lit rfl Tryz.underlying24 ti2 zi2 rfl rfl e1WhA rfl n0WhA ?_
 refine n_call0B rfl cf13 rfl e1WhA r2WhA (hp) l3WhA ?_
 refine n_assign rfl n0WhA ?_
 refine AOps.nil ?_
 refine AWP.seq ?_
 refine AWP.sr ?_
 refine n_move rfl n0WhA ?_
 refine n_len rfl Tryz.underlying24 n0WhA (by first | rw [ints_length] | rw [List.length_map] | rfl) ?_
 refine n_move rfl n0WhA ?_
 refine AOps.nil ?_
 refine AWP.block ?_
 refine AWP.loopX 0 (α := Nat) (fun i => i ≤ l.length) (fun i => put (put (put (put (put empty 0 (bys (b ++ form (l.length : Int) ++ (l.take i).flatMap form))) 2 (.fn (.func 18) [] [])) 14 (.sl none (l.map q1) .ro)) 15 (vi (l.length : Int))) 16 (vi (i : Int))) (fun _ => []) (fun i => l.length - i) 0 ?_ ?_ ?_ ?_ ?_ ?_ ?_
 · exact Nat.zero_le _
 · (repeat (first | exact FLe.empty _ | refine FLe.put ?_ ?_)) <;> first | (simp only [nf, Nat.beq]; done) | rfl | ((try simp only [nf, Nat.beq]); first | rfl | (simp only [List.length_map]; done) | (simp only [List.take_zero, List.flatMap_nil, List.append_nil]; done) | (congr 2; omega; done))
 · rfl
 · exact fun _ => rfl
 · intro p hp; (try dsimp only); (repeat' (refine un_put ?_ ?_)) <;> first | exact un_empty | exact .bp (by decide) | exact .lf (D.flat_lf rfl) | exact .lf (lf_ints (.inl rfl)) | exact .lf lf_fnz | exact .lf (lf_mapG qt_lf (.inl rfl)) | exact .lf (lf_map (f := q1) (fun _ => rfl) (.inl rfl))
 · intro p hp; (try dsimp only); repeat' (first | exact un_nil | refine un_cons ?_ ?_ | exact un_box rfl)
 · intro i hi
   try dsimp only at hi ⊢
   refine AWP.sr ?_
   refine n_ibin rfl n0WhA n0WhA rfl ?_
   refine AOps.nil ?_
   refine AWP.seq ?_
   refine AWP.cond n0WhA (fun hc1 => ?_) (fun hc1 => ?_)
   · try simp only [nh] at hc1
     obtain ⟨x, hx0⟩ : ∃ x, l[i]? = some x := ⟨_, List.getElem?_eq_getElem (by omega)⟩
     have hx := map_at q1 hx0
     have hxm := List.mem_of_getElem? hx0
     have hln := hlen i hi
     refine AWP.skip ?_
     refine AWP.seq ?_
     refine AWP.block ?_
     refine AWP.sr ?_
     refine n_indexAddr rfl Tryz.underlying24 ti2 rfl n0WhA n0WhA (by omega) (by exact hx) rfl ?_
     refine n_load rfl ti2 n0WhA n0WhA rfl n0WhA ?_
     refine n_assign rfl n0WhA ?_
     refine AOps.nil ?_
     refine AWP.region ?_
     refine n_move rfl n0WhA ?_
     refine n_move rfl n0WhA ?_
     refine n_move rfl n0WhA ?_
     refine n_call0B rfl cf18 rfl e1WhA r2WhA (putNum _ x (hn x hxm) (by omega)) l3WhA ?_
     refine n_assign rfl n0WhA ?_
     refine AOps.nil ?_
     refine AWP.region ?_
     first | refine n_iadd rfl n0WhA n0WhA rfl (by omega) (by omega) ?_ | refine n_ibin rfl n0WhA n0WhA rfl ?_
     refine n_move rfl n0WhA ?_
     refine AOps.nil ?_
     refine ⟨i + 1, [], by omega, ?_, rfl, by omega⟩
     (repeat (first | exact FLe.empty _ | refine FLe.put ?_ ?_)) <;> first | (simp only [nf, Nat.beq]; done) | rfl | ((try simp only [nf, Nat.beq]); first | rfl | (simp only [List.length_map]; done) | (simp only [take_snoc hx0, List.flatMap_append, List.flatMap_cons, List.flatMap_nil, List.append_nil, List.append_assoc]; done) | (congr 2; omega; done))
   · try simp only [nh] at hc1
     obtain rfl : i = l.length := by omega
     rw [List.take_length]
     refine AWP.exit ?_
     refine AWP.sr ?_
     refine n_move rfl n0WhA ?_
     refine n_assign rfl n0WhA ?_
     refine AOps.nil ?_
     refine AWP.ret ?_
     refine fin_pure (.cons (rv_tmp n0WhA) .nil) n0WhA ?_
     exact ren_ints

theorem p_intQ (b l : List Int) (hl : ∀ n ∈ l, I64 n) (hb : b.length + 10 * l.length ≤ 140737488355328) : Does Tryz.prog 13 [bys b, .sl none (l.map q1) .ro] [] (bys (b ++ l.flatMap form)) [] := p_intR b l hl hb
theorem tz_to (t : List Q4 × Int) : tz (toTb t) = .agg (qt t) := by
 show D.agg [.sl none ((t.1.map toSp).map spz) .ro, vi t.2] = _
 rw [List.map_map]; rfl
theorem o_bytes (t : List Q4 × Int) (hl : t.1.length ≤ 1048576) : Does Tryz.prog 75 [.agg (qt t)] [] (.tup [bys (toTb t).bytes, vi (toTb t).chk]) [] := by
 have h := Oj.l_bytes (toTb t) (by show (t.1.map toSp).length ≤ _; rw [List.length_map]; exact hl)
 rw [tz_to] at h; exact h
theorem m_bytes (x : Q4) (ho : (toEn x).okE) : Does Tryz.prog 76 [.agg (q4 x)] [] (.tup [bys (toEn x).bytes, vi (toEn x).chk]) [] := Mb.l_bytes (toEn x) ho
theorem ints_ (b l : List Int) (hb : b.length ≤ 70368744177654) (hn : ∀ n ∈ l, I64 n) (hl : l.length ≤ 1048576) : Does Tryz.prog 73 [bys b, .sl none (l.map q1) .ro] [] (bys (b ++ (form (l.length : Int) ++ l.flatMap form))) [] := by
 refine Does.of_body (rvs := [.tmp 4]) Tryz.func73 rfl rfl rfl rfl ?_
 have hI : I64 (l.length : Int) := ⟨by omega, by omega⟩
 have h10 := form_le hI
 have hp := p_oneR b (l.length : Int) hI (by omega)
 have hq := p_intQ (b ++ form (l.length : Int)) l hn (by rw [List.length_append]; omega)
 rw [List.append_assoc] at hq
 refine AWP.sr ?_
 refine n_assign rfl n0WhA ?_
 refine AOps.nil ?_
 refine AWP.sr ?_
 refine n_move rfl n0WhA ?_
 refine n_move rfl n0WhA ?_
 refine n_len rfl Tryz.underlying24 n0WhA (by first | rw [ints_length] | rw [List.length_map] | rfl) ?_
 refine n_lit rfl Tryz.underlying24 ti2 zi2 rfl rfl e1WhA rfl n0WhA ?_
 refine n_call0B rfl cf13 rfl e1WhA r2WhA (hp) l3WhA ?_
 refine n_move rfl n0WhA ?_
 refine n_call0B rfl cf13 rfl e1WhA r2WhA (hq) l3WhA ?_
 refine n_assign rfl n0WhA ?_
 refine AOps.nil ?_
 refine AWP.ret ?_
 refine fin_pure (.cons (rv_tmp n0WhA) .nil) n0WhA ?_
 exact ren_ints

theorem records_ (b : List Int) (l : List (Int × Int)) (hb : b.length ≤ 35184372088832) (hn : ∀ n ∈ l, I64 n.1 ∧ I64 n.2) (hl : l.length ≤ 1048576) : Does Tryz.prog 74 [bys b, .sl none (l.map q2) .ro] [] (bys (b ++ form (l.length : Int) ++ l.flatMap (fun x => form x.1 ++ form x.2))) [] := by
 refine Does.of_body (rvs := [.tmp 4]) Tryz.func74 rfl rfl rfl rfl ?_
 have hI : I64 (l.length : Int) := ⟨by omega, by omega⟩
 have h10 := form_le hI
 have hp := p_oneR b (l.length : Int) hI (by omega)
 have hf : ∀ n ∈ l, ((fun x => form x.1 ++ form x.2) n).length ≤ 20 := fun n h => by have h1 := form_le (hn n h).1; have h2 := form_le (hn n h).2; (try dsimp only); rw [List.length_append]; omega
 have hlen : ∀ i, i ≤ l.length → (b ++ form (l.length : Int) ++ (l.take i).flatMap (fun x => form x.1 ++ form x.2)).length ≤ 35184372088832 + 10 + 20 * i := flat_le hb h10 hf
 refine AWP.sr ?_
 refine n_assign rfl n0WhA ?_
 refine AOps.nil ?_
 refine AWP.sr ?_
 refine n_move rfl n0WhA ?_
 refine n_move rfl n0WhA ?_
 refine n_len rfl Tryz.underlying23 n0WhA (by first | rw [ints_length] | rw [List.length_map] | rfl) ?_
 refine n_lit rfl Tryz.underlying24 ti2 zi2 rfl rfl e1WhA rfl n0WhA ?_
 refine n_call0B rfl cf13 rfl e1WhA r2WhA (hp) l3WhA ?_
 refine n_assign rfl n0WhA ?_
 refine AOps.nil ?_
 refine AWP.seq ?_
 refine AWP.sr ?_
 refine n_move rfl n0WhA ?_
 refine n_len rfl Tryz.underlying23 n0WhA (by first | rw [ints_length] | rw [List.length_map] | rfl) ?_
 refine n_move rfl n0WhA ?_
 refine AOps.nil ?_
 refine AWP.block ?_
 refine AWP.loopX 0 (α := Nat) (fun i => i ≤ l.length) (fun i => put (put (put (put empty 0 (bys (b ++ form (l.length : Int) ++ (l.take i).flatMap (fun x => form x.1 ++ form x.2)))) 12 (.sl none (l.map q2) .ro)) 13 (vi (l.length : Int))) 14 (vi (i : Int))) (fun _ => []) (fun i => l.length - i) 0 ?_ ?_ ?_ ?_ ?_ ?_ ?_
 · exact Nat.zero_le _
 · (repeat (first | exact FLe.empty _ | refine FLe.put ?_ ?_)) <;> first | (simp only [nf, Nat.beq]; done) | rfl | ((try simp only [nf, Nat.beq]); first | rfl | (simp only [List.length_map]; done) | (simp only [List.take_zero, List.flatMap_nil, List.append_nil]; done) | (congr 2; omega; done))
 · rfl
 · exact fun _ => rfl
 · intro p hp; (try dsimp only); (repeat' (refine un_put ?_ ?_)) <;> first | exact un_empty | exact .bp (by decide) | exact .lf (D.flat_lf rfl) | exact .lf (lf_ints (.inl rfl)) | exact .lf (bys_lf _) | exact .lf (lf_map (f := q2) (fun _ => rfl) (.inl rfl))
 · intro p hp; (try dsimp only); repeat' (first | exact un_nil | refine un_cons ?_ ?_ | exact un_box rfl)
 · intro i hi
   try dsimp only at hi ⊢
   refine AWP.sr ?_
   refine n_ibin rfl n0WhA n0WhA rfl ?_
   refine AOps.nil ?_
   refine AWP.seq ?_
   refine AWP.cond n0WhA (fun hc1 => ?_) (fun hc1 => ?_)
   · try simp only [nh] at hc1
     obtain ⟨x, hx0⟩ : ∃ x, l[i]? = some x := ⟨_, List.getElem?_eq_getElem (by omega)⟩
     have hx := map_at q2 hx0
     have hxm := List.mem_of_getElem? hx0
     have hln := hlen i hi
     have hr := p_intR (b ++ form (l.length : Int) ++ (l.take i).flatMap (fun x => form x.1 ++ form x.2)) [x.1, x.2] (fun m hm => by simp at hm; rcases hm with rfl | rfl; exact (hn x hxm).1; exact (hn x hxm).2) (by simp only [List.length_cons, List.length_nil]; omega)
     rw [show forms [x.1, x.2] = form x.1 ++ form x.2 by simp [forms]] at hr
     refine AWP.skip ?_
     refine AWP.seq ?_
     refine AWP.block ?_
     refine AWP.sr ?_
     refine n_indexAddr rfl Tryz.underlying23 ti44 rfl n0WhA n0WhA (by omega) (by exact hx) rfl ?_
     refine n_load rfl ti44 n0WhA n0WhA rfl n0WhA ?_
     refine n_alloc rfl zi44 rfl n0WhA n0WhA ?_
     refine n_store ti44 n0WhA rfl n0WhA rfl n0WhA rfl rfl rfl n0WhA ?_
     refine AOps.nil ?_
     refine AWP.region ?_
     refine n_move rfl n0WhA ?_
     refine n_fieldAddr rfl fd44_0 ti2 rfl n0WhA rfl n0WhA ?_
     refine n_load rfl ti2 n0WhA n0WhA rfl n0WhA ?_
     refine n_fieldAddr rfl fd44_1 ti2 rfl n0WhA rfl n0WhA ?_
     refine n_load rfl ti2 n0WhA n0WhA rfl n0WhA ?_
     refine n_lit rfl Tryz.underlying24 ti2 zi2 rfl rfl e1WhA rfl n0WhA ?_
     refine n_call0B rfl cf13 rfl e1WhA r2WhA (hr) l3WhA ?_
     refine n_assign rfl n0WhA ?_
     refine AOps.nil ?_
     refine AWP.region ?_
     first | refine n_iadd rfl n0WhA n0WhA rfl (by omega) (by omega) ?_ | refine n_ibin rfl n0WhA n0WhA rfl ?_
     refine n_move rfl n0WhA ?_
     refine AOps.nil ?_
     refine ⟨i + 1, [Ob.box (q2 x)], by omega, ?_, rfl, by omega⟩
     (repeat (first | exact FLe.empty _ | refine FLe.put ?_ ?_)) <;> first | (simp only [nf, Nat.beq]; done) | rfl | ((try simp only [nf, Nat.beq]); first | rfl | (simp only [List.length_map]; done) | (simp only [take_snoc hx0, List.flatMap_append, List.flatMap_cons, List.flatMap_nil, List.append_nil, List.append_assoc]; done) | (congr 2; omega; done))
   · try simp only [nh] at hc1
     obtain rfl : i = l.length := by omega
     rw [List.take_length]
     refine AWP.exit ?_
     refine AWP.sr ?_
     refine n_move rfl n0WhA ?_
     refine n_assign rfl n0WhA ?_
     refine AOps.nil ?_
     refine AWP.ret ?_
     refine fin_pure (.cons (rv_tmp n0WhA) .nil) n0WhA ?_
     exact ren_ints

theorem txn_ (t : Tx) (ho : I64 t.e ∧ I64 t.i ∧ I64 t.b) (hr : ∀ n ∈ t.r, I64 n.1 ∧ I64 n.2) (hv : ∀ n ∈ t.v, I64 n) (h1 : t.r.length ≤ 1048576) (h2 : t.v.length ≤ 1048576) : Does Tryz.prog 44 [bys [], .agg (txz t)] [] (bys (txI.put t)) [] := by
 refine Does.of_body (rvs := [.tmp 4]) Tryz.func44 rfl rfl rfl rfl ?_
 have g1 := form_le ho.1
 have g2 := form_le ho.2.1
 have g3 := form_le ho.2.2
 obtain ⟨x1, hx1⟩ : ∃ x, x = form t.e ++ (form t.i ++ form t.b) := ⟨_, rfl⟩
 have hl1 : x1.length ≤ 30 := by rw [hx1, List.length_append, List.length_append]; omega
 have c1 := p_intR [] [t.e, t.i, t.b] (fun m hm => by simp at hm; rcases hm with rfl | rfl | rfl; exact ho.1; exact ho.2.1; exact ho.2.2) (by simp)
 rw [show [] ++ forms [t.e, t.i, t.b] = x1 by rw [hx1]; simp [forms]] at c1
 have c2 := records_ x1 t.r (by omega) hr h1
 obtain ⟨x2, hx2⟩ : ∃ x, x = x1 ++ form (t.r.length : Int) ++ t.r.flatMap (fun x => form x.1 ++ form x.2) := ⟨_, rfl⟩
 rw [← hx2] at c2
 have hl2 : x2.length ≤ 35184372088832 + 10 + 20 * t.r.length := by have e := flat_le (F := (fun x => form x.1 ++ form x.2)) (l := t.r) (b := x1) (x := form (t.r.length : Int)) (c := 20) (by omega) (form_le ⟨by omega, by omega⟩) (fun n h => by have q1 := form_le (hr n h).1; have q2 := form_le (hr n h).2; (try dsimp only); rw [List.length_append]; omega) t.r.length (Nat.le_refl _); rw [List.take_length, ← hx2] at e; exact e
 have c3 := ints_ x2 t.v (by omega) hv h2
 rw [show x2 ++ (form (t.v.length : Int) ++ t.v.flatMap form) = txI.put t by rw [hx2, hx1]; show _ = form t.e ++ (form t.i ++ (form t.b ++ ((form (t.r.length : Int) ++ t.r.flatMap (fun x => form x.1 ++ form x.2)) ++ (form (t.v.length : Int) ++ t.v.flatMap form)))); simp only [List.append_assoc]] at c3
 refine AWP.sr ?_
 refine n_box rfl n0WhA rfl rfl n0WhA n0WhA ?_
 refine n_assign rfl n0WhA ?_
 refine AOps.nil ?_
 refine AWP.seq ?_
 refine AWP.anyStill (by kernel_rfl) (by kernel_rfl) ?_
 refine Walk.still (rs := [0]) (by rfl) n0WhA (fun base => by
  refine n_move rfl n0WhA ?_
  exact AOps.nil ⟨rfl, rfl, rfl⟩) ?_
 refine Walk.still (rs := [3]) (by rfl) n0WhA (fun base => by
  refine n_fieldAddr rfl fd26_0 ti2 rfl n0WhA rfl n0WhA ?_
  exact AOps.nil ⟨rfl, rfl, rfl⟩) ?_
 refine Walk.still (rs := [6]) (by rfl) n0WhA (fun base => by
  refine n_load rfl ti2 n0WhA n0WhA rfl n0WhA ?_
  exact AOps.nil ⟨rfl, rfl, rfl⟩) ?_
 refine Walk.still (rs := [3]) (by rfl) n0WhA (fun base => by
  refine n_fieldAddr rfl fd26_1 ti2 rfl n0WhA rfl n0WhA ?_
  exact AOps.nil ⟨rfl, rfl, rfl⟩) ?_
 refine Walk.still (rs := [8]) (by rfl) n0WhA (fun base => by
  refine n_load rfl ti2 n0WhA n0WhA rfl n0WhA ?_
  exact AOps.nil ⟨rfl, rfl, rfl⟩) ?_
 refine Walk.still (rs := [3]) (by rfl) n0WhA (fun base => by
  refine n_fieldAddr rfl fd26_2 ti2 rfl n0WhA rfl n0WhA ?_
  exact AOps.nil ⟨rfl, rfl, rfl⟩) ?_
 refine Walk.still (rs := [10]) (by rfl) n0WhA (fun base => by
  refine n_load rfl ti2 n0WhA n0WhA rfl n0WhA ?_
  exact AOps.nil ⟨rfl, rfl, rfl⟩) ?_
 refine Walk.still (rs := [7, 9, 11]) (by rfl) n0WhA (fun base => by
  refine n_lit rfl Tryz.underlying24 ti2 zi2 rfl rfl e1WhA rfl n0WhA ?_
  exact AOps.nil ⟨rfl, rfl, rfl⟩) ?_
 refine Walk.still (rs := [5, 12]) (by rfl) n0WhA (fun base => by
  refine n_call0B rfl cf13 rfl e1WhA r2WhA (c1) l3WhA ?_
  exact AOps.nil ⟨rfl, rfl, rfl⟩) ?_
 refine Walk.still (rs := [3]) (by rfl) n0WhA (fun base => by
  refine n_fieldAddr rfl fd26_3 ti23 rfl n0WhA rfl n0WhA ?_
  exact AOps.nil ⟨rfl, rfl, rfl⟩) ?_
 refine Walk.still (rs := [14]) (by rfl) n0WhA (fun base => by
  refine n_load rfl ti23 n0WhA n0WhA rfl n0WhA ?_
  exact AOps.nil ⟨rfl, rfl, rfl⟩) ?_
 refine Walk.still (rs := [13, 15]) (by rfl) n0WhA (fun base => by
  refine n_call0B rfl cf74 rfl e1WhA r2WhA (c2) l3WhA ?_
  exact AOps.nil ⟨rfl, rfl, rfl⟩) ?_
 refine Walk.still (rs := [3]) (by rfl) n0WhA (fun base => by
  refine n_fieldAddr rfl fd26_4 ti24 rfl n0WhA rfl n0WhA ?_
  exact AOps.nil ⟨rfl, rfl, rfl⟩) ?_
 refine Walk.still (rs := [17]) (by rfl) n0WhA (fun base => by
  refine n_load rfl ti24 n0WhA n0WhA rfl n0WhA ?_
  exact AOps.nil ⟨rfl, rfl, rfl⟩) ?_
 refine Walk.still (rs := [16, 18]) (by rfl) n0WhA (fun base => by
  refine n_call0B rfl cf73 rfl e1WhA r2WhA (c3) l3WhA ?_
  exact AOps.nil ⟨rfl, rfl, rfl⟩) ?_
 refine Walk.still (rs := [19]) (by rfl) n0WhA (fun base => by
  refine n_assign rfl n0WhA ?_
  exact AOps.nil ⟨rfl, rfl, rfl⟩) ?_
 refine Walk.done ?_
 refine AWP.ret ?_
 refine fin_pure (.cons (rv_tmp n0WhA) .nil) n0WhA ?_
 exact ren_ints

theorem txnBytes (t : Tx) (ho : I64 t.e ∧ I64 t.i ∧ I64 t.b) (hr : ∀ n ∈ t.r, I64 n.1 ∧ I64 n.2) (hv : ∀ n ∈ t.v, I64 n) (h1 : t.r.length ≤ 1048576) (h2 : t.v.length ≤ 1048576) : Does Tryz.prog 16 [.agg (txz t)] [] (bys (txI.put t)) [] := by
 refine Does.of_body (rvs := [.tmp 2]) Tryz.func16 rfl rfl rfl rfl ?_
 refine AWP.sr ?_
 refine n_box rfl n0WhA rfl rfl n0WhA n0WhA ?_
 refine n_assign rfl n0WhA ?_
 refine AOps.nil ?_
 refine AWP.sr ?_
 refine n_load rfl ti26 n0WhA n0WhA rfl n0WhA ?_
 refine n_call0B rfl cf44 rfl e1WhA r2WhA (txn_ t ho hr hv h1 h2) l3WhA ?_
 refine n_assign rfl n0WhA ?_
 refine AOps.nil ?_
 refine AWP.ret ?_
 refine fin_pure (.cons (rv_tmp n0WhA) .nil) n0WhA ?_
 exact ren_ints

theorem putTable (b : List Int) (t : List Q4 × Int) (hb : b.length ≤ 70368744177664) (hl : t.1.length ≤ 1048576) : Does Tryz.prog 46 [bys b, .agg (qt t)] [] (bys (b ++ tabC.put t)) [] := by
 refine Does.of_body (rvs := [.tmp 4]) Tryz.func46 rfl rfl rfl rfl ?_
 have hs := p_strR b (toTb t).bytes hb (Tb.bytes_l40 _)
 refine AWP.sr ?_
 refine n_box rfl n0WhA rfl rfl n0WhA n0WhA ?_
 refine n_assign rfl n0WhA ?_
 refine AOps.nil ?_
 refine AWP.sr ?_
 refine n_load rfl ti49 n0WhA n0WhA rfl n0WhA ?_
 refine n_call0B rfl cf75 rfl e1WhA r2WhA (o_bytes t hl) l3WhA ?_
 refine n_move rfl n0WhA ?_
 refine n_extract rfl n0WhA rfl ?_
 refine n_extract rfl n0WhA rfl ?_
 refine n_assign rfl n0WhA ?_
 refine n_assign rfl n0WhA ?_
 refine AOps.nil ?_
 refine AWP.sr ?_
 refine n_move rfl n0WhA ?_
 refine n_move rfl n0WhA ?_
 refine n_call0B rfl cf15 rfl e1WhA r2WhA (hs) l3WhA ?_
 refine n_assign rfl n0WhA ?_
 refine AOps.nil ?_
 refine AWP.ret ?_
 refine fin_pure (.cons (rv_tmp n0WhA) .nil) n0WhA ?_
 exact ren_ints

theorem putEntry (b : List Int) (x : Q4) (hb : b.length ≤ 70368744177664) (ho : (toEn x).okE) : Does Tryz.prog 48 [bys b, .agg (q4 x)] [] (bys (b ++ entC.put x)) [] := by
 refine Does.of_body (rvs := [.tmp 4]) Tryz.func48 rfl rfl rfl rfl ?_
 have hs := p_strR b (toEn x).bytes hb (En.bytes_l40 ho)
 refine AWP.sr ?_
 refine n_box rfl n0WhA rfl rfl n0WhA n0WhA ?_
 refine n_assign rfl n0WhA ?_
 refine AOps.nil ?_
 refine AWP.sr ?_
 refine n_load rfl ti46 n0WhA n0WhA rfl n0WhA ?_
 refine n_call0B rfl cf76 rfl e1WhA r2WhA (m_bytes x ho) l3WhA ?_
 refine n_move rfl n0WhA ?_
 refine n_extract rfl n0WhA rfl ?_
 refine n_extract rfl n0WhA rfl ?_
 refine n_assign rfl n0WhA ?_
 refine n_assign rfl n0WhA ?_
 refine AOps.nil ?_
 refine AWP.sr ?_
 refine n_move rfl n0WhA ?_
 refine n_move rfl n0WhA ?_
 refine n_call0B rfl cf15 rfl e1WhA r2WhA (hs) l3WhA ?_
 refine n_assign rfl n0WhA ?_
 refine AOps.nil ?_
 refine AWP.ret ?_
 refine fin_pure (.cons (rv_tmp n0WhA) .nil) n0WhA ?_
 exact ren_ints

theorem listTab (b : List Int) (l : List (List Q4 × Int)) (hb : b.length ≤ 35184372088832) (hn : ∀ t ∈ l, t.1.length ≤ 1048576) (hl : l.length ≤ 1048576) : Does Tryz.prog 45 [bys b, (.sl none (l.map qt) .ro), (.fn (.func 46) [] [])] [] (bys (b ++ form (l.length : Int) ++ l.flatMap tabC.put)) [] := by
 refine Does.of_body (rvs := [.tmp 6]) Tryz.func45 rfl rfl rfl rfl ?_
 have hI : I64 (l.length : Int) := ⟨by omega, by omega⟩
 have h10 := form_le hI
 have hp := p_oneR b (l.length : Int) hI (by omega)
 have hf : ∀ t ∈ l, (tabC.put t).length ≤ 1000000 := fun t h => tab_len t
 have hlen : ∀ i, i ≤ l.length → (b ++ form (l.length : Int) ++ (l.take i).flatMap tabC.put).length ≤ 35184372088832 + 10 + 1000000 * i := flat_le hb h10 hf
 refine AWP.sr ?_
 refine n_assign rfl n0WhA ?_
 refine AOps.nil ?_
 refine AWP.sr ?_
 refine n_move rfl n0WhA ?_
 refine n_move rfl n0WhA ?_
 refine n_len rfl Tryz.underlying29 n0WhA (by first | rw [ints_length] | rw [List.length_map] | rfl) ?_
 refine n_lit rfl Tryz.underlying24 ti2 zi2 rfl rfl e1WhA rfl n0WhA ?_
 refine n_call0B rfl cf13 rfl e1WhA r2WhA (hp) l3WhA ?_
 refine n_assign rfl n0WhA ?_
 refine AOps.nil ?_
 refine AWP.seq ?_
 refine AWP.sr ?_
 refine n_move rfl n0WhA ?_
 refine n_len rfl Tryz.underlying29 n0WhA (by first | rw [ints_length] | rw [List.length_map] | rfl) ?_
 refine n_move rfl n0WhA ?_
 refine AOps.nil ?_
 refine AWP.block ?_
 refine AWP.loopX 0 (α := Nat) (fun i => i ≤ l.length) (fun i => put (put (put (put (put empty 0 (bys (b ++ form (l.length : Int) ++ (l.take i).flatMap tabC.put))) 2 (.fn (.func 46) [] [])) 14 (.sl none (l.map qt) .ro)) 15 (vi (l.length : Int))) 16 (vi (i : Int))) (fun _ => []) (fun i => l.length - i) 0 ?_ ?_ ?_ ?_ ?_ ?_ ?_
 · exact Nat.zero_le _
 · (repeat (first | exact FLe.empty _ | refine FLe.put ?_ ?_)) <;> first | (simp only [nf, Nat.beq]; done) | rfl | ((try simp only [nf, Nat.beq]); first | rfl | (simp only [List.length_map]; done) | (simp only [List.take_zero, List.flatMap_nil, List.append_nil]; done) | (congr 2; omega; done))
 · rfl
 · exact fun _ => rfl
 · intro p hp; (try dsimp only); (repeat' (refine un_put ?_ ?_)) <;> first | exact un_empty | exact .bp (by decide) | exact .lf (D.flat_lf rfl) | exact .lf (lf_ints (.inl rfl)) | exact .lf lf_fnz | exact .lf (lf_mapG qt_lf (.inl rfl)) | exact .lf (bys_lf _)
 · intro p hp; (try dsimp only); repeat' (first | exact un_nil | refine un_cons ?_ ?_ | exact un_box rfl)
 · intro i hi
   try dsimp only at hi ⊢
   refine AWP.sr ?_
   refine n_ibin rfl n0WhA n0WhA rfl ?_
   refine AOps.nil ?_
   refine AWP.seq ?_
   refine AWP.cond n0WhA (fun hc1 => ?_) (fun hc1 => ?_)
   · try simp only [nh] at hc1
     obtain ⟨x, hx0⟩ : ∃ x, l[i]? = some x := ⟨_, List.getElem?_eq_getElem (by omega)⟩
     have hx := map_at qt hx0
     have hxm := List.mem_of_getElem? hx0
     have hln := hlen i hi
     refine AWP.skip ?_
     refine AWP.seq ?_
     refine AWP.block ?_
     refine AWP.sr ?_
     refine n_indexAddr rfl Tryz.underlying29 ti49 rfl n0WhA n0WhA (by omega) (by exact hx) rfl ?_
     refine n_load rfl ti49 n0WhA n0WhA rfl n0WhA ?_
     refine n_alloc rfl zi49 rfl n0WhA n0WhA ?_
     refine n_store ti49 n0WhA rfl n0WhA rfl n0WhA rfl rfl rfl n0WhA ?_
     refine AOps.nil ?_
     refine AWP.region ?_
     refine n_move rfl n0WhA ?_
     refine n_move rfl n0WhA ?_
     refine n_load rfl ti49 n0WhA n0WhA rfl n0WhA ?_
     refine n_call0B rfl cf46 rfl e1WhA r2WhA (putTable _ x (by omega) (hn x hxm)) l3WhA ?_
     refine n_assign rfl n0WhA ?_
     refine AOps.nil ?_
     refine AWP.region ?_
     first | refine n_iadd rfl n0WhA n0WhA rfl (by omega) (by omega) ?_ | refine n_ibin rfl n0WhA n0WhA rfl ?_
     refine n_move rfl n0WhA ?_
     refine AOps.nil ?_
     refine ⟨i + 1, [Ob.box (qt x)], by omega, ?_, rfl, by omega⟩
     (repeat (first | exact FLe.empty _ | refine FLe.put ?_ ?_)) <;> first | (simp only [nf, Nat.beq]; done) | rfl | ((try simp only [nf, Nat.beq]); first | rfl | (simp only [List.length_map]; done) | (simp only [take_snoc hx0, List.flatMap_append, List.flatMap_cons, List.flatMap_nil, List.append_nil, List.append_assoc]; done) | (congr 2; omega; done))
   · try simp only [nh] at hc1
     obtain rfl : i = l.length := by omega
     rw [List.take_length]
     refine AWP.exit ?_
     refine AWP.sr ?_
     refine n_move rfl n0WhA ?_
     refine n_assign rfl n0WhA ?_
     refine AOps.nil ?_
     refine AWP.ret ?_
     refine fin_pure (.cons (rv_tmp n0WhA) .nil) n0WhA ?_
     exact ren_ints

theorem listEnt (b : List Int) (l : List Q4) (hb : b.length ≤ 35184372088832) (hn : ∀ x ∈ l, (toEn x).okE) (hl : l.length ≤ 1048576) : Does Tryz.prog 47 [bys b, (.sl none (l.map q4) .ro), (.fn (.func 48) [] [])] [] (bys (b ++ form (l.length : Int) ++ l.flatMap entC.put)) [] := by
 refine Does.of_body (rvs := [.tmp 6]) Tryz.func47 rfl rfl rfl rfl ?_
 have hI : I64 (l.length : Int) := ⟨by omega, by omega⟩
 have h10 := form_le hI
 have hp := p_oneR b (l.length : Int) hI (by omega)
 have hf : ∀ x ∈ l, (entC.put x).length ≤ 1000000 := fun x h => ent_len x (hn x h)
 have hlen : ∀ i, i ≤ l.length → (b ++ form (l.length : Int) ++ (l.take i).flatMap entC.put).length ≤ 35184372088832 + 10 + 1000000 * i := flat_le hb h10 hf
 refine AWP.sr ?_
 refine n_assign rfl n0WhA ?_
 refine AOps.nil ?_
 refine AWP.sr ?_
 refine n_move rfl n0WhA ?_
 refine n_move rfl n0WhA ?_
 refine n_len rfl Tryz.underlying30 n0WhA (by first | rw [ints_length] | rw [List.length_map] | rfl) ?_
 refine n_lit rfl Tryz.underlying24 ti2 zi2 rfl rfl e1WhA rfl n0WhA ?_
 refine n_call0B rfl cf13 rfl e1WhA r2WhA (hp) l3WhA ?_
 refine n_assign rfl n0WhA ?_
 refine AOps.nil ?_
 refine AWP.seq ?_
 refine AWP.sr ?_
 refine n_move rfl n0WhA ?_
 refine n_len rfl Tryz.underlying30 n0WhA (by first | rw [ints_length] | rw [List.length_map] | rfl) ?_
 refine n_move rfl n0WhA ?_
 refine AOps.nil ?_
 refine AWP.block ?_
 refine AWP.loopX 0 (α := Nat) (fun i => i ≤ l.length) (fun i => put (put (put (put (put empty 0 (bys (b ++ form (l.length : Int) ++ (l.take i).flatMap entC.put))) 2 (.fn (.func 48) [] [])) 14 (.sl none (l.map q4) .ro)) 15 (vi (l.length : Int))) 16 (vi (i : Int))) (fun _ => []) (fun i => l.length - i) 0 ?_ ?_ ?_ ?_ ?_ ?_ ?_
 · exact Nat.zero_le _
 · (repeat (first | exact FLe.empty _ | refine FLe.put ?_ ?_)) <;> first | (simp only [nf, Nat.beq]; done) | rfl | ((try simp only [nf, Nat.beq]); first | rfl | (simp only [List.length_map]; done) | (simp only [List.take_zero, List.flatMap_nil, List.append_nil]; done) | (congr 2; omega; done))
 · rfl
 · exact fun _ => rfl
 · intro p hp; (try dsimp only); (repeat' (refine un_put ?_ ?_)) <;> first | exact un_empty | exact .bp (by decide) | exact .lf (D.flat_lf rfl) | exact .lf (lf_ints (.inl rfl)) | exact .lf lf_fnz | exact .lf (lf_mapG qt_lf (.inl rfl)) | exact .lf (lf_map (f := q4) (fun _ => rfl) (.inl rfl))
 · intro p hp; (try dsimp only); repeat' (first | exact un_nil | refine un_cons ?_ ?_ | exact un_box rfl)
 · intro i hi
   try dsimp only at hi ⊢
   refine AWP.sr ?_
   refine n_ibin rfl n0WhA n0WhA rfl ?_
   refine AOps.nil ?_
   refine AWP.seq ?_
   refine AWP.cond n0WhA (fun hc1 => ?_) (fun hc1 => ?_)
   · try simp only [nh] at hc1
     obtain ⟨x, hx0⟩ : ∃ x, l[i]? = some x := ⟨_, List.getElem?_eq_getElem (by omega)⟩
     have hx := map_at q4 hx0
     have hxm := List.mem_of_getElem? hx0
     have hln := hlen i hi
     refine AWP.skip ?_
     refine AWP.seq ?_
     refine AWP.block ?_
     refine AWP.sr ?_
     refine n_indexAddr rfl Tryz.underlying30 ti46 rfl n0WhA n0WhA (by omega) (by exact hx) rfl ?_
     refine n_load rfl ti46 n0WhA n0WhA rfl n0WhA ?_
     refine n_alloc rfl zi46 rfl n0WhA n0WhA ?_
     refine n_store ti46 n0WhA rfl n0WhA rfl n0WhA rfl rfl rfl n0WhA ?_
     refine AOps.nil ?_
     refine AWP.region ?_
     refine n_move rfl n0WhA ?_
     refine n_move rfl n0WhA ?_
     refine n_load rfl ti46 n0WhA n0WhA rfl n0WhA ?_
     refine n_call0B rfl cf48 rfl e1WhA r2WhA (putEntry _ x (by omega) (hn x hxm)) l3WhA ?_
     refine n_assign rfl n0WhA ?_
     refine AOps.nil ?_
     refine AWP.region ?_
     first | refine n_iadd rfl n0WhA n0WhA rfl (by omega) (by omega) ?_ | refine n_ibin rfl n0WhA n0WhA rfl ?_
     refine n_move rfl n0WhA ?_
     refine AOps.nil ?_
     refine ⟨i + 1, [Ob.box (q4 x)], by omega, ?_, rfl, by omega⟩
     (repeat (first | exact FLe.empty _ | refine FLe.put ?_ ?_)) <;> first | (simp only [nf, Nat.beq]; done) | rfl | ((try simp only [nf, Nat.beq]); first | rfl | (simp only [List.length_map]; done) | (simp only [take_snoc hx0, List.flatMap_append, List.flatMap_cons, List.flatMap_nil, List.append_nil, List.append_assoc]; done) | (congr 2; omega; done))
   · try simp only [nh] at hc1
     obtain rfl : i = l.length := by omega
     rw [List.take_length]
     refine AWP.exit ?_
     refine AWP.sr ?_
     refine n_move rfl n0WhA ?_
     refine n_assign rfl n0WhA ?_
     refine AOps.nil ?_
     refine AWP.ret ?_
     refine fin_pure (.cons (rv_tmp n0WhA) .nil) n0WhA ?_
     exact ren_ints

end Go.Proofs.YtanfmpkjcoolmaaGreat.Wh
