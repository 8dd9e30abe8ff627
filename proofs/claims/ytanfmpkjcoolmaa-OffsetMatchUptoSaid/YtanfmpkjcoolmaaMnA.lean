/- Two logs are the same below what their tables have in common. -/
import Derived.Test.YtanfmpkjcoolmaaMmB
set_option linter.unusedVariables false
set_option linter.unusedSimpArgs false
namespace Go.Proofs.Ytanfmpkjcoolmaa.Mn
open Go Go.Abs Go.Abs.Tb Of Og Oh Ol Mm
attribute [local irreducible] AWP AOps Does

theorem cf139 : CF Try.prog 139 := ⟨_, Try.func139, by kernel_rfl, by kernel_rfl⟩
theorem cf158 : CF Try.prog 158 := ⟨_, Try.func158, by kernel_rfl, by kernel_rfl⟩
theorem cf159 : CF Try.prog 159 := ⟨_, Try.func159, by kernel_rfl, by kernel_rfl⟩
theorem cf160 : CF Try.prog 160 := ⟨_, Try.func160, by kernel_rfl, by kernel_rfl⟩
theorem cf161 : CF Try.prog 161 := ⟨_, Try.func161, by kernel_rfl, by kernel_rfl⟩
theorem fd217_0 : FD Try.prog 217 0 215 0 := ⟨_, _, Try.underlying217, rfl, rfl, rfl⟩
theorem fd217_1 : FD Try.prog 217 1 213 2 := ⟨_, _, Try.underlying217, rfl, rfl, rfl⟩
theorem fd217_6 : FD Try.prog 217 6 4 10 := ⟨_, _, Try.underlying217, rfl, rfl, rfl⟩
theorem si217 : SI Try.prog 217 #[(0, 2), (2, 4), (6, 1), (7, 1), (8, 1), (9, 1), (10, 1)] (.agg #[.slice none 0 0, .slice none 0 0, .slice none 0 0, .int .i64 0, .slice none 0 0, .int .i64 0, .int .i64 0, .int .i64 0, .bool false, .int .i64 0, .bool false]) := ⟨⟨_, Try.underlying217, fun w => by kernel_rfl⟩, by kernel_rfl⟩
theorem ti188 : TI Try.prog 188 2 true := ⟨by kernel_rfl, by kernel_rfl⟩
theorem ti2 : TI Try.prog 2 1 false := ⟨by kernel_rfl, by kernel_rfl⟩
theorem ti213 : TI Try.prog 213 4 true := ⟨by kernel_rfl, by kernel_rfl⟩
theorem ti214 : TI Try.prog 214 1 false := ⟨by kernel_rfl, by kernel_rfl⟩
theorem ti215 : TI Try.prog 215 2 true := ⟨by kernel_rfl, by kernel_rfl⟩
theorem ti219 : TI Try.prog 219 3 true := ⟨by kernel_rfl, by kernel_rfl⟩
theorem ti224 : TI Try.prog 224 3 true := ⟨by kernel_rfl, by kernel_rfl⟩
theorem ti3 : TI Try.prog 3 1 false := ⟨by kernel_rfl, by kernel_rfl⟩
theorem ti4 : TI Try.prog 4 1 false := ⟨by kernel_rfl, by kernel_rfl⟩
theorem zi213 : (Try.prog.info? 213).map (·.zero) = some (some (.agg #[.slice none 0 0, .int .i64 0, .slice none 0 0, .int .i64 0])) := by kernel_rfl
theorem zi219 : (Try.prog.info? 219).map (·.zero) = some (some (.agg #[.int .i64 0, .int .i64 0, .int .u8 0])) := by kernel_rfl

attribute [local irreducible] Tb.good Tb.may Tb.addT Tb.addE Tb.cutT Tb.cutE Tb.new
theorem eq_et (l : List Et) (hn : l.length ≤ 1048576) : Does Try.prog 161 [(.sl none (l.map etz) .ro), (.sl none (l.map etz) .ro)] [] (vb true) [] := by
  refine Does.of_body (rvs := [.tmp 4]) Try.func161 rfl rfl rfl rfl ?_
  refine AWP.seq ?_
  refine AWP.region ?_
  refine n_assign rfl (by first | (simp only [nf, nfS, Nat.beq] <;> rfl) | rfl) ?_
  refine AOps.nil ?_
  refine AWP.seq ?_
  refine AWP.seq ?_
  refine AWP.region ?_
  refine n_move rfl (by first | (simp only [nf, nfS, Nat.beq] <;> rfl) | rfl) ?_
  refine n_len rfl Try.underlying214 (by first | (simp only [nf, nfS, Nat.beq] <;> rfl) | rfl) (by first | rw [ints_length] | rw [List.length_map] | rfl) ?_
  refine n_move rfl (by first | (simp only [nf, nfS, Nat.beq] <;> rfl) | rfl) ?_
  refine n_len rfl Try.underlying214 (by first | (simp only [nf, nfS, Nat.beq] <;> rfl) | rfl) (by first | rw [ints_length] | rw [List.length_map] | rfl) ?_
  refine n_ibin rfl (by first | (simp only [nf, nfS, Nat.beq] <;> rfl) | rfl) (by first | (simp only [nf, nfS, Nat.beq] <;> rfl) | rfl) rfl ?_
  refine AOps.nil ?_
  refine AWP.cond (by first | (simp only [nf, nfS, Nat.beq] <;> rfl) | rfl) (fun hc1 => ?_) (fun hc1 => ?_)
  · try simp only [nh] at hc1
    exfalso
    simp at hc1
  · try simp only [nh] at hc1
    refine AWP.skip ?_
    refine AWP.seq ?_
    refine AWP.seq ?_
    refine AWP.region ?_
    refine n_move rfl (by first | (simp only [nf, nfS, Nat.beq] <;> rfl) | rfl) ?_
    refine n_len rfl Try.underlying214 (by first | (simp only [nf, nfS, Nat.beq] <;> rfl) | rfl) (by first | rw [ints_length] | rw [List.length_map] | rfl) ?_
    refine n_move rfl (by first | (simp only [nf, nfS, Nat.beq] <;> rfl) | rfl) ?_
    refine AOps.nil ?_
    refine AWP.block ?_
    refine AWP.loop (α := Nat) (fun i => i ≤ l.length) (fun i => put (put (put (put empty 0 (.sl none (l.map etz) .ro)) 1 (.sl none (l.map etz) .ro)) 12 (vi (l.length : Int))) 13 (vi (i : Int))) (fun _ => []) (fun i => l.length - i) 0 ?_ ?_ ?_ ?_
    · exact Nat.zero_le _
    · (repeat (first | exact FLe.empty _ | refine FLe.put ?_ ?_)) <;> first | (simp only [nf, nfS, Nat.beq]; done) | rfl | (try simp only [nf, nfS, Nat.beq]; first | rfl | (simp only [List.length_map]; done) | (simp only [ints_length]; done) | (congr 2; omega))
    · rfl
    · intro i hi
      try dsimp only at hi ⊢
      refine AWP.seq ?_
      refine AWP.region ?_
      refine n_ibin rfl (by first | (simp only [nf, nfS, Nat.beq] <;> rfl) | rfl) (by first | (simp only [nf, nfS, Nat.beq] <;> rfl) | rfl) rfl ?_
      refine AOps.nil ?_
      refine AWP.seq ?_
      refine AWP.cond (by first | (simp only [nf, nfS, Nat.beq] <;> rfl) | rfl) (fun hc2 => ?_) (fun hc2 => ?_)
      · try simp only [nh] at hc2
        obtain ⟨x, hx⟩ : ∃ x, l[i]? = some x := ⟨_, List.getElem?_eq_getElem (by omega)⟩
        refine AWP.skip ?_
        refine AWP.seq ?_
        refine AWP.block ?_
        refine AWP.seq ?_
        refine AWP.region ?_
        refine n_move rfl (by first | (simp only [nf, nfS, Nat.beq] <;> rfl) | rfl) ?_
        refine n_assign rfl (by first | (simp only [nf, nfS, Nat.beq] <;> rfl) | rfl) ?_
        refine AOps.nil ?_
        refine AWP.seq ?_
        refine AWP.anyStill (by kernel_rfl) (by kernel_rfl) ?_
        refine Walk.still (rs := [0]) (by rfl) (by first | (simp only [nf, nfS, Nat.beq] <;> rfl) | rfl) (fun base => by
            refine n_move rfl (by first | (simp only [nf, nfS, Nat.beq] <;> rfl) | rfl) ?_
            exact AOps.nil ⟨rfl, rfl, rfl⟩) ?_
        refine Walk.still (rs := [5]) (by rfl) (by first | (simp only [nf, nfS, Nat.beq] <;> rfl) | rfl) (fun base => by
            refine n_move rfl (by first | (simp only [nf, nfS, Nat.beq] <;> rfl) | rfl) ?_
            exact AOps.nil ⟨rfl, rfl, rfl⟩) ?_
        refine Walk.still (rs := [16, 17]) (by rfl) (by first | (simp only [nf, nfS, Nat.beq] <;> rfl) | rfl) (fun base => by
            refine n_indexAddr rfl Try.underlying214 ti224 rfl (by first | (simp only [nf, nfS, Nat.beq] <;> rfl) | rfl) (by first | (simp only [nf, nfS, Nat.beq] <;> rfl) | rfl) (by omega) (by first | exact ints_at _ _ _ (by omega) | exact ints_get _ _ _ (by omega) | exact map_at _ (by assumption) | rfl) rfl ?_
            exact AOps.nil ⟨rfl, rfl, rfl⟩) ?_
        refine Walk.still (rs := [18]) (by rfl) (by first | (simp only [nf, nfS, Nat.beq] <;> rfl) | rfl) (fun base => by
            refine n_load rfl ti224 (by first | (simp only [nf, nfS, Nat.beq] <;> rfl) | rfl) (by first | (simp only [nf, nfS, Nat.beq] <;> rfl) | rfl) rfl (by first | (simp only [nf, nfS, Nat.beq] <;> rfl) | rfl) ?_
            exact AOps.nil ⟨rfl, rfl, rfl⟩) ?_
        refine Walk.still (rs := [1]) (by rfl) (by first | (simp only [nf, nfS, Nat.beq] <;> rfl) | rfl) (fun base => by
            refine n_move rfl (by first | (simp only [nf, nfS, Nat.beq] <;> rfl) | rfl) ?_
            exact AOps.nil ⟨rfl, rfl, rfl⟩) ?_
        refine Walk.still (rs := [5]) (by rfl) (by first | (simp only [nf, nfS, Nat.beq] <;> rfl) | rfl) (fun base => by
            refine n_move rfl (by first | (simp only [nf, nfS, Nat.beq] <;> rfl) | rfl) ?_
            exact AOps.nil ⟨rfl, rfl, rfl⟩) ?_
        refine Walk.still (rs := [20, 21]) (by rfl) (by first | (simp only [nf, nfS, Nat.beq] <;> rfl) | rfl) (fun base => by
            refine n_indexAddr rfl Try.underlying214 ti224 rfl (by first | (simp only [nf, nfS, Nat.beq] <;> rfl) | rfl) (by first | (simp only [nf, nfS, Nat.beq] <;> rfl) | rfl) (by omega) (by first | exact ints_at _ _ _ (by omega) | exact ints_get _ _ _ (by omega) | exact map_at _ (by assumption) | rfl) rfl ?_
            exact AOps.nil ⟨rfl, rfl, rfl⟩) ?_
        refine Walk.still (rs := [22]) (by rfl) (by first | (simp only [nf, nfS, Nat.beq] <;> rfl) | rfl) (fun base => by
            refine n_load rfl ti224 (by first | (simp only [nf, nfS, Nat.beq] <;> rfl) | rfl) (by first | (simp only [nf, nfS, Nat.beq] <;> rfl) | rfl) rfl (by first | (simp only [nf, nfS, Nat.beq] <;> rfl) | rfl) ?_
            exact AOps.nil ⟨rfl, rfl, rfl⟩) ?_
        refine Walk.still (rs := [19, 23]) (by rfl) (by first | (simp only [nf, nfS, Nat.beq] <;> rfl) | rfl) (fun base => by
            refine n_stne rfl (by first | (simp only [nf, nfS, Nat.beq] <;> rfl) | rfl) (by first | (simp only [nf, nfS, Nat.beq] <;> rfl) | rfl) rfl rfl Try.underlying224 (by kernel_rfl) (by kernel_rfl) (.int rfl ti3 Try.underlying3 rfl rfl (.int rfl ti2 Try.underlying2 rfl rfl (.int rfl ti3 Try.underlying3 rfl rfl .nil))) rfl ?_
            exact AOps.nil ⟨rfl, rfl, rfl⟩) ?_
        refine Walk.done ?_
        refine AWP.cond (by first | (simp only [nf, nfS, Nat.beq] <;> rfl) | rfl) (fun hc3 => ?_) (fun hc3 => ?_)
        · try simp only [nh] at hc3
          exfalso
          simp at hc3
        · try simp only [nh] at hc3
          refine AWP.skip ?_
          refine AWP.region ?_
          first | refine n_iadd rfl (by first | (simp only [nf, nfS, Nat.beq] <;> rfl) | rfl) (by first | (simp only [nf, nfS, Nat.beq] <;> rfl) | rfl) rfl (by omega) (by omega) ?_ | refine n_ibin rfl (by first | (simp only [nf, nfS, Nat.beq] <;> rfl) | rfl) (by first | (simp only [nf, nfS, Nat.beq] <;> rfl) | rfl) rfl ?_
          refine n_move rfl (by first | (simp only [nf, nfS, Nat.beq] <;> rfl) | rfl) ?_
          refine AOps.nil ?_
          refine ⟨i + 1, by omega, ?_, rfl, by omega⟩
          (repeat (first | exact FLe.empty _ | refine FLe.put ?_ ?_)) <;> first | (simp only [nf, nfS, Nat.beq]; done) | rfl | (try simp only [nf, nfS, Nat.beq]; first | rfl | (simp only [List.length_map]; done) | (simp only [ints_length]; done) | (congr 2; omega))
      · try simp only [nh] at hc2
        refine AWP.exit ?_
        refine AWP.seq ?_
        refine AWP.region ?_
        refine n_assign rfl (by first | (simp only [nf, nfS, Nat.beq] <;> rfl) | rfl) ?_
        refine AOps.nil ?_
        refine AWP.ret ?_
        refine fin_pure (.cons (rv_tmp (by first | (simp only [nf, nfS, Nat.beq] <;> rfl) | rfl)) .nil) (by first | (simp only [nf, nfS, Nat.beq] <;> rfl) | rfl) ?_
        exact ren_flat rfl rfl

theorem moves (w : Wd) {k : Nat} (hk : k < 300) (f : Bool → Option Bool) (C : Bool → Cap) {S1 : List Ob} (hs : Stt k w C S1) (m : Mv) (K : D → List Ob → Prop) (hK : ∀ w f C S2, Stt (k + 1) w C S2 → K (.tup []) (.box (wb w f C) :: S2)) :
    DoesK Try.prog 159 [.bp 0 0, .agg (mz m)] (.box (wb w f C) :: S1) K := by
  rcases w with ⟨L, T, b, ep, jo, nx⟩
  cases b
  · exact moves_0 L T ep jo nx k hk f C S1 hs m K hK
  · exact moves_1 L T ep jo nx k hk f C S1 hs m K hK
set_option maxHeartbeats 4000000 in
theorem Match_calls (ms : List Mv) (hn : ms.length ≤ 1048576) : Does Try.prog 31 [.sl none (ms.map mz) .ro] [] (vb true) [] := by
  refine Does.of_body (rvs := [.tmp 2]) Try.func31 rfl rfl rfl rfl ?_
  refine AWP.seq ?_
  refine AWP.region ?_
  refine n_assign rfl (by first | (simp only [nf, nfS, Nat.beq] <;> rfl) | rfl) ?_
  refine AOps.nil ?_
  refine AWP.seq ?_
  refine AWP.seq ?_
  refine AWP.region ?_
  refine n_call0B rfl cf139 rfl (Eq.trans (by simp only [nl] <;> rfl) (by first | (simp only [nf, nfS, Nat.beq] <;> rfl) | rfl)) (by repeat (first | exact .nil | refine .cons ?_ ?_ | exact ren_ints | exact .lf (.val _) | exact .lf (lf_ints (.inl rfl)) | exact .bp ⟨rfl, rfl⟩ | exact .bp (.inl ⟨rfl, rfl⟩) | exact .bp (.inr ⟨rfl, rfl⟩) | exact ren_map (f := etz) (fun _ => rfl) | exact .ro (fun x hx d hd => by obtain ⟨p, _, rfl⟩ := List.mem_map.1 hx; exact flats_lf (by rfl) d hd) | exact ren_nil0 | exact .lf (lf_fnrp (lf_cons (.val _) lf_nil)) | exact .lf (.rp (lf_cons (.val _) lf_nil)) | exact .bs ⟨rfl, rfl⟩ | exact .lf (D.flat_lf rfl) | exact ren_map (f := spz) (fun _ => rfl) | exact .lf (lf_tz _) | exact ren_tz | exact .lf (.fn (fun d h => by cases h) (fun d h => by cases h)) | exact .lf (lf_fnrp (lf_rp1 (f := spz) (fun _ => rfl))) | exact .ro (by intro x hx; simp only [List.mem_cons, List.not_mem_nil, or_false] at hx; rcases hx with rfl | rfl <;> exact flats_lf rfl))) (Oh.begun) (by first | exact .val _ | exact lf_ints (.inl rfl) | exact lf_ints (.inr rfl) | exact .any | exact lf_nil0 | exact lf_fnrp (lf_cons (.val _) lf_nil) | exact D.flat_lf rfl | exact lf_map (f := spz) (fun _ => rfl) (.inl rfl) | exact lf_tz _ | exact .tup (lf_cons (lf_tz _) (lf_cons (.val _) lf_nil)) | exact lf_fnrp (lf_rp1 (f := spz) (fun _ => rfl))) ?_
  refine n_not rfl (by first | (simp only [nf, nfS, Nat.beq] <;> rfl) | rfl) rfl ?_
  refine AOps.nil ?_
  refine AWP.cond_false (by first | (simp only [nf, nfS, Nat.beq] <;> rfl) | rfl) ?_
  refine AWP.skip ?_
  refine AWP.seq ?_
  refine AWP.region ?_
  refine n_call0B rfl cf158 rfl (Eq.trans (by simp only [nl] <;> rfl) (by first | (simp only [nf, nfS, Nat.beq] <;> rfl) | rfl)) (by repeat (first | exact .nil | refine .cons ?_ ?_ | exact ren_ints | exact .lf (.val _) | exact .lf (lf_ints (.inl rfl)) | exact .bp ⟨rfl, rfl⟩ | exact .bp (.inl ⟨rfl, rfl⟩) | exact .bp (.inr ⟨rfl, rfl⟩) | exact ren_map (f := etz) (fun _ => rfl) | exact .ro (fun x hx d hd => by obtain ⟨p, _, rfl⟩ := List.mem_map.1 hx; exact flats_lf (by rfl) d hd) | exact ren_nil0 | exact .lf (lf_fnrp (lf_cons (.val _) lf_nil)) | exact .lf (.rp (lf_cons (.val _) lf_nil)) | exact .bs ⟨rfl, rfl⟩ | exact .lf (D.flat_lf rfl) | exact ren_map (f := spz) (fun _ => rfl) | exact .lf (lf_tz _) | exact ren_tz | exact .lf (.fn (fun d h => by cases h) (fun d h => by cases h)) | exact .lf (lf_fnrp (lf_rp1 (f := spz) (fun _ => rfl))) | exact .ro (by intro x hx; simp only [List.mem_cons, List.not_mem_nil, or_false] at hx; rcases hx with rfl | rfl <;> exact flats_lf rfl))) (l_new _) (by first | exact .val _ | exact lf_ints (.inl rfl) | exact lf_ints (.inr rfl) | exact .any | exact lf_nil0 | exact lf_fnrp (lf_cons (.val _) lf_nil) | exact D.flat_lf rfl | exact lf_map (f := spz) (fun _ => rfl) (.inl rfl) | exact lf_tz _ | exact .tup (lf_cons (lf_tz _) (lf_cons (.val _) lf_nil)) | exact lf_fnrp (lf_rp1 (f := spz) (fun _ => rfl))) ?_
  refine n_call0B rfl cf158 rfl (Eq.trans (by simp only [nl] <;> rfl) (by first | (simp only [nf, nfS, Nat.beq] <;> rfl) | rfl)) (by repeat (first | exact .nil | refine .cons ?_ ?_ | exact ren_ints | exact .lf (.val _) | exact .lf (lf_ints (.inl rfl)) | exact .bp ⟨rfl, rfl⟩ | exact .bp (.inl ⟨rfl, rfl⟩) | exact .bp (.inr ⟨rfl, rfl⟩) | exact ren_map (f := etz) (fun _ => rfl) | exact .ro (fun x hx d hd => by obtain ⟨p, _, rfl⟩ := List.mem_map.1 hx; exact flats_lf (by rfl) d hd) | exact ren_nil0 | exact .lf (lf_fnrp (lf_cons (.val _) lf_nil)) | exact .lf (.rp (lf_cons (.val _) lf_nil)) | exact .bs ⟨rfl, rfl⟩ | exact .lf (D.flat_lf rfl) | exact ren_map (f := spz) (fun _ => rfl) | exact .lf (lf_tz _) | exact ren_tz | exact .lf (.fn (fun d h => by cases h) (fun d h => by cases h)) | exact .lf (lf_fnrp (lf_rp1 (f := spz) (fun _ => rfl))) | exact .ro (by intro x hx; simp only [List.mem_cons, List.not_mem_nil, or_false] at hx; rcases hx with rfl | rfl <;> exact flats_lf rfl))) (l_new _) (by first | exact .val _ | exact lf_ints (.inl rfl) | exact lf_ints (.inr rfl) | exact .any | exact lf_nil0 | exact lf_fnrp (lf_cons (.val _) lf_nil) | exact D.flat_lf rfl | exact lf_map (f := spz) (fun _ => rfl) (.inl rfl) | exact lf_tz _ | exact .tup (lf_cons (lf_tz _) (lf_cons (.val _) lf_nil)) | exact lf_fnrp (lf_rp1 (f := spz) (fun _ => rfl))) ?_
  refine n_build2 rfl Try.underlying213 ti188 zi213 rfl (by first | (simp only [nf, nfS, Nat.beq] <;> rfl) | rfl) (by first | (simp only [nf, nfS, Nat.beq] <;> rfl) | rfl) rfl ?_
  refine n_build rfl si217 (Eq.trans (by simp only [nl] <;> rfl) (by first | (simp only [nf, nfS, Nat.beq] <;> rfl) | rfl)) (Eq.trans (by simp only [nl] <;> rfl) (by first | (simp only [nf, nfS, Nat.beq] <;> rfl) | rfl)) rfl ?_
  refine n_box rfl (by first | (simp only [nf, nfS, Nat.beq] <;> rfl) | rfl) rfl rfl (by first | (simp only [nf, nfS, Nat.beq] <;> rfl) | rfl) (by first | (simp only [nf, nfS, Nat.beq] <;> rfl) | rfl) ?_
  refine n_assign rfl (by first | (simp only [nf, nfS, Nat.beq] <;> rfl) | rfl) ?_
  refine AOps.nil ?_
  refine AWP.seq ?_
  refine AWP.seq ?_
  refine AWP.region ?_
  refine n_move rfl (by first | (simp only [nf, nfS, Nat.beq] <;> rfl) | rfl) ?_
  refine n_move rfl (by first | (simp only [nf, nfS, Nat.beq] <;> rfl) | rfl) ?_
  refine n_len rfl Try.underlying210 (by first | (simp only [nf, nfS, Nat.beq] <;> rfl) | rfl) (by first | rw [ints_length] | rw [List.length_map] | rfl) ?_
  refine n_min (T2 := #[]) (c := ((min ms.length 300 : Nat) : Int)) rfl (by first | (simp only [nf, nfS, Nat.beq] <;> rfl) | rfl) (by first | (simp only [nf, nfS, Nat.beq] <;> rfl) | rfl) (by split <;> omega) ?_
  refine n_slice (k := 0) (h := min ms.length 300) (ys := (ms.take (min ms.length 300)).map mz) rfl Try.underlying210 ti219 (by first | (simp only [nf, nfS, Nat.beq] <;> rfl) | rfl) (SB.some (by first | (simp only [nf, nfS, Nat.beq] <;> rfl) | rfl) (by first | rfl | omega)) SB.none (by omega) (by rw [List.length_map]; omega) (by exact map_one (f := mz) (fun _ => rfl)) (by rw [List.drop_zero, List.map_take]) ?_
  refine n_len rfl Try.underlying210 (by first | (simp only [nf, nfS, Nat.beq] <;> rfl) | rfl) (n := ((min ms.length 300 : Nat) : Int)) (by rw [List.length_map, List.length_take]; omega) ?_
  refine n_move rfl (by first | (simp only [nf, nfS, Nat.beq] <;> rfl) | rfl) ?_
  refine AOps.nil ?_
  refine AWP.block ?_
  refine AWP.loop (α := Nat × Wd × (Bool → Option Bool) × (Bool → Cap) × List Ob) (fun p => p.1 ≤ min ms.length 300 ∧ Stt p.1 p.2.1 p.2.2.2.1 p.2.2.2.2) (fun p => put (put (put (put empty 3 (.bp 0 0)) 18 (.sl none ((ms.take (min ms.length 300)).map mz) .ro)) 19 (vi ((min ms.length 300 : Nat) : Int))) 20 (vi (p.1 : Int))) (fun p => .box (wb p.2.1 p.2.2.1 p.2.2.2.1) :: p.2.2.2.2) (fun p => min ms.length 300 - p.1) (0, wd0, fun _ => some true, fun _ => .full, []) ?_ ?_ ?_ ?_
  · exact ⟨Nat.zero_le _, inv0, ⟨by decide, by decide⟩, fun _ => .inl rfl, fun _ _ h => by cases h⟩
  · (repeat (first | exact FLe.empty _ | refine FLe.put ?_ ?_)) <;> first | (simp only [nf, nfS, Nat.beq]; done) | rfl | ((try simp only [nf, nfS, Nat.beq]); first | rfl | (simp only [List.length_map]; done) | (congr 2; omega; done))
  · rfl
  · rintro ⟨i, w, f, C, S1⟩ ⟨hi, hs⟩
    dsimp only at hi hs ⊢
    refine AWP.seq ?_
    refine AWP.region ?_
    refine n_ibin rfl (by first | (simp only [nf, nfS, Nat.beq] <;> rfl) | rfl) (by first | (simp only [nf, nfS, Nat.beq] <;> rfl) | rfl) rfl ?_
    refine AOps.nil ?_
    refine AWP.seq ?_
    refine AWP.cond (by first | (simp only [nf, nfS, Nat.beq] <;> rfl) | rfl) (fun hc2 => ?_) (fun hc2 => ?_)
    · try simp only [nh] at hc2
      obtain ⟨m, hxm0⟩ : ∃ m, (ms.take (min ms.length 300))[i]? = some m := ⟨_, List.getElem?_eq_getElem (by rw [List.length_take]; omega)⟩
      have hxm := map_at mz hxm0
      have hi3 : i < 300 := by omega
      refine AWP.skip ?_
      refine AWP.seq ?_
      refine AWP.block ?_
      refine AWP.seq ?_
      refine AWP.region ?_
      refine n_indexAddr rfl Try.underlying210 ti219 rfl (by first | (simp only [nf, nfS, Nat.beq] <;> rfl) | rfl) (by first | (simp only [nf, nfS, Nat.beq] <;> rfl) | rfl) (by omega) (by exact hxm) rfl ?_
      refine n_load rfl ti219 (by first | (simp only [nf, nfS, Nat.beq] <;> rfl) | rfl) (by first | (simp only [nf, nfS, Nat.beq] <;> rfl) | rfl) rfl (by first | (simp only [nf, nfS, Nat.beq] <;> rfl) | rfl) ?_
      refine n_alloc rfl zi219 rfl (by first | (simp only [nf, nfS, Nat.beq] <;> rfl) | rfl) (by first | (simp only [nf, nfS, Nat.beq] <;> rfl) | rfl) ?_
      refine n_store ti219 (by first | (simp only [nf, nfS, Nat.beq] <;> rfl) | rfl) (by first | (simp only [nf, nfS, Nat.beq] <;> rfl) | rfl) (by first | (simp only [nf, nfS, Nat.beq] <;> rfl) | rfl) rfl (by first | (simp only [nf, nfS, Nat.beq] <;> rfl) | rfl) rfl rfl rfl (by first | (simp only [nf, nfS, Nat.beq] <;> rfl) | rfl) ?_
      refine AOps.nil ?_
      refine AWP.seq ?_
      refine AWP.region ?_
      refine n_move rfl (by first | (simp only [nf, nfS, Nat.beq] <;> rfl) | rfl) ?_
      refine n_load rfl ti219 (by first | (simp only [nf, nfS, Nat.beq] <;> rfl) | rfl) (by first | (simp only [nf, nfS, Nat.beq] <;> rfl) | rfl) rfl (by first | (simp only [nf, nfS, Nat.beq] <;> rfl) | rfl) ?_
      refine op_callK (dst := some 26) rfl cf159 rfl (Eq.trans (by simp only [nl] <;> rfl) (by first | (simp only [nf, nfS, Nat.beq] <;> rfl) | rfl)) (moves w hi3 f C hs.app m _ (fun v g D S2 hs2 => ?_))
      refine AOps.nil ?_
      refine AWP.seq ?_
      refine AWP.seq ?_
      have hI := hs2.inv
      have hg : ∀ c, (v.T c).good = true := fun c => (hI.desc c).good
      have hln : ∀ c, (v.L c).length ≤ i + 1 := hI.len
      have hlf := hln false
      have hlt := hln true
      have htl : ∀ c, (v.T c).l.length ≤ 1048576 := fun c => by { have h1 := Tb.desc_spans (hI.desc c); have h2 := (hI.desc c).len; have h3 := hln c; omega }
      obtain ⟨n, hcom, hn1, hn2, hn3, hn4⟩ := com_logs (hI.desc false) (hI.desc true) (hI.mt false)
      have hcm := l_com (v.T false) (v.T true) (htl false) (htl true)
      rw [may_same (hg false), may_same (hg true), hcom] at hcm
      refine AWP.region ?_
      refine n_move rfl (by first | (simp only [nf, nfS, Nat.beq] <;> rfl) | rfl) ?_
      refine n_nilCheck rfl (by first | (simp only [nf, nfS, Nat.beq] <;> rfl) | rfl) rfl ?_
      refine n_fieldAddr rfl fd217_6 ti4 rfl (by first | (simp only [nf, nfS, Nat.beq] <;> rfl) | rfl) rfl (by first | (simp only [nf, nfS, Nat.beq] <;> rfl) | rfl) ?_
      refine n_load rfl ti4 (by first | (simp only [nf, nfS, Nat.beq] <;> rfl) | rfl) (by first | (simp only [nf, nfS, Nat.beq] <;> rfl) | rfl) rfl (by first | (simp only [nf, nfS, Nat.beq] <;> rfl) | rfl) ?_
      refine n_not rfl (by first | (simp only [nf, nfS, Nat.beq] <;> rfl) | rfl) rfl ?_
      refine AOps.nil ?_
      refine AWP.cond_false (by first | (simp only [nf, nfS, Nat.beq] <;> rfl) | rfl) ?_
      refine AWP.skip ?_
      refine AWP.seq ?_
      refine AWP.anyStill (by kernel_rfl) (by kernel_rfl) ?_
      refine Walk.still (rs := [3]) (by rfl) (by first | (simp only [nf, nfS, Nat.beq] <;> rfl) | rfl) (fun base => by
          refine n_move rfl (by first | (simp only [nf, nfS, Nat.beq] <;> rfl) | rfl) ?_
          exact AOps.nil ⟨rfl, rfl, rfl⟩) ?_
      refine Walk.still (rs := [32]) (by rfl) (by first | (simp only [nf, nfS, Nat.beq] <;> rfl) | rfl) (fun base => by
          refine n_nilCheck rfl (by first | (simp only [nf, nfS, Nat.beq] <;> rfl) | rfl) rfl ?_
          exact AOps.nil ⟨rfl, rfl, rfl⟩) ?_
      refine Walk.still (rs := [33]) (by rfl) (by first | (simp only [nf, nfS, Nat.beq] <;> rfl) | rfl) (fun base => by
          refine n_fieldAddr rfl fd217_1 ti213 rfl (by first | (simp only [nf, nfS, Nat.beq] <;> rfl) | rfl) rfl (by first | (simp only [nf, nfS, Nat.beq] <;> rfl) | rfl) ?_
          exact AOps.nil ⟨rfl, rfl, rfl⟩) ?_
      refine Walk.still (rs := [34]) (by rfl) (by first | (simp only [nf, nfS, Nat.beq] <;> rfl) | rfl) (fun base => by
          refine n_arrAddr (q := 2) rfl Try.underlying213 ti188 (by first | (simp only [nf, nfS, Nat.beq] <;> rfl) | rfl) (by first | (simp only [nf, nfS, Nat.beq] <;> rfl) | rfl) (by decide) (by decide) rfl ?_
          exact AOps.nil ⟨rfl, rfl, rfl⟩) ?_
      refine Walk.still (rs := [35]) (by rfl) (by first | (simp only [nf, nfS, Nat.beq] <;> rfl) | rfl) (fun base => by
          refine n_load rfl ti188 (by first | (simp only [nf, nfS, Nat.beq] <;> rfl) | rfl) (by first | (simp only [nf, nfS, Nat.beq] <;> rfl) | rfl) rfl (by first | (simp only [nf, nfS, Nat.beq] <;> rfl) | rfl) ?_
          exact AOps.nil ⟨rfl, rfl, rfl⟩) ?_
      refine Walk.still (rs := [3]) (by rfl) (by first | (simp only [nf, nfS, Nat.beq] <;> rfl) | rfl) (fun base => by
          refine n_move rfl (by first | (simp only [nf, nfS, Nat.beq] <;> rfl) | rfl) ?_
          exact AOps.nil ⟨rfl, rfl, rfl⟩) ?_
      refine Walk.still (rs := [37]) (by rfl) (by first | (simp only [nf, nfS, Nat.beq] <;> rfl) | rfl) (fun base => by
          refine n_nilCheck rfl (by first | (simp only [nf, nfS, Nat.beq] <;> rfl) | rfl) rfl ?_
          exact AOps.nil ⟨rfl, rfl, rfl⟩) ?_
      refine Walk.still (rs := [38]) (by rfl) (by first | (simp only [nf, nfS, Nat.beq] <;> rfl) | rfl) (fun base => by
          refine n_fieldAddr rfl fd217_1 ti213 rfl (by first | (simp only [nf, nfS, Nat.beq] <;> rfl) | rfl) rfl (by first | (simp only [nf, nfS, Nat.beq] <;> rfl) | rfl) ?_
          exact AOps.nil ⟨rfl, rfl, rfl⟩) ?_
      refine Walk.still (rs := [39]) (by rfl) (by first | (simp only [nf, nfS, Nat.beq] <;> rfl) | rfl) (fun base => by
          refine n_arrAddr (q := 4) rfl Try.underlying213 ti188 (by first | (simp only [nf, nfS, Nat.beq] <;> rfl) | rfl) (by first | (simp only [nf, nfS, Nat.beq] <;> rfl) | rfl) (by decide) (by decide) rfl ?_
          exact AOps.nil ⟨rfl, rfl, rfl⟩) ?_
      refine Walk.still (rs := [40]) (by rfl) (by first | (simp only [nf, nfS, Nat.beq] <;> rfl) | rfl) (fun base => by
          refine n_load rfl ti188 (by first | (simp only [nf, nfS, Nat.beq] <;> rfl) | rfl) (by first | (simp only [nf, nfS, Nat.beq] <;> rfl) | rfl) rfl (by first | (simp only [nf, nfS, Nat.beq] <;> rfl) | rfl) ?_
          exact AOps.nil ⟨rfl, rfl, rfl⟩) ?_
      refine Walk.still (rs := [36, 41]) (by rfl) (by first | (simp only [nf, nfS, Nat.beq] <;> rfl) | rfl) (fun base => by
          refine n_call0B rfl cf160 rfl (Eq.trans (by simp only [nl] <;> rfl) (by first | (simp only [nf, nfS, Nat.beq] <;> rfl) | rfl)) (by repeat (first | exact .nil | refine .cons ?_ ?_ | exact ren_ints | exact .lf (.val _) | exact .lf (lf_ints (.inl rfl)) | exact .bp ⟨rfl, rfl⟩ | exact .bp (.inl ⟨rfl, rfl⟩) | exact .bp (.inr ⟨rfl, rfl⟩) | exact ren_map (f := etz) (fun _ => rfl) | exact .ro (fun x hx d hd => by obtain ⟨p, _, rfl⟩ := List.mem_map.1 hx; exact flats_lf (by rfl) d hd) | exact ren_nil0 | exact .lf (lf_fnrp (lf_cons (.val _) lf_nil)) | exact .lf (.rp (lf_cons (.val _) lf_nil)) | exact .bs ⟨rfl, rfl⟩ | exact .lf (D.flat_lf rfl) | exact ren_map (f := spz) (fun _ => rfl) | exact .lf (lf_tz _) | exact ren_tz | exact .lf (.fn (fun d h => by cases h) (fun d h => by cases h)) | exact .lf (lf_fnrp (lf_rp1 (f := spz) (fun _ => rfl))) | exact .ro (by intro x hx; simp only [List.mem_cons, List.not_mem_nil, or_false] at hx; rcases hx with rfl | rfl <;> exact flats_lf rfl))) (hcm) (by first | exact .val _ | exact lf_ints (.inl rfl) | exact lf_ints (.inr rfl) | exact .any | exact lf_nil0 | exact lf_fnrp (lf_cons (.val _) lf_nil) | exact D.flat_lf rfl | exact lf_map (f := spz) (fun _ => rfl) (.inl rfl) | exact lf_tz _ | exact .tup (lf_cons (lf_tz _) (lf_cons (.val _) lf_nil)) | exact lf_fnrp (lf_rp1 (f := spz) (fun _ => rfl))) ?_
          exact AOps.nil ⟨rfl, rfl, rfl⟩) ?_
      refine Walk.still (rs := [42]) (by rfl) (by first | (simp only [nf, nfS, Nat.beq] <;> rfl) | rfl) (fun base => by
          refine n_assign rfl (by first | (simp only [nf, nfS, Nat.beq] <;> rfl) | rfl) ?_
          exact AOps.nil ⟨rfl, rfl, rfl⟩) ?_
      refine Walk.done ?_
      refine AWP.seq ?_
      refine AWP.seq ?_
      refine AWP.anyStill (by kernel_rfl) (by kernel_rfl) ?_
      refine Walk.still (rs := [6]) (by rfl) (by first | (simp only [nf, nfS, Nat.beq] <;> rfl) | rfl) (fun base => by
          refine n_move rfl (by first | (simp only [nf, nfS, Nat.beq] <;> rfl) | rfl) ?_
          exact AOps.nil ⟨rfl, rfl, rfl⟩) ?_
      refine Walk.still (rs := [43]) (by rfl) (by first | (simp only [nf, nfS, Nat.beq] <;> rfl) | rfl) (fun base => by
          refine n_ibin (v := .bool false) rfl (by first | (simp only [nf, nfS, Nat.beq] <;> rfl) | rfl) (by first | (simp only [nf, nfS, Nat.beq] <;> rfl) | rfl) (by show some (Value.bool (decide _)) = _; rw [decide_eq_false (by omega)]) ?_
          exact AOps.nil ⟨rfl, rfl, rfl⟩) ?_
      refine Walk.still (rs := [44]) (by rfl) (by first | (simp only [nf, nfS, Nat.beq] <;> rfl) | rfl) (fun base => by
          refine n_move rfl (by first | (simp only [nf, nfS, Nat.beq] <;> rfl) | rfl) ?_
          exact AOps.nil ⟨rfl, rfl, rfl⟩) ?_
      refine Walk.still (rs := [6, 45]) (by rfl) (by first | (simp only [nf, nfS, Nat.beq] <;> rfl) | rfl) (fun base => by
          refine n_guard_yes rfl rfl rfl (by first | (simp only [nf, nfS, Nat.beq] <;> rfl) | rfl) rfl ?_
          refine n_move rfl (by first | (simp only [nf, nfS, Nat.beq] <;> rfl) | rfl) ?_
          exact AOps.nil ⟨rfl, rfl, rfl⟩) ?_
      refine Walk.still (rs := [3, 45]) (by rfl) (by first | (simp only [nf, nfS, Nat.beq] <;> rfl) | rfl) (fun base => by
          refine n_guard_yes rfl rfl rfl (by first | (simp only [nf, nfS, Nat.beq] <;> rfl) | rfl) rfl ?_
          refine n_move rfl (by first | (simp only [nf, nfS, Nat.beq] <;> rfl) | rfl) ?_
          exact AOps.nil ⟨rfl, rfl, rfl⟩) ?_
      refine Walk.still (rs := [47, 45]) (by rfl) (by first | (simp only [nf, nfS, Nat.beq] <;> rfl) | rfl) (fun base => by
          refine n_guard_yes rfl rfl rfl (by first | (simp only [nf, nfS, Nat.beq] <;> rfl) | rfl) rfl ?_
          refine n_nilCheck rfl (by first | (simp only [nf, nfS, Nat.beq] <;> rfl) | rfl) rfl ?_
          exact AOps.nil ⟨rfl, rfl, rfl⟩) ?_
      refine Walk.still (rs := [48, 45]) (by rfl) (by first | (simp only [nf, nfS, Nat.beq] <;> rfl) | rfl) (fun base => by
          refine n_guard_yes rfl rfl rfl (by first | (simp only [nf, nfS, Nat.beq] <;> rfl) | rfl) rfl ?_
          refine n_fieldAddr rfl fd217_0 ti215 rfl (by first | (simp only [nf, nfS, Nat.beq] <;> rfl) | rfl) rfl (by first | (simp only [nf, nfS, Nat.beq] <;> rfl) | rfl) ?_
          exact AOps.nil ⟨rfl, rfl, rfl⟩) ?_
      refine Walk.still (rs := [49, 45]) (by rfl) (by first | (simp only [nf, nfS, Nat.beq] <;> rfl) | rfl) (fun base => by
          refine n_guard_yes rfl rfl rfl (by first | (simp only [nf, nfS, Nat.beq] <;> rfl) | rfl) rfl ?_
          refine n_arrAddr (q := 0) rfl Try.underlying215 ti214 (by first | (simp only [nf, nfS, Nat.beq] <;> rfl) | rfl) (by first | (simp only [nf, nfS, Nat.beq] <;> rfl) | rfl) (by decide) (by decide) rfl ?_
          exact AOps.nil ⟨rfl, rfl, rfl⟩) ?_
      refine Walk.still (rs := [50, 45]) (by rfl) (by first | (simp only [nf, nfS, Nat.beq] <;> rfl) | rfl) (fun base => by
          refine n_guard_yes rfl rfl rfl (by first | (simp only [nf, nfS, Nat.beq] <;> rfl) | rfl) rfl ?_
          refine n_load rfl ti214 (by first | (simp only [nf, nfS, Nat.beq] <;> rfl) | rfl) (by first | (simp only [nf, nfS, Nat.beq] <;> rfl) | rfl) rfl (by first | (simp only [nf, nfS, Nat.beq] <;> rfl) | rfl) ?_
          exact AOps.nil ⟨rfl, rfl, rfl⟩) ?_
      refine Walk.still (rs := [51, 45]) (by rfl) (by first | (simp only [nf, nfS, Nat.beq] <;> rfl) | rfl) (fun base => by
          refine n_guard_yes rfl rfl rfl (by first | (simp only [nf, nfS, Nat.beq] <;> rfl) | rfl) rfl ?_
          refine n_len rfl Try.underlying214 (by first | (simp only [nf, nfS, Nat.beq] <;> rfl) | rfl) (n := ((v.L false).length : Int)) (by rw [List.length_map]) ?_
          exact AOps.nil ⟨rfl, rfl, rfl⟩) ?_
      refine Walk.still (rs := [46, 52, 45]) (by rfl) (by first | (simp only [nf, nfS, Nat.beq] <;> rfl) | rfl) (fun base => by
          refine n_guard_yes rfl rfl rfl (by first | (simp only [nf, nfS, Nat.beq] <;> rfl) | rfl) rfl ?_
          refine n_ibin (v := .bool false) rfl (by first | (simp only [nf, nfS, Nat.beq] <;> rfl) | rfl) (by first | (simp only [nf, nfS, Nat.beq] <;> rfl) | rfl) (by show some (Value.bool (decide _)) = _; rw [decide_eq_false (by omega)]) ?_
          exact AOps.nil ⟨rfl, rfl, rfl⟩) ?_
      refine Walk.still (rs := [45, 53]) (by rfl) (by first | (simp only [nf, nfS, Nat.beq] <;> rfl) | rfl) (fun base => by
          refine n_pick rfl (by first | (simp only [nf, nfS, Nat.beq] <;> rfl) | rfl) (by first | (simp only [nf, nfS, Nat.beq] <;> rfl) | rfl) ?_
          exact AOps.nil ⟨rfl, rfl, rfl⟩) ?_
      refine Walk.still (rs := [54]) (by rfl) (by first | (simp only [nf, nfS, Nat.beq] <;> rfl) | rfl) (fun base => by
          refine n_move rfl (by first | (simp only [nf, nfS, Nat.beq] <;> rfl) | rfl) ?_
          exact AOps.nil ⟨rfl, rfl, rfl⟩) ?_
      refine Walk.still (rs := [6, 55]) (by rfl) (by first | (simp only [nf, nfS, Nat.beq] <;> rfl) | rfl) (fun base => by
          refine n_guard_yes rfl rfl rfl (by first | (simp only [nf, nfS, Nat.beq] <;> rfl) | rfl) rfl ?_
          refine n_move rfl (by first | (simp only [nf, nfS, Nat.beq] <;> rfl) | rfl) ?_
          exact AOps.nil ⟨rfl, rfl, rfl⟩) ?_
      refine Walk.still (rs := [3, 55]) (by rfl) (by first | (simp only [nf, nfS, Nat.beq] <;> rfl) | rfl) (fun base => by
          refine n_guard_yes rfl rfl rfl (by first | (simp only [nf, nfS, Nat.beq] <;> rfl) | rfl) rfl ?_
          refine n_move rfl (by first | (simp only [nf, nfS, Nat.beq] <;> rfl) | rfl) ?_
          exact AOps.nil ⟨rfl, rfl, rfl⟩) ?_
      refine Walk.still (rs := [57, 55]) (by rfl) (by first | (simp only [nf, nfS, Nat.beq] <;> rfl) | rfl) (fun base => by
          refine n_guard_yes rfl rfl rfl (by first | (simp only [nf, nfS, Nat.beq] <;> rfl) | rfl) rfl ?_
          refine n_nilCheck rfl (by first | (simp only [nf, nfS, Nat.beq] <;> rfl) | rfl) rfl ?_
          exact AOps.nil ⟨rfl, rfl, rfl⟩) ?_
      refine Walk.still (rs := [58, 55]) (by rfl) (by first | (simp only [nf, nfS, Nat.beq] <;> rfl) | rfl) (fun base => by
          refine n_guard_yes rfl rfl rfl (by first | (simp only [nf, nfS, Nat.beq] <;> rfl) | rfl) rfl ?_
          refine n_fieldAddr rfl fd217_0 ti215 rfl (by first | (simp only [nf, nfS, Nat.beq] <;> rfl) | rfl) rfl (by first | (simp only [nf, nfS, Nat.beq] <;> rfl) | rfl) ?_
          exact AOps.nil ⟨rfl, rfl, rfl⟩) ?_
      refine Walk.still (rs := [59, 55]) (by rfl) (by first | (simp only [nf, nfS, Nat.beq] <;> rfl) | rfl) (fun base => by
          refine n_guard_yes rfl rfl rfl (by first | (simp only [nf, nfS, Nat.beq] <;> rfl) | rfl) rfl ?_
          refine n_arrAddr (q := 1) rfl Try.underlying215 ti214 (by first | (simp only [nf, nfS, Nat.beq] <;> rfl) | rfl) (by first | (simp only [nf, nfS, Nat.beq] <;> rfl) | rfl) (by decide) (by decide) rfl ?_
          exact AOps.nil ⟨rfl, rfl, rfl⟩) ?_
      refine Walk.still (rs := [60, 55]) (by rfl) (by first | (simp only [nf, nfS, Nat.beq] <;> rfl) | rfl) (fun base => by
          refine n_guard_yes rfl rfl rfl (by first | (simp only [nf, nfS, Nat.beq] <;> rfl) | rfl) rfl ?_
          refine n_load rfl ti214 (by first | (simp only [nf, nfS, Nat.beq] <;> rfl) | rfl) (by first | (simp only [nf, nfS, Nat.beq] <;> rfl) | rfl) rfl (by first | (simp only [nf, nfS, Nat.beq] <;> rfl) | rfl) ?_
          exact AOps.nil ⟨rfl, rfl, rfl⟩) ?_
      refine Walk.still (rs := [61, 55]) (by rfl) (by first | (simp only [nf, nfS, Nat.beq] <;> rfl) | rfl) (fun base => by
          refine n_guard_yes rfl rfl rfl (by first | (simp only [nf, nfS, Nat.beq] <;> rfl) | rfl) rfl ?_
          refine n_len rfl Try.underlying214 (by first | (simp only [nf, nfS, Nat.beq] <;> rfl) | rfl) (n := ((v.L true).length : Int)) (by rw [List.length_map]) ?_
          exact AOps.nil ⟨rfl, rfl, rfl⟩) ?_
      refine Walk.still (rs := [56, 62, 55]) (by rfl) (by first | (simp only [nf, nfS, Nat.beq] <;> rfl) | rfl) (fun base => by
          refine n_guard_yes rfl rfl rfl (by first | (simp only [nf, nfS, Nat.beq] <;> rfl) | rfl) rfl ?_
          refine n_ibin (v := .bool false) rfl (by first | (simp only [nf, nfS, Nat.beq] <;> rfl) | rfl) (by first | (simp only [nf, nfS, Nat.beq] <;> rfl) | rfl) (by show some (Value.bool (decide _)) = _; rw [decide_eq_false (by omega)]) ?_
          exact AOps.nil ⟨rfl, rfl, rfl⟩) ?_
      refine Walk.still (rs := [55, 63]) (by rfl) (by first | (simp only [nf, nfS, Nat.beq] <;> rfl) | rfl) (fun base => by
          refine n_pick rfl (by first | (simp only [nf, nfS, Nat.beq] <;> rfl) | rfl) (by first | (simp only [nf, nfS, Nat.beq] <;> rfl) | rfl) ?_
          exact AOps.nil ⟨rfl, rfl, rfl⟩) ?_
      refine Walk.still (rs := [64]) (by rfl) (by first | (simp only [nf, nfS, Nat.beq] <;> rfl) | rfl) (fun base => by
          refine n_move rfl (by first | (simp only [nf, nfS, Nat.beq] <;> rfl) | rfl) ?_
          exact AOps.nil ⟨rfl, rfl, rfl⟩) ?_
      refine Walk.still (rs := [3, 65]) (by rfl) (by first | (simp only [nf, nfS, Nat.beq] <;> rfl) | rfl) (fun base => by
          refine n_guard_yes rfl rfl rfl (by first | (simp only [nf, nfS, Nat.beq] <;> rfl) | rfl) rfl ?_
          refine n_move rfl (by first | (simp only [nf, nfS, Nat.beq] <;> rfl) | rfl) ?_
          exact AOps.nil ⟨rfl, rfl, rfl⟩) ?_
      refine Walk.still (rs := [66, 65]) (by rfl) (by first | (simp only [nf, nfS, Nat.beq] <;> rfl) | rfl) (fun base => by
          refine n_guard_yes rfl rfl rfl (by first | (simp only [nf, nfS, Nat.beq] <;> rfl) | rfl) rfl ?_
          refine n_nilCheck rfl (by first | (simp only [nf, nfS, Nat.beq] <;> rfl) | rfl) rfl ?_
          exact AOps.nil ⟨rfl, rfl, rfl⟩) ?_
      refine Walk.still (rs := [67, 65]) (by rfl) (by first | (simp only [nf, nfS, Nat.beq] <;> rfl) | rfl) (fun base => by
          refine n_guard_yes rfl rfl rfl (by first | (simp only [nf, nfS, Nat.beq] <;> rfl) | rfl) rfl ?_
          refine n_fieldAddr rfl fd217_0 ti215 rfl (by first | (simp only [nf, nfS, Nat.beq] <;> rfl) | rfl) rfl (by first | (simp only [nf, nfS, Nat.beq] <;> rfl) | rfl) ?_
          exact AOps.nil ⟨rfl, rfl, rfl⟩) ?_
      refine Walk.still (rs := [68, 65]) (by rfl) (by first | (simp only [nf, nfS, Nat.beq] <;> rfl) | rfl) (fun base => by
          refine n_guard_yes rfl rfl rfl (by first | (simp only [nf, nfS, Nat.beq] <;> rfl) | rfl) rfl ?_
          refine n_arrAddr (q := 0) rfl Try.underlying215 ti214 (by first | (simp only [nf, nfS, Nat.beq] <;> rfl) | rfl) (by first | (simp only [nf, nfS, Nat.beq] <;> rfl) | rfl) (by decide) (by decide) rfl ?_
          exact AOps.nil ⟨rfl, rfl, rfl⟩) ?_
      refine Walk.still (rs := [69, 65]) (by rfl) (by first | (simp only [nf, nfS, Nat.beq] <;> rfl) | rfl) (fun base => by
          refine n_guard_yes rfl rfl rfl (by first | (simp only [nf, nfS, Nat.beq] <;> rfl) | rfl) rfl ?_
          refine n_load rfl ti214 (by first | (simp only [nf, nfS, Nat.beq] <;> rfl) | rfl) (by first | (simp only [nf, nfS, Nat.beq] <;> rfl) | rfl) rfl (by first | (simp only [nf, nfS, Nat.beq] <;> rfl) | rfl) ?_
          exact AOps.nil ⟨rfl, rfl, rfl⟩) ?_
      refine Walk.still (rs := [6, 65]) (by rfl) (by first | (simp only [nf, nfS, Nat.beq] <;> rfl) | rfl) (fun base => by
          refine n_guard_yes rfl rfl rfl (by first | (simp only [nf, nfS, Nat.beq] <;> rfl) | rfl) rfl ?_
          refine n_move rfl (by first | (simp only [nf, nfS, Nat.beq] <;> rfl) | rfl) ?_
          exact AOps.nil ⟨rfl, rfl, rfl⟩) ?_
      refine Walk.still (rs := [70, 71, 65]) (by rfl) (by first | (simp only [nf, nfS, Nat.beq] <;> rfl) | rfl) (fun base => by
          refine n_guard_yes rfl rfl rfl (by first | (simp only [nf, nfS, Nat.beq] <;> rfl) | rfl) rfl ?_
          refine n_slice (k := 0) (h := n) (ys := ((v.L false).take n).map etz) rfl Try.underlying214 ti224 (by first | (simp only [nf, nfS, Nat.beq] <;> rfl) | rfl) (SB.some (by first | (simp only [nf, nfS, Nat.beq] <;> rfl) | rfl) (by first | rfl | omega)) SB.none (by omega) (by rw [List.length_map]; omega) et4 (by rw [List.drop_zero, ← List.map_take]) ?_
          exact AOps.nil ⟨rfl, rfl, rfl⟩) ?_
      refine Walk.still (rs := [3, 65]) (by rfl) (by first | (simp only [nf, nfS, Nat.beq] <;> rfl) | rfl) (fun base => by
          refine n_guard_yes rfl rfl rfl (by first | (simp only [nf, nfS, Nat.beq] <;> rfl) | rfl) rfl ?_
          refine n_move rfl (by first | (simp only [nf, nfS, Nat.beq] <;> rfl) | rfl) ?_
          exact AOps.nil ⟨rfl, rfl, rfl⟩) ?_
      refine Walk.still (rs := [73, 65]) (by rfl) (by first | (simp only [nf, nfS, Nat.beq] <;> rfl) | rfl) (fun base => by
          refine n_guard_yes rfl rfl rfl (by first | (simp only [nf, nfS, Nat.beq] <;> rfl) | rfl) rfl ?_
          refine n_nilCheck rfl (by first | (simp only [nf, nfS, Nat.beq] <;> rfl) | rfl) rfl ?_
          exact AOps.nil ⟨rfl, rfl, rfl⟩) ?_
      refine Walk.still (rs := [74, 65]) (by rfl) (by first | (simp only [nf, nfS, Nat.beq] <;> rfl) | rfl) (fun base => by
          refine n_guard_yes rfl rfl rfl (by first | (simp only [nf, nfS, Nat.beq] <;> rfl) | rfl) rfl ?_
          refine n_fieldAddr rfl fd217_0 ti215 rfl (by first | (simp only [nf, nfS, Nat.beq] <;> rfl) | rfl) rfl (by first | (simp only [nf, nfS, Nat.beq] <;> rfl) | rfl) ?_
          exact AOps.nil ⟨rfl, rfl, rfl⟩) ?_
      refine Walk.still (rs := [75, 65]) (by rfl) (by first | (simp only [nf, nfS, Nat.beq] <;> rfl) | rfl) (fun base => by
          refine n_guard_yes rfl rfl rfl (by first | (simp only [nf, nfS, Nat.beq] <;> rfl) | rfl) rfl ?_
          refine n_arrAddr (q := 1) rfl Try.underlying215 ti214 (by first | (simp only [nf, nfS, Nat.beq] <;> rfl) | rfl) (by first | (simp only [nf, nfS, Nat.beq] <;> rfl) | rfl) (by decide) (by decide) rfl ?_
          exact AOps.nil ⟨rfl, rfl, rfl⟩) ?_
      refine Walk.still (rs := [76, 65]) (by rfl) (by first | (simp only [nf, nfS, Nat.beq] <;> rfl) | rfl) (fun base => by
          refine n_guard_yes rfl rfl rfl (by first | (simp only [nf, nfS, Nat.beq] <;> rfl) | rfl) rfl ?_
          refine n_load rfl ti214 (by first | (simp only [nf, nfS, Nat.beq] <;> rfl) | rfl) (by first | (simp only [nf, nfS, Nat.beq] <;> rfl) | rfl) rfl (by first | (simp only [nf, nfS, Nat.beq] <;> rfl) | rfl) ?_
          exact AOps.nil ⟨rfl, rfl, rfl⟩) ?_
      refine Walk.still (rs := [6, 65]) (by rfl) (by first | (simp only [nf, nfS, Nat.beq] <;> rfl) | rfl) (fun base => by
          refine n_guard_yes rfl rfl rfl (by first | (simp only [nf, nfS, Nat.beq] <;> rfl) | rfl) rfl ?_
          refine n_move rfl (by first | (simp only [nf, nfS, Nat.beq] <;> rfl) | rfl) ?_
          exact AOps.nil ⟨rfl, rfl, rfl⟩) ?_
      refine Walk.still (rs := [77, 78, 65]) (by rfl) (by first | (simp only [nf, nfS, Nat.beq] <;> rfl) | rfl) (fun base => by
          refine n_guard_yes rfl rfl rfl (by first | (simp only [nf, nfS, Nat.beq] <;> rfl) | rfl) rfl ?_
          refine n_slice (k := 0) (h := n) (ys := ((v.L false).take n).map etz) rfl Try.underlying214 ti224 (by first | (simp only [nf, nfS, Nat.beq] <;> rfl) | rfl) (SB.some (by first | (simp only [nf, nfS, Nat.beq] <;> rfl) | rfl) (by first | rfl | omega)) SB.none (by omega) (by rw [List.length_map]; omega) et4 (by rw [List.drop_zero, ← List.map_take]; rw [hn3]) ?_
          exact AOps.nil ⟨rfl, rfl, rfl⟩) ?_
      refine Walk.still (rs := [72, 79, 65]) (by rfl) (by first | (simp only [nf, nfS, Nat.beq] <;> rfl) | rfl) (fun base => by
          refine n_guard_yes rfl rfl rfl (by first | (simp only [nf, nfS, Nat.beq] <;> rfl) | rfl) rfl ?_
          refine n_call0B rfl cf161 rfl (Eq.trans (by simp only [nl] <;> rfl) (by first | (simp only [nf, nfS, Nat.beq] <;> rfl) | rfl)) (by repeat (first | exact .nil | refine .cons ?_ ?_ | exact ren_ints | exact .lf (.val _) | exact .lf (lf_ints (.inl rfl)) | exact .bp ⟨rfl, rfl⟩ | exact .bp (.inl ⟨rfl, rfl⟩) | exact .bp (.inr ⟨rfl, rfl⟩) | exact ren_map (f := etz) (fun _ => rfl) | exact .ro (fun x hx d hd => by obtain ⟨p, _, rfl⟩ := List.mem_map.1 hx; exact flats_lf (by rfl) d hd) | exact ren_nil0 | exact .lf (lf_fnrp (lf_cons (.val _) lf_nil)) | exact .lf (.rp (lf_cons (.val _) lf_nil)) | exact .bs ⟨rfl, rfl⟩ | exact .lf (D.flat_lf rfl) | exact ren_map (f := spz) (fun _ => rfl) | exact .lf (lf_tz _) | exact ren_tz | exact .lf (.fn (fun d h => by cases h) (fun d h => by cases h)) | exact .lf (lf_fnrp (lf_rp1 (f := spz) (fun _ => rfl))) | exact .ro (by intro x hx; simp only [List.mem_cons, List.not_mem_nil, or_false] at hx; rcases hx with rfl | rfl <;> exact flats_lf rfl))) (eq_et ((v.L false).take n) (by rw [List.length_take]; omega)) (by first | exact .val _ | exact lf_ints (.inl rfl) | exact lf_ints (.inr rfl) | exact .any | exact lf_nil0 | exact lf_fnrp (lf_cons (.val _) lf_nil) | exact D.flat_lf rfl | exact lf_map (f := spz) (fun _ => rfl) (.inl rfl) | exact lf_tz _ | exact .tup (lf_cons (lf_tz _) (lf_cons (.val _) lf_nil)) | exact lf_fnrp (lf_rp1 (f := spz) (fun _ => rfl))) ?_
          exact AOps.nil ⟨rfl, rfl, rfl⟩) ?_
      refine Walk.still (rs := [80, 65]) (by rfl) (by first | (simp only [nf, nfS, Nat.beq] <;> rfl) | rfl) (fun base => by
          refine n_guard_yes rfl rfl rfl (by first | (simp only [nf, nfS, Nat.beq] <;> rfl) | rfl) rfl ?_
          refine n_not rfl (by first | (simp only [nf, nfS, Nat.beq] <;> rfl) | rfl) rfl ?_
          exact AOps.nil ⟨rfl, rfl, rfl⟩) ?_
      refine Walk.still (rs := [65, 81]) (by rfl) (by first | (simp only [nf, nfS, Nat.beq] <;> rfl) | rfl) (fun base => by
          refine n_pick rfl (by first | (simp only [nf, nfS, Nat.beq] <;> rfl) | rfl) (by first | (simp only [nf, nfS, Nat.beq] <;> rfl) | rfl) ?_
          exact AOps.nil ⟨rfl, rfl, rfl⟩) ?_
      refine Walk.done ?_
      refine AWP.cond_false (by first | (simp only [nf, nfS, Nat.beq] <;> rfl) | rfl) ?_
      refine AWP.skip ?_
      refine AWP.seq ?_
      refine AWP.anyStill (by kernel_rfl) (by kernel_rfl) ?_
      refine Walk.still (rs := [6]) (by rfl) (by first | (simp only [nf, nfS, Nat.beq] <;> rfl) | rfl) (fun base => by
          refine n_move rfl (by first | (simp only [nf, nfS, Nat.beq] <;> rfl) | rfl) ?_
          exact AOps.nil ⟨rfl, rfl, rfl⟩) ?_
      refine Walk.still (rs := [3]) (by rfl) (by first | (simp only [nf, nfS, Nat.beq] <;> rfl) | rfl) (fun base => by
          refine n_move rfl (by first | (simp only [nf, nfS, Nat.beq] <;> rfl) | rfl) ?_
          exact AOps.nil ⟨rfl, rfl, rfl⟩) ?_
      refine Walk.still (rs := [84]) (by rfl) (by first | (simp only [nf, nfS, Nat.beq] <;> rfl) | rfl) (fun base => by
          refine n_nilCheck rfl (by first | (simp only [nf, nfS, Nat.beq] <;> rfl) | rfl) rfl ?_
          exact AOps.nil ⟨rfl, rfl, rfl⟩) ?_
      refine Walk.still (rs := [85]) (by rfl) (by first | (simp only [nf, nfS, Nat.beq] <;> rfl) | rfl) (fun base => by
          refine n_fieldAddr rfl fd217_0 ti215 rfl (by first | (simp only [nf, nfS, Nat.beq] <;> rfl) | rfl) rfl (by first | (simp only [nf, nfS, Nat.beq] <;> rfl) | rfl) ?_
          exact AOps.nil ⟨rfl, rfl, rfl⟩) ?_
      refine Walk.still (rs := [86]) (by rfl) (by first | (simp only [nf, nfS, Nat.beq] <;> rfl) | rfl) (fun base => by
          refine n_arrAddr (q := 0) rfl Try.underlying215 ti214 (by first | (simp only [nf, nfS, Nat.beq] <;> rfl) | rfl) (by first | (simp only [nf, nfS, Nat.beq] <;> rfl) | rfl) (by decide) (by decide) rfl ?_
          exact AOps.nil ⟨rfl, rfl, rfl⟩) ?_
      refine Walk.still (rs := [87]) (by rfl) (by first | (simp only [nf, nfS, Nat.beq] <;> rfl) | rfl) (fun base => by
          refine n_load rfl ti214 (by first | (simp only [nf, nfS, Nat.beq] <;> rfl) | rfl) (by first | (simp only [nf, nfS, Nat.beq] <;> rfl) | rfl) rfl (by first | (simp only [nf, nfS, Nat.beq] <;> rfl) | rfl) ?_
          exact AOps.nil ⟨rfl, rfl, rfl⟩) ?_
      refine Walk.still (rs := [88]) (by rfl) (by first | (simp only [nf, nfS, Nat.beq] <;> rfl) | rfl) (fun base => by
          refine n_len rfl Try.underlying214 (by first | (simp only [nf, nfS, Nat.beq] <;> rfl) | rfl) (n := ((v.L false).length : Int)) (by rw [List.length_map]) ?_
          exact AOps.nil ⟨rfl, rfl, rfl⟩) ?_
      refine Walk.still (rs := [83, 89]) (by rfl) (by first | (simp only [nf, nfS, Nat.beq] <;> rfl) | rfl) (fun base => by
          refine n_ibin rfl (by first | (simp only [nf, nfS, Nat.beq] <;> rfl) | rfl) (by first | (simp only [nf, nfS, Nat.beq] <;> rfl) | rfl) rfl ?_
          exact AOps.nil ⟨rfl, rfl, rfl⟩) ?_
      refine Walk.still (rs := [90]) (by rfl) (by first | (simp only [nf, nfS, Nat.beq] <;> rfl) | rfl) (fun base => by
          refine n_move rfl (by first | (simp only [nf, nfS, Nat.beq] <;> rfl) | rfl) ?_
          exact AOps.nil ⟨rfl, rfl, rfl⟩) ?_
      refine Walk.split (u := 91) (by first | (simp only [nf, nfS, Nat.beq] <;> rfl) | rfl) (fun hg5 => ?_) (fun hg5 => ?_)
      · try simp only [nh] at hg5
        have hl0 : n < (v.L false).length := by { simp at hg5; exact hg5 }
        obtain ⟨xa, hx0⟩ : ∃ x, (v.L false)[n]? = some x := ⟨_, List.getElem?_eq_getElem hl0⟩
        have hxa := map_at etz hx0
        refine Walk.still (rs := [6, 91]) (by rfl) (by first | (simp only [nf, nfS, Nat.beq] <;> rfl) | rfl) (fun base => by
            refine n_guard_yes rfl rfl rfl (by first | (simp only [nf, nfS, Nat.beq] <;> rfl) | rfl) rfl ?_
            refine n_move rfl (by first | (simp only [nf, nfS, Nat.beq] <;> rfl) | rfl) ?_
            exact AOps.nil ⟨rfl, rfl, rfl⟩) ?_
        refine Walk.still (rs := [3, 91]) (by rfl) (by first | (simp only [nf, nfS, Nat.beq] <;> rfl) | rfl) (fun base => by
            refine n_guard_yes rfl rfl rfl (by first | (simp only [nf, nfS, Nat.beq] <;> rfl) | rfl) rfl ?_
            refine n_move rfl (by first | (simp only [nf, nfS, Nat.beq] <;> rfl) | rfl) ?_
            exact AOps.nil ⟨rfl, rfl, rfl⟩) ?_
        refine Walk.still (rs := [93, 91]) (by rfl) (by first | (simp only [nf, nfS, Nat.beq] <;> rfl) | rfl) (fun base => by
            refine n_guard_yes rfl rfl rfl (by first | (simp only [nf, nfS, Nat.beq] <;> rfl) | rfl) rfl ?_
            refine n_nilCheck rfl (by first | (simp only [nf, nfS, Nat.beq] <;> rfl) | rfl) rfl ?_
            exact AOps.nil ⟨rfl, rfl, rfl⟩) ?_
        refine Walk.still (rs := [94, 91]) (by rfl) (by first | (simp only [nf, nfS, Nat.beq] <;> rfl) | rfl) (fun base => by
            refine n_guard_yes rfl rfl rfl (by first | (simp only [nf, nfS, Nat.beq] <;> rfl) | rfl) rfl ?_
            refine n_fieldAddr rfl fd217_0 ti215 rfl (by first | (simp only [nf, nfS, Nat.beq] <;> rfl) | rfl) rfl (by first | (simp only [nf, nfS, Nat.beq] <;> rfl) | rfl) ?_
            exact AOps.nil ⟨rfl, rfl, rfl⟩) ?_
        refine Walk.still (rs := [95, 91]) (by rfl) (by first | (simp only [nf, nfS, Nat.beq] <;> rfl) | rfl) (fun base => by
            refine n_guard_yes rfl rfl rfl (by first | (simp only [nf, nfS, Nat.beq] <;> rfl) | rfl) rfl ?_
            refine n_arrAddr (q := 1) rfl Try.underlying215 ti214 (by first | (simp only [nf, nfS, Nat.beq] <;> rfl) | rfl) (by first | (simp only [nf, nfS, Nat.beq] <;> rfl) | rfl) (by decide) (by decide) rfl ?_
            exact AOps.nil ⟨rfl, rfl, rfl⟩) ?_
        refine Walk.still (rs := [96, 91]) (by rfl) (by first | (simp only [nf, nfS, Nat.beq] <;> rfl) | rfl) (fun base => by
            refine n_guard_yes rfl rfl rfl (by first | (simp only [nf, nfS, Nat.beq] <;> rfl) | rfl) rfl ?_
            refine n_load rfl ti214 (by first | (simp only [nf, nfS, Nat.beq] <;> rfl) | rfl) (by first | (simp only [nf, nfS, Nat.beq] <;> rfl) | rfl) rfl (by first | (simp only [nf, nfS, Nat.beq] <;> rfl) | rfl) ?_
            exact AOps.nil ⟨rfl, rfl, rfl⟩) ?_
        refine Walk.still (rs := [97, 91]) (by rfl) (by first | (simp only [nf, nfS, Nat.beq] <;> rfl) | rfl) (fun base => by
            refine n_guard_yes rfl rfl rfl (by first | (simp only [nf, nfS, Nat.beq] <;> rfl) | rfl) rfl ?_
            refine n_len rfl Try.underlying214 (by first | (simp only [nf, nfS, Nat.beq] <;> rfl) | rfl) (n := ((v.L true).length : Int)) (by rw [List.length_map]) ?_
            exact AOps.nil ⟨rfl, rfl, rfl⟩) ?_
        refine Walk.still (rs := [92, 98, 91]) (by rfl) (by first | (simp only [nf, nfS, Nat.beq] <;> rfl) | rfl) (fun base => by
            refine n_guard_yes rfl rfl rfl (by first | (simp only [nf, nfS, Nat.beq] <;> rfl) | rfl) rfl ?_
            refine n_ibin rfl (by first | (simp only [nf, nfS, Nat.beq] <;> rfl) | rfl) (by first | (simp only [nf, nfS, Nat.beq] <;> rfl) | rfl) rfl ?_
            exact AOps.nil ⟨rfl, rfl, rfl⟩) ?_
        refine Walk.still (rs := [91, 99]) (by rfl) (by first | (simp only [nf, nfS, Nat.beq] <;> rfl) | rfl) (fun base => by
            refine n_pick rfl (by first | (simp only [nf, nfS, Nat.beq] <;> rfl) | rfl) (by first | (simp only [nf, nfS, Nat.beq] <;> rfl) | rfl) ?_
            exact AOps.nil ⟨rfl, rfl, rfl⟩) ?_
        refine Walk.still (rs := [100]) (by rfl) (by first | (simp only [nf, nfS, Nat.beq] <;> rfl) | rfl) (fun base => by
            refine n_move rfl (by first | (simp only [nf, nfS, Nat.beq] <;> rfl) | rfl) ?_
            exact AOps.nil ⟨rfl, rfl, rfl⟩) ?_
        refine Walk.split (u := 101) (by first | (simp only [nf, nfS, Nat.beq] <;> rfl) | rfl) (fun hg6 => ?_) (fun hg6 => ?_)
        · try simp only [nh] at hg6
          have hl1 : n < (v.L true).length := by { simp at hg6; exact hg6 }
          obtain ⟨xb, hx1⟩ : ∃ x, (v.L true)[n]? = some x := ⟨_, List.getElem?_eq_getElem hl1⟩
          have hxb := map_at etz hx1
          have hne := hn4 xa xb hx0 hx1
          refine Walk.still (rs := [3, 101]) (by rfl) (by first | (simp only [nf, nfS, Nat.beq] <;> rfl) | rfl) (fun base => by
              refine n_guard_yes rfl rfl rfl (by first | (simp only [nf, nfS, Nat.beq] <;> rfl) | rfl) rfl ?_
              refine n_move rfl (by first | (simp only [nf, nfS, Nat.beq] <;> rfl) | rfl) ?_
              exact AOps.nil ⟨rfl, rfl, rfl⟩) ?_
          refine Walk.still (rs := [102, 101]) (by rfl) (by first | (simp only [nf, nfS, Nat.beq] <;> rfl) | rfl) (fun base => by
              refine n_guard_yes rfl rfl rfl (by first | (simp only [nf, nfS, Nat.beq] <;> rfl) | rfl) rfl ?_
              refine n_nilCheck rfl (by first | (simp only [nf, nfS, Nat.beq] <;> rfl) | rfl) rfl ?_
              exact AOps.nil ⟨rfl, rfl, rfl⟩) ?_
          refine Walk.still (rs := [103, 101]) (by rfl) (by first | (simp only [nf, nfS, Nat.beq] <;> rfl) | rfl) (fun base => by
              refine n_guard_yes rfl rfl rfl (by first | (simp only [nf, nfS, Nat.beq] <;> rfl) | rfl) rfl ?_
              refine n_fieldAddr rfl fd217_0 ti215 rfl (by first | (simp only [nf, nfS, Nat.beq] <;> rfl) | rfl) rfl (by first | (simp only [nf, nfS, Nat.beq] <;> rfl) | rfl) ?_
              exact AOps.nil ⟨rfl, rfl, rfl⟩) ?_
          refine Walk.still (rs := [104, 101]) (by rfl) (by first | (simp only [nf, nfS, Nat.beq] <;> rfl) | rfl) (fun base => by
              refine n_guard_yes rfl rfl rfl (by first | (simp only [nf, nfS, Nat.beq] <;> rfl) | rfl) rfl ?_
              refine n_arrAddr (q := 0) rfl Try.underlying215 ti214 (by first | (simp only [nf, nfS, Nat.beq] <;> rfl) | rfl) (by first | (simp only [nf, nfS, Nat.beq] <;> rfl) | rfl) (by decide) (by decide) rfl ?_
              exact AOps.nil ⟨rfl, rfl, rfl⟩) ?_
          refine Walk.still (rs := [105, 101]) (by rfl) (by first | (simp only [nf, nfS, Nat.beq] <;> rfl) | rfl) (fun base => by
              refine n_guard_yes rfl rfl rfl (by first | (simp only [nf, nfS, Nat.beq] <;> rfl) | rfl) rfl ?_
              refine n_load rfl ti214 (by first | (simp only [nf, nfS, Nat.beq] <;> rfl) | rfl) (by first | (simp only [nf, nfS, Nat.beq] <;> rfl) | rfl) rfl (by first | (simp only [nf, nfS, Nat.beq] <;> rfl) | rfl) ?_
              exact AOps.nil ⟨rfl, rfl, rfl⟩) ?_
          refine Walk.still (rs := [6, 101]) (by rfl) (by first | (simp only [nf, nfS, Nat.beq] <;> rfl) | rfl) (fun base => by
              refine n_guard_yes rfl rfl rfl (by first | (simp only [nf, nfS, Nat.beq] <;> rfl) | rfl) rfl ?_
              refine n_move rfl (by first | (simp only [nf, nfS, Nat.beq] <;> rfl) | rfl) ?_
              exact AOps.nil ⟨rfl, rfl, rfl⟩) ?_
          refine Walk.still (rs := [106, 107, 101]) (by rfl) (by first | (simp only [nf, nfS, Nat.beq] <;> rfl) | rfl) (fun base => by
              refine n_guard_yes rfl rfl rfl (by first | (simp only [nf, nfS, Nat.beq] <;> rfl) | rfl) rfl ?_
              refine n_indexAddr rfl Try.underlying214 ti224 rfl (by first | (simp only [nf, nfS, Nat.beq] <;> rfl) | rfl) (by first | (simp only [nf, nfS, Nat.beq] <;> rfl) | rfl) (by omega) (by exact hxa) rfl ?_
              exact AOps.nil ⟨rfl, rfl, rfl⟩) ?_
          refine Walk.still (rs := [108, 101]) (by rfl) (by first | (simp only [nf, nfS, Nat.beq] <;> rfl) | rfl) (fun base => by
              refine n_guard_yes rfl rfl rfl (by first | (simp only [nf, nfS, Nat.beq] <;> rfl) | rfl) rfl ?_
              refine n_load rfl ti224 (by first | (simp only [nf, nfS, Nat.beq] <;> rfl) | rfl) (by first | (simp only [nf, nfS, Nat.beq] <;> rfl) | rfl) rfl (by first | (simp only [nf, nfS, Nat.beq] <;> rfl) | rfl) ?_
              exact AOps.nil ⟨rfl, rfl, rfl⟩) ?_
          refine Walk.still (rs := [3, 101]) (by rfl) (by first | (simp only [nf, nfS, Nat.beq] <;> rfl) | rfl) (fun base => by
              refine n_guard_yes rfl rfl rfl (by first | (simp only [nf, nfS, Nat.beq] <;> rfl) | rfl) rfl ?_
              refine n_move rfl (by first | (simp only [nf, nfS, Nat.beq] <;> rfl) | rfl) ?_
              exact AOps.nil ⟨rfl, rfl, rfl⟩) ?_
          refine Walk.still (rs := [110, 101]) (by rfl) (by first | (simp only [nf, nfS, Nat.beq] <;> rfl) | rfl) (fun base => by
              refine n_guard_yes rfl rfl rfl (by first | (simp only [nf, nfS, Nat.beq] <;> rfl) | rfl) rfl ?_
              refine n_nilCheck rfl (by first | (simp only [nf, nfS, Nat.beq] <;> rfl) | rfl) rfl ?_
              exact AOps.nil ⟨rfl, rfl, rfl⟩) ?_
          refine Walk.still (rs := [111, 101]) (by rfl) (by first | (simp only [nf, nfS, Nat.beq] <;> rfl) | rfl) (fun base => by
              refine n_guard_yes rfl rfl rfl (by first | (simp only [nf, nfS, Nat.beq] <;> rfl) | rfl) rfl ?_
              refine n_fieldAddr rfl fd217_0 ti215 rfl (by first | (simp only [nf, nfS, Nat.beq] <;> rfl) | rfl) rfl (by first | (simp only [nf, nfS, Nat.beq] <;> rfl) | rfl) ?_
              exact AOps.nil ⟨rfl, rfl, rfl⟩) ?_
          refine Walk.still (rs := [112, 101]) (by rfl) (by first | (simp only [nf, nfS, Nat.beq] <;> rfl) | rfl) (fun base => by
              refine n_guard_yes rfl rfl rfl (by first | (simp only [nf, nfS, Nat.beq] <;> rfl) | rfl) rfl ?_
              refine n_arrAddr (q := 1) rfl Try.underlying215 ti214 (by first | (simp only [nf, nfS, Nat.beq] <;> rfl) | rfl) (by first | (simp only [nf, nfS, Nat.beq] <;> rfl) | rfl) (by decide) (by decide) rfl ?_
              exact AOps.nil ⟨rfl, rfl, rfl⟩) ?_
          refine Walk.still (rs := [113, 101]) (by rfl) (by first | (simp only [nf, nfS, Nat.beq] <;> rfl) | rfl) (fun base => by
              refine n_guard_yes rfl rfl rfl (by first | (simp only [nf, nfS, Nat.beq] <;> rfl) | rfl) rfl ?_
              refine n_load rfl ti214 (by first | (simp only [nf, nfS, Nat.beq] <;> rfl) | rfl) (by first | (simp only [nf, nfS, Nat.beq] <;> rfl) | rfl) rfl (by first | (simp only [nf, nfS, Nat.beq] <;> rfl) | rfl) ?_
              exact AOps.nil ⟨rfl, rfl, rfl⟩) ?_
          refine Walk.still (rs := [6, 101]) (by rfl) (by first | (simp only [nf, nfS, Nat.beq] <;> rfl) | rfl) (fun base => by
              refine n_guard_yes rfl rfl rfl (by first | (simp only [nf, nfS, Nat.beq] <;> rfl) | rfl) rfl ?_
              refine n_move rfl (by first | (simp only [nf, nfS, Nat.beq] <;> rfl) | rfl) ?_
              exact AOps.nil ⟨rfl, rfl, rfl⟩) ?_
          refine Walk.still (rs := [114, 115, 101]) (by rfl) (by first | (simp only [nf, nfS, Nat.beq] <;> rfl) | rfl) (fun base => by
              refine n_guard_yes rfl rfl rfl (by first | (simp only [nf, nfS, Nat.beq] <;> rfl) | rfl) rfl ?_
              refine n_indexAddr rfl Try.underlying214 ti224 rfl (by first | (simp only [nf, nfS, Nat.beq] <;> rfl) | rfl) (by first | (simp only [nf, nfS, Nat.beq] <;> rfl) | rfl) (by omega) (by exact hxb) rfl ?_
              exact AOps.nil ⟨rfl, rfl, rfl⟩) ?_
          refine Walk.still (rs := [116, 101]) (by rfl) (by first | (simp only [nf, nfS, Nat.beq] <;> rfl) | rfl) (fun base => by
              refine n_guard_yes rfl rfl rfl (by first | (simp only [nf, nfS, Nat.beq] <;> rfl) | rfl) rfl ?_
              refine n_load rfl ti224 (by first | (simp only [nf, nfS, Nat.beq] <;> rfl) | rfl) (by first | (simp only [nf, nfS, Nat.beq] <;> rfl) | rfl) rfl (by first | (simp only [nf, nfS, Nat.beq] <;> rfl) | rfl) ?_
              exact AOps.nil ⟨rfl, rfl, rfl⟩) ?_
          refine Walk.still (rs := [109, 117, 101]) (by rfl) (by first | (simp only [nf, nfS, Nat.beq] <;> rfl) | rfl) (fun base => by
              refine n_guard_yes rfl rfl rfl (by first | (simp only [nf, nfS, Nat.beq] <;> rfl) | rfl) rfl ?_
              refine n_steq rfl (by first | (simp only [nf, nfS, Nat.beq] <;> rfl) | rfl) (by first | (simp only [nf, nfS, Nat.beq] <;> rfl) | rfl) rfl rfl Try.underlying224 (by kernel_rfl) (by kernel_rfl) (.int rfl ti3 Try.underlying3 rfl rfl (.int rfl ti2 Try.underlying2 rfl rfl (.int rfl ti3 Try.underlying3 rfl rfl .nil))) rfl ?_
              exact AOps.nil ⟨rfl, rfl, rfl⟩) ?_
          refine Walk.still (rs := [101, 118]) (by rfl) (by first | (simp only [nf, nfS, Nat.beq] <;> rfl) | rfl) (fun base => by
              refine n_pick rfl (by first | (simp only [nf, nfS, Nat.beq] <;> rfl) | rfl) (by first | (simp only [nf, nfS, Nat.beq] <;> rfl) | rfl) ?_
              exact AOps.nil ⟨rfl, rfl, rfl⟩) ?_
          refine Walk.done ?_
          refine AWP.cond (by first | (simp only [nf, nfS, Nat.beq] <;> rfl) | rfl) (fun hc7 => ?_) (fun hc7 => ?_)
          · try simp only [nh] at hc7
            exfalso
            first | grind | (simp at hc7; grind) | (simp at hc7)
          · try simp only [nh] at hc7
            refine AWP.skip ?_
            refine AWP.region ?_
            first | refine n_iadd rfl (by first | (simp only [nf, nfS, Nat.beq] <;> rfl) | rfl) (by first | (simp only [nf, nfS, Nat.beq] <;> rfl) | rfl) rfl (by omega) (by omega) ?_ | refine n_ibin rfl (by first | (simp only [nf, nfS, Nat.beq] <;> rfl) | rfl) (by first | (simp only [nf, nfS, Nat.beq] <;> rfl) | rfl) rfl ?_
            refine n_move rfl (by first | (simp only [nf, nfS, Nat.beq] <;> rfl) | rfl) ?_
            refine AOps.nil ?_
            refine ⟨(i + 1, v, g, D, S2), ⟨by omega, hs2⟩, ?_, rfl, by omega⟩
            (repeat (first | exact FLe.empty _ | refine FLe.put ?_ ?_)) <;> first | (simp only [nf, nfS, Nat.beq]; done) | rfl | ((try simp only [nf, nfS, Nat.beq]); first | rfl | (simp only [List.length_map]; done) | (congr 2; omega; done))
        · try simp only [nh] at hg6
          refine Walk.still (rs := [101]) (by rfl) (by first | (simp only [nf, nfS, Nat.beq] <;> rfl) | rfl) (fun base => by
              refine n_guard_no rfl rfl rfl (by first | (simp only [nf, nfS, Nat.beq] <;> rfl) | rfl) rfl ?_
              exact AOps.nil ⟨rfl, rfl, rfl⟩) ?_
          refine Walk.still (rs := [101]) (by rfl) (by first | (simp only [nf, nfS, Nat.beq] <;> rfl) | rfl) (fun base => by
              refine n_guard_no rfl rfl rfl (by first | (simp only [nf, nfS, Nat.beq] <;> rfl) | rfl) rfl ?_
              exact AOps.nil ⟨rfl, rfl, rfl⟩) ?_
          refine Walk.still (rs := [101]) (by rfl) (by first | (simp only [nf, nfS, Nat.beq] <;> rfl) | rfl) (fun base => by
              refine n_guard_no rfl rfl rfl (by first | (simp only [nf, nfS, Nat.beq] <;> rfl) | rfl) rfl ?_
              exact AOps.nil ⟨rfl, rfl, rfl⟩) ?_
          refine Walk.still (rs := [101]) (by rfl) (by first | (simp only [nf, nfS, Nat.beq] <;> rfl) | rfl) (fun base => by
              refine n_guard_no rfl rfl rfl (by first | (simp only [nf, nfS, Nat.beq] <;> rfl) | rfl) rfl ?_
              exact AOps.nil ⟨rfl, rfl, rfl⟩) ?_
          refine Walk.still (rs := [101]) (by rfl) (by first | (simp only [nf, nfS, Nat.beq] <;> rfl) | rfl) (fun base => by
              refine n_guard_no rfl rfl rfl (by first | (simp only [nf, nfS, Nat.beq] <;> rfl) | rfl) rfl ?_
              exact AOps.nil ⟨rfl, rfl, rfl⟩) ?_
          refine Walk.still (rs := [101]) (by rfl) (by first | (simp only [nf, nfS, Nat.beq] <;> rfl) | rfl) (fun base => by
              refine n_guard_no rfl rfl rfl (by first | (simp only [nf, nfS, Nat.beq] <;> rfl) | rfl) rfl ?_
              exact AOps.nil ⟨rfl, rfl, rfl⟩) ?_
          refine Walk.still (rs := [101]) (by rfl) (by first | (simp only [nf, nfS, Nat.beq] <;> rfl) | rfl) (fun base => by
              refine n_guard_no rfl rfl rfl (by first | (simp only [nf, nfS, Nat.beq] <;> rfl) | rfl) rfl ?_
              exact AOps.nil ⟨rfl, rfl, rfl⟩) ?_
          refine Walk.still (rs := [101]) (by rfl) (by first | (simp only [nf, nfS, Nat.beq] <;> rfl) | rfl) (fun base => by
              refine n_guard_no rfl rfl rfl (by first | (simp only [nf, nfS, Nat.beq] <;> rfl) | rfl) rfl ?_
              exact AOps.nil ⟨rfl, rfl, rfl⟩) ?_
          refine Walk.still (rs := [101]) (by rfl) (by first | (simp only [nf, nfS, Nat.beq] <;> rfl) | rfl) (fun base => by
              refine n_guard_no rfl rfl rfl (by first | (simp only [nf, nfS, Nat.beq] <;> rfl) | rfl) rfl ?_
              exact AOps.nil ⟨rfl, rfl, rfl⟩) ?_
          refine Walk.still (rs := [101]) (by rfl) (by first | (simp only [nf, nfS, Nat.beq] <;> rfl) | rfl) (fun base => by
              refine n_guard_no rfl rfl rfl (by first | (simp only [nf, nfS, Nat.beq] <;> rfl) | rfl) rfl ?_
              exact AOps.nil ⟨rfl, rfl, rfl⟩) ?_
          refine Walk.still (rs := [101]) (by rfl) (by first | (simp only [nf, nfS, Nat.beq] <;> rfl) | rfl) (fun base => by
              refine n_guard_no rfl rfl rfl (by first | (simp only [nf, nfS, Nat.beq] <;> rfl) | rfl) rfl ?_
              exact AOps.nil ⟨rfl, rfl, rfl⟩) ?_
          refine Walk.still (rs := [101]) (by rfl) (by first | (simp only [nf, nfS, Nat.beq] <;> rfl) | rfl) (fun base => by
              refine n_guard_no rfl rfl rfl (by first | (simp only [nf, nfS, Nat.beq] <;> rfl) | rfl) rfl ?_
              exact AOps.nil ⟨rfl, rfl, rfl⟩) ?_
          refine Walk.still (rs := [101]) (by rfl) (by first | (simp only [nf, nfS, Nat.beq] <;> rfl) | rfl) (fun base => by
              refine n_guard_no rfl rfl rfl (by first | (simp only [nf, nfS, Nat.beq] <;> rfl) | rfl) rfl ?_
              exact AOps.nil ⟨rfl, rfl, rfl⟩) ?_
          refine Walk.still (rs := [101]) (by rfl) (by first | (simp only [nf, nfS, Nat.beq] <;> rfl) | rfl) (fun base => by
              refine n_guard_no rfl rfl rfl (by first | (simp only [nf, nfS, Nat.beq] <;> rfl) | rfl) rfl ?_
              exact AOps.nil ⟨rfl, rfl, rfl⟩) ?_
          refine Walk.still (rs := [101]) (by rfl) (by first | (simp only [nf, nfS, Nat.beq] <;> rfl) | rfl) (fun base => by
              refine n_guard_no rfl rfl rfl (by first | (simp only [nf, nfS, Nat.beq] <;> rfl) | rfl) rfl ?_
              exact AOps.nil ⟨rfl, rfl, rfl⟩) ?_
          refine Walk.still (rs := [101]) (by rfl) (by first | (simp only [nf, nfS, Nat.beq] <;> rfl) | rfl) (fun base => by
              refine n_guard_no rfl rfl rfl (by first | (simp only [nf, nfS, Nat.beq] <;> rfl) | rfl) rfl ?_
              exact AOps.nil ⟨rfl, rfl, rfl⟩) ?_
          refine Walk.still (rs := [101]) (by rfl) (by first | (simp only [nf, nfS, Nat.beq] <;> rfl) | rfl) (fun base => by
              refine n_guard_no rfl rfl rfl (by first | (simp only [nf, nfS, Nat.beq] <;> rfl) | rfl) rfl ?_
              exact AOps.nil ⟨rfl, rfl, rfl⟩) ?_
          refine Walk.still (rs := [101, 118]) (by rfl) (by first | (simp only [nf, nfS, Nat.beq] <;> rfl) | rfl) (fun base => by
              refine n_pick rfl (by first | (simp only [nf, nfS, Nat.beq] <;> rfl) | rfl) (by first | (simp only [nf, nfS, Nat.beq] <;> rfl) | rfl) ?_
              exact AOps.nil ⟨rfl, rfl, rfl⟩) ?_
          refine Walk.done ?_
          refine AWP.cond (by first | (simp only [nf, nfS, Nat.beq] <;> rfl) | rfl) (fun hc8 => ?_) (fun hc8 => ?_)
          · try simp only [nh] at hc8
            exfalso
            first | grind | (simp at hc8; grind) | (simp at hc8)
          · try simp only [nh] at hc8
            refine AWP.skip ?_
            refine AWP.region ?_
            first | refine n_iadd rfl (by first | (simp only [nf, nfS, Nat.beq] <;> rfl) | rfl) (by first | (simp only [nf, nfS, Nat.beq] <;> rfl) | rfl) rfl (by omega) (by omega) ?_ | refine n_ibin rfl (by first | (simp only [nf, nfS, Nat.beq] <;> rfl) | rfl) (by first | (simp only [nf, nfS, Nat.beq] <;> rfl) | rfl) rfl ?_
            refine n_move rfl (by first | (simp only [nf, nfS, Nat.beq] <;> rfl) | rfl) ?_
            refine AOps.nil ?_
            refine ⟨(i + 1, v, g, D, S2), ⟨by omega, hs2⟩, ?_, rfl, by omega⟩
            (repeat (first | exact FLe.empty _ | refine FLe.put ?_ ?_)) <;> first | (simp only [nf, nfS, Nat.beq]; done) | rfl | ((try simp only [nf, nfS, Nat.beq]); first | rfl | (simp only [List.length_map]; done) | (congr 2; omega; done))
      · try simp only [nh] at hg5
        refine Walk.still (rs := [91]) (by rfl) (by first | (simp only [nf, nfS, Nat.beq] <;> rfl) | rfl) (fun base => by
            refine n_guard_no rfl rfl rfl (by first | (simp only [nf, nfS, Nat.beq] <;> rfl) | rfl) rfl ?_
            exact AOps.nil ⟨rfl, rfl, rfl⟩) ?_
        refine Walk.still (rs := [91]) (by rfl) (by first | (simp only [nf, nfS, Nat.beq] <;> rfl) | rfl) (fun base => by
            refine n_guard_no rfl rfl rfl (by first | (simp only [nf, nfS, Nat.beq] <;> rfl) | rfl) rfl ?_
            exact AOps.nil ⟨rfl, rfl, rfl⟩) ?_
        refine Walk.still (rs := [91]) (by rfl) (by first | (simp only [nf, nfS, Nat.beq] <;> rfl) | rfl) (fun base => by
            refine n_guard_no rfl rfl rfl (by first | (simp only [nf, nfS, Nat.beq] <;> rfl) | rfl) rfl ?_
            exact AOps.nil ⟨rfl, rfl, rfl⟩) ?_
        refine Walk.still (rs := [91]) (by rfl) (by first | (simp only [nf, nfS, Nat.beq] <;> rfl) | rfl) (fun base => by
            refine n_guard_no rfl rfl rfl (by first | (simp only [nf, nfS, Nat.beq] <;> rfl) | rfl) rfl ?_
            exact AOps.nil ⟨rfl, rfl, rfl⟩) ?_
        refine Walk.still (rs := [91]) (by rfl) (by first | (simp only [nf, nfS, Nat.beq] <;> rfl) | rfl) (fun base => by
            refine n_guard_no rfl rfl rfl (by first | (simp only [nf, nfS, Nat.beq] <;> rfl) | rfl) rfl ?_
            exact AOps.nil ⟨rfl, rfl, rfl⟩) ?_
        refine Walk.still (rs := [91]) (by rfl) (by first | (simp only [nf, nfS, Nat.beq] <;> rfl) | rfl) (fun base => by
            refine n_guard_no rfl rfl rfl (by first | (simp only [nf, nfS, Nat.beq] <;> rfl) | rfl) rfl ?_
            exact AOps.nil ⟨rfl, rfl, rfl⟩) ?_
        refine Walk.still (rs := [91]) (by rfl) (by first | (simp only [nf, nfS, Nat.beq] <;> rfl) | rfl) (fun base => by
            refine n_guard_no rfl rfl rfl (by first | (simp only [nf, nfS, Nat.beq] <;> rfl) | rfl) rfl ?_
            exact AOps.nil ⟨rfl, rfl, rfl⟩) ?_
        refine Walk.still (rs := [91]) (by rfl) (by first | (simp only [nf, nfS, Nat.beq] <;> rfl) | rfl) (fun base => by
            refine n_guard_no rfl rfl rfl (by first | (simp only [nf, nfS, Nat.beq] <;> rfl) | rfl) rfl ?_
            exact AOps.nil ⟨rfl, rfl, rfl⟩) ?_
        refine Walk.still (rs := [91, 99]) (by rfl) (by first | (simp only [nf, nfS, Nat.beq] <;> rfl) | rfl) (fun base => by
            refine n_pick rfl (by first | (simp only [nf, nfS, Nat.beq] <;> rfl) | rfl) (by first | (simp only [nf, nfS, Nat.beq] <;> rfl) | rfl) ?_
            exact AOps.nil ⟨rfl, rfl, rfl⟩) ?_
        refine Walk.still (rs := [100]) (by rfl) (by first | (simp only [nf, nfS, Nat.beq] <;> rfl) | rfl) (fun base => by
            refine n_move rfl (by first | (simp only [nf, nfS, Nat.beq] <;> rfl) | rfl) ?_
            exact AOps.nil ⟨rfl, rfl, rfl⟩) ?_
        refine Walk.still (rs := [101]) (by rfl) (by first | (simp only [nf, nfS, Nat.beq] <;> rfl) | rfl) (fun base => by
            refine n_guard_no rfl rfl rfl (by first | (simp only [nf, nfS, Nat.beq] <;> rfl) | rfl) rfl ?_
            exact AOps.nil ⟨rfl, rfl, rfl⟩) ?_
        refine Walk.still (rs := [101]) (by rfl) (by first | (simp only [nf, nfS, Nat.beq] <;> rfl) | rfl) (fun base => by
            refine n_guard_no rfl rfl rfl (by first | (simp only [nf, nfS, Nat.beq] <;> rfl) | rfl) rfl ?_
            exact AOps.nil ⟨rfl, rfl, rfl⟩) ?_
        refine Walk.still (rs := [101]) (by rfl) (by first | (simp only [nf, nfS, Nat.beq] <;> rfl) | rfl) (fun base => by
            refine n_guard_no rfl rfl rfl (by first | (simp only [nf, nfS, Nat.beq] <;> rfl) | rfl) rfl ?_
            exact AOps.nil ⟨rfl, rfl, rfl⟩) ?_
        refine Walk.still (rs := [101]) (by rfl) (by first | (simp only [nf, nfS, Nat.beq] <;> rfl) | rfl) (fun base => by
            refine n_guard_no rfl rfl rfl (by first | (simp only [nf, nfS, Nat.beq] <;> rfl) | rfl) rfl ?_
            exact AOps.nil ⟨rfl, rfl, rfl⟩) ?_
        refine Walk.still (rs := [101]) (by rfl) (by first | (simp only [nf, nfS, Nat.beq] <;> rfl) | rfl) (fun base => by
            refine n_guard_no rfl rfl rfl (by first | (simp only [nf, nfS, Nat.beq] <;> rfl) | rfl) rfl ?_
            exact AOps.nil ⟨rfl, rfl, rfl⟩) ?_
        refine Walk.still (rs := [101]) (by rfl) (by first | (simp only [nf, nfS, Nat.beq] <;> rfl) | rfl) (fun base => by
            refine n_guard_no rfl rfl rfl (by first | (simp only [nf, nfS, Nat.beq] <;> rfl) | rfl) rfl ?_
            exact AOps.nil ⟨rfl, rfl, rfl⟩) ?_
        refine Walk.still (rs := [101]) (by rfl) (by first | (simp only [nf, nfS, Nat.beq] <;> rfl) | rfl) (fun base => by
            refine n_guard_no rfl rfl rfl (by first | (simp only [nf, nfS, Nat.beq] <;> rfl) | rfl) rfl ?_
            exact AOps.nil ⟨rfl, rfl, rfl⟩) ?_
        refine Walk.still (rs := [101]) (by rfl) (by first | (simp only [nf, nfS, Nat.beq] <;> rfl) | rfl) (fun base => by
            refine n_guard_no rfl rfl rfl (by first | (simp only [nf, nfS, Nat.beq] <;> rfl) | rfl) rfl ?_
            exact AOps.nil ⟨rfl, rfl, rfl⟩) ?_
        refine Walk.still (rs := [101]) (by rfl) (by first | (simp only [nf, nfS, Nat.beq] <;> rfl) | rfl) (fun base => by
            refine n_guard_no rfl rfl rfl (by first | (simp only [nf, nfS, Nat.beq] <;> rfl) | rfl) rfl ?_
            exact AOps.nil ⟨rfl, rfl, rfl⟩) ?_
        refine Walk.still (rs := [101]) (by rfl) (by first | (simp only [nf, nfS, Nat.beq] <;> rfl) | rfl) (fun base => by
            refine n_guard_no rfl rfl rfl (by first | (simp only [nf, nfS, Nat.beq] <;> rfl) | rfl) rfl ?_
            exact AOps.nil ⟨rfl, rfl, rfl⟩) ?_
        refine Walk.still (rs := [101]) (by rfl) (by first | (simp only [nf, nfS, Nat.beq] <;> rfl) | rfl) (fun base => by
            refine n_guard_no rfl rfl rfl (by first | (simp only [nf, nfS, Nat.beq] <;> rfl) | rfl) rfl ?_
            exact AOps.nil ⟨rfl, rfl, rfl⟩) ?_
        refine Walk.still (rs := [101]) (by rfl) (by first | (simp only [nf, nfS, Nat.beq] <;> rfl) | rfl) (fun base => by
            refine n_guard_no rfl rfl rfl (by first | (simp only [nf, nfS, Nat.beq] <;> rfl) | rfl) rfl ?_
            exact AOps.nil ⟨rfl, rfl, rfl⟩) ?_
        refine Walk.still (rs := [101]) (by rfl) (by first | (simp only [nf, nfS, Nat.beq] <;> rfl) | rfl) (fun base => by
            refine n_guard_no rfl rfl rfl (by first | (simp only [nf, nfS, Nat.beq] <;> rfl) | rfl) rfl ?_
            exact AOps.nil ⟨rfl, rfl, rfl⟩) ?_
        refine Walk.still (rs := [101]) (by rfl) (by first | (simp only [nf, nfS, Nat.beq] <;> rfl) | rfl) (fun base => by
            refine n_guard_no rfl rfl rfl (by first | (simp only [nf, nfS, Nat.beq] <;> rfl) | rfl) rfl ?_
            exact AOps.nil ⟨rfl, rfl, rfl⟩) ?_
        refine Walk.still (rs := [101]) (by rfl) (by first | (simp only [nf, nfS, Nat.beq] <;> rfl) | rfl) (fun base => by
            refine n_guard_no rfl rfl rfl (by first | (simp only [nf, nfS, Nat.beq] <;> rfl) | rfl) rfl ?_
            exact AOps.nil ⟨rfl, rfl, rfl⟩) ?_
        refine Walk.still (rs := [101]) (by rfl) (by first | (simp only [nf, nfS, Nat.beq] <;> rfl) | rfl) (fun base => by
            refine n_guard_no rfl rfl rfl (by first | (simp only [nf, nfS, Nat.beq] <;> rfl) | rfl) rfl ?_
            exact AOps.nil ⟨rfl, rfl, rfl⟩) ?_
        refine Walk.still (rs := [101]) (by rfl) (by first | (simp only [nf, nfS, Nat.beq] <;> rfl) | rfl) (fun base => by
            refine n_guard_no rfl rfl rfl (by first | (simp only [nf, nfS, Nat.beq] <;> rfl) | rfl) rfl ?_
            exact AOps.nil ⟨rfl, rfl, rfl⟩) ?_
        refine Walk.still (rs := [101, 118]) (by rfl) (by first | (simp only [nf, nfS, Nat.beq] <;> rfl) | rfl) (fun base => by
            refine n_pick rfl (by first | (simp only [nf, nfS, Nat.beq] <;> rfl) | rfl) (by first | (simp only [nf, nfS, Nat.beq] <;> rfl) | rfl) ?_
            exact AOps.nil ⟨rfl, rfl, rfl⟩) ?_
        refine Walk.done ?_
        refine AWP.cond (by first | (simp only [nf, nfS, Nat.beq] <;> rfl) | rfl) (fun hc9 => ?_) (fun hc9 => ?_)
        · try simp only [nh] at hc9
          exfalso
          first | grind | (simp at hc9; grind) | (simp at hc9)
        · try simp only [nh] at hc9
          refine AWP.skip ?_
          refine AWP.region ?_
          first | refine n_iadd rfl (by first | (simp only [nf, nfS, Nat.beq] <;> rfl) | rfl) (by first | (simp only [nf, nfS, Nat.beq] <;> rfl) | rfl) rfl (by omega) (by omega) ?_ | refine n_ibin rfl (by first | (simp only [nf, nfS, Nat.beq] <;> rfl) | rfl) (by first | (simp only [nf, nfS, Nat.beq] <;> rfl) | rfl) rfl ?_
          refine n_move rfl (by first | (simp only [nf, nfS, Nat.beq] <;> rfl) | rfl) ?_
          refine AOps.nil ?_
          refine ⟨(i + 1, v, g, D, S2), ⟨by omega, hs2⟩, ?_, rfl, by omega⟩
          (repeat (first | exact FLe.empty _ | refine FLe.put ?_ ?_)) <;> first | (simp only [nf, nfS, Nat.beq]; done) | rfl | ((try simp only [nf, nfS, Nat.beq]); first | rfl | (simp only [List.length_map]; done) | (congr 2; omega; done))
    · try simp only [nh] at hc2
      refine AWP.exit ?_
      refine AWP.seq ?_
      refine AWP.region ?_
      refine n_assign rfl (by first | (simp only [nf, nfS, Nat.beq] <;> rfl) | rfl) ?_
      refine AOps.nil ?_
      refine AWP.ret ?_
      refine fin_pure (.cons (rv_tmp (by first | (simp only [nf, nfS, Nat.beq] <;> rfl) | rfl)) .nil) (by first | (simp only [nf, nfS, Nat.beq] <;> rfl) | rfl) ?_
      first | exact ren_flat rfl rfl | exact ren_flat rfl (congrArg vb (by simp))

end Go.Proofs.Ytanfmpkjcoolmaa.Mn
