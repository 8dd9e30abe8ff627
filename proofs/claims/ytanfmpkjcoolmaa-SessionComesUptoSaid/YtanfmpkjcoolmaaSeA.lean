/- Two ends and what is on its way. -/
import Derived.Test.YtanfmpkjcoolmaaSdA
import Derived.Test.YtanfmpkjcoolmaaSessLinePlain
set_option linter.unusedVariables false
set_option linter.unusedSimpArgs false
namespace Go.Proofs.Ytanfmpkjcoolmaa.Se
open Go Go.Abs Go.Abs.Tb Go.Proofs.Ytanfmpkjcoolmaa.Pk Sb Sc Sd
attribute [local irreducible] AWP AOps Does

theorem nrSeA0 {α : Type} {a b : α} (h : a = b := by first|simp only[nf,nfV,Nat.beq]<;>rfl|rfl) : a = b := h
theorem lfSeA0 {d : D} (h : LF d := by first | exact .val _ | exact lf_ints (.inl rfl) | exact lf_ints (.inr rfl) | exact .any | exact lf_taken | exact lf_sentQ | exact lf_mapG pqz_lf (.inl rfl) | exact lf_fnrp (sqz_lf _) | exact lf_sqz _ | exact lf_qe (.inl rfl) | exact .agg (lf_cons (.val _) (lf_cons (.val _) (lf_cons (.val _) (lf_cons (.val _) (lf_cons (.val _) (lf_cons (lf_qe (.inl rfl)) lf_nil)))))) | exact D.flat_lf rfl | exact lf_ssz _ | exact lf_pqz _ | exact lf_nl0 | exact .tup (lf_cons (lf_ssz _) (lf_cons (.val _) lf_nil)) | exact .tup (lf_cons (lf_pqz _) (lf_cons (.val _) lf_nil)) | exact .tup (lf_cons (lf_ints (.inl rfl)) (lf_cons (.val _) lf_nil)) | exact .tup (lf_cons (lf_ssz _) (lf_cons (lf_ints (.inl rfl)) (lf_cons (.val _) lf_nil))) | exact .tup (lf_cons (lf_ssz _) (lf_cons (lf_ssz _) (lf_cons (.val _) lf_nil))) | exact lf_sent) : LF d := h
theorem cf111 : CF Try.prog 111 := ⟨_, Try.func111, by kernel_rfl, by kernel_rfl⟩
theorem cf112 : CF Try.prog 112 := ⟨_, Try.func112, by kernel_rfl, by kernel_rfl⟩
theorem cf113 : CF Try.prog 113 := ⟨_, Try.func113, by kernel_rfl, by kernel_rfl⟩
theorem cf208 : CF Try.prog 208 := ⟨_, Try.func208, by kernel_rfl, by kernel_rfl⟩
theorem cf209 : CF Try.prog 209 := ⟨_, Try.func209, by kernel_rfl, by kernel_rfl⟩
theorem cf210 : CF Try.prog 210 := ⟨_, Try.func210, by kernel_rfl, by kernel_rfl⟩
theorem cf211 : CF Try.prog 211 := ⟨_, Try.func211, by kernel_rfl, by kernel_rfl⟩
theorem ei161 : EI Try.prog 161 6 64 (.agg #[.int .i64 0, .int .i64 0, .int .i64 0, .int .i64 0, .int .i64 0, .slice none 0 0]) := EI.of (by kernel_rfl) rfl rfl
theorem ei5 : EI Try.prog 5 1 1 (.int .u8 0) := EI.of (by kernel_rfl) rfl rfl
theorem fd149_0 : FD Try.prog 149 0 145 0 := ⟨_, _, Try.underlying149, rfl, rfl, rfl⟩
theorem fd149_1 : FD Try.prog 149 1 146 12 := ⟨_, _, Try.underlying149, rfl, rfl, rfl⟩
theorem fd149_2 : FD Try.prog 149 2 147 13 := ⟨_, _, Try.underlying149, rfl, rfl, rfl⟩
theorem fd149_3 : FD Try.prog 149 3 147 15 := ⟨_, _, Try.underlying149, rfl, rfl, rfl⟩
theorem fd151_0 : FD Try.prog 151 0 3 0 := ⟨_, _, Try.underlying151, rfl, rfl, rfl⟩
theorem fd151_1 : FD Try.prog 151 1 4 1 := ⟨_, _, Try.underlying151, rfl, rfl, rfl⟩
theorem fd151_2 : FD Try.prog 151 2 120 2 := ⟨_, _, Try.underlying151, rfl, rfl, rfl⟩
theorem fd151_3 : FD Try.prog 151 3 5 3 := ⟨_, _, Try.underlying151, rfl, rfl, rfl⟩
theorem fd161_0 : FD Try.prog 161 0 3 0 := ⟨_, _, Try.underlying161, rfl, rfl, rfl⟩
theorem fd161_1 : FD Try.prog 161 1 157 1 := ⟨_, _, Try.underlying161, rfl, rfl, rfl⟩
theorem si161 : SI Try.prog 161 #[(0, 1), (1, 5)] (.agg #[.int .i64 0, .int .i64 0, .int .i64 0, .int .i64 0, .int .i64 0, .slice none 0 0]) := ⟨⟨_, Try.underlying161, fun w => by kernel_rfl⟩, by kernel_rfl⟩
theorem ti120 : TI Try.prog 120 1 false := ⟨by kernel_rfl, by kernel_rfl⟩
theorem ti141 : TI Try.prog 141 6 true := ⟨by kernel_rfl, by kernel_rfl⟩
theorem ti145 : TI Try.prog 145 12 true := ⟨by kernel_rfl, by kernel_rfl⟩
theorem ti146 : TI Try.prog 146 1 false := ⟨by kernel_rfl, by kernel_rfl⟩
theorem ti147 : TI Try.prog 147 2 true := ⟨by kernel_rfl, by kernel_rfl⟩
theorem ti157 : TI Try.prog 157 5 true := ⟨by kernel_rfl, by kernel_rfl⟩
theorem ti161 : TI Try.prog 161 6 true := ⟨by kernel_rfl, by kernel_rfl⟩
theorem ti22 : TI Try.prog 22 1 false := ⟨by kernel_rfl, by kernel_rfl⟩
theorem ti3 : TI Try.prog 3 1 false := ⟨by kernel_rfl, by kernel_rfl⟩
theorem ti4 : TI Try.prog 4 1 false := ⟨by kernel_rfl, by kernel_rfl⟩
theorem ti5 : TI Try.prog 5 1 false := ⟨by kernel_rfl, by kernel_rfl⟩
theorem zi141 : (Try.prog.info? 141).map (·.zero) = some (some (.agg #[.int .i64 0, .int .i64 0, .int .i64 0, .int .i64 0, .int .i64 0, .slice none 0 0])) := by kernel_rfl
theorem zi157 : (Try.prog.info? 157).map (·.zero) = some (some (.agg #[.int .i64 0, .int .i64 0, .int .i64 0, .int .i64 0, .slice none 0 0])) := by kernel_rfl
theorem zi161 : (Try.prog.info? 161).map (·.zero) = some (some (.agg #[.int .i64 0, .int .i64 0, .int .i64 0, .int .i64 0, .int .i64 0, .slice none 0 0])) := by kernel_rfl
theorem zi5 : (Try.prog.info? 5).map (·.zero) = some (some (.int .u8 0)) := by kernel_rfl

attribute [local irreducible] Up.int Up.str Up.close Up.rest Up.clr Up.spoil Up.w Up.flag Ss.chk Pq.chk Ss.take Ss.answer Pq.bytes Pq.parse Sq.take Sq.meet Sq.ack Sq.again Sq.send Ln.does
theorem w_cloneK (ws : List Wy) (h0 : 0 < ws.length) (hl : ws.length ≤ 100000) (C : Cap) (S : List Ob) (m : Nat) (hm : S.length = m) (K : D → List Ob → Prop) (hK : ∀ cap, ws.length ≤ cap → K (.bq m 0 ws.length cap) (S ++ [.box (fw ws ++ List.replicate ((cap - ws.length) * 6) D.any)])) : DoesK Try.prog 211 [.sl none (ws.map wyz) C] S K := by
  refine DoesK.of_body (rvs := [.tmp 2]) Try.func211 rfl rfl rfl rfl ?_
  subst hm
  refine AWP.seq ?_
  refine AWP.region ?_
  refine n_assign rfl nrSeA0 ?_
  refine AOps.nil ?_
  refine AWP.seq ?_
  refine AWP.seq ?_
  refine AWP.region ?_
  refine n_move rfl nrSeA0 ?_
  refine n_eqnil rfl Try.underlying146 nrSeA0 (fun b1 hb1 he1 => ?_)
  refine AOps.nil ?_
  refine AWP.cond nrSeA0 (fun hc2 => ?_) (fun hc2 => ?_)
  · try simp only [nh] at hc2
    exfalso
    have hnl := he1 hc2
    have hnl := congrArg List.length hnl
    simp at hnl
    simp [hnl] at h0
  · try simp only [nh] at hc2
    refine AWP.skip ?_
    refine AWP.seq ?_
    refine AWP.region ?_
    refine n_lit rfl Try.underlying146 ti161 zi161 rfl rfl (Eq.trans (by simp only [nl] <;> rfl) nrSeA0) rfl nrSeA0 ?_
    refine n_move rfl nrSeA0 ?_
    refine n_append_bq (m := ws.length) (fs := fw ws) rfl Try.underlying146 Try.underlying146 ei161 nrSeA0 nrSeA0 (by intro x hx; cases hx) (by exact map_one (f := wyz) (fun _ => rfl)) (by simp only [List.length_map, List.length_nil]; omega) (by rw [List.length_map]; exact h0) (by simp) rfl (by rw [List.nil_append]; rfl) (fun cap hcap => ?_)
    refine n_assign rfl nrSeA0 ?_
    refine AOps.nil ?_
    refine AWP.ret ?_
    refine finK_ret (.cons (rv_tmp nrSeA0) .nil) nrSeA0 ?_
    exact hK cap hcap

set_option maxHeartbeats 1000000 in
theorem del_mid (ws : List Wy) (i : Nat) (hi : i + 1 < ws.length) (hn : ws.length ≤ 100000) (cap : Nat) (hcap : ws.length ≤ cap) (l0 : Nat) (S : List Ob) (R : List D) (hR : cap * 6 = ws.length * 6 + R.length) (hl : S[l0]? = some (.box (fw ws ++ R))) (K : D → List Ob → Prop) (hK : K (.bq l0 0 (ws.length - 1) cap) (S.set l0 (.box (fw (ws.eraseIdx i) ++ (z6 ++ R))))) : DoesK Try.prog 210 [.bq l0 0 ws.length cap, vi (i : Int), vi ((i : Int) + 1)] S K := by
  refine DoesK.of_body (rvs := [.tmp 6]) Try.func210 rfl rfl rfl rfl ?_
  obtain ⟨w, hw⟩ : ∃ w, ws[i]? = some w := ⟨_, List.getElem?_eq_getElem (by omega)⟩
  obtain ⟨f1, f2⟩ := fw_split hw
  rw [f1] at hl
  rw [f2] at hK
  have hlt := (List.getElem?_eq_some_iff.1 hl).1
  have hA : (fw (ws.take i)).length = i * 6 := by rw [fw_len, List.length_take]; congr 1; omega
  have hW : (wyz w).length = 6 := rfl
  have hB : (fw (ws.drop (i + 1))).length = ((ws.length - 1 - i) * 6) := by rw [fw_len, List.length_drop]; congr 1; omega
  have hmul := Nat.add_mul i (ws.length - 1 - i) 6
  have hX := del_one (R := R) hA hW hB
  have hs0 : ((fw (ws.take i) ++ wyz w ++ fw (ws.drop (i + 1)) ++ R).drop ((i + 1) * 6)).take ((ws.length - 1 - i) * 6) = fw (ws.drop (i + 1)) := by rw [show (i + 1) * 6 = (fw (ws.take i) ++ wyz w).length by rw [List.length_append, hA, hW]; omega, List.append_assoc (fw (ws.take i) ++ wyz w), List.drop_left, ← hB, List.take_left]
  refine AWP.seq ?_
  refine AWP.region ?_
  refine n_assign rfl nrSeA0 ?_
  refine AOps.nil ?_
  refine AWP.seq ?_
  refine AWP.region ?_
  refine n_move rfl nrSeA0 ?_
  refine n_move rfl nrSeA0 ?_
  refine n_move rfl nrSeA0 ?_
  refine n_move rfl nrSeA0 ?_
  refine n_bqLen rfl Try.underlying146 nrSeA0 rfl ?_
  refine n_bqSlice3 (k := i) (h := i + 1) (m := ws.length) rfl Try.underlying146 ti161 nrSeA0 (SB.some (k := i + 1) nrSeA0 (by first | rfl | omega)) (SB.some (k := ws.length) nrSeA0 (by first | rfl | omega)) (SB.some (k := i) nrSeA0 (by first | rfl | omega)) (by omega) (by omega) (by omega) ?_
  refine AOps.nil ?_
  refine AWP.seq ?_
  refine AWP.seq ?_
  refine AWP.region ?_
  refine n_move rfl nrSeA0 ?_
  refine n_move rfl nrSeA0 ?_
  refine n_ibin rfl nrSeA0 nrSeA0 rfl ?_
  refine AOps.nil ?_
  refine AWP.cond nrSeA0 (fun hc1 => ?_) (fun hc1 => ?_)
  · try simp only [nh] at hc1
    exfalso
    omega
  · try simp only [nh] at hc1
    refine AWP.skip ?_
    refine AWP.seq ?_
    refine AWP.region ?_
    refine n_move rfl nrSeA0 ?_
    refine n_bqLen rfl Try.underlying146 nrSeA0 rfl ?_
    refine n_assign rfl nrSeA0 ?_
    refine AOps.nil ?_
    refine AWP.seq ?_
    refine AWP.any1 6 (S.set l0 (.box (fw (ws.take i) ++ fw (ws.drop (i + 1)) ++ (fw (ws.take i) ++ wyz w ++ fw (ws.drop (i + 1)) ++ R).drop (i * 6 + ((ws.length - 1 - i) * 6))))) (by kernel_rfl) (by kernel_rfl) (by kernel_rfl) ?_
    refine Walk.ahead [2, 6] (by rfl) (by kernel_rfl) (by rfl) (rs := [0]) (by rfl) nrSeA0 (fun base => by
        refine n_move rfl nrSeA0 ?_
        exact AOps.nil ⟨rfl, rfl, rfl⟩) ?_
    refine Walk.ahead [2, 6] (by rfl) (by kernel_rfl) (by rfl) (rs := [1]) (by rfl) nrSeA0 (fun base => by
        refine n_move rfl nrSeA0 ?_
        exact AOps.nil ⟨rfl, rfl, rfl⟩) ?_
    refine Walk.ahead [6] (by rfl) (by kernel_rfl) (by rfl) (rs := [20, 21]) (by rfl) nrSeA0 (fun base => by
        refine n_bqCut (k := 0) (h := i) (q := 0) (n2 := i) (c2 := cap) rfl Try.underlying146 ti161 nrSeA0 (SB.some (k := i) nrSeA0 (by first | rfl | omega)) SB.none (by omega) (by omega) (fun h => by cases h) (by split <;> omega) (by omega) (by omega) ?_
        exact AOps.nil ⟨rfl, rfl, rfl⟩) ?_
    refine Walk.ahead [5, 6] (by rfl) (by kernel_rfl) (by rfl) (rs := [0]) (by rfl) nrSeA0 (fun base => by
        refine n_move rfl nrSeA0 ?_
        exact AOps.nil ⟨rfl, rfl, rfl⟩) ?_
    refine Walk.ahead [5, 6] (by rfl) (by kernel_rfl) (by rfl) (rs := [2]) (by rfl) nrSeA0 (fun base => by
        refine n_move rfl nrSeA0 ?_
        exact AOps.nil ⟨rfl, rfl, rfl⟩) ?_
    refine Walk.ahead [6] (by rfl) (by kernel_rfl) (by rfl) (rs := [23, 24]) (by rfl) nrSeA0 (fun base => by
        refine n_bqCut (k := i + 1) (h := ws.length) (q := (i + 1) * 6) (n2 := ws.length - 1 - i) (c2 := cap - (i + 1)) rfl Try.underlying146 ti161 nrSeA0 SB.none (SB.some (k := i + 1) nrSeA0 (by first | rfl | omega)) (by omega) (by omega) (fun _ => by omega) (by rw [if_neg (by omega)]; omega) (by omega) (by omega) ?_
        exact AOps.nil ⟨rfl, rfl, rfl⟩) ?_
    refine Walk.writes (by rfl) (rs := [22, 25]) (by rfl) nrSeA0 (fun base => by
        refine n_append_bqIn (l0 := l0) (o := 0) (n := i) (cap := cap) (o2 := (i + 1) * 6) (m := ws.length - 1 - i) (nm := (ws.length - 1)) (ds := (fw (ws.take i) ++ wyz w ++ fw (ws.drop (i + 1)) ++ R)) (ds' := (fw (ws.take i) ++ fw (ws.drop (i + 1)) ++ (fw (ws.take i) ++ wyz w ++ fw (ws.drop (i + 1)) ++ R).drop (i * 6 + ((ws.length - 1 - i) * 6)))) (S' := (S.set l0 (.box (fw (ws.take i) ++ fw (ws.drop (i + 1)) ++ (fw (ws.take i) ++ wyz w ++ fw (ws.drop (i + 1)) ++ R).drop (i * 6 + ((ws.length - 1 - i) * 6)))))) rfl Try.underlying146 Try.underlying146 ei161 nrSeA0 nrSeA0 hl (by omega) (by simp only [List.length_append, hA, hB, hW]; omega) (by simp only [List.length_append, hA, hB, hW]; omega) (fun d hd => by rw [hs0] at hd; exact fw_one _ d hd) (by omega) (by rw [show (i + 1) * 6 = i * 6 + 6 by omega, Nat.zero_add]; exact hX) rfl ?_
        exact AOps.nil ⟨rfl, rfl, rfl⟩) ?_
    refine Walk.behind [7] (by rfl) (by rfl) (by kernel_rfl) (by rfl) (rs := [26]) (by rfl) nrSeA0 (fun base => by
        refine n_assign rfl nrSeA0 ?_
        exact AOps.nil ⟨rfl, rfl, rfl⟩) ?_
    refine Walk.done ?_
    refine AWP.seq ?_
    refine AWP.region ?_
    refine n_move rfl nrSeA0 ?_
    refine n_move rfl nrSeA0 ?_
    refine n_bqLen rfl Try.underlying146 nrSeA0 rfl ?_
    refine n_move rfl nrSeA0 ?_
    refine n_bqCut (k := (ws.length - 1)) (h := ws.length) (q := (ws.length - 1) * 6) (n2 := 1) (c2 := cap - (ws.length - 1)) rfl Try.underlying146 ti161 nrSeA0 (SB.some (k := ws.length) nrSeA0 (by first | rfl | omega)) (SB.some (k := (ws.length - 1)) nrSeA0 (by first | rfl | omega)) (by omega) (by omega) (fun h => by cases h) (by rw [if_neg (by omega)]; omega) (by omega) rfl ?_
    refine n_bqClear (zs := z6) (ds := (fw (ws.take i) ++ fw (ws.drop (i + 1)) ++ (fw (ws.take i) ++ wyz w ++ fw (ws.drop (i + 1)) ++ R).drop (i * 6 + ((ws.length - 1 - i) * 6)))) (S' := S.set l0 (.box (fw (ws.take i) ++ fw (ws.drop (i + 1)) ++ (z6 ++ R)))) rfl Try.underlying146 ei161 nrSeA0 (by decide) (by rw [List.getElem?_set_self hlt]) (by simp only [List.length_append, List.length_drop, hA, hB, hW]; omega) (by rfl) (by rfl) (by rw [List.set_set, show (ws.length - 1) * 6 = i * 6 + ((ws.length - 1 - i) * 6) by omega]; congr 2; exact del_two hA hW hB rfl rfl) ?_
    refine AOps.nil ?_
    refine AWP.seq ?_
    refine AWP.region ?_
    refine n_move rfl nrSeA0 ?_
    refine n_assign rfl nrSeA0 ?_
    refine AOps.nil ?_
    refine AWP.ret ?_
    refine finK_ret (.cons (rv_tmp nrSeA0) .nil) nrSeA0 ?_
    exact hK

set_option maxHeartbeats 1000000 in
theorem del_end (ws : List Wy) (i : Nat) (hi : i + 1 = ws.length) (hn : ws.length ≤ 100000) (cap : Nat) (hcap : ws.length ≤ cap) (l0 : Nat) (S : List Ob) (R : List D) (hR : cap * 6 = ws.length * 6 + R.length) (hl : S[l0]? = some (.box (fw ws ++ R))) (K : D → List Ob → Prop) (hK : K (.bq l0 0 (ws.length - 1) cap) (S.set l0 (.box (fw (ws.eraseIdx i) ++ (z6 ++ R))))) : DoesK Try.prog 210 [.bq l0 0 ws.length cap, vi (i : Int), vi ((i : Int) + 1)] S K := by
  refine DoesK.of_body (rvs := [.tmp 6]) Try.func210 rfl rfl rfl rfl ?_
  obtain ⟨w, hw⟩ : ∃ w, ws[i]? = some w := ⟨_, List.getElem?_eq_getElem (by omega)⟩
  obtain ⟨f1, f2⟩ := fw_split hw
  rw [f1] at hl
  rw [f2] at hK
  have hlt := (List.getElem?_eq_some_iff.1 hl).1
  have hA : (fw (ws.take i)).length = i * 6 := by rw [fw_len, List.length_take]; congr 1; omega
  have hW : (wyz w).length = 6 := rfl
  have hB : (fw (ws.drop (i + 1))).length = ((ws.length - 1 - i) * 6) := by rw [fw_len, List.length_drop]; congr 1; omega
  have hmul := Nat.add_mul i (ws.length - 1 - i) 6
  obtain hb0 : fw (ws.drop (i + 1)) = [] := List.eq_nil_of_length_eq_zero (by rw [hB]; omega)
  rw [hb0, List.append_nil] at hl hK
  have hZ := del_last (R := R) (Z := z6) hA hW rfl
  have hN : ws.length - 1 = i := by omega
  rw [hN] at hK
  refine AWP.seq ?_
  refine AWP.region ?_
  refine n_assign rfl nrSeA0 ?_
  refine AOps.nil ?_
  refine AWP.seq ?_
  refine AWP.region ?_
  refine n_move rfl nrSeA0 ?_
  refine n_move rfl nrSeA0 ?_
  refine n_move rfl nrSeA0 ?_
  refine n_move rfl nrSeA0 ?_
  refine n_bqLen rfl Try.underlying146 nrSeA0 rfl ?_
  refine n_bqSlice3 (k := i) (h := i + 1) (m := ws.length) rfl Try.underlying146 ti161 nrSeA0 (SB.some (k := i + 1) nrSeA0 (by first | rfl | omega)) (SB.some (k := ws.length) nrSeA0 (by first | rfl | omega)) (SB.some (k := i) nrSeA0 (by first | rfl | omega)) (by omega) (by omega) (by omega) ?_
  refine AOps.nil ?_
  refine AWP.seq ?_
  refine AWP.seq ?_
  refine AWP.region ?_
  refine n_move rfl nrSeA0 ?_
  refine n_move rfl nrSeA0 ?_
  refine n_ibin rfl nrSeA0 nrSeA0 rfl ?_
  refine AOps.nil ?_
  refine AWP.cond nrSeA0 (fun hc1 => ?_) (fun hc1 => ?_)
  · try simp only [nh] at hc1
    exfalso
    omega
  · try simp only [nh] at hc1
    refine AWP.skip ?_
    refine AWP.seq ?_
    refine AWP.region ?_
    refine n_move rfl nrSeA0 ?_
    refine n_bqLen rfl Try.underlying146 nrSeA0 rfl ?_
    refine n_assign rfl nrSeA0 ?_
    refine AOps.nil ?_
    refine AWP.seq ?_
    refine AWP.any1 6 S (by kernel_rfl) (by kernel_rfl) (by kernel_rfl) ?_
    refine Walk.ahead [2, 6] (by rfl) (by kernel_rfl) (by rfl) (rs := [0]) (by rfl) nrSeA0 (fun base => by
        refine n_move rfl nrSeA0 ?_
        exact AOps.nil ⟨rfl, rfl, rfl⟩) ?_
    refine Walk.ahead [2, 6] (by rfl) (by kernel_rfl) (by rfl) (rs := [1]) (by rfl) nrSeA0 (fun base => by
        refine n_move rfl nrSeA0 ?_
        exact AOps.nil ⟨rfl, rfl, rfl⟩) ?_
    refine Walk.ahead [6] (by rfl) (by kernel_rfl) (by rfl) (rs := [20, 21]) (by rfl) nrSeA0 (fun base => by
        refine n_bqCut (k := 0) (h := i) (q := 0) (n2 := i) (c2 := cap) rfl Try.underlying146 ti161 nrSeA0 (SB.some (k := i) nrSeA0 (by first | rfl | omega)) SB.none (by omega) (by omega) (fun h => by cases h) (by split <;> omega) (by omega) (by omega) ?_
        exact AOps.nil ⟨rfl, rfl, rfl⟩) ?_
    refine Walk.ahead [5, 6] (by rfl) (by kernel_rfl) (by rfl) (rs := [0]) (by rfl) nrSeA0 (fun base => by
        refine n_move rfl nrSeA0 ?_
        exact AOps.nil ⟨rfl, rfl, rfl⟩) ?_
    refine Walk.ahead [5, 6] (by rfl) (by kernel_rfl) (by rfl) (rs := [2]) (by rfl) nrSeA0 (fun base => by
        refine n_move rfl nrSeA0 ?_
        exact AOps.nil ⟨rfl, rfl, rfl⟩) ?_
    refine Walk.ahead [6] (by rfl) (by kernel_rfl) (by rfl) (rs := [23, 24]) (by rfl) nrSeA0 (fun base => by
        refine n_bqCut (k := i + 1) (h := ws.length) (n2 := 0) (c2 := cap - (i + 1)) rfl Try.underlying146 ti161 nrSeA0 SB.none (SB.some (k := i + 1) nrSeA0 (by first | rfl | omega)) (by omega) (by omega) (fun _ => by omega) rfl (by omega) (by omega) ?_
        exact AOps.nil ⟨rfl, rfl, rfl⟩) ?_
    refine Walk.writes (by rfl) (rs := [22, 25]) (by rfl) nrSeA0 (fun base => by
        refine n_append_bqNo rfl Try.underlying146 Try.underlying146 ei161 nrSeA0 nrSeA0 ?_
        exact AOps.nil ⟨rfl, rfl, rfl⟩) ?_
    refine Walk.behind [7] (by rfl) (by rfl) (by kernel_rfl) (by rfl) (rs := [26]) (by rfl) nrSeA0 (fun base => by
        refine n_assign rfl nrSeA0 ?_
        exact AOps.nil ⟨rfl, rfl, rfl⟩) ?_
    refine Walk.done ?_
    refine AWP.seq ?_
    refine AWP.region ?_
    refine n_move rfl nrSeA0 ?_
    refine n_move rfl nrSeA0 ?_
    refine n_bqLen rfl Try.underlying146 nrSeA0 rfl ?_
    refine n_move rfl nrSeA0 ?_
    refine n_bqCut (k := (ws.length - 1)) (h := ws.length) (q := (ws.length - 1) * 6) (n2 := 1) (c2 := cap - (ws.length - 1)) rfl Try.underlying146 ti161 nrSeA0 (SB.some (k := ws.length) nrSeA0 (by first | rfl | omega)) (SB.some (k := (ws.length - 1)) nrSeA0 (by first | rfl | omega)) (by omega) (by omega) (fun h => by cases h) (by rw [if_neg (by omega)]; omega) (by omega) rfl ?_
    refine n_bqClear (zs := z6) (ds := (fw (ws.take i) ++ wyz w ++ R)) (S' := S.set l0 (.box (fw (ws.take i) ++ (z6 ++ R)))) rfl Try.underlying146 ei161 nrSeA0 (by decide) hl (by simp only [List.length_append, List.length_drop, hA, hB, hW]; omega) (by rfl) (by rfl) (by rw [show (ws.length - 1) * 6 = i * 6 by omega]; congr 2) ?_
    refine AOps.nil ?_
    refine AWP.seq ?_
    refine AWP.region ?_
    refine n_move rfl nrSeA0 ?_
    refine n_assign rfl nrSeA0 ?_
    refine AOps.nil ?_
    refine AWP.ret ?_
    refine finK_ret (.cons (rv_tmp nrSeA0) .nil) nrSeA0 ?_
    exact hK

theorem lf_taken {x : Sq} {l : List Int} {b : Bool} : LF (.tup [.agg (sqz x), bys l, vb b]) := .tup (lf_cons (lf_sqz x) (lf_cons (lf_ints (.inl rfl)) (lf_cons (.val _) lf_nil)))
theorem lf_sentQ {x : Sq} {p : Pq} {n : Int} : LF (.tup [.agg (sqz x), .agg (pqz p), vi n]) := .tup (lf_cons (lf_sqz x) (lf_cons (lf_pqz p) (lf_cons (.val _) lf_nil)))
set_option maxHeartbeats 2000000 in
theorem takes_0 (l : Ln) (r : Nat → Nat) (S1 : List Ob) (hr : Rw l r S1) (hg : Gd l) (y : Pq) (hy : y.chk = 0) (K : D → List Ob → Prop) (hK : ∀ r S2, Rw (l.takes ⟨false, y⟩) r S2 → K (.tup []) (.box (lbx (l.takes ⟨false, y⟩) r) :: S2)) : DoesK Try.prog 113 [.bp 0 0, .agg [vi 0, vi y.b, vi y.p, vi y.s, vi y.a, bys y.l]] (Ob.box (lbx l r) :: S1) K := by
  refine DoesK.of_body (rvs := []) Try.func113 rfl rfl rfl rfl ?_
  have htk := l_takeQ (l.x false) (hg.ok false) y hy
  have hyl : y.l.length ≤ 131072 := (Pq.chk0.1 hy).2.2.2.2.1
  have htl := Sq.take_len (x := l.x false) (y := y)
  have hcm := hg.cm true
  refine AWP.seq ?_
  refine AWP.region ?_
  refine n_box rfl nrSeA0 rfl rfl nrSeA0 nrSeA0 ?_
  refine AOps.nil ?_
  refine AWP.seq ?_
  refine AWP.anyT [14, 15] (fun p => match p with | [false, false] => Ob.box (lbx l r) :: (S1 ++ [Ob.box (wyz ⟨false, y⟩)]) | [true, false] => Ob.box (lbx l r) :: (S1 ++ [Ob.box (wyz ⟨false, y⟩), Ob.box z6]) | [true, true] => Ob.box (lbx l r) :: (S1 ++ [Ob.box (wyz ⟨false, y⟩), Ob.box (sqz ((l.x false).take y).1)]) | _ => []) (by kernel_rfl) (by kernel_rfl) rfl rfl ?_
  refine Walk.cases [([false, false], Ob.box (lbx l r) :: (S1 ++ [Ob.box (wyz ⟨false, y⟩)]), Ob.box (lbx l r) :: (S1 ++ [Ob.box (wyz ⟨false, y⟩)])), ([true, false], Ob.box (lbx l r) :: (S1 ++ [Ob.box (wyz ⟨false, y⟩), Ob.box z6]), Ob.box (lbx l r) :: (S1 ++ [Ob.box (wyz ⟨false, y⟩), Ob.box z6]))] (by rfl) (by kernel_rfl) (rs := [0]) (by rfl) nrSeA0 (fun base => ⟨
      ⟨rfl, rfl, by
        refine n_move rfl nrSeA0 ?_
        exact AOps.nil ⟨rfl, rfl, rfl⟩⟩,
      ⟨rfl, rfl, by
        refine n_move rfl nrSeA0 ?_
        exact AOps.nil ⟨rfl, rfl, rfl⟩⟩,
      trivial⟩) ?_
  refine Walk.cases [([false, false], Ob.box (lbx l r) :: (S1 ++ [Ob.box (wyz ⟨false, y⟩)]), Ob.box (lbx l r) :: (S1 ++ [Ob.box (wyz ⟨false, y⟩)])), ([true, false], Ob.box (lbx l r) :: (S1 ++ [Ob.box (wyz ⟨false, y⟩), Ob.box z6]), Ob.box (lbx l r) :: (S1 ++ [Ob.box (wyz ⟨false, y⟩), Ob.box z6]))] (by rfl) (by kernel_rfl) (rs := [3]) (by rfl) nrSeA0 (fun base => ⟨
      ⟨rfl, rfl, by
        refine n_fieldAddr rfl fd161_0 ti3 rfl nrSeA0 rfl nrSeA0 ?_
        exact AOps.nil ⟨rfl, rfl, rfl⟩⟩,
      ⟨rfl, rfl, by
        refine n_fieldAddr rfl fd161_0 ti3 rfl nrSeA0 rfl nrSeA0 ?_
        exact AOps.nil ⟨rfl, rfl, rfl⟩⟩,
      trivial⟩) ?_
  refine Walk.cases [([false, false], Ob.box (lbx l r) :: (S1 ++ [Ob.box (wyz ⟨false, y⟩)]), Ob.box (lbx l r) :: (S1 ++ [Ob.box (wyz ⟨false, y⟩)])), ([true, false], Ob.box (lbx l r) :: (S1 ++ [Ob.box (wyz ⟨false, y⟩), Ob.box z6]), Ob.box (lbx l r) :: (S1 ++ [Ob.box (wyz ⟨false, y⟩), Ob.box z6]))] (by rfl) (by kernel_rfl) (rs := [9]) (by rfl) nrSeA0 (fun base => ⟨
      ⟨rfl, rfl, by
        refine n_load rfl ti3 nrSeA0 nrSeA0 rfl nrSeA0 ?_
        exact AOps.nil ⟨rfl, rfl, rfl⟩⟩,
      ⟨rfl, rfl, by
        refine n_load rfl ti3 nrSeA0 nrSeA0 rfl nrSeA0 ?_
        exact AOps.nil ⟨rfl, rfl, rfl⟩⟩,
      trivial⟩) ?_
  refine Walk.cases [([false, false], Ob.box (lbx l r) :: (S1 ++ [Ob.box (wyz ⟨false, y⟩)]), Ob.box (lbx l r) :: (S1 ++ [Ob.box (wyz ⟨false, y⟩)])), ([true, false], Ob.box (lbx l r) :: (S1 ++ [Ob.box (wyz ⟨false, y⟩), Ob.box z6]), Ob.box (lbx l r) :: (S1 ++ [Ob.box (wyz ⟨false, y⟩), Ob.box z6]))] (by rfl) (by kernel_rfl) (rs := [8]) (by rfl) nrSeA0 (fun base => ⟨
      ⟨rfl, rfl, by
        refine n_nilCheck rfl nrSeA0 rfl ?_
        exact AOps.nil ⟨rfl, rfl, rfl⟩⟩,
      ⟨rfl, rfl, by
        refine n_nilCheck rfl nrSeA0 rfl ?_
        exact AOps.nil ⟨rfl, rfl, rfl⟩⟩,
      trivial⟩) ?_
  refine Walk.cases [([false, false], Ob.box (lbx l r) :: (S1 ++ [Ob.box (wyz ⟨false, y⟩)]), Ob.box (lbx l r) :: (S1 ++ [Ob.box (wyz ⟨false, y⟩)])), ([true, false], Ob.box (lbx l r) :: (S1 ++ [Ob.box (wyz ⟨false, y⟩), Ob.box z6]), Ob.box (lbx l r) :: (S1 ++ [Ob.box (wyz ⟨false, y⟩), Ob.box z6]))] (by rfl) (by kernel_rfl) (rs := [11]) (by rfl) nrSeA0 (fun base => ⟨
      ⟨rfl, rfl, by
        refine n_fieldAddr rfl fd149_0 ti145 rfl nrSeA0 rfl nrSeA0 ?_
        exact AOps.nil ⟨rfl, rfl, rfl⟩⟩,
      ⟨rfl, rfl, by
        refine n_fieldAddr rfl fd149_0 ti145 rfl nrSeA0 rfl nrSeA0 ?_
        exact AOps.nil ⟨rfl, rfl, rfl⟩⟩,
      trivial⟩) ?_
  refine Walk.cases [([false, false], Ob.box (lbx l r) :: (S1 ++ [Ob.box (wyz ⟨false, y⟩)]), Ob.box (lbx l r) :: (S1 ++ [Ob.box (wyz ⟨false, y⟩)])), ([true, false], Ob.box (lbx l r) :: (S1 ++ [Ob.box (wyz ⟨false, y⟩), Ob.box z6]), Ob.box (lbx l r) :: (S1 ++ [Ob.box (wyz ⟨false, y⟩), Ob.box z6]))] (by rfl) (by kernel_rfl) (rs := [12, 10]) (by rfl) nrSeA0 (fun base => ⟨
      ⟨rfl, rfl, by
        refine n_arrAddr (q := 0) rfl Try.underlying145 ti141 nrSeA0 nrSeA0 (by decide) (by decide) rfl ?_
        exact AOps.nil ⟨rfl, rfl, rfl⟩⟩,
      ⟨rfl, rfl, by
        refine n_arrAddr (q := 0) rfl Try.underlying145 ti141 nrSeA0 nrSeA0 (by decide) (by decide) rfl ?_
        exact AOps.nil ⟨rfl, rfl, rfl⟩⟩,
      trivial⟩) ?_
  refine Walk.cases [([false, false], Ob.box (lbx l r) :: (S1 ++ [Ob.box (wyz ⟨false, y⟩)]), Ob.box (lbx l r) :: (S1 ++ [Ob.box (wyz ⟨false, y⟩)])), ([true, false], Ob.box (lbx l r) :: (S1 ++ [Ob.box (wyz ⟨false, y⟩), Ob.box z6]), Ob.box (lbx l r) :: (S1 ++ [Ob.box (wyz ⟨false, y⟩), Ob.box z6]))] (by rfl) (by kernel_rfl) (rs := [13]) (by rfl) nrSeA0 (fun base => ⟨
      ⟨rfl, rfl, by
        refine n_load rfl ti141 nrSeA0 nrSeA0 rfl nrSeA0 ?_
        exact AOps.nil ⟨rfl, rfl, rfl⟩⟩,
      ⟨rfl, rfl, by
        refine n_load rfl ti141 nrSeA0 nrSeA0 rfl nrSeA0 ?_
        exact AOps.nil ⟨rfl, rfl, rfl⟩⟩,
      trivial⟩) ?_
  refine Walk.cases [([false, false], Ob.box (lbx l r) :: (S1 ++ [Ob.box (wyz ⟨false, y⟩)]), Ob.box (lbx l r) :: (S1 ++ [Ob.box (wyz ⟨false, y⟩)])), ([true, false], Ob.box (lbx l r) :: (S1 ++ [Ob.box (wyz ⟨false, y⟩), Ob.box z6]), Ob.box (lbx l r) :: (S1 ++ [Ob.box (wyz ⟨false, y⟩), Ob.box z6]))] (by rfl) (by kernel_rfl) (rs := [3]) (by rfl) nrSeA0 (fun base => ⟨
      ⟨rfl, rfl, by
        refine n_fieldAddr rfl fd161_1 ti157 rfl nrSeA0 rfl nrSeA0 ?_
        exact AOps.nil ⟨rfl, rfl, rfl⟩⟩,
      ⟨rfl, rfl, by
        refine n_fieldAddr rfl fd161_1 ti157 rfl nrSeA0 rfl nrSeA0 ?_
        exact AOps.nil ⟨rfl, rfl, rfl⟩⟩,
      trivial⟩) ?_
  refine Walk.cases [([false, false], Ob.box (lbx l r) :: (S1 ++ [Ob.box (wyz ⟨false, y⟩)]), Ob.box (lbx l r) :: (S1 ++ [Ob.box (wyz ⟨false, y⟩)])), ([true, false], Ob.box (lbx l r) :: (S1 ++ [Ob.box (wyz ⟨false, y⟩), Ob.box z6]), Ob.box (lbx l r) :: (S1 ++ [Ob.box (wyz ⟨false, y⟩), Ob.box z6]))] (by rfl) (by kernel_rfl) (rs := [15]) (by rfl) nrSeA0 (fun base => ⟨
      ⟨rfl, rfl, by
        refine n_load rfl ti157 nrSeA0 nrSeA0 rfl nrSeA0 ?_
        exact AOps.nil ⟨rfl, rfl, rfl⟩⟩,
      ⟨rfl, rfl, by
        refine n_load rfl ti157 nrSeA0 nrSeA0 rfl nrSeA0 ?_
        exact AOps.nil ⟨rfl, rfl, rfl⟩⟩,
      trivial⟩) ?_
  refine Walk.cases [([false, false], Ob.box (lbx l r) :: (S1 ++ [Ob.box (wyz ⟨false, y⟩)]), Ob.box (lbx l r) :: (S1 ++ [Ob.box (wyz ⟨false, y⟩)])), ([true, false], Ob.box (lbx l r) :: (S1 ++ [Ob.box (wyz ⟨false, y⟩), Ob.box z6]), Ob.box (lbx l r) :: (S1 ++ [Ob.box (wyz ⟨false, y⟩), Ob.box z6]))] (by rfl) (by kernel_rfl) (rs := [14, 16]) (by rfl) nrSeA0 (fun base => ⟨
      ⟨rfl, rfl, by
        refine n_call0B rfl cf209 rfl (Eq.trans (by simp only [nl] <;> rfl) nrSeA0) (by repeat (first | exact .nil | refine .cons ?_ ?_ | exact ren_ints | exact .lf (.val _) | exact .lf (lf_ints (.inl rfl)) | exact .bp ⟨rfl, rfl⟩ | exact .bp (.inl ⟨rfl, rfl⟩) | exact .bp (.inr ⟨rfl, rfl⟩) | exact .lf (lf_fnrp (sqz_lf _)) | exact .lf (.rp (sqz_lf _)) | exact ren_qe | exact .lf (lf_sqz _) | exact .lf (lf_qe (.inl rfl)) | exact ren_sqz rfl | exact ren_sqz0 rfl | exact ren_bys0 rfl | exact .lf (D.flat_lf rfl) | exact ren_lits rfl | exact .lf (lf_ssz _) | exact .lf (lf_pqz _) | exact ren_q0 rfl | exact ren_pq rfl | exact ren_nl0 | exact ren_sq | exact .lf (.fn (fun d h => by cases h) (fun d h => by cases h)))) (htk) lfSeA0 ?_
        exact AOps.nil ⟨rfl, rfl, rfl⟩⟩,
      ⟨rfl, rfl, by
        refine n_call0B rfl cf209 rfl (Eq.trans (by simp only [nl] <;> rfl) nrSeA0) (by repeat (first | exact .nil | refine .cons ?_ ?_ | exact ren_ints | exact .lf (.val _) | exact .lf (lf_ints (.inl rfl)) | exact .bp ⟨rfl, rfl⟩ | exact .bp (.inl ⟨rfl, rfl⟩) | exact .bp (.inr ⟨rfl, rfl⟩) | exact .lf (lf_fnrp (sqz_lf _)) | exact .lf (.rp (sqz_lf _)) | exact ren_qe | exact .lf (lf_sqz _) | exact .lf (lf_qe (.inl rfl)) | exact ren_sqz rfl | exact ren_sqz0 rfl | exact ren_bys0 rfl | exact .lf (D.flat_lf rfl) | exact ren_lits rfl | exact .lf (lf_ssz _) | exact .lf (lf_pqz _) | exact ren_q0 rfl | exact ren_pq rfl | exact ren_nl0 | exact ren_sq | exact .lf (.fn (fun d h => by cases h) (fun d h => by cases h)))) (htk) lfSeA0 ?_
        exact AOps.nil ⟨rfl, rfl, rfl⟩⟩,
      trivial⟩) ?_
  refine Walk.cases [([false, false], Ob.box (lbx l r) :: (S1 ++ [Ob.box (wyz ⟨false, y⟩)]), Ob.box (lbx l r) :: (S1 ++ [Ob.box (wyz ⟨false, y⟩)])), ([true, false], Ob.box (lbx l r) :: (S1 ++ [Ob.box (wyz ⟨false, y⟩), Ob.box z6]), Ob.box (lbx l r) :: (S1 ++ [Ob.box (wyz ⟨false, y⟩), Ob.box z6]))] (by rfl) (by kernel_rfl) (rs := [17]) (by rfl) nrSeA0 (fun base => ⟨
      ⟨rfl, rfl, by
        refine n_move rfl nrSeA0 ?_
        exact AOps.nil ⟨rfl, rfl, rfl⟩⟩,
      ⟨rfl, rfl, by
        refine n_move rfl nrSeA0 ?_
        exact AOps.nil ⟨rfl, rfl, rfl⟩⟩,
      trivial⟩) ?_
  refine Walk.cases [([false, false], Ob.box (lbx l r) :: (S1 ++ [Ob.box (wyz ⟨false, y⟩)]), Ob.box (lbx l r) :: (S1 ++ [Ob.box (wyz ⟨false, y⟩)])), ([true, false], Ob.box (lbx l r) :: (S1 ++ [Ob.box (wyz ⟨false, y⟩), Ob.box z6]), Ob.box (lbx l r) :: (S1 ++ [Ob.box (wyz ⟨false, y⟩), Ob.box z6]))] (by rfl) (by kernel_rfl) (rs := [7]) (by rfl) nrSeA0 (fun base => ⟨
      ⟨rfl, rfl, by
        refine n_extract rfl nrSeA0 rfl ?_
        exact AOps.nil ⟨rfl, rfl, rfl⟩⟩,
      ⟨rfl, rfl, by
        refine n_extract rfl nrSeA0 rfl ?_
        exact AOps.nil ⟨rfl, rfl, rfl⟩⟩,
      trivial⟩) ?_
  refine Walk.cases [([false, false], Ob.box (lbx l r) :: (S1 ++ [Ob.box (wyz ⟨false, y⟩)]), Ob.box (lbx l r) :: (S1 ++ [Ob.box (wyz ⟨false, y⟩)])), ([true, false], Ob.box (lbx l r) :: (S1 ++ [Ob.box (wyz ⟨false, y⟩), Ob.box z6]), Ob.box (lbx l r) :: (S1 ++ [Ob.box (wyz ⟨false, y⟩), Ob.box z6])), ([true, true], Ob.box (lbx l r) :: (S1 ++ [Ob.box (wyz ⟨false, y⟩), Ob.box (sqz ((l.x false).take y).1)]), Ob.box (lbx l r) :: (S1 ++ [Ob.box (wyz ⟨false, y⟩), Ob.box (sqz ((l.x false).take y).1)]))] (by rfl) (by kernel_rfl) (rs := [7]) (by rfl) nrSeA0 (fun base => ⟨
      ⟨rfl, rfl, by
        refine n_extract rfl nrSeA0 rfl ?_
        exact AOps.nil ⟨rfl, rfl, rfl⟩⟩,
      ⟨rfl, rfl, by
        refine n_extract rfl nrSeA0 rfl ?_
        exact AOps.nil ⟨rfl, rfl, rfl⟩⟩,
      ⟨rfl, rfl, by
        refine n_extract rfl nrSeA0 rfl ?_
        exact AOps.nil ⟨rfl, rfl, rfl⟩⟩,
      trivial⟩) ?_
  refine Walk.cases [([false, false], Ob.box (lbx l r) :: (S1 ++ [Ob.box (wyz ⟨false, y⟩)]), Ob.box (lbx l r) :: (S1 ++ [Ob.box (wyz ⟨false, y⟩)])), ([true, false], Ob.box (lbx l r) :: (S1 ++ [Ob.box (wyz ⟨false, y⟩), Ob.box z6]), Ob.box (lbx l r) :: (S1 ++ [Ob.box (wyz ⟨false, y⟩), Ob.box z6])), ([true, true], Ob.box (lbx l r) :: (S1 ++ [Ob.box (wyz ⟨false, y⟩), Ob.box (sqz ((l.x false).take y).1)]), Ob.box (lbx l r) :: (S1 ++ [Ob.box (wyz ⟨false, y⟩), Ob.box (sqz ((l.x false).take y).1)]))] (by rfl) (by kernel_rfl) (rs := [7]) (by rfl) nrSeA0 (fun base => ⟨
      ⟨rfl, rfl, by
        refine n_extract rfl nrSeA0 rfl ?_
        exact AOps.nil ⟨rfl, rfl, rfl⟩⟩,
      ⟨rfl, rfl, by
        refine n_extract rfl nrSeA0 rfl ?_
        exact AOps.nil ⟨rfl, rfl, rfl⟩⟩,
      ⟨rfl, rfl, by
        refine n_extract rfl nrSeA0 rfl ?_
        exact AOps.nil ⟨rfl, rfl, rfl⟩⟩,
      trivial⟩) ?_
  refine Walk.cases [([false, false], Ob.box (lbx l r) :: (S1 ++ [Ob.box (wyz ⟨false, y⟩)]), Ob.box (lbx l r) :: (S1 ++ [Ob.box (wyz ⟨false, y⟩), Ob.box z6]))] (by rfl) (by kernel_rfl) (rs := []) (by rfl) nrSeA0 (fun base => ⟨
      ⟨rfl, rfl, by
        refine n_alloc rfl zi141 rfl nrSeA0 nrSeA0 ?_
        exact AOps.nil ⟨rfl, rfl, rfl⟩⟩,
      trivial⟩) ?_
  refine Walk.cases (d := .any) [([true, false], Ob.box (lbx l r) :: (S1 ++ [Ob.box (wyz ⟨false, y⟩), Ob.box z6]), Ob.box (lbx l r) :: (S1 ++ [Ob.box (wyz ⟨false, y⟩), Ob.box (sqz ((l.x false).take y).1)]))] (by rfl) (by kernel_rfl) (rs := [4, 18]) (by rfl) nrSeA0 (fun base => ⟨
      ⟨rfl, rfl, by
        refine n_store ti141 nrSeA0 nrSeA0 nrSeA0 rfl nrSeA0 rfl rfl rfl nrSeA0 ?_
        exact AOps.nil ⟨rfl, rfl, rfl⟩⟩,
      trivial⟩) ?_
  refine Walk.cases [([true, true], Ob.box (lbx l r) :: (S1 ++ [Ob.box (wyz ⟨false, y⟩), Ob.box (sqz ((l.x false).take y).1)]), Ob.box (lbx l r) :: (S1 ++ [Ob.box (wyz ⟨false, y⟩), Ob.box (sqz ((l.x false).take y).1)]))] (by rfl) (by kernel_rfl) (rs := [19]) (by rfl) nrSeA0 (fun base => ⟨
      ⟨rfl, rfl, by
        refine n_assign rfl nrSeA0 ?_
        exact AOps.nil ⟨rfl, rfl, rfl⟩⟩,
      trivial⟩) ?_
  refine Walk.cases [([true, true], Ob.box (lbx l r) :: (S1 ++ [Ob.box (wyz ⟨false, y⟩), Ob.box (sqz ((l.x false).take y).1)]), Ob.box (lbx l r) :: (S1 ++ [Ob.box (wyz ⟨false, y⟩), Ob.box (sqz ((l.x false).take y).1)]))] (by rfl) (by kernel_rfl) (rs := [20]) (by rfl) nrSeA0 (fun base => ⟨
      ⟨rfl, rfl, by
        refine n_assign rfl nrSeA0 ?_
        exact AOps.nil ⟨rfl, rfl, rfl⟩⟩,
      trivial⟩) ?_
  refine Walk.done ?_
  refine AWP.seq ?_
  refine AWP.any1 7 (Ob.box (lbx { l with x := at2 l.x false ((l.x false).take y).1 } r) :: (S1 ++ [Ob.box (wyz ⟨false, y⟩), Ob.box (sqz ((l.x false).take y).1)])) (by kernel_rfl) (by kernel_rfl) (by kernel_rfl) ?_
  refine Walk.ahead [7] (by rfl) (by kernel_rfl) (by rfl) (rs := [0]) (by rfl) nrSeA0 (fun base => by
      refine n_move rfl nrSeA0 ?_
      exact AOps.nil ⟨rfl, rfl, rfl⟩) ?_
  refine Walk.ahead [7] (by rfl) (by kernel_rfl) (by rfl) (rs := [3]) (by rfl) nrSeA0 (fun base => by
      refine n_fieldAddr rfl fd161_0 ti3 rfl nrSeA0 rfl nrSeA0 ?_
      exact AOps.nil ⟨rfl, rfl, rfl⟩) ?_
  refine Walk.ahead [7] (by rfl) (by kernel_rfl) (by rfl) (rs := [22]) (by rfl) nrSeA0 (fun base => by
      refine n_load rfl ti3 nrSeA0 nrSeA0 rfl nrSeA0 ?_
      exact AOps.nil ⟨rfl, rfl, rfl⟩) ?_
  refine Walk.ahead [7] (by rfl) (by kernel_rfl) (by rfl) (rs := [4]) (by rfl) nrSeA0 (fun base => by
      refine n_load rfl ti141 nrSeA0 nrSeA0 rfl nrSeA0 ?_
      exact AOps.nil ⟨rfl, rfl, rfl⟩) ?_
  refine Walk.ahead [5, 6, 7] (by rfl) (by kernel_rfl) (by rfl) (rs := [21]) (by rfl) nrSeA0 (fun base => by
      refine n_nilCheck rfl nrSeA0 rfl ?_
      exact AOps.nil ⟨rfl, rfl, rfl⟩) ?_
  refine Walk.ahead [6, 7] (by rfl) (by kernel_rfl) (by rfl) (rs := [25]) (by rfl) nrSeA0 (fun base => by
      refine n_fieldAddr rfl fd149_0 ti145 rfl nrSeA0 rfl nrSeA0 ?_
      exact AOps.nil ⟨rfl, rfl, rfl⟩) ?_
  refine Walk.ahead [7] (by rfl) (by kernel_rfl) (by rfl) (rs := [26, 23]) (by rfl) nrSeA0 (fun base => by
      refine n_arrAddr (q := 0) rfl Try.underlying145 ti141 nrSeA0 nrSeA0 (by decide) (by decide) rfl ?_
      exact AOps.nil ⟨rfl, rfl, rfl⟩) ?_
  refine Walk.writes (d := .any) (by rfl) (rs := [27, 24]) (by rfl) nrSeA0 (fun base => by
      refine n_store ti141 nrSeA0 nrSeA0 nrSeA0 rfl nrSeA0 rfl rfl rfl nrSeA0 ?_
      exact AOps.nil ⟨rfl, rfl, rfl⟩) ?_
  refine Walk.done ?_
  refine AWP.seq ?_
  refine AWP.region ?_
  refine n_move rfl nrSeA0 ?_
  refine AOps.nil ?_
  refine AWP.cond nrSeA0 (fun hc1 => ?_) (fun hc1 => ?_)
  · try simp only [nh] at hc1
    have hz : l.takes ⟨false, y⟩ = { l with x := at2 l.x false ((l.x false).take y).1, came := at2 l.came true (l.came true ++ ((l.x false).take y).2.1) } := by unfold Ln.takes; rw [if_pos (by exact hc1)]; rfl
    refine AWP.anyT [13, 17] (fun p => match p with | [false, false] => Ob.box (lbx { l with x := at2 l.x false ((l.x false).take y).1 } r) :: (S1 ++ [Ob.box (wyz ⟨false, y⟩), Ob.box (sqz ((l.x false).take y).1)]) | [true, false] => Ob.box (lbx { l with x := at2 l.x false ((l.x false).take y).1 } r) :: (S1.set (r 4) (Ob.row ((l.came true).length + ((l.x false).take y).2.1.length) 1) ++ [Ob.box (wyz ⟨false, y⟩), Ob.box (sqz ((l.x false).take y).1)]) | [true, true] => Ob.box (lbx { l with x := at2 l.x false ((l.x false).take y).1, came := at2 l.came true ((l.came true) ++ ((l.x false).take y).2.1) } r) :: (S1.set (r 4) (Ob.row ((l.came true).length + ((l.x false).take y).2.1.length) 1) ++ [Ob.box (wyz ⟨false, y⟩), Ob.box (sqz ((l.x false).take y).1)]) | _ => []) (by kernel_rfl) (by kernel_rfl) rfl rfl ?_
    refine Walk.cases [([false, false], Ob.box (lbx { l with x := at2 l.x false ((l.x false).take y).1 } r) :: (S1 ++ [Ob.box (wyz ⟨false, y⟩), Ob.box (sqz ((l.x false).take y).1)]), Ob.box (lbx { l with x := at2 l.x false ((l.x false).take y).1 } r) :: (S1 ++ [Ob.box (wyz ⟨false, y⟩), Ob.box (sqz ((l.x false).take y).1)])), ([true, false], Ob.box (lbx { l with x := at2 l.x false ((l.x false).take y).1 } r) :: (S1.set (r 4) (Ob.row ((l.came true).length + ((l.x false).take y).2.1.length) 1) ++ [Ob.box (wyz ⟨false, y⟩), Ob.box (sqz ((l.x false).take y).1)]), Ob.box (lbx { l with x := at2 l.x false ((l.x false).take y).1 } r) :: (S1.set (r 4) (Ob.row ((l.came true).length + ((l.x false).take y).2.1.length) 1) ++ [Ob.box (wyz ⟨false, y⟩), Ob.box (sqz ((l.x false).take y).1)]))] (by rfl) (by kernel_rfl) (rs := [0]) (by rfl) nrSeA0 (fun base => ⟨
        ⟨rfl, rfl, by
          refine n_move rfl nrSeA0 ?_
          exact AOps.nil ⟨rfl, rfl, rfl⟩⟩,
        ⟨rfl, rfl, by
          refine n_move rfl nrSeA0 ?_
          exact AOps.nil ⟨rfl, rfl, rfl⟩⟩,
        trivial⟩) ?_
    refine Walk.cases [([false, false], Ob.box (lbx { l with x := at2 l.x false ((l.x false).take y).1 } r) :: (S1 ++ [Ob.box (wyz ⟨false, y⟩), Ob.box (sqz ((l.x false).take y).1)]), Ob.box (lbx { l with x := at2 l.x false ((l.x false).take y).1 } r) :: (S1 ++ [Ob.box (wyz ⟨false, y⟩), Ob.box (sqz ((l.x false).take y).1)])), ([true, false], Ob.box (lbx { l with x := at2 l.x false ((l.x false).take y).1 } r) :: (S1.set (r 4) (Ob.row ((l.came true).length + ((l.x false).take y).2.1.length) 1) ++ [Ob.box (wyz ⟨false, y⟩), Ob.box (sqz ((l.x false).take y).1)]), Ob.box (lbx { l with x := at2 l.x false ((l.x false).take y).1 } r) :: (S1.set (r 4) (Ob.row ((l.came true).length + ((l.x false).take y).2.1.length) 1) ++ [Ob.box (wyz ⟨false, y⟩), Ob.box (sqz ((l.x false).take y).1)]))] (by rfl) (by kernel_rfl) (rs := [3]) (by rfl) nrSeA0 (fun base => ⟨
        ⟨rfl, rfl, by
          refine n_fieldAddr rfl fd161_0 ti3 rfl nrSeA0 rfl nrSeA0 ?_
          exact AOps.nil ⟨rfl, rfl, rfl⟩⟩,
        ⟨rfl, rfl, by
          refine n_fieldAddr rfl fd161_0 ti3 rfl nrSeA0 rfl nrSeA0 ?_
          exact AOps.nil ⟨rfl, rfl, rfl⟩⟩,
        trivial⟩) ?_
    refine Walk.cases [([false, false], Ob.box (lbx { l with x := at2 l.x false ((l.x false).take y).1 } r) :: (S1 ++ [Ob.box (wyz ⟨false, y⟩), Ob.box (sqz ((l.x false).take y).1)]), Ob.box (lbx { l with x := at2 l.x false ((l.x false).take y).1 } r) :: (S1 ++ [Ob.box (wyz ⟨false, y⟩), Ob.box (sqz ((l.x false).take y).1)])), ([true, false], Ob.box (lbx { l with x := at2 l.x false ((l.x false).take y).1 } r) :: (S1.set (r 4) (Ob.row ((l.came true).length + ((l.x false).take y).2.1.length) 1) ++ [Ob.box (wyz ⟨false, y⟩), Ob.box (sqz ((l.x false).take y).1)]), Ob.box (lbx { l with x := at2 l.x false ((l.x false).take y).1 } r) :: (S1.set (r 4) (Ob.row ((l.came true).length + ((l.x false).take y).2.1.length) 1) ++ [Ob.box (wyz ⟨false, y⟩), Ob.box (sqz ((l.x false).take y).1)]))] (by rfl) (by kernel_rfl) (rs := [30]) (by rfl) nrSeA0 (fun base => ⟨
        ⟨rfl, rfl, by
          refine n_load rfl ti3 nrSeA0 nrSeA0 rfl nrSeA0 ?_
          exact AOps.nil ⟨rfl, rfl, rfl⟩⟩,
        ⟨rfl, rfl, by
          refine n_load rfl ti3 nrSeA0 nrSeA0 rfl nrSeA0 ?_
          exact AOps.nil ⟨rfl, rfl, rfl⟩⟩,
        trivial⟩) ?_
    refine Walk.cases [([false, false], Ob.box (lbx { l with x := at2 l.x false ((l.x false).take y).1 } r) :: (S1 ++ [Ob.box (wyz ⟨false, y⟩), Ob.box (sqz ((l.x false).take y).1)]), Ob.box (lbx { l with x := at2 l.x false ((l.x false).take y).1 } r) :: (S1 ++ [Ob.box (wyz ⟨false, y⟩), Ob.box (sqz ((l.x false).take y).1)])), ([true, false], Ob.box (lbx { l with x := at2 l.x false ((l.x false).take y).1 } r) :: (S1.set (r 4) (Ob.row ((l.came true).length + ((l.x false).take y).2.1.length) 1) ++ [Ob.box (wyz ⟨false, y⟩), Ob.box (sqz ((l.x false).take y).1)]), Ob.box (lbx { l with x := at2 l.x false ((l.x false).take y).1 } r) :: (S1.set (r 4) (Ob.row ((l.came true).length + ((l.x false).take y).2.1.length) 1) ++ [Ob.box (wyz ⟨false, y⟩), Ob.box (sqz ((l.x false).take y).1)]))] (by rfl) (by kernel_rfl) (rs := [31]) (by rfl) nrSeA0 (fun base => ⟨
        ⟨rfl, rfl, by
          refine n_isub (c := 1) rfl nrSeA0 nrSeA0 (by decide) (by decide) (by decide) ?_
          exact AOps.nil ⟨rfl, rfl, rfl⟩⟩,
        ⟨rfl, rfl, by
          refine n_isub (c := 1) rfl nrSeA0 nrSeA0 (by decide) (by decide) (by decide) ?_
          exact AOps.nil ⟨rfl, rfl, rfl⟩⟩,
        trivial⟩) ?_
    refine Walk.cases [([false, false], Ob.box (lbx { l with x := at2 l.x false ((l.x false).take y).1 } r) :: (S1 ++ [Ob.box (wyz ⟨false, y⟩), Ob.box (sqz ((l.x false).take y).1)]), Ob.box (lbx { l with x := at2 l.x false ((l.x false).take y).1 } r) :: (S1 ++ [Ob.box (wyz ⟨false, y⟩), Ob.box (sqz ((l.x false).take y).1)]))] (by rfl) (by kernel_rfl) (rs := [0]) (by rfl) nrSeA0 (fun base => ⟨
        ⟨rfl, rfl, by
          refine n_move rfl nrSeA0 ?_
          exact AOps.nil ⟨rfl, rfl, rfl⟩⟩,
        trivial⟩) ?_
    refine Walk.cases [([false, false], Ob.box (lbx { l with x := at2 l.x false ((l.x false).take y).1 } r) :: (S1 ++ [Ob.box (wyz ⟨false, y⟩), Ob.box (sqz ((l.x false).take y).1)]), Ob.box (lbx { l with x := at2 l.x false ((l.x false).take y).1 } r) :: (S1 ++ [Ob.box (wyz ⟨false, y⟩), Ob.box (sqz ((l.x false).take y).1)]))] (by rfl) (by kernel_rfl) (rs := [3]) (by rfl) nrSeA0 (fun base => ⟨
        ⟨rfl, rfl, by
          refine n_fieldAddr rfl fd161_0 ti3 rfl nrSeA0 rfl nrSeA0 ?_
          exact AOps.nil ⟨rfl, rfl, rfl⟩⟩,
        trivial⟩) ?_
    refine Walk.cases [([false, false], Ob.box (lbx { l with x := at2 l.x false ((l.x false).take y).1 } r) :: (S1 ++ [Ob.box (wyz ⟨false, y⟩), Ob.box (sqz ((l.x false).take y).1)]), Ob.box (lbx { l with x := at2 l.x false ((l.x false).take y).1 } r) :: (S1 ++ [Ob.box (wyz ⟨false, y⟩), Ob.box (sqz ((l.x false).take y).1)]))] (by rfl) (by kernel_rfl) (rs := [34]) (by rfl) nrSeA0 (fun base => ⟨
        ⟨rfl, rfl, by
          refine n_load rfl ti3 nrSeA0 nrSeA0 rfl nrSeA0 ?_
          exact AOps.nil ⟨rfl, rfl, rfl⟩⟩,
        trivial⟩) ?_
    refine Walk.cases [([false, false], Ob.box (lbx { l with x := at2 l.x false ((l.x false).take y).1 } r) :: (S1 ++ [Ob.box (wyz ⟨false, y⟩), Ob.box (sqz ((l.x false).take y).1)]), Ob.box (lbx { l with x := at2 l.x false ((l.x false).take y).1 } r) :: (S1 ++ [Ob.box (wyz ⟨false, y⟩), Ob.box (sqz ((l.x false).take y).1)]))] (by rfl) (by kernel_rfl) (rs := [35]) (by rfl) nrSeA0 (fun base => ⟨
        ⟨rfl, rfl, by
          refine n_isub (c := 1) rfl nrSeA0 nrSeA0 (by decide) (by decide) (by decide) ?_
          exact AOps.nil ⟨rfl, rfl, rfl⟩⟩,
        trivial⟩) ?_
    refine Walk.cases [([false, false], Ob.box (lbx { l with x := at2 l.x false ((l.x false).take y).1 } r) :: (S1 ++ [Ob.box (wyz ⟨false, y⟩), Ob.box (sqz ((l.x false).take y).1)]), Ob.box (lbx { l with x := at2 l.x false ((l.x false).take y).1 } r) :: (S1 ++ [Ob.box (wyz ⟨false, y⟩), Ob.box (sqz ((l.x false).take y).1)]))] (by rfl) (by kernel_rfl) (rs := [33]) (by rfl) nrSeA0 (fun base => ⟨
        ⟨rfl, rfl, by
          refine n_nilCheck rfl nrSeA0 rfl ?_
          exact AOps.nil ⟨rfl, rfl, rfl⟩⟩,
        trivial⟩) ?_
    refine Walk.cases [([false, false], Ob.box (lbx { l with x := at2 l.x false ((l.x false).take y).1 } r) :: (S1 ++ [Ob.box (wyz ⟨false, y⟩), Ob.box (sqz ((l.x false).take y).1)]), Ob.box (lbx { l with x := at2 l.x false ((l.x false).take y).1 } r) :: (S1 ++ [Ob.box (wyz ⟨false, y⟩), Ob.box (sqz ((l.x false).take y).1)]))] (by rfl) (by kernel_rfl) (rs := [37]) (by rfl) nrSeA0 (fun base => ⟨
        ⟨rfl, rfl, by
          refine n_fieldAddr rfl fd149_3 ti147 rfl nrSeA0 rfl nrSeA0 ?_
          exact AOps.nil ⟨rfl, rfl, rfl⟩⟩,
        trivial⟩) ?_
    refine Walk.cases [([false, false], Ob.box (lbx { l with x := at2 l.x false ((l.x false).take y).1 } r) :: (S1 ++ [Ob.box (wyz ⟨false, y⟩), Ob.box (sqz ((l.x false).take y).1)]), Ob.box (lbx { l with x := at2 l.x false ((l.x false).take y).1 } r) :: (S1 ++ [Ob.box (wyz ⟨false, y⟩), Ob.box (sqz ((l.x false).take y).1)]))] (by rfl) (by kernel_rfl) (rs := [38, 36]) (by rfl) nrSeA0 (fun base => ⟨
        ⟨rfl, rfl, by
          refine n_arrAddr (q := 16) rfl Try.underlying147 ti22 nrSeA0 nrSeA0 (by decide) (by decide) rfl ?_
          exact AOps.nil ⟨rfl, rfl, rfl⟩⟩,
        trivial⟩) ?_
    refine Walk.cases [([false, false], Ob.box (lbx { l with x := at2 l.x false ((l.x false).take y).1 } r) :: (S1 ++ [Ob.box (wyz ⟨false, y⟩), Ob.box (sqz ((l.x false).take y).1)]), Ob.box (lbx { l with x := at2 l.x false ((l.x false).take y).1 } r) :: (S1 ++ [Ob.box (wyz ⟨false, y⟩), Ob.box (sqz ((l.x false).take y).1)]))] (by rfl) (by kernel_rfl) (rs := [39]) (by rfl) nrSeA0 (fun base => ⟨
        ⟨rfl, rfl, by
          refine n_load rfl ti22 nrSeA0 nrSeA0 rfl nrSeA0 ?_
          exact AOps.nil ⟨rfl, rfl, rfl⟩⟩,
        trivial⟩) ?_
    refine Walk.cases [([false, false], Ob.box (lbx { l with x := at2 l.x false ((l.x false).take y).1 } r) :: (S1 ++ [Ob.box (wyz ⟨false, y⟩), Ob.box (sqz ((l.x false).take y).1)]), Ob.box (lbx { l with x := at2 l.x false ((l.x false).take y).1 } r) :: (S1 ++ [Ob.box (wyz ⟨false, y⟩), Ob.box (sqz ((l.x false).take y).1)]))] (by rfl) (by kernel_rfl) (rs := [5]) (by rfl) nrSeA0 (fun base => ⟨
        ⟨rfl, rfl, by
          refine n_move rfl nrSeA0 ?_
          exact AOps.nil ⟨rfl, rfl, rfl⟩⟩,
        trivial⟩) ?_
    refine Walk.cases [([false, false], Ob.box (lbx { l with x := at2 l.x false ((l.x false).take y).1 } r) :: (S1 ++ [Ob.box (wyz ⟨false, y⟩), Ob.box (sqz ((l.x false).take y).1)]), Ob.box (lbx { l with x := at2 l.x false ((l.x false).take y).1 } r) :: (S1.set (r 4) (Ob.row ((l.came true).length + ((l.x false).take y).2.1.length) 1) ++ [Ob.box (wyz ⟨false, y⟩), Ob.box (sqz ((l.x false).take y).1)]))] (by rfl) (by kernel_rfl) (rs := [40, 41]) (by rfl) nrSeA0 (fun base => ⟨
        ⟨rfl, rfl, by
          refine n_append_own (zs := ints .u8 (l.came true ++ ((l.x false).take y).2.1)) (m := (l.came true).length + ((l.x false).take y).2.1.length) (S' := Ob.box (lbx { l with x := at2 l.x false ((l.x false).take y).1 } r) :: (S1.set (r 4) (Ob.row ((l.came true).length + ((l.x false).take y).2.1.length) 1) ++ [Ob.box (wyz ⟨false, y⟩), Ob.box (sqz ((l.x false).take y).1)])) rfl Try.underlying22 Try.underlying22 ei5 nrSeA0 (by show (S1 ++ _)[r 4]? = _; exact hr.at (by decide)) (by rw [ints_length]; rfl) nrSeA0 ints_one' ints_one' (ints_append ..) (by rw [ints_length, ints_length]) (by omega) (by exact congrArg (_ :: ·) (List.set_append_left _ _ (hr.lt (by decide)))) ?_
          exact AOps.nil ⟨rfl, rfl, rfl⟩⟩,
        trivial⟩) ?_
    refine Walk.cases [([false, false], Ob.box (lbx { l with x := at2 l.x false ((l.x false).take y).1 } r) :: (S1 ++ [Ob.box (wyz ⟨false, y⟩), Ob.box (sqz ((l.x false).take y).1)]), Ob.box (lbx { l with x := at2 l.x false ((l.x false).take y).1 } r) :: (S1 ++ [Ob.box (wyz ⟨false, y⟩), Ob.box (sqz ((l.x false).take y).1)])), ([true, false], Ob.box (lbx { l with x := at2 l.x false ((l.x false).take y).1 } r) :: (S1.set (r 4) (Ob.row ((l.came true).length + ((l.x false).take y).2.1.length) 1) ++ [Ob.box (wyz ⟨false, y⟩), Ob.box (sqz ((l.x false).take y).1)]), Ob.box (lbx { l with x := at2 l.x false ((l.x false).take y).1 } r) :: (S1.set (r 4) (Ob.row ((l.came true).length + ((l.x false).take y).2.1.length) 1) ++ [Ob.box (wyz ⟨false, y⟩), Ob.box (sqz ((l.x false).take y).1)]))] (by rfl) (by kernel_rfl) (rs := [29]) (by rfl) nrSeA0 (fun base => ⟨
        ⟨rfl, rfl, by
          refine n_nilCheck rfl nrSeA0 rfl ?_
          exact AOps.nil ⟨rfl, rfl, rfl⟩⟩,
        ⟨rfl, rfl, by
          refine n_nilCheck rfl nrSeA0 rfl ?_
          exact AOps.nil ⟨rfl, rfl, rfl⟩⟩,
        trivial⟩) ?_
    refine Walk.cases [([false, false], Ob.box (lbx { l with x := at2 l.x false ((l.x false).take y).1 } r) :: (S1 ++ [Ob.box (wyz ⟨false, y⟩), Ob.box (sqz ((l.x false).take y).1)]), Ob.box (lbx { l with x := at2 l.x false ((l.x false).take y).1 } r) :: (S1 ++ [Ob.box (wyz ⟨false, y⟩), Ob.box (sqz ((l.x false).take y).1)])), ([true, false], Ob.box (lbx { l with x := at2 l.x false ((l.x false).take y).1 } r) :: (S1.set (r 4) (Ob.row ((l.came true).length + ((l.x false).take y).2.1.length) 1) ++ [Ob.box (wyz ⟨false, y⟩), Ob.box (sqz ((l.x false).take y).1)]), Ob.box (lbx { l with x := at2 l.x false ((l.x false).take y).1 } r) :: (S1.set (r 4) (Ob.row ((l.came true).length + ((l.x false).take y).2.1.length) 1) ++ [Ob.box (wyz ⟨false, y⟩), Ob.box (sqz ((l.x false).take y).1)]))] (by rfl) (by kernel_rfl) (rs := [43]) (by rfl) nrSeA0 (fun base => ⟨
        ⟨rfl, rfl, by
          refine n_fieldAddr rfl fd149_3 ti147 rfl nrSeA0 rfl nrSeA0 ?_
          exact AOps.nil ⟨rfl, rfl, rfl⟩⟩,
        ⟨rfl, rfl, by
          refine n_fieldAddr rfl fd149_3 ti147 rfl nrSeA0 rfl nrSeA0 ?_
          exact AOps.nil ⟨rfl, rfl, rfl⟩⟩,
        trivial⟩) ?_
    refine Walk.cases [([true, false], Ob.box (lbx { l with x := at2 l.x false ((l.x false).take y).1 } r) :: (S1.set (r 4) (Ob.row ((l.came true).length + ((l.x false).take y).2.1.length) 1) ++ [Ob.box (wyz ⟨false, y⟩), Ob.box (sqz ((l.x false).take y).1)]), Ob.box (lbx { l with x := at2 l.x false ((l.x false).take y).1 } r) :: (S1.set (r 4) (Ob.row ((l.came true).length + ((l.x false).take y).2.1.length) 1) ++ [Ob.box (wyz ⟨false, y⟩), Ob.box (sqz ((l.x false).take y).1)]))] (by rfl) (by kernel_rfl) (rs := [44, 32]) (by rfl) nrSeA0 (fun base => ⟨
        ⟨rfl, rfl, by
          refine n_arrAddr (q := 16) rfl Try.underlying147 ti22 nrSeA0 nrSeA0 (by decide) (by decide) rfl ?_
          exact AOps.nil ⟨rfl, rfl, rfl⟩⟩,
        trivial⟩) ?_
    refine Walk.cases (d := .any) [([true, false], Ob.box (lbx { l with x := at2 l.x false ((l.x false).take y).1 } r) :: (S1.set (r 4) (Ob.row ((l.came true).length + ((l.x false).take y).2.1.length) 1) ++ [Ob.box (wyz ⟨false, y⟩), Ob.box (sqz ((l.x false).take y).1)]), Ob.box (lbx { l with x := at2 l.x false ((l.x false).take y).1, came := at2 l.came true ((l.came true) ++ ((l.x false).take y).2.1) } r) :: (S1.set (r 4) (Ob.row ((l.came true).length + ((l.x false).take y).2.1.length) 1) ++ [Ob.box (wyz ⟨false, y⟩), Ob.box (sqz ((l.x false).take y).1)]))] (by rfl) (by kernel_rfl) (rs := [45, 42]) (by rfl) nrSeA0 (fun base => ⟨
        ⟨rfl, rfl, by
          refine n_store ti22 nrSeA0 nrSeA0 nrSeA0 rfl nrSeA0 rfl rfl rfl nrSeA0 ?_
          exact AOps.nil ⟨rfl, rfl, rfl⟩⟩,
        trivial⟩) ?_
    refine Walk.done ?_
    refine finK_normal .nil nrSeA0 ?_
    rw [hz] at hK
    first
    | exact hK r _ (Rw.app (Rw.set hr (k := 4) (by decide) (Prod.ext (List.length_append ..) rfl) (fun j hj hne => by rcases j with _ | _ | _ | _ | _ | j <;> first | rfl | exact absurd rfl hne | omega)))
    | exact hK r _ (Rw.same (Rw.app hr) (fun j hj => by rcases j with _ | _ | _ | _ | _ | j <;> first | rfl | omega))
  · try simp only [nh] at hc1
    have hz : l.takes ⟨false, y⟩ = { l with x := at2 l.x false ((l.x false).take y).1 } := by unfold Ln.takes; rw [if_neg (by intro q; have q2 := hc1; simp_all)]
    refine AWP.skip ?_
    refine finK_normal .nil nrSeA0 ?_
    rw [hz] at hK
    first
    | exact hK r _ (Rw.app (Rw.set hr (k := 4) (by decide) (Prod.ext (List.length_append ..) rfl) (fun j hj hne => by rcases j with _ | _ | _ | _ | _ | j <;> first | rfl | exact absurd rfl hne | omega)))
    | exact hK r _ (Rw.same (Rw.app hr) (fun j hj => by rcases j with _ | _ | _ | _ | _ | j <;> first | rfl | omega))

set_option maxHeartbeats 2000000 in
theorem takes_1 (l : Ln) (r : Nat → Nat) (S1 : List Ob) (hr : Rw l r S1) (hg : Gd l) (y : Pq) (hy : y.chk = 0) (K : D → List Ob → Prop) (hK : ∀ r S2, Rw (l.takes ⟨true, y⟩) r S2 → K (.tup []) (.box (lbx (l.takes ⟨true, y⟩) r) :: S2)) : DoesK Try.prog 113 [.bp 0 0, .agg [vi 1, vi y.b, vi y.p, vi y.s, vi y.a, bys y.l]] (Ob.box (lbx l r) :: S1) K := by
  refine DoesK.of_body (rvs := []) Try.func113 rfl rfl rfl rfl ?_
  have htk := l_takeQ (l.x true) (hg.ok true) y hy
  have hyl : y.l.length ≤ 131072 := (Pq.chk0.1 hy).2.2.2.2.1
  have htl := Sq.take_len (x := l.x true) (y := y)
  have hcm := hg.cm false
  refine AWP.seq ?_
  refine AWP.region ?_
  refine n_box rfl nrSeA0 rfl rfl nrSeA0 nrSeA0 ?_
  refine AOps.nil ?_
  refine AWP.seq ?_
  refine AWP.anyT [14, 15] (fun p => match p with | [false, false] => Ob.box (lbx l r) :: (S1 ++ [Ob.box (wyz ⟨true, y⟩)]) | [true, false] => Ob.box (lbx l r) :: (S1 ++ [Ob.box (wyz ⟨true, y⟩), Ob.box z6]) | [true, true] => Ob.box (lbx l r) :: (S1 ++ [Ob.box (wyz ⟨true, y⟩), Ob.box (sqz ((l.x true).take y).1)]) | _ => []) (by kernel_rfl) (by kernel_rfl) rfl rfl ?_
  refine Walk.cases [([false, false], Ob.box (lbx l r) :: (S1 ++ [Ob.box (wyz ⟨true, y⟩)]), Ob.box (lbx l r) :: (S1 ++ [Ob.box (wyz ⟨true, y⟩)])), ([true, false], Ob.box (lbx l r) :: (S1 ++ [Ob.box (wyz ⟨true, y⟩), Ob.box z6]), Ob.box (lbx l r) :: (S1 ++ [Ob.box (wyz ⟨true, y⟩), Ob.box z6]))] (by rfl) (by kernel_rfl) (rs := [0]) (by rfl) nrSeA0 (fun base => ⟨
      ⟨rfl, rfl, by
        refine n_move rfl nrSeA0 ?_
        exact AOps.nil ⟨rfl, rfl, rfl⟩⟩,
      ⟨rfl, rfl, by
        refine n_move rfl nrSeA0 ?_
        exact AOps.nil ⟨rfl, rfl, rfl⟩⟩,
      trivial⟩) ?_
  refine Walk.cases [([false, false], Ob.box (lbx l r) :: (S1 ++ [Ob.box (wyz ⟨true, y⟩)]), Ob.box (lbx l r) :: (S1 ++ [Ob.box (wyz ⟨true, y⟩)])), ([true, false], Ob.box (lbx l r) :: (S1 ++ [Ob.box (wyz ⟨true, y⟩), Ob.box z6]), Ob.box (lbx l r) :: (S1 ++ [Ob.box (wyz ⟨true, y⟩), Ob.box z6]))] (by rfl) (by kernel_rfl) (rs := [3]) (by rfl) nrSeA0 (fun base => ⟨
      ⟨rfl, rfl, by
        refine n_fieldAddr rfl fd161_0 ti3 rfl nrSeA0 rfl nrSeA0 ?_
        exact AOps.nil ⟨rfl, rfl, rfl⟩⟩,
      ⟨rfl, rfl, by
        refine n_fieldAddr rfl fd161_0 ti3 rfl nrSeA0 rfl nrSeA0 ?_
        exact AOps.nil ⟨rfl, rfl, rfl⟩⟩,
      trivial⟩) ?_
  refine Walk.cases [([false, false], Ob.box (lbx l r) :: (S1 ++ [Ob.box (wyz ⟨true, y⟩)]), Ob.box (lbx l r) :: (S1 ++ [Ob.box (wyz ⟨true, y⟩)])), ([true, false], Ob.box (lbx l r) :: (S1 ++ [Ob.box (wyz ⟨true, y⟩), Ob.box z6]), Ob.box (lbx l r) :: (S1 ++ [Ob.box (wyz ⟨true, y⟩), Ob.box z6]))] (by rfl) (by kernel_rfl) (rs := [9]) (by rfl) nrSeA0 (fun base => ⟨
      ⟨rfl, rfl, by
        refine n_load rfl ti3 nrSeA0 nrSeA0 rfl nrSeA0 ?_
        exact AOps.nil ⟨rfl, rfl, rfl⟩⟩,
      ⟨rfl, rfl, by
        refine n_load rfl ti3 nrSeA0 nrSeA0 rfl nrSeA0 ?_
        exact AOps.nil ⟨rfl, rfl, rfl⟩⟩,
      trivial⟩) ?_
  refine Walk.cases [([false, false], Ob.box (lbx l r) :: (S1 ++ [Ob.box (wyz ⟨true, y⟩)]), Ob.box (lbx l r) :: (S1 ++ [Ob.box (wyz ⟨true, y⟩)])), ([true, false], Ob.box (lbx l r) :: (S1 ++ [Ob.box (wyz ⟨true, y⟩), Ob.box z6]), Ob.box (lbx l r) :: (S1 ++ [Ob.box (wyz ⟨true, y⟩), Ob.box z6]))] (by rfl) (by kernel_rfl) (rs := [8]) (by rfl) nrSeA0 (fun base => ⟨
      ⟨rfl, rfl, by
        refine n_nilCheck rfl nrSeA0 rfl ?_
        exact AOps.nil ⟨rfl, rfl, rfl⟩⟩,
      ⟨rfl, rfl, by
        refine n_nilCheck rfl nrSeA0 rfl ?_
        exact AOps.nil ⟨rfl, rfl, rfl⟩⟩,
      trivial⟩) ?_
  refine Walk.cases [([false, false], Ob.box (lbx l r) :: (S1 ++ [Ob.box (wyz ⟨true, y⟩)]), Ob.box (lbx l r) :: (S1 ++ [Ob.box (wyz ⟨true, y⟩)])), ([true, false], Ob.box (lbx l r) :: (S1 ++ [Ob.box (wyz ⟨true, y⟩), Ob.box z6]), Ob.box (lbx l r) :: (S1 ++ [Ob.box (wyz ⟨true, y⟩), Ob.box z6]))] (by rfl) (by kernel_rfl) (rs := [11]) (by rfl) nrSeA0 (fun base => ⟨
      ⟨rfl, rfl, by
        refine n_fieldAddr rfl fd149_0 ti145 rfl nrSeA0 rfl nrSeA0 ?_
        exact AOps.nil ⟨rfl, rfl, rfl⟩⟩,
      ⟨rfl, rfl, by
        refine n_fieldAddr rfl fd149_0 ti145 rfl nrSeA0 rfl nrSeA0 ?_
        exact AOps.nil ⟨rfl, rfl, rfl⟩⟩,
      trivial⟩) ?_
  refine Walk.cases [([false, false], Ob.box (lbx l r) :: (S1 ++ [Ob.box (wyz ⟨true, y⟩)]), Ob.box (lbx l r) :: (S1 ++ [Ob.box (wyz ⟨true, y⟩)])), ([true, false], Ob.box (lbx l r) :: (S1 ++ [Ob.box (wyz ⟨true, y⟩), Ob.box z6]), Ob.box (lbx l r) :: (S1 ++ [Ob.box (wyz ⟨true, y⟩), Ob.box z6]))] (by rfl) (by kernel_rfl) (rs := [12, 10]) (by rfl) nrSeA0 (fun base => ⟨
      ⟨rfl, rfl, by
        refine n_arrAddr (q := 6) rfl Try.underlying145 ti141 nrSeA0 nrSeA0 (by decide) (by decide) rfl ?_
        exact AOps.nil ⟨rfl, rfl, rfl⟩⟩,
      ⟨rfl, rfl, by
        refine n_arrAddr (q := 6) rfl Try.underlying145 ti141 nrSeA0 nrSeA0 (by decide) (by decide) rfl ?_
        exact AOps.nil ⟨rfl, rfl, rfl⟩⟩,
      trivial⟩) ?_
  refine Walk.cases [([false, false], Ob.box (lbx l r) :: (S1 ++ [Ob.box (wyz ⟨true, y⟩)]), Ob.box (lbx l r) :: (S1 ++ [Ob.box (wyz ⟨true, y⟩)])), ([true, false], Ob.box (lbx l r) :: (S1 ++ [Ob.box (wyz ⟨true, y⟩), Ob.box z6]), Ob.box (lbx l r) :: (S1 ++ [Ob.box (wyz ⟨true, y⟩), Ob.box z6]))] (by rfl) (by kernel_rfl) (rs := [13]) (by rfl) nrSeA0 (fun base => ⟨
      ⟨rfl, rfl, by
        refine n_load rfl ti141 nrSeA0 nrSeA0 rfl nrSeA0 ?_
        exact AOps.nil ⟨rfl, rfl, rfl⟩⟩,
      ⟨rfl, rfl, by
        refine n_load rfl ti141 nrSeA0 nrSeA0 rfl nrSeA0 ?_
        exact AOps.nil ⟨rfl, rfl, rfl⟩⟩,
      trivial⟩) ?_
  refine Walk.cases [([false, false], Ob.box (lbx l r) :: (S1 ++ [Ob.box (wyz ⟨true, y⟩)]), Ob.box (lbx l r) :: (S1 ++ [Ob.box (wyz ⟨true, y⟩)])), ([true, false], Ob.box (lbx l r) :: (S1 ++ [Ob.box (wyz ⟨true, y⟩), Ob.box z6]), Ob.box (lbx l r) :: (S1 ++ [Ob.box (wyz ⟨true, y⟩), Ob.box z6]))] (by rfl) (by kernel_rfl) (rs := [3]) (by rfl) nrSeA0 (fun base => ⟨
      ⟨rfl, rfl, by
        refine n_fieldAddr rfl fd161_1 ti157 rfl nrSeA0 rfl nrSeA0 ?_
        exact AOps.nil ⟨rfl, rfl, rfl⟩⟩,
      ⟨rfl, rfl, by
        refine n_fieldAddr rfl fd161_1 ti157 rfl nrSeA0 rfl nrSeA0 ?_
        exact AOps.nil ⟨rfl, rfl, rfl⟩⟩,
      trivial⟩) ?_
  refine Walk.cases [([false, false], Ob.box (lbx l r) :: (S1 ++ [Ob.box (wyz ⟨true, y⟩)]), Ob.box (lbx l r) :: (S1 ++ [Ob.box (wyz ⟨true, y⟩)])), ([true, false], Ob.box (lbx l r) :: (S1 ++ [Ob.box (wyz ⟨true, y⟩), Ob.box z6]), Ob.box (lbx l r) :: (S1 ++ [Ob.box (wyz ⟨true, y⟩), Ob.box z6]))] (by rfl) (by kernel_rfl) (rs := [15]) (by rfl) nrSeA0 (fun base => ⟨
      ⟨rfl, rfl, by
        refine n_load rfl ti157 nrSeA0 nrSeA0 rfl nrSeA0 ?_
        exact AOps.nil ⟨rfl, rfl, rfl⟩⟩,
      ⟨rfl, rfl, by
        refine n_load rfl ti157 nrSeA0 nrSeA0 rfl nrSeA0 ?_
        exact AOps.nil ⟨rfl, rfl, rfl⟩⟩,
      trivial⟩) ?_
  refine Walk.cases [([false, false], Ob.box (lbx l r) :: (S1 ++ [Ob.box (wyz ⟨true, y⟩)]), Ob.box (lbx l r) :: (S1 ++ [Ob.box (wyz ⟨true, y⟩)])), ([true, false], Ob.box (lbx l r) :: (S1 ++ [Ob.box (wyz ⟨true, y⟩), Ob.box z6]), Ob.box (lbx l r) :: (S1 ++ [Ob.box (wyz ⟨true, y⟩), Ob.box z6]))] (by rfl) (by kernel_rfl) (rs := [14, 16]) (by rfl) nrSeA0 (fun base => ⟨
      ⟨rfl, rfl, by
        refine n_call0B rfl cf209 rfl (Eq.trans (by simp only [nl] <;> rfl) nrSeA0) (by repeat (first | exact .nil | refine .cons ?_ ?_ | exact ren_ints | exact .lf (.val _) | exact .lf (lf_ints (.inl rfl)) | exact .bp ⟨rfl, rfl⟩ | exact .bp (.inl ⟨rfl, rfl⟩) | exact .bp (.inr ⟨rfl, rfl⟩) | exact .lf (lf_fnrp (sqz_lf _)) | exact .lf (.rp (sqz_lf _)) | exact ren_qe | exact .lf (lf_sqz _) | exact .lf (lf_qe (.inl rfl)) | exact ren_sqz rfl | exact ren_sqz0 rfl | exact ren_bys0 rfl | exact .lf (D.flat_lf rfl) | exact ren_lits rfl | exact .lf (lf_ssz _) | exact .lf (lf_pqz _) | exact ren_q0 rfl | exact ren_pq rfl | exact ren_nl0 | exact ren_sq | exact .lf (.fn (fun d h => by cases h) (fun d h => by cases h)))) (htk) lfSeA0 ?_
        exact AOps.nil ⟨rfl, rfl, rfl⟩⟩,
      ⟨rfl, rfl, by
        refine n_call0B rfl cf209 rfl (Eq.trans (by simp only [nl] <;> rfl) nrSeA0) (by repeat (first | exact .nil | refine .cons ?_ ?_ | exact ren_ints | exact .lf (.val _) | exact .lf (lf_ints (.inl rfl)) | exact .bp ⟨rfl, rfl⟩ | exact .bp (.inl ⟨rfl, rfl⟩) | exact .bp (.inr ⟨rfl, rfl⟩) | exact .lf (lf_fnrp (sqz_lf _)) | exact .lf (.rp (sqz_lf _)) | exact ren_qe | exact .lf (lf_sqz _) | exact .lf (lf_qe (.inl rfl)) | exact ren_sqz rfl | exact ren_sqz0 rfl | exact ren_bys0 rfl | exact .lf (D.flat_lf rfl) | exact ren_lits rfl | exact .lf (lf_ssz _) | exact .lf (lf_pqz _) | exact ren_q0 rfl | exact ren_pq rfl | exact ren_nl0 | exact ren_sq | exact .lf (.fn (fun d h => by cases h) (fun d h => by cases h)))) (htk) lfSeA0 ?_
        exact AOps.nil ⟨rfl, rfl, rfl⟩⟩,
      trivial⟩) ?_
  refine Walk.cases [([false, false], Ob.box (lbx l r) :: (S1 ++ [Ob.box (wyz ⟨true, y⟩)]), Ob.box (lbx l r) :: (S1 ++ [Ob.box (wyz ⟨true, y⟩)])), ([true, false], Ob.box (lbx l r) :: (S1 ++ [Ob.box (wyz ⟨true, y⟩), Ob.box z6]), Ob.box (lbx l r) :: (S1 ++ [Ob.box (wyz ⟨true, y⟩), Ob.box z6]))] (by rfl) (by kernel_rfl) (rs := [17]) (by rfl) nrSeA0 (fun base => ⟨
      ⟨rfl, rfl, by
        refine n_move rfl nrSeA0 ?_
        exact AOps.nil ⟨rfl, rfl, rfl⟩⟩,
      ⟨rfl, rfl, by
        refine n_move rfl nrSeA0 ?_
        exact AOps.nil ⟨rfl, rfl, rfl⟩⟩,
      trivial⟩) ?_
  refine Walk.cases [([false, false], Ob.box (lbx l r) :: (S1 ++ [Ob.box (wyz ⟨true, y⟩)]), Ob.box (lbx l r) :: (S1 ++ [Ob.box (wyz ⟨true, y⟩)])), ([true, false], Ob.box (lbx l r) :: (S1 ++ [Ob.box (wyz ⟨true, y⟩), Ob.box z6]), Ob.box (lbx l r) :: (S1 ++ [Ob.box (wyz ⟨true, y⟩), Ob.box z6]))] (by rfl) (by kernel_rfl) (rs := [7]) (by rfl) nrSeA0 (fun base => ⟨
      ⟨rfl, rfl, by
        refine n_extract rfl nrSeA0 rfl ?_
        exact AOps.nil ⟨rfl, rfl, rfl⟩⟩,
      ⟨rfl, rfl, by
        refine n_extract rfl nrSeA0 rfl ?_
        exact AOps.nil ⟨rfl, rfl, rfl⟩⟩,
      trivial⟩) ?_
  refine Walk.cases [([false, false], Ob.box (lbx l r) :: (S1 ++ [Ob.box (wyz ⟨true, y⟩)]), Ob.box (lbx l r) :: (S1 ++ [Ob.box (wyz ⟨true, y⟩)])), ([true, false], Ob.box (lbx l r) :: (S1 ++ [Ob.box (wyz ⟨true, y⟩), Ob.box z6]), Ob.box (lbx l r) :: (S1 ++ [Ob.box (wyz ⟨true, y⟩), Ob.box z6])), ([true, true], Ob.box (lbx l r) :: (S1 ++ [Ob.box (wyz ⟨true, y⟩), Ob.box (sqz ((l.x true).take y).1)]), Ob.box (lbx l r) :: (S1 ++ [Ob.box (wyz ⟨true, y⟩), Ob.box (sqz ((l.x true).take y).1)]))] (by rfl) (by kernel_rfl) (rs := [7]) (by rfl) nrSeA0 (fun base => ⟨
      ⟨rfl, rfl, by
        refine n_extract rfl nrSeA0 rfl ?_
        exact AOps.nil ⟨rfl, rfl, rfl⟩⟩,
      ⟨rfl, rfl, by
        refine n_extract rfl nrSeA0 rfl ?_
        exact AOps.nil ⟨rfl, rfl, rfl⟩⟩,
      ⟨rfl, rfl, by
        refine n_extract rfl nrSeA0 rfl ?_
        exact AOps.nil ⟨rfl, rfl, rfl⟩⟩,
      trivial⟩) ?_
  refine Walk.cases [([false, false], Ob.box (lbx l r) :: (S1 ++ [Ob.box (wyz ⟨true, y⟩)]), Ob.box (lbx l r) :: (S1 ++ [Ob.box (wyz ⟨true, y⟩)])), ([true, false], Ob.box (lbx l r) :: (S1 ++ [Ob.box (wyz ⟨true, y⟩), Ob.box z6]), Ob.box (lbx l r) :: (S1 ++ [Ob.box (wyz ⟨true, y⟩), Ob.box z6])), ([true, true], Ob.box (lbx l r) :: (S1 ++ [Ob.box (wyz ⟨true, y⟩), Ob.box (sqz ((l.x true).take y).1)]), Ob.box (lbx l r) :: (S1 ++ [Ob.box (wyz ⟨true, y⟩), Ob.box (sqz ((l.x true).take y).1)]))] (by rfl) (by kernel_rfl) (rs := [7]) (by rfl) nrSeA0 (fun base => ⟨
      ⟨rfl, rfl, by
        refine n_extract rfl nrSeA0 rfl ?_
        exact AOps.nil ⟨rfl, rfl, rfl⟩⟩,
      ⟨rfl, rfl, by
        refine n_extract rfl nrSeA0 rfl ?_
        exact AOps.nil ⟨rfl, rfl, rfl⟩⟩,
      ⟨rfl, rfl, by
        refine n_extract rfl nrSeA0 rfl ?_
        exact AOps.nil ⟨rfl, rfl, rfl⟩⟩,
      trivial⟩) ?_
  refine Walk.cases [([false, false], Ob.box (lbx l r) :: (S1 ++ [Ob.box (wyz ⟨true, y⟩)]), Ob.box (lbx l r) :: (S1 ++ [Ob.box (wyz ⟨true, y⟩), Ob.box z6]))] (by rfl) (by kernel_rfl) (rs := []) (by rfl) nrSeA0 (fun base => ⟨
      ⟨rfl, rfl, by
        refine n_alloc rfl zi141 rfl nrSeA0 nrSeA0 ?_
        exact AOps.nil ⟨rfl, rfl, rfl⟩⟩,
      trivial⟩) ?_
  refine Walk.cases (d := .any) [([true, false], Ob.box (lbx l r) :: (S1 ++ [Ob.box (wyz ⟨true, y⟩), Ob.box z6]), Ob.box (lbx l r) :: (S1 ++ [Ob.box (wyz ⟨true, y⟩), Ob.box (sqz ((l.x true).take y).1)]))] (by rfl) (by kernel_rfl) (rs := [4, 18]) (by rfl) nrSeA0 (fun base => ⟨
      ⟨rfl, rfl, by
        refine n_store ti141 nrSeA0 nrSeA0 nrSeA0 rfl nrSeA0 rfl rfl rfl nrSeA0 ?_
        exact AOps.nil ⟨rfl, rfl, rfl⟩⟩,
      trivial⟩) ?_
  refine Walk.cases [([true, true], Ob.box (lbx l r) :: (S1 ++ [Ob.box (wyz ⟨true, y⟩), Ob.box (sqz ((l.x true).take y).1)]), Ob.box (lbx l r) :: (S1 ++ [Ob.box (wyz ⟨true, y⟩), Ob.box (sqz ((l.x true).take y).1)]))] (by rfl) (by kernel_rfl) (rs := [19]) (by rfl) nrSeA0 (fun base => ⟨
      ⟨rfl, rfl, by
        refine n_assign rfl nrSeA0 ?_
        exact AOps.nil ⟨rfl, rfl, rfl⟩⟩,
      trivial⟩) ?_
  refine Walk.cases [([true, true], Ob.box (lbx l r) :: (S1 ++ [Ob.box (wyz ⟨true, y⟩), Ob.box (sqz ((l.x true).take y).1)]), Ob.box (lbx l r) :: (S1 ++ [Ob.box (wyz ⟨true, y⟩), Ob.box (sqz ((l.x true).take y).1)]))] (by rfl) (by kernel_rfl) (rs := [20]) (by rfl) nrSeA0 (fun base => ⟨
      ⟨rfl, rfl, by
        refine n_assign rfl nrSeA0 ?_
        exact AOps.nil ⟨rfl, rfl, rfl⟩⟩,
      trivial⟩) ?_
  refine Walk.done ?_
  refine AWP.seq ?_
  refine AWP.any1 7 (Ob.box (lbx { l with x := at2 l.x true ((l.x true).take y).1 } r) :: (S1 ++ [Ob.box (wyz ⟨true, y⟩), Ob.box (sqz ((l.x true).take y).1)])) (by kernel_rfl) (by kernel_rfl) (by kernel_rfl) ?_
  refine Walk.ahead [7] (by rfl) (by kernel_rfl) (by rfl) (rs := [0]) (by rfl) nrSeA0 (fun base => by
      refine n_move rfl nrSeA0 ?_
      exact AOps.nil ⟨rfl, rfl, rfl⟩) ?_
  refine Walk.ahead [7] (by rfl) (by kernel_rfl) (by rfl) (rs := [3]) (by rfl) nrSeA0 (fun base => by
      refine n_fieldAddr rfl fd161_0 ti3 rfl nrSeA0 rfl nrSeA0 ?_
      exact AOps.nil ⟨rfl, rfl, rfl⟩) ?_
  refine Walk.ahead [7] (by rfl) (by kernel_rfl) (by rfl) (rs := [22]) (by rfl) nrSeA0 (fun base => by
      refine n_load rfl ti3 nrSeA0 nrSeA0 rfl nrSeA0 ?_
      exact AOps.nil ⟨rfl, rfl, rfl⟩) ?_
  refine Walk.ahead [7] (by rfl) (by kernel_rfl) (by rfl) (rs := [4]) (by rfl) nrSeA0 (fun base => by
      refine n_load rfl ti141 nrSeA0 nrSeA0 rfl nrSeA0 ?_
      exact AOps.nil ⟨rfl, rfl, rfl⟩) ?_
  refine Walk.ahead [5, 6, 7] (by rfl) (by kernel_rfl) (by rfl) (rs := [21]) (by rfl) nrSeA0 (fun base => by
      refine n_nilCheck rfl nrSeA0 rfl ?_
      exact AOps.nil ⟨rfl, rfl, rfl⟩) ?_
  refine Walk.ahead [6, 7] (by rfl) (by kernel_rfl) (by rfl) (rs := [25]) (by rfl) nrSeA0 (fun base => by
      refine n_fieldAddr rfl fd149_0 ti145 rfl nrSeA0 rfl nrSeA0 ?_
      exact AOps.nil ⟨rfl, rfl, rfl⟩) ?_
  refine Walk.ahead [7] (by rfl) (by kernel_rfl) (by rfl) (rs := [26, 23]) (by rfl) nrSeA0 (fun base => by
      refine n_arrAddr (q := 6) rfl Try.underlying145 ti141 nrSeA0 nrSeA0 (by decide) (by decide) rfl ?_
      exact AOps.nil ⟨rfl, rfl, rfl⟩) ?_
  refine Walk.writes (d := .any) (by rfl) (rs := [27, 24]) (by rfl) nrSeA0 (fun base => by
      refine n_store ti141 nrSeA0 nrSeA0 nrSeA0 rfl nrSeA0 rfl rfl rfl nrSeA0 ?_
      exact AOps.nil ⟨rfl, rfl, rfl⟩) ?_
  refine Walk.done ?_
  refine AWP.seq ?_
  refine AWP.region ?_
  refine n_move rfl nrSeA0 ?_
  refine AOps.nil ?_
  refine AWP.cond nrSeA0 (fun hc1 => ?_) (fun hc1 => ?_)
  · try simp only [nh] at hc1
    have hz : l.takes ⟨true, y⟩ = { l with x := at2 l.x true ((l.x true).take y).1, came := at2 l.came false (l.came false ++ ((l.x true).take y).2.1) } := by unfold Ln.takes; rw [if_pos (by exact hc1)]; rfl
    refine AWP.anyT [13, 17] (fun p => match p with | [false, false] => Ob.box (lbx { l with x := at2 l.x true ((l.x true).take y).1 } r) :: (S1 ++ [Ob.box (wyz ⟨true, y⟩), Ob.box (sqz ((l.x true).take y).1)]) | [true, false] => Ob.box (lbx { l with x := at2 l.x true ((l.x true).take y).1 } r) :: (S1.set (r 3) (Ob.row ((l.came false).length + ((l.x true).take y).2.1.length) 1) ++ [Ob.box (wyz ⟨true, y⟩), Ob.box (sqz ((l.x true).take y).1)]) | [true, true] => Ob.box (lbx { l with x := at2 l.x true ((l.x true).take y).1, came := at2 l.came false ((l.came false) ++ ((l.x true).take y).2.1) } r) :: (S1.set (r 3) (Ob.row ((l.came false).length + ((l.x true).take y).2.1.length) 1) ++ [Ob.box (wyz ⟨true, y⟩), Ob.box (sqz ((l.x true).take y).1)]) | _ => []) (by kernel_rfl) (by kernel_rfl) rfl rfl ?_
    refine Walk.cases [([false, false], Ob.box (lbx { l with x := at2 l.x true ((l.x true).take y).1 } r) :: (S1 ++ [Ob.box (wyz ⟨true, y⟩), Ob.box (sqz ((l.x true).take y).1)]), Ob.box (lbx { l with x := at2 l.x true ((l.x true).take y).1 } r) :: (S1 ++ [Ob.box (wyz ⟨true, y⟩), Ob.box (sqz ((l.x true).take y).1)])), ([true, false], Ob.box (lbx { l with x := at2 l.x true ((l.x true).take y).1 } r) :: (S1.set (r 3) (Ob.row ((l.came false).length + ((l.x true).take y).2.1.length) 1) ++ [Ob.box (wyz ⟨true, y⟩), Ob.box (sqz ((l.x true).take y).1)]), Ob.box (lbx { l with x := at2 l.x true ((l.x true).take y).1 } r) :: (S1.set (r 3) (Ob.row ((l.came false).length + ((l.x true).take y).2.1.length) 1) ++ [Ob.box (wyz ⟨true, y⟩), Ob.box (sqz ((l.x true).take y).1)]))] (by rfl) (by kernel_rfl) (rs := [0]) (by rfl) nrSeA0 (fun base => ⟨
        ⟨rfl, rfl, by
          refine n_move rfl nrSeA0 ?_
          exact AOps.nil ⟨rfl, rfl, rfl⟩⟩,
        ⟨rfl, rfl, by
          refine n_move rfl nrSeA0 ?_
          exact AOps.nil ⟨rfl, rfl, rfl⟩⟩,
        trivial⟩) ?_
    refine Walk.cases [([false, false], Ob.box (lbx { l with x := at2 l.x true ((l.x true).take y).1 } r) :: (S1 ++ [Ob.box (wyz ⟨true, y⟩), Ob.box (sqz ((l.x true).take y).1)]), Ob.box (lbx { l with x := at2 l.x true ((l.x true).take y).1 } r) :: (S1 ++ [Ob.box (wyz ⟨true, y⟩), Ob.box (sqz ((l.x true).take y).1)])), ([true, false], Ob.box (lbx { l with x := at2 l.x true ((l.x true).take y).1 } r) :: (S1.set (r 3) (Ob.row ((l.came false).length + ((l.x true).take y).2.1.length) 1) ++ [Ob.box (wyz ⟨true, y⟩), Ob.box (sqz ((l.x true).take y).1)]), Ob.box (lbx { l with x := at2 l.x true ((l.x true).take y).1 } r) :: (S1.set (r 3) (Ob.row ((l.came false).length + ((l.x true).take y).2.1.length) 1) ++ [Ob.box (wyz ⟨true, y⟩), Ob.box (sqz ((l.x true).take y).1)]))] (by rfl) (by kernel_rfl) (rs := [3]) (by rfl) nrSeA0 (fun base => ⟨
        ⟨rfl, rfl, by
          refine n_fieldAddr rfl fd161_0 ti3 rfl nrSeA0 rfl nrSeA0 ?_
          exact AOps.nil ⟨rfl, rfl, rfl⟩⟩,
        ⟨rfl, rfl, by
          refine n_fieldAddr rfl fd161_0 ti3 rfl nrSeA0 rfl nrSeA0 ?_
          exact AOps.nil ⟨rfl, rfl, rfl⟩⟩,
        trivial⟩) ?_
    refine Walk.cases [([false, false], Ob.box (lbx { l with x := at2 l.x true ((l.x true).take y).1 } r) :: (S1 ++ [Ob.box (wyz ⟨true, y⟩), Ob.box (sqz ((l.x true).take y).1)]), Ob.box (lbx { l with x := at2 l.x true ((l.x true).take y).1 } r) :: (S1 ++ [Ob.box (wyz ⟨true, y⟩), Ob.box (sqz ((l.x true).take y).1)])), ([true, false], Ob.box (lbx { l with x := at2 l.x true ((l.x true).take y).1 } r) :: (S1.set (r 3) (Ob.row ((l.came false).length + ((l.x true).take y).2.1.length) 1) ++ [Ob.box (wyz ⟨true, y⟩), Ob.box (sqz ((l.x true).take y).1)]), Ob.box (lbx { l with x := at2 l.x true ((l.x true).take y).1 } r) :: (S1.set (r 3) (Ob.row ((l.came false).length + ((l.x true).take y).2.1.length) 1) ++ [Ob.box (wyz ⟨true, y⟩), Ob.box (sqz ((l.x true).take y).1)]))] (by rfl) (by kernel_rfl) (rs := [30]) (by rfl) nrSeA0 (fun base => ⟨
        ⟨rfl, rfl, by
          refine n_load rfl ti3 nrSeA0 nrSeA0 rfl nrSeA0 ?_
          exact AOps.nil ⟨rfl, rfl, rfl⟩⟩,
        ⟨rfl, rfl, by
          refine n_load rfl ti3 nrSeA0 nrSeA0 rfl nrSeA0 ?_
          exact AOps.nil ⟨rfl, rfl, rfl⟩⟩,
        trivial⟩) ?_
    refine Walk.cases [([false, false], Ob.box (lbx { l with x := at2 l.x true ((l.x true).take y).1 } r) :: (S1 ++ [Ob.box (wyz ⟨true, y⟩), Ob.box (sqz ((l.x true).take y).1)]), Ob.box (lbx { l with x := at2 l.x true ((l.x true).take y).1 } r) :: (S1 ++ [Ob.box (wyz ⟨true, y⟩), Ob.box (sqz ((l.x true).take y).1)])), ([true, false], Ob.box (lbx { l with x := at2 l.x true ((l.x true).take y).1 } r) :: (S1.set (r 3) (Ob.row ((l.came false).length + ((l.x true).take y).2.1.length) 1) ++ [Ob.box (wyz ⟨true, y⟩), Ob.box (sqz ((l.x true).take y).1)]), Ob.box (lbx { l with x := at2 l.x true ((l.x true).take y).1 } r) :: (S1.set (r 3) (Ob.row ((l.came false).length + ((l.x true).take y).2.1.length) 1) ++ [Ob.box (wyz ⟨true, y⟩), Ob.box (sqz ((l.x true).take y).1)]))] (by rfl) (by kernel_rfl) (rs := [31]) (by rfl) nrSeA0 (fun base => ⟨
        ⟨rfl, rfl, by
          refine n_isub (c := 0) rfl nrSeA0 nrSeA0 (by decide) (by decide) (by decide) ?_
          exact AOps.nil ⟨rfl, rfl, rfl⟩⟩,
        ⟨rfl, rfl, by
          refine n_isub (c := 0) rfl nrSeA0 nrSeA0 (by decide) (by decide) (by decide) ?_
          exact AOps.nil ⟨rfl, rfl, rfl⟩⟩,
        trivial⟩) ?_
    refine Walk.cases [([false, false], Ob.box (lbx { l with x := at2 l.x true ((l.x true).take y).1 } r) :: (S1 ++ [Ob.box (wyz ⟨true, y⟩), Ob.box (sqz ((l.x true).take y).1)]), Ob.box (lbx { l with x := at2 l.x true ((l.x true).take y).1 } r) :: (S1 ++ [Ob.box (wyz ⟨true, y⟩), Ob.box (sqz ((l.x true).take y).1)]))] (by rfl) (by kernel_rfl) (rs := [0]) (by rfl) nrSeA0 (fun base => ⟨
        ⟨rfl, rfl, by
          refine n_move rfl nrSeA0 ?_
          exact AOps.nil ⟨rfl, rfl, rfl⟩⟩,
        trivial⟩) ?_
    refine Walk.cases [([false, false], Ob.box (lbx { l with x := at2 l.x true ((l.x true).take y).1 } r) :: (S1 ++ [Ob.box (wyz ⟨true, y⟩), Ob.box (sqz ((l.x true).take y).1)]), Ob.box (lbx { l with x := at2 l.x true ((l.x true).take y).1 } r) :: (S1 ++ [Ob.box (wyz ⟨true, y⟩), Ob.box (sqz ((l.x true).take y).1)]))] (by rfl) (by kernel_rfl) (rs := [3]) (by rfl) nrSeA0 (fun base => ⟨
        ⟨rfl, rfl, by
          refine n_fieldAddr rfl fd161_0 ti3 rfl nrSeA0 rfl nrSeA0 ?_
          exact AOps.nil ⟨rfl, rfl, rfl⟩⟩,
        trivial⟩) ?_
    refine Walk.cases [([false, false], Ob.box (lbx { l with x := at2 l.x true ((l.x true).take y).1 } r) :: (S1 ++ [Ob.box (wyz ⟨true, y⟩), Ob.box (sqz ((l.x true).take y).1)]), Ob.box (lbx { l with x := at2 l.x true ((l.x true).take y).1 } r) :: (S1 ++ [Ob.box (wyz ⟨true, y⟩), Ob.box (sqz ((l.x true).take y).1)]))] (by rfl) (by kernel_rfl) (rs := [34]) (by rfl) nrSeA0 (fun base => ⟨
        ⟨rfl, rfl, by
          refine n_load rfl ti3 nrSeA0 nrSeA0 rfl nrSeA0 ?_
          exact AOps.nil ⟨rfl, rfl, rfl⟩⟩,
        trivial⟩) ?_
    refine Walk.cases [([false, false], Ob.box (lbx { l with x := at2 l.x true ((l.x true).take y).1 } r) :: (S1 ++ [Ob.box (wyz ⟨true, y⟩), Ob.box (sqz ((l.x true).take y).1)]), Ob.box (lbx { l with x := at2 l.x true ((l.x true).take y).1 } r) :: (S1 ++ [Ob.box (wyz ⟨true, y⟩), Ob.box (sqz ((l.x true).take y).1)]))] (by rfl) (by kernel_rfl) (rs := [35]) (by rfl) nrSeA0 (fun base => ⟨
        ⟨rfl, rfl, by
          refine n_isub (c := 0) rfl nrSeA0 nrSeA0 (by decide) (by decide) (by decide) ?_
          exact AOps.nil ⟨rfl, rfl, rfl⟩⟩,
        trivial⟩) ?_
    refine Walk.cases [([false, false], Ob.box (lbx { l with x := at2 l.x true ((l.x true).take y).1 } r) :: (S1 ++ [Ob.box (wyz ⟨true, y⟩), Ob.box (sqz ((l.x true).take y).1)]), Ob.box (lbx { l with x := at2 l.x true ((l.x true).take y).1 } r) :: (S1 ++ [Ob.box (wyz ⟨true, y⟩), Ob.box (sqz ((l.x true).take y).1)]))] (by rfl) (by kernel_rfl) (rs := [33]) (by rfl) nrSeA0 (fun base => ⟨
        ⟨rfl, rfl, by
          refine n_nilCheck rfl nrSeA0 rfl ?_
          exact AOps.nil ⟨rfl, rfl, rfl⟩⟩,
        trivial⟩) ?_
    refine Walk.cases [([false, false], Ob.box (lbx { l with x := at2 l.x true ((l.x true).take y).1 } r) :: (S1 ++ [Ob.box (wyz ⟨true, y⟩), Ob.box (sqz ((l.x true).take y).1)]), Ob.box (lbx { l with x := at2 l.x true ((l.x true).take y).1 } r) :: (S1 ++ [Ob.box (wyz ⟨true, y⟩), Ob.box (sqz ((l.x true).take y).1)]))] (by rfl) (by kernel_rfl) (rs := [37]) (by rfl) nrSeA0 (fun base => ⟨
        ⟨rfl, rfl, by
          refine n_fieldAddr rfl fd149_3 ti147 rfl nrSeA0 rfl nrSeA0 ?_
          exact AOps.nil ⟨rfl, rfl, rfl⟩⟩,
        trivial⟩) ?_
    refine Walk.cases [([false, false], Ob.box (lbx { l with x := at2 l.x true ((l.x true).take y).1 } r) :: (S1 ++ [Ob.box (wyz ⟨true, y⟩), Ob.box (sqz ((l.x true).take y).1)]), Ob.box (lbx { l with x := at2 l.x true ((l.x true).take y).1 } r) :: (S1 ++ [Ob.box (wyz ⟨true, y⟩), Ob.box (sqz ((l.x true).take y).1)]))] (by rfl) (by kernel_rfl) (rs := [38, 36]) (by rfl) nrSeA0 (fun base => ⟨
        ⟨rfl, rfl, by
          refine n_arrAddr (q := 15) rfl Try.underlying147 ti22 nrSeA0 nrSeA0 (by decide) (by decide) rfl ?_
          exact AOps.nil ⟨rfl, rfl, rfl⟩⟩,
        trivial⟩) ?_
    refine Walk.cases [([false, false], Ob.box (lbx { l with x := at2 l.x true ((l.x true).take y).1 } r) :: (S1 ++ [Ob.box (wyz ⟨true, y⟩), Ob.box (sqz ((l.x true).take y).1)]), Ob.box (lbx { l with x := at2 l.x true ((l.x true).take y).1 } r) :: (S1 ++ [Ob.box (wyz ⟨true, y⟩), Ob.box (sqz ((l.x true).take y).1)]))] (by rfl) (by kernel_rfl) (rs := [39]) (by rfl) nrSeA0 (fun base => ⟨
        ⟨rfl, rfl, by
          refine n_load rfl ti22 nrSeA0 nrSeA0 rfl nrSeA0 ?_
          exact AOps.nil ⟨rfl, rfl, rfl⟩⟩,
        trivial⟩) ?_
    refine Walk.cases [([false, false], Ob.box (lbx { l with x := at2 l.x true ((l.x true).take y).1 } r) :: (S1 ++ [Ob.box (wyz ⟨true, y⟩), Ob.box (sqz ((l.x true).take y).1)]), Ob.box (lbx { l with x := at2 l.x true ((l.x true).take y).1 } r) :: (S1 ++ [Ob.box (wyz ⟨true, y⟩), Ob.box (sqz ((l.x true).take y).1)]))] (by rfl) (by kernel_rfl) (rs := [5]) (by rfl) nrSeA0 (fun base => ⟨
        ⟨rfl, rfl, by
          refine n_move rfl nrSeA0 ?_
          exact AOps.nil ⟨rfl, rfl, rfl⟩⟩,
        trivial⟩) ?_
    refine Walk.cases [([false, false], Ob.box (lbx { l with x := at2 l.x true ((l.x true).take y).1 } r) :: (S1 ++ [Ob.box (wyz ⟨true, y⟩), Ob.box (sqz ((l.x true).take y).1)]), Ob.box (lbx { l with x := at2 l.x true ((l.x true).take y).1 } r) :: (S1.set (r 3) (Ob.row ((l.came false).length + ((l.x true).take y).2.1.length) 1) ++ [Ob.box (wyz ⟨true, y⟩), Ob.box (sqz ((l.x true).take y).1)]))] (by rfl) (by kernel_rfl) (rs := [40, 41]) (by rfl) nrSeA0 (fun base => ⟨
        ⟨rfl, rfl, by
          refine n_append_own (zs := ints .u8 (l.came false ++ ((l.x true).take y).2.1)) (m := (l.came false).length + ((l.x true).take y).2.1.length) (S' := Ob.box (lbx { l with x := at2 l.x true ((l.x true).take y).1 } r) :: (S1.set (r 3) (Ob.row ((l.came false).length + ((l.x true).take y).2.1.length) 1) ++ [Ob.box (wyz ⟨true, y⟩), Ob.box (sqz ((l.x true).take y).1)])) rfl Try.underlying22 Try.underlying22 ei5 nrSeA0 (by show (S1 ++ _)[r 3]? = _; exact hr.at (by decide)) (by rw [ints_length]; rfl) nrSeA0 ints_one' ints_one' (ints_append ..) (by rw [ints_length, ints_length]) (by omega) (by exact congrArg (_ :: ·) (List.set_append_left _ _ (hr.lt (by decide)))) ?_
          exact AOps.nil ⟨rfl, rfl, rfl⟩⟩,
        trivial⟩) ?_
    refine Walk.cases [([false, false], Ob.box (lbx { l with x := at2 l.x true ((l.x true).take y).1 } r) :: (S1 ++ [Ob.box (wyz ⟨true, y⟩), Ob.box (sqz ((l.x true).take y).1)]), Ob.box (lbx { l with x := at2 l.x true ((l.x true).take y).1 } r) :: (S1 ++ [Ob.box (wyz ⟨true, y⟩), Ob.box (sqz ((l.x true).take y).1)])), ([true, false], Ob.box (lbx { l with x := at2 l.x true ((l.x true).take y).1 } r) :: (S1.set (r 3) (Ob.row ((l.came false).length + ((l.x true).take y).2.1.length) 1) ++ [Ob.box (wyz ⟨true, y⟩), Ob.box (sqz ((l.x true).take y).1)]), Ob.box (lbx { l with x := at2 l.x true ((l.x true).take y).1 } r) :: (S1.set (r 3) (Ob.row ((l.came false).length + ((l.x true).take y).2.1.length) 1) ++ [Ob.box (wyz ⟨true, y⟩), Ob.box (sqz ((l.x true).take y).1)]))] (by rfl) (by kernel_rfl) (rs := [29]) (by rfl) nrSeA0 (fun base => ⟨
        ⟨rfl, rfl, by
          refine n_nilCheck rfl nrSeA0 rfl ?_
          exact AOps.nil ⟨rfl, rfl, rfl⟩⟩,
        ⟨rfl, rfl, by
          refine n_nilCheck rfl nrSeA0 rfl ?_
          exact AOps.nil ⟨rfl, rfl, rfl⟩⟩,
        trivial⟩) ?_
    refine Walk.cases [([false, false], Ob.box (lbx { l with x := at2 l.x true ((l.x true).take y).1 } r) :: (S1 ++ [Ob.box (wyz ⟨true, y⟩), Ob.box (sqz ((l.x true).take y).1)]), Ob.box (lbx { l with x := at2 l.x true ((l.x true).take y).1 } r) :: (S1 ++ [Ob.box (wyz ⟨true, y⟩), Ob.box (sqz ((l.x true).take y).1)])), ([true, false], Ob.box (lbx { l with x := at2 l.x true ((l.x true).take y).1 } r) :: (S1.set (r 3) (Ob.row ((l.came false).length + ((l.x true).take y).2.1.length) 1) ++ [Ob.box (wyz ⟨true, y⟩), Ob.box (sqz ((l.x true).take y).1)]), Ob.box (lbx { l with x := at2 l.x true ((l.x true).take y).1 } r) :: (S1.set (r 3) (Ob.row ((l.came false).length + ((l.x true).take y).2.1.length) 1) ++ [Ob.box (wyz ⟨true, y⟩), Ob.box (sqz ((l.x true).take y).1)]))] (by rfl) (by kernel_rfl) (rs := [43]) (by rfl) nrSeA0 (fun base => ⟨
        ⟨rfl, rfl, by
          refine n_fieldAddr rfl fd149_3 ti147 rfl nrSeA0 rfl nrSeA0 ?_
          exact AOps.nil ⟨rfl, rfl, rfl⟩⟩,
        ⟨rfl, rfl, by
          refine n_fieldAddr rfl fd149_3 ti147 rfl nrSeA0 rfl nrSeA0 ?_
          exact AOps.nil ⟨rfl, rfl, rfl⟩⟩,
        trivial⟩) ?_
    refine Walk.cases [([true, false], Ob.box (lbx { l with x := at2 l.x true ((l.x true).take y).1 } r) :: (S1.set (r 3) (Ob.row ((l.came false).length + ((l.x true).take y).2.1.length) 1) ++ [Ob.box (wyz ⟨true, y⟩), Ob.box (sqz ((l.x true).take y).1)]), Ob.box (lbx { l with x := at2 l.x true ((l.x true).take y).1 } r) :: (S1.set (r 3) (Ob.row ((l.came false).length + ((l.x true).take y).2.1.length) 1) ++ [Ob.box (wyz ⟨true, y⟩), Ob.box (sqz ((l.x true).take y).1)]))] (by rfl) (by kernel_rfl) (rs := [44, 32]) (by rfl) nrSeA0 (fun base => ⟨
        ⟨rfl, rfl, by
          refine n_arrAddr (q := 15) rfl Try.underlying147 ti22 nrSeA0 nrSeA0 (by decide) (by decide) rfl ?_
          exact AOps.nil ⟨rfl, rfl, rfl⟩⟩,
        trivial⟩) ?_
    refine Walk.cases (d := .any) [([true, false], Ob.box (lbx { l with x := at2 l.x true ((l.x true).take y).1 } r) :: (S1.set (r 3) (Ob.row ((l.came false).length + ((l.x true).take y).2.1.length) 1) ++ [Ob.box (wyz ⟨true, y⟩), Ob.box (sqz ((l.x true).take y).1)]), Ob.box (lbx { l with x := at2 l.x true ((l.x true).take y).1, came := at2 l.came false ((l.came false) ++ ((l.x true).take y).2.1) } r) :: (S1.set (r 3) (Ob.row ((l.came false).length + ((l.x true).take y).2.1.length) 1) ++ [Ob.box (wyz ⟨true, y⟩), Ob.box (sqz ((l.x true).take y).1)]))] (by rfl) (by kernel_rfl) (rs := [45, 42]) (by rfl) nrSeA0 (fun base => ⟨
        ⟨rfl, rfl, by
          refine n_store ti22 nrSeA0 nrSeA0 nrSeA0 rfl nrSeA0 rfl rfl rfl nrSeA0 ?_
          exact AOps.nil ⟨rfl, rfl, rfl⟩⟩,
        trivial⟩) ?_
    refine Walk.done ?_
    refine finK_normal .nil nrSeA0 ?_
    rw [hz] at hK
    first
    | exact hK r _ (Rw.app (Rw.set hr (k := 3) (by decide) (Prod.ext (List.length_append ..) rfl) (fun j hj hne => by rcases j with _ | _ | _ | _ | _ | j <;> first | rfl | exact absurd rfl hne | omega)))
    | exact hK r _ (Rw.same (Rw.app hr) (fun j hj => by rcases j with _ | _ | _ | _ | _ | j <;> first | rfl | omega))
  · try simp only [nh] at hc1
    have hz : l.takes ⟨true, y⟩ = { l with x := at2 l.x true ((l.x true).take y).1 } := by unfold Ln.takes; rw [if_neg (by intro q; have q2 := hc1; simp_all)]
    refine AWP.skip ?_
    refine finK_normal .nil nrSeA0 ?_
    rw [hz] at hK
    first
    | exact hK r _ (Rw.app (Rw.set hr (k := 3) (by decide) (Prod.ext (List.length_append ..) rfl) (fun j hj hne => by rcases j with _ | _ | _ | _ | _ | j <;> first | rfl | exact absurd rfl hne | omega)))
    | exact hK r _ (Rw.same (Rw.app hr) (fun j hj => by rcases j with _ | _ | _ | _ | _ | j <;> first | rfl | omega))

theorem takes_any (l : Ln) (r : Nat → Nat) (S1 : List Ob) (hr : Rw l r S1) (hg : Gd l) (w : Wy) (hy : w.p.chk = 0) (K : D → List Ob → Prop) (hK : ∀ r S2, Rw (l.takes w) r S2 → K (.tup []) (.box (lbx (l.takes w) r) :: S2)) : DoesK Try.prog 113 [.bp 0 0, .agg (wyz w)] (.box (lbx l r) :: S1) K := by
  rcases w with ⟨t, y⟩
  cases t
  · exact takes_0 l r S1 hr hg y hy K hK
  · exact takes_1 l r S1 hr hg y hy K hK
theorem l_sendA (x : Sq) (hx : x.Ok) (hs : x.s < 9007199254740992) (v : Int) : ∃ z y e, Does Try.prog 208 [.agg (sqz x), bys [v]] [] (.tup [.agg (sqz z), .agg (pqz y), vi e]) [] ∧ ((x.q.length < 16 ∧ z = x.send [v] ∧ y = x.pk (x.s + 1) [v] ∧ e = 0) ∨ (¬ x.q.length < 16 ∧ e = 230)) := by
  by_cases h : x.q.length < 16
  · exact ⟨_, _, _, l_sendQ x hx [v] (by simp) h hs, .inl ⟨h, rfl, rfl, rfl⟩⟩
  · exact ⟨_, _, _, l_sendF x hx [v] (by simp) h, .inr ⟨h, rfl⟩⟩
theorem w_cloneL (ws : List Wy) (h0 : 0 < ws.length) (hl : ws.length ≤ 100000) (C : Cap) (B0 : Ob) (S1 : List Ob) (NB : Ob) (K : D → List Ob → Prop) (hK : ∀ cap, ws.length ≤ cap → K (.bq (S1.length + 2) 0 ws.length cap) (B0 :: (S1 ++ [NB, .box (fw ws ++ List.replicate ((cap - ws.length) * 6) D.any)]))) : DoesK Try.prog 211 [.sl none (ws.map wyz) C] (B0 :: (S1 ++ [NB])) K := by
  refine w_cloneK ws h0 hl C _ (S1.length + 2) (by simp) K (fun cap hcap => ?_)
  have := hK cap hcap
  simpa using this
theorem del_L (ws : List Wy) (i : Nat) (hi : i < ws.length) (hn : ws.length ≤ 100000) (cap : Nat) (hcap : ws.length ≤ cap) (B0 : Ob) (S1 : List Ob) (NB : Ob) (K : D → List Ob → Prop) (hK : K (.bq (S1.length + 2) 0 (ws.length - 1) cap) (B0 :: (S1 ++ [NB, .box (fw (ws.eraseIdx i) ++ (z6 ++ List.replicate ((cap - ws.length) * 6) D.any))]))) : DoesK Try.prog 210 [.bq (S1.length + 2) 0 ws.length cap, vi (i : Int), vi ((i : Int) + 1)] (B0 :: (S1 ++ [NB, .box (fw ws ++ List.replicate ((cap - ws.length) * 6) D.any)])) K := by
  have hR : cap * 6 = ws.length * 6 + (List.replicate ((cap - ws.length) * 6) D.any).length := by rw [List.length_replicate]; omega
  have hat : (B0 :: (S1 ++ [NB, .box (fw ws ++ List.replicate ((cap - ws.length) * 6) D.any)]))[S1.length + 2]? = some (.box (fw ws ++ List.replicate ((cap - ws.length) * 6) D.any)) := by
    show (S1 ++ _)[S1.length + 1]? = _
    rw [List.getElem?_append_right (by omega), Nat.add_sub_cancel_left]; rfl
  have hset : (B0 :: (S1 ++ [NB, .box (fw ws ++ List.replicate ((cap - ws.length) * 6) D.any)])).set (S1.length + 2) (.box (fw (ws.eraseIdx i) ++ (z6 ++ List.replicate ((cap - ws.length) * 6) D.any))) = B0 :: (S1 ++ [NB, .box (fw (ws.eraseIdx i) ++ (z6 ++ List.replicate ((cap - ws.length) * 6) D.any))]) := by
    show B0 :: (S1 ++ _).set (S1.length + 1) _ = _
    rw [List.set_append_right _ _ (by omega), Nat.add_sub_cancel_left]; rfl
  rw [← hset] at hK
  by_cases h : i + 1 < ws.length
  · exact del_mid ws i h hn cap hcap _ _ _ hR hat K hK
  · exact del_end ws i (by omega) hn cap hcap _ _ _ hR hat K hK
theorem rem_at {m : Int} {k : Nat} (h : 0 ≤ m) : m.tmod (k : Int) = ((m.toNat % k : Nat) : Int) := by
  rw [Int.tmod_eq_emod_of_nonneg h, Int.natCast_emod, Int.toNat_of_nonneg h]
set_option maxHeartbeats 4000000 in
theorem does_0 (l : Ln) (r : Nat → Nat) (S1 : List Ob) (hr : Rw l r S1) (hg : Gd l) (d m v : Int) (hn : (0 ≤ m ∧ m ≤ 65535) ∧ (0 ≤ v ∧ v ≤ 255)) (K : D → List Ob → Prop) (hK : ∀ r S2, Rw (l.does (⟨d, false, m, v⟩ : Nt)) r S2 → K (.tup []) (.box (lbx (l.does (⟨d, false, m, v⟩ : Nt)) r) :: S2)) : DoesK Try.prog 110 [.bp 0 0, .agg [vi d, vb false, .val (.int .u16 m), .val (.int .u8 v)]] (Ob.box (lbx l r) :: S1) K := by
  refine DoesK.of_body (rvs := []) Try.func110 rfl rfl rfl rfl ?_
  obtain ⟨z, y, e, hsend, hcase⟩ := l_sendA (l.x false) (hg.ok false) (hg.lt false) v
  have hans := l_answerQ (l.x false) (hg.ok false)
  have hres := resent (l.x false) (hg.ok false)
  have hal := ((l.x false)).again_len
  have hm16 := (hg.ok false).m
  have hsn := hg.sn false
  have hbl := hg.bl
  refine AWP.seq ?_
  refine AWP.region ?_
  refine n_box rfl nrSeA0 rfl rfl nrSeA0 nrSeA0 ?_
  refine AOps.nil ?_
  refine AWP.seq ?_
  refine AWP.region ?_
  refine n_assign rfl nrSeA0 ?_
  refine AOps.nil ?_
  refine AWP.seq ?_
  refine AWP.seq ?_
  refine AWP.region ?_
  refine n_fieldAddr rfl fd151_1 ti4 rfl nrSeA0 rfl nrSeA0 ?_
  refine n_load rfl ti4 nrSeA0 nrSeA0 rfl nrSeA0 ?_
  refine AOps.nil ?_
  refine AWP.cond_false nrSeA0 ?_
  refine AWP.skip ?_
  refine AWP.seq ?_
  refine AWP.region ?_
  refine n_fieldAddr rfl fd151_0 ti3 rfl nrSeA0 rfl nrSeA0 ?_
  refine n_load rfl ti3 nrSeA0 nrSeA0 rfl nrSeA0 ?_
  refine AOps.nil ?_
  refine AWP.block ?_
  refine AWP.seq ?_
  refine AWP.region ?_
  refine n_ibin rfl nrSeA0 nrSeA0 rfl ?_
  refine n_assign rfl nrSeA0 ?_
  refine AOps.nil ?_
  refine AWP.cond nrSeA0 (fun hc2 => ?_) (fun hc2 => ?_)
  · try simp only [nh] at hc2
    have hd0 := hc2
    refine AWP.seq ?_
    refine AWP.reserve _ nrSeA0 ?_
    refine AWP.reserve _ nrSeA0 ?_
    refine AWP.anyT [14, 15, 16, 17] (fun p => match p with | [false, false, false, false] => Ob.box (lbx l r) :: (S1 ++ [Ob.box (ntz ⟨d, false, m, v⟩), Ob.dead, Ob.dead]) | [false, false, false, true] => Ob.box (lbx l r) :: (S1 ++ [Ob.box (ntz ⟨d, false, m, v⟩), Ob.dead, Ob.dead]) | [false, false, true, false] => Ob.box (lbx l r) :: (S1 ++ [Ob.box (ntz ⟨d, false, m, v⟩), Ob.dead, Ob.dead]) | [false, false, true, true] => Ob.box (lbx l r) :: (S1 ++ [Ob.box (ntz ⟨d, false, m, v⟩), Ob.dead, Ob.dead]) | [false, true, false, false] => Ob.box (lbx l r) :: (S1 ++ [Ob.box (ntz ⟨d, false, m, v⟩), Ob.dead, Ob.box z5]) | [false, true, false, true] => Ob.box (lbx l r) :: (S1 ++ [Ob.box (ntz ⟨d, false, m, v⟩), Ob.dead, Ob.box (pqz y)]) | [false, true, true, false] => Ob.box (lbx l r) :: (S1 ++ [Ob.box (ntz ⟨d, false, m, v⟩), Ob.dead, Ob.box z5]) | [false, true, true, true] => Ob.box (lbx l r) :: (S1 ++ [Ob.box (ntz ⟨d, false, m, v⟩), Ob.dead, Ob.box (pqz y)]) | [true, false, false, false] => Ob.box (lbx l r) :: (S1 ++ [Ob.box (ntz ⟨d, false, m, v⟩), Ob.box z6, Ob.dead]) | [true, false, false, true] => Ob.box (lbx l r) :: (S1 ++ [Ob.box (ntz ⟨d, false, m, v⟩), Ob.box z6, Ob.dead]) | [true, false, true, false] => Ob.box (lbx l r) :: (S1 ++ [Ob.box (ntz ⟨d, false, m, v⟩), Ob.box (sqz z), Ob.dead]) | [true, false, true, true] => Ob.box (lbx l r) :: (S1 ++ [Ob.box (ntz ⟨d, false, m, v⟩), Ob.box (sqz z), Ob.dead]) | [true, true, false, false] => Ob.box (lbx l r) :: (S1 ++ [Ob.box (ntz ⟨d, false, m, v⟩), Ob.box z6, Ob.box z5]) | [true, true, false, true] => Ob.box (lbx l r) :: (S1 ++ [Ob.box (ntz ⟨d, false, m, v⟩), Ob.box z6, Ob.box (pqz y)]) | [true, true, true, false] => Ob.box (lbx l r) :: (S1 ++ [Ob.box (ntz ⟨d, false, m, v⟩), Ob.box (sqz z), Ob.box z5]) | [true, true, true, true] => Ob.box (lbx l r) :: (S1 ++ [Ob.box (ntz ⟨d, false, m, v⟩), Ob.box (sqz z), Ob.box (pqz y)]) | _ => []) (by kernel_rfl) (by kernel_rfl) rfl rfl ?_
    refine Walk.cases [([false, false, false, false], Ob.box (lbx l r) :: (S1 ++ [Ob.box (ntz ⟨d, false, m, v⟩), Ob.dead, Ob.dead]), Ob.box (lbx l r) :: (S1 ++ [Ob.box (ntz ⟨d, false, m, v⟩), Ob.dead, Ob.dead])), ([false, true, false, false], Ob.box (lbx l r) :: (S1 ++ [Ob.box (ntz ⟨d, false, m, v⟩), Ob.dead, Ob.box z5]), Ob.box (lbx l r) :: (S1 ++ [Ob.box (ntz ⟨d, false, m, v⟩), Ob.dead, Ob.box z5])), ([true, false, false, false], Ob.box (lbx l r) :: (S1 ++ [Ob.box (ntz ⟨d, false, m, v⟩), Ob.box z6, Ob.dead]), Ob.box (lbx l r) :: (S1 ++ [Ob.box (ntz ⟨d, false, m, v⟩), Ob.box z6, Ob.dead])), ([true, true, false, false], Ob.box (lbx l r) :: (S1 ++ [Ob.box (ntz ⟨d, false, m, v⟩), Ob.box z6, Ob.box z5]), Ob.box (lbx l r) :: (S1 ++ [Ob.box (ntz ⟨d, false, m, v⟩), Ob.box z6, Ob.box z5]))] (by rfl) (by kernel_rfl) (rs := [0]) (by rfl) nrSeA0 (fun base => ⟨
        ⟨rfl, rfl, by
          refine n_move rfl nrSeA0 ?_
          exact AOps.nil ⟨rfl, rfl, rfl⟩⟩,
        ⟨rfl, rfl, by
          refine n_move rfl nrSeA0 ?_
          exact AOps.nil ⟨rfl, rfl, rfl⟩⟩,
        ⟨rfl, rfl, by
          refine n_move rfl nrSeA0 ?_
          exact AOps.nil ⟨rfl, rfl, rfl⟩⟩,
        ⟨rfl, rfl, by
          refine n_move rfl nrSeA0 ?_
          exact AOps.nil ⟨rfl, rfl, rfl⟩⟩,
        trivial⟩) ?_
    refine Walk.cases [([false, false, false, false], Ob.box (lbx l r) :: (S1 ++ [Ob.box (ntz ⟨d, false, m, v⟩), Ob.dead, Ob.dead]), Ob.box (lbx l r) :: (S1 ++ [Ob.box (ntz ⟨d, false, m, v⟩), Ob.dead, Ob.dead])), ([false, true, false, false], Ob.box (lbx l r) :: (S1 ++ [Ob.box (ntz ⟨d, false, m, v⟩), Ob.dead, Ob.box z5]), Ob.box (lbx l r) :: (S1 ++ [Ob.box (ntz ⟨d, false, m, v⟩), Ob.dead, Ob.box z5])), ([true, false, false, false], Ob.box (lbx l r) :: (S1 ++ [Ob.box (ntz ⟨d, false, m, v⟩), Ob.box z6, Ob.dead]), Ob.box (lbx l r) :: (S1 ++ [Ob.box (ntz ⟨d, false, m, v⟩), Ob.box z6, Ob.dead])), ([true, true, false, false], Ob.box (lbx l r) :: (S1 ++ [Ob.box (ntz ⟨d, false, m, v⟩), Ob.box z6, Ob.box z5]), Ob.box (lbx l r) :: (S1 ++ [Ob.box (ntz ⟨d, false, m, v⟩), Ob.box z6, Ob.box z5]))] (by rfl) (by kernel_rfl) (rs := [4]) (by rfl) nrSeA0 (fun base => ⟨
        ⟨rfl, rfl, by
          refine n_move rfl nrSeA0 ?_
          exact AOps.nil ⟨rfl, rfl, rfl⟩⟩,
        ⟨rfl, rfl, by
          refine n_move rfl nrSeA0 ?_
          exact AOps.nil ⟨rfl, rfl, rfl⟩⟩,
        ⟨rfl, rfl, by
          refine n_move rfl nrSeA0 ?_
          exact AOps.nil ⟨rfl, rfl, rfl⟩⟩,
        ⟨rfl, rfl, by
          refine n_move rfl nrSeA0 ?_
          exact AOps.nil ⟨rfl, rfl, rfl⟩⟩,
        trivial⟩) ?_
    refine Walk.cases [([false, false, false, false], Ob.box (lbx l r) :: (S1 ++ [Ob.box (ntz ⟨d, false, m, v⟩), Ob.dead, Ob.dead]), Ob.box (lbx l r) :: (S1 ++ [Ob.box (ntz ⟨d, false, m, v⟩), Ob.dead, Ob.dead])), ([false, true, false, false], Ob.box (lbx l r) :: (S1 ++ [Ob.box (ntz ⟨d, false, m, v⟩), Ob.dead, Ob.box z5]), Ob.box (lbx l r) :: (S1 ++ [Ob.box (ntz ⟨d, false, m, v⟩), Ob.dead, Ob.box z5])), ([true, false, false, false], Ob.box (lbx l r) :: (S1 ++ [Ob.box (ntz ⟨d, false, m, v⟩), Ob.box z6, Ob.dead]), Ob.box (lbx l r) :: (S1 ++ [Ob.box (ntz ⟨d, false, m, v⟩), Ob.box z6, Ob.dead])), ([true, true, false, false], Ob.box (lbx l r) :: (S1 ++ [Ob.box (ntz ⟨d, false, m, v⟩), Ob.box z6, Ob.box z5]), Ob.box (lbx l r) :: (S1 ++ [Ob.box (ntz ⟨d, false, m, v⟩), Ob.box z6, Ob.box z5]))] (by rfl) (by kernel_rfl) (rs := [45]) (by rfl) nrSeA0 (fun base => ⟨
        ⟨rfl, rfl, by
          refine n_nilCheck rfl nrSeA0 rfl ?_
          exact AOps.nil ⟨rfl, rfl, rfl⟩⟩,
        ⟨rfl, rfl, by
          refine n_nilCheck rfl nrSeA0 rfl ?_
          exact AOps.nil ⟨rfl, rfl, rfl⟩⟩,
        ⟨rfl, rfl, by
          refine n_nilCheck rfl nrSeA0 rfl ?_
          exact AOps.nil ⟨rfl, rfl, rfl⟩⟩,
        ⟨rfl, rfl, by
          refine n_nilCheck rfl nrSeA0 rfl ?_
          exact AOps.nil ⟨rfl, rfl, rfl⟩⟩,
        trivial⟩) ?_
    refine Walk.cases [([false, false, false, false], Ob.box (lbx l r) :: (S1 ++ [Ob.box (ntz ⟨d, false, m, v⟩), Ob.dead, Ob.dead]), Ob.box (lbx l r) :: (S1 ++ [Ob.box (ntz ⟨d, false, m, v⟩), Ob.dead, Ob.dead])), ([false, true, false, false], Ob.box (lbx l r) :: (S1 ++ [Ob.box (ntz ⟨d, false, m, v⟩), Ob.dead, Ob.box z5]), Ob.box (lbx l r) :: (S1 ++ [Ob.box (ntz ⟨d, false, m, v⟩), Ob.dead, Ob.box z5])), ([true, false, false, false], Ob.box (lbx l r) :: (S1 ++ [Ob.box (ntz ⟨d, false, m, v⟩), Ob.box z6, Ob.dead]), Ob.box (lbx l r) :: (S1 ++ [Ob.box (ntz ⟨d, false, m, v⟩), Ob.box z6, Ob.dead])), ([true, true, false, false], Ob.box (lbx l r) :: (S1 ++ [Ob.box (ntz ⟨d, false, m, v⟩), Ob.box z6, Ob.box z5]), Ob.box (lbx l r) :: (S1 ++ [Ob.box (ntz ⟨d, false, m, v⟩), Ob.box z6, Ob.box z5]))] (by rfl) (by kernel_rfl) (rs := [47]) (by rfl) nrSeA0 (fun base => ⟨
        ⟨rfl, rfl, by
          refine n_fieldAddr rfl fd149_0 ti145 rfl nrSeA0 rfl nrSeA0 ?_
          exact AOps.nil ⟨rfl, rfl, rfl⟩⟩,
        ⟨rfl, rfl, by
          refine n_fieldAddr rfl fd149_0 ti145 rfl nrSeA0 rfl nrSeA0 ?_
          exact AOps.nil ⟨rfl, rfl, rfl⟩⟩,
        ⟨rfl, rfl, by
          refine n_fieldAddr rfl fd149_0 ti145 rfl nrSeA0 rfl nrSeA0 ?_
          exact AOps.nil ⟨rfl, rfl, rfl⟩⟩,
        ⟨rfl, rfl, by
          refine n_fieldAddr rfl fd149_0 ti145 rfl nrSeA0 rfl nrSeA0 ?_
          exact AOps.nil ⟨rfl, rfl, rfl⟩⟩,
        trivial⟩) ?_
    refine Walk.cases [([false, false, false, false], Ob.box (lbx l r) :: (S1 ++ [Ob.box (ntz ⟨d, false, m, v⟩), Ob.dead, Ob.dead]), Ob.box (lbx l r) :: (S1 ++ [Ob.box (ntz ⟨d, false, m, v⟩), Ob.dead, Ob.dead])), ([false, true, false, false], Ob.box (lbx l r) :: (S1 ++ [Ob.box (ntz ⟨d, false, m, v⟩), Ob.dead, Ob.box z5]), Ob.box (lbx l r) :: (S1 ++ [Ob.box (ntz ⟨d, false, m, v⟩), Ob.dead, Ob.box z5])), ([true, false, false, false], Ob.box (lbx l r) :: (S1 ++ [Ob.box (ntz ⟨d, false, m, v⟩), Ob.box z6, Ob.dead]), Ob.box (lbx l r) :: (S1 ++ [Ob.box (ntz ⟨d, false, m, v⟩), Ob.box z6, Ob.dead])), ([true, true, false, false], Ob.box (lbx l r) :: (S1 ++ [Ob.box (ntz ⟨d, false, m, v⟩), Ob.box z6, Ob.box z5]), Ob.box (lbx l r) :: (S1 ++ [Ob.box (ntz ⟨d, false, m, v⟩), Ob.box z6, Ob.box z5]))] (by rfl) (by kernel_rfl) (rs := [48, 46]) (by rfl) nrSeA0 (fun base => ⟨
        ⟨rfl, rfl, by
          refine n_arrAddr (q := 0) rfl Try.underlying145 ti141 nrSeA0 nrSeA0 (by decide) (by decide) rfl ?_
          exact AOps.nil ⟨rfl, rfl, rfl⟩⟩,
        ⟨rfl, rfl, by
          refine n_arrAddr (q := 0) rfl Try.underlying145 ti141 nrSeA0 nrSeA0 (by decide) (by decide) rfl ?_
          exact AOps.nil ⟨rfl, rfl, rfl⟩⟩,
        ⟨rfl, rfl, by
          refine n_arrAddr (q := 0) rfl Try.underlying145 ti141 nrSeA0 nrSeA0 (by decide) (by decide) rfl ?_
          exact AOps.nil ⟨rfl, rfl, rfl⟩⟩,
        ⟨rfl, rfl, by
          refine n_arrAddr (q := 0) rfl Try.underlying145 ti141 nrSeA0 nrSeA0 (by decide) (by decide) rfl ?_
          exact AOps.nil ⟨rfl, rfl, rfl⟩⟩,
        trivial⟩) ?_
    refine Walk.cases [([false, false, false, false], Ob.box (lbx l r) :: (S1 ++ [Ob.box (ntz ⟨d, false, m, v⟩), Ob.dead, Ob.dead]), Ob.box (lbx l r) :: (S1 ++ [Ob.box (ntz ⟨d, false, m, v⟩), Ob.dead, Ob.dead])), ([false, true, false, false], Ob.box (lbx l r) :: (S1 ++ [Ob.box (ntz ⟨d, false, m, v⟩), Ob.dead, Ob.box z5]), Ob.box (lbx l r) :: (S1 ++ [Ob.box (ntz ⟨d, false, m, v⟩), Ob.dead, Ob.box z5])), ([true, false, false, false], Ob.box (lbx l r) :: (S1 ++ [Ob.box (ntz ⟨d, false, m, v⟩), Ob.box z6, Ob.dead]), Ob.box (lbx l r) :: (S1 ++ [Ob.box (ntz ⟨d, false, m, v⟩), Ob.box z6, Ob.dead])), ([true, true, false, false], Ob.box (lbx l r) :: (S1 ++ [Ob.box (ntz ⟨d, false, m, v⟩), Ob.box z6, Ob.box z5]), Ob.box (lbx l r) :: (S1 ++ [Ob.box (ntz ⟨d, false, m, v⟩), Ob.box z6, Ob.box z5]))] (by rfl) (by kernel_rfl) (rs := [49]) (by rfl) nrSeA0 (fun base => ⟨
        ⟨rfl, rfl, by
          refine n_load rfl ti141 nrSeA0 nrSeA0 rfl nrSeA0 ?_
          exact AOps.nil ⟨rfl, rfl, rfl⟩⟩,
        ⟨rfl, rfl, by
          refine n_load rfl ti141 nrSeA0 nrSeA0 rfl nrSeA0 ?_
          exact AOps.nil ⟨rfl, rfl, rfl⟩⟩,
        ⟨rfl, rfl, by
          refine n_load rfl ti141 nrSeA0 nrSeA0 rfl nrSeA0 ?_
          exact AOps.nil ⟨rfl, rfl, rfl⟩⟩,
        ⟨rfl, rfl, by
          refine n_load rfl ti141 nrSeA0 nrSeA0 rfl nrSeA0 ?_
          exact AOps.nil ⟨rfl, rfl, rfl⟩⟩,
        trivial⟩) ?_
    refine Walk.cases [([false, false, false, false], Ob.box (lbx l r) :: (S1 ++ [Ob.box (ntz ⟨d, false, m, v⟩), Ob.dead, Ob.dead]), Ob.box (lbx l r) :: (S1 ++ [Ob.box (ntz ⟨d, false, m, v⟩), Ob.dead, Ob.dead])), ([false, true, false, false], Ob.box (lbx l r) :: (S1 ++ [Ob.box (ntz ⟨d, false, m, v⟩), Ob.dead, Ob.box z5]), Ob.box (lbx l r) :: (S1 ++ [Ob.box (ntz ⟨d, false, m, v⟩), Ob.dead, Ob.box z5])), ([true, false, false, false], Ob.box (lbx l r) :: (S1 ++ [Ob.box (ntz ⟨d, false, m, v⟩), Ob.box z6, Ob.dead]), Ob.box (lbx l r) :: (S1 ++ [Ob.box (ntz ⟨d, false, m, v⟩), Ob.box z6, Ob.dead])), ([true, true, false, false], Ob.box (lbx l r) :: (S1 ++ [Ob.box (ntz ⟨d, false, m, v⟩), Ob.box z6, Ob.box z5]), Ob.box (lbx l r) :: (S1 ++ [Ob.box (ntz ⟨d, false, m, v⟩), Ob.box z6, Ob.box z5]))] (by rfl) (by kernel_rfl) (rs := [3]) (by rfl) nrSeA0 (fun base => ⟨
        ⟨rfl, rfl, by
          refine n_fieldAddr rfl fd151_3 ti5 rfl nrSeA0 rfl nrSeA0 ?_
          exact AOps.nil ⟨rfl, rfl, rfl⟩⟩,
        ⟨rfl, rfl, by
          refine n_fieldAddr rfl fd151_3 ti5 rfl nrSeA0 rfl nrSeA0 ?_
          exact AOps.nil ⟨rfl, rfl, rfl⟩⟩,
        ⟨rfl, rfl, by
          refine n_fieldAddr rfl fd151_3 ti5 rfl nrSeA0 rfl nrSeA0 ?_
          exact AOps.nil ⟨rfl, rfl, rfl⟩⟩,
        ⟨rfl, rfl, by
          refine n_fieldAddr rfl fd151_3 ti5 rfl nrSeA0 rfl nrSeA0 ?_
          exact AOps.nil ⟨rfl, rfl, rfl⟩⟩,
        trivial⟩) ?_
    refine Walk.cases [([false, false, false, false], Ob.box (lbx l r) :: (S1 ++ [Ob.box (ntz ⟨d, false, m, v⟩), Ob.dead, Ob.dead]), Ob.box (lbx l r) :: (S1 ++ [Ob.box (ntz ⟨d, false, m, v⟩), Ob.dead, Ob.dead])), ([false, true, false, false], Ob.box (lbx l r) :: (S1 ++ [Ob.box (ntz ⟨d, false, m, v⟩), Ob.dead, Ob.box z5]), Ob.box (lbx l r) :: (S1 ++ [Ob.box (ntz ⟨d, false, m, v⟩), Ob.dead, Ob.box z5])), ([true, false, false, false], Ob.box (lbx l r) :: (S1 ++ [Ob.box (ntz ⟨d, false, m, v⟩), Ob.box z6, Ob.dead]), Ob.box (lbx l r) :: (S1 ++ [Ob.box (ntz ⟨d, false, m, v⟩), Ob.box z6, Ob.dead])), ([true, true, false, false], Ob.box (lbx l r) :: (S1 ++ [Ob.box (ntz ⟨d, false, m, v⟩), Ob.box z6, Ob.box z5]), Ob.box (lbx l r) :: (S1 ++ [Ob.box (ntz ⟨d, false, m, v⟩), Ob.box z6, Ob.box z5]))] (by rfl) (by kernel_rfl) (rs := [51]) (by rfl) nrSeA0 (fun base => ⟨
        ⟨rfl, rfl, by
          refine n_load rfl ti5 nrSeA0 nrSeA0 rfl nrSeA0 ?_
          exact AOps.nil ⟨rfl, rfl, rfl⟩⟩,
        ⟨rfl, rfl, by
          refine n_load rfl ti5 nrSeA0 nrSeA0 rfl nrSeA0 ?_
          exact AOps.nil ⟨rfl, rfl, rfl⟩⟩,
        ⟨rfl, rfl, by
          refine n_load rfl ti5 nrSeA0 nrSeA0 rfl nrSeA0 ?_
          exact AOps.nil ⟨rfl, rfl, rfl⟩⟩,
        ⟨rfl, rfl, by
          refine n_load rfl ti5 nrSeA0 nrSeA0 rfl nrSeA0 ?_
          exact AOps.nil ⟨rfl, rfl, rfl⟩⟩,
        trivial⟩) ?_
    refine Walk.cases [([false, false, false, false], Ob.box (lbx l r) :: (S1 ++ [Ob.box (ntz ⟨d, false, m, v⟩), Ob.dead, Ob.dead]), Ob.box (lbx l r) :: (S1 ++ [Ob.box (ntz ⟨d, false, m, v⟩), Ob.dead, Ob.dead])), ([false, true, false, false], Ob.box (lbx l r) :: (S1 ++ [Ob.box (ntz ⟨d, false, m, v⟩), Ob.dead, Ob.box z5]), Ob.box (lbx l r) :: (S1 ++ [Ob.box (ntz ⟨d, false, m, v⟩), Ob.dead, Ob.box z5])), ([true, false, false, false], Ob.box (lbx l r) :: (S1 ++ [Ob.box (ntz ⟨d, false, m, v⟩), Ob.box z6, Ob.dead]), Ob.box (lbx l r) :: (S1 ++ [Ob.box (ntz ⟨d, false, m, v⟩), Ob.box z6, Ob.dead])), ([true, true, false, false], Ob.box (lbx l r) :: (S1 ++ [Ob.box (ntz ⟨d, false, m, v⟩), Ob.box z6, Ob.box z5]), Ob.box (lbx l r) :: (S1 ++ [Ob.box (ntz ⟨d, false, m, v⟩), Ob.box z6, Ob.box z5]))] (by rfl) (by kernel_rfl) (rs := [52]) (by rfl) nrSeA0 (fun base => ⟨
        ⟨rfl, rfl, by
          refine n_lit rfl Try.underlying22 ti5 zi5 rfl rfl (Eq.trans (by simp only [nl] <;> rfl) nrSeA0) rfl nrSeA0 ?_
          exact AOps.nil ⟨rfl, rfl, rfl⟩⟩,
        ⟨rfl, rfl, by
          refine n_lit rfl Try.underlying22 ti5 zi5 rfl rfl (Eq.trans (by simp only [nl] <;> rfl) nrSeA0) rfl nrSeA0 ?_
          exact AOps.nil ⟨rfl, rfl, rfl⟩⟩,
        ⟨rfl, rfl, by
          refine n_lit rfl Try.underlying22 ti5 zi5 rfl rfl (Eq.trans (by simp only [nl] <;> rfl) nrSeA0) rfl nrSeA0 ?_
          exact AOps.nil ⟨rfl, rfl, rfl⟩⟩,
        ⟨rfl, rfl, by
          refine n_lit rfl Try.underlying22 ti5 zi5 rfl rfl (Eq.trans (by simp only [nl] <;> rfl) nrSeA0) rfl nrSeA0 ?_
          exact AOps.nil ⟨rfl, rfl, rfl⟩⟩,
        trivial⟩) ?_
    refine Walk.cases [([false, false, false, false], Ob.box (lbx l r) :: (S1 ++ [Ob.box (ntz ⟨d, false, m, v⟩), Ob.dead, Ob.dead]), Ob.box (lbx l r) :: (S1 ++ [Ob.box (ntz ⟨d, false, m, v⟩), Ob.dead, Ob.dead])), ([false, true, false, false], Ob.box (lbx l r) :: (S1 ++ [Ob.box (ntz ⟨d, false, m, v⟩), Ob.dead, Ob.box z5]), Ob.box (lbx l r) :: (S1 ++ [Ob.box (ntz ⟨d, false, m, v⟩), Ob.dead, Ob.box z5])), ([true, false, false, false], Ob.box (lbx l r) :: (S1 ++ [Ob.box (ntz ⟨d, false, m, v⟩), Ob.box z6, Ob.dead]), Ob.box (lbx l r) :: (S1 ++ [Ob.box (ntz ⟨d, false, m, v⟩), Ob.box z6, Ob.dead])), ([true, true, false, false], Ob.box (lbx l r) :: (S1 ++ [Ob.box (ntz ⟨d, false, m, v⟩), Ob.box z6, Ob.box z5]), Ob.box (lbx l r) :: (S1 ++ [Ob.box (ntz ⟨d, false, m, v⟩), Ob.box z6, Ob.box z5]))] (by rfl) (by kernel_rfl) (rs := [50, 53]) (by rfl) nrSeA0 (fun base => ⟨
        ⟨rfl, rfl, by
          refine n_call0B rfl cf208 rfl (Eq.trans (by simp only [nl] <;> rfl) nrSeA0) (by repeat (first | exact .nil | refine .cons ?_ ?_ | exact ren_ints | exact .lf (.val _) | exact .lf (lf_ints (.inl rfl)) | exact .bp ⟨rfl, rfl⟩ | exact .bp (.inl ⟨rfl, rfl⟩) | exact .bp (.inr ⟨rfl, rfl⟩) | exact .lf (lf_fnrp (sqz_lf _)) | exact .lf (.rp (sqz_lf _)) | exact ren_qe | exact .lf (lf_sqz _) | exact .lf (lf_qe (.inl rfl)) | exact ren_sqz rfl | exact ren_sqz0 rfl | exact ren_bys0 rfl | exact .lf (D.flat_lf rfl) | exact ren_lits rfl | exact .lf (lf_ssz _) | exact .lf (lf_pqz _) | exact ren_q0 rfl | exact ren_pq rfl | exact ren_nl0 | exact ren_sq | exact .lf (.fn (fun d h => by cases h) (fun d h => by cases h)))) (hsend) lfSeA0 ?_
          exact AOps.nil ⟨rfl, rfl, rfl⟩⟩,
        ⟨rfl, rfl, by
          refine n_call0B rfl cf208 rfl (Eq.trans (by simp only [nl] <;> rfl) nrSeA0) (by repeat (first | exact .nil | refine .cons ?_ ?_ | exact ren_ints | exact .lf (.val _) | exact .lf (lf_ints (.inl rfl)) | exact .bp ⟨rfl, rfl⟩ | exact .bp (.inl ⟨rfl, rfl⟩) | exact .bp (.inr ⟨rfl, rfl⟩) | exact .lf (lf_fnrp (sqz_lf _)) | exact .lf (.rp (sqz_lf _)) | exact ren_qe | exact .lf (lf_sqz _) | exact .lf (lf_qe (.inl rfl)) | exact ren_sqz rfl | exact ren_sqz0 rfl | exact ren_bys0 rfl | exact .lf (D.flat_lf rfl) | exact ren_lits rfl | exact .lf (lf_ssz _) | exact .lf (lf_pqz _) | exact ren_q0 rfl | exact ren_pq rfl | exact ren_nl0 | exact ren_sq | exact .lf (.fn (fun d h => by cases h) (fun d h => by cases h)))) (hsend) lfSeA0 ?_
          exact AOps.nil ⟨rfl, rfl, rfl⟩⟩,
        ⟨rfl, rfl, by
          refine n_call0B rfl cf208 rfl (Eq.trans (by simp only [nl] <;> rfl) nrSeA0) (by repeat (first | exact .nil | refine .cons ?_ ?_ | exact ren_ints | exact .lf (.val _) | exact .lf (lf_ints (.inl rfl)) | exact .bp ⟨rfl, rfl⟩ | exact .bp (.inl ⟨rfl, rfl⟩) | exact .bp (.inr ⟨rfl, rfl⟩) | exact .lf (lf_fnrp (sqz_lf _)) | exact .lf (.rp (sqz_lf _)) | exact ren_qe | exact .lf (lf_sqz _) | exact .lf (lf_qe (.inl rfl)) | exact ren_sqz rfl | exact ren_sqz0 rfl | exact ren_bys0 rfl | exact .lf (D.flat_lf rfl) | exact ren_lits rfl | exact .lf (lf_ssz _) | exact .lf (lf_pqz _) | exact ren_q0 rfl | exact ren_pq rfl | exact ren_nl0 | exact ren_sq | exact .lf (.fn (fun d h => by cases h) (fun d h => by cases h)))) (hsend) lfSeA0 ?_
          exact AOps.nil ⟨rfl, rfl, rfl⟩⟩,
        ⟨rfl, rfl, by
          refine n_call0B rfl cf208 rfl (Eq.trans (by simp only [nl] <;> rfl) nrSeA0) (by repeat (first | exact .nil | refine .cons ?_ ?_ | exact ren_ints | exact .lf (.val _) | exact .lf (lf_ints (.inl rfl)) | exact .bp ⟨rfl, rfl⟩ | exact .bp (.inl ⟨rfl, rfl⟩) | exact .bp (.inr ⟨rfl, rfl⟩) | exact .lf (lf_fnrp (sqz_lf _)) | exact .lf (.rp (sqz_lf _)) | exact ren_qe | exact .lf (lf_sqz _) | exact .lf (lf_qe (.inl rfl)) | exact ren_sqz rfl | exact ren_sqz0 rfl | exact ren_bys0 rfl | exact .lf (D.flat_lf rfl) | exact ren_lits rfl | exact .lf (lf_ssz _) | exact .lf (lf_pqz _) | exact ren_q0 rfl | exact ren_pq rfl | exact ren_nl0 | exact ren_sq | exact .lf (.fn (fun d h => by cases h) (fun d h => by cases h)))) (hsend) lfSeA0 ?_
          exact AOps.nil ⟨rfl, rfl, rfl⟩⟩,
        trivial⟩) ?_
    refine Walk.cases [([false, false, false, false], Ob.box (lbx l r) :: (S1 ++ [Ob.box (ntz ⟨d, false, m, v⟩), Ob.dead, Ob.dead]), Ob.box (lbx l r) :: (S1 ++ [Ob.box (ntz ⟨d, false, m, v⟩), Ob.dead, Ob.dead])), ([false, true, false, false], Ob.box (lbx l r) :: (S1 ++ [Ob.box (ntz ⟨d, false, m, v⟩), Ob.dead, Ob.box z5]), Ob.box (lbx l r) :: (S1 ++ [Ob.box (ntz ⟨d, false, m, v⟩), Ob.dead, Ob.box z5])), ([true, false, false, false], Ob.box (lbx l r) :: (S1 ++ [Ob.box (ntz ⟨d, false, m, v⟩), Ob.box z6, Ob.dead]), Ob.box (lbx l r) :: (S1 ++ [Ob.box (ntz ⟨d, false, m, v⟩), Ob.box z6, Ob.dead])), ([true, true, false, false], Ob.box (lbx l r) :: (S1 ++ [Ob.box (ntz ⟨d, false, m, v⟩), Ob.box z6, Ob.box z5]), Ob.box (lbx l r) :: (S1 ++ [Ob.box (ntz ⟨d, false, m, v⟩), Ob.box z6, Ob.box z5]))] (by rfl) (by kernel_rfl) (rs := [54]) (by rfl) nrSeA0 (fun base => ⟨
        ⟨rfl, rfl, by
          refine n_move rfl nrSeA0 ?_
          exact AOps.nil ⟨rfl, rfl, rfl⟩⟩,
        ⟨rfl, rfl, by
          refine n_move rfl nrSeA0 ?_
          exact AOps.nil ⟨rfl, rfl, rfl⟩⟩,
        ⟨rfl, rfl, by
          refine n_move rfl nrSeA0 ?_
          exact AOps.nil ⟨rfl, rfl, rfl⟩⟩,
        ⟨rfl, rfl, by
          refine n_move rfl nrSeA0 ?_
          exact AOps.nil ⟨rfl, rfl, rfl⟩⟩,
        trivial⟩) ?_
    refine Walk.cases [([false, false, false, false], Ob.box (lbx l r) :: (S1 ++ [Ob.box (ntz ⟨d, false, m, v⟩), Ob.dead, Ob.dead]), Ob.box (lbx l r) :: (S1 ++ [Ob.box (ntz ⟨d, false, m, v⟩), Ob.dead, Ob.dead])), ([false, true, false, false], Ob.box (lbx l r) :: (S1 ++ [Ob.box (ntz ⟨d, false, m, v⟩), Ob.dead, Ob.box z5]), Ob.box (lbx l r) :: (S1 ++ [Ob.box (ntz ⟨d, false, m, v⟩), Ob.dead, Ob.box z5])), ([true, false, false, false], Ob.box (lbx l r) :: (S1 ++ [Ob.box (ntz ⟨d, false, m, v⟩), Ob.box z6, Ob.dead]), Ob.box (lbx l r) :: (S1 ++ [Ob.box (ntz ⟨d, false, m, v⟩), Ob.box z6, Ob.dead])), ([true, true, false, false], Ob.box (lbx l r) :: (S1 ++ [Ob.box (ntz ⟨d, false, m, v⟩), Ob.box z6, Ob.box z5]), Ob.box (lbx l r) :: (S1 ++ [Ob.box (ntz ⟨d, false, m, v⟩), Ob.box z6, Ob.box z5]))] (by rfl) (by kernel_rfl) (rs := [44]) (by rfl) nrSeA0 (fun base => ⟨
        ⟨rfl, rfl, by
          refine n_extract rfl nrSeA0 rfl ?_
          exact AOps.nil ⟨rfl, rfl, rfl⟩⟩,
        ⟨rfl, rfl, by
          refine n_extract rfl nrSeA0 rfl ?_
          exact AOps.nil ⟨rfl, rfl, rfl⟩⟩,
        ⟨rfl, rfl, by
          refine n_extract rfl nrSeA0 rfl ?_
          exact AOps.nil ⟨rfl, rfl, rfl⟩⟩,
        ⟨rfl, rfl, by
          refine n_extract rfl nrSeA0 rfl ?_
          exact AOps.nil ⟨rfl, rfl, rfl⟩⟩,
        trivial⟩) ?_
    refine Walk.cases [([false, false, false, false], Ob.box (lbx l r) :: (S1 ++ [Ob.box (ntz ⟨d, false, m, v⟩), Ob.dead, Ob.dead]), Ob.box (lbx l r) :: (S1 ++ [Ob.box (ntz ⟨d, false, m, v⟩), Ob.dead, Ob.dead])), ([false, true, false, false], Ob.box (lbx l r) :: (S1 ++ [Ob.box (ntz ⟨d, false, m, v⟩), Ob.dead, Ob.box z5]), Ob.box (lbx l r) :: (S1 ++ [Ob.box (ntz ⟨d, false, m, v⟩), Ob.dead, Ob.box z5])), ([true, false, false, false], Ob.box (lbx l r) :: (S1 ++ [Ob.box (ntz ⟨d, false, m, v⟩), Ob.box z6, Ob.dead]), Ob.box (lbx l r) :: (S1 ++ [Ob.box (ntz ⟨d, false, m, v⟩), Ob.box z6, Ob.dead])), ([true, true, false, false], Ob.box (lbx l r) :: (S1 ++ [Ob.box (ntz ⟨d, false, m, v⟩), Ob.box z6, Ob.box z5]), Ob.box (lbx l r) :: (S1 ++ [Ob.box (ntz ⟨d, false, m, v⟩), Ob.box z6, Ob.box z5])), ([true, true, true, false], Ob.box (lbx l r) :: (S1 ++ [Ob.box (ntz ⟨d, false, m, v⟩), Ob.box (sqz z), Ob.box z5]), Ob.box (lbx l r) :: (S1 ++ [Ob.box (ntz ⟨d, false, m, v⟩), Ob.box (sqz z), Ob.box z5]))] (by rfl) (by kernel_rfl) (rs := [44]) (by rfl) nrSeA0 (fun base => ⟨
        ⟨rfl, rfl, by
          refine n_extract rfl nrSeA0 rfl ?_
          exact AOps.nil ⟨rfl, rfl, rfl⟩⟩,
        ⟨rfl, rfl, by
          refine n_extract rfl nrSeA0 rfl ?_
          exact AOps.nil ⟨rfl, rfl, rfl⟩⟩,
        ⟨rfl, rfl, by
          refine n_extract rfl nrSeA0 rfl ?_
          exact AOps.nil ⟨rfl, rfl, rfl⟩⟩,
        ⟨rfl, rfl, by
          refine n_extract rfl nrSeA0 rfl ?_
          exact AOps.nil ⟨rfl, rfl, rfl⟩⟩,
        ⟨rfl, rfl, by
          refine n_extract rfl nrSeA0 rfl ?_
          exact AOps.nil ⟨rfl, rfl, rfl⟩⟩,
        trivial⟩) ?_
    refine Walk.cases [([false, false, false, false], Ob.box (lbx l r) :: (S1 ++ [Ob.box (ntz ⟨d, false, m, v⟩), Ob.dead, Ob.dead]), Ob.box (lbx l r) :: (S1 ++ [Ob.box (ntz ⟨d, false, m, v⟩), Ob.dead, Ob.dead])), ([false, true, false, false], Ob.box (lbx l r) :: (S1 ++ [Ob.box (ntz ⟨d, false, m, v⟩), Ob.dead, Ob.box z5]), Ob.box (lbx l r) :: (S1 ++ [Ob.box (ntz ⟨d, false, m, v⟩), Ob.dead, Ob.box z5])), ([true, false, false, false], Ob.box (lbx l r) :: (S1 ++ [Ob.box (ntz ⟨d, false, m, v⟩), Ob.box z6, Ob.dead]), Ob.box (lbx l r) :: (S1 ++ [Ob.box (ntz ⟨d, false, m, v⟩), Ob.box z6, Ob.dead])), ([true, true, false, false], Ob.box (lbx l r) :: (S1 ++ [Ob.box (ntz ⟨d, false, m, v⟩), Ob.box z6, Ob.box z5]), Ob.box (lbx l r) :: (S1 ++ [Ob.box (ntz ⟨d, false, m, v⟩), Ob.box z6, Ob.box z5])), ([true, true, true, false], Ob.box (lbx l r) :: (S1 ++ [Ob.box (ntz ⟨d, false, m, v⟩), Ob.box (sqz z), Ob.box z5]), Ob.box (lbx l r) :: (S1 ++ [Ob.box (ntz ⟨d, false, m, v⟩), Ob.box (sqz z), Ob.box z5])), ([true, true, true, true], Ob.box (lbx l r) :: (S1 ++ [Ob.box (ntz ⟨d, false, m, v⟩), Ob.box (sqz z), Ob.box (pqz y)]), Ob.box (lbx l r) :: (S1 ++ [Ob.box (ntz ⟨d, false, m, v⟩), Ob.box (sqz z), Ob.box (pqz y)]))] (by rfl) (by kernel_rfl) (rs := [44]) (by rfl) nrSeA0 (fun base => ⟨
        ⟨rfl, rfl, by
          refine n_extract rfl nrSeA0 rfl ?_
          exact AOps.nil ⟨rfl, rfl, rfl⟩⟩,
        ⟨rfl, rfl, by
          refine n_extract rfl nrSeA0 rfl ?_
          exact AOps.nil ⟨rfl, rfl, rfl⟩⟩,
        ⟨rfl, rfl, by
          refine n_extract rfl nrSeA0 rfl ?_
          exact AOps.nil ⟨rfl, rfl, rfl⟩⟩,
        ⟨rfl, rfl, by
          refine n_extract rfl nrSeA0 rfl ?_
          exact AOps.nil ⟨rfl, rfl, rfl⟩⟩,
        ⟨rfl, rfl, by
          refine n_extract rfl nrSeA0 rfl ?_
          exact AOps.nil ⟨rfl, rfl, rfl⟩⟩,
        ⟨rfl, rfl, by
          refine n_extract rfl nrSeA0 rfl ?_
          exact AOps.nil ⟨rfl, rfl, rfl⟩⟩,
        trivial⟩) ?_
    refine Walk.cases [([false, false, false, false], Ob.box (lbx l r) :: (S1 ++ [Ob.box (ntz ⟨d, false, m, v⟩), Ob.dead, Ob.dead]), Ob.box (lbx l r) :: (S1 ++ [Ob.box (ntz ⟨d, false, m, v⟩), Ob.box z6, Ob.dead])), ([false, true, false, false], Ob.box (lbx l r) :: (S1 ++ [Ob.box (ntz ⟨d, false, m, v⟩), Ob.dead, Ob.box z5]), Ob.box (lbx l r) :: (S1 ++ [Ob.box (ntz ⟨d, false, m, v⟩), Ob.box z6, Ob.box z5]))] (by rfl) (by kernel_rfl) (rs := []) (by rfl) nrSeA0 (fun base => ⟨
        ⟨rfl, rfl, by
          refine n_allocAt (S1.length + 2) rfl zi141 nrSeA0 rfl nrSeA0 ?_
          exact AOps.nil ⟨rfl, rfl, rfl⟩⟩,
        ⟨rfl, rfl, by
          refine n_allocAt (S1.length + 2) rfl zi141 nrSeA0 rfl nrSeA0 ?_
          exact AOps.nil ⟨rfl, rfl, rfl⟩⟩,
        trivial⟩) ?_
    refine Walk.cases [([false, false, false, false], Ob.box (lbx l r) :: (S1 ++ [Ob.box (ntz ⟨d, false, m, v⟩), Ob.dead, Ob.dead]), Ob.box (lbx l r) :: (S1 ++ [Ob.box (ntz ⟨d, false, m, v⟩), Ob.dead, Ob.box z5])), ([true, false, false, false], Ob.box (lbx l r) :: (S1 ++ [Ob.box (ntz ⟨d, false, m, v⟩), Ob.box z6, Ob.dead]), Ob.box (lbx l r) :: (S1 ++ [Ob.box (ntz ⟨d, false, m, v⟩), Ob.box z6, Ob.box z5]))] (by rfl) (by kernel_rfl) (rs := []) (by rfl) nrSeA0 (fun base => ⟨
        ⟨rfl, rfl, by
          refine n_allocAt (S1.length + 3) rfl zi157 nrSeA0 rfl nrSeA0 ?_
          exact AOps.nil ⟨rfl, rfl, rfl⟩⟩,
        ⟨rfl, rfl, by
          refine n_allocAt (S1.length + 3) rfl zi157 nrSeA0 rfl nrSeA0 ?_
          exact AOps.nil ⟨rfl, rfl, rfl⟩⟩,
        trivial⟩) ?_
    refine Walk.cases (d := .any) [([true, true, false, false], Ob.box (lbx l r) :: (S1 ++ [Ob.box (ntz ⟨d, false, m, v⟩), Ob.box z6, Ob.box z5]), Ob.box (lbx l r) :: (S1 ++ [Ob.box (ntz ⟨d, false, m, v⟩), Ob.box (sqz z), Ob.box z5]))] (by rfl) (by kernel_rfl) (rs := [5, 55]) (by rfl) nrSeA0 (fun base => ⟨
        ⟨rfl, rfl, by
          refine n_store ti141 nrSeA0 nrSeA0 nrSeA0 rfl nrSeA0 rfl rfl rfl nrSeA0 ?_
          exact AOps.nil ⟨rfl, rfl, rfl⟩⟩,
        trivial⟩) ?_
    refine Walk.cases (d := .any) [([true, true, true, false], Ob.box (lbx l r) :: (S1 ++ [Ob.box (ntz ⟨d, false, m, v⟩), Ob.box (sqz z), Ob.box z5]), Ob.box (lbx l r) :: (S1 ++ [Ob.box (ntz ⟨d, false, m, v⟩), Ob.box (sqz z), Ob.box (pqz y)]))] (by rfl) (by kernel_rfl) (rs := [6, 56]) (by rfl) nrSeA0 (fun base => ⟨
        ⟨rfl, rfl, by
          refine n_store ti157 nrSeA0 nrSeA0 nrSeA0 rfl nrSeA0 rfl rfl rfl nrSeA0 ?_
          exact AOps.nil ⟨rfl, rfl, rfl⟩⟩,
        trivial⟩) ?_
    refine Walk.cases [([true, true, true, true], Ob.box (lbx l r) :: (S1 ++ [Ob.box (ntz ⟨d, false, m, v⟩), Ob.box (sqz z), Ob.box (pqz y)]), Ob.box (lbx l r) :: (S1 ++ [Ob.box (ntz ⟨d, false, m, v⟩), Ob.box (sqz z), Ob.box (pqz y)]))] (by rfl) (by kernel_rfl) (rs := [57]) (by rfl) nrSeA0 (fun base => ⟨
        ⟨rfl, rfl, by
          refine n_assign rfl nrSeA0 ?_
          exact AOps.nil ⟨rfl, rfl, rfl⟩⟩,
        trivial⟩) ?_
    refine Walk.done ?_
    refine AWP.seq ?_
    refine AWP.region ?_
    refine n_move rfl nrSeA0 ?_
    refine n_ibin rfl nrSeA0 nrSeA0 rfl ?_
    refine AOps.nil ?_
    refine AWP.cond nrSeA0 (fun hc3 => ?_) (fun hc3 => ?_)
    · try simp only [nh] at hc3
      obtain ⟨h16, hzz, hyy, _⟩ : _ ∧ _ ∧ _ ∧ _ := hcase.resolve_right (fun h => by omega)
      have hz : l.does (⟨d, false, m, v⟩ : Nt) = { l with x := at2 l.x false z, sent := at2 l.sent false (l.sent false ++ [v]), bag := l.bag ++ [(⟨true, y⟩ : Wy)] } := by subst hzz hyy; unfold Ln.does; rw [if_pos hd0, if_pos h16]; rfl
      have h1 : Rw { l with x := at2 l.x false z, sent := at2 l.sent false (l.sent false ++ [v]) } r (S1.set (r 1) (Ob.row ((l.sent false).length + 1) 1)) := Rw.set hr (k := 1) (by decide) (Prod.ext (List.length_append ..) rfl) (fun j hj hne => by rcases j with _ | _ | _ | _ | _ | j <;> first | rfl | exact absurd rfl hne | omega)
      refine AWP.seq ?_
      refine AWP.any1 6 (Ob.box (lbx { l with x := at2 l.x false z } r) :: (S1 ++ [Ob.box (ntz ⟨d, false, m, v⟩), Ob.box (sqz z), Ob.box (pqz y)])) (by kernel_rfl) (by kernel_rfl) (by kernel_rfl) ?_
      refine Walk.ahead [6] (by rfl) (by kernel_rfl) (by rfl) (rs := [0]) (by rfl) nrSeA0 (fun base => by
          refine n_move rfl nrSeA0 ?_
          exact AOps.nil ⟨rfl, rfl, rfl⟩) ?_
      refine Walk.ahead [6] (by rfl) (by kernel_rfl) (by rfl) (rs := [4]) (by rfl) nrSeA0 (fun base => by
          refine n_move rfl nrSeA0 ?_
          exact AOps.nil ⟨rfl, rfl, rfl⟩) ?_
      refine Walk.ahead [6] (by rfl) (by kernel_rfl) (by rfl) (rs := [5]) (by rfl) nrSeA0 (fun base => by
          refine n_load rfl ti141 nrSeA0 nrSeA0 rfl nrSeA0 ?_
          exact AOps.nil ⟨rfl, rfl, rfl⟩) ?_
      refine Walk.ahead [4, 5, 6] (by rfl) (by kernel_rfl) (by rfl) (rs := [60]) (by rfl) nrSeA0 (fun base => by
          refine n_nilCheck rfl nrSeA0 rfl ?_
          exact AOps.nil ⟨rfl, rfl, rfl⟩) ?_
      refine Walk.ahead [5, 6] (by rfl) (by kernel_rfl) (by rfl) (rs := [63]) (by rfl) nrSeA0 (fun base => by
          refine n_fieldAddr rfl fd149_0 ti145 rfl nrSeA0 rfl nrSeA0 ?_
          exact AOps.nil ⟨rfl, rfl, rfl⟩) ?_
      refine Walk.ahead [6] (by rfl) (by kernel_rfl) (by rfl) (rs := [64, 61]) (by rfl) nrSeA0 (fun base => by
          refine n_arrAddr (q := 0) rfl Try.underlying145 ti141 nrSeA0 nrSeA0 (by decide) (by decide) rfl ?_
          exact AOps.nil ⟨rfl, rfl, rfl⟩) ?_
      refine Walk.writes (d := .any) (by rfl) (rs := [65, 62]) (by rfl) nrSeA0 (fun base => by
          refine n_store ti141 nrSeA0 nrSeA0 nrSeA0 rfl nrSeA0 rfl rfl rfl nrSeA0 ?_
          exact AOps.nil ⟨rfl, rfl, rfl⟩) ?_
      refine Walk.done ?_
      refine AWP.seq ?_
      refine AWP.anyT [11, 15] (fun p => match p with | [false, false] => Ob.box (lbx { l with x := at2 l.x false z } r) :: (S1 ++ [Ob.box (ntz ⟨d, false, m, v⟩), Ob.box (sqz z), Ob.box (pqz y)]) | [true, false] => Ob.box (lbx { l with x := at2 l.x false z } r) :: ((S1.set (r 1) (Ob.row ((l.sent false).length + 1) 1)) ++ [Ob.box (ntz ⟨d, false, m, v⟩), Ob.box (sqz z), Ob.box (pqz y)]) | [true, true] => Ob.box (lbx { l with x := at2 l.x false z, sent := at2 l.sent false ((l.sent false) ++ [v]) } r) :: ((S1.set (r 1) (Ob.row ((l.sent false).length + 1) 1)) ++ [Ob.box (ntz ⟨d, false, m, v⟩), Ob.box (sqz z), Ob.box (pqz y)]) | _ => []) (by kernel_rfl) (by kernel_rfl) rfl rfl ?_
      refine Walk.cases [([false, false], Ob.box (lbx { l with x := at2 l.x false z } r) :: (S1 ++ [Ob.box (ntz ⟨d, false, m, v⟩), Ob.box (sqz z), Ob.box (pqz y)]), Ob.box (lbx { l with x := at2 l.x false z } r) :: (S1 ++ [Ob.box (ntz ⟨d, false, m, v⟩), Ob.box (sqz z), Ob.box (pqz y)])), ([true, false], Ob.box (lbx { l with x := at2 l.x false z } r) :: ((S1.set (r 1) (Ob.row ((l.sent false).length + 1) 1)) ++ [Ob.box (ntz ⟨d, false, m, v⟩), Ob.box (sqz z), Ob.box (pqz y)]), Ob.box (lbx { l with x := at2 l.x false z } r) :: ((S1.set (r 1) (Ob.row ((l.sent false).length + 1) 1)) ++ [Ob.box (ntz ⟨d, false, m, v⟩), Ob.box (sqz z), Ob.box (pqz y)]))] (by rfl) (by kernel_rfl) (rs := [0]) (by rfl) nrSeA0 (fun base => ⟨
          ⟨rfl, rfl, by
            refine n_move rfl nrSeA0 ?_
            exact AOps.nil ⟨rfl, rfl, rfl⟩⟩,
          ⟨rfl, rfl, by
            refine n_move rfl nrSeA0 ?_
            exact AOps.nil ⟨rfl, rfl, rfl⟩⟩,
          trivial⟩) ?_
      refine Walk.cases [([false, false], Ob.box (lbx { l with x := at2 l.x false z } r) :: (S1 ++ [Ob.box (ntz ⟨d, false, m, v⟩), Ob.box (sqz z), Ob.box (pqz y)]), Ob.box (lbx { l with x := at2 l.x false z } r) :: (S1 ++ [Ob.box (ntz ⟨d, false, m, v⟩), Ob.box (sqz z), Ob.box (pqz y)])), ([true, false], Ob.box (lbx { l with x := at2 l.x false z } r) :: ((S1.set (r 1) (Ob.row ((l.sent false).length + 1) 1)) ++ [Ob.box (ntz ⟨d, false, m, v⟩), Ob.box (sqz z), Ob.box (pqz y)]), Ob.box (lbx { l with x := at2 l.x false z } r) :: ((S1.set (r 1) (Ob.row ((l.sent false).length + 1) 1)) ++ [Ob.box (ntz ⟨d, false, m, v⟩), Ob.box (sqz z), Ob.box (pqz y)]))] (by rfl) (by kernel_rfl) (rs := [4]) (by rfl) nrSeA0 (fun base => ⟨
          ⟨rfl, rfl, by
            refine n_move rfl nrSeA0 ?_
            exact AOps.nil ⟨rfl, rfl, rfl⟩⟩,
          ⟨rfl, rfl, by
            refine n_move rfl nrSeA0 ?_
            exact AOps.nil ⟨rfl, rfl, rfl⟩⟩,
          trivial⟩) ?_
      refine Walk.cases [([false, false], Ob.box (lbx { l with x := at2 l.x false z } r) :: (S1 ++ [Ob.box (ntz ⟨d, false, m, v⟩), Ob.box (sqz z), Ob.box (pqz y)]), Ob.box (lbx { l with x := at2 l.x false z } r) :: (S1 ++ [Ob.box (ntz ⟨d, false, m, v⟩), Ob.box (sqz z), Ob.box (pqz y)]))] (by rfl) (by kernel_rfl) (rs := [0]) (by rfl) nrSeA0 (fun base => ⟨
          ⟨rfl, rfl, by
            refine n_move rfl nrSeA0 ?_
            exact AOps.nil ⟨rfl, rfl, rfl⟩⟩,
          trivial⟩) ?_
      refine Walk.cases [([false, false], Ob.box (lbx { l with x := at2 l.x false z } r) :: (S1 ++ [Ob.box (ntz ⟨d, false, m, v⟩), Ob.box (sqz z), Ob.box (pqz y)]), Ob.box (lbx { l with x := at2 l.x false z } r) :: (S1 ++ [Ob.box (ntz ⟨d, false, m, v⟩), Ob.box (sqz z), Ob.box (pqz y)]))] (by rfl) (by kernel_rfl) (rs := [4]) (by rfl) nrSeA0 (fun base => ⟨
          ⟨rfl, rfl, by
            refine n_move rfl nrSeA0 ?_
            exact AOps.nil ⟨rfl, rfl, rfl⟩⟩,
          trivial⟩) ?_
      refine Walk.cases [([false, false], Ob.box (lbx { l with x := at2 l.x false z } r) :: (S1 ++ [Ob.box (ntz ⟨d, false, m, v⟩), Ob.box (sqz z), Ob.box (pqz y)]), Ob.box (lbx { l with x := at2 l.x false z } r) :: (S1 ++ [Ob.box (ntz ⟨d, false, m, v⟩), Ob.box (sqz z), Ob.box (pqz y)]))] (by rfl) (by kernel_rfl) (rs := [68]) (by rfl) nrSeA0 (fun base => ⟨
          ⟨rfl, rfl, by
            refine n_nilCheck rfl nrSeA0 rfl ?_
            exact AOps.nil ⟨rfl, rfl, rfl⟩⟩,
          trivial⟩) ?_
      refine Walk.cases [([false, false], Ob.box (lbx { l with x := at2 l.x false z } r) :: (S1 ++ [Ob.box (ntz ⟨d, false, m, v⟩), Ob.box (sqz z), Ob.box (pqz y)]), Ob.box (lbx { l with x := at2 l.x false z } r) :: (S1 ++ [Ob.box (ntz ⟨d, false, m, v⟩), Ob.box (sqz z), Ob.box (pqz y)]))] (by rfl) (by kernel_rfl) (rs := [70]) (by rfl) nrSeA0 (fun base => ⟨
          ⟨rfl, rfl, by
            refine n_fieldAddr rfl fd149_2 ti147 rfl nrSeA0 rfl nrSeA0 ?_
            exact AOps.nil ⟨rfl, rfl, rfl⟩⟩,
          trivial⟩) ?_
      refine Walk.cases [([false, false], Ob.box (lbx { l with x := at2 l.x false z } r) :: (S1 ++ [Ob.box (ntz ⟨d, false, m, v⟩), Ob.box (sqz z), Ob.box (pqz y)]), Ob.box (lbx { l with x := at2 l.x false z } r) :: (S1 ++ [Ob.box (ntz ⟨d, false, m, v⟩), Ob.box (sqz z), Ob.box (pqz y)]))] (by rfl) (by kernel_rfl) (rs := [71, 69]) (by rfl) nrSeA0 (fun base => ⟨
          ⟨rfl, rfl, by
            refine n_arrAddr (q := 13) rfl Try.underlying147 ti22 nrSeA0 nrSeA0 (by decide) (by decide) rfl ?_
            exact AOps.nil ⟨rfl, rfl, rfl⟩⟩,
          trivial⟩) ?_
      refine Walk.cases [([false, false], Ob.box (lbx { l with x := at2 l.x false z } r) :: (S1 ++ [Ob.box (ntz ⟨d, false, m, v⟩), Ob.box (sqz z), Ob.box (pqz y)]), Ob.box (lbx { l with x := at2 l.x false z } r) :: (S1 ++ [Ob.box (ntz ⟨d, false, m, v⟩), Ob.box (sqz z), Ob.box (pqz y)]))] (by rfl) (by kernel_rfl) (rs := [72]) (by rfl) nrSeA0 (fun base => ⟨
          ⟨rfl, rfl, by
            refine n_load rfl ti22 nrSeA0 nrSeA0 rfl nrSeA0 ?_
            exact AOps.nil ⟨rfl, rfl, rfl⟩⟩,
          trivial⟩) ?_
      refine Walk.cases [([false, false], Ob.box (lbx { l with x := at2 l.x false z } r) :: (S1 ++ [Ob.box (ntz ⟨d, false, m, v⟩), Ob.box (sqz z), Ob.box (pqz y)]), Ob.box (lbx { l with x := at2 l.x false z } r) :: (S1 ++ [Ob.box (ntz ⟨d, false, m, v⟩), Ob.box (sqz z), Ob.box (pqz y)]))] (by rfl) (by kernel_rfl) (rs := [3]) (by rfl) nrSeA0 (fun base => ⟨
          ⟨rfl, rfl, by
            refine n_fieldAddr rfl fd151_3 ti5 rfl nrSeA0 rfl nrSeA0 ?_
            exact AOps.nil ⟨rfl, rfl, rfl⟩⟩,
          trivial⟩) ?_
      refine Walk.cases [([false, false], Ob.box (lbx { l with x := at2 l.x false z } r) :: (S1 ++ [Ob.box (ntz ⟨d, false, m, v⟩), Ob.box (sqz z), Ob.box (pqz y)]), Ob.box (lbx { l with x := at2 l.x false z } r) :: (S1 ++ [Ob.box (ntz ⟨d, false, m, v⟩), Ob.box (sqz z), Ob.box (pqz y)]))] (by rfl) (by kernel_rfl) (rs := [74]) (by rfl) nrSeA0 (fun base => ⟨
          ⟨rfl, rfl, by
            refine n_load rfl ti5 nrSeA0 nrSeA0 rfl nrSeA0 ?_
            exact AOps.nil ⟨rfl, rfl, rfl⟩⟩,
          trivial⟩) ?_
      refine Walk.cases [([false, false], Ob.box (lbx { l with x := at2 l.x false z } r) :: (S1 ++ [Ob.box (ntz ⟨d, false, m, v⟩), Ob.box (sqz z), Ob.box (pqz y)]), Ob.box (lbx { l with x := at2 l.x false z } r) :: (S1 ++ [Ob.box (ntz ⟨d, false, m, v⟩), Ob.box (sqz z), Ob.box (pqz y)]))] (by rfl) (by kernel_rfl) (rs := [75]) (by rfl) nrSeA0 (fun base => ⟨
          ⟨rfl, rfl, by
            refine n_lit rfl Try.underlying22 ti5 zi5 rfl rfl (Eq.trans (by simp only [nl] <;> rfl) nrSeA0) rfl nrSeA0 ?_
            exact AOps.nil ⟨rfl, rfl, rfl⟩⟩,
          trivial⟩) ?_
      refine Walk.cases [([false, false], Ob.box (lbx { l with x := at2 l.x false z } r) :: (S1 ++ [Ob.box (ntz ⟨d, false, m, v⟩), Ob.box (sqz z), Ob.box (pqz y)]), Ob.box (lbx { l with x := at2 l.x false z } r) :: ((S1.set (r 1) (Ob.row ((l.sent false).length + 1) 1)) ++ [Ob.box (ntz ⟨d, false, m, v⟩), Ob.box (sqz z), Ob.box (pqz y)]))] (by rfl) (by kernel_rfl) (rs := [73, 76]) (by rfl) nrSeA0 (fun base => ⟨
          ⟨rfl, rfl, by
            refine n_append_own (zs := ints .u8 (l.sent false ++ [v])) (m := (l.sent false).length + 1) (S' := Ob.box (lbx { l with x := at2 l.x false z } r) :: ((S1.set (r 1) (Ob.row ((l.sent false).length + 1) 1)) ++ [Ob.box (ntz ⟨d, false, m, v⟩), Ob.box (sqz z), Ob.box (pqz y)])) rfl Try.underlying22 Try.underlying22 ei5 nrSeA0 (by show (S1 ++ _)[r 1]? = _; exact hr.at (by decide)) (by rw [ints_length]; rfl) nrSeA0 ints_one' (by exact one_one rfl) (by exact ints_append (ys := [v]) ..) (by rw [ints_length]; rfl) (by omega) (by exact congrArg (_ :: ·) (List.set_append_left _ _ (hr.lt (by decide)))) ?_
            exact AOps.nil ⟨rfl, rfl, rfl⟩⟩,
          trivial⟩) ?_
      refine Walk.cases [([false, false], Ob.box (lbx { l with x := at2 l.x false z } r) :: (S1 ++ [Ob.box (ntz ⟨d, false, m, v⟩), Ob.box (sqz z), Ob.box (pqz y)]), Ob.box (lbx { l with x := at2 l.x false z } r) :: (S1 ++ [Ob.box (ntz ⟨d, false, m, v⟩), Ob.box (sqz z), Ob.box (pqz y)])), ([true, false], Ob.box (lbx { l with x := at2 l.x false z } r) :: ((S1.set (r 1) (Ob.row ((l.sent false).length + 1) 1)) ++ [Ob.box (ntz ⟨d, false, m, v⟩), Ob.box (sqz z), Ob.box (pqz y)]), Ob.box (lbx { l with x := at2 l.x false z } r) :: ((S1.set (r 1) (Ob.row ((l.sent false).length + 1) 1)) ++ [Ob.box (ntz ⟨d, false, m, v⟩), Ob.box (sqz z), Ob.box (pqz y)]))] (by rfl) (by kernel_rfl) (rs := [66]) (by rfl) nrSeA0 (fun base => ⟨
          ⟨rfl, rfl, by
            refine n_nilCheck rfl nrSeA0 rfl ?_
            exact AOps.nil ⟨rfl, rfl, rfl⟩⟩,
          ⟨rfl, rfl, by
            refine n_nilCheck rfl nrSeA0 rfl ?_
            exact AOps.nil ⟨rfl, rfl, rfl⟩⟩,
          trivial⟩) ?_
      refine Walk.cases [([false, false], Ob.box (lbx { l with x := at2 l.x false z } r) :: (S1 ++ [Ob.box (ntz ⟨d, false, m, v⟩), Ob.box (sqz z), Ob.box (pqz y)]), Ob.box (lbx { l with x := at2 l.x false z } r) :: (S1 ++ [Ob.box (ntz ⟨d, false, m, v⟩), Ob.box (sqz z), Ob.box (pqz y)])), ([true, false], Ob.box (lbx { l with x := at2 l.x false z } r) :: ((S1.set (r 1) (Ob.row ((l.sent false).length + 1) 1)) ++ [Ob.box (ntz ⟨d, false, m, v⟩), Ob.box (sqz z), Ob.box (pqz y)]), Ob.box (lbx { l with x := at2 l.x false z } r) :: ((S1.set (r 1) (Ob.row ((l.sent false).length + 1) 1)) ++ [Ob.box (ntz ⟨d, false, m, v⟩), Ob.box (sqz z), Ob.box (pqz y)]))] (by rfl) (by kernel_rfl) (rs := [78]) (by rfl) nrSeA0 (fun base => ⟨
          ⟨rfl, rfl, by
            refine n_fieldAddr rfl fd149_2 ti147 rfl nrSeA0 rfl nrSeA0 ?_
            exact AOps.nil ⟨rfl, rfl, rfl⟩⟩,
          ⟨rfl, rfl, by
            refine n_fieldAddr rfl fd149_2 ti147 rfl nrSeA0 rfl nrSeA0 ?_
            exact AOps.nil ⟨rfl, rfl, rfl⟩⟩,
          trivial⟩) ?_
      refine Walk.cases [([true, false], Ob.box (lbx { l with x := at2 l.x false z } r) :: ((S1.set (r 1) (Ob.row ((l.sent false).length + 1) 1)) ++ [Ob.box (ntz ⟨d, false, m, v⟩), Ob.box (sqz z), Ob.box (pqz y)]), Ob.box (lbx { l with x := at2 l.x false z } r) :: ((S1.set (r 1) (Ob.row ((l.sent false).length + 1) 1)) ++ [Ob.box (ntz ⟨d, false, m, v⟩), Ob.box (sqz z), Ob.box (pqz y)]))] (by rfl) (by kernel_rfl) (rs := [79, 67]) (by rfl) nrSeA0 (fun base => ⟨
          ⟨rfl, rfl, by
            refine n_arrAddr (q := 13) rfl Try.underlying147 ti22 nrSeA0 nrSeA0 (by decide) (by decide) rfl ?_
            exact AOps.nil ⟨rfl, rfl, rfl⟩⟩,
          trivial⟩) ?_
      refine Walk.cases (d := .any) [([true, false], Ob.box (lbx { l with x := at2 l.x false z } r) :: ((S1.set (r 1) (Ob.row ((l.sent false).length + 1) 1)) ++ [Ob.box (ntz ⟨d, false, m, v⟩), Ob.box (sqz z), Ob.box (pqz y)]), Ob.box (lbx { l with x := at2 l.x false z, sent := at2 l.sent false ((l.sent false) ++ [v]) } r) :: ((S1.set (r 1) (Ob.row ((l.sent false).length + 1) 1)) ++ [Ob.box (ntz ⟨d, false, m, v⟩), Ob.box (sqz z), Ob.box (pqz y)]))] (by rfl) (by kernel_rfl) (rs := [80, 77]) (by rfl) nrSeA0 (fun base => ⟨
          ⟨rfl, rfl, by
            refine n_store ti22 nrSeA0 nrSeA0 nrSeA0 rfl nrSeA0 rfl rfl rfl nrSeA0 ?_
            exact AOps.nil ⟨rfl, rfl, rfl⟩⟩,
          trivial⟩) ?_
      refine Walk.done ?_
      refine AWP.anyT [10, 13] (fun p => match p with | [false, false] => Ob.box (lbx { l with x := at2 l.x false z, sent := at2 l.sent false ((l.sent false) ++ [v]) } r) :: ((S1.set (r 1) (Ob.row ((l.sent false).length + 1) 1)) ++ [Ob.box (ntz ⟨d, false, m, v⟩), Ob.box (sqz z), Ob.box (pqz y)]) | [true, false] => Ob.box (lbx { l with x := at2 l.x false z, sent := at2 l.sent false ((l.sent false) ++ [v]) } r) :: ((S1.set (r 1) (Ob.row ((l.sent false).length + 1) 1)).set (r 0) (Ob.row (l.bag.length + 1) 6) ++ [Ob.box (ntz ⟨d, false, m, v⟩), Ob.box (sqz z), Ob.box (pqz y)]) | [true, true] => Ob.box (lbx { l with x := at2 l.x false z, bag := (l.bag ++ [(⟨true, y⟩ : Wy)]), sent := at2 l.sent false ((l.sent false) ++ [v]) } r) :: ((S1.set (r 1) (Ob.row ((l.sent false).length + 1) 1)).set (r 0) (Ob.row (l.bag.length + 1) 6) ++ [Ob.box (ntz ⟨d, false, m, v⟩), Ob.box (sqz z), Ob.box (pqz y)]) | _ => []) (by kernel_rfl) (by kernel_rfl) rfl rfl ?_
      refine Walk.cases [([false, false], Ob.box (lbx { l with x := at2 l.x false z, sent := at2 l.sent false ((l.sent false) ++ [v]) } r) :: ((S1.set (r 1) (Ob.row ((l.sent false).length + 1) 1)) ++ [Ob.box (ntz ⟨d, false, m, v⟩), Ob.box (sqz z), Ob.box (pqz y)]), Ob.box (lbx { l with x := at2 l.x false z, sent := at2 l.sent false ((l.sent false) ++ [v]) } r) :: ((S1.set (r 1) (Ob.row ((l.sent false).length + 1) 1)) ++ [Ob.box (ntz ⟨d, false, m, v⟩), Ob.box (sqz z), Ob.box (pqz y)])), ([true, false], Ob.box (lbx { l with x := at2 l.x false z, sent := at2 l.sent false ((l.sent false) ++ [v]) } r) :: ((S1.set (r 1) (Ob.row ((l.sent false).length + 1) 1)).set (r 0) (Ob.row (l.bag.length + 1) 6) ++ [Ob.box (ntz ⟨d, false, m, v⟩), Ob.box (sqz z), Ob.box (pqz y)]), Ob.box (lbx { l with x := at2 l.x false z, sent := at2 l.sent false ((l.sent false) ++ [v]) } r) :: ((S1.set (r 1) (Ob.row ((l.sent false).length + 1) 1)).set (r 0) (Ob.row (l.bag.length + 1) 6) ++ [Ob.box (ntz ⟨d, false, m, v⟩), Ob.box (sqz z), Ob.box (pqz y)]))] (by rfl) (by kernel_rfl) (rs := [0]) (by rfl) nrSeA0 (fun base => ⟨
          ⟨rfl, rfl, by
            refine n_move rfl nrSeA0 ?_
            exact AOps.nil ⟨rfl, rfl, rfl⟩⟩,
          ⟨rfl, rfl, by
            refine n_move rfl nrSeA0 ?_
            exact AOps.nil ⟨rfl, rfl, rfl⟩⟩,
          trivial⟩) ?_
      refine Walk.cases [([false, false], Ob.box (lbx { l with x := at2 l.x false z, sent := at2 l.sent false ((l.sent false) ++ [v]) } r) :: ((S1.set (r 1) (Ob.row ((l.sent false).length + 1) 1)) ++ [Ob.box (ntz ⟨d, false, m, v⟩), Ob.box (sqz z), Ob.box (pqz y)]), Ob.box (lbx { l with x := at2 l.x false z, sent := at2 l.sent false ((l.sent false) ++ [v]) } r) :: ((S1.set (r 1) (Ob.row ((l.sent false).length + 1) 1)) ++ [Ob.box (ntz ⟨d, false, m, v⟩), Ob.box (sqz z), Ob.box (pqz y)]))] (by rfl) (by kernel_rfl) (rs := [0]) (by rfl) nrSeA0 (fun base => ⟨
          ⟨rfl, rfl, by
            refine n_move rfl nrSeA0 ?_
            exact AOps.nil ⟨rfl, rfl, rfl⟩⟩,
          trivial⟩) ?_
      refine Walk.cases [([false, false], Ob.box (lbx { l with x := at2 l.x false z, sent := at2 l.sent false ((l.sent false) ++ [v]) } r) :: ((S1.set (r 1) (Ob.row ((l.sent false).length + 1) 1)) ++ [Ob.box (ntz ⟨d, false, m, v⟩), Ob.box (sqz z), Ob.box (pqz y)]), Ob.box (lbx { l with x := at2 l.x false z, sent := at2 l.sent false ((l.sent false) ++ [v]) } r) :: ((S1.set (r 1) (Ob.row ((l.sent false).length + 1) 1)) ++ [Ob.box (ntz ⟨d, false, m, v⟩), Ob.box (sqz z), Ob.box (pqz y)]))] (by rfl) (by kernel_rfl) (rs := [82]) (by rfl) nrSeA0 (fun base => ⟨
          ⟨rfl, rfl, by
            refine n_nilCheck rfl nrSeA0 rfl ?_
            exact AOps.nil ⟨rfl, rfl, rfl⟩⟩,
          trivial⟩) ?_
      refine Walk.cases [([false, false], Ob.box (lbx { l with x := at2 l.x false z, sent := at2 l.sent false ((l.sent false) ++ [v]) } r) :: ((S1.set (r 1) (Ob.row ((l.sent false).length + 1) 1)) ++ [Ob.box (ntz ⟨d, false, m, v⟩), Ob.box (sqz z), Ob.box (pqz y)]), Ob.box (lbx { l with x := at2 l.x false z, sent := at2 l.sent false ((l.sent false) ++ [v]) } r) :: ((S1.set (r 1) (Ob.row ((l.sent false).length + 1) 1)) ++ [Ob.box (ntz ⟨d, false, m, v⟩), Ob.box (sqz z), Ob.box (pqz y)]))] (by rfl) (by kernel_rfl) (rs := [83]) (by rfl) nrSeA0 (fun base => ⟨
          ⟨rfl, rfl, by
            refine n_fieldAddr rfl fd149_1 ti146 rfl nrSeA0 rfl nrSeA0 ?_
            exact AOps.nil ⟨rfl, rfl, rfl⟩⟩,
          trivial⟩) ?_
      refine Walk.cases [([false, false], Ob.box (lbx { l with x := at2 l.x false z, sent := at2 l.sent false ((l.sent false) ++ [v]) } r) :: ((S1.set (r 1) (Ob.row ((l.sent false).length + 1) 1)) ++ [Ob.box (ntz ⟨d, false, m, v⟩), Ob.box (sqz z), Ob.box (pqz y)]), Ob.box (lbx { l with x := at2 l.x false z, sent := at2 l.sent false ((l.sent false) ++ [v]) } r) :: ((S1.set (r 1) (Ob.row ((l.sent false).length + 1) 1)) ++ [Ob.box (ntz ⟨d, false, m, v⟩), Ob.box (sqz z), Ob.box (pqz y)]))] (by rfl) (by kernel_rfl) (rs := [84]) (by rfl) nrSeA0 (fun base => ⟨
          ⟨rfl, rfl, by
            refine n_load rfl ti146 nrSeA0 nrSeA0 rfl nrSeA0 ?_
            exact AOps.nil ⟨rfl, rfl, rfl⟩⟩,
          trivial⟩) ?_
      refine Walk.cases [([false, false], Ob.box (lbx { l with x := at2 l.x false z, sent := at2 l.sent false ((l.sent false) ++ [v]) } r) :: ((S1.set (r 1) (Ob.row ((l.sent false).length + 1) 1)) ++ [Ob.box (ntz ⟨d, false, m, v⟩), Ob.box (sqz z), Ob.box (pqz y)]), Ob.box (lbx { l with x := at2 l.x false z, sent := at2 l.sent false ((l.sent false) ++ [v]) } r) :: ((S1.set (r 1) (Ob.row ((l.sent false).length + 1) 1)) ++ [Ob.box (ntz ⟨d, false, m, v⟩), Ob.box (sqz z), Ob.box (pqz y)]))] (by rfl) (by kernel_rfl) (rs := [4]) (by rfl) nrSeA0 (fun base => ⟨
          ⟨rfl, rfl, by
            refine n_move rfl nrSeA0 ?_
            exact AOps.nil ⟨rfl, rfl, rfl⟩⟩,
          trivial⟩) ?_
      refine Walk.cases [([false, false], Ob.box (lbx { l with x := at2 l.x false z, sent := at2 l.sent false ((l.sent false) ++ [v]) } r) :: ((S1.set (r 1) (Ob.row ((l.sent false).length + 1) 1)) ++ [Ob.box (ntz ⟨d, false, m, v⟩), Ob.box (sqz z), Ob.box (pqz y)]), Ob.box (lbx { l with x := at2 l.x false z, sent := at2 l.sent false ((l.sent false) ++ [v]) } r) :: ((S1.set (r 1) (Ob.row ((l.sent false).length + 1) 1)) ++ [Ob.box (ntz ⟨d, false, m, v⟩), Ob.box (sqz z), Ob.box (pqz y)]))] (by rfl) (by kernel_rfl) (rs := [86]) (by rfl) nrSeA0 (fun base => ⟨
          ⟨rfl, rfl, by
            refine n_isub (c := 1) rfl nrSeA0 nrSeA0 (by decide) (by decide) (by decide) ?_
            exact AOps.nil ⟨rfl, rfl, rfl⟩⟩,
          trivial⟩) ?_
      refine Walk.cases [([false, false], Ob.box (lbx { l with x := at2 l.x false z, sent := at2 l.sent false ((l.sent false) ++ [v]) } r) :: ((S1.set (r 1) (Ob.row ((l.sent false).length + 1) 1)) ++ [Ob.box (ntz ⟨d, false, m, v⟩), Ob.box (sqz z), Ob.box (pqz y)]), Ob.box (lbx { l with x := at2 l.x false z, sent := at2 l.sent false ((l.sent false) ++ [v]) } r) :: ((S1.set (r 1) (Ob.row ((l.sent false).length + 1) 1)) ++ [Ob.box (ntz ⟨d, false, m, v⟩), Ob.box (sqz z), Ob.box (pqz y)]))] (by rfl) (by kernel_rfl) (rs := [6]) (by rfl) nrSeA0 (fun base => ⟨
          ⟨rfl, rfl, by
            refine n_load rfl ti157 nrSeA0 nrSeA0 rfl nrSeA0 ?_
            exact AOps.nil ⟨rfl, rfl, rfl⟩⟩,
          trivial⟩) ?_
      refine Walk.cases [([false, false], Ob.box (lbx { l with x := at2 l.x false z, sent := at2 l.sent false ((l.sent false) ++ [v]) } r) :: ((S1.set (r 1) (Ob.row ((l.sent false).length + 1) 1)) ++ [Ob.box (ntz ⟨d, false, m, v⟩), Ob.box (sqz z), Ob.box (pqz y)]), Ob.box (lbx { l with x := at2 l.x false z, sent := at2 l.sent false ((l.sent false) ++ [v]) } r) :: ((S1.set (r 1) (Ob.row ((l.sent false).length + 1) 1)) ++ [Ob.box (ntz ⟨d, false, m, v⟩), Ob.box (sqz z), Ob.box (pqz y)]))] (by rfl) (by kernel_rfl) (rs := [87, 88]) (by rfl) nrSeA0 (fun base => ⟨
          ⟨rfl, rfl, by
            refine n_build rfl si161 (Eq.trans (by simp only [nl] <;> rfl) nrSeA0) (Eq.trans (by simp only [nl] <;> rfl) nrSeA0) rfl ?_
            exact AOps.nil ⟨rfl, rfl, rfl⟩⟩,
          trivial⟩) ?_
      refine Walk.cases [([false, false], Ob.box (lbx { l with x := at2 l.x false z, sent := at2 l.sent false ((l.sent false) ++ [v]) } r) :: ((S1.set (r 1) (Ob.row ((l.sent false).length + 1) 1)) ++ [Ob.box (ntz ⟨d, false, m, v⟩), Ob.box (sqz z), Ob.box (pqz y)]), Ob.box (lbx { l with x := at2 l.x false z, sent := at2 l.sent false ((l.sent false) ++ [v]) } r) :: ((S1.set (r 1) (Ob.row ((l.sent false).length + 1) 1)) ++ [Ob.box (ntz ⟨d, false, m, v⟩), Ob.box (sqz z), Ob.box (pqz y)]))] (by rfl) (by kernel_rfl) (rs := [89]) (by rfl) nrSeA0 (fun base => ⟨
          ⟨rfl, rfl, by
            refine n_lit rfl Try.underlying146 ti161 zi161 rfl rfl (Eq.trans (by simp only [nl] <;> rfl) nrSeA0) rfl nrSeA0 ?_
            exact AOps.nil ⟨rfl, rfl, rfl⟩⟩,
          trivial⟩) ?_
      refine Walk.cases [([false, false], Ob.box (lbx { l with x := at2 l.x false z, sent := at2 l.sent false ((l.sent false) ++ [v]) } r) :: ((S1.set (r 1) (Ob.row ((l.sent false).length + 1) 1)) ++ [Ob.box (ntz ⟨d, false, m, v⟩), Ob.box (sqz z), Ob.box (pqz y)]), Ob.box (lbx { l with x := at2 l.x false z, sent := at2 l.sent false ((l.sent false) ++ [v]) } r) :: ((S1.set (r 1) (Ob.row ((l.sent false).length + 1) 1)).set (r 0) (Ob.row (l.bag.length + 1) 6) ++ [Ob.box (ntz ⟨d, false, m, v⟩), Ob.box (sqz z), Ob.box (pqz y)]))] (by rfl) (by kernel_rfl) (rs := [85, 90]) (by rfl) nrSeA0 (fun base => ⟨
          ⟨rfl, rfl, by
            refine n_append_own (zs := (l.bag ++ [(⟨true, y⟩ : Wy)]).map wyz) (m := l.bag.length + 1) (S' := Ob.box (lbx { l with x := at2 l.x false z, sent := at2 l.sent false ((l.sent false) ++ [v]) } r) :: ((S1.set (r 1) (Ob.row ((l.sent false).length + 1) 1)).set (r 0) (Ob.row (l.bag.length + 1) 6) ++ [Ob.box (ntz ⟨d, false, m, v⟩), Ob.box (sqz z), Ob.box (pqz y)])) rfl Try.underlying146 Try.underlying146 ei161 nrSeA0 (by show (S1.set _ _ ++ _)[r 0]? = _; exact h1.at (by decide)) (by rw [List.length_map]; rfl) nrSeA0 (by exact map_one (f := wyz) (fun _ => rfl)) (by exact one_one rfl) (by rw [List.map_append]; rfl) (by rw [List.length_map]; rfl) (by have := hg.bl; omega) (by exact congrArg (_ :: ·) (List.set_append_left _ _ (by rw [List.length_set]; exact hr.lt (by decide)))) ?_
            exact AOps.nil ⟨rfl, rfl, rfl⟩⟩,
          trivial⟩) ?_
      refine Walk.cases [([true, false], Ob.box (lbx { l with x := at2 l.x false z, sent := at2 l.sent false ((l.sent false) ++ [v]) } r) :: ((S1.set (r 1) (Ob.row ((l.sent false).length + 1) 1)).set (r 0) (Ob.row (l.bag.length + 1) 6) ++ [Ob.box (ntz ⟨d, false, m, v⟩), Ob.box (sqz z), Ob.box (pqz y)]), Ob.box (lbx { l with x := at2 l.x false z, sent := at2 l.sent false ((l.sent false) ++ [v]) } r) :: ((S1.set (r 1) (Ob.row ((l.sent false).length + 1) 1)).set (r 0) (Ob.row (l.bag.length + 1) 6) ++ [Ob.box (ntz ⟨d, false, m, v⟩), Ob.box (sqz z), Ob.box (pqz y)]))] (by rfl) (by kernel_rfl) (rs := [81]) (by rfl) nrSeA0 (fun base => ⟨
          ⟨rfl, rfl, by
            refine n_nilCheck rfl nrSeA0 rfl ?_
            exact AOps.nil ⟨rfl, rfl, rfl⟩⟩,
          trivial⟩) ?_
      refine Walk.cases [([true, false], Ob.box (lbx { l with x := at2 l.x false z, sent := at2 l.sent false ((l.sent false) ++ [v]) } r) :: ((S1.set (r 1) (Ob.row ((l.sent false).length + 1) 1)).set (r 0) (Ob.row (l.bag.length + 1) 6) ++ [Ob.box (ntz ⟨d, false, m, v⟩), Ob.box (sqz z), Ob.box (pqz y)]), Ob.box (lbx { l with x := at2 l.x false z, sent := at2 l.sent false ((l.sent false) ++ [v]) } r) :: ((S1.set (r 1) (Ob.row ((l.sent false).length + 1) 1)).set (r 0) (Ob.row (l.bag.length + 1) 6) ++ [Ob.box (ntz ⟨d, false, m, v⟩), Ob.box (sqz z), Ob.box (pqz y)]))] (by rfl) (by kernel_rfl) (rs := [92]) (by rfl) nrSeA0 (fun base => ⟨
          ⟨rfl, rfl, by
            refine n_fieldAddr rfl fd149_1 ti146 rfl nrSeA0 rfl nrSeA0 ?_
            exact AOps.nil ⟨rfl, rfl, rfl⟩⟩,
          trivial⟩) ?_
      refine Walk.cases (d := .any) [([true, false], Ob.box (lbx { l with x := at2 l.x false z, sent := at2 l.sent false ((l.sent false) ++ [v]) } r) :: ((S1.set (r 1) (Ob.row ((l.sent false).length + 1) 1)).set (r 0) (Ob.row (l.bag.length + 1) 6) ++ [Ob.box (ntz ⟨d, false, m, v⟩), Ob.box (sqz z), Ob.box (pqz y)]), Ob.box (lbx { l with x := at2 l.x false z, bag := (l.bag ++ [(⟨true, y⟩ : Wy)]), sent := at2 l.sent false ((l.sent false) ++ [v]) } r) :: ((S1.set (r 1) (Ob.row ((l.sent false).length + 1) 1)).set (r 0) (Ob.row (l.bag.length + 1) 6) ++ [Ob.box (ntz ⟨d, false, m, v⟩), Ob.box (sqz z), Ob.box (pqz y)]))] (by rfl) (by kernel_rfl) (rs := [93, 91]) (by rfl) nrSeA0 (fun base => ⟨
          ⟨rfl, rfl, by
            refine n_store ti146 nrSeA0 nrSeA0 nrSeA0 rfl nrSeA0 rfl rfl rfl nrSeA0 ?_
            exact AOps.nil ⟨rfl, rfl, rfl⟩⟩,
          trivial⟩) ?_
      refine Walk.done ?_
      refine finK_normal .nil nrSeA0 ?_
      rw [hz] at hK
      first
      | exact hK r2 S2 h2
      | exact hK r _ (Rw.app (Rw.set h1 (k := 0) (by decide) (Prod.ext (List.length_append ..) rfl) (fun j hj hne => by rcases j with _ | _ | _ | _ | _ | j <;> first | rfl | exact absurd rfl hne | omega)))
      | exact hK r _ (Rw.app (Rw.set hr (k := 0) (by decide) (Prod.ext (List.length_append ..) rfl) (fun j hj hne => by rcases j with _ | _ | _ | _ | _ | j <;> first | rfl | exact absurd rfl hne | omega)))
      | (rw [List.take_length] at *; exact hK r _ hs)
      | exact hK (fun k => if k = 0 then S1.length + 1 else r k) _ (Rw.new (i := S1.length + 1) (n := l.bag.length - 1) hr (by omega) (by rw [List.getElem?_append_right (by omega), Nat.add_sub_cancel_left]; rfl) (Prod.ext (List.length_eraseIdx_of_lt hil) rfl) (fun j hj hne => by rcases j with _ | _ | _ | _ | _ | j <;> first | rfl | exact absurd rfl hne | omega))
      | exact hK r _ (Rw.app hr)
    · try simp only [nh] at hc3
      have h16 := (hcase.resolve_left (fun h => by omega)).1
      have hz : l.does (⟨d, false, m, v⟩ : Nt) = l := by unfold Ln.does; rw [if_pos hd0, if_neg h16]
      refine AWP.skip ?_
      refine finK_normal .nil nrSeA0 ?_
      rw [hz] at hK
      first
      | exact hK r2 S2 h2
      | exact hK r _ (Rw.app (Rw.set h1 (k := 0) (by decide) (Prod.ext (List.length_append ..) rfl) (fun j hj hne => by rcases j with _ | _ | _ | _ | _ | j <;> first | rfl | exact absurd rfl hne | omega)))
      | exact hK r _ (Rw.app (Rw.set hr (k := 0) (by decide) (Prod.ext (List.length_append ..) rfl) (fun j hj hne => by rcases j with _ | _ | _ | _ | _ | j <;> first | rfl | exact absurd rfl hne | omega)))
      | (rw [List.take_length] at *; exact hK r _ hs)
      | exact hK (fun k => if k = 0 then S1.length + 1 else r k) _ (Rw.new (i := S1.length + 1) (n := l.bag.length - 1) hr (by omega) (by rw [List.getElem?_append_right (by omega), Nat.add_sub_cancel_left]; rfl) (Prod.ext (List.length_eraseIdx_of_lt hil) rfl) (fun j hj hne => by rcases j with _ | _ | _ | _ | _ | j <;> first | rfl | exact absurd rfl hne | omega))
      | exact hK r _ (Rw.app hr)
  · try simp only [nh] at hc2
    have hd0 : ¬ d = 0 := by simpa using hc2
    refine AWP.seq ?_
    refine AWP.region ?_
    refine n_ibin rfl nrSeA0 nrSeA0 rfl ?_
    refine n_assign rfl nrSeA0 ?_
    refine AOps.nil ?_
    refine AWP.cond nrSeA0 (fun hc4 => ?_) (fun hc4 => ?_)
    · try simp only [nh] at hc4
      have hd1 := hc4
      have hz : l.does (⟨d, false, m, v⟩ : Nt) = { l with bag := l.bag ++ ((l.x false).again).map fun y => (⟨true, y⟩ : Wy) } := by unfold Ln.does; rw [if_neg hd0, if_pos hd1]; rfl
      refine AWP.seq ?_
      refine AWP.region ?_
      refine n_move rfl nrSeA0 ?_
      refine n_move rfl nrSeA0 ?_
      refine n_nilCheck rfl nrSeA0 rfl ?_
      refine n_fieldAddr rfl fd149_0 ti145 rfl nrSeA0 rfl nrSeA0 ?_
      refine n_arrAddr (q := 0) rfl Try.underlying145 ti141 nrSeA0 nrSeA0 (by decide) (by decide) rfl ?_
      refine n_load rfl ti141 nrSeA0 nrSeA0 rfl nrSeA0 ?_
      refine n_call0B rfl cf111 rfl (Eq.trans (by simp only [nl] <;> rfl) nrSeA0) (by repeat (first | exact .nil | refine .cons ?_ ?_ | exact ren_ints | exact .lf (.val _) | exact .lf (lf_ints (.inl rfl)) | exact .bp ⟨rfl, rfl⟩ | exact .bp (.inl ⟨rfl, rfl⟩) | exact .bp (.inr ⟨rfl, rfl⟩) | exact .lf (lf_fnrp (sqz_lf _)) | exact .lf (.rp (sqz_lf _)) | exact ren_qe | exact .lf (lf_sqz _) | exact .lf (lf_qe (.inl rfl)) | exact ren_sqz rfl | exact ren_sqz0 rfl | exact ren_bys0 rfl | exact .lf (D.flat_lf rfl) | exact ren_lits rfl | exact .lf (lf_ssz _) | exact .lf (lf_pqz _) | exact ren_q0 rfl | exact ren_pq rfl | exact ren_nl0 | exact ren_sq | exact .lf (.fn (fun d h => by cases h) (fun d h => by cases h)))) (hres) lfSeA0 ?_
      refine n_len rfl Try.underlying154 nrSeA0 (by first | rw [ints_length] | rw [List.length_map] | rfl) ?_
      refine n_move rfl nrSeA0 ?_
      refine AOps.nil ?_
      refine AWP.block ?_
      refine AWP.loop (α := Nat × List Ob) (fun q => q.1 ≤ (l.x false).again.length ∧ Rw { l with bag := l.bag ++ (((l.x false).again.take q.1).map fun y => (⟨true, y⟩ : Wy)) } r q.2) (fun q => put (put (put (put (put empty 0 (.bp 0 0)) 4 (vi 0)) 102 (.sl none ((l.x false).again.map pqz) .ro)) 103 (vi ((l.x false).again.length : Int))) 104 (vi (q.1 : Int))) (fun q => Ob.box (lbx { l with bag := (l.bag ++ (((l.x false).again.take q.1).map fun y => (⟨true, y⟩ : Wy))) } r) :: q.2) (fun q => (l.x false).again.length - q.1) (0, S1 ++ [Ob.box (ntz ⟨d, false, m, v⟩)]) ?_ ?_ ?_ ?_
      · exact ⟨Nat.zero_le _, Rw.same (Rw.app hr) (fun j hj => by rcases j with _ | _ | _ | _ | _ | j <;> first | rfl | (simp [Ln.rl]) | omega)⟩
      · (repeat (first | exact FLe.empty _ | refine FLe.put ?_ ?_)) <;> first | (simp only [nf, nfV, Nat.beq]; done) | rfl | ((try simp only [nf, nfV, Nat.beq]); first | rfl | (simp only [List.length_map]; done))
      · simp
      · rintro ⟨i, S2⟩ ⟨hi, hs⟩
        dsimp only at hi hs ⊢
        refine AWP.seq ?_
        refine AWP.region ?_
        refine n_ibin rfl nrSeA0 nrSeA0 rfl ?_
        refine AOps.nil ?_
        refine AWP.seq ?_
        refine AWP.cond nrSeA0 (fun hc5 => ?_) (fun hc5 => ?_)
        · try simp only [nh] at hc5
          obtain ⟨y1, hy0⟩ : ∃ y1, (l.x false).again[i]? = some y1 := ⟨_, List.getElem?_eq_getElem (by omega)⟩
          have hyx := map_at pqz hy0
          refine AWP.skip ?_
          refine AWP.seq ?_
          refine AWP.block ?_
          refine AWP.seq ?_
          refine AWP.region ?_
          refine n_indexAddr rfl Try.underlying154 ti157 rfl nrSeA0 nrSeA0 (by omega) (by exact hyx) rfl ?_
          refine n_load rfl ti157 nrSeA0 nrSeA0 rfl nrSeA0 ?_
          refine n_alloc rfl zi157 rfl nrSeA0 nrSeA0 ?_
          refine n_store ti157 nrSeA0 nrSeA0 nrSeA0 rfl nrSeA0 rfl rfl rfl nrSeA0 ?_
          refine AOps.nil ?_
          refine AWP.anyT [10, 13] (fun p => match p with | [false, false] => Ob.box (lbx { l with bag := (l.bag ++ (((l.x false).again.take i).map fun y => (⟨true, y⟩ : Wy))) } r) :: (S2 ++ [Ob.box (pqz y1)]) | [true, false] => Ob.box (lbx { l with bag := (l.bag ++ (((l.x false).again.take i).map fun y => (⟨true, y⟩ : Wy))) } r) :: (S2.set (r 0) (Ob.row (l.bag ++ (((l.x false).again.take (i + 1)).map fun y => (⟨true, y⟩ : Wy))).length 6) ++ [Ob.box (pqz y1)]) | [true, true] => Ob.box (lbx { l with bag := (l.bag ++ (((l.x false).again.take (i + 1)).map fun y => (⟨true, y⟩ : Wy))) } r) :: (S2.set (r 0) (Ob.row (l.bag ++ (((l.x false).again.take (i + 1)).map fun y => (⟨true, y⟩ : Wy))).length 6) ++ [Ob.box (pqz y1)]) | _ => []) (by kernel_rfl) (by kernel_rfl) rfl rfl ?_
          refine Walk.cases [([false, false], Ob.box (lbx { l with bag := (l.bag ++ (((l.x false).again.take i).map fun y => (⟨true, y⟩ : Wy))) } r) :: (S2 ++ [Ob.box (pqz y1)]), Ob.box (lbx { l with bag := (l.bag ++ (((l.x false).again.take i).map fun y => (⟨true, y⟩ : Wy))) } r) :: (S2 ++ [Ob.box (pqz y1)])), ([true, false], Ob.box (lbx { l with bag := (l.bag ++ (((l.x false).again.take i).map fun y => (⟨true, y⟩ : Wy))) } r) :: (S2.set (r 0) (Ob.row (l.bag ++ (((l.x false).again.take (i + 1)).map fun y => (⟨true, y⟩ : Wy))).length 6) ++ [Ob.box (pqz y1)]), Ob.box (lbx { l with bag := (l.bag ++ (((l.x false).again.take i).map fun y => (⟨true, y⟩ : Wy))) } r) :: (S2.set (r 0) (Ob.row (l.bag ++ (((l.x false).again.take (i + 1)).map fun y => (⟨true, y⟩ : Wy))).length 6) ++ [Ob.box (pqz y1)]))] (by rfl) (by kernel_rfl) (rs := [0]) (by rfl) nrSeA0 (fun base => ⟨
              ⟨rfl, rfl, by
                refine n_move rfl nrSeA0 ?_
                exact AOps.nil ⟨rfl, rfl, rfl⟩⟩,
              ⟨rfl, rfl, by
                refine n_move rfl nrSeA0 ?_
                exact AOps.nil ⟨rfl, rfl, rfl⟩⟩,
              trivial⟩) ?_
          refine Walk.cases [([false, false], Ob.box (lbx { l with bag := (l.bag ++ (((l.x false).again.take i).map fun y => (⟨true, y⟩ : Wy))) } r) :: (S2 ++ [Ob.box (pqz y1)]), Ob.box (lbx { l with bag := (l.bag ++ (((l.x false).again.take i).map fun y => (⟨true, y⟩ : Wy))) } r) :: (S2 ++ [Ob.box (pqz y1)]))] (by rfl) (by kernel_rfl) (rs := [0]) (by rfl) nrSeA0 (fun base => ⟨
              ⟨rfl, rfl, by
                refine n_move rfl nrSeA0 ?_
                exact AOps.nil ⟨rfl, rfl, rfl⟩⟩,
              trivial⟩) ?_
          refine Walk.cases [([false, false], Ob.box (lbx { l with bag := (l.bag ++ (((l.x false).again.take i).map fun y => (⟨true, y⟩ : Wy))) } r) :: (S2 ++ [Ob.box (pqz y1)]), Ob.box (lbx { l with bag := (l.bag ++ (((l.x false).again.take i).map fun y => (⟨true, y⟩ : Wy))) } r) :: (S2 ++ [Ob.box (pqz y1)]))] (by rfl) (by kernel_rfl) (rs := [109]) (by rfl) nrSeA0 (fun base => ⟨
              ⟨rfl, rfl, by
                refine n_nilCheck rfl nrSeA0 rfl ?_
                exact AOps.nil ⟨rfl, rfl, rfl⟩⟩,
              trivial⟩) ?_
          refine Walk.cases [([false, false], Ob.box (lbx { l with bag := (l.bag ++ (((l.x false).again.take i).map fun y => (⟨true, y⟩ : Wy))) } r) :: (S2 ++ [Ob.box (pqz y1)]), Ob.box (lbx { l with bag := (l.bag ++ (((l.x false).again.take i).map fun y => (⟨true, y⟩ : Wy))) } r) :: (S2 ++ [Ob.box (pqz y1)]))] (by rfl) (by kernel_rfl) (rs := [110]) (by rfl) nrSeA0 (fun base => ⟨
              ⟨rfl, rfl, by
                refine n_fieldAddr rfl fd149_1 ti146 rfl nrSeA0 rfl nrSeA0 ?_
                exact AOps.nil ⟨rfl, rfl, rfl⟩⟩,
              trivial⟩) ?_
          refine Walk.cases [([false, false], Ob.box (lbx { l with bag := (l.bag ++ (((l.x false).again.take i).map fun y => (⟨true, y⟩ : Wy))) } r) :: (S2 ++ [Ob.box (pqz y1)]), Ob.box (lbx { l with bag := (l.bag ++ (((l.x false).again.take i).map fun y => (⟨true, y⟩ : Wy))) } r) :: (S2 ++ [Ob.box (pqz y1)]))] (by rfl) (by kernel_rfl) (rs := [111]) (by rfl) nrSeA0 (fun base => ⟨
              ⟨rfl, rfl, by
                refine n_load rfl ti146 nrSeA0 nrSeA0 rfl nrSeA0 ?_
                exact AOps.nil ⟨rfl, rfl, rfl⟩⟩,
              trivial⟩) ?_
          refine Walk.cases [([false, false], Ob.box (lbx { l with bag := (l.bag ++ (((l.x false).again.take i).map fun y => (⟨true, y⟩ : Wy))) } r) :: (S2 ++ [Ob.box (pqz y1)]), Ob.box (lbx { l with bag := (l.bag ++ (((l.x false).again.take i).map fun y => (⟨true, y⟩ : Wy))) } r) :: (S2 ++ [Ob.box (pqz y1)]))] (by rfl) (by kernel_rfl) (rs := [4]) (by rfl) nrSeA0 (fun base => ⟨
              ⟨rfl, rfl, by
                refine n_move rfl nrSeA0 ?_
                exact AOps.nil ⟨rfl, rfl, rfl⟩⟩,
              trivial⟩) ?_
          refine Walk.cases [([false, false], Ob.box (lbx { l with bag := (l.bag ++ (((l.x false).again.take i).map fun y => (⟨true, y⟩ : Wy))) } r) :: (S2 ++ [Ob.box (pqz y1)]), Ob.box (lbx { l with bag := (l.bag ++ (((l.x false).again.take i).map fun y => (⟨true, y⟩ : Wy))) } r) :: (S2 ++ [Ob.box (pqz y1)]))] (by rfl) (by kernel_rfl) (rs := [113]) (by rfl) nrSeA0 (fun base => ⟨
              ⟨rfl, rfl, by
                refine n_isub (c := 1) rfl nrSeA0 nrSeA0 (by decide) (by decide) (by decide) ?_
                exact AOps.nil ⟨rfl, rfl, rfl⟩⟩,
              trivial⟩) ?_
          refine Walk.cases [([false, false], Ob.box (lbx { l with bag := (l.bag ++ (((l.x false).again.take i).map fun y => (⟨true, y⟩ : Wy))) } r) :: (S2 ++ [Ob.box (pqz y1)]), Ob.box (lbx { l with bag := (l.bag ++ (((l.x false).again.take i).map fun y => (⟨true, y⟩ : Wy))) } r) :: (S2 ++ [Ob.box (pqz y1)]))] (by rfl) (by kernel_rfl) (rs := [9]) (by rfl) nrSeA0 (fun base => ⟨
              ⟨rfl, rfl, by
                refine n_load rfl ti157 nrSeA0 nrSeA0 rfl nrSeA0 ?_
                exact AOps.nil ⟨rfl, rfl, rfl⟩⟩,
              trivial⟩) ?_
          refine Walk.cases [([false, false], Ob.box (lbx { l with bag := (l.bag ++ (((l.x false).again.take i).map fun y => (⟨true, y⟩ : Wy))) } r) :: (S2 ++ [Ob.box (pqz y1)]), Ob.box (lbx { l with bag := (l.bag ++ (((l.x false).again.take i).map fun y => (⟨true, y⟩ : Wy))) } r) :: (S2 ++ [Ob.box (pqz y1)]))] (by rfl) (by kernel_rfl) (rs := [114, 115]) (by rfl) nrSeA0 (fun base => ⟨
              ⟨rfl, rfl, by
                refine n_build rfl si161 (Eq.trans (by simp only [nl] <;> rfl) nrSeA0) (Eq.trans (by simp only [nl] <;> rfl) nrSeA0) rfl ?_
                exact AOps.nil ⟨rfl, rfl, rfl⟩⟩,
              trivial⟩) ?_
          refine Walk.cases [([false, false], Ob.box (lbx { l with bag := (l.bag ++ (((l.x false).again.take i).map fun y => (⟨true, y⟩ : Wy))) } r) :: (S2 ++ [Ob.box (pqz y1)]), Ob.box (lbx { l with bag := (l.bag ++ (((l.x false).again.take i).map fun y => (⟨true, y⟩ : Wy))) } r) :: (S2 ++ [Ob.box (pqz y1)]))] (by rfl) (by kernel_rfl) (rs := [116]) (by rfl) nrSeA0 (fun base => ⟨
              ⟨rfl, rfl, by
                refine n_lit rfl Try.underlying146 ti161 zi161 rfl rfl (Eq.trans (by simp only [nl] <;> rfl) nrSeA0) rfl nrSeA0 ?_
                exact AOps.nil ⟨rfl, rfl, rfl⟩⟩,
              trivial⟩) ?_
          refine Walk.cases [([false, false], Ob.box (lbx { l with bag := (l.bag ++ (((l.x false).again.take i).map fun y => (⟨true, y⟩ : Wy))) } r) :: (S2 ++ [Ob.box (pqz y1)]), Ob.box (lbx { l with bag := (l.bag ++ (((l.x false).again.take i).map fun y => (⟨true, y⟩ : Wy))) } r) :: (S2.set (r 0) (Ob.row (l.bag ++ (((l.x false).again.take (i + 1)).map fun y => (⟨true, y⟩ : Wy))).length 6) ++ [Ob.box (pqz y1)]))] (by rfl) (by kernel_rfl) (rs := [112, 117]) (by rfl) nrSeA0 (fun base => ⟨
              ⟨rfl, rfl, by
                refine n_append_own (zs := (l.bag ++ (((l.x false).again.take (i + 1)).map fun y => (⟨true, y⟩ : Wy))).map wyz) (m := (l.bag ++ (((l.x false).again.take (i + 1)).map fun y => (⟨true, y⟩ : Wy))).length) (S' := Ob.box (lbx { l with bag := (l.bag ++ (((l.x false).again.take i).map fun y => (⟨true, y⟩ : Wy))) } r) :: (S2.set (r 0) (Ob.row (l.bag ++ (((l.x false).again.take (i + 1)).map fun y => (⟨true, y⟩ : Wy))).length 6) ++ [Ob.box (pqz y1)])) rfl Try.underlying146 Try.underlying146 ei161 nrSeA0 (by show (S2 ++ _)[r 0]? = _; exact hs.at (by decide)) (by rw [List.length_map]; rfl) nrSeA0 (by exact map_one (f := wyz) (fun _ => rfl)) (by exact one_one rfl) (by rw [take_snoc hy0]; simp <;> rfl) (by rw [take_snoc hy0]; simp; try omega) (by simp only [List.length_append, List.length_map, List.length_take]; omega) (by exact congrArg (_ :: ·) (List.set_append_left _ _ (hs.lt (by decide)))) ?_
                exact AOps.nil ⟨rfl, rfl, rfl⟩⟩,
              trivial⟩) ?_
          refine Walk.cases [([true, false], Ob.box (lbx { l with bag := (l.bag ++ (((l.x false).again.take i).map fun y => (⟨true, y⟩ : Wy))) } r) :: (S2.set (r 0) (Ob.row (l.bag ++ (((l.x false).again.take (i + 1)).map fun y => (⟨true, y⟩ : Wy))).length 6) ++ [Ob.box (pqz y1)]), Ob.box (lbx { l with bag := (l.bag ++ (((l.x false).again.take i).map fun y => (⟨true, y⟩ : Wy))) } r) :: (S2.set (r 0) (Ob.row (l.bag ++ (((l.x false).again.take (i + 1)).map fun y => (⟨true, y⟩ : Wy))).length 6) ++ [Ob.box (pqz y1)]))] (by rfl) (by kernel_rfl) (rs := [108]) (by rfl) nrSeA0 (fun base => ⟨
              ⟨rfl, rfl, by
                refine n_nilCheck rfl nrSeA0 rfl ?_
                exact AOps.nil ⟨rfl, rfl, rfl⟩⟩,
              trivial⟩) ?_
          refine Walk.cases [([true, false], Ob.box (lbx { l with bag := (l.bag ++ (((l.x false).again.take i).map fun y => (⟨true, y⟩ : Wy))) } r) :: (S2.set (r 0) (Ob.row (l.bag ++ (((l.x false).again.take (i + 1)).map fun y => (⟨true, y⟩ : Wy))).length 6) ++ [Ob.box (pqz y1)]), Ob.box (lbx { l with bag := (l.bag ++ (((l.x false).again.take i).map fun y => (⟨true, y⟩ : Wy))) } r) :: (S2.set (r 0) (Ob.row (l.bag ++ (((l.x false).again.take (i + 1)).map fun y => (⟨true, y⟩ : Wy))).length 6) ++ [Ob.box (pqz y1)]))] (by rfl) (by kernel_rfl) (rs := [119]) (by rfl) nrSeA0 (fun base => ⟨
              ⟨rfl, rfl, by
                refine n_fieldAddr rfl fd149_1 ti146 rfl nrSeA0 rfl nrSeA0 ?_
                exact AOps.nil ⟨rfl, rfl, rfl⟩⟩,
              trivial⟩) ?_
          refine Walk.cases (d := .any) [([true, false], Ob.box (lbx { l with bag := (l.bag ++ (((l.x false).again.take i).map fun y => (⟨true, y⟩ : Wy))) } r) :: (S2.set (r 0) (Ob.row (l.bag ++ (((l.x false).again.take (i + 1)).map fun y => (⟨true, y⟩ : Wy))).length 6) ++ [Ob.box (pqz y1)]), Ob.box (lbx { l with bag := (l.bag ++ (((l.x false).again.take (i + 1)).map fun y => (⟨true, y⟩ : Wy))) } r) :: (S2.set (r 0) (Ob.row (l.bag ++ (((l.x false).again.take (i + 1)).map fun y => (⟨true, y⟩ : Wy))).length 6) ++ [Ob.box (pqz y1)]))] (by rfl) (by kernel_rfl) (rs := [120, 118]) (by rfl) nrSeA0 (fun base => ⟨
              ⟨rfl, rfl, by
                refine n_store ti146 nrSeA0 nrSeA0 nrSeA0 rfl nrSeA0 rfl rfl rfl nrSeA0 ?_
                exact AOps.nil ⟨rfl, rfl, rfl⟩⟩,
              trivial⟩) ?_
          refine Walk.done ?_
          refine AWP.region ?_
          first | refine n_iadd rfl nrSeA0 nrSeA0 rfl (by omega) (by omega) ?_ | refine n_ibin rfl nrSeA0 nrSeA0 rfl ?_
          refine n_move rfl nrSeA0 ?_
          refine AOps.nil ?_
          refine ⟨(i + 1, _), ⟨by omega, Rw.app (Rw.set hs (k := 0) (by decide) rfl (fun j hj hne => by rcases j with _ | _ | _ | _ | _ | j <;> first | rfl | exact absurd rfl hne | omega))⟩, ?_, rfl, by omega⟩
          (repeat (first | exact FLe.empty _ | refine FLe.put ?_ ?_)) <;> first | (simp only [nf, nfV, Nat.beq]; done) | rfl | ((try simp only [nf, nfV, Nat.beq]); first | rfl | (simp only [List.length_map]; done))
        · try simp only [nh] at hc5
          obtain rfl : i = (l.x false).again.length := by omega
          refine AWP.exit ?_
          refine finK_normal .nil nrSeA0 ?_
          rw [hz] at hK
          first
          | exact hK r2 S2 h2
          | exact hK r _ (Rw.app (Rw.set h1 (k := 0) (by decide) (Prod.ext (List.length_append ..) rfl) (fun j hj hne => by rcases j with _ | _ | _ | _ | _ | j <;> first | rfl | exact absurd rfl hne | omega)))
          | exact hK r _ (Rw.app (Rw.set hr (k := 0) (by decide) (Prod.ext (List.length_append ..) rfl) (fun j hj hne => by rcases j with _ | _ | _ | _ | _ | j <;> first | rfl | exact absurd rfl hne | omega)))
          | (rw [List.take_length] at *; exact hK r _ hs)
          | exact hK (fun k => if k = 0 then S1.length + 1 else r k) _ (Rw.new (i := S1.length + 1) (n := l.bag.length - 1) hr (by omega) (by rw [List.getElem?_append_right (by omega), Nat.add_sub_cancel_left]; rfl) (Prod.ext (List.length_eraseIdx_of_lt hil) rfl) (fun j hj hne => by rcases j with _ | _ | _ | _ | _ | j <;> first | rfl | exact absurd rfl hne | omega))
          | exact hK r _ (Rw.app hr)
    · try simp only [nh] at hc4
      have hd1 : ¬ d = 1 := by simpa using hc4
      refine AWP.seq ?_
      refine AWP.region ?_
      refine n_ibin rfl nrSeA0 nrSeA0 rfl ?_
      refine n_assign rfl nrSeA0 ?_
      refine AOps.nil ?_
      refine AWP.cond nrSeA0 (fun hc6 => ?_) (fun hc6 => ?_)
      · try simp only [nh] at hc6
        have hd2 := hc6
        have hz : l.does (⟨d, false, m, v⟩ : Nt) = { l with bag := l.bag ++ [(⟨true, (l.x false).pk 0 []⟩ : Wy)] } := by unfold Ln.does; rw [if_neg hd0, if_neg hd1, if_pos hd2]; rfl
        refine AWP.anyT [16, 19] (fun p => match p with | [false, false] => Ob.box (lbx l r) :: (S1 ++ [Ob.box (ntz ⟨d, false, m, v⟩)]) | [true, false] => Ob.box (lbx l r) :: (S1.set (r 0) (Ob.row (l.bag.length + 1) 6) ++ [Ob.box (ntz ⟨d, false, m, v⟩)]) | [true, true] => Ob.box (lbx { l with bag := (l.bag ++ [(⟨true, (l.x false).pk 0 []⟩ : Wy)]) } r) :: (S1.set (r 0) (Ob.row (l.bag.length + 1) 6) ++ [Ob.box (ntz ⟨d, false, m, v⟩)]) | _ => []) (by kernel_rfl) (by kernel_rfl) rfl rfl ?_
        refine Walk.cases [([false, false], Ob.box (lbx l r) :: (S1 ++ [Ob.box (ntz ⟨d, false, m, v⟩)]), Ob.box (lbx l r) :: (S1 ++ [Ob.box (ntz ⟨d, false, m, v⟩)])), ([true, false], Ob.box (lbx l r) :: (S1.set (r 0) (Ob.row (l.bag.length + 1) 6) ++ [Ob.box (ntz ⟨d, false, m, v⟩)]), Ob.box (lbx l r) :: (S1.set (r 0) (Ob.row (l.bag.length + 1) 6) ++ [Ob.box (ntz ⟨d, false, m, v⟩)]))] (by rfl) (by kernel_rfl) (rs := [0]) (by rfl) nrSeA0 (fun base => ⟨
            ⟨rfl, rfl, by
              refine n_move rfl nrSeA0 ?_
              exact AOps.nil ⟨rfl, rfl, rfl⟩⟩,
            ⟨rfl, rfl, by
              refine n_move rfl nrSeA0 ?_
              exact AOps.nil ⟨rfl, rfl, rfl⟩⟩,
            trivial⟩) ?_
        refine Walk.cases [([false, false], Ob.box (lbx l r) :: (S1 ++ [Ob.box (ntz ⟨d, false, m, v⟩)]), Ob.box (lbx l r) :: (S1 ++ [Ob.box (ntz ⟨d, false, m, v⟩)]))] (by rfl) (by kernel_rfl) (rs := [0]) (by rfl) nrSeA0 (fun base => ⟨
            ⟨rfl, rfl, by
              refine n_move rfl nrSeA0 ?_
              exact AOps.nil ⟨rfl, rfl, rfl⟩⟩,
            trivial⟩) ?_
        refine Walk.cases [([false, false], Ob.box (lbx l r) :: (S1 ++ [Ob.box (ntz ⟨d, false, m, v⟩)]), Ob.box (lbx l r) :: (S1 ++ [Ob.box (ntz ⟨d, false, m, v⟩)]))] (by rfl) (by kernel_rfl) (rs := [125]) (by rfl) nrSeA0 (fun base => ⟨
            ⟨rfl, rfl, by
              refine n_nilCheck rfl nrSeA0 rfl ?_
              exact AOps.nil ⟨rfl, rfl, rfl⟩⟩,
            trivial⟩) ?_
        refine Walk.cases [([false, false], Ob.box (lbx l r) :: (S1 ++ [Ob.box (ntz ⟨d, false, m, v⟩)]), Ob.box (lbx l r) :: (S1 ++ [Ob.box (ntz ⟨d, false, m, v⟩)]))] (by rfl) (by kernel_rfl) (rs := [126]) (by rfl) nrSeA0 (fun base => ⟨
            ⟨rfl, rfl, by
              refine n_fieldAddr rfl fd149_1 ti146 rfl nrSeA0 rfl nrSeA0 ?_
              exact AOps.nil ⟨rfl, rfl, rfl⟩⟩,
            trivial⟩) ?_
        refine Walk.cases [([false, false], Ob.box (lbx l r) :: (S1 ++ [Ob.box (ntz ⟨d, false, m, v⟩)]), Ob.box (lbx l r) :: (S1 ++ [Ob.box (ntz ⟨d, false, m, v⟩)]))] (by rfl) (by kernel_rfl) (rs := [127]) (by rfl) nrSeA0 (fun base => ⟨
            ⟨rfl, rfl, by
              refine n_load rfl ti146 nrSeA0 nrSeA0 rfl nrSeA0 ?_
              exact AOps.nil ⟨rfl, rfl, rfl⟩⟩,
            trivial⟩) ?_
        refine Walk.cases [([false, false], Ob.box (lbx l r) :: (S1 ++ [Ob.box (ntz ⟨d, false, m, v⟩)]), Ob.box (lbx l r) :: (S1 ++ [Ob.box (ntz ⟨d, false, m, v⟩)]))] (by rfl) (by kernel_rfl) (rs := [4]) (by rfl) nrSeA0 (fun base => ⟨
            ⟨rfl, rfl, by
              refine n_move rfl nrSeA0 ?_
              exact AOps.nil ⟨rfl, rfl, rfl⟩⟩,
            trivial⟩) ?_
        refine Walk.cases [([false, false], Ob.box (lbx l r) :: (S1 ++ [Ob.box (ntz ⟨d, false, m, v⟩)]), Ob.box (lbx l r) :: (S1 ++ [Ob.box (ntz ⟨d, false, m, v⟩)]))] (by rfl) (by kernel_rfl) (rs := [129]) (by rfl) nrSeA0 (fun base => ⟨
            ⟨rfl, rfl, by
              refine n_isub (c := 1) rfl nrSeA0 nrSeA0 (by decide) (by decide) (by decide) ?_
              exact AOps.nil ⟨rfl, rfl, rfl⟩⟩,
            trivial⟩) ?_
        refine Walk.cases [([false, false], Ob.box (lbx l r) :: (S1 ++ [Ob.box (ntz ⟨d, false, m, v⟩)]), Ob.box (lbx l r) :: (S1 ++ [Ob.box (ntz ⟨d, false, m, v⟩)]))] (by rfl) (by kernel_rfl) (rs := [0]) (by rfl) nrSeA0 (fun base => ⟨
            ⟨rfl, rfl, by
              refine n_move rfl nrSeA0 ?_
              exact AOps.nil ⟨rfl, rfl, rfl⟩⟩,
            trivial⟩) ?_
        refine Walk.cases [([false, false], Ob.box (lbx l r) :: (S1 ++ [Ob.box (ntz ⟨d, false, m, v⟩)]), Ob.box (lbx l r) :: (S1 ++ [Ob.box (ntz ⟨d, false, m, v⟩)]))] (by rfl) (by kernel_rfl) (rs := [4]) (by rfl) nrSeA0 (fun base => ⟨
            ⟨rfl, rfl, by
              refine n_move rfl nrSeA0 ?_
              exact AOps.nil ⟨rfl, rfl, rfl⟩⟩,
            trivial⟩) ?_
        refine Walk.cases [([false, false], Ob.box (lbx l r) :: (S1 ++ [Ob.box (ntz ⟨d, false, m, v⟩)]), Ob.box (lbx l r) :: (S1 ++ [Ob.box (ntz ⟨d, false, m, v⟩)]))] (by rfl) (by kernel_rfl) (rs := [131]) (by rfl) nrSeA0 (fun base => ⟨
            ⟨rfl, rfl, by
              refine n_nilCheck rfl nrSeA0 rfl ?_
              exact AOps.nil ⟨rfl, rfl, rfl⟩⟩,
            trivial⟩) ?_
        refine Walk.cases [([false, false], Ob.box (lbx l r) :: (S1 ++ [Ob.box (ntz ⟨d, false, m, v⟩)]), Ob.box (lbx l r) :: (S1 ++ [Ob.box (ntz ⟨d, false, m, v⟩)]))] (by rfl) (by kernel_rfl) (rs := [133]) (by rfl) nrSeA0 (fun base => ⟨
            ⟨rfl, rfl, by
              refine n_fieldAddr rfl fd149_0 ti145 rfl nrSeA0 rfl nrSeA0 ?_
              exact AOps.nil ⟨rfl, rfl, rfl⟩⟩,
            trivial⟩) ?_
        refine Walk.cases [([false, false], Ob.box (lbx l r) :: (S1 ++ [Ob.box (ntz ⟨d, false, m, v⟩)]), Ob.box (lbx l r) :: (S1 ++ [Ob.box (ntz ⟨d, false, m, v⟩)]))] (by rfl) (by kernel_rfl) (rs := [134, 132]) (by rfl) nrSeA0 (fun base => ⟨
            ⟨rfl, rfl, by
              refine n_arrAddr (q := 0) rfl Try.underlying145 ti141 nrSeA0 nrSeA0 (by decide) (by decide) rfl ?_
              exact AOps.nil ⟨rfl, rfl, rfl⟩⟩,
            trivial⟩) ?_
        refine Walk.cases [([false, false], Ob.box (lbx l r) :: (S1 ++ [Ob.box (ntz ⟨d, false, m, v⟩)]), Ob.box (lbx l r) :: (S1 ++ [Ob.box (ntz ⟨d, false, m, v⟩)]))] (by rfl) (by kernel_rfl) (rs := [135]) (by rfl) nrSeA0 (fun base => ⟨
            ⟨rfl, rfl, by
              refine n_load rfl ti141 nrSeA0 nrSeA0 rfl nrSeA0 ?_
              exact AOps.nil ⟨rfl, rfl, rfl⟩⟩,
            trivial⟩) ?_
        refine Walk.cases [([false, false], Ob.box (lbx l r) :: (S1 ++ [Ob.box (ntz ⟨d, false, m, v⟩)]), Ob.box (lbx l r) :: (S1 ++ [Ob.box (ntz ⟨d, false, m, v⟩)]))] (by rfl) (by kernel_rfl) (rs := [136]) (by rfl) nrSeA0 (fun base => ⟨
            ⟨rfl, rfl, by
              refine n_call0B rfl cf112 rfl (Eq.trans (by simp only [nl] <;> rfl) nrSeA0) (by repeat (first | exact .nil | refine .cons ?_ ?_ | exact ren_ints | exact .lf (.val _) | exact .lf (lf_ints (.inl rfl)) | exact .bp ⟨rfl, rfl⟩ | exact .bp (.inl ⟨rfl, rfl⟩) | exact .bp (.inr ⟨rfl, rfl⟩) | exact .lf (lf_fnrp (sqz_lf _)) | exact .lf (.rp (sqz_lf _)) | exact ren_qe | exact .lf (lf_sqz _) | exact .lf (lf_qe (.inl rfl)) | exact ren_sqz rfl | exact ren_sqz0 rfl | exact ren_bys0 rfl | exact .lf (D.flat_lf rfl) | exact ren_lits rfl | exact .lf (lf_ssz _) | exact .lf (lf_pqz _) | exact ren_q0 rfl | exact ren_pq rfl | exact ren_nl0 | exact ren_sq | exact .lf (.fn (fun d h => by cases h) (fun d h => by cases h)))) (hans) lfSeA0 ?_
              exact AOps.nil ⟨rfl, rfl, rfl⟩⟩,
            trivial⟩) ?_
        refine Walk.cases [([false, false], Ob.box (lbx l r) :: (S1 ++ [Ob.box (ntz ⟨d, false, m, v⟩)]), Ob.box (lbx l r) :: (S1 ++ [Ob.box (ntz ⟨d, false, m, v⟩)]))] (by rfl) (by kernel_rfl) (rs := [130, 137]) (by rfl) nrSeA0 (fun base => ⟨
            ⟨rfl, rfl, by
              refine n_build rfl si161 (Eq.trans (by simp only [nl] <;> rfl) nrSeA0) (Eq.trans (by simp only [nl] <;> rfl) nrSeA0) rfl ?_
              exact AOps.nil ⟨rfl, rfl, rfl⟩⟩,
            trivial⟩) ?_
        refine Walk.cases [([false, false], Ob.box (lbx l r) :: (S1 ++ [Ob.box (ntz ⟨d, false, m, v⟩)]), Ob.box (lbx l r) :: (S1 ++ [Ob.box (ntz ⟨d, false, m, v⟩)]))] (by rfl) (by kernel_rfl) (rs := [138]) (by rfl) nrSeA0 (fun base => ⟨
            ⟨rfl, rfl, by
              refine n_lit rfl Try.underlying146 ti161 zi161 rfl rfl (Eq.trans (by simp only [nl] <;> rfl) nrSeA0) rfl nrSeA0 ?_
              exact AOps.nil ⟨rfl, rfl, rfl⟩⟩,
            trivial⟩) ?_
        refine Walk.cases [([false, false], Ob.box (lbx l r) :: (S1 ++ [Ob.box (ntz ⟨d, false, m, v⟩)]), Ob.box (lbx l r) :: (S1.set (r 0) (Ob.row (l.bag.length + 1) 6) ++ [Ob.box (ntz ⟨d, false, m, v⟩)]))] (by rfl) (by kernel_rfl) (rs := [128, 139]) (by rfl) nrSeA0 (fun base => ⟨
            ⟨rfl, rfl, by
              refine n_append_own (zs := (l.bag ++ [(⟨true, (l.x false).pk 0 []⟩ : Wy)]).map wyz) (m := l.bag.length + 1) (S' := Ob.box (lbx l r) :: (S1.set (r 0) (Ob.row (l.bag.length + 1) 6) ++ [Ob.box (ntz ⟨d, false, m, v⟩)])) rfl Try.underlying146 Try.underlying146 ei161 nrSeA0 (by show (S1 ++ _)[r 0]? = _; exact hr.at (by decide)) (by rw [List.length_map]; rfl) nrSeA0 (by exact map_one (f := wyz) (fun _ => rfl)) (by exact one_one rfl) (by rw [List.map_append]; rfl) (by rw [List.length_map]; rfl) (by have := hg.bl; omega) (by exact congrArg (_ :: ·) (List.set_append_left _ _ (hr.lt (by decide)))) ?_
              exact AOps.nil ⟨rfl, rfl, rfl⟩⟩,
            trivial⟩) ?_
        refine Walk.cases [([true, false], Ob.box (lbx l r) :: (S1.set (r 0) (Ob.row (l.bag.length + 1) 6) ++ [Ob.box (ntz ⟨d, false, m, v⟩)]), Ob.box (lbx l r) :: (S1.set (r 0) (Ob.row (l.bag.length + 1) 6) ++ [Ob.box (ntz ⟨d, false, m, v⟩)]))] (by rfl) (by kernel_rfl) (rs := [124]) (by rfl) nrSeA0 (fun base => ⟨
            ⟨rfl, rfl, by
              refine n_nilCheck rfl nrSeA0 rfl ?_
              exact AOps.nil ⟨rfl, rfl, rfl⟩⟩,
            trivial⟩) ?_
        refine Walk.cases [([true, false], Ob.box (lbx l r) :: (S1.set (r 0) (Ob.row (l.bag.length + 1) 6) ++ [Ob.box (ntz ⟨d, false, m, v⟩)]), Ob.box (lbx l r) :: (S1.set (r 0) (Ob.row (l.bag.length + 1) 6) ++ [Ob.box (ntz ⟨d, false, m, v⟩)]))] (by rfl) (by kernel_rfl) (rs := [141]) (by rfl) nrSeA0 (fun base => ⟨
            ⟨rfl, rfl, by
              refine n_fieldAddr rfl fd149_1 ti146 rfl nrSeA0 rfl nrSeA0 ?_
              exact AOps.nil ⟨rfl, rfl, rfl⟩⟩,
            trivial⟩) ?_
        refine Walk.cases (d := .any) [([true, false], Ob.box (lbx l r) :: (S1.set (r 0) (Ob.row (l.bag.length + 1) 6) ++ [Ob.box (ntz ⟨d, false, m, v⟩)]), Ob.box (lbx { l with bag := (l.bag ++ [(⟨true, (l.x false).pk 0 []⟩ : Wy)]) } r) :: (S1.set (r 0) (Ob.row (l.bag.length + 1) 6) ++ [Ob.box (ntz ⟨d, false, m, v⟩)]))] (by rfl) (by kernel_rfl) (rs := [142, 140]) (by rfl) nrSeA0 (fun base => ⟨
            ⟨rfl, rfl, by
              refine n_store ti146 nrSeA0 nrSeA0 nrSeA0 rfl nrSeA0 rfl rfl rfl nrSeA0 ?_
              exact AOps.nil ⟨rfl, rfl, rfl⟩⟩,
            trivial⟩) ?_
        refine Walk.done ?_
        refine finK_normal .nil nrSeA0 ?_
        rw [hz] at hK
        first
        | exact hK r2 S2 h2
        | exact hK r _ (Rw.app (Rw.set h1 (k := 0) (by decide) (Prod.ext (List.length_append ..) rfl) (fun j hj hne => by rcases j with _ | _ | _ | _ | _ | j <;> first | rfl | exact absurd rfl hne | omega)))
        | exact hK r _ (Rw.app (Rw.set hr (k := 0) (by decide) (Prod.ext (List.length_append ..) rfl) (fun j hj hne => by rcases j with _ | _ | _ | _ | _ | j <;> first | rfl | exact absurd rfl hne | omega)))
        | (rw [List.take_length] at *; exact hK r _ hs)
        | exact hK (fun k => if k = 0 then S1.length + 1 else r k) _ (Rw.new (i := S1.length + 1) (n := l.bag.length - 1) hr (by omega) (by rw [List.getElem?_append_right (by omega), Nat.add_sub_cancel_left]; rfl) (Prod.ext (List.length_eraseIdx_of_lt hil) rfl) (fun j hj hne => by rcases j with _ | _ | _ | _ | _ | j <;> first | rfl | exact absurd rfl hne | omega))
        | exact hK r _ (Rw.app hr)
      · try simp only [nh] at hc6
        have hd2 : ¬ d = 2 := by simpa using hc6
        refine AWP.seq ?_
        refine AWP.region ?_
        refine n_ibin rfl nrSeA0 nrSeA0 rfl ?_
        refine n_assign rfl nrSeA0 ?_
        refine AOps.nil ?_
        refine AWP.cond nrSeA0 (fun hc7 => ?_) (fun hc7 => ?_)
        · try simp only [nh] at hc7
          have hd3 := hc7
          refine AWP.seq ?_
          refine AWP.region ?_
          refine n_move rfl nrSeA0 ?_
          refine n_nilCheck rfl nrSeA0 rfl ?_
          refine n_fieldAddr rfl fd149_1 ti146 rfl nrSeA0 rfl nrSeA0 ?_
          refine n_load rfl ti146 nrSeA0 nrSeA0 rfl nrSeA0 ?_
          refine n_len rfl Try.underlying146 nrSeA0 (by first | rw [ints_length] | rw [List.length_map] | rfl) ?_
          refine n_ibin rfl nrSeA0 nrSeA0 rfl ?_
          refine AOps.nil ?_
          refine AWP.cond nrSeA0 (fun hc8 => ?_) (fun hc8 => ?_)
          · try simp only [nh] at hc8
            have hil : (m.toNat % l.bag.length) < l.bag.length := Nat.mod_lt _ (by omega)
            obtain ⟨w, hw0⟩ : ∃ w, l.bag[(m.toNat % l.bag.length)]? = some w := ⟨_, List.getElem?_eq_getElem hil⟩
            have hxw := map_at wyz hw0
            have hwc := hg.pk w (List.mem_of_getElem? hw0)
            have hz : l.does (⟨d, false, m, v⟩ : Nt) = l.takes w := by unfold Ln.does; rw [if_neg hd0, if_neg hd1, if_neg hd2, if_pos hd3]; dsimp only [Nt.i]; rw [hw0]
            refine AWP.anyThen 16 (by kernel_rfl) (by kernel_rfl) rfl (by kernel_rfl) (by kernel_rfl) ?_
            refine Walk.still (rs := [0]) (by rfl) nrSeA0 (fun base => by
                refine n_move rfl nrSeA0 ?_
                exact AOps.nil ⟨rfl, rfl, rfl⟩) ?_
            refine Walk.still (rs := [0]) (by rfl) nrSeA0 (fun base => by
                refine n_move rfl nrSeA0 ?_
                exact AOps.nil ⟨rfl, rfl, rfl⟩) ?_
            refine Walk.still (rs := [152]) (by rfl) nrSeA0 (fun base => by
                refine n_nilCheck rfl nrSeA0 rfl ?_
                exact AOps.nil ⟨rfl, rfl, rfl⟩) ?_
            refine Walk.still (rs := [153]) (by rfl) nrSeA0 (fun base => by
                refine n_fieldAddr rfl fd149_1 ti146 rfl nrSeA0 rfl nrSeA0 ?_
                exact AOps.nil ⟨rfl, rfl, rfl⟩) ?_
            refine Walk.still (rs := [154]) (by rfl) nrSeA0 (fun base => by
                refine n_load rfl ti146 nrSeA0 nrSeA0 rfl nrSeA0 ?_
                exact AOps.nil ⟨rfl, rfl, rfl⟩) ?_
            refine Walk.still (rs := [3]) (by rfl) nrSeA0 (fun base => by
                refine n_fieldAddr rfl fd151_2 ti120 rfl nrSeA0 rfl nrSeA0 ?_
                exact AOps.nil ⟨rfl, rfl, rfl⟩) ?_
            refine Walk.still (rs := [156]) (by rfl) nrSeA0 (fun base => by
                refine n_load rfl ti120 nrSeA0 nrSeA0 rfl nrSeA0 ?_
                exact AOps.nil ⟨rfl, rfl, rfl⟩) ?_
            refine Walk.still (rs := [157]) (by rfl) nrSeA0 (fun base => by
                first | refine n_conv rfl nrSeA0 (by rw [Try.underlying120]; rfl) Try.underlying3 (wrap_id (by first | omega | (simp only [loK]; omega)) (by first | omega | (simp only [hiK]; omega))) ?_ | refine n_conv rfl nrSeA0 (by rw [Try.underlying120]; rfl) Try.underlying3 rfl ?_
                exact AOps.nil ⟨rfl, rfl, rfl⟩) ?_
            refine Walk.still (rs := [0]) (by rfl) nrSeA0 (fun base => by
                refine n_move rfl nrSeA0 ?_
                exact AOps.nil ⟨rfl, rfl, rfl⟩) ?_
            refine Walk.still (rs := [159]) (by rfl) nrSeA0 (fun base => by
                refine n_nilCheck rfl nrSeA0 rfl ?_
                exact AOps.nil ⟨rfl, rfl, rfl⟩) ?_
            refine Walk.still (rs := [160]) (by rfl) nrSeA0 (fun base => by
                refine n_fieldAddr rfl fd149_1 ti146 rfl nrSeA0 rfl nrSeA0 ?_
                exact AOps.nil ⟨rfl, rfl, rfl⟩) ?_
            refine Walk.still (rs := [161]) (by rfl) nrSeA0 (fun base => by
                refine n_load rfl ti146 nrSeA0 nrSeA0 rfl nrSeA0 ?_
                exact AOps.nil ⟨rfl, rfl, rfl⟩) ?_
            refine Walk.still (rs := [162]) (by rfl) nrSeA0 (fun base => by
                refine n_len rfl Try.underlying146 nrSeA0 (by first | rw [ints_length] | rw [List.length_map] | rfl) ?_
                exact AOps.nil ⟨rfl, rfl, rfl⟩) ?_
            refine Walk.still (rs := [158, 163]) (by rfl) nrSeA0 (fun base => by
                refine n_rem (c := (((m.toNat % l.bag.length) : Nat) : Int)) rfl nrSeA0 nrSeA0 (by omega) (rem_at hn.1.1) ?_
                exact AOps.nil ⟨rfl, rfl, rfl⟩) ?_
            refine Walk.still (rs := [155, 164]) (by rfl) nrSeA0 (fun base => by
                refine n_indexAddr rfl Try.underlying146 ti161 rfl nrSeA0 nrSeA0 (by omega) (by exact hxw) rfl ?_
                exact AOps.nil ⟨rfl, rfl, rfl⟩) ?_
            refine Walk.still (rs := [165]) (by rfl) nrSeA0 (fun base => by
                refine n_load rfl ti161 nrSeA0 nrSeA0 rfl nrSeA0 ?_
                exact AOps.nil ⟨rfl, rfl, rfl⟩) ?_
            refine Walk.done ?_
            refine op_callK (dst := some 167) rfl cf113 rfl (Eq.trans (by simp only [nl] <;> rfl) nrSeA0) (takes_any l r _ hr.app hg w hwc _ (fun r2 S2 h2 => ?_))
            refine AOps.nil ?_
            refine finK_normal .nil nrSeA0 ?_
            rw [hz] at hK
            first
            | exact hK r2 S2 h2
            | exact hK r _ (Rw.app (Rw.set h1 (k := 0) (by decide) (Prod.ext (List.length_append ..) rfl) (fun j hj hne => by rcases j with _ | _ | _ | _ | _ | j <;> first | rfl | exact absurd rfl hne | omega)))
            | exact hK r _ (Rw.app (Rw.set hr (k := 0) (by decide) (Prod.ext (List.length_append ..) rfl) (fun j hj hne => by rcases j with _ | _ | _ | _ | _ | j <;> first | rfl | exact absurd rfl hne | omega)))
            | (rw [List.take_length] at *; exact hK r _ hs)
            | exact hK (fun k => if k = 0 then S1.length + 1 else r k) _ (Rw.new (i := S1.length + 1) (n := l.bag.length - 1) hr (by omega) (by rw [List.getElem?_append_right (by omega), Nat.add_sub_cancel_left]; rfl) (Prod.ext (List.length_eraseIdx_of_lt hil) rfl) (fun j hj hne => by rcases j with _ | _ | _ | _ | _ | j <;> first | rfl | exact absurd rfl hne | omega))
            | exact hK r _ (Rw.app hr)
          · try simp only [nh] at hc8
            have hb0 : l.bag = [] := List.eq_nil_of_length_eq_zero (by omega)
            have hz : l.does (⟨d, false, m, v⟩ : Nt) = l := by unfold Ln.does; rw [if_neg hd0, if_neg hd1, if_neg hd2, if_pos hd3, hb0]; rfl
            refine AWP.skip ?_
            refine finK_normal .nil nrSeA0 ?_
            rw [hz] at hK
            first
            | exact hK r2 S2 h2
            | exact hK r _ (Rw.app (Rw.set h1 (k := 0) (by decide) (Prod.ext (List.length_append ..) rfl) (fun j hj hne => by rcases j with _ | _ | _ | _ | _ | j <;> first | rfl | exact absurd rfl hne | omega)))
            | exact hK r _ (Rw.app (Rw.set hr (k := 0) (by decide) (Prod.ext (List.length_append ..) rfl) (fun j hj hne => by rcases j with _ | _ | _ | _ | _ | j <;> first | rfl | exact absurd rfl hne | omega)))
            | (rw [List.take_length] at *; exact hK r _ hs)
            | exact hK (fun k => if k = 0 then S1.length + 1 else r k) _ (Rw.new (i := S1.length + 1) (n := l.bag.length - 1) hr (by omega) (by rw [List.getElem?_append_right (by omega), Nat.add_sub_cancel_left]; rfl) (Prod.ext (List.length_eraseIdx_of_lt hil) rfl) (fun j hj hne => by rcases j with _ | _ | _ | _ | _ | j <;> first | rfl | exact absurd rfl hne | omega))
            | exact hK r _ (Rw.app hr)
        · try simp only [nh] at hc7
          have hd3 : ¬ d = 3 := by simpa using hc7
          refine AWP.seq ?_
          refine AWP.region ?_
          refine n_move rfl nrSeA0 ?_
          refine n_nilCheck rfl nrSeA0 rfl ?_
          refine n_fieldAddr rfl fd149_1 ti146 rfl nrSeA0 rfl nrSeA0 ?_
          refine n_load rfl ti146 nrSeA0 nrSeA0 rfl nrSeA0 ?_
          refine n_len rfl Try.underlying146 nrSeA0 (by first | rw [ints_length] | rw [List.length_map] | rfl) ?_
          refine n_ibin rfl nrSeA0 nrSeA0 rfl ?_
          refine AOps.nil ?_
          refine AWP.cond nrSeA0 (fun hc9 => ?_) (fun hc9 => ?_)
          · try simp only [nh] at hc9
            have hb0 : 0 < l.bag.length := by omega
            have hil : (m.toNat % l.bag.length) < l.bag.length := Nat.mod_lt _ (by omega)
            have hz : l.does (⟨d, false, m, v⟩ : Nt) = { l with bag := l.bag.eraseIdx (m.toNat % l.bag.length) } := by unfold Ln.does; rw [if_neg hd0, if_neg hd1, if_neg hd2, if_neg hd3]; rfl
            refine AWP.seq ?_
            refine AWP.anyStill (by kernel_rfl) (by kernel_rfl) ?_
            refine Walk.still (rs := [3]) (by rfl) nrSeA0 (fun base => by
                refine n_fieldAddr rfl fd151_2 ti120 rfl nrSeA0 rfl nrSeA0 ?_
                exact AOps.nil ⟨rfl, rfl, rfl⟩) ?_
            refine Walk.still (rs := [21]) (by rfl) nrSeA0 (fun base => by
                refine n_load rfl ti120 nrSeA0 nrSeA0 rfl nrSeA0 ?_
                exact AOps.nil ⟨rfl, rfl, rfl⟩) ?_
            refine Walk.still (rs := [22]) (by rfl) nrSeA0 (fun base => by
                first | refine n_conv rfl nrSeA0 (by rw [Try.underlying120]; rfl) Try.underlying3 (wrap_id (by first | omega | (simp only [loK]; omega)) (by first | omega | (simp only [hiK]; omega))) ?_ | refine n_conv rfl nrSeA0 (by rw [Try.underlying120]; rfl) Try.underlying3 rfl ?_
                exact AOps.nil ⟨rfl, rfl, rfl⟩) ?_
            refine Walk.still (rs := [0]) (by rfl) nrSeA0 (fun base => by
                refine n_move rfl nrSeA0 ?_
                exact AOps.nil ⟨rfl, rfl, rfl⟩) ?_
            refine Walk.still (rs := [24]) (by rfl) nrSeA0 (fun base => by
                refine n_nilCheck rfl nrSeA0 rfl ?_
                exact AOps.nil ⟨rfl, rfl, rfl⟩) ?_
            refine Walk.still (rs := [25]) (by rfl) nrSeA0 (fun base => by
                refine n_fieldAddr rfl fd149_1 ti146 rfl nrSeA0 rfl nrSeA0 ?_
                exact AOps.nil ⟨rfl, rfl, rfl⟩) ?_
            refine Walk.still (rs := [26]) (by rfl) nrSeA0 (fun base => by
                refine n_load rfl ti146 nrSeA0 nrSeA0 rfl nrSeA0 ?_
                exact AOps.nil ⟨rfl, rfl, rfl⟩) ?_
            refine Walk.still (rs := [27]) (by rfl) nrSeA0 (fun base => by
                refine n_len rfl Try.underlying146 nrSeA0 (by first | rw [ints_length] | rw [List.length_map] | rfl) ?_
                exact AOps.nil ⟨rfl, rfl, rfl⟩) ?_
            refine Walk.still (rs := [23, 28]) (by rfl) nrSeA0 (fun base => by
                refine n_rem (c := (((m.toNat % l.bag.length) : Nat) : Int)) rfl nrSeA0 nrSeA0 (by omega) (rem_at hn.1.1) ?_
                exact AOps.nil ⟨rfl, rfl, rfl⟩) ?_
            refine Walk.still (rs := [29]) (by rfl) nrSeA0 (fun base => by
                refine n_assign rfl nrSeA0 ?_
                exact AOps.nil ⟨rfl, rfl, rfl⟩) ?_
            refine Walk.done ?_
            refine AWP.region ?_
            refine n_move rfl nrSeA0 ?_
            refine n_move rfl nrSeA0 ?_
            refine n_nilCheck rfl nrSeA0 rfl ?_
            refine n_fieldAddr rfl fd149_1 ti146 rfl nrSeA0 rfl nrSeA0 ?_
            refine n_load rfl ti146 nrSeA0 nrSeA0 rfl nrSeA0 ?_
            refine op_callK (dst := some 35) rfl cf211 rfl (Eq.trans (by simp only [nl] <;> rfl) nrSeA0) (w_cloneL l.bag hb0 hbl _ _ S1 _ _ (fun cap hcap => ?_))
            refine n_move rfl nrSeA0 ?_
            refine n_move rfl nrSeA0 ?_
            first | refine n_iadd rfl nrSeA0 nrSeA0 rfl (by omega) (by omega) ?_ | refine n_ibin rfl nrSeA0 nrSeA0 rfl ?_
            refine op_callK (dst := some 39) rfl cf210 rfl (Eq.trans (by simp only [nl] <;> rfl) nrSeA0) (del_L l.bag (m.toNat % l.bag.length) hil hbl cap hcap _ S1 _ _ ?_)
            refine n_nilCheck rfl nrSeA0 rfl ?_
            refine n_fieldAddr rfl fd149_1 ti146 rfl nrSeA0 rfl nrSeA0 ?_
            refine n_store ti146 nrSeA0 nrSeA0 nrSeA0 rfl rfl rfl rfl rfl (S' := Ob.box [vi (l.x false).b, vi (l.x false).p, vi (l.x false).s, vi (l.x false).a, vi (l.x false).e, .sl none ((l.x false).q.map qe) .ro, vi (l.x true).b, vi (l.x true).p, vi (l.x true).s, vi (l.x true).a, vi (l.x true).e, .sl none ((l.x true).q.map qe) .ro, .bq (S1.length + 2) 0 (l.bag.length - 1) cap, .sl none (ints .u8 (l.sent false)) (.own (r 1 + 1)), .sl none (ints .u8 (l.sent true)) (.own (r 2 + 1)), .sl none (ints .u8 (l.came false)) (.own (r 3 + 1)), .sl none (ints .u8 (l.came true)) (.own (r 4 + 1))] :: (S1 ++ [Ob.box (ntz ⟨d, false, m, v⟩), Ob.box (fw (l.bag.eraseIdx (m.toNat % l.bag.length)) ++ (z6 ++ List.replicate ((cap - l.bag.length) * 6) D.any))])) nrSeA0 ?_; refine AOps.rowBq (j := S1.length + 2) (j' := 0) (i := 12) (n := l.bag.length - 1) (cap := cap) (sz := 6) (ds := fw (l.bag.eraseIdx (m.toNat % l.bag.length)) ++ (z6 ++ List.replicate ((cap - l.bag.length) * 6) D.any)) (xs := (l.bag.eraseIdx (m.toNat % l.bag.length)).map wyz) (b := z6 ++ List.replicate ((cap - l.bag.length) * 6) D.any) (S' := Ob.box [vi (l.x false).b, vi (l.x false).p, vi (l.x false).s, vi (l.x false).a, vi (l.x false).e, .sl none ((l.x false).q.map qe) .ro, vi (l.x true).b, vi (l.x true).p, vi (l.x true).s, vi (l.x true).a, vi (l.x true).e, .sl none ((l.x true).q.map qe) .ro, .sl none ((l.bag.eraseIdx (m.toNat % l.bag.length)).map wyz) (.own ((S1.length + 1) + 1)), .sl none (ints .u8 (l.sent false)) (.own (r 1 + 1)), .sl none (ints .u8 (l.sent true)) (.own (r 2 + 1)), .sl none (ints .u8 (l.came false)) (.own (r 3 + 1)), .sl none (ints .u8 (l.came true)) (.own (r 4 + 1))] :: (S1 ++ [Ob.box (ntz ⟨d, false, m, v⟩), Ob.row (l.bag.length - 1) 6])) rfl rfl nrSeA0 rfl rfl (by rw [List.length_map, List.length_eraseIdx_of_lt hil]) (by simp only [List.length_append, fw_len, List.length_replicate, List.length_eraseIdx_of_lt hil, List.length_cons, List.length_nil]; omega) (by exact map_one (f := wyz) (fun _ => rfl)) (by intro x hx dd hd; obtain ⟨w, _, rfl⟩ := List.mem_map.1 hx; exact wyz_one w dd hd) nrSeA0 ?_
            refine AOps.nil ?_
            refine finK_normal .nil nrSeA0 ?_
            rw [hz] at hK
            first
            | exact hK r2 S2 h2
            | exact hK r _ (Rw.app (Rw.set h1 (k := 0) (by decide) (Prod.ext (List.length_append ..) rfl) (fun j hj hne => by rcases j with _ | _ | _ | _ | _ | j <;> first | rfl | exact absurd rfl hne | omega)))
            | exact hK r _ (Rw.app (Rw.set hr (k := 0) (by decide) (Prod.ext (List.length_append ..) rfl) (fun j hj hne => by rcases j with _ | _ | _ | _ | _ | j <;> first | rfl | exact absurd rfl hne | omega)))
            | (rw [List.take_length] at *; exact hK r _ hs)
            | exact hK (fun k => if k = 0 then S1.length + 1 else r k) _ (Rw.new (i := S1.length + 1) (n := l.bag.length - 1) hr (by omega) (by rw [List.getElem?_append_right (by omega), Nat.add_sub_cancel_left]; rfl) (Prod.ext (List.length_eraseIdx_of_lt hil) rfl) (fun j hj hne => by rcases j with _ | _ | _ | _ | _ | j <;> first | rfl | exact absurd rfl hne | omega))
            | exact hK r _ (Rw.app hr)
          · try simp only [nh] at hc9
            have hb0 : l.bag = [] := List.eq_nil_of_length_eq_zero (by omega)
            have hz : l.does (⟨d, false, m, v⟩ : Nt) = l := by unfold Ln.does; rw [if_neg hd0, if_neg hd1, if_neg hd2, if_neg hd3, hb0]; rcases l with ⟨a1, a2, a3, a4⟩; dsimp only at hb0; subst hb0; rfl
            refine AWP.skip ?_
            refine finK_normal .nil nrSeA0 ?_
            rw [hz] at hK
            first
            | exact hK r2 S2 h2
            | exact hK r _ (Rw.app (Rw.set h1 (k := 0) (by decide) (Prod.ext (List.length_append ..) rfl) (fun j hj hne => by rcases j with _ | _ | _ | _ | _ | j <;> first | rfl | exact absurd rfl hne | omega)))
            | exact hK r _ (Rw.app (Rw.set hr (k := 0) (by decide) (Prod.ext (List.length_append ..) rfl) (fun j hj hne => by rcases j with _ | _ | _ | _ | _ | j <;> first | rfl | exact absurd rfl hne | omega)))
            | (rw [List.take_length] at *; exact hK r _ hs)
            | exact hK (fun k => if k = 0 then S1.length + 1 else r k) _ (Rw.new (i := S1.length + 1) (n := l.bag.length - 1) hr (by omega) (by rw [List.getElem?_append_right (by omega), Nat.add_sub_cancel_left]; rfl) (Prod.ext (List.length_eraseIdx_of_lt hil) rfl) (fun j hj hne => by rcases j with _ | _ | _ | _ | _ | j <;> first | rfl | exact absurd rfl hne | omega))
            | exact hK r _ (Rw.app hr)

end Go.Proofs.Ytanfmpkjcoolmaa.Se
