/- Two ends and what is on its way. -/
import Derived.Test.YtanfmpkjcoolmaaSeA
set_option linter.unusedVariables false
set_option linter.unusedSimpArgs false
namespace Go.Proofs.Ytanfmpkjcoolmaa.Se
open Go Go.Abs Go.Abs.Tb Go.Proofs.Ytanfmpkjcoolmaa.Pk Sb Sc Sd
attribute [local irreducible] AWP AOps Does

theorem nrSeB0 {α : Type} {a b : α} (h : a = b := by first|simp only[nf,nfV,Nat.beq]<;>rfl|rfl) : a = b := h
theorem lfSeB0 {d : D} (h : LF d := by first | exact .val _ | exact lf_ints (.inl rfl) | exact lf_ints (.inr rfl) | exact .any | exact lf_taken | exact lf_sentQ | exact lf_mapG pqz_lf (.inl rfl) | exact lf_fnrp (sqz_lf _) | exact lf_sqz _ | exact lf_qe (.inl rfl) | exact .agg (lf_cons (.val _) (lf_cons (.val _) (lf_cons (.val _) (lf_cons (.val _) (lf_cons (.val _) (lf_cons (lf_qe (.inl rfl)) lf_nil)))))) | exact D.flat_lf rfl | exact lf_ssz _ | exact lf_pqz _ | exact lf_nl0 | exact .tup (lf_cons (lf_ssz _) (lf_cons (.val _) lf_nil)) | exact .tup (lf_cons (lf_pqz _) (lf_cons (.val _) lf_nil)) | exact .tup (lf_cons (lf_ints (.inl rfl)) (lf_cons (.val _) lf_nil)) | exact .tup (lf_cons (lf_ssz _) (lf_cons (lf_ints (.inl rfl)) (lf_cons (.val _) lf_nil))) | exact .tup (lf_cons (lf_ssz _) (lf_cons (lf_ssz _) (lf_cons (.val _) lf_nil))) | exact lf_sent) : LF d := h
set_option maxHeartbeats 4000000 in
theorem does_1 (l : Ln) (r : Nat → Nat) (S1 : List Ob) (hr : Rw l r S1) (hg : Gd l) (d m v : Int) (hn : (0 ≤ m ∧ m ≤ 65535) ∧ (0 ≤ v ∧ v ≤ 255)) (K : D → List Ob → Prop) (hK : ∀ r S2, Rw (l.does (⟨d, true, m, v⟩ : Nt)) r S2 → K (.tup []) (.box (lbx (l.does (⟨d, true, m, v⟩ : Nt)) r) :: S2)) : DoesK Try.prog 110 [.bp 0 0, .agg [vi d, vb true, .val (.int .u16 m), .val (.int .u8 v)]] (Ob.box (lbx l r) :: S1) K := by
  refine DoesK.of_body (rvs := []) Try.func110 rfl rfl rfl rfl ?_
  obtain ⟨z, y, e, hsend, hcase⟩ := l_sendA (l.x true) (hg.ok true) (hg.lt true) v
  have hans := l_answerQ (l.x true) (hg.ok true)
  have hres := resent (l.x true) (hg.ok true)
  have hal := ((l.x true)).again_len
  have hm16 := (hg.ok true).m
  have hsn := hg.sn true
  have hbl := hg.bl
  refine AWP.seq ?_
  refine AWP.region ?_
  refine n_box rfl nrSeB0 rfl rfl nrSeB0 nrSeB0 ?_
  refine AOps.nil ?_
  refine AWP.seq ?_
  refine AWP.region ?_
  refine n_assign rfl nrSeB0 ?_
  refine AOps.nil ?_
  refine AWP.seq ?_
  refine AWP.seq ?_
  refine AWP.region ?_
  refine n_fieldAddr rfl fd151_1 ti4 rfl nrSeB0 rfl nrSeB0 ?_
  refine n_load rfl ti4 nrSeB0 nrSeB0 rfl nrSeB0 ?_
  refine AOps.nil ?_
  refine AWP.cond_true nrSeB0 ?_
  refine AWP.region ?_
  refine n_assign rfl nrSeB0 ?_
  refine AOps.nil ?_
  refine AWP.seq ?_
  refine AWP.region ?_
  refine n_fieldAddr rfl fd151_0 ti3 rfl nrSeB0 rfl nrSeB0 ?_
  refine n_load rfl ti3 nrSeB0 nrSeB0 rfl nrSeB0 ?_
  refine AOps.nil ?_
  refine AWP.block ?_
  refine AWP.seq ?_
  refine AWP.region ?_
  refine n_ibin rfl nrSeB0 nrSeB0 rfl ?_
  refine n_assign rfl nrSeB0 ?_
  refine AOps.nil ?_
  refine AWP.cond nrSeB0 (fun hc2 => ?_) (fun hc2 => ?_)
  · try simp only [nh] at hc2
    have hd0 := hc2
    refine AWP.seq ?_
    refine AWP.reserve _ nrSeB0 ?_
    refine AWP.reserve _ nrSeB0 ?_
    refine AWP.anyT [14, 15, 16, 17] (fun p => match p with | [false, false, false, false] => Ob.box (lbx l r) :: (S1 ++ [Ob.box (ntz ⟨d, true, m, v⟩), Ob.dead, Ob.dead]) | [false, false, false, true] => Ob.box (lbx l r) :: (S1 ++ [Ob.box (ntz ⟨d, true, m, v⟩), Ob.dead, Ob.dead]) | [false, false, true, false] => Ob.box (lbx l r) :: (S1 ++ [Ob.box (ntz ⟨d, true, m, v⟩), Ob.dead, Ob.dead]) | [false, false, true, true] => Ob.box (lbx l r) :: (S1 ++ [Ob.box (ntz ⟨d, true, m, v⟩), Ob.dead, Ob.dead]) | [false, true, false, false] => Ob.box (lbx l r) :: (S1 ++ [Ob.box (ntz ⟨d, true, m, v⟩), Ob.dead, Ob.box z5]) | [false, true, false, true] => Ob.box (lbx l r) :: (S1 ++ [Ob.box (ntz ⟨d, true, m, v⟩), Ob.dead, Ob.box (pqz y)]) | [false, true, true, false] => Ob.box (lbx l r) :: (S1 ++ [Ob.box (ntz ⟨d, true, m, v⟩), Ob.dead, Ob.box z5]) | [false, true, true, true] => Ob.box (lbx l r) :: (S1 ++ [Ob.box (ntz ⟨d, true, m, v⟩), Ob.dead, Ob.box (pqz y)]) | [true, false, false, false] => Ob.box (lbx l r) :: (S1 ++ [Ob.box (ntz ⟨d, true, m, v⟩), Ob.box z6, Ob.dead]) | [true, false, false, true] => Ob.box (lbx l r) :: (S1 ++ [Ob.box (ntz ⟨d, true, m, v⟩), Ob.box z6, Ob.dead]) | [true, false, true, false] => Ob.box (lbx l r) :: (S1 ++ [Ob.box (ntz ⟨d, true, m, v⟩), Ob.box (sqz z), Ob.dead]) | [true, false, true, true] => Ob.box (lbx l r) :: (S1 ++ [Ob.box (ntz ⟨d, true, m, v⟩), Ob.box (sqz z), Ob.dead]) | [true, true, false, false] => Ob.box (lbx l r) :: (S1 ++ [Ob.box (ntz ⟨d, true, m, v⟩), Ob.box z6, Ob.box z5]) | [true, true, false, true] => Ob.box (lbx l r) :: (S1 ++ [Ob.box (ntz ⟨d, true, m, v⟩), Ob.box z6, Ob.box (pqz y)]) | [true, true, true, false] => Ob.box (lbx l r) :: (S1 ++ [Ob.box (ntz ⟨d, true, m, v⟩), Ob.box (sqz z), Ob.box z5]) | [true, true, true, true] => Ob.box (lbx l r) :: (S1 ++ [Ob.box (ntz ⟨d, true, m, v⟩), Ob.box (sqz z), Ob.box (pqz y)]) | _ => []) (by kernel_rfl) (by kernel_rfl) rfl rfl ?_
    refine Walk.cases [([false, false, false, false], Ob.box (lbx l r) :: (S1 ++ [Ob.box (ntz ⟨d, true, m, v⟩), Ob.dead, Ob.dead]), Ob.box (lbx l r) :: (S1 ++ [Ob.box (ntz ⟨d, true, m, v⟩), Ob.dead, Ob.dead])), ([false, true, false, false], Ob.box (lbx l r) :: (S1 ++ [Ob.box (ntz ⟨d, true, m, v⟩), Ob.dead, Ob.box z5]), Ob.box (lbx l r) :: (S1 ++ [Ob.box (ntz ⟨d, true, m, v⟩), Ob.dead, Ob.box z5])), ([true, false, false, false], Ob.box (lbx l r) :: (S1 ++ [Ob.box (ntz ⟨d, true, m, v⟩), Ob.box z6, Ob.dead]), Ob.box (lbx l r) :: (S1 ++ [Ob.box (ntz ⟨d, true, m, v⟩), Ob.box z6, Ob.dead])), ([true, true, false, false], Ob.box (lbx l r) :: (S1 ++ [Ob.box (ntz ⟨d, true, m, v⟩), Ob.box z6, Ob.box z5]), Ob.box (lbx l r) :: (S1 ++ [Ob.box (ntz ⟨d, true, m, v⟩), Ob.box z6, Ob.box z5]))] (by rfl) (by kernel_rfl) (rs := [0]) (by rfl) nrSeB0 (fun base => ⟨
        ⟨rfl, rfl, by
          refine n_move rfl nrSeB0 ?_
          exact AOps.nil ⟨rfl, rfl, rfl⟩⟩,
        ⟨rfl, rfl, by
          refine n_move rfl nrSeB0 ?_
          exact AOps.nil ⟨rfl, rfl, rfl⟩⟩,
        ⟨rfl, rfl, by
          refine n_move rfl nrSeB0 ?_
          exact AOps.nil ⟨rfl, rfl, rfl⟩⟩,
        ⟨rfl, rfl, by
          refine n_move rfl nrSeB0 ?_
          exact AOps.nil ⟨rfl, rfl, rfl⟩⟩,
        trivial⟩) ?_
    refine Walk.cases [([false, false, false, false], Ob.box (lbx l r) :: (S1 ++ [Ob.box (ntz ⟨d, true, m, v⟩), Ob.dead, Ob.dead]), Ob.box (lbx l r) :: (S1 ++ [Ob.box (ntz ⟨d, true, m, v⟩), Ob.dead, Ob.dead])), ([false, true, false, false], Ob.box (lbx l r) :: (S1 ++ [Ob.box (ntz ⟨d, true, m, v⟩), Ob.dead, Ob.box z5]), Ob.box (lbx l r) :: (S1 ++ [Ob.box (ntz ⟨d, true, m, v⟩), Ob.dead, Ob.box z5])), ([true, false, false, false], Ob.box (lbx l r) :: (S1 ++ [Ob.box (ntz ⟨d, true, m, v⟩), Ob.box z6, Ob.dead]), Ob.box (lbx l r) :: (S1 ++ [Ob.box (ntz ⟨d, true, m, v⟩), Ob.box z6, Ob.dead])), ([true, true, false, false], Ob.box (lbx l r) :: (S1 ++ [Ob.box (ntz ⟨d, true, m, v⟩), Ob.box z6, Ob.box z5]), Ob.box (lbx l r) :: (S1 ++ [Ob.box (ntz ⟨d, true, m, v⟩), Ob.box z6, Ob.box z5]))] (by rfl) (by kernel_rfl) (rs := [4]) (by rfl) nrSeB0 (fun base => ⟨
        ⟨rfl, rfl, by
          refine n_move rfl nrSeB0 ?_
          exact AOps.nil ⟨rfl, rfl, rfl⟩⟩,
        ⟨rfl, rfl, by
          refine n_move rfl nrSeB0 ?_
          exact AOps.nil ⟨rfl, rfl, rfl⟩⟩,
        ⟨rfl, rfl, by
          refine n_move rfl nrSeB0 ?_
          exact AOps.nil ⟨rfl, rfl, rfl⟩⟩,
        ⟨rfl, rfl, by
          refine n_move rfl nrSeB0 ?_
          exact AOps.nil ⟨rfl, rfl, rfl⟩⟩,
        trivial⟩) ?_
    refine Walk.cases [([false, false, false, false], Ob.box (lbx l r) :: (S1 ++ [Ob.box (ntz ⟨d, true, m, v⟩), Ob.dead, Ob.dead]), Ob.box (lbx l r) :: (S1 ++ [Ob.box (ntz ⟨d, true, m, v⟩), Ob.dead, Ob.dead])), ([false, true, false, false], Ob.box (lbx l r) :: (S1 ++ [Ob.box (ntz ⟨d, true, m, v⟩), Ob.dead, Ob.box z5]), Ob.box (lbx l r) :: (S1 ++ [Ob.box (ntz ⟨d, true, m, v⟩), Ob.dead, Ob.box z5])), ([true, false, false, false], Ob.box (lbx l r) :: (S1 ++ [Ob.box (ntz ⟨d, true, m, v⟩), Ob.box z6, Ob.dead]), Ob.box (lbx l r) :: (S1 ++ [Ob.box (ntz ⟨d, true, m, v⟩), Ob.box z6, Ob.dead])), ([true, true, false, false], Ob.box (lbx l r) :: (S1 ++ [Ob.box (ntz ⟨d, true, m, v⟩), Ob.box z6, Ob.box z5]), Ob.box (lbx l r) :: (S1 ++ [Ob.box (ntz ⟨d, true, m, v⟩), Ob.box z6, Ob.box z5]))] (by rfl) (by kernel_rfl) (rs := [45]) (by rfl) nrSeB0 (fun base => ⟨
        ⟨rfl, rfl, by
          refine n_nilCheck rfl nrSeB0 rfl ?_
          exact AOps.nil ⟨rfl, rfl, rfl⟩⟩,
        ⟨rfl, rfl, by
          refine n_nilCheck rfl nrSeB0 rfl ?_
          exact AOps.nil ⟨rfl, rfl, rfl⟩⟩,
        ⟨rfl, rfl, by
          refine n_nilCheck rfl nrSeB0 rfl ?_
          exact AOps.nil ⟨rfl, rfl, rfl⟩⟩,
        ⟨rfl, rfl, by
          refine n_nilCheck rfl nrSeB0 rfl ?_
          exact AOps.nil ⟨rfl, rfl, rfl⟩⟩,
        trivial⟩) ?_
    refine Walk.cases [([false, false, false, false], Ob.box (lbx l r) :: (S1 ++ [Ob.box (ntz ⟨d, true, m, v⟩), Ob.dead, Ob.dead]), Ob.box (lbx l r) :: (S1 ++ [Ob.box (ntz ⟨d, true, m, v⟩), Ob.dead, Ob.dead])), ([false, true, false, false], Ob.box (lbx l r) :: (S1 ++ [Ob.box (ntz ⟨d, true, m, v⟩), Ob.dead, Ob.box z5]), Ob.box (lbx l r) :: (S1 ++ [Ob.box (ntz ⟨d, true, m, v⟩), Ob.dead, Ob.box z5])), ([true, false, false, false], Ob.box (lbx l r) :: (S1 ++ [Ob.box (ntz ⟨d, true, m, v⟩), Ob.box z6, Ob.dead]), Ob.box (lbx l r) :: (S1 ++ [Ob.box (ntz ⟨d, true, m, v⟩), Ob.box z6, Ob.dead])), ([true, true, false, false], Ob.box (lbx l r) :: (S1 ++ [Ob.box (ntz ⟨d, true, m, v⟩), Ob.box z6, Ob.box z5]), Ob.box (lbx l r) :: (S1 ++ [Ob.box (ntz ⟨d, true, m, v⟩), Ob.box z6, Ob.box z5]))] (by rfl) (by kernel_rfl) (rs := [47]) (by rfl) nrSeB0 (fun base => ⟨
        ⟨rfl, rfl, by
          refine n_fieldAddr rfl fd149_0 ti145 rfl nrSeB0 rfl nrSeB0 ?_
          exact AOps.nil ⟨rfl, rfl, rfl⟩⟩,
        ⟨rfl, rfl, by
          refine n_fieldAddr rfl fd149_0 ti145 rfl nrSeB0 rfl nrSeB0 ?_
          exact AOps.nil ⟨rfl, rfl, rfl⟩⟩,
        ⟨rfl, rfl, by
          refine n_fieldAddr rfl fd149_0 ti145 rfl nrSeB0 rfl nrSeB0 ?_
          exact AOps.nil ⟨rfl, rfl, rfl⟩⟩,
        ⟨rfl, rfl, by
          refine n_fieldAddr rfl fd149_0 ti145 rfl nrSeB0 rfl nrSeB0 ?_
          exact AOps.nil ⟨rfl, rfl, rfl⟩⟩,
        trivial⟩) ?_
    refine Walk.cases [([false, false, false, false], Ob.box (lbx l r) :: (S1 ++ [Ob.box (ntz ⟨d, true, m, v⟩), Ob.dead, Ob.dead]), Ob.box (lbx l r) :: (S1 ++ [Ob.box (ntz ⟨d, true, m, v⟩), Ob.dead, Ob.dead])), ([false, true, false, false], Ob.box (lbx l r) :: (S1 ++ [Ob.box (ntz ⟨d, true, m, v⟩), Ob.dead, Ob.box z5]), Ob.box (lbx l r) :: (S1 ++ [Ob.box (ntz ⟨d, true, m, v⟩), Ob.dead, Ob.box z5])), ([true, false, false, false], Ob.box (lbx l r) :: (S1 ++ [Ob.box (ntz ⟨d, true, m, v⟩), Ob.box z6, Ob.dead]), Ob.box (lbx l r) :: (S1 ++ [Ob.box (ntz ⟨d, true, m, v⟩), Ob.box z6, Ob.dead])), ([true, true, false, false], Ob.box (lbx l r) :: (S1 ++ [Ob.box (ntz ⟨d, true, m, v⟩), Ob.box z6, Ob.box z5]), Ob.box (lbx l r) :: (S1 ++ [Ob.box (ntz ⟨d, true, m, v⟩), Ob.box z6, Ob.box z5]))] (by rfl) (by kernel_rfl) (rs := [48, 46]) (by rfl) nrSeB0 (fun base => ⟨
        ⟨rfl, rfl, by
          refine n_arrAddr (q := 6) rfl Try.underlying145 ti141 nrSeB0 nrSeB0 (by decide) (by decide) rfl ?_
          exact AOps.nil ⟨rfl, rfl, rfl⟩⟩,
        ⟨rfl, rfl, by
          refine n_arrAddr (q := 6) rfl Try.underlying145 ti141 nrSeB0 nrSeB0 (by decide) (by decide) rfl ?_
          exact AOps.nil ⟨rfl, rfl, rfl⟩⟩,
        ⟨rfl, rfl, by
          refine n_arrAddr (q := 6) rfl Try.underlying145 ti141 nrSeB0 nrSeB0 (by decide) (by decide) rfl ?_
          exact AOps.nil ⟨rfl, rfl, rfl⟩⟩,
        ⟨rfl, rfl, by
          refine n_arrAddr (q := 6) rfl Try.underlying145 ti141 nrSeB0 nrSeB0 (by decide) (by decide) rfl ?_
          exact AOps.nil ⟨rfl, rfl, rfl⟩⟩,
        trivial⟩) ?_
    refine Walk.cases [([false, false, false, false], Ob.box (lbx l r) :: (S1 ++ [Ob.box (ntz ⟨d, true, m, v⟩), Ob.dead, Ob.dead]), Ob.box (lbx l r) :: (S1 ++ [Ob.box (ntz ⟨d, true, m, v⟩), Ob.dead, Ob.dead])), ([false, true, false, false], Ob.box (lbx l r) :: (S1 ++ [Ob.box (ntz ⟨d, true, m, v⟩), Ob.dead, Ob.box z5]), Ob.box (lbx l r) :: (S1 ++ [Ob.box (ntz ⟨d, true, m, v⟩), Ob.dead, Ob.box z5])), ([true, false, false, false], Ob.box (lbx l r) :: (S1 ++ [Ob.box (ntz ⟨d, true, m, v⟩), Ob.box z6, Ob.dead]), Ob.box (lbx l r) :: (S1 ++ [Ob.box (ntz ⟨d, true, m, v⟩), Ob.box z6, Ob.dead])), ([true, true, false, false], Ob.box (lbx l r) :: (S1 ++ [Ob.box (ntz ⟨d, true, m, v⟩), Ob.box z6, Ob.box z5]), Ob.box (lbx l r) :: (S1 ++ [Ob.box (ntz ⟨d, true, m, v⟩), Ob.box z6, Ob.box z5]))] (by rfl) (by kernel_rfl) (rs := [49]) (by rfl) nrSeB0 (fun base => ⟨
        ⟨rfl, rfl, by
          refine n_load rfl ti141 nrSeB0 nrSeB0 rfl nrSeB0 ?_
          exact AOps.nil ⟨rfl, rfl, rfl⟩⟩,
        ⟨rfl, rfl, by
          refine n_load rfl ti141 nrSeB0 nrSeB0 rfl nrSeB0 ?_
          exact AOps.nil ⟨rfl, rfl, rfl⟩⟩,
        ⟨rfl, rfl, by
          refine n_load rfl ti141 nrSeB0 nrSeB0 rfl nrSeB0 ?_
          exact AOps.nil ⟨rfl, rfl, rfl⟩⟩,
        ⟨rfl, rfl, by
          refine n_load rfl ti141 nrSeB0 nrSeB0 rfl nrSeB0 ?_
          exact AOps.nil ⟨rfl, rfl, rfl⟩⟩,
        trivial⟩) ?_
    refine Walk.cases [([false, false, false, false], Ob.box (lbx l r) :: (S1 ++ [Ob.box (ntz ⟨d, true, m, v⟩), Ob.dead, Ob.dead]), Ob.box (lbx l r) :: (S1 ++ [Ob.box (ntz ⟨d, true, m, v⟩), Ob.dead, Ob.dead])), ([false, true, false, false], Ob.box (lbx l r) :: (S1 ++ [Ob.box (ntz ⟨d, true, m, v⟩), Ob.dead, Ob.box z5]), Ob.box (lbx l r) :: (S1 ++ [Ob.box (ntz ⟨d, true, m, v⟩), Ob.dead, Ob.box z5])), ([true, false, false, false], Ob.box (lbx l r) :: (S1 ++ [Ob.box (ntz ⟨d, true, m, v⟩), Ob.box z6, Ob.dead]), Ob.box (lbx l r) :: (S1 ++ [Ob.box (ntz ⟨d, true, m, v⟩), Ob.box z6, Ob.dead])), ([true, true, false, false], Ob.box (lbx l r) :: (S1 ++ [Ob.box (ntz ⟨d, true, m, v⟩), Ob.box z6, Ob.box z5]), Ob.box (lbx l r) :: (S1 ++ [Ob.box (ntz ⟨d, true, m, v⟩), Ob.box z6, Ob.box z5]))] (by rfl) (by kernel_rfl) (rs := [3]) (by rfl) nrSeB0 (fun base => ⟨
        ⟨rfl, rfl, by
          refine n_fieldAddr rfl fd151_3 ti5 rfl nrSeB0 rfl nrSeB0 ?_
          exact AOps.nil ⟨rfl, rfl, rfl⟩⟩,
        ⟨rfl, rfl, by
          refine n_fieldAddr rfl fd151_3 ti5 rfl nrSeB0 rfl nrSeB0 ?_
          exact AOps.nil ⟨rfl, rfl, rfl⟩⟩,
        ⟨rfl, rfl, by
          refine n_fieldAddr rfl fd151_3 ti5 rfl nrSeB0 rfl nrSeB0 ?_
          exact AOps.nil ⟨rfl, rfl, rfl⟩⟩,
        ⟨rfl, rfl, by
          refine n_fieldAddr rfl fd151_3 ti5 rfl nrSeB0 rfl nrSeB0 ?_
          exact AOps.nil ⟨rfl, rfl, rfl⟩⟩,
        trivial⟩) ?_
    refine Walk.cases [([false, false, false, false], Ob.box (lbx l r) :: (S1 ++ [Ob.box (ntz ⟨d, true, m, v⟩), Ob.dead, Ob.dead]), Ob.box (lbx l r) :: (S1 ++ [Ob.box (ntz ⟨d, true, m, v⟩), Ob.dead, Ob.dead])), ([false, true, false, false], Ob.box (lbx l r) :: (S1 ++ [Ob.box (ntz ⟨d, true, m, v⟩), Ob.dead, Ob.box z5]), Ob.box (lbx l r) :: (S1 ++ [Ob.box (ntz ⟨d, true, m, v⟩), Ob.dead, Ob.box z5])), ([true, false, false, false], Ob.box (lbx l r) :: (S1 ++ [Ob.box (ntz ⟨d, true, m, v⟩), Ob.box z6, Ob.dead]), Ob.box (lbx l r) :: (S1 ++ [Ob.box (ntz ⟨d, true, m, v⟩), Ob.box z6, Ob.dead])), ([true, true, false, false], Ob.box (lbx l r) :: (S1 ++ [Ob.box (ntz ⟨d, true, m, v⟩), Ob.box z6, Ob.box z5]), Ob.box (lbx l r) :: (S1 ++ [Ob.box (ntz ⟨d, true, m, v⟩), Ob.box z6, Ob.box z5]))] (by rfl) (by kernel_rfl) (rs := [51]) (by rfl) nrSeB0 (fun base => ⟨
        ⟨rfl, rfl, by
          refine n_load rfl ti5 nrSeB0 nrSeB0 rfl nrSeB0 ?_
          exact AOps.nil ⟨rfl, rfl, rfl⟩⟩,
        ⟨rfl, rfl, by
          refine n_load rfl ti5 nrSeB0 nrSeB0 rfl nrSeB0 ?_
          exact AOps.nil ⟨rfl, rfl, rfl⟩⟩,
        ⟨rfl, rfl, by
          refine n_load rfl ti5 nrSeB0 nrSeB0 rfl nrSeB0 ?_
          exact AOps.nil ⟨rfl, rfl, rfl⟩⟩,
        ⟨rfl, rfl, by
          refine n_load rfl ti5 nrSeB0 nrSeB0 rfl nrSeB0 ?_
          exact AOps.nil ⟨rfl, rfl, rfl⟩⟩,
        trivial⟩) ?_
    refine Walk.cases [([false, false, false, false], Ob.box (lbx l r) :: (S1 ++ [Ob.box (ntz ⟨d, true, m, v⟩), Ob.dead, Ob.dead]), Ob.box (lbx l r) :: (S1 ++ [Ob.box (ntz ⟨d, true, m, v⟩), Ob.dead, Ob.dead])), ([false, true, false, false], Ob.box (lbx l r) :: (S1 ++ [Ob.box (ntz ⟨d, true, m, v⟩), Ob.dead, Ob.box z5]), Ob.box (lbx l r) :: (S1 ++ [Ob.box (ntz ⟨d, true, m, v⟩), Ob.dead, Ob.box z5])), ([true, false, false, false], Ob.box (lbx l r) :: (S1 ++ [Ob.box (ntz ⟨d, true, m, v⟩), Ob.box z6, Ob.dead]), Ob.box (lbx l r) :: (S1 ++ [Ob.box (ntz ⟨d, true, m, v⟩), Ob.box z6, Ob.dead])), ([true, true, false, false], Ob.box (lbx l r) :: (S1 ++ [Ob.box (ntz ⟨d, true, m, v⟩), Ob.box z6, Ob.box z5]), Ob.box (lbx l r) :: (S1 ++ [Ob.box (ntz ⟨d, true, m, v⟩), Ob.box z6, Ob.box z5]))] (by rfl) (by kernel_rfl) (rs := [52]) (by rfl) nrSeB0 (fun base => ⟨
        ⟨rfl, rfl, by
          refine n_lit rfl Try.underlying22 ti5 zi5 rfl rfl (Eq.trans (by simp only [nl] <;> rfl) nrSeB0) rfl nrSeB0 ?_
          exact AOps.nil ⟨rfl, rfl, rfl⟩⟩,
        ⟨rfl, rfl, by
          refine n_lit rfl Try.underlying22 ti5 zi5 rfl rfl (Eq.trans (by simp only [nl] <;> rfl) nrSeB0) rfl nrSeB0 ?_
          exact AOps.nil ⟨rfl, rfl, rfl⟩⟩,
        ⟨rfl, rfl, by
          refine n_lit rfl Try.underlying22 ti5 zi5 rfl rfl (Eq.trans (by simp only [nl] <;> rfl) nrSeB0) rfl nrSeB0 ?_
          exact AOps.nil ⟨rfl, rfl, rfl⟩⟩,
        ⟨rfl, rfl, by
          refine n_lit rfl Try.underlying22 ti5 zi5 rfl rfl (Eq.trans (by simp only [nl] <;> rfl) nrSeB0) rfl nrSeB0 ?_
          exact AOps.nil ⟨rfl, rfl, rfl⟩⟩,
        trivial⟩) ?_
    refine Walk.cases [([false, false, false, false], Ob.box (lbx l r) :: (S1 ++ [Ob.box (ntz ⟨d, true, m, v⟩), Ob.dead, Ob.dead]), Ob.box (lbx l r) :: (S1 ++ [Ob.box (ntz ⟨d, true, m, v⟩), Ob.dead, Ob.dead])), ([false, true, false, false], Ob.box (lbx l r) :: (S1 ++ [Ob.box (ntz ⟨d, true, m, v⟩), Ob.dead, Ob.box z5]), Ob.box (lbx l r) :: (S1 ++ [Ob.box (ntz ⟨d, true, m, v⟩), Ob.dead, Ob.box z5])), ([true, false, false, false], Ob.box (lbx l r) :: (S1 ++ [Ob.box (ntz ⟨d, true, m, v⟩), Ob.box z6, Ob.dead]), Ob.box (lbx l r) :: (S1 ++ [Ob.box (ntz ⟨d, true, m, v⟩), Ob.box z6, Ob.dead])), ([true, true, false, false], Ob.box (lbx l r) :: (S1 ++ [Ob.box (ntz ⟨d, true, m, v⟩), Ob.box z6, Ob.box z5]), Ob.box (lbx l r) :: (S1 ++ [Ob.box (ntz ⟨d, true, m, v⟩), Ob.box z6, Ob.box z5]))] (by rfl) (by kernel_rfl) (rs := [50, 53]) (by rfl) nrSeB0 (fun base => ⟨
        ⟨rfl, rfl, by
          refine n_call0B rfl cf208 rfl (Eq.trans (by simp only [nl] <;> rfl) nrSeB0) (by repeat (first | exact .nil | refine .cons ?_ ?_ | exact ren_ints | exact .lf (.val _) | exact .lf (lf_ints (.inl rfl)) | exact .bp ⟨rfl, rfl⟩ | exact .bp (.inl ⟨rfl, rfl⟩) | exact .bp (.inr ⟨rfl, rfl⟩) | exact .lf (lf_fnrp (sqz_lf _)) | exact .lf (.rp (sqz_lf _)) | exact ren_qe | exact .lf (lf_sqz _) | exact .lf (lf_qe (.inl rfl)) | exact ren_sqz rfl | exact ren_sqz0 rfl | exact ren_bys0 rfl | exact .lf (D.flat_lf rfl) | exact ren_lits rfl | exact .lf (lf_ssz _) | exact .lf (lf_pqz _) | exact ren_q0 rfl | exact ren_pq rfl | exact ren_nl0 | exact ren_sq | exact .lf (.fn (fun d h => by cases h) (fun d h => by cases h)))) (hsend) lfSeB0 ?_
          exact AOps.nil ⟨rfl, rfl, rfl⟩⟩,
        ⟨rfl, rfl, by
          refine n_call0B rfl cf208 rfl (Eq.trans (by simp only [nl] <;> rfl) nrSeB0) (by repeat (first | exact .nil | refine .cons ?_ ?_ | exact ren_ints | exact .lf (.val _) | exact .lf (lf_ints (.inl rfl)) | exact .bp ⟨rfl, rfl⟩ | exact .bp (.inl ⟨rfl, rfl⟩) | exact .bp (.inr ⟨rfl, rfl⟩) | exact .lf (lf_fnrp (sqz_lf _)) | exact .lf (.rp (sqz_lf _)) | exact ren_qe | exact .lf (lf_sqz _) | exact .lf (lf_qe (.inl rfl)) | exact ren_sqz rfl | exact ren_sqz0 rfl | exact ren_bys0 rfl | exact .lf (D.flat_lf rfl) | exact ren_lits rfl | exact .lf (lf_ssz _) | exact .lf (lf_pqz _) | exact ren_q0 rfl | exact ren_pq rfl | exact ren_nl0 | exact ren_sq | exact .lf (.fn (fun d h => by cases h) (fun d h => by cases h)))) (hsend) lfSeB0 ?_
          exact AOps.nil ⟨rfl, rfl, rfl⟩⟩,
        ⟨rfl, rfl, by
          refine n_call0B rfl cf208 rfl (Eq.trans (by simp only [nl] <;> rfl) nrSeB0) (by repeat (first | exact .nil | refine .cons ?_ ?_ | exact ren_ints | exact .lf (.val _) | exact .lf (lf_ints (.inl rfl)) | exact .bp ⟨rfl, rfl⟩ | exact .bp (.inl ⟨rfl, rfl⟩) | exact .bp (.inr ⟨rfl, rfl⟩) | exact .lf (lf_fnrp (sqz_lf _)) | exact .lf (.rp (sqz_lf _)) | exact ren_qe | exact .lf (lf_sqz _) | exact .lf (lf_qe (.inl rfl)) | exact ren_sqz rfl | exact ren_sqz0 rfl | exact ren_bys0 rfl | exact .lf (D.flat_lf rfl) | exact ren_lits rfl | exact .lf (lf_ssz _) | exact .lf (lf_pqz _) | exact ren_q0 rfl | exact ren_pq rfl | exact ren_nl0 | exact ren_sq | exact .lf (.fn (fun d h => by cases h) (fun d h => by cases h)))) (hsend) lfSeB0 ?_
          exact AOps.nil ⟨rfl, rfl, rfl⟩⟩,
        ⟨rfl, rfl, by
          refine n_call0B rfl cf208 rfl (Eq.trans (by simp only [nl] <;> rfl) nrSeB0) (by repeat (first | exact .nil | refine .cons ?_ ?_ | exact ren_ints | exact .lf (.val _) | exact .lf (lf_ints (.inl rfl)) | exact .bp ⟨rfl, rfl⟩ | exact .bp (.inl ⟨rfl, rfl⟩) | exact .bp (.inr ⟨rfl, rfl⟩) | exact .lf (lf_fnrp (sqz_lf _)) | exact .lf (.rp (sqz_lf _)) | exact ren_qe | exact .lf (lf_sqz _) | exact .lf (lf_qe (.inl rfl)) | exact ren_sqz rfl | exact ren_sqz0 rfl | exact ren_bys0 rfl | exact .lf (D.flat_lf rfl) | exact ren_lits rfl | exact .lf (lf_ssz _) | exact .lf (lf_pqz _) | exact ren_q0 rfl | exact ren_pq rfl | exact ren_nl0 | exact ren_sq | exact .lf (.fn (fun d h => by cases h) (fun d h => by cases h)))) (hsend) lfSeB0 ?_
          exact AOps.nil ⟨rfl, rfl, rfl⟩⟩,
        trivial⟩) ?_
    refine Walk.cases [([false, false, false, false], Ob.box (lbx l r) :: (S1 ++ [Ob.box (ntz ⟨d, true, m, v⟩), Ob.dead, Ob.dead]), Ob.box (lbx l r) :: (S1 ++ [Ob.box (ntz ⟨d, true, m, v⟩), Ob.dead, Ob.dead])), ([false, true, false, false], Ob.box (lbx l r) :: (S1 ++ [Ob.box (ntz ⟨d, true, m, v⟩), Ob.dead, Ob.box z5]), Ob.box (lbx l r) :: (S1 ++ [Ob.box (ntz ⟨d, true, m, v⟩), Ob.dead, Ob.box z5])), ([true, false, false, false], Ob.box (lbx l r) :: (S1 ++ [Ob.box (ntz ⟨d, true, m, v⟩), Ob.box z6, Ob.dead]), Ob.box (lbx l r) :: (S1 ++ [Ob.box (ntz ⟨d, true, m, v⟩), Ob.box z6, Ob.dead])), ([true, true, false, false], Ob.box (lbx l r) :: (S1 ++ [Ob.box (ntz ⟨d, true, m, v⟩), Ob.box z6, Ob.box z5]), Ob.box (lbx l r) :: (S1 ++ [Ob.box (ntz ⟨d, true, m, v⟩), Ob.box z6, Ob.box z5]))] (by rfl) (by kernel_rfl) (rs := [54]) (by rfl) nrSeB0 (fun base => ⟨
        ⟨rfl, rfl, by
          refine n_move rfl nrSeB0 ?_
          exact AOps.nil ⟨rfl, rfl, rfl⟩⟩,
        ⟨rfl, rfl, by
          refine n_move rfl nrSeB0 ?_
          exact AOps.nil ⟨rfl, rfl, rfl⟩⟩,
        ⟨rfl, rfl, by
          refine n_move rfl nrSeB0 ?_
          exact AOps.nil ⟨rfl, rfl, rfl⟩⟩,
        ⟨rfl, rfl, by
          refine n_move rfl nrSeB0 ?_
          exact AOps.nil ⟨rfl, rfl, rfl⟩⟩,
        trivial⟩) ?_
    refine Walk.cases [([false, false, false, false], Ob.box (lbx l r) :: (S1 ++ [Ob.box (ntz ⟨d, true, m, v⟩), Ob.dead, Ob.dead]), Ob.box (lbx l r) :: (S1 ++ [Ob.box (ntz ⟨d, true, m, v⟩), Ob.dead, Ob.dead])), ([false, true, false, false], Ob.box (lbx l r) :: (S1 ++ [Ob.box (ntz ⟨d, true, m, v⟩), Ob.dead, Ob.box z5]), Ob.box (lbx l r) :: (S1 ++ [Ob.box (ntz ⟨d, true, m, v⟩), Ob.dead, Ob.box z5])), ([true, false, false, false], Ob.box (lbx l r) :: (S1 ++ [Ob.box (ntz ⟨d, true, m, v⟩), Ob.box z6, Ob.dead]), Ob.box (lbx l r) :: (S1 ++ [Ob.box (ntz ⟨d, true, m, v⟩), Ob.box z6, Ob.dead])), ([true, true, false, false], Ob.box (lbx l r) :: (S1 ++ [Ob.box (ntz ⟨d, true, m, v⟩), Ob.box z6, Ob.box z5]), Ob.box (lbx l r) :: (S1 ++ [Ob.box (ntz ⟨d, true, m, v⟩), Ob.box z6, Ob.box z5]))] (by rfl) (by kernel_rfl) (rs := [44]) (by rfl) nrSeB0 (fun base => ⟨
        ⟨rfl, rfl, by
          refine n_extract rfl nrSeB0 rfl ?_
          exact AOps.nil ⟨rfl, rfl, rfl⟩⟩,
        ⟨rfl, rfl, by
          refine n_extract rfl nrSeB0 rfl ?_
          exact AOps.nil ⟨rfl, rfl, rfl⟩⟩,
        ⟨rfl, rfl, by
          refine n_extract rfl nrSeB0 rfl ?_
          exact AOps.nil ⟨rfl, rfl, rfl⟩⟩,
        ⟨rfl, rfl, by
          refine n_extract rfl nrSeB0 rfl ?_
          exact AOps.nil ⟨rfl, rfl, rfl⟩⟩,
        trivial⟩) ?_
    refine Walk.cases [([false, false, false, false], Ob.box (lbx l r) :: (S1 ++ [Ob.box (ntz ⟨d, true, m, v⟩), Ob.dead, Ob.dead]), Ob.box (lbx l r) :: (S1 ++ [Ob.box (ntz ⟨d, true, m, v⟩), Ob.dead, Ob.dead])), ([false, true, false, false], Ob.box (lbx l r) :: (S1 ++ [Ob.box (ntz ⟨d, true, m, v⟩), Ob.dead, Ob.box z5]), Ob.box (lbx l r) :: (S1 ++ [Ob.box (ntz ⟨d, true, m, v⟩), Ob.dead, Ob.box z5])), ([true, false, false, false], Ob.box (lbx l r) :: (S1 ++ [Ob.box (ntz ⟨d, true, m, v⟩), Ob.box z6, Ob.dead]), Ob.box (lbx l r) :: (S1 ++ [Ob.box (ntz ⟨d, true, m, v⟩), Ob.box z6, Ob.dead])), ([true, true, false, false], Ob.box (lbx l r) :: (S1 ++ [Ob.box (ntz ⟨d, true, m, v⟩), Ob.box z6, Ob.box z5]), Ob.box (lbx l r) :: (S1 ++ [Ob.box (ntz ⟨d, true, m, v⟩), Ob.box z6, Ob.box z5])), ([true, true, true, false], Ob.box (lbx l r) :: (S1 ++ [Ob.box (ntz ⟨d, true, m, v⟩), Ob.box (sqz z), Ob.box z5]), Ob.box (lbx l r) :: (S1 ++ [Ob.box (ntz ⟨d, true, m, v⟩), Ob.box (sqz z), Ob.box z5]))] (by rfl) (by kernel_rfl) (rs := [44]) (by rfl) nrSeB0 (fun base => ⟨
        ⟨rfl, rfl, by
          refine n_extract rfl nrSeB0 rfl ?_
          exact AOps.nil ⟨rfl, rfl, rfl⟩⟩,
        ⟨rfl, rfl, by
          refine n_extract rfl nrSeB0 rfl ?_
          exact AOps.nil ⟨rfl, rfl, rfl⟩⟩,
        ⟨rfl, rfl, by
          refine n_extract rfl nrSeB0 rfl ?_
          exact AOps.nil ⟨rfl, rfl, rfl⟩⟩,
        ⟨rfl, rfl, by
          refine n_extract rfl nrSeB0 rfl ?_
          exact AOps.nil ⟨rfl, rfl, rfl⟩⟩,
        ⟨rfl, rfl, by
          refine n_extract rfl nrSeB0 rfl ?_
          exact AOps.nil ⟨rfl, rfl, rfl⟩⟩,
        trivial⟩) ?_
    refine Walk.cases [([false, false, false, false], Ob.box (lbx l r) :: (S1 ++ [Ob.box (ntz ⟨d, true, m, v⟩), Ob.dead, Ob.dead]), Ob.box (lbx l r) :: (S1 ++ [Ob.box (ntz ⟨d, true, m, v⟩), Ob.dead, Ob.dead])), ([false, true, false, false], Ob.box (lbx l r) :: (S1 ++ [Ob.box (ntz ⟨d, true, m, v⟩), Ob.dead, Ob.box z5]), Ob.box (lbx l r) :: (S1 ++ [Ob.box (ntz ⟨d, true, m, v⟩), Ob.dead, Ob.box z5])), ([true, false, false, false], Ob.box (lbx l r) :: (S1 ++ [Ob.box (ntz ⟨d, true, m, v⟩), Ob.box z6, Ob.dead]), Ob.box (lbx l r) :: (S1 ++ [Ob.box (ntz ⟨d, true, m, v⟩), Ob.box z6, Ob.dead])), ([true, true, false, false], Ob.box (lbx l r) :: (S1 ++ [Ob.box (ntz ⟨d, true, m, v⟩), Ob.box z6, Ob.box z5]), Ob.box (lbx l r) :: (S1 ++ [Ob.box (ntz ⟨d, true, m, v⟩), Ob.box z6, Ob.box z5])), ([true, true, true, false], Ob.box (lbx l r) :: (S1 ++ [Ob.box (ntz ⟨d, true, m, v⟩), Ob.box (sqz z), Ob.box z5]), Ob.box (lbx l r) :: (S1 ++ [Ob.box (ntz ⟨d, true, m, v⟩), Ob.box (sqz z), Ob.box z5])), ([true, true, true, true], Ob.box (lbx l r) :: (S1 ++ [Ob.box (ntz ⟨d, true, m, v⟩), Ob.box (sqz z), Ob.box (pqz y)]), Ob.box (lbx l r) :: (S1 ++ [Ob.box (ntz ⟨d, true, m, v⟩), Ob.box (sqz z), Ob.box (pqz y)]))] (by rfl) (by kernel_rfl) (rs := [44]) (by rfl) nrSeB0 (fun base => ⟨
        ⟨rfl, rfl, by
          refine n_extract rfl nrSeB0 rfl ?_
          exact AOps.nil ⟨rfl, rfl, rfl⟩⟩,
        ⟨rfl, rfl, by
          refine n_extract rfl nrSeB0 rfl ?_
          exact AOps.nil ⟨rfl, rfl, rfl⟩⟩,
        ⟨rfl, rfl, by
          refine n_extract rfl nrSeB0 rfl ?_
          exact AOps.nil ⟨rfl, rfl, rfl⟩⟩,
        ⟨rfl, rfl, by
          refine n_extract rfl nrSeB0 rfl ?_
          exact AOps.nil ⟨rfl, rfl, rfl⟩⟩,
        ⟨rfl, rfl, by
          refine n_extract rfl nrSeB0 rfl ?_
          exact AOps.nil ⟨rfl, rfl, rfl⟩⟩,
        ⟨rfl, rfl, by
          refine n_extract rfl nrSeB0 rfl ?_
          exact AOps.nil ⟨rfl, rfl, rfl⟩⟩,
        trivial⟩) ?_
    refine Walk.cases [([false, false, false, false], Ob.box (lbx l r) :: (S1 ++ [Ob.box (ntz ⟨d, true, m, v⟩), Ob.dead, Ob.dead]), Ob.box (lbx l r) :: (S1 ++ [Ob.box (ntz ⟨d, true, m, v⟩), Ob.box z6, Ob.dead])), ([false, true, false, false], Ob.box (lbx l r) :: (S1 ++ [Ob.box (ntz ⟨d, true, m, v⟩), Ob.dead, Ob.box z5]), Ob.box (lbx l r) :: (S1 ++ [Ob.box (ntz ⟨d, true, m, v⟩), Ob.box z6, Ob.box z5]))] (by rfl) (by kernel_rfl) (rs := []) (by rfl) nrSeB0 (fun base => ⟨
        ⟨rfl, rfl, by
          refine n_allocAt (S1.length + 2) rfl zi141 nrSeB0 rfl nrSeB0 ?_
          exact AOps.nil ⟨rfl, rfl, rfl⟩⟩,
        ⟨rfl, rfl, by
          refine n_allocAt (S1.length + 2) rfl zi141 nrSeB0 rfl nrSeB0 ?_
          exact AOps.nil ⟨rfl, rfl, rfl⟩⟩,
        trivial⟩) ?_
    refine Walk.cases [([false, false, false, false], Ob.box (lbx l r) :: (S1 ++ [Ob.box (ntz ⟨d, true, m, v⟩), Ob.dead, Ob.dead]), Ob.box (lbx l r) :: (S1 ++ [Ob.box (ntz ⟨d, true, m, v⟩), Ob.dead, Ob.box z5])), ([true, false, false, false], Ob.box (lbx l r) :: (S1 ++ [Ob.box (ntz ⟨d, true, m, v⟩), Ob.box z6, Ob.dead]), Ob.box (lbx l r) :: (S1 ++ [Ob.box (ntz ⟨d, true, m, v⟩), Ob.box z6, Ob.box z5]))] (by rfl) (by kernel_rfl) (rs := []) (by rfl) nrSeB0 (fun base => ⟨
        ⟨rfl, rfl, by
          refine n_allocAt (S1.length + 3) rfl zi157 nrSeB0 rfl nrSeB0 ?_
          exact AOps.nil ⟨rfl, rfl, rfl⟩⟩,
        ⟨rfl, rfl, by
          refine n_allocAt (S1.length + 3) rfl zi157 nrSeB0 rfl nrSeB0 ?_
          exact AOps.nil ⟨rfl, rfl, rfl⟩⟩,
        trivial⟩) ?_
    refine Walk.cases (d := .any) [([true, true, false, false], Ob.box (lbx l r) :: (S1 ++ [Ob.box (ntz ⟨d, true, m, v⟩), Ob.box z6, Ob.box z5]), Ob.box (lbx l r) :: (S1 ++ [Ob.box (ntz ⟨d, true, m, v⟩), Ob.box (sqz z), Ob.box z5]))] (by rfl) (by kernel_rfl) (rs := [5, 55]) (by rfl) nrSeB0 (fun base => ⟨
        ⟨rfl, rfl, by
          refine n_store ti141 nrSeB0 nrSeB0 nrSeB0 rfl nrSeB0 rfl rfl rfl nrSeB0 ?_
          exact AOps.nil ⟨rfl, rfl, rfl⟩⟩,
        trivial⟩) ?_
    refine Walk.cases (d := .any) [([true, true, true, false], Ob.box (lbx l r) :: (S1 ++ [Ob.box (ntz ⟨d, true, m, v⟩), Ob.box (sqz z), Ob.box z5]), Ob.box (lbx l r) :: (S1 ++ [Ob.box (ntz ⟨d, true, m, v⟩), Ob.box (sqz z), Ob.box (pqz y)]))] (by rfl) (by kernel_rfl) (rs := [6, 56]) (by rfl) nrSeB0 (fun base => ⟨
        ⟨rfl, rfl, by
          refine n_store ti157 nrSeB0 nrSeB0 nrSeB0 rfl nrSeB0 rfl rfl rfl nrSeB0 ?_
          exact AOps.nil ⟨rfl, rfl, rfl⟩⟩,
        trivial⟩) ?_
    refine Walk.cases [([true, true, true, true], Ob.box (lbx l r) :: (S1 ++ [Ob.box (ntz ⟨d, true, m, v⟩), Ob.box (sqz z), Ob.box (pqz y)]), Ob.box (lbx l r) :: (S1 ++ [Ob.box (ntz ⟨d, true, m, v⟩), Ob.box (sqz z), Ob.box (pqz y)]))] (by rfl) (by kernel_rfl) (rs := [57]) (by rfl) nrSeB0 (fun base => ⟨
        ⟨rfl, rfl, by
          refine n_assign rfl nrSeB0 ?_
          exact AOps.nil ⟨rfl, rfl, rfl⟩⟩,
        trivial⟩) ?_
    refine Walk.done ?_
    refine AWP.seq ?_
    refine AWP.region ?_
    refine n_move rfl nrSeB0 ?_
    refine n_ibin rfl nrSeB0 nrSeB0 rfl ?_
    refine AOps.nil ?_
    refine AWP.cond nrSeB0 (fun hc3 => ?_) (fun hc3 => ?_)
    · try simp only [nh] at hc3
      obtain ⟨h16, hzz, hyy, _⟩ : _ ∧ _ ∧ _ ∧ _ := hcase.resolve_right (fun h => by omega)
      have hz : l.does (⟨d, true, m, v⟩ : Nt) = { l with x := at2 l.x true z, sent := at2 l.sent true (l.sent true ++ [v]), bag := l.bag ++ [(⟨false, y⟩ : Wy)] } := by subst hzz hyy; unfold Ln.does; rw [if_pos hd0, if_pos h16]; rfl
      have h1 : Rw { l with x := at2 l.x true z, sent := at2 l.sent true (l.sent true ++ [v]) } r (S1.set (r 2) (Ob.row ((l.sent true).length + 1) 1)) := Rw.set hr (k := 2) (by decide) (Prod.ext (List.length_append ..) rfl) (fun j hj hne => by rcases j with _ | _ | _ | _ | _ | j <;> first | rfl | exact absurd rfl hne | omega)
      refine AWP.seq ?_
      refine AWP.any1 6 (Ob.box (lbx { l with x := at2 l.x true z } r) :: (S1 ++ [Ob.box (ntz ⟨d, true, m, v⟩), Ob.box (sqz z), Ob.box (pqz y)])) (by kernel_rfl) (by kernel_rfl) (by kernel_rfl) ?_
      refine Walk.ahead [6] (by rfl) (by kernel_rfl) (by rfl) (rs := [0]) (by rfl) nrSeB0 (fun base => by
          refine n_move rfl nrSeB0 ?_
          exact AOps.nil ⟨rfl, rfl, rfl⟩) ?_
      refine Walk.ahead [6] (by rfl) (by kernel_rfl) (by rfl) (rs := [4]) (by rfl) nrSeB0 (fun base => by
          refine n_move rfl nrSeB0 ?_
          exact AOps.nil ⟨rfl, rfl, rfl⟩) ?_
      refine Walk.ahead [6] (by rfl) (by kernel_rfl) (by rfl) (rs := [5]) (by rfl) nrSeB0 (fun base => by
          refine n_load rfl ti141 nrSeB0 nrSeB0 rfl nrSeB0 ?_
          exact AOps.nil ⟨rfl, rfl, rfl⟩) ?_
      refine Walk.ahead [4, 5, 6] (by rfl) (by kernel_rfl) (by rfl) (rs := [60]) (by rfl) nrSeB0 (fun base => by
          refine n_nilCheck rfl nrSeB0 rfl ?_
          exact AOps.nil ⟨rfl, rfl, rfl⟩) ?_
      refine Walk.ahead [5, 6] (by rfl) (by kernel_rfl) (by rfl) (rs := [63]) (by rfl) nrSeB0 (fun base => by
          refine n_fieldAddr rfl fd149_0 ti145 rfl nrSeB0 rfl nrSeB0 ?_
          exact AOps.nil ⟨rfl, rfl, rfl⟩) ?_
      refine Walk.ahead [6] (by rfl) (by kernel_rfl) (by rfl) (rs := [64, 61]) (by rfl) nrSeB0 (fun base => by
          refine n_arrAddr (q := 6) rfl Try.underlying145 ti141 nrSeB0 nrSeB0 (by decide) (by decide) rfl ?_
          exact AOps.nil ⟨rfl, rfl, rfl⟩) ?_
      refine Walk.writes (d := .any) (by rfl) (rs := [65, 62]) (by rfl) nrSeB0 (fun base => by
          refine n_store ti141 nrSeB0 nrSeB0 nrSeB0 rfl nrSeB0 rfl rfl rfl nrSeB0 ?_
          exact AOps.nil ⟨rfl, rfl, rfl⟩) ?_
      refine Walk.done ?_
      refine AWP.seq ?_
      refine AWP.anyT [11, 15] (fun p => match p with | [false, false] => Ob.box (lbx { l with x := at2 l.x true z } r) :: (S1 ++ [Ob.box (ntz ⟨d, true, m, v⟩), Ob.box (sqz z), Ob.box (pqz y)]) | [true, false] => Ob.box (lbx { l with x := at2 l.x true z } r) :: ((S1.set (r 2) (Ob.row ((l.sent true).length + 1) 1)) ++ [Ob.box (ntz ⟨d, true, m, v⟩), Ob.box (sqz z), Ob.box (pqz y)]) | [true, true] => Ob.box (lbx { l with x := at2 l.x true z, sent := at2 l.sent true ((l.sent true) ++ [v]) } r) :: ((S1.set (r 2) (Ob.row ((l.sent true).length + 1) 1)) ++ [Ob.box (ntz ⟨d, true, m, v⟩), Ob.box (sqz z), Ob.box (pqz y)]) | _ => []) (by kernel_rfl) (by kernel_rfl) rfl rfl ?_
      refine Walk.cases [([false, false], Ob.box (lbx { l with x := at2 l.x true z } r) :: (S1 ++ [Ob.box (ntz ⟨d, true, m, v⟩), Ob.box (sqz z), Ob.box (pqz y)]), Ob.box (lbx { l with x := at2 l.x true z } r) :: (S1 ++ [Ob.box (ntz ⟨d, true, m, v⟩), Ob.box (sqz z), Ob.box (pqz y)])), ([true, false], Ob.box (lbx { l with x := at2 l.x true z } r) :: ((S1.set (r 2) (Ob.row ((l.sent true).length + 1) 1)) ++ [Ob.box (ntz ⟨d, true, m, v⟩), Ob.box (sqz z), Ob.box (pqz y)]), Ob.box (lbx { l with x := at2 l.x true z } r) :: ((S1.set (r 2) (Ob.row ((l.sent true).length + 1) 1)) ++ [Ob.box (ntz ⟨d, true, m, v⟩), Ob.box (sqz z), Ob.box (pqz y)]))] (by rfl) (by kernel_rfl) (rs := [0]) (by rfl) nrSeB0 (fun base => ⟨
          ⟨rfl, rfl, by
            refine n_move rfl nrSeB0 ?_
            exact AOps.nil ⟨rfl, rfl, rfl⟩⟩,
          ⟨rfl, rfl, by
            refine n_move rfl nrSeB0 ?_
            exact AOps.nil ⟨rfl, rfl, rfl⟩⟩,
          trivial⟩) ?_
      refine Walk.cases [([false, false], Ob.box (lbx { l with x := at2 l.x true z } r) :: (S1 ++ [Ob.box (ntz ⟨d, true, m, v⟩), Ob.box (sqz z), Ob.box (pqz y)]), Ob.box (lbx { l with x := at2 l.x true z } r) :: (S1 ++ [Ob.box (ntz ⟨d, true, m, v⟩), Ob.box (sqz z), Ob.box (pqz y)])), ([true, false], Ob.box (lbx { l with x := at2 l.x true z } r) :: ((S1.set (r 2) (Ob.row ((l.sent true).length + 1) 1)) ++ [Ob.box (ntz ⟨d, true, m, v⟩), Ob.box (sqz z), Ob.box (pqz y)]), Ob.box (lbx { l with x := at2 l.x true z } r) :: ((S1.set (r 2) (Ob.row ((l.sent true).length + 1) 1)) ++ [Ob.box (ntz ⟨d, true, m, v⟩), Ob.box (sqz z), Ob.box (pqz y)]))] (by rfl) (by kernel_rfl) (rs := [4]) (by rfl) nrSeB0 (fun base => ⟨
          ⟨rfl, rfl, by
            refine n_move rfl nrSeB0 ?_
            exact AOps.nil ⟨rfl, rfl, rfl⟩⟩,
          ⟨rfl, rfl, by
            refine n_move rfl nrSeB0 ?_
            exact AOps.nil ⟨rfl, rfl, rfl⟩⟩,
          trivial⟩) ?_
      refine Walk.cases [([false, false], Ob.box (lbx { l with x := at2 l.x true z } r) :: (S1 ++ [Ob.box (ntz ⟨d, true, m, v⟩), Ob.box (sqz z), Ob.box (pqz y)]), Ob.box (lbx { l with x := at2 l.x true z } r) :: (S1 ++ [Ob.box (ntz ⟨d, true, m, v⟩), Ob.box (sqz z), Ob.box (pqz y)]))] (by rfl) (by kernel_rfl) (rs := [0]) (by rfl) nrSeB0 (fun base => ⟨
          ⟨rfl, rfl, by
            refine n_move rfl nrSeB0 ?_
            exact AOps.nil ⟨rfl, rfl, rfl⟩⟩,
          trivial⟩) ?_
      refine Walk.cases [([false, false], Ob.box (lbx { l with x := at2 l.x true z } r) :: (S1 ++ [Ob.box (ntz ⟨d, true, m, v⟩), Ob.box (sqz z), Ob.box (pqz y)]), Ob.box (lbx { l with x := at2 l.x true z } r) :: (S1 ++ [Ob.box (ntz ⟨d, true, m, v⟩), Ob.box (sqz z), Ob.box (pqz y)]))] (by rfl) (by kernel_rfl) (rs := [4]) (by rfl) nrSeB0 (fun base => ⟨
          ⟨rfl, rfl, by
            refine n_move rfl nrSeB0 ?_
            exact AOps.nil ⟨rfl, rfl, rfl⟩⟩,
          trivial⟩) ?_
      refine Walk.cases [([false, false], Ob.box (lbx { l with x := at2 l.x true z } r) :: (S1 ++ [Ob.box (ntz ⟨d, true, m, v⟩), Ob.box (sqz z), Ob.box (pqz y)]), Ob.box (lbx { l with x := at2 l.x true z } r) :: (S1 ++ [Ob.box (ntz ⟨d, true, m, v⟩), Ob.box (sqz z), Ob.box (pqz y)]))] (by rfl) (by kernel_rfl) (rs := [68]) (by rfl) nrSeB0 (fun base => ⟨
          ⟨rfl, rfl, by
            refine n_nilCheck rfl nrSeB0 rfl ?_
            exact AOps.nil ⟨rfl, rfl, rfl⟩⟩,
          trivial⟩) ?_
      refine Walk.cases [([false, false], Ob.box (lbx { l with x := at2 l.x true z } r) :: (S1 ++ [Ob.box (ntz ⟨d, true, m, v⟩), Ob.box (sqz z), Ob.box (pqz y)]), Ob.box (lbx { l with x := at2 l.x true z } r) :: (S1 ++ [Ob.box (ntz ⟨d, true, m, v⟩), Ob.box (sqz z), Ob.box (pqz y)]))] (by rfl) (by kernel_rfl) (rs := [70]) (by rfl) nrSeB0 (fun base => ⟨
          ⟨rfl, rfl, by
            refine n_fieldAddr rfl fd149_2 ti147 rfl nrSeB0 rfl nrSeB0 ?_
            exact AOps.nil ⟨rfl, rfl, rfl⟩⟩,
          trivial⟩) ?_
      refine Walk.cases [([false, false], Ob.box (lbx { l with x := at2 l.x true z } r) :: (S1 ++ [Ob.box (ntz ⟨d, true, m, v⟩), Ob.box (sqz z), Ob.box (pqz y)]), Ob.box (lbx { l with x := at2 l.x true z } r) :: (S1 ++ [Ob.box (ntz ⟨d, true, m, v⟩), Ob.box (sqz z), Ob.box (pqz y)]))] (by rfl) (by kernel_rfl) (rs := [71, 69]) (by rfl) nrSeB0 (fun base => ⟨
          ⟨rfl, rfl, by
            refine n_arrAddr (q := 14) rfl Try.underlying147 ti22 nrSeB0 nrSeB0 (by decide) (by decide) rfl ?_
            exact AOps.nil ⟨rfl, rfl, rfl⟩⟩,
          trivial⟩) ?_
      refine Walk.cases [([false, false], Ob.box (lbx { l with x := at2 l.x true z } r) :: (S1 ++ [Ob.box (ntz ⟨d, true, m, v⟩), Ob.box (sqz z), Ob.box (pqz y)]), Ob.box (lbx { l with x := at2 l.x true z } r) :: (S1 ++ [Ob.box (ntz ⟨d, true, m, v⟩), Ob.box (sqz z), Ob.box (pqz y)]))] (by rfl) (by kernel_rfl) (rs := [72]) (by rfl) nrSeB0 (fun base => ⟨
          ⟨rfl, rfl, by
            refine n_load rfl ti22 nrSeB0 nrSeB0 rfl nrSeB0 ?_
            exact AOps.nil ⟨rfl, rfl, rfl⟩⟩,
          trivial⟩) ?_
      refine Walk.cases [([false, false], Ob.box (lbx { l with x := at2 l.x true z } r) :: (S1 ++ [Ob.box (ntz ⟨d, true, m, v⟩), Ob.box (sqz z), Ob.box (pqz y)]), Ob.box (lbx { l with x := at2 l.x true z } r) :: (S1 ++ [Ob.box (ntz ⟨d, true, m, v⟩), Ob.box (sqz z), Ob.box (pqz y)]))] (by rfl) (by kernel_rfl) (rs := [3]) (by rfl) nrSeB0 (fun base => ⟨
          ⟨rfl, rfl, by
            refine n_fieldAddr rfl fd151_3 ti5 rfl nrSeB0 rfl nrSeB0 ?_
            exact AOps.nil ⟨rfl, rfl, rfl⟩⟩,
          trivial⟩) ?_
      refine Walk.cases [([false, false], Ob.box (lbx { l with x := at2 l.x true z } r) :: (S1 ++ [Ob.box (ntz ⟨d, true, m, v⟩), Ob.box (sqz z), Ob.box (pqz y)]), Ob.box (lbx { l with x := at2 l.x true z } r) :: (S1 ++ [Ob.box (ntz ⟨d, true, m, v⟩), Ob.box (sqz z), Ob.box (pqz y)]))] (by rfl) (by kernel_rfl) (rs := [74]) (by rfl) nrSeB0 (fun base => ⟨
          ⟨rfl, rfl, by
            refine n_load rfl ti5 nrSeB0 nrSeB0 rfl nrSeB0 ?_
            exact AOps.nil ⟨rfl, rfl, rfl⟩⟩,
          trivial⟩) ?_
      refine Walk.cases [([false, false], Ob.box (lbx { l with x := at2 l.x true z } r) :: (S1 ++ [Ob.box (ntz ⟨d, true, m, v⟩), Ob.box (sqz z), Ob.box (pqz y)]), Ob.box (lbx { l with x := at2 l.x true z } r) :: (S1 ++ [Ob.box (ntz ⟨d, true, m, v⟩), Ob.box (sqz z), Ob.box (pqz y)]))] (by rfl) (by kernel_rfl) (rs := [75]) (by rfl) nrSeB0 (fun base => ⟨
          ⟨rfl, rfl, by
            refine n_lit rfl Try.underlying22 ti5 zi5 rfl rfl (Eq.trans (by simp only [nl] <;> rfl) nrSeB0) rfl nrSeB0 ?_
            exact AOps.nil ⟨rfl, rfl, rfl⟩⟩,
          trivial⟩) ?_
      refine Walk.cases [([false, false], Ob.box (lbx { l with x := at2 l.x true z } r) :: (S1 ++ [Ob.box (ntz ⟨d, true, m, v⟩), Ob.box (sqz z), Ob.box (pqz y)]), Ob.box (lbx { l with x := at2 l.x true z } r) :: ((S1.set (r 2) (Ob.row ((l.sent true).length + 1) 1)) ++ [Ob.box (ntz ⟨d, true, m, v⟩), Ob.box (sqz z), Ob.box (pqz y)]))] (by rfl) (by kernel_rfl) (rs := [73, 76]) (by rfl) nrSeB0 (fun base => ⟨
          ⟨rfl, rfl, by
            refine n_append_own (zs := ints .u8 (l.sent true ++ [v])) (m := (l.sent true).length + 1) (S' := Ob.box (lbx { l with x := at2 l.x true z } r) :: ((S1.set (r 2) (Ob.row ((l.sent true).length + 1) 1)) ++ [Ob.box (ntz ⟨d, true, m, v⟩), Ob.box (sqz z), Ob.box (pqz y)])) rfl Try.underlying22 Try.underlying22 ei5 nrSeB0 (by show (S1 ++ _)[r 2]? = _; exact hr.at (by decide)) (by rw [ints_length]; rfl) nrSeB0 ints_one' (by exact one_one rfl) (by exact ints_append (ys := [v]) ..) (by rw [ints_length]; rfl) (by omega) (by exact congrArg (_ :: ·) (List.set_append_left _ _ (hr.lt (by decide)))) ?_
            exact AOps.nil ⟨rfl, rfl, rfl⟩⟩,
          trivial⟩) ?_
      refine Walk.cases [([false, false], Ob.box (lbx { l with x := at2 l.x true z } r) :: (S1 ++ [Ob.box (ntz ⟨d, true, m, v⟩), Ob.box (sqz z), Ob.box (pqz y)]), Ob.box (lbx { l with x := at2 l.x true z } r) :: (S1 ++ [Ob.box (ntz ⟨d, true, m, v⟩), Ob.box (sqz z), Ob.box (pqz y)])), ([true, false], Ob.box (lbx { l with x := at2 l.x true z } r) :: ((S1.set (r 2) (Ob.row ((l.sent true).length + 1) 1)) ++ [Ob.box (ntz ⟨d, true, m, v⟩), Ob.box (sqz z), Ob.box (pqz y)]), Ob.box (lbx { l with x := at2 l.x true z } r) :: ((S1.set (r 2) (Ob.row ((l.sent true).length + 1) 1)) ++ [Ob.box (ntz ⟨d, true, m, v⟩), Ob.box (sqz z), Ob.box (pqz y)]))] (by rfl) (by kernel_rfl) (rs := [66]) (by rfl) nrSeB0 (fun base => ⟨
          ⟨rfl, rfl, by
            refine n_nilCheck rfl nrSeB0 rfl ?_
            exact AOps.nil ⟨rfl, rfl, rfl⟩⟩,
          ⟨rfl, rfl, by
            refine n_nilCheck rfl nrSeB0 rfl ?_
            exact AOps.nil ⟨rfl, rfl, rfl⟩⟩,
          trivial⟩) ?_
      refine Walk.cases [([false, false], Ob.box (lbx { l with x := at2 l.x true z } r) :: (S1 ++ [Ob.box (ntz ⟨d, true, m, v⟩), Ob.box (sqz z), Ob.box (pqz y)]), Ob.box (lbx { l with x := at2 l.x true z } r) :: (S1 ++ [Ob.box (ntz ⟨d, true, m, v⟩), Ob.box (sqz z), Ob.box (pqz y)])), ([true, false], Ob.box (lbx { l with x := at2 l.x true z } r) :: ((S1.set (r 2) (Ob.row ((l.sent true).length + 1) 1)) ++ [Ob.box (ntz ⟨d, true, m, v⟩), Ob.box (sqz z), Ob.box (pqz y)]), Ob.box (lbx { l with x := at2 l.x true z } r) :: ((S1.set (r 2) (Ob.row ((l.sent true).length + 1) 1)) ++ [Ob.box (ntz ⟨d, true, m, v⟩), Ob.box (sqz z), Ob.box (pqz y)]))] (by rfl) (by kernel_rfl) (rs := [78]) (by rfl) nrSeB0 (fun base => ⟨
          ⟨rfl, rfl, by
            refine n_fieldAddr rfl fd149_2 ti147 rfl nrSeB0 rfl nrSeB0 ?_
            exact AOps.nil ⟨rfl, rfl, rfl⟩⟩,
          ⟨rfl, rfl, by
            refine n_fieldAddr rfl fd149_2 ti147 rfl nrSeB0 rfl nrSeB0 ?_
            exact AOps.nil ⟨rfl, rfl, rfl⟩⟩,
          trivial⟩) ?_
      refine Walk.cases [([true, false], Ob.box (lbx { l with x := at2 l.x true z } r) :: ((S1.set (r 2) (Ob.row ((l.sent true).length + 1) 1)) ++ [Ob.box (ntz ⟨d, true, m, v⟩), Ob.box (sqz z), Ob.box (pqz y)]), Ob.box (lbx { l with x := at2 l.x true z } r) :: ((S1.set (r 2) (Ob.row ((l.sent true).length + 1) 1)) ++ [Ob.box (ntz ⟨d, true, m, v⟩), Ob.box (sqz z), Ob.box (pqz y)]))] (by rfl) (by kernel_rfl) (rs := [79, 67]) (by rfl) nrSeB0 (fun base => ⟨
          ⟨rfl, rfl, by
            refine n_arrAddr (q := 14) rfl Try.underlying147 ti22 nrSeB0 nrSeB0 (by decide) (by decide) rfl ?_
            exact AOps.nil ⟨rfl, rfl, rfl⟩⟩,
          trivial⟩) ?_
      refine Walk.cases (d := .any) [([true, false], Ob.box (lbx { l with x := at2 l.x true z } r) :: ((S1.set (r 2) (Ob.row ((l.sent true).length + 1) 1)) ++ [Ob.box (ntz ⟨d, true, m, v⟩), Ob.box (sqz z), Ob.box (pqz y)]), Ob.box (lbx { l with x := at2 l.x true z, sent := at2 l.sent true ((l.sent true) ++ [v]) } r) :: ((S1.set (r 2) (Ob.row ((l.sent true).length + 1) 1)) ++ [Ob.box (ntz ⟨d, true, m, v⟩), Ob.box (sqz z), Ob.box (pqz y)]))] (by rfl) (by kernel_rfl) (rs := [80, 77]) (by rfl) nrSeB0 (fun base => ⟨
          ⟨rfl, rfl, by
            refine n_store ti22 nrSeB0 nrSeB0 nrSeB0 rfl nrSeB0 rfl rfl rfl nrSeB0 ?_
            exact AOps.nil ⟨rfl, rfl, rfl⟩⟩,
          trivial⟩) ?_
      refine Walk.done ?_
      refine AWP.anyT [10, 13] (fun p => match p with | [false, false] => Ob.box (lbx { l with x := at2 l.x true z, sent := at2 l.sent true ((l.sent true) ++ [v]) } r) :: ((S1.set (r 2) (Ob.row ((l.sent true).length + 1) 1)) ++ [Ob.box (ntz ⟨d, true, m, v⟩), Ob.box (sqz z), Ob.box (pqz y)]) | [true, false] => Ob.box (lbx { l with x := at2 l.x true z, sent := at2 l.sent true ((l.sent true) ++ [v]) } r) :: ((S1.set (r 2) (Ob.row ((l.sent true).length + 1) 1)).set (r 0) (Ob.row (l.bag.length + 1) 6) ++ [Ob.box (ntz ⟨d, true, m, v⟩), Ob.box (sqz z), Ob.box (pqz y)]) | [true, true] => Ob.box (lbx { l with x := at2 l.x true z, bag := (l.bag ++ [(⟨false, y⟩ : Wy)]), sent := at2 l.sent true ((l.sent true) ++ [v]) } r) :: ((S1.set (r 2) (Ob.row ((l.sent true).length + 1) 1)).set (r 0) (Ob.row (l.bag.length + 1) 6) ++ [Ob.box (ntz ⟨d, true, m, v⟩), Ob.box (sqz z), Ob.box (pqz y)]) | _ => []) (by kernel_rfl) (by kernel_rfl) rfl rfl ?_
      refine Walk.cases [([false, false], Ob.box (lbx { l with x := at2 l.x true z, sent := at2 l.sent true ((l.sent true) ++ [v]) } r) :: ((S1.set (r 2) (Ob.row ((l.sent true).length + 1) 1)) ++ [Ob.box (ntz ⟨d, true, m, v⟩), Ob.box (sqz z), Ob.box (pqz y)]), Ob.box (lbx { l with x := at2 l.x true z, sent := at2 l.sent true ((l.sent true) ++ [v]) } r) :: ((S1.set (r 2) (Ob.row ((l.sent true).length + 1) 1)) ++ [Ob.box (ntz ⟨d, true, m, v⟩), Ob.box (sqz z), Ob.box (pqz y)])), ([true, false], Ob.box (lbx { l with x := at2 l.x true z, sent := at2 l.sent true ((l.sent true) ++ [v]) } r) :: ((S1.set (r 2) (Ob.row ((l.sent true).length + 1) 1)).set (r 0) (Ob.row (l.bag.length + 1) 6) ++ [Ob.box (ntz ⟨d, true, m, v⟩), Ob.box (sqz z), Ob.box (pqz y)]), Ob.box (lbx { l with x := at2 l.x true z, sent := at2 l.sent true ((l.sent true) ++ [v]) } r) :: ((S1.set (r 2) (Ob.row ((l.sent true).length + 1) 1)).set (r 0) (Ob.row (l.bag.length + 1) 6) ++ [Ob.box (ntz ⟨d, true, m, v⟩), Ob.box (sqz z), Ob.box (pqz y)]))] (by rfl) (by kernel_rfl) (rs := [0]) (by rfl) nrSeB0 (fun base => ⟨
          ⟨rfl, rfl, by
            refine n_move rfl nrSeB0 ?_
            exact AOps.nil ⟨rfl, rfl, rfl⟩⟩,
          ⟨rfl, rfl, by
            refine n_move rfl nrSeB0 ?_
            exact AOps.nil ⟨rfl, rfl, rfl⟩⟩,
          trivial⟩) ?_
      refine Walk.cases [([false, false], Ob.box (lbx { l with x := at2 l.x true z, sent := at2 l.sent true ((l.sent true) ++ [v]) } r) :: ((S1.set (r 2) (Ob.row ((l.sent true).length + 1) 1)) ++ [Ob.box (ntz ⟨d, true, m, v⟩), Ob.box (sqz z), Ob.box (pqz y)]), Ob.box (lbx { l with x := at2 l.x true z, sent := at2 l.sent true ((l.sent true) ++ [v]) } r) :: ((S1.set (r 2) (Ob.row ((l.sent true).length + 1) 1)) ++ [Ob.box (ntz ⟨d, true, m, v⟩), Ob.box (sqz z), Ob.box (pqz y)]))] (by rfl) (by kernel_rfl) (rs := [0]) (by rfl) nrSeB0 (fun base => ⟨
          ⟨rfl, rfl, by
            refine n_move rfl nrSeB0 ?_
            exact AOps.nil ⟨rfl, rfl, rfl⟩⟩,
          trivial⟩) ?_
      refine Walk.cases [([false, false], Ob.box (lbx { l with x := at2 l.x true z, sent := at2 l.sent true ((l.sent true) ++ [v]) } r) :: ((S1.set (r 2) (Ob.row ((l.sent true).length + 1) 1)) ++ [Ob.box (ntz ⟨d, true, m, v⟩), Ob.box (sqz z), Ob.box (pqz y)]), Ob.box (lbx { l with x := at2 l.x true z, sent := at2 l.sent true ((l.sent true) ++ [v]) } r) :: ((S1.set (r 2) (Ob.row ((l.sent true).length + 1) 1)) ++ [Ob.box (ntz ⟨d, true, m, v⟩), Ob.box (sqz z), Ob.box (pqz y)]))] (by rfl) (by kernel_rfl) (rs := [82]) (by rfl) nrSeB0 (fun base => ⟨
          ⟨rfl, rfl, by
            refine n_nilCheck rfl nrSeB0 rfl ?_
            exact AOps.nil ⟨rfl, rfl, rfl⟩⟩,
          trivial⟩) ?_
      refine Walk.cases [([false, false], Ob.box (lbx { l with x := at2 l.x true z, sent := at2 l.sent true ((l.sent true) ++ [v]) } r) :: ((S1.set (r 2) (Ob.row ((l.sent true).length + 1) 1)) ++ [Ob.box (ntz ⟨d, true, m, v⟩), Ob.box (sqz z), Ob.box (pqz y)]), Ob.box (lbx { l with x := at2 l.x true z, sent := at2 l.sent true ((l.sent true) ++ [v]) } r) :: ((S1.set (r 2) (Ob.row ((l.sent true).length + 1) 1)) ++ [Ob.box (ntz ⟨d, true, m, v⟩), Ob.box (sqz z), Ob.box (pqz y)]))] (by rfl) (by kernel_rfl) (rs := [83]) (by rfl) nrSeB0 (fun base => ⟨
          ⟨rfl, rfl, by
            refine n_fieldAddr rfl fd149_1 ti146 rfl nrSeB0 rfl nrSeB0 ?_
            exact AOps.nil ⟨rfl, rfl, rfl⟩⟩,
          trivial⟩) ?_
      refine Walk.cases [([false, false], Ob.box (lbx { l with x := at2 l.x true z, sent := at2 l.sent true ((l.sent true) ++ [v]) } r) :: ((S1.set (r 2) (Ob.row ((l.sent true).length + 1) 1)) ++ [Ob.box (ntz ⟨d, true, m, v⟩), Ob.box (sqz z), Ob.box (pqz y)]), Ob.box (lbx { l with x := at2 l.x true z, sent := at2 l.sent true ((l.sent true) ++ [v]) } r) :: ((S1.set (r 2) (Ob.row ((l.sent true).length + 1) 1)) ++ [Ob.box (ntz ⟨d, true, m, v⟩), Ob.box (sqz z), Ob.box (pqz y)]))] (by rfl) (by kernel_rfl) (rs := [84]) (by rfl) nrSeB0 (fun base => ⟨
          ⟨rfl, rfl, by
            refine n_load rfl ti146 nrSeB0 nrSeB0 rfl nrSeB0 ?_
            exact AOps.nil ⟨rfl, rfl, rfl⟩⟩,
          trivial⟩) ?_
      refine Walk.cases [([false, false], Ob.box (lbx { l with x := at2 l.x true z, sent := at2 l.sent true ((l.sent true) ++ [v]) } r) :: ((S1.set (r 2) (Ob.row ((l.sent true).length + 1) 1)) ++ [Ob.box (ntz ⟨d, true, m, v⟩), Ob.box (sqz z), Ob.box (pqz y)]), Ob.box (lbx { l with x := at2 l.x true z, sent := at2 l.sent true ((l.sent true) ++ [v]) } r) :: ((S1.set (r 2) (Ob.row ((l.sent true).length + 1) 1)) ++ [Ob.box (ntz ⟨d, true, m, v⟩), Ob.box (sqz z), Ob.box (pqz y)]))] (by rfl) (by kernel_rfl) (rs := [4]) (by rfl) nrSeB0 (fun base => ⟨
          ⟨rfl, rfl, by
            refine n_move rfl nrSeB0 ?_
            exact AOps.nil ⟨rfl, rfl, rfl⟩⟩,
          trivial⟩) ?_
      refine Walk.cases [([false, false], Ob.box (lbx { l with x := at2 l.x true z, sent := at2 l.sent true ((l.sent true) ++ [v]) } r) :: ((S1.set (r 2) (Ob.row ((l.sent true).length + 1) 1)) ++ [Ob.box (ntz ⟨d, true, m, v⟩), Ob.box (sqz z), Ob.box (pqz y)]), Ob.box (lbx { l with x := at2 l.x true z, sent := at2 l.sent true ((l.sent true) ++ [v]) } r) :: ((S1.set (r 2) (Ob.row ((l.sent true).length + 1) 1)) ++ [Ob.box (ntz ⟨d, true, m, v⟩), Ob.box (sqz z), Ob.box (pqz y)]))] (by rfl) (by kernel_rfl) (rs := [86]) (by rfl) nrSeB0 (fun base => ⟨
          ⟨rfl, rfl, by
            refine n_isub (c := 0) rfl nrSeB0 nrSeB0 (by decide) (by decide) (by decide) ?_
            exact AOps.nil ⟨rfl, rfl, rfl⟩⟩,
          trivial⟩) ?_
      refine Walk.cases [([false, false], Ob.box (lbx { l with x := at2 l.x true z, sent := at2 l.sent true ((l.sent true) ++ [v]) } r) :: ((S1.set (r 2) (Ob.row ((l.sent true).length + 1) 1)) ++ [Ob.box (ntz ⟨d, true, m, v⟩), Ob.box (sqz z), Ob.box (pqz y)]), Ob.box (lbx { l with x := at2 l.x true z, sent := at2 l.sent true ((l.sent true) ++ [v]) } r) :: ((S1.set (r 2) (Ob.row ((l.sent true).length + 1) 1)) ++ [Ob.box (ntz ⟨d, true, m, v⟩), Ob.box (sqz z), Ob.box (pqz y)]))] (by rfl) (by kernel_rfl) (rs := [6]) (by rfl) nrSeB0 (fun base => ⟨
          ⟨rfl, rfl, by
            refine n_load rfl ti157 nrSeB0 nrSeB0 rfl nrSeB0 ?_
            exact AOps.nil ⟨rfl, rfl, rfl⟩⟩,
          trivial⟩) ?_
      refine Walk.cases [([false, false], Ob.box (lbx { l with x := at2 l.x true z, sent := at2 l.sent true ((l.sent true) ++ [v]) } r) :: ((S1.set (r 2) (Ob.row ((l.sent true).length + 1) 1)) ++ [Ob.box (ntz ⟨d, true, m, v⟩), Ob.box (sqz z), Ob.box (pqz y)]), Ob.box (lbx { l with x := at2 l.x true z, sent := at2 l.sent true ((l.sent true) ++ [v]) } r) :: ((S1.set (r 2) (Ob.row ((l.sent true).length + 1) 1)) ++ [Ob.box (ntz ⟨d, true, m, v⟩), Ob.box (sqz z), Ob.box (pqz y)]))] (by rfl) (by kernel_rfl) (rs := [87, 88]) (by rfl) nrSeB0 (fun base => ⟨
          ⟨rfl, rfl, by
            refine n_build rfl si161 (Eq.trans (by simp only [nl] <;> rfl) nrSeB0) (Eq.trans (by simp only [nl] <;> rfl) nrSeB0) rfl ?_
            exact AOps.nil ⟨rfl, rfl, rfl⟩⟩,
          trivial⟩) ?_
      refine Walk.cases [([false, false], Ob.box (lbx { l with x := at2 l.x true z, sent := at2 l.sent true ((l.sent true) ++ [v]) } r) :: ((S1.set (r 2) (Ob.row ((l.sent true).length + 1) 1)) ++ [Ob.box (ntz ⟨d, true, m, v⟩), Ob.box (sqz z), Ob.box (pqz y)]), Ob.box (lbx { l with x := at2 l.x true z, sent := at2 l.sent true ((l.sent true) ++ [v]) } r) :: ((S1.set (r 2) (Ob.row ((l.sent true).length + 1) 1)) ++ [Ob.box (ntz ⟨d, true, m, v⟩), Ob.box (sqz z), Ob.box (pqz y)]))] (by rfl) (by kernel_rfl) (rs := [89]) (by rfl) nrSeB0 (fun base => ⟨
          ⟨rfl, rfl, by
            refine n_lit rfl Try.underlying146 ti161 zi161 rfl rfl (Eq.trans (by simp only [nl] <;> rfl) nrSeB0) rfl nrSeB0 ?_
            exact AOps.nil ⟨rfl, rfl, rfl⟩⟩,
          trivial⟩) ?_
      refine Walk.cases [([false, false], Ob.box (lbx { l with x := at2 l.x true z, sent := at2 l.sent true ((l.sent true) ++ [v]) } r) :: ((S1.set (r 2) (Ob.row ((l.sent true).length + 1) 1)) ++ [Ob.box (ntz ⟨d, true, m, v⟩), Ob.box (sqz z), Ob.box (pqz y)]), Ob.box (lbx { l with x := at2 l.x true z, sent := at2 l.sent true ((l.sent true) ++ [v]) } r) :: ((S1.set (r 2) (Ob.row ((l.sent true).length + 1) 1)).set (r 0) (Ob.row (l.bag.length + 1) 6) ++ [Ob.box (ntz ⟨d, true, m, v⟩), Ob.box (sqz z), Ob.box (pqz y)]))] (by rfl) (by kernel_rfl) (rs := [85, 90]) (by rfl) nrSeB0 (fun base => ⟨
          ⟨rfl, rfl, by
            refine n_append_own (zs := (l.bag ++ [(⟨false, y⟩ : Wy)]).map wyz) (m := l.bag.length + 1) (S' := Ob.box (lbx { l with x := at2 l.x true z, sent := at2 l.sent true ((l.sent true) ++ [v]) } r) :: ((S1.set (r 2) (Ob.row ((l.sent true).length + 1) 1)).set (r 0) (Ob.row (l.bag.length + 1) 6) ++ [Ob.box (ntz ⟨d, true, m, v⟩), Ob.box (sqz z), Ob.box (pqz y)])) rfl Try.underlying146 Try.underlying146 ei161 nrSeB0 (by show (S1.set _ _ ++ _)[r 0]? = _; exact h1.at (by decide)) (by rw [List.length_map]; rfl) nrSeB0 (by exact map_one (f := wyz) (fun _ => rfl)) (by exact one_one rfl) (by rw [List.map_append]; rfl) (by rw [List.length_map]; rfl) (by have := hg.bl; omega) (by exact congrArg (_ :: ·) (List.set_append_left _ _ (by rw [List.length_set]; exact hr.lt (by decide)))) ?_
            exact AOps.nil ⟨rfl, rfl, rfl⟩⟩,
          trivial⟩) ?_
      refine Walk.cases [([true, false], Ob.box (lbx { l with x := at2 l.x true z, sent := at2 l.sent true ((l.sent true) ++ [v]) } r) :: ((S1.set (r 2) (Ob.row ((l.sent true).length + 1) 1)).set (r 0) (Ob.row (l.bag.length + 1) 6) ++ [Ob.box (ntz ⟨d, true, m, v⟩), Ob.box (sqz z), Ob.box (pqz y)]), Ob.box (lbx { l with x := at2 l.x true z, sent := at2 l.sent true ((l.sent true) ++ [v]) } r) :: ((S1.set (r 2) (Ob.row ((l.sent true).length + 1) 1)).set (r 0) (Ob.row (l.bag.length + 1) 6) ++ [Ob.box (ntz ⟨d, true, m, v⟩), Ob.box (sqz z), Ob.box (pqz y)]))] (by rfl) (by kernel_rfl) (rs := [81]) (by rfl) nrSeB0 (fun base => ⟨
          ⟨rfl, rfl, by
            refine n_nilCheck rfl nrSeB0 rfl ?_
            exact AOps.nil ⟨rfl, rfl, rfl⟩⟩,
          trivial⟩) ?_
      refine Walk.cases [([true, false], Ob.box (lbx { l with x := at2 l.x true z, sent := at2 l.sent true ((l.sent true) ++ [v]) } r) :: ((S1.set (r 2) (Ob.row ((l.sent true).length + 1) 1)).set (r 0) (Ob.row (l.bag.length + 1) 6) ++ [Ob.box (ntz ⟨d, true, m, v⟩), Ob.box (sqz z), Ob.box (pqz y)]), Ob.box (lbx { l with x := at2 l.x true z, sent := at2 l.sent true ((l.sent true) ++ [v]) } r) :: ((S1.set (r 2) (Ob.row ((l.sent true).length + 1) 1)).set (r 0) (Ob.row (l.bag.length + 1) 6) ++ [Ob.box (ntz ⟨d, true, m, v⟩), Ob.box (sqz z), Ob.box (pqz y)]))] (by rfl) (by kernel_rfl) (rs := [92]) (by rfl) nrSeB0 (fun base => ⟨
          ⟨rfl, rfl, by
            refine n_fieldAddr rfl fd149_1 ti146 rfl nrSeB0 rfl nrSeB0 ?_
            exact AOps.nil ⟨rfl, rfl, rfl⟩⟩,
          trivial⟩) ?_
      refine Walk.cases (d := .any) [([true, false], Ob.box (lbx { l with x := at2 l.x true z, sent := at2 l.sent true ((l.sent true) ++ [v]) } r) :: ((S1.set (r 2) (Ob.row ((l.sent true).length + 1) 1)).set (r 0) (Ob.row (l.bag.length + 1) 6) ++ [Ob.box (ntz ⟨d, true, m, v⟩), Ob.box (sqz z), Ob.box (pqz y)]), Ob.box (lbx { l with x := at2 l.x true z, bag := (l.bag ++ [(⟨false, y⟩ : Wy)]), sent := at2 l.sent true ((l.sent true) ++ [v]) } r) :: ((S1.set (r 2) (Ob.row ((l.sent true).length + 1) 1)).set (r 0) (Ob.row (l.bag.length + 1) 6) ++ [Ob.box (ntz ⟨d, true, m, v⟩), Ob.box (sqz z), Ob.box (pqz y)]))] (by rfl) (by kernel_rfl) (rs := [93, 91]) (by rfl) nrSeB0 (fun base => ⟨
          ⟨rfl, rfl, by
            refine n_store ti146 nrSeB0 nrSeB0 nrSeB0 rfl nrSeB0 rfl rfl rfl nrSeB0 ?_
            exact AOps.nil ⟨rfl, rfl, rfl⟩⟩,
          trivial⟩) ?_
      refine Walk.done ?_
      refine finK_normal .nil nrSeB0 ?_
      rw [hz] at hK
      first
      | exact hK r2 S2 h2
      | exact hK r _ (Rw.app (Rw.set h1 (k := 0) (by decide) (Prod.ext (List.length_append ..) rfl) (fun j hj hne => by rcases j with _ | _ | _ | _ | _ | j <;> first | rfl | exact absurd rfl hne | omega)))
      | exact hK r _ (Rw.app (Rw.set hr (k := 0) (by decide) (Prod.ext (List.length_append ..) rfl) (fun j hj hne => by rcases j with _ | _ | _ | _ | _ | j <;> first | rfl | exact absurd rfl hne | omega)))
      | (rw [List.take_length] at *; exact hK r _ hs)
      | exact hK (fun k => if k = 0 then S1.length + 1 else r k) _ (Rw.new (i := S1.length + 1) (n := l.bag.length - 1) hr (by omega) (by rw [List.getElem?_append_right (by omega), Nat.add_sub_cancel_left]; rfl) (Prod.ext (List.length_eraseIdx_of_lt hil) rfl) (fun j hj hne => by rcases j with _ | _ | _ | _ | _ | j <;> first | rfl | exact absurd rfl hne | omega))
      | exact hK r _ (Rw.app hr)
    · try simp only [nh] at hc3
      have h16 := (hcase.resolve_left (fun h => by omega)).1
      have hz : l.does (⟨d, true, m, v⟩ : Nt) = l := by unfold Ln.does; rw [if_pos hd0, if_neg h16]
      refine AWP.skip ?_
      refine finK_normal .nil nrSeB0 ?_
      rw [hz] at hK
      first
      | exact hK r2 S2 h2
      | exact hK r _ (Rw.app (Rw.set h1 (k := 0) (by decide) (Prod.ext (List.length_append ..) rfl) (fun j hj hne => by rcases j with _ | _ | _ | _ | _ | j <;> first | rfl | exact absurd rfl hne | omega)))
      | exact hK r _ (Rw.app (Rw.set hr (k := 0) (by decide) (Prod.ext (List.length_append ..) rfl) (fun j hj hne => by rcases j with _ | _ | _ | _ | _ | j <;> first | rfl | exact absurd rfl hne | omega)))
      | (rw [List.take_length] at *; exact hK r _ hs)
      | exact hK (fun k => if k = 0 then S1.length + 1 else r k) _ (Rw.new (i := S1.length + 1) (n := l.bag.length - 1) hr (by omega) (by rw [List.getElem?_append_right (by omega), Nat.add_sub_cancel_left]; rfl) (Prod.ext (List.length_eraseIdx_of_lt hil) rfl) (fun j hj hne => by rcases j with _ | _ | _ | _ | _ | j <;> first | rfl | exact absurd rfl hne | omega))
      | exact hK r _ (Rw.app hr)
  · try simp only [nh] at hc2
    have hd0 : ¬ d = 0 := by simpa using hc2
    refine AWP.seq ?_
    refine AWP.region ?_
    refine n_ibin rfl nrSeB0 nrSeB0 rfl ?_
    refine n_assign rfl nrSeB0 ?_
    refine AOps.nil ?_
    refine AWP.cond nrSeB0 (fun hc4 => ?_) (fun hc4 => ?_)
    · try simp only [nh] at hc4
      have hd1 := hc4
      have hz : l.does (⟨d, true, m, v⟩ : Nt) = { l with bag := l.bag ++ ((l.x true).again).map fun y => (⟨false, y⟩ : Wy) } := by unfold Ln.does; rw [if_neg hd0, if_pos hd1]; rfl
      refine AWP.seq ?_
      refine AWP.region ?_
      refine n_move rfl nrSeB0 ?_
      refine n_move rfl nrSeB0 ?_
      refine n_nilCheck rfl nrSeB0 rfl ?_
      refine n_fieldAddr rfl fd149_0 ti145 rfl nrSeB0 rfl nrSeB0 ?_
      refine n_arrAddr (q := 6) rfl Try.underlying145 ti141 nrSeB0 nrSeB0 (by decide) (by decide) rfl ?_
      refine n_load rfl ti141 nrSeB0 nrSeB0 rfl nrSeB0 ?_
      refine n_call0B rfl cf111 rfl (Eq.trans (by simp only [nl] <;> rfl) nrSeB0) (by repeat (first | exact .nil | refine .cons ?_ ?_ | exact ren_ints | exact .lf (.val _) | exact .lf (lf_ints (.inl rfl)) | exact .bp ⟨rfl, rfl⟩ | exact .bp (.inl ⟨rfl, rfl⟩) | exact .bp (.inr ⟨rfl, rfl⟩) | exact .lf (lf_fnrp (sqz_lf _)) | exact .lf (.rp (sqz_lf _)) | exact ren_qe | exact .lf (lf_sqz _) | exact .lf (lf_qe (.inl rfl)) | exact ren_sqz rfl | exact ren_sqz0 rfl | exact ren_bys0 rfl | exact .lf (D.flat_lf rfl) | exact ren_lits rfl | exact .lf (lf_ssz _) | exact .lf (lf_pqz _) | exact ren_q0 rfl | exact ren_pq rfl | exact ren_nl0 | exact ren_sq | exact .lf (.fn (fun d h => by cases h) (fun d h => by cases h)))) (hres) lfSeB0 ?_
      refine n_len rfl Try.underlying154 nrSeB0 (by first | rw [ints_length] | rw [List.length_map] | rfl) ?_
      refine n_move rfl nrSeB0 ?_
      refine AOps.nil ?_
      refine AWP.block ?_
      refine AWP.loop (α := Nat × List Ob) (fun q => q.1 ≤ (l.x true).again.length ∧ Rw { l with bag := l.bag ++ (((l.x true).again.take q.1).map fun y => (⟨false, y⟩ : Wy)) } r q.2) (fun q => put (put (put (put (put empty 0 (.bp 0 0)) 4 (vi 1)) 102 (.sl none ((l.x true).again.map pqz) .ro)) 103 (vi ((l.x true).again.length : Int))) 104 (vi (q.1 : Int))) (fun q => Ob.box (lbx { l with bag := (l.bag ++ (((l.x true).again.take q.1).map fun y => (⟨false, y⟩ : Wy))) } r) :: q.2) (fun q => (l.x true).again.length - q.1) (0, S1 ++ [Ob.box (ntz ⟨d, true, m, v⟩)]) ?_ ?_ ?_ ?_
      · exact ⟨Nat.zero_le _, Rw.same (Rw.app hr) (fun j hj => by rcases j with _ | _ | _ | _ | _ | j <;> first | rfl | (simp [Ln.rl]) | omega)⟩
      · (repeat (first | exact FLe.empty _ | refine FLe.put ?_ ?_)) <;> first | (simp only [nf, nfV, Nat.beq]; done) | rfl | ((try simp only [nf, nfV, Nat.beq]); first | rfl | (simp only [List.length_map]; done))
      · simp
      · rintro ⟨i, S2⟩ ⟨hi, hs⟩
        dsimp only at hi hs ⊢
        refine AWP.seq ?_
        refine AWP.region ?_
        refine n_ibin rfl nrSeB0 nrSeB0 rfl ?_
        refine AOps.nil ?_
        refine AWP.seq ?_
        refine AWP.cond nrSeB0 (fun hc5 => ?_) (fun hc5 => ?_)
        · try simp only [nh] at hc5
          obtain ⟨y1, hy0⟩ : ∃ y1, (l.x true).again[i]? = some y1 := ⟨_, List.getElem?_eq_getElem (by omega)⟩
          have hyx := map_at pqz hy0
          refine AWP.skip ?_
          refine AWP.seq ?_
          refine AWP.block ?_
          refine AWP.seq ?_
          refine AWP.region ?_
          refine n_indexAddr rfl Try.underlying154 ti157 rfl nrSeB0 nrSeB0 (by omega) (by exact hyx) rfl ?_
          refine n_load rfl ti157 nrSeB0 nrSeB0 rfl nrSeB0 ?_
          refine n_alloc rfl zi157 rfl nrSeB0 nrSeB0 ?_
          refine n_store ti157 nrSeB0 nrSeB0 nrSeB0 rfl nrSeB0 rfl rfl rfl nrSeB0 ?_
          refine AOps.nil ?_
          refine AWP.anyT [10, 13] (fun p => match p with | [false, false] => Ob.box (lbx { l with bag := (l.bag ++ (((l.x true).again.take i).map fun y => (⟨false, y⟩ : Wy))) } r) :: (S2 ++ [Ob.box (pqz y1)]) | [true, false] => Ob.box (lbx { l with bag := (l.bag ++ (((l.x true).again.take i).map fun y => (⟨false, y⟩ : Wy))) } r) :: (S2.set (r 0) (Ob.row (l.bag ++ (((l.x true).again.take (i + 1)).map fun y => (⟨false, y⟩ : Wy))).length 6) ++ [Ob.box (pqz y1)]) | [true, true] => Ob.box (lbx { l with bag := (l.bag ++ (((l.x true).again.take (i + 1)).map fun y => (⟨false, y⟩ : Wy))) } r) :: (S2.set (r 0) (Ob.row (l.bag ++ (((l.x true).again.take (i + 1)).map fun y => (⟨false, y⟩ : Wy))).length 6) ++ [Ob.box (pqz y1)]) | _ => []) (by kernel_rfl) (by kernel_rfl) rfl rfl ?_
          refine Walk.cases [([false, false], Ob.box (lbx { l with bag := (l.bag ++ (((l.x true).again.take i).map fun y => (⟨false, y⟩ : Wy))) } r) :: (S2 ++ [Ob.box (pqz y1)]), Ob.box (lbx { l with bag := (l.bag ++ (((l.x true).again.take i).map fun y => (⟨false, y⟩ : Wy))) } r) :: (S2 ++ [Ob.box (pqz y1)])), ([true, false], Ob.box (lbx { l with bag := (l.bag ++ (((l.x true).again.take i).map fun y => (⟨false, y⟩ : Wy))) } r) :: (S2.set (r 0) (Ob.row (l.bag ++ (((l.x true).again.take (i + 1)).map fun y => (⟨false, y⟩ : Wy))).length 6) ++ [Ob.box (pqz y1)]), Ob.box (lbx { l with bag := (l.bag ++ (((l.x true).again.take i).map fun y => (⟨false, y⟩ : Wy))) } r) :: (S2.set (r 0) (Ob.row (l.bag ++ (((l.x true).again.take (i + 1)).map fun y => (⟨false, y⟩ : Wy))).length 6) ++ [Ob.box (pqz y1)]))] (by rfl) (by kernel_rfl) (rs := [0]) (by rfl) nrSeB0 (fun base => ⟨
              ⟨rfl, rfl, by
                refine n_move rfl nrSeB0 ?_
                exact AOps.nil ⟨rfl, rfl, rfl⟩⟩,
              ⟨rfl, rfl, by
                refine n_move rfl nrSeB0 ?_
                exact AOps.nil ⟨rfl, rfl, rfl⟩⟩,
              trivial⟩) ?_
          refine Walk.cases [([false, false], Ob.box (lbx { l with bag := (l.bag ++ (((l.x true).again.take i).map fun y => (⟨false, y⟩ : Wy))) } r) :: (S2 ++ [Ob.box (pqz y1)]), Ob.box (lbx { l with bag := (l.bag ++ (((l.x true).again.take i).map fun y => (⟨false, y⟩ : Wy))) } r) :: (S2 ++ [Ob.box (pqz y1)]))] (by rfl) (by kernel_rfl) (rs := [0]) (by rfl) nrSeB0 (fun base => ⟨
              ⟨rfl, rfl, by
                refine n_move rfl nrSeB0 ?_
                exact AOps.nil ⟨rfl, rfl, rfl⟩⟩,
              trivial⟩) ?_
          refine Walk.cases [([false, false], Ob.box (lbx { l with bag := (l.bag ++ (((l.x true).again.take i).map fun y => (⟨false, y⟩ : Wy))) } r) :: (S2 ++ [Ob.box (pqz y1)]), Ob.box (lbx { l with bag := (l.bag ++ (((l.x true).again.take i).map fun y => (⟨false, y⟩ : Wy))) } r) :: (S2 ++ [Ob.box (pqz y1)]))] (by rfl) (by kernel_rfl) (rs := [109]) (by rfl) nrSeB0 (fun base => ⟨
              ⟨rfl, rfl, by
                refine n_nilCheck rfl nrSeB0 rfl ?_
                exact AOps.nil ⟨rfl, rfl, rfl⟩⟩,
              trivial⟩) ?_
          refine Walk.cases [([false, false], Ob.box (lbx { l with bag := (l.bag ++ (((l.x true).again.take i).map fun y => (⟨false, y⟩ : Wy))) } r) :: (S2 ++ [Ob.box (pqz y1)]), Ob.box (lbx { l with bag := (l.bag ++ (((l.x true).again.take i).map fun y => (⟨false, y⟩ : Wy))) } r) :: (S2 ++ [Ob.box (pqz y1)]))] (by rfl) (by kernel_rfl) (rs := [110]) (by rfl) nrSeB0 (fun base => ⟨
              ⟨rfl, rfl, by
                refine n_fieldAddr rfl fd149_1 ti146 rfl nrSeB0 rfl nrSeB0 ?_
                exact AOps.nil ⟨rfl, rfl, rfl⟩⟩,
              trivial⟩) ?_
          refine Walk.cases [([false, false], Ob.box (lbx { l with bag := (l.bag ++ (((l.x true).again.take i).map fun y => (⟨false, y⟩ : Wy))) } r) :: (S2 ++ [Ob.box (pqz y1)]), Ob.box (lbx { l with bag := (l.bag ++ (((l.x true).again.take i).map fun y => (⟨false, y⟩ : Wy))) } r) :: (S2 ++ [Ob.box (pqz y1)]))] (by rfl) (by kernel_rfl) (rs := [111]) (by rfl) nrSeB0 (fun base => ⟨
              ⟨rfl, rfl, by
                refine n_load rfl ti146 nrSeB0 nrSeB0 rfl nrSeB0 ?_
                exact AOps.nil ⟨rfl, rfl, rfl⟩⟩,
              trivial⟩) ?_
          refine Walk.cases [([false, false], Ob.box (lbx { l with bag := (l.bag ++ (((l.x true).again.take i).map fun y => (⟨false, y⟩ : Wy))) } r) :: (S2 ++ [Ob.box (pqz y1)]), Ob.box (lbx { l with bag := (l.bag ++ (((l.x true).again.take i).map fun y => (⟨false, y⟩ : Wy))) } r) :: (S2 ++ [Ob.box (pqz y1)]))] (by rfl) (by kernel_rfl) (rs := [4]) (by rfl) nrSeB0 (fun base => ⟨
              ⟨rfl, rfl, by
                refine n_move rfl nrSeB0 ?_
                exact AOps.nil ⟨rfl, rfl, rfl⟩⟩,
              trivial⟩) ?_
          refine Walk.cases [([false, false], Ob.box (lbx { l with bag := (l.bag ++ (((l.x true).again.take i).map fun y => (⟨false, y⟩ : Wy))) } r) :: (S2 ++ [Ob.box (pqz y1)]), Ob.box (lbx { l with bag := (l.bag ++ (((l.x true).again.take i).map fun y => (⟨false, y⟩ : Wy))) } r) :: (S2 ++ [Ob.box (pqz y1)]))] (by rfl) (by kernel_rfl) (rs := [113]) (by rfl) nrSeB0 (fun base => ⟨
              ⟨rfl, rfl, by
                refine n_isub (c := 0) rfl nrSeB0 nrSeB0 (by decide) (by decide) (by decide) ?_
                exact AOps.nil ⟨rfl, rfl, rfl⟩⟩,
              trivial⟩) ?_
          refine Walk.cases [([false, false], Ob.box (lbx { l with bag := (l.bag ++ (((l.x true).again.take i).map fun y => (⟨false, y⟩ : Wy))) } r) :: (S2 ++ [Ob.box (pqz y1)]), Ob.box (lbx { l with bag := (l.bag ++ (((l.x true).again.take i).map fun y => (⟨false, y⟩ : Wy))) } r) :: (S2 ++ [Ob.box (pqz y1)]))] (by rfl) (by kernel_rfl) (rs := [9]) (by rfl) nrSeB0 (fun base => ⟨
              ⟨rfl, rfl, by
                refine n_load rfl ti157 nrSeB0 nrSeB0 rfl nrSeB0 ?_
                exact AOps.nil ⟨rfl, rfl, rfl⟩⟩,
              trivial⟩) ?_
          refine Walk.cases [([false, false], Ob.box (lbx { l with bag := (l.bag ++ (((l.x true).again.take i).map fun y => (⟨false, y⟩ : Wy))) } r) :: (S2 ++ [Ob.box (pqz y1)]), Ob.box (lbx { l with bag := (l.bag ++ (((l.x true).again.take i).map fun y => (⟨false, y⟩ : Wy))) } r) :: (S2 ++ [Ob.box (pqz y1)]))] (by rfl) (by kernel_rfl) (rs := [114, 115]) (by rfl) nrSeB0 (fun base => ⟨
              ⟨rfl, rfl, by
                refine n_build rfl si161 (Eq.trans (by simp only [nl] <;> rfl) nrSeB0) (Eq.trans (by simp only [nl] <;> rfl) nrSeB0) rfl ?_
                exact AOps.nil ⟨rfl, rfl, rfl⟩⟩,
              trivial⟩) ?_
          refine Walk.cases [([false, false], Ob.box (lbx { l with bag := (l.bag ++ (((l.x true).again.take i).map fun y => (⟨false, y⟩ : Wy))) } r) :: (S2 ++ [Ob.box (pqz y1)]), Ob.box (lbx { l with bag := (l.bag ++ (((l.x true).again.take i).map fun y => (⟨false, y⟩ : Wy))) } r) :: (S2 ++ [Ob.box (pqz y1)]))] (by rfl) (by kernel_rfl) (rs := [116]) (by rfl) nrSeB0 (fun base => ⟨
              ⟨rfl, rfl, by
                refine n_lit rfl Try.underlying146 ti161 zi161 rfl rfl (Eq.trans (by simp only [nl] <;> rfl) nrSeB0) rfl nrSeB0 ?_
                exact AOps.nil ⟨rfl, rfl, rfl⟩⟩,
              trivial⟩) ?_
          refine Walk.cases [([false, false], Ob.box (lbx { l with bag := (l.bag ++ (((l.x true).again.take i).map fun y => (⟨false, y⟩ : Wy))) } r) :: (S2 ++ [Ob.box (pqz y1)]), Ob.box (lbx { l with bag := (l.bag ++ (((l.x true).again.take i).map fun y => (⟨false, y⟩ : Wy))) } r) :: (S2.set (r 0) (Ob.row (l.bag ++ (((l.x true).again.take (i + 1)).map fun y => (⟨false, y⟩ : Wy))).length 6) ++ [Ob.box (pqz y1)]))] (by rfl) (by kernel_rfl) (rs := [112, 117]) (by rfl) nrSeB0 (fun base => ⟨
              ⟨rfl, rfl, by
                refine n_append_own (zs := (l.bag ++ (((l.x true).again.take (i + 1)).map fun y => (⟨false, y⟩ : Wy))).map wyz) (m := (l.bag ++ (((l.x true).again.take (i + 1)).map fun y => (⟨false, y⟩ : Wy))).length) (S' := Ob.box (lbx { l with bag := (l.bag ++ (((l.x true).again.take i).map fun y => (⟨false, y⟩ : Wy))) } r) :: (S2.set (r 0) (Ob.row (l.bag ++ (((l.x true).again.take (i + 1)).map fun y => (⟨false, y⟩ : Wy))).length 6) ++ [Ob.box (pqz y1)])) rfl Try.underlying146 Try.underlying146 ei161 nrSeB0 (by show (S2 ++ _)[r 0]? = _; exact hs.at (by decide)) (by rw [List.length_map]; rfl) nrSeB0 (by exact map_one (f := wyz) (fun _ => rfl)) (by exact one_one rfl) (by rw [take_snoc hy0]; simp <;> rfl) (by rw [take_snoc hy0]; simp; try omega) (by simp only [List.length_append, List.length_map, List.length_take]; omega) (by exact congrArg (_ :: ·) (List.set_append_left _ _ (hs.lt (by decide)))) ?_
                exact AOps.nil ⟨rfl, rfl, rfl⟩⟩,
              trivial⟩) ?_
          refine Walk.cases [([true, false], Ob.box (lbx { l with bag := (l.bag ++ (((l.x true).again.take i).map fun y => (⟨false, y⟩ : Wy))) } r) :: (S2.set (r 0) (Ob.row (l.bag ++ (((l.x true).again.take (i + 1)).map fun y => (⟨false, y⟩ : Wy))).length 6) ++ [Ob.box (pqz y1)]), Ob.box (lbx { l with bag := (l.bag ++ (((l.x true).again.take i).map fun y => (⟨false, y⟩ : Wy))) } r) :: (S2.set (r 0) (Ob.row (l.bag ++ (((l.x true).again.take (i + 1)).map fun y => (⟨false, y⟩ : Wy))).length 6) ++ [Ob.box (pqz y1)]))] (by rfl) (by kernel_rfl) (rs := [108]) (by rfl) nrSeB0 (fun base => ⟨
              ⟨rfl, rfl, by
                refine n_nilCheck rfl nrSeB0 rfl ?_
                exact AOps.nil ⟨rfl, rfl, rfl⟩⟩,
              trivial⟩) ?_
          refine Walk.cases [([true, false], Ob.box (lbx { l with bag := (l.bag ++ (((l.x true).again.take i).map fun y => (⟨false, y⟩ : Wy))) } r) :: (S2.set (r 0) (Ob.row (l.bag ++ (((l.x true).again.take (i + 1)).map fun y => (⟨false, y⟩ : Wy))).length 6) ++ [Ob.box (pqz y1)]), Ob.box (lbx { l with bag := (l.bag ++ (((l.x true).again.take i).map fun y => (⟨false, y⟩ : Wy))) } r) :: (S2.set (r 0) (Ob.row (l.bag ++ (((l.x true).again.take (i + 1)).map fun y => (⟨false, y⟩ : Wy))).length 6) ++ [Ob.box (pqz y1)]))] (by rfl) (by kernel_rfl) (rs := [119]) (by rfl) nrSeB0 (fun base => ⟨
              ⟨rfl, rfl, by
                refine n_fieldAddr rfl fd149_1 ti146 rfl nrSeB0 rfl nrSeB0 ?_
                exact AOps.nil ⟨rfl, rfl, rfl⟩⟩,
              trivial⟩) ?_
          refine Walk.cases (d := .any) [([true, false], Ob.box (lbx { l with bag := (l.bag ++ (((l.x true).again.take i).map fun y => (⟨false, y⟩ : Wy))) } r) :: (S2.set (r 0) (Ob.row (l.bag ++ (((l.x true).again.take (i + 1)).map fun y => (⟨false, y⟩ : Wy))).length 6) ++ [Ob.box (pqz y1)]), Ob.box (lbx { l with bag := (l.bag ++ (((l.x true).again.take (i + 1)).map fun y => (⟨false, y⟩ : Wy))) } r) :: (S2.set (r 0) (Ob.row (l.bag ++ (((l.x true).again.take (i + 1)).map fun y => (⟨false, y⟩ : Wy))).length 6) ++ [Ob.box (pqz y1)]))] (by rfl) (by kernel_rfl) (rs := [120, 118]) (by rfl) nrSeB0 (fun base => ⟨
              ⟨rfl, rfl, by
                refine n_store ti146 nrSeB0 nrSeB0 nrSeB0 rfl nrSeB0 rfl rfl rfl nrSeB0 ?_
                exact AOps.nil ⟨rfl, rfl, rfl⟩⟩,
              trivial⟩) ?_
          refine Walk.done ?_
          refine AWP.region ?_
          first | refine n_iadd rfl nrSeB0 nrSeB0 rfl (by omega) (by omega) ?_ | refine n_ibin rfl nrSeB0 nrSeB0 rfl ?_
          refine n_move rfl nrSeB0 ?_
          refine AOps.nil ?_
          refine ⟨(i + 1, _), ⟨by omega, Rw.app (Rw.set hs (k := 0) (by decide) rfl (fun j hj hne => by rcases j with _ | _ | _ | _ | _ | j <;> first | rfl | exact absurd rfl hne | omega))⟩, ?_, rfl, by omega⟩
          (repeat (first | exact FLe.empty _ | refine FLe.put ?_ ?_)) <;> first | (simp only [nf, nfV, Nat.beq]; done) | rfl | ((try simp only [nf, nfV, Nat.beq]); first | rfl | (simp only [List.length_map]; done))
        · try simp only [nh] at hc5
          obtain rfl : i = (l.x true).again.length := by omega
          refine AWP.exit ?_
          refine finK_normal .nil nrSeB0 ?_
          rw [hz] at hK
          first
          | exact hK r2 S2 h2
          | exact hK r _ (Rw.app (Rw.set h1 (k := 0) (by decide) (Prod.ext (List.length_append ..) rfl) (fun j hj hne => by rcases j with _ | _ | _ | _ | _ | j <;> first | rfl | exact absurd rfl hne | omega)))
          | exact hK r _ (Rw.app (Rw.set hr (k := 0) (by decide) (Prod.ext (List.length_append ..) rfl) (fun j hj hne => by rcases j with _ | _ | _ | _ | _ | j <;> first | rfl | exact absurd rfl hne | omega)))
          | (rw [List.take_length] at *; exact hK r _ hs)
          | exact hK (fun k => if k = 0 then S1.length + 1 else r k) _ (Rw.new (i := S1.length + 1) (n := l.bag.length - 1) hr (by omega) (by rw [List.getElem?_append_right (by omega), Nat.add_sub_cancel_left]; rfl) (Prod.ext (List.length_eraseIdx_of_lt hil) rfl) (fun j hj hne => by rcases j with _ | _ | _ | _ | _ | j <;> first | rfl | exact absurd rfl hne | omega))
          | exact hK r _ (Rw.app hr)
    · try simp only [nh] at hc4
      have hd1 : ¬ d = 1 := by simpa using hc4
      refine AWP.seq ?_
      refine AWP.region ?_
      refine n_ibin rfl nrSeB0 nrSeB0 rfl ?_
      refine n_assign rfl nrSeB0 ?_
      refine AOps.nil ?_
      refine AWP.cond nrSeB0 (fun hc6 => ?_) (fun hc6 => ?_)
      · try simp only [nh] at hc6
        have hd2 := hc6
        have hz : l.does (⟨d, true, m, v⟩ : Nt) = { l with bag := l.bag ++ [(⟨false, (l.x true).pk 0 []⟩ : Wy)] } := by unfold Ln.does; rw [if_neg hd0, if_neg hd1, if_pos hd2]; rfl
        refine AWP.anyT [16, 19] (fun p => match p with | [false, false] => Ob.box (lbx l r) :: (S1 ++ [Ob.box (ntz ⟨d, true, m, v⟩)]) | [true, false] => Ob.box (lbx l r) :: (S1.set (r 0) (Ob.row (l.bag.length + 1) 6) ++ [Ob.box (ntz ⟨d, true, m, v⟩)]) | [true, true] => Ob.box (lbx { l with bag := (l.bag ++ [(⟨false, (l.x true).pk 0 []⟩ : Wy)]) } r) :: (S1.set (r 0) (Ob.row (l.bag.length + 1) 6) ++ [Ob.box (ntz ⟨d, true, m, v⟩)]) | _ => []) (by kernel_rfl) (by kernel_rfl) rfl rfl ?_
        refine Walk.cases [([false, false], Ob.box (lbx l r) :: (S1 ++ [Ob.box (ntz ⟨d, true, m, v⟩)]), Ob.box (lbx l r) :: (S1 ++ [Ob.box (ntz ⟨d, true, m, v⟩)])), ([true, false], Ob.box (lbx l r) :: (S1.set (r 0) (Ob.row (l.bag.length + 1) 6) ++ [Ob.box (ntz ⟨d, true, m, v⟩)]), Ob.box (lbx l r) :: (S1.set (r 0) (Ob.row (l.bag.length + 1) 6) ++ [Ob.box (ntz ⟨d, true, m, v⟩)]))] (by rfl) (by kernel_rfl) (rs := [0]) (by rfl) nrSeB0 (fun base => ⟨
            ⟨rfl, rfl, by
              refine n_move rfl nrSeB0 ?_
              exact AOps.nil ⟨rfl, rfl, rfl⟩⟩,
            ⟨rfl, rfl, by
              refine n_move rfl nrSeB0 ?_
              exact AOps.nil ⟨rfl, rfl, rfl⟩⟩,
            trivial⟩) ?_
        refine Walk.cases [([false, false], Ob.box (lbx l r) :: (S1 ++ [Ob.box (ntz ⟨d, true, m, v⟩)]), Ob.box (lbx l r) :: (S1 ++ [Ob.box (ntz ⟨d, true, m, v⟩)]))] (by rfl) (by kernel_rfl) (rs := [0]) (by rfl) nrSeB0 (fun base => ⟨
            ⟨rfl, rfl, by
              refine n_move rfl nrSeB0 ?_
              exact AOps.nil ⟨rfl, rfl, rfl⟩⟩,
            trivial⟩) ?_
        refine Walk.cases [([false, false], Ob.box (lbx l r) :: (S1 ++ [Ob.box (ntz ⟨d, true, m, v⟩)]), Ob.box (lbx l r) :: (S1 ++ [Ob.box (ntz ⟨d, true, m, v⟩)]))] (by rfl) (by kernel_rfl) (rs := [125]) (by rfl) nrSeB0 (fun base => ⟨
            ⟨rfl, rfl, by
              refine n_nilCheck rfl nrSeB0 rfl ?_
              exact AOps.nil ⟨rfl, rfl, rfl⟩⟩,
            trivial⟩) ?_
        refine Walk.cases [([false, false], Ob.box (lbx l r) :: (S1 ++ [Ob.box (ntz ⟨d, true, m, v⟩)]), Ob.box (lbx l r) :: (S1 ++ [Ob.box (ntz ⟨d, true, m, v⟩)]))] (by rfl) (by kernel_rfl) (rs := [126]) (by rfl) nrSeB0 (fun base => ⟨
            ⟨rfl, rfl, by
              refine n_fieldAddr rfl fd149_1 ti146 rfl nrSeB0 rfl nrSeB0 ?_
              exact AOps.nil ⟨rfl, rfl, rfl⟩⟩,
            trivial⟩) ?_
        refine Walk.cases [([false, false], Ob.box (lbx l r) :: (S1 ++ [Ob.box (ntz ⟨d, true, m, v⟩)]), Ob.box (lbx l r) :: (S1 ++ [Ob.box (ntz ⟨d, true, m, v⟩)]))] (by rfl) (by kernel_rfl) (rs := [127]) (by rfl) nrSeB0 (fun base => ⟨
            ⟨rfl, rfl, by
              refine n_load rfl ti146 nrSeB0 nrSeB0 rfl nrSeB0 ?_
              exact AOps.nil ⟨rfl, rfl, rfl⟩⟩,
            trivial⟩) ?_
        refine Walk.cases [([false, false], Ob.box (lbx l r) :: (S1 ++ [Ob.box (ntz ⟨d, true, m, v⟩)]), Ob.box (lbx l r) :: (S1 ++ [Ob.box (ntz ⟨d, true, m, v⟩)]))] (by rfl) (by kernel_rfl) (rs := [4]) (by rfl) nrSeB0 (fun base => ⟨
            ⟨rfl, rfl, by
              refine n_move rfl nrSeB0 ?_
              exact AOps.nil ⟨rfl, rfl, rfl⟩⟩,
            trivial⟩) ?_
        refine Walk.cases [([false, false], Ob.box (lbx l r) :: (S1 ++ [Ob.box (ntz ⟨d, true, m, v⟩)]), Ob.box (lbx l r) :: (S1 ++ [Ob.box (ntz ⟨d, true, m, v⟩)]))] (by rfl) (by kernel_rfl) (rs := [129]) (by rfl) nrSeB0 (fun base => ⟨
            ⟨rfl, rfl, by
              refine n_isub (c := 0) rfl nrSeB0 nrSeB0 (by decide) (by decide) (by decide) ?_
              exact AOps.nil ⟨rfl, rfl, rfl⟩⟩,
            trivial⟩) ?_
        refine Walk.cases [([false, false], Ob.box (lbx l r) :: (S1 ++ [Ob.box (ntz ⟨d, true, m, v⟩)]), Ob.box (lbx l r) :: (S1 ++ [Ob.box (ntz ⟨d, true, m, v⟩)]))] (by rfl) (by kernel_rfl) (rs := [0]) (by rfl) nrSeB0 (fun base => ⟨
            ⟨rfl, rfl, by
              refine n_move rfl nrSeB0 ?_
              exact AOps.nil ⟨rfl, rfl, rfl⟩⟩,
            trivial⟩) ?_
        refine Walk.cases [([false, false], Ob.box (lbx l r) :: (S1 ++ [Ob.box (ntz ⟨d, true, m, v⟩)]), Ob.box (lbx l r) :: (S1 ++ [Ob.box (ntz ⟨d, true, m, v⟩)]))] (by rfl) (by kernel_rfl) (rs := [4]) (by rfl) nrSeB0 (fun base => ⟨
            ⟨rfl, rfl, by
              refine n_move rfl nrSeB0 ?_
              exact AOps.nil ⟨rfl, rfl, rfl⟩⟩,
            trivial⟩) ?_
        refine Walk.cases [([false, false], Ob.box (lbx l r) :: (S1 ++ [Ob.box (ntz ⟨d, true, m, v⟩)]), Ob.box (lbx l r) :: (S1 ++ [Ob.box (ntz ⟨d, true, m, v⟩)]))] (by rfl) (by kernel_rfl) (rs := [131]) (by rfl) nrSeB0 (fun base => ⟨
            ⟨rfl, rfl, by
              refine n_nilCheck rfl nrSeB0 rfl ?_
              exact AOps.nil ⟨rfl, rfl, rfl⟩⟩,
            trivial⟩) ?_
        refine Walk.cases [([false, false], Ob.box (lbx l r) :: (S1 ++ [Ob.box (ntz ⟨d, true, m, v⟩)]), Ob.box (lbx l r) :: (S1 ++ [Ob.box (ntz ⟨d, true, m, v⟩)]))] (by rfl) (by kernel_rfl) (rs := [133]) (by rfl) nrSeB0 (fun base => ⟨
            ⟨rfl, rfl, by
              refine n_fieldAddr rfl fd149_0 ti145 rfl nrSeB0 rfl nrSeB0 ?_
              exact AOps.nil ⟨rfl, rfl, rfl⟩⟩,
            trivial⟩) ?_
        refine Walk.cases [([false, false], Ob.box (lbx l r) :: (S1 ++ [Ob.box (ntz ⟨d, true, m, v⟩)]), Ob.box (lbx l r) :: (S1 ++ [Ob.box (ntz ⟨d, true, m, v⟩)]))] (by rfl) (by kernel_rfl) (rs := [134, 132]) (by rfl) nrSeB0 (fun base => ⟨
            ⟨rfl, rfl, by
              refine n_arrAddr (q := 6) rfl Try.underlying145 ti141 nrSeB0 nrSeB0 (by decide) (by decide) rfl ?_
              exact AOps.nil ⟨rfl, rfl, rfl⟩⟩,
            trivial⟩) ?_
        refine Walk.cases [([false, false], Ob.box (lbx l r) :: (S1 ++ [Ob.box (ntz ⟨d, true, m, v⟩)]), Ob.box (lbx l r) :: (S1 ++ [Ob.box (ntz ⟨d, true, m, v⟩)]))] (by rfl) (by kernel_rfl) (rs := [135]) (by rfl) nrSeB0 (fun base => ⟨
            ⟨rfl, rfl, by
              refine n_load rfl ti141 nrSeB0 nrSeB0 rfl nrSeB0 ?_
              exact AOps.nil ⟨rfl, rfl, rfl⟩⟩,
            trivial⟩) ?_
        refine Walk.cases [([false, false], Ob.box (lbx l r) :: (S1 ++ [Ob.box (ntz ⟨d, true, m, v⟩)]), Ob.box (lbx l r) :: (S1 ++ [Ob.box (ntz ⟨d, true, m, v⟩)]))] (by rfl) (by kernel_rfl) (rs := [136]) (by rfl) nrSeB0 (fun base => ⟨
            ⟨rfl, rfl, by
              refine n_call0B rfl cf112 rfl (Eq.trans (by simp only [nl] <;> rfl) nrSeB0) (by repeat (first | exact .nil | refine .cons ?_ ?_ | exact ren_ints | exact .lf (.val _) | exact .lf (lf_ints (.inl rfl)) | exact .bp ⟨rfl, rfl⟩ | exact .bp (.inl ⟨rfl, rfl⟩) | exact .bp (.inr ⟨rfl, rfl⟩) | exact .lf (lf_fnrp (sqz_lf _)) | exact .lf (.rp (sqz_lf _)) | exact ren_qe | exact .lf (lf_sqz _) | exact .lf (lf_qe (.inl rfl)) | exact ren_sqz rfl | exact ren_sqz0 rfl | exact ren_bys0 rfl | exact .lf (D.flat_lf rfl) | exact ren_lits rfl | exact .lf (lf_ssz _) | exact .lf (lf_pqz _) | exact ren_q0 rfl | exact ren_pq rfl | exact ren_nl0 | exact ren_sq | exact .lf (.fn (fun d h => by cases h) (fun d h => by cases h)))) (hans) lfSeB0 ?_
              exact AOps.nil ⟨rfl, rfl, rfl⟩⟩,
            trivial⟩) ?_
        refine Walk.cases [([false, false], Ob.box (lbx l r) :: (S1 ++ [Ob.box (ntz ⟨d, true, m, v⟩)]), Ob.box (lbx l r) :: (S1 ++ [Ob.box (ntz ⟨d, true, m, v⟩)]))] (by rfl) (by kernel_rfl) (rs := [130, 137]) (by rfl) nrSeB0 (fun base => ⟨
            ⟨rfl, rfl, by
              refine n_build rfl si161 (Eq.trans (by simp only [nl] <;> rfl) nrSeB0) (Eq.trans (by simp only [nl] <;> rfl) nrSeB0) rfl ?_
              exact AOps.nil ⟨rfl, rfl, rfl⟩⟩,
            trivial⟩) ?_
        refine Walk.cases [([false, false], Ob.box (lbx l r) :: (S1 ++ [Ob.box (ntz ⟨d, true, m, v⟩)]), Ob.box (lbx l r) :: (S1 ++ [Ob.box (ntz ⟨d, true, m, v⟩)]))] (by rfl) (by kernel_rfl) (rs := [138]) (by rfl) nrSeB0 (fun base => ⟨
            ⟨rfl, rfl, by
              refine n_lit rfl Try.underlying146 ti161 zi161 rfl rfl (Eq.trans (by simp only [nl] <;> rfl) nrSeB0) rfl nrSeB0 ?_
              exact AOps.nil ⟨rfl, rfl, rfl⟩⟩,
            trivial⟩) ?_
        refine Walk.cases [([false, false], Ob.box (lbx l r) :: (S1 ++ [Ob.box (ntz ⟨d, true, m, v⟩)]), Ob.box (lbx l r) :: (S1.set (r 0) (Ob.row (l.bag.length + 1) 6) ++ [Ob.box (ntz ⟨d, true, m, v⟩)]))] (by rfl) (by kernel_rfl) (rs := [128, 139]) (by rfl) nrSeB0 (fun base => ⟨
            ⟨rfl, rfl, by
              refine n_append_own (zs := (l.bag ++ [(⟨false, (l.x true).pk 0 []⟩ : Wy)]).map wyz) (m := l.bag.length + 1) (S' := Ob.box (lbx l r) :: (S1.set (r 0) (Ob.row (l.bag.length + 1) 6) ++ [Ob.box (ntz ⟨d, true, m, v⟩)])) rfl Try.underlying146 Try.underlying146 ei161 nrSeB0 (by show (S1 ++ _)[r 0]? = _; exact hr.at (by decide)) (by rw [List.length_map]; rfl) nrSeB0 (by exact map_one (f := wyz) (fun _ => rfl)) (by exact one_one rfl) (by rw [List.map_append]; rfl) (by rw [List.length_map]; rfl) (by have := hg.bl; omega) (by exact congrArg (_ :: ·) (List.set_append_left _ _ (hr.lt (by decide)))) ?_
              exact AOps.nil ⟨rfl, rfl, rfl⟩⟩,
            trivial⟩) ?_
        refine Walk.cases [([true, false], Ob.box (lbx l r) :: (S1.set (r 0) (Ob.row (l.bag.length + 1) 6) ++ [Ob.box (ntz ⟨d, true, m, v⟩)]), Ob.box (lbx l r) :: (S1.set (r 0) (Ob.row (l.bag.length + 1) 6) ++ [Ob.box (ntz ⟨d, true, m, v⟩)]))] (by rfl) (by kernel_rfl) (rs := [124]) (by rfl) nrSeB0 (fun base => ⟨
            ⟨rfl, rfl, by
              refine n_nilCheck rfl nrSeB0 rfl ?_
              exact AOps.nil ⟨rfl, rfl, rfl⟩⟩,
            trivial⟩) ?_
        refine Walk.cases [([true, false], Ob.box (lbx l r) :: (S1.set (r 0) (Ob.row (l.bag.length + 1) 6) ++ [Ob.box (ntz ⟨d, true, m, v⟩)]), Ob.box (lbx l r) :: (S1.set (r 0) (Ob.row (l.bag.length + 1) 6) ++ [Ob.box (ntz ⟨d, true, m, v⟩)]))] (by rfl) (by kernel_rfl) (rs := [141]) (by rfl) nrSeB0 (fun base => ⟨
            ⟨rfl, rfl, by
              refine n_fieldAddr rfl fd149_1 ti146 rfl nrSeB0 rfl nrSeB0 ?_
              exact AOps.nil ⟨rfl, rfl, rfl⟩⟩,
            trivial⟩) ?_
        refine Walk.cases (d := .any) [([true, false], Ob.box (lbx l r) :: (S1.set (r 0) (Ob.row (l.bag.length + 1) 6) ++ [Ob.box (ntz ⟨d, true, m, v⟩)]), Ob.box (lbx { l with bag := (l.bag ++ [(⟨false, (l.x true).pk 0 []⟩ : Wy)]) } r) :: (S1.set (r 0) (Ob.row (l.bag.length + 1) 6) ++ [Ob.box (ntz ⟨d, true, m, v⟩)]))] (by rfl) (by kernel_rfl) (rs := [142, 140]) (by rfl) nrSeB0 (fun base => ⟨
            ⟨rfl, rfl, by
              refine n_store ti146 nrSeB0 nrSeB0 nrSeB0 rfl nrSeB0 rfl rfl rfl nrSeB0 ?_
              exact AOps.nil ⟨rfl, rfl, rfl⟩⟩,
            trivial⟩) ?_
        refine Walk.done ?_
        refine finK_normal .nil nrSeB0 ?_
        rw [hz] at hK
        first
        | exact hK r2 S2 h2
        | exact hK r _ (Rw.app (Rw.set h1 (k := 0) (by decide) (Prod.ext (List.length_append ..) rfl) (fun j hj hne => by rcases j with _ | _ | _ | _ | _ | j <;> first | rfl | exact absurd rfl hne | omega)))
        | exact hK r _ (Rw.app (Rw.set hr (k := 0) (by decide) (Prod.ext (List.length_append ..) rfl) (fun j hj hne => by rcases j with _ | _ | _ | _ | _ | j <;> first | rfl | exact absurd rfl hne | omega)))
        | (rw [List.take_length] at *; exact hK r _ hs)
        | exact hK (fun k => if k = 0 then S1.length + 1 else r k) _ (Rw.new (i := S1.length + 1) (n := l.bag.length - 1) hr (by omega) (by rw [List.getElem?_append_right (by omega), Nat.add_sub_cancel_left]; rfl) (Prod.ext (List.length_eraseIdx_of_lt hil) rfl) (fun j hj hne => by rcases j with _ | _ | _ | _ | _ | j <;> first | rfl | exact absurd rfl hne | omega))
        | exact hK r _ (Rw.app hr)
      · try simp only [nh] at hc6
        have hd2 : ¬ d = 2 := by simpa using hc6
        refine AWP.seq ?_
        refine AWP.region ?_
        refine n_ibin rfl nrSeB0 nrSeB0 rfl ?_
        refine n_assign rfl nrSeB0 ?_
        refine AOps.nil ?_
        refine AWP.cond nrSeB0 (fun hc7 => ?_) (fun hc7 => ?_)
        · try simp only [nh] at hc7
          have hd3 := hc7
          refine AWP.seq ?_
          refine AWP.region ?_
          refine n_move rfl nrSeB0 ?_
          refine n_nilCheck rfl nrSeB0 rfl ?_
          refine n_fieldAddr rfl fd149_1 ti146 rfl nrSeB0 rfl nrSeB0 ?_
          refine n_load rfl ti146 nrSeB0 nrSeB0 rfl nrSeB0 ?_
          refine n_len rfl Try.underlying146 nrSeB0 (by first | rw [ints_length] | rw [List.length_map] | rfl) ?_
          refine n_ibin rfl nrSeB0 nrSeB0 rfl ?_
          refine AOps.nil ?_
          refine AWP.cond nrSeB0 (fun hc8 => ?_) (fun hc8 => ?_)
          · try simp only [nh] at hc8
            have hil : (m.toNat % l.bag.length) < l.bag.length := Nat.mod_lt _ (by omega)
            obtain ⟨w, hw0⟩ : ∃ w, l.bag[(m.toNat % l.bag.length)]? = some w := ⟨_, List.getElem?_eq_getElem hil⟩
            have hxw := map_at wyz hw0
            have hwc := hg.pk w (List.mem_of_getElem? hw0)
            have hz : l.does (⟨d, true, m, v⟩ : Nt) = l.takes w := by unfold Ln.does; rw [if_neg hd0, if_neg hd1, if_neg hd2, if_pos hd3]; dsimp only [Nt.i]; rw [hw0]
            refine AWP.anyThen 16 (by kernel_rfl) (by kernel_rfl) rfl (by kernel_rfl) (by kernel_rfl) ?_
            refine Walk.still (rs := [0]) (by rfl) nrSeB0 (fun base => by
                refine n_move rfl nrSeB0 ?_
                exact AOps.nil ⟨rfl, rfl, rfl⟩) ?_
            refine Walk.still (rs := [0]) (by rfl) nrSeB0 (fun base => by
                refine n_move rfl nrSeB0 ?_
                exact AOps.nil ⟨rfl, rfl, rfl⟩) ?_
            refine Walk.still (rs := [152]) (by rfl) nrSeB0 (fun base => by
                refine n_nilCheck rfl nrSeB0 rfl ?_
                exact AOps.nil ⟨rfl, rfl, rfl⟩) ?_
            refine Walk.still (rs := [153]) (by rfl) nrSeB0 (fun base => by
                refine n_fieldAddr rfl fd149_1 ti146 rfl nrSeB0 rfl nrSeB0 ?_
                exact AOps.nil ⟨rfl, rfl, rfl⟩) ?_
            refine Walk.still (rs := [154]) (by rfl) nrSeB0 (fun base => by
                refine n_load rfl ti146 nrSeB0 nrSeB0 rfl nrSeB0 ?_
                exact AOps.nil ⟨rfl, rfl, rfl⟩) ?_
            refine Walk.still (rs := [3]) (by rfl) nrSeB0 (fun base => by
                refine n_fieldAddr rfl fd151_2 ti120 rfl nrSeB0 rfl nrSeB0 ?_
                exact AOps.nil ⟨rfl, rfl, rfl⟩) ?_
            refine Walk.still (rs := [156]) (by rfl) nrSeB0 (fun base => by
                refine n_load rfl ti120 nrSeB0 nrSeB0 rfl nrSeB0 ?_
                exact AOps.nil ⟨rfl, rfl, rfl⟩) ?_
            refine Walk.still (rs := [157]) (by rfl) nrSeB0 (fun base => by
                first | refine n_conv rfl nrSeB0 (by rw [Try.underlying120]; rfl) Try.underlying3 (wrap_id (by first | omega | (simp only [loK]; omega)) (by first | omega | (simp only [hiK]; omega))) ?_ | refine n_conv rfl nrSeB0 (by rw [Try.underlying120]; rfl) Try.underlying3 rfl ?_
                exact AOps.nil ⟨rfl, rfl, rfl⟩) ?_
            refine Walk.still (rs := [0]) (by rfl) nrSeB0 (fun base => by
                refine n_move rfl nrSeB0 ?_
                exact AOps.nil ⟨rfl, rfl, rfl⟩) ?_
            refine Walk.still (rs := [159]) (by rfl) nrSeB0 (fun base => by
                refine n_nilCheck rfl nrSeB0 rfl ?_
                exact AOps.nil ⟨rfl, rfl, rfl⟩) ?_
            refine Walk.still (rs := [160]) (by rfl) nrSeB0 (fun base => by
                refine n_fieldAddr rfl fd149_1 ti146 rfl nrSeB0 rfl nrSeB0 ?_
                exact AOps.nil ⟨rfl, rfl, rfl⟩) ?_
            refine Walk.still (rs := [161]) (by rfl) nrSeB0 (fun base => by
                refine n_load rfl ti146 nrSeB0 nrSeB0 rfl nrSeB0 ?_
                exact AOps.nil ⟨rfl, rfl, rfl⟩) ?_
            refine Walk.still (rs := [162]) (by rfl) nrSeB0 (fun base => by
                refine n_len rfl Try.underlying146 nrSeB0 (by first | rw [ints_length] | rw [List.length_map] | rfl) ?_
                exact AOps.nil ⟨rfl, rfl, rfl⟩) ?_
            refine Walk.still (rs := [158, 163]) (by rfl) nrSeB0 (fun base => by
                refine n_rem (c := (((m.toNat % l.bag.length) : Nat) : Int)) rfl nrSeB0 nrSeB0 (by omega) (rem_at hn.1.1) ?_
                exact AOps.nil ⟨rfl, rfl, rfl⟩) ?_
            refine Walk.still (rs := [155, 164]) (by rfl) nrSeB0 (fun base => by
                refine n_indexAddr rfl Try.underlying146 ti161 rfl nrSeB0 nrSeB0 (by omega) (by exact hxw) rfl ?_
                exact AOps.nil ⟨rfl, rfl, rfl⟩) ?_
            refine Walk.still (rs := [165]) (by rfl) nrSeB0 (fun base => by
                refine n_load rfl ti161 nrSeB0 nrSeB0 rfl nrSeB0 ?_
                exact AOps.nil ⟨rfl, rfl, rfl⟩) ?_
            refine Walk.done ?_
            refine op_callK (dst := some 167) rfl cf113 rfl (Eq.trans (by simp only [nl] <;> rfl) nrSeB0) (takes_any l r _ hr.app hg w hwc _ (fun r2 S2 h2 => ?_))
            refine AOps.nil ?_
            refine finK_normal .nil nrSeB0 ?_
            rw [hz] at hK
            first
            | exact hK r2 S2 h2
            | exact hK r _ (Rw.app (Rw.set h1 (k := 0) (by decide) (Prod.ext (List.length_append ..) rfl) (fun j hj hne => by rcases j with _ | _ | _ | _ | _ | j <;> first | rfl | exact absurd rfl hne | omega)))
            | exact hK r _ (Rw.app (Rw.set hr (k := 0) (by decide) (Prod.ext (List.length_append ..) rfl) (fun j hj hne => by rcases j with _ | _ | _ | _ | _ | j <;> first | rfl | exact absurd rfl hne | omega)))
            | (rw [List.take_length] at *; exact hK r _ hs)
            | exact hK (fun k => if k = 0 then S1.length + 1 else r k) _ (Rw.new (i := S1.length + 1) (n := l.bag.length - 1) hr (by omega) (by rw [List.getElem?_append_right (by omega), Nat.add_sub_cancel_left]; rfl) (Prod.ext (List.length_eraseIdx_of_lt hil) rfl) (fun j hj hne => by rcases j with _ | _ | _ | _ | _ | j <;> first | rfl | exact absurd rfl hne | omega))
            | exact hK r _ (Rw.app hr)
          · try simp only [nh] at hc8
            have hb0 : l.bag = [] := List.eq_nil_of_length_eq_zero (by omega)
            have hz : l.does (⟨d, true, m, v⟩ : Nt) = l := by unfold Ln.does; rw [if_neg hd0, if_neg hd1, if_neg hd2, if_pos hd3, hb0]; rfl
            refine AWP.skip ?_
            refine finK_normal .nil nrSeB0 ?_
            rw [hz] at hK
            first
            | exact hK r2 S2 h2
            | exact hK r _ (Rw.app (Rw.set h1 (k := 0) (by decide) (Prod.ext (List.length_append ..) rfl) (fun j hj hne => by rcases j with _ | _ | _ | _ | _ | j <;> first | rfl | exact absurd rfl hne | omega)))
            | exact hK r _ (Rw.app (Rw.set hr (k := 0) (by decide) (Prod.ext (List.length_append ..) rfl) (fun j hj hne => by rcases j with _ | _ | _ | _ | _ | j <;> first | rfl | exact absurd rfl hne | omega)))
            | (rw [List.take_length] at *; exact hK r _ hs)
            | exact hK (fun k => if k = 0 then S1.length + 1 else r k) _ (Rw.new (i := S1.length + 1) (n := l.bag.length - 1) hr (by omega) (by rw [List.getElem?_append_right (by omega), Nat.add_sub_cancel_left]; rfl) (Prod.ext (List.length_eraseIdx_of_lt hil) rfl) (fun j hj hne => by rcases j with _ | _ | _ | _ | _ | j <;> first | rfl | exact absurd rfl hne | omega))
            | exact hK r _ (Rw.app hr)
        · try simp only [nh] at hc7
          have hd3 : ¬ d = 3 := by simpa using hc7
          refine AWP.seq ?_
          refine AWP.region ?_
          refine n_move rfl nrSeB0 ?_
          refine n_nilCheck rfl nrSeB0 rfl ?_
          refine n_fieldAddr rfl fd149_1 ti146 rfl nrSeB0 rfl nrSeB0 ?_
          refine n_load rfl ti146 nrSeB0 nrSeB0 rfl nrSeB0 ?_
          refine n_len rfl Try.underlying146 nrSeB0 (by first | rw [ints_length] | rw [List.length_map] | rfl) ?_
          refine n_ibin rfl nrSeB0 nrSeB0 rfl ?_
          refine AOps.nil ?_
          refine AWP.cond nrSeB0 (fun hc9 => ?_) (fun hc9 => ?_)
          · try simp only [nh] at hc9
            have hb0 : 0 < l.bag.length := by omega
            have hil : (m.toNat % l.bag.length) < l.bag.length := Nat.mod_lt _ (by omega)
            have hz : l.does (⟨d, true, m, v⟩ : Nt) = { l with bag := l.bag.eraseIdx (m.toNat % l.bag.length) } := by unfold Ln.does; rw [if_neg hd0, if_neg hd1, if_neg hd2, if_neg hd3]; rfl
            refine AWP.seq ?_
            refine AWP.anyStill (by kernel_rfl) (by kernel_rfl) ?_
            refine Walk.still (rs := [3]) (by rfl) nrSeB0 (fun base => by
                refine n_fieldAddr rfl fd151_2 ti120 rfl nrSeB0 rfl nrSeB0 ?_
                exact AOps.nil ⟨rfl, rfl, rfl⟩) ?_
            refine Walk.still (rs := [21]) (by rfl) nrSeB0 (fun base => by
                refine n_load rfl ti120 nrSeB0 nrSeB0 rfl nrSeB0 ?_
                exact AOps.nil ⟨rfl, rfl, rfl⟩) ?_
            refine Walk.still (rs := [22]) (by rfl) nrSeB0 (fun base => by
                first | refine n_conv rfl nrSeB0 (by rw [Try.underlying120]; rfl) Try.underlying3 (wrap_id (by first | omega | (simp only [loK]; omega)) (by first | omega | (simp only [hiK]; omega))) ?_ | refine n_conv rfl nrSeB0 (by rw [Try.underlying120]; rfl) Try.underlying3 rfl ?_
                exact AOps.nil ⟨rfl, rfl, rfl⟩) ?_
            refine Walk.still (rs := [0]) (by rfl) nrSeB0 (fun base => by
                refine n_move rfl nrSeB0 ?_
                exact AOps.nil ⟨rfl, rfl, rfl⟩) ?_
            refine Walk.still (rs := [24]) (by rfl) nrSeB0 (fun base => by
                refine n_nilCheck rfl nrSeB0 rfl ?_
                exact AOps.nil ⟨rfl, rfl, rfl⟩) ?_
            refine Walk.still (rs := [25]) (by rfl) nrSeB0 (fun base => by
                refine n_fieldAddr rfl fd149_1 ti146 rfl nrSeB0 rfl nrSeB0 ?_
                exact AOps.nil ⟨rfl, rfl, rfl⟩) ?_
            refine Walk.still (rs := [26]) (by rfl) nrSeB0 (fun base => by
                refine n_load rfl ti146 nrSeB0 nrSeB0 rfl nrSeB0 ?_
                exact AOps.nil ⟨rfl, rfl, rfl⟩) ?_
            refine Walk.still (rs := [27]) (by rfl) nrSeB0 (fun base => by
                refine n_len rfl Try.underlying146 nrSeB0 (by first | rw [ints_length] | rw [List.length_map] | rfl) ?_
                exact AOps.nil ⟨rfl, rfl, rfl⟩) ?_
            refine Walk.still (rs := [23, 28]) (by rfl) nrSeB0 (fun base => by
                refine n_rem (c := (((m.toNat % l.bag.length) : Nat) : Int)) rfl nrSeB0 nrSeB0 (by omega) (rem_at hn.1.1) ?_
                exact AOps.nil ⟨rfl, rfl, rfl⟩) ?_
            refine Walk.still (rs := [29]) (by rfl) nrSeB0 (fun base => by
                refine n_assign rfl nrSeB0 ?_
                exact AOps.nil ⟨rfl, rfl, rfl⟩) ?_
            refine Walk.done ?_
            refine AWP.region ?_
            refine n_move rfl nrSeB0 ?_
            refine n_move rfl nrSeB0 ?_
            refine n_nilCheck rfl nrSeB0 rfl ?_
            refine n_fieldAddr rfl fd149_1 ti146 rfl nrSeB0 rfl nrSeB0 ?_
            refine n_load rfl ti146 nrSeB0 nrSeB0 rfl nrSeB0 ?_
            refine op_callK (dst := some 35) rfl cf211 rfl (Eq.trans (by simp only [nl] <;> rfl) nrSeB0) (w_cloneL l.bag hb0 hbl _ _ S1 _ _ (fun cap hcap => ?_))
            refine n_move rfl nrSeB0 ?_
            refine n_move rfl nrSeB0 ?_
            first | refine n_iadd rfl nrSeB0 nrSeB0 rfl (by omega) (by omega) ?_ | refine n_ibin rfl nrSeB0 nrSeB0 rfl ?_
            refine op_callK (dst := some 39) rfl cf210 rfl (Eq.trans (by simp only [nl] <;> rfl) nrSeB0) (del_L l.bag (m.toNat % l.bag.length) hil hbl cap hcap _ S1 _ _ ?_)
            refine n_nilCheck rfl nrSeB0 rfl ?_
            refine n_fieldAddr rfl fd149_1 ti146 rfl nrSeB0 rfl nrSeB0 ?_
            refine n_store ti146 nrSeB0 nrSeB0 nrSeB0 rfl rfl rfl rfl rfl (S' := Ob.box [vi (l.x false).b, vi (l.x false).p, vi (l.x false).s, vi (l.x false).a, vi (l.x false).e, .sl none ((l.x false).q.map qe) .ro, vi (l.x true).b, vi (l.x true).p, vi (l.x true).s, vi (l.x true).a, vi (l.x true).e, .sl none ((l.x true).q.map qe) .ro, .bq (S1.length + 2) 0 (l.bag.length - 1) cap, .sl none (ints .u8 (l.sent false)) (.own (r 1 + 1)), .sl none (ints .u8 (l.sent true)) (.own (r 2 + 1)), .sl none (ints .u8 (l.came false)) (.own (r 3 + 1)), .sl none (ints .u8 (l.came true)) (.own (r 4 + 1))] :: (S1 ++ [Ob.box (ntz ⟨d, true, m, v⟩), Ob.box (fw (l.bag.eraseIdx (m.toNat % l.bag.length)) ++ (z6 ++ List.replicate ((cap - l.bag.length) * 6) D.any))])) nrSeB0 ?_; refine AOps.rowBq (j := S1.length + 2) (j' := 0) (i := 12) (n := l.bag.length - 1) (cap := cap) (sz := 6) (ds := fw (l.bag.eraseIdx (m.toNat % l.bag.length)) ++ (z6 ++ List.replicate ((cap - l.bag.length) * 6) D.any)) (xs := (l.bag.eraseIdx (m.toNat % l.bag.length)).map wyz) (b := z6 ++ List.replicate ((cap - l.bag.length) * 6) D.any) (S' := Ob.box [vi (l.x false).b, vi (l.x false).p, vi (l.x false).s, vi (l.x false).a, vi (l.x false).e, .sl none ((l.x false).q.map qe) .ro, vi (l.x true).b, vi (l.x true).p, vi (l.x true).s, vi (l.x true).a, vi (l.x true).e, .sl none ((l.x true).q.map qe) .ro, .sl none ((l.bag.eraseIdx (m.toNat % l.bag.length)).map wyz) (.own ((S1.length + 1) + 1)), .sl none (ints .u8 (l.sent false)) (.own (r 1 + 1)), .sl none (ints .u8 (l.sent true)) (.own (r 2 + 1)), .sl none (ints .u8 (l.came false)) (.own (r 3 + 1)), .sl none (ints .u8 (l.came true)) (.own (r 4 + 1))] :: (S1 ++ [Ob.box (ntz ⟨d, true, m, v⟩), Ob.row (l.bag.length - 1) 6])) rfl rfl nrSeB0 rfl rfl (by rw [List.length_map, List.length_eraseIdx_of_lt hil]) (by simp only [List.length_append, fw_len, List.length_replicate, List.length_eraseIdx_of_lt hil, List.length_cons, List.length_nil]; omega) (by exact map_one (f := wyz) (fun _ => rfl)) (by intro x hx dd hd; obtain ⟨w, _, rfl⟩ := List.mem_map.1 hx; exact wyz_one w dd hd) nrSeB0 ?_
            refine AOps.nil ?_
            refine finK_normal .nil nrSeB0 ?_
            rw [hz] at hK
            first
            | exact hK r2 S2 h2
            | exact hK r _ (Rw.app (Rw.set h1 (k := 0) (by decide) (Prod.ext (List.length_append ..) rfl) (fun j hj hne => by rcases j with _ | _ | _ | _ | _ | j <;> first | rfl | exact absurd rfl hne | omega)))
            | exact hK r _ (Rw.app (Rw.set hr (k := 0) (by decide) (Prod.ext (List.length_append ..) rfl) (fun j hj hne => by rcases j with _ | _ | _ | _ | _ | j <;> first | rfl | exact absurd rfl hne | omega)))
            | (rw [List.take_length] at *; exact hK r _ hs)
            | exact hK (fun k => if k = 0 then S1.length + 1 else r k) _ (Rw.new (i := S1.length + 1) (n := l.bag.length - 1) hr (by omega) (by rw [List.getElem?_append_right (by omega), Nat.add_sub_cancel_left]; rfl) (Prod.ext (List.length_eraseIdx_of_lt hil) rfl) (fun j hj hne => by rcases j with _ | _ | _ | _ | _ | j <;> first | rfl | exact absurd rfl hne | omega))
            | exact hK r _ (Rw.app hr)
          · try simp only [nh] at hc9
            have hb0 : l.bag = [] := List.eq_nil_of_length_eq_zero (by omega)
            have hz : l.does (⟨d, true, m, v⟩ : Nt) = l := by unfold Ln.does; rw [if_neg hd0, if_neg hd1, if_neg hd2, if_neg hd3, hb0]; rcases l with ⟨a1, a2, a3, a4⟩; dsimp only at hb0; subst hb0; rfl
            refine AWP.skip ?_
            refine finK_normal .nil nrSeB0 ?_
            rw [hz] at hK
            first
            | exact hK r2 S2 h2
            | exact hK r _ (Rw.app (Rw.set h1 (k := 0) (by decide) (Prod.ext (List.length_append ..) rfl) (fun j hj hne => by rcases j with _ | _ | _ | _ | _ | j <;> first | rfl | exact absurd rfl hne | omega)))
            | exact hK r _ (Rw.app (Rw.set hr (k := 0) (by decide) (Prod.ext (List.length_append ..) rfl) (fun j hj hne => by rcases j with _ | _ | _ | _ | _ | j <;> first | rfl | exact absurd rfl hne | omega)))
            | (rw [List.take_length] at *; exact hK r _ hs)
            | exact hK (fun k => if k = 0 then S1.length + 1 else r k) _ (Rw.new (i := S1.length + 1) (n := l.bag.length - 1) hr (by omega) (by rw [List.getElem?_append_right (by omega), Nat.add_sub_cancel_left]; rfl) (Prod.ext (List.length_eraseIdx_of_lt hil) rfl) (fun j hj hne => by rcases j with _ | _ | _ | _ | _ | j <;> first | rfl | exact absurd rfl hne | omega))
            | exact hK r _ (Rw.app hr)

end Go.Proofs.Ytanfmpkjcoolmaa.Se
